/- EditSteps, first part: the walks, printed by our generator; each follows its model. Conditions: the model yields a value. -/
import Derived.Test.YtaonhnkojkkmbaaDoorMEs
import Derived.Test.YtaonhnkojkkmbaaDoorProg
import Derived.Test.YtaonhnkojkkmbaaDoorLx15
import Derived.Test.YtaonhnkojkkmbaaDoorSrt
import Derived.Test.YtaonhnkojkkmbaaDoorLx17
import Derived.Test.YtaonhnkojkkmbaaDoorLx18
import Derived.Test.YtaonhnkojkkmbaaDoorLx19
import Derived.Test.YtaonhnkojkkmbaaDoorLx22
namespace Go.Proofs.YtaonhnkojkkmbaaDoor
open Go Go.Vc Go.Md Go.M Go.Lx
set_option maxRecDepth 100000
set_option maxHeartbeats 4000000
set_option linter.unusedVariables false

theorem mixed : Tryd.prog.follows .mixedOrders = true := by kernel_rfl

abbrev e_i64 (x : Int) : List Value := [.int .i64 x]
def fnR_func_int_int_int_bool (m : (Int → Int → Int → Option (Bool))) (w : World) (args : List Value) (post : Value → World → Prop) : Prop :=
  ∃ (a0 : Int) (a1 : Int) (a2 : Int) (r : Bool), args = [.int .i64 a0, .int .i64 a1, .int .i64 a2] ∧ m a0 a1 a2 = some r ∧ post = fun v' w' => v' = (.bool r) ∧ Grow w w'
abbrev e_edit_Step (x : T_edit_Step) : List Value := [.int .i64 x.Kind, .int .i64 x.A, .int .i64 x.B, .int .i64 x.C, .int .i64 x.D]
abbrev e_string (x : (List UInt8)) : List Value := [str x]


theorem run_eqT24 (d : Nat) (w : World) (a0 b0 : Int) (a1 b1 : Int) (a2 b2 : Int) (a3 b3 : Int) (a4 b4 : Int) : (Op.equalIn (d + 2) 24 (.agg #[.int .i64 a0, .int .i64 a1, .int .i64 a2, .int .i64 a3, .int .i64 a4]) (.agg #[.int .i64 b0, .int .i64 b1, .int .i64 b2, .int .i64 b3, .int .i64 b4])).run Tryd.prog w = .ok (decide (a0 = b0 ∧ a1 = b1 ∧ a2 = b2 ∧ a3 = b3 ∧ a4 = b4)) w := by
  rw [run_equalIn_struct w (d + 1) 24 _ _ (by simp only [Program.fieldsOf, Tryd.underlying24]) Tryd.stoodInHeld24]
  simp only [Program.fieldsOf, Tryd.underlying24, Op.eqFields]
  simp [part, run_equalIn_int, run_equalIn_strL, run_equalIn_bool', Tryd.underlying3]
  repeat' split
  all_goals simp_all

theorem run_eq_edit_Step (w : World) (x y : T_edit_Step) : (Op.equalIn Op.maxDepth 24 (.agg #[.int .i64 x.Kind, .int .i64 x.A, .int .i64 x.B, .int .i64 x.C, .int .i64 x.D]) (.agg #[.int .i64 y.Kind, .int .i64 y.A, .int .i64 y.B, .int .i64 y.C, .int .i64 y.D])).run Tryd.prog w = .ok (eq_edit_Step x y) w :=
  run_eqT24 9998 w _ _ _ _ _ _ _ _ _ _

theorem k35 {a0 : Int} {a1 : Int} {a2 : Int} {r : Bool} (H : edit_outside a0 a1 a2 = some r) : Ret Tryd.prog 35 [.int .i64 a0, .int .i64 a1, .int .i64 a2] (.bool r) := by
  refine enterRet (n := 15) Tryd.func35 rfl rfl rfl (fun wd => ?_)
  refine c_seq ?_
  refine c_region ?_
  refine l_val rfl rfl rfl (r_assign (v := .bool false) rfl) ?_
  refine l_nil ?_
  refine c_seq ?_
  refine c_region ?_
  refine l_val rfl rfl rfl (r_move (v := .int .i64 a0) rfl) ?_
  refine l_val rfl rfl rfl (r_move (v := .int .i64 a1) rfl) ?_
  refine l_val rfl rfl rfl (r_lss rfl rfl) ?_
  refine l_val rfl rfl rfl (r_move (v := .bool (decide (a0 < a1))) rfl) ?_
  refine split (fun hb => ?_) (fun hb => ?_)
  · have H3 := cnd_t hb H; clear H
    refine l_passed rfl rfl rfl ?_
    refine l_passed rfl rfl rfl ?_
    refine l_passed rfl rfl rfl ?_
    refine l_val rfl rfl rfl (r_pickT (v := .bool true) rfl rfl) ?_
    refine l_val rfl rfl rfl (r_assign (v := .bool true) rfl) ?_
    refine l_nil ?_
    refine c_ret ?_
    obtain rfl := Option.some.inj H3
    refine ret1 (v := .bool true) rfl rfl (fin rfl)
  · have H4 := cnd_f hb H; clear H
    refine l_val rfl rfl rfl (r_move (v := .int .i64 a0) rfl) ?_
    refine l_val rfl rfl rfl (r_move (v := .int .i64 a2) rfl) ?_
    refine l_val rfl rfl rfl (r_gtr rfl rfl) ?_
    refine l_val rfl rfl rfl (r_pickF (v := .bool (decide (a2 < a0))) rfl rfl) ?_
    refine l_val rfl rfl rfl (r_assign (v := .bool (decide (a2 < a0))) rfl) ?_
    refine l_nil ?_
    refine c_ret ?_
    obtain rfl := Option.some.inj H4
    refine ret1 (v := .bool (decide (a2 < a0))) rfl rfl (fin rfl)
theorem k36 {a0 : Int} {r : (List UInt8) × Int} (H : edit_word a0 = some r) : Ret Tryd.prog 36 [.int .i64 a0] (.tuple #[str r.1, .int .i64 r.2]) := by
  refine enterRet (n := 21) Tryd.func36 rfl rfl rfl (fun wd => ?_)
  refine c_seq ?_
  refine c_region ?_
  refine l_val rfl rfl rfl (r_assign (v := str []) rfl) ?_
  refine l_val rfl rfl rfl (r_assign (v := .int .i64 0) rfl) ?_
  refine l_nil ?_
  refine c_seq ?_
  refine c_seq ?_
  refine c_region ?_
  refine l_val rfl rfl rfl (r_move (v := .int .i64 a0) rfl) ?_
  refine l_nil ?_
  refine c_block ?_
  refine c_seq ?_
  refine c_region ?_
  refine l_val rfl rfl rfl (r_eql rfl rfl) ?_
  refine l_val rfl rfl rfl (r_assign (v := .bool (decide (a0 = 1))) rfl) ?_
  refine l_nil ?_
  refine c_if (b := (decide (a0 = 1))) rfl (fun hb => ?_) (fun hb => ?_)
  · have H17 := cnd_t hb H; clear H
    refine c_seq ?_
    refine c_region ?_
    refine l_val rfl rfl rfl (r_assign (v := str [116, 117, 114, 110]) rfl) ?_
    refine l_val rfl rfl rfl (r_assign (v := .int .i64 1) rfl) ?_
    refine l_nil ?_
    refine c_ret ?_
    obtain rfl := Option.some.inj H17
    refine ret2 (v1 := str [116, 117, 114, 110]) (v2 := .int .i64 1) rfl rfl rfl (fin rfl)
  · have H18 := cnd_f hb H; clear H
    refine c_seq ?_
    refine c_region ?_
    refine l_val rfl rfl rfl (r_eql rfl rfl) ?_
    refine l_val rfl rfl rfl (r_assign (v := .bool (decide (a0 = 2))) rfl) ?_
    refine l_nil ?_
    refine c_if (b := (decide (a0 = 2))) rfl (fun hb => ?_) (fun hb => ?_)
    · have H19 := cnd_t hb H18; clear H18
      refine c_seq ?_
      refine c_region ?_
      refine l_val rfl rfl rfl (r_assign (v := str [99, 114, 111, 112]) rfl) ?_
      refine l_val rfl rfl rfl (r_assign (v := .int .i64 4) rfl) ?_
      refine l_nil ?_
      refine c_ret ?_
      obtain rfl := Option.some.inj H19
      refine ret2 (v1 := str [99, 114, 111, 112]) (v2 := .int .i64 4) rfl rfl rfl (fin rfl)
    · have H20 := cnd_f hb H18; clear H18
      refine c_seq ?_
      refine c_region ?_
      refine l_val rfl rfl rfl (r_eql rfl rfl) ?_
      refine l_val rfl rfl rfl (r_assign (v := .bool (decide (a0 = 3))) rfl) ?_
      refine l_nil ?_
      refine c_if (b := (decide (a0 = 3))) rfl (fun hb => ?_) (fun hb => ?_)
      · have H21 := cnd_t hb H20; clear H20
        refine c_seq ?_
        refine c_region ?_
        refine l_val rfl rfl rfl (r_assign (v := str [115, 99, 97, 108, 101]) rfl) ?_
        refine l_val rfl rfl rfl (r_assign (v := .int .i64 2) rfl) ?_
        refine l_nil ?_
        refine c_ret ?_
        obtain rfl := Option.some.inj H21
        refine ret2 (v1 := str [115, 99, 97, 108, 101]) (v2 := .int .i64 2) rfl rfl rfl (fin rfl)
      · have H22 := cnd_f hb H20; clear H20
        refine c_seq ?_
        refine c_region ?_
        refine l_val rfl rfl rfl (r_eql rfl rfl) ?_
        refine l_val rfl rfl rfl (r_assign (v := .bool (decide (a0 = 4))) rfl) ?_
        refine l_nil ?_
        refine c_if (b := (decide (a0 = 4))) rfl (fun hb => ?_) (fun hb => ?_)
        · have H23 := cnd_t hb H22; clear H22
          refine c_seq ?_
          refine c_region ?_
          refine l_val rfl rfl rfl (r_assign (v := str [108, 105, 103, 104, 116]) rfl) ?_
          refine l_val rfl rfl rfl (r_assign (v := .int .i64 1) rfl) ?_
          refine l_nil ?_
          refine c_ret ?_
          obtain rfl := Option.some.inj H23
          refine ret2 (v1 := str [108, 105, 103, 104, 116]) (v2 := .int .i64 1) rfl rfl rfl (fin rfl)
        · have H24 := cnd_f hb H22; clear H22
          refine c_seq ?_
          refine c_region ?_
          refine l_val rfl rfl rfl (r_eql rfl rfl) ?_
          refine l_val rfl rfl rfl (r_assign (v := .bool (decide (a0 = 5))) rfl) ?_
          refine l_nil ?_
          refine c_if (b := (decide (a0 = 5))) rfl (fun hb => ?_) (fun hb => ?_)
          · have H25 := cnd_t hb H24; clear H24
            refine c_seq ?_
            refine c_region ?_
            refine l_val rfl rfl rfl (r_assign (v := str [115, 112, 114, 101, 97, 100]) rfl) ?_
            refine l_val rfl rfl rfl (r_assign (v := .int .i64 1) rfl) ?_
            refine l_nil ?_
            refine c_ret ?_
            obtain rfl := Option.some.inj H25
            refine ret2 (v1 := str [115, 112, 114, 101, 97, 100]) (v2 := .int .i64 1) rfl rfl rfl (fin rfl)
          · have H26 := cnd_f hb H24; clear H24
            refine c_seq ?_
            refine c_region ?_
            refine l_val rfl rfl rfl (r_eql rfl rfl) ?_
            refine l_val rfl rfl rfl (r_assign (v := .bool (decide (a0 = 6))) rfl) ?_
            refine l_nil ?_
            refine c_if (b := (decide (a0 = 6))) rfl (fun hb => ?_) (fun hb => ?_)
            · have H27 := cnd_t hb H26; clear H26
              refine c_seq ?_
              refine c_region ?_
              refine l_val rfl rfl rfl (r_assign (v := str [108, 101, 118, 101, 108, 115]) rfl) ?_
              refine l_val rfl rfl rfl (r_assign (v := .int .i64 2) rfl) ?_
              refine l_nil ?_
              refine c_ret ?_
              obtain rfl := Option.some.inj H27
              refine ret2 (v1 := str [108, 101, 118, 101, 108, 115]) (v2 := .int .i64 2) rfl rfl rfl (fin rfl)
            · have H28 := cnd_f hb H26; clear H26
              refine c_seq ?_
              refine c_region ?_
              refine l_val rfl rfl rfl (r_eql rfl rfl) ?_
              refine l_val rfl rfl rfl (r_assign (v := .bool (decide (a0 = 7))) rfl) ?_
              refine l_nil ?_
              refine c_if (b := (decide (a0 = 7))) rfl (fun hb => ?_) (fun hb => ?_)
              · have H29 := cnd_t hb H28; clear H28
                refine c_seq ?_
                refine c_region ?_
                refine l_val rfl rfl rfl (r_assign (v := str [119, 97, 114, 109]) rfl) ?_
                refine l_val rfl rfl rfl (r_assign (v := .int .i64 1) rfl) ?_
                refine l_nil ?_
                refine c_ret ?_
                obtain rfl := Option.some.inj H29
                refine ret2 (v1 := str [119, 97, 114, 109]) (v2 := .int .i64 1) rfl rfl rfl (fin rfl)
              · have H30 := cnd_f hb H28; clear H28
                refine c_seq ?_
                refine c_region ?_
                refine l_val rfl rfl rfl (r_eql rfl rfl) ?_
                refine l_val rfl rfl rfl (r_assign (v := .bool (decide (a0 = 8))) rfl) ?_
                refine l_nil ?_
                refine c_if (b := (decide (a0 = 8))) rfl (fun hb => ?_) (fun hb => ?_)
                · have H31 := cnd_t hb H30; clear H30
                  refine c_seq ?_
                  refine c_region ?_
                  refine l_val rfl rfl rfl (r_assign (v := str [109, 117, 116, 101]) rfl) ?_
                  refine l_val rfl rfl rfl (r_assign (v := .int .i64 1) rfl) ?_
                  refine l_nil ?_
                  refine c_ret ?_
                  obtain rfl := Option.some.inj H31
                  refine ret2 (v1 := str [109, 117, 116, 101]) (v2 := .int .i64 1) rfl rfl rfl (fin rfl)
                · have H32 := cnd_f hb H30; clear H30
                  refine c_skip ?_
                  refine c_seq ?_
                  refine c_region ?_
                  refine l_val rfl rfl rfl (r_assign (v := str [105, 110, 118, 101, 114, 116]) rfl) ?_
                  refine l_val rfl rfl rfl (r_assign (v := .int .i64 0) rfl) ?_
                  refine l_nil ?_
                  refine c_ret ?_
                  obtain rfl := Option.some.inj H32
                  refine ret2 (v1 := str [105, 110, 118, 101, 114, 116]) (v2 := .int .i64 0) rfl rfl rfl (fin rfl)
theorem k37 {a0 : T_edit_Step} {r : (List Int)} {w : World} {h : Heap} (hw : Know h w noS) (H : edit_Step_numbers a0 = some r) : Does Tryd.prog 37 (List.toArray [.agg #[.int .i64 a0.Kind, .int .i64 a0.A, .int .i64 a0.B, .int .i64 a0.C, .int .i64 a0.D]]) w (fun v w' => ∃ x : (Option Addr × Nat), v = (.slice x.1 r.length x.2) ∧ Turn w w' noS (rowV 3 1 (.slice x.1 r.length x.2) r.length (r.map e_i64))) := by
  refine enter (n := 12) Tryd.func37 rfl rfl rfl noS [] (Sat.nil _ _) ?_
  refine c_seq ?_
  refine c_region ?_
  refine l_box (cs := [.int .i64 a0.Kind, .int .i64 a0.A, .int .i64 a0.B, .int .i64 a0.C, .int .i64 a0.D]) rfl rfl rfl rfl (fun b2 => ?_)
  refine l_val rfl rfl rfl (r_assign (v := .slice none 0 0) rfl) ?_
  refine l_nil ?_
  refine c_seq ?_
  refine c_region ?_
  refine l_val rfl rfl rfl (r_field Tryd.runUnderlying24 rfl Tryd.sizeOf3 rfl rfl) ?_
  refine l_load1 (i := 0) (v := .int .i64 a0.A) Tryd.isAgg3 rfl rfl rfl rfl rfl ?_
  refine l_val rfl rfl rfl (r_field Tryd.runUnderlying24 rfl Tryd.sizeOf3 rfl rfl) ?_
  refine l_load1 (i := 0) (v := .int .i64 a0.B) Tryd.isAgg3 rfl rfl rfl rfl rfl ?_
  refine l_val rfl rfl rfl (r_field Tryd.runUnderlying24 rfl Tryd.sizeOf3 rfl rfl) ?_
  refine l_load1 (i := 0) (v := .int .i64 a0.C) Tryd.isAgg3 rfl rfl rfl rfl rfl ?_
  refine l_val rfl rfl rfl (r_field Tryd.runUnderlying24 rfl Tryd.sizeOf3 rfl rfl) ?_
  refine l_load1 (i := 0) (v := .int .i64 a0.D) Tryd.isAgg3 rfl rfl rfl rfl rfl ?_
  refine l_buildSlice (vs := [.int .i64 a0.A, .int .i64 a0.B, .int .i64 a0.C, .int .i64 a0.D]) (cs := [.int .i64 a0.A, .int .i64 a0.B, .int .i64 a0.C, .int .i64 a0.D]) Tryd.underlying69 Tryd.sizeOf3 Tryd.zeroValue3 rfl rfl rfl rfl rfl rfl rfl (fun b3 => ?_)
  refine l_val rfl rfl rfl (r_assign (v := .slice (some ⟨b3, 0, none⟩) 4 4) rfl) ?_
  refine l_nil ?_
  refine c_ret ?_
  refine c_imp 1 rfl (imp_box (m := 4) (E := 3) (sz := 1) (xs := (([a0.A, a0.B, a0.C, a0.D] : List Int)).map e_i64) rfl rfl rfl ⟨rfl, by decide⟩) ?_
  obtain rfl := Option.some.inj H
  refine ret1 (v := .slice ((some ⟨b3, 0, none⟩, 4) : Option Addr × Nat).1 4 ((some ⟨b3, 0, none⟩, 4) : Option Addr × Nat).2) rfl rfl (finX ((some ⟨b3, 0, none⟩, 4) : Option Addr × Nat) (i := 1) rfl rfl (Imp.refl _))
theorem k38 {a0 : Int} {r : (Nat → (Nat → Int))} (H : edit_bounds a0 = some r) : Ret Tryd.prog 38 [.int .i64 a0] (.agg #[.int .i64 ((r 0) 0), .int .i64 ((r 0) 1), .int .i64 ((r 1) 0), .int .i64 ((r 1) 1), .int .i64 ((r 2) 0), .int .i64 ((r 2) 1), .int .i64 ((r 3) 0), .int .i64 ((r 3) 1)]) := by
  refine enterRet (n := 42) Tryd.func38 rfl rfl rfl (fun wd => ?_)
  refine c_seq ?_
  refine c_region ?_
  refine l_alloc (cs := [.int .i64 0, .int .i64 0, .int .i64 0, .int .i64 0, .int .i64 0, .int .i64 0, .int .i64 0, .int .i64 0]) Tryd.zeroValue72 rfl rfl rfl (fun b1 => ?_)
  refine l_nil ?_
  refine c_seq ?_
  refine c_seq ?_
  refine c_region ?_
  refine l_val rfl rfl rfl (r_move (v := .int .i64 a0) rfl) ?_
  refine l_nil ?_
  refine c_block ?_
  refine c_seq ?_
  refine c_region ?_
  refine l_val rfl rfl rfl (r_eql rfl rfl) ?_
  refine l_val rfl rfl rfl (r_assign (v := .bool (decide (a0 = 1))) rfl) ?_
  refine l_nil ?_
  refine c_if (b := (decide (a0 = 1))) rfl (fun hb => ?_) (fun hb => ?_)
  · have H17 := cnd_t hb H; clear H
    refine c_seq ?_
    refine c_region ?_
    refine l_val rfl rfl rfl (r_buildA (ps := [(0, .int .i64 1), (1, .int .i64 8)]) (cells := #[.int .i64 1, .int .i64 8]) Tryd.zeroValue71 Tryd.runUnderlying71 Tryd.sizeOf3 rfl rfl) ?_
    refine l_val rfl rfl rfl (r_buildA (ps := [(0, .agg #[.int .i64 1, .int .i64 8])]) (cells := #[.int .i64 1, .int .i64 8, .int .i64 0, .int .i64 0, .int .i64 0, .int .i64 0, .int .i64 0, .int .i64 0]) Tryd.zeroValue72 Tryd.runUnderlying72 Tryd.sizeOf71 rfl rfl) ?_
    refine l_store (i := 0) (vs := [.int .i64 1, .int .i64 8, .int .i64 0, .int .i64 0, .int .i64 0, .int .i64 0, .int .i64 0, .int .i64 0]) (cs' := [.int .i64 1, .int .i64 8, .int .i64 0, .int .i64 0, .int .i64 0, .int .i64 0, .int .i64 0, .int .i64 0]) Tryd.sizeOf72 rfl rfl rfl rfl rfl rfl rfl rfl rfl ?_
    refine l_nil ?_
    refine c_ret ?_
    obtain rfl := Option.some.inj H17
    refine retC (i := 0) (vs := [.int .i64 1, .int .i64 8, .int .i64 0, .int .i64 0, .int .i64 0, .int .i64 0, .int .i64 0, .int .i64 0]) Tryd.isAgg72 Tryd.sizeOf72 rfl rfl rfl rfl (fin rfl)
  · have H18 := cnd_f hb H; clear H
    refine c_seq ?_
    refine c_region ?_
    refine l_val rfl rfl rfl (r_eql rfl rfl) ?_
    refine l_val rfl rfl rfl (r_assign (v := .bool (decide (a0 = 2))) rfl) ?_
    refine l_nil ?_
    refine c_if (b := (decide (a0 = 2))) rfl (fun hb => ?_) (fun hb => ?_)
    · have H19 := cnd_t hb H18; clear H18
      refine c_seq ?_
      refine c_region ?_
      refine l_val rfl rfl rfl (r_buildA (ps := [(0, .int .i64 0), (1, .int .i64 63)]) (cells := #[.int .i64 0, .int .i64 63]) Tryd.zeroValue71 Tryd.runUnderlying71 Tryd.sizeOf3 rfl rfl) ?_
      refine l_val rfl rfl rfl (r_buildA (ps := [(0, .int .i64 0), (1, .int .i64 63)]) (cells := #[.int .i64 0, .int .i64 63]) Tryd.zeroValue71 Tryd.runUnderlying71 Tryd.sizeOf3 rfl rfl) ?_
      refine l_val rfl rfl rfl (r_buildA (ps := [(0, .int .i64 1), (1, .int .i64 64)]) (cells := #[.int .i64 1, .int .i64 64]) Tryd.zeroValue71 Tryd.runUnderlying71 Tryd.sizeOf3 rfl rfl) ?_
      refine l_val rfl rfl rfl (r_buildA (ps := [(0, .int .i64 1), (1, .int .i64 64)]) (cells := #[.int .i64 1, .int .i64 64]) Tryd.zeroValue71 Tryd.runUnderlying71 Tryd.sizeOf3 rfl rfl) ?_
      refine l_val rfl rfl rfl (r_buildA (ps := [(0, .agg #[.int .i64 0, .int .i64 63]), (1, .agg #[.int .i64 0, .int .i64 63]), (2, .agg #[.int .i64 1, .int .i64 64]), (3, .agg #[.int .i64 1, .int .i64 64])]) (cells := #[.int .i64 0, .int .i64 63, .int .i64 0, .int .i64 63, .int .i64 1, .int .i64 64, .int .i64 1, .int .i64 64]) Tryd.zeroValue72 Tryd.runUnderlying72 Tryd.sizeOf71 rfl rfl) ?_
      refine l_store (i := 0) (vs := [.int .i64 0, .int .i64 63, .int .i64 0, .int .i64 63, .int .i64 1, .int .i64 64, .int .i64 1, .int .i64 64]) (cs' := [.int .i64 0, .int .i64 63, .int .i64 0, .int .i64 63, .int .i64 1, .int .i64 64, .int .i64 1, .int .i64 64]) Tryd.sizeOf72 rfl rfl rfl rfl rfl rfl rfl rfl rfl ?_
      refine l_nil ?_
      refine c_ret ?_
      obtain rfl := Option.some.inj H19
      refine retC (i := 0) (vs := [.int .i64 0, .int .i64 63, .int .i64 0, .int .i64 63, .int .i64 1, .int .i64 64, .int .i64 1, .int .i64 64]) Tryd.isAgg72 Tryd.sizeOf72 rfl rfl rfl rfl (fin rfl)
    · have H20 := cnd_f hb H18; clear H18
      refine c_seq ?_
      refine c_region ?_
      refine l_val rfl rfl rfl (r_eql rfl rfl) ?_
      refine l_val rfl rfl rfl (r_assign (v := .bool (decide (a0 = 3))) rfl) ?_
      refine l_nil ?_
      refine c_if (b := (decide (a0 = 3))) rfl (fun hb => ?_) (fun hb => ?_)
      · have H21 := cnd_t hb H20; clear H20
        refine c_seq ?_
        refine c_region ?_
        refine l_val rfl rfl rfl (r_buildA (ps := [(0, .int .i64 1), (1, .int .i64 64)]) (cells := #[.int .i64 1, .int .i64 64]) Tryd.zeroValue71 Tryd.runUnderlying71 Tryd.sizeOf3 rfl rfl) ?_
        refine l_val rfl rfl rfl (r_buildA (ps := [(0, .int .i64 1), (1, .int .i64 64)]) (cells := #[.int .i64 1, .int .i64 64]) Tryd.zeroValue71 Tryd.runUnderlying71 Tryd.sizeOf3 rfl rfl) ?_
        refine l_val rfl rfl rfl (r_buildA (ps := [(0, .agg #[.int .i64 1, .int .i64 64]), (1, .agg #[.int .i64 1, .int .i64 64])]) (cells := #[.int .i64 1, .int .i64 64, .int .i64 1, .int .i64 64, .int .i64 0, .int .i64 0, .int .i64 0, .int .i64 0]) Tryd.zeroValue72 Tryd.runUnderlying72 Tryd.sizeOf71 rfl rfl) ?_
        refine l_store (i := 0) (vs := [.int .i64 1, .int .i64 64, .int .i64 1, .int .i64 64, .int .i64 0, .int .i64 0, .int .i64 0, .int .i64 0]) (cs' := [.int .i64 1, .int .i64 64, .int .i64 1, .int .i64 64, .int .i64 0, .int .i64 0, .int .i64 0, .int .i64 0]) Tryd.sizeOf72 rfl rfl rfl rfl rfl rfl rfl rfl rfl ?_
        refine l_nil ?_
        refine c_ret ?_
        obtain rfl := Option.some.inj H21
        refine retC (i := 0) (vs := [.int .i64 1, .int .i64 64, .int .i64 1, .int .i64 64, .int .i64 0, .int .i64 0, .int .i64 0, .int .i64 0]) Tryd.isAgg72 Tryd.sizeOf72 rfl rfl rfl rfl (fin rfl)
      · have H22 := cnd_f hb H20; clear H20
        refine c_seq ?_
        refine c_region ?_
        refine l_val rfl rfl rfl (r_eql rfl rfl) ?_
        refine l_val rfl rfl rfl (r_assign (v := .bool (decide (a0 = 4))) rfl) ?_
        refine l_nil ?_
        refine c_if (b := (decide (a0 = 4))) rfl (fun hb => ?_) (fun hb => ?_)
        · have H23 := cnd_t hb H22; clear H22
          refine c_seq ?_
          refine c_region ?_
          refine l_val rfl rfl rfl (r_buildA (ps := [(0, .int .i64 (-255)), (1, .int .i64 255)]) (cells := #[.int .i64 (-255), .int .i64 255]) Tryd.zeroValue71 Tryd.runUnderlying71 Tryd.sizeOf3 rfl rfl) ?_
          refine l_val rfl rfl rfl (r_buildA (ps := [(0, .agg #[.int .i64 (-255), .int .i64 255])]) (cells := #[.int .i64 (-255), .int .i64 255, .int .i64 0, .int .i64 0, .int .i64 0, .int .i64 0, .int .i64 0, .int .i64 0]) Tryd.zeroValue72 Tryd.runUnderlying72 Tryd.sizeOf71 rfl rfl) ?_
          refine l_store (i := 0) (vs := [.int .i64 (-255), .int .i64 255, .int .i64 0, .int .i64 0, .int .i64 0, .int .i64 0, .int .i64 0, .int .i64 0]) (cs' := [.int .i64 (-255), .int .i64 255, .int .i64 0, .int .i64 0, .int .i64 0, .int .i64 0, .int .i64 0, .int .i64 0]) Tryd.sizeOf72 rfl rfl rfl rfl rfl rfl rfl rfl rfl ?_
          refine l_nil ?_
          refine c_ret ?_
          obtain rfl := Option.some.inj H23
          refine retC (i := 0) (vs := [.int .i64 (-255), .int .i64 255, .int .i64 0, .int .i64 0, .int .i64 0, .int .i64 0, .int .i64 0, .int .i64 0]) Tryd.isAgg72 Tryd.sizeOf72 rfl rfl rfl rfl (fin rfl)
        · have H24 := cnd_f hb H22; clear H22
          refine c_seq ?_
          refine c_region ?_
          refine l_val rfl rfl rfl (r_eql rfl rfl) ?_
          refine l_val rfl rfl rfl (r_assign (v := .bool (decide (a0 = 5))) rfl) ?_
          refine l_nil ?_
          refine c_if (b := (decide (a0 = 5))) rfl (fun hb => ?_) (fun hb => ?_)
          · have H25 := cnd_t hb H24; clear H24
            refine c_seq ?_
            refine c_region ?_
            refine l_val rfl rfl rfl (r_buildA (ps := [(0, .int .i64 0), (1, .int .i64 400)]) (cells := #[.int .i64 0, .int .i64 400]) Tryd.zeroValue71 Tryd.runUnderlying71 Tryd.sizeOf3 rfl rfl) ?_
            refine l_val rfl rfl rfl (r_buildA (ps := [(0, .agg #[.int .i64 0, .int .i64 400])]) (cells := #[.int .i64 0, .int .i64 400, .int .i64 0, .int .i64 0, .int .i64 0, .int .i64 0, .int .i64 0, .int .i64 0]) Tryd.zeroValue72 Tryd.runUnderlying72 Tryd.sizeOf71 rfl rfl) ?_
            refine l_store (i := 0) (vs := [.int .i64 0, .int .i64 400, .int .i64 0, .int .i64 0, .int .i64 0, .int .i64 0, .int .i64 0, .int .i64 0]) (cs' := [.int .i64 0, .int .i64 400, .int .i64 0, .int .i64 0, .int .i64 0, .int .i64 0, .int .i64 0, .int .i64 0]) Tryd.sizeOf72 rfl rfl rfl rfl rfl rfl rfl rfl rfl ?_
            refine l_nil ?_
            refine c_ret ?_
            obtain rfl := Option.some.inj H25
            refine retC (i := 0) (vs := [.int .i64 0, .int .i64 400, .int .i64 0, .int .i64 0, .int .i64 0, .int .i64 0, .int .i64 0, .int .i64 0]) Tryd.isAgg72 Tryd.sizeOf72 rfl rfl rfl rfl (fin rfl)
          · have H26 := cnd_f hb H24; clear H24
            refine c_seq ?_
            refine c_region ?_
            refine l_val rfl rfl rfl (r_eql rfl rfl) ?_
            refine l_val rfl rfl rfl (r_assign (v := .bool (decide (a0 = 6))) rfl) ?_
            refine l_nil ?_
            refine c_if (b := (decide (a0 = 6))) rfl (fun hb => ?_) (fun hb => ?_)
            · have H27 := cnd_t hb H26; clear H26
              refine c_seq ?_
              refine c_region ?_
              refine l_val rfl rfl rfl (r_buildA (ps := [(0, .int .i64 0), (1, .int .i64 255)]) (cells := #[.int .i64 0, .int .i64 255]) Tryd.zeroValue71 Tryd.runUnderlying71 Tryd.sizeOf3 rfl rfl) ?_
              refine l_val rfl rfl rfl (r_buildA (ps := [(0, .int .i64 0), (1, .int .i64 255)]) (cells := #[.int .i64 0, .int .i64 255]) Tryd.zeroValue71 Tryd.runUnderlying71 Tryd.sizeOf3 rfl rfl) ?_
              refine l_val rfl rfl rfl (r_buildA (ps := [(0, .agg #[.int .i64 0, .int .i64 255]), (1, .agg #[.int .i64 0, .int .i64 255])]) (cells := #[.int .i64 0, .int .i64 255, .int .i64 0, .int .i64 255, .int .i64 0, .int .i64 0, .int .i64 0, .int .i64 0]) Tryd.zeroValue72 Tryd.runUnderlying72 Tryd.sizeOf71 rfl rfl) ?_
              refine l_store (i := 0) (vs := [.int .i64 0, .int .i64 255, .int .i64 0, .int .i64 255, .int .i64 0, .int .i64 0, .int .i64 0, .int .i64 0]) (cs' := [.int .i64 0, .int .i64 255, .int .i64 0, .int .i64 255, .int .i64 0, .int .i64 0, .int .i64 0, .int .i64 0]) Tryd.sizeOf72 rfl rfl rfl rfl rfl rfl rfl rfl rfl ?_
              refine l_nil ?_
              refine c_ret ?_
              obtain rfl := Option.some.inj H27
              refine retC (i := 0) (vs := [.int .i64 0, .int .i64 255, .int .i64 0, .int .i64 255, .int .i64 0, .int .i64 0, .int .i64 0, .int .i64 0]) Tryd.isAgg72 Tryd.sizeOf72 rfl rfl rfl rfl (fin rfl)
            · have H28 := cnd_f hb H26; clear H26
              refine c_seq ?_
              refine c_region ?_
              refine l_val rfl rfl rfl (r_eql rfl rfl) ?_
              refine l_val rfl rfl rfl (r_assign (v := .bool (decide (a0 = 7))) rfl) ?_
              refine l_nil ?_
              refine c_if (b := (decide (a0 = 7))) rfl (fun hb => ?_) (fun hb => ?_)
              · have H29 := cnd_t hb H28; clear H28
                refine c_seq ?_
                refine c_region ?_
                refine l_val rfl rfl rfl (r_buildA (ps := [(0, .int .i64 (-100)), (1, .int .i64 100)]) (cells := #[.int .i64 (-100), .int .i64 100]) Tryd.zeroValue71 Tryd.runUnderlying71 Tryd.sizeOf3 rfl rfl) ?_
                refine l_val rfl rfl rfl (r_buildA (ps := [(0, .agg #[.int .i64 (-100), .int .i64 100])]) (cells := #[.int .i64 (-100), .int .i64 100, .int .i64 0, .int .i64 0, .int .i64 0, .int .i64 0, .int .i64 0, .int .i64 0]) Tryd.zeroValue72 Tryd.runUnderlying72 Tryd.sizeOf71 rfl rfl) ?_
                refine l_store (i := 0) (vs := [.int .i64 (-100), .int .i64 100, .int .i64 0, .int .i64 0, .int .i64 0, .int .i64 0, .int .i64 0, .int .i64 0]) (cs' := [.int .i64 (-100), .int .i64 100, .int .i64 0, .int .i64 0, .int .i64 0, .int .i64 0, .int .i64 0, .int .i64 0]) Tryd.sizeOf72 rfl rfl rfl rfl rfl rfl rfl rfl rfl ?_
                refine l_nil ?_
                refine c_ret ?_
                obtain rfl := Option.some.inj H29
                refine retC (i := 0) (vs := [.int .i64 (-100), .int .i64 100, .int .i64 0, .int .i64 0, .int .i64 0, .int .i64 0, .int .i64 0, .int .i64 0]) Tryd.isAgg72 Tryd.sizeOf72 rfl rfl rfl rfl (fin rfl)
              · have H30 := cnd_f hb H28; clear H28
                refine c_seq ?_
                refine c_region ?_
                refine l_val rfl rfl rfl (r_eql rfl rfl) ?_
                refine l_val rfl rfl rfl (r_assign (v := .bool (decide (a0 = 8))) rfl) ?_
                refine l_nil ?_
                refine c_if (b := (decide (a0 = 8))) rfl (fun hb => ?_) (fun hb => ?_)
                · have H31 := cnd_t hb H30; clear H30
                  refine c_seq ?_
                  refine c_region ?_
                  refine l_val rfl rfl rfl (r_buildA (ps := [(0, .int .i64 0), (1, .int .i64 100)]) (cells := #[.int .i64 0, .int .i64 100]) Tryd.zeroValue71 Tryd.runUnderlying71 Tryd.sizeOf3 rfl rfl) ?_
                  refine l_val rfl rfl rfl (r_buildA (ps := [(0, .agg #[.int .i64 0, .int .i64 100])]) (cells := #[.int .i64 0, .int .i64 100, .int .i64 0, .int .i64 0, .int .i64 0, .int .i64 0, .int .i64 0, .int .i64 0]) Tryd.zeroValue72 Tryd.runUnderlying72 Tryd.sizeOf71 rfl rfl) ?_
                  refine l_store (i := 0) (vs := [.int .i64 0, .int .i64 100, .int .i64 0, .int .i64 0, .int .i64 0, .int .i64 0, .int .i64 0, .int .i64 0]) (cs' := [.int .i64 0, .int .i64 100, .int .i64 0, .int .i64 0, .int .i64 0, .int .i64 0, .int .i64 0, .int .i64 0]) Tryd.sizeOf72 rfl rfl rfl rfl rfl rfl rfl rfl rfl ?_
                  refine l_nil ?_
                  refine c_ret ?_
                  obtain rfl := Option.some.inj H31
                  refine retC (i := 0) (vs := [.int .i64 0, .int .i64 100, .int .i64 0, .int .i64 0, .int .i64 0, .int .i64 0, .int .i64 0, .int .i64 0]) Tryd.isAgg72 Tryd.sizeOf72 rfl rfl rfl rfl (fin rfl)
                · have H32 := cnd_f hb H30; clear H30
                  refine c_skip ?_
                  refine c_seq ?_
                  refine c_region ?_
                  refine l_val rfl rfl rfl (r_buildA (ps := []) (cells := #[.int .i64 0, .int .i64 0, .int .i64 0, .int .i64 0, .int .i64 0, .int .i64 0, .int .i64 0, .int .i64 0]) Tryd.zeroValue72 Tryd.runUnderlying72 Tryd.sizeOf71 rfl rfl) ?_
                  refine l_store (i := 0) (vs := [.int .i64 0, .int .i64 0, .int .i64 0, .int .i64 0, .int .i64 0, .int .i64 0, .int .i64 0, .int .i64 0]) (cs' := [.int .i64 0, .int .i64 0, .int .i64 0, .int .i64 0, .int .i64 0, .int .i64 0, .int .i64 0, .int .i64 0]) Tryd.sizeOf72 rfl rfl rfl rfl rfl rfl rfl rfl rfl ?_
                  refine l_nil ?_
                  refine c_ret ?_
                  obtain rfl := Option.some.inj H32
                  refine retC (i := 0) (vs := [.int .i64 0, .int .i64 0, .int .i64 0, .int .i64 0, .int .i64 0, .int .i64 0, .int .i64 0, .int .i64 0]) Tryd.isAgg72 Tryd.sizeOf72 rfl rfl rfl rfl (fin rfl)
theorem k6 {a0 : T_edit_Step} {r : Int} (H : edit_CheckStep a0 = some r) : Ret Tryd.prog 6 [.agg #[.int .i64 a0.Kind, .int .i64 a0.A, .int .i64 a0.B, .int .i64 a0.C, .int .i64 a0.D]] (.int .i64 r) := by
  refine enterRet (n := 66) Tryd.func6 rfl rfl rfl (fun wd => ?_)
  refine c_seq ?_
  refine c_region ?_
  refine l_box (cs := [.int .i64 a0.Kind, .int .i64 a0.A, .int .i64 a0.B, .int .i64 a0.C, .int .i64 a0.D]) rfl rfl rfl rfl (fun b2 => ?_)
  refine l_val rfl rfl rfl (r_assign (v := .int .i64 0) rfl) ?_
  refine l_nil ?_
  refine c_seq ?_
  refine c_seq ?_
  refine c_region ?_
  refine l_val rfl rfl rfl (r_field Tryd.runUnderlying24 rfl Tryd.sizeOf3 rfl rfl) ?_
  refine l_load1 (i := 0) (v := .int .i64 a0.Kind) Tryd.isAgg3 rfl rfl rfl rfl rfl ?_
  obtain ⟨t13, h_t13, H32⟩ := bnd_some H; clear H
  refine l_call (k35 h_t13) Tryd.call35 rfl rfl rfl ?_
  refine l_nil ?_
  refine c_if (b := t13) rfl (fun hb => ?_) (fun hb => ?_)
  · have H33 := cnd_t hb H32; clear H32
    refine c_seq ?_
    refine c_region ?_
    refine l_val rfl rfl rfl (r_assign (v := .int .i64 10) rfl) ?_
    refine l_nil ?_
    refine c_ret ?_
    obtain rfl := Option.some.inj H33
    refine ret1 (v := .int .i64 10) rfl rfl (fin rfl)
  · have H34 := cnd_f hb H32; clear H32
    refine c_skip ?_
    refine c_seq ?_
    refine c_region ?_
    refine l_val rfl rfl rfl (r_field Tryd.runUnderlying24 rfl Tryd.sizeOf3 rfl rfl) ?_
    refine l_load1 (i := 0) (v := .int .i64 a0.Kind) Tryd.isAgg3 rfl rfl rfl rfl rfl ?_
    obtain ⟨t17, h_t17, H35⟩ := bnd_some H34; clear H34
    refine l_call (k36 h_t17) Tryd.call36 rfl rfl rfl ?_
    refine l_val rfl rfl rfl (r_move (v := .tuple #[str t17.1, .int .i64 t17.2]) rfl) ?_
    refine l_val rfl rfl rfl (r_extract (v := str t17.1) rfl rfl) ?_
    refine l_val rfl rfl rfl (r_extract (v := .int .i64 t17.2) rfl rfl) ?_
    refine l_val rfl rfl rfl (r_assign (v := str t17.1) rfl) ?_
    refine l_val rfl rfl rfl (r_assign (v := .int .i64 t17.2) rfl) ?_
    refine l_nil ?_
    refine c_seq ?_
    refine c_region ?_
    refine l_loadN (i := 0) (vs := [.int .i64 a0.Kind, .int .i64 a0.A, .int .i64 a0.B, .int .i64 a0.C, .int .i64 a0.D]) Tryd.isAgg24 Tryd.sizeOf24 rfl rfl rfl rfl rfl ?_
    obtain ⟨t21, h_t21, H36⟩ := bnd_some H35; clear H35
    refine l_make (makes_call (rds := []) (G := fun x : (Option Addr × Nat) => .slice x.1 t21.length x.2) (C := fun x : (Option Addr × Nat) => rowV 3 1 (.slice x.1 t21.length x.2) t21.length (t21.map e_i64)) (fun w L' hF hS hi => k37 (know_all w)  h_t21) Tryd.call37 rfl) rfl rfl rfl (fun p => ?_)
    refine l_val rfl rfl rfl (r_assign (v := .slice p.1 t21.length p.2) rfl) ?_
    refine l_nil ?_
    refine c_meet (r := r) (σ := Unit) (τ := Unit) (fun s => edit_CheckStep_j1 a0 t17 t21) (fun s t => [(1, .pointer (some ⟨b2, 0, none⟩)), (4, .int .i64 t17.2), (5, .slice p.1 t21.length p.2)]) (fun s t => [cellsC b2 [.int .i64 a0.Kind, .int .i64 a0.A, .int .i64 a0.B, .int .i64 a0.C, .int .i64 a0.D] 24, rowV 3 1 (.slice p.1 t21.length p.2) t21.length (t21.map e_i64)]) (fun s t => True) ?_ ?_
    · refine c_seq ?_
      refine c_region ?_
      refine l_val rfl rfl rfl (r_move (v := .slice p.1 t21.length p.2) rfl) ?_
      refine l_val rfl rfl rfl (r_move (v := .int .i64 t17.2) rfl) ?_
      obtain ⟨t24, h_t24, H55⟩ := bnd_some H36; clear H36
      refine l_read (v := .slice (cutA p.1 (Int.toNat t17.2) p.2 1) t24.length (p.2 - Int.toNat t17.2)) (fun w hF hS => run_sliceLO (xs := t21) Tryd.underlying69 Tryd.sizeOf3 rfl rfl rfl (capOf (i := 1) hS rfl) h_t24) rfl rfl rfl ?_
      refine l_val rfl rfl rfl (r_len Tryd.underlying69 rfl) ?_
      refine l_val rfl rfl rfl (r_move (v := .int .i64 0) rfl) ?_
      refine l_nil ?_
      refine c_block ?_
      refine c_fix (σ := Int) (τ := Unit) (fun next4 s => edit_CheckStep_l4 a0 t17 t21 t24 next4 s) (fun s t => [(1, .pointer (some ⟨b2, 0, none⟩)), (4, .int .i64 t17.2), (5, .slice p.1 t21.length p.2), (24, .slice (cutA p.1 (Int.toNat t17.2) p.2 1) t24.length (p.2 - Int.toNat t17.2)), (25, .int .i64 (t24.length : Int)), (26, .int .i64 s)]) (fun s t => [cellsC b2 [.int .i64 a0.Kind, .int .i64 a0.A, .int .i64 a0.B, .int .i64 a0.C, .int .i64 a0.D] 24, rowV 3 1 (.slice p.1 t21.length p.2) t21.length (t21.map e_i64)]) (fun s t => True) 0 () [0, 1] H55 (by exact trivial) (by exact ⟨rfl, rfl, rfl, rfl, rfl, rfl, trivial⟩) (by decide) rfl ?_
      rintro x26_2 _ m4 gg H56 _
      clear H55
      replace H56 : edit_CheckStep_l4 a0 t17 t21 t24 (it (fun next4 s => edit_CheckStep_l4 a0 t17 t21 t24 next4 s) m4) x26_2 = some r := H56
      generalize hn4 : it (fun next4 s => edit_CheckStep_l4 a0 t17 t21 t24 next4 s) m4 = next4 at H56
      refine c_tidyF [(1, .pointer (some ⟨b2, 0, none⟩)), (4, .int .i64 t17.2), (5, .slice p.1 t21.length p.2), (24, .slice (cutA p.1 (Int.toNat t17.2) p.2 1) t24.length (p.2 - Int.toNat t17.2)), (25, .int .i64 (t24.length : Int)), (26, .int .i64 x26_2)] [cellsC b2 [.int .i64 a0.Kind, .int .i64 a0.A, .int .i64 a0.B, .int .i64 a0.C, .int .i64 a0.D] 24, rowV 3 1 (.slice p.1 t21.length p.2) t21.length (t21.map e_i64)] rfl rfl ?_
      refine c_seq ?_
      refine c_region ?_
      refine l_val rfl rfl rfl (r_lss rfl rfl) ?_
      refine l_nil ?_
      refine c_seq ?_
      refine c_if (b := (decide (x26_2 < (t24.length : Int)))) rfl (fun hb => ?_) (fun hb => ?_)
      · have H57 := cnd_t hb H56; clear H56
        refine c_skip ?_
        refine c_seq ?_
        refine c_block ?_
        refine c_seq ?_
        refine c_region ?_
        obtain ⟨t28, h_t28, H58⟩ := bnd_some H57; clear H57
        refine l_read (fun w hF hS => run_indexO Tryd.underlying69 Tryd.sizeOf3 rfl rfl (Row.cutG (rowOf (i := 1) hS rfl) rfl (capOf (i := 1) hS rfl) h_t24) rfl h_t28) rfl rfl rfl ?_
        refine l_read (fun w hF hS => run_loadG1 (f := e_i64) (i := x26_2) (sz := 1) (j := 0) (v := .int .i64 t28) Tryd.isAgg3 rfl rfl (Row.cutG (rowOf (i := 1) hS rfl) rfl (capOf (i := 1) hS rfl) h_t24) h_t28 rfl) rfl rfl rfl ?_
        refine l_val rfl rfl rfl (r_assign (v := .int .i64 t28) rfl) ?_
        refine l_nil ?_
        refine c_seq ?_
        refine c_region ?_
        refine l_val rfl rfl rfl (r_move (v := .int .i64 t28) rfl) ?_
        refine l_val rfl rfl rfl (r_neq rfl rfl) ?_
        refine l_nil ?_
        refine c_if (b := (decide (t28 ≠ 0))) rfl (fun hb => ?_) (fun hb => ?_)
        · have H59 := cnd_t hb H58; clear H58
          refine c_seq ?_
          refine c_region ?_
          refine l_val rfl rfl rfl (r_assign (v := .int .i64 1) rfl) ?_
          refine l_nil ?_
          refine c_ret ?_
          obtain rfl := Option.some.inj H59
          refine ret1 (v := .int .i64 1) rfl rfl (fin rfl)
        · have H60 := cnd_f hb H58; clear H58
          refine c_skip ?_
          refine c_region ?_
          obtain ⟨t32, h_t32, H61⟩ := bnd_some H60; clear H60
          refine l_val rfl rfl rfl (r_addG rfl rfl h_t32) ?_
          refine l_val rfl rfl rfl (r_move (v := .int .i64 t32) rfl) ?_
          refine l_nil ?_
          refine c_close t32 () m4 [0, 1] (by exact ⟨rfl, rfl, rfl, rfl, rfl, rfl, trivial⟩) (by decide) rfl (by exact ⟨(by subst hn4; exact H61), trivial⟩) (Nat.lt_succ_self _)
      · have H62 := cnd_f hb H56; clear H56
        refine c_exit ?_
        refine c_close () () 0 [0, 1] (by exact ⟨rfl, rfl, rfl, trivial⟩) (by decide) rfl (by exact ⟨H62, trivial⟩) (Nat.lt_succ_self _)
    · rintro _ _ gg H37 _
      replace H37 : edit_CheckStep_j1 a0 t17 t21 = some r := H37
      refine c_tidyF [(1, .pointer (some ⟨b2, 0, none⟩)), (4, .int .i64 t17.2), (5, .slice p.1 t21.length p.2)] [cellsC b2 [.int .i64 a0.Kind, .int .i64 a0.A, .int .i64 a0.B, .int .i64 a0.C, .int .i64 a0.D] 24, rowV 3 1 (.slice p.1 t21.length p.2) t21.length (t21.map e_i64)] rfl rfl ?_
      refine c_seq ?_
      refine c_region ?_
      refine l_val rfl rfl rfl (r_field Tryd.runUnderlying24 rfl Tryd.sizeOf3 rfl rfl) ?_
      refine l_load1 (i := 0) (v := .int .i64 a0.Kind) Tryd.isAgg3 rfl rfl rfl rfl rfl ?_
      obtain ⟨t35, h_t35, H38⟩ := bnd_some H37; clear H37
      refine l_call (k38 h_t35) Tryd.call38 rfl rfl rfl ?_
      refine l_alloc (cs := [.int .i64 0, .int .i64 0, .int .i64 0, .int .i64 0, .int .i64 0, .int .i64 0, .int .i64 0, .int .i64 0]) Tryd.zeroValue72 rfl rfl rfl (fun b3 => ?_)
      refine l_store (i := 2) (vs := [.int .i64 ((t35 0) 0), .int .i64 ((t35 0) 1), .int .i64 ((t35 1) 0), .int .i64 ((t35 1) 1), .int .i64 ((t35 2) 0), .int .i64 ((t35 2) 1), .int .i64 ((t35 3) 0), .int .i64 ((t35 3) 1)]) (cs' := [.int .i64 ((t35 0) 0), .int .i64 ((t35 0) 1), .int .i64 ((t35 1) 0), .int .i64 ((t35 1) 1), .int .i64 ((t35 2) 0), .int .i64 ((t35 2) 1), .int .i64 ((t35 3) 0), .int .i64 ((t35 3) 1)]) Tryd.sizeOf72 rfl rfl rfl rfl rfl rfl rfl rfl rfl ?_
      refine l_nil ?_
      refine c_meet (r := r) (σ := Unit) (τ := Unit) (fun s => edit_CheckStep_j2 a0) (fun s t => [(1, .pointer (some ⟨b2, 0, none⟩))]) (fun s t => [cellsC b2 [.int .i64 a0.Kind, .int .i64 a0.A, .int .i64 a0.B, .int .i64 a0.C, .int .i64 a0.D] 24]) (fun s t => True) ?_ ?_
      · refine c_seq ?_
        refine c_region ?_
        refine l_val rfl rfl rfl (r_move (v := .slice p.1 t21.length p.2) rfl) ?_
        refine l_val rfl rfl rfl (r_move (v := .int .i64 t17.2) rfl) ?_
        obtain ⟨t38, h_t38, H44⟩ := bnd_some H38; clear H38
        refine l_read (v := .slice p.1 t38.length p.2) (fun w hF hS => run_sliceHO0 (xs := t21) Tryd.underlying69 Tryd.sizeOf3 rfl rfl rfl (capOf (i := 1) hS rfl) h_t38) rfl rfl rfl ?_
        refine l_val rfl rfl rfl (r_len Tryd.underlying69 rfl) ?_
        refine l_val rfl rfl rfl (r_move (v := .int .i64 0) rfl) ?_
        refine l_nil ?_
        refine c_block ?_
        refine c_fix (σ := Int) (τ := Unit) (fun next3 s => edit_CheckStep_l3 a0 t35 t38 next3 s) (fun s t => [(1, .pointer (some ⟨b2, 0, none⟩)), (8, .pointer (some ⟨b3, 0, none⟩)), (38, .slice p.1 t38.length p.2), (39, .int .i64 (t38.length : Int)), (40, .int .i64 s)]) (fun s t => [cellsC b2 [.int .i64 a0.Kind, .int .i64 a0.A, .int .i64 a0.B, .int .i64 a0.C, .int .i64 a0.D] 24, rowV 3 1 (.slice p.1 t21.length p.2) t21.length (t21.map e_i64), cellsC b3 [.int .i64 ((t35 0) 0), .int .i64 ((t35 0) 1), .int .i64 ((t35 1) 0), .int .i64 ((t35 1) 1), .int .i64 ((t35 2) 0), .int .i64 ((t35 2) 1), .int .i64 ((t35 3) 0), .int .i64 ((t35 3) 1)] 72]) (fun s t => True) 0 () [0, 1, 2] H44 (by exact trivial) (by exact ⟨rfl, rfl, rfl, rfl, rfl, trivial⟩) (by decide) rfl ?_
        rintro x40_2 _ m3 gg H45 _
        clear H44
        replace H45 : edit_CheckStep_l3 a0 t35 t38 (it (fun next3 s => edit_CheckStep_l3 a0 t35 t38 next3 s) m3) x40_2 = some r := H45
        generalize hn3 : it (fun next3 s => edit_CheckStep_l3 a0 t35 t38 next3 s) m3 = next3 at H45
        refine c_tidyF [(1, .pointer (some ⟨b2, 0, none⟩)), (8, .pointer (some ⟨b3, 0, none⟩)), (38, .slice p.1 t38.length p.2), (39, .int .i64 (t38.length : Int)), (40, .int .i64 x40_2)] [cellsC b2 [.int .i64 a0.Kind, .int .i64 a0.A, .int .i64 a0.B, .int .i64 a0.C, .int .i64 a0.D] 24, rowV 3 1 (.slice p.1 t21.length p.2) t21.length (t21.map e_i64), cellsC b3 [.int .i64 ((t35 0) 0), .int .i64 ((t35 0) 1), .int .i64 ((t35 1) 0), .int .i64 ((t35 1) 1), .int .i64 ((t35 2) 0), .int .i64 ((t35 2) 1), .int .i64 ((t35 3) 0), .int .i64 ((t35 3) 1)] 72] rfl rfl ?_
        refine c_seq ?_
        refine c_region ?_
        refine l_val rfl rfl rfl (r_lss rfl rfl) ?_
        refine l_nil ?_
        refine c_seq ?_
        refine c_if (b := (decide (x40_2 < (t38.length : Int)))) rfl (fun hb => ?_) (fun hb => ?_)
        · have H46 := cnd_t hb H45; clear H45
          refine c_skip ?_
          refine c_seq ?_
          refine c_block ?_
          refine c_seq ?_
          refine c_region ?_
          refine l_val rfl rfl rfl (r_move (v := .int .i64 x40_2) rfl) ?_
          obtain ⟨t43, h_t43, H47⟩ := bnd_some H46; clear H46
          refine l_read (fun w hF hS => run_indexO Tryd.underlying69 Tryd.sizeOf3 rfl rfl (Row.cut0G (rowOf (i := 1) hS rfl) rfl (capOf (i := 1) hS rfl) h_t38) rfl h_t43) rfl rfl rfl ?_
          refine l_read (fun w hF hS => run_loadG1 (f := e_i64) (i := x40_2) (sz := 1) (j := 0) (v := .int .i64 t43) Tryd.isAgg3 rfl rfl (Row.cut0G (rowOf (i := 1) hS rfl) rfl (capOf (i := 1) hS rfl) h_t38) h_t43 rfl) rfl rfl rfl ?_
          refine l_val rfl rfl rfl (r_assign (v := .int .i64 x40_2) rfl) ?_
          refine l_val rfl rfl rfl (r_assign (v := .int .i64 t43) rfl) ?_
          refine l_nil ?_
          refine c_seq ?_
          exact c_regionD (Kd.p :: Kd.p :: Kd.p :: Kd.p :: Kd.d [2] _ :: Kd.p :: Kd.p :: Kd.p :: Kd.d [2] _ :: Kd.d [] _ :: []) 0 mixed (by
            refine d_val rfl rfl (r_move (v := .int .i64 t43) rfl) ?_
            refine d_val rfl rfl (r_move (v := .int .i64 x40_2) rfl) ?_
            have h_k47 := bnd_val H47
            have H48 := bnd_rest H47
            refine d_val rfl rfl (r_indexPG Tryd.runUnderlying72 Tryd.sizeOf71 rfl rfl h_k47) ?_
            refine d_val rfl rfl (r_indexPA0 Tryd.runUnderlying71 Tryd.sizeOf3 rfl rfl (by decide)) ?_
            refine d_load1 (i := 2) (v := .int .i64 ((t35 (val (gIx 4 x40_2))) 0)) Tryd.isAgg3 rfl rfl rfl (rg_arr (pre := []) (post := []) (f := fun j_ => [.int .i64 ((t35 j_) 0), .int .i64 ((t35 j_) 1)]) (n := 4) (sz := 2) (q := 0) rfl rfl (fun _ => rfl) (gIx_lt h_k47) rfl) ?_
            refine d_val rfl rfl (r_move (v := .int .i64 x40_2) rfl) ?_
            have h_k51 := bnd_val H48
            have H49 := bnd_rest H48
            refine d_val rfl rfl (r_indexPG Tryd.runUnderlying72 Tryd.sizeOf71 rfl rfl h_k51) ?_
            refine d_val rfl rfl (r_indexPA Tryd.runUnderlying71 Tryd.sizeOf3 rfl rfl (by decide) (by decide)) ?_
            refine d_load1 (i := 2) (v := .int .i64 ((t35 (val (gIx 4 x40_2))) 1)) Tryd.isAgg3 rfl rfl rfl (rg_arr (pre := []) (post := []) (f := fun j_ => [.int .i64 ((t35 j_) 0), .int .i64 ((t35 j_) 1)]) (n := 4) (sz := 2) (q := 1) rfl rfl (fun _ => rfl) (gIx_lt h_k51) rfl) ?_
            have h_t54 := bnd_val H49
            have H50 := bnd_rest H49
            refine d_call (k35 h_t54) Tryd.call35 rfl rfl ?_
            refine d_nil ?_
            refine c_if (b := (val (edit_outside t43 ((t35 (val (gIx 4 x40_2))) 0) ((t35 (val (gIx 4 x40_2))) 1)))) rfl (fun hb => ?_) (fun hb => ?_)
            · have H51 := cnd_t hb H50; clear H50
              refine c_seq ?_
              refine c_region ?_
              refine l_val rfl rfl rfl (r_assign (v := .int .i64 2) rfl) ?_
              refine l_nil ?_
              refine c_ret ?_
              obtain rfl := Option.some.inj H51
              refine ret1 (v := .int .i64 2) rfl rfl (fin rfl)
            · have H52 := cnd_f hb H50; clear H50
              refine c_skip ?_
              refine c_region ?_
              obtain ⟨t55, h_t55, H53⟩ := bnd_some H52; clear H52
              refine l_val rfl rfl rfl (r_addG rfl rfl h_t55) ?_
              refine l_val rfl rfl rfl (r_move (v := .int .i64 t55) rfl) ?_
              refine l_nil ?_
              refine c_close t55 () m3 [0, 1, 2] (by exact ⟨rfl, rfl, rfl, rfl, rfl, trivial⟩) (by decide) rfl (by exact ⟨(by subst hn3; exact H53), trivial⟩) (Nat.lt_succ_self _)
            ) (by kernel_rfl)
        · have H54 := cnd_f hb H45; clear H45
          refine c_exit ?_
          refine c_close () () 0 [0] (by exact ⟨rfl, trivial⟩) (by decide) rfl (by exact ⟨H54, trivial⟩) (Nat.lt_succ_self _)
      · rintro _ _ gg H39 _
        replace H39 : edit_CheckStep_j2 a0 = some r := H39
        refine c_tidyF [(1, .pointer (some ⟨b2, 0, none⟩))] [cellsC b2 [.int .i64 a0.Kind, .int .i64 a0.A, .int .i64 a0.B, .int .i64 a0.C, .int .i64 a0.D] 24] rfl rfl ?_
        refine c_seq ?_
        refine c_seq ?_
        refine c_region ?_
        refine l_val rfl rfl rfl (r_field Tryd.runUnderlying24 rfl Tryd.sizeOf3 rfl rfl) ?_
        refine l_load1 (i := 0) (v := .int .i64 a0.Kind) Tryd.isAgg3 rfl rfl rfl rfl rfl ?_
        refine l_val rfl rfl rfl (r_eql rfl rfl) ?_
        refine l_val rfl rfl rfl (r_move (v := .bool (decide (a0.Kind = 6))) rfl) ?_
        refine split (fun hb => ?_) (fun hb => ?_)
        · have H40 := cnd_t hb H39; clear H39
          refine l_val rfl rfl rfl (r_field Tryd.runUnderlying24 rfl Tryd.sizeOf3 rfl rfl) ?_
          refine l_load1 (i := 0) (v := .int .i64 a0.B) Tryd.isAgg3 rfl rfl rfl rfl rfl ?_
          refine l_val rfl rfl rfl (r_field Tryd.runUnderlying24 rfl Tryd.sizeOf3 rfl rfl) ?_
          refine l_load1 (i := 0) (v := .int .i64 a0.A) Tryd.isAgg3 rfl rfl rfl rfl rfl ?_
          refine l_val rfl rfl rfl (r_leq rfl rfl) ?_
          refine l_val rfl rfl rfl (r_pickT (v := .bool (decide (a0.B ≤ a0.A))) rfl rfl) ?_
          refine l_nil ?_
          refine c_if (b := (decide (a0.B ≤ a0.A))) rfl (fun hb => ?_) (fun hb => ?_)
          · have H41 := cnd_t hb H40; clear H40
            refine c_seq ?_
            refine c_region ?_
            refine l_val rfl rfl rfl (r_assign (v := .int .i64 5) rfl) ?_
            refine l_nil ?_
            refine c_ret ?_
            obtain rfl := Option.some.inj H41
            refine ret1 (v := .int .i64 5) rfl rfl (fin rfl)
          · have H42 := cnd_f hb H40; clear H40
            refine c_skip ?_
            refine c_seq ?_
            refine c_region ?_
            refine l_val rfl rfl rfl (r_assign (v := .int .i64 0) rfl) ?_
            refine l_nil ?_
            refine c_ret ?_
            obtain rfl := Option.some.inj H42
            refine ret1 (v := .int .i64 0) rfl rfl (fin rfl)
        · have H43 := cnd_f hb H39; clear H39
          refine l_passed rfl rfl rfl ?_
          refine l_passed rfl rfl rfl ?_
          refine l_passed rfl rfl rfl ?_
          refine l_passed rfl rfl rfl ?_
          refine l_passed rfl rfl rfl ?_
          refine l_val rfl rfl rfl (r_pickF (v := .bool false) rfl rfl) ?_
          refine l_nil ?_
          refine c_false rfl ?_
          refine c_skip ?_
          refine c_seq ?_
          refine c_region ?_
          refine l_val rfl rfl rfl (r_assign (v := .int .i64 0) rfl) ?_
          refine l_nil ?_
          refine c_ret ?_
          obtain rfl := Option.some.inj H43
          refine ret1 (v := .int .i64 0) rfl rfl (fin rfl)
theorem k39 {a0 : Int} {r : Int} (H : R_numbersUsed a0 = some r) : Ret Tryd.prog 39 [.int .i64 a0] (.int .i64 r) := by
  refine enterRet (n := 7) Tryd.func39 rfl rfl rfl (fun wd => ?_)
  refine c_seq ?_
  refine c_region ?_
  refine l_val rfl rfl rfl (r_assign (v := .int .i64 0) rfl) ?_
  refine l_nil ?_
  refine c_seq ?_
  refine c_region ?_
  refine l_buildSlice (vs := [.int .i64 0, .int .i64 1, .int .i64 4, .int .i64 2, .int .i64 1, .int .i64 1, .int .i64 2, .int .i64 1, .int .i64 1, .int .i64 0]) (cs := [.int .i64 0, .int .i64 1, .int .i64 4, .int .i64 2, .int .i64 1, .int .i64 1, .int .i64 2, .int .i64 1, .int .i64 1, .int .i64 0]) Tryd.underlying69 Tryd.sizeOf3 Tryd.zeroValue3 rfl rfl rfl rfl rfl rfl rfl (fun b1 => ?_)
  refine l_val rfl rfl rfl (r_move (v := .int .i64 a0) rfl) ?_
  obtain ⟨t5, h_t5, H2⟩ := bnd_some H; clear H
  refine l_val rfl rfl rfl (r_indexS Tryd.underlying69 Tryd.sizeOf3 rfl rfl h_t5 rfl) ?_
  refine l_read (fun w hF hS => run_loadG1 (f := e_i64) (i := a0) (sz := 1) (j := 0) (v := .int .i64 t5) Tryd.isAgg3 rfl rfl (row_box (sz := 1) (xs := ([0, 1, 4, 2, 1, 1, 2, 1, 1, 0] : List Int).map e_i64) (i := 0) hS rfl rfl rfl) h_t5 rfl) rfl rfl rfl ?_
  refine l_val rfl rfl rfl (r_assign (v := .int .i64 t5) rfl) ?_
  refine l_nil ?_
  refine c_ret ?_
  obtain rfl := Option.some.inj H2
  refine ret1 (v := .int .i64 t5) rfl rfl (fin rfl)
theorem k50 {r : (List (List UInt8))} {w : World} {h : Heap} (hw : Know h w noS) (H : R_stepWords = some r) : Does Tryd.prog 50 (List.toArray []) w (fun v w' => ∃ x : (Option Addr × Nat), v = (.slice x.1 r.length x.2) ∧ Turn w w' noS (rowV 9 1 (.slice x.1 r.length x.2) r.length (r.map e_string))) := by
  refine enter (n := 2) Tryd.func50 rfl rfl rfl noS [] (Sat.nil _ _) ?_
  refine c_seq ?_
  refine c_region ?_
  refine l_val rfl rfl rfl (r_assign (v := .slice none 0 0) rfl) ?_
  refine l_nil ?_
  refine c_seq ?_
  refine c_region ?_
  refine l_buildSlice (vs := [str [], str [116, 117, 114, 110], str [99, 114, 111, 112], str [115, 99, 97, 108, 101], str [108, 105, 103, 104, 116], str [115, 112, 114, 101, 97, 100], str [108, 101, 118, 101, 108, 115], str [119, 97, 114, 109], str [109, 117, 116, 101], str [105, 110, 118, 101, 114, 116]]) (cs := [str [], str [116, 117, 114, 110], str [99, 114, 111, 112], str [115, 99, 97, 108, 101], str [108, 105, 103, 104, 116], str [115, 112, 114, 101, 97, 100], str [108, 101, 118, 101, 108, 115], str [119, 97, 114, 109], str [109, 117, 116, 101], str [105, 110, 118, 101, 114, 116]]) Tryd.underlying34 Tryd.sizeOf9 Tryd.zeroValue9 rfl rfl rfl rfl rfl rfl rfl (fun b1 => ?_)
  refine l_val rfl rfl rfl (r_assign (v := .slice (some ⟨b1, 0, none⟩) 10 10) rfl) ?_
  refine l_nil ?_
  refine c_ret ?_
  refine c_imp 0 rfl (imp_box (m := 10) (E := 9) (sz := 1) (xs := (([[], [116, 117, 114, 110], [99, 114, 111, 112], [115, 99, 97, 108, 101], [108, 105, 103, 104, 116], [115, 112, 114, 101, 97, 100], [108, 101, 118, 101, 108, 115], [119, 97, 114, 109], [109, 117, 116, 101], [105, 110, 118, 101, 114, 116]] : List (List UInt8))).map e_string) rfl rfl rfl ⟨rfl, by decide⟩) ?_
  obtain rfl := Option.some.inj H
  refine ret1 (v := .slice ((some ⟨b1, 0, none⟩, 10) : Option Addr × Nat).1 10 ((some ⟨b1, 0, none⟩, 10) : Option Addr × Nat).2) rfl rfl (finX ((some ⟨b1, 0, none⟩, 10) : Option Addr × Nat) (i := 0) rfl rfl (Imp.refl _))
theorem k72 {a0 : Int} {r : (List UInt8)} {w : World} {h : Heap} (hw : Know h w noS) (tb_pow10 : TabH Tryd.prog h "internal/strconv.uint64pow10" .u64 Lib.pow10Tab) (H : gItoa a0 = some r) : Does Tryd.prog 72 (List.toArray [.int .i64 a0]) w (fun v w' => v = (str r) ∧ Grow w w') :=
  itoa_does (ρ := Go.Proofs.Tryd.laysM171_ren) Go.Proofs.Tryd.laysM171 hw tb_pow10 H

theorem k41 {a0 : T_edit_Step} {r : (List UInt8)} {w : World} {h : Heap} (hw : Know h w noS) (tb_pow10 : TabH Tryd.prog h "internal/strconv.uint64pow10" .u64 Lib.pow10Tab) (H : R_stepLine a0 = some r) : Does Tryd.prog 41 (List.toArray [.agg #[.int .i64 a0.Kind, .int .i64 a0.A, .int .i64 a0.B, .int .i64 a0.C, .int .i64 a0.D]]) w (fun v w' => v = (str r) ∧ Grow w w') := by
  refine enter (n := 36) Tryd.func41 rfl rfl rfl noS [] (Sat.nil _ _) ?_
  refine c_seq ?_
  refine c_region ?_
  refine l_box (cs := [.int .i64 a0.Kind, .int .i64 a0.A, .int .i64 a0.B, .int .i64 a0.C, .int .i64 a0.D]) rfl rfl rfl rfl (fun b2 => ?_)
  refine l_val rfl rfl rfl (r_assign (v := str []) rfl) ?_
  refine l_nil ?_
  refine c_seq ?_
  exact c_regionD (Kd.t 1 [] _ _ :: Kd.p :: Kd.d [0] _ :: Kd.dv 6 [1] (fun v => ptrAt (sa v) _) :: Kd.d [1] _ :: Kd.p :: []) 1 mixed (by
    have h_t6 := bnd_val H
    have H13 := bnd_rest H
    refine d_make (Cv := fun v => rowV 9 1 v (val R_stepWords).length ((val R_stepWords).map e_string)) (none, 0) (makes_call (G := fun x : (Option Addr × Nat) => .slice x.1 (val R_stepWords).length x.2) (C := fun x : (Option Addr × Nat) => rowV 9 1 (.slice x.1 (val R_stepWords).length x.2) (val R_stepWords).length ((val R_stepWords).map e_string)) (fun w L' hF hS hi => k50 (know_all w)  h_t6) Tryd.call50 rfl) (fun _ => rfl) rfl rfl rfl (fun p => ?_)
    refine d_val rfl rfl (r_field Tryd.runUnderlying24 rfl Tryd.sizeOf3 rfl rfl) ?_
    refine d_load1 (i := 0) (v := .int .i64 a0.Kind) Tryd.isAgg3 rfl rfl rfl rfl ?_
    have h_t9 := bnd_val H13
    have H14 := bnd_rest H13
    refine d_readV (a := 6) rfl (fun w L' hF hS hi => run_indexO Tryd.underlying34 Tryd.sizeOf9 rfl rfl (rowOf (i := 1) (E := 9) (sz := 1) (n := (val R_stepWords).length) (a := p.1) (c := p.2) hS ((hi 1 (by simp)).trans rfl)) rfl h_t9) rfl rfl ?_
    refine d_readD (fun w L' hF hS hi => run_loadG1 (f := e_string) (i := a0.Kind) (sz := 1) (j := 0) (v := str (val (gAt (val R_stepWords) a0.Kind))) Tryd.isAgg9 rfl rfl (rowOf (i := 1) (E := 9) (sz := 1) (n := (val R_stepWords).length) (a := p.1) (c := p.2) hS ((hi 1 (by simp)).trans rfl)) h_t9 rfl) rfl rfl ?_
    refine d_val rfl rfl (r_assign (v := str (val (gAt (val R_stepWords) a0.Kind))) rfl) ?_
    refine d_nil ?_
    refine c_seq ?_
    refine c_seq ?_
    exact c_regionD (Kd.p :: Kd.d [0] _ :: Kd.p :: Kd.d [0] _ :: Kd.p :: Kd.d [0] _ :: Kd.p :: Kd.d [0] _ :: Kd.ns 2 [_, _, _, _] 3 4 :: Kd.p :: Kd.d [0] _ :: Kd.d [] _ :: Kd.p :: Kd.p :: Kd.p :: []) 1 mixed (by
      refine d_val rfl rfl (r_field Tryd.runUnderlying24 rfl Tryd.sizeOf3 rfl rfl) ?_
      refine d_load1 (i := 0) (v := .int .i64 a0.A) Tryd.isAgg3 rfl rfl rfl rfl ?_
      refine d_val rfl rfl (r_field Tryd.runUnderlying24 rfl Tryd.sizeOf3 rfl rfl) ?_
      refine d_load1 (i := 0) (v := .int .i64 a0.B) Tryd.isAgg3 rfl rfl rfl rfl ?_
      refine d_val rfl rfl (r_field Tryd.runUnderlying24 rfl Tryd.sizeOf3 rfl rfl) ?_
      refine d_load1 (i := 0) (v := .int .i64 a0.C) Tryd.isAgg3 rfl rfl rfl rfl ?_
      refine d_val rfl rfl (r_field Tryd.runUnderlying24 rfl Tryd.sizeOf3 rfl rfl) ?_
      refine d_load1 (i := 0) (v := .int .i64 a0.D) Tryd.isAgg3 rfl rfl rfl rfl ?_
      refine d_newS rfl rfl (run_buildSlice (vs := [.int .i64 a0.A, .int .i64 a0.B, .int .i64 a0.C, .int .i64 a0.D]) (cs := [.int .i64 a0.A, .int .i64 a0.B, .int .i64 a0.C, .int .i64 a0.D]) Tryd.underlying69 Tryd.sizeOf3 Tryd.zeroValue3 rfl rfl rfl rfl rfl) rfl (fun b3 => ?_)
      refine d_val rfl rfl (r_field Tryd.runUnderlying24 rfl Tryd.sizeOf3 rfl rfl) ?_
      refine d_load1 (i := 0) (v := .int .i64 a0.Kind) Tryd.isAgg3 rfl rfl rfl rfl ?_
      have h_t22 := bnd_val H14
      have H15 := bnd_rest H14
      refine d_call (k39 h_t22) Tryd.call39 rfl rfl ?_
      have h_t23 := bnd_val H15
      have H16 := bnd_rest H15
      refine d_val (v := .slice (cutA ((some ⟨b3, 0, none⟩, 4) : Option Addr × Nat).1 (Int.toNat (0 : Int)) ((some ⟨b3, 0, none⟩, 4) : Option Addr × Nat).2 1) (val (gCut ([a0.A, a0.B, a0.C, a0.D] : List Int) 0 (val (R_numbersUsed a0.Kind)))).length (((some ⟨b3, 0, none⟩, 4) : Option Addr × Nat).2 - Int.toNat (0 : Int))) rfl rfl (fun w => run_sliceHO (w := w) (a := ((some ⟨b3, 0, none⟩, 4) : Option Addr × Nat).1) (m := 4) (c := ((some ⟨b3, 0, none⟩, 4) : Option Addr × Nat).2) (xs := ([a0.A, a0.B, a0.C, a0.D] : List Int)) Tryd.underlying69 Tryd.sizeOf3 rfl rfl rfl (Nat.le_refl _) h_t23) ?_
      refine d_val rfl rfl (r_len Tryd.underlying69 rfl) ?_
      refine d_val rfl rfl (r_move (v := .int .i64 0) rfl) ?_
      refine d_nil ?_
      refine c_imp 2 rfl (imp_box (m := 4) (E := 3) (sz := 1) (xs := (([a0.A, a0.B, a0.C, a0.D] : List Int)).map e_i64) rfl rfl rfl ⟨rfl, by decide⟩) ?_
      refine c_block ?_
      refine c_sel [2] [rowV 3 1 (.slice ((some ⟨b3, 0, none⟩, 4) : Option Addr × Nat).1 4 ((some ⟨b3, 0, none⟩, 4) : Option Addr × Nat).2) 4 (([a0.A, a0.B, a0.C, a0.D] : List Int).map e_i64)] rfl (by decide) ?_
      refine c_fix (σ := (List UInt8) × Int) (τ := Unit) (fun next1 s => R_stepLine_l1 (val (gCut ([a0.A, a0.B, a0.C, a0.D] : List Int) 0 (val (R_numbersUsed a0.Kind)))) next1 s.1 s.2) (fun s t => [(3, str s.1), (23, .slice (cutA ((some ⟨b3, 0, none⟩, 4) : Option Addr × Nat).1 (Int.toNat (0 : Int)) ((some ⟨b3, 0, none⟩, 4) : Option Addr × Nat).2 1) (val (gCut ([a0.A, a0.B, a0.C, a0.D] : List Int) 0 (val (R_numbersUsed a0.Kind)))).length (((some ⟨b3, 0, none⟩, 4) : Option Addr × Nat).2 - Int.toNat (0 : Int))), (24, .int .i64 ((val (gCut ([a0.A, a0.B, a0.C, a0.D] : List Int) 0 (val (R_numbersUsed a0.Kind)))).length : Int)), (25, .int .i64 s.2)]) (fun s t => [rowV 3 1 (.slice ((some ⟨b3, 0, none⟩, 4) : Option Addr × Nat).1 4 ((some ⟨b3, 0, none⟩, 4) : Option Addr × Nat).2) 4 (([a0.A, a0.B, a0.C, a0.D] : List Int).map e_i64)]) (fun s t => True) ((val (gAt (val R_stepWords) a0.Kind)), 0) () [0] H16 (by exact trivial) (by exact ⟨rfl, rfl, rfl, rfl, trivial⟩) (by decide) rfl ?_
      rintro ⟨x3_2, x25_2⟩ _ m1 gg H17 _
      clear H16
      replace H17 : R_stepLine_l1 (val (gCut ([a0.A, a0.B, a0.C, a0.D] : List Int) 0 (val (R_numbersUsed a0.Kind)))) (it (fun next1 s => R_stepLine_l1 (val (gCut ([a0.A, a0.B, a0.C, a0.D] : List Int) 0 (val (R_numbersUsed a0.Kind)))) next1 s.1 s.2) m1) x3_2 x25_2 = some r := H17
      generalize hn1 : it (fun next1 s => R_stepLine_l1 (val (gCut ([a0.A, a0.B, a0.C, a0.D] : List Int) 0 (val (R_numbersUsed a0.Kind)))) next1 s.1 s.2) m1 = next1 at H17
      refine c_tidyF [(3, str x3_2), (23, .slice (cutA ((some ⟨b3, 0, none⟩, 4) : Option Addr × Nat).1 (Int.toNat (0 : Int)) ((some ⟨b3, 0, none⟩, 4) : Option Addr × Nat).2 1) (val (gCut ([a0.A, a0.B, a0.C, a0.D] : List Int) 0 (val (R_numbersUsed a0.Kind)))).length (((some ⟨b3, 0, none⟩, 4) : Option Addr × Nat).2 - Int.toNat (0 : Int))), (24, .int .i64 ((val (gCut ([a0.A, a0.B, a0.C, a0.D] : List Int) 0 (val (R_numbersUsed a0.Kind)))).length : Int)), (25, .int .i64 x25_2)] [rowV 3 1 (.slice ((some ⟨b3, 0, none⟩, 4) : Option Addr × Nat).1 4 ((some ⟨b3, 0, none⟩, 4) : Option Addr × Nat).2) 4 (([a0.A, a0.B, a0.C, a0.D] : List Int).map e_i64)] rfl rfl ?_
      refine c_seq ?_
      refine c_region ?_
      refine l_val rfl rfl rfl (r_lss rfl rfl) ?_
      refine l_nil ?_
      refine c_seq ?_
      refine c_if (b := (decide (x25_2 < ((val (gCut ([a0.A, a0.B, a0.C, a0.D] : List Int) 0 (val (R_numbersUsed a0.Kind)))).length : Int)))) rfl (fun hb => ?_) (fun hb => ?_)
      · have H18 := cnd_t hb H17; clear H17
        refine c_skip ?_
        refine c_seq ?_
        refine c_block ?_
        refine c_seq ?_
        refine c_region ?_
        obtain ⟨t27, h_t27, H19⟩ := bnd_some H18; clear H18
        refine l_read (fun w hF hS => run_indexO Tryd.underlying69 Tryd.sizeOf3 rfl rfl (Row.cutG (rowOf (i := 0) hS rfl) rfl (capOf (i := 0) hS rfl) h_t23) rfl h_t27) rfl rfl rfl ?_
        refine l_read (fun w hF hS => run_loadG1 (f := e_i64) (i := x25_2) (sz := 1) (j := 0) (v := .int .i64 t27) Tryd.isAgg3 rfl rfl (Row.cutG (rowOf (i := 0) hS rfl) rfl (capOf (i := 0) hS rfl) h_t23) h_t27 rfl) rfl rfl rfl ?_
        refine l_val rfl rfl rfl (r_assign (v := .int .i64 t27) rfl) ?_
        refine l_nil ?_
        refine c_region ?_
        refine l_val rfl rfl rfl (r_move (v := str x3_2) rfl) ?_
        refine l_val rfl rfl rfl (r_move (v := .int .i64 t27) rfl) ?_
        obtain ⟨t31, h_t31, H20⟩ := bnd_some H19; clear H19
        refine l_callG (fun w hF hS => k72 (know_all w) (tb_pow10.mono (hw.now hF)) h_t31) Tryd.call72 rfl rfl rfl ?_
        obtain ⟨t32, h_t32, H21⟩ := bnd_some H20; clear H20
        refine l_val rfl rfl rfl (r_concatG rfl rfl h_t32) ?_
        obtain ⟨t33, h_t33, H22⟩ := bnd_some H21; clear H21
        refine l_val rfl rfl rfl (r_concatG rfl rfl h_t33) ?_
        refine l_val rfl rfl rfl (r_assign (v := str t33) rfl) ?_
        refine l_nil ?_
        refine c_region ?_
        obtain ⟨t34, h_t34, H23⟩ := bnd_some H22; clear H22
        refine l_val rfl rfl rfl (r_addG rfl rfl h_t34) ?_
        refine l_val rfl rfl rfl (r_move (v := .int .i64 t34) rfl) ?_
        refine l_nil ?_
        refine c_close (t33, t34) () m1 [0] (by exact ⟨rfl, rfl, rfl, rfl, trivial⟩) (by decide) rfl (by exact ⟨(by subst hn1; exact H23), trivial⟩) (Nat.lt_succ_self _)
      · have H24 := cnd_f hb H17; clear H17
        refine c_exit ?_
        refine c_seq ?_
        refine c_region ?_
        refine l_val rfl rfl rfl (r_move (v := str x3_2) rfl) ?_
        refine l_val rfl rfl rfl (r_assign (v := str x3_2) rfl) ?_
        refine l_nil ?_
        refine c_ret ?_
        obtain rfl := Option.some.inj H24
        refine ret1 (v := str x3_2) rfl rfl (fin rfl)
      ) (by kernel_rfl)
    ) (by kernel_rfl)
theorem k11 {a0 : (List T_edit_Step)} {v0 : Value} {r : (List UInt8)} {w : World} {h : Heap} (hw : Know h w noS) (f0 : FrS h 5 v0 (a0.map e_edit_Step)) (tb_pow10 : TabH Tryd.prog h "internal/strconv.uint64pow10" .u64 Lib.pow10Tab) (H : R_StepsText a0 = some r) : Does Tryd.prog 11 (List.toArray [v0]) w (fun v w' => v = (str r) ∧ Grow w w') := by
  refine enter (n := 19) Tryd.func11 rfl rfl rfl noS [] (Sat.nil _ _) ?_
  refine c_seq ?_
  refine c_region ?_
  refine l_val rfl rfl rfl (r_assign (v := str []) rfl) ?_
  refine l_nil ?_
  refine c_seq ?_
  refine c_region ?_
  refine l_val rfl rfl rfl (r_assign (v := str []) rfl) ?_
  refine l_nil ?_
  refine c_seq ?_
  refine c_seq ?_
  refine c_region ?_
  refine l_val rfl rfl rfl (r_move (v := v0) rfl) ?_
  refine l_val rfl rfl rfl (r_lenF Tryd.underlying22 rfl f0 rfl) ?_
  refine l_val rfl rfl rfl (r_move (v := .int .i64 0) rfl) ?_
  refine l_nil ?_
  refine c_block ?_
  refine c_fix (σ := (List UInt8) × Int) (τ := Unit) (fun next1 s => R_StepsText_l1 a0 next1 s.1 s.2) (fun s t => [(3, str s.1), (6, v0), (7, .int .i64 (a0.length : Int)), (8, .int .i64 s.2)]) (fun s t => []) (fun s t => True) ([], 0) () [] H (by exact trivial) (by exact ⟨rfl, rfl, rfl, rfl, trivial⟩) (by decide) rfl ?_
  rintro ⟨x3_2, x8_2⟩ _ m1 gg H9 _
  clear H
  replace H9 : R_StepsText_l1 a0 (it (fun next1 s => R_StepsText_l1 a0 next1 s.1 s.2) m1) x3_2 x8_2 = some r := H9
  generalize hn1 : it (fun next1 s => R_StepsText_l1 a0 next1 s.1 s.2) m1 = next1 at H9
  refine c_tidyF [(3, str x3_2), (6, v0), (7, .int .i64 (a0.length : Int)), (8, .int .i64 x8_2)] [] rfl rfl ?_
  refine c_seq ?_
  refine c_region ?_
  refine l_val rfl rfl rfl (r_lss rfl rfl) ?_
  refine l_nil ?_
  refine c_seq ?_
  refine c_if (b := (decide (x8_2 < (a0.length : Int)))) rfl (fun hb => ?_) (fun hb => ?_)
  · have H10 := cnd_t hb H9; clear H9
    refine c_skip ?_
    refine c_seq ?_
    refine c_block ?_
    refine c_seq ?_
    refine c_region ?_
    obtain ⟨t10, h_t10, H11⟩ := bnd_some H10; clear H10
    refine l_val rfl rfl rfl (r_indexF Tryd.underlying22 Tryd.sizeOf24 rfl rfl f0 h_t10) ?_
    refine l_read (fun w hF hS => run_loadGN (f := e_edit_Step) (i := x8_2) (sz := 5) (j := 0) (vs := [.int .i64 t10.Kind, .int .i64 t10.A, .int .i64 t10.B, .int .i64 t10.C, .int .i64 t10.D]) Tryd.isAgg24 Tryd.sizeOf24 rfl rfl (f0.row (hw.now hF)) h_t10 rfl) rfl rfl rfl ?_
    refine l_alloc (cs := [.int .i64 0, .int .i64 0, .int .i64 0, .int .i64 0, .int .i64 0]) Tryd.zeroValue24 rfl rfl rfl (fun b1 => ?_)
    refine l_store (i := 0) (vs := [.int .i64 t10.Kind, .int .i64 t10.A, .int .i64 t10.B, .int .i64 t10.C, .int .i64 t10.D]) (cs' := [.int .i64 t10.Kind, .int .i64 t10.A, .int .i64 t10.B, .int .i64 t10.C, .int .i64 t10.D]) Tryd.sizeOf24 rfl rfl rfl rfl rfl rfl rfl rfl rfl ?_
    refine l_nil ?_
    refine c_region ?_
    refine l_val rfl rfl rfl (r_move (v := str x3_2) rfl) ?_
    refine l_loadN (i := 0) (vs := [.int .i64 t10.Kind, .int .i64 t10.A, .int .i64 t10.B, .int .i64 t10.C, .int .i64 t10.D]) Tryd.isAgg24 Tryd.sizeOf24 rfl rfl rfl rfl rfl ?_
    obtain ⟨t14, h_t14, H12⟩ := bnd_some H11; clear H11
    refine l_callG (fun w hF hS => k41 (know_all w) (tb_pow10.mono (hw.now hF)) h_t14) Tryd.call41 rfl rfl rfl ?_
    obtain ⟨t15, h_t15, H13⟩ := bnd_some H12; clear H12
    refine l_val rfl rfl rfl (r_concatG rfl rfl h_t15) ?_
    obtain ⟨t16, h_t16, H14⟩ := bnd_some H13; clear H13
    refine l_val rfl rfl rfl (r_concatG rfl rfl h_t16) ?_
    refine l_val rfl rfl rfl (r_assign (v := str t16) rfl) ?_
    refine l_nil ?_
    refine c_region ?_
    obtain ⟨t17, h_t17, H15⟩ := bnd_some H14; clear H14
    refine l_val rfl rfl rfl (r_addG rfl rfl h_t17) ?_
    refine l_val rfl rfl rfl (r_move (v := .int .i64 t17) rfl) ?_
    refine l_nil ?_
    refine c_close (t16, t17) () m1 [] (by exact ⟨rfl, rfl, rfl, rfl, trivial⟩) (by decide) rfl (by exact ⟨(by subst hn1; exact H15), trivial⟩) (Nat.lt_succ_self _)
  · have H16 := cnd_f hb H9; clear H9
    refine c_exit ?_
    refine c_seq ?_
    refine c_region ?_
    refine l_val rfl rfl rfl (r_move (v := str x3_2) rfl) ?_
    refine l_val rfl rfl rfl (r_assign (v := str x3_2) rfl) ?_
    refine l_nil ?_
    refine c_ret ?_
    obtain rfl := Option.some.inj H16
    refine ret1 (v := str x3_2) rfl rfl (fin rfl)
theorem k13 {a0 : (List T_edit_Step)} {v0 : Value} {r : Int} {w : World} {h : Heap} (hw : Know h w noS) (f0 : FrS h 5 v0 (a0.map e_edit_Step)) (H : edit_Check a0 = some r) : Does Tryd.prog 13 (List.toArray [v0]) w (fun v w' => v = (.int .i64 r) ∧ Grow w w') := by
  refine enter (n := 21) Tryd.func13 rfl rfl rfl noS [] (Sat.nil _ _) ?_
  refine c_seq ?_
  refine c_region ?_
  refine l_val rfl rfl rfl (r_assign (v := .int .i64 0) rfl) ?_
  refine l_nil ?_
  refine c_seq ?_
  refine c_seq ?_
  refine c_region ?_
  refine l_val rfl rfl rfl (r_move (v := v0) rfl) ?_
  refine l_val rfl rfl rfl (r_lenF Tryd.underlying22 rfl f0 rfl) ?_
  refine l_val rfl rfl rfl (r_gtr rfl rfl) ?_
  refine l_nil ?_
  refine c_if (b := (decide (50 < (a0.length : Int)))) rfl (fun hb => ?_) (fun hb => ?_)
  · have H11 := cnd_t hb H; clear H
    refine c_seq ?_
    refine c_region ?_
    refine l_val rfl rfl rfl (r_assign (v := .int .i64 4) rfl) ?_
    refine l_nil ?_
    refine c_ret ?_
    obtain rfl := Option.some.inj H11
    refine ret1 (v := .int .i64 4) rfl rfl (fin rfl)
  · have H12 := cnd_f hb H; clear H
    refine c_skip ?_
    refine c_seq ?_
    refine c_seq ?_
    refine c_region ?_
    refine l_val rfl rfl rfl (r_move (v := v0) rfl) ?_
    refine l_val rfl rfl rfl (r_lenF Tryd.underlying22 rfl f0 rfl) ?_
    refine l_val rfl rfl rfl (r_move (v := .int .i64 0) rfl) ?_
    refine l_nil ?_
    refine c_block ?_
    refine c_fix (σ := Int) (τ := Unit) (fun next1 s => edit_Check_l1 a0 next1 s) (fun s t => [(9, v0), (10, .int .i64 (a0.length : Int)), (11, .int .i64 s)]) (fun s t => []) (fun s t => True) 0 () [] H12 (by exact trivial) (by exact ⟨rfl, rfl, rfl, trivial⟩) (by decide) rfl ?_
    rintro x11_2 _ m1 gg H13 _
    clear H12
    replace H13 : edit_Check_l1 a0 (it (fun next1 s => edit_Check_l1 a0 next1 s) m1) x11_2 = some r := H13
    generalize hn1 : it (fun next1 s => edit_Check_l1 a0 next1 s) m1 = next1 at H13
    refine c_tidyF [(9, v0), (10, .int .i64 (a0.length : Int)), (11, .int .i64 x11_2)] [] rfl rfl ?_
    refine c_seq ?_
    refine c_region ?_
    refine l_val rfl rfl rfl (r_lss rfl rfl) ?_
    refine l_nil ?_
    refine c_seq ?_
    refine c_if (b := (decide (x11_2 < (a0.length : Int)))) rfl (fun hb => ?_) (fun hb => ?_)
    · have H14 := cnd_t hb H13; clear H13
      refine c_skip ?_
      refine c_seq ?_
      refine c_block ?_
      refine c_seq ?_
      refine c_region ?_
      obtain ⟨t13, h_t13, H15⟩ := bnd_some H14; clear H14
      refine l_val rfl rfl rfl (r_indexF Tryd.underlying22 Tryd.sizeOf24 rfl rfl f0 h_t13) ?_
      refine l_read (fun w hF hS => run_loadGN (f := e_edit_Step) (i := x11_2) (sz := 5) (j := 0) (vs := [.int .i64 t13.Kind, .int .i64 t13.A, .int .i64 t13.B, .int .i64 t13.C, .int .i64 t13.D]) Tryd.isAgg24 Tryd.sizeOf24 rfl rfl (f0.row (hw.now hF)) h_t13 rfl) rfl rfl rfl ?_
      refine l_alloc (cs := [.int .i64 0, .int .i64 0, .int .i64 0, .int .i64 0, .int .i64 0]) Tryd.zeroValue24 rfl rfl rfl (fun b1 => ?_)
      refine l_store (i := 0) (vs := [.int .i64 t13.Kind, .int .i64 t13.A, .int .i64 t13.B, .int .i64 t13.C, .int .i64 t13.D]) (cs' := [.int .i64 t13.Kind, .int .i64 t13.A, .int .i64 t13.B, .int .i64 t13.C, .int .i64 t13.D]) Tryd.sizeOf24 rfl rfl rfl rfl rfl rfl rfl rfl rfl ?_
      refine l_nil ?_
      refine c_seq ?_
      refine c_region ?_
      refine l_loadN (i := 0) (vs := [.int .i64 t13.Kind, .int .i64 t13.A, .int .i64 t13.B, .int .i64 t13.C, .int .i64 t13.D]) Tryd.isAgg24 Tryd.sizeOf24 rfl rfl rfl rfl rfl ?_
      obtain ⟨t16, h_t16, H16⟩ := bnd_some H15; clear H15
      refine l_call (k6 h_t16) Tryd.call6 rfl rfl rfl ?_
      refine l_val rfl rfl rfl (r_assign (v := .int .i64 t16) rfl) ?_
      refine l_nil ?_
      refine c_seq ?_
      refine c_region ?_
      refine l_val rfl rfl rfl (r_move (v := .int .i64 t16) rfl) ?_
      refine l_val rfl rfl rfl (r_neq rfl rfl) ?_
      refine l_nil ?_
      refine c_if (b := (decide (t16 ≠ 0))) rfl (fun hb => ?_) (fun hb => ?_)
      · have H17 := cnd_t hb H16; clear H16
        refine c_seq ?_
        refine c_region ?_
        refine l_val rfl rfl rfl (r_move (v := .int .i64 t16) rfl) ?_
        refine l_val rfl rfl rfl (r_assign (v := .int .i64 t16) rfl) ?_
        refine l_nil ?_
        refine c_ret ?_
        obtain rfl := Option.some.inj H17
        refine ret1 (v := .int .i64 t16) rfl rfl (fin rfl)
      · have H18 := cnd_f hb H16; clear H16
        refine c_skip ?_
        refine c_region ?_
        obtain ⟨t20, h_t20, H19⟩ := bnd_some H18; clear H18
        refine l_val rfl rfl rfl (r_addG rfl rfl h_t20) ?_
        refine l_val rfl rfl rfl (r_move (v := .int .i64 t20) rfl) ?_
        refine l_nil ?_
        refine c_close t20 () m1 [] (by exact ⟨rfl, rfl, rfl, trivial⟩) (by decide) rfl (by exact ⟨(by subst hn1; exact H19), trivial⟩) (Nat.lt_succ_self _)
    · have H20 := cnd_f hb H13; clear H13
      refine c_exit ?_
      refine c_seq ?_
      refine c_region ?_
      refine l_val rfl rfl rfl (r_assign (v := .int .i64 0) rfl) ?_
      refine l_nil ?_
      refine c_ret ?_
      obtain rfl := Option.some.inj H20
      refine ret1 (v := .int .i64 0) rfl rfl (fin rfl)
theorem ext95 (x : Value) (w : World) : (callFunc 95 (List.toArray [x])).run Tryd.prog w = .ok (.value x) w := by
  have h0 : (callFunc 95 #[x]).run Tryd.prog w = (do pure (.value (← Extern.AbiNoEscape.same #[x])) : Sem Next).run Tryd.prog w := by kernel_rfl
  rw [h0]; rfl

theorem k73 {pb0 : Nat} {q sl : Value} {w : World} {S : Nat → Prop} (hcs : (cellsC pb0 [q, sl] 79).P S w) (hlt : ∀ b, S b → b < w.heap.size) (hq : q = .pointer none ∨ q = .pointer (some ⟨pb0, 0, none⟩)) : Does Tryd.prog 73 (List.toArray [.pointer (some ⟨pb0, 0, none⟩)]) w (fun v w' => ∃ x : Unit, v = .tuple #[] ∧ Turn w w' S (cellsC pb0 [.pointer (some ⟨pb0, 0, none⟩), sl] 79)) := by
  refine enter (n := 20) Tryd.func73 rfl rfl rfl S [cellsC pb0 [q, sl] 79] (Sat.one hcs hlt) ?_
  refine c_seq ?_
  refine c_region ?_
  refine l_val rfl rfl rfl (r_move (v := .pointer (some ⟨pb0, 0, none⟩)) rfl) ?_
  refine l_val rfl rfl rfl (r_nilCheck rfl) ?_
  refine l_val rfl rfl rfl (r_field Tryd.runUnderlying79 rfl Tryd.sizeOf76 rfl rfl) ?_
  refine l_load1 (i := 0) (v := q) Tryd.isAgg76 rfl rfl rfl rfl rfl ?_
  rcases hq with rfl | rfl
  · refine l_val rfl rfl rfl (r_nilP (a := none) Tryd.underlying76 rfl rfl) ?_
    refine l_nil ?_
    refine c_true rfl ?_
    refine c_region ?_
    refine l_val rfl rfl rfl (r_move (v := .pointer (some ⟨pb0, 0, none⟩)) rfl) ?_
    refine l_val rfl rfl rfl (r_move (v := .pointer (some ⟨pb0, 0, none⟩)) rfl) ?_
    refine l_read (fun w hF hS => run_toU (cs := [.pointer none, sl]) (T := 79) Tryd.underlying76 Tryd.underlying138 (info_of Tryd.typeInfo79) (by decide) (sat_cell (i := 0) hS rfl) rfl rfl) rfl rfl rfl ?_
    refine l_val rfl rfl rfl (r_ext (args := [.pointer (some ⟨pb0, 0, none⟩)]) (ext95 _) rfl) ?_
    refine l_read (fun w hF hS => run_fromU (cs := [.pointer none, sl]) (T := 79) Tryd.underlying138 Tryd.underlying76 (info_of Tryd.typeInfo79) (sat_cell (i := 0) hS rfl) (by kernel_rfl) rfl) rfl rfl rfl ?_
    refine l_val rfl rfl rfl (r_nilCheck rfl) ?_
    refine l_val rfl rfl rfl (r_field Tryd.runUnderlying79 rfl Tryd.sizeOf76 rfl rfl) ?_
    refine l_store (i := 0) (vs := [.pointer (some ⟨pb0, 0, none⟩)]) (cs' := [.pointer (some ⟨pb0, 0, none⟩), sl]) Tryd.sizeOf76 rfl rfl rfl rfl rfl rfl rfl rfl rfl ?_
    refine l_nil ?_
    exact ret0n rfl (finX () (i := 0) rfl rfl (Imp.refl _))
  · refine l_val rfl rfl rfl (r_nilP (a := some ⟨pb0, 0, none⟩) Tryd.underlying76 rfl rfl) ?_
    refine l_nil ?_
    refine c_false rfl ?_
    refine c_seq ?_
    refine c_region ?_
    refine l_val rfl rfl rfl (r_move (v := .pointer (some ⟨pb0, 0, none⟩)) rfl) ?_
    refine l_val rfl rfl rfl (r_nilCheck rfl) ?_
    refine l_val rfl rfl rfl (r_field Tryd.runUnderlying79 rfl Tryd.sizeOf76 rfl rfl) ?_
    refine l_load1 (i := 0) (v := .pointer (some ⟨pb0, 0, none⟩)) Tryd.isAgg76 rfl rfl rfl rfl rfl ?_
    refine l_val rfl rfl rfl (r_move (v := .pointer (some ⟨pb0, 0, none⟩)) rfl) ?_
    refine l_val rfl rfl rfl (r_sameP Tryd.underlying76 (info_of Tryd.typeInfo79) rfl rfl) ?_
    refine l_nil ?_
    refine c_false rfl ?_
    refine c_skip ?_
    exact ret0n rfl (finX () (i := 0) rfl rfl (Imp.refl _))

theorem k42 {a0 : List UInt8} {pb0 : Nat} {a1 r : List UInt8} {w : World} {h : Heap} {S : Nat → Prop} (hcs : (bldC pb0 79 5 a0).P S w) (hlt : ∀ b, S b → b < w.heap.size) (hw : Know h w S) (H : gBld a0 a1 = some r) : Does Tryd.prog 42 (List.toArray [.pointer (some ⟨pb0, 0, none⟩), str a1]) w (fun v w' => ∃ x : Unit, v = .tuple #[.int .i64 (a1.length : Int), .nilIface] ∧ Turn w w' S (bldC pb0 79 5 r)) := by
  obtain ⟨rfl, hne, hbl⟩ := gBld_some H
  have hg : gApL 1 (ofStr a0) (ofStr a1) = some (ofStr (a0 ++ a1)) := by rw [gApL_ok (by simp [ofStr]; omega)]; simp [ofStr]
  refine enter (n := 19) Tryd.func42 rfl rfl rfl S [bldC pb0 79 5 a0] (Sat.one hcs hlt) ?_
  refine c_bld 0 rfl (fun q p hq hp => ?_)
  refine c_split 0 rfl ?_
  refine c_seq ?_
  refine c_region ?_
  refine l_val rfl rfl rfl (r_assign (v := .int .i64 0) rfl) ?_
  refine l_val rfl rfl rfl (r_assign (v := .nilIface) rfl) ?_
  refine l_nil ?_
  refine c_seq ?_
  refine c_region ?_
  refine l_val rfl rfl rfl (r_move (v := .pointer (some ⟨pb0, 0, none⟩)) rfl) ?_
  refine l_turn (turns_callB (i := 0) (rds := []) (G := fun _ : Unit => .tuple #[]) (C := fun _ => cellsC pb0 [.pointer (some ⟨pb0, 0, none⟩), .slice p.1 (ofStr a0).length p.2] 79) rfl (fun w L' S hF hS hi hp' hlt ho hA => k73 hp' hlt hq) Tryd.call73 rfl) rfl rfl rfl (fun _ => ?_)
  refine l_nil ?_
  refine c_seq ?_
  refine c_region ?_
  refine l_val rfl rfl rfl (r_move (v := .pointer (some ⟨pb0, 0, none⟩)) rfl) ?_
  refine l_val rfl rfl rfl (r_move (v := .pointer (some ⟨pb0, 0, none⟩)) rfl) ?_
  refine l_val rfl rfl rfl (r_nilCheck rfl) ?_
  refine l_val rfl rfl rfl (r_field Tryd.runUnderlying79 rfl Tryd.sizeOf77 rfl rfl) ?_
  refine l_load1 (i := 0) (v := .slice p.1 (ofStr a0).length p.2) Tryd.isAgg77 rfl rfl rfl rfl rfl ?_
  refine l_val rfl rfl rfl (r_move (v := str a1) rfl) ?_
  refine l_turn (turns_strG (i := 1) (rds := []) (f := e8) rfl Tryd.underlying77 Tryd.underlying9 (info_of Tryd.typeInfo5) rfl rfl rfl rfl rfl rfl (fun _ => rfl) hg) rfl rfl rfl (fun p2 => ?_)
  refine l_val rfl rfl rfl (r_nilCheck rfl) ?_
  refine l_val rfl rfl rfl (r_field Tryd.runUnderlying79 rfl Tryd.sizeOf77 rfl rfl) ?_
  refine l_store (i := 0) (vs := [.slice p2.1 (ofStr (a0 ++ a1)).length p2.2]) (cs' := [.pointer (some ⟨pb0, 0, none⟩), .slice p2.1 (ofStr (a0 ++ a1)).length p2.2]) Tryd.sizeOf77 rfl rfl rfl rfl rfl rfl rfl rfl rfl ?_
  refine l_nil ?_
  refine c_seq ?_
  refine c_region ?_
  refine l_val rfl rfl rfl (r_move (v := str a1) rfl) ?_
  refine l_val rfl rfl rfl (r_lenT Tryd.underlying9 rfl) ?_
  refine l_val rfl rfl rfl (r_assign (v := .int .i64 (a1.length : Int)) rfl) ?_
  refine l_val rfl rfl rfl (r_assign (v := .nilIface) rfl) ?_
  refine l_nil ?_
  refine c_ret ?_
  refine c_both 0 1 rfl rfl (by decide) ?_
  exact ret2 rfl rfl rfl (finX () (i := 0) rfl rfl (imp_bld (by simp [hne])))

theorem k43 {a0 : T_edit_Step} {r : (List UInt8)} {w : World} {h : Heap} (hw : Know h w noS) (tb_pow10 : TabH Tryd.prog h "internal/strconv.uint64pow10" .u64 Lib.pow10Tab) (H : edit_Step_line a0 = some r) : Does Tryd.prog 43 (List.toArray [.agg #[.int .i64 a0.Kind, .int .i64 a0.A, .int .i64 a0.B, .int .i64 a0.C, .int .i64 a0.D]]) w (fun v w' => v = (str r) ∧ Grow w w') := by
  refine enter (n := 29) Tryd.func43 rfl rfl rfl noS [] (Sat.nil _ _) ?_
  refine c_seq ?_
  refine c_region ?_
  refine l_box (cs := [.int .i64 a0.Kind, .int .i64 a0.A, .int .i64 a0.B, .int .i64 a0.C, .int .i64 a0.D]) rfl rfl rfl rfl (fun b1 => ?_)
  refine l_val rfl rfl rfl (r_assign (v := str []) rfl) ?_
  refine l_nil ?_
  refine c_seq ?_
  refine c_region ?_
  refine l_val rfl rfl rfl (r_field Tryd.runUnderlying24 rfl Tryd.sizeOf3 rfl rfl) ?_
  refine l_load1 (i := 0) (v := .int .i64 a0.Kind) Tryd.isAgg3 rfl rfl rfl rfl rfl ?_
  obtain ⟨t10, h_t10, H12⟩ := bnd_some H; clear H
  refine l_call (k36 h_t10) Tryd.call36 rfl rfl rfl ?_
  refine l_val rfl rfl rfl (r_move (v := .tuple #[str t10.1, .int .i64 t10.2]) rfl) ?_
  refine l_val rfl rfl rfl (r_extract (v := str t10.1) rfl rfl) ?_
  refine l_val rfl rfl rfl (r_extract (v := .int .i64 t10.2) rfl rfl) ?_
  refine l_val rfl rfl rfl (r_assign (v := str t10.1) rfl) ?_
  refine l_val rfl rfl rfl (r_assign (v := .int .i64 t10.2) rfl) ?_
  refine l_nil ?_
  refine c_seq ?_
  refine c_seq ?_
  refine c_region ?_
  refine l_loadN (i := 0) (vs := [.int .i64 a0.Kind, .int .i64 a0.A, .int .i64 a0.B, .int .i64 a0.C, .int .i64 a0.D]) Tryd.isAgg24 Tryd.sizeOf24 rfl rfl rfl rfl rfl ?_
  obtain ⟨t14, h_t14, H13⟩ := bnd_some H12; clear H12
  refine l_make (makes_call (rds := []) (G := fun x : (Option Addr × Nat) => .slice x.1 t14.length x.2) (C := fun x : (Option Addr × Nat) => rowV 3 1 (.slice x.1 t14.length x.2) t14.length (t14.map e_i64)) (fun w L' hF hS hi => k37 (know_all w)  h_t14) Tryd.call37 rfl) rfl rfl rfl (fun p => ?_)
  refine l_val rfl rfl rfl (r_move (v := .int .i64 t10.2) rfl) ?_
  obtain ⟨t16, h_t16, H14⟩ := bnd_some H13; clear H13
  refine l_read (v := .slice p.1 t16.length p.2) (fun w hF hS => run_sliceHO0 (xs := t14) Tryd.underlying69 Tryd.sizeOf3 rfl rfl rfl (capOf (i := 1) hS rfl) h_t16) rfl rfl rfl ?_
  refine l_val rfl rfl rfl (r_len Tryd.underlying69 rfl) ?_
  refine l_val rfl rfl rfl (r_move (v := .int .i64 0) rfl) ?_
  refine l_nil ?_
  refine c_block ?_
  refine c_sel [1] [rowV 3 1 (.slice p.1 t14.length p.2) t14.length (t14.map e_i64)] rfl (by decide) ?_
  refine c_fix (σ := (List UInt8) × Int) (τ := Unit) (fun next1 s => edit_Step_line_l1 t16 next1 s.1 s.2) (fun s t => [(3, str s.1), (16, .slice p.1 t16.length p.2), (17, .int .i64 (t16.length : Int)), (18, .int .i64 s.2)]) (fun s t => [rowV 3 1 (.slice p.1 t14.length p.2) t14.length (t14.map e_i64)]) (fun s t => True) (t10.1, 0) () [0] H14 (by exact trivial) (by exact ⟨rfl, rfl, rfl, rfl, trivial⟩) (by decide) rfl ?_
  rintro ⟨x3_2, x18_2⟩ _ m1 gg H15 _
  clear H14
  replace H15 : edit_Step_line_l1 t16 (it (fun next1 s => edit_Step_line_l1 t16 next1 s.1 s.2) m1) x3_2 x18_2 = some r := H15
  generalize hn1 : it (fun next1 s => edit_Step_line_l1 t16 next1 s.1 s.2) m1 = next1 at H15
  refine c_tidyF [(3, str x3_2), (16, .slice p.1 t16.length p.2), (17, .int .i64 (t16.length : Int)), (18, .int .i64 x18_2)] [rowV 3 1 (.slice p.1 t14.length p.2) t14.length (t14.map e_i64)] rfl rfl ?_
  refine c_seq ?_
  refine c_region ?_
  refine l_val rfl rfl rfl (r_lss rfl rfl) ?_
  refine l_nil ?_
  refine c_seq ?_
  refine c_if (b := (decide (x18_2 < (t16.length : Int)))) rfl (fun hb => ?_) (fun hb => ?_)
  · have H16 := cnd_t hb H15; clear H15
    refine c_skip ?_
    refine c_seq ?_
    refine c_block ?_
    refine c_seq ?_
    refine c_region ?_
    obtain ⟨t20, h_t20, H17⟩ := bnd_some H16; clear H16
    refine l_read (fun w hF hS => run_indexO Tryd.underlying69 Tryd.sizeOf3 rfl rfl (Row.cut0G (rowOf (i := 0) hS rfl) rfl (capOf (i := 0) hS rfl) h_t16) rfl h_t20) rfl rfl rfl ?_
    refine l_read (fun w hF hS => run_loadG1 (f := e_i64) (i := x18_2) (sz := 1) (j := 0) (v := .int .i64 t20) Tryd.isAgg3 rfl rfl (Row.cut0G (rowOf (i := 0) hS rfl) rfl (capOf (i := 0) hS rfl) h_t16) h_t20 rfl) rfl rfl rfl ?_
    refine l_val rfl rfl rfl (r_assign (v := .int .i64 t20) rfl) ?_
    refine l_nil ?_
    refine c_region ?_
    refine l_val rfl rfl rfl (r_move (v := str x3_2) rfl) ?_
    refine l_val rfl rfl rfl (r_move (v := .int .i64 t20) rfl) ?_
    obtain ⟨t24, h_t24, H18⟩ := bnd_some H17; clear H17
    refine l_callG (fun w hF hS => k72 (know_all w) (tb_pow10.mono (hw.now hF)) h_t24) Tryd.call72 rfl rfl rfl ?_
    obtain ⟨t25, h_t25, H19⟩ := bnd_some H18; clear H18
    refine l_val rfl rfl rfl (r_concatG rfl rfl h_t25) ?_
    obtain ⟨t26, h_t26, H20⟩ := bnd_some H19; clear H19
    refine l_val rfl rfl rfl (r_concatG rfl rfl h_t26) ?_
    refine l_val rfl rfl rfl (r_assign (v := str t26) rfl) ?_
    refine l_nil ?_
    refine c_region ?_
    obtain ⟨t27, h_t27, H21⟩ := bnd_some H20; clear H20
    refine l_val rfl rfl rfl (r_addG rfl rfl h_t27) ?_
    refine l_val rfl rfl rfl (r_move (v := .int .i64 t27) rfl) ?_
    refine l_nil ?_
    refine c_close (t26, t27) () m1 [0] (by exact ⟨rfl, rfl, rfl, rfl, trivial⟩) (by decide) rfl (by exact ⟨(by subst hn1; exact H21), trivial⟩) (Nat.lt_succ_self _)
  · have H22 := cnd_f hb H15; clear H15
    refine c_exit ?_
    refine c_seq ?_
    refine c_region ?_
    refine l_val rfl rfl rfl (r_move (v := str x3_2) rfl) ?_
    refine l_val rfl rfl rfl (r_assign (v := str x3_2) rfl) ?_
    refine l_nil ?_
    refine c_ret ?_
    obtain rfl := Option.some.inj H22
    refine ret1 (v := str x3_2) rfl rfl (fin rfl)
theorem k44 {a0 : List UInt8} {pb0 : Nat}  {w : World} {h : Heap} {S : Nat → Prop} (hcs : (bldC pb0 79 5 a0).P S w) (hlt : ∀ b, S b → b < w.heap.size) (hw : Know h w S)  : Does Tryd.prog 44 (List.toArray [.pointer (some ⟨pb0, 0, none⟩)]) w (fun v w' => ∃ x : Unit, v = str a0 ∧ Turn w w' S empC) := by
  refine enter (n := 14) Tryd.func44 rfl rfl rfl S [bldC pb0 79 5 a0] (Sat.one hcs hlt) ?_
  refine c_bld 0 rfl (fun q p hq hp => ?_)
  refine c_split 0 rfl ?_
  refine c_seq ?_
  refine c_region ?_
  refine l_val rfl rfl rfl (r_assign (v := str []) rfl) ?_
  refine l_nil ?_
  refine c_seq ?_
  exact c_regionD (Kd.p :: Kd.p :: Kd.p :: Kd.d [0] _ :: Kd.p :: Kd.p :: Kd.p :: Kd.p :: Kd.d [0] _ :: Kd.p :: Kd.t 1 [] _ _ :: Kd.p :: []) 0 mixed (by
    refine d_val rfl rfl (r_move (v := .pointer (some ⟨pb0, 0, none⟩)) rfl) ?_
    refine d_val rfl rfl (r_nilCheck rfl) ?_
    refine d_val rfl rfl (r_field Tryd.runUnderlying79 rfl Tryd.sizeOf77 rfl rfl) ?_
    refine d_load1 (i := 0) (v := .slice p.1 (ofStr a0).length p.2) Tryd.isAgg77 rfl rfl rfl rfl ?_
    refine d_val rfl rfl (r_ssd hp rfl) ?_
    refine d_val rfl rfl (r_move (v := .pointer (some ⟨pb0, 0, none⟩)) rfl) ?_
    refine d_val rfl rfl (r_nilCheck rfl) ?_
    refine d_val rfl rfl (r_field Tryd.runUnderlying79 rfl Tryd.sizeOf77 rfl rfl) ?_
    refine d_load1 (i := 0) (v := .slice p.1 (ofStr a0).length p.2) Tryd.isAgg77 rfl rfl rfl rfl ?_
    refine d_val rfl rfl (r_len Tryd.underlying77 rfl) ?_
    refine d_turn (Cv := fun _ => empC) () (turns_ustr (i := 1) (bs := a0) (p := p) Tryd.underlying120 (by kernel_rfl) rfl rfl rfl) (fun _ => rfl) rfl rfl (fun _ => ?_)
    refine d_val rfl rfl (r_assign (v := str a0) rfl) ?_
    refine d_nil ?_
    refine c_ret ?_
    exact ret1 rfl rfl (finX () (i := 1) rfl rfl (Imp.refl _))
  ) (by kernel_rfl)

theorem k12 {a0 : (List T_edit_Step)} {v0 : Value} {r : (List UInt8) × Int} {w : World} {h : Heap} (hw : Know h w noS) (f0 : FrS h 5 v0 (a0.map e_edit_Step)) (tb_pow10 : TabH Tryd.prog h "internal/strconv.uint64pow10" .u64 Lib.pow10Tab) (H : edit_Text a0 = some r) : Does Tryd.prog 12 (List.toArray [v0]) w (fun v w' => v = (.tuple #[str r.1, .int .i64 r.2]) ∧ Grow w w') := by
  refine enter (n := 25) Tryd.func12 rfl rfl rfl noS [] (Sat.nil _ _) ?_
  refine c_seq ?_
  refine c_region ?_
  refine l_val rfl rfl rfl (r_assign (v := str []) rfl) ?_
  refine l_val rfl rfl rfl (r_assign (v := .int .i64 0) rfl) ?_
  refine l_nil ?_
  refine c_seq ?_
  refine c_seq ?_
  refine c_region ?_
  refine l_val rfl rfl rfl (r_move (v := v0) rfl) ?_
  obtain ⟨t9, h_t9, H13⟩ := bnd_some H; clear H
  refine l_callG (fun w hF hS => k13 (know_all w) (f0.mono (hw.now hF)) h_t9) Tryd.call13 rfl rfl rfl ?_
  refine l_val rfl rfl rfl (r_assign (v := .int .i64 t9) rfl) ?_
  refine l_nil ?_
  refine c_seq ?_
  refine c_region ?_
  refine l_val rfl rfl rfl (r_move (v := .int .i64 t9) rfl) ?_
  refine l_val rfl rfl rfl (r_neq rfl rfl) ?_
  refine l_nil ?_
  refine c_if (b := (decide (t9 ≠ 0))) rfl (fun hb => ?_) (fun hb => ?_)
  · have H14 := cnd_t hb H13; clear H13
    refine c_seq ?_
    refine c_region ?_
    refine l_val rfl rfl rfl (r_move (v := .int .i64 t9) rfl) ?_
    refine l_val rfl rfl rfl (r_assign (v := str []) rfl) ?_
    refine l_val rfl rfl rfl (r_assign (v := .int .i64 t9) rfl) ?_
    refine l_nil ?_
    refine c_ret ?_
    obtain rfl := Option.some.inj H14
    refine ret2 (v1 := str []) (v2 := .int .i64 t9) rfl rfl rfl (fin rfl)
  · have H15 := cnd_f hb H13; clear H13
    refine c_skip ?_
    refine c_seq ?_
    refine c_region ?_
    refine l_alloc (cs := [.pointer none, .slice none 0 0]) Tryd.zeroValue79 rfl rfl rfl (fun b2 => ?_)
    refine c_imp 0 rfl (imp_bldNew _ _ 5) ?_
    refine l_nil ?_
    refine c_meet (r := r) (σ := (List UInt8)) (τ := Unit) (fun s => edit_Text_j1 s) (fun s t => [(5, .pointer (some ⟨b2, 0, none⟩))]) (fun s t => [bldC b2 79 5 s]) (fun s t => True) ?_ ?_
    · refine c_seq ?_
      refine c_region ?_
      refine l_val rfl rfl rfl (r_move (v := v0) rfl) ?_
      refine l_val rfl rfl rfl (r_lenF Tryd.underlying22 rfl f0 rfl) ?_
      refine l_val rfl rfl rfl (r_move (v := .int .i64 0) rfl) ?_
      refine l_nil ?_
      refine c_block ?_
      refine c_fix (σ := Int × (List UInt8)) (τ := Unit) (fun next2 s => edit_Text_l2 a0 next2 s.1 s.2) (fun s t => [(5, .pointer (some ⟨b2, 0, none⟩)), (13, v0), (14, .int .i64 (a0.length : Int)), (15, .int .i64 s.1)]) (fun s t => [bldC b2 79 5 s.2]) (fun s t => True) (0, []) () [0] H15 (by exact trivial) (by exact ⟨rfl, rfl, rfl, rfl, trivial⟩) (by decide) rfl ?_
      rintro ⟨x15_2, m_3⟩ _ m2 gg H17 _
      clear H15
      replace H17 : edit_Text_l2 a0 (it (fun next2 s => edit_Text_l2 a0 next2 s.1 s.2) m2) x15_2 m_3 = some r := H17
      generalize hn2 : it (fun next2 s => edit_Text_l2 a0 next2 s.1 s.2) m2 = next2 at H17
      refine c_tidyF [(5, .pointer (some ⟨b2, 0, none⟩)), (13, v0), (14, .int .i64 (a0.length : Int)), (15, .int .i64 x15_2)] [bldC b2 79 5 m_3] rfl rfl ?_
      refine c_seq ?_
      refine c_region ?_
      refine l_val rfl rfl rfl (r_lss rfl rfl) ?_
      refine l_nil ?_
      refine c_seq ?_
      refine c_if (b := (decide (x15_2 < (a0.length : Int)))) rfl (fun hb => ?_) (fun hb => ?_)
      · have H18 := cnd_t hb H17; clear H17
        refine c_skip ?_
        refine c_seq ?_
        refine c_block ?_
        refine c_seq ?_
        refine c_region ?_
        obtain ⟨t17, h_t17, H19⟩ := bnd_some H18; clear H18
        refine l_val rfl rfl rfl (r_indexF Tryd.underlying22 Tryd.sizeOf24 rfl rfl f0 h_t17) ?_
        refine l_read (fun w hF hS => run_loadGN (f := e_edit_Step) (i := x15_2) (sz := 5) (j := 0) (vs := [.int .i64 t17.Kind, .int .i64 t17.A, .int .i64 t17.B, .int .i64 t17.C, .int .i64 t17.D]) Tryd.isAgg24 Tryd.sizeOf24 rfl rfl (f0.row (hw.now hF)) h_t17 rfl) rfl rfl rfl ?_
        refine l_alloc (cs := [.int .i64 0, .int .i64 0, .int .i64 0, .int .i64 0, .int .i64 0]) Tryd.zeroValue24 rfl rfl rfl (fun b3 => ?_)
        refine l_store (i := 1) (vs := [.int .i64 t17.Kind, .int .i64 t17.A, .int .i64 t17.B, .int .i64 t17.C, .int .i64 t17.D]) (cs' := [.int .i64 t17.Kind, .int .i64 t17.A, .int .i64 t17.B, .int .i64 t17.C, .int .i64 t17.D]) Tryd.sizeOf24 rfl rfl rfl rfl rfl rfl rfl rfl rfl ?_
        refine l_nil ?_
        refine c_region ?_
        refine l_loadN (i := 1) (vs := [.int .i64 t17.Kind, .int .i64 t17.A, .int .i64 t17.B, .int .i64 t17.C, .int .i64 t17.D]) Tryd.isAgg24 Tryd.sizeOf24 rfl rfl rfl rfl rfl ?_
        obtain ⟨t20, h_t20, H20⟩ := bnd_some H19; clear H19
        refine l_callG (fun w hF hS => k43 (know_all w) (tb_pow10.mono (hw.now hF)) h_t20) Tryd.call43 rfl rfl rfl ?_
        obtain ⟨t21, h_t21, H21⟩ := bnd_some H20; clear H20
        refine l_val rfl rfl rfl (r_concatG rfl rfl h_t21) ?_
        obtain ⟨t22, h_t22, H22⟩ := bnd_some H21; clear H21
        refine l_turn (turns_callB (i := 0) (rds := []) (G := fun _ : Unit => .tuple #[.int .i64 (t21.length : Int), .nilIface]) (C := fun _ => bldC b2 79 5 t22) rfl (fun w L' S hF hS hi hp hlt ho hA => k42 hp hlt (know_but w S) h_t22) Tryd.call42 rfl) rfl rfl rfl (fun _ => ?_)
        refine l_nil ?_
        refine c_region ?_
        obtain ⟨t23, h_t23, H23⟩ := bnd_some H22; clear H22
        refine l_val rfl rfl rfl (r_addG rfl rfl h_t23) ?_
        refine l_val rfl rfl rfl (r_move (v := .int .i64 t23) rfl) ?_
        refine l_nil ?_
        refine c_close (t23, t22) () m2 [0] (by exact ⟨rfl, rfl, rfl, rfl, trivial⟩) (by decide) rfl (by exact ⟨(by subst hn2; exact H23), trivial⟩) (Nat.lt_succ_self _)
      · have H24 := cnd_f hb H17; clear H17
        refine c_exit ?_
        refine c_close m_3 () 0 [0] (by exact ⟨rfl, trivial⟩) (by decide) rfl (by exact ⟨H24, trivial⟩) (Nat.lt_succ_self _)
    · rintro m _ gg H16 _
      replace H16 : edit_Text_j1 m = some r := H16
      refine c_tidyF [(5, .pointer (some ⟨b2, 0, none⟩))] [bldC b2 79 5 m] rfl rfl ?_
      refine c_seq ?_
      refine c_region ?_
      refine l_turn (turns_callB (i := 0) (rds := []) (G := fun _ : Unit => str m) (C := fun _ => empC) rfl (fun w L' S hF hS hi hp hlt ho hA => k44 hp hlt (know_but w S)) Tryd.call44 rfl) rfl rfl rfl (fun _ => ?_)
      refine l_val rfl rfl rfl (r_assign (v := str m) rfl) ?_
      refine l_val rfl rfl rfl (r_assign (v := .int .i64 0) rfl) ?_
      refine l_nil ?_
      refine c_ret ?_
      obtain rfl := Option.some.inj H16
      refine ret2 (v1 := str m) (v2 := .int .i64 0) rfl rfl rfl (fin rfl)
end Go.Proofs.YtaonhnkojkkmbaaDoor
