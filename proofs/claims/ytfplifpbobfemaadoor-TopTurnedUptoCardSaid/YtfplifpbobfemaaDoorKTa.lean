/- TopTurned, first part: the walks, printed by our generator; each follows its model. Conditions: the model yields a value. -/
import Derived.Test.YtfplifpbobfemaaDoorMTt
import Derived.Test.YtfplifpbobfemaaDoorProg
import Derived.Test.YtfplifpbobfemaaDoorLx15
import Derived.Test.YtfplifpbobfemaaDoorSrt
import Derived.Test.YtfplifpbobfemaaDoorLx17
import Derived.Test.YtfplifpbobfemaaDoorLx18
import Derived.Test.YtfplifpbobfemaaDoorLx19
namespace Go.Proofs.YtfplifpbobfemaaDoor
open Go Go.Vc Go.Md Go.M Go.Lx
set_option maxRecDepth 100000
set_option maxHeartbeats 4000000
set_option linter.unusedVariables false

theorem mixed : Tryd.prog.follows .mixedOrders = true := by kernel_rfl

abbrev e_i64 (x : Int) : List Value := [.int .i64 x]
abbrev e_edit_Step (x : T_edit_Step) : List Value := [.int .i64 x.Kind, .int .i64 x.A, .int .i64 x.B, .int .i64 x.C, .int .i64 x.D]
abbrev e_u8 (x : Int) : List Value := [.int .u8 x]
def fnR_func_int_int_int_int_int_int (m : (Int → Int → Int → Int → Option (Int × Int))) (w : World) (args : List Value) (post : Value → World → Prop) : Prop :=
  ∃ (a0 : Int) (a1 : Int) (a2 : Int) (a3 : Int) (r : Int × Int), args = [.int .i64 a0, .int .i64 a1, .int .i64 a2, .int .i64 a3] ∧ m a0 a1 a2 a3 = some r ∧ post = fun v' w' => v' = (.tuple #[.int .i64 r.1, .int .i64 r.2]) ∧ Grow w w'
abbrev e_pix_share (x : T_pix_share) : List Value := [.int .i64 x.at_, .int .i64 x.parts_]
def fnR_func_uint8_uint8 (m : (Int → Option (Int))) (w : World) (args : List Value) (post : Value → World → Prop) : Prop :=
  ∃ (a0 : Int) (r : Int), args = [.int .u8 a0] ∧ m a0 = some r ∧ post = fun v' w' => v' = (.int .u8 r) ∧ Grow w w'
def fnR_func_3_uint8_3_uint8 (m : ((Nat → Int) → Option ((Nat → Int)))) (w : World) (args : List Value) (post : Value → World → Prop) : Prop :=
  ∃ (a0 : (Nat → Int)) (r : (Nat → Int)), args = [.agg #[.int .u8 (a0 0), .int .u8 (a0 1), .int .u8 (a0 2)]] ∧ m a0 = some r ∧ post = fun v' w' => v' = (.agg #[.int .u8 (r 0), .int .u8 (r 1), .int .u8 (r 2)]) ∧ Grow w w'
abbrev e_u64 (x : Int) : List Value := [.int .u64 x]


theorem k25 {a0 : Int} {a1 : Int} {a2 : Int} {r : Bool} (H : edit_outside a0 a1 a2 = some r) : Ret Tryd.prog 25 [.int .i64 a0, .int .i64 a1, .int .i64 a2] (.bool r) := by
  refine enterRet (n := 15) Tryd.func25 rfl rfl rfl (fun wd => ?_)
  refine c_seq ?_
  refine c_region ?_
  refine l_val rfl rfl rfl (r_assign (v := .bool false) rfl) ?_
  refine l_nil ?_
  refine c_seq ?_
  refine c_region ?_
  refine l_val rfl rfl rfl (r_move (v := .int .i64 a0) rfl) ?_
  refine l_val rfl rfl rfl (r_move (v := .int .i64 a1) rfl) ?_
  refine l_val rfl rfl rfl (r_lss rfl rfl) ?_
  refine l_val rfl rfl rfl (r_move (v := .bool (decide (a0 < a1))) rfl) ?_
  refine split (fun hb => ?_) (fun hb => ?_)
  · have H3 := cnd_t hb H; clear H
    refine l_passed rfl rfl rfl ?_
    refine l_passed rfl rfl rfl ?_
    refine l_passed rfl rfl rfl ?_
    refine l_val rfl rfl rfl (r_pickT (v := .bool true) rfl rfl) ?_
    refine l_val rfl rfl rfl (r_assign (v := .bool true) rfl) ?_
    refine l_nil ?_
    refine c_ret ?_
    obtain rfl := Option.some.inj H3
    refine ret1 (v := .bool true) rfl rfl (fin rfl)
  · have H4 := cnd_f hb H; clear H
    refine l_val rfl rfl rfl (r_move (v := .int .i64 a0) rfl) ?_
    refine l_val rfl rfl rfl (r_move (v := .int .i64 a2) rfl) ?_
    refine l_val rfl rfl rfl (r_gtr rfl rfl) ?_
    refine l_val rfl rfl rfl (r_pickF (v := .bool (decide (a2 < a0))) rfl rfl) ?_
    refine l_val rfl rfl rfl (r_assign (v := .bool (decide (a2 < a0))) rfl) ?_
    refine l_nil ?_
    refine c_ret ?_
    obtain rfl := Option.some.inj H4
    refine ret1 (v := .bool (decide (a2 < a0))) rfl rfl (fin rfl)
theorem k36 {a0 : Int} {r : (List UInt8) × Int} (H : edit_word a0 = some r) : Ret Tryd.prog 36 [.int .i64 a0] (.tuple #[str r.1, .int .i64 r.2]) := by
  refine enterRet (n := 21) Tryd.func36 rfl rfl rfl (fun wd => ?_)
  refine c_seq ?_
  refine c_region ?_
  refine l_val rfl rfl rfl (r_assign (v := str []) rfl) ?_
  refine l_val rfl rfl rfl (r_assign (v := .int .i64 0) rfl) ?_
  refine l_nil ?_
  refine c_seq ?_
  refine c_seq ?_
  refine c_region ?_
  refine l_val rfl rfl rfl (r_move (v := .int .i64 a0) rfl) ?_
  refine l_nil ?_
  refine c_block ?_
  refine c_seq ?_
  refine c_region ?_
  refine l_val rfl rfl rfl (r_eql rfl rfl) ?_
  refine l_val rfl rfl rfl (r_assign (v := .bool (decide (a0 = 1))) rfl) ?_
  refine l_nil ?_
  refine c_if (b := (decide (a0 = 1))) rfl (fun hb => ?_) (fun hb => ?_)
  · have H17 := cnd_t hb H; clear H
    refine c_seq ?_
    refine c_region ?_
    refine l_val rfl rfl rfl (r_assign (v := str [116, 117, 114, 110]) rfl) ?_
    refine l_val rfl rfl rfl (r_assign (v := .int .i64 1) rfl) ?_
    refine l_nil ?_
    refine c_ret ?_
    obtain rfl := Option.some.inj H17
    refine ret2 (v1 := str [116, 117, 114, 110]) (v2 := .int .i64 1) rfl rfl rfl (fin rfl)
  · have H18 := cnd_f hb H; clear H
    refine c_seq ?_
    refine c_region ?_
    refine l_val rfl rfl rfl (r_eql rfl rfl) ?_
    refine l_val rfl rfl rfl (r_assign (v := .bool (decide (a0 = 2))) rfl) ?_
    refine l_nil ?_
    refine c_if (b := (decide (a0 = 2))) rfl (fun hb => ?_) (fun hb => ?_)
    · have H19 := cnd_t hb H18; clear H18
      refine c_seq ?_
      refine c_region ?_
      refine l_val rfl rfl rfl (r_assign (v := str [99, 114, 111, 112]) rfl) ?_
      refine l_val rfl rfl rfl (r_assign (v := .int .i64 4) rfl) ?_
      refine l_nil ?_
      refine c_ret ?_
      obtain rfl := Option.some.inj H19
      refine ret2 (v1 := str [99, 114, 111, 112]) (v2 := .int .i64 4) rfl rfl rfl (fin rfl)
    · have H20 := cnd_f hb H18; clear H18
      refine c_seq ?_
      refine c_region ?_
      refine l_val rfl rfl rfl (r_eql rfl rfl) ?_
      refine l_val rfl rfl rfl (r_assign (v := .bool (decide (a0 = 3))) rfl) ?_
      refine l_nil ?_
      refine c_if (b := (decide (a0 = 3))) rfl (fun hb => ?_) (fun hb => ?_)
      · have H21 := cnd_t hb H20; clear H20
        refine c_seq ?_
        refine c_region ?_
        refine l_val rfl rfl rfl (r_assign (v := str [115, 99, 97, 108, 101]) rfl) ?_
        refine l_val rfl rfl rfl (r_assign (v := .int .i64 2) rfl) ?_
        refine l_nil ?_
        refine c_ret ?_
        obtain rfl := Option.some.inj H21
        refine ret2 (v1 := str [115, 99, 97, 108, 101]) (v2 := .int .i64 2) rfl rfl rfl (fin rfl)
      · have H22 := cnd_f hb H20; clear H20
        refine c_seq ?_
        refine c_region ?_
        refine l_val rfl rfl rfl (r_eql rfl rfl) ?_
        refine l_val rfl rfl rfl (r_assign (v := .bool (decide (a0 = 4))) rfl) ?_
        refine l_nil ?_
        refine c_if (b := (decide (a0 = 4))) rfl (fun hb => ?_) (fun hb => ?_)
        · have H23 := cnd_t hb H22; clear H22
          refine c_seq ?_
          refine c_region ?_
          refine l_val rfl rfl rfl (r_assign (v := str [108, 105, 103, 104, 116]) rfl) ?_
          refine l_val rfl rfl rfl (r_assign (v := .int .i64 1) rfl) ?_
          refine l_nil ?_
          refine c_ret ?_
          obtain rfl := Option.some.inj H23
          refine ret2 (v1 := str [108, 105, 103, 104, 116]) (v2 := .int .i64 1) rfl rfl rfl (fin rfl)
        · have H24 := cnd_f hb H22; clear H22
          refine c_seq ?_
          refine c_region ?_
          refine l_val rfl rfl rfl (r_eql rfl rfl) ?_
          refine l_val rfl rfl rfl (r_assign (v := .bool (decide (a0 = 5))) rfl) ?_
          refine l_nil ?_
          refine c_if (b := (decide (a0 = 5))) rfl (fun hb => ?_) (fun hb => ?_)
          · have H25 := cnd_t hb H24; clear H24
            refine c_seq ?_
            refine c_region ?_
            refine l_val rfl rfl rfl (r_assign (v := str [115, 112, 114, 101, 97, 100]) rfl) ?_
            refine l_val rfl rfl rfl (r_assign (v := .int .i64 1) rfl) ?_
            refine l_nil ?_
            refine c_ret ?_
            obtain rfl := Option.some.inj H25
            refine ret2 (v1 := str [115, 112, 114, 101, 97, 100]) (v2 := .int .i64 1) rfl rfl rfl (fin rfl)
          · have H26 := cnd_f hb H24; clear H24
            refine c_seq ?_
            refine c_region ?_
            refine l_val rfl rfl rfl (r_eql rfl rfl) ?_
            refine l_val rfl rfl rfl (r_assign (v := .bool (decide (a0 = 6))) rfl) ?_
            refine l_nil ?_
            refine c_if (b := (decide (a0 = 6))) rfl (fun hb => ?_) (fun hb => ?_)
            · have H27 := cnd_t hb H26; clear H26
              refine c_seq ?_
              refine c_region ?_
              refine l_val rfl rfl rfl (r_assign (v := str [108, 101, 118, 101, 108, 115]) rfl) ?_
              refine l_val rfl rfl rfl (r_assign (v := .int .i64 2) rfl) ?_
              refine l_nil ?_
              refine c_ret ?_
              obtain rfl := Option.some.inj H27
              refine ret2 (v1 := str [108, 101, 118, 101, 108, 115]) (v2 := .int .i64 2) rfl rfl rfl (fin rfl)
            · have H28 := cnd_f hb H26; clear H26
              refine c_seq ?_
              refine c_region ?_
              refine l_val rfl rfl rfl (r_eql rfl rfl) ?_
              refine l_val rfl rfl rfl (r_assign (v := .bool (decide (a0 = 7))) rfl) ?_
              refine l_nil ?_
              refine c_if (b := (decide (a0 = 7))) rfl (fun hb => ?_) (fun hb => ?_)
              · have H29 := cnd_t hb H28; clear H28
                refine c_seq ?_
                refine c_region ?_
                refine l_val rfl rfl rfl (r_assign (v := str [119, 97, 114, 109]) rfl) ?_
                refine l_val rfl rfl rfl (r_assign (v := .int .i64 1) rfl) ?_
                refine l_nil ?_
                refine c_ret ?_
                obtain rfl := Option.some.inj H29
                refine ret2 (v1 := str [119, 97, 114, 109]) (v2 := .int .i64 1) rfl rfl rfl (fin rfl)
              · have H30 := cnd_f hb H28; clear H28
                refine c_seq ?_
                refine c_region ?_
                refine l_val rfl rfl rfl (r_eql rfl rfl) ?_
                refine l_val rfl rfl rfl (r_assign (v := .bool (decide (a0 = 8))) rfl) ?_
                refine l_nil ?_
                refine c_if (b := (decide (a0 = 8))) rfl (fun hb => ?_) (fun hb => ?_)
                · have H31 := cnd_t hb H30; clear H30
                  refine c_seq ?_
                  refine c_region ?_
                  refine l_val rfl rfl rfl (r_assign (v := str [109, 117, 116, 101]) rfl) ?_
                  refine l_val rfl rfl rfl (r_assign (v := .int .i64 1) rfl) ?_
                  refine l_nil ?_
                  refine c_ret ?_
                  obtain rfl := Option.some.inj H31
                  refine ret2 (v1 := str [109, 117, 116, 101]) (v2 := .int .i64 1) rfl rfl rfl (fin rfl)
                · have H32 := cnd_f hb H30; clear H30
                  refine c_skip ?_
                  refine c_seq ?_
                  refine c_region ?_
                  refine l_val rfl rfl rfl (r_assign (v := str [105, 110, 118, 101, 114, 116]) rfl) ?_
                  refine l_val rfl rfl rfl (r_assign (v := .int .i64 0) rfl) ?_
                  refine l_nil ?_
                  refine c_ret ?_
                  obtain rfl := Option.some.inj H32
                  refine ret2 (v1 := str [105, 110, 118, 101, 114, 116]) (v2 := .int .i64 0) rfl rfl rfl (fin rfl)
theorem k37 {a0 : T_edit_Step} {r : (List Int)} {w : World} {h : Heap} (hw : Know h w noS) (H : edit_Step_numbers a0 = some r) : Does Tryd.prog 37 (List.toArray [.agg #[.int .i64 a0.Kind, .int .i64 a0.A, .int .i64 a0.B, .int .i64 a0.C, .int .i64 a0.D]]) w (fun v w' => ∃ x : (Option Addr × Nat), v = (.slice x.1 r.length x.2) ∧ Turn w w' noS (rowV 3 1 (.slice x.1 r.length x.2) r.length (r.map e_i64))) := by
  refine enter (n := 12) Tryd.func37 rfl rfl rfl noS [] (Sat.nil _ _) ?_
  refine c_seq ?_
  refine c_region ?_
  refine l_box (cs := [.int .i64 a0.Kind, .int .i64 a0.A, .int .i64 a0.B, .int .i64 a0.C, .int .i64 a0.D]) rfl rfl rfl rfl (fun b2 => ?_)
  refine l_val rfl rfl rfl (r_assign (v := .slice none 0 0) rfl) ?_
  refine l_nil ?_
  refine c_seq ?_
  refine c_region ?_
  refine l_val rfl rfl rfl (r_field Tryd.runUnderlying29 rfl Tryd.sizeOf3 rfl rfl) ?_
  refine l_load1 (i := 0) (v := .int .i64 a0.A) Tryd.isAgg3 rfl rfl rfl rfl rfl ?_
  refine l_val rfl rfl rfl (r_field Tryd.runUnderlying29 rfl Tryd.sizeOf3 rfl rfl) ?_
  refine l_load1 (i := 0) (v := .int .i64 a0.B) Tryd.isAgg3 rfl rfl rfl rfl rfl ?_
  refine l_val rfl rfl rfl (r_field Tryd.runUnderlying29 rfl Tryd.sizeOf3 rfl rfl) ?_
  refine l_load1 (i := 0) (v := .int .i64 a0.C) Tryd.isAgg3 rfl rfl rfl rfl rfl ?_
  refine l_val rfl rfl rfl (r_field Tryd.runUnderlying29 rfl Tryd.sizeOf3 rfl rfl) ?_
  refine l_load1 (i := 0) (v := .int .i64 a0.D) Tryd.isAgg3 rfl rfl rfl rfl rfl ?_
  refine l_buildSlice (vs := [.int .i64 a0.A, .int .i64 a0.B, .int .i64 a0.C, .int .i64 a0.D]) (cs := [.int .i64 a0.A, .int .i64 a0.B, .int .i64 a0.C, .int .i64 a0.D]) Tryd.underlying25 Tryd.sizeOf3 Tryd.zeroValue3 rfl rfl rfl rfl rfl rfl rfl (fun b3 => ?_)
  refine l_val rfl rfl rfl (r_assign (v := .slice (some ⟨b3, 0, none⟩) 4 4) rfl) ?_
  refine l_nil ?_
  refine c_ret ?_
  refine c_imp 1 rfl (imp_box (m := 4) (E := 3) (sz := 1) (xs := (([a0.A, a0.B, a0.C, a0.D] : List Int)).map e_i64) rfl rfl rfl ⟨rfl, by decide⟩) ?_
  obtain rfl := Option.some.inj H
  refine ret1 (v := .slice ((some ⟨b3, 0, none⟩, 4) : Option Addr × Nat).1 4 ((some ⟨b3, 0, none⟩, 4) : Option Addr × Nat).2) rfl rfl (finX ((some ⟨b3, 0, none⟩, 4) : Option Addr × Nat) (i := 1) rfl rfl (Imp.refl _))
theorem k39 {a0 : Int} {r : (Nat → (Nat → Int))} (H : edit_bounds a0 = some r) : Ret Tryd.prog 39 [.int .i64 a0] (.agg #[.int .i64 ((r 0) 0), .int .i64 ((r 0) 1), .int .i64 ((r 1) 0), .int .i64 ((r 1) 1), .int .i64 ((r 2) 0), .int .i64 ((r 2) 1), .int .i64 ((r 3) 0), .int .i64 ((r 3) 1)]) := by
  refine enterRet (n := 42) Tryd.func39 rfl rfl rfl (fun wd => ?_)
  refine c_seq ?_
  refine c_region ?_
  refine l_alloc (cs := [.int .i64 0, .int .i64 0, .int .i64 0, .int .i64 0, .int .i64 0, .int .i64 0, .int .i64 0, .int .i64 0]) Tryd.zeroValue88 rfl rfl rfl (fun b1 => ?_)
  refine l_nil ?_
  refine c_seq ?_
  refine c_seq ?_
  refine c_region ?_
  refine l_val rfl rfl rfl (r_move (v := .int .i64 a0) rfl) ?_
  refine l_nil ?_
  refine c_block ?_
  refine c_seq ?_
  refine c_region ?_
  refine l_val rfl rfl rfl (r_eql rfl rfl) ?_
  refine l_val rfl rfl rfl (r_assign (v := .bool (decide (a0 = 1))) rfl) ?_
  refine l_nil ?_
  refine c_if (b := (decide (a0 = 1))) rfl (fun hb => ?_) (fun hb => ?_)
  · have H17 := cnd_t hb H; clear H
    refine c_seq ?_
    refine c_region ?_
    refine l_val rfl rfl rfl (r_buildA (ps := [(0, .int .i64 1), (1, .int .i64 8)]) (cells := #[.int .i64 1, .int .i64 8]) Tryd.zeroValue87 Tryd.runUnderlying87 Tryd.sizeOf3 rfl rfl) ?_
    refine l_val rfl rfl rfl (r_buildA (ps := [(0, .agg #[.int .i64 1, .int .i64 8])]) (cells := #[.int .i64 1, .int .i64 8, .int .i64 0, .int .i64 0, .int .i64 0, .int .i64 0, .int .i64 0, .int .i64 0]) Tryd.zeroValue88 Tryd.runUnderlying88 Tryd.sizeOf87 rfl rfl) ?_
    refine l_store (i := 0) (vs := [.int .i64 1, .int .i64 8, .int .i64 0, .int .i64 0, .int .i64 0, .int .i64 0, .int .i64 0, .int .i64 0]) (cs' := [.int .i64 1, .int .i64 8, .int .i64 0, .int .i64 0, .int .i64 0, .int .i64 0, .int .i64 0, .int .i64 0]) Tryd.sizeOf88 rfl rfl rfl rfl rfl rfl rfl rfl rfl ?_
    refine l_nil ?_
    refine c_ret ?_
    obtain rfl := Option.some.inj H17
    refine retC (i := 0) (vs := [.int .i64 1, .int .i64 8, .int .i64 0, .int .i64 0, .int .i64 0, .int .i64 0, .int .i64 0, .int .i64 0]) Tryd.isAgg88 Tryd.sizeOf88 rfl rfl rfl rfl (fin rfl)
  · have H18 := cnd_f hb H; clear H
    refine c_seq ?_
    refine c_region ?_
    refine l_val rfl rfl rfl (r_eql rfl rfl) ?_
    refine l_val rfl rfl rfl (r_assign (v := .bool (decide (a0 = 2))) rfl) ?_
    refine l_nil ?_
    refine c_if (b := (decide (a0 = 2))) rfl (fun hb => ?_) (fun hb => ?_)
    · have H19 := cnd_t hb H18; clear H18
      refine c_seq ?_
      refine c_region ?_
      refine l_val rfl rfl rfl (r_buildA (ps := [(0, .int .i64 0), (1, .int .i64 63)]) (cells := #[.int .i64 0, .int .i64 63]) Tryd.zeroValue87 Tryd.runUnderlying87 Tryd.sizeOf3 rfl rfl) ?_
      refine l_val rfl rfl rfl (r_buildA (ps := [(0, .int .i64 0), (1, .int .i64 63)]) (cells := #[.int .i64 0, .int .i64 63]) Tryd.zeroValue87 Tryd.runUnderlying87 Tryd.sizeOf3 rfl rfl) ?_
      refine l_val rfl rfl rfl (r_buildA (ps := [(0, .int .i64 1), (1, .int .i64 64)]) (cells := #[.int .i64 1, .int .i64 64]) Tryd.zeroValue87 Tryd.runUnderlying87 Tryd.sizeOf3 rfl rfl) ?_
      refine l_val rfl rfl rfl (r_buildA (ps := [(0, .int .i64 1), (1, .int .i64 64)]) (cells := #[.int .i64 1, .int .i64 64]) Tryd.zeroValue87 Tryd.runUnderlying87 Tryd.sizeOf3 rfl rfl) ?_
      refine l_val rfl rfl rfl (r_buildA (ps := [(0, .agg #[.int .i64 0, .int .i64 63]), (1, .agg #[.int .i64 0, .int .i64 63]), (2, .agg #[.int .i64 1, .int .i64 64]), (3, .agg #[.int .i64 1, .int .i64 64])]) (cells := #[.int .i64 0, .int .i64 63, .int .i64 0, .int .i64 63, .int .i64 1, .int .i64 64, .int .i64 1, .int .i64 64]) Tryd.zeroValue88 Tryd.runUnderlying88 Tryd.sizeOf87 rfl rfl) ?_
      refine l_store (i := 0) (vs := [.int .i64 0, .int .i64 63, .int .i64 0, .int .i64 63, .int .i64 1, .int .i64 64, .int .i64 1, .int .i64 64]) (cs' := [.int .i64 0, .int .i64 63, .int .i64 0, .int .i64 63, .int .i64 1, .int .i64 64, .int .i64 1, .int .i64 64]) Tryd.sizeOf88 rfl rfl rfl rfl rfl rfl rfl rfl rfl ?_
      refine l_nil ?_
      refine c_ret ?_
      obtain rfl := Option.some.inj H19
      refine retC (i := 0) (vs := [.int .i64 0, .int .i64 63, .int .i64 0, .int .i64 63, .int .i64 1, .int .i64 64, .int .i64 1, .int .i64 64]) Tryd.isAgg88 Tryd.sizeOf88 rfl rfl rfl rfl (fin rfl)
    · have H20 := cnd_f hb H18; clear H18
      refine c_seq ?_
      refine c_region ?_
      refine l_val rfl rfl rfl (r_eql rfl rfl) ?_
      refine l_val rfl rfl rfl (r_assign (v := .bool (decide (a0 = 3))) rfl) ?_
      refine l_nil ?_
      refine c_if (b := (decide (a0 = 3))) rfl (fun hb => ?_) (fun hb => ?_)
      · have H21 := cnd_t hb H20; clear H20
        refine c_seq ?_
        refine c_region ?_
        refine l_val rfl rfl rfl (r_buildA (ps := [(0, .int .i64 1), (1, .int .i64 64)]) (cells := #[.int .i64 1, .int .i64 64]) Tryd.zeroValue87 Tryd.runUnderlying87 Tryd.sizeOf3 rfl rfl) ?_
        refine l_val rfl rfl rfl (r_buildA (ps := [(0, .int .i64 1), (1, .int .i64 64)]) (cells := #[.int .i64 1, .int .i64 64]) Tryd.zeroValue87 Tryd.runUnderlying87 Tryd.sizeOf3 rfl rfl) ?_
        refine l_val rfl rfl rfl (r_buildA (ps := [(0, .agg #[.int .i64 1, .int .i64 64]), (1, .agg #[.int .i64 1, .int .i64 64])]) (cells := #[.int .i64 1, .int .i64 64, .int .i64 1, .int .i64 64, .int .i64 0, .int .i64 0, .int .i64 0, .int .i64 0]) Tryd.zeroValue88 Tryd.runUnderlying88 Tryd.sizeOf87 rfl rfl) ?_
        refine l_store (i := 0) (vs := [.int .i64 1, .int .i64 64, .int .i64 1, .int .i64 64, .int .i64 0, .int .i64 0, .int .i64 0, .int .i64 0]) (cs' := [.int .i64 1, .int .i64 64, .int .i64 1, .int .i64 64, .int .i64 0, .int .i64 0, .int .i64 0, .int .i64 0]) Tryd.sizeOf88 rfl rfl rfl rfl rfl rfl rfl rfl rfl ?_
        refine l_nil ?_
        refine c_ret ?_
        obtain rfl := Option.some.inj H21
        refine retC (i := 0) (vs := [.int .i64 1, .int .i64 64, .int .i64 1, .int .i64 64, .int .i64 0, .int .i64 0, .int .i64 0, .int .i64 0]) Tryd.isAgg88 Tryd.sizeOf88 rfl rfl rfl rfl (fin rfl)
      · have H22 := cnd_f hb H20; clear H20
        refine c_seq ?_
        refine c_region ?_
        refine l_val rfl rfl rfl (r_eql rfl rfl) ?_
        refine l_val rfl rfl rfl (r_assign (v := .bool (decide (a0 = 4))) rfl) ?_
        refine l_nil ?_
        refine c_if (b := (decide (a0 = 4))) rfl (fun hb => ?_) (fun hb => ?_)
        · have H23 := cnd_t hb H22; clear H22
          refine c_seq ?_
          refine c_region ?_
          refine l_val rfl rfl rfl (r_buildA (ps := [(0, .int .i64 (-255)), (1, .int .i64 255)]) (cells := #[.int .i64 (-255), .int .i64 255]) Tryd.zeroValue87 Tryd.runUnderlying87 Tryd.sizeOf3 rfl rfl) ?_
          refine l_val rfl rfl rfl (r_buildA (ps := [(0, .agg #[.int .i64 (-255), .int .i64 255])]) (cells := #[.int .i64 (-255), .int .i64 255, .int .i64 0, .int .i64 0, .int .i64 0, .int .i64 0, .int .i64 0, .int .i64 0]) Tryd.zeroValue88 Tryd.runUnderlying88 Tryd.sizeOf87 rfl rfl) ?_
          refine l_store (i := 0) (vs := [.int .i64 (-255), .int .i64 255, .int .i64 0, .int .i64 0, .int .i64 0, .int .i64 0, .int .i64 0, .int .i64 0]) (cs' := [.int .i64 (-255), .int .i64 255, .int .i64 0, .int .i64 0, .int .i64 0, .int .i64 0, .int .i64 0, .int .i64 0]) Tryd.sizeOf88 rfl rfl rfl rfl rfl rfl rfl rfl rfl ?_
          refine l_nil ?_
          refine c_ret ?_
          obtain rfl := Option.some.inj H23
          refine retC (i := 0) (vs := [.int .i64 (-255), .int .i64 255, .int .i64 0, .int .i64 0, .int .i64 0, .int .i64 0, .int .i64 0, .int .i64 0]) Tryd.isAgg88 Tryd.sizeOf88 rfl rfl rfl rfl (fin rfl)
        · have H24 := cnd_f hb H22; clear H22
          refine c_seq ?_
          refine c_region ?_
          refine l_val rfl rfl rfl (r_eql rfl rfl) ?_
          refine l_val rfl rfl rfl (r_assign (v := .bool (decide (a0 = 5))) rfl) ?_
          refine l_nil ?_
          refine c_if (b := (decide (a0 = 5))) rfl (fun hb => ?_) (fun hb => ?_)
          · have H25 := cnd_t hb H24; clear H24
            refine c_seq ?_
            refine c_region ?_
            refine l_val rfl rfl rfl (r_buildA (ps := [(0, .int .i64 0), (1, .int .i64 400)]) (cells := #[.int .i64 0, .int .i64 400]) Tryd.zeroValue87 Tryd.runUnderlying87 Tryd.sizeOf3 rfl rfl) ?_
            refine l_val rfl rfl rfl (r_buildA (ps := [(0, .agg #[.int .i64 0, .int .i64 400])]) (cells := #[.int .i64 0, .int .i64 400, .int .i64 0, .int .i64 0, .int .i64 0, .int .i64 0, .int .i64 0, .int .i64 0]) Tryd.zeroValue88 Tryd.runUnderlying88 Tryd.sizeOf87 rfl rfl) ?_
            refine l_store (i := 0) (vs := [.int .i64 0, .int .i64 400, .int .i64 0, .int .i64 0, .int .i64 0, .int .i64 0, .int .i64 0, .int .i64 0]) (cs' := [.int .i64 0, .int .i64 400, .int .i64 0, .int .i64 0, .int .i64 0, .int .i64 0, .int .i64 0, .int .i64 0]) Tryd.sizeOf88 rfl rfl rfl rfl rfl rfl rfl rfl rfl ?_
            refine l_nil ?_
            refine c_ret ?_
            obtain rfl := Option.some.inj H25
            refine retC (i := 0) (vs := [.int .i64 0, .int .i64 400, .int .i64 0, .int .i64 0, .int .i64 0, .int .i64 0, .int .i64 0, .int .i64 0]) Tryd.isAgg88 Tryd.sizeOf88 rfl rfl rfl rfl (fin rfl)
          · have H26 := cnd_f hb H24; clear H24
            refine c_seq ?_
            refine c_region ?_
            refine l_val rfl rfl rfl (r_eql rfl rfl) ?_
            refine l_val rfl rfl rfl (r_assign (v := .bool (decide (a0 = 6))) rfl) ?_
            refine l_nil ?_
            refine c_if (b := (decide (a0 = 6))) rfl (fun hb => ?_) (fun hb => ?_)
            · have H27 := cnd_t hb H26; clear H26
              refine c_seq ?_
              refine c_region ?_
              refine l_val rfl rfl rfl (r_buildA (ps := [(0, .int .i64 0), (1, .int .i64 255)]) (cells := #[.int .i64 0, .int .i64 255]) Tryd.zeroValue87 Tryd.runUnderlying87 Tryd.sizeOf3 rfl rfl) ?_
              refine l_val rfl rfl rfl (r_buildA (ps := [(0, .int .i64 0), (1, .int .i64 255)]) (cells := #[.int .i64 0, .int .i64 255]) Tryd.zeroValue87 Tryd.runUnderlying87 Tryd.sizeOf3 rfl rfl) ?_
              refine l_val rfl rfl rfl (r_buildA (ps := [(0, .agg #[.int .i64 0, .int .i64 255]), (1, .agg #[.int .i64 0, .int .i64 255])]) (cells := #[.int .i64 0, .int .i64 255, .int .i64 0, .int .i64 255, .int .i64 0, .int .i64 0, .int .i64 0, .int .i64 0]) Tryd.zeroValue88 Tryd.runUnderlying88 Tryd.sizeOf87 rfl rfl) ?_
              refine l_store (i := 0) (vs := [.int .i64 0, .int .i64 255, .int .i64 0, .int .i64 255, .int .i64 0, .int .i64 0, .int .i64 0, .int .i64 0]) (cs' := [.int .i64 0, .int .i64 255, .int .i64 0, .int .i64 255, .int .i64 0, .int .i64 0, .int .i64 0, .int .i64 0]) Tryd.sizeOf88 rfl rfl rfl rfl rfl rfl rfl rfl rfl ?_
              refine l_nil ?_
              refine c_ret ?_
              obtain rfl := Option.some.inj H27
              refine retC (i := 0) (vs := [.int .i64 0, .int .i64 255, .int .i64 0, .int .i64 255, .int .i64 0, .int .i64 0, .int .i64 0, .int .i64 0]) Tryd.isAgg88 Tryd.sizeOf88 rfl rfl rfl rfl (fin rfl)
            · have H28 := cnd_f hb H26; clear H26
              refine c_seq ?_
              refine c_region ?_
              refine l_val rfl rfl rfl (r_eql rfl rfl) ?_
              refine l_val rfl rfl rfl (r_assign (v := .bool (decide (a0 = 7))) rfl) ?_
              refine l_nil ?_
              refine c_if (b := (decide (a0 = 7))) rfl (fun hb => ?_) (fun hb => ?_)
              · have H29 := cnd_t hb H28; clear H28
                refine c_seq ?_
                refine c_region ?_
                refine l_val rfl rfl rfl (r_buildA (ps := [(0, .int .i64 (-100)), (1, .int .i64 100)]) (cells := #[.int .i64 (-100), .int .i64 100]) Tryd.zeroValue87 Tryd.runUnderlying87 Tryd.sizeOf3 rfl rfl) ?_
                refine l_val rfl rfl rfl (r_buildA (ps := [(0, .agg #[.int .i64 (-100), .int .i64 100])]) (cells := #[.int .i64 (-100), .int .i64 100, .int .i64 0, .int .i64 0, .int .i64 0, .int .i64 0, .int .i64 0, .int .i64 0]) Tryd.zeroValue88 Tryd.runUnderlying88 Tryd.sizeOf87 rfl rfl) ?_
                refine l_store (i := 0) (vs := [.int .i64 (-100), .int .i64 100, .int .i64 0, .int .i64 0, .int .i64 0, .int .i64 0, .int .i64 0, .int .i64 0]) (cs' := [.int .i64 (-100), .int .i64 100, .int .i64 0, .int .i64 0, .int .i64 0, .int .i64 0, .int .i64 0, .int .i64 0]) Tryd.sizeOf88 rfl rfl rfl rfl rfl rfl rfl rfl rfl ?_
                refine l_nil ?_
                refine c_ret ?_
                obtain rfl := Option.some.inj H29
                refine retC (i := 0) (vs := [.int .i64 (-100), .int .i64 100, .int .i64 0, .int .i64 0, .int .i64 0, .int .i64 0, .int .i64 0, .int .i64 0]) Tryd.isAgg88 Tryd.sizeOf88 rfl rfl rfl rfl (fin rfl)
              · have H30 := cnd_f hb H28; clear H28
                refine c_seq ?_
                refine c_region ?_
                refine l_val rfl rfl rfl (r_eql rfl rfl) ?_
                refine l_val rfl rfl rfl (r_assign (v := .bool (decide (a0 = 8))) rfl) ?_
                refine l_nil ?_
                refine c_if (b := (decide (a0 = 8))) rfl (fun hb => ?_) (fun hb => ?_)
                · have H31 := cnd_t hb H30; clear H30
                  refine c_seq ?_
                  refine c_region ?_
                  refine l_val rfl rfl rfl (r_buildA (ps := [(0, .int .i64 0), (1, .int .i64 100)]) (cells := #[.int .i64 0, .int .i64 100]) Tryd.zeroValue87 Tryd.runUnderlying87 Tryd.sizeOf3 rfl rfl) ?_
                  refine l_val rfl rfl rfl (r_buildA (ps := [(0, .agg #[.int .i64 0, .int .i64 100])]) (cells := #[.int .i64 0, .int .i64 100, .int .i64 0, .int .i64 0, .int .i64 0, .int .i64 0, .int .i64 0, .int .i64 0]) Tryd.zeroValue88 Tryd.runUnderlying88 Tryd.sizeOf87 rfl rfl) ?_
                  refine l_store (i := 0) (vs := [.int .i64 0, .int .i64 100, .int .i64 0, .int .i64 0, .int .i64 0, .int .i64 0, .int .i64 0, .int .i64 0]) (cs' := [.int .i64 0, .int .i64 100, .int .i64 0, .int .i64 0, .int .i64 0, .int .i64 0, .int .i64 0, .int .i64 0]) Tryd.sizeOf88 rfl rfl rfl rfl rfl rfl rfl rfl rfl ?_
                  refine l_nil ?_
                  refine c_ret ?_
                  obtain rfl := Option.some.inj H31
                  refine retC (i := 0) (vs := [.int .i64 0, .int .i64 100, .int .i64 0, .int .i64 0, .int .i64 0, .int .i64 0, .int .i64 0, .int .i64 0]) Tryd.isAgg88 Tryd.sizeOf88 rfl rfl rfl rfl (fin rfl)
                · have H32 := cnd_f hb H30; clear H30
                  refine c_skip ?_
                  refine c_seq ?_
                  refine c_region ?_
                  refine l_val rfl rfl rfl (r_buildA (ps := []) (cells := #[.int .i64 0, .int .i64 0, .int .i64 0, .int .i64 0, .int .i64 0, .int .i64 0, .int .i64 0, .int .i64 0]) Tryd.zeroValue88 Tryd.runUnderlying88 Tryd.sizeOf87 rfl rfl) ?_
                  refine l_store (i := 0) (vs := [.int .i64 0, .int .i64 0, .int .i64 0, .int .i64 0, .int .i64 0, .int .i64 0, .int .i64 0, .int .i64 0]) (cs' := [.int .i64 0, .int .i64 0, .int .i64 0, .int .i64 0, .int .i64 0, .int .i64 0, .int .i64 0, .int .i64 0]) Tryd.sizeOf88 rfl rfl rfl rfl rfl rfl rfl rfl rfl ?_
                  refine l_nil ?_
                  refine c_ret ?_
                  obtain rfl := Option.some.inj H32
                  refine retC (i := 0) (vs := [.int .i64 0, .int .i64 0, .int .i64 0, .int .i64 0, .int .i64 0, .int .i64 0, .int .i64 0, .int .i64 0]) Tryd.isAgg88 Tryd.sizeOf88 rfl rfl rfl rfl (fin rfl)
theorem k23 {a0 : T_edit_Step} {r : Int} (H : edit_CheckStep a0 = some r) : Ret Tryd.prog 23 [.agg #[.int .i64 a0.Kind, .int .i64 a0.A, .int .i64 a0.B, .int .i64 a0.C, .int .i64 a0.D]] (.int .i64 r) := by
  refine enterRet (n := 66) Tryd.func23 rfl rfl rfl (fun wd => ?_)
  refine c_seq ?_
  refine c_region ?_
  refine l_box (cs := [.int .i64 a0.Kind, .int .i64 a0.A, .int .i64 a0.B, .int .i64 a0.C, .int .i64 a0.D]) rfl rfl rfl rfl (fun b2 => ?_)
  refine l_val rfl rfl rfl (r_assign (v := .int .i64 0) rfl) ?_
  refine l_nil ?_
  refine c_seq ?_
  refine c_seq ?_
  refine c_region ?_
  refine l_val rfl rfl rfl (r_field Tryd.runUnderlying29 rfl Tryd.sizeOf3 rfl rfl) ?_
  refine l_load1 (i := 0) (v := .int .i64 a0.Kind) Tryd.isAgg3 rfl rfl rfl rfl rfl ?_
  obtain ⟨t13, h_t13, H32⟩ := bnd_some H; clear H
  refine l_call (k25 h_t13) Tryd.call25 rfl rfl rfl ?_
  refine l_nil ?_
  refine c_if (b := t13) rfl (fun hb => ?_) (fun hb => ?_)
  · have H33 := cnd_t hb H32; clear H32
    refine c_seq ?_
    refine c_region ?_
    refine l_val rfl rfl rfl (r_assign (v := .int .i64 10) rfl) ?_
    refine l_nil ?_
    refine c_ret ?_
    obtain rfl := Option.some.inj H33
    refine ret1 (v := .int .i64 10) rfl rfl (fin rfl)
  · have H34 := cnd_f hb H32; clear H32
    refine c_skip ?_
    refine c_seq ?_
    refine c_region ?_
    refine l_val rfl rfl rfl (r_field Tryd.runUnderlying29 rfl Tryd.sizeOf3 rfl rfl) ?_
    refine l_load1 (i := 0) (v := .int .i64 a0.Kind) Tryd.isAgg3 rfl rfl rfl rfl rfl ?_
    obtain ⟨t17, h_t17, H35⟩ := bnd_some H34; clear H34
    refine l_call (k36 h_t17) Tryd.call36 rfl rfl rfl ?_
    refine l_val rfl rfl rfl (r_move (v := .tuple #[str t17.1, .int .i64 t17.2]) rfl) ?_
    refine l_val rfl rfl rfl (r_extract (v := str t17.1) rfl rfl) ?_
    refine l_val rfl rfl rfl (r_extract (v := .int .i64 t17.2) rfl rfl) ?_
    refine l_val rfl rfl rfl (r_assign (v := str t17.1) rfl) ?_
    refine l_val rfl rfl rfl (r_assign (v := .int .i64 t17.2) rfl) ?_
    refine l_nil ?_
    refine c_seq ?_
    refine c_region ?_
    refine l_loadN (i := 0) (vs := [.int .i64 a0.Kind, .int .i64 a0.A, .int .i64 a0.B, .int .i64 a0.C, .int .i64 a0.D]) Tryd.isAgg29 Tryd.sizeOf29 rfl rfl rfl rfl rfl ?_
    obtain ⟨t21, h_t21, H36⟩ := bnd_some H35; clear H35
    refine l_make (makes_call (rds := []) (G := fun x : (Option Addr × Nat) => .slice x.1 t21.length x.2) (C := fun x : (Option Addr × Nat) => rowV 3 1 (.slice x.1 t21.length x.2) t21.length (t21.map e_i64)) (fun w L' hF hS hi => k37 (know_all w)  h_t21) Tryd.call37 rfl) rfl rfl rfl (fun p => ?_)
    refine l_val rfl rfl rfl (r_assign (v := .slice p.1 t21.length p.2) rfl) ?_
    refine l_nil ?_
    refine c_meet (r := r) (σ := Unit) (τ := Unit) (fun s => edit_CheckStep_j1 a0 t17 t21) (fun s t => [(1, .pointer (some ⟨b2, 0, none⟩)), (4, .int .i64 t17.2), (5, .slice p.1 t21.length p.2)]) (fun s t => [cellsC b2 [.int .i64 a0.Kind, .int .i64 a0.A, .int .i64 a0.B, .int .i64 a0.C, .int .i64 a0.D] 29, rowV 3 1 (.slice p.1 t21.length p.2) t21.length (t21.map e_i64)]) (fun s t => True) ?_ ?_
    · refine c_seq ?_
      refine c_region ?_
      refine l_val rfl rfl rfl (r_move (v := .slice p.1 t21.length p.2) rfl) ?_
      refine l_val rfl rfl rfl (r_move (v := .int .i64 t17.2) rfl) ?_
      obtain ⟨t24, h_t24, H55⟩ := bnd_some H36; clear H36
      refine l_read (v := .slice (cutA p.1 (Int.toNat t17.2) p.2 1) t24.length (p.2 - Int.toNat t17.2)) (fun w hF hS => run_sliceLO (xs := t21) Tryd.underlying25 Tryd.sizeOf3 rfl rfl rfl (capOf (i := 1) hS rfl) h_t24) rfl rfl rfl ?_
      refine l_val rfl rfl rfl (r_len Tryd.underlying25 rfl) ?_
      refine l_val rfl rfl rfl (r_move (v := .int .i64 0) rfl) ?_
      refine l_nil ?_
      refine c_block ?_
      refine c_fix (σ := Int) (τ := Unit) (fun next4 s => edit_CheckStep_l4 a0 t17 t21 t24 next4 s) (fun s t => [(1, .pointer (some ⟨b2, 0, none⟩)), (4, .int .i64 t17.2), (5, .slice p.1 t21.length p.2), (24, .slice (cutA p.1 (Int.toNat t17.2) p.2 1) t24.length (p.2 - Int.toNat t17.2)), (25, .int .i64 (t24.length : Int)), (26, .int .i64 s)]) (fun s t => [cellsC b2 [.int .i64 a0.Kind, .int .i64 a0.A, .int .i64 a0.B, .int .i64 a0.C, .int .i64 a0.D] 29, rowV 3 1 (.slice p.1 t21.length p.2) t21.length (t21.map e_i64)]) (fun s t => True) 0 () [0, 1] H55 (by exact trivial) (by exact ⟨rfl, rfl, rfl, rfl, rfl, rfl, trivial⟩) (by decide) rfl ?_
      rintro x26_2 _ m4 gg H56 _
      clear H55
      replace H56 : edit_CheckStep_l4 a0 t17 t21 t24 (it (fun next4 s => edit_CheckStep_l4 a0 t17 t21 t24 next4 s) m4) x26_2 = some r := H56
      generalize hn4 : it (fun next4 s => edit_CheckStep_l4 a0 t17 t21 t24 next4 s) m4 = next4 at H56
      refine c_tidyF [(1, .pointer (some ⟨b2, 0, none⟩)), (4, .int .i64 t17.2), (5, .slice p.1 t21.length p.2), (24, .slice (cutA p.1 (Int.toNat t17.2) p.2 1) t24.length (p.2 - Int.toNat t17.2)), (25, .int .i64 (t24.length : Int)), (26, .int .i64 x26_2)] [cellsC b2 [.int .i64 a0.Kind, .int .i64 a0.A, .int .i64 a0.B, .int .i64 a0.C, .int .i64 a0.D] 29, rowV 3 1 (.slice p.1 t21.length p.2) t21.length (t21.map e_i64)] rfl rfl ?_
      refine c_seq ?_
      refine c_region ?_
      refine l_val rfl rfl rfl (r_lss rfl rfl) ?_
      refine l_nil ?_
      refine c_seq ?_
      refine c_if (b := (decide (x26_2 < (t24.length : Int)))) rfl (fun hb => ?_) (fun hb => ?_)
      · have H57 := cnd_t hb H56; clear H56
        refine c_skip ?_
        refine c_seq ?_
        refine c_block ?_
        refine c_seq ?_
        refine c_region ?_
        obtain ⟨t28, h_t28, H58⟩ := bnd_some H57; clear H57
        refine l_read (fun w hF hS => run_indexO Tryd.underlying25 Tryd.sizeOf3 rfl rfl (Row.cutG (rowOf (i := 1) hS rfl) rfl (capOf (i := 1) hS rfl) h_t24) rfl h_t28) rfl rfl rfl ?_
        refine l_read (fun w hF hS => run_loadG1 (f := e_i64) (i := x26_2) (sz := 1) (j := 0) (v := .int .i64 t28) Tryd.isAgg3 rfl rfl (Row.cutG (rowOf (i := 1) hS rfl) rfl (capOf (i := 1) hS rfl) h_t24) h_t28 rfl) rfl rfl rfl ?_
        refine l_val rfl rfl rfl (r_assign (v := .int .i64 t28) rfl) ?_
        refine l_nil ?_
        refine c_seq ?_
        refine c_region ?_
        refine l_val rfl rfl rfl (r_move (v := .int .i64 t28) rfl) ?_
        refine l_val rfl rfl rfl (r_neq rfl rfl) ?_
        refine l_nil ?_
        refine c_if (b := (decide (t28 ≠ 0))) rfl (fun hb => ?_) (fun hb => ?_)
        · have H59 := cnd_t hb H58; clear H58
          refine c_seq ?_
          refine c_region ?_
          refine l_val rfl rfl rfl (r_assign (v := .int .i64 1) rfl) ?_
          refine l_nil ?_
          refine c_ret ?_
          obtain rfl := Option.some.inj H59
          refine ret1 (v := .int .i64 1) rfl rfl (fin rfl)
        · have H60 := cnd_f hb H58; clear H58
          refine c_skip ?_
          refine c_region ?_
          obtain ⟨t32, h_t32, H61⟩ := bnd_some H60; clear H60
          refine l_val rfl rfl rfl (r_addG rfl rfl h_t32) ?_
          refine l_val rfl rfl rfl (r_move (v := .int .i64 t32) rfl) ?_
          refine l_nil ?_
          refine c_close t32 () m4 [0, 1] (by exact ⟨rfl, rfl, rfl, rfl, rfl, rfl, trivial⟩) (by decide) rfl (by exact ⟨(by subst hn4; exact H61), trivial⟩) (Nat.lt_succ_self _)
      · have H62 := cnd_f hb H56; clear H56
        refine c_exit ?_
        refine c_close () () 0 [0, 1] (by exact ⟨rfl, rfl, rfl, trivial⟩) (by decide) rfl (by exact ⟨H62, trivial⟩) (Nat.lt_succ_self _)
    · rintro _ _ gg H37 _
      replace H37 : edit_CheckStep_j1 a0 t17 t21 = some r := H37
      refine c_tidyF [(1, .pointer (some ⟨b2, 0, none⟩)), (4, .int .i64 t17.2), (5, .slice p.1 t21.length p.2)] [cellsC b2 [.int .i64 a0.Kind, .int .i64 a0.A, .int .i64 a0.B, .int .i64 a0.C, .int .i64 a0.D] 29, rowV 3 1 (.slice p.1 t21.length p.2) t21.length (t21.map e_i64)] rfl rfl ?_
      refine c_seq ?_
      refine c_region ?_
      refine l_val rfl rfl rfl (r_field Tryd.runUnderlying29 rfl Tryd.sizeOf3 rfl rfl) ?_
      refine l_load1 (i := 0) (v := .int .i64 a0.Kind) Tryd.isAgg3 rfl rfl rfl rfl rfl ?_
      obtain ⟨t35, h_t35, H38⟩ := bnd_some H37; clear H37
      refine l_call (k39 h_t35) Tryd.call39 rfl rfl rfl ?_
      refine l_alloc (cs := [.int .i64 0, .int .i64 0, .int .i64 0, .int .i64 0, .int .i64 0, .int .i64 0, .int .i64 0, .int .i64 0]) Tryd.zeroValue88 rfl rfl rfl (fun b3 => ?_)
      refine l_store (i := 2) (vs := [.int .i64 ((t35 0) 0), .int .i64 ((t35 0) 1), .int .i64 ((t35 1) 0), .int .i64 ((t35 1) 1), .int .i64 ((t35 2) 0), .int .i64 ((t35 2) 1), .int .i64 ((t35 3) 0), .int .i64 ((t35 3) 1)]) (cs' := [.int .i64 ((t35 0) 0), .int .i64 ((t35 0) 1), .int .i64 ((t35 1) 0), .int .i64 ((t35 1) 1), .int .i64 ((t35 2) 0), .int .i64 ((t35 2) 1), .int .i64 ((t35 3) 0), .int .i64 ((t35 3) 1)]) Tryd.sizeOf88 rfl rfl rfl rfl rfl rfl rfl rfl rfl ?_
      refine l_nil ?_
      refine c_meet (r := r) (σ := Unit) (τ := Unit) (fun s => edit_CheckStep_j2 a0) (fun s t => [(1, .pointer (some ⟨b2, 0, none⟩))]) (fun s t => [cellsC b2 [.int .i64 a0.Kind, .int .i64 a0.A, .int .i64 a0.B, .int .i64 a0.C, .int .i64 a0.D] 29]) (fun s t => True) ?_ ?_
      · refine c_seq ?_
        refine c_region ?_
        refine l_val rfl rfl rfl (r_move (v := .slice p.1 t21.length p.2) rfl) ?_
        refine l_val rfl rfl rfl (r_move (v := .int .i64 t17.2) rfl) ?_
        obtain ⟨t38, h_t38, H44⟩ := bnd_some H38; clear H38
        refine l_read (v := .slice (cutA p.1 (Int.toNat (0 : Int)) p.2 1) t38.length (p.2 - Int.toNat (0 : Int))) (fun w hF hS => run_sliceHO (xs := t21) Tryd.underlying25 Tryd.sizeOf3 rfl rfl rfl (capOf (i := 1) hS rfl) h_t38) rfl rfl rfl ?_
        refine l_val rfl rfl rfl (r_len Tryd.underlying25 rfl) ?_
        refine l_val rfl rfl rfl (r_move (v := .int .i64 0) rfl) ?_
        refine l_nil ?_
        refine c_block ?_
        refine c_fix (σ := Int) (τ := Unit) (fun next3 s => edit_CheckStep_l3 a0 t35 t38 next3 s) (fun s t => [(1, .pointer (some ⟨b2, 0, none⟩)), (8, .pointer (some ⟨b3, 0, none⟩)), (38, .slice (cutA p.1 (Int.toNat (0 : Int)) p.2 1) t38.length (p.2 - Int.toNat (0 : Int))), (39, .int .i64 (t38.length : Int)), (40, .int .i64 s)]) (fun s t => [cellsC b2 [.int .i64 a0.Kind, .int .i64 a0.A, .int .i64 a0.B, .int .i64 a0.C, .int .i64 a0.D] 29, rowV 3 1 (.slice p.1 t21.length p.2) t21.length (t21.map e_i64), cellsC b3 [.int .i64 ((t35 0) 0), .int .i64 ((t35 0) 1), .int .i64 ((t35 1) 0), .int .i64 ((t35 1) 1), .int .i64 ((t35 2) 0), .int .i64 ((t35 2) 1), .int .i64 ((t35 3) 0), .int .i64 ((t35 3) 1)] 88]) (fun s t => True) 0 () [0, 1, 2] H44 (by exact trivial) (by exact ⟨rfl, rfl, rfl, rfl, rfl, trivial⟩) (by decide) rfl ?_
        rintro x40_2 _ m3 gg H45 _
        clear H44
        replace H45 : edit_CheckStep_l3 a0 t35 t38 (it (fun next3 s => edit_CheckStep_l3 a0 t35 t38 next3 s) m3) x40_2 = some r := H45
        generalize hn3 : it (fun next3 s => edit_CheckStep_l3 a0 t35 t38 next3 s) m3 = next3 at H45
        refine c_tidyF [(1, .pointer (some ⟨b2, 0, none⟩)), (8, .pointer (some ⟨b3, 0, none⟩)), (38, .slice (cutA p.1 (Int.toNat (0 : Int)) p.2 1) t38.length (p.2 - Int.toNat (0 : Int))), (39, .int .i64 (t38.length : Int)), (40, .int .i64 x40_2)] [cellsC b2 [.int .i64 a0.Kind, .int .i64 a0.A, .int .i64 a0.B, .int .i64 a0.C, .int .i64 a0.D] 29, rowV 3 1 (.slice p.1 t21.length p.2) t21.length (t21.map e_i64), cellsC b3 [.int .i64 ((t35 0) 0), .int .i64 ((t35 0) 1), .int .i64 ((t35 1) 0), .int .i64 ((t35 1) 1), .int .i64 ((t35 2) 0), .int .i64 ((t35 2) 1), .int .i64 ((t35 3) 0), .int .i64 ((t35 3) 1)] 88] rfl rfl ?_
        refine c_seq ?_
        refine c_region ?_
        refine l_val rfl rfl rfl (r_lss rfl rfl) ?_
        refine l_nil ?_
        refine c_seq ?_
        refine c_if (b := (decide (x40_2 < (t38.length : Int)))) rfl (fun hb => ?_) (fun hb => ?_)
        · have H46 := cnd_t hb H45; clear H45
          refine c_skip ?_
          refine c_seq ?_
          refine c_block ?_
          refine c_seq ?_
          refine c_region ?_
          refine l_val rfl rfl rfl (r_move (v := .int .i64 x40_2) rfl) ?_
          obtain ⟨t43, h_t43, H47⟩ := bnd_some H46; clear H46
          refine l_read (fun w hF hS => run_indexO Tryd.underlying25 Tryd.sizeOf3 rfl rfl (Row.cutG (rowOf (i := 1) hS rfl) rfl (capOf (i := 1) hS rfl) h_t38) rfl h_t43) rfl rfl rfl ?_
          refine l_read (fun w hF hS => run_loadG1 (f := e_i64) (i := x40_2) (sz := 1) (j := 0) (v := .int .i64 t43) Tryd.isAgg3 rfl rfl (Row.cutG (rowOf (i := 1) hS rfl) rfl (capOf (i := 1) hS rfl) h_t38) h_t43 rfl) rfl rfl rfl ?_
          refine l_val rfl rfl rfl (r_assign (v := .int .i64 x40_2) rfl) ?_
          refine l_val rfl rfl rfl (r_assign (v := .int .i64 t43) rfl) ?_
          refine l_nil ?_
          refine c_seq ?_
          exact c_regionD (Kd.p :: Kd.p :: Kd.p :: Kd.p :: Kd.d [2] _ :: Kd.p :: Kd.p :: Kd.p :: Kd.d [2] _ :: Kd.d [] _ :: []) 0 mixed (by
            refine d_val rfl rfl (r_move (v := .int .i64 t43) rfl) ?_
            refine d_val rfl rfl (r_move (v := .int .i64 x40_2) rfl) ?_
            have h_k47 := bnd_val H47
            have H48 := bnd_rest H47
            refine d_val rfl rfl (r_indexPG Tryd.runUnderlying88 Tryd.sizeOf87 rfl rfl h_k47) ?_
            refine d_val rfl rfl (r_indexPA0 Tryd.runUnderlying87 Tryd.sizeOf3 rfl rfl (by decide)) ?_
            refine d_load1 (i := 2) (v := .int .i64 ((t35 (val (gIx 4 x40_2))) 0)) Tryd.isAgg3 rfl rfl rfl (rg_arr (pre := []) (post := []) (f := fun j_ => [.int .i64 ((t35 j_) 0), .int .i64 ((t35 j_) 1)]) (n := 4) (sz := 2) (q := 0) rfl rfl (fun _ => rfl) (gIx_lt h_k47) rfl) ?_
            refine d_val rfl rfl (r_move (v := .int .i64 x40_2) rfl) ?_
            have h_k51 := bnd_val H48
            have H49 := bnd_rest H48
            refine d_val rfl rfl (r_indexPG Tryd.runUnderlying88 Tryd.sizeOf87 rfl rfl h_k51) ?_
            refine d_val rfl rfl (r_indexPA Tryd.runUnderlying87 Tryd.sizeOf3 rfl rfl (by decide) (by decide)) ?_
            refine d_load1 (i := 2) (v := .int .i64 ((t35 (val (gIx 4 x40_2))) 1)) Tryd.isAgg3 rfl rfl rfl (rg_arr (pre := []) (post := []) (f := fun j_ => [.int .i64 ((t35 j_) 0), .int .i64 ((t35 j_) 1)]) (n := 4) (sz := 2) (q := 1) rfl rfl (fun _ => rfl) (gIx_lt h_k51) rfl) ?_
            have h_t54 := bnd_val H49
            have H50 := bnd_rest H49
            refine d_call (k25 h_t54) Tryd.call25 rfl rfl ?_
            refine d_nil ?_
            refine c_if (b := (val (edit_outside t43 ((t35 (val (gIx 4 x40_2))) 0) ((t35 (val (gIx 4 x40_2))) 1)))) rfl (fun hb => ?_) (fun hb => ?_)
            · have H51 := cnd_t hb H50; clear H50
              refine c_seq ?_
              refine c_region ?_
              refine l_val rfl rfl rfl (r_assign (v := .int .i64 2) rfl) ?_
              refine l_nil ?_
              refine c_ret ?_
              obtain rfl := Option.some.inj H51
              refine ret1 (v := .int .i64 2) rfl rfl (fin rfl)
            · have H52 := cnd_f hb H50; clear H50
              refine c_skip ?_
              refine c_region ?_
              obtain ⟨t55, h_t55, H53⟩ := bnd_some H52; clear H52
              refine l_val rfl rfl rfl (r_addG rfl rfl h_t55) ?_
              refine l_val rfl rfl rfl (r_move (v := .int .i64 t55) rfl) ?_
              refine l_nil ?_
              refine c_close t55 () m3 [0, 1, 2] (by exact ⟨rfl, rfl, rfl, rfl, rfl, trivial⟩) (by decide) rfl (by exact ⟨(by subst hn3; exact H53), trivial⟩) (Nat.lt_succ_self _)
            ) (by kernel_rfl)
        · have H54 := cnd_f hb H45; clear H45
          refine c_exit ?_
          refine c_close () () 0 [0] (by exact ⟨rfl, trivial⟩) (by decide) rfl (by exact ⟨H54, trivial⟩) (Nat.lt_succ_self _)
      · rintro _ _ gg H39 _
        replace H39 : edit_CheckStep_j2 a0 = some r := H39
        refine c_tidyF [(1, .pointer (some ⟨b2, 0, none⟩))] [cellsC b2 [.int .i64 a0.Kind, .int .i64 a0.A, .int .i64 a0.B, .int .i64 a0.C, .int .i64 a0.D] 29] rfl rfl ?_
        refine c_seq ?_
        refine c_seq ?_
        refine c_region ?_
        refine l_val rfl rfl rfl (r_field Tryd.runUnderlying29 rfl Tryd.sizeOf3 rfl rfl) ?_
        refine l_load1 (i := 0) (v := .int .i64 a0.Kind) Tryd.isAgg3 rfl rfl rfl rfl rfl ?_
        refine l_val rfl rfl rfl (r_eql rfl rfl) ?_
        refine l_val rfl rfl rfl (r_move (v := .bool (decide (a0.Kind = 6))) rfl) ?_
        refine split (fun hb => ?_) (fun hb => ?_)
        · have H40 := cnd_t hb H39; clear H39
          refine l_val rfl rfl rfl (r_field Tryd.runUnderlying29 rfl Tryd.sizeOf3 rfl rfl) ?_
          refine l_load1 (i := 0) (v := .int .i64 a0.B) Tryd.isAgg3 rfl rfl rfl rfl rfl ?_
          refine l_val rfl rfl rfl (r_field Tryd.runUnderlying29 rfl Tryd.sizeOf3 rfl rfl) ?_
          refine l_load1 (i := 0) (v := .int .i64 a0.A) Tryd.isAgg3 rfl rfl rfl rfl rfl ?_
          refine l_val rfl rfl rfl (r_leq rfl rfl) ?_
          refine l_val rfl rfl rfl (r_pickT (v := .bool (decide (a0.B ≤ a0.A))) rfl rfl) ?_
          refine l_nil ?_
          refine c_if (b := (decide (a0.B ≤ a0.A))) rfl (fun hb => ?_) (fun hb => ?_)
          · have H41 := cnd_t hb H40; clear H40
            refine c_seq ?_
            refine c_region ?_
            refine l_val rfl rfl rfl (r_assign (v := .int .i64 5) rfl) ?_
            refine l_nil ?_
            refine c_ret ?_
            obtain rfl := Option.some.inj H41
            refine ret1 (v := .int .i64 5) rfl rfl (fin rfl)
          · have H42 := cnd_f hb H40; clear H40
            refine c_skip ?_
            refine c_seq ?_
            refine c_region ?_
            refine l_val rfl rfl rfl (r_assign (v := .int .i64 0) rfl) ?_
            refine l_nil ?_
            refine c_ret ?_
            obtain rfl := Option.some.inj H42
            refine ret1 (v := .int .i64 0) rfl rfl (fin rfl)
        · have H43 := cnd_f hb H39; clear H39
          refine l_passed rfl rfl rfl ?_
          refine l_passed rfl rfl rfl ?_
          refine l_passed rfl rfl rfl ?_
          refine l_passed rfl rfl rfl ?_
          refine l_passed rfl rfl rfl ?_
          refine l_val rfl rfl rfl (r_pickF (v := .bool false) rfl rfl) ?_
          refine l_nil ?_
          refine c_false rfl ?_
          refine c_skip ?_
          refine c_seq ?_
          refine c_region ?_
          refine l_val rfl rfl rfl (r_assign (v := .int .i64 0) rfl) ?_
          refine l_nil ?_
          refine c_ret ?_
          obtain rfl := Option.some.inj H43
          refine ret1 (v := .int .i64 0) rfl rfl (fin rfl)
theorem k10 {a0 : (List T_edit_Step)} {v0 : Value} {r : Int} {w : World} {h : Heap} (hw : Know h w noS) (f0 : FrS h 5 v0 (a0.map e_edit_Step)) (H : edit_Check a0 = some r) : Does Tryd.prog 10 (List.toArray [v0]) w (fun v w' => v = (.int .i64 r) ∧ Grow w w') := by
  refine enter (n := 21) Tryd.func10 rfl rfl rfl noS [] (Sat.nil _ _) ?_
  refine c_seq ?_
  refine c_region ?_
  refine l_val rfl rfl rfl (r_assign (v := .int .i64 0) rfl) ?_
  refine l_nil ?_
  refine c_seq ?_
  refine c_seq ?_
  refine c_region ?_
  refine l_val rfl rfl rfl (r_move (v := v0) rfl) ?_
  refine l_val rfl rfl rfl (r_lenF Tryd.underlying27 rfl f0 rfl) ?_
  refine l_val rfl rfl rfl (r_gtr rfl rfl) ?_
  refine l_nil ?_
  refine c_if (b := (decide (50 < (a0.length : Int)))) rfl (fun hb => ?_) (fun hb => ?_)
  · have H11 := cnd_t hb H; clear H
    refine c_seq ?_
    refine c_region ?_
    refine l_val rfl rfl rfl (r_assign (v := .int .i64 4) rfl) ?_
    refine l_nil ?_
    refine c_ret ?_
    obtain rfl := Option.some.inj H11
    refine ret1 (v := .int .i64 4) rfl rfl (fin rfl)
  · have H12 := cnd_f hb H; clear H
    refine c_skip ?_
    refine c_seq ?_
    refine c_seq ?_
    refine c_region ?_
    refine l_val rfl rfl rfl (r_move (v := v0) rfl) ?_
    refine l_val rfl rfl rfl (r_lenF Tryd.underlying27 rfl f0 rfl) ?_
    refine l_val rfl rfl rfl (r_move (v := .int .i64 0) rfl) ?_
    refine l_nil ?_
    refine c_block ?_
    refine c_fix (σ := Int) (τ := Unit) (fun next1 s => edit_Check_l1 a0 next1 s) (fun s t => [(9, v0), (10, .int .i64 (a0.length : Int)), (11, .int .i64 s)]) (fun s t => []) (fun s t => True) 0 () [] H12 (by exact trivial) (by exact ⟨rfl, rfl, rfl, trivial⟩) (by decide) rfl ?_
    rintro x11_2 _ m1 gg H13 _
    clear H12
    replace H13 : edit_Check_l1 a0 (it (fun next1 s => edit_Check_l1 a0 next1 s) m1) x11_2 = some r := H13
    generalize hn1 : it (fun next1 s => edit_Check_l1 a0 next1 s) m1 = next1 at H13
    refine c_tidyF [(9, v0), (10, .int .i64 (a0.length : Int)), (11, .int .i64 x11_2)] [] rfl rfl ?_
    refine c_seq ?_
    refine c_region ?_
    refine l_val rfl rfl rfl (r_lss rfl rfl) ?_
    refine l_nil ?_
    refine c_seq ?_
    refine c_if (b := (decide (x11_2 < (a0.length : Int)))) rfl (fun hb => ?_) (fun hb => ?_)
    · have H14 := cnd_t hb H13; clear H13
      refine c_skip ?_
      refine c_seq ?_
      refine c_block ?_
      refine c_seq ?_
      refine c_region ?_
      obtain ⟨t13, h_t13, H15⟩ := bnd_some H14; clear H14
      refine l_val rfl rfl rfl (r_indexF Tryd.underlying27 Tryd.sizeOf29 rfl rfl f0 h_t13) ?_
      refine l_read (fun w hF hS => run_loadGN (f := e_edit_Step) (i := x11_2) (sz := 5) (j := 0) (vs := [.int .i64 t13.Kind, .int .i64 t13.A, .int .i64 t13.B, .int .i64 t13.C, .int .i64 t13.D]) Tryd.isAgg29 Tryd.sizeOf29 rfl rfl (f0.row (hw.now hF)) h_t13 rfl) rfl rfl rfl ?_
      refine l_alloc (cs := [.int .i64 0, .int .i64 0, .int .i64 0, .int .i64 0, .int .i64 0]) Tryd.zeroValue29 rfl rfl rfl (fun b1 => ?_)
      refine l_store (i := 0) (vs := [.int .i64 t13.Kind, .int .i64 t13.A, .int .i64 t13.B, .int .i64 t13.C, .int .i64 t13.D]) (cs' := [.int .i64 t13.Kind, .int .i64 t13.A, .int .i64 t13.B, .int .i64 t13.C, .int .i64 t13.D]) Tryd.sizeOf29 rfl rfl rfl rfl rfl rfl rfl rfl rfl ?_
      refine l_nil ?_
      refine c_seq ?_
      refine c_region ?_
      refine l_loadN (i := 0) (vs := [.int .i64 t13.Kind, .int .i64 t13.A, .int .i64 t13.B, .int .i64 t13.C, .int .i64 t13.D]) Tryd.isAgg29 Tryd.sizeOf29 rfl rfl rfl rfl rfl ?_
      obtain ⟨t16, h_t16, H16⟩ := bnd_some H15; clear H15
      refine l_call (k23 h_t16) Tryd.call23 rfl rfl rfl ?_
      refine l_val rfl rfl rfl (r_assign (v := .int .i64 t16) rfl) ?_
      refine l_nil ?_
      refine c_seq ?_
      refine c_region ?_
      refine l_val rfl rfl rfl (r_move (v := .int .i64 t16) rfl) ?_
      refine l_val rfl rfl rfl (r_neq rfl rfl) ?_
      refine l_nil ?_
      refine c_if (b := (decide (t16 ≠ 0))) rfl (fun hb => ?_) (fun hb => ?_)
      · have H17 := cnd_t hb H16; clear H16
        refine c_seq ?_
        refine c_region ?_
        refine l_val rfl rfl rfl (r_move (v := .int .i64 t16) rfl) ?_
        refine l_val rfl rfl rfl (r_assign (v := .int .i64 t16) rfl) ?_
        refine l_nil ?_
        refine c_ret ?_
        obtain rfl := Option.some.inj H17
        refine ret1 (v := .int .i64 t16) rfl rfl (fin rfl)
      · have H18 := cnd_f hb H16; clear H16
        refine c_skip ?_
        refine c_region ?_
        obtain ⟨t20, h_t20, H19⟩ := bnd_some H18; clear H18
        refine l_val rfl rfl rfl (r_addG rfl rfl h_t20) ?_
        refine l_val rfl rfl rfl (r_move (v := .int .i64 t20) rfl) ?_
        refine l_nil ?_
        refine c_close t20 () m1 [] (by exact ⟨rfl, rfl, rfl, trivial⟩) (by decide) rfl (by exact ⟨(by subst hn1; exact H19), trivial⟩) (Nat.lt_succ_self _)
    · have H20 := cnd_f hb H13; clear H13
      refine c_exit ?_
      refine c_seq ?_
      refine c_region ?_
      refine l_val rfl rfl rfl (r_assign (v := .int .i64 0) rfl) ?_
      refine l_nil ?_
      refine c_ret ?_
      obtain rfl := Option.some.inj H20
      refine ret1 (v := .int .i64 0) rfl rfl (fin rfl)
theorem ext52 (x : Value) (w : World) : (callFunc 52 (List.toArray [x])).run Tryd.prog w = .ok (.value x) w := by
  have h0 : (callFunc 52 #[x]).run Tryd.prog w = (do pure (.value (← Extern.AbiNoEscape.same #[x])) : Sem Next).run Tryd.prog w := by kernel_rfl
  rw [h0]; rfl

theorem k35 {pb0 : Nat} {q sl : Value} {w : World} {S : Nat → Prop} (hcs : (cellsC pb0 [q, sl] 56).P S w) (hlt : ∀ b, S b → b < w.heap.size) (hq : q = .pointer none ∨ q = .pointer (some ⟨pb0, 0, none⟩)) : Does Tryd.prog 35 (List.toArray [.pointer (some ⟨pb0, 0, none⟩)]) w (fun v w' => ∃ x : Unit, v = .tuple #[] ∧ Turn w w' S (cellsC pb0 [.pointer (some ⟨pb0, 0, none⟩), sl] 56)) := by
  refine enter (n := 20) Tryd.func35 rfl rfl rfl S [cellsC pb0 [q, sl] 56] (Sat.one hcs hlt) ?_
  refine c_seq ?_
  refine c_region ?_
  refine l_val rfl rfl rfl (r_move (v := .pointer (some ⟨pb0, 0, none⟩)) rfl) ?_
  refine l_val rfl rfl rfl (r_nilCheck rfl) ?_
  refine l_val rfl rfl rfl (r_field Tryd.runUnderlying56 rfl Tryd.sizeOf54 rfl rfl) ?_
  refine l_load1 (i := 0) (v := q) Tryd.isAgg54 rfl rfl rfl rfl rfl ?_
  rcases hq with rfl | rfl
  · refine l_val rfl rfl rfl (r_nilP (a := none) Tryd.underlying54 rfl rfl) ?_
    refine l_nil ?_
    refine c_true rfl ?_
    refine c_region ?_
    refine l_val rfl rfl rfl (r_move (v := .pointer (some ⟨pb0, 0, none⟩)) rfl) ?_
    refine l_val rfl rfl rfl (r_move (v := .pointer (some ⟨pb0, 0, none⟩)) rfl) ?_
    refine l_read (fun w hF hS => run_toU (cs := [.pointer none, sl]) (T := 56) Tryd.underlying54 Tryd.underlying95 (info_of Tryd.typeInfo56) (by decide) (sat_cell (i := 0) hS rfl) rfl rfl) rfl rfl rfl ?_
    refine l_val rfl rfl rfl (r_ext (args := [.pointer (some ⟨pb0, 0, none⟩)]) (ext52 _) rfl) ?_
    refine l_read (fun w hF hS => run_fromU (cs := [.pointer none, sl]) (T := 56) Tryd.underlying95 Tryd.underlying54 (info_of Tryd.typeInfo56) (sat_cell (i := 0) hS rfl) (by kernel_rfl) rfl) rfl rfl rfl ?_
    refine l_val rfl rfl rfl (r_nilCheck rfl) ?_
    refine l_val rfl rfl rfl (r_field Tryd.runUnderlying56 rfl Tryd.sizeOf54 rfl rfl) ?_
    refine l_store (i := 0) (vs := [.pointer (some ⟨pb0, 0, none⟩)]) (cs' := [.pointer (some ⟨pb0, 0, none⟩), sl]) Tryd.sizeOf54 rfl rfl rfl rfl rfl rfl rfl rfl rfl ?_
    refine l_nil ?_
    exact ret0n rfl (finX () (i := 0) rfl rfl (Imp.refl _))
  · refine l_val rfl rfl rfl (r_nilP (a := some ⟨pb0, 0, none⟩) Tryd.underlying54 rfl rfl) ?_
    refine l_nil ?_
    refine c_false rfl ?_
    refine c_seq ?_
    refine c_region ?_
    refine l_val rfl rfl rfl (r_move (v := .pointer (some ⟨pb0, 0, none⟩)) rfl) ?_
    refine l_val rfl rfl rfl (r_nilCheck rfl) ?_
    refine l_val rfl rfl rfl (r_field Tryd.runUnderlying56 rfl Tryd.sizeOf54 rfl rfl) ?_
    refine l_load1 (i := 0) (v := .pointer (some ⟨pb0, 0, none⟩)) Tryd.isAgg54 rfl rfl rfl rfl rfl ?_
    refine l_val rfl rfl rfl (r_move (v := .pointer (some ⟨pb0, 0, none⟩)) rfl) ?_
    refine l_val rfl rfl rfl (r_sameP Tryd.underlying54 (info_of Tryd.typeInfo56) rfl rfl) ?_
    refine l_nil ?_
    refine c_false rfl ?_
    refine c_skip ?_
    exact ret0n rfl (finX () (i := 0) rfl rfl (Imp.refl _))

theorem k20 {a0 : List UInt8} {pb0 : Nat} {a1 r : List UInt8} {w : World} {h : Heap} {S : Nat → Prop} (hcs : (bldC pb0 56 5 a0).P S w) (hlt : ∀ b, S b → b < w.heap.size) (hw : Know h w S) (H : gBld a0 a1 = some r) : Does Tryd.prog 20 (List.toArray [.pointer (some ⟨pb0, 0, none⟩), str a1]) w (fun v w' => ∃ x : Unit, v = .tuple #[.int .i64 (a1.length : Int), .nilIface] ∧ Turn w w' S (bldC pb0 56 5 r)) := by
  obtain ⟨rfl, hne, hbl⟩ := gBld_some H
  have hg : gApL 1 (ofStr a0) (ofStr a1) = some (ofStr (a0 ++ a1)) := by rw [gApL_ok (by simp [ofStr]; omega)]; simp [ofStr]
  refine enter (n := 19) Tryd.func20 rfl rfl rfl S [bldC pb0 56 5 a0] (Sat.one hcs hlt) ?_
  refine c_bld 0 rfl (fun q p hq hp => ?_)
  refine c_split 0 rfl ?_
  refine c_seq ?_
  refine c_region ?_
  refine l_val rfl rfl rfl (r_assign (v := .int .i64 0) rfl) ?_
  refine l_val rfl rfl rfl (r_assign (v := .nilIface) rfl) ?_
  refine l_nil ?_
  refine c_seq ?_
  refine c_region ?_
  refine l_val rfl rfl rfl (r_move (v := .pointer (some ⟨pb0, 0, none⟩)) rfl) ?_
  refine l_turn (turns_callB (i := 0) (rds := []) (G := fun _ : Unit => .tuple #[]) (C := fun _ => cellsC pb0 [.pointer (some ⟨pb0, 0, none⟩), .slice p.1 (ofStr a0).length p.2] 56) rfl (fun w L' S hF hS hi hp' hlt ho hA => k35 hp' hlt hq) Tryd.call35 rfl) rfl rfl rfl (fun _ => ?_)
  refine l_nil ?_
  refine c_seq ?_
  refine c_region ?_
  refine l_val rfl rfl rfl (r_move (v := .pointer (some ⟨pb0, 0, none⟩)) rfl) ?_
  refine l_val rfl rfl rfl (r_move (v := .pointer (some ⟨pb0, 0, none⟩)) rfl) ?_
  refine l_val rfl rfl rfl (r_nilCheck rfl) ?_
  refine l_val rfl rfl rfl (r_field Tryd.runUnderlying56 rfl Tryd.sizeOf22 rfl rfl) ?_
  refine l_load1 (i := 0) (v := .slice p.1 (ofStr a0).length p.2) Tryd.isAgg22 rfl rfl rfl rfl rfl ?_
  refine l_val rfl rfl rfl (r_move (v := str a1) rfl) ?_
  refine l_turn (turns_strG (i := 1) (rds := []) (f := e8) rfl Tryd.underlying22 Tryd.underlying9 (info_of Tryd.typeInfo5) rfl rfl rfl rfl rfl rfl (fun _ => rfl) hg) rfl rfl rfl (fun p2 => ?_)
  refine l_val rfl rfl rfl (r_nilCheck rfl) ?_
  refine l_val rfl rfl rfl (r_field Tryd.runUnderlying56 rfl Tryd.sizeOf22 rfl rfl) ?_
  refine l_store (i := 0) (vs := [.slice p2.1 (ofStr (a0 ++ a1)).length p2.2]) (cs' := [.pointer (some ⟨pb0, 0, none⟩), .slice p2.1 (ofStr (a0 ++ a1)).length p2.2]) Tryd.sizeOf22 rfl rfl rfl rfl rfl rfl rfl rfl rfl ?_
  refine l_nil ?_
  refine c_seq ?_
  refine c_region ?_
  refine l_val rfl rfl rfl (r_move (v := str a1) rfl) ?_
  refine l_val rfl rfl rfl (r_lenT Tryd.underlying9 rfl) ?_
  refine l_val rfl rfl rfl (r_assign (v := .int .i64 (a1.length : Int)) rfl) ?_
  refine l_val rfl rfl rfl (r_assign (v := .nilIface) rfl) ?_
  refine l_nil ?_
  refine c_ret ?_
  refine c_both 0 1 rfl rfl (by decide) ?_
  exact ret2 rfl rfl rfl (finX () (i := 0) rfl rfl (imp_bld (by simp [hne])))

theorem k38 {a0 : Int} {r : (List UInt8)} {w : World} {h : Heap} (hw : Know h w noS) (tb_pow10 : TabH Tryd.prog h "internal/strconv.uint64pow10" .u64 Lib.pow10Tab) (H : gItoa a0 = some r) : Does Tryd.prog 38 (List.toArray [.int .i64 a0]) w (fun v w' => v = (str r) ∧ Grow w w') :=
  itoa_does (ρ := Go.Proofs.Tryd.laysM171_ren) Go.Proofs.Tryd.laysM171 hw tb_pow10 H

theorem k21 {a0 : T_edit_Step} {r : (List UInt8)} {w : World} {h : Heap} (hw : Know h w noS) (tb_pow10 : TabH Tryd.prog h "internal/strconv.uint64pow10" .u64 Lib.pow10Tab) (H : edit_Step_line a0 = some r) : Does Tryd.prog 21 (List.toArray [.agg #[.int .i64 a0.Kind, .int .i64 a0.A, .int .i64 a0.B, .int .i64 a0.C, .int .i64 a0.D]]) w (fun v w' => v = (str r) ∧ Grow w w') := by
  refine enter (n := 29) Tryd.func21 rfl rfl rfl noS [] (Sat.nil _ _) ?_
  refine c_seq ?_
  refine c_region ?_
  refine l_box (cs := [.int .i64 a0.Kind, .int .i64 a0.A, .int .i64 a0.B, .int .i64 a0.C, .int .i64 a0.D]) rfl rfl rfl rfl (fun b1 => ?_)
  refine l_val rfl rfl rfl (r_assign (v := str []) rfl) ?_
  refine l_nil ?_
  refine c_seq ?_
  refine c_region ?_
  refine l_val rfl rfl rfl (r_field Tryd.runUnderlying29 rfl Tryd.sizeOf3 rfl rfl) ?_
  refine l_load1 (i := 0) (v := .int .i64 a0.Kind) Tryd.isAgg3 rfl rfl rfl rfl rfl ?_
  obtain ⟨t10, h_t10, H12⟩ := bnd_some H; clear H
  refine l_call (k36 h_t10) Tryd.call36 rfl rfl rfl ?_
  refine l_val rfl rfl rfl (r_move (v := .tuple #[str t10.1, .int .i64 t10.2]) rfl) ?_
  refine l_val rfl rfl rfl (r_extract (v := str t10.1) rfl rfl) ?_
  refine l_val rfl rfl rfl (r_extract (v := .int .i64 t10.2) rfl rfl) ?_
  refine l_val rfl rfl rfl (r_assign (v := str t10.1) rfl) ?_
  refine l_val rfl rfl rfl (r_assign (v := .int .i64 t10.2) rfl) ?_
  refine l_nil ?_
  refine c_seq ?_
  refine c_seq ?_
  refine c_region ?_
  refine l_loadN (i := 0) (vs := [.int .i64 a0.Kind, .int .i64 a0.A, .int .i64 a0.B, .int .i64 a0.C, .int .i64 a0.D]) Tryd.isAgg29 Tryd.sizeOf29 rfl rfl rfl rfl rfl ?_
  obtain ⟨t14, h_t14, H13⟩ := bnd_some H12; clear H12
  refine l_make (makes_call (rds := []) (G := fun x : (Option Addr × Nat) => .slice x.1 t14.length x.2) (C := fun x : (Option Addr × Nat) => rowV 3 1 (.slice x.1 t14.length x.2) t14.length (t14.map e_i64)) (fun w L' hF hS hi => k37 (know_all w)  h_t14) Tryd.call37 rfl) rfl rfl rfl (fun p => ?_)
  refine l_val rfl rfl rfl (r_move (v := .int .i64 t10.2) rfl) ?_
  obtain ⟨t16, h_t16, H14⟩ := bnd_some H13; clear H13
  refine l_read (v := .slice (cutA p.1 (Int.toNat (0 : Int)) p.2 1) t16.length (p.2 - Int.toNat (0 : Int))) (fun w hF hS => run_sliceHO (xs := t14) Tryd.underlying25 Tryd.sizeOf3 rfl rfl rfl (capOf (i := 1) hS rfl) h_t16) rfl rfl rfl ?_
  refine l_val rfl rfl rfl (r_len Tryd.underlying25 rfl) ?_
  refine l_val rfl rfl rfl (r_move (v := .int .i64 0) rfl) ?_
  refine l_nil ?_
  refine c_block ?_
  refine c_sel [1] [rowV 3 1 (.slice p.1 t14.length p.2) t14.length (t14.map e_i64)] rfl (by decide) ?_
  refine c_fix (σ := (List UInt8) × Int) (τ := Unit) (fun next1 s => edit_Step_line_l1 t16 next1 s.1 s.2) (fun s t => [(3, str s.1), (16, .slice (cutA p.1 (Int.toNat (0 : Int)) p.2 1) t16.length (p.2 - Int.toNat (0 : Int))), (17, .int .i64 (t16.length : Int)), (18, .int .i64 s.2)]) (fun s t => [rowV 3 1 (.slice p.1 t14.length p.2) t14.length (t14.map e_i64)]) (fun s t => True) (t10.1, 0) () [0] H14 (by exact trivial) (by exact ⟨rfl, rfl, rfl, rfl, trivial⟩) (by decide) rfl ?_
  rintro ⟨x3_2, x18_2⟩ _ m1 gg H15 _
  clear H14
  replace H15 : edit_Step_line_l1 t16 (it (fun next1 s => edit_Step_line_l1 t16 next1 s.1 s.2) m1) x3_2 x18_2 = some r := H15
  generalize hn1 : it (fun next1 s => edit_Step_line_l1 t16 next1 s.1 s.2) m1 = next1 at H15
  refine c_tidyF [(3, str x3_2), (16, .slice (cutA p.1 (Int.toNat (0 : Int)) p.2 1) t16.length (p.2 - Int.toNat (0 : Int))), (17, .int .i64 (t16.length : Int)), (18, .int .i64 x18_2)] [rowV 3 1 (.slice p.1 t14.length p.2) t14.length (t14.map e_i64)] rfl rfl ?_
  refine c_seq ?_
  refine c_region ?_
  refine l_val rfl rfl rfl (r_lss rfl rfl) ?_
  refine l_nil ?_
  refine c_seq ?_
  refine c_if (b := (decide (x18_2 < (t16.length : Int)))) rfl (fun hb => ?_) (fun hb => ?_)
  · have H16 := cnd_t hb H15; clear H15
    refine c_skip ?_
    refine c_seq ?_
    refine c_block ?_
    refine c_seq ?_
    refine c_region ?_
    obtain ⟨t20, h_t20, H17⟩ := bnd_some H16; clear H16
    refine l_read (fun w hF hS => run_indexO Tryd.underlying25 Tryd.sizeOf3 rfl rfl (Row.cutG (rowOf (i := 0) hS rfl) rfl (capOf (i := 0) hS rfl) h_t16) rfl h_t20) rfl rfl rfl ?_
    refine l_read (fun w hF hS => run_loadG1 (f := e_i64) (i := x18_2) (sz := 1) (j := 0) (v := .int .i64 t20) Tryd.isAgg3 rfl rfl (Row.cutG (rowOf (i := 0) hS rfl) rfl (capOf (i := 0) hS rfl) h_t16) h_t20 rfl) rfl rfl rfl ?_
    refine l_val rfl rfl rfl (r_assign (v := .int .i64 t20) rfl) ?_
    refine l_nil ?_
    refine c_region ?_
    refine l_val rfl rfl rfl (r_move (v := str x3_2) rfl) ?_
    refine l_val rfl rfl rfl (r_move (v := .int .i64 t20) rfl) ?_
    obtain ⟨t24, h_t24, H18⟩ := bnd_some H17; clear H17
    refine l_callG (fun w hF hS => k38 (know_all w) (tb_pow10.mono (hw.now hF)) h_t24) Tryd.call38 rfl rfl rfl ?_
    obtain ⟨t25, h_t25, H19⟩ := bnd_some H18; clear H18
    refine l_val rfl rfl rfl (r_concatG rfl rfl h_t25) ?_
    obtain ⟨t26, h_t26, H20⟩ := bnd_some H19; clear H19
    refine l_val rfl rfl rfl (r_concatG rfl rfl h_t26) ?_
    refine l_val rfl rfl rfl (r_assign (v := str t26) rfl) ?_
    refine l_nil ?_
    refine c_region ?_
    obtain ⟨t27, h_t27, H21⟩ := bnd_some H20; clear H20
    refine l_val rfl rfl rfl (r_addG rfl rfl h_t27) ?_
    refine l_val rfl rfl rfl (r_move (v := .int .i64 t27) rfl) ?_
    refine l_nil ?_
    refine c_close (t26, t27) () m1 [0] (by exact ⟨rfl, rfl, rfl, rfl, trivial⟩) (by decide) rfl (by exact ⟨(by subst hn1; exact H21), trivial⟩) (Nat.lt_succ_self _)
  · have H22 := cnd_f hb H15; clear H15
    refine c_exit ?_
    refine c_seq ?_
    refine c_region ?_
    refine l_val rfl rfl rfl (r_move (v := str x3_2) rfl) ?_
    refine l_val rfl rfl rfl (r_assign (v := str x3_2) rfl) ?_
    refine l_nil ?_
    refine c_ret ?_
    obtain rfl := Option.some.inj H22
    refine ret1 (v := str x3_2) rfl rfl (fin rfl)
theorem k22 {a0 : List UInt8} {pb0 : Nat}  {w : World} {h : Heap} {S : Nat → Prop} (hcs : (bldC pb0 56 5 a0).P S w) (hlt : ∀ b, S b → b < w.heap.size) (hw : Know h w S)  : Does Tryd.prog 22 (List.toArray [.pointer (some ⟨pb0, 0, none⟩)]) w (fun v w' => ∃ x : Unit, v = str a0 ∧ Turn w w' S empC) := by
  refine enter (n := 14) Tryd.func22 rfl rfl rfl S [bldC pb0 56 5 a0] (Sat.one hcs hlt) ?_
  refine c_bld 0 rfl (fun q p hq hp => ?_)
  refine c_split 0 rfl ?_
  refine c_seq ?_
  refine c_region ?_
  refine l_val rfl rfl rfl (r_assign (v := str []) rfl) ?_
  refine l_nil ?_
  refine c_seq ?_
  exact c_regionD (Kd.p :: Kd.p :: Kd.p :: Kd.d [0] _ :: Kd.p :: Kd.p :: Kd.p :: Kd.p :: Kd.d [0] _ :: Kd.p :: Kd.t 1 [] _ _ :: Kd.p :: []) 0 mixed (by
    refine d_val rfl rfl (r_move (v := .pointer (some ⟨pb0, 0, none⟩)) rfl) ?_
    refine d_val rfl rfl (r_nilCheck rfl) ?_
    refine d_val rfl rfl (r_field Tryd.runUnderlying56 rfl Tryd.sizeOf22 rfl rfl) ?_
    refine d_load1 (i := 0) (v := .slice p.1 (ofStr a0).length p.2) Tryd.isAgg22 rfl rfl rfl rfl ?_
    refine d_val rfl rfl (r_ssd hp rfl) ?_
    refine d_val rfl rfl (r_move (v := .pointer (some ⟨pb0, 0, none⟩)) rfl) ?_
    refine d_val rfl rfl (r_nilCheck rfl) ?_
    refine d_val rfl rfl (r_field Tryd.runUnderlying56 rfl Tryd.sizeOf22 rfl rfl) ?_
    refine d_load1 (i := 0) (v := .slice p.1 (ofStr a0).length p.2) Tryd.isAgg22 rfl rfl rfl rfl ?_
    refine d_val rfl rfl (r_len Tryd.underlying22 rfl) ?_
    refine d_turn (Cv := fun _ => empC) () (turns_ustr (i := 1) (bs := a0) (p := p) Tryd.underlying86 (by kernel_rfl) rfl rfl rfl) (fun _ => rfl) rfl rfl (fun _ => ?_)
    refine d_val rfl rfl (r_assign (v := str a0) rfl) ?_
    refine d_nil ?_
    refine c_ret ?_
    exact ret1 rfl rfl (finX () (i := 1) rfl rfl (Imp.refl _))
  ) (by kernel_rfl)

theorem k9 {a0 : (List T_edit_Step)} {v0 : Value} {r : (List UInt8) × Int} {w : World} {h : Heap} (hw : Know h w noS) (f0 : FrS h 5 v0 (a0.map e_edit_Step)) (tb_pow10 : TabH Tryd.prog h "internal/strconv.uint64pow10" .u64 Lib.pow10Tab) (H : edit_Text a0 = some r) : Does Tryd.prog 9 (List.toArray [v0]) w (fun v w' => v = (.tuple #[str r.1, .int .i64 r.2]) ∧ Grow w w') := by
  refine enter (n := 25) Tryd.func9 rfl rfl rfl noS [] (Sat.nil _ _) ?_
  refine c_seq ?_
  refine c_region ?_
  refine l_val rfl rfl rfl (r_assign (v := str []) rfl) ?_
  refine l_val rfl rfl rfl (r_assign (v := .int .i64 0) rfl) ?_
  refine l_nil ?_
  refine c_seq ?_
  refine c_seq ?_
  refine c_region ?_
  refine l_val rfl rfl rfl (r_move (v := v0) rfl) ?_
  obtain ⟨t9, h_t9, H13⟩ := bnd_some H; clear H
  refine l_callG (fun w hF hS => k10 (know_all w) (f0.mono (hw.now hF)) h_t9) Tryd.call10 rfl rfl rfl ?_
  refine l_val rfl rfl rfl (r_assign (v := .int .i64 t9) rfl) ?_
  refine l_nil ?_
  refine c_seq ?_
  refine c_region ?_
  refine l_val rfl rfl rfl (r_move (v := .int .i64 t9) rfl) ?_
  refine l_val rfl rfl rfl (r_neq rfl rfl) ?_
  refine l_nil ?_
  refine c_if (b := (decide (t9 ≠ 0))) rfl (fun hb => ?_) (fun hb => ?_)
  · have H14 := cnd_t hb H13; clear H13
    refine c_seq ?_
    refine c_region ?_
    refine l_val rfl rfl rfl (r_move (v := .int .i64 t9) rfl) ?_
    refine l_val rfl rfl rfl (r_assign (v := str []) rfl) ?_
    refine l_val rfl rfl rfl (r_assign (v := .int .i64 t9) rfl) ?_
    refine l_nil ?_
    refine c_ret ?_
    obtain rfl := Option.some.inj H14
    refine ret2 (v1 := str []) (v2 := .int .i64 t9) rfl rfl rfl (fin rfl)
  · have H15 := cnd_f hb H13; clear H13
    refine c_skip ?_
    refine c_seq ?_
    refine c_region ?_
    refine l_alloc (cs := [.pointer none, .slice none 0 0]) Tryd.zeroValue56 rfl rfl rfl (fun b2 => ?_)
    refine c_imp 0 rfl (imp_bldNew _ _ 5) ?_
    refine l_nil ?_
    refine c_meet (r := r) (σ := (List UInt8)) (τ := Unit) (fun s => edit_Text_j1 s) (fun s t => [(5, .pointer (some ⟨b2, 0, none⟩))]) (fun s t => [bldC b2 56 5 s]) (fun s t => True) ?_ ?_
    · refine c_seq ?_
      refine c_region ?_
      refine l_val rfl rfl rfl (r_move (v := v0) rfl) ?_
      refine l_val rfl rfl rfl (r_lenF Tryd.underlying27 rfl f0 rfl) ?_
      refine l_val rfl rfl rfl (r_move (v := .int .i64 0) rfl) ?_
      refine l_nil ?_
      refine c_block ?_
      refine c_fix (σ := Int × (List UInt8)) (τ := Unit) (fun next2 s => edit_Text_l2 a0 next2 s.1 s.2) (fun s t => [(5, .pointer (some ⟨b2, 0, none⟩)), (13, v0), (14, .int .i64 (a0.length : Int)), (15, .int .i64 s.1)]) (fun s t => [bldC b2 56 5 s.2]) (fun s t => True) (0, []) () [0] H15 (by exact trivial) (by exact ⟨rfl, rfl, rfl, rfl, trivial⟩) (by decide) rfl ?_
      rintro ⟨x15_2, m_3⟩ _ m2 gg H17 _
      clear H15
      replace H17 : edit_Text_l2 a0 (it (fun next2 s => edit_Text_l2 a0 next2 s.1 s.2) m2) x15_2 m_3 = some r := H17
      generalize hn2 : it (fun next2 s => edit_Text_l2 a0 next2 s.1 s.2) m2 = next2 at H17
      refine c_tidyF [(5, .pointer (some ⟨b2, 0, none⟩)), (13, v0), (14, .int .i64 (a0.length : Int)), (15, .int .i64 x15_2)] [bldC b2 56 5 m_3] rfl rfl ?_
      refine c_seq ?_
      refine c_region ?_
      refine l_val rfl rfl rfl (r_lss rfl rfl) ?_
      refine l_nil ?_
      refine c_seq ?_
      refine c_if (b := (decide (x15_2 < (a0.length : Int)))) rfl (fun hb => ?_) (fun hb => ?_)
      · have H18 := cnd_t hb H17; clear H17
        refine c_skip ?_
        refine c_seq ?_
        refine c_block ?_
        refine c_seq ?_
        refine c_region ?_
        obtain ⟨t17, h_t17, H19⟩ := bnd_some H18; clear H18
        refine l_val rfl rfl rfl (r_indexF Tryd.underlying27 Tryd.sizeOf29 rfl rfl f0 h_t17) ?_
        refine l_read (fun w hF hS => run_loadGN (f := e_edit_Step) (i := x15_2) (sz := 5) (j := 0) (vs := [.int .i64 t17.Kind, .int .i64 t17.A, .int .i64 t17.B, .int .i64 t17.C, .int .i64 t17.D]) Tryd.isAgg29 Tryd.sizeOf29 rfl rfl (f0.row (hw.now hF)) h_t17 rfl) rfl rfl rfl ?_
        refine l_alloc (cs := [.int .i64 0, .int .i64 0, .int .i64 0, .int .i64 0, .int .i64 0]) Tryd.zeroValue29 rfl rfl rfl (fun b3 => ?_)
        refine l_store (i := 1) (vs := [.int .i64 t17.Kind, .int .i64 t17.A, .int .i64 t17.B, .int .i64 t17.C, .int .i64 t17.D]) (cs' := [.int .i64 t17.Kind, .int .i64 t17.A, .int .i64 t17.B, .int .i64 t17.C, .int .i64 t17.D]) Tryd.sizeOf29 rfl rfl rfl rfl rfl rfl rfl rfl rfl ?_
        refine l_nil ?_
        refine c_region ?_
        refine l_loadN (i := 1) (vs := [.int .i64 t17.Kind, .int .i64 t17.A, .int .i64 t17.B, .int .i64 t17.C, .int .i64 t17.D]) Tryd.isAgg29 Tryd.sizeOf29 rfl rfl rfl rfl rfl ?_
        obtain ⟨t20, h_t20, H20⟩ := bnd_some H19; clear H19
        refine l_callG (fun w hF hS => k21 (know_all w) (tb_pow10.mono (hw.now hF)) h_t20) Tryd.call21 rfl rfl rfl ?_
        obtain ⟨t21, h_t21, H21⟩ := bnd_some H20; clear H20
        refine l_val rfl rfl rfl (r_concatG rfl rfl h_t21) ?_
        obtain ⟨t22, h_t22, H22⟩ := bnd_some H21; clear H21
        refine l_turn (turns_callB (i := 0) (rds := []) (G := fun _ : Unit => .tuple #[.int .i64 (t21.length : Int), .nilIface]) (C := fun _ => bldC b2 56 5 t22) rfl (fun w L' S hF hS hi hp hlt ho hA => k20 hp hlt (know_but w S) h_t22) Tryd.call20 rfl) rfl rfl rfl (fun _ => ?_)
        refine l_nil ?_
        refine c_region ?_
        obtain ⟨t23, h_t23, H23⟩ := bnd_some H22; clear H22
        refine l_val rfl rfl rfl (r_addG rfl rfl h_t23) ?_
        refine l_val rfl rfl rfl (r_move (v := .int .i64 t23) rfl) ?_
        refine l_nil ?_
        refine c_close (t23, t22) () m2 [0] (by exact ⟨rfl, rfl, rfl, rfl, trivial⟩) (by decide) rfl (by exact ⟨(by subst hn2; exact H23), trivial⟩) (Nat.lt_succ_self _)
      · have H24 := cnd_f hb H17; clear H17
        refine c_exit ?_
        refine c_close m_3 () 0 [0] (by exact ⟨rfl, trivial⟩) (by decide) rfl (by exact ⟨H24, trivial⟩) (Nat.lt_succ_self _)
    · rintro m _ gg H16 _
      replace H16 : edit_Text_j1 m = some r := H16
      refine c_tidyF [(5, .pointer (some ⟨b2, 0, none⟩))] [bldC b2 56 5 m] rfl rfl ?_
      refine c_seq ?_
      refine c_region ?_
      refine l_turn (turns_callB (i := 0) (rds := []) (G := fun _ : Unit => str m) (C := fun _ => empC) rfl (fun w L' S hF hS hi hp hlt ho hA => k22 hp hlt (know_but w S)) Tryd.call22 rfl) rfl rfl rfl (fun _ => ?_)
      refine l_val rfl rfl rfl (r_assign (v := str m) rfl) ?_
      refine l_val rfl rfl rfl (r_assign (v := .int .i64 0) rfl) ?_
      refine l_nil ?_
      refine c_ret ?_
      obtain rfl := Option.some.inj H16
      refine ret2 (v1 := str m) (v2 := .int .i64 0) rfl rfl rfl (fin rfl)
theorem k24 {a0 : Int} {a1 : Int} {a2 : Int} {r : Bool} (H : pix_outside a0 a1 a2 = some r) : Ret Tryd.prog 24 [.int .i64 a0, .int .i64 a1, .int .i64 a2] (.bool r) := by
  refine enterRet (n := 15) Tryd.func24 rfl rfl rfl (fun wd => ?_)
  refine c_seq ?_
  refine c_region ?_
  refine l_val rfl rfl rfl (r_assign (v := .bool false) rfl) ?_
  refine l_nil ?_
  refine c_seq ?_
  refine c_region ?_
  refine l_val rfl rfl rfl (r_move (v := .int .i64 a0) rfl) ?_
  refine l_val rfl rfl rfl (r_move (v := .int .i64 a1) rfl) ?_
  refine l_val rfl rfl rfl (r_lss rfl rfl) ?_
  refine l_val rfl rfl rfl (r_move (v := .bool (decide (a0 < a1))) rfl) ?_
  refine split (fun hb => ?_) (fun hb => ?_)
  · have H3 := cnd_t hb H; clear H
    refine l_passed rfl rfl rfl ?_
    refine l_passed rfl rfl rfl ?_
    refine l_passed rfl rfl rfl ?_
    refine l_val rfl rfl rfl (r_pickT (v := .bool true) rfl rfl) ?_
    refine l_val rfl rfl rfl (r_assign (v := .bool true) rfl) ?_
    refine l_nil ?_
    refine c_ret ?_
    obtain rfl := Option.some.inj H3
    refine ret1 (v := .bool true) rfl rfl (fin rfl)
  · have H4 := cnd_f hb H; clear H
    refine l_val rfl rfl rfl (r_move (v := .int .i64 a0) rfl) ?_
    refine l_val rfl rfl rfl (r_move (v := .int .i64 a2) rfl) ?_
    refine l_val rfl rfl rfl (r_gtr rfl rfl) ?_
    refine l_val rfl rfl rfl (r_pickF (v := .bool (decide (a2 < a0))) rfl rfl) ?_
    refine l_val rfl rfl rfl (r_assign (v := .bool (decide (a2 < a0))) rfl) ?_
    refine l_nil ?_
    refine c_ret ?_
    obtain rfl := Option.some.inj H4
    refine ret1 (v := .bool (decide (a2 < a0))) rfl rfl (fin rfl)
theorem k11 {a0 : T_api_Image} {v0_2 : Value} {r : Int} {w : World} {h : Heap} (hw : Know h w noS) (f0_2 : FrS h 1 v0_2 (a0.Pixels.map e_u8)) (H : pix_Check a0 = some r) : Does Tryd.prog 11 (List.toArray [.agg #[.int .i64 a0.W, .int .i64 a0.H, v0_2]]) w (fun v w' => v = (.int .i64 r) ∧ Grow w w') := by
  refine enter (n := 21) Tryd.func11 rfl rfl rfl noS [] (Sat.nil _ _) ?_
  refine c_seq ?_
  refine c_region ?_
  refine l_box (cs := [.int .i64 a0.W, .int .i64 a0.H, v0_2]) rfl rfl rfl rfl (fun b1 => ?_)
  refine l_val rfl rfl rfl (r_assign (v := .int .i64 0) rfl) ?_
  refine l_nil ?_
  refine c_seq ?_
  refine c_seq ?_
  refine c_region ?_
  refine l_val rfl rfl rfl (r_field Tryd.runUnderlying24 rfl Tryd.sizeOf3 rfl rfl) ?_
  refine l_load1 (i := 0) (v := .int .i64 a0.W) Tryd.isAgg3 rfl rfl rfl rfl rfl ?_
  obtain ⟨t5, h_t5, H11⟩ := bnd_some H; clear H
  refine l_call (k24 h_t5) Tryd.call24 rfl rfl rfl ?_
  refine l_val rfl rfl rfl (r_move (v := .bool t5) rfl) ?_
  refine split (fun hb => ?_) (fun hb => ?_)
  · have H12 := cnd_t hb H11; clear H11
    refine l_passed rfl rfl rfl ?_
    refine l_passed rfl rfl rfl ?_
    refine l_passed rfl rfl rfl ?_
    refine l_val rfl rfl rfl (r_pickT (v := .bool true) rfl rfl) ?_
    refine l_nil ?_
    refine c_true rfl ?_
    refine c_seq ?_
    refine c_region ?_
    refine l_val rfl rfl rfl (r_assign (v := .int .i64 2) rfl) ?_
    refine l_nil ?_
    refine c_ret ?_
    obtain rfl := Option.some.inj H12
    refine ret1 (v := .int .i64 2) rfl rfl (fin rfl)
  · have H13 := cnd_f hb H11; clear H11
    refine l_val rfl rfl rfl (r_field Tryd.runUnderlying24 rfl Tryd.sizeOf3 rfl rfl) ?_
    refine l_load1 (i := 0) (v := .int .i64 a0.H) Tryd.isAgg3 rfl rfl rfl rfl rfl ?_
    obtain ⟨t9, h_t9, H14⟩ := bnd_some H13; clear H13
    refine l_call (k24 h_t9) Tryd.call24 rfl rfl rfl ?_
    refine l_val rfl rfl rfl (r_pickF (v := .bool t9) rfl rfl) ?_
    refine l_nil ?_
    refine c_if (b := t9) rfl (fun hb => ?_) (fun hb => ?_)
    · have H15 := cnd_t hb H14; clear H14
      refine c_seq ?_
      refine c_region ?_
      refine l_val rfl rfl rfl (r_assign (v := .int .i64 2) rfl) ?_
      refine l_nil ?_
      refine c_ret ?_
      obtain rfl := Option.some.inj H15
      refine ret1 (v := .int .i64 2) rfl rfl (fin rfl)
    · have H16 := cnd_f hb H14; clear H14
      refine c_skip ?_
      refine c_seq ?_
      refine c_seq ?_
      refine c_region ?_
      refine l_val rfl rfl rfl (r_field Tryd.runUnderlying24 rfl Tryd.sizeOf22 rfl rfl) ?_
      refine l_load1 (i := 0) (v := v0_2) Tryd.isAgg22 rfl rfl rfl rfl rfl ?_
      refine l_val rfl rfl rfl (r_lenF Tryd.underlying22 rfl f0_2 rfl) ?_
      refine l_val rfl rfl rfl (r_field Tryd.runUnderlying24 rfl Tryd.sizeOf3 rfl rfl) ?_
      refine l_load1 (i := 0) (v := .int .i64 a0.W) Tryd.isAgg3 rfl rfl rfl rfl rfl ?_
      obtain ⟨t16, h_t16, H17⟩ := bnd_some H16; clear H16
      refine l_val rfl rfl rfl (r_mulG rfl rfl h_t16) ?_
      refine l_val rfl rfl rfl (r_field Tryd.runUnderlying24 rfl Tryd.sizeOf3 rfl rfl) ?_
      refine l_load1 (i := 0) (v := .int .i64 a0.H) Tryd.isAgg3 rfl rfl rfl rfl rfl ?_
      obtain ⟨t19, h_t19, H18⟩ := bnd_some H17; clear H17
      refine l_val rfl rfl rfl (r_mulG rfl rfl h_t19) ?_
      refine l_val rfl rfl rfl (r_neq rfl rfl) ?_
      refine l_nil ?_
      refine c_if (b := (decide ((a0.Pixels.length : Int) ≠ t19))) rfl (fun hb => ?_) (fun hb => ?_)
      · have H19 := cnd_t hb H18; clear H18
        refine c_seq ?_
        refine c_region ?_
        refine l_val rfl rfl rfl (r_assign (v := .int .i64 1) rfl) ?_
        refine l_nil ?_
        refine c_ret ?_
        obtain rfl := Option.some.inj H19
        refine ret1 (v := .int .i64 1) rfl rfl (fin rfl)
      · have H20 := cnd_f hb H18; clear H18
        refine c_skip ?_
        refine c_seq ?_
        refine c_region ?_
        refine l_val rfl rfl rfl (r_assign (v := .int .i64 0) rfl) ?_
        refine l_nil ?_
        refine c_ret ?_
        obtain rfl := Option.some.inj H20
        refine ret1 (v := .int .i64 0) rfl rfl (fin rfl)
theorem k27 {a0 : Int} {a1 : Int} {r : T_api_Image} {w : World} {h : Heap} (hw : Know h w noS) (H : pix_blank a0 a1 = some r) : Does Tryd.prog 27 (List.toArray [.int .i64 a0, .int .i64 a1]) w (fun v w' => ∃ x : (Option Addr × Nat), v = (.agg #[.int .i64 r.W, .int .i64 r.H, .slice x.1 r.Pixels.length x.2]) ∧ Turn w w' noS (rowV 5 1 (.slice x.1 r.Pixels.length x.2) r.Pixels.length (r.Pixels.map e_u8))) := by
  refine enter (n := 13) Tryd.func27 rfl rfl rfl noS [] (Sat.nil _ _) ?_
  refine c_seq ?_
  refine c_region ?_
  refine l_alloc (cs := [.int .i64 0, .int .i64 0, .slice none 0 0]) Tryd.zeroValue24 rfl rfl rfl (fun b1 => ?_)
  refine l_nil ?_
  refine c_seq ?_
  refine c_region ?_
  refine l_val rfl rfl rfl (r_move (v := .int .i64 a0) rfl) ?_
  refine l_val rfl rfl rfl (r_move (v := .int .i64 a1) rfl) ?_
  refine l_val rfl rfl rfl (r_move (v := .int .i64 a0) rfl) ?_
  obtain ⟨t8, h_t8, H4⟩ := bnd_some H; clear H
  refine l_val rfl rfl rfl (r_mulG rfl rfl h_t8) ?_
  refine l_val rfl rfl rfl (r_move (v := .int .i64 a1) rfl) ?_
  obtain ⟨t10, h_t10, H5⟩ := bnd_some H4; clear H4
  refine l_val rfl rfl rfl (r_mulG rfl rfl h_t10) ?_
  obtain ⟨t11, h_t11, H6⟩ := bnd_some H5; clear H5
  refine l_make (rds := []) (makes_makeG (E := 5) (sz := 1) (f := e_u8) (xs := t11) Tryd.underlying22 (info_of Tryd.typeInfo5) rfl rfl rfl rfl rfl rfl ⟨rfl, rfl⟩ h_t11) rfl rfl rfl (fun p => ?_)
  refine l_val rfl rfl rfl (r_build (pl := #[(0, 1), (1, 1), (2, 1)]) (ps := [(0, .int .i64 a0), (1, .int .i64 a1), (2, .slice p.1 t11.length p.2)]) (cells := #[.int .i64 a0, .int .i64 a1, .slice p.1 t11.length p.2]) Tryd.zeroValue24 Tryd.runUnderlying24 (fun w => by kernel_rfl) rfl rfl) ?_
  refine l_store (i := 0) (vs := [.int .i64 a0, .int .i64 a1, .slice p.1 t11.length p.2]) (cs' := [.int .i64 a0, .int .i64 a1, .slice p.1 t11.length p.2]) Tryd.sizeOf24 rfl rfl rfl rfl rfl rfl rfl rfl rfl ?_
  refine l_nil ?_
  refine c_ret ?_
  obtain rfl := Option.some.inj H6
  refine retC (i := 0) (vs := [.int .i64 a0, .int .i64 a1, .slice p.1 t11.length p.2]) Tryd.isAgg24 Tryd.sizeOf24 rfl rfl rfl rfl (finX p (i := 1) rfl rfl (Imp.refl _))
theorem k28 {a0 : T_api_Image} {p0_2 : Option Addr × Nat} {n0_2 : Nat} {a1 : Int} {a2 : Int} {a3 : (Nat → Int)} {r : (List Int)} {w : World} {h : Heap} {S : Nat → Prop} (hcs : (rowV 5 1 (.slice p0_2.1 n0_2 p0_2.2) n0_2 (a0.Pixels.map e_u8)).P S w) (hlt : ∀ b, S b → b < w.heap.size) (hw : Know h w S) (hn0_2 : n0_2 = a0.Pixels.length) (H : pix_set a0 a1 a2 a3 = some r) : Does Tryd.prog 28 (List.toArray [.agg #[.int .i64 a0.W, .int .i64 a0.H, .slice p0_2.1 n0_2 p0_2.2], .int .i64 a1, .int .i64 a2, .agg #[.int .u8 (a3 0), .int .u8 (a3 1), .int .u8 (a3 2)]]) w (fun v w' => ∃ x : Unit, v = (.tuple #[]) ∧ Turn w w' S (rowV 5 1 (.slice p0_2.1 n0_2 p0_2.2) n0_2 (r.map e_u8))) := by
  refine enter (n := 20) Tryd.func28 rfl rfl rfl S [rowV 5 1 (.slice p0_2.1 n0_2 p0_2.2) n0_2 (a0.Pixels.map e_u8)] (Sat.one hcs hlt) ?_
  refine c_seq ?_
  refine c_region ?_
  refine l_box (cs := [.int .i64 a0.W, .int .i64 a0.H, .slice p0_2.1 n0_2 p0_2.2]) rfl rfl rfl rfl (fun b2 => ?_)
  refine l_box (cs := [.int .u8 (a3 0), .int .u8 (a3 1), .int .u8 (a3 2)]) rfl rfl rfl rfl (fun b3 => ?_)
  refine l_nil ?_
  exact c_regionD (Kd.p :: Kd.d [1] _ :: Kd.p :: Kd.p :: Kd.d [1] _ :: Kd.p :: Kd.p :: Kd.p :: Kd.p :: Kd.d [0] _ :: Kd.p :: Kd.t 0 [2] _ _ :: []) 0 mixed (by
    refine d_val rfl rfl (r_field Tryd.runUnderlying24 rfl Tryd.sizeOf22 rfl rfl) ?_
    refine d_load1 (i := 1) (v := .slice p0_2.1 n0_2 p0_2.2) Tryd.isAgg22 rfl rfl rfl rfl ?_
    refine d_val rfl rfl (r_move (v := .int .i64 a2) rfl) ?_
    refine d_val rfl rfl (r_field Tryd.runUnderlying24 rfl Tryd.sizeOf3 rfl rfl) ?_
    refine d_load1 (i := 1) (v := .int .i64 a0.W) Tryd.isAgg3 rfl rfl rfl rfl ?_
    have h_t13 := bnd_val H
    have H5 := bnd_rest H
    refine d_val rfl rfl (r_mulG rfl rfl h_t13) ?_
    refine d_val rfl rfl (r_move (v := .int .i64 a1) rfl) ?_
    have h_t15 := bnd_val H5
    have H6 := bnd_rest H5
    refine d_val rfl rfl (r_addG rfl rfl h_t15) ?_
    have h_t16 := bnd_val H6
    have H7 := bnd_rest H6
    refine d_val rfl rfl (r_mulG rfl rfl h_t16) ?_
    have h_t17 := bnd_val H7
    have H8 := bnd_rest H7
    refine d_readD (v := .slice (cutA p0_2.1 (Int.toNat (val (gI (3 * (val (gI ((val (gI (a2 * a0.W))) + a1))))))) p0_2.2 1) (val (gCut a0.Pixels (val (gI (3 * (val (gI ((val (gI (a2 * a0.W))) + a1)))))) a0.Pixels.length)).length (p0_2.2 - Int.toNat (val (gI (3 * (val (gI ((val (gI (a2 * a0.W))) + a1)))))))) (fun w L' hF hS hi => run_sliceLO (xs := a0.Pixels) Tryd.underlying22 Tryd.sizeOf5 rfl rfl hn0_2 (capOf (i := 0) hS ((hi 0 (by simp)).trans rfl)) h_t17) rfl rfl ?_
    refine d_val rfl rfl (r_sliceArrAll Tryd.underlying69 Tryd.sizeOf5 rfl) ?_
    refine d_turn (Cv := fun _ => rowV 5 1 (.slice p0_2.1 n0_2 p0_2.2) n0_2 ((cpyL a0.Pixels (val (gI (3 * (val (gI ((val (gI (a2 * a0.W))) + a1)))))) (val (gCut a0.Pixels (val (gI (3 * (val (gI ((val (gI (a2 * a0.W))) + a1)))))) a0.Pixels.length)).length ((List.range 3).map a3)).map e_u8)) () (turns_copyG (i := 0) (rds := _) (p := p0_2) (f := e_u8) (xs := a0.Pixels) (ts := (val (gCut a0.Pixels (val (gI (3 * (val (gI ((val (gI (a2 * a0.W))) + a1)))))) a0.Pixels.length))) (ys := ((List.range 3).map a3)) hn0_2 Tryd.underlying22 (by rw [info_of Tryd.typeInfo5]; rfl) rfl rfl h_t17 rfl (by simp) (fun w L' hF hS hi => row_arr (f := e_u8) (i := 2) hS ((hi 2 (by simp)).trans rfl) rfl (fun _ => rfl) (gCutA_ok (n := 3) (f := a3) (q := 3) (by decide))) (fun _ => rfl) (fun _ => rfl)) (fun _ => rfl) rfl rfl (fun _ => ?_)
    refine d_nil ?_
    obtain rfl := Option.some.inj H8
    refine ret0n rfl (finX () (i := 0) rfl rfl (Imp.refl _))
    ) (by kernel_rfl)
theorem k29 {a0 : T_api_Image} {v0_2 : Value} {a1 : Int} {a2 : Int} {r : (Nat → Int)} {w : World} {h : Heap} (hw : Know h w noS) (f0_2 : FrS h 1 v0_2 (a0.Pixels.map e_u8)) (H : pix_at a0 a1 a2 = some r) : Does Tryd.prog 29 (List.toArray [.agg #[.int .i64 a0.W, .int .i64 a0.H, v0_2], .int .i64 a1, .int .i64 a2]) w (fun v w' => v = (.agg #[.int .u8 (r 0), .int .u8 (r 1), .int .u8 (r 2)]) ∧ Grow w w') := by
  refine enter (n := 19) Tryd.func29 rfl rfl rfl noS [] (Sat.nil _ _) ?_
  refine c_seq ?_
  refine c_region ?_
  refine l_box (cs := [.int .i64 a0.W, .int .i64 a0.H, v0_2]) rfl rfl rfl rfl (fun b2 => ?_)
  refine l_alloc (cs := [.int .u8 0, .int .u8 0, .int .u8 0]) Tryd.zeroValue69 rfl rfl rfl (fun b3 => ?_)
  refine l_nil ?_
  refine c_seq ?_
  refine c_region ?_
  refine l_val rfl rfl rfl (r_field Tryd.runUnderlying24 rfl Tryd.sizeOf22 rfl rfl) ?_
  refine l_load1 (i := 0) (v := v0_2) Tryd.isAgg22 rfl rfl rfl rfl rfl ?_
  refine l_val rfl rfl rfl (r_move (v := .int .i64 a2) rfl) ?_
  refine l_val rfl rfl rfl (r_field Tryd.runUnderlying24 rfl Tryd.sizeOf3 rfl rfl) ?_
  refine l_load1 (i := 0) (v := .int .i64 a0.W) Tryd.isAgg3 rfl rfl rfl rfl rfl ?_
  obtain ⟨t12, h_t12, H6⟩ := bnd_some H; clear H
  refine l_val rfl rfl rfl (r_mulG rfl rfl h_t12) ?_
  refine l_val rfl rfl rfl (r_move (v := .int .i64 a1) rfl) ?_
  obtain ⟨t14, h_t14, H7⟩ := bnd_some H6; clear H6
  refine l_val rfl rfl rfl (r_addG rfl rfl h_t14) ?_
  obtain ⟨t15, h_t15, H8⟩ := bnd_some H7; clear H7
  refine l_val rfl rfl rfl (r_mulG rfl rfl h_t15) ?_
  obtain ⟨t16, h_t16, H9⟩ := bnd_some H8; clear H8
  refine l_val rfl rfl rfl (r_sliceLF Tryd.underlying22 Tryd.sizeOf5 rfl rfl f0_2 h_t16) ?_
  obtain ⟨u17, h_u17, H10⟩ := bnd_some H9; clear H9
  refine l_val rfl rfl rfl (r_sap Tryd.runUnderlying69 (Eq.trans rfl (f0_2.cut h_t16).eq) (by simpa using gIf_some h_u17)) ?_
  refine l_read (fun w hF hS => run_loadSA (n := 3) (f := e_u8) (xs := t16) (vs := [.int .u8 ((ofL t16) 0), .int .u8 ((ofL t16) 1), .int .u8 ((ofL t16) 2)]) Tryd.isAgg69 Tryd.sizeOf69 rfl ((f0_2.cut h_t16).row (hw.now hF)) (gIf_some h_u17) rfl rfl (fun _ => rfl) rfl) rfl rfl rfl ?_
  refine l_store (i := 1) (vs := [.int .u8 ((ofL t16) 0), .int .u8 ((ofL t16) 1), .int .u8 ((ofL t16) 2)]) (cs' := [.int .u8 ((ofL t16) 0), .int .u8 ((ofL t16) 1), .int .u8 ((ofL t16) 2)]) Tryd.sizeOf69 rfl rfl rfl rfl rfl rfl rfl rfl rfl ?_
  refine l_nil ?_
  refine c_ret ?_
  obtain rfl := Option.some.inj H10
  refine retC (i := 1) (vs := [.int .u8 ((ofL t16) 0), .int .u8 ((ofL t16) 1), .int .u8 ((ofL t16) 2)]) Tryd.isAgg69 Tryd.sizeOf69 rfl rfl rfl rfl (fin rfl)
theorem k44 {a0 : Int} {a1 : Int} {a2 : Int} {a3 : Int} {r : Int × Int} (H : pix_turnings_1 a0 a1 a2 a3 = some r) : Ret Tryd.prog 44 [.int .i64 a0, .int .i64 a1, .int .i64 a2, .int .i64 a3] (.tuple #[.int .i64 r.1, .int .i64 r.2]) := by
  refine enterRet (n := 12) Tryd.func44 rfl rfl rfl (fun wd => ?_)
  refine c_seq ?_
  refine c_region ?_
  refine l_val rfl rfl rfl (r_assign (v := .int .i64 0) rfl) ?_
  refine l_val rfl rfl rfl (r_assign (v := .int .i64 0) rfl) ?_
  refine l_nil ?_
  refine c_seq ?_
  refine c_region ?_
  refine l_val rfl rfl rfl (r_move (v := .int .i64 a2) rfl) ?_
  refine l_val rfl rfl rfl (r_move (v := .int .i64 a3) rfl) ?_
  refine l_val rfl rfl rfl (r_assign (v := .int .i64 a2) rfl) ?_
  refine l_val rfl rfl rfl (r_assign (v := .int .i64 a3) rfl) ?_
  refine l_nil ?_
  refine c_ret ?_
  obtain rfl := Option.some.inj H
  refine ret2 (v1 := .int .i64 a2) (v2 := .int .i64 a3) rfl rfl rfl (fin rfl)
theorem k45 {a0 : Int} {a1 : Int} {a2 : Int} {a3 : Int} {r : Int × Int} (H : pix_turnings_2 a0 a1 a2 a3 = some r) : Ret Tryd.prog 45 [.int .i64 a0, .int .i64 a1, .int .i64 a2, .int .i64 a3] (.tuple #[.int .i64 r.1, .int .i64 r.2]) := by
  refine enterRet (n := 15) Tryd.func45 rfl rfl rfl (fun wd => ?_)
  refine c_seq ?_
  refine c_region ?_
  refine l_val rfl rfl rfl (r_assign (v := .int .i64 0) rfl) ?_
  refine l_val rfl rfl rfl (r_assign (v := .int .i64 0) rfl) ?_
  refine l_nil ?_
  refine c_seq ?_
  refine c_region ?_
  refine l_val rfl rfl rfl (r_move (v := .int .i64 a0) rfl) ?_
  obtain ⟨t11, h_t11, H3⟩ := bnd_some H; clear H
  refine l_val rfl rfl rfl (r_subG rfl rfl h_t11) ?_
  refine l_val rfl rfl rfl (r_move (v := .int .i64 a2) rfl) ?_
  obtain ⟨t13, h_t13, H4⟩ := bnd_some H3; clear H3
  refine l_val rfl rfl rfl (r_subG rfl rfl h_t13) ?_
  refine l_val rfl rfl rfl (r_move (v := .int .i64 a3) rfl) ?_
  refine l_val rfl rfl rfl (r_assign (v := .int .i64 t13) rfl) ?_
  refine l_val rfl rfl rfl (r_assign (v := .int .i64 a3) rfl) ?_
  refine l_nil ?_
  refine c_ret ?_
  obtain rfl := Option.some.inj H4
  refine ret2 (v1 := .int .i64 t13) (v2 := .int .i64 a3) rfl rfl rfl (fin rfl)
theorem k46 {a0 : Int} {a1 : Int} {a2 : Int} {a3 : Int} {r : Int × Int} (H : pix_turnings_3 a0 a1 a2 a3 = some r) : Ret Tryd.prog 46 [.int .i64 a0, .int .i64 a1, .int .i64 a2, .int .i64 a3] (.tuple #[.int .i64 r.1, .int .i64 r.2]) := by
  refine enterRet (n := 18) Tryd.func46 rfl rfl rfl (fun wd => ?_)
  refine c_seq ?_
  refine c_region ?_
  refine l_val rfl rfl rfl (r_assign (v := .int .i64 0) rfl) ?_
  refine l_val rfl rfl rfl (r_assign (v := .int .i64 0) rfl) ?_
  refine l_nil ?_
  refine c_seq ?_
  refine c_region ?_
  refine l_val rfl rfl rfl (r_move (v := .int .i64 a0) rfl) ?_
  obtain ⟨t11, h_t11, H5⟩ := bnd_some H; clear H
  refine l_val rfl rfl rfl (r_subG rfl rfl h_t11) ?_
  refine l_val rfl rfl rfl (r_move (v := .int .i64 a2) rfl) ?_
  obtain ⟨t13, h_t13, H6⟩ := bnd_some H5; clear H5
  refine l_val rfl rfl rfl (r_subG rfl rfl h_t13) ?_
  refine l_val rfl rfl rfl (r_move (v := .int .i64 a1) rfl) ?_
  obtain ⟨t15, h_t15, H7⟩ := bnd_some H6; clear H6
  refine l_val rfl rfl rfl (r_subG rfl rfl h_t15) ?_
  refine l_val rfl rfl rfl (r_move (v := .int .i64 a3) rfl) ?_
  obtain ⟨t17, h_t17, H8⟩ := bnd_some H7; clear H7
  refine l_val rfl rfl rfl (r_subG rfl rfl h_t17) ?_
  refine l_val rfl rfl rfl (r_assign (v := .int .i64 t13) rfl) ?_
  refine l_val rfl rfl rfl (r_assign (v := .int .i64 t17) rfl) ?_
  refine l_nil ?_
  refine c_ret ?_
  obtain rfl := Option.some.inj H8
  refine ret2 (v1 := .int .i64 t13) (v2 := .int .i64 t17) rfl rfl rfl (fin rfl)
theorem k47 {a0 : Int} {a1 : Int} {a2 : Int} {a3 : Int} {r : Int × Int} (H : pix_turnings_4 a0 a1 a2 a3 = some r) : Ret Tryd.prog 47 [.int .i64 a0, .int .i64 a1, .int .i64 a2, .int .i64 a3] (.tuple #[.int .i64 r.1, .int .i64 r.2]) := by
  refine enterRet (n := 15) Tryd.func47 rfl rfl rfl (fun wd => ?_)
  refine c_seq ?_
  refine c_region ?_
  refine l_val rfl rfl rfl (r_assign (v := .int .i64 0) rfl) ?_
  refine l_val rfl rfl rfl (r_assign (v := .int .i64 0) rfl) ?_
  refine l_nil ?_
  refine c_seq ?_
  refine c_region ?_
  refine l_val rfl rfl rfl (r_move (v := .int .i64 a2) rfl) ?_
  refine l_val rfl rfl rfl (r_move (v := .int .i64 a1) rfl) ?_
  obtain ⟨t12, h_t12, H3⟩ := bnd_some H; clear H
  refine l_val rfl rfl rfl (r_subG rfl rfl h_t12) ?_
  refine l_val rfl rfl rfl (r_move (v := .int .i64 a3) rfl) ?_
  obtain ⟨t14, h_t14, H4⟩ := bnd_some H3; clear H3
  refine l_val rfl rfl rfl (r_subG rfl rfl h_t14) ?_
  refine l_val rfl rfl rfl (r_assign (v := .int .i64 a2) rfl) ?_
  refine l_val rfl rfl rfl (r_assign (v := .int .i64 t14) rfl) ?_
  refine l_nil ?_
  refine c_ret ?_
  obtain rfl := Option.some.inj H4
  refine ret2 (v1 := .int .i64 a2) (v2 := .int .i64 t14) rfl rfl rfl (fin rfl)
theorem k48 {a0 : Int} {a1 : Int} {a2 : Int} {a3 : Int} {r : Int × Int} (H : pix_turnings_5 a0 a1 a2 a3 = some r) : Ret Tryd.prog 48 [.int .i64 a0, .int .i64 a1, .int .i64 a2, .int .i64 a3] (.tuple #[.int .i64 r.1, .int .i64 r.2]) := by
  refine enterRet (n := 12) Tryd.func48 rfl rfl rfl (fun wd => ?_)
  refine c_seq ?_
  refine c_region ?_
  refine l_val rfl rfl rfl (r_assign (v := .int .i64 0) rfl) ?_
  refine l_val rfl rfl rfl (r_assign (v := .int .i64 0) rfl) ?_
  refine l_nil ?_
  refine c_seq ?_
  refine c_region ?_
  refine l_val rfl rfl rfl (r_move (v := .int .i64 a3) rfl) ?_
  refine l_val rfl rfl rfl (r_move (v := .int .i64 a2) rfl) ?_
  refine l_val rfl rfl rfl (r_assign (v := .int .i64 a3) rfl) ?_
  refine l_val rfl rfl rfl (r_assign (v := .int .i64 a2) rfl) ?_
  refine l_nil ?_
  refine c_ret ?_
  obtain rfl := Option.some.inj H
  refine ret2 (v1 := .int .i64 a3) (v2 := .int .i64 a2) rfl rfl rfl (fin rfl)
theorem k49 {a0 : Int} {a1 : Int} {a2 : Int} {a3 : Int} {r : Int × Int} (H : pix_turnings_6 a0 a1 a2 a3 = some r) : Ret Tryd.prog 49 [.int .i64 a0, .int .i64 a1, .int .i64 a2, .int .i64 a3] (.tuple #[.int .i64 r.1, .int .i64 r.2]) := by
  refine enterRet (n := 15) Tryd.func49 rfl rfl rfl (fun wd => ?_)
  refine c_seq ?_
  refine c_region ?_
  refine l_val rfl rfl rfl (r_assign (v := .int .i64 0) rfl) ?_
  refine l_val rfl rfl rfl (r_assign (v := .int .i64 0) rfl) ?_
  refine l_nil ?_
  refine c_seq ?_
  refine c_region ?_
  refine l_val rfl rfl rfl (r_move (v := .int .i64 a3) rfl) ?_
  refine l_val rfl rfl rfl (r_move (v := .int .i64 a1) rfl) ?_
  obtain ⟨t12, h_t12, H3⟩ := bnd_some H; clear H
  refine l_val rfl rfl rfl (r_subG rfl rfl h_t12) ?_
  refine l_val rfl rfl rfl (r_move (v := .int .i64 a2) rfl) ?_
  obtain ⟨t14, h_t14, H4⟩ := bnd_some H3; clear H3
  refine l_val rfl rfl rfl (r_subG rfl rfl h_t14) ?_
  refine l_val rfl rfl rfl (r_assign (v := .int .i64 a3) rfl) ?_
  refine l_val rfl rfl rfl (r_assign (v := .int .i64 t14) rfl) ?_
  refine l_nil ?_
  refine c_ret ?_
  obtain rfl := Option.some.inj H4
  refine ret2 (v1 := .int .i64 a3) (v2 := .int .i64 t14) rfl rfl rfl (fin rfl)
theorem k50 {a0 : Int} {a1 : Int} {a2 : Int} {a3 : Int} {r : Int × Int} (H : pix_turnings_7 a0 a1 a2 a3 = some r) : Ret Tryd.prog 50 [.int .i64 a0, .int .i64 a1, .int .i64 a2, .int .i64 a3] (.tuple #[.int .i64 r.1, .int .i64 r.2]) := by
  refine enterRet (n := 18) Tryd.func50 rfl rfl rfl (fun wd => ?_)
  refine c_seq ?_
  refine c_region ?_
  refine l_val rfl rfl rfl (r_assign (v := .int .i64 0) rfl) ?_
  refine l_val rfl rfl rfl (r_assign (v := .int .i64 0) rfl) ?_
  refine l_nil ?_
  refine c_seq ?_
  refine c_region ?_
  refine l_val rfl rfl rfl (r_move (v := .int .i64 a0) rfl) ?_
  obtain ⟨t11, h_t11, H5⟩ := bnd_some H; clear H
  refine l_val rfl rfl rfl (r_subG rfl rfl h_t11) ?_
  refine l_val rfl rfl rfl (r_move (v := .int .i64 a3) rfl) ?_
  obtain ⟨t13, h_t13, H6⟩ := bnd_some H5; clear H5
  refine l_val rfl rfl rfl (r_subG rfl rfl h_t13) ?_
  refine l_val rfl rfl rfl (r_move (v := .int .i64 a1) rfl) ?_
  obtain ⟨t15, h_t15, H7⟩ := bnd_some H6; clear H6
  refine l_val rfl rfl rfl (r_subG rfl rfl h_t15) ?_
  refine l_val rfl rfl rfl (r_move (v := .int .i64 a2) rfl) ?_
  obtain ⟨t17, h_t17, H8⟩ := bnd_some H7; clear H7
  refine l_val rfl rfl rfl (r_subG rfl rfl h_t17) ?_
  refine l_val rfl rfl rfl (r_assign (v := .int .i64 t13) rfl) ?_
  refine l_val rfl rfl rfl (r_assign (v := .int .i64 t17) rfl) ?_
  refine l_nil ?_
  refine c_ret ?_
  obtain rfl := Option.some.inj H8
  refine ret2 (v1 := .int .i64 t13) (v2 := .int .i64 t17) rfl rfl rfl (fin rfl)
theorem k51 {a0 : Int} {a1 : Int} {a2 : Int} {a3 : Int} {r : Int × Int} (H : pix_turnings_8 a0 a1 a2 a3 = some r) : Ret Tryd.prog 51 [.int .i64 a0, .int .i64 a1, .int .i64 a2, .int .i64 a3] (.tuple #[.int .i64 r.1, .int .i64 r.2]) := by
  refine enterRet (n := 15) Tryd.func51 rfl rfl rfl (fun wd => ?_)
  refine c_seq ?_
  refine c_region ?_
  refine l_val rfl rfl rfl (r_assign (v := .int .i64 0) rfl) ?_
  refine l_val rfl rfl rfl (r_assign (v := .int .i64 0) rfl) ?_
  refine l_nil ?_
  refine c_seq ?_
  refine c_region ?_
  refine l_val rfl rfl rfl (r_move (v := .int .i64 a0) rfl) ?_
  obtain ⟨t11, h_t11, H3⟩ := bnd_some H; clear H
  refine l_val rfl rfl rfl (r_subG rfl rfl h_t11) ?_
  refine l_val rfl rfl rfl (r_move (v := .int .i64 a3) rfl) ?_
  obtain ⟨t13, h_t13, H4⟩ := bnd_some H3; clear H3
  refine l_val rfl rfl rfl (r_subG rfl rfl h_t13) ?_
  refine l_val rfl rfl rfl (r_move (v := .int .i64 a2) rfl) ?_
  refine l_val rfl rfl rfl (r_assign (v := .int .i64 t13) rfl) ?_
  refine l_val rfl rfl rfl (r_assign (v := .int .i64 a2) rfl) ?_
  refine l_nil ?_
  refine c_ret ?_
  obtain rfl := Option.some.inj H4
  refine ret2 (v1 := .int .i64 t13) (v2 := .int .i64 a2) rfl rfl rfl (fin rfl)
theorem k34 {r : Unit} (H : pix_turnings = some r) : Ret Tryd.prog 34 [] (.agg #[.nilFunc, .bool false, .func (.func 44) #[] #[], .bool false, .func (.func 45) #[] #[], .bool false, .func (.func 46) #[] #[], .bool false, .func (.func 47) #[] #[], .bool false, .func (.func 48) #[] #[], .bool true, .func (.func 49) #[] #[], .bool true, .func (.func 50) #[] #[], .bool true, .func (.func 51) #[] #[], .bool true]) := by
  refine enterRet (n := 10) Tryd.func34 rfl rfl rfl (fun wd => ?_)
  refine c_seq ?_
  refine c_region ?_
  refine l_alloc (cs := [.nilFunc, .bool false, .nilFunc, .bool false, .nilFunc, .bool false, .nilFunc, .bool false, .nilFunc, .bool false, .nilFunc, .bool false, .nilFunc, .bool false, .nilFunc, .bool false, .nilFunc, .bool false]) Tryd.zeroValue80 rfl rfl rfl (fun b2 => ?_)
  refine l_nil ?_
  refine c_seq ?_
  refine c_region ?_
  refine l_val rfl rfl rfl (r_build (pl := #[(0, 1), (1, 1)]) (ps := [(0, .func (.func 44) #[] #[]), (1, .bool false)]) (cells := #[.func (.func 44) #[] #[], .bool false]) Tryd.zeroValue79 Tryd.runUnderlying79 (fun w => by kernel_rfl) rfl rfl) ?_
  refine l_val rfl rfl rfl (r_build (pl := #[(0, 1), (1, 1)]) (ps := [(0, .func (.func 45) #[] #[]), (1, .bool false)]) (cells := #[.func (.func 45) #[] #[], .bool false]) Tryd.zeroValue79 Tryd.runUnderlying79 (fun w => by kernel_rfl) rfl rfl) ?_
  refine l_val rfl rfl rfl (r_build (pl := #[(0, 1), (1, 1)]) (ps := [(0, .func (.func 46) #[] #[]), (1, .bool false)]) (cells := #[.func (.func 46) #[] #[], .bool false]) Tryd.zeroValue79 Tryd.runUnderlying79 (fun w => by kernel_rfl) rfl rfl) ?_
  refine l_val rfl rfl rfl (r_build (pl := #[(0, 1), (1, 1)]) (ps := [(0, .func (.func 47) #[] #[]), (1, .bool false)]) (cells := #[.func (.func 47) #[] #[], .bool false]) Tryd.zeroValue79 Tryd.runUnderlying79 (fun w => by kernel_rfl) rfl rfl) ?_
  refine l_val rfl rfl rfl (r_build (pl := #[(0, 1), (1, 1)]) (ps := [(0, .func (.func 48) #[] #[]), (1, .bool true)]) (cells := #[.func (.func 48) #[] #[], .bool true]) Tryd.zeroValue79 Tryd.runUnderlying79 (fun w => by kernel_rfl) rfl rfl) ?_
  refine l_val rfl rfl rfl (r_build (pl := #[(0, 1), (1, 1)]) (ps := [(0, .func (.func 49) #[] #[]), (1, .bool true)]) (cells := #[.func (.func 49) #[] #[], .bool true]) Tryd.zeroValue79 Tryd.runUnderlying79 (fun w => by kernel_rfl) rfl rfl) ?_
  refine l_val rfl rfl rfl (r_build (pl := #[(0, 1), (1, 1)]) (ps := [(0, .func (.func 50) #[] #[]), (1, .bool true)]) (cells := #[.func (.func 50) #[] #[], .bool true]) Tryd.zeroValue79 Tryd.runUnderlying79 (fun w => by kernel_rfl) rfl rfl) ?_
  refine l_val rfl rfl rfl (r_build (pl := #[(0, 1), (1, 1)]) (ps := [(0, .func (.func 51) #[] #[]), (1, .bool true)]) (cells := #[.func (.func 51) #[] #[], .bool true]) Tryd.zeroValue79 Tryd.runUnderlying79 (fun w => by kernel_rfl) rfl rfl) ?_
  refine l_val rfl rfl rfl (r_buildA (ps := [(1, .agg #[.func (.func 44) #[] #[], .bool false]), (2, .agg #[.func (.func 45) #[] #[], .bool false]), (3, .agg #[.func (.func 46) #[] #[], .bool false]), (4, .agg #[.func (.func 47) #[] #[], .bool false]), (5, .agg #[.func (.func 48) #[] #[], .bool true]), (6, .agg #[.func (.func 49) #[] #[], .bool true]), (7, .agg #[.func (.func 50) #[] #[], .bool true]), (8, .agg #[.func (.func 51) #[] #[], .bool true])]) (cells := #[.nilFunc, .bool false, .func (.func 44) #[] #[], .bool false, .func (.func 45) #[] #[], .bool false, .func (.func 46) #[] #[], .bool false, .func (.func 47) #[] #[], .bool false, .func (.func 48) #[] #[], .bool true, .func (.func 49) #[] #[], .bool true, .func (.func 50) #[] #[], .bool true, .func (.func 51) #[] #[], .bool true]) Tryd.zeroValue80 Tryd.runUnderlying80 Tryd.sizeOf79 rfl rfl) ?_
  refine l_store (i := 0) (vs := [.nilFunc, .bool false, .func (.func 44) #[] #[], .bool false, .func (.func 45) #[] #[], .bool false, .func (.func 46) #[] #[], .bool false, .func (.func 47) #[] #[], .bool false, .func (.func 48) #[] #[], .bool true, .func (.func 49) #[] #[], .bool true, .func (.func 50) #[] #[], .bool true, .func (.func 51) #[] #[], .bool true]) (cs' := [.nilFunc, .bool false, .func (.func 44) #[] #[], .bool false, .func (.func 45) #[] #[], .bool false, .func (.func 46) #[] #[], .bool false, .func (.func 47) #[] #[], .bool false, .func (.func 48) #[] #[], .bool true, .func (.func 49) #[] #[], .bool true, .func (.func 50) #[] #[], .bool true, .func (.func 51) #[] #[], .bool true]) Tryd.sizeOf80 rfl rfl rfl rfl rfl rfl rfl rfl rfl ?_
  refine l_nil ?_
  refine c_ret ?_
  cases H
  refine retC (i := 0) (vs := [.nilFunc, .bool false, .func (.func 44) #[] #[], .bool false, .func (.func 45) #[] #[], .bool false, .func (.func 46) #[] #[], .bool false, .func (.func 47) #[] #[], .bool false, .func (.func 48) #[] #[], .bool true, .func (.func 49) #[] #[], .bool true, .func (.func 50) #[] #[], .bool true, .func (.func 51) #[] #[], .bool true]) Tryd.isAgg80 Tryd.sizeOf80 rfl rfl rfl rfl (fin rfl)
abbrev v34_0_0 : Nat → Value := ofL [.nilFunc, .func (.func 44) #[] #[], .func (.func 45) #[] #[], .func (.func 46) #[] #[], .func (.func 47) #[] #[], .func (.func 48) #[] #[], .func (.func 49) #[] #[], .func (.func 50) #[] #[], .func (.func 51) #[] #[]]
theorem h34_0_0 {k : Nat} (hk : k < 9) : FnV Tryd.prog (v34_0_0 k) (pix_turnings_tab0 k) (fun g => fnR_func_int_int_int_int_int_int g) :=
  match k, hk with
  | 0, _ => (show FnV Tryd.prog (v34_0_0 0) (pix_turnings_tab0 0) _ from FnV.nil)
  | 1, _ => (show FnV Tryd.prog (v34_0_0 1) (pix_turnings_tab0 1) _ from (FnV.mk (g := pix_turnings_1) (R := fun g => fnR_func_int_int_int_int_int_int g) (fun h_ => (FnH.mk ⟨44, #[], #[], rfl, Tryd.call44, fun args2 post2 w2 hk2 hR2 => by obtain ⟨a0_, a1_, a2_, a3_, r_, rfl, H_, rfl⟩ := hR2; exact k44 H_ w2⟩))))
  | 2, _ => (show FnV Tryd.prog (v34_0_0 2) (pix_turnings_tab0 2) _ from (FnV.mk (g := pix_turnings_2) (R := fun g => fnR_func_int_int_int_int_int_int g) (fun h_ => (FnH.mk ⟨45, #[], #[], rfl, Tryd.call45, fun args2 post2 w2 hk2 hR2 => by obtain ⟨a0_, a1_, a2_, a3_, r_, rfl, H_, rfl⟩ := hR2; exact k45 H_ w2⟩))))
  | 3, _ => (show FnV Tryd.prog (v34_0_0 3) (pix_turnings_tab0 3) _ from (FnV.mk (g := pix_turnings_3) (R := fun g => fnR_func_int_int_int_int_int_int g) (fun h_ => (FnH.mk ⟨46, #[], #[], rfl, Tryd.call46, fun args2 post2 w2 hk2 hR2 => by obtain ⟨a0_, a1_, a2_, a3_, r_, rfl, H_, rfl⟩ := hR2; exact k46 H_ w2⟩))))
  | 4, _ => (show FnV Tryd.prog (v34_0_0 4) (pix_turnings_tab0 4) _ from (FnV.mk (g := pix_turnings_4) (R := fun g => fnR_func_int_int_int_int_int_int g) (fun h_ => (FnH.mk ⟨47, #[], #[], rfl, Tryd.call47, fun args2 post2 w2 hk2 hR2 => by obtain ⟨a0_, a1_, a2_, a3_, r_, rfl, H_, rfl⟩ := hR2; exact k47 H_ w2⟩))))
  | 5, _ => (show FnV Tryd.prog (v34_0_0 5) (pix_turnings_tab0 5) _ from (FnV.mk (g := pix_turnings_5) (R := fun g => fnR_func_int_int_int_int_int_int g) (fun h_ => (FnH.mk ⟨48, #[], #[], rfl, Tryd.call48, fun args2 post2 w2 hk2 hR2 => by obtain ⟨a0_, a1_, a2_, a3_, r_, rfl, H_, rfl⟩ := hR2; exact k48 H_ w2⟩))))
  | 6, _ => (show FnV Tryd.prog (v34_0_0 6) (pix_turnings_tab0 6) _ from (FnV.mk (g := pix_turnings_6) (R := fun g => fnR_func_int_int_int_int_int_int g) (fun h_ => (FnH.mk ⟨49, #[], #[], rfl, Tryd.call49, fun args2 post2 w2 hk2 hR2 => by obtain ⟨a0_, a1_, a2_, a3_, r_, rfl, H_, rfl⟩ := hR2; exact k49 H_ w2⟩))))
  | 7, _ => (show FnV Tryd.prog (v34_0_0 7) (pix_turnings_tab0 7) _ from (FnV.mk (g := pix_turnings_7) (R := fun g => fnR_func_int_int_int_int_int_int g) (fun h_ => (FnH.mk ⟨50, #[], #[], rfl, Tryd.call50, fun args2 post2 w2 hk2 hR2 => by obtain ⟨a0_, a1_, a2_, a3_, r_, rfl, H_, rfl⟩ := hR2; exact k50 H_ w2⟩))))
  | 8, _ => (show FnV Tryd.prog (v34_0_0 8) (pix_turnings_tab0 8) _ from (FnV.mk (g := pix_turnings_8) (R := fun g => fnR_func_int_int_int_int_int_int g) (fun h_ => (FnH.mk ⟨51, #[], #[], rfl, Tryd.call51, fun args2 post2 w2 hk2 hR2 => by obtain ⟨a0_, a1_, a2_, a3_, r_, rfl, H_, rfl⟩ := hR2; exact k51 H_ w2⟩))))
  | k_ + 9, hk => absurd hk (by omega)

theorem k33 {a0 : Int} {a1 : Int} {a2 : Int} {r : Int × Int} (H : pix_Sides a0 a1 a2 = some r) : Ret Tryd.prog 33 [.int .i64 a0, .int .i64 a1, .int .i64 a2] (.tuple #[.int .i64 r.1, .int .i64 r.2]) := by
  refine enterRet (n := 16) Tryd.func33 rfl rfl rfl (fun wd => ?_)
  refine c_seq ?_
  refine c_region ?_
  refine l_val rfl rfl rfl (r_assign (v := .int .i64 0) rfl) ?_
  refine l_val rfl rfl rfl (r_assign (v := .int .i64 0) rfl) ?_
  refine l_nil ?_
  refine c_seq ?_
  refine c_seq ?_
  refine c_region ?_
  obtain ⟨t8, h_t8, H5⟩ := bnd_some H; clear H
  refine l_call (k34 h_t8) Tryd.call34 rfl rfl rfl ?_
  refine l_val rfl rfl rfl (r_move (v := .int .i64 a0) rfl) ?_
  obtain ⟨k10, h_k10, H6⟩ := bnd_some H5; clear H5
  refine l_val rfl rfl rfl (r_indexAN (f := fun j_ => [v34_0_0 j_, .bool (pix_turnings_tab1 j_)]) Tryd.runUnderlying80 Tryd.isAgg79 Tryd.sizeOf79 rfl rfl rfl (fun _ => rfl) h_k10) ?_
  refine l_val rfl rfl rfl (r_fieldV (v := .bool (pix_turnings_tab1 k10)) Tryd.runUnderlying79 Tryd.isAgg4 rfl rfl rfl) ?_
  refine l_nil ?_
  refine c_if (b := (pix_turnings_tab1 k10)) rfl (fun hb => ?_) (fun hb => ?_)
  · have H7 := cnd_t hb H6; clear H6
    refine c_seq ?_
    refine c_region ?_
    refine l_val rfl rfl rfl (r_move (v := .int .i64 a2) rfl) ?_
    refine l_val rfl rfl rfl (r_move (v := .int .i64 a1) rfl) ?_
    refine l_val rfl rfl rfl (r_assign (v := .int .i64 a2) rfl) ?_
    refine l_val rfl rfl rfl (r_assign (v := .int .i64 a1) rfl) ?_
    refine l_nil ?_
    refine c_ret ?_
    obtain rfl := Option.some.inj H7
    refine ret2 (v1 := .int .i64 a2) (v2 := .int .i64 a1) rfl rfl rfl (fin rfl)
  · have H8 := cnd_f hb H6; clear H6
    refine c_skip ?_
    refine c_seq ?_
    refine c_region ?_
    refine l_val rfl rfl rfl (r_move (v := .int .i64 a1) rfl) ?_
    refine l_val rfl rfl rfl (r_move (v := .int .i64 a2) rfl) ?_
    refine l_val rfl rfl rfl (r_assign (v := .int .i64 a1) rfl) ?_
    refine l_val rfl rfl rfl (r_assign (v := .int .i64 a2) rfl) ?_
    refine l_nil ?_
    refine c_ret ?_
    obtain rfl := Option.some.inj H8
    refine ret2 (v1 := .int .i64 a1) (v2 := .int .i64 a2) rfl rfl rfl (fin rfl)
theorem k18 {a0 : T_api_Image} {v0_2 : Value} {a1 : Int} {r : T_api_Image} {w : World} {h : Heap} (hw : Know h w noS) (f0_2 : FrS h 1 v0_2 (a0.Pixels.map e_u8)) (H : pix_turned a0 a1 = some r) : Does Tryd.prog 18 (List.toArray [.agg #[.int .i64 a0.W, .int .i64 a0.H, v0_2], .int .i64 a1]) w (fun v w' => ∃ x : (Option Addr × Nat), v = (.agg #[.int .i64 r.W, .int .i64 r.H, .slice x.1 r.Pixels.length x.2]) ∧ Turn w w' noS (rowV 5 1 (.slice x.1 r.Pixels.length x.2) r.Pixels.length (r.Pixels.map e_u8))) := by
  refine enter (n := 56) Tryd.func18 rfl rfl rfl noS [] (Sat.nil _ _) ?_
  refine c_seq ?_
  refine c_region ?_
  refine l_box (cs := [.int .i64 a0.W, .int .i64 a0.H, v0_2]) rfl rfl rfl rfl (fun b3 => ?_)
  refine l_alloc (cs := [.int .i64 0, .int .i64 0, .slice none 0 0]) Tryd.zeroValue24 rfl rfl rfl (fun b4 => ?_)
  refine l_nil ?_
  refine c_seq ?_
  refine c_region ?_
  refine l_val rfl rfl rfl (r_move (v := .int .i64 a1) rfl) ?_
  refine l_val rfl rfl rfl (r_field Tryd.runUnderlying24 rfl Tryd.sizeOf3 rfl rfl) ?_
  refine l_load1 (i := 0) (v := .int .i64 a0.W) Tryd.isAgg3 rfl rfl rfl rfl rfl ?_
  refine l_val rfl rfl rfl (r_field Tryd.runUnderlying24 rfl Tryd.sizeOf3 rfl rfl) ?_
  refine l_load1 (i := 0) (v := .int .i64 a0.H) Tryd.isAgg3 rfl rfl rfl rfl rfl ?_
  obtain ⟨t16, h_t16, H19⟩ := bnd_some H; clear H
  refine l_call (k33 h_t16) Tryd.call33 rfl rfl rfl ?_
  refine l_val rfl rfl rfl (r_extract (v := .int .i64 t16.1) rfl rfl) ?_
  refine l_val rfl rfl rfl (r_extract (v := .int .i64 t16.2) rfl rfl) ?_
  obtain ⟨t19, h_t19, H20⟩ := bnd_some H19; clear H19
  refine l_make (makes_call (rds := []) (G := fun x : (Option Addr × Nat) => .agg #[.int .i64 t19.W, .int .i64 t19.H, .slice x.1 t19.Pixels.length x.2]) (C := fun x : (Option Addr × Nat) => rowV 5 1 (.slice x.1 t19.Pixels.length x.2) t19.Pixels.length (t19.Pixels.map e_u8)) (fun w L' hF hS hi => k27 (know_all w)  h_t19) Tryd.call27 rfl) rfl rfl rfl (fun p => ?_)
  refine l_alloc (cs := [.int .i64 0, .int .i64 0, .slice none 0 0]) Tryd.zeroValue24 rfl rfl rfl (fun b5 => ?_)
  refine l_store (i := 3) (vs := [.int .i64 t19.W, .int .i64 t19.H, .slice p.1 t19.Pixels.length p.2]) (cs' := [.int .i64 t19.W, .int .i64 t19.H, .slice p.1 t19.Pixels.length p.2]) Tryd.sizeOf24 rfl rfl rfl rfl rfl rfl rfl rfl rfl ?_
  refine l_nil ?_
  refine c_seq ?_
  refine c_region ?_
  obtain ⟨t20, h_t20, H21⟩ := bnd_some H20; clear H20
  refine l_call (k34 h_t20) Tryd.call34 rfl rfl rfl ?_
  refine l_val rfl rfl rfl (r_move (v := .int .i64 a1) rfl) ?_
  obtain ⟨k22, h_k22, H22⟩ := bnd_some H21; clear H21
  refine l_val rfl rfl rfl (r_indexAN (f := fun j_ => [v34_0_0 j_, .bool (pix_turnings_tab1 j_)]) Tryd.runUnderlying80 Tryd.isAgg79 Tryd.sizeOf79 rfl rfl rfl (fun _ => rfl) h_k22) ?_
  refine l_val rfl rfl rfl (r_fieldV (v := (v34_0_0 k22)) Tryd.runUnderlying79 Tryd.isAgg77 rfl rfl rfl) ?_
  refine l_val rfl rfl rfl (r_assign (v := (v34_0_0 k22)) rfl) ?_
  refine l_nil ?_
  refine c_meet (r := r) (σ := (List Int)) (τ := (Option Addr × Nat) × Nat) (fun s => pix_turned_j1 t19 s) (fun s t => [(4, .pointer (some ⟨b4, 0, none⟩)), (5, .pointer (some ⟨b5, 0, none⟩))]) (fun s t => [cellsC b4 [.int .i64 0, .int .i64 0, .slice none 0 0] 24, rowV 5 1 (.slice t.1.1 t.2 t.1.2) t.2 (s.map e_u8), cellsC b5 [.int .i64 t19.W, .int .i64 t19.H, .slice t.1.1 t.2 t.1.2] 24]) (fun s t => t.2 = s.length) ?_ ?_
  · refine c_seq ?_
    refine c_region ?_
    refine l_val rfl rfl rfl (r_field Tryd.runUnderlying24 rfl Tryd.sizeOf3 rfl rfl) ?_
    refine l_load1 (i := 3) (v := .int .i64 t19.H) Tryd.isAgg3 rfl rfl rfl rfl rfl ?_
    refine l_val rfl rfl rfl (r_move (v := .int .i64 0) rfl) ?_
    refine l_nil ?_
    refine c_block ?_
    refine c_fix (σ := Int × (List Int) × (List Int)) (τ := Value × (Option Addr × Nat) × Nat) (fun next2 s => pix_turned_l2 a0 t19 k22 next2 s.1 s.2.1 s.2.2) (fun s t => [(2, .pointer (some ⟨b3, 0, none⟩)), (4, .pointer (some ⟨b4, 0, none⟩)), (5, .pointer (some ⟨b5, 0, none⟩)), (6, (v34_0_0 k22)), (25, .int .i64 t19.H), (26, .int .i64 s.1)]) (fun s t => [cellsC b3 [.int .i64 a0.W, .int .i64 a0.H, t.1] 24, cellsC b4 [.int .i64 0, .int .i64 0, .slice none 0 0] 24, rowV 5 1 (.slice t.2.1.1 t.2.2 t.2.1.2) t.2.2 (s.2.2.map e_u8), cellsC b5 [.int .i64 t19.W, .int .i64 t19.H, .slice t.2.1.1 t.2.2 t.2.1.2] 24]) (fun s t => FrS h 1 t.1 (s.2.1.map e_u8) ∧ t.2.2 = s.2.2.length) (0, a0.Pixels, t19.Pixels) (v0_2, p, t19.Pixels.length) [0, 1, 2, 3] H22 (by exact ⟨f0_2, rfl⟩) (by exact ⟨rfl, rfl, rfl, rfl, rfl, rfl, trivial⟩) (by decide) rfl ?_
    rintro ⟨x26_2, m_2, l_3⟩ ⟨gv, p_3, n_2⟩ m2 gg H24 ⟨gf_2, hl_3⟩
    clear H22
    replace H24 : pix_turned_l2 a0 t19 k22 (it (fun next2 s => pix_turned_l2 a0 t19 k22 next2 s.1 s.2.1 s.2.2) m2) x26_2 m_2 l_3 = some r := H24
    generalize hn2 : it (fun next2 s => pix_turned_l2 a0 t19 k22 next2 s.1 s.2.1 s.2.2) m2 = next2 at H24
    refine c_tidyF [(2, .pointer (some ⟨b3, 0, none⟩)), (4, .pointer (some ⟨b4, 0, none⟩)), (5, .pointer (some ⟨b5, 0, none⟩)), (6, (v34_0_0 k22)), (25, .int .i64 t19.H), (26, .int .i64 x26_2)] [cellsC b3 [.int .i64 a0.W, .int .i64 a0.H, gv] 24, cellsC b4 [.int .i64 0, .int .i64 0, .slice none 0 0] 24, rowV 5 1 (.slice p_3.1 n_2 p_3.2) n_2 (l_3.map e_u8), cellsC b5 [.int .i64 t19.W, .int .i64 t19.H, .slice p_3.1 n_2 p_3.2] 24] rfl rfl ?_
    refine c_seq ?_
    refine c_region ?_
    refine l_val rfl rfl rfl (r_lss rfl rfl) ?_
    refine l_nil ?_
    refine c_seq ?_
    refine c_if (b := (decide (x26_2 < t19.H))) rfl (fun hb => ?_) (fun hb => ?_)
    · have H25 := cnd_t hb H24; clear H24
      refine c_skip ?_
      refine c_meet (r := r) (σ := (List Int)) (τ := Unit) (fun s => pix_turned_j3 x26_2 m_2 next2 s) (fun s t => [(2, .pointer (some ⟨b3, 0, none⟩)), (4, .pointer (some ⟨b4, 0, none⟩)), (5, .pointer (some ⟨b5, 0, none⟩)), (6, (v34_0_0 k22)), (25, .int .i64 t19.H), (26, .int .i64 x26_2)]) (fun s t => [cellsC b3 [.int .i64 a0.W, .int .i64 a0.H, gv] 24, cellsC b4 [.int .i64 0, .int .i64 0, .slice none 0 0] 24, rowV 5 1 (.slice p_3.1 n_2 p_3.2) n_2 (s.map e_u8), cellsC b5 [.int .i64 t19.W, .int .i64 t19.H, .slice p_3.1 n_2 p_3.2] 24]) (fun s t => n_2 = s.length) ?_ ?_
      · refine c_block ?_
        refine c_seq ?_
        refine c_region ?_
        refine l_val rfl rfl rfl (r_move (v := .int .i64 x26_2) rfl) ?_
        refine l_val rfl rfl rfl (r_assign (v := .int .i64 x26_2) rfl) ?_
        refine l_nil ?_
        refine c_seq ?_
        refine c_region ?_
        refine l_val rfl rfl rfl (r_field Tryd.runUnderlying24 rfl Tryd.sizeOf3 rfl rfl) ?_
        refine l_load1 (i := 3) (v := .int .i64 t19.W) Tryd.isAgg3 rfl rfl rfl rfl rfl ?_
        refine l_val rfl rfl rfl (r_move (v := .int .i64 0) rfl) ?_
        refine l_nil ?_
        refine c_block ?_
        refine c_fix (σ := Int × (List Int)) (τ := Unit) (fun next4 s => pix_turned_l4 a0 t19 k22 x26_2 m_2 next2 next4 s.1 s.2) (fun s t => [(2, .pointer (some ⟨b3, 0, none⟩)), (4, .pointer (some ⟨b4, 0, none⟩)), (5, .pointer (some ⟨b5, 0, none⟩)), (6, (v34_0_0 k22)), (7, .int .i64 x26_2), (25, .int .i64 t19.H), (26, .int .i64 x26_2), (30, .int .i64 t19.W), (31, .int .i64 s.1)]) (fun s t => [cellsC b3 [.int .i64 a0.W, .int .i64 a0.H, gv] 24, cellsC b4 [.int .i64 0, .int .i64 0, .slice none 0 0] 24, rowV 5 1 (.slice p_3.1 n_2 p_3.2) n_2 (s.2.map e_u8), cellsC b5 [.int .i64 t19.W, .int .i64 t19.H, .slice p_3.1 n_2 p_3.2] 24]) (fun s t => n_2 = s.2.length) (0, l_3) () [0, 1, 2, 3] H25 (by exact hl_3) (by exact ⟨rfl, rfl, rfl, rfl, rfl, rfl, rfl, rfl, rfl, trivial⟩) (by decide) rfl ?_
        rintro ⟨x31_2, l_6⟩ _ m4 gg H28 hl_6
        clear H25
        replace H28 : pix_turned_l4 a0 t19 k22 x26_2 m_2 next2 (it (fun next4 s => pix_turned_l4 a0 t19 k22 x26_2 m_2 next2 next4 s.1 s.2) m4) x31_2 l_6 = some r := H28
        generalize hn4 : it (fun next4 s => pix_turned_l4 a0 t19 k22 x26_2 m_2 next2 next4 s.1 s.2) m4 = next4 at H28
        refine c_tidyF [(2, .pointer (some ⟨b3, 0, none⟩)), (4, .pointer (some ⟨b4, 0, none⟩)), (5, .pointer (some ⟨b5, 0, none⟩)), (6, (v34_0_0 k22)), (7, .int .i64 x26_2), (25, .int .i64 t19.H), (26, .int .i64 x26_2), (30, .int .i64 t19.W), (31, .int .i64 x31_2)] [cellsC b3 [.int .i64 a0.W, .int .i64 a0.H, gv] 24, cellsC b4 [.int .i64 0, .int .i64 0, .slice none 0 0] 24, rowV 5 1 (.slice p_3.1 n_2 p_3.2) n_2 (l_6.map e_u8), cellsC b5 [.int .i64 t19.W, .int .i64 t19.H, .slice p_3.1 n_2 p_3.2] 24] rfl rfl ?_
        refine c_seq ?_
        refine c_region ?_
        refine l_val rfl rfl rfl (r_lss rfl rfl) ?_
        refine l_nil ?_
        refine c_seq ?_
        refine c_if (b := (decide (x31_2 < t19.W))) rfl (fun hb => ?_) (fun hb => ?_)
        · have H29 := cnd_t hb H28; clear H28
          refine c_skip ?_
          refine c_seq ?_
          refine c_block ?_
          refine c_seq ?_
          refine c_region ?_
          refine l_val rfl rfl rfl (r_move (v := .int .i64 x31_2) rfl) ?_
          refine l_val rfl rfl rfl (r_assign (v := .int .i64 x31_2) rfl) ?_
          refine l_nil ?_
          refine c_seq ?_
          refine c_region ?_
          refine l_val rfl rfl rfl (r_move (v := (v34_0_0 k22)) rfl) ?_
          refine l_val rfl rfl rfl (r_field Tryd.runUnderlying24 rfl Tryd.sizeOf3 rfl rfl) ?_
          refine l_load1 (i := 0) (v := .int .i64 a0.W) Tryd.isAgg3 rfl rfl rfl rfl rfl ?_
          refine l_val rfl rfl rfl (r_field Tryd.runUnderlying24 rfl Tryd.sizeOf3 rfl rfl) ?_
          refine l_load1 (i := 0) (v := .int .i64 a0.H) Tryd.isAgg3 rfl rfl rfl rfl rfl ?_
          refine l_val rfl rfl rfl (r_move (v := .int .i64 x31_2) rfl) ?_
          refine l_val rfl rfl rfl (r_move (v := .int .i64 x26_2) rfl) ?_
          obtain ⟨g42, h_g42, H30⟩ := bnd_some H29; clear H29
          obtain ⟨t42, h_t42, H31⟩ := bnd_some H30; clear H30
          refine l_callV (R := fnR_func_int_int_int_int_int_int g42) (r := .tuple #[.int .i64 t42.1, .int .i64 t42.2]) (v := (v34_0_0 k22)) (fun w hF hS => ⟨((h34_0_0 (gIx_lt h_k22)).fn (gFn_some h_g42) _), ⟨a0.W, a0.H, x31_2, x26_2, _, rfl, h_t42, rfl⟩⟩) rfl rfl rfl rfl ?_
          refine l_val rfl rfl rfl (r_move (v := .tuple #[.int .i64 t42.1, .int .i64 t42.2]) rfl) ?_
          refine l_val rfl rfl rfl (r_extract (v := .int .i64 t42.1) rfl rfl) ?_
          refine l_val rfl rfl rfl (r_extract (v := .int .i64 t42.2) rfl rfl) ?_
          refine l_val rfl rfl rfl (r_assign (v := .int .i64 t42.1) rfl) ?_
          refine l_val rfl rfl rfl (r_assign (v := .int .i64 t42.2) rfl) ?_
          refine l_nil ?_
          exact c_regionD (Kd.d [3] _ :: Kd.p :: Kd.p :: Kd.d [0] _ :: Kd.p :: Kd.p :: Kd.d [] _ :: Kd.t 2 [] _ _ :: []) 0 mixed (by
            refine d_loadN (i := 3) (vs := [.int .i64 t19.W, .int .i64 t19.H, .slice p_3.1 n_2 p_3.2]) Tryd.isAgg24 Tryd.sizeOf24 rfl rfl rfl rfl ?_
            refine d_val rfl rfl (r_move (v := .int .i64 x31_2) rfl) ?_
            refine d_val rfl rfl (r_move (v := .int .i64 x26_2) rfl) ?_
            refine d_loadN (i := 0) (vs := [.int .i64 a0.W, .int .i64 a0.H, gv]) Tryd.isAgg24 Tryd.sizeOf24 rfl rfl rfl rfl ?_
            refine d_val rfl rfl (r_move (v := .int .i64 t42.1) rfl) ?_
            refine d_val rfl rfl (r_move (v := .int .i64 t42.2) rfl) ?_
            have h_t51 := bnd_val H31
            have H32 := bnd_rest H31
            refine d_callD (fun w L' hF hS hi => k29 (know_all w) (gf_2.mono (hw.now hF)) h_t51) Tryd.call29 rfl rfl ?_
            have h_t52 := bnd_val H32
            have H33 := bnd_rest H32
            refine d_turn (Cv := fun _ => rowV 5 1 (.slice p_3.1 n_2 p_3.2) n_2 ((val (pix_set (⟨t19.W, t19.H, l_6⟩ : T_api_Image) x31_2 x26_2 (val (pix_at (⟨a0.W, a0.H, m_2⟩ : T_api_Image) t42.1 t42.2)))).map e_u8)) () (turns_callB (i := 2) (rds := _) (G := fun _ => .tuple #[]) (C := fun _ => rowV 5 1 (.slice p_3.1 n_2 p_3.2) n_2 ((val (pix_set (⟨t19.W, t19.H, l_6⟩ : T_api_Image) x31_2 x26_2 (val (pix_at (⟨a0.W, a0.H, m_2⟩ : T_api_Image) t42.1 t42.2)))).map e_u8)) rfl (fun w L' S hF hS hi hp hlt ho hA => (k28 hp hlt (know_but w S) hl_6 h_t52).mono (fun _ _ h => by obtain ⟨_, h⟩ := h; exact ⟨(), h⟩)) Tryd.call28 rfl) (fun _ => rfl) rfl rfl (fun _ => ?_)
            refine d_nil ?_
            refine c_know (fun w hF hS => lenOf (i := 2) hS rfl) (fun hl_7_ => ?_)
            have hl_7 : n_2 = (val (pix_set (⟨t19.W, t19.H, l_6⟩ : T_api_Image) x31_2 x26_2 (val (pix_at (⟨a0.W, a0.H, m_2⟩ : T_api_Image) t42.1 t42.2)))).length := by simpa using hl_7_.symm
            refine c_region ?_
            obtain ⟨t53, h_t53, H34⟩ := bnd_some H33; clear H33
            refine l_val rfl rfl rfl (r_addG rfl rfl h_t53) ?_
            refine l_val rfl rfl rfl (r_move (v := .int .i64 t53) rfl) ?_
            refine l_nil ?_
            refine c_close (t53, (val (pix_set (⟨t19.W, t19.H, l_6⟩ : T_api_Image) x31_2 x26_2 (val (pix_at (⟨a0.W, a0.H, m_2⟩ : T_api_Image) t42.1 t42.2))))) () m4 [0, 1, 2, 3] (by exact ⟨rfl, rfl, rfl, rfl, rfl, rfl, rfl, rfl, rfl, trivial⟩) (by decide) rfl (by exact ⟨(by subst hn4; exact H34), hl_7⟩) (Nat.lt_succ_self _)
            ) (by kernel_rfl)
        · have H35 := cnd_f hb H28; clear H28
          refine c_exit ?_
          refine c_close l_6 () 0 [0, 1, 2, 3] (by exact ⟨rfl, rfl, rfl, rfl, rfl, rfl, trivial⟩) (by decide) rfl (by exact ⟨H35, hl_6⟩) (Nat.lt_succ_self _)
      · rintro l_4 _ gg H26 hl_4
        replace H26 : pix_turned_j3 x26_2 m_2 next2 l_4 = some r := H26
        refine c_tidyF [(2, .pointer (some ⟨b3, 0, none⟩)), (4, .pointer (some ⟨b4, 0, none⟩)), (5, .pointer (some ⟨b5, 0, none⟩)), (6, (v34_0_0 k22)), (25, .int .i64 t19.H), (26, .int .i64 x26_2)] [cellsC b3 [.int .i64 a0.W, .int .i64 a0.H, gv] 24, cellsC b4 [.int .i64 0, .int .i64 0, .slice none 0 0] 24, rowV 5 1 (.slice p_3.1 n_2 p_3.2) n_2 (l_4.map e_u8), cellsC b5 [.int .i64 t19.W, .int .i64 t19.H, .slice p_3.1 n_2 p_3.2] 24] rfl rfl ?_
        refine c_region ?_
        obtain ⟨t54, h_t54, H27⟩ := bnd_some H26; clear H26
        refine l_val rfl rfl rfl (r_addG rfl rfl h_t54) ?_
        refine l_val rfl rfl rfl (r_move (v := .int .i64 t54) rfl) ?_
        refine l_nil ?_
        refine c_close (t54, m_2, l_4) (gv, p_3, n_2) m2 [0, 1, 2, 3] (by exact ⟨rfl, rfl, rfl, rfl, rfl, rfl, trivial⟩) (by decide) rfl (by exact ⟨(by subst hn2; exact H27), ⟨gf_2, hl_4⟩⟩) (Nat.lt_succ_self _)
    · have H36 := cnd_f hb H24; clear H24
      refine c_exit ?_
      refine c_close l_3 (p_3, n_2) 0 [1, 2, 3] (by exact ⟨rfl, rfl, trivial⟩) (by decide) rfl (by exact ⟨H36, hl_3⟩) (Nat.lt_succ_self _)
  · rintro l ⟨p_2, n⟩ gg H23 hl
    replace H23 : pix_turned_j1 t19 l = some r := H23
    refine c_tidyF [(4, .pointer (some ⟨b4, 0, none⟩)), (5, .pointer (some ⟨b5, 0, none⟩))] [cellsC b4 [.int .i64 0, .int .i64 0, .slice none 0 0] 24, rowV 5 1 (.slice p_2.1 n p_2.2) n (l.map e_u8), cellsC b5 [.int .i64 t19.W, .int .i64 t19.H, .slice p_2.1 n p_2.2] 24] rfl rfl ?_
    refine c_seq ?_
    refine c_region ?_
    refine l_loadN (i := 2) (vs := [.int .i64 t19.W, .int .i64 t19.H, .slice p_2.1 n p_2.2]) Tryd.isAgg24 Tryd.sizeOf24 rfl rfl rfl rfl rfl ?_
    refine l_store (i := 0) (vs := [.int .i64 t19.W, .int .i64 t19.H, .slice p_2.1 n p_2.2]) (cs' := [.int .i64 t19.W, .int .i64 t19.H, .slice p_2.1 n p_2.2]) Tryd.sizeOf24 rfl rfl rfl rfl rfl rfl rfl rfl rfl ?_
    refine l_nil ?_
    refine c_ret ?_
    obtain rfl := Option.some.inj H23
    refine retC (i := 0) (vs := [.int .i64 t19.W, .int .i64 t19.H, .slice p_2.1 n p_2.2]) Tryd.isAgg24 Tryd.sizeOf24 rfl rfl rfl rfl (finX p_2 (i := 1) rfl (by first | rfl | rw [(show n = l.length from hl)]) (by first | exact Imp.refl _ | exact Imp.of (by rw [(show n = l.length from hl)])))
theorem k14 {a0 : T_api_Image} {v0_2 : Value} {a1 : Int} {a2 : Int} {a3 : Int} {a4 : Int} {r : T_api_Image × Int} {w : World} {h : Heap} (hw : Know h w noS) (f0_2 : FrS h 1 v0_2 (a0.Pixels.map e_u8)) (H : pix_Crop a0 a1 a2 a3 a4 = some r) : Does Tryd.prog 14 (List.toArray [.agg #[.int .i64 a0.W, .int .i64 a0.H, v0_2], .int .i64 a1, .int .i64 a2, .int .i64 a3, .int .i64 a4]) w (fun v w' => ∃ x : (Option Addr × Nat), v = (.tuple #[.agg #[.int .i64 r.1.W, .int .i64 r.1.H, .slice x.1 r.1.Pixels.length x.2], .int .i64 r.2]) ∧ Turn w w' noS (rowV 5 1 (.slice x.1 r.1.Pixels.length x.2) r.1.Pixels.length (r.1.Pixels.map e_u8))) := by
  refine enter (n := 83) Tryd.func14 rfl rfl rfl noS [] (Sat.nil _ _) ?_
  refine c_seq ?_
  refine c_region ?_
  refine l_box (cs := [.int .i64 a0.W, .int .i64 a0.H, v0_2]) rfl rfl rfl rfl (fun b3 => ?_)
  refine l_alloc (cs := [.int .i64 0, .int .i64 0, .slice none 0 0]) Tryd.zeroValue24 rfl rfl rfl (fun b4 => ?_)
  refine l_val rfl rfl rfl (r_assign (v := .int .i64 0) rfl) ?_
  refine l_nil ?_
  refine c_seq ?_
  refine c_seq ?_
  refine c_region ?_
  refine l_loadN (i := 0) (vs := [.int .i64 a0.W, .int .i64 a0.H, v0_2]) Tryd.isAgg24 Tryd.sizeOf24 rfl rfl rfl rfl rfl ?_
  obtain ⟨t17, h_t17, H35⟩ := bnd_some H; clear H
  refine l_callG (fun w hF hS => k11 (know_all w) (f0_2.mono (hw.now hF)) h_t17) Tryd.call11 rfl rfl rfl ?_
  refine l_val rfl rfl rfl (r_assign (v := .int .i64 t17) rfl) ?_
  refine l_nil ?_
  refine c_seq ?_
  refine c_region ?_
  refine l_val rfl rfl rfl (r_move (v := .int .i64 t17) rfl) ?_
  refine l_val rfl rfl rfl (r_neq rfl rfl) ?_
  refine l_nil ?_
  refine c_if (b := (decide (t17 ≠ 0))) rfl (fun hb => ?_) (fun hb => ?_)
  · have H36 := cnd_t hb H35; clear H35
    refine c_seq ?_
    refine c_region ?_
    refine l_val rfl rfl rfl (r_build (pl := #[(0, 1), (1, 1), (2, 1)]) (ps := []) (cells := #[.int .i64 0, .int .i64 0, .slice none 0 0]) Tryd.zeroValue24 Tryd.runUnderlying24 (fun w => by kernel_rfl) rfl rfl) ?_
    refine l_val rfl rfl rfl (r_move (v := .int .i64 t17) rfl) ?_
    refine l_store (i := 1) (vs := [.int .i64 0, .int .i64 0, .slice none 0 0]) (cs' := [.int .i64 0, .int .i64 0, .slice none 0 0]) Tryd.sizeOf24 rfl rfl rfl rfl rfl rfl rfl rfl rfl ?_
    refine l_val rfl rfl rfl (r_assign (v := .int .i64 t17) rfl) ?_
    refine l_nil ?_
    refine c_ret ?_
    refine c_nilRow 5 1 ?_
    obtain rfl := Option.some.inj H36
    refine retCt (i := 1) (vs := [.int .i64 0, .int .i64 0, .slice ((none, 0) : Option Addr × Nat).1 ([] : List Int).length ((none, 0) : Option Addr × Nat).2]) (v2 := .int .i64 t17) Tryd.isAgg24 Tryd.sizeOf24 rfl rfl rfl rfl rfl (finX ((none, 0) : Option Addr × Nat) (i := 2) rfl rfl (Imp.refl _))
  · have H37 := cnd_f hb H35; clear H35
    refine c_skip ?_
    refine c_seq ?_
    refine c_seq ?_
    refine c_region ?_
    refine l_val rfl rfl rfl (r_move (v := .int .i64 a1) rfl) ?_
    refine l_val rfl rfl rfl (r_lss rfl rfl) ?_
    refine l_val rfl rfl rfl (r_move (v := .bool (decide (a1 < 0))) rfl) ?_
    refine split (fun hb => ?_) (fun hb => ?_)
    · have H38 := cnd_t hb H37; clear H37
      refine l_passed rfl rfl rfl ?_
      refine l_passed rfl rfl rfl ?_
      refine l_val rfl rfl rfl (r_pickT (v := .bool true) rfl rfl) ?_
      refine l_val rfl rfl rfl (r_move (v := .bool true) rfl) ?_
      refine l_passed rfl rfl rfl ?_
      refine l_passed rfl rfl rfl ?_
      refine l_passed rfl rfl rfl ?_
      refine l_passed rfl rfl rfl ?_
      refine l_val rfl rfl rfl (r_pickT (v := .bool true) rfl rfl) ?_
      refine l_val rfl rfl rfl (r_move (v := .bool true) rfl) ?_
      refine l_passed rfl rfl rfl ?_
      refine l_passed rfl rfl rfl ?_
      refine l_passed rfl rfl rfl ?_
      refine l_passed rfl rfl rfl ?_
      refine l_val rfl rfl rfl (r_pickT (v := .bool true) rfl rfl) ?_
      refine l_val rfl rfl rfl (r_move (v := .bool true) rfl) ?_
      refine l_passed rfl rfl rfl ?_
      refine l_passed rfl rfl rfl ?_
      refine l_passed rfl rfl rfl ?_
      refine l_passed rfl rfl rfl ?_
      refine l_passed rfl rfl rfl ?_
      refine l_passed rfl rfl rfl ?_
      refine l_val rfl rfl rfl (r_pickT (v := .bool true) rfl rfl) ?_
      refine l_val rfl rfl rfl (r_move (v := .bool true) rfl) ?_
      refine l_passed rfl rfl rfl ?_
      refine l_passed rfl rfl rfl ?_
      refine l_passed rfl rfl rfl ?_
      refine l_passed rfl rfl rfl ?_
      refine l_passed rfl rfl rfl ?_
      refine l_passed rfl rfl rfl ?_
      refine l_val rfl rfl rfl (r_pickT (v := .bool true) rfl rfl) ?_
      refine l_nil ?_
      refine c_true rfl ?_
      refine c_seq ?_
      refine c_region ?_
      refine l_val rfl rfl rfl (r_build (pl := #[(0, 1), (1, 1), (2, 1)]) (ps := []) (cells := #[.int .i64 0, .int .i64 0, .slice none 0 0]) Tryd.zeroValue24 Tryd.runUnderlying24 (fun w => by kernel_rfl) rfl rfl) ?_
      refine l_store (i := 1) (vs := [.int .i64 0, .int .i64 0, .slice none 0 0]) (cs' := [.int .i64 0, .int .i64 0, .slice none 0 0]) Tryd.sizeOf24 rfl rfl rfl rfl rfl rfl rfl rfl rfl ?_
      refine l_val rfl rfl rfl (r_assign (v := .int .i64 2) rfl) ?_
      refine l_nil ?_
      refine c_ret ?_
      refine c_nilRow 5 1 ?_
      obtain rfl := Option.some.inj H38
      refine retCt (i := 1) (vs := [.int .i64 0, .int .i64 0, .slice ((none, 0) : Option Addr × Nat).1 ([] : List Int).length ((none, 0) : Option Addr × Nat).2]) (v2 := .int .i64 2) Tryd.isAgg24 Tryd.sizeOf24 rfl rfl rfl rfl rfl (finX ((none, 0) : Option Addr × Nat) (i := 2) rfl rfl (Imp.refl _))
    · have H39 := cnd_f hb H37; clear H37
      refine l_val rfl rfl rfl (r_move (v := .int .i64 a2) rfl) ?_
      refine l_val rfl rfl rfl (r_lss rfl rfl) ?_
      refine l_val rfl rfl rfl (r_pickF (v := .bool (decide (a2 < 0))) rfl rfl) ?_
      refine l_val rfl rfl rfl (r_move (v := .bool (decide (a2 < 0))) rfl) ?_
      refine split (fun hb => ?_) (fun hb => ?_)
      · have H40 := cnd_t hb H39; clear H39
        refine l_passed rfl rfl rfl ?_
        refine l_passed rfl rfl rfl ?_
        refine l_passed rfl rfl rfl ?_
        refine l_passed rfl rfl rfl ?_
        refine l_val rfl rfl rfl (r_pickT (v := .bool true) rfl rfl) ?_
        refine l_val rfl rfl rfl (r_move (v := .bool true) rfl) ?_
        refine l_passed rfl rfl rfl ?_
        refine l_passed rfl rfl rfl ?_
        refine l_passed rfl rfl rfl ?_
        refine l_passed rfl rfl rfl ?_
        refine l_val rfl rfl rfl (r_pickT (v := .bool true) rfl rfl) ?_
        refine l_val rfl rfl rfl (r_move (v := .bool true) rfl) ?_
        refine l_passed rfl rfl rfl ?_
        refine l_passed rfl rfl rfl ?_
        refine l_passed rfl rfl rfl ?_
        refine l_passed rfl rfl rfl ?_
        refine l_passed rfl rfl rfl ?_
        refine l_passed rfl rfl rfl ?_
        refine l_val rfl rfl rfl (r_pickT (v := .bool true) rfl rfl) ?_
        refine l_val rfl rfl rfl (r_move (v := .bool true) rfl) ?_
        refine l_passed rfl rfl rfl ?_
        refine l_passed rfl rfl rfl ?_
        refine l_passed rfl rfl rfl ?_
        refine l_passed rfl rfl rfl ?_
        refine l_passed rfl rfl rfl ?_
        refine l_passed rfl rfl rfl ?_
        refine l_val rfl rfl rfl (r_pickT (v := .bool true) rfl rfl) ?_
        refine l_nil ?_
        refine c_true rfl ?_
        refine c_seq ?_
        refine c_region ?_
        refine l_val rfl rfl rfl (r_build (pl := #[(0, 1), (1, 1), (2, 1)]) (ps := []) (cells := #[.int .i64 0, .int .i64 0, .slice none 0 0]) Tryd.zeroValue24 Tryd.runUnderlying24 (fun w => by kernel_rfl) rfl rfl) ?_
        refine l_store (i := 1) (vs := [.int .i64 0, .int .i64 0, .slice none 0 0]) (cs' := [.int .i64 0, .int .i64 0, .slice none 0 0]) Tryd.sizeOf24 rfl rfl rfl rfl rfl rfl rfl rfl rfl ?_
        refine l_val rfl rfl rfl (r_assign (v := .int .i64 2) rfl) ?_
        refine l_nil ?_
        refine c_ret ?_
        refine c_nilRow 5 1 ?_
        obtain rfl := Option.some.inj H40
        refine retCt (i := 1) (vs := [.int .i64 0, .int .i64 0, .slice ((none, 0) : Option Addr × Nat).1 ([] : List Int).length ((none, 0) : Option Addr × Nat).2]) (v2 := .int .i64 2) Tryd.isAgg24 Tryd.sizeOf24 rfl rfl rfl rfl rfl (finX ((none, 0) : Option Addr × Nat) (i := 2) rfl rfl (Imp.refl _))
      · have H41 := cnd_f hb H39; clear H39
        refine l_val rfl rfl rfl (r_move (v := .int .i64 a3) rfl) ?_
        refine l_val rfl rfl rfl (r_field Tryd.runUnderlying24 rfl Tryd.sizeOf3 rfl rfl) ?_
        refine l_load1 (i := 0) (v := .int .i64 a0.W) Tryd.isAgg3 rfl rfl rfl rfl rfl ?_
        obtain ⟨t32, h_t32, H42⟩ := bnd_some H41; clear H41
        refine l_call (k24 h_t32) Tryd.call24 rfl rfl rfl ?_
        refine l_val rfl rfl rfl (r_pickF (v := .bool t32) rfl rfl) ?_
        refine l_val rfl rfl rfl (r_move (v := .bool t32) rfl) ?_
        refine split (fun hb => ?_) (fun hb => ?_)
        · have H43 := cnd_t hb H42; clear H42
          refine l_passed rfl rfl rfl ?_
          refine l_passed rfl rfl rfl ?_
          refine l_passed rfl rfl rfl ?_
          refine l_passed rfl rfl rfl ?_
          refine l_val rfl rfl rfl (r_pickT (v := .bool true) rfl rfl) ?_
          refine l_val rfl rfl rfl (r_move (v := .bool true) rfl) ?_
          refine l_passed rfl rfl rfl ?_
          refine l_passed rfl rfl rfl ?_
          refine l_passed rfl rfl rfl ?_
          refine l_passed rfl rfl rfl ?_
          refine l_passed rfl rfl rfl ?_
          refine l_passed rfl rfl rfl ?_
          refine l_val rfl rfl rfl (r_pickT (v := .bool true) rfl rfl) ?_
          refine l_val rfl rfl rfl (r_move (v := .bool true) rfl) ?_
          refine l_passed rfl rfl rfl ?_
          refine l_passed rfl rfl rfl ?_
          refine l_passed rfl rfl rfl ?_
          refine l_passed rfl rfl rfl ?_
          refine l_passed rfl rfl rfl ?_
          refine l_passed rfl rfl rfl ?_
          refine l_val rfl rfl rfl (r_pickT (v := .bool true) rfl rfl) ?_
          refine l_nil ?_
          refine c_true rfl ?_
          refine c_seq ?_
          refine c_region ?_
          refine l_val rfl rfl rfl (r_build (pl := #[(0, 1), (1, 1), (2, 1)]) (ps := []) (cells := #[.int .i64 0, .int .i64 0, .slice none 0 0]) Tryd.zeroValue24 Tryd.runUnderlying24 (fun w => by kernel_rfl) rfl rfl) ?_
          refine l_store (i := 1) (vs := [.int .i64 0, .int .i64 0, .slice none 0 0]) (cs' := [.int .i64 0, .int .i64 0, .slice none 0 0]) Tryd.sizeOf24 rfl rfl rfl rfl rfl rfl rfl rfl rfl ?_
          refine l_val rfl rfl rfl (r_assign (v := .int .i64 2) rfl) ?_
          refine l_nil ?_
          refine c_ret ?_
          refine c_nilRow 5 1 ?_
          obtain rfl := Option.some.inj H43
          refine retCt (i := 1) (vs := [.int .i64 0, .int .i64 0, .slice ((none, 0) : Option Addr × Nat).1 ([] : List Int).length ((none, 0) : Option Addr × Nat).2]) (v2 := .int .i64 2) Tryd.isAgg24 Tryd.sizeOf24 rfl rfl rfl rfl rfl (finX ((none, 0) : Option Addr × Nat) (i := 2) rfl rfl (Imp.refl _))
        · have H44 := cnd_f hb H42; clear H42
          refine l_val rfl rfl rfl (r_move (v := .int .i64 a4) rfl) ?_
          refine l_val rfl rfl rfl (r_field Tryd.runUnderlying24 rfl Tryd.sizeOf3 rfl rfl) ?_
          refine l_load1 (i := 0) (v := .int .i64 a0.H) Tryd.isAgg3 rfl rfl rfl rfl rfl ?_
          obtain ⟨t38, h_t38, H45⟩ := bnd_some H44; clear H44
          refine l_call (k24 h_t38) Tryd.call24 rfl rfl rfl ?_
          refine l_val rfl rfl rfl (r_pickF (v := .bool t38) rfl rfl) ?_
          refine l_val rfl rfl rfl (r_move (v := .bool t38) rfl) ?_
          refine split (fun hb => ?_) (fun hb => ?_)
          · have H46 := cnd_t hb H45; clear H45
            refine l_passed rfl rfl rfl ?_
            refine l_passed rfl rfl rfl ?_
            refine l_passed rfl rfl rfl ?_
            refine l_passed rfl rfl rfl ?_
            refine l_passed rfl rfl rfl ?_
            refine l_passed rfl rfl rfl ?_
            refine l_val rfl rfl rfl (r_pickT (v := .bool true) rfl rfl) ?_
            refine l_val rfl rfl rfl (r_move (v := .bool true) rfl) ?_
            refine l_passed rfl rfl rfl ?_
            refine l_passed rfl rfl rfl ?_
            refine l_passed rfl rfl rfl ?_
            refine l_passed rfl rfl rfl ?_
            refine l_passed rfl rfl rfl ?_
            refine l_passed rfl rfl rfl ?_
            refine l_val rfl rfl rfl (r_pickT (v := .bool true) rfl rfl) ?_
            refine l_nil ?_
            refine c_true rfl ?_
            refine c_seq ?_
            refine c_region ?_
            refine l_val rfl rfl rfl (r_build (pl := #[(0, 1), (1, 1), (2, 1)]) (ps := []) (cells := #[.int .i64 0, .int .i64 0, .slice none 0 0]) Tryd.zeroValue24 Tryd.runUnderlying24 (fun w => by kernel_rfl) rfl rfl) ?_
            refine l_store (i := 1) (vs := [.int .i64 0, .int .i64 0, .slice none 0 0]) (cs' := [.int .i64 0, .int .i64 0, .slice none 0 0]) Tryd.sizeOf24 rfl rfl rfl rfl rfl rfl rfl rfl rfl ?_
            refine l_val rfl rfl rfl (r_assign (v := .int .i64 2) rfl) ?_
            refine l_nil ?_
            refine c_ret ?_
            refine c_nilRow 5 1 ?_
            obtain rfl := Option.some.inj H46
            refine retCt (i := 1) (vs := [.int .i64 0, .int .i64 0, .slice ((none, 0) : Option Addr × Nat).1 ([] : List Int).length ((none, 0) : Option Addr × Nat).2]) (v2 := .int .i64 2) Tryd.isAgg24 Tryd.sizeOf24 rfl rfl rfl rfl rfl (finX ((none, 0) : Option Addr × Nat) (i := 2) rfl rfl (Imp.refl _))
          · have H47 := cnd_f hb H45; clear H45
            refine l_val rfl rfl rfl (r_move (v := .int .i64 a1) rfl) ?_
            refine l_val rfl rfl rfl (r_field Tryd.runUnderlying24 rfl Tryd.sizeOf3 rfl rfl) ?_
            refine l_load1 (i := 0) (v := .int .i64 a0.W) Tryd.isAgg3 rfl rfl rfl rfl rfl ?_
            refine l_val rfl rfl rfl (r_move (v := .int .i64 a3) rfl) ?_
            obtain ⟨t45, h_t45, H48⟩ := bnd_some H47; clear H47
            refine l_val rfl rfl rfl (r_subG rfl rfl h_t45) ?_
            refine l_val rfl rfl rfl (r_gtr rfl rfl) ?_
            refine l_val rfl rfl rfl (r_pickF (v := .bool (decide (t45 < a1))) rfl rfl) ?_
            refine l_val rfl rfl rfl (r_move (v := .bool (decide (t45 < a1))) rfl) ?_
            refine split (fun hb => ?_) (fun hb => ?_)
            · have H49 := cnd_t hb H48; clear H48
              refine l_passed rfl rfl rfl ?_
              refine l_passed rfl rfl rfl ?_
              refine l_passed rfl rfl rfl ?_
              refine l_passed rfl rfl rfl ?_
              refine l_passed rfl rfl rfl ?_
              refine l_passed rfl rfl rfl ?_
              refine l_val rfl rfl rfl (r_pickT (v := .bool true) rfl rfl) ?_
              refine l_nil ?_
              refine c_true rfl ?_
              refine c_seq ?_
              refine c_region ?_
              refine l_val rfl rfl rfl (r_build (pl := #[(0, 1), (1, 1), (2, 1)]) (ps := []) (cells := #[.int .i64 0, .int .i64 0, .slice none 0 0]) Tryd.zeroValue24 Tryd.runUnderlying24 (fun w => by kernel_rfl) rfl rfl) ?_
              refine l_store (i := 1) (vs := [.int .i64 0, .int .i64 0, .slice none 0 0]) (cs' := [.int .i64 0, .int .i64 0, .slice none 0 0]) Tryd.sizeOf24 rfl rfl rfl rfl rfl rfl rfl rfl rfl ?_
              refine l_val rfl rfl rfl (r_assign (v := .int .i64 2) rfl) ?_
              refine l_nil ?_
              refine c_ret ?_
              refine c_nilRow 5 1 ?_
              obtain rfl := Option.some.inj H49
              refine retCt (i := 1) (vs := [.int .i64 0, .int .i64 0, .slice ((none, 0) : Option Addr × Nat).1 ([] : List Int).length ((none, 0) : Option Addr × Nat).2]) (v2 := .int .i64 2) Tryd.isAgg24 Tryd.sizeOf24 rfl rfl rfl rfl rfl (finX ((none, 0) : Option Addr × Nat) (i := 2) rfl rfl (Imp.refl _))
            · have H50 := cnd_f hb H48; clear H48
              refine l_val rfl rfl rfl (r_move (v := .int .i64 a2) rfl) ?_
              refine l_val rfl rfl rfl (r_field Tryd.runUnderlying24 rfl Tryd.sizeOf3 rfl rfl) ?_
              refine l_load1 (i := 0) (v := .int .i64 a0.H) Tryd.isAgg3 rfl rfl rfl rfl rfl ?_
              refine l_val rfl rfl rfl (r_move (v := .int .i64 a4) rfl) ?_
              obtain ⟨t53, h_t53, H51⟩ := bnd_some H50; clear H50
              refine l_val rfl rfl rfl (r_subG rfl rfl h_t53) ?_
              refine l_val rfl rfl rfl (r_gtr rfl rfl) ?_
              refine l_val rfl rfl rfl (r_pickF (v := .bool (decide (t53 < a2))) rfl rfl) ?_
              refine l_nil ?_
              refine c_if (b := (decide (t53 < a2))) rfl (fun hb => ?_) (fun hb => ?_)
              · have H52 := cnd_t hb H51; clear H51
                refine c_seq ?_
                refine c_region ?_
                refine l_val rfl rfl rfl (r_build (pl := #[(0, 1), (1, 1), (2, 1)]) (ps := []) (cells := #[.int .i64 0, .int .i64 0, .slice none 0 0]) Tryd.zeroValue24 Tryd.runUnderlying24 (fun w => by kernel_rfl) rfl rfl) ?_
                refine l_store (i := 1) (vs := [.int .i64 0, .int .i64 0, .slice none 0 0]) (cs' := [.int .i64 0, .int .i64 0, .slice none 0 0]) Tryd.sizeOf24 rfl rfl rfl rfl rfl rfl rfl rfl rfl ?_
                refine l_val rfl rfl rfl (r_assign (v := .int .i64 2) rfl) ?_
                refine l_nil ?_
                refine c_ret ?_
                refine c_nilRow 5 1 ?_
                obtain rfl := Option.some.inj H52
                refine retCt (i := 1) (vs := [.int .i64 0, .int .i64 0, .slice ((none, 0) : Option Addr × Nat).1 ([] : List Int).length ((none, 0) : Option Addr × Nat).2]) (v2 := .int .i64 2) Tryd.isAgg24 Tryd.sizeOf24 rfl rfl rfl rfl rfl (finX ((none, 0) : Option Addr × Nat) (i := 2) rfl rfl (Imp.refl _))
              · have H53 := cnd_f hb H51; clear H51
                refine c_skip ?_
                refine c_seq ?_
                refine c_region ?_
                refine l_val rfl rfl rfl (r_move (v := .int .i64 a3) rfl) ?_
                refine l_val rfl rfl rfl (r_move (v := .int .i64 a4) rfl) ?_
                obtain ⟨t59, h_t59, H54⟩ := bnd_some H53; clear H53
                refine l_make (makes_call (rds := []) (G := fun x : (Option Addr × Nat) => .agg #[.int .i64 t59.W, .int .i64 t59.H, .slice x.1 t59.Pixels.length x.2]) (C := fun x : (Option Addr × Nat) => rowV 5 1 (.slice x.1 t59.Pixels.length x.2) t59.Pixels.length (t59.Pixels.map e_u8)) (fun w L' hF hS hi => k27 (know_all w)  h_t59) Tryd.call27 rfl) rfl rfl rfl (fun p => ?_)
                refine l_alloc (cs := [.int .i64 0, .int .i64 0, .slice none 0 0]) Tryd.zeroValue24 rfl rfl rfl (fun b5 => ?_)
                refine l_store (i := 3) (vs := [.int .i64 t59.W, .int .i64 t59.H, .slice p.1 t59.Pixels.length p.2]) (cs' := [.int .i64 t59.W, .int .i64 t59.H, .slice p.1 t59.Pixels.length p.2]) Tryd.sizeOf24 rfl rfl rfl rfl rfl rfl rfl rfl rfl ?_
                refine l_nil ?_
                refine c_meet (r := r) (σ := (List Int)) (τ := (Option Addr × Nat) × Nat) (fun s => pix_Crop_j1 t59 s) (fun s t => [(10, .pointer (some ⟨b4, 0, none⟩)), (13, .pointer (some ⟨b5, 0, none⟩))]) (fun s t => [cellsC b4 [.int .i64 0, .int .i64 0, .slice none 0 0] 24, rowV 5 1 (.slice t.1.1 t.2 t.1.2) t.2 (s.map e_u8), cellsC b5 [.int .i64 t59.W, .int .i64 t59.H, .slice t.1.1 t.2 t.1.2] 24]) (fun s t => t.2 = s.length) ?_ ?_
                · refine c_seq ?_
                  refine c_region ?_
                  refine l_val rfl rfl rfl (r_move (v := .int .i64 a4) rfl) ?_
                  refine l_val rfl rfl rfl (r_move (v := .int .i64 0) rfl) ?_
                  refine l_nil ?_
                  refine c_block ?_
                  refine c_fix (σ := Int × (List Int) × (List Int)) (τ := Value × (Option Addr × Nat) × Nat) (fun next2 s => pix_Crop_l2 a0 a1 a2 a3 a4 t59 next2 s.1 s.2.1 s.2.2) (fun s t => [(1, .int .i64 a1), (2, .int .i64 a2), (3, .int .i64 a3), (5, .pointer (some ⟨b3, 0, none⟩)), (10, .pointer (some ⟨b4, 0, none⟩)), (13, .pointer (some ⟨b5, 0, none⟩)), (60, .int .i64 a4), (61, .int .i64 s.1)]) (fun s t => [cellsC b3 [.int .i64 a0.W, .int .i64 a0.H, t.1] 24, cellsC b4 [.int .i64 0, .int .i64 0, .slice none 0 0] 24, rowV 5 1 (.slice t.2.1.1 t.2.2 t.2.1.2) t.2.2 (s.2.2.map e_u8), cellsC b5 [.int .i64 t59.W, .int .i64 t59.H, .slice t.2.1.1 t.2.2 t.2.1.2] 24]) (fun s t => FrS h 1 t.1 (s.2.1.map e_u8) ∧ t.2.2 = s.2.2.length) (0, a0.Pixels, t59.Pixels) (v0_2, p, t59.Pixels.length) [0, 1, 2, 3] H54 (by exact ⟨f0_2, rfl⟩) (by exact ⟨rfl, rfl, rfl, rfl, rfl, rfl, rfl, rfl, trivial⟩) (by decide) rfl ?_
                  rintro ⟨x61_2, m_2, l_3⟩ ⟨gv, p_3, n_2⟩ m2 gg H56 ⟨gf_2, hl_3⟩
                  clear H54
                  replace H56 : pix_Crop_l2 a0 a1 a2 a3 a4 t59 (it (fun next2 s => pix_Crop_l2 a0 a1 a2 a3 a4 t59 next2 s.1 s.2.1 s.2.2) m2) x61_2 m_2 l_3 = some r := H56
                  generalize hn2 : it (fun next2 s => pix_Crop_l2 a0 a1 a2 a3 a4 t59 next2 s.1 s.2.1 s.2.2) m2 = next2 at H56
                  refine c_tidyF [(1, .int .i64 a1), (2, .int .i64 a2), (3, .int .i64 a3), (5, .pointer (some ⟨b3, 0, none⟩)), (10, .pointer (some ⟨b4, 0, none⟩)), (13, .pointer (some ⟨b5, 0, none⟩)), (60, .int .i64 a4), (61, .int .i64 x61_2)] [cellsC b3 [.int .i64 a0.W, .int .i64 a0.H, gv] 24, cellsC b4 [.int .i64 0, .int .i64 0, .slice none 0 0] 24, rowV 5 1 (.slice p_3.1 n_2 p_3.2) n_2 (l_3.map e_u8), cellsC b5 [.int .i64 t59.W, .int .i64 t59.H, .slice p_3.1 n_2 p_3.2] 24] rfl rfl ?_
                  refine c_seq ?_
                  refine c_region ?_
                  refine l_val rfl rfl rfl (r_lss rfl rfl) ?_
                  refine l_nil ?_
                  refine c_seq ?_
                  refine c_if (b := (decide (x61_2 < a4))) rfl (fun hb => ?_) (fun hb => ?_)
                  · have H57 := cnd_t hb H56; clear H56
                    refine c_skip ?_
                    refine c_meet (r := r) (σ := (List Int)) (τ := Unit) (fun s => pix_Crop_j3 x61_2 m_2 next2 s) (fun s t => [(1, .int .i64 a1), (2, .int .i64 a2), (3, .int .i64 a3), (5, .pointer (some ⟨b3, 0, none⟩)), (10, .pointer (some ⟨b4, 0, none⟩)), (13, .pointer (some ⟨b5, 0, none⟩)), (60, .int .i64 a4), (61, .int .i64 x61_2)]) (fun s t => [cellsC b3 [.int .i64 a0.W, .int .i64 a0.H, gv] 24, cellsC b4 [.int .i64 0, .int .i64 0, .slice none 0 0] 24, rowV 5 1 (.slice p_3.1 n_2 p_3.2) n_2 (s.map e_u8), cellsC b5 [.int .i64 t59.W, .int .i64 t59.H, .slice p_3.1 n_2 p_3.2] 24]) (fun s t => n_2 = s.length) ?_ ?_
                    · refine c_block ?_
                      refine c_seq ?_
                      refine c_region ?_
                      refine l_val rfl rfl rfl (r_move (v := .int .i64 x61_2) rfl) ?_
                      refine l_val rfl rfl rfl (r_assign (v := .int .i64 x61_2) rfl) ?_
                      refine l_nil ?_
                      refine c_seq ?_
                      refine c_region ?_
                      refine l_val rfl rfl rfl (r_move (v := .int .i64 a3) rfl) ?_
                      refine l_val rfl rfl rfl (r_move (v := .int .i64 0) rfl) ?_
                      refine l_nil ?_
                      refine c_block ?_
                      refine c_fix (σ := Int × (List Int)) (τ := Unit) (fun next4 s => pix_Crop_l4 a0 a1 a2 a3 t59 x61_2 m_2 next2 next4 s.1 s.2) (fun s t => [(1, .int .i64 a1), (2, .int .i64 a2), (3, .int .i64 a3), (5, .pointer (some ⟨b3, 0, none⟩)), (10, .pointer (some ⟨b4, 0, none⟩)), (13, .pointer (some ⟨b5, 0, none⟩)), (14, .int .i64 x61_2), (60, .int .i64 a4), (61, .int .i64 x61_2), (64, .int .i64 a3), (65, .int .i64 s.1)]) (fun s t => [cellsC b3 [.int .i64 a0.W, .int .i64 a0.H, gv] 24, cellsC b4 [.int .i64 0, .int .i64 0, .slice none 0 0] 24, rowV 5 1 (.slice p_3.1 n_2 p_3.2) n_2 (s.2.map e_u8), cellsC b5 [.int .i64 t59.W, .int .i64 t59.H, .slice p_3.1 n_2 p_3.2] 24]) (fun s t => n_2 = s.2.length) (0, l_3) () [0, 1, 2, 3] H57 (by exact hl_3) (by exact ⟨rfl, rfl, rfl, rfl, rfl, rfl, rfl, rfl, rfl, rfl, rfl, trivial⟩) (by decide) rfl ?_
                      rintro ⟨x65_2, l_6⟩ _ m4 gg H60 hl_6
                      clear H57
                      replace H60 : pix_Crop_l4 a0 a1 a2 a3 t59 x61_2 m_2 next2 (it (fun next4 s => pix_Crop_l4 a0 a1 a2 a3 t59 x61_2 m_2 next2 next4 s.1 s.2) m4) x65_2 l_6 = some r := H60
                      generalize hn4 : it (fun next4 s => pix_Crop_l4 a0 a1 a2 a3 t59 x61_2 m_2 next2 next4 s.1 s.2) m4 = next4 at H60
                      refine c_tidyF [(1, .int .i64 a1), (2, .int .i64 a2), (3, .int .i64 a3), (5, .pointer (some ⟨b3, 0, none⟩)), (10, .pointer (some ⟨b4, 0, none⟩)), (13, .pointer (some ⟨b5, 0, none⟩)), (14, .int .i64 x61_2), (60, .int .i64 a4), (61, .int .i64 x61_2), (64, .int .i64 a3), (65, .int .i64 x65_2)] [cellsC b3 [.int .i64 a0.W, .int .i64 a0.H, gv] 24, cellsC b4 [.int .i64 0, .int .i64 0, .slice none 0 0] 24, rowV 5 1 (.slice p_3.1 n_2 p_3.2) n_2 (l_6.map e_u8), cellsC b5 [.int .i64 t59.W, .int .i64 t59.H, .slice p_3.1 n_2 p_3.2] 24] rfl rfl ?_
                      refine c_seq ?_
                      refine c_region ?_
                      refine l_val rfl rfl rfl (r_lss rfl rfl) ?_
                      refine l_nil ?_
                      refine c_seq ?_
                      refine c_if (b := (decide (x65_2 < a3))) rfl (fun hb => ?_) (fun hb => ?_)
                      · have H61 := cnd_t hb H60; clear H60
                        refine c_skip ?_
                        refine c_seq ?_
                        refine c_block ?_
                        refine c_seq ?_
                        refine c_region ?_
                        refine l_val rfl rfl rfl (r_move (v := .int .i64 x65_2) rfl) ?_
                        refine l_val rfl rfl rfl (r_assign (v := .int .i64 x65_2) rfl) ?_
                        refine l_nil ?_
                        exact c_regionD (Kd.d [3] _ :: Kd.p :: Kd.p :: Kd.d [0] _ :: Kd.p :: Kd.p :: Kd.p :: Kd.p :: Kd.p :: Kd.p :: Kd.d [] _ :: Kd.t 2 [] _ _ :: []) 0 mixed (by
                          refine d_loadN (i := 3) (vs := [.int .i64 t59.W, .int .i64 t59.H, .slice p_3.1 n_2 p_3.2]) Tryd.isAgg24 Tryd.sizeOf24 rfl rfl rfl rfl ?_
                          refine d_val rfl rfl (r_move (v := .int .i64 x65_2) rfl) ?_
                          refine d_val rfl rfl (r_move (v := .int .i64 x61_2) rfl) ?_
                          refine d_loadN (i := 0) (vs := [.int .i64 a0.W, .int .i64 a0.H, gv]) Tryd.isAgg24 Tryd.sizeOf24 rfl rfl rfl rfl ?_
                          refine d_val rfl rfl (r_move (v := .int .i64 a1) rfl) ?_
                          refine d_val rfl rfl (r_move (v := .int .i64 x65_2) rfl) ?_
                          have h_t74 := bnd_val H61
                          have H62 := bnd_rest H61
                          refine d_val rfl rfl (r_addG rfl rfl h_t74) ?_
                          refine d_val rfl rfl (r_move (v := .int .i64 a2) rfl) ?_
                          refine d_val rfl rfl (r_move (v := .int .i64 x61_2) rfl) ?_
                          have h_t77 := bnd_val H62
                          have H63 := bnd_rest H62
                          refine d_val rfl rfl (r_addG rfl rfl h_t77) ?_
                          have h_t78 := bnd_val H63
                          have H64 := bnd_rest H63
                          refine d_callD (fun w L' hF hS hi => k29 (know_all w) (gf_2.mono (hw.now hF)) h_t78) Tryd.call29 rfl rfl ?_
                          have h_t79 := bnd_val H64
                          have H65 := bnd_rest H64
                          refine d_turn (Cv := fun _ => rowV 5 1 (.slice p_3.1 n_2 p_3.2) n_2 ((val (pix_set (⟨t59.W, t59.H, l_6⟩ : T_api_Image) x65_2 x61_2 (val (pix_at (⟨a0.W, a0.H, m_2⟩ : T_api_Image) (val (gI (a1 + x65_2))) (val (gI (a2 + x61_2))))))).map e_u8)) () (turns_callB (i := 2) (rds := _) (G := fun _ => .tuple #[]) (C := fun _ => rowV 5 1 (.slice p_3.1 n_2 p_3.2) n_2 ((val (pix_set (⟨t59.W, t59.H, l_6⟩ : T_api_Image) x65_2 x61_2 (val (pix_at (⟨a0.W, a0.H, m_2⟩ : T_api_Image) (val (gI (a1 + x65_2))) (val (gI (a2 + x61_2))))))).map e_u8)) rfl (fun w L' S hF hS hi hp hlt ho hA => (k28 hp hlt (know_but w S) hl_6 h_t79).mono (fun _ _ h => by obtain ⟨_, h⟩ := h; exact ⟨(), h⟩)) Tryd.call28 rfl) (fun _ => rfl) rfl rfl (fun _ => ?_)
                          refine d_nil ?_
                          refine c_know (fun w hF hS => lenOf (i := 2) hS rfl) (fun hl_7_ => ?_)
                          have hl_7 : n_2 = (val (pix_set (⟨t59.W, t59.H, l_6⟩ : T_api_Image) x65_2 x61_2 (val (pix_at (⟨a0.W, a0.H, m_2⟩ : T_api_Image) (val (gI (a1 + x65_2))) (val (gI (a2 + x61_2))))))).length := by simpa using hl_7_.symm
                          refine c_region ?_
                          obtain ⟨t80, h_t80, H66⟩ := bnd_some H65; clear H65
                          refine l_val rfl rfl rfl (r_addG rfl rfl h_t80) ?_
                          refine l_val rfl rfl rfl (r_move (v := .int .i64 t80) rfl) ?_
                          refine l_nil ?_
                          refine c_close (t80, (val (pix_set (⟨t59.W, t59.H, l_6⟩ : T_api_Image) x65_2 x61_2 (val (pix_at (⟨a0.W, a0.H, m_2⟩ : T_api_Image) (val (gI (a1 + x65_2))) (val (gI (a2 + x61_2)))))))) () m4 [0, 1, 2, 3] (by exact ⟨rfl, rfl, rfl, rfl, rfl, rfl, rfl, rfl, rfl, rfl, rfl, trivial⟩) (by decide) rfl (by exact ⟨(by subst hn4; exact H66), hl_7⟩) (Nat.lt_succ_self _)
                          ) (by kernel_rfl)
                      · have H67 := cnd_f hb H60; clear H60
                        refine c_exit ?_
                        refine c_close l_6 () 0 [0, 1, 2, 3] (by exact ⟨rfl, rfl, rfl, rfl, rfl, rfl, rfl, rfl, trivial⟩) (by decide) rfl (by exact ⟨H67, hl_6⟩) (Nat.lt_succ_self _)
                    · rintro l_4 _ gg H58 hl_4
                      replace H58 : pix_Crop_j3 x61_2 m_2 next2 l_4 = some r := H58
                      refine c_tidyF [(1, .int .i64 a1), (2, .int .i64 a2), (3, .int .i64 a3), (5, .pointer (some ⟨b3, 0, none⟩)), (10, .pointer (some ⟨b4, 0, none⟩)), (13, .pointer (some ⟨b5, 0, none⟩)), (60, .int .i64 a4), (61, .int .i64 x61_2)] [cellsC b3 [.int .i64 a0.W, .int .i64 a0.H, gv] 24, cellsC b4 [.int .i64 0, .int .i64 0, .slice none 0 0] 24, rowV 5 1 (.slice p_3.1 n_2 p_3.2) n_2 (l_4.map e_u8), cellsC b5 [.int .i64 t59.W, .int .i64 t59.H, .slice p_3.1 n_2 p_3.2] 24] rfl rfl ?_
                      refine c_region ?_
                      obtain ⟨t81, h_t81, H59⟩ := bnd_some H58; clear H58
                      refine l_val rfl rfl rfl (r_addG rfl rfl h_t81) ?_
                      refine l_val rfl rfl rfl (r_move (v := .int .i64 t81) rfl) ?_
                      refine l_nil ?_
                      refine c_close (t81, m_2, l_4) (gv, p_3, n_2) m2 [0, 1, 2, 3] (by exact ⟨rfl, rfl, rfl, rfl, rfl, rfl, rfl, rfl, trivial⟩) (by decide) rfl (by exact ⟨(by subst hn2; exact H59), ⟨gf_2, hl_4⟩⟩) (Nat.lt_succ_self _)
                  · have H68 := cnd_f hb H56; clear H56
                    refine c_exit ?_
                    refine c_close l_3 (p_3, n_2) 0 [1, 2, 3] (by exact ⟨rfl, rfl, trivial⟩) (by decide) rfl (by exact ⟨H68, hl_3⟩) (Nat.lt_succ_self _)
                · rintro l ⟨p_2, n⟩ gg H55 hl
                  replace H55 : pix_Crop_j1 t59 l = some r := H55
                  refine c_tidyF [(10, .pointer (some ⟨b4, 0, none⟩)), (13, .pointer (some ⟨b5, 0, none⟩))] [cellsC b4 [.int .i64 0, .int .i64 0, .slice none 0 0] 24, rowV 5 1 (.slice p_2.1 n p_2.2) n (l.map e_u8), cellsC b5 [.int .i64 t59.W, .int .i64 t59.H, .slice p_2.1 n p_2.2] 24] rfl rfl ?_
                  refine c_seq ?_
                  refine c_region ?_
                  refine l_loadN (i := 2) (vs := [.int .i64 t59.W, .int .i64 t59.H, .slice p_2.1 n p_2.2]) Tryd.isAgg24 Tryd.sizeOf24 rfl rfl rfl rfl rfl ?_
                  refine l_store (i := 0) (vs := [.int .i64 t59.W, .int .i64 t59.H, .slice p_2.1 n p_2.2]) (cs' := [.int .i64 t59.W, .int .i64 t59.H, .slice p_2.1 n p_2.2]) Tryd.sizeOf24 rfl rfl rfl rfl rfl rfl rfl rfl rfl ?_
                  refine l_val rfl rfl rfl (r_assign (v := .int .i64 0) rfl) ?_
                  refine l_nil ?_
                  refine c_ret ?_
                  obtain rfl := Option.some.inj H55
                  refine retCt (i := 0) (vs := [.int .i64 t59.W, .int .i64 t59.H, .slice p_2.1 n p_2.2]) (v2 := .int .i64 0) Tryd.isAgg24 Tryd.sizeOf24 rfl rfl rfl rfl rfl (finX p_2 (i := 1) rfl (by first | rfl | rw [(show n = l.length from hl)]) (by first | exact Imp.refl _ | exact Imp.of (by rw [(show n = l.length from hl)])))
theorem k54 {a0 : Int} {r : Int} (H : edit_clamp a0 = some r) : Ret Tryd.prog 54 [.int .i64 a0] (.int .u8 r) := by
  refine enterRet (n := 7) Tryd.func54 rfl rfl rfl (fun wd => ?_)
  refine c_seq ?_
  refine c_region ?_
  refine l_val rfl rfl rfl (r_assign (v := .int .u8 0) rfl) ?_
  refine l_nil ?_
  refine c_seq ?_
  refine c_region ?_
  refine l_val rfl rfl rfl (r_move (v := .int .i64 a0) rfl) ?_
  refine l_val rfl rfl rfl (r_max rfl rfl) ?_
  refine l_val rfl rfl rfl (r_min rfl rfl) ?_
  refine l_val rfl rfl rfl (r_convG Tryd.runUnderlying3 Tryd.runUnderlying5 rfl (wr_u8 _)) ?_
  refine l_val rfl rfl rfl (r_assign (v := .int .u8 (wU8 (min (max a0 0) 255))) rfl) ?_
  refine l_nil ?_
  refine c_ret ?_
  obtain rfl := Option.some.inj H
  refine ret1 (v := .int .u8 (wU8 (min (max a0 0) 255))) rfl rfl (fin rfl)
theorem k41 {a0 : T_edit_Step} {a1 : (Nat → Int)} {r : (Nat → Int)} (H : edit_Step_warm a0 a1 = some r) : Ret Tryd.prog 41 [.agg #[.int .i64 a0.Kind, .int .i64 a0.A, .int .i64 a0.B, .int .i64 a0.C, .int .i64 a0.D], .agg #[.int .u8 (a1 0), .int .u8 (a1 1), .int .u8 (a1 2)]] (.agg #[.int .u8 (r 0), .int .u8 (r 1), .int .u8 (r 2)]) := by
  refine enterRet (n := 22) Tryd.func41 rfl rfl rfl (fun wd => ?_)
  refine c_seq ?_
  refine c_region ?_
  refine l_box (cs := [.int .i64 a0.Kind, .int .i64 a0.A, .int .i64 a0.B, .int .i64 a0.C, .int .i64 a0.D]) rfl rfl rfl rfl (fun b3 => ?_)
  refine l_box (cs := [.int .u8 (a1 0), .int .u8 (a1 1), .int .u8 (a1 2)]) rfl rfl rfl rfl (fun b4 => ?_)
  refine l_alloc (cs := [.int .u8 0, .int .u8 0, .int .u8 0]) Tryd.zeroValue68 rfl rfl rfl (fun b5 => ?_)
  refine l_nil ?_
  refine c_seq ?_
  exact c_regionD (Kd.p :: Kd.d [1] _ :: Kd.p :: Kd.p :: Kd.d [0] _ :: Kd.p :: Kd.d [] _ :: Kd.p :: Kd.d [1] _ :: Kd.p :: Kd.d [1] _ :: Kd.p :: Kd.p :: Kd.d [0] _ :: Kd.p :: Kd.d [] _ :: Kd.p :: Kd.st 4 2 [_, _, _] 68 :: []) 0 mixed (by
    refine d_val rfl rfl (r_indexPA Tryd.runUnderlying68 Tryd.sizeOf5 rfl rfl (by decide) (by decide)) ?_
    refine d_load1 (i := 1) (v := .int .u8 (a1 0)) Tryd.isAgg5 rfl rfl rfl rfl ?_
    have h_t7 := bnd_val H
    have H7 := bnd_rest H
    refine d_val rfl rfl (r_convG Tryd.runUnderlying5 Tryd.runUnderlying3 rfl (gK_i64 h_t7)) ?_
    refine d_val rfl rfl (r_field Tryd.runUnderlying29 rfl Tryd.sizeOf3 rfl rfl) ?_
    refine d_load1 (i := 0) (v := .int .i64 a0.A) Tryd.isAgg3 rfl rfl rfl rfl ?_
    have h_t10 := bnd_val H7
    have H8 := bnd_rest H7
    refine d_val rfl rfl (r_addG rfl rfl h_t10) ?_
    have h_t11 := bnd_val H8
    have H9 := bnd_rest H8
    refine d_call (k54 h_t11) Tryd.call54 rfl rfl ?_
    refine d_val rfl rfl (r_indexPA Tryd.runUnderlying68 Tryd.sizeOf5 rfl rfl (by decide) (by decide)) ?_
    refine d_load1 (i := 1) (v := .int .u8 (a1 1)) Tryd.isAgg5 rfl rfl rfl rfl ?_
    refine d_val rfl rfl (r_indexPA Tryd.runUnderlying68 Tryd.sizeOf5 rfl rfl (by decide) (by decide)) ?_
    refine d_load1 (i := 1) (v := .int .u8 (a1 2)) Tryd.isAgg5 rfl rfl rfl rfl ?_
    have h_t16 := bnd_val H9
    have H10 := bnd_rest H9
    refine d_val rfl rfl (r_convG Tryd.runUnderlying5 Tryd.runUnderlying3 rfl (gK_i64 h_t16)) ?_
    refine d_val rfl rfl (r_field Tryd.runUnderlying29 rfl Tryd.sizeOf3 rfl rfl) ?_
    refine d_load1 (i := 0) (v := .int .i64 a0.A) Tryd.isAgg3 rfl rfl rfl rfl ?_
    have h_t19 := bnd_val H10
    have H11 := bnd_rest H10
    refine d_val rfl rfl (r_subG rfl rfl h_t19) ?_
    have h_t20 := bnd_val H11
    have H12 := bnd_rest H11
    refine d_call (k54 h_t20) Tryd.call54 rfl rfl ?_
    refine d_val rfl rfl (r_buildA (ps := [(0, .int .u8 (val (edit_clamp (val (gI ((val (gK (-9223372036854775808) 9223372036854775807 (a1 0))) + a0.A)))))), (1, .int .u8 (a1 1)), (2, .int .u8 (val (edit_clamp (val (gI ((val (gK (-9223372036854775808) 9223372036854775807 (a1 2))) - a0.A))))))]) (cells := #[.int .u8 (val (edit_clamp (val (gI ((val (gK (-9223372036854775808) 9223372036854775807 (a1 0))) + a0.A))))), .int .u8 (a1 1), .int .u8 (val (edit_clamp (val (gI ((val (gK (-9223372036854775808) 9223372036854775807 (a1 2))) - a0.A)))))]) Tryd.zeroValue68 Tryd.runUnderlying68 Tryd.sizeOf5 rfl rfl) ?_
    refine d_store (i := 2) (vs := [.int .u8 (val (edit_clamp (val (gI ((val (gK (-9223372036854775808) 9223372036854775807 (a1 0))) + a0.A))))), .int .u8 (a1 1), .int .u8 (val (edit_clamp (val (gI ((val (gK (-9223372036854775808) 9223372036854775807 (a1 2))) - a0.A)))))]) (cs' := [.int .u8 (val (edit_clamp (val (gI ((val (gK (-9223372036854775808) 9223372036854775807 (a1 0))) + a0.A))))), .int .u8 (a1 1), .int .u8 (val (edit_clamp (val (gI ((val (gK (-9223372036854775808) 9223372036854775807 (a1 2))) - a0.A)))))]) Tryd.sizeOf68 rfl rfl rfl rfl rfl rfl rfl rfl rfl ?_
    refine d_nil ?_
    refine c_ret ?_
    obtain rfl := Option.some.inj H12
    refine retC (i := 2) (vs := [.int .u8 (val (edit_clamp (val (gI ((val (gK (-9223372036854775808) 9223372036854775807 (a1 0))) + a0.A))))), .int .u8 (a1 1), .int .u8 (val (edit_clamp (val (gI ((val (gK (-9223372036854775808) 9223372036854775807 (a1 2))) - a0.A)))))]) Tryd.isAgg68 Tryd.sizeOf68 rfl rfl rfl rfl (fin rfl)
    ) (by kernel_rfl)
theorem k55 {a0 : Int} {a1 : Int} {r : Int} (H : edit_floor a0 a1 = some r) : Ret Tryd.prog 55 [.int .i64 a0, .int .i64 a1] (.int .i64 r) := by
  refine enterRet (n := 16) Tryd.func55 rfl rfl rfl (fun wd => ?_)
  refine c_seq ?_
  refine c_region ?_
  refine l_val rfl rfl rfl (r_assign (v := .int .i64 0) rfl) ?_
  refine l_nil ?_
  refine c_seq ?_
  refine c_region ?_
  refine l_val rfl rfl rfl (r_move (v := .int .i64 a0) rfl) ?_
  refine l_val rfl rfl rfl (r_move (v := .int .i64 a1) rfl) ?_
  obtain ⟨t8, h_t8, H6⟩ := bnd_some H; clear H
  refine l_val rfl rfl rfl (r_quoG rfl rfl h_t8) ?_
  refine l_val rfl rfl rfl (r_assign (v := .int .i64 t8) rfl) ?_
  refine l_nil ?_
  refine c_seq ?_
  refine c_seq ?_
  refine c_region ?_
  refine l_val rfl rfl rfl (r_move (v := .int .i64 a0) rfl) ?_
  refine l_val rfl rfl rfl (r_move (v := .int .i64 a1) rfl) ?_
  obtain ⟨t11, h_t11, H7⟩ := bnd_some H6; clear H6
  refine l_val rfl rfl rfl (r_remG rfl rfl h_t11) ?_
  refine l_val rfl rfl rfl (r_lss rfl rfl) ?_
  refine l_nil ?_
  refine c_if (b := (decide (t11 < 0))) rfl (fun hb => ?_) (fun hb => ?_)
  · have H8 := cnd_t hb H7; clear H7
    refine c_region ?_
    refine l_val rfl rfl rfl (r_move (v := .int .i64 t8) rfl) ?_
    obtain ⟨t14, h_t14, H9⟩ := bnd_some H8; clear H8
    refine l_val rfl rfl rfl (r_subG rfl rfl h_t14) ?_
    refine l_val rfl rfl rfl (r_assign (v := .int .i64 t14) rfl) ?_
    refine l_nil ?_
    refine c_seq ?_
    refine c_region ?_
    refine l_val rfl rfl rfl (r_move (v := .int .i64 t14) rfl) ?_
    refine l_val rfl rfl rfl (r_assign (v := .int .i64 t14) rfl) ?_
    refine l_nil ?_
    refine c_ret ?_
    obtain rfl := Option.some.inj H9
    refine ret1 (v := .int .i64 t14) rfl rfl (fin rfl)
  · have H10 := cnd_f hb H7; clear H7
    refine c_skip ?_
    refine c_seq ?_
    refine c_region ?_
    refine l_val rfl rfl rfl (r_move (v := .int .i64 t8) rfl) ?_
    refine l_val rfl rfl rfl (r_assign (v := .int .i64 t8) rfl) ?_
    refine l_nil ?_
    refine c_ret ?_
    obtain rfl := Option.some.inj H10
    refine ret1 (v := .int .i64 t8) rfl rfl (fin rfl)
theorem k42 {a0 : T_edit_Step} {a1 : (Nat → Int)} {r : (Nat → Int)} (H : edit_Step_mute a0 a1 = some r) : Ret Tryd.prog 42 [.agg #[.int .i64 a0.Kind, .int .i64 a0.A, .int .i64 a0.B, .int .i64 a0.C, .int .i64 a0.D], .agg #[.int .u8 (a1 0), .int .u8 (a1 1), .int .u8 (a1 2)]] (.agg #[.int .u8 (r 0), .int .u8 (r 1), .int .u8 (r 2)]) := by
  refine enterRet (n := 44) Tryd.func42 rfl rfl rfl (fun wd => ?_)
  refine c_seq ?_
  refine c_region ?_
  refine l_box (cs := [.int .i64 a0.Kind, .int .i64 a0.A, .int .i64 a0.B, .int .i64 a0.C, .int .i64 a0.D]) rfl rfl rfl rfl (fun b3 => ?_)
  refine l_box (cs := [.int .u8 (a1 0), .int .u8 (a1 1), .int .u8 (a1 2)]) rfl rfl rfl rfl (fun b4 => ?_)
  refine l_alloc (cs := [.int .u8 0, .int .u8 0, .int .u8 0]) Tryd.zeroValue68 rfl rfl rfl (fun b5 => ?_)
  refine l_nil ?_
  refine c_seq ?_
  refine c_region ?_
  refine l_val rfl rfl rfl (r_indexPA Tryd.runUnderlying68 Tryd.sizeOf5 rfl rfl (by decide) (by decide)) ?_
  refine l_load1 (i := 1) (v := .int .u8 (a1 0)) Tryd.isAgg5 rfl rfl rfl rfl rfl ?_
  obtain ⟨t10, h_t10, H24⟩ := bnd_some H; clear H
  refine l_val rfl rfl rfl (r_convG Tryd.runUnderlying5 Tryd.runUnderlying3 rfl (gK_i64 h_t10)) ?_
  obtain ⟨t11, h_t11, H25⟩ := bnd_some H24; clear H24
  refine l_val rfl rfl rfl (r_mulG rfl rfl h_t11) ?_
  refine l_val rfl rfl rfl (r_indexPA Tryd.runUnderlying68 Tryd.sizeOf5 rfl rfl (by decide) (by decide)) ?_
  refine l_load1 (i := 1) (v := .int .u8 (a1 1)) Tryd.isAgg5 rfl rfl rfl rfl rfl ?_
  obtain ⟨t14, h_t14, H26⟩ := bnd_some H25; clear H25
  refine l_val rfl rfl rfl (r_convG Tryd.runUnderlying5 Tryd.runUnderlying3 rfl (gK_i64 h_t14)) ?_
  obtain ⟨t15, h_t15, H27⟩ := bnd_some H26; clear H26
  refine l_val rfl rfl rfl (r_mulG rfl rfl h_t15) ?_
  obtain ⟨t16, h_t16, H28⟩ := bnd_some H27; clear H27
  refine l_val rfl rfl rfl (r_addG rfl rfl h_t16) ?_
  refine l_val rfl rfl rfl (r_indexPA Tryd.runUnderlying68 Tryd.sizeOf5 rfl rfl (by decide) (by decide)) ?_
  refine l_load1 (i := 1) (v := .int .u8 (a1 2)) Tryd.isAgg5 rfl rfl rfl rfl rfl ?_
  obtain ⟨t19, h_t19, H29⟩ := bnd_some H28; clear H28
  refine l_val rfl rfl rfl (r_convG Tryd.runUnderlying5 Tryd.runUnderlying3 rfl (gK_i64 h_t19)) ?_
  obtain ⟨t20, h_t20, H30⟩ := bnd_some H29; clear H29
  refine l_val rfl rfl rfl (r_mulG rfl rfl h_t20) ?_
  obtain ⟨t21, h_t21, H31⟩ := bnd_some H30; clear H30
  refine l_val rfl rfl rfl (r_addG rfl rfl h_t21) ?_
  obtain ⟨t22, h_t22, H32⟩ := bnd_some H31; clear H31
  refine l_val rfl rfl rfl (r_quoG rfl rfl h_t22) ?_
  refine l_val rfl rfl rfl (r_assign (v := .int .i64 t22) rfl) ?_
  refine l_nil ?_
  refine c_meet (r := r) (σ := (Nat → Int)) (τ := Unit) (fun s => edit_Step_mute_j1 s) (fun s t => [(3, .pointer (some ⟨b4, 0, none⟩)), (4, .pointer (some ⟨b5, 0, none⟩))]) (fun s t => [cellsC b4 [.int .u8 (s 0), .int .u8 (s 1), .int .u8 (s 2)] 68, cellsC b5 [.int .u8 0, .int .u8 0, .int .u8 0] 68]) (fun s t => True) ?_ ?_
  · refine c_seq ?_
    refine c_region ?_
    refine l_loadN (i := 1) (vs := [.int .u8 (a1 0), .int .u8 (a1 1), .int .u8 (a1 2)]) Tryd.isAgg68 Tryd.sizeOf68 rfl rfl rfl rfl rfl ?_
    refine l_val rfl rfl rfl (r_move (v := .int .i64 0) rfl) ?_
    refine l_nil ?_
    refine c_block ?_
    refine c_fix (σ := Int × (Nat → Int)) (τ := Unit) (fun next2 s => edit_Step_mute_l2 a0 a1 t22 next2 s.1 s.2) (fun s t => [(2, .pointer (some ⟨b3, 0, none⟩)), (3, .pointer (some ⟨b4, 0, none⟩)), (4, .pointer (some ⟨b5, 0, none⟩)), (5, .int .i64 t22), (23, .agg #[.int .u8 (a1 0), .int .u8 (a1 1), .int .u8 (a1 2)]), (24, .int .i64 s.1)]) (fun s t => [cellsC b3 [.int .i64 a0.Kind, .int .i64 a0.A, .int .i64 a0.B, .int .i64 a0.C, .int .i64 a0.D] 29, cellsC b4 [.int .u8 (s.2 0), .int .u8 (s.2 1), .int .u8 (s.2 2)] 68, cellsC b5 [.int .u8 0, .int .u8 0, .int .u8 0] 68]) (fun s t => True) (0, a1) () [0, 1, 2] H32 (by exact trivial) (by exact ⟨rfl, rfl, rfl, rfl, rfl, rfl, trivial⟩) (by decide) rfl ?_
    rintro ⟨x24_2, m_3⟩ _ m2 gg H34 _
    clear H32
    replace H34 : edit_Step_mute_l2 a0 a1 t22 (it (fun next2 s => edit_Step_mute_l2 a0 a1 t22 next2 s.1 s.2) m2) x24_2 m_3 = some r := H34
    generalize hn2 : it (fun next2 s => edit_Step_mute_l2 a0 a1 t22 next2 s.1 s.2) m2 = next2 at H34
    refine c_tidyF [(2, .pointer (some ⟨b3, 0, none⟩)), (3, .pointer (some ⟨b4, 0, none⟩)), (4, .pointer (some ⟨b5, 0, none⟩)), (5, .int .i64 t22), (23, .agg #[.int .u8 (a1 0), .int .u8 (a1 1), .int .u8 (a1 2)]), (24, .int .i64 x24_2)] [cellsC b3 [.int .i64 a0.Kind, .int .i64 a0.A, .int .i64 a0.B, .int .i64 a0.C, .int .i64 a0.D] 29, cellsC b4 [.int .u8 (m_3 0), .int .u8 (m_3 1), .int .u8 (m_3 2)] 68, cellsC b5 [.int .u8 0, .int .u8 0, .int .u8 0] 68] rfl rfl ?_
    refine c_seq ?_
    refine c_region ?_
    refine l_val rfl rfl rfl (r_lss rfl rfl) ?_
    refine l_nil ?_
    refine c_seq ?_
    refine c_if (b := (decide (x24_2 < 3))) rfl (fun hb => ?_) (fun hb => ?_)
    · have H35 := cnd_t hb H34; clear H34
      refine c_skip ?_
      refine c_seq ?_
      refine c_block ?_
      refine c_seq ?_
      refine c_region ?_
      refine l_val rfl rfl rfl (r_move (v := .int .i64 x24_2) rfl) ?_
      obtain ⟨k27, h_k27, H36⟩ := bnd_some H35; clear H35
      refine l_val rfl rfl rfl (r_indexAG (f := fun j_ => .int .u8 (a1 j_)) Tryd.runUnderlying68 Tryd.isAgg5 Tryd.sizeOf5 rfl rfl rfl h_k27) ?_
      refine l_val rfl rfl rfl (r_assign (v := .int .i64 x24_2) rfl) ?_
      refine l_val rfl rfl rfl (r_assign (v := .int .u8 (a1 k27)) rfl) ?_
      refine l_nil ?_
      refine c_region ?_
      refine l_val rfl rfl rfl (r_move (v := .int .i64 x24_2) rfl) ?_
      refine l_val rfl rfl rfl (r_move (v := .int .u8 (a1 k27)) rfl) ?_
      obtain ⟨t30, h_t30, H37⟩ := bnd_some H36; clear H36
      refine l_val rfl rfl rfl (r_convG Tryd.runUnderlying5 Tryd.runUnderlying3 rfl (gK_i64 h_t30)) ?_
      refine l_val rfl rfl rfl (r_move (v := .int .i64 t22) rfl) ?_
      refine l_val rfl rfl rfl (r_move (v := .int .u8 (a1 k27)) rfl) ?_
      obtain ⟨t33, h_t33, H38⟩ := bnd_some H37; clear H37
      refine l_val rfl rfl rfl (r_convG Tryd.runUnderlying5 Tryd.runUnderlying3 rfl (gK_i64 h_t33)) ?_
      obtain ⟨t34, h_t34, H39⟩ := bnd_some H38; clear H38
      refine l_val rfl rfl rfl (r_subG rfl rfl h_t34) ?_
      refine l_val rfl rfl rfl (r_field Tryd.runUnderlying29 rfl Tryd.sizeOf3 rfl rfl) ?_
      refine l_load1 (i := 0) (v := .int .i64 a0.A) Tryd.isAgg3 rfl rfl rfl rfl rfl ?_
      obtain ⟨t37, h_t37, H40⟩ := bnd_some H39; clear H39
      refine l_val rfl rfl rfl (r_mulG rfl rfl h_t37) ?_
      obtain ⟨t38, h_t38, H41⟩ := bnd_some H40; clear H40
      refine l_call (k55 h_t38) Tryd.call55 rfl rfl rfl ?_
      obtain ⟨t39, h_t39, H42⟩ := bnd_some H41; clear H41
      refine l_val rfl rfl rfl (r_addG rfl rfl h_t39) ?_
      obtain ⟨t40, h_t40, H43⟩ := bnd_some H42; clear H42
      refine l_call (k54 h_t40) Tryd.call54 rfl rfl rfl ?_
      obtain ⟨k41, h_k41, H44⟩ := bnd_some H43; clear H43
      refine l_val rfl rfl rfl (r_indexPG Tryd.runUnderlying68 Tryd.sizeOf5 rfl rfl h_k41) ?_
      refine l_store (i := 1) (vs := [.int .u8 t40]) (cs' := [.int .u8 ((setA m_3 k41 t40) 0), .int .u8 ((setA m_3 k41 t40) 1), .int .u8 ((setA m_3 k41 t40) 2)]) Tryd.sizeOf5 rfl rfl rfl rfl rfl rfl rfl rfl (wr_arr (pre := []) (post := []) (f := fun (j_ : Int) => [.int .u8 j_]) (n := 3) (sz := 1) (a := m_3) (x := t40) rfl rfl (fun _ => rfl) (gIx_lt h_k41) rfl rfl) ?_
      refine l_nil ?_
      refine c_region ?_
      obtain ⟨t42, h_t42, H45⟩ := bnd_some H44; clear H44
      refine l_val rfl rfl rfl (r_addG rfl rfl h_t42) ?_
      refine l_val rfl rfl rfl (r_move (v := .int .i64 t42) rfl) ?_
      refine l_nil ?_
      refine c_close (t42, (setA m_3 k41 t40)) () m2 [0, 1, 2] (by exact ⟨rfl, rfl, rfl, rfl, rfl, rfl, trivial⟩) (by decide) rfl (by exact ⟨(by subst hn2; exact H45), trivial⟩) (Nat.lt_succ_self _)
    · have H46 := cnd_f hb H34; clear H34
      refine c_exit ?_
      refine c_close m_3 () 0 [1, 2] (by exact ⟨rfl, rfl, trivial⟩) (by decide) rfl (by exact ⟨H46, trivial⟩) (Nat.lt_succ_self _)
  · rintro m _ gg H33 _
    replace H33 : edit_Step_mute_j1 m = some r := H33
    refine c_tidyF [(3, .pointer (some ⟨b4, 0, none⟩)), (4, .pointer (some ⟨b5, 0, none⟩))] [cellsC b4 [.int .u8 (m 0), .int .u8 (m 1), .int .u8 (m 2)] 68, cellsC b5 [.int .u8 0, .int .u8 0, .int .u8 0] 68] rfl rfl ?_
    refine c_seq ?_
    refine c_region ?_
    refine l_loadN (i := 0) (vs := [.int .u8 (m 0), .int .u8 (m 1), .int .u8 (m 2)]) Tryd.isAgg68 Tryd.sizeOf68 rfl rfl rfl rfl rfl ?_
    refine l_store (i := 1) (vs := [.int .u8 (m 0), .int .u8 (m 1), .int .u8 (m 2)]) (cs' := [.int .u8 (m 0), .int .u8 (m 1), .int .u8 (m 2)]) Tryd.sizeOf68 rfl rfl rfl rfl rfl rfl rfl rfl rfl ?_
    refine l_nil ?_
    refine c_ret ?_
    obtain rfl := Option.some.inj H33
    refine retC (i := 1) (vs := [.int .u8 (m 0), .int .u8 (m 1), .int .u8 (m 2)]) Tryd.isAgg68 Tryd.sizeOf68 rfl rfl rfl rfl (fin rfl)
theorem k58 {a0 : T_edit_Step} {a1 : Int} {r : Int} (H : edit_Step_light a0 a1 = some r) : Ret Tryd.prog 58 [.agg #[.int .i64 a0.Kind, .int .i64 a0.A, .int .i64 a0.B, .int .i64 a0.C, .int .i64 a0.D], .int .u8 a1] (.int .u8 r) := by
  refine enterRet (n := 11) Tryd.func58 rfl rfl rfl (fun wd => ?_)
  refine c_seq ?_
  refine c_region ?_
  refine l_box (cs := [.int .i64 a0.Kind, .int .i64 a0.A, .int .i64 a0.B, .int .i64 a0.C, .int .i64 a0.D]) rfl rfl rfl rfl (fun b1 => ?_)
  refine l_val rfl rfl rfl (r_assign (v := .int .u8 0) rfl) ?_
  refine l_nil ?_
  refine c_seq ?_
  refine c_region ?_
  refine l_val rfl rfl rfl (r_move (v := .int .u8 a1) rfl) ?_
  obtain ⟨t6, h_t6, H4⟩ := bnd_some H; clear H
  refine l_val rfl rfl rfl (r_convG Tryd.runUnderlying5 Tryd.runUnderlying3 rfl (gK_i64 h_t6)) ?_
  refine l_val rfl rfl rfl (r_field Tryd.runUnderlying29 rfl Tryd.sizeOf3 rfl rfl) ?_
  refine l_load1 (i := 0) (v := .int .i64 a0.A) Tryd.isAgg3 rfl rfl rfl rfl rfl ?_
  obtain ⟨t9, h_t9, H5⟩ := bnd_some H4; clear H4
  refine l_val rfl rfl rfl (r_addG rfl rfl h_t9) ?_
  obtain ⟨t10, h_t10, H6⟩ := bnd_some H5; clear H5
  refine l_call (k54 h_t10) Tryd.call54 rfl rfl rfl ?_
  refine l_val rfl rfl rfl (r_assign (v := .int .u8 t10) rfl) ?_
  refine l_nil ?_
  refine c_ret ?_
  obtain rfl := Option.some.inj H6
  refine ret1 (v := .int .u8 t10) rfl rfl (fin rfl)
theorem k59 {a0 : T_edit_Step} {a1 : Int} {r : Int} (H : edit_Step_spread a0 a1 = some r) : Ret Tryd.prog 59 [.agg #[.int .i64 a0.Kind, .int .i64 a0.A, .int .i64 a0.B, .int .i64 a0.C, .int .i64 a0.D], .int .u8 a1] (.int .u8 r) := by
  refine enterRet (n := 14) Tryd.func59 rfl rfl rfl (fun wd => ?_)
  refine c_seq ?_
  refine c_region ?_
  refine l_box (cs := [.int .i64 a0.Kind, .int .i64 a0.A, .int .i64 a0.B, .int .i64 a0.C, .int .i64 a0.D]) rfl rfl rfl rfl (fun b1 => ?_)
  refine l_val rfl rfl rfl (r_assign (v := .int .u8 0) rfl) ?_
  refine l_nil ?_
  refine c_seq ?_
  refine c_region ?_
  refine l_val rfl rfl rfl (r_move (v := .int .u8 a1) rfl) ?_
  obtain ⟨t6, h_t6, H7⟩ := bnd_some H; clear H
  refine l_val rfl rfl rfl (r_convG Tryd.runUnderlying5 Tryd.runUnderlying3 rfl (gK_i64 h_t6)) ?_
  obtain ⟨t7, h_t7, H8⟩ := bnd_some H7; clear H7
  refine l_val rfl rfl rfl (r_subG rfl rfl h_t7) ?_
  refine l_val rfl rfl rfl (r_field Tryd.runUnderlying29 rfl Tryd.sizeOf3 rfl rfl) ?_
  refine l_load1 (i := 0) (v := .int .i64 a0.A) Tryd.isAgg3 rfl rfl rfl rfl rfl ?_
  obtain ⟨t10, h_t10, H9⟩ := bnd_some H8; clear H8
  refine l_val rfl rfl rfl (r_mulG rfl rfl h_t10) ?_
  obtain ⟨t11, h_t11, H10⟩ := bnd_some H9; clear H9
  refine l_call (k55 h_t11) Tryd.call55 rfl rfl rfl ?_
  obtain ⟨t12, h_t12, H11⟩ := bnd_some H10; clear H10
  refine l_val rfl rfl rfl (r_addG rfl rfl h_t12) ?_
  obtain ⟨t13, h_t13, H12⟩ := bnd_some H11; clear H11
  refine l_call (k54 h_t13) Tryd.call54 rfl rfl rfl ?_
  refine l_val rfl rfl rfl (r_assign (v := .int .u8 t13) rfl) ?_
  refine l_nil ?_
  refine c_ret ?_
  obtain rfl := Option.some.inj H12
  refine ret1 (v := .int .u8 t13) rfl rfl (fin rfl)
theorem k60 {a0 : T_edit_Step} {a1 : Int} {r : Int} (H : edit_Step_levels a0 a1 = some r) : Ret Tryd.prog 60 [.agg #[.int .i64 a0.Kind, .int .i64 a0.A, .int .i64 a0.B, .int .i64 a0.C, .int .i64 a0.D], .int .u8 a1] (.int .u8 r) := by
  refine enterRet (n := 18) Tryd.func60 rfl rfl rfl (fun wd => ?_)
  refine c_seq ?_
  refine c_region ?_
  refine l_box (cs := [.int .i64 a0.Kind, .int .i64 a0.A, .int .i64 a0.B, .int .i64 a0.C, .int .i64 a0.D]) rfl rfl rfl rfl (fun b1 => ?_)
  refine l_val rfl rfl rfl (r_assign (v := .int .u8 0) rfl) ?_
  refine l_nil ?_
  refine c_seq ?_
  refine c_region ?_
  refine l_val rfl rfl rfl (r_move (v := .int .u8 a1) rfl) ?_
  obtain ⟨t6, h_t6, H7⟩ := bnd_some H; clear H
  refine l_val rfl rfl rfl (r_convG Tryd.runUnderlying5 Tryd.runUnderlying3 rfl (gK_i64 h_t6)) ?_
  refine l_val rfl rfl rfl (r_field Tryd.runUnderlying29 rfl Tryd.sizeOf3 rfl rfl) ?_
  refine l_load1 (i := 0) (v := .int .i64 a0.A) Tryd.isAgg3 rfl rfl rfl rfl rfl ?_
  obtain ⟨t9, h_t9, H8⟩ := bnd_some H7; clear H7
  refine l_val rfl rfl rfl (r_subG rfl rfl h_t9) ?_
  obtain ⟨t10, h_t10, H9⟩ := bnd_some H8; clear H8
  refine l_val rfl rfl rfl (r_mulG rfl rfl h_t10) ?_
  refine l_val rfl rfl rfl (r_field Tryd.runUnderlying29 rfl Tryd.sizeOf3 rfl rfl) ?_
  refine l_load1 (i := 0) (v := .int .i64 a0.B) Tryd.isAgg3 rfl rfl rfl rfl rfl ?_
  refine l_val rfl rfl rfl (r_field Tryd.runUnderlying29 rfl Tryd.sizeOf3 rfl rfl) ?_
  refine l_load1 (i := 0) (v := .int .i64 a0.A) Tryd.isAgg3 rfl rfl rfl rfl rfl ?_
  obtain ⟨t15, h_t15, H10⟩ := bnd_some H9; clear H9
  refine l_val rfl rfl rfl (r_subG rfl rfl h_t15) ?_
  obtain ⟨t16, h_t16, H11⟩ := bnd_some H10; clear H10
  refine l_call (k55 h_t16) Tryd.call55 rfl rfl rfl ?_
  obtain ⟨t17, h_t17, H12⟩ := bnd_some H11; clear H11
  refine l_call (k54 h_t17) Tryd.call54 rfl rfl rfl ?_
  refine l_val rfl rfl rfl (r_assign (v := .int .u8 t17) rfl) ?_
  refine l_nil ?_
  refine c_ret ?_
  obtain rfl := Option.some.inj H12
  refine ret1 (v := .int .u8 t17) rfl rfl (fin rfl)
theorem k61 {a0 : T_edit_Step} {a1 : Int} {r : Int} (H : edit_Step_invert a0 a1 = some r) : Ret Tryd.prog 61 [.agg #[.int .i64 a0.Kind, .int .i64 a0.A, .int .i64 a0.B, .int .i64 a0.C, .int .i64 a0.D], .int .u8 a1] (.int .u8 r) := by
  refine enterRet (n := 7) Tryd.func61 rfl rfl rfl (fun wd => ?_)
  refine c_seq ?_
  refine c_region ?_
  refine l_box (cs := [.int .i64 a0.Kind, .int .i64 a0.A, .int .i64 a0.B, .int .i64 a0.C, .int .i64 a0.D]) rfl rfl rfl rfl (fun b1 => ?_)
  refine l_val rfl rfl rfl (r_assign (v := .int .u8 0) rfl) ?_
  refine l_nil ?_
  refine c_seq ?_
  refine c_region ?_
  refine l_val rfl rfl rfl (r_move (v := .int .u8 a1) rfl) ?_
  refine l_val rfl rfl rfl (r_subW rfl rfl (wr_u8 _)) ?_
  refine l_val rfl rfl rfl (r_assign (v := .int .u8 (wU8 (255 - a1))) rfl) ?_
  refine l_nil ?_
  refine c_ret ?_
  obtain rfl := Option.some.inj H
  refine ret1 (v := .int .u8 (wU8 (255 - a1))) rfl rfl (fin rfl)
theorem k56 {a0 : T_edit_Step} {r : (Option (Int → Option (Int)))} (H : edit_Step_byByte a0 = some r) : RetF Tryd.prog 56 [.agg #[.int .i64 a0.Kind, .int .i64 a0.A, .int .i64 a0.B, .int .i64 a0.C, .int .i64 a0.D]] (fun v => FnV Tryd.prog v r (fun g => fnR_func_uint8_uint8 g)) := by
  refine enterRetF (n := 21) Tryd.func56 rfl rfl rfl (fun wd => ?_)
  refine c_seq ?_
  refine c_region ?_
  refine l_box (cs := [.int .i64 a0.Kind, .int .i64 a0.A, .int .i64 a0.B, .int .i64 a0.C, .int .i64 a0.D]) rfl rfl rfl rfl (fun b1 => ?_)
  refine l_val rfl rfl rfl (r_assign (v := .nilFunc) rfl) ?_
  refine l_nil ?_
  refine c_seq ?_
  refine c_seq ?_
  refine c_region ?_
  refine l_val rfl rfl rfl (r_field Tryd.runUnderlying29 rfl Tryd.sizeOf3 rfl rfl) ?_
  refine l_load1 (i := 0) (v := .int .i64 a0.Kind) Tryd.isAgg3 rfl rfl rfl rfl rfl ?_
  refine l_nil ?_
  refine c_block ?_
  refine c_seq ?_
  refine c_region ?_
  refine l_val rfl rfl rfl (r_eql rfl rfl) ?_
  refine l_val rfl rfl rfl (r_assign (v := .bool (decide (a0.Kind = 4))) rfl) ?_
  refine l_nil ?_
  refine c_if (b := (decide (a0.Kind = 4))) rfl (fun hb => ?_) (fun hb => ?_)
  · have H9 := cnd_t hb H; clear H
    refine c_seq ?_
    refine c_region ?_
    refine l_loadN (i := 0) (vs := [.int .i64 a0.Kind, .int .i64 a0.A, .int .i64 a0.B, .int .i64 a0.C, .int .i64 a0.D]) Tryd.isAgg29 Tryd.sizeOf29 rfl rfl rfl rfl rfl ?_
    refine l_val rfl rfl rfl (r_makeFnP (pre := #[.agg #[.int .i64 a0.Kind, .int .i64 a0.A, .int .i64 a0.B, .int .i64 a0.C, .int .i64 a0.D]]) (caps := #[]) rfl rfl) ?_
    refine l_val rfl rfl rfl (r_assign (v := .func (.func 58) #[.agg #[.int .i64 a0.Kind, .int .i64 a0.A, .int .i64 a0.B, .int .i64 a0.C, .int .i64 a0.D]] #[]) rfl) ?_
    refine l_nil ?_
    refine c_ret ?_
    obtain rfl := Option.some.inj H9
    refine ret1 (v := .func (.func 58) #[.agg #[.int .i64 a0.Kind, .int .i64 a0.A, .int .i64 a0.B, .int .i64 a0.C, .int .i64 a0.D]] #[]) rfl rfl (finF (φ := fun v => FnV Tryd.prog v (some (edit_Step_light a0)) (fun g => fnR_func_uint8_uint8 g)) (FnV.mk (g := (edit_Step_light a0)) (R := fun g => fnR_func_uint8_uint8 g) (fun h_ => (FnH.mk ⟨58, #[.agg #[.int .i64 a0.Kind, .int .i64 a0.A, .int .i64 a0.B, .int .i64 a0.C, .int .i64 a0.D]], #[], rfl, Tryd.call58, fun args2 post2 w2 hk2 hR2 => by obtain ⟨a0_, r_, rfl, H_, rfl⟩ := hR2; exact k58 H_ w2⟩))))
  · have H10 := cnd_f hb H; clear H
    refine c_seq ?_
    refine c_region ?_
    refine l_val rfl rfl rfl (r_eql rfl rfl) ?_
    refine l_val rfl rfl rfl (r_assign (v := .bool (decide (a0.Kind = 5))) rfl) ?_
    refine l_nil ?_
    refine c_if (b := (decide (a0.Kind = 5))) rfl (fun hb => ?_) (fun hb => ?_)
    · have H11 := cnd_t hb H10; clear H10
      refine c_seq ?_
      refine c_region ?_
      refine l_loadN (i := 0) (vs := [.int .i64 a0.Kind, .int .i64 a0.A, .int .i64 a0.B, .int .i64 a0.C, .int .i64 a0.D]) Tryd.isAgg29 Tryd.sizeOf29 rfl rfl rfl rfl rfl ?_
      refine l_val rfl rfl rfl (r_makeFnP (pre := #[.agg #[.int .i64 a0.Kind, .int .i64 a0.A, .int .i64 a0.B, .int .i64 a0.C, .int .i64 a0.D]]) (caps := #[]) rfl rfl) ?_
      refine l_val rfl rfl rfl (r_assign (v := .func (.func 59) #[.agg #[.int .i64 a0.Kind, .int .i64 a0.A, .int .i64 a0.B, .int .i64 a0.C, .int .i64 a0.D]] #[]) rfl) ?_
      refine l_nil ?_
      refine c_ret ?_
      obtain rfl := Option.some.inj H11
      refine ret1 (v := .func (.func 59) #[.agg #[.int .i64 a0.Kind, .int .i64 a0.A, .int .i64 a0.B, .int .i64 a0.C, .int .i64 a0.D]] #[]) rfl rfl (finF (φ := fun v => FnV Tryd.prog v (some (edit_Step_spread a0)) (fun g => fnR_func_uint8_uint8 g)) (FnV.mk (g := (edit_Step_spread a0)) (R := fun g => fnR_func_uint8_uint8 g) (fun h_ => (FnH.mk ⟨59, #[.agg #[.int .i64 a0.Kind, .int .i64 a0.A, .int .i64 a0.B, .int .i64 a0.C, .int .i64 a0.D]], #[], rfl, Tryd.call59, fun args2 post2 w2 hk2 hR2 => by obtain ⟨a0_, r_, rfl, H_, rfl⟩ := hR2; exact k59 H_ w2⟩))))
    · have H12 := cnd_f hb H10; clear H10
      refine c_seq ?_
      refine c_region ?_
      refine l_val rfl rfl rfl (r_eql rfl rfl) ?_
      refine l_val rfl rfl rfl (r_assign (v := .bool (decide (a0.Kind = 6))) rfl) ?_
      refine l_nil ?_
      refine c_if (b := (decide (a0.Kind = 6))) rfl (fun hb => ?_) (fun hb => ?_)
      · have H13 := cnd_t hb H12; clear H12
        refine c_seq ?_
        refine c_region ?_
        refine l_loadN (i := 0) (vs := [.int .i64 a0.Kind, .int .i64 a0.A, .int .i64 a0.B, .int .i64 a0.C, .int .i64 a0.D]) Tryd.isAgg29 Tryd.sizeOf29 rfl rfl rfl rfl rfl ?_
        refine l_val rfl rfl rfl (r_makeFnP (pre := #[.agg #[.int .i64 a0.Kind, .int .i64 a0.A, .int .i64 a0.B, .int .i64 a0.C, .int .i64 a0.D]]) (caps := #[]) rfl rfl) ?_
        refine l_val rfl rfl rfl (r_assign (v := .func (.func 60) #[.agg #[.int .i64 a0.Kind, .int .i64 a0.A, .int .i64 a0.B, .int .i64 a0.C, .int .i64 a0.D]] #[]) rfl) ?_
        refine l_nil ?_
        refine c_ret ?_
        obtain rfl := Option.some.inj H13
        refine ret1 (v := .func (.func 60) #[.agg #[.int .i64 a0.Kind, .int .i64 a0.A, .int .i64 a0.B, .int .i64 a0.C, .int .i64 a0.D]] #[]) rfl rfl (finF (φ := fun v => FnV Tryd.prog v (some (edit_Step_levels a0)) (fun g => fnR_func_uint8_uint8 g)) (FnV.mk (g := (edit_Step_levels a0)) (R := fun g => fnR_func_uint8_uint8 g) (fun h_ => (FnH.mk ⟨60, #[.agg #[.int .i64 a0.Kind, .int .i64 a0.A, .int .i64 a0.B, .int .i64 a0.C, .int .i64 a0.D]], #[], rfl, Tryd.call60, fun args2 post2 w2 hk2 hR2 => by obtain ⟨a0_, r_, rfl, H_, rfl⟩ := hR2; exact k60 H_ w2⟩))))
      · have H14 := cnd_f hb H12; clear H12
        refine c_seq ?_
        refine c_region ?_
        refine l_val rfl rfl rfl (r_eql rfl rfl) ?_
        refine l_val rfl rfl rfl (r_assign (v := .bool (decide (a0.Kind = 9))) rfl) ?_
        refine l_nil ?_
        refine c_if (b := (decide (a0.Kind = 9))) rfl (fun hb => ?_) (fun hb => ?_)
        · have H15 := cnd_t hb H14; clear H14
          refine c_seq ?_
          refine c_region ?_
          refine l_loadN (i := 0) (vs := [.int .i64 a0.Kind, .int .i64 a0.A, .int .i64 a0.B, .int .i64 a0.C, .int .i64 a0.D]) Tryd.isAgg29 Tryd.sizeOf29 rfl rfl rfl rfl rfl ?_
          refine l_val rfl rfl rfl (r_makeFnP (pre := #[.agg #[.int .i64 a0.Kind, .int .i64 a0.A, .int .i64 a0.B, .int .i64 a0.C, .int .i64 a0.D]]) (caps := #[]) rfl rfl) ?_
          refine l_val rfl rfl rfl (r_assign (v := .func (.func 61) #[.agg #[.int .i64 a0.Kind, .int .i64 a0.A, .int .i64 a0.B, .int .i64 a0.C, .int .i64 a0.D]] #[]) rfl) ?_
          refine l_nil ?_
          refine c_ret ?_
          obtain rfl := Option.some.inj H15
          refine ret1 (v := .func (.func 61) #[.agg #[.int .i64 a0.Kind, .int .i64 a0.A, .int .i64 a0.B, .int .i64 a0.C, .int .i64 a0.D]] #[]) rfl rfl (finF (φ := fun v => FnV Tryd.prog v (some (edit_Step_invert a0)) (fun g => fnR_func_uint8_uint8 g)) (FnV.mk (g := (edit_Step_invert a0)) (R := fun g => fnR_func_uint8_uint8 g) (fun h_ => (FnH.mk ⟨61, #[.agg #[.int .i64 a0.Kind, .int .i64 a0.A, .int .i64 a0.B, .int .i64 a0.C, .int .i64 a0.D]], #[], rfl, Tryd.call61, fun args2 post2 w2 hk2 hR2 => by obtain ⟨a0_, r_, rfl, H_, rfl⟩ := hR2; exact k61 H_ w2⟩))))
        · have H16 := cnd_f hb H14; clear H14
          refine c_skip ?_
          refine c_seq ?_
          refine c_region ?_
          refine l_val rfl rfl rfl (r_assign (v := .nilFunc) rfl) ?_
          refine l_nil ?_
          refine c_ret ?_
          obtain rfl := Option.some.inj H16
          refine ret1 (v := .nilFunc) rfl rfl (finF (φ := fun v => FnV Tryd.prog v none (fun g => fnR_func_uint8_uint8 g)) FnV.nil)
theorem k43 {a0 : T_edit_Step} {a1 : (Nat → Int)} {r : (Nat → Int)} (H : edit_Step_eachByte a0 a1 = some r) : Ret Tryd.prog 43 [.agg #[.int .i64 a0.Kind, .int .i64 a0.A, .int .i64 a0.B, .int .i64 a0.C, .int .i64 a0.D], .agg #[.int .u8 (a1 0), .int .u8 (a1 1), .int .u8 (a1 2)]] (.agg #[.int .u8 (r 0), .int .u8 (r 1), .int .u8 (r 2)]) := by
  refine enterRet (n := 22) Tryd.func43 rfl rfl rfl (fun wd => ?_)
  refine c_seq ?_
  refine c_region ?_
  refine l_box (cs := [.int .i64 a0.Kind, .int .i64 a0.A, .int .i64 a0.B, .int .i64 a0.C, .int .i64 a0.D]) rfl rfl rfl rfl (fun b3 => ?_)
  refine l_box (cs := [.int .u8 (a1 0), .int .u8 (a1 1), .int .u8 (a1 2)]) rfl rfl rfl rfl (fun b4 => ?_)
  refine l_alloc (cs := [.int .u8 0, .int .u8 0, .int .u8 0]) Tryd.zeroValue68 rfl rfl rfl (fun b5 => ?_)
  refine l_nil ?_
  refine c_seq ?_
  refine c_region ?_
  refine l_loadN (i := 0) (vs := [.int .i64 a0.Kind, .int .i64 a0.A, .int .i64 a0.B, .int .i64 a0.C, .int .i64 a0.D]) Tryd.isAgg29 Tryd.sizeOf29 rfl rfl rfl rfl rfl ?_
  obtain ⟨t9, h_t9, H11⟩ := bnd_some H; clear H
  refine l_callF (k56 h_t9) Tryd.call56 rfl rfl rfl (fun fv hf => ?_)
  refine l_val rfl rfl rfl (r_assign (v := fv) rfl) ?_
  refine l_nil ?_
  refine c_meet (r := r) (σ := (Nat → Int)) (τ := Unit) (fun s => edit_Step_eachByte_j1 s) (fun s t => [(3, .pointer (some ⟨b4, 0, none⟩)), (4, .pointer (some ⟨b5, 0, none⟩))]) (fun s t => [cellsC b4 [.int .u8 (s 0), .int .u8 (s 1), .int .u8 (s 2)] 68, cellsC b5 [.int .u8 0, .int .u8 0, .int .u8 0] 68]) (fun s t => True) ?_ ?_
  · refine c_seq ?_
    refine c_region ?_
    refine l_loadN (i := 1) (vs := [.int .u8 (a1 0), .int .u8 (a1 1), .int .u8 (a1 2)]) Tryd.isAgg68 Tryd.sizeOf68 rfl rfl rfl rfl rfl ?_
    refine l_val rfl rfl rfl (r_move (v := .int .i64 0) rfl) ?_
    refine l_nil ?_
    refine c_block ?_
    refine c_sel [1, 2] [cellsC b4 [.int .u8 (a1 0), .int .u8 (a1 1), .int .u8 (a1 2)] 68, cellsC b5 [.int .u8 0, .int .u8 0, .int .u8 0] 68] rfl (by decide) ?_
    refine c_fix (σ := Int × (Nat → Int)) (τ := Unit) (fun next2 s => edit_Step_eachByte_l2 a1 t9 next2 s.1 s.2) (fun s t => [(3, .pointer (some ⟨b4, 0, none⟩)), (4, .pointer (some ⟨b5, 0, none⟩)), (5, fv), (10, .agg #[.int .u8 (a1 0), .int .u8 (a1 1), .int .u8 (a1 2)]), (11, .int .i64 s.1)]) (fun s t => [cellsC b4 [.int .u8 (s.2 0), .int .u8 (s.2 1), .int .u8 (s.2 2)] 68, cellsC b5 [.int .u8 0, .int .u8 0, .int .u8 0] 68]) (fun s t => True) (0, a1) () [0, 1] H11 (by exact trivial) (by exact ⟨rfl, rfl, rfl, rfl, rfl, trivial⟩) (by decide) rfl ?_
    rintro ⟨x11_2, m_3⟩ _ m2 gg H13 _
    clear H11
    replace H13 : edit_Step_eachByte_l2 a1 t9 (it (fun next2 s => edit_Step_eachByte_l2 a1 t9 next2 s.1 s.2) m2) x11_2 m_3 = some r := H13
    generalize hn2 : it (fun next2 s => edit_Step_eachByte_l2 a1 t9 next2 s.1 s.2) m2 = next2 at H13
    refine c_tidyF [(3, .pointer (some ⟨b4, 0, none⟩)), (4, .pointer (some ⟨b5, 0, none⟩)), (5, fv), (10, .agg #[.int .u8 (a1 0), .int .u8 (a1 1), .int .u8 (a1 2)]), (11, .int .i64 x11_2)] [cellsC b4 [.int .u8 (m_3 0), .int .u8 (m_3 1), .int .u8 (m_3 2)] 68, cellsC b5 [.int .u8 0, .int .u8 0, .int .u8 0] 68] rfl rfl ?_
    refine c_seq ?_
    refine c_region ?_
    refine l_val rfl rfl rfl (r_lss rfl rfl) ?_
    refine l_nil ?_
    refine c_seq ?_
    refine c_if (b := (decide (x11_2 < 3))) rfl (fun hb => ?_) (fun hb => ?_)
    · have H14 := cnd_t hb H13; clear H13
      refine c_skip ?_
      refine c_seq ?_
      refine c_block ?_
      refine c_seq ?_
      refine c_region ?_
      refine l_val rfl rfl rfl (r_move (v := .int .i64 x11_2) rfl) ?_
      obtain ⟨k14, h_k14, H15⟩ := bnd_some H14; clear H14
      refine l_val rfl rfl rfl (r_indexAG (f := fun j_ => .int .u8 (a1 j_)) Tryd.runUnderlying68 Tryd.isAgg5 Tryd.sizeOf5 rfl rfl rfl h_k14) ?_
      refine l_val rfl rfl rfl (r_assign (v := .int .i64 x11_2) rfl) ?_
      refine l_val rfl rfl rfl (r_assign (v := .int .u8 (a1 k14)) rfl) ?_
      refine l_nil ?_
      refine c_region ?_
      refine l_val rfl rfl rfl (r_move (v := .int .i64 x11_2) rfl) ?_
      refine l_val rfl rfl rfl (r_move (v := fv) rfl) ?_
      refine l_val rfl rfl rfl (r_move (v := .int .u8 (a1 k14)) rfl) ?_
      obtain ⟨g18, h_g18, H16⟩ := bnd_some H15; clear H15
      obtain ⟨t18, h_t18, H17⟩ := bnd_some H16; clear H16
      refine l_callV (R := fnR_func_uint8_uint8 g18) (r := .int .u8 t18) (v := fv) (fun w hF hS => ⟨(hf.fn (gFn_some h_g18) _), ⟨(a1 k14), _, rfl, h_t18, rfl⟩⟩) rfl rfl rfl rfl ?_
      obtain ⟨k19, h_k19, H18⟩ := bnd_some H17; clear H17
      refine l_val rfl rfl rfl (r_indexPG Tryd.runUnderlying68 Tryd.sizeOf5 rfl rfl h_k19) ?_
      refine l_store (i := 0) (vs := [.int .u8 t18]) (cs' := [.int .u8 ((setA m_3 k19 t18) 0), .int .u8 ((setA m_3 k19 t18) 1), .int .u8 ((setA m_3 k19 t18) 2)]) Tryd.sizeOf5 rfl rfl rfl rfl rfl rfl rfl rfl (wr_arr (pre := []) (post := []) (f := fun (j_ : Int) => [.int .u8 j_]) (n := 3) (sz := 1) (a := m_3) (x := t18) rfl rfl (fun _ => rfl) (gIx_lt h_k19) rfl rfl) ?_
      refine l_nil ?_
      refine c_region ?_
      obtain ⟨t20, h_t20, H19⟩ := bnd_some H18; clear H18
      refine l_val rfl rfl rfl (r_addG rfl rfl h_t20) ?_
      refine l_val rfl rfl rfl (r_move (v := .int .i64 t20) rfl) ?_
      refine l_nil ?_
      refine c_close (t20, (setA m_3 k19 t18)) () m2 [0, 1] (by exact ⟨rfl, rfl, rfl, rfl, rfl, trivial⟩) (by decide) rfl (by exact ⟨(by subst hn2; exact H19), trivial⟩) (Nat.lt_succ_self _)
    · have H20 := cnd_f hb H13; clear H13
      refine c_exit ?_
      refine c_close m_3 () 0 [0, 1] (by exact ⟨rfl, rfl, trivial⟩) (by decide) rfl (by exact ⟨H20, trivial⟩) (Nat.lt_succ_self _)
  · rintro m _ gg H12 _
    replace H12 : edit_Step_eachByte_j1 m = some r := H12
    refine c_tidyF [(3, .pointer (some ⟨b4, 0, none⟩)), (4, .pointer (some ⟨b5, 0, none⟩))] [cellsC b4 [.int .u8 (m 0), .int .u8 (m 1), .int .u8 (m 2)] 68, cellsC b5 [.int .u8 0, .int .u8 0, .int .u8 0] 68] rfl rfl ?_
    refine c_seq ?_
    refine c_region ?_
    refine l_loadN (i := 0) (vs := [.int .u8 (m 0), .int .u8 (m 1), .int .u8 (m 2)]) Tryd.isAgg68 Tryd.sizeOf68 rfl rfl rfl rfl rfl ?_
    refine l_store (i := 1) (vs := [.int .u8 (m 0), .int .u8 (m 1), .int .u8 (m 2)]) (cs' := [.int .u8 (m 0), .int .u8 (m 1), .int .u8 (m 2)]) Tryd.sizeOf68 rfl rfl rfl rfl rfl rfl rfl rfl rfl ?_
    refine l_nil ?_
    refine c_ret ?_
    obtain rfl := Option.some.inj H12
    refine retC (i := 1) (vs := [.int .u8 (m 0), .int .u8 (m 1), .int .u8 (m 2)]) Tryd.isAgg68 Tryd.sizeOf68 rfl rfl rfl rfl (fin rfl)
theorem k31 {a0 : T_edit_Step} {r : (Option ((Nat → Int) → Option ((Nat → Int))))} (H : edit_Step_byPixel a0 = some r) : RetF Tryd.prog 31 [.agg #[.int .i64 a0.Kind, .int .i64 a0.A, .int .i64 a0.B, .int .i64 a0.C, .int .i64 a0.D]] (fun v => FnV Tryd.prog v r (fun g => fnR_func_3_uint8_3_uint8 g)) := by
  refine enterRetF (n := 15) Tryd.func31 rfl rfl rfl (fun wd => ?_)
  refine c_seq ?_
  refine c_region ?_
  refine l_box (cs := [.int .i64 a0.Kind, .int .i64 a0.A, .int .i64 a0.B, .int .i64 a0.C, .int .i64 a0.D]) rfl rfl rfl rfl (fun b1 => ?_)
  refine l_val rfl rfl rfl (r_assign (v := .nilFunc) rfl) ?_
  refine l_nil ?_
  refine c_seq ?_
  refine c_seq ?_
  refine c_region ?_
  refine l_val rfl rfl rfl (r_field Tryd.runUnderlying29 rfl Tryd.sizeOf3 rfl rfl) ?_
  refine l_load1 (i := 0) (v := .int .i64 a0.Kind) Tryd.isAgg3 rfl rfl rfl rfl rfl ?_
  refine l_nil ?_
  refine c_block ?_
  refine c_seq ?_
  refine c_region ?_
  refine l_val rfl rfl rfl (r_eql rfl rfl) ?_
  refine l_val rfl rfl rfl (r_assign (v := .bool (decide (a0.Kind = 7))) rfl) ?_
  refine l_nil ?_
  refine c_if (b := (decide (a0.Kind = 7))) rfl (fun hb => ?_) (fun hb => ?_)
  · have H5 := cnd_t hb H; clear H
    refine c_seq ?_
    refine c_region ?_
    refine l_loadN (i := 0) (vs := [.int .i64 a0.Kind, .int .i64 a0.A, .int .i64 a0.B, .int .i64 a0.C, .int .i64 a0.D]) Tryd.isAgg29 Tryd.sizeOf29 rfl rfl rfl rfl rfl ?_
    refine l_val rfl rfl rfl (r_makeFnP (pre := #[.agg #[.int .i64 a0.Kind, .int .i64 a0.A, .int .i64 a0.B, .int .i64 a0.C, .int .i64 a0.D]]) (caps := #[]) rfl rfl) ?_
    refine l_val rfl rfl rfl (r_assign (v := .func (.func 41) #[.agg #[.int .i64 a0.Kind, .int .i64 a0.A, .int .i64 a0.B, .int .i64 a0.C, .int .i64 a0.D]] #[]) rfl) ?_
    refine l_nil ?_
    refine c_ret ?_
    obtain rfl := Option.some.inj H5
    refine ret1 (v := .func (.func 41) #[.agg #[.int .i64 a0.Kind, .int .i64 a0.A, .int .i64 a0.B, .int .i64 a0.C, .int .i64 a0.D]] #[]) rfl rfl (finF (φ := fun v => FnV Tryd.prog v (some (edit_Step_warm a0)) (fun g => fnR_func_3_uint8_3_uint8 g)) (FnV.mk (g := (edit_Step_warm a0)) (R := fun g => fnR_func_3_uint8_3_uint8 g) (fun h_ => (FnH.mk ⟨41, #[.agg #[.int .i64 a0.Kind, .int .i64 a0.A, .int .i64 a0.B, .int .i64 a0.C, .int .i64 a0.D]], #[], rfl, Tryd.call41, fun args2 post2 w2 hk2 hR2 => by obtain ⟨a0_, r_, rfl, H_, rfl⟩ := hR2; exact k41 H_ w2⟩))))
  · have H6 := cnd_f hb H; clear H
    refine c_seq ?_
    refine c_region ?_
    refine l_val rfl rfl rfl (r_eql rfl rfl) ?_
    refine l_val rfl rfl rfl (r_assign (v := .bool (decide (a0.Kind = 8))) rfl) ?_
    refine l_nil ?_
    refine c_if (b := (decide (a0.Kind = 8))) rfl (fun hb => ?_) (fun hb => ?_)
    · have H7 := cnd_t hb H6; clear H6
      refine c_seq ?_
      refine c_region ?_
      refine l_loadN (i := 0) (vs := [.int .i64 a0.Kind, .int .i64 a0.A, .int .i64 a0.B, .int .i64 a0.C, .int .i64 a0.D]) Tryd.isAgg29 Tryd.sizeOf29 rfl rfl rfl rfl rfl ?_
      refine l_val rfl rfl rfl (r_makeFnP (pre := #[.agg #[.int .i64 a0.Kind, .int .i64 a0.A, .int .i64 a0.B, .int .i64 a0.C, .int .i64 a0.D]]) (caps := #[]) rfl rfl) ?_
      refine l_val rfl rfl rfl (r_assign (v := .func (.func 42) #[.agg #[.int .i64 a0.Kind, .int .i64 a0.A, .int .i64 a0.B, .int .i64 a0.C, .int .i64 a0.D]] #[]) rfl) ?_
      refine l_nil ?_
      refine c_ret ?_
      obtain rfl := Option.some.inj H7
      refine ret1 (v := .func (.func 42) #[.agg #[.int .i64 a0.Kind, .int .i64 a0.A, .int .i64 a0.B, .int .i64 a0.C, .int .i64 a0.D]] #[]) rfl rfl (finF (φ := fun v => FnV Tryd.prog v (some (edit_Step_mute a0)) (fun g => fnR_func_3_uint8_3_uint8 g)) (FnV.mk (g := (edit_Step_mute a0)) (R := fun g => fnR_func_3_uint8_3_uint8 g) (fun h_ => (FnH.mk ⟨42, #[.agg #[.int .i64 a0.Kind, .int .i64 a0.A, .int .i64 a0.B, .int .i64 a0.C, .int .i64 a0.D]], #[], rfl, Tryd.call42, fun args2 post2 w2 hk2 hR2 => by obtain ⟨a0_, r_, rfl, H_, rfl⟩ := hR2; exact k42 H_ w2⟩))))
    · have H8 := cnd_f hb H6; clear H6
      refine c_skip ?_
      refine c_seq ?_
      refine c_region ?_
      refine l_loadN (i := 0) (vs := [.int .i64 a0.Kind, .int .i64 a0.A, .int .i64 a0.B, .int .i64 a0.C, .int .i64 a0.D]) Tryd.isAgg29 Tryd.sizeOf29 rfl rfl rfl rfl rfl ?_
      refine l_val rfl rfl rfl (r_makeFnP (pre := #[.agg #[.int .i64 a0.Kind, .int .i64 a0.A, .int .i64 a0.B, .int .i64 a0.C, .int .i64 a0.D]]) (caps := #[]) rfl rfl) ?_
      refine l_val rfl rfl rfl (r_assign (v := .func (.func 43) #[.agg #[.int .i64 a0.Kind, .int .i64 a0.A, .int .i64 a0.B, .int .i64 a0.C, .int .i64 a0.D]] #[]) rfl) ?_
      refine l_nil ?_
      refine c_ret ?_
      obtain rfl := Option.some.inj H8
      refine ret1 (v := .func (.func 43) #[.agg #[.int .i64 a0.Kind, .int .i64 a0.A, .int .i64 a0.B, .int .i64 a0.C, .int .i64 a0.D]] #[]) rfl rfl (finF (φ := fun v => FnV Tryd.prog v (some (edit_Step_eachByte a0)) (fun g => fnR_func_3_uint8_3_uint8 g)) (FnV.mk (g := (edit_Step_eachByte a0)) (R := fun g => fnR_func_3_uint8_3_uint8 g) (fun h_ => (FnH.mk ⟨43, #[.agg #[.int .i64 a0.Kind, .int .i64 a0.A, .int .i64 a0.B, .int .i64 a0.C, .int .i64 a0.D]], #[], rfl, Tryd.call43, fun args2 post2 w2 hk2 hR2 => by obtain ⟨a0_, r_, rfl, H_, rfl⟩ := hR2; exact k43 H_ w2⟩))))
theorem k16 {a0 : T_edit_Step} {a1 : T_api_Image} {p1_2 : Option Addr × Nat} {n1_2 : Nat} {r : (List Int)} {w : World} {h : Heap} {S : Nat → Prop} (hcs : (rowV 5 1 (.slice p1_2.1 n1_2 p1_2.2) n1_2 (a1.Pixels.map e_u8)).P S w) (hlt : ∀ b, S b → b < w.heap.size) (hw : Know h w S) (hn1_2 : n1_2 = a1.Pixels.length) (H : edit_Step_tone a0 a1 = some r) : Does Tryd.prog 16 (List.toArray [.agg #[.int .i64 a0.Kind, .int .i64 a0.A, .int .i64 a0.B, .int .i64 a0.C, .int .i64 a0.D], .agg #[.int .i64 a1.W, .int .i64 a1.H, .slice p1_2.1 n1_2 p1_2.2]]) w (fun v w' => ∃ x : Unit, v = (.tuple #[]) ∧ Turn w w' S (rowV 5 1 (.slice p1_2.1 n1_2 p1_2.2) n1_2 (r.map e_u8))) := by
  refine enter (n := 32) Tryd.func16 rfl rfl rfl S [rowV 5 1 (.slice p1_2.1 n1_2 p1_2.2) n1_2 (a1.Pixels.map e_u8)] (Sat.one hcs hlt) ?_
  refine c_seq ?_
  refine c_region ?_
  refine l_box (cs := [.int .i64 a0.Kind, .int .i64 a0.A, .int .i64 a0.B, .int .i64 a0.C, .int .i64 a0.D]) rfl rfl rfl rfl (fun b3 => ?_)
  refine l_box (cs := [.int .i64 a1.W, .int .i64 a1.H, .slice p1_2.1 n1_2 p1_2.2]) rfl rfl rfl rfl (fun b4 => ?_)
  refine l_nil ?_
  refine c_seq ?_
  refine c_region ?_
  refine l_loadN (i := 1) (vs := [.int .i64 a0.Kind, .int .i64 a0.A, .int .i64 a0.B, .int .i64 a0.C, .int .i64 a0.D]) Tryd.isAgg29 Tryd.sizeOf29 rfl rfl rfl rfl rfl ?_
  obtain ⟨t8, h_t8, H12⟩ := bnd_some H; clear H
  refine l_callF (k31 h_t8) Tryd.call31 rfl rfl rfl (fun fv hf => ?_)
  refine l_val rfl rfl rfl (r_assign (v := fv) rfl) ?_
  refine l_nil ?_
  refine c_seq ?_
  refine c_region ?_
  refine l_val rfl rfl rfl (r_assign (v := .int .i64 0) rfl) ?_
  refine l_nil ?_
  refine c_block ?_
  refine c_sel [0, 2] [rowV 5 1 (.slice p1_2.1 n1_2 p1_2.2) n1_2 (a1.Pixels.map e_u8), cellsC b4 [.int .i64 a1.W, .int .i64 a1.H, .slice p1_2.1 n1_2 p1_2.2] 24] rfl (by decide) ?_
  refine c_fix (σ := Int × (List Int)) (τ := Unit) (fun next1 s => edit_Step_tone_l1 t8 next1 s.1 s.2) (fun s t => [(3, .pointer (some ⟨b4, 0, none⟩)), (4, fv), (5, .int .i64 s.1)]) (fun s t => [rowV 5 1 (.slice p1_2.1 n1_2 p1_2.2) n1_2 (s.2.map e_u8), cellsC b4 [.int .i64 a1.W, .int .i64 a1.H, .slice p1_2.1 n1_2 p1_2.2] 24]) (fun s t => n1_2 = s.2.length) (0, a1.Pixels) () [0, 1] H12 (by exact hn1_2) (by exact ⟨rfl, rfl, rfl, trivial⟩) (by decide) rfl ?_
  rintro ⟨x5_2, l_2⟩ _ m1 gg H13 hl_2
  clear H12
  replace H13 : edit_Step_tone_l1 t8 (it (fun next1 s => edit_Step_tone_l1 t8 next1 s.1 s.2) m1) x5_2 l_2 = some r := H13
  generalize hn1 : it (fun next1 s => edit_Step_tone_l1 t8 next1 s.1 s.2) m1 = next1 at H13
  refine c_tidyF [(3, .pointer (some ⟨b4, 0, none⟩)), (4, fv), (5, .int .i64 x5_2)] [rowV 5 1 (.slice p1_2.1 n1_2 p1_2.2) n1_2 (l_2.map e_u8), cellsC b4 [.int .i64 a1.W, .int .i64 a1.H, .slice p1_2.1 n1_2 p1_2.2] 24] rfl rfl ?_
  refine c_seq ?_
  refine c_seq ?_
  refine c_region ?_
  refine l_val rfl rfl rfl (r_move (v := .int .i64 x5_2) rfl) ?_
  refine l_val rfl rfl rfl (r_field Tryd.runUnderlying24 rfl Tryd.sizeOf22 rfl rfl) ?_
  refine l_load1 (i := 1) (v := .slice p1_2.1 n1_2 p1_2.2) Tryd.isAgg22 rfl rfl rfl rfl rfl ?_
  refine l_val rfl rfl rfl (r_lenN Tryd.underlying22 rfl hl_2) ?_
  refine l_val rfl rfl rfl (r_lss rfl rfl) ?_
  refine l_nil ?_
  refine c_if (b := (decide (x5_2 < (l_2.length : Int)))) rfl (fun hb => ?_) (fun hb => ?_)
  · have H14 := cnd_t hb H13; clear H13
    refine c_skip ?_
    refine c_seq ?_
    refine c_block ?_
    refine c_seq ?_
    refine c_region ?_
    refine l_val rfl rfl rfl (r_move (v := fv) rfl) ?_
    refine l_val rfl rfl rfl (r_field Tryd.runUnderlying24 rfl Tryd.sizeOf22 rfl rfl) ?_
    refine l_load1 (i := 1) (v := .slice p1_2.1 n1_2 p1_2.2) Tryd.isAgg22 rfl rfl rfl rfl rfl ?_
    refine l_val rfl rfl rfl (r_move (v := .int .i64 x5_2) rfl) ?_
    refine l_val rfl rfl rfl (r_move (v := .int .i64 x5_2) rfl) ?_
    obtain ⟨t21, h_t21, H15⟩ := bnd_some H14; clear H14
    refine l_val rfl rfl rfl (r_addG rfl rfl h_t21) ?_
    obtain ⟨t22, h_t22, H16⟩ := bnd_some H15; clear H15
    refine l_read (v := .slice (cutA p1_2.1 (Int.toNat x5_2) p1_2.2 1) t22.length (p1_2.2 - Int.toNat x5_2)) (fun w hF hS => run_sliceLHO (xs := l_2) Tryd.underlying22 Tryd.sizeOf5 rfl rfl rfl hl_2 (capOf (i := 0) hS rfl) h_t22) rfl rfl rfl ?_
    obtain ⟨u23, h_u23, H17⟩ := bnd_some H16; clear H16
    refine l_val rfl rfl rfl (r_sap Tryd.runUnderlying68 rfl (gIf_some h_u23)) ?_
    refine l_read (fun w hF hS => run_loadSA (n := 3) (f := e_u8) (xs := t22) (vs := [.int .u8 ((ofL t22) 0), .int .u8 ((ofL t22) 1), .int .u8 ((ofL t22) 2)]) Tryd.isAgg68 Tryd.sizeOf68 rfl (Row.cutG (rowOf (i := 0) hS rfl) hl_2 (capOf (i := 0) hS rfl) h_t22) (gIf_some h_u23) rfl rfl (fun _ => rfl) rfl) rfl rfl rfl ?_
    obtain ⟨g25, h_g25, H18⟩ := bnd_some H17; clear H17
    obtain ⟨t25, h_t25, H19⟩ := bnd_some H18; clear H18
    refine l_callV (R := fnR_func_3_uint8_3_uint8 g25) (r := .agg #[.int .u8 (t25 0), .int .u8 (t25 1), .int .u8 (t25 2)]) (v := fv) (fun w hF hS => ⟨(hf.fn (gFn_some h_g25) _), ⟨(ofL t22), _, rfl, h_t25, rfl⟩⟩) rfl rfl rfl rfl ?_
    refine l_alloc (cs := [.int .u8 0, .int .u8 0, .int .u8 0]) Tryd.zeroValue68 rfl rfl rfl (fun b5 => ?_)
    refine l_store (i := 2) (vs := [.int .u8 (t25 0), .int .u8 (t25 1), .int .u8 (t25 2)]) (cs' := [.int .u8 (t25 0), .int .u8 (t25 1), .int .u8 (t25 2)]) Tryd.sizeOf68 rfl rfl rfl rfl rfl rfl rfl rfl rfl ?_
    refine l_nil ?_
    exact c_regionD (Kd.p :: Kd.d [1] _ :: Kd.p :: Kd.d [0] _ :: Kd.p :: Kd.t 0 [2] _ _ :: []) 0 mixed (by
      refine d_val rfl rfl (r_field Tryd.runUnderlying24 rfl Tryd.sizeOf22 rfl rfl) ?_
      refine d_load1 (i := 1) (v := .slice p1_2.1 n1_2 p1_2.2) Tryd.isAgg22 rfl rfl rfl rfl ?_
      refine d_val rfl rfl (r_move (v := .int .i64 x5_2) rfl) ?_
      have h_t29 := bnd_val H19
      have H20 := bnd_rest H19
      refine d_readD (v := .slice (cutA p1_2.1 (Int.toNat x5_2) p1_2.2 1) (val (gCut l_2 x5_2 l_2.length)).length (p1_2.2 - Int.toNat x5_2)) (fun w L' hF hS hi => run_sliceLO (xs := l_2) Tryd.underlying22 Tryd.sizeOf5 rfl rfl hl_2 (capOf (i := 0) hS ((hi 0 (by simp)).trans rfl)) h_t29) rfl rfl ?_
      refine d_val rfl rfl (r_sliceArrAll Tryd.underlying68 Tryd.sizeOf5 rfl) ?_
      refine d_turn (Cv := fun _ => rowV 5 1 (.slice p1_2.1 n1_2 p1_2.2) n1_2 ((cpyL l_2 x5_2 (val (gCut l_2 x5_2 l_2.length)).length ((List.range 3).map t25)).map e_u8)) () (turns_copyG (i := 0) (rds := _) (p := p1_2) (f := e_u8) (xs := l_2) (ts := (val (gCut l_2 x5_2 l_2.length))) (ys := ((List.range 3).map t25)) hl_2 Tryd.underlying22 (by rw [info_of Tryd.typeInfo5]; rfl) rfl rfl h_t29 rfl (by simp) (fun w L' hF hS hi => row_arr (f := e_u8) (i := 2) hS ((hi 2 (by simp)).trans rfl) rfl (fun _ => rfl) (gCutA_ok (n := 3) (f := t25) (q := 3) (by decide))) (fun _ => rfl) (fun _ => rfl)) (fun _ => rfl) rfl rfl (fun _ => ?_)
      refine d_nil ?_
      refine c_region ?_
      refine l_val rfl rfl rfl (r_move (v := .int .i64 x5_2) rfl) ?_
      obtain ⟨t15, h_t15, H21⟩ := bnd_some H20; clear H20
      refine l_val rfl rfl rfl (r_addG rfl rfl h_t15) ?_
      refine l_val rfl rfl rfl (r_assign (v := .int .i64 t15) rfl) ?_
      refine l_nil ?_
      refine c_close (t15, (cpyL l_2 x5_2 (val (gCut l_2 x5_2 l_2.length)).length ((List.range 3).map t25))) () m1 [0, 1] (by exact ⟨rfl, rfl, rfl, trivial⟩) (by decide) rfl (by exact ⟨(by subst hn1; exact H21), (cpyL_n hl_2 h_t29)⟩) (Nat.lt_succ_self _)
      ) (by kernel_rfl)
  · have H22 := cnd_f hb H13; clear H13
    refine c_exit ?_
    obtain rfl := Option.some.inj H22
    refine ret0n rfl (finX () (i := 0) rfl rfl (Imp.refl _))
end Go.Proofs.YtfplifpbobfemaaDoor
