/- EditTidiesSame, Render: the walks, printed by our generator; each follows its model. Conditions: the model yields a value. -/
import Derived.Test.YtilhbkglchppjaaDoorKSc
namespace Go.Proofs.YtilhbkglchppjaaDoor
open Go Go.Vc Go.Md Go.M Go.Lx
set_option maxRecDepth 100000
set_option maxHeartbeats 4000000
set_option linter.unusedVariables false

theorem k109 {a0 : Int} {r : (List UInt8) × Int} (H : edit_word a0 = some r) : Ret Tryd.prog 109 [.int .i64 a0] (.tuple #[str r.1, .int .i64 r.2]) := by
  refine enterRet (n := 21) Tryd.func109 rfl rfl rfl (fun wd => ?_)
  refine c_seq ?_
  refine c_region ?_
  refine l_val rfl rfl rfl (r_assign (v := str []) rfl) ?_
  refine l_val rfl rfl rfl (r_assign (v := .int .i64 0) rfl) ?_
  refine l_nil ?_
  refine c_seq ?_
  refine c_seq ?_
  refine c_region ?_
  refine l_val rfl rfl rfl (r_move (v := .int .i64 a0) rfl) ?_
  refine l_nil ?_
  refine c_block ?_
  refine c_seq ?_
  refine c_region ?_
  refine l_val rfl rfl rfl (r_eql rfl rfl) ?_
  refine l_val rfl rfl rfl (r_assign (v := .bool (decide (a0 = 1))) rfl) ?_
  refine l_nil ?_
  refine c_if (b := (decide (a0 = 1))) rfl (fun hb => ?_) (fun hb => ?_)
  · have H17 := cnd_t hb H; clear H
    refine c_seq ?_
    refine c_region ?_
    refine l_val rfl rfl rfl (r_assign (v := str [116, 117, 114, 110]) rfl) ?_
    refine l_val rfl rfl rfl (r_assign (v := .int .i64 1) rfl) ?_
    refine l_nil ?_
    refine c_ret ?_
    obtain rfl := Option.some.inj H17
    refine ret2 (v1 := str [116, 117, 114, 110]) (v2 := .int .i64 1) rfl rfl rfl (fin rfl)
  · have H18 := cnd_f hb H; clear H
    refine c_seq ?_
    refine c_region ?_
    refine l_val rfl rfl rfl (r_eql rfl rfl) ?_
    refine l_val rfl rfl rfl (r_assign (v := .bool (decide (a0 = 2))) rfl) ?_
    refine l_nil ?_
    refine c_if (b := (decide (a0 = 2))) rfl (fun hb => ?_) (fun hb => ?_)
    · have H19 := cnd_t hb H18; clear H18
      refine c_seq ?_
      refine c_region ?_
      refine l_val rfl rfl rfl (r_assign (v := str [99, 114, 111, 112]) rfl) ?_
      refine l_val rfl rfl rfl (r_assign (v := .int .i64 4) rfl) ?_
      refine l_nil ?_
      refine c_ret ?_
      obtain rfl := Option.some.inj H19
      refine ret2 (v1 := str [99, 114, 111, 112]) (v2 := .int .i64 4) rfl rfl rfl (fin rfl)
    · have H20 := cnd_f hb H18; clear H18
      refine c_seq ?_
      refine c_region ?_
      refine l_val rfl rfl rfl (r_eql rfl rfl) ?_
      refine l_val rfl rfl rfl (r_assign (v := .bool (decide (a0 = 3))) rfl) ?_
      refine l_nil ?_
      refine c_if (b := (decide (a0 = 3))) rfl (fun hb => ?_) (fun hb => ?_)
      · have H21 := cnd_t hb H20; clear H20
        refine c_seq ?_
        refine c_region ?_
        refine l_val rfl rfl rfl (r_assign (v := str [115, 99, 97, 108, 101]) rfl) ?_
        refine l_val rfl rfl rfl (r_assign (v := .int .i64 2) rfl) ?_
        refine l_nil ?_
        refine c_ret ?_
        obtain rfl := Option.some.inj H21
        refine ret2 (v1 := str [115, 99, 97, 108, 101]) (v2 := .int .i64 2) rfl rfl rfl (fin rfl)
      · have H22 := cnd_f hb H20; clear H20
        refine c_seq ?_
        refine c_region ?_
        refine l_val rfl rfl rfl (r_eql rfl rfl) ?_
        refine l_val rfl rfl rfl (r_assign (v := .bool (decide (a0 = 4))) rfl) ?_
        refine l_nil ?_
        refine c_if (b := (decide (a0 = 4))) rfl (fun hb => ?_) (fun hb => ?_)
        · have H23 := cnd_t hb H22; clear H22
          refine c_seq ?_
          refine c_region ?_
          refine l_val rfl rfl rfl (r_assign (v := str [108, 105, 103, 104, 116]) rfl) ?_
          refine l_val rfl rfl rfl (r_assign (v := .int .i64 1) rfl) ?_
          refine l_nil ?_
          refine c_ret ?_
          obtain rfl := Option.some.inj H23
          refine ret2 (v1 := str [108, 105, 103, 104, 116]) (v2 := .int .i64 1) rfl rfl rfl (fin rfl)
        · have H24 := cnd_f hb H22; clear H22
          refine c_seq ?_
          refine c_region ?_
          refine l_val rfl rfl rfl (r_eql rfl rfl) ?_
          refine l_val rfl rfl rfl (r_assign (v := .bool (decide (a0 = 5))) rfl) ?_
          refine l_nil ?_
          refine c_if (b := (decide (a0 = 5))) rfl (fun hb => ?_) (fun hb => ?_)
          · have H25 := cnd_t hb H24; clear H24
            refine c_seq ?_
            refine c_region ?_
            refine l_val rfl rfl rfl (r_assign (v := str [115, 112, 114, 101, 97, 100]) rfl) ?_
            refine l_val rfl rfl rfl (r_assign (v := .int .i64 1) rfl) ?_
            refine l_nil ?_
            refine c_ret ?_
            obtain rfl := Option.some.inj H25
            refine ret2 (v1 := str [115, 112, 114, 101, 97, 100]) (v2 := .int .i64 1) rfl rfl rfl (fin rfl)
          · have H26 := cnd_f hb H24; clear H24
            refine c_seq ?_
            refine c_region ?_
            refine l_val rfl rfl rfl (r_eql rfl rfl) ?_
            refine l_val rfl rfl rfl (r_assign (v := .bool (decide (a0 = 6))) rfl) ?_
            refine l_nil ?_
            refine c_if (b := (decide (a0 = 6))) rfl (fun hb => ?_) (fun hb => ?_)
            · have H27 := cnd_t hb H26; clear H26
              refine c_seq ?_
              refine c_region ?_
              refine l_val rfl rfl rfl (r_assign (v := str [108, 101, 118, 101, 108, 115]) rfl) ?_
              refine l_val rfl rfl rfl (r_assign (v := .int .i64 2) rfl) ?_
              refine l_nil ?_
              refine c_ret ?_
              obtain rfl := Option.some.inj H27
              refine ret2 (v1 := str [108, 101, 118, 101, 108, 115]) (v2 := .int .i64 2) rfl rfl rfl (fin rfl)
            · have H28 := cnd_f hb H26; clear H26
              refine c_seq ?_
              refine c_region ?_
              refine l_val rfl rfl rfl (r_eql rfl rfl) ?_
              refine l_val rfl rfl rfl (r_assign (v := .bool (decide (a0 = 7))) rfl) ?_
              refine l_nil ?_
              refine c_if (b := (decide (a0 = 7))) rfl (fun hb => ?_) (fun hb => ?_)
              · have H29 := cnd_t hb H28; clear H28
                refine c_seq ?_
                refine c_region ?_
                refine l_val rfl rfl rfl (r_assign (v := str [119, 97, 114, 109]) rfl) ?_
                refine l_val rfl rfl rfl (r_assign (v := .int .i64 1) rfl) ?_
                refine l_nil ?_
                refine c_ret ?_
                obtain rfl := Option.some.inj H29
                refine ret2 (v1 := str [119, 97, 114, 109]) (v2 := .int .i64 1) rfl rfl rfl (fin rfl)
              · have H30 := cnd_f hb H28; clear H28
                refine c_seq ?_
                refine c_region ?_
                refine l_val rfl rfl rfl (r_eql rfl rfl) ?_
                refine l_val rfl rfl rfl (r_assign (v := .bool (decide (a0 = 8))) rfl) ?_
                refine l_nil ?_
                refine c_if (b := (decide (a0 = 8))) rfl (fun hb => ?_) (fun hb => ?_)
                · have H31 := cnd_t hb H30; clear H30
                  refine c_seq ?_
                  refine c_region ?_
                  refine l_val rfl rfl rfl (r_assign (v := str [109, 117, 116, 101]) rfl) ?_
                  refine l_val rfl rfl rfl (r_assign (v := .int .i64 1) rfl) ?_
                  refine l_nil ?_
                  refine c_ret ?_
                  obtain rfl := Option.some.inj H31
                  refine ret2 (v1 := str [109, 117, 116, 101]) (v2 := .int .i64 1) rfl rfl rfl (fin rfl)
                · have H32 := cnd_f hb H30; clear H30
                  refine c_skip ?_
                  refine c_seq ?_
                  refine c_region ?_
                  refine l_val rfl rfl rfl (r_assign (v := str [105, 110, 118, 101, 114, 116]) rfl) ?_
                  refine l_val rfl rfl rfl (r_assign (v := .int .i64 0) rfl) ?_
                  refine l_nil ?_
                  refine c_ret ?_
                  obtain rfl := Option.some.inj H32
                  refine ret2 (v1 := str [105, 110, 118, 101, 114, 116]) (v2 := .int .i64 0) rfl rfl rfl (fin rfl)
theorem k110 {a0 : T_edit_Step} {r : (List Int)} {w : World} {h : Heap} (hw : Know h w noS) (H : edit_Step_numbers a0 = some r) : Does Tryd.prog 110 (List.toArray [.agg #[.int .i64 a0.Kind, .int .i64 a0.A, .int .i64 a0.B, .int .i64 a0.C, .int .i64 a0.D]]) w (fun v w' => ∃ x : (Option Addr × Nat), v = (.slice x.1 r.length x.2) ∧ Turn w w' noS (rowV 3 1 (.slice x.1 r.length x.2) r.length (r.map e_i64))) := by
  refine enter (n := 12) Tryd.func110 rfl rfl rfl noS [] (Sat.nil _ _) ?_
  refine c_seq ?_
  refine c_region ?_
  refine l_box (cs := [.int .i64 a0.Kind, .int .i64 a0.A, .int .i64 a0.B, .int .i64 a0.C, .int .i64 a0.D]) rfl rfl rfl rfl (fun b2 => ?_)
  refine l_val rfl rfl rfl (r_assign (v := .slice none 0 0) rfl) ?_
  refine l_nil ?_
  refine c_seq ?_
  refine c_region ?_
  refine l_val rfl rfl rfl (r_field Tryd.runUnderlying35 rfl Tryd.sizeOf3 rfl rfl) ?_
  refine l_load1 (i := 0) (v := .int .i64 a0.A) Tryd.isAgg3 rfl rfl rfl rfl rfl ?_
  refine l_val rfl rfl rfl (r_field Tryd.runUnderlying35 rfl Tryd.sizeOf3 rfl rfl) ?_
  refine l_load1 (i := 0) (v := .int .i64 a0.B) Tryd.isAgg3 rfl rfl rfl rfl rfl ?_
  refine l_val rfl rfl rfl (r_field Tryd.runUnderlying35 rfl Tryd.sizeOf3 rfl rfl) ?_
  refine l_load1 (i := 0) (v := .int .i64 a0.C) Tryd.isAgg3 rfl rfl rfl rfl rfl ?_
  refine l_val rfl rfl rfl (r_field Tryd.runUnderlying35 rfl Tryd.sizeOf3 rfl rfl) ?_
  refine l_load1 (i := 0) (v := .int .i64 a0.D) Tryd.isAgg3 rfl rfl rfl rfl rfl ?_
  refine l_buildSlice (vs := [.int .i64 a0.A, .int .i64 a0.B, .int .i64 a0.C, .int .i64 a0.D]) (cs := [.int .i64 a0.A, .int .i64 a0.B, .int .i64 a0.C, .int .i64 a0.D]) Tryd.underlying132 Tryd.sizeOf3 Tryd.zeroValue3 rfl rfl rfl rfl rfl rfl rfl (fun b3 => ?_)
  refine l_val rfl rfl rfl (r_assign (v := .slice (some ⟨b3, 0, none⟩) 4 4) rfl) ?_
  refine l_nil ?_
  refine c_ret ?_
  refine c_imp 1 rfl (imp_box (m := 4) (E := 3) (sz := 1) (xs := (([a0.A, a0.B, a0.C, a0.D] : List Int)).map e_i64) rfl rfl rfl ⟨rfl, by decide⟩) ?_
  obtain rfl := Option.some.inj H
  refine ret1 (v := .slice ((some ⟨b3, 0, none⟩, 4) : Option Addr × Nat).1 4 ((some ⟨b3, 0, none⟩, 4) : Option Addr × Nat).2) rfl rfl (finX ((some ⟨b3, 0, none⟩, 4) : Option Addr × Nat) (i := 1) rfl rfl (Imp.refl _))
theorem k113 {a0 : Int} {a1 : Int} {a2 : Int} {r : Bool} (H : edit_outside a0 a1 a2 = some r) : Ret Tryd.prog 113 [.int .i64 a0, .int .i64 a1, .int .i64 a2] (.bool r) := by
  refine enterRet (n := 15) Tryd.func113 rfl rfl rfl (fun wd => ?_)
  refine c_seq ?_
  refine c_region ?_
  refine l_val rfl rfl rfl (r_assign (v := .bool false) rfl) ?_
  refine l_nil ?_
  refine c_seq ?_
  refine c_region ?_
  refine l_val rfl rfl rfl (r_move (v := .int .i64 a0) rfl) ?_
  refine l_val rfl rfl rfl (r_move (v := .int .i64 a1) rfl) ?_
  refine l_val rfl rfl rfl (r_lss rfl rfl) ?_
  refine l_val rfl rfl rfl (r_move (v := .bool (decide (a0 < a1))) rfl) ?_
  refine split (fun hb => ?_) (fun hb => ?_)
  · have H3 := cnd_t hb H; clear H
    refine l_passed rfl rfl rfl ?_
    refine l_passed rfl rfl rfl ?_
    refine l_passed rfl rfl rfl ?_
    refine l_val rfl rfl rfl (r_pickT (v := .bool true) rfl rfl) ?_
    refine l_val rfl rfl rfl (r_assign (v := .bool true) rfl) ?_
    refine l_nil ?_
    refine c_ret ?_
    obtain rfl := Option.some.inj H3
    refine ret1 (v := .bool true) rfl rfl (fin rfl)
  · have H4 := cnd_f hb H; clear H
    refine l_val rfl rfl rfl (r_move (v := .int .i64 a0) rfl) ?_
    refine l_val rfl rfl rfl (r_move (v := .int .i64 a2) rfl) ?_
    refine l_val rfl rfl rfl (r_gtr rfl rfl) ?_
    refine l_val rfl rfl rfl (r_pickF (v := .bool (decide (a2 < a0))) rfl rfl) ?_
    refine l_val rfl rfl rfl (r_assign (v := .bool (decide (a2 < a0))) rfl) ?_
    refine l_nil ?_
    refine c_ret ?_
    obtain rfl := Option.some.inj H4
    refine ret1 (v := .bool (decide (a2 < a0))) rfl rfl (fin rfl)
theorem k160 {a0 : Int} {r : (Nat → (Nat → Int))} (H : edit_bounds a0 = some r) : Ret Tryd.prog 160 [.int .i64 a0] (.agg #[.int .i64 ((r 0) 0), .int .i64 ((r 0) 1), .int .i64 ((r 1) 0), .int .i64 ((r 1) 1), .int .i64 ((r 2) 0), .int .i64 ((r 2) 1), .int .i64 ((r 3) 0), .int .i64 ((r 3) 1)]) := by
  refine enterRet (n := 42) Tryd.func160 rfl rfl rfl (fun wd => ?_)
  refine c_seq ?_
  refine c_region ?_
  refine l_alloc (cs := [.int .i64 0, .int .i64 0, .int .i64 0, .int .i64 0, .int .i64 0, .int .i64 0, .int .i64 0, .int .i64 0]) Tryd.zeroValue201 rfl rfl rfl (fun b1 => ?_)
  refine l_nil ?_
  refine c_seq ?_
  refine c_seq ?_
  refine c_region ?_
  refine l_val rfl rfl rfl (r_move (v := .int .i64 a0) rfl) ?_
  refine l_nil ?_
  refine c_block ?_
  refine c_seq ?_
  refine c_region ?_
  refine l_val rfl rfl rfl (r_eql rfl rfl) ?_
  refine l_val rfl rfl rfl (r_assign (v := .bool (decide (a0 = 1))) rfl) ?_
  refine l_nil ?_
  refine c_if (b := (decide (a0 = 1))) rfl (fun hb => ?_) (fun hb => ?_)
  · have H17 := cnd_t hb H; clear H
    refine c_seq ?_
    refine c_region ?_
    refine l_val rfl rfl rfl (r_buildA (ps := [(0, .int .i64 1), (1, .int .i64 8)]) (cells := #[.int .i64 1, .int .i64 8]) Tryd.zeroValue200 Tryd.runUnderlying200 Tryd.sizeOf3 rfl rfl) ?_
    refine l_val rfl rfl rfl (r_buildA (ps := [(0, .agg #[.int .i64 1, .int .i64 8])]) (cells := #[.int .i64 1, .int .i64 8, .int .i64 0, .int .i64 0, .int .i64 0, .int .i64 0, .int .i64 0, .int .i64 0]) Tryd.zeroValue201 Tryd.runUnderlying201 Tryd.sizeOf200 rfl rfl) ?_
    refine l_store (i := 0) (vs := [.int .i64 1, .int .i64 8, .int .i64 0, .int .i64 0, .int .i64 0, .int .i64 0, .int .i64 0, .int .i64 0]) (cs' := [.int .i64 1, .int .i64 8, .int .i64 0, .int .i64 0, .int .i64 0, .int .i64 0, .int .i64 0, .int .i64 0]) Tryd.sizeOf201 rfl rfl rfl rfl rfl rfl rfl rfl rfl ?_
    refine l_nil ?_
    refine c_ret ?_
    obtain rfl := Option.some.inj H17
    refine retC (i := 0) (vs := [.int .i64 1, .int .i64 8, .int .i64 0, .int .i64 0, .int .i64 0, .int .i64 0, .int .i64 0, .int .i64 0]) Tryd.isAgg201 Tryd.sizeOf201 rfl rfl rfl rfl (fin rfl)
  · have H18 := cnd_f hb H; clear H
    refine c_seq ?_
    refine c_region ?_
    refine l_val rfl rfl rfl (r_eql rfl rfl) ?_
    refine l_val rfl rfl rfl (r_assign (v := .bool (decide (a0 = 2))) rfl) ?_
    refine l_nil ?_
    refine c_if (b := (decide (a0 = 2))) rfl (fun hb => ?_) (fun hb => ?_)
    · have H19 := cnd_t hb H18; clear H18
      refine c_seq ?_
      refine c_region ?_
      refine l_val rfl rfl rfl (r_buildA (ps := [(0, .int .i64 0), (1, .int .i64 63)]) (cells := #[.int .i64 0, .int .i64 63]) Tryd.zeroValue200 Tryd.runUnderlying200 Tryd.sizeOf3 rfl rfl) ?_
      refine l_val rfl rfl rfl (r_buildA (ps := [(0, .int .i64 0), (1, .int .i64 63)]) (cells := #[.int .i64 0, .int .i64 63]) Tryd.zeroValue200 Tryd.runUnderlying200 Tryd.sizeOf3 rfl rfl) ?_
      refine l_val rfl rfl rfl (r_buildA (ps := [(0, .int .i64 1), (1, .int .i64 64)]) (cells := #[.int .i64 1, .int .i64 64]) Tryd.zeroValue200 Tryd.runUnderlying200 Tryd.sizeOf3 rfl rfl) ?_
      refine l_val rfl rfl rfl (r_buildA (ps := [(0, .int .i64 1), (1, .int .i64 64)]) (cells := #[.int .i64 1, .int .i64 64]) Tryd.zeroValue200 Tryd.runUnderlying200 Tryd.sizeOf3 rfl rfl) ?_
      refine l_val rfl rfl rfl (r_buildA (ps := [(0, .agg #[.int .i64 0, .int .i64 63]), (1, .agg #[.int .i64 0, .int .i64 63]), (2, .agg #[.int .i64 1, .int .i64 64]), (3, .agg #[.int .i64 1, .int .i64 64])]) (cells := #[.int .i64 0, .int .i64 63, .int .i64 0, .int .i64 63, .int .i64 1, .int .i64 64, .int .i64 1, .int .i64 64]) Tryd.zeroValue201 Tryd.runUnderlying201 Tryd.sizeOf200 rfl rfl) ?_
      refine l_store (i := 0) (vs := [.int .i64 0, .int .i64 63, .int .i64 0, .int .i64 63, .int .i64 1, .int .i64 64, .int .i64 1, .int .i64 64]) (cs' := [.int .i64 0, .int .i64 63, .int .i64 0, .int .i64 63, .int .i64 1, .int .i64 64, .int .i64 1, .int .i64 64]) Tryd.sizeOf201 rfl rfl rfl rfl rfl rfl rfl rfl rfl ?_
      refine l_nil ?_
      refine c_ret ?_
      obtain rfl := Option.some.inj H19
      refine retC (i := 0) (vs := [.int .i64 0, .int .i64 63, .int .i64 0, .int .i64 63, .int .i64 1, .int .i64 64, .int .i64 1, .int .i64 64]) Tryd.isAgg201 Tryd.sizeOf201 rfl rfl rfl rfl (fin rfl)
    · have H20 := cnd_f hb H18; clear H18
      refine c_seq ?_
      refine c_region ?_
      refine l_val rfl rfl rfl (r_eql rfl rfl) ?_
      refine l_val rfl rfl rfl (r_assign (v := .bool (decide (a0 = 3))) rfl) ?_
      refine l_nil ?_
      refine c_if (b := (decide (a0 = 3))) rfl (fun hb => ?_) (fun hb => ?_)
      · have H21 := cnd_t hb H20; clear H20
        refine c_seq ?_
        refine c_region ?_
        refine l_val rfl rfl rfl (r_buildA (ps := [(0, .int .i64 1), (1, .int .i64 64)]) (cells := #[.int .i64 1, .int .i64 64]) Tryd.zeroValue200 Tryd.runUnderlying200 Tryd.sizeOf3 rfl rfl) ?_
        refine l_val rfl rfl rfl (r_buildA (ps := [(0, .int .i64 1), (1, .int .i64 64)]) (cells := #[.int .i64 1, .int .i64 64]) Tryd.zeroValue200 Tryd.runUnderlying200 Tryd.sizeOf3 rfl rfl) ?_
        refine l_val rfl rfl rfl (r_buildA (ps := [(0, .agg #[.int .i64 1, .int .i64 64]), (1, .agg #[.int .i64 1, .int .i64 64])]) (cells := #[.int .i64 1, .int .i64 64, .int .i64 1, .int .i64 64, .int .i64 0, .int .i64 0, .int .i64 0, .int .i64 0]) Tryd.zeroValue201 Tryd.runUnderlying201 Tryd.sizeOf200 rfl rfl) ?_
        refine l_store (i := 0) (vs := [.int .i64 1, .int .i64 64, .int .i64 1, .int .i64 64, .int .i64 0, .int .i64 0, .int .i64 0, .int .i64 0]) (cs' := [.int .i64 1, .int .i64 64, .int .i64 1, .int .i64 64, .int .i64 0, .int .i64 0, .int .i64 0, .int .i64 0]) Tryd.sizeOf201 rfl rfl rfl rfl rfl rfl rfl rfl rfl ?_
        refine l_nil ?_
        refine c_ret ?_
        obtain rfl := Option.some.inj H21
        refine retC (i := 0) (vs := [.int .i64 1, .int .i64 64, .int .i64 1, .int .i64 64, .int .i64 0, .int .i64 0, .int .i64 0, .int .i64 0]) Tryd.isAgg201 Tryd.sizeOf201 rfl rfl rfl rfl (fin rfl)
      · have H22 := cnd_f hb H20; clear H20
        refine c_seq ?_
        refine c_region ?_
        refine l_val rfl rfl rfl (r_eql rfl rfl) ?_
        refine l_val rfl rfl rfl (r_assign (v := .bool (decide (a0 = 4))) rfl) ?_
        refine l_nil ?_
        refine c_if (b := (decide (a0 = 4))) rfl (fun hb => ?_) (fun hb => ?_)
        · have H23 := cnd_t hb H22; clear H22
          refine c_seq ?_
          refine c_region ?_
          refine l_val rfl rfl rfl (r_buildA (ps := [(0, .int .i64 (-255)), (1, .int .i64 255)]) (cells := #[.int .i64 (-255), .int .i64 255]) Tryd.zeroValue200 Tryd.runUnderlying200 Tryd.sizeOf3 rfl rfl) ?_
          refine l_val rfl rfl rfl (r_buildA (ps := [(0, .agg #[.int .i64 (-255), .int .i64 255])]) (cells := #[.int .i64 (-255), .int .i64 255, .int .i64 0, .int .i64 0, .int .i64 0, .int .i64 0, .int .i64 0, .int .i64 0]) Tryd.zeroValue201 Tryd.runUnderlying201 Tryd.sizeOf200 rfl rfl) ?_
          refine l_store (i := 0) (vs := [.int .i64 (-255), .int .i64 255, .int .i64 0, .int .i64 0, .int .i64 0, .int .i64 0, .int .i64 0, .int .i64 0]) (cs' := [.int .i64 (-255), .int .i64 255, .int .i64 0, .int .i64 0, .int .i64 0, .int .i64 0, .int .i64 0, .int .i64 0]) Tryd.sizeOf201 rfl rfl rfl rfl rfl rfl rfl rfl rfl ?_
          refine l_nil ?_
          refine c_ret ?_
          obtain rfl := Option.some.inj H23
          refine retC (i := 0) (vs := [.int .i64 (-255), .int .i64 255, .int .i64 0, .int .i64 0, .int .i64 0, .int .i64 0, .int .i64 0, .int .i64 0]) Tryd.isAgg201 Tryd.sizeOf201 rfl rfl rfl rfl (fin rfl)
        · have H24 := cnd_f hb H22; clear H22
          refine c_seq ?_
          refine c_region ?_
          refine l_val rfl rfl rfl (r_eql rfl rfl) ?_
          refine l_val rfl rfl rfl (r_assign (v := .bool (decide (a0 = 5))) rfl) ?_
          refine l_nil ?_
          refine c_if (b := (decide (a0 = 5))) rfl (fun hb => ?_) (fun hb => ?_)
          · have H25 := cnd_t hb H24; clear H24
            refine c_seq ?_
            refine c_region ?_
            refine l_val rfl rfl rfl (r_buildA (ps := [(0, .int .i64 0), (1, .int .i64 400)]) (cells := #[.int .i64 0, .int .i64 400]) Tryd.zeroValue200 Tryd.runUnderlying200 Tryd.sizeOf3 rfl rfl) ?_
            refine l_val rfl rfl rfl (r_buildA (ps := [(0, .agg #[.int .i64 0, .int .i64 400])]) (cells := #[.int .i64 0, .int .i64 400, .int .i64 0, .int .i64 0, .int .i64 0, .int .i64 0, .int .i64 0, .int .i64 0]) Tryd.zeroValue201 Tryd.runUnderlying201 Tryd.sizeOf200 rfl rfl) ?_
            refine l_store (i := 0) (vs := [.int .i64 0, .int .i64 400, .int .i64 0, .int .i64 0, .int .i64 0, .int .i64 0, .int .i64 0, .int .i64 0]) (cs' := [.int .i64 0, .int .i64 400, .int .i64 0, .int .i64 0, .int .i64 0, .int .i64 0, .int .i64 0, .int .i64 0]) Tryd.sizeOf201 rfl rfl rfl rfl rfl rfl rfl rfl rfl ?_
            refine l_nil ?_
            refine c_ret ?_
            obtain rfl := Option.some.inj H25
            refine retC (i := 0) (vs := [.int .i64 0, .int .i64 400, .int .i64 0, .int .i64 0, .int .i64 0, .int .i64 0, .int .i64 0, .int .i64 0]) Tryd.isAgg201 Tryd.sizeOf201 rfl rfl rfl rfl (fin rfl)
          · have H26 := cnd_f hb H24; clear H24
            refine c_seq ?_
            refine c_region ?_
            refine l_val rfl rfl rfl (r_eql rfl rfl) ?_
            refine l_val rfl rfl rfl (r_assign (v := .bool (decide (a0 = 6))) rfl) ?_
            refine l_nil ?_
            refine c_if (b := (decide (a0 = 6))) rfl (fun hb => ?_) (fun hb => ?_)
            · have H27 := cnd_t hb H26; clear H26
              refine c_seq ?_
              refine c_region ?_
              refine l_val rfl rfl rfl (r_buildA (ps := [(0, .int .i64 0), (1, .int .i64 255)]) (cells := #[.int .i64 0, .int .i64 255]) Tryd.zeroValue200 Tryd.runUnderlying200 Tryd.sizeOf3 rfl rfl) ?_
              refine l_val rfl rfl rfl (r_buildA (ps := [(0, .int .i64 0), (1, .int .i64 255)]) (cells := #[.int .i64 0, .int .i64 255]) Tryd.zeroValue200 Tryd.runUnderlying200 Tryd.sizeOf3 rfl rfl) ?_
              refine l_val rfl rfl rfl (r_buildA (ps := [(0, .agg #[.int .i64 0, .int .i64 255]), (1, .agg #[.int .i64 0, .int .i64 255])]) (cells := #[.int .i64 0, .int .i64 255, .int .i64 0, .int .i64 255, .int .i64 0, .int .i64 0, .int .i64 0, .int .i64 0]) Tryd.zeroValue201 Tryd.runUnderlying201 Tryd.sizeOf200 rfl rfl) ?_
              refine l_store (i := 0) (vs := [.int .i64 0, .int .i64 255, .int .i64 0, .int .i64 255, .int .i64 0, .int .i64 0, .int .i64 0, .int .i64 0]) (cs' := [.int .i64 0, .int .i64 255, .int .i64 0, .int .i64 255, .int .i64 0, .int .i64 0, .int .i64 0, .int .i64 0]) Tryd.sizeOf201 rfl rfl rfl rfl rfl rfl rfl rfl rfl ?_
              refine l_nil ?_
              refine c_ret ?_
              obtain rfl := Option.some.inj H27
              refine retC (i := 0) (vs := [.int .i64 0, .int .i64 255, .int .i64 0, .int .i64 255, .int .i64 0, .int .i64 0, .int .i64 0, .int .i64 0]) Tryd.isAgg201 Tryd.sizeOf201 rfl rfl rfl rfl (fin rfl)
            · have H28 := cnd_f hb H26; clear H26
              refine c_seq ?_
              refine c_region ?_
              refine l_val rfl rfl rfl (r_eql rfl rfl) ?_
              refine l_val rfl rfl rfl (r_assign (v := .bool (decide (a0 = 7))) rfl) ?_
              refine l_nil ?_
              refine c_if (b := (decide (a0 = 7))) rfl (fun hb => ?_) (fun hb => ?_)
              · have H29 := cnd_t hb H28; clear H28
                refine c_seq ?_
                refine c_region ?_
                refine l_val rfl rfl rfl (r_buildA (ps := [(0, .int .i64 (-100)), (1, .int .i64 100)]) (cells := #[.int .i64 (-100), .int .i64 100]) Tryd.zeroValue200 Tryd.runUnderlying200 Tryd.sizeOf3 rfl rfl) ?_
                refine l_val rfl rfl rfl (r_buildA (ps := [(0, .agg #[.int .i64 (-100), .int .i64 100])]) (cells := #[.int .i64 (-100), .int .i64 100, .int .i64 0, .int .i64 0, .int .i64 0, .int .i64 0, .int .i64 0, .int .i64 0]) Tryd.zeroValue201 Tryd.runUnderlying201 Tryd.sizeOf200 rfl rfl) ?_
                refine l_store (i := 0) (vs := [.int .i64 (-100), .int .i64 100, .int .i64 0, .int .i64 0, .int .i64 0, .int .i64 0, .int .i64 0, .int .i64 0]) (cs' := [.int .i64 (-100), .int .i64 100, .int .i64 0, .int .i64 0, .int .i64 0, .int .i64 0, .int .i64 0, .int .i64 0]) Tryd.sizeOf201 rfl rfl rfl rfl rfl rfl rfl rfl rfl ?_
                refine l_nil ?_
                refine c_ret ?_
                obtain rfl := Option.some.inj H29
                refine retC (i := 0) (vs := [.int .i64 (-100), .int .i64 100, .int .i64 0, .int .i64 0, .int .i64 0, .int .i64 0, .int .i64 0, .int .i64 0]) Tryd.isAgg201 Tryd.sizeOf201 rfl rfl rfl rfl (fin rfl)
              · have H30 := cnd_f hb H28; clear H28
                refine c_seq ?_
                refine c_region ?_
                refine l_val rfl rfl rfl (r_eql rfl rfl) ?_
                refine l_val rfl rfl rfl (r_assign (v := .bool (decide (a0 = 8))) rfl) ?_
                refine l_nil ?_
                refine c_if (b := (decide (a0 = 8))) rfl (fun hb => ?_) (fun hb => ?_)
                · have H31 := cnd_t hb H30; clear H30
                  refine c_seq ?_
                  refine c_region ?_
                  refine l_val rfl rfl rfl (r_buildA (ps := [(0, .int .i64 0), (1, .int .i64 100)]) (cells := #[.int .i64 0, .int .i64 100]) Tryd.zeroValue200 Tryd.runUnderlying200 Tryd.sizeOf3 rfl rfl) ?_
                  refine l_val rfl rfl rfl (r_buildA (ps := [(0, .agg #[.int .i64 0, .int .i64 100])]) (cells := #[.int .i64 0, .int .i64 100, .int .i64 0, .int .i64 0, .int .i64 0, .int .i64 0, .int .i64 0, .int .i64 0]) Tryd.zeroValue201 Tryd.runUnderlying201 Tryd.sizeOf200 rfl rfl) ?_
                  refine l_store (i := 0) (vs := [.int .i64 0, .int .i64 100, .int .i64 0, .int .i64 0, .int .i64 0, .int .i64 0, .int .i64 0, .int .i64 0]) (cs' := [.int .i64 0, .int .i64 100, .int .i64 0, .int .i64 0, .int .i64 0, .int .i64 0, .int .i64 0, .int .i64 0]) Tryd.sizeOf201 rfl rfl rfl rfl rfl rfl rfl rfl rfl ?_
                  refine l_nil ?_
                  refine c_ret ?_
                  obtain rfl := Option.some.inj H31
                  refine retC (i := 0) (vs := [.int .i64 0, .int .i64 100, .int .i64 0, .int .i64 0, .int .i64 0, .int .i64 0, .int .i64 0, .int .i64 0]) Tryd.isAgg201 Tryd.sizeOf201 rfl rfl rfl rfl (fin rfl)
                · have H32 := cnd_f hb H30; clear H30
                  refine c_skip ?_
                  refine c_seq ?_
                  refine c_region ?_
                  refine l_val rfl rfl rfl (r_buildA (ps := []) (cells := #[.int .i64 0, .int .i64 0, .int .i64 0, .int .i64 0, .int .i64 0, .int .i64 0, .int .i64 0, .int .i64 0]) Tryd.zeroValue201 Tryd.runUnderlying201 Tryd.sizeOf200 rfl rfl) ?_
                  refine l_store (i := 0) (vs := [.int .i64 0, .int .i64 0, .int .i64 0, .int .i64 0, .int .i64 0, .int .i64 0, .int .i64 0, .int .i64 0]) (cs' := [.int .i64 0, .int .i64 0, .int .i64 0, .int .i64 0, .int .i64 0, .int .i64 0, .int .i64 0, .int .i64 0]) Tryd.sizeOf201 rfl rfl rfl rfl rfl rfl rfl rfl rfl ?_
                  refine l_nil ?_
                  refine c_ret ?_
                  obtain rfl := Option.some.inj H32
                  refine retC (i := 0) (vs := [.int .i64 0, .int .i64 0, .int .i64 0, .int .i64 0, .int .i64 0, .int .i64 0, .int .i64 0, .int .i64 0]) Tryd.isAgg201 Tryd.sizeOf201 rfl rfl rfl rfl (fin rfl)
theorem k116 {a0 : T_edit_Step} {r : Int} (H : edit_CheckStep a0 = some r) : Ret Tryd.prog 116 [.agg #[.int .i64 a0.Kind, .int .i64 a0.A, .int .i64 a0.B, .int .i64 a0.C, .int .i64 a0.D]] (.int .i64 r) := by
  refine enterRet (n := 66) Tryd.func116 rfl rfl rfl (fun wd => ?_)
  refine c_seq ?_
  refine c_region ?_
  refine l_box (cs := [.int .i64 a0.Kind, .int .i64 a0.A, .int .i64 a0.B, .int .i64 a0.C, .int .i64 a0.D]) rfl rfl rfl rfl (fun b2 => ?_)
  refine l_val rfl rfl rfl (r_assign (v := .int .i64 0) rfl) ?_
  refine l_nil ?_
  refine c_seq ?_
  refine c_seq ?_
  refine c_region ?_
  refine l_val rfl rfl rfl (r_field Tryd.runUnderlying35 rfl Tryd.sizeOf3 rfl rfl) ?_
  refine l_load1 (i := 0) (v := .int .i64 a0.Kind) Tryd.isAgg3 rfl rfl rfl rfl rfl ?_
  obtain ⟨t13, h_t13, H32⟩ := bnd_some H; clear H
  refine l_call (k113 h_t13) Tryd.call113 rfl rfl rfl ?_
  refine l_nil ?_
  refine c_if (b := t13) rfl (fun hb => ?_) (fun hb => ?_)
  · have H33 := cnd_t hb H32; clear H32
    refine c_seq ?_
    refine c_region ?_
    refine l_val rfl rfl rfl (r_assign (v := .int .i64 10) rfl) ?_
    refine l_nil ?_
    refine c_ret ?_
    obtain rfl := Option.some.inj H33
    refine ret1 (v := .int .i64 10) rfl rfl (fin rfl)
  · have H34 := cnd_f hb H32; clear H32
    refine c_skip ?_
    refine c_seq ?_
    refine c_region ?_
    refine l_val rfl rfl rfl (r_field Tryd.runUnderlying35 rfl Tryd.sizeOf3 rfl rfl) ?_
    refine l_load1 (i := 0) (v := .int .i64 a0.Kind) Tryd.isAgg3 rfl rfl rfl rfl rfl ?_
    obtain ⟨t17, h_t17, H35⟩ := bnd_some H34; clear H34
    refine l_call (k109 h_t17) Tryd.call109 rfl rfl rfl ?_
    refine l_val rfl rfl rfl (r_move (v := .tuple #[str t17.1, .int .i64 t17.2]) rfl) ?_
    refine l_val rfl rfl rfl (r_extract (v := str t17.1) rfl rfl) ?_
    refine l_val rfl rfl rfl (r_extract (v := .int .i64 t17.2) rfl rfl) ?_
    refine l_val rfl rfl rfl (r_assign (v := str t17.1) rfl) ?_
    refine l_val rfl rfl rfl (r_assign (v := .int .i64 t17.2) rfl) ?_
    refine l_nil ?_
    refine c_seq ?_
    refine c_region ?_
    refine l_loadN (i := 0) (vs := [.int .i64 a0.Kind, .int .i64 a0.A, .int .i64 a0.B, .int .i64 a0.C, .int .i64 a0.D]) Tryd.isAgg35 Tryd.sizeOf35 rfl rfl rfl rfl rfl ?_
    obtain ⟨t21, h_t21, H36⟩ := bnd_some H35; clear H35
    refine l_make (makes_call (rds := []) (G := fun x : (Option Addr × Nat) => .slice x.1 t21.length x.2) (C := fun x : (Option Addr × Nat) => rowV 3 1 (.slice x.1 t21.length x.2) t21.length (t21.map e_i64)) (fun w L' hF hS hi => k110 (know_all w)  h_t21) Tryd.call110 rfl) rfl rfl rfl (fun p => ?_)
    refine l_val rfl rfl rfl (r_assign (v := .slice p.1 t21.length p.2) rfl) ?_
    refine l_nil ?_
    refine c_meet (r := r) (σ := Unit) (τ := Unit) (fun s => edit_CheckStep_j1 a0 t17 t21) (fun s t => [(1, .pointer (some ⟨b2, 0, none⟩)), (4, .int .i64 t17.2), (5, .slice p.1 t21.length p.2)]) (fun s t => [cellsC b2 [.int .i64 a0.Kind, .int .i64 a0.A, .int .i64 a0.B, .int .i64 a0.C, .int .i64 a0.D] 35, rowV 3 1 (.slice p.1 t21.length p.2) t21.length (t21.map e_i64)]) (fun s t => True) ?_ ?_
    · refine c_seq ?_
      refine c_region ?_
      refine l_val rfl rfl rfl (r_move (v := .slice p.1 t21.length p.2) rfl) ?_
      refine l_val rfl rfl rfl (r_move (v := .int .i64 t17.2) rfl) ?_
      obtain ⟨t24, h_t24, H55⟩ := bnd_some H36; clear H36
      refine l_read (v := .slice (cutA p.1 (Int.toNat t17.2) p.2 1) t24.length (p.2 - Int.toNat t17.2)) (fun w hF hS => run_sliceLO (xs := t21) Tryd.underlying132 Tryd.sizeOf3 rfl rfl rfl (capOf (i := 1) hS rfl) h_t24) rfl rfl rfl ?_
      refine l_val rfl rfl rfl (r_len Tryd.underlying132 rfl) ?_
      refine l_val rfl rfl rfl (r_move (v := .int .i64 0) rfl) ?_
      refine l_nil ?_
      refine c_block ?_
      refine c_fix (σ := Int) (τ := Unit) (fun next4 s => edit_CheckStep_l4 a0 t17 t21 t24 next4 s) (fun s t => [(1, .pointer (some ⟨b2, 0, none⟩)), (4, .int .i64 t17.2), (5, .slice p.1 t21.length p.2), (24, .slice (cutA p.1 (Int.toNat t17.2) p.2 1) t24.length (p.2 - Int.toNat t17.2)), (25, .int .i64 (t24.length : Int)), (26, .int .i64 s)]) (fun s t => [cellsC b2 [.int .i64 a0.Kind, .int .i64 a0.A, .int .i64 a0.B, .int .i64 a0.C, .int .i64 a0.D] 35, rowV 3 1 (.slice p.1 t21.length p.2) t21.length (t21.map e_i64)]) (fun s t => True) 0 () [0, 1] H55 (by exact trivial) (by exact ⟨rfl, rfl, rfl, rfl, rfl, rfl, trivial⟩) (by decide) rfl ?_
      rintro x26_2 _ m4 gg H56 _
      clear H55
      replace H56 : edit_CheckStep_l4 a0 t17 t21 t24 (it (fun next4 s => edit_CheckStep_l4 a0 t17 t21 t24 next4 s) m4) x26_2 = some r := H56
      generalize hn4 : it (fun next4 s => edit_CheckStep_l4 a0 t17 t21 t24 next4 s) m4 = next4 at H56
      refine c_tidyF [(1, .pointer (some ⟨b2, 0, none⟩)), (4, .int .i64 t17.2), (5, .slice p.1 t21.length p.2), (24, .slice (cutA p.1 (Int.toNat t17.2) p.2 1) t24.length (p.2 - Int.toNat t17.2)), (25, .int .i64 (t24.length : Int)), (26, .int .i64 x26_2)] [cellsC b2 [.int .i64 a0.Kind, .int .i64 a0.A, .int .i64 a0.B, .int .i64 a0.C, .int .i64 a0.D] 35, rowV 3 1 (.slice p.1 t21.length p.2) t21.length (t21.map e_i64)] rfl rfl ?_
      refine c_seq ?_
      refine c_region ?_
      refine l_val rfl rfl rfl (r_lss rfl rfl) ?_
      refine l_nil ?_
      refine c_seq ?_
      refine c_if (b := (decide (x26_2 < (t24.length : Int)))) rfl (fun hb => ?_) (fun hb => ?_)
      · have H57 := cnd_t hb H56; clear H56
        refine c_skip ?_
        refine c_seq ?_
        refine c_block ?_
        refine c_seq ?_
        refine c_region ?_
        obtain ⟨t28, h_t28, H58⟩ := bnd_some H57; clear H57
        refine l_read (fun w hF hS => run_indexO Tryd.underlying132 Tryd.sizeOf3 rfl rfl (Row.cutG (rowOf (i := 1) hS rfl) rfl (capOf (i := 1) hS rfl) h_t24) rfl h_t28) rfl rfl rfl ?_
        refine l_read (fun w hF hS => run_loadG1 (f := e_i64) (i := x26_2) (sz := 1) (j := 0) (v := .int .i64 t28) Tryd.isAgg3 rfl rfl (Row.cutG (rowOf (i := 1) hS rfl) rfl (capOf (i := 1) hS rfl) h_t24) h_t28 rfl) rfl rfl rfl ?_
        refine l_val rfl rfl rfl (r_assign (v := .int .i64 t28) rfl) ?_
        refine l_nil ?_
        refine c_seq ?_
        refine c_region ?_
        refine l_val rfl rfl rfl (r_move (v := .int .i64 t28) rfl) ?_
        refine l_val rfl rfl rfl (r_neq rfl rfl) ?_
        refine l_nil ?_
        refine c_if (b := (decide (t28 ≠ 0))) rfl (fun hb => ?_) (fun hb => ?_)
        · have H59 := cnd_t hb H58; clear H58
          refine c_seq ?_
          refine c_region ?_
          refine l_val rfl rfl rfl (r_assign (v := .int .i64 1) rfl) ?_
          refine l_nil ?_
          refine c_ret ?_
          obtain rfl := Option.some.inj H59
          refine ret1 (v := .int .i64 1) rfl rfl (fin rfl)
        · have H60 := cnd_f hb H58; clear H58
          refine c_skip ?_
          refine c_region ?_
          obtain ⟨t32, h_t32, H61⟩ := bnd_some H60; clear H60
          refine l_val rfl rfl rfl (r_addG rfl rfl h_t32) ?_
          refine l_val rfl rfl rfl (r_move (v := .int .i64 t32) rfl) ?_
          refine l_nil ?_
          refine c_close t32 () m4 [0, 1] (by exact ⟨rfl, rfl, rfl, rfl, rfl, rfl, trivial⟩) (by decide) rfl (by exact ⟨(by subst hn4; exact H61), trivial⟩) (Nat.lt_succ_self _)
      · have H62 := cnd_f hb H56; clear H56
        refine c_exit ?_
        refine c_close () () 0 [0, 1] (by exact ⟨rfl, rfl, rfl, trivial⟩) (by decide) rfl (by exact ⟨H62, trivial⟩) (Nat.lt_succ_self _)
    · rintro _ _ gg H37 _
      replace H37 : edit_CheckStep_j1 a0 t17 t21 = some r := H37
      refine c_tidyF [(1, .pointer (some ⟨b2, 0, none⟩)), (4, .int .i64 t17.2), (5, .slice p.1 t21.length p.2)] [cellsC b2 [.int .i64 a0.Kind, .int .i64 a0.A, .int .i64 a0.B, .int .i64 a0.C, .int .i64 a0.D] 35, rowV 3 1 (.slice p.1 t21.length p.2) t21.length (t21.map e_i64)] rfl rfl ?_
      refine c_seq ?_
      refine c_region ?_
      refine l_val rfl rfl rfl (r_field Tryd.runUnderlying35 rfl Tryd.sizeOf3 rfl rfl) ?_
      refine l_load1 (i := 0) (v := .int .i64 a0.Kind) Tryd.isAgg3 rfl rfl rfl rfl rfl ?_
      obtain ⟨t35, h_t35, H38⟩ := bnd_some H37; clear H37
      refine l_call (k160 h_t35) Tryd.call160 rfl rfl rfl ?_
      refine l_alloc (cs := [.int .i64 0, .int .i64 0, .int .i64 0, .int .i64 0, .int .i64 0, .int .i64 0, .int .i64 0, .int .i64 0]) Tryd.zeroValue201 rfl rfl rfl (fun b3 => ?_)
      refine l_store (i := 2) (vs := [.int .i64 ((t35 0) 0), .int .i64 ((t35 0) 1), .int .i64 ((t35 1) 0), .int .i64 ((t35 1) 1), .int .i64 ((t35 2) 0), .int .i64 ((t35 2) 1), .int .i64 ((t35 3) 0), .int .i64 ((t35 3) 1)]) (cs' := [.int .i64 ((t35 0) 0), .int .i64 ((t35 0) 1), .int .i64 ((t35 1) 0), .int .i64 ((t35 1) 1), .int .i64 ((t35 2) 0), .int .i64 ((t35 2) 1), .int .i64 ((t35 3) 0), .int .i64 ((t35 3) 1)]) Tryd.sizeOf201 rfl rfl rfl rfl rfl rfl rfl rfl rfl ?_
      refine l_nil ?_
      refine c_meet (r := r) (σ := Unit) (τ := Unit) (fun s => edit_CheckStep_j2 a0) (fun s t => [(1, .pointer (some ⟨b2, 0, none⟩))]) (fun s t => [cellsC b2 [.int .i64 a0.Kind, .int .i64 a0.A, .int .i64 a0.B, .int .i64 a0.C, .int .i64 a0.D] 35]) (fun s t => True) ?_ ?_
      · refine c_seq ?_
        refine c_region ?_
        refine l_val rfl rfl rfl (r_move (v := .slice p.1 t21.length p.2) rfl) ?_
        refine l_val rfl rfl rfl (r_move (v := .int .i64 t17.2) rfl) ?_
        obtain ⟨t38, h_t38, H44⟩ := bnd_some H38; clear H38
        refine l_read (v := .slice (cutA p.1 (Int.toNat (0 : Int)) p.2 1) t38.length (p.2 - Int.toNat (0 : Int))) (fun w hF hS => run_sliceHO (xs := t21) Tryd.underlying132 Tryd.sizeOf3 rfl rfl rfl (capOf (i := 1) hS rfl) h_t38) rfl rfl rfl ?_
        refine l_val rfl rfl rfl (r_len Tryd.underlying132 rfl) ?_
        refine l_val rfl rfl rfl (r_move (v := .int .i64 0) rfl) ?_
        refine l_nil ?_
        refine c_block ?_
        refine c_fix (σ := Int) (τ := Unit) (fun next3 s => edit_CheckStep_l3 a0 t35 t38 next3 s) (fun s t => [(1, .pointer (some ⟨b2, 0, none⟩)), (8, .pointer (some ⟨b3, 0, none⟩)), (38, .slice (cutA p.1 (Int.toNat (0 : Int)) p.2 1) t38.length (p.2 - Int.toNat (0 : Int))), (39, .int .i64 (t38.length : Int)), (40, .int .i64 s)]) (fun s t => [cellsC b2 [.int .i64 a0.Kind, .int .i64 a0.A, .int .i64 a0.B, .int .i64 a0.C, .int .i64 a0.D] 35, rowV 3 1 (.slice p.1 t21.length p.2) t21.length (t21.map e_i64), cellsC b3 [.int .i64 ((t35 0) 0), .int .i64 ((t35 0) 1), .int .i64 ((t35 1) 0), .int .i64 ((t35 1) 1), .int .i64 ((t35 2) 0), .int .i64 ((t35 2) 1), .int .i64 ((t35 3) 0), .int .i64 ((t35 3) 1)] 201]) (fun s t => True) 0 () [0, 1, 2] H44 (by exact trivial) (by exact ⟨rfl, rfl, rfl, rfl, rfl, trivial⟩) (by decide) rfl ?_
        rintro x40_2 _ m3 gg H45 _
        clear H44
        replace H45 : edit_CheckStep_l3 a0 t35 t38 (it (fun next3 s => edit_CheckStep_l3 a0 t35 t38 next3 s) m3) x40_2 = some r := H45
        generalize hn3 : it (fun next3 s => edit_CheckStep_l3 a0 t35 t38 next3 s) m3 = next3 at H45
        refine c_tidyF [(1, .pointer (some ⟨b2, 0, none⟩)), (8, .pointer (some ⟨b3, 0, none⟩)), (38, .slice (cutA p.1 (Int.toNat (0 : Int)) p.2 1) t38.length (p.2 - Int.toNat (0 : Int))), (39, .int .i64 (t38.length : Int)), (40, .int .i64 x40_2)] [cellsC b2 [.int .i64 a0.Kind, .int .i64 a0.A, .int .i64 a0.B, .int .i64 a0.C, .int .i64 a0.D] 35, rowV 3 1 (.slice p.1 t21.length p.2) t21.length (t21.map e_i64), cellsC b3 [.int .i64 ((t35 0) 0), .int .i64 ((t35 0) 1), .int .i64 ((t35 1) 0), .int .i64 ((t35 1) 1), .int .i64 ((t35 2) 0), .int .i64 ((t35 2) 1), .int .i64 ((t35 3) 0), .int .i64 ((t35 3) 1)] 201] rfl rfl ?_
        refine c_seq ?_
        refine c_region ?_
        refine l_val rfl rfl rfl (r_lss rfl rfl) ?_
        refine l_nil ?_
        refine c_seq ?_
        refine c_if (b := (decide (x40_2 < (t38.length : Int)))) rfl (fun hb => ?_) (fun hb => ?_)
        · have H46 := cnd_t hb H45; clear H45
          refine c_skip ?_
          refine c_seq ?_
          refine c_block ?_
          refine c_seq ?_
          refine c_region ?_
          refine l_val rfl rfl rfl (r_move (v := .int .i64 x40_2) rfl) ?_
          obtain ⟨t43, h_t43, H47⟩ := bnd_some H46; clear H46
          refine l_read (fun w hF hS => run_indexO Tryd.underlying132 Tryd.sizeOf3 rfl rfl (Row.cutG (rowOf (i := 1) hS rfl) rfl (capOf (i := 1) hS rfl) h_t38) rfl h_t43) rfl rfl rfl ?_
          refine l_read (fun w hF hS => run_loadG1 (f := e_i64) (i := x40_2) (sz := 1) (j := 0) (v := .int .i64 t43) Tryd.isAgg3 rfl rfl (Row.cutG (rowOf (i := 1) hS rfl) rfl (capOf (i := 1) hS rfl) h_t38) h_t43 rfl) rfl rfl rfl ?_
          refine l_val rfl rfl rfl (r_assign (v := .int .i64 x40_2) rfl) ?_
          refine l_val rfl rfl rfl (r_assign (v := .int .i64 t43) rfl) ?_
          refine l_nil ?_
          refine c_seq ?_
          exact c_regionD (Kd.p :: Kd.p :: Kd.p :: Kd.p :: Kd.d [2] _ :: Kd.p :: Kd.p :: Kd.p :: Kd.d [2] _ :: Kd.d [] _ :: []) 0 mixed (by
            refine d_val rfl rfl (r_move (v := .int .i64 t43) rfl) ?_
            refine d_val rfl rfl (r_move (v := .int .i64 x40_2) rfl) ?_
            have h_k47 := bnd_val H47
            have H48 := bnd_rest H47
            refine d_val rfl rfl (r_indexPG Tryd.runUnderlying201 Tryd.sizeOf200 rfl rfl h_k47) ?_
            refine d_val rfl rfl (r_indexPA0 Tryd.runUnderlying200 Tryd.sizeOf3 rfl rfl (by decide)) ?_
            refine d_load1 (i := 2) (v := .int .i64 ((t35 (val (gIx 4 x40_2))) 0)) Tryd.isAgg3 rfl rfl rfl (rg_arr (pre := []) (post := []) (f := fun j_ => [.int .i64 ((t35 j_) 0), .int .i64 ((t35 j_) 1)]) (n := 4) (sz := 2) (q := 0) rfl rfl (fun _ => rfl) (gIx_lt h_k47) rfl) ?_
            refine d_val rfl rfl (r_move (v := .int .i64 x40_2) rfl) ?_
            have h_k51 := bnd_val H48
            have H49 := bnd_rest H48
            refine d_val rfl rfl (r_indexPG Tryd.runUnderlying201 Tryd.sizeOf200 rfl rfl h_k51) ?_
            refine d_val rfl rfl (r_indexPA Tryd.runUnderlying200 Tryd.sizeOf3 rfl rfl (by decide) (by decide)) ?_
            refine d_load1 (i := 2) (v := .int .i64 ((t35 (val (gIx 4 x40_2))) 1)) Tryd.isAgg3 rfl rfl rfl (rg_arr (pre := []) (post := []) (f := fun j_ => [.int .i64 ((t35 j_) 0), .int .i64 ((t35 j_) 1)]) (n := 4) (sz := 2) (q := 1) rfl rfl (fun _ => rfl) (gIx_lt h_k51) rfl) ?_
            have h_t54 := bnd_val H49
            have H50 := bnd_rest H49
            refine d_call (k113 h_t54) Tryd.call113 rfl rfl ?_
            refine d_nil ?_
            refine c_if (b := (val (edit_outside t43 ((t35 (val (gIx 4 x40_2))) 0) ((t35 (val (gIx 4 x40_2))) 1)))) rfl (fun hb => ?_) (fun hb => ?_)
            · have H51 := cnd_t hb H50; clear H50
              refine c_seq ?_
              refine c_region ?_
              refine l_val rfl rfl rfl (r_assign (v := .int .i64 2) rfl) ?_
              refine l_nil ?_
              refine c_ret ?_
              obtain rfl := Option.some.inj H51
              refine ret1 (v := .int .i64 2) rfl rfl (fin rfl)
            · have H52 := cnd_f hb H50; clear H50
              refine c_skip ?_
              refine c_region ?_
              obtain ⟨t55, h_t55, H53⟩ := bnd_some H52; clear H52
              refine l_val rfl rfl rfl (r_addG rfl rfl h_t55) ?_
              refine l_val rfl rfl rfl (r_move (v := .int .i64 t55) rfl) ?_
              refine l_nil ?_
              refine c_close t55 () m3 [0, 1, 2] (by exact ⟨rfl, rfl, rfl, rfl, rfl, trivial⟩) (by decide) rfl (by exact ⟨(by subst hn3; exact H53), trivial⟩) (Nat.lt_succ_self _)
            ) (by kernel_rfl)
        · have H54 := cnd_f hb H45; clear H45
          refine c_exit ?_
          refine c_close () () 0 [0] (by exact ⟨rfl, trivial⟩) (by decide) rfl (by exact ⟨H54, trivial⟩) (Nat.lt_succ_self _)
      · rintro _ _ gg H39 _
        replace H39 : edit_CheckStep_j2 a0 = some r := H39
        refine c_tidyF [(1, .pointer (some ⟨b2, 0, none⟩))] [cellsC b2 [.int .i64 a0.Kind, .int .i64 a0.A, .int .i64 a0.B, .int .i64 a0.C, .int .i64 a0.D] 35] rfl rfl ?_
        refine c_seq ?_
        refine c_seq ?_
        refine c_region ?_
        refine l_val rfl rfl rfl (r_field Tryd.runUnderlying35 rfl Tryd.sizeOf3 rfl rfl) ?_
        refine l_load1 (i := 0) (v := .int .i64 a0.Kind) Tryd.isAgg3 rfl rfl rfl rfl rfl ?_
        refine l_val rfl rfl rfl (r_eql rfl rfl) ?_
        refine l_val rfl rfl rfl (r_move (v := .bool (decide (a0.Kind = 6))) rfl) ?_
        refine split (fun hb => ?_) (fun hb => ?_)
        · have H40 := cnd_t hb H39; clear H39
          refine l_val rfl rfl rfl (r_field Tryd.runUnderlying35 rfl Tryd.sizeOf3 rfl rfl) ?_
          refine l_load1 (i := 0) (v := .int .i64 a0.B) Tryd.isAgg3 rfl rfl rfl rfl rfl ?_
          refine l_val rfl rfl rfl (r_field Tryd.runUnderlying35 rfl Tryd.sizeOf3 rfl rfl) ?_
          refine l_load1 (i := 0) (v := .int .i64 a0.A) Tryd.isAgg3 rfl rfl rfl rfl rfl ?_
          refine l_val rfl rfl rfl (r_leq rfl rfl) ?_
          refine l_val rfl rfl rfl (r_pickT (v := .bool (decide (a0.B ≤ a0.A))) rfl rfl) ?_
          refine l_nil ?_
          refine c_if (b := (decide (a0.B ≤ a0.A))) rfl (fun hb => ?_) (fun hb => ?_)
          · have H41 := cnd_t hb H40; clear H40
            refine c_seq ?_
            refine c_region ?_
            refine l_val rfl rfl rfl (r_assign (v := .int .i64 5) rfl) ?_
            refine l_nil ?_
            refine c_ret ?_
            obtain rfl := Option.some.inj H41
            refine ret1 (v := .int .i64 5) rfl rfl (fin rfl)
          · have H42 := cnd_f hb H40; clear H40
            refine c_skip ?_
            refine c_seq ?_
            refine c_region ?_
            refine l_val rfl rfl rfl (r_assign (v := .int .i64 0) rfl) ?_
            refine l_nil ?_
            refine c_ret ?_
            obtain rfl := Option.some.inj H42
            refine ret1 (v := .int .i64 0) rfl rfl (fin rfl)
        · have H43 := cnd_f hb H39; clear H39
          refine l_passed rfl rfl rfl ?_
          refine l_passed rfl rfl rfl ?_
          refine l_passed rfl rfl rfl ?_
          refine l_passed rfl rfl rfl ?_
          refine l_passed rfl rfl rfl ?_
          refine l_val rfl rfl rfl (r_pickF (v := .bool false) rfl rfl) ?_
          refine l_nil ?_
          refine c_false rfl ?_
          refine c_skip ?_
          refine c_seq ?_
          refine c_region ?_
          refine l_val rfl rfl rfl (r_assign (v := .int .i64 0) rfl) ?_
          refine l_nil ?_
          refine c_ret ?_
          obtain rfl := Option.some.inj H43
          refine ret1 (v := .int .i64 0) rfl rfl (fin rfl)
theorem k69 {a0 : (List T_edit_Step)} {v0 : Value} {r : Int} {w : World} {h : Heap} (hw : Know h w noS) (f0 : FrS h 5 v0 (a0.map e_edit_Step)) (H : edit_Check a0 = some r) : Does Tryd.prog 69 (List.toArray [v0]) w (fun v w' => v = (.int .i64 r) ∧ Grow w w') := by
  refine enter (n := 21) Tryd.func69 rfl rfl rfl noS [] (Sat.nil _ _) ?_
  refine c_seq ?_
  refine c_region ?_
  refine l_val rfl rfl rfl (r_assign (v := .int .i64 0) rfl) ?_
  refine l_nil ?_
  refine c_seq ?_
  refine c_seq ?_
  refine c_region ?_
  refine l_val rfl rfl rfl (r_move (v := v0) rfl) ?_
  refine l_val rfl rfl rfl (r_lenF Tryd.underlying22 rfl f0 rfl) ?_
  refine l_val rfl rfl rfl (r_gtr rfl rfl) ?_
  refine l_nil ?_
  refine c_if (b := (decide (50 < (a0.length : Int)))) rfl (fun hb => ?_) (fun hb => ?_)
  · have H11 := cnd_t hb H; clear H
    refine c_seq ?_
    refine c_region ?_
    refine l_val rfl rfl rfl (r_assign (v := .int .i64 4) rfl) ?_
    refine l_nil ?_
    refine c_ret ?_
    obtain rfl := Option.some.inj H11
    refine ret1 (v := .int .i64 4) rfl rfl (fin rfl)
  · have H12 := cnd_f hb H; clear H
    refine c_skip ?_
    refine c_seq ?_
    refine c_seq ?_
    refine c_region ?_
    refine l_val rfl rfl rfl (r_move (v := v0) rfl) ?_
    refine l_val rfl rfl rfl (r_lenF Tryd.underlying22 rfl f0 rfl) ?_
    refine l_val rfl rfl rfl (r_move (v := .int .i64 0) rfl) ?_
    refine l_nil ?_
    refine c_block ?_
    refine c_fix (σ := Int) (τ := Unit) (fun next1 s => edit_Check_l1 a0 next1 s) (fun s t => [(9, v0), (10, .int .i64 (a0.length : Int)), (11, .int .i64 s)]) (fun s t => []) (fun s t => True) 0 () [] H12 (by exact trivial) (by exact ⟨rfl, rfl, rfl, trivial⟩) (by decide) rfl ?_
    rintro x11_2 _ m1 gg H13 _
    clear H12
    replace H13 : edit_Check_l1 a0 (it (fun next1 s => edit_Check_l1 a0 next1 s) m1) x11_2 = some r := H13
    generalize hn1 : it (fun next1 s => edit_Check_l1 a0 next1 s) m1 = next1 at H13
    refine c_tidyF [(9, v0), (10, .int .i64 (a0.length : Int)), (11, .int .i64 x11_2)] [] rfl rfl ?_
    refine c_seq ?_
    refine c_region ?_
    refine l_val rfl rfl rfl (r_lss rfl rfl) ?_
    refine l_nil ?_
    refine c_seq ?_
    refine c_if (b := (decide (x11_2 < (a0.length : Int)))) rfl (fun hb => ?_) (fun hb => ?_)
    · have H14 := cnd_t hb H13; clear H13
      refine c_skip ?_
      refine c_seq ?_
      refine c_block ?_
      refine c_seq ?_
      refine c_region ?_
      obtain ⟨t13, h_t13, H15⟩ := bnd_some H14; clear H14
      refine l_val rfl rfl rfl (r_indexF Tryd.underlying22 Tryd.sizeOf35 rfl rfl f0 h_t13) ?_
      refine l_read (fun w hF hS => run_loadGN (f := e_edit_Step) (i := x11_2) (sz := 5) (j := 0) (vs := [.int .i64 t13.Kind, .int .i64 t13.A, .int .i64 t13.B, .int .i64 t13.C, .int .i64 t13.D]) Tryd.isAgg35 Tryd.sizeOf35 rfl rfl (f0.row (hw.now hF)) h_t13 rfl) rfl rfl rfl ?_
      refine l_alloc (cs := [.int .i64 0, .int .i64 0, .int .i64 0, .int .i64 0, .int .i64 0]) Tryd.zeroValue35 rfl rfl rfl (fun b1 => ?_)
      refine l_store (i := 0) (vs := [.int .i64 t13.Kind, .int .i64 t13.A, .int .i64 t13.B, .int .i64 t13.C, .int .i64 t13.D]) (cs' := [.int .i64 t13.Kind, .int .i64 t13.A, .int .i64 t13.B, .int .i64 t13.C, .int .i64 t13.D]) Tryd.sizeOf35 rfl rfl rfl rfl rfl rfl rfl rfl rfl ?_
      refine l_nil ?_
      refine c_seq ?_
      refine c_region ?_
      refine l_loadN (i := 0) (vs := [.int .i64 t13.Kind, .int .i64 t13.A, .int .i64 t13.B, .int .i64 t13.C, .int .i64 t13.D]) Tryd.isAgg35 Tryd.sizeOf35 rfl rfl rfl rfl rfl ?_
      obtain ⟨t16, h_t16, H16⟩ := bnd_some H15; clear H15
      refine l_call (k116 h_t16) Tryd.call116 rfl rfl rfl ?_
      refine l_val rfl rfl rfl (r_assign (v := .int .i64 t16) rfl) ?_
      refine l_nil ?_
      refine c_seq ?_
      refine c_region ?_
      refine l_val rfl rfl rfl (r_move (v := .int .i64 t16) rfl) ?_
      refine l_val rfl rfl rfl (r_neq rfl rfl) ?_
      refine l_nil ?_
      refine c_if (b := (decide (t16 ≠ 0))) rfl (fun hb => ?_) (fun hb => ?_)
      · have H17 := cnd_t hb H16; clear H16
        refine c_seq ?_
        refine c_region ?_
        refine l_val rfl rfl rfl (r_move (v := .int .i64 t16) rfl) ?_
        refine l_val rfl rfl rfl (r_assign (v := .int .i64 t16) rfl) ?_
        refine l_nil ?_
        refine c_ret ?_
        obtain rfl := Option.some.inj H17
        refine ret1 (v := .int .i64 t16) rfl rfl (fin rfl)
      · have H18 := cnd_f hb H16; clear H16
        refine c_skip ?_
        refine c_region ?_
        obtain ⟨t20, h_t20, H19⟩ := bnd_some H18; clear H18
        refine l_val rfl rfl rfl (r_addG rfl rfl h_t20) ?_
        refine l_val rfl rfl rfl (r_move (v := .int .i64 t20) rfl) ?_
        refine l_nil ?_
        refine c_close t20 () m1 [] (by exact ⟨rfl, rfl, rfl, trivial⟩) (by decide) rfl (by exact ⟨(by subst hn1; exact H19), trivial⟩) (Nat.lt_succ_self _)
    · have H20 := cnd_f hb H13; clear H13
      refine c_exit ?_
      refine c_seq ?_
      refine c_region ?_
      refine l_val rfl rfl rfl (r_assign (v := .int .i64 0) rfl) ?_
      refine l_nil ?_
      refine c_ret ?_
      obtain rfl := Option.some.inj H20
      refine ret1 (v := .int .i64 0) rfl rfl (fin rfl)
theorem k117 {a0 : Int} {a1 : Int} {a2 : Int} {r : Bool} (H : pix_outside a0 a1 a2 = some r) : Ret Tryd.prog 117 [.int .i64 a0, .int .i64 a1, .int .i64 a2] (.bool r) := by
  refine enterRet (n := 15) Tryd.func117 rfl rfl rfl (fun wd => ?_)
  refine c_seq ?_
  refine c_region ?_
  refine l_val rfl rfl rfl (r_assign (v := .bool false) rfl) ?_
  refine l_nil ?_
  refine c_seq ?_
  refine c_region ?_
  refine l_val rfl rfl rfl (r_move (v := .int .i64 a0) rfl) ?_
  refine l_val rfl rfl rfl (r_move (v := .int .i64 a1) rfl) ?_
  refine l_val rfl rfl rfl (r_lss rfl rfl) ?_
  refine l_val rfl rfl rfl (r_move (v := .bool (decide (a0 < a1))) rfl) ?_
  refine split (fun hb => ?_) (fun hb => ?_)
  · have H3 := cnd_t hb H; clear H
    refine l_passed rfl rfl rfl ?_
    refine l_passed rfl rfl rfl ?_
    refine l_passed rfl rfl rfl ?_
    refine l_val rfl rfl rfl (r_pickT (v := .bool true) rfl rfl) ?_
    refine l_val rfl rfl rfl (r_assign (v := .bool true) rfl) ?_
    refine l_nil ?_
    refine c_ret ?_
    obtain rfl := Option.some.inj H3
    refine ret1 (v := .bool true) rfl rfl (fin rfl)
  · have H4 := cnd_f hb H; clear H
    refine l_val rfl rfl rfl (r_move (v := .int .i64 a0) rfl) ?_
    refine l_val rfl rfl rfl (r_move (v := .int .i64 a2) rfl) ?_
    refine l_val rfl rfl rfl (r_gtr rfl rfl) ?_
    refine l_val rfl rfl rfl (r_pickF (v := .bool (decide (a2 < a0))) rfl rfl) ?_
    refine l_val rfl rfl rfl (r_assign (v := .bool (decide (a2 < a0))) rfl) ?_
    refine l_nil ?_
    refine c_ret ?_
    obtain rfl := Option.some.inj H4
    refine ret1 (v := .bool (decide (a2 < a0))) rfl rfl (fin rfl)
theorem k70 {a0 : T_api_Image} {v0_2 : Value} {r : Int} {w : World} {h : Heap} (hw : Know h w noS) (f0_2 : FrS h 1 v0_2 (a0.Pixels.map e_u8)) (H : pix_Check a0 = some r) : Does Tryd.prog 70 (List.toArray [.agg #[.int .i64 a0.W, .int .i64 a0.H, v0_2]]) w (fun v w' => v = (.int .i64 r) ∧ Grow w w') := by
  refine enter (n := 21) Tryd.func70 rfl rfl rfl noS [] (Sat.nil _ _) ?_
  refine c_seq ?_
  refine c_region ?_
  refine l_box (cs := [.int .i64 a0.W, .int .i64 a0.H, v0_2]) rfl rfl rfl rfl (fun b1 => ?_)
  refine l_val rfl rfl rfl (r_assign (v := .int .i64 0) rfl) ?_
  refine l_nil ?_
  refine c_seq ?_
  refine c_seq ?_
  refine c_region ?_
  refine l_val rfl rfl rfl (r_field Tryd.runUnderlying48 rfl Tryd.sizeOf3 rfl rfl) ?_
  refine l_load1 (i := 0) (v := .int .i64 a0.W) Tryd.isAgg3 rfl rfl rfl rfl rfl ?_
  obtain ⟨t5, h_t5, H11⟩ := bnd_some H; clear H
  refine l_call (k117 h_t5) Tryd.call117 rfl rfl rfl ?_
  refine l_val rfl rfl rfl (r_move (v := .bool t5) rfl) ?_
  refine split (fun hb => ?_) (fun hb => ?_)
  · have H12 := cnd_t hb H11; clear H11
    refine l_passed rfl rfl rfl ?_
    refine l_passed rfl rfl rfl ?_
    refine l_passed rfl rfl rfl ?_
    refine l_val rfl rfl rfl (r_pickT (v := .bool true) rfl rfl) ?_
    refine l_nil ?_
    refine c_true rfl ?_
    refine c_seq ?_
    refine c_region ?_
    refine l_val rfl rfl rfl (r_assign (v := .int .i64 2) rfl) ?_
    refine l_nil ?_
    refine c_ret ?_
    obtain rfl := Option.some.inj H12
    refine ret1 (v := .int .i64 2) rfl rfl (fin rfl)
  · have H13 := cnd_f hb H11; clear H11
    refine l_val rfl rfl rfl (r_field Tryd.runUnderlying48 rfl Tryd.sizeOf3 rfl rfl) ?_
    refine l_load1 (i := 0) (v := .int .i64 a0.H) Tryd.isAgg3 rfl rfl rfl rfl rfl ?_
    obtain ⟨t9, h_t9, H14⟩ := bnd_some H13; clear H13
    refine l_call (k117 h_t9) Tryd.call117 rfl rfl rfl ?_
    refine l_val rfl rfl rfl (r_pickF (v := .bool t9) rfl rfl) ?_
    refine l_nil ?_
    refine c_if (b := t9) rfl (fun hb => ?_) (fun hb => ?_)
    · have H15 := cnd_t hb H14; clear H14
      refine c_seq ?_
      refine c_region ?_
      refine l_val rfl rfl rfl (r_assign (v := .int .i64 2) rfl) ?_
      refine l_nil ?_
      refine c_ret ?_
      obtain rfl := Option.some.inj H15
      refine ret1 (v := .int .i64 2) rfl rfl (fin rfl)
    · have H16 := cnd_f hb H14; clear H14
      refine c_skip ?_
      refine c_seq ?_
      refine c_seq ?_
      refine c_region ?_
      refine l_val rfl rfl rfl (r_field Tryd.runUnderlying48 rfl Tryd.sizeOf46 rfl rfl) ?_
      refine l_load1 (i := 0) (v := v0_2) Tryd.isAgg46 rfl rfl rfl rfl rfl ?_
      refine l_val rfl rfl rfl (r_lenF Tryd.underlying46 rfl f0_2 rfl) ?_
      refine l_val rfl rfl rfl (r_field Tryd.runUnderlying48 rfl Tryd.sizeOf3 rfl rfl) ?_
      refine l_load1 (i := 0) (v := .int .i64 a0.W) Tryd.isAgg3 rfl rfl rfl rfl rfl ?_
      obtain ⟨t16, h_t16, H17⟩ := bnd_some H16; clear H16
      refine l_val rfl rfl rfl (r_mulG rfl rfl h_t16) ?_
      refine l_val rfl rfl rfl (r_field Tryd.runUnderlying48 rfl Tryd.sizeOf3 rfl rfl) ?_
      refine l_load1 (i := 0) (v := .int .i64 a0.H) Tryd.isAgg3 rfl rfl rfl rfl rfl ?_
      obtain ⟨t19, h_t19, H18⟩ := bnd_some H17; clear H17
      refine l_val rfl rfl rfl (r_mulG rfl rfl h_t19) ?_
      refine l_val rfl rfl rfl (r_neq rfl rfl) ?_
      refine l_nil ?_
      refine c_if (b := (decide ((a0.Pixels.length : Int) ≠ t19))) rfl (fun hb => ?_) (fun hb => ?_)
      · have H19 := cnd_t hb H18; clear H18
        refine c_seq ?_
        refine c_region ?_
        refine l_val rfl rfl rfl (r_assign (v := .int .i64 1) rfl) ?_
        refine l_nil ?_
        refine c_ret ?_
        obtain rfl := Option.some.inj H19
        refine ret1 (v := .int .i64 1) rfl rfl (fin rfl)
      · have H20 := cnd_f hb H18; clear H18
        refine c_skip ?_
        refine c_seq ?_
        refine c_region ?_
        refine l_val rfl rfl rfl (r_assign (v := .int .i64 0) rfl) ?_
        refine l_nil ?_
        refine c_ret ?_
        obtain rfl := Option.some.inj H20
        refine ret1 (v := .int .i64 0) rfl rfl (fin rfl)
theorem k118 {a0 : T_edit_Step} {a1 : Int} {a2 : Int} {r : Int × Int × Bool} (H : edit_Step_size a0 a1 a2 = some r) : Ret Tryd.prog 118 [.agg #[.int .i64 a0.Kind, .int .i64 a0.A, .int .i64 a0.B, .int .i64 a0.C, .int .i64 a0.D], .int .i64 a1, .int .i64 a2] (.tuple #[.int .i64 r.1, .int .i64 r.2.1, .bool r.2.2]) := by
  refine enterRet (n := 48) Tryd.func118 rfl rfl rfl (fun wd => ?_)
  refine c_seq ?_
  refine c_region ?_
  refine l_box (cs := [.int .i64 a0.Kind, .int .i64 a0.A, .int .i64 a0.B, .int .i64 a0.C, .int .i64 a0.D]) rfl rfl rfl rfl (fun b1 => ?_)
  refine l_val rfl rfl rfl (r_assign (v := .int .i64 0) rfl) ?_
  refine l_val rfl rfl rfl (r_assign (v := .int .i64 0) rfl) ?_
  refine l_val rfl rfl rfl (r_assign (v := .bool false) rfl) ?_
  refine l_nil ?_
  refine c_meet (r := r) (σ := Unit) (τ := Unit) (fun s => edit_Step_size_j1 a1 a2) (fun s t => [(1, .int .i64 a1), (2, .int .i64 a2)]) (fun s t => []) (fun s t => True) ?_ ?_
  · refine c_seq ?_
    refine c_region ?_
    refine l_val rfl rfl rfl (r_field Tryd.runUnderlying35 rfl Tryd.sizeOf3 rfl rfl) ?_
    refine l_load1 (i := 0) (v := .int .i64 a0.Kind) Tryd.isAgg3 rfl rfl rfl rfl rfl ?_
    refine l_nil ?_
    refine c_block ?_
    refine c_seq ?_
    refine c_region ?_
    refine l_val rfl rfl rfl (r_eql rfl rfl) ?_
    refine l_val rfl rfl rfl (r_assign (v := .bool (decide (a0.Kind = 1))) rfl) ?_
    refine l_nil ?_
    refine c_if (b := (decide (a0.Kind = 1))) rfl (fun hb => ?_) (fun hb => ?_)
    · have H15 := cnd_t hb H; clear H
      refine c_seq ?_
      refine c_region ?_
      refine l_val rfl rfl rfl (r_field Tryd.runUnderlying35 rfl Tryd.sizeOf3 rfl rfl) ?_
      refine l_load1 (i := 0) (v := .int .i64 a0.A) Tryd.isAgg3 rfl rfl rfl rfl rfl ?_
      refine l_val rfl rfl rfl (r_geq rfl rfl) ?_
      refine l_nil ?_
      refine c_if (b := (decide (5 ≤ a0.A))) rfl (fun hb => ?_) (fun hb => ?_)
      · have H16 := cnd_t hb H15; clear H15
        refine c_seq ?_
        refine c_region ?_
        refine l_val rfl rfl rfl (r_move (v := .int .i64 a2) rfl) ?_
        refine l_val rfl rfl rfl (r_move (v := .int .i64 a1) rfl) ?_
        refine l_val rfl rfl rfl (r_assign (v := .int .i64 a2) rfl) ?_
        refine l_val rfl rfl rfl (r_assign (v := .int .i64 a1) rfl) ?_
        refine l_val rfl rfl rfl (r_assign (v := .bool true) rfl) ?_
        refine l_nil ?_
        refine c_ret ?_
        obtain rfl := Option.some.inj H16
        refine ret3 (v1 := .int .i64 a2) (v2 := .int .i64 a1) (v3 := .bool true) rfl rfl rfl rfl (fin rfl)
      · have H17 := cnd_f hb H15; clear H15
        refine c_skip ?_
        refine c_close () () 0 [] (by exact ⟨rfl, rfl, trivial⟩) (by decide) rfl (by exact ⟨H17, trivial⟩) (Nat.lt_succ_self _)
    · have H18 := cnd_f hb H; clear H
      refine c_seq ?_
      refine c_region ?_
      refine l_val rfl rfl rfl (r_eql rfl rfl) ?_
      refine l_val rfl rfl rfl (r_assign (v := .bool (decide (a0.Kind = 2))) rfl) ?_
      refine l_nil ?_
      refine c_if (b := (decide (a0.Kind = 2))) rfl (fun hb => ?_) (fun hb => ?_)
      · have H19 := cnd_t hb H18; clear H18
        refine c_seq ?_
        exact c_regionD (Kd.p :: Kd.d [0] _ :: Kd.p :: Kd.d [0] _ :: Kd.p :: Kd.d [0] _ :: Kd.p :: Kd.d [0] _ :: Kd.p :: Kd.p :: Kd.p :: Kd.p :: Kd.p :: Kd.d [0] _ :: Kd.p :: Kd.d [0] _ :: Kd.p :: Kd.p :: Kd.p :: Kd.p :: Kd.p :: Kd.p :: Kd.p :: []) 0 mixed (by
          refine d_val rfl rfl (r_field Tryd.runUnderlying35 rfl Tryd.sizeOf3 rfl rfl) ?_
          refine d_load1 (i := 0) (v := .int .i64 a0.C) Tryd.isAgg3 rfl rfl rfl rfl ?_
          refine d_val rfl rfl (r_field Tryd.runUnderlying35 rfl Tryd.sizeOf3 rfl rfl) ?_
          refine d_load1 (i := 0) (v := .int .i64 a0.D) Tryd.isAgg3 rfl rfl rfl rfl ?_
          refine d_val rfl rfl (r_field Tryd.runUnderlying35 rfl Tryd.sizeOf3 rfl rfl) ?_
          refine d_load1 (i := 0) (v := .int .i64 a0.A) Tryd.isAgg3 rfl rfl rfl rfl ?_
          refine d_val rfl rfl (r_field Tryd.runUnderlying35 rfl Tryd.sizeOf3 rfl rfl) ?_
          refine d_load1 (i := 0) (v := .int .i64 a0.C) Tryd.isAgg3 rfl rfl rfl rfl ?_
          have h_t28 := bnd_val H19
          have H20 := bnd_rest H19
          refine d_val rfl rfl (r_addG rfl rfl h_t28) ?_
          refine d_val rfl rfl (r_move (v := .int .i64 a1) rfl) ?_
          refine d_val rfl rfl (r_leq rfl rfl) ?_
          refine d_val rfl rfl (r_move (v := .bool (decide ((val (gI (a0.A + a0.C))) ≤ a1))) rfl) ?_
          refine splitS (fun hb => ?_) (fun hb => ?_)
          · have H21 := cnd_t hb H20
            refine d_val rfl rfl (r_field Tryd.runUnderlying35 rfl Tryd.sizeOf3 rfl rfl) ?_
            refine d_load1 (i := 0) (v := .int .i64 a0.B) Tryd.isAgg3 rfl rfl rfl rfl ?_
            refine d_val rfl rfl (r_field Tryd.runUnderlying35 rfl Tryd.sizeOf3 rfl rfl) ?_
            refine d_load1 (i := 0) (v := .int .i64 a0.D) Tryd.isAgg3 rfl rfl rfl rfl ?_
            have h_t36 := bnd_val H21
            have H22 := bnd_rest H21
            refine d_val rfl rfl (r_addG rfl rfl h_t36) ?_
            refine d_val rfl rfl (r_move (v := .int .i64 a2) rfl) ?_
            refine d_val rfl rfl (r_leq rfl rfl) ?_
            refine d_val rfl rfl (r_pickT (v := .bool (decide ((val (gI (a0.B + a0.D))) ≤ a2))) rfl rfl) ?_
            refine d_val rfl rfl (r_assign (v := .int .i64 a0.C) rfl) ?_
            refine d_val rfl rfl (r_assign (v := .int .i64 a0.D) rfl) ?_
            refine d_val rfl rfl (r_assign (v := .bool (decide ((val (gI (a0.B + a0.D))) ≤ a2))) rfl) ?_
            refine d_nil ?_
            refine c_ret ?_
            obtain rfl := Option.some.inj H22
            refine ret3 (v1 := .int .i64 a0.C) (v2 := .int .i64 a0.D) (v3 := .bool (decide ((val (gI (a0.B + a0.D))) ≤ a2))) rfl rfl rfl rfl (fin rfl)
          · have H23 := cnd_f hb H20
            refine d_pass rfl rfl ?_
            refine d_pass rfl rfl ?_
            refine d_pass rfl rfl ?_
            refine d_pass rfl rfl ?_
            refine d_pass rfl rfl ?_
            refine d_pass rfl rfl ?_
            refine d_pass rfl rfl ?_
            refine d_val rfl rfl (r_pickF (v := .bool false) rfl rfl) ?_
            refine d_val rfl rfl (r_assign (v := .int .i64 a0.C) rfl) ?_
            refine d_val rfl rfl (r_assign (v := .int .i64 a0.D) rfl) ?_
            refine d_val rfl rfl (r_assign (v := .bool false) rfl) ?_
            refine d_nil ?_
            refine c_ret ?_
            obtain rfl := Option.some.inj H23
            refine ret3 (v1 := .int .i64 a0.C) (v2 := .int .i64 a0.D) (v3 := .bool false) rfl rfl rfl rfl (fin rfl)
          ) (by kernel_rfl)
      · have H24 := cnd_f hb H18; clear H18
        refine c_seq ?_
        refine c_region ?_
        refine l_val rfl rfl rfl (r_eql rfl rfl) ?_
        refine l_val rfl rfl rfl (r_assign (v := .bool (decide (a0.Kind = 3))) rfl) ?_
        refine l_nil ?_
        refine c_if (b := (decide (a0.Kind = 3))) rfl (fun hb => ?_) (fun hb => ?_)
        · have H25 := cnd_t hb H24; clear H24
          refine c_seq ?_
          exact c_regionD (Kd.p :: Kd.d [0] _ :: Kd.p :: Kd.d [0] _ :: Kd.p :: Kd.p :: Kd.p :: []) 0 mixed (by
            refine d_val rfl rfl (r_field Tryd.runUnderlying35 rfl Tryd.sizeOf3 rfl rfl) ?_
            refine d_load1 (i := 0) (v := .int .i64 a0.A) Tryd.isAgg3 rfl rfl rfl rfl ?_
            refine d_val rfl rfl (r_field Tryd.runUnderlying35 rfl Tryd.sizeOf3 rfl rfl) ?_
            refine d_load1 (i := 0) (v := .int .i64 a0.B) Tryd.isAgg3 rfl rfl rfl rfl ?_
            refine d_val rfl rfl (r_assign (v := .int .i64 a0.A) rfl) ?_
            refine d_val rfl rfl (r_assign (v := .int .i64 a0.B) rfl) ?_
            refine d_val rfl rfl (r_assign (v := .bool true) rfl) ?_
            refine d_nil ?_
            refine c_ret ?_
            obtain rfl := Option.some.inj H25
            refine ret3 (v1 := .int .i64 a0.A) (v2 := .int .i64 a0.B) (v3 := .bool true) rfl rfl rfl rfl (fin rfl)
            ) (by kernel_rfl)
        · have H26 := cnd_f hb H24; clear H24
          refine c_skip ?_
          refine c_close () () 0 [] (by exact ⟨rfl, rfl, trivial⟩) (by decide) rfl (by exact ⟨H26, trivial⟩) (Nat.lt_succ_self _)
  · rintro _ _ gg H14 _
    replace H14 : edit_Step_size_j1 a1 a2 = some r := H14
    refine c_tidyF [(1, .int .i64 a1), (2, .int .i64 a2)] [] rfl rfl ?_
    refine c_seq ?_
    refine c_region ?_
    refine l_val rfl rfl rfl (r_move (v := .int .i64 a1) rfl) ?_
    refine l_val rfl rfl rfl (r_move (v := .int .i64 a2) rfl) ?_
    refine l_val rfl rfl rfl (r_assign (v := .int .i64 a1) rfl) ?_
    refine l_val rfl rfl rfl (r_assign (v := .int .i64 a2) rfl) ?_
    refine l_val rfl rfl rfl (r_assign (v := .bool true) rfl) ?_
    refine l_nil ?_
    refine c_ret ?_
    obtain rfl := Option.some.inj H14
    refine ret3 (v1 := .int .i64 a1) (v2 := .int .i64 a2) (v3 := .bool true) rfl rfl rfl rfl (fin rfl)
theorem k71 {a0 : (List T_edit_Step)} {v0 : Value} {a1 : Int} {a2 : Int} {r : Int × Int × Int} {w : World} {h : Heap} (hw : Know h w noS) (f0 : FrS h 5 v0 (a0.map e_edit_Step)) (H : edit_size a0 a1 a2 = some r) : Does Tryd.prog 71 (List.toArray [v0, .int .i64 a1, .int .i64 a2]) w (fun v w' => v = (.tuple #[.int .i64 r.1, .int .i64 r.2.1, .int .i64 r.2.2]) ∧ Grow w w') := by
  refine enter (n := 37) Tryd.func71 rfl rfl rfl noS [] (Sat.nil _ _) ?_
  refine c_seq ?_
  refine c_region ?_
  refine l_val rfl rfl rfl (r_assign (v := .int .i64 0) rfl) ?_
  refine l_val rfl rfl rfl (r_assign (v := .int .i64 0) rfl) ?_
  refine l_val rfl rfl rfl (r_assign (v := .int .i64 0) rfl) ?_
  refine l_nil ?_
  refine c_seq ?_
  refine c_seq ?_
  refine c_region ?_
  refine l_val rfl rfl rfl (r_move (v := .int .i64 a1) rfl) ?_
  obtain ⟨t13, h_t13, H16⟩ := bnd_some H; clear H
  refine l_call (k113 h_t13) Tryd.call113 rfl rfl rfl ?_
  refine l_val rfl rfl rfl (r_move (v := .bool t13) rfl) ?_
  refine split (fun hb => ?_) (fun hb => ?_)
  · have H17 := cnd_t hb H16; clear H16
    refine l_passed rfl rfl rfl ?_
    refine l_passed rfl rfl rfl ?_
    refine l_val rfl rfl rfl (r_pickT (v := .bool true) rfl rfl) ?_
    refine l_nil ?_
    refine c_true rfl ?_
    refine c_seq ?_
    refine c_region ?_
    refine l_val rfl rfl rfl (r_assign (v := .int .i64 0) rfl) ?_
    refine l_val rfl rfl rfl (r_assign (v := .int .i64 0) rfl) ?_
    refine l_val rfl rfl rfl (r_assign (v := .int .i64 2) rfl) ?_
    refine l_nil ?_
    refine c_ret ?_
    obtain rfl := Option.some.inj H17
    refine ret3 (v1 := .int .i64 0) (v2 := .int .i64 0) (v3 := .int .i64 2) rfl rfl rfl rfl (fin rfl)
  · have H18 := cnd_f hb H16; clear H16
    refine l_val rfl rfl rfl (r_move (v := .int .i64 a2) rfl) ?_
    obtain ⟨t16, h_t16, H19⟩ := bnd_some H18; clear H18
    refine l_call (k113 h_t16) Tryd.call113 rfl rfl rfl ?_
    refine l_val rfl rfl rfl (r_pickF (v := .bool t16) rfl rfl) ?_
    refine l_nil ?_
    refine c_if (b := t16) rfl (fun hb => ?_) (fun hb => ?_)
    · have H20 := cnd_t hb H19; clear H19
      refine c_seq ?_
      refine c_region ?_
      refine l_val rfl rfl rfl (r_assign (v := .int .i64 0) rfl) ?_
      refine l_val rfl rfl rfl (r_assign (v := .int .i64 0) rfl) ?_
      refine l_val rfl rfl rfl (r_assign (v := .int .i64 2) rfl) ?_
      refine l_nil ?_
      refine c_ret ?_
      obtain rfl := Option.some.inj H20
      refine ret3 (v1 := .int .i64 0) (v2 := .int .i64 0) (v3 := .int .i64 2) rfl rfl rfl rfl (fin rfl)
    · have H21 := cnd_f hb H19; clear H19
      refine c_skip ?_
      refine c_meet (r := r) (σ := Int × Int) (τ := Unit) (fun s => edit_size_j1 s.1 s.2) (fun s t => [(1, .int .i64 s.1), (2, .int .i64 s.2)]) (fun s t => []) (fun s t => True) ?_ ?_
      · refine c_seq ?_
        refine c_region ?_
        refine l_val rfl rfl rfl (r_move (v := v0) rfl) ?_
        refine l_val rfl rfl rfl (r_lenF Tryd.underlying22 rfl f0 rfl) ?_
        refine l_val rfl rfl rfl (r_move (v := .int .i64 0) rfl) ?_
        refine l_nil ?_
        refine c_block ?_
        refine c_fix (σ := Int × Int × Int) (τ := Unit) (fun next2 s => edit_size_l2 a0 next2 s.1 s.2.1 s.2.2) (fun s t => [(1, .int .i64 s.1), (2, .int .i64 s.2.1), (18, v0), (19, .int .i64 (a0.length : Int)), (20, .int .i64 s.2.2)]) (fun s t => []) (fun s t => True) (a1, a2, 0) () [] H21 (by exact trivial) (by exact ⟨rfl, rfl, rfl, rfl, rfl, trivial⟩) (by decide) rfl ?_
        rintro ⟨x1_3, x2_3, x20_2⟩ _ m2 gg H23 _
        clear H21
        replace H23 : edit_size_l2 a0 (it (fun next2 s => edit_size_l2 a0 next2 s.1 s.2.1 s.2.2) m2) x1_3 x2_3 x20_2 = some r := H23
        generalize hn2 : it (fun next2 s => edit_size_l2 a0 next2 s.1 s.2.1 s.2.2) m2 = next2 at H23
        refine c_tidyF [(1, .int .i64 x1_3), (2, .int .i64 x2_3), (18, v0), (19, .int .i64 (a0.length : Int)), (20, .int .i64 x20_2)] [] rfl rfl ?_
        refine c_seq ?_
        refine c_region ?_
        refine l_val rfl rfl rfl (r_lss rfl rfl) ?_
        refine l_nil ?_
        refine c_seq ?_
        refine c_if (b := (decide (x20_2 < (a0.length : Int)))) rfl (fun hb => ?_) (fun hb => ?_)
        · have H24 := cnd_t hb H23; clear H23
          refine c_skip ?_
          refine c_seq ?_
          refine c_block ?_
          refine c_seq ?_
          refine c_region ?_
          obtain ⟨t22, h_t22, H25⟩ := bnd_some H24; clear H24
          refine l_val rfl rfl rfl (r_indexF Tryd.underlying22 Tryd.sizeOf35 rfl rfl f0 h_t22) ?_
          refine l_read (fun w hF hS => run_loadGN (f := e_edit_Step) (i := x20_2) (sz := 5) (j := 0) (vs := [.int .i64 t22.Kind, .int .i64 t22.A, .int .i64 t22.B, .int .i64 t22.C, .int .i64 t22.D]) Tryd.isAgg35 Tryd.sizeOf35 rfl rfl (f0.row (hw.now hF)) h_t22 rfl) rfl rfl rfl ?_
          refine l_alloc (cs := [.int .i64 0, .int .i64 0, .int .i64 0, .int .i64 0, .int .i64 0]) Tryd.zeroValue35 rfl rfl rfl (fun b1 => ?_)
          refine l_store (i := 0) (vs := [.int .i64 t22.Kind, .int .i64 t22.A, .int .i64 t22.B, .int .i64 t22.C, .int .i64 t22.D]) (cs' := [.int .i64 t22.Kind, .int .i64 t22.A, .int .i64 t22.B, .int .i64 t22.C, .int .i64 t22.D]) Tryd.sizeOf35 rfl rfl rfl rfl rfl rfl rfl rfl rfl ?_
          refine l_nil ?_
          refine c_seq ?_
          refine c_region ?_
          refine l_val rfl rfl rfl (r_assign (v := .bool false) rfl) ?_
          refine l_nil ?_
          refine c_seq ?_
          refine c_region ?_
          refine l_loadN (i := 0) (vs := [.int .i64 t22.Kind, .int .i64 t22.A, .int .i64 t22.B, .int .i64 t22.C, .int .i64 t22.D]) Tryd.isAgg35 Tryd.sizeOf35 rfl rfl rfl rfl rfl ?_
          refine l_val rfl rfl rfl (r_move (v := .int .i64 x1_3) rfl) ?_
          refine l_val rfl rfl rfl (r_move (v := .int .i64 x2_3) rfl) ?_
          obtain ⟨t28, h_t28, H26⟩ := bnd_some H25; clear H25
          refine l_call (k118 h_t28) Tryd.call118 rfl rfl rfl ?_
          refine l_val rfl rfl rfl (r_move (v := .tuple #[.int .i64 t28.1, .int .i64 t28.2.1, .bool t28.2.2]) rfl) ?_
          refine l_val rfl rfl rfl (r_extract (v := .int .i64 t28.1) rfl rfl) ?_
          refine l_val rfl rfl rfl (r_extract (v := .int .i64 t28.2.1) rfl rfl) ?_
          refine l_val rfl rfl rfl (r_extract (v := .bool t28.2.2) rfl rfl) ?_
          refine l_val rfl rfl rfl (r_assign (v := .int .i64 t28.1) rfl) ?_
          refine l_val rfl rfl rfl (r_assign (v := .int .i64 t28.2.1) rfl) ?_
          refine l_val rfl rfl rfl (r_assign (v := .bool t28.2.2) rfl) ?_
          refine l_nil ?_
          refine c_seq ?_
          refine c_region ?_
          refine l_val rfl rfl rfl (r_move (v := .bool t28.2.2) rfl) ?_
          refine l_val rfl rfl rfl (r_not rfl) ?_
          refine l_nil ?_
          refine c_if (b := (!t28.2.2)) rfl (fun hb => ?_) (fun hb => ?_)
          · have H27 := cnd_t hb H26; clear H26
            refine c_seq ?_
            refine c_region ?_
            refine l_val rfl rfl rfl (r_assign (v := .int .i64 0) rfl) ?_
            refine l_val rfl rfl rfl (r_assign (v := .int .i64 0) rfl) ?_
            refine l_val rfl rfl rfl (r_assign (v := .int .i64 7) rfl) ?_
            refine l_nil ?_
            refine c_ret ?_
            obtain rfl := Option.some.inj H27
            refine ret3 (v1 := .int .i64 0) (v2 := .int .i64 0) (v3 := .int .i64 7) rfl rfl rfl rfl (fin rfl)
          · have H28 := cnd_f hb H26; clear H26
            refine c_skip ?_
            refine c_region ?_
            obtain ⟨t34, h_t34, H29⟩ := bnd_some H28; clear H28
            refine l_val rfl rfl rfl (r_addG rfl rfl h_t34) ?_
            refine l_val rfl rfl rfl (r_move (v := .int .i64 t34) rfl) ?_
            refine l_nil ?_
            refine c_close (t28.1, t28.2.1, t34) () m2 [] (by exact ⟨rfl, rfl, rfl, rfl, rfl, trivial⟩) (by decide) rfl (by exact ⟨(by subst hn2; exact H29), trivial⟩) (Nat.lt_succ_self _)
        · have H30 := cnd_f hb H23; clear H23
          refine c_exit ?_
          refine c_close (x1_3, x2_3) () 0 [] (by exact ⟨rfl, rfl, trivial⟩) (by decide) rfl (by exact ⟨H30, trivial⟩) (Nat.lt_succ_self _)
      · rintro ⟨x1, x2⟩ _ gg H22 _
        replace H22 : edit_size_j1 x1 x2 = some r := H22
        refine c_tidyF [(1, .int .i64 x1), (2, .int .i64 x2)] [] rfl rfl ?_
        refine c_seq ?_
        refine c_region ?_
        refine l_val rfl rfl rfl (r_move (v := .int .i64 x1) rfl) ?_
        refine l_val rfl rfl rfl (r_move (v := .int .i64 x2) rfl) ?_
        refine l_val rfl rfl rfl (r_assign (v := .int .i64 x1) rfl) ?_
        refine l_val rfl rfl rfl (r_assign (v := .int .i64 x2) rfl) ?_
        refine l_val rfl rfl rfl (r_assign (v := .int .i64 0) rfl) ?_
        refine l_nil ?_
        refine c_ret ?_
        obtain rfl := Option.some.inj H22
        refine ret3 (v1 := .int .i64 x1) (v2 := .int .i64 x2) (v3 := .int .i64 0) rfl rfl rfl rfl (fin rfl)
theorem k120 {a0 : Int} {a1 : Int} {r : T_api_Image} {w : World} {h : Heap} (hw : Know h w noS) (H : pix_blank a0 a1 = some r) : Does Tryd.prog 120 (List.toArray [.int .i64 a0, .int .i64 a1]) w (fun v w' => ∃ x : (Option Addr × Nat), v = (.agg #[.int .i64 r.W, .int .i64 r.H, .slice x.1 r.Pixels.length x.2]) ∧ Turn w w' noS (rowV 5 1 (.slice x.1 r.Pixels.length x.2) r.Pixels.length (r.Pixels.map e_u8))) := by
  refine enter (n := 13) Tryd.func120 rfl rfl rfl noS [] (Sat.nil _ _) ?_
  refine c_seq ?_
  refine c_region ?_
  refine l_alloc (cs := [.int .i64 0, .int .i64 0, .slice none 0 0]) Tryd.zeroValue48 rfl rfl rfl (fun b1 => ?_)
  refine l_nil ?_
  refine c_seq ?_
  refine c_region ?_
  refine l_val rfl rfl rfl (r_move (v := .int .i64 a0) rfl) ?_
  refine l_val rfl rfl rfl (r_move (v := .int .i64 a1) rfl) ?_
  refine l_val rfl rfl rfl (r_move (v := .int .i64 a0) rfl) ?_
  obtain ⟨t8, h_t8, H4⟩ := bnd_some H; clear H
  refine l_val rfl rfl rfl (r_mulG rfl rfl h_t8) ?_
  refine l_val rfl rfl rfl (r_move (v := .int .i64 a1) rfl) ?_
  obtain ⟨t10, h_t10, H5⟩ := bnd_some H4; clear H4
  refine l_val rfl rfl rfl (r_mulG rfl rfl h_t10) ?_
  obtain ⟨t11, h_t11, H6⟩ := bnd_some H5; clear H5
  refine l_make (rds := []) (makes_makeG (E := 5) (sz := 1) (f := e_u8) (xs := t11) Tryd.underlying46 (info_of Tryd.typeInfo5) rfl rfl rfl rfl rfl rfl ⟨rfl, rfl⟩ h_t11) rfl rfl rfl (fun p => ?_)
  refine l_val rfl rfl rfl (r_build (pl := #[(0, 1), (1, 1), (2, 1)]) (ps := [(0, .int .i64 a0), (1, .int .i64 a1), (2, .slice p.1 t11.length p.2)]) (cells := #[.int .i64 a0, .int .i64 a1, .slice p.1 t11.length p.2]) Tryd.zeroValue48 Tryd.runUnderlying48 (fun w => by kernel_rfl) rfl rfl) ?_
  refine l_store (i := 0) (vs := [.int .i64 a0, .int .i64 a1, .slice p.1 t11.length p.2]) (cs' := [.int .i64 a0, .int .i64 a1, .slice p.1 t11.length p.2]) Tryd.sizeOf48 rfl rfl rfl rfl rfl rfl rfl rfl rfl ?_
  refine l_nil ?_
  refine c_ret ?_
  obtain rfl := Option.some.inj H6
  refine retC (i := 0) (vs := [.int .i64 a0, .int .i64 a1, .slice p.1 t11.length p.2]) Tryd.isAgg48 Tryd.sizeOf48 rfl rfl rfl rfl (finX p (i := 1) rfl rfl (Imp.refl _))
theorem k121 {a0 : T_api_Image} {p0_2 : Option Addr × Nat} {n0_2 : Nat} {a1 : Int} {a2 : Int} {a3 : (Nat → Int)} {r : (List Int)} {w : World} {h : Heap} {S : Nat → Prop} (hcs : (rowV 5 1 (.slice p0_2.1 n0_2 p0_2.2) n0_2 (a0.Pixels.map e_u8)).P S w) (hlt : ∀ b, S b → b < w.heap.size) (hw : Know h w S) (hn0_2 : n0_2 = a0.Pixels.length) (H : pix_set a0 a1 a2 a3 = some r) : Does Tryd.prog 121 (List.toArray [.agg #[.int .i64 a0.W, .int .i64 a0.H, .slice p0_2.1 n0_2 p0_2.2], .int .i64 a1, .int .i64 a2, .agg #[.int .u8 (a3 0), .int .u8 (a3 1), .int .u8 (a3 2)]]) w (fun v w' => ∃ x : Unit, v = (.tuple #[]) ∧ Turn w w' S (rowV 5 1 (.slice p0_2.1 n0_2 p0_2.2) n0_2 (r.map e_u8))) := by
  refine enter (n := 20) Tryd.func121 rfl rfl rfl S [rowV 5 1 (.slice p0_2.1 n0_2 p0_2.2) n0_2 (a0.Pixels.map e_u8)] (Sat.one hcs hlt) ?_
  refine c_seq ?_
  refine c_region ?_
  refine l_box (cs := [.int .i64 a0.W, .int .i64 a0.H, .slice p0_2.1 n0_2 p0_2.2]) rfl rfl rfl rfl (fun b2 => ?_)
  refine l_box (cs := [.int .u8 (a3 0), .int .u8 (a3 1), .int .u8 (a3 2)]) rfl rfl rfl rfl (fun b3 => ?_)
  refine l_nil ?_
  exact c_regionD (Kd.p :: Kd.d [1] _ :: Kd.p :: Kd.p :: Kd.d [1] _ :: Kd.p :: Kd.p :: Kd.p :: Kd.p :: Kd.d [0] _ :: Kd.p :: Kd.t 0 [2] _ _ :: []) 0 mixed (by
    refine d_val rfl rfl (r_field Tryd.runUnderlying48 rfl Tryd.sizeOf46 rfl rfl) ?_
    refine d_load1 (i := 1) (v := .slice p0_2.1 n0_2 p0_2.2) Tryd.isAgg46 rfl rfl rfl rfl ?_
    refine d_val rfl rfl (r_move (v := .int .i64 a2) rfl) ?_
    refine d_val rfl rfl (r_field Tryd.runUnderlying48 rfl Tryd.sizeOf3 rfl rfl) ?_
    refine d_load1 (i := 1) (v := .int .i64 a0.W) Tryd.isAgg3 rfl rfl rfl rfl ?_
    have h_t13 := bnd_val H
    have H5 := bnd_rest H
    refine d_val rfl rfl (r_mulG rfl rfl h_t13) ?_
    refine d_val rfl rfl (r_move (v := .int .i64 a1) rfl) ?_
    have h_t15 := bnd_val H5
    have H6 := bnd_rest H5
    refine d_val rfl rfl (r_addG rfl rfl h_t15) ?_
    have h_t16 := bnd_val H6
    have H7 := bnd_rest H6
    refine d_val rfl rfl (r_mulG rfl rfl h_t16) ?_
    have h_t17 := bnd_val H7
    have H8 := bnd_rest H7
    refine d_readD (v := .slice (cutA p0_2.1 (Int.toNat (val (gI (3 * (val (gI ((val (gI (a2 * a0.W))) + a1))))))) p0_2.2 1) (val (gCut a0.Pixels (val (gI (3 * (val (gI ((val (gI (a2 * a0.W))) + a1)))))) a0.Pixels.length)).length (p0_2.2 - Int.toNat (val (gI (3 * (val (gI ((val (gI (a2 * a0.W))) + a1)))))))) (fun w L' hF hS hi => run_sliceLO (xs := a0.Pixels) Tryd.underlying46 Tryd.sizeOf5 rfl rfl hn0_2 (capOf (i := 0) hS ((hi 0 (by simp)).trans rfl)) h_t17) rfl rfl ?_
    refine d_val rfl rfl (r_sliceArrAll Tryd.underlying167 Tryd.sizeOf5 rfl) ?_
    refine d_turn (Cv := fun _ => rowV 5 1 (.slice p0_2.1 n0_2 p0_2.2) n0_2 ((cpyL a0.Pixels (val (gI (3 * (val (gI ((val (gI (a2 * a0.W))) + a1)))))) (val (gCut a0.Pixels (val (gI (3 * (val (gI ((val (gI (a2 * a0.W))) + a1)))))) a0.Pixels.length)).length ((List.range 3).map a3)).map e_u8)) () (turns_copyG (i := 0) (rds := _) (p := p0_2) (f := e_u8) (xs := a0.Pixels) (ts := (val (gCut a0.Pixels (val (gI (3 * (val (gI ((val (gI (a2 * a0.W))) + a1)))))) a0.Pixels.length))) (ys := ((List.range 3).map a3)) hn0_2 Tryd.underlying46 (by rw [info_of Tryd.typeInfo5]; rfl) rfl rfl h_t17 rfl (by simp) (fun w L' hF hS hi => row_arr (f := e_u8) (i := 2) hS ((hi 2 (by simp)).trans rfl) rfl (fun _ => rfl) (gCutA_ok (n := 3) (f := a3) (q := 3) (by decide))) (fun _ => rfl) (fun _ => rfl)) (fun _ => rfl) rfl rfl (fun _ => ?_)
    refine d_nil ?_
    obtain rfl := Option.some.inj H8
    refine ret0n rfl (finX () (i := 0) rfl rfl (Imp.refl _))
    ) (by kernel_rfl)
theorem k122 {a0 : T_api_Image} {v0_2 : Value} {a1 : Int} {a2 : Int} {r : (Nat → Int)} {w : World} {h : Heap} (hw : Know h w noS) (f0_2 : FrS h 1 v0_2 (a0.Pixels.map e_u8)) (H : pix_at a0 a1 a2 = some r) : Does Tryd.prog 122 (List.toArray [.agg #[.int .i64 a0.W, .int .i64 a0.H, v0_2], .int .i64 a1, .int .i64 a2]) w (fun v w' => v = (.agg #[.int .u8 (r 0), .int .u8 (r 1), .int .u8 (r 2)]) ∧ Grow w w') := by
  refine enter (n := 19) Tryd.func122 rfl rfl rfl noS [] (Sat.nil _ _) ?_
  refine c_seq ?_
  refine c_region ?_
  refine l_box (cs := [.int .i64 a0.W, .int .i64 a0.H, v0_2]) rfl rfl rfl rfl (fun b2 => ?_)
  refine l_alloc (cs := [.int .u8 0, .int .u8 0, .int .u8 0]) Tryd.zeroValue167 rfl rfl rfl (fun b3 => ?_)
  refine l_nil ?_
  refine c_seq ?_
  refine c_region ?_
  refine l_val rfl rfl rfl (r_field Tryd.runUnderlying48 rfl Tryd.sizeOf46 rfl rfl) ?_
  refine l_load1 (i := 0) (v := v0_2) Tryd.isAgg46 rfl rfl rfl rfl rfl ?_
  refine l_val rfl rfl rfl (r_move (v := .int .i64 a2) rfl) ?_
  refine l_val rfl rfl rfl (r_field Tryd.runUnderlying48 rfl Tryd.sizeOf3 rfl rfl) ?_
  refine l_load1 (i := 0) (v := .int .i64 a0.W) Tryd.isAgg3 rfl rfl rfl rfl rfl ?_
  obtain ⟨t12, h_t12, H6⟩ := bnd_some H; clear H
  refine l_val rfl rfl rfl (r_mulG rfl rfl h_t12) ?_
  refine l_val rfl rfl rfl (r_move (v := .int .i64 a1) rfl) ?_
  obtain ⟨t14, h_t14, H7⟩ := bnd_some H6; clear H6
  refine l_val rfl rfl rfl (r_addG rfl rfl h_t14) ?_
  obtain ⟨t15, h_t15, H8⟩ := bnd_some H7; clear H7
  refine l_val rfl rfl rfl (r_mulG rfl rfl h_t15) ?_
  obtain ⟨t16, h_t16, H9⟩ := bnd_some H8; clear H8
  refine l_val rfl rfl rfl (r_sliceLF Tryd.underlying46 Tryd.sizeOf5 rfl rfl f0_2 h_t16) ?_
  obtain ⟨u17, h_u17, H10⟩ := bnd_some H9; clear H9
  refine l_val rfl rfl rfl (r_sap Tryd.runUnderlying167 (Eq.trans rfl (f0_2.cut h_t16).eq) (by simpa using gIf_some h_u17)) ?_
  refine l_read (fun w hF hS => run_loadSA (n := 3) (f := e_u8) (xs := t16) (vs := [.int .u8 ((ofL t16) 0), .int .u8 ((ofL t16) 1), .int .u8 ((ofL t16) 2)]) Tryd.isAgg167 Tryd.sizeOf167 rfl ((f0_2.cut h_t16).row (hw.now hF)) (gIf_some h_u17) rfl rfl (fun _ => rfl) rfl) rfl rfl rfl ?_
  refine l_store (i := 1) (vs := [.int .u8 ((ofL t16) 0), .int .u8 ((ofL t16) 1), .int .u8 ((ofL t16) 2)]) (cs' := [.int .u8 ((ofL t16) 0), .int .u8 ((ofL t16) 1), .int .u8 ((ofL t16) 2)]) Tryd.sizeOf167 rfl rfl rfl rfl rfl rfl rfl rfl rfl ?_
  refine l_nil ?_
  refine c_ret ?_
  obtain rfl := Option.some.inj H10
  refine retC (i := 1) (vs := [.int .u8 ((ofL t16) 0), .int .u8 ((ofL t16) 1), .int .u8 ((ofL t16) 2)]) Tryd.isAgg167 Tryd.sizeOf167 rfl rfl rfl rfl (fin rfl)
theorem k190 {a0 : Int} {a1 : Int} {a2 : Int} {a3 : Int} {r : Int × Int} (H : pix_turnings_1 a0 a1 a2 a3 = some r) : Ret Tryd.prog 190 [.int .i64 a0, .int .i64 a1, .int .i64 a2, .int .i64 a3] (.tuple #[.int .i64 r.1, .int .i64 r.2]) := by
  refine enterRet (n := 12) Tryd.func190 rfl rfl rfl (fun wd => ?_)
  refine c_seq ?_
  refine c_region ?_
  refine l_val rfl rfl rfl (r_assign (v := .int .i64 0) rfl) ?_
  refine l_val rfl rfl rfl (r_assign (v := .int .i64 0) rfl) ?_
  refine l_nil ?_
  refine c_seq ?_
  refine c_region ?_
  refine l_val rfl rfl rfl (r_move (v := .int .i64 a2) rfl) ?_
  refine l_val rfl rfl rfl (r_move (v := .int .i64 a3) rfl) ?_
  refine l_val rfl rfl rfl (r_assign (v := .int .i64 a2) rfl) ?_
  refine l_val rfl rfl rfl (r_assign (v := .int .i64 a3) rfl) ?_
  refine l_nil ?_
  refine c_ret ?_
  obtain rfl := Option.some.inj H
  refine ret2 (v1 := .int .i64 a2) (v2 := .int .i64 a3) rfl rfl rfl (fin rfl)
theorem k191 {a0 : Int} {a1 : Int} {a2 : Int} {a3 : Int} {r : Int × Int} (H : pix_turnings_2 a0 a1 a2 a3 = some r) : Ret Tryd.prog 191 [.int .i64 a0, .int .i64 a1, .int .i64 a2, .int .i64 a3] (.tuple #[.int .i64 r.1, .int .i64 r.2]) := by
  refine enterRet (n := 15) Tryd.func191 rfl rfl rfl (fun wd => ?_)
  refine c_seq ?_
  refine c_region ?_
  refine l_val rfl rfl rfl (r_assign (v := .int .i64 0) rfl) ?_
  refine l_val rfl rfl rfl (r_assign (v := .int .i64 0) rfl) ?_
  refine l_nil ?_
  refine c_seq ?_
  refine c_region ?_
  refine l_val rfl rfl rfl (r_move (v := .int .i64 a0) rfl) ?_
  obtain ⟨t11, h_t11, H3⟩ := bnd_some H; clear H
  refine l_val rfl rfl rfl (r_subG rfl rfl h_t11) ?_
  refine l_val rfl rfl rfl (r_move (v := .int .i64 a2) rfl) ?_
  obtain ⟨t13, h_t13, H4⟩ := bnd_some H3; clear H3
  refine l_val rfl rfl rfl (r_subG rfl rfl h_t13) ?_
  refine l_val rfl rfl rfl (r_move (v := .int .i64 a3) rfl) ?_
  refine l_val rfl rfl rfl (r_assign (v := .int .i64 t13) rfl) ?_
  refine l_val rfl rfl rfl (r_assign (v := .int .i64 a3) rfl) ?_
  refine l_nil ?_
  refine c_ret ?_
  obtain rfl := Option.some.inj H4
  refine ret2 (v1 := .int .i64 t13) (v2 := .int .i64 a3) rfl rfl rfl (fin rfl)
theorem k192 {a0 : Int} {a1 : Int} {a2 : Int} {a3 : Int} {r : Int × Int} (H : pix_turnings_3 a0 a1 a2 a3 = some r) : Ret Tryd.prog 192 [.int .i64 a0, .int .i64 a1, .int .i64 a2, .int .i64 a3] (.tuple #[.int .i64 r.1, .int .i64 r.2]) := by
  refine enterRet (n := 18) Tryd.func192 rfl rfl rfl (fun wd => ?_)
  refine c_seq ?_
  refine c_region ?_
  refine l_val rfl rfl rfl (r_assign (v := .int .i64 0) rfl) ?_
  refine l_val rfl rfl rfl (r_assign (v := .int .i64 0) rfl) ?_
  refine l_nil ?_
  refine c_seq ?_
  refine c_region ?_
  refine l_val rfl rfl rfl (r_move (v := .int .i64 a0) rfl) ?_
  obtain ⟨t11, h_t11, H5⟩ := bnd_some H; clear H
  refine l_val rfl rfl rfl (r_subG rfl rfl h_t11) ?_
  refine l_val rfl rfl rfl (r_move (v := .int .i64 a2) rfl) ?_
  obtain ⟨t13, h_t13, H6⟩ := bnd_some H5; clear H5
  refine l_val rfl rfl rfl (r_subG rfl rfl h_t13) ?_
  refine l_val rfl rfl rfl (r_move (v := .int .i64 a1) rfl) ?_
  obtain ⟨t15, h_t15, H7⟩ := bnd_some H6; clear H6
  refine l_val rfl rfl rfl (r_subG rfl rfl h_t15) ?_
  refine l_val rfl rfl rfl (r_move (v := .int .i64 a3) rfl) ?_
  obtain ⟨t17, h_t17, H8⟩ := bnd_some H7; clear H7
  refine l_val rfl rfl rfl (r_subG rfl rfl h_t17) ?_
  refine l_val rfl rfl rfl (r_assign (v := .int .i64 t13) rfl) ?_
  refine l_val rfl rfl rfl (r_assign (v := .int .i64 t17) rfl) ?_
  refine l_nil ?_
  refine c_ret ?_
  obtain rfl := Option.some.inj H8
  refine ret2 (v1 := .int .i64 t13) (v2 := .int .i64 t17) rfl rfl rfl (fin rfl)
theorem k193 {a0 : Int} {a1 : Int} {a2 : Int} {a3 : Int} {r : Int × Int} (H : pix_turnings_4 a0 a1 a2 a3 = some r) : Ret Tryd.prog 193 [.int .i64 a0, .int .i64 a1, .int .i64 a2, .int .i64 a3] (.tuple #[.int .i64 r.1, .int .i64 r.2]) := by
  refine enterRet (n := 15) Tryd.func193 rfl rfl rfl (fun wd => ?_)
  refine c_seq ?_
  refine c_region ?_
  refine l_val rfl rfl rfl (r_assign (v := .int .i64 0) rfl) ?_
  refine l_val rfl rfl rfl (r_assign (v := .int .i64 0) rfl) ?_
  refine l_nil ?_
  refine c_seq ?_
  refine c_region ?_
  refine l_val rfl rfl rfl (r_move (v := .int .i64 a2) rfl) ?_
  refine l_val rfl rfl rfl (r_move (v := .int .i64 a1) rfl) ?_
  obtain ⟨t12, h_t12, H3⟩ := bnd_some H; clear H
  refine l_val rfl rfl rfl (r_subG rfl rfl h_t12) ?_
  refine l_val rfl rfl rfl (r_move (v := .int .i64 a3) rfl) ?_
  obtain ⟨t14, h_t14, H4⟩ := bnd_some H3; clear H3
  refine l_val rfl rfl rfl (r_subG rfl rfl h_t14) ?_
  refine l_val rfl rfl rfl (r_assign (v := .int .i64 a2) rfl) ?_
  refine l_val rfl rfl rfl (r_assign (v := .int .i64 t14) rfl) ?_
  refine l_nil ?_
  refine c_ret ?_
  obtain rfl := Option.some.inj H4
  refine ret2 (v1 := .int .i64 a2) (v2 := .int .i64 t14) rfl rfl rfl (fin rfl)
theorem k194 {a0 : Int} {a1 : Int} {a2 : Int} {a3 : Int} {r : Int × Int} (H : pix_turnings_5 a0 a1 a2 a3 = some r) : Ret Tryd.prog 194 [.int .i64 a0, .int .i64 a1, .int .i64 a2, .int .i64 a3] (.tuple #[.int .i64 r.1, .int .i64 r.2]) := by
  refine enterRet (n := 12) Tryd.func194 rfl rfl rfl (fun wd => ?_)
  refine c_seq ?_
  refine c_region ?_
  refine l_val rfl rfl rfl (r_assign (v := .int .i64 0) rfl) ?_
  refine l_val rfl rfl rfl (r_assign (v := .int .i64 0) rfl) ?_
  refine l_nil ?_
  refine c_seq ?_
  refine c_region ?_
  refine l_val rfl rfl rfl (r_move (v := .int .i64 a3) rfl) ?_
  refine l_val rfl rfl rfl (r_move (v := .int .i64 a2) rfl) ?_
  refine l_val rfl rfl rfl (r_assign (v := .int .i64 a3) rfl) ?_
  refine l_val rfl rfl rfl (r_assign (v := .int .i64 a2) rfl) ?_
  refine l_nil ?_
  refine c_ret ?_
  obtain rfl := Option.some.inj H
  refine ret2 (v1 := .int .i64 a3) (v2 := .int .i64 a2) rfl rfl rfl (fin rfl)
theorem k195 {a0 : Int} {a1 : Int} {a2 : Int} {a3 : Int} {r : Int × Int} (H : pix_turnings_6 a0 a1 a2 a3 = some r) : Ret Tryd.prog 195 [.int .i64 a0, .int .i64 a1, .int .i64 a2, .int .i64 a3] (.tuple #[.int .i64 r.1, .int .i64 r.2]) := by
  refine enterRet (n := 15) Tryd.func195 rfl rfl rfl (fun wd => ?_)
  refine c_seq ?_
  refine c_region ?_
  refine l_val rfl rfl rfl (r_assign (v := .int .i64 0) rfl) ?_
  refine l_val rfl rfl rfl (r_assign (v := .int .i64 0) rfl) ?_
  refine l_nil ?_
  refine c_seq ?_
  refine c_region ?_
  refine l_val rfl rfl rfl (r_move (v := .int .i64 a3) rfl) ?_
  refine l_val rfl rfl rfl (r_move (v := .int .i64 a1) rfl) ?_
  obtain ⟨t12, h_t12, H3⟩ := bnd_some H; clear H
  refine l_val rfl rfl rfl (r_subG rfl rfl h_t12) ?_
  refine l_val rfl rfl rfl (r_move (v := .int .i64 a2) rfl) ?_
  obtain ⟨t14, h_t14, H4⟩ := bnd_some H3; clear H3
  refine l_val rfl rfl rfl (r_subG rfl rfl h_t14) ?_
  refine l_val rfl rfl rfl (r_assign (v := .int .i64 a3) rfl) ?_
  refine l_val rfl rfl rfl (r_assign (v := .int .i64 t14) rfl) ?_
  refine l_nil ?_
  refine c_ret ?_
  obtain rfl := Option.some.inj H4
  refine ret2 (v1 := .int .i64 a3) (v2 := .int .i64 t14) rfl rfl rfl (fin rfl)
theorem k196 {a0 : Int} {a1 : Int} {a2 : Int} {a3 : Int} {r : Int × Int} (H : pix_turnings_7 a0 a1 a2 a3 = some r) : Ret Tryd.prog 196 [.int .i64 a0, .int .i64 a1, .int .i64 a2, .int .i64 a3] (.tuple #[.int .i64 r.1, .int .i64 r.2]) := by
  refine enterRet (n := 18) Tryd.func196 rfl rfl rfl (fun wd => ?_)
  refine c_seq ?_
  refine c_region ?_
  refine l_val rfl rfl rfl (r_assign (v := .int .i64 0) rfl) ?_
  refine l_val rfl rfl rfl (r_assign (v := .int .i64 0) rfl) ?_
  refine l_nil ?_
  refine c_seq ?_
  refine c_region ?_
  refine l_val rfl rfl rfl (r_move (v := .int .i64 a0) rfl) ?_
  obtain ⟨t11, h_t11, H5⟩ := bnd_some H; clear H
  refine l_val rfl rfl rfl (r_subG rfl rfl h_t11) ?_
  refine l_val rfl rfl rfl (r_move (v := .int .i64 a3) rfl) ?_
  obtain ⟨t13, h_t13, H6⟩ := bnd_some H5; clear H5
  refine l_val rfl rfl rfl (r_subG rfl rfl h_t13) ?_
  refine l_val rfl rfl rfl (r_move (v := .int .i64 a1) rfl) ?_
  obtain ⟨t15, h_t15, H7⟩ := bnd_some H6; clear H6
  refine l_val rfl rfl rfl (r_subG rfl rfl h_t15) ?_
  refine l_val rfl rfl rfl (r_move (v := .int .i64 a2) rfl) ?_
  obtain ⟨t17, h_t17, H8⟩ := bnd_some H7; clear H7
  refine l_val rfl rfl rfl (r_subG rfl rfl h_t17) ?_
  refine l_val rfl rfl rfl (r_assign (v := .int .i64 t13) rfl) ?_
  refine l_val rfl rfl rfl (r_assign (v := .int .i64 t17) rfl) ?_
  refine l_nil ?_
  refine c_ret ?_
  obtain rfl := Option.some.inj H8
  refine ret2 (v1 := .int .i64 t13) (v2 := .int .i64 t17) rfl rfl rfl (fin rfl)
theorem k197 {a0 : Int} {a1 : Int} {a2 : Int} {a3 : Int} {r : Int × Int} (H : pix_turnings_8 a0 a1 a2 a3 = some r) : Ret Tryd.prog 197 [.int .i64 a0, .int .i64 a1, .int .i64 a2, .int .i64 a3] (.tuple #[.int .i64 r.1, .int .i64 r.2]) := by
  refine enterRet (n := 15) Tryd.func197 rfl rfl rfl (fun wd => ?_)
  refine c_seq ?_
  refine c_region ?_
  refine l_val rfl rfl rfl (r_assign (v := .int .i64 0) rfl) ?_
  refine l_val rfl rfl rfl (r_assign (v := .int .i64 0) rfl) ?_
  refine l_nil ?_
  refine c_seq ?_
  refine c_region ?_
  refine l_val rfl rfl rfl (r_move (v := .int .i64 a0) rfl) ?_
  obtain ⟨t11, h_t11, H3⟩ := bnd_some H; clear H
  refine l_val rfl rfl rfl (r_subG rfl rfl h_t11) ?_
  refine l_val rfl rfl rfl (r_move (v := .int .i64 a3) rfl) ?_
  obtain ⟨t13, h_t13, H4⟩ := bnd_some H3; clear H3
  refine l_val rfl rfl rfl (r_subG rfl rfl h_t13) ?_
  refine l_val rfl rfl rfl (r_move (v := .int .i64 a2) rfl) ?_
  refine l_val rfl rfl rfl (r_assign (v := .int .i64 t13) rfl) ?_
  refine l_val rfl rfl rfl (r_assign (v := .int .i64 a2) rfl) ?_
  refine l_nil ?_
  refine c_ret ?_
  obtain rfl := Option.some.inj H4
  refine ret2 (v1 := .int .i64 t13) (v2 := .int .i64 a2) rfl rfl rfl (fin rfl)
theorem k162 {r : Unit} (H : pix_turnings = some r) : Ret Tryd.prog 162 [] (.agg #[.nilFunc, .bool false, .func (.func 190) #[] #[], .bool false, .func (.func 191) #[] #[], .bool false, .func (.func 192) #[] #[], .bool false, .func (.func 193) #[] #[], .bool false, .func (.func 194) #[] #[], .bool true, .func (.func 195) #[] #[], .bool true, .func (.func 196) #[] #[], .bool true, .func (.func 197) #[] #[], .bool true]) := by
  refine enterRet (n := 10) Tryd.func162 rfl rfl rfl (fun wd => ?_)
  refine c_seq ?_
  refine c_region ?_
  refine l_alloc (cs := [.nilFunc, .bool false, .nilFunc, .bool false, .nilFunc, .bool false, .nilFunc, .bool false, .nilFunc, .bool false, .nilFunc, .bool false, .nilFunc, .bool false, .nilFunc, .bool false, .nilFunc, .bool false]) Tryd.zeroValue208 rfl rfl rfl (fun b2 => ?_)
  refine l_nil ?_
  refine c_seq ?_
  refine c_region ?_
  refine l_val rfl rfl rfl (r_build (pl := #[(0, 1), (1, 1)]) (ps := [(0, .func (.func 190) #[] #[]), (1, .bool false)]) (cells := #[.func (.func 190) #[] #[], .bool false]) Tryd.zeroValue207 Tryd.runUnderlying207 (fun w => by kernel_rfl) rfl rfl) ?_
  refine l_val rfl rfl rfl (r_build (pl := #[(0, 1), (1, 1)]) (ps := [(0, .func (.func 191) #[] #[]), (1, .bool false)]) (cells := #[.func (.func 191) #[] #[], .bool false]) Tryd.zeroValue207 Tryd.runUnderlying207 (fun w => by kernel_rfl) rfl rfl) ?_
  refine l_val rfl rfl rfl (r_build (pl := #[(0, 1), (1, 1)]) (ps := [(0, .func (.func 192) #[] #[]), (1, .bool false)]) (cells := #[.func (.func 192) #[] #[], .bool false]) Tryd.zeroValue207 Tryd.runUnderlying207 (fun w => by kernel_rfl) rfl rfl) ?_
  refine l_val rfl rfl rfl (r_build (pl := #[(0, 1), (1, 1)]) (ps := [(0, .func (.func 193) #[] #[]), (1, .bool false)]) (cells := #[.func (.func 193) #[] #[], .bool false]) Tryd.zeroValue207 Tryd.runUnderlying207 (fun w => by kernel_rfl) rfl rfl) ?_
  refine l_val rfl rfl rfl (r_build (pl := #[(0, 1), (1, 1)]) (ps := [(0, .func (.func 194) #[] #[]), (1, .bool true)]) (cells := #[.func (.func 194) #[] #[], .bool true]) Tryd.zeroValue207 Tryd.runUnderlying207 (fun w => by kernel_rfl) rfl rfl) ?_
  refine l_val rfl rfl rfl (r_build (pl := #[(0, 1), (1, 1)]) (ps := [(0, .func (.func 195) #[] #[]), (1, .bool true)]) (cells := #[.func (.func 195) #[] #[], .bool true]) Tryd.zeroValue207 Tryd.runUnderlying207 (fun w => by kernel_rfl) rfl rfl) ?_
  refine l_val rfl rfl rfl (r_build (pl := #[(0, 1), (1, 1)]) (ps := [(0, .func (.func 196) #[] #[]), (1, .bool true)]) (cells := #[.func (.func 196) #[] #[], .bool true]) Tryd.zeroValue207 Tryd.runUnderlying207 (fun w => by kernel_rfl) rfl rfl) ?_
  refine l_val rfl rfl rfl (r_build (pl := #[(0, 1), (1, 1)]) (ps := [(0, .func (.func 197) #[] #[]), (1, .bool true)]) (cells := #[.func (.func 197) #[] #[], .bool true]) Tryd.zeroValue207 Tryd.runUnderlying207 (fun w => by kernel_rfl) rfl rfl) ?_
  refine l_val rfl rfl rfl (r_buildA (ps := [(1, .agg #[.func (.func 190) #[] #[], .bool false]), (2, .agg #[.func (.func 191) #[] #[], .bool false]), (3, .agg #[.func (.func 192) #[] #[], .bool false]), (4, .agg #[.func (.func 193) #[] #[], .bool false]), (5, .agg #[.func (.func 194) #[] #[], .bool true]), (6, .agg #[.func (.func 195) #[] #[], .bool true]), (7, .agg #[.func (.func 196) #[] #[], .bool true]), (8, .agg #[.func (.func 197) #[] #[], .bool true])]) (cells := #[.nilFunc, .bool false, .func (.func 190) #[] #[], .bool false, .func (.func 191) #[] #[], .bool false, .func (.func 192) #[] #[], .bool false, .func (.func 193) #[] #[], .bool false, .func (.func 194) #[] #[], .bool true, .func (.func 195) #[] #[], .bool true, .func (.func 196) #[] #[], .bool true, .func (.func 197) #[] #[], .bool true]) Tryd.zeroValue208 Tryd.runUnderlying208 Tryd.sizeOf207 rfl rfl) ?_
  refine l_store (i := 0) (vs := [.nilFunc, .bool false, .func (.func 190) #[] #[], .bool false, .func (.func 191) #[] #[], .bool false, .func (.func 192) #[] #[], .bool false, .func (.func 193) #[] #[], .bool false, .func (.func 194) #[] #[], .bool true, .func (.func 195) #[] #[], .bool true, .func (.func 196) #[] #[], .bool true, .func (.func 197) #[] #[], .bool true]) (cs' := [.nilFunc, .bool false, .func (.func 190) #[] #[], .bool false, .func (.func 191) #[] #[], .bool false, .func (.func 192) #[] #[], .bool false, .func (.func 193) #[] #[], .bool false, .func (.func 194) #[] #[], .bool true, .func (.func 195) #[] #[], .bool true, .func (.func 196) #[] #[], .bool true, .func (.func 197) #[] #[], .bool true]) Tryd.sizeOf208 rfl rfl rfl rfl rfl rfl rfl rfl rfl ?_
  refine l_nil ?_
  refine c_ret ?_
  cases H
  refine retC (i := 0) (vs := [.nilFunc, .bool false, .func (.func 190) #[] #[], .bool false, .func (.func 191) #[] #[], .bool false, .func (.func 192) #[] #[], .bool false, .func (.func 193) #[] #[], .bool false, .func (.func 194) #[] #[], .bool true, .func (.func 195) #[] #[], .bool true, .func (.func 196) #[] #[], .bool true, .func (.func 197) #[] #[], .bool true]) Tryd.isAgg208 Tryd.sizeOf208 rfl rfl rfl rfl (fin rfl)
abbrev v162_0_0 : Nat → Value := ofL [.nilFunc, .func (.func 190) #[] #[], .func (.func 191) #[] #[], .func (.func 192) #[] #[], .func (.func 193) #[] #[], .func (.func 194) #[] #[], .func (.func 195) #[] #[], .func (.func 196) #[] #[], .func (.func 197) #[] #[]]
theorem h162_0_0 {k : Nat} (hk : k < 9) : FnV Tryd.prog (v162_0_0 k) (pix_turnings_tab0 k) (fun g => fnR_func_int_int_int_int_int_int g) :=
  match k, hk with
  | 0, _ => (show FnV Tryd.prog (v162_0_0 0) (pix_turnings_tab0 0) _ from FnV.nil)
  | 1, _ => (show FnV Tryd.prog (v162_0_0 1) (pix_turnings_tab0 1) _ from (FnV.mk (g := pix_turnings_1) (R := fun g => fnR_func_int_int_int_int_int_int g) (fun h_ => (FnH.mk ⟨190, #[], #[], rfl, Tryd.call190, fun args2 post2 w2 hk2 hR2 => by obtain ⟨a0_, a1_, a2_, a3_, r_, rfl, H_, rfl⟩ := hR2; exact k190 H_ w2⟩))))
  | 2, _ => (show FnV Tryd.prog (v162_0_0 2) (pix_turnings_tab0 2) _ from (FnV.mk (g := pix_turnings_2) (R := fun g => fnR_func_int_int_int_int_int_int g) (fun h_ => (FnH.mk ⟨191, #[], #[], rfl, Tryd.call191, fun args2 post2 w2 hk2 hR2 => by obtain ⟨a0_, a1_, a2_, a3_, r_, rfl, H_, rfl⟩ := hR2; exact k191 H_ w2⟩))))
  | 3, _ => (show FnV Tryd.prog (v162_0_0 3) (pix_turnings_tab0 3) _ from (FnV.mk (g := pix_turnings_3) (R := fun g => fnR_func_int_int_int_int_int_int g) (fun h_ => (FnH.mk ⟨192, #[], #[], rfl, Tryd.call192, fun args2 post2 w2 hk2 hR2 => by obtain ⟨a0_, a1_, a2_, a3_, r_, rfl, H_, rfl⟩ := hR2; exact k192 H_ w2⟩))))
  | 4, _ => (show FnV Tryd.prog (v162_0_0 4) (pix_turnings_tab0 4) _ from (FnV.mk (g := pix_turnings_4) (R := fun g => fnR_func_int_int_int_int_int_int g) (fun h_ => (FnH.mk ⟨193, #[], #[], rfl, Tryd.call193, fun args2 post2 w2 hk2 hR2 => by obtain ⟨a0_, a1_, a2_, a3_, r_, rfl, H_, rfl⟩ := hR2; exact k193 H_ w2⟩))))
  | 5, _ => (show FnV Tryd.prog (v162_0_0 5) (pix_turnings_tab0 5) _ from (FnV.mk (g := pix_turnings_5) (R := fun g => fnR_func_int_int_int_int_int_int g) (fun h_ => (FnH.mk ⟨194, #[], #[], rfl, Tryd.call194, fun args2 post2 w2 hk2 hR2 => by obtain ⟨a0_, a1_, a2_, a3_, r_, rfl, H_, rfl⟩ := hR2; exact k194 H_ w2⟩))))
  | 6, _ => (show FnV Tryd.prog (v162_0_0 6) (pix_turnings_tab0 6) _ from (FnV.mk (g := pix_turnings_6) (R := fun g => fnR_func_int_int_int_int_int_int g) (fun h_ => (FnH.mk ⟨195, #[], #[], rfl, Tryd.call195, fun args2 post2 w2 hk2 hR2 => by obtain ⟨a0_, a1_, a2_, a3_, r_, rfl, H_, rfl⟩ := hR2; exact k195 H_ w2⟩))))
  | 7, _ => (show FnV Tryd.prog (v162_0_0 7) (pix_turnings_tab0 7) _ from (FnV.mk (g := pix_turnings_7) (R := fun g => fnR_func_int_int_int_int_int_int g) (fun h_ => (FnH.mk ⟨196, #[], #[], rfl, Tryd.call196, fun args2 post2 w2 hk2 hR2 => by obtain ⟨a0_, a1_, a2_, a3_, r_, rfl, H_, rfl⟩ := hR2; exact k196 H_ w2⟩))))
  | 8, _ => (show FnV Tryd.prog (v162_0_0 8) (pix_turnings_tab0 8) _ from (FnV.mk (g := pix_turnings_8) (R := fun g => fnR_func_int_int_int_int_int_int g) (fun h_ => (FnH.mk ⟨197, #[], #[], rfl, Tryd.call197, fun args2 post2 w2 hk2 hR2 => by obtain ⟨a0_, a1_, a2_, a3_, r_, rfl, H_, rfl⟩ := hR2; exact k197 H_ w2⟩))))
  | k_ + 9, hk => absurd hk (by omega)

theorem k161 {a0 : Int} {a1 : Int} {a2 : Int} {r : Int × Int} (H : pix_Sides a0 a1 a2 = some r) : Ret Tryd.prog 161 [.int .i64 a0, .int .i64 a1, .int .i64 a2] (.tuple #[.int .i64 r.1, .int .i64 r.2]) := by
  refine enterRet (n := 16) Tryd.func161 rfl rfl rfl (fun wd => ?_)
  refine c_seq ?_
  refine c_region ?_
  refine l_val rfl rfl rfl (r_assign (v := .int .i64 0) rfl) ?_
  refine l_val rfl rfl rfl (r_assign (v := .int .i64 0) rfl) ?_
  refine l_nil ?_
  refine c_seq ?_
  refine c_seq ?_
  refine c_region ?_
  obtain ⟨t8, h_t8, H5⟩ := bnd_some H; clear H
  refine l_call (k162 h_t8) Tryd.call162 rfl rfl rfl ?_
  refine l_val rfl rfl rfl (r_move (v := .int .i64 a0) rfl) ?_
  obtain ⟨k10, h_k10, H6⟩ := bnd_some H5; clear H5
  refine l_val rfl rfl rfl (r_indexAN (f := fun j_ => [v162_0_0 j_, .bool (pix_turnings_tab1 j_)]) Tryd.runUnderlying208 Tryd.isAgg207 Tryd.sizeOf207 rfl rfl rfl (fun _ => rfl) h_k10) ?_
  refine l_val rfl rfl rfl (r_fieldV (v := .bool (pix_turnings_tab1 k10)) Tryd.runUnderlying207 Tryd.isAgg4 rfl rfl rfl) ?_
  refine l_nil ?_
  refine c_if (b := (pix_turnings_tab1 k10)) rfl (fun hb => ?_) (fun hb => ?_)
  · have H7 := cnd_t hb H6; clear H6
    refine c_seq ?_
    refine c_region ?_
    refine l_val rfl rfl rfl (r_move (v := .int .i64 a2) rfl) ?_
    refine l_val rfl rfl rfl (r_move (v := .int .i64 a1) rfl) ?_
    refine l_val rfl rfl rfl (r_assign (v := .int .i64 a2) rfl) ?_
    refine l_val rfl rfl rfl (r_assign (v := .int .i64 a1) rfl) ?_
    refine l_nil ?_
    refine c_ret ?_
    obtain rfl := Option.some.inj H7
    refine ret2 (v1 := .int .i64 a2) (v2 := .int .i64 a1) rfl rfl rfl (fin rfl)
  · have H8 := cnd_f hb H6; clear H6
    refine c_skip ?_
    refine c_seq ?_
    refine c_region ?_
    refine l_val rfl rfl rfl (r_move (v := .int .i64 a1) rfl) ?_
    refine l_val rfl rfl rfl (r_move (v := .int .i64 a2) rfl) ?_
    refine l_val rfl rfl rfl (r_assign (v := .int .i64 a1) rfl) ?_
    refine l_val rfl rfl rfl (r_assign (v := .int .i64 a2) rfl) ?_
    refine l_nil ?_
    refine c_ret ?_
    obtain rfl := Option.some.inj H8
    refine ret2 (v1 := .int .i64 a1) (v2 := .int .i64 a2) rfl rfl rfl (fin rfl)
theorem k119 {a0 : T_api_Image} {v0_2 : Value} {a1 : Int} {r : T_api_Image} {w : World} {h : Heap} (hw : Know h w noS) (f0_2 : FrS h 1 v0_2 (a0.Pixels.map e_u8)) (H : pix_turned a0 a1 = some r) : Does Tryd.prog 119 (List.toArray [.agg #[.int .i64 a0.W, .int .i64 a0.H, v0_2], .int .i64 a1]) w (fun v w' => ∃ x : (Option Addr × Nat), v = (.agg #[.int .i64 r.W, .int .i64 r.H, .slice x.1 r.Pixels.length x.2]) ∧ Turn w w' noS (rowV 5 1 (.slice x.1 r.Pixels.length x.2) r.Pixels.length (r.Pixels.map e_u8))) := by
  refine enter (n := 56) Tryd.func119 rfl rfl rfl noS [] (Sat.nil _ _) ?_
  refine c_seq ?_
  refine c_region ?_
  refine l_box (cs := [.int .i64 a0.W, .int .i64 a0.H, v0_2]) rfl rfl rfl rfl (fun b3 => ?_)
  refine l_alloc (cs := [.int .i64 0, .int .i64 0, .slice none 0 0]) Tryd.zeroValue48 rfl rfl rfl (fun b4 => ?_)
  refine l_nil ?_
  refine c_seq ?_
  refine c_region ?_
  refine l_val rfl rfl rfl (r_move (v := .int .i64 a1) rfl) ?_
  refine l_val rfl rfl rfl (r_field Tryd.runUnderlying48 rfl Tryd.sizeOf3 rfl rfl) ?_
  refine l_load1 (i := 0) (v := .int .i64 a0.W) Tryd.isAgg3 rfl rfl rfl rfl rfl ?_
  refine l_val rfl rfl rfl (r_field Tryd.runUnderlying48 rfl Tryd.sizeOf3 rfl rfl) ?_
  refine l_load1 (i := 0) (v := .int .i64 a0.H) Tryd.isAgg3 rfl rfl rfl rfl rfl ?_
  obtain ⟨t16, h_t16, H19⟩ := bnd_some H; clear H
  refine l_call (k161 h_t16) Tryd.call161 rfl rfl rfl ?_
  refine l_val rfl rfl rfl (r_extract (v := .int .i64 t16.1) rfl rfl) ?_
  refine l_val rfl rfl rfl (r_extract (v := .int .i64 t16.2) rfl rfl) ?_
  obtain ⟨t19, h_t19, H20⟩ := bnd_some H19; clear H19
  refine l_make (makes_call (rds := []) (G := fun x : (Option Addr × Nat) => .agg #[.int .i64 t19.W, .int .i64 t19.H, .slice x.1 t19.Pixels.length x.2]) (C := fun x : (Option Addr × Nat) => rowV 5 1 (.slice x.1 t19.Pixels.length x.2) t19.Pixels.length (t19.Pixels.map e_u8)) (fun w L' hF hS hi => k120 (know_all w)  h_t19) Tryd.call120 rfl) rfl rfl rfl (fun p => ?_)
  refine l_alloc (cs := [.int .i64 0, .int .i64 0, .slice none 0 0]) Tryd.zeroValue48 rfl rfl rfl (fun b5 => ?_)
  refine l_store (i := 3) (vs := [.int .i64 t19.W, .int .i64 t19.H, .slice p.1 t19.Pixels.length p.2]) (cs' := [.int .i64 t19.W, .int .i64 t19.H, .slice p.1 t19.Pixels.length p.2]) Tryd.sizeOf48 rfl rfl rfl rfl rfl rfl rfl rfl rfl ?_
  refine l_nil ?_
  refine c_seq ?_
  refine c_region ?_
  obtain ⟨t20, h_t20, H21⟩ := bnd_some H20; clear H20
  refine l_call (k162 h_t20) Tryd.call162 rfl rfl rfl ?_
  refine l_val rfl rfl rfl (r_move (v := .int .i64 a1) rfl) ?_
  obtain ⟨k22, h_k22, H22⟩ := bnd_some H21; clear H21
  refine l_val rfl rfl rfl (r_indexAN (f := fun j_ => [v162_0_0 j_, .bool (pix_turnings_tab1 j_)]) Tryd.runUnderlying208 Tryd.isAgg207 Tryd.sizeOf207 rfl rfl rfl (fun _ => rfl) h_k22) ?_
  refine l_val rfl rfl rfl (r_fieldV (v := (v162_0_0 k22)) Tryd.runUnderlying207 Tryd.isAgg205 rfl rfl rfl) ?_
  refine l_val rfl rfl rfl (r_assign (v := (v162_0_0 k22)) rfl) ?_
  refine l_nil ?_
  refine c_meet (r := r) (σ := (List Int)) (τ := (Option Addr × Nat) × Nat) (fun s => pix_turned_j1 t19 s) (fun s t => [(4, .pointer (some ⟨b4, 0, none⟩)), (5, .pointer (some ⟨b5, 0, none⟩))]) (fun s t => [cellsC b4 [.int .i64 0, .int .i64 0, .slice none 0 0] 48, rowV 5 1 (.slice t.1.1 t.2 t.1.2) t.2 (s.map e_u8), cellsC b5 [.int .i64 t19.W, .int .i64 t19.H, .slice t.1.1 t.2 t.1.2] 48]) (fun s t => t.2 = s.length) ?_ ?_
  · refine c_seq ?_
    refine c_region ?_
    refine l_val rfl rfl rfl (r_field Tryd.runUnderlying48 rfl Tryd.sizeOf3 rfl rfl) ?_
    refine l_load1 (i := 3) (v := .int .i64 t19.H) Tryd.isAgg3 rfl rfl rfl rfl rfl ?_
    refine l_val rfl rfl rfl (r_move (v := .int .i64 0) rfl) ?_
    refine l_nil ?_
    refine c_block ?_
    refine c_fix (σ := Int × (List Int) × (List Int)) (τ := Value × (Option Addr × Nat) × Nat) (fun next2 s => pix_turned_l2 a0 t19 k22 next2 s.1 s.2.1 s.2.2) (fun s t => [(2, .pointer (some ⟨b3, 0, none⟩)), (4, .pointer (some ⟨b4, 0, none⟩)), (5, .pointer (some ⟨b5, 0, none⟩)), (6, (v162_0_0 k22)), (25, .int .i64 t19.H), (26, .int .i64 s.1)]) (fun s t => [cellsC b3 [.int .i64 a0.W, .int .i64 a0.H, t.1] 48, cellsC b4 [.int .i64 0, .int .i64 0, .slice none 0 0] 48, rowV 5 1 (.slice t.2.1.1 t.2.2 t.2.1.2) t.2.2 (s.2.2.map e_u8), cellsC b5 [.int .i64 t19.W, .int .i64 t19.H, .slice t.2.1.1 t.2.2 t.2.1.2] 48]) (fun s t => FrS h 1 t.1 (s.2.1.map e_u8) ∧ t.2.2 = s.2.2.length) (0, a0.Pixels, t19.Pixels) (v0_2, p, t19.Pixels.length) [0, 1, 2, 3] H22 (by exact ⟨f0_2, rfl⟩) (by exact ⟨rfl, rfl, rfl, rfl, rfl, rfl, trivial⟩) (by decide) rfl ?_
    rintro ⟨x26_2, m_2, l_3⟩ ⟨gv, p_3, n_2⟩ m2 gg H24 ⟨gf_2, hl_3⟩
    clear H22
    replace H24 : pix_turned_l2 a0 t19 k22 (it (fun next2 s => pix_turned_l2 a0 t19 k22 next2 s.1 s.2.1 s.2.2) m2) x26_2 m_2 l_3 = some r := H24
    generalize hn2 : it (fun next2 s => pix_turned_l2 a0 t19 k22 next2 s.1 s.2.1 s.2.2) m2 = next2 at H24
    refine c_tidyF [(2, .pointer (some ⟨b3, 0, none⟩)), (4, .pointer (some ⟨b4, 0, none⟩)), (5, .pointer (some ⟨b5, 0, none⟩)), (6, (v162_0_0 k22)), (25, .int .i64 t19.H), (26, .int .i64 x26_2)] [cellsC b3 [.int .i64 a0.W, .int .i64 a0.H, gv] 48, cellsC b4 [.int .i64 0, .int .i64 0, .slice none 0 0] 48, rowV 5 1 (.slice p_3.1 n_2 p_3.2) n_2 (l_3.map e_u8), cellsC b5 [.int .i64 t19.W, .int .i64 t19.H, .slice p_3.1 n_2 p_3.2] 48] rfl rfl ?_
    refine c_seq ?_
    refine c_region ?_
    refine l_val rfl rfl rfl (r_lss rfl rfl) ?_
    refine l_nil ?_
    refine c_seq ?_
    refine c_if (b := (decide (x26_2 < t19.H))) rfl (fun hb => ?_) (fun hb => ?_)
    · have H25 := cnd_t hb H24; clear H24
      refine c_skip ?_
      refine c_meet (r := r) (σ := (List Int)) (τ := Unit) (fun s => pix_turned_j3 x26_2 m_2 next2 s) (fun s t => [(2, .pointer (some ⟨b3, 0, none⟩)), (4, .pointer (some ⟨b4, 0, none⟩)), (5, .pointer (some ⟨b5, 0, none⟩)), (6, (v162_0_0 k22)), (25, .int .i64 t19.H), (26, .int .i64 x26_2)]) (fun s t => [cellsC b3 [.int .i64 a0.W, .int .i64 a0.H, gv] 48, cellsC b4 [.int .i64 0, .int .i64 0, .slice none 0 0] 48, rowV 5 1 (.slice p_3.1 n_2 p_3.2) n_2 (s.map e_u8), cellsC b5 [.int .i64 t19.W, .int .i64 t19.H, .slice p_3.1 n_2 p_3.2] 48]) (fun s t => n_2 = s.length) ?_ ?_
      · refine c_block ?_
        refine c_seq ?_
        refine c_region ?_
        refine l_val rfl rfl rfl (r_move (v := .int .i64 x26_2) rfl) ?_
        refine l_val rfl rfl rfl (r_assign (v := .int .i64 x26_2) rfl) ?_
        refine l_nil ?_
        refine c_seq ?_
        refine c_region ?_
        refine l_val rfl rfl rfl (r_field Tryd.runUnderlying48 rfl Tryd.sizeOf3 rfl rfl) ?_
        refine l_load1 (i := 3) (v := .int .i64 t19.W) Tryd.isAgg3 rfl rfl rfl rfl rfl ?_
        refine l_val rfl rfl rfl (r_move (v := .int .i64 0) rfl) ?_
        refine l_nil ?_
        refine c_block ?_
        refine c_fix (σ := Int × (List Int)) (τ := Unit) (fun next4 s => pix_turned_l4 a0 t19 k22 x26_2 m_2 next2 next4 s.1 s.2) (fun s t => [(2, .pointer (some ⟨b3, 0, none⟩)), (4, .pointer (some ⟨b4, 0, none⟩)), (5, .pointer (some ⟨b5, 0, none⟩)), (6, (v162_0_0 k22)), (7, .int .i64 x26_2), (25, .int .i64 t19.H), (26, .int .i64 x26_2), (30, .int .i64 t19.W), (31, .int .i64 s.1)]) (fun s t => [cellsC b3 [.int .i64 a0.W, .int .i64 a0.H, gv] 48, cellsC b4 [.int .i64 0, .int .i64 0, .slice none 0 0] 48, rowV 5 1 (.slice p_3.1 n_2 p_3.2) n_2 (s.2.map e_u8), cellsC b5 [.int .i64 t19.W, .int .i64 t19.H, .slice p_3.1 n_2 p_3.2] 48]) (fun s t => n_2 = s.2.length) (0, l_3) () [0, 1, 2, 3] H25 (by exact hl_3) (by exact ⟨rfl, rfl, rfl, rfl, rfl, rfl, rfl, rfl, rfl, trivial⟩) (by decide) rfl ?_
        rintro ⟨x31_2, l_6⟩ _ m4 gg H28 hl_6
        clear H25
        replace H28 : pix_turned_l4 a0 t19 k22 x26_2 m_2 next2 (it (fun next4 s => pix_turned_l4 a0 t19 k22 x26_2 m_2 next2 next4 s.1 s.2) m4) x31_2 l_6 = some r := H28
        generalize hn4 : it (fun next4 s => pix_turned_l4 a0 t19 k22 x26_2 m_2 next2 next4 s.1 s.2) m4 = next4 at H28
        refine c_tidyF [(2, .pointer (some ⟨b3, 0, none⟩)), (4, .pointer (some ⟨b4, 0, none⟩)), (5, .pointer (some ⟨b5, 0, none⟩)), (6, (v162_0_0 k22)), (7, .int .i64 x26_2), (25, .int .i64 t19.H), (26, .int .i64 x26_2), (30, .int .i64 t19.W), (31, .int .i64 x31_2)] [cellsC b3 [.int .i64 a0.W, .int .i64 a0.H, gv] 48, cellsC b4 [.int .i64 0, .int .i64 0, .slice none 0 0] 48, rowV 5 1 (.slice p_3.1 n_2 p_3.2) n_2 (l_6.map e_u8), cellsC b5 [.int .i64 t19.W, .int .i64 t19.H, .slice p_3.1 n_2 p_3.2] 48] rfl rfl ?_
        refine c_seq ?_
        refine c_region ?_
        refine l_val rfl rfl rfl (r_lss rfl rfl) ?_
        refine l_nil ?_
        refine c_seq ?_
        refine c_if (b := (decide (x31_2 < t19.W))) rfl (fun hb => ?_) (fun hb => ?_)
        · have H29 := cnd_t hb H28; clear H28
          refine c_skip ?_
          refine c_seq ?_
          refine c_block ?_
          refine c_seq ?_
          refine c_region ?_
          refine l_val rfl rfl rfl (r_move (v := .int .i64 x31_2) rfl) ?_
          refine l_val rfl rfl rfl (r_assign (v := .int .i64 x31_2) rfl) ?_
          refine l_nil ?_
          refine c_seq ?_
          refine c_region ?_
          refine l_val rfl rfl rfl (r_move (v := (v162_0_0 k22)) rfl) ?_
          refine l_val rfl rfl rfl (r_field Tryd.runUnderlying48 rfl Tryd.sizeOf3 rfl rfl) ?_
          refine l_load1 (i := 0) (v := .int .i64 a0.W) Tryd.isAgg3 rfl rfl rfl rfl rfl ?_
          refine l_val rfl rfl rfl (r_field Tryd.runUnderlying48 rfl Tryd.sizeOf3 rfl rfl) ?_
          refine l_load1 (i := 0) (v := .int .i64 a0.H) Tryd.isAgg3 rfl rfl rfl rfl rfl ?_
          refine l_val rfl rfl rfl (r_move (v := .int .i64 x31_2) rfl) ?_
          refine l_val rfl rfl rfl (r_move (v := .int .i64 x26_2) rfl) ?_
          obtain ⟨g42, h_g42, H30⟩ := bnd_some H29; clear H29
          obtain ⟨t42, h_t42, H31⟩ := bnd_some H30; clear H30
          refine l_callV (R := fnR_func_int_int_int_int_int_int g42) (r := .tuple #[.int .i64 t42.1, .int .i64 t42.2]) (v := (v162_0_0 k22)) (fun w hF hS => ⟨((h162_0_0 (gIx_lt h_k22)).fn (gFn_some h_g42) _), ⟨a0.W, a0.H, x31_2, x26_2, _, rfl, h_t42, rfl⟩⟩) rfl rfl rfl rfl ?_
          refine l_val rfl rfl rfl (r_move (v := .tuple #[.int .i64 t42.1, .int .i64 t42.2]) rfl) ?_
          refine l_val rfl rfl rfl (r_extract (v := .int .i64 t42.1) rfl rfl) ?_
          refine l_val rfl rfl rfl (r_extract (v := .int .i64 t42.2) rfl rfl) ?_
          refine l_val rfl rfl rfl (r_assign (v := .int .i64 t42.1) rfl) ?_
          refine l_val rfl rfl rfl (r_assign (v := .int .i64 t42.2) rfl) ?_
          refine l_nil ?_
          exact c_regionD (Kd.d [3] _ :: Kd.p :: Kd.p :: Kd.d [0] _ :: Kd.p :: Kd.p :: Kd.d [] _ :: Kd.t 2 [] _ _ :: []) 0 mixed (by
            refine d_loadN (i := 3) (vs := [.int .i64 t19.W, .int .i64 t19.H, .slice p_3.1 n_2 p_3.2]) Tryd.isAgg48 Tryd.sizeOf48 rfl rfl rfl rfl ?_
            refine d_val rfl rfl (r_move (v := .int .i64 x31_2) rfl) ?_
            refine d_val rfl rfl (r_move (v := .int .i64 x26_2) rfl) ?_
            refine d_loadN (i := 0) (vs := [.int .i64 a0.W, .int .i64 a0.H, gv]) Tryd.isAgg48 Tryd.sizeOf48 rfl rfl rfl rfl ?_
            refine d_val rfl rfl (r_move (v := .int .i64 t42.1) rfl) ?_
            refine d_val rfl rfl (r_move (v := .int .i64 t42.2) rfl) ?_
            have h_t51 := bnd_val H31
            have H32 := bnd_rest H31
            refine d_callD (fun w L' hF hS hi => k122 (know_all w) (gf_2.mono (hw.now hF)) h_t51) Tryd.call122 rfl rfl ?_
            have h_t52 := bnd_val H32
            have H33 := bnd_rest H32
            refine d_turn (Cv := fun _ => rowV 5 1 (.slice p_3.1 n_2 p_3.2) n_2 ((val (pix_set (⟨t19.W, t19.H, l_6⟩ : T_api_Image) x31_2 x26_2 (val (pix_at (⟨a0.W, a0.H, m_2⟩ : T_api_Image) t42.1 t42.2)))).map e_u8)) () (turns_callB (i := 2) (rds := _) (G := fun _ => .tuple #[]) (C := fun _ => rowV 5 1 (.slice p_3.1 n_2 p_3.2) n_2 ((val (pix_set (⟨t19.W, t19.H, l_6⟩ : T_api_Image) x31_2 x26_2 (val (pix_at (⟨a0.W, a0.H, m_2⟩ : T_api_Image) t42.1 t42.2)))).map e_u8)) rfl (fun w L' S hF hS hi hp hlt ho hA => (k121 hp hlt (know_but w S) hl_6 h_t52).mono (fun _ _ h => by obtain ⟨_, h⟩ := h; exact ⟨(), h⟩)) Tryd.call121 rfl) (fun _ => rfl) rfl rfl (fun _ => ?_)
            refine d_nil ?_
            refine c_know (fun w hF hS => lenOf (i := 2) hS rfl) (fun hl_7_ => ?_)
            have hl_7 : n_2 = (val (pix_set (⟨t19.W, t19.H, l_6⟩ : T_api_Image) x31_2 x26_2 (val (pix_at (⟨a0.W, a0.H, m_2⟩ : T_api_Image) t42.1 t42.2)))).length := by simpa using hl_7_.symm
            refine c_region ?_
            obtain ⟨t53, h_t53, H34⟩ := bnd_some H33; clear H33
            refine l_val rfl rfl rfl (r_addG rfl rfl h_t53) ?_
            refine l_val rfl rfl rfl (r_move (v := .int .i64 t53) rfl) ?_
            refine l_nil ?_
            refine c_close (t53, (val (pix_set (⟨t19.W, t19.H, l_6⟩ : T_api_Image) x31_2 x26_2 (val (pix_at (⟨a0.W, a0.H, m_2⟩ : T_api_Image) t42.1 t42.2))))) () m4 [0, 1, 2, 3] (by exact ⟨rfl, rfl, rfl, rfl, rfl, rfl, rfl, rfl, rfl, trivial⟩) (by decide) rfl (by exact ⟨(by subst hn4; exact H34), hl_7⟩) (Nat.lt_succ_self _)
            ) (by kernel_rfl)
        · have H35 := cnd_f hb H28; clear H28
          refine c_exit ?_
          refine c_close l_6 () 0 [0, 1, 2, 3] (by exact ⟨rfl, rfl, rfl, rfl, rfl, rfl, trivial⟩) (by decide) rfl (by exact ⟨H35, hl_6⟩) (Nat.lt_succ_self _)
      · rintro l_4 _ gg H26 hl_4
        replace H26 : pix_turned_j3 x26_2 m_2 next2 l_4 = some r := H26
        refine c_tidyF [(2, .pointer (some ⟨b3, 0, none⟩)), (4, .pointer (some ⟨b4, 0, none⟩)), (5, .pointer (some ⟨b5, 0, none⟩)), (6, (v162_0_0 k22)), (25, .int .i64 t19.H), (26, .int .i64 x26_2)] [cellsC b3 [.int .i64 a0.W, .int .i64 a0.H, gv] 48, cellsC b4 [.int .i64 0, .int .i64 0, .slice none 0 0] 48, rowV 5 1 (.slice p_3.1 n_2 p_3.2) n_2 (l_4.map e_u8), cellsC b5 [.int .i64 t19.W, .int .i64 t19.H, .slice p_3.1 n_2 p_3.2] 48] rfl rfl ?_
        refine c_region ?_
        obtain ⟨t54, h_t54, H27⟩ := bnd_some H26; clear H26
        refine l_val rfl rfl rfl (r_addG rfl rfl h_t54) ?_
        refine l_val rfl rfl rfl (r_move (v := .int .i64 t54) rfl) ?_
        refine l_nil ?_
        refine c_close (t54, m_2, l_4) (gv, p_3, n_2) m2 [0, 1, 2, 3] (by exact ⟨rfl, rfl, rfl, rfl, rfl, rfl, trivial⟩) (by decide) rfl (by exact ⟨(by subst hn2; exact H27), ⟨gf_2, hl_4⟩⟩) (Nat.lt_succ_self _)
    · have H36 := cnd_f hb H24; clear H24
      refine c_exit ?_
      refine c_close l_3 (p_3, n_2) 0 [1, 2, 3] (by exact ⟨rfl, rfl, trivial⟩) (by decide) rfl (by exact ⟨H36, hl_3⟩) (Nat.lt_succ_self _)
  · rintro l ⟨p_2, n⟩ gg H23 hl
    replace H23 : pix_turned_j1 t19 l = some r := H23
    refine c_tidyF [(4, .pointer (some ⟨b4, 0, none⟩)), (5, .pointer (some ⟨b5, 0, none⟩))] [cellsC b4 [.int .i64 0, .int .i64 0, .slice none 0 0] 48, rowV 5 1 (.slice p_2.1 n p_2.2) n (l.map e_u8), cellsC b5 [.int .i64 t19.W, .int .i64 t19.H, .slice p_2.1 n p_2.2] 48] rfl rfl ?_
    refine c_seq ?_
    refine c_region ?_
    refine l_loadN (i := 2) (vs := [.int .i64 t19.W, .int .i64 t19.H, .slice p_2.1 n p_2.2]) Tryd.isAgg48 Tryd.sizeOf48 rfl rfl rfl rfl rfl ?_
    refine l_store (i := 0) (vs := [.int .i64 t19.W, .int .i64 t19.H, .slice p_2.1 n p_2.2]) (cs' := [.int .i64 t19.W, .int .i64 t19.H, .slice p_2.1 n p_2.2]) Tryd.sizeOf48 rfl rfl rfl rfl rfl rfl rfl rfl rfl ?_
    refine l_nil ?_
    refine c_ret ?_
    obtain rfl := Option.some.inj H23
    refine retC (i := 0) (vs := [.int .i64 t19.W, .int .i64 t19.H, .slice p_2.1 n p_2.2]) Tryd.isAgg48 Tryd.sizeOf48 rfl rfl rfl rfl (finX p_2 (i := 1) rfl (by first | rfl | rw [(show n = l.length from hl)]) (by first | exact Imp.refl _ | exact Imp.of (by rw [(show n = l.length from hl)])))
theorem k72 {a0 : T_api_Image} {v0_2 : Value} {a1 : Int} {r : T_api_Image × Int} {w : World} {h : Heap} (hw : Know h w noS) (f0_2 : FrS h 1 v0_2 (a0.Pixels.map e_u8)) (H : pix_Turn a0 a1 = some r) : Does Tryd.prog 72 (List.toArray [.agg #[.int .i64 a0.W, .int .i64 a0.H, v0_2], .int .i64 a1]) w (fun v w' => ∃ x : (Option Addr × Nat), v = (.tuple #[.agg #[.int .i64 r.1.W, .int .i64 r.1.H, .slice x.1 r.1.Pixels.length x.2], .int .i64 r.2]) ∧ Turn w w' noS (rowV 5 1 (.slice x.1 r.1.Pixels.length x.2) r.1.Pixels.length (r.1.Pixels.map e_u8))) := by
  refine enter (n := 19) Tryd.func72 rfl rfl rfl noS [] (Sat.nil _ _) ?_
  refine c_seq ?_
  refine c_region ?_
  refine l_box (cs := [.int .i64 a0.W, .int .i64 a0.H, v0_2]) rfl rfl rfl rfl (fun b2 => ?_)
  refine l_alloc (cs := [.int .i64 0, .int .i64 0, .slice none 0 0]) Tryd.zeroValue48 rfl rfl rfl (fun b3 => ?_)
  refine l_val rfl rfl rfl (r_assign (v := .int .i64 0) rfl) ?_
  refine l_nil ?_
  refine c_seq ?_
  refine c_seq ?_
  refine c_region ?_
  refine l_loadN (i := 0) (vs := [.int .i64 a0.W, .int .i64 a0.H, v0_2]) Tryd.isAgg48 Tryd.sizeOf48 rfl rfl rfl rfl rfl ?_
  obtain ⟨t8, h_t8, H8⟩ := bnd_some H; clear H
  refine l_callG (fun w hF hS => k70 (know_all w) (f0_2.mono (hw.now hF)) h_t8) Tryd.call70 rfl rfl rfl ?_
  refine l_val rfl rfl rfl (r_assign (v := .int .i64 t8) rfl) ?_
  refine l_nil ?_
  refine c_seq ?_
  refine c_region ?_
  refine l_val rfl rfl rfl (r_move (v := .int .i64 t8) rfl) ?_
  refine l_val rfl rfl rfl (r_neq rfl rfl) ?_
  refine l_nil ?_
  refine c_if (b := (decide (t8 ≠ 0))) rfl (fun hb => ?_) (fun hb => ?_)
  · have H9 := cnd_t hb H8; clear H8
    refine c_seq ?_
    refine c_region ?_
    refine l_val rfl rfl rfl (r_build (pl := #[(0, 1), (1, 1), (2, 1)]) (ps := []) (cells := #[.int .i64 0, .int .i64 0, .slice none 0 0]) Tryd.zeroValue48 Tryd.runUnderlying48 (fun w => by kernel_rfl) rfl rfl) ?_
    refine l_val rfl rfl rfl (r_move (v := .int .i64 t8) rfl) ?_
    refine l_store (i := 1) (vs := [.int .i64 0, .int .i64 0, .slice none 0 0]) (cs' := [.int .i64 0, .int .i64 0, .slice none 0 0]) Tryd.sizeOf48 rfl rfl rfl rfl rfl rfl rfl rfl rfl ?_
    refine l_val rfl rfl rfl (r_assign (v := .int .i64 t8) rfl) ?_
    refine l_nil ?_
    refine c_ret ?_
    refine c_nilRow 5 1 ?_
    obtain rfl := Option.some.inj H9
    refine retCt (i := 1) (vs := [.int .i64 0, .int .i64 0, .slice ((none, 0) : Option Addr × Nat).1 ([] : List Int).length ((none, 0) : Option Addr × Nat).2]) (v2 := .int .i64 t8) Tryd.isAgg48 Tryd.sizeOf48 rfl rfl rfl rfl rfl (finX ((none, 0) : Option Addr × Nat) (i := 2) rfl rfl (Imp.refl _))
  · have H10 := cnd_f hb H8; clear H8
    refine c_skip ?_
    refine c_seq ?_
    refine c_seq ?_
    refine c_region ?_
    refine l_val rfl rfl rfl (r_move (v := .int .i64 a1) rfl) ?_
    obtain ⟨t14, h_t14, H11⟩ := bnd_some H10; clear H10
    refine l_call (k117 h_t14) Tryd.call117 rfl rfl rfl ?_
    refine l_nil ?_
    refine c_if (b := t14) rfl (fun hb => ?_) (fun hb => ?_)
    · have H12 := cnd_t hb H11; clear H11
      refine c_seq ?_
      refine c_region ?_
      refine l_val rfl rfl rfl (r_build (pl := #[(0, 1), (1, 1), (2, 1)]) (ps := []) (cells := #[.int .i64 0, .int .i64 0, .slice none 0 0]) Tryd.zeroValue48 Tryd.runUnderlying48 (fun w => by kernel_rfl) rfl rfl) ?_
      refine l_store (i := 1) (vs := [.int .i64 0, .int .i64 0, .slice none 0 0]) (cs' := [.int .i64 0, .int .i64 0, .slice none 0 0]) Tryd.sizeOf48 rfl rfl rfl rfl rfl rfl rfl rfl rfl ?_
      refine l_val rfl rfl rfl (r_assign (v := .int .i64 2) rfl) ?_
      refine l_nil ?_
      refine c_ret ?_
      refine c_nilRow 5 1 ?_
      obtain rfl := Option.some.inj H12
      refine retCt (i := 1) (vs := [.int .i64 0, .int .i64 0, .slice ((none, 0) : Option Addr × Nat).1 ([] : List Int).length ((none, 0) : Option Addr × Nat).2]) (v2 := .int .i64 2) Tryd.isAgg48 Tryd.sizeOf48 rfl rfl rfl rfl rfl (finX ((none, 0) : Option Addr × Nat) (i := 2) rfl rfl (Imp.refl _))
    · have H13 := cnd_f hb H11; clear H11
      refine c_skip ?_
      refine c_seq ?_
      refine c_region ?_
      refine l_loadN (i := 0) (vs := [.int .i64 a0.W, .int .i64 a0.H, v0_2]) Tryd.isAgg48 Tryd.sizeOf48 rfl rfl rfl rfl rfl ?_
      refine l_val rfl rfl rfl (r_move (v := .int .i64 a1) rfl) ?_
      obtain ⟨t18, h_t18, H14⟩ := bnd_some H13; clear H13
      refine l_make (makes_call (rds := []) (G := fun x : (Option Addr × Nat) => .agg #[.int .i64 t18.W, .int .i64 t18.H, .slice x.1 t18.Pixels.length x.2]) (C := fun x : (Option Addr × Nat) => rowV 5 1 (.slice x.1 t18.Pixels.length x.2) t18.Pixels.length (t18.Pixels.map e_u8)) (fun w L' hF hS hi => k119 (know_all w) (f0_2.mono (hw.now hF)) h_t18) Tryd.call119 rfl) rfl rfl rfl (fun p => ?_)
      refine l_store (i := 1) (vs := [.int .i64 t18.W, .int .i64 t18.H, .slice p.1 t18.Pixels.length p.2]) (cs' := [.int .i64 t18.W, .int .i64 t18.H, .slice p.1 t18.Pixels.length p.2]) Tryd.sizeOf48 rfl rfl rfl rfl rfl rfl rfl rfl rfl ?_
      refine l_val rfl rfl rfl (r_assign (v := .int .i64 0) rfl) ?_
      refine l_nil ?_
      refine c_ret ?_
      obtain rfl := Option.some.inj H14
      refine retCt (i := 1) (vs := [.int .i64 t18.W, .int .i64 t18.H, .slice p.1 t18.Pixels.length p.2]) (v2 := .int .i64 0) Tryd.isAgg48 Tryd.sizeOf48 rfl rfl rfl rfl rfl (finX p (i := 2) rfl rfl (Imp.refl _))
theorem k73 {a0 : T_api_Image} {v0_2 : Value} {a1 : Int} {a2 : Int} {a3 : Int} {a4 : Int} {r : T_api_Image × Int} {w : World} {h : Heap} (hw : Know h w noS) (f0_2 : FrS h 1 v0_2 (a0.Pixels.map e_u8)) (H : pix_Crop a0 a1 a2 a3 a4 = some r) : Does Tryd.prog 73 (List.toArray [.agg #[.int .i64 a0.W, .int .i64 a0.H, v0_2], .int .i64 a1, .int .i64 a2, .int .i64 a3, .int .i64 a4]) w (fun v w' => ∃ x : (Option Addr × Nat), v = (.tuple #[.agg #[.int .i64 r.1.W, .int .i64 r.1.H, .slice x.1 r.1.Pixels.length x.2], .int .i64 r.2]) ∧ Turn w w' noS (rowV 5 1 (.slice x.1 r.1.Pixels.length x.2) r.1.Pixels.length (r.1.Pixels.map e_u8))) := by
  refine enter (n := 83) Tryd.func73 rfl rfl rfl noS [] (Sat.nil _ _) ?_
  refine c_seq ?_
  refine c_region ?_
  refine l_box (cs := [.int .i64 a0.W, .int .i64 a0.H, v0_2]) rfl rfl rfl rfl (fun b3 => ?_)
  refine l_alloc (cs := [.int .i64 0, .int .i64 0, .slice none 0 0]) Tryd.zeroValue48 rfl rfl rfl (fun b4 => ?_)
  refine l_val rfl rfl rfl (r_assign (v := .int .i64 0) rfl) ?_
  refine l_nil ?_
  refine c_seq ?_
  refine c_seq ?_
  refine c_region ?_
  refine l_loadN (i := 0) (vs := [.int .i64 a0.W, .int .i64 a0.H, v0_2]) Tryd.isAgg48 Tryd.sizeOf48 rfl rfl rfl rfl rfl ?_
  obtain ⟨t17, h_t17, H35⟩ := bnd_some H; clear H
  refine l_callG (fun w hF hS => k70 (know_all w) (f0_2.mono (hw.now hF)) h_t17) Tryd.call70 rfl rfl rfl ?_
  refine l_val rfl rfl rfl (r_assign (v := .int .i64 t17) rfl) ?_
  refine l_nil ?_
  refine c_seq ?_
  refine c_region ?_
  refine l_val rfl rfl rfl (r_move (v := .int .i64 t17) rfl) ?_
  refine l_val rfl rfl rfl (r_neq rfl rfl) ?_
  refine l_nil ?_
  refine c_if (b := (decide (t17 ≠ 0))) rfl (fun hb => ?_) (fun hb => ?_)
  · have H36 := cnd_t hb H35; clear H35
    refine c_seq ?_
    refine c_region ?_
    refine l_val rfl rfl rfl (r_build (pl := #[(0, 1), (1, 1), (2, 1)]) (ps := []) (cells := #[.int .i64 0, .int .i64 0, .slice none 0 0]) Tryd.zeroValue48 Tryd.runUnderlying48 (fun w => by kernel_rfl) rfl rfl) ?_
    refine l_val rfl rfl rfl (r_move (v := .int .i64 t17) rfl) ?_
    refine l_store (i := 1) (vs := [.int .i64 0, .int .i64 0, .slice none 0 0]) (cs' := [.int .i64 0, .int .i64 0, .slice none 0 0]) Tryd.sizeOf48 rfl rfl rfl rfl rfl rfl rfl rfl rfl ?_
    refine l_val rfl rfl rfl (r_assign (v := .int .i64 t17) rfl) ?_
    refine l_nil ?_
    refine c_ret ?_
    refine c_nilRow 5 1 ?_
    obtain rfl := Option.some.inj H36
    refine retCt (i := 1) (vs := [.int .i64 0, .int .i64 0, .slice ((none, 0) : Option Addr × Nat).1 ([] : List Int).length ((none, 0) : Option Addr × Nat).2]) (v2 := .int .i64 t17) Tryd.isAgg48 Tryd.sizeOf48 rfl rfl rfl rfl rfl (finX ((none, 0) : Option Addr × Nat) (i := 2) rfl rfl (Imp.refl _))
  · have H37 := cnd_f hb H35; clear H35
    refine c_skip ?_
    refine c_seq ?_
    refine c_seq ?_
    refine c_region ?_
    refine l_val rfl rfl rfl (r_move (v := .int .i64 a1) rfl) ?_
    refine l_val rfl rfl rfl (r_lss rfl rfl) ?_
    refine l_val rfl rfl rfl (r_move (v := .bool (decide (a1 < 0))) rfl) ?_
    refine split (fun hb => ?_) (fun hb => ?_)
    · have H38 := cnd_t hb H37; clear H37
      refine l_passed rfl rfl rfl ?_
      refine l_passed rfl rfl rfl ?_
      refine l_val rfl rfl rfl (r_pickT (v := .bool true) rfl rfl) ?_
      refine l_val rfl rfl rfl (r_move (v := .bool true) rfl) ?_
      refine l_passed rfl rfl rfl ?_
      refine l_passed rfl rfl rfl ?_
      refine l_passed rfl rfl rfl ?_
      refine l_passed rfl rfl rfl ?_
      refine l_val rfl rfl rfl (r_pickT (v := .bool true) rfl rfl) ?_
      refine l_val rfl rfl rfl (r_move (v := .bool true) rfl) ?_
      refine l_passed rfl rfl rfl ?_
      refine l_passed rfl rfl rfl ?_
      refine l_passed rfl rfl rfl ?_
      refine l_passed rfl rfl rfl ?_
      refine l_val rfl rfl rfl (r_pickT (v := .bool true) rfl rfl) ?_
      refine l_val rfl rfl rfl (r_move (v := .bool true) rfl) ?_
      refine l_passed rfl rfl rfl ?_
      refine l_passed rfl rfl rfl ?_
      refine l_passed rfl rfl rfl ?_
      refine l_passed rfl rfl rfl ?_
      refine l_passed rfl rfl rfl ?_
      refine l_passed rfl rfl rfl ?_
      refine l_val rfl rfl rfl (r_pickT (v := .bool true) rfl rfl) ?_
      refine l_val rfl rfl rfl (r_move (v := .bool true) rfl) ?_
      refine l_passed rfl rfl rfl ?_
      refine l_passed rfl rfl rfl ?_
      refine l_passed rfl rfl rfl ?_
      refine l_passed rfl rfl rfl ?_
      refine l_passed rfl rfl rfl ?_
      refine l_passed rfl rfl rfl ?_
      refine l_val rfl rfl rfl (r_pickT (v := .bool true) rfl rfl) ?_
      refine l_nil ?_
      refine c_true rfl ?_
      refine c_seq ?_
      refine c_region ?_
      refine l_val rfl rfl rfl (r_build (pl := #[(0, 1), (1, 1), (2, 1)]) (ps := []) (cells := #[.int .i64 0, .int .i64 0, .slice none 0 0]) Tryd.zeroValue48 Tryd.runUnderlying48 (fun w => by kernel_rfl) rfl rfl) ?_
      refine l_store (i := 1) (vs := [.int .i64 0, .int .i64 0, .slice none 0 0]) (cs' := [.int .i64 0, .int .i64 0, .slice none 0 0]) Tryd.sizeOf48 rfl rfl rfl rfl rfl rfl rfl rfl rfl ?_
      refine l_val rfl rfl rfl (r_assign (v := .int .i64 2) rfl) ?_
      refine l_nil ?_
      refine c_ret ?_
      refine c_nilRow 5 1 ?_
      obtain rfl := Option.some.inj H38
      refine retCt (i := 1) (vs := [.int .i64 0, .int .i64 0, .slice ((none, 0) : Option Addr × Nat).1 ([] : List Int).length ((none, 0) : Option Addr × Nat).2]) (v2 := .int .i64 2) Tryd.isAgg48 Tryd.sizeOf48 rfl rfl rfl rfl rfl (finX ((none, 0) : Option Addr × Nat) (i := 2) rfl rfl (Imp.refl _))
    · have H39 := cnd_f hb H37; clear H37
      refine l_val rfl rfl rfl (r_move (v := .int .i64 a2) rfl) ?_
      refine l_val rfl rfl rfl (r_lss rfl rfl) ?_
      refine l_val rfl rfl rfl (r_pickF (v := .bool (decide (a2 < 0))) rfl rfl) ?_
      refine l_val rfl rfl rfl (r_move (v := .bool (decide (a2 < 0))) rfl) ?_
      refine split (fun hb => ?_) (fun hb => ?_)
      · have H40 := cnd_t hb H39; clear H39
        refine l_passed rfl rfl rfl ?_
        refine l_passed rfl rfl rfl ?_
        refine l_passed rfl rfl rfl ?_
        refine l_passed rfl rfl rfl ?_
        refine l_val rfl rfl rfl (r_pickT (v := .bool true) rfl rfl) ?_
        refine l_val rfl rfl rfl (r_move (v := .bool true) rfl) ?_
        refine l_passed rfl rfl rfl ?_
        refine l_passed rfl rfl rfl ?_
        refine l_passed rfl rfl rfl ?_
        refine l_passed rfl rfl rfl ?_
        refine l_val rfl rfl rfl (r_pickT (v := .bool true) rfl rfl) ?_
        refine l_val rfl rfl rfl (r_move (v := .bool true) rfl) ?_
        refine l_passed rfl rfl rfl ?_
        refine l_passed rfl rfl rfl ?_
        refine l_passed rfl rfl rfl ?_
        refine l_passed rfl rfl rfl ?_
        refine l_passed rfl rfl rfl ?_
        refine l_passed rfl rfl rfl ?_
        refine l_val rfl rfl rfl (r_pickT (v := .bool true) rfl rfl) ?_
        refine l_val rfl rfl rfl (r_move (v := .bool true) rfl) ?_
        refine l_passed rfl rfl rfl ?_
        refine l_passed rfl rfl rfl ?_
        refine l_passed rfl rfl rfl ?_
        refine l_passed rfl rfl rfl ?_
        refine l_passed rfl rfl rfl ?_
        refine l_passed rfl rfl rfl ?_
        refine l_val rfl rfl rfl (r_pickT (v := .bool true) rfl rfl) ?_
        refine l_nil ?_
        refine c_true rfl ?_
        refine c_seq ?_
        refine c_region ?_
        refine l_val rfl rfl rfl (r_build (pl := #[(0, 1), (1, 1), (2, 1)]) (ps := []) (cells := #[.int .i64 0, .int .i64 0, .slice none 0 0]) Tryd.zeroValue48 Tryd.runUnderlying48 (fun w => by kernel_rfl) rfl rfl) ?_
        refine l_store (i := 1) (vs := [.int .i64 0, .int .i64 0, .slice none 0 0]) (cs' := [.int .i64 0, .int .i64 0, .slice none 0 0]) Tryd.sizeOf48 rfl rfl rfl rfl rfl rfl rfl rfl rfl ?_
        refine l_val rfl rfl rfl (r_assign (v := .int .i64 2) rfl) ?_
        refine l_nil ?_
        refine c_ret ?_
        refine c_nilRow 5 1 ?_
        obtain rfl := Option.some.inj H40
        refine retCt (i := 1) (vs := [.int .i64 0, .int .i64 0, .slice ((none, 0) : Option Addr × Nat).1 ([] : List Int).length ((none, 0) : Option Addr × Nat).2]) (v2 := .int .i64 2) Tryd.isAgg48 Tryd.sizeOf48 rfl rfl rfl rfl rfl (finX ((none, 0) : Option Addr × Nat) (i := 2) rfl rfl (Imp.refl _))
      · have H41 := cnd_f hb H39; clear H39
        refine l_val rfl rfl rfl (r_move (v := .int .i64 a3) rfl) ?_
        refine l_val rfl rfl rfl (r_field Tryd.runUnderlying48 rfl Tryd.sizeOf3 rfl rfl) ?_
        refine l_load1 (i := 0) (v := .int .i64 a0.W) Tryd.isAgg3 rfl rfl rfl rfl rfl ?_
        obtain ⟨t32, h_t32, H42⟩ := bnd_some H41; clear H41
        refine l_call (k117 h_t32) Tryd.call117 rfl rfl rfl ?_
        refine l_val rfl rfl rfl (r_pickF (v := .bool t32) rfl rfl) ?_
        refine l_val rfl rfl rfl (r_move (v := .bool t32) rfl) ?_
        refine split (fun hb => ?_) (fun hb => ?_)
        · have H43 := cnd_t hb H42; clear H42
          refine l_passed rfl rfl rfl ?_
          refine l_passed rfl rfl rfl ?_
          refine l_passed rfl rfl rfl ?_
          refine l_passed rfl rfl rfl ?_
          refine l_val rfl rfl rfl (r_pickT (v := .bool true) rfl rfl) ?_
          refine l_val rfl rfl rfl (r_move (v := .bool true) rfl) ?_
          refine l_passed rfl rfl rfl ?_
          refine l_passed rfl rfl rfl ?_
          refine l_passed rfl rfl rfl ?_
          refine l_passed rfl rfl rfl ?_
          refine l_passed rfl rfl rfl ?_
          refine l_passed rfl rfl rfl ?_
          refine l_val rfl rfl rfl (r_pickT (v := .bool true) rfl rfl) ?_
          refine l_val rfl rfl rfl (r_move (v := .bool true) rfl) ?_
          refine l_passed rfl rfl rfl ?_
          refine l_passed rfl rfl rfl ?_
          refine l_passed rfl rfl rfl ?_
          refine l_passed rfl rfl rfl ?_
          refine l_passed rfl rfl rfl ?_
          refine l_passed rfl rfl rfl ?_
          refine l_val rfl rfl rfl (r_pickT (v := .bool true) rfl rfl) ?_
          refine l_nil ?_
          refine c_true rfl ?_
          refine c_seq ?_
          refine c_region ?_
          refine l_val rfl rfl rfl (r_build (pl := #[(0, 1), (1, 1), (2, 1)]) (ps := []) (cells := #[.int .i64 0, .int .i64 0, .slice none 0 0]) Tryd.zeroValue48 Tryd.runUnderlying48 (fun w => by kernel_rfl) rfl rfl) ?_
          refine l_store (i := 1) (vs := [.int .i64 0, .int .i64 0, .slice none 0 0]) (cs' := [.int .i64 0, .int .i64 0, .slice none 0 0]) Tryd.sizeOf48 rfl rfl rfl rfl rfl rfl rfl rfl rfl ?_
          refine l_val rfl rfl rfl (r_assign (v := .int .i64 2) rfl) ?_
          refine l_nil ?_
          refine c_ret ?_
          refine c_nilRow 5 1 ?_
          obtain rfl := Option.some.inj H43
          refine retCt (i := 1) (vs := [.int .i64 0, .int .i64 0, .slice ((none, 0) : Option Addr × Nat).1 ([] : List Int).length ((none, 0) : Option Addr × Nat).2]) (v2 := .int .i64 2) Tryd.isAgg48 Tryd.sizeOf48 rfl rfl rfl rfl rfl (finX ((none, 0) : Option Addr × Nat) (i := 2) rfl rfl (Imp.refl _))
        · have H44 := cnd_f hb H42; clear H42
          refine l_val rfl rfl rfl (r_move (v := .int .i64 a4) rfl) ?_
          refine l_val rfl rfl rfl (r_field Tryd.runUnderlying48 rfl Tryd.sizeOf3 rfl rfl) ?_
          refine l_load1 (i := 0) (v := .int .i64 a0.H) Tryd.isAgg3 rfl rfl rfl rfl rfl ?_
          obtain ⟨t38, h_t38, H45⟩ := bnd_some H44; clear H44
          refine l_call (k117 h_t38) Tryd.call117 rfl rfl rfl ?_
          refine l_val rfl rfl rfl (r_pickF (v := .bool t38) rfl rfl) ?_
          refine l_val rfl rfl rfl (r_move (v := .bool t38) rfl) ?_
          refine split (fun hb => ?_) (fun hb => ?_)
          · have H46 := cnd_t hb H45; clear H45
            refine l_passed rfl rfl rfl ?_
            refine l_passed rfl rfl rfl ?_
            refine l_passed rfl rfl rfl ?_
            refine l_passed rfl rfl rfl ?_
            refine l_passed rfl rfl rfl ?_
            refine l_passed rfl rfl rfl ?_
            refine l_val rfl rfl rfl (r_pickT (v := .bool true) rfl rfl) ?_
            refine l_val rfl rfl rfl (r_move (v := .bool true) rfl) ?_
            refine l_passed rfl rfl rfl ?_
            refine l_passed rfl rfl rfl ?_
            refine l_passed rfl rfl rfl ?_
            refine l_passed rfl rfl rfl ?_
            refine l_passed rfl rfl rfl ?_
            refine l_passed rfl rfl rfl ?_
            refine l_val rfl rfl rfl (r_pickT (v := .bool true) rfl rfl) ?_
            refine l_nil ?_
            refine c_true rfl ?_
            refine c_seq ?_
            refine c_region ?_
            refine l_val rfl rfl rfl (r_build (pl := #[(0, 1), (1, 1), (2, 1)]) (ps := []) (cells := #[.int .i64 0, .int .i64 0, .slice none 0 0]) Tryd.zeroValue48 Tryd.runUnderlying48 (fun w => by kernel_rfl) rfl rfl) ?_
            refine l_store (i := 1) (vs := [.int .i64 0, .int .i64 0, .slice none 0 0]) (cs' := [.int .i64 0, .int .i64 0, .slice none 0 0]) Tryd.sizeOf48 rfl rfl rfl rfl rfl rfl rfl rfl rfl ?_
            refine l_val rfl rfl rfl (r_assign (v := .int .i64 2) rfl) ?_
            refine l_nil ?_
            refine c_ret ?_
            refine c_nilRow 5 1 ?_
            obtain rfl := Option.some.inj H46
            refine retCt (i := 1) (vs := [.int .i64 0, .int .i64 0, .slice ((none, 0) : Option Addr × Nat).1 ([] : List Int).length ((none, 0) : Option Addr × Nat).2]) (v2 := .int .i64 2) Tryd.isAgg48 Tryd.sizeOf48 rfl rfl rfl rfl rfl (finX ((none, 0) : Option Addr × Nat) (i := 2) rfl rfl (Imp.refl _))
          · have H47 := cnd_f hb H45; clear H45
            refine l_val rfl rfl rfl (r_move (v := .int .i64 a1) rfl) ?_
            refine l_val rfl rfl rfl (r_field Tryd.runUnderlying48 rfl Tryd.sizeOf3 rfl rfl) ?_
            refine l_load1 (i := 0) (v := .int .i64 a0.W) Tryd.isAgg3 rfl rfl rfl rfl rfl ?_
            refine l_val rfl rfl rfl (r_move (v := .int .i64 a3) rfl) ?_
            obtain ⟨t45, h_t45, H48⟩ := bnd_some H47; clear H47
            refine l_val rfl rfl rfl (r_subG rfl rfl h_t45) ?_
            refine l_val rfl rfl rfl (r_gtr rfl rfl) ?_
            refine l_val rfl rfl rfl (r_pickF (v := .bool (decide (t45 < a1))) rfl rfl) ?_
            refine l_val rfl rfl rfl (r_move (v := .bool (decide (t45 < a1))) rfl) ?_
            refine split (fun hb => ?_) (fun hb => ?_)
            · have H49 := cnd_t hb H48; clear H48
              refine l_passed rfl rfl rfl ?_
              refine l_passed rfl rfl rfl ?_
              refine l_passed rfl rfl rfl ?_
              refine l_passed rfl rfl rfl ?_
              refine l_passed rfl rfl rfl ?_
              refine l_passed rfl rfl rfl ?_
              refine l_val rfl rfl rfl (r_pickT (v := .bool true) rfl rfl) ?_
              refine l_nil ?_
              refine c_true rfl ?_
              refine c_seq ?_
              refine c_region ?_
              refine l_val rfl rfl rfl (r_build (pl := #[(0, 1), (1, 1), (2, 1)]) (ps := []) (cells := #[.int .i64 0, .int .i64 0, .slice none 0 0]) Tryd.zeroValue48 Tryd.runUnderlying48 (fun w => by kernel_rfl) rfl rfl) ?_
              refine l_store (i := 1) (vs := [.int .i64 0, .int .i64 0, .slice none 0 0]) (cs' := [.int .i64 0, .int .i64 0, .slice none 0 0]) Tryd.sizeOf48 rfl rfl rfl rfl rfl rfl rfl rfl rfl ?_
              refine l_val rfl rfl rfl (r_assign (v := .int .i64 2) rfl) ?_
              refine l_nil ?_
              refine c_ret ?_
              refine c_nilRow 5 1 ?_
              obtain rfl := Option.some.inj H49
              refine retCt (i := 1) (vs := [.int .i64 0, .int .i64 0, .slice ((none, 0) : Option Addr × Nat).1 ([] : List Int).length ((none, 0) : Option Addr × Nat).2]) (v2 := .int .i64 2) Tryd.isAgg48 Tryd.sizeOf48 rfl rfl rfl rfl rfl (finX ((none, 0) : Option Addr × Nat) (i := 2) rfl rfl (Imp.refl _))
            · have H50 := cnd_f hb H48; clear H48
              refine l_val rfl rfl rfl (r_move (v := .int .i64 a2) rfl) ?_
              refine l_val rfl rfl rfl (r_field Tryd.runUnderlying48 rfl Tryd.sizeOf3 rfl rfl) ?_
              refine l_load1 (i := 0) (v := .int .i64 a0.H) Tryd.isAgg3 rfl rfl rfl rfl rfl ?_
              refine l_val rfl rfl rfl (r_move (v := .int .i64 a4) rfl) ?_
              obtain ⟨t53, h_t53, H51⟩ := bnd_some H50; clear H50
              refine l_val rfl rfl rfl (r_subG rfl rfl h_t53) ?_
              refine l_val rfl rfl rfl (r_gtr rfl rfl) ?_
              refine l_val rfl rfl rfl (r_pickF (v := .bool (decide (t53 < a2))) rfl rfl) ?_
              refine l_nil ?_
              refine c_if (b := (decide (t53 < a2))) rfl (fun hb => ?_) (fun hb => ?_)
              · have H52 := cnd_t hb H51; clear H51
                refine c_seq ?_
                refine c_region ?_
                refine l_val rfl rfl rfl (r_build (pl := #[(0, 1), (1, 1), (2, 1)]) (ps := []) (cells := #[.int .i64 0, .int .i64 0, .slice none 0 0]) Tryd.zeroValue48 Tryd.runUnderlying48 (fun w => by kernel_rfl) rfl rfl) ?_
                refine l_store (i := 1) (vs := [.int .i64 0, .int .i64 0, .slice none 0 0]) (cs' := [.int .i64 0, .int .i64 0, .slice none 0 0]) Tryd.sizeOf48 rfl rfl rfl rfl rfl rfl rfl rfl rfl ?_
                refine l_val rfl rfl rfl (r_assign (v := .int .i64 2) rfl) ?_
                refine l_nil ?_
                refine c_ret ?_
                refine c_nilRow 5 1 ?_
                obtain rfl := Option.some.inj H52
                refine retCt (i := 1) (vs := [.int .i64 0, .int .i64 0, .slice ((none, 0) : Option Addr × Nat).1 ([] : List Int).length ((none, 0) : Option Addr × Nat).2]) (v2 := .int .i64 2) Tryd.isAgg48 Tryd.sizeOf48 rfl rfl rfl rfl rfl (finX ((none, 0) : Option Addr × Nat) (i := 2) rfl rfl (Imp.refl _))
              · have H53 := cnd_f hb H51; clear H51
                refine c_skip ?_
                refine c_seq ?_
                refine c_region ?_
                refine l_val rfl rfl rfl (r_move (v := .int .i64 a3) rfl) ?_
                refine l_val rfl rfl rfl (r_move (v := .int .i64 a4) rfl) ?_
                obtain ⟨t59, h_t59, H54⟩ := bnd_some H53; clear H53
                refine l_make (makes_call (rds := []) (G := fun x : (Option Addr × Nat) => .agg #[.int .i64 t59.W, .int .i64 t59.H, .slice x.1 t59.Pixels.length x.2]) (C := fun x : (Option Addr × Nat) => rowV 5 1 (.slice x.1 t59.Pixels.length x.2) t59.Pixels.length (t59.Pixels.map e_u8)) (fun w L' hF hS hi => k120 (know_all w)  h_t59) Tryd.call120 rfl) rfl rfl rfl (fun p => ?_)
                refine l_alloc (cs := [.int .i64 0, .int .i64 0, .slice none 0 0]) Tryd.zeroValue48 rfl rfl rfl (fun b5 => ?_)
                refine l_store (i := 3) (vs := [.int .i64 t59.W, .int .i64 t59.H, .slice p.1 t59.Pixels.length p.2]) (cs' := [.int .i64 t59.W, .int .i64 t59.H, .slice p.1 t59.Pixels.length p.2]) Tryd.sizeOf48 rfl rfl rfl rfl rfl rfl rfl rfl rfl ?_
                refine l_nil ?_
                refine c_meet (r := r) (σ := (List Int)) (τ := (Option Addr × Nat) × Nat) (fun s => pix_Crop_j1 t59 s) (fun s t => [(10, .pointer (some ⟨b4, 0, none⟩)), (13, .pointer (some ⟨b5, 0, none⟩))]) (fun s t => [cellsC b4 [.int .i64 0, .int .i64 0, .slice none 0 0] 48, rowV 5 1 (.slice t.1.1 t.2 t.1.2) t.2 (s.map e_u8), cellsC b5 [.int .i64 t59.W, .int .i64 t59.H, .slice t.1.1 t.2 t.1.2] 48]) (fun s t => t.2 = s.length) ?_ ?_
                · refine c_seq ?_
                  refine c_region ?_
                  refine l_val rfl rfl rfl (r_move (v := .int .i64 a4) rfl) ?_
                  refine l_val rfl rfl rfl (r_move (v := .int .i64 0) rfl) ?_
                  refine l_nil ?_
                  refine c_block ?_
                  refine c_fix (σ := Int × (List Int) × (List Int)) (τ := Value × (Option Addr × Nat) × Nat) (fun next2 s => pix_Crop_l2 a0 a1 a2 a3 a4 t59 next2 s.1 s.2.1 s.2.2) (fun s t => [(1, .int .i64 a1), (2, .int .i64 a2), (3, .int .i64 a3), (5, .pointer (some ⟨b3, 0, none⟩)), (10, .pointer (some ⟨b4, 0, none⟩)), (13, .pointer (some ⟨b5, 0, none⟩)), (60, .int .i64 a4), (61, .int .i64 s.1)]) (fun s t => [cellsC b3 [.int .i64 a0.W, .int .i64 a0.H, t.1] 48, cellsC b4 [.int .i64 0, .int .i64 0, .slice none 0 0] 48, rowV 5 1 (.slice t.2.1.1 t.2.2 t.2.1.2) t.2.2 (s.2.2.map e_u8), cellsC b5 [.int .i64 t59.W, .int .i64 t59.H, .slice t.2.1.1 t.2.2 t.2.1.2] 48]) (fun s t => FrS h 1 t.1 (s.2.1.map e_u8) ∧ t.2.2 = s.2.2.length) (0, a0.Pixels, t59.Pixels) (v0_2, p, t59.Pixels.length) [0, 1, 2, 3] H54 (by exact ⟨f0_2, rfl⟩) (by exact ⟨rfl, rfl, rfl, rfl, rfl, rfl, rfl, rfl, trivial⟩) (by decide) rfl ?_
                  rintro ⟨x61_2, m_2, l_3⟩ ⟨gv, p_3, n_2⟩ m2 gg H56 ⟨gf_2, hl_3⟩
                  clear H54
                  replace H56 : pix_Crop_l2 a0 a1 a2 a3 a4 t59 (it (fun next2 s => pix_Crop_l2 a0 a1 a2 a3 a4 t59 next2 s.1 s.2.1 s.2.2) m2) x61_2 m_2 l_3 = some r := H56
                  generalize hn2 : it (fun next2 s => pix_Crop_l2 a0 a1 a2 a3 a4 t59 next2 s.1 s.2.1 s.2.2) m2 = next2 at H56
                  refine c_tidyF [(1, .int .i64 a1), (2, .int .i64 a2), (3, .int .i64 a3), (5, .pointer (some ⟨b3, 0, none⟩)), (10, .pointer (some ⟨b4, 0, none⟩)), (13, .pointer (some ⟨b5, 0, none⟩)), (60, .int .i64 a4), (61, .int .i64 x61_2)] [cellsC b3 [.int .i64 a0.W, .int .i64 a0.H, gv] 48, cellsC b4 [.int .i64 0, .int .i64 0, .slice none 0 0] 48, rowV 5 1 (.slice p_3.1 n_2 p_3.2) n_2 (l_3.map e_u8), cellsC b5 [.int .i64 t59.W, .int .i64 t59.H, .slice p_3.1 n_2 p_3.2] 48] rfl rfl ?_
                  refine c_seq ?_
                  refine c_region ?_
                  refine l_val rfl rfl rfl (r_lss rfl rfl) ?_
                  refine l_nil ?_
                  refine c_seq ?_
                  refine c_if (b := (decide (x61_2 < a4))) rfl (fun hb => ?_) (fun hb => ?_)
                  · have H57 := cnd_t hb H56; clear H56
                    refine c_skip ?_
                    refine c_meet (r := r) (σ := (List Int)) (τ := Unit) (fun s => pix_Crop_j3 x61_2 m_2 next2 s) (fun s t => [(1, .int .i64 a1), (2, .int .i64 a2), (3, .int .i64 a3), (5, .pointer (some ⟨b3, 0, none⟩)), (10, .pointer (some ⟨b4, 0, none⟩)), (13, .pointer (some ⟨b5, 0, none⟩)), (60, .int .i64 a4), (61, .int .i64 x61_2)]) (fun s t => [cellsC b3 [.int .i64 a0.W, .int .i64 a0.H, gv] 48, cellsC b4 [.int .i64 0, .int .i64 0, .slice none 0 0] 48, rowV 5 1 (.slice p_3.1 n_2 p_3.2) n_2 (s.map e_u8), cellsC b5 [.int .i64 t59.W, .int .i64 t59.H, .slice p_3.1 n_2 p_3.2] 48]) (fun s t => n_2 = s.length) ?_ ?_
                    · refine c_block ?_
                      refine c_seq ?_
                      refine c_region ?_
                      refine l_val rfl rfl rfl (r_move (v := .int .i64 x61_2) rfl) ?_
                      refine l_val rfl rfl rfl (r_assign (v := .int .i64 x61_2) rfl) ?_
                      refine l_nil ?_
                      refine c_seq ?_
                      refine c_region ?_
                      refine l_val rfl rfl rfl (r_move (v := .int .i64 a3) rfl) ?_
                      refine l_val rfl rfl rfl (r_move (v := .int .i64 0) rfl) ?_
                      refine l_nil ?_
                      refine c_block ?_
                      refine c_fix (σ := Int × (List Int)) (τ := Unit) (fun next4 s => pix_Crop_l4 a0 a1 a2 a3 t59 x61_2 m_2 next2 next4 s.1 s.2) (fun s t => [(1, .int .i64 a1), (2, .int .i64 a2), (3, .int .i64 a3), (5, .pointer (some ⟨b3, 0, none⟩)), (10, .pointer (some ⟨b4, 0, none⟩)), (13, .pointer (some ⟨b5, 0, none⟩)), (14, .int .i64 x61_2), (60, .int .i64 a4), (61, .int .i64 x61_2), (64, .int .i64 a3), (65, .int .i64 s.1)]) (fun s t => [cellsC b3 [.int .i64 a0.W, .int .i64 a0.H, gv] 48, cellsC b4 [.int .i64 0, .int .i64 0, .slice none 0 0] 48, rowV 5 1 (.slice p_3.1 n_2 p_3.2) n_2 (s.2.map e_u8), cellsC b5 [.int .i64 t59.W, .int .i64 t59.H, .slice p_3.1 n_2 p_3.2] 48]) (fun s t => n_2 = s.2.length) (0, l_3) () [0, 1, 2, 3] H57 (by exact hl_3) (by exact ⟨rfl, rfl, rfl, rfl, rfl, rfl, rfl, rfl, rfl, rfl, rfl, trivial⟩) (by decide) rfl ?_
                      rintro ⟨x65_2, l_6⟩ _ m4 gg H60 hl_6
                      clear H57
                      replace H60 : pix_Crop_l4 a0 a1 a2 a3 t59 x61_2 m_2 next2 (it (fun next4 s => pix_Crop_l4 a0 a1 a2 a3 t59 x61_2 m_2 next2 next4 s.1 s.2) m4) x65_2 l_6 = some r := H60
                      generalize hn4 : it (fun next4 s => pix_Crop_l4 a0 a1 a2 a3 t59 x61_2 m_2 next2 next4 s.1 s.2) m4 = next4 at H60
                      refine c_tidyF [(1, .int .i64 a1), (2, .int .i64 a2), (3, .int .i64 a3), (5, .pointer (some ⟨b3, 0, none⟩)), (10, .pointer (some ⟨b4, 0, none⟩)), (13, .pointer (some ⟨b5, 0, none⟩)), (14, .int .i64 x61_2), (60, .int .i64 a4), (61, .int .i64 x61_2), (64, .int .i64 a3), (65, .int .i64 x65_2)] [cellsC b3 [.int .i64 a0.W, .int .i64 a0.H, gv] 48, cellsC b4 [.int .i64 0, .int .i64 0, .slice none 0 0] 48, rowV 5 1 (.slice p_3.1 n_2 p_3.2) n_2 (l_6.map e_u8), cellsC b5 [.int .i64 t59.W, .int .i64 t59.H, .slice p_3.1 n_2 p_3.2] 48] rfl rfl ?_
                      refine c_seq ?_
                      refine c_region ?_
                      refine l_val rfl rfl rfl (r_lss rfl rfl) ?_
                      refine l_nil ?_
                      refine c_seq ?_
                      refine c_if (b := (decide (x65_2 < a3))) rfl (fun hb => ?_) (fun hb => ?_)
                      · have H61 := cnd_t hb H60; clear H60
                        refine c_skip ?_
                        refine c_seq ?_
                        refine c_block ?_
                        refine c_seq ?_
                        refine c_region ?_
                        refine l_val rfl rfl rfl (r_move (v := .int .i64 x65_2) rfl) ?_
                        refine l_val rfl rfl rfl (r_assign (v := .int .i64 x65_2) rfl) ?_
                        refine l_nil ?_
                        exact c_regionD (Kd.d [3] _ :: Kd.p :: Kd.p :: Kd.d [0] _ :: Kd.p :: Kd.p :: Kd.p :: Kd.p :: Kd.p :: Kd.p :: Kd.d [] _ :: Kd.t 2 [] _ _ :: []) 0 mixed (by
                          refine d_loadN (i := 3) (vs := [.int .i64 t59.W, .int .i64 t59.H, .slice p_3.1 n_2 p_3.2]) Tryd.isAgg48 Tryd.sizeOf48 rfl rfl rfl rfl ?_
                          refine d_val rfl rfl (r_move (v := .int .i64 x65_2) rfl) ?_
                          refine d_val rfl rfl (r_move (v := .int .i64 x61_2) rfl) ?_
                          refine d_loadN (i := 0) (vs := [.int .i64 a0.W, .int .i64 a0.H, gv]) Tryd.isAgg48 Tryd.sizeOf48 rfl rfl rfl rfl ?_
                          refine d_val rfl rfl (r_move (v := .int .i64 a1) rfl) ?_
                          refine d_val rfl rfl (r_move (v := .int .i64 x65_2) rfl) ?_
                          have h_t74 := bnd_val H61
                          have H62 := bnd_rest H61
                          refine d_val rfl rfl (r_addG rfl rfl h_t74) ?_
                          refine d_val rfl rfl (r_move (v := .int .i64 a2) rfl) ?_
                          refine d_val rfl rfl (r_move (v := .int .i64 x61_2) rfl) ?_
                          have h_t77 := bnd_val H62
                          have H63 := bnd_rest H62
                          refine d_val rfl rfl (r_addG rfl rfl h_t77) ?_
                          have h_t78 := bnd_val H63
                          have H64 := bnd_rest H63
                          refine d_callD (fun w L' hF hS hi => k122 (know_all w) (gf_2.mono (hw.now hF)) h_t78) Tryd.call122 rfl rfl ?_
                          have h_t79 := bnd_val H64
                          have H65 := bnd_rest H64
                          refine d_turn (Cv := fun _ => rowV 5 1 (.slice p_3.1 n_2 p_3.2) n_2 ((val (pix_set (⟨t59.W, t59.H, l_6⟩ : T_api_Image) x65_2 x61_2 (val (pix_at (⟨a0.W, a0.H, m_2⟩ : T_api_Image) (val (gI (a1 + x65_2))) (val (gI (a2 + x61_2))))))).map e_u8)) () (turns_callB (i := 2) (rds := _) (G := fun _ => .tuple #[]) (C := fun _ => rowV 5 1 (.slice p_3.1 n_2 p_3.2) n_2 ((val (pix_set (⟨t59.W, t59.H, l_6⟩ : T_api_Image) x65_2 x61_2 (val (pix_at (⟨a0.W, a0.H, m_2⟩ : T_api_Image) (val (gI (a1 + x65_2))) (val (gI (a2 + x61_2))))))).map e_u8)) rfl (fun w L' S hF hS hi hp hlt ho hA => (k121 hp hlt (know_but w S) hl_6 h_t79).mono (fun _ _ h => by obtain ⟨_, h⟩ := h; exact ⟨(), h⟩)) Tryd.call121 rfl) (fun _ => rfl) rfl rfl (fun _ => ?_)
                          refine d_nil ?_
                          refine c_know (fun w hF hS => lenOf (i := 2) hS rfl) (fun hl_7_ => ?_)
                          have hl_7 : n_2 = (val (pix_set (⟨t59.W, t59.H, l_6⟩ : T_api_Image) x65_2 x61_2 (val (pix_at (⟨a0.W, a0.H, m_2⟩ : T_api_Image) (val (gI (a1 + x65_2))) (val (gI (a2 + x61_2))))))).length := by simpa using hl_7_.symm
                          refine c_region ?_
                          obtain ⟨t80, h_t80, H66⟩ := bnd_some H65; clear H65
                          refine l_val rfl rfl rfl (r_addG rfl rfl h_t80) ?_
                          refine l_val rfl rfl rfl (r_move (v := .int .i64 t80) rfl) ?_
                          refine l_nil ?_
                          refine c_close (t80, (val (pix_set (⟨t59.W, t59.H, l_6⟩ : T_api_Image) x65_2 x61_2 (val (pix_at (⟨a0.W, a0.H, m_2⟩ : T_api_Image) (val (gI (a1 + x65_2))) (val (gI (a2 + x61_2)))))))) () m4 [0, 1, 2, 3] (by exact ⟨rfl, rfl, rfl, rfl, rfl, rfl, rfl, rfl, rfl, rfl, rfl, trivial⟩) (by decide) rfl (by exact ⟨(by subst hn4; exact H66), hl_7⟩) (Nat.lt_succ_self _)
                          ) (by kernel_rfl)
                      · have H67 := cnd_f hb H60; clear H60
                        refine c_exit ?_
                        refine c_close l_6 () 0 [0, 1, 2, 3] (by exact ⟨rfl, rfl, rfl, rfl, rfl, rfl, rfl, rfl, trivial⟩) (by decide) rfl (by exact ⟨H67, hl_6⟩) (Nat.lt_succ_self _)
                    · rintro l_4 _ gg H58 hl_4
                      replace H58 : pix_Crop_j3 x61_2 m_2 next2 l_4 = some r := H58
                      refine c_tidyF [(1, .int .i64 a1), (2, .int .i64 a2), (3, .int .i64 a3), (5, .pointer (some ⟨b3, 0, none⟩)), (10, .pointer (some ⟨b4, 0, none⟩)), (13, .pointer (some ⟨b5, 0, none⟩)), (60, .int .i64 a4), (61, .int .i64 x61_2)] [cellsC b3 [.int .i64 a0.W, .int .i64 a0.H, gv] 48, cellsC b4 [.int .i64 0, .int .i64 0, .slice none 0 0] 48, rowV 5 1 (.slice p_3.1 n_2 p_3.2) n_2 (l_4.map e_u8), cellsC b5 [.int .i64 t59.W, .int .i64 t59.H, .slice p_3.1 n_2 p_3.2] 48] rfl rfl ?_
                      refine c_region ?_
                      obtain ⟨t81, h_t81, H59⟩ := bnd_some H58; clear H58
                      refine l_val rfl rfl rfl (r_addG rfl rfl h_t81) ?_
                      refine l_val rfl rfl rfl (r_move (v := .int .i64 t81) rfl) ?_
                      refine l_nil ?_
                      refine c_close (t81, m_2, l_4) (gv, p_3, n_2) m2 [0, 1, 2, 3] (by exact ⟨rfl, rfl, rfl, rfl, rfl, rfl, rfl, rfl, trivial⟩) (by decide) rfl (by exact ⟨(by subst hn2; exact H59), ⟨gf_2, hl_4⟩⟩) (Nat.lt_succ_self _)
                  · have H68 := cnd_f hb H56; clear H56
                    refine c_exit ?_
                    refine c_close l_3 (p_3, n_2) 0 [1, 2, 3] (by exact ⟨rfl, rfl, trivial⟩) (by decide) rfl (by exact ⟨H68, hl_3⟩) (Nat.lt_succ_self _)
                · rintro l ⟨p_2, n⟩ gg H55 hl
                  replace H55 : pix_Crop_j1 t59 l = some r := H55
                  refine c_tidyF [(10, .pointer (some ⟨b4, 0, none⟩)), (13, .pointer (some ⟨b5, 0, none⟩))] [cellsC b4 [.int .i64 0, .int .i64 0, .slice none 0 0] 48, rowV 5 1 (.slice p_2.1 n p_2.2) n (l.map e_u8), cellsC b5 [.int .i64 t59.W, .int .i64 t59.H, .slice p_2.1 n p_2.2] 48] rfl rfl ?_
                  refine c_seq ?_
                  refine c_region ?_
                  refine l_loadN (i := 2) (vs := [.int .i64 t59.W, .int .i64 t59.H, .slice p_2.1 n p_2.2]) Tryd.isAgg48 Tryd.sizeOf48 rfl rfl rfl rfl rfl ?_
                  refine l_store (i := 0) (vs := [.int .i64 t59.W, .int .i64 t59.H, .slice p_2.1 n p_2.2]) (cs' := [.int .i64 t59.W, .int .i64 t59.H, .slice p_2.1 n p_2.2]) Tryd.sizeOf48 rfl rfl rfl rfl rfl rfl rfl rfl rfl ?_
                  refine l_val rfl rfl rfl (r_assign (v := .int .i64 0) rfl) ?_
                  refine l_nil ?_
                  refine c_ret ?_
                  obtain rfl := Option.some.inj H55
                  refine retCt (i := 0) (vs := [.int .i64 t59.W, .int .i64 t59.H, .slice p_2.1 n p_2.2]) (v2 := .int .i64 0) Tryd.isAgg48 Tryd.sizeOf48 rfl rfl rfl rfl rfl (finX p_2 (i := 1) rfl (by first | rfl | rw [(show n = l.length from hl)]) (by first | exact Imp.refl _ | exact Imp.of (by rw [(show n = l.length from hl)])))
theorem k163 {a0 : Int} {a1 : Int} {a2 : Int} {r : (List T_pix_share)} {w : World} {h : Heap} (hw : Know h w noS) (H : pix_shares a0 a1 a2 = some r) : Does Tryd.prog 163 (List.toArray [.int .i64 a0, .int .i64 a1, .int .i64 a2]) w (fun v w' => ∃ x : (Option Addr × Nat), v = (.slice x.1 r.length x.2) ∧ Turn w w' noS (rowV 214 2 (.slice x.1 r.length x.2) r.length (r.map e_pix_share))) := by
  refine enter (n := 42) Tryd.func163 rfl rfl rfl noS [] (Sat.nil _ _) ?_
  refine c_seq ?_
  refine c_region ?_
  refine l_val rfl rfl rfl (r_assign (v := .slice none 0 0) rfl) ?_
  refine l_nil ?_
  refine c_seq ?_
  refine c_region ?_
  refine l_val rfl rfl rfl (r_assign (v := .slice none 0 0) rfl) ?_
  refine l_nil ?_
  refine c_seq ?_
  refine c_seq ?_
  refine c_region ?_
  refine l_val rfl rfl rfl (r_move (v := .int .i64 a0) rfl) ?_
  refine l_val rfl rfl rfl (r_move (v := .int .i64 a2) rfl) ?_
  obtain ⟨t13, h_t13, H14⟩ := bnd_some H; clear H
  refine l_val rfl rfl rfl (r_mulG rfl rfl h_t13) ?_
  refine l_val rfl rfl rfl (r_assign (v := .int .i64 t13) rfl) ?_
  refine l_nil ?_
  refine c_block ?_
  refine c_nilRow 214 2 ?_
  refine c_fix (σ := Int × (List T_pix_share)) (τ := (Option Addr × Nat)) (fun next1 s => pix_shares_l1 a0 a1 a2 next1 s.1 s.2) (fun s t => [(0, .int .i64 a0), (1, .int .i64 a1), (2, .int .i64 a2), (7, .slice t.1 s.2.length t.2), (8, .int .i64 s.1)]) (fun s t => [rowV 214 2 (.slice t.1 s.2.length t.2) s.2.length (s.2.map e_pix_share)]) (fun s t => True) (t13, ([] : List T_pix_share)) ((none, 0) : Option Addr × Nat) [0] H14 (by exact trivial) (by exact ⟨rfl, rfl, rfl, rfl, rfl, trivial⟩) (by decide) rfl ?_
  rintro ⟨x8_2, l_2⟩ p m1 gg H15 _
  clear H14
  replace H15 : pix_shares_l1 a0 a1 a2 (it (fun next1 s => pix_shares_l1 a0 a1 a2 next1 s.1 s.2) m1) x8_2 l_2 = some r := H15
  generalize hn1 : it (fun next1 s => pix_shares_l1 a0 a1 a2 next1 s.1 s.2) m1 = next1 at H15
  refine c_tidyF [(0, .int .i64 a0), (1, .int .i64 a1), (2, .int .i64 a2), (7, .slice p.1 l_2.length p.2), (8, .int .i64 x8_2)] [rowV 214 2 (.slice p.1 l_2.length p.2) l_2.length (l_2.map e_pix_share)] rfl rfl ?_
  refine c_seq ?_
  refine c_seq ?_
  refine c_region ?_
  refine l_val rfl rfl rfl (r_move (v := .int .i64 x8_2) rfl) ?_
  refine l_val rfl rfl rfl (r_move (v := .int .i64 a0) rfl) ?_
  refine l_val rfl rfl rfl (r_move (v := .int .i64 a2) rfl) ?_
  obtain ⟨t17, h_t17, H16⟩ := bnd_some H15; clear H15
  refine l_val rfl rfl rfl (r_addG rfl rfl h_t17) ?_
  obtain ⟨t18, h_t18, H17⟩ := bnd_some H16; clear H16
  refine l_val rfl rfl rfl (r_mulG rfl rfl h_t18) ?_
  refine l_val rfl rfl rfl (r_lss rfl rfl) ?_
  refine l_nil ?_
  refine c_if (b := (decide (x8_2 < t18))) rfl (fun hb => ?_) (fun hb => ?_)
  · have H18 := cnd_t hb H17; clear H17
    refine c_skip ?_
    refine c_block ?_
    refine c_seq ?_
    refine c_region ?_
    refine l_val rfl rfl rfl (r_move (v := .int .i64 x8_2) rfl) ?_
    refine l_val rfl rfl rfl (r_move (v := .int .i64 a1) rfl) ?_
    obtain ⟨t22, h_t22, H19⟩ := bnd_some H18; clear H18
    refine l_val rfl rfl rfl (r_quoG rfl rfl h_t22) ?_
    refine l_val rfl rfl rfl (r_assign (v := .int .i64 t22) rfl) ?_
    refine l_nil ?_
    refine c_seq ?_
    refine c_region ?_
    refine l_val rfl rfl rfl (r_move (v := .int .i64 t22) rfl) ?_
    obtain ⟨t24, h_t24, H20⟩ := bnd_some H19; clear H19
    refine l_val rfl rfl rfl (r_addG rfl rfl h_t24) ?_
    refine l_val rfl rfl rfl (r_move (v := .int .i64 a1) rfl) ?_
    obtain ⟨t26, h_t26, H21⟩ := bnd_some H20; clear H20
    refine l_val rfl rfl rfl (r_mulG rfl rfl h_t26) ?_
    refine l_val rfl rfl rfl (r_move (v := .int .i64 a0) rfl) ?_
    refine l_val rfl rfl rfl (r_move (v := .int .i64 a2) rfl) ?_
    obtain ⟨t29, h_t29, H22⟩ := bnd_some H21; clear H21
    refine l_val rfl rfl rfl (r_addG rfl rfl h_t29) ?_
    obtain ⟨t30, h_t30, H23⟩ := bnd_some H22; clear H22
    refine l_val rfl rfl rfl (r_mulG rfl rfl h_t30) ?_
    refine l_val rfl rfl rfl (r_min rfl rfl) ?_
    refine l_val rfl rfl rfl (r_assign (v := .int .i64 (min t26 t30)) rfl) ?_
    refine l_nil ?_
    refine c_seq ?_
    refine c_region ?_
    refine l_val rfl rfl rfl (r_move (v := .slice p.1 l_2.length p.2) rfl) ?_
    refine l_val rfl rfl rfl (r_move (v := .int .i64 t22) rfl) ?_
    refine l_val rfl rfl rfl (r_move (v := .int .i64 (min t26 t30)) rfl) ?_
    refine l_val rfl rfl rfl (r_move (v := .int .i64 x8_2) rfl) ?_
    obtain ⟨t36, h_t36, H24⟩ := bnd_some H23; clear H23
    refine l_val rfl rfl rfl (r_subG rfl rfl h_t36) ?_
    refine l_val rfl rfl rfl (r_build (pl := #[(0, 1), (1, 1)]) (ps := [(0, .int .i64 t22), (1, .int .i64 t36)]) (cells := #[.int .i64 t22, .int .i64 t36]) Tryd.zeroValue214 Tryd.runUnderlying214 (fun w => by kernel_rfl) rfl rfl) ?_
    refine l_buildSlice (vs := [.agg #[.int .i64 t22, .int .i64 t36]]) (cs := [.int .i64 t22, .int .i64 t36]) Tryd.underlying210 Tryd.sizeOf214 Tryd.zeroValue214 rfl rfl rfl rfl rfl rfl rfl (fun b1 => ?_)
    obtain ⟨l39, h_l39, H25⟩ := bnd_some H24; clear H24
    refine l_turn (turns_appG (i := 0) (hn := rfl) (rds := [1]) (p := p) (sz := 2) (by_ := 16) (f := e_pix_share) (ys := l_2) (ls := ([(⟨t22, t36⟩ : T_pix_share)] : List T_pix_share)) (V := .slice (some ⟨b1, 0, none⟩) 1 1) Tryd.underlying210 (info_of Tryd.typeInfo214) rfl rfl rfl rfl rfl rfl rfl rfl rfl rfl (fun w L' hF hS hi => row_box (i := 1) hS ((hi 1 (by simp)).trans rfl) rfl rfl) (fun _ => rfl) (fun _ => rfl) h_l39) rfl rfl rfl (fun p_2 => ?_)
    refine l_val rfl rfl rfl (r_assign (v := .slice p_2.1 l39.length p_2.2) rfl) ?_
    refine l_nil ?_
    refine c_region ?_
    refine l_val rfl rfl rfl (r_move (v := .int .i64 (min t26 t30)) rfl) ?_
    refine l_val rfl rfl rfl (r_assign (v := .int .i64 (min t26 t30)) rfl) ?_
    refine l_nil ?_
    refine c_close ((min t26 t30), l39) p_2 m1 [0] (by exact ⟨rfl, rfl, rfl, rfl, rfl, trivial⟩) (by decide) rfl (by exact ⟨(by subst hn1; exact H25), trivial⟩) (Nat.lt_succ_self _)
  · have H26 := cnd_f hb H17; clear H17
    refine c_exit ?_
    refine c_seq ?_
    refine c_region ?_
    refine l_val rfl rfl rfl (r_move (v := .slice p.1 l_2.length p.2) rfl) ?_
    refine l_val rfl rfl rfl (r_assign (v := .slice p.1 l_2.length p.2) rfl) ?_
    refine l_nil ?_
    refine c_ret ?_
    obtain rfl := Option.some.inj H26
    refine ret1 (v := .slice p.1 l_2.length p.2) rfl rfl (finX p (i := 0) rfl rfl (Imp.refl _))
theorem k123 {a0 : T_api_Image} {v0_2 : Value} {a1 : Int} {a2 : Int} {r : T_api_Image} {w : World} {h : Heap} (hw : Know h w noS) (f0_2 : FrS h 1 v0_2 (a0.Pixels.map e_u8)) (H : pix_scaled a0 a1 a2 = some r) : Does Tryd.prog 123 (List.toArray [.agg #[.int .i64 a0.W, .int .i64 a0.H, v0_2], .int .i64 a1, .int .i64 a2]) w (fun v w' => ∃ x : (Option Addr × Nat), v = (.agg #[.int .i64 r.W, .int .i64 r.H, .slice x.1 r.Pixels.length x.2]) ∧ Turn w w' noS (rowV 5 1 (.slice x.1 r.Pixels.length x.2) r.Pixels.length (r.Pixels.map e_u8))) := by
  refine enter (n := 111) Tryd.func123 rfl rfl rfl noS [] (Sat.nil _ _) ?_
  refine c_seq ?_
  refine c_region ?_
  refine l_box (cs := [.int .i64 a0.W, .int .i64 a0.H, v0_2]) rfl rfl rfl rfl (fun b7 => ?_)
  refine l_alloc (cs := [.int .i64 0, .int .i64 0, .slice none 0 0]) Tryd.zeroValue48 rfl rfl rfl (fun b8 => ?_)
  refine l_nil ?_
  refine c_seq ?_
  refine c_region ?_
  refine l_val rfl rfl rfl (r_move (v := .int .i64 a1) rfl) ?_
  refine l_val rfl rfl rfl (r_move (v := .int .i64 a2) rfl) ?_
  obtain ⟨t25, h_t25, H53⟩ := bnd_some H; clear H
  refine l_make (makes_call (rds := []) (G := fun x : (Option Addr × Nat) => .agg #[.int .i64 t25.W, .int .i64 t25.H, .slice x.1 t25.Pixels.length x.2]) (C := fun x : (Option Addr × Nat) => rowV 5 1 (.slice x.1 t25.Pixels.length x.2) t25.Pixels.length (t25.Pixels.map e_u8)) (fun w L' hF hS hi => k120 (know_all w)  h_t25) Tryd.call120 rfl) rfl rfl rfl (fun p => ?_)
  refine l_alloc (cs := [.int .i64 0, .int .i64 0, .slice none 0 0]) Tryd.zeroValue48 rfl rfl rfl (fun b9 => ?_)
  refine l_store (i := 3) (vs := [.int .i64 t25.W, .int .i64 t25.H, .slice p.1 t25.Pixels.length p.2]) (cs' := [.int .i64 t25.W, .int .i64 t25.H, .slice p.1 t25.Pixels.length p.2]) Tryd.sizeOf48 rfl rfl rfl rfl rfl rfl rfl rfl rfl ?_
  refine l_nil ?_
  refine c_seq ?_
  refine c_region ?_
  refine l_val rfl rfl rfl (r_field Tryd.runUnderlying48 rfl Tryd.sizeOf3 rfl rfl) ?_
  refine l_load1 (i := 0) (v := .int .i64 a0.W) Tryd.isAgg3 rfl rfl rfl rfl rfl ?_
  refine l_val rfl rfl rfl (r_field Tryd.runUnderlying48 rfl Tryd.sizeOf3 rfl rfl) ?_
  refine l_load1 (i := 0) (v := .int .i64 a0.H) Tryd.isAgg3 rfl rfl rfl rfl rfl ?_
  obtain ⟨t30, h_t30, H54⟩ := bnd_some H53; clear H53
  refine l_val rfl rfl rfl (r_mulG rfl rfl h_t30) ?_
  refine l_val rfl rfl rfl (r_assign (v := .int .i64 t30) rfl) ?_
  refine l_nil ?_
  refine c_meet (r := r) (σ := (List Int)) (τ := (Option Addr × Nat) × Nat) (fun s => pix_scaled_j1 t25 s) (fun s t => [(6, .pointer (some ⟨b8, 0, none⟩)), (7, .pointer (some ⟨b9, 0, none⟩))]) (fun s t => [cellsC b8 [.int .i64 0, .int .i64 0, .slice none 0 0] 48, rowV 5 1 (.slice t.1.1 t.2 t.1.2) t.2 (s.map e_u8), cellsC b9 [.int .i64 t25.W, .int .i64 t25.H, .slice t.1.1 t.2 t.1.2] 48]) (fun s t => t.2 = s.length) ?_ ?_
  · refine c_seq ?_
    refine c_region ?_
    refine l_val rfl rfl rfl (r_move (v := .int .i64 a2) rfl) ?_
    refine l_val rfl rfl rfl (r_move (v := .int .i64 0) rfl) ?_
    refine l_nil ?_
    refine c_block ?_
    refine c_fix (σ := Int × (List Int) × (List Int)) (τ := Value × (Option Addr × Nat) × Nat) (fun next2 s => pix_scaled_l2 a0 a1 a2 t25 t30 next2 s.1 s.2.1 s.2.2) (fun s t => [(1, .int .i64 a1), (2, .int .i64 a2), (3, .pointer (some ⟨b7, 0, none⟩)), (6, .pointer (some ⟨b8, 0, none⟩)), (7, .pointer (some ⟨b9, 0, none⟩)), (8, .int .i64 t30), (31, .int .i64 a2), (32, .int .i64 s.1)]) (fun s t => [cellsC b7 [.int .i64 a0.W, .int .i64 a0.H, t.1] 48, cellsC b8 [.int .i64 0, .int .i64 0, .slice none 0 0] 48, rowV 5 1 (.slice t.2.1.1 t.2.2 t.2.1.2) t.2.2 (s.2.2.map e_u8), cellsC b9 [.int .i64 t25.W, .int .i64 t25.H, .slice t.2.1.1 t.2.2 t.2.1.2] 48]) (fun s t => FrS h 1 t.1 (s.2.1.map e_u8) ∧ t.2.2 = s.2.2.length) (0, a0.Pixels, t25.Pixels) (v0_2, p, t25.Pixels.length) [0, 1, 2, 3] H54 (by exact ⟨f0_2, rfl⟩) (by exact ⟨rfl, rfl, rfl, rfl, rfl, rfl, rfl, rfl, trivial⟩) (by decide) rfl ?_
    rintro ⟨x32_2, m_2, l_3⟩ ⟨gv, p_3, n_2⟩ m2 gg H56 ⟨gf_2, hl_3⟩
    clear H54
    replace H56 : pix_scaled_l2 a0 a1 a2 t25 t30 (it (fun next2 s => pix_scaled_l2 a0 a1 a2 t25 t30 next2 s.1 s.2.1 s.2.2) m2) x32_2 m_2 l_3 = some r := H56
    generalize hn2 : it (fun next2 s => pix_scaled_l2 a0 a1 a2 t25 t30 next2 s.1 s.2.1 s.2.2) m2 = next2 at H56
    refine c_tidyF [(1, .int .i64 a1), (2, .int .i64 a2), (3, .pointer (some ⟨b7, 0, none⟩)), (6, .pointer (some ⟨b8, 0, none⟩)), (7, .pointer (some ⟨b9, 0, none⟩)), (8, .int .i64 t30), (31, .int .i64 a2), (32, .int .i64 x32_2)] [cellsC b7 [.int .i64 a0.W, .int .i64 a0.H, gv] 48, cellsC b8 [.int .i64 0, .int .i64 0, .slice none 0 0] 48, rowV 5 1 (.slice p_3.1 n_2 p_3.2) n_2 (l_3.map e_u8), cellsC b9 [.int .i64 t25.W, .int .i64 t25.H, .slice p_3.1 n_2 p_3.2] 48] rfl rfl ?_
    refine c_seq ?_
    refine c_region ?_
    refine l_val rfl rfl rfl (r_lss rfl rfl) ?_
    refine l_nil ?_
    refine c_seq ?_
    refine c_if (b := (decide (x32_2 < a2))) rfl (fun hb => ?_) (fun hb => ?_)
    · have H57 := cnd_t hb H56; clear H56
      refine c_skip ?_
      refine c_meet (r := r) (σ := (List Int)) (τ := Unit) (fun s => pix_scaled_j3 x32_2 m_2 next2 s) (fun s t => [(1, .int .i64 a1), (2, .int .i64 a2), (3, .pointer (some ⟨b7, 0, none⟩)), (6, .pointer (some ⟨b8, 0, none⟩)), (7, .pointer (some ⟨b9, 0, none⟩)), (8, .int .i64 t30), (31, .int .i64 a2), (32, .int .i64 x32_2)]) (fun s t => [cellsC b7 [.int .i64 a0.W, .int .i64 a0.H, gv] 48, cellsC b8 [.int .i64 0, .int .i64 0, .slice none 0 0] 48, rowV 5 1 (.slice p_3.1 n_2 p_3.2) n_2 (s.map e_u8), cellsC b9 [.int .i64 t25.W, .int .i64 t25.H, .slice p_3.1 n_2 p_3.2] 48]) (fun s t => n_2 = s.length) ?_ ?_
      · refine c_block ?_
        refine c_seq ?_
        refine c_region ?_
        refine l_val rfl rfl rfl (r_move (v := .int .i64 x32_2) rfl) ?_
        refine l_val rfl rfl rfl (r_assign (v := .int .i64 x32_2) rfl) ?_
        refine l_nil ?_
        refine c_seq ?_
        refine c_region ?_
        refine l_val rfl rfl rfl (r_field Tryd.runUnderlying48 rfl Tryd.sizeOf3 rfl rfl) ?_
        refine l_load1 (i := 0) (v := .int .i64 a0.H) Tryd.isAgg3 rfl rfl rfl rfl rfl ?_
        refine l_val rfl rfl rfl (r_move (v := .int .i64 a2) rfl) ?_
        refine l_val rfl rfl rfl (r_move (v := .int .i64 x32_2) rfl) ?_
        obtain ⟨t39, h_t39, H60⟩ := bnd_some H57; clear H57
        refine l_make (makes_call (rds := []) (G := fun x : (Option Addr × Nat) => .slice x.1 t39.length x.2) (C := fun x : (Option Addr × Nat) => rowV 214 2 (.slice x.1 t39.length x.2) t39.length (t39.map e_pix_share)) (fun w L' hF hS hi => k163 (know_all w)  h_t39) Tryd.call163 rfl) rfl rfl rfl (fun p_4 => ?_)
        refine l_val rfl rfl rfl (r_assign (v := .slice p_4.1 t39.length p_4.2) rfl) ?_
        refine l_nil ?_
        refine c_seq ?_
        refine c_region ?_
        refine l_val rfl rfl rfl (r_move (v := .int .i64 a1) rfl) ?_
        refine l_val rfl rfl rfl (r_move (v := .int .i64 0) rfl) ?_
        refine l_nil ?_
        refine c_block ?_
        refine c_fix (σ := Int × (List Int)) (τ := Unit) (fun next4 s => pix_scaled_l4 a0 a1 t25 t30 x32_2 m_2 next2 t39 next4 s.1 s.2) (fun s t => [(1, .int .i64 a1), (2, .int .i64 a2), (3, .pointer (some ⟨b7, 0, none⟩)), (6, .pointer (some ⟨b8, 0, none⟩)), (7, .pointer (some ⟨b9, 0, none⟩)), (8, .int .i64 t30), (9, .int .i64 x32_2), (10, .slice p_4.1 t39.length p_4.2), (31, .int .i64 a2), (32, .int .i64 x32_2), (40, .int .i64 a1), (41, .int .i64 s.1)]) (fun s t => [cellsC b7 [.int .i64 a0.W, .int .i64 a0.H, gv] 48, cellsC b8 [.int .i64 0, .int .i64 0, .slice none 0 0] 48, rowV 5 1 (.slice p_3.1 n_2 p_3.2) n_2 (s.2.map e_u8), cellsC b9 [.int .i64 t25.W, .int .i64 t25.H, .slice p_3.1 n_2 p_3.2] 48, rowV 214 2 (.slice p_4.1 t39.length p_4.2) t39.length (t39.map e_pix_share)]) (fun s t => n_2 = s.2.length) (0, l_3) () [0, 1, 2, 3, 4] H60 (by exact hl_3) (by exact ⟨rfl, rfl, rfl, rfl, rfl, rfl, rfl, rfl, rfl, rfl, rfl, rfl, trivial⟩) (by decide) rfl ?_
        rintro ⟨x41_2, l_6⟩ _ m4 gg H61 hl_6
        clear H60
        replace H61 : pix_scaled_l4 a0 a1 t25 t30 x32_2 m_2 next2 t39 (it (fun next4 s => pix_scaled_l4 a0 a1 t25 t30 x32_2 m_2 next2 t39 next4 s.1 s.2) m4) x41_2 l_6 = some r := H61
        generalize hn4 : it (fun next4 s => pix_scaled_l4 a0 a1 t25 t30 x32_2 m_2 next2 t39 next4 s.1 s.2) m4 = next4 at H61
        refine c_tidyF [(1, .int .i64 a1), (2, .int .i64 a2), (3, .pointer (some ⟨b7, 0, none⟩)), (6, .pointer (some ⟨b8, 0, none⟩)), (7, .pointer (some ⟨b9, 0, none⟩)), (8, .int .i64 t30), (9, .int .i64 x32_2), (10, .slice p_4.1 t39.length p_4.2), (31, .int .i64 a2), (32, .int .i64 x32_2), (40, .int .i64 a1), (41, .int .i64 x41_2)] [cellsC b7 [.int .i64 a0.W, .int .i64 a0.H, gv] 48, cellsC b8 [.int .i64 0, .int .i64 0, .slice none 0 0] 48, rowV 5 1 (.slice p_3.1 n_2 p_3.2) n_2 (l_6.map e_u8), cellsC b9 [.int .i64 t25.W, .int .i64 t25.H, .slice p_3.1 n_2 p_3.2] 48, rowV 214 2 (.slice p_4.1 t39.length p_4.2) t39.length (t39.map e_pix_share)] rfl rfl ?_
        refine c_seq ?_
        refine c_region ?_
        refine l_val rfl rfl rfl (r_lss rfl rfl) ?_
        refine l_nil ?_
        refine c_seq ?_
        refine c_if (b := (decide (x41_2 < a1))) rfl (fun hb => ?_) (fun hb => ?_)
        · have H62 := cnd_t hb H61; clear H61
          refine c_skip ?_
          refine c_meet (r := r) (σ := (List Int)) (τ := Unit) (fun s => pix_scaled_j5 x41_2 next4 s) (fun s t => [(1, .int .i64 a1), (2, .int .i64 a2), (3, .pointer (some ⟨b7, 0, none⟩)), (6, .pointer (some ⟨b8, 0, none⟩)), (7, .pointer (some ⟨b9, 0, none⟩)), (8, .int .i64 t30), (9, .int .i64 x32_2), (10, .slice p_4.1 t39.length p_4.2), (31, .int .i64 a2), (32, .int .i64 x32_2), (40, .int .i64 a1), (41, .int .i64 x41_2)]) (fun s t => [cellsC b7 [.int .i64 a0.W, .int .i64 a0.H, gv] 48, cellsC b8 [.int .i64 0, .int .i64 0, .slice none 0 0] 48, rowV 5 1 (.slice p_3.1 n_2 p_3.2) n_2 (s.map e_u8), cellsC b9 [.int .i64 t25.W, .int .i64 t25.H, .slice p_3.1 n_2 p_3.2] 48, rowV 214 2 (.slice p_4.1 t39.length p_4.2) t39.length (t39.map e_pix_share)]) (fun s t => n_2 = s.length) ?_ ?_
          · refine c_block ?_
            refine c_seq ?_
            refine c_region ?_
            refine l_val rfl rfl rfl (r_move (v := .int .i64 x41_2) rfl) ?_
            refine l_val rfl rfl rfl (r_assign (v := .int .i64 x41_2) rfl) ?_
            refine l_nil ?_
            refine c_seq ?_
            refine c_region ?_
            refine l_alloc (cs := [.int .i64 0, .int .i64 0, .int .i64 0]) Tryd.zeroValue212 rfl rfl rfl (fun b10 => ?_)
            refine l_nil ?_
            refine c_seq ?_
            refine c_region ?_
            refine l_val rfl rfl rfl (r_field Tryd.runUnderlying48 rfl Tryd.sizeOf3 rfl rfl) ?_
            refine l_load1 (i := 0) (v := .int .i64 a0.W) Tryd.isAgg3 rfl rfl rfl rfl rfl ?_
            refine l_val rfl rfl rfl (r_move (v := .int .i64 a1) rfl) ?_
            refine l_val rfl rfl rfl (r_move (v := .int .i64 x41_2) rfl) ?_
            obtain ⟨t48, h_t48, H65⟩ := bnd_some H62; clear H62
            refine l_make (makes_call (rds := []) (G := fun x : (Option Addr × Nat) => .slice x.1 t48.length x.2) (C := fun x : (Option Addr × Nat) => rowV 214 2 (.slice x.1 t48.length x.2) t48.length (t48.map e_pix_share)) (fun w L' hF hS hi => k163 (know_all w)  h_t48) Tryd.call163 rfl) rfl rfl rfl (fun p_5 => ?_)
            refine l_val rfl rfl rfl (r_assign (v := .slice p_5.1 t48.length p_5.2) rfl) ?_
            refine l_nil ?_
            refine c_meet (r := r) (σ := (Nat → Int)) (τ := Unit) (fun s => pix_scaled_j6 t25 t30 x32_2 x41_2 l_6 next4 s) (fun s t => [(1, .int .i64 a1), (2, .int .i64 a2), (3, .pointer (some ⟨b7, 0, none⟩)), (6, .pointer (some ⟨b8, 0, none⟩)), (7, .pointer (some ⟨b9, 0, none⟩)), (8, .int .i64 t30), (9, .int .i64 x32_2), (10, .slice p_4.1 t39.length p_4.2), (11, .int .i64 x41_2), (12, .pointer (some ⟨b10, 0, none⟩)), (31, .int .i64 a2), (32, .int .i64 x32_2), (40, .int .i64 a1), (41, .int .i64 x41_2)]) (fun s t => [cellsC b7 [.int .i64 a0.W, .int .i64 a0.H, gv] 48, cellsC b8 [.int .i64 0, .int .i64 0, .slice none 0 0] 48, rowV 5 1 (.slice p_3.1 n_2 p_3.2) n_2 (l_6.map e_u8), cellsC b9 [.int .i64 t25.W, .int .i64 t25.H, .slice p_3.1 n_2 p_3.2] 48, rowV 214 2 (.slice p_4.1 t39.length p_4.2) t39.length (t39.map e_pix_share), cellsC b10 [.int .i64 (s 0), .int .i64 (s 1), .int .i64 (s 2)] 212]) (fun s t => True) ?_ ?_
            · refine c_seq ?_
              refine c_region ?_
              refine l_val rfl rfl rfl (r_move (v := .slice p_4.1 t39.length p_4.2) rfl) ?_
              refine l_val rfl rfl rfl (r_len Tryd.underlying210 rfl) ?_
              refine l_val rfl rfl rfl (r_move (v := .int .i64 0) rfl) ?_
              refine l_nil ?_
              refine c_block ?_
              refine c_fix (σ := Int × (Nat → Int)) (τ := Unit) (fun next9 s => pix_scaled_l9 a0 t25 t30 x32_2 m_2 t39 x41_2 l_6 next4 t48 next9 s.1 s.2) (fun s t => [(1, .int .i64 a1), (2, .int .i64 a2), (3, .pointer (some ⟨b7, 0, none⟩)), (6, .pointer (some ⟨b8, 0, none⟩)), (7, .pointer (some ⟨b9, 0, none⟩)), (8, .int .i64 t30), (9, .int .i64 x32_2), (10, .slice p_4.1 t39.length p_4.2), (11, .int .i64 x41_2), (12, .pointer (some ⟨b10, 0, none⟩)), (13, .slice p_5.1 t48.length p_5.2), (31, .int .i64 a2), (32, .int .i64 x32_2), (40, .int .i64 a1), (41, .int .i64 x41_2), (49, .slice p_4.1 t39.length p_4.2), (50, .int .i64 (t39.length : Int)), (51, .int .i64 s.1)]) (fun s t => [cellsC b7 [.int .i64 a0.W, .int .i64 a0.H, gv] 48, cellsC b8 [.int .i64 0, .int .i64 0, .slice none 0 0] 48, rowV 5 1 (.slice p_3.1 n_2 p_3.2) n_2 (l_6.map e_u8), cellsC b9 [.int .i64 t25.W, .int .i64 t25.H, .slice p_3.1 n_2 p_3.2] 48, rowV 214 2 (.slice p_4.1 t39.length p_4.2) t39.length (t39.map e_pix_share), cellsC b10 [.int .i64 (s.2 0), .int .i64 (s.2 1), .int .i64 (s.2 2)] 212, rowV 214 2 (.slice p_5.1 t48.length p_5.2) t48.length (t48.map e_pix_share)]) (fun s t => True) (0, (fun _ => 0)) () [0, 1, 2, 3, 4, 5, 6] H65 (by exact trivial) (by exact ⟨rfl, rfl, rfl, rfl, rfl, rfl, rfl, rfl, rfl, rfl, rfl, rfl, rfl, rfl, rfl, rfl, rfl, rfl, trivial⟩) (by decide) rfl ?_
              rintro ⟨x51_2, m_8⟩ _ m9 gg H79 _
              clear H65
              replace H79 : pix_scaled_l9 a0 t25 t30 x32_2 m_2 t39 x41_2 l_6 next4 t48 (it (fun next9 s => pix_scaled_l9 a0 t25 t30 x32_2 m_2 t39 x41_2 l_6 next4 t48 next9 s.1 s.2) m9) x51_2 m_8 = some r := H79
              generalize hn9 : it (fun next9 s => pix_scaled_l9 a0 t25 t30 x32_2 m_2 t39 x41_2 l_6 next4 t48 next9 s.1 s.2) m9 = next9 at H79
              refine c_tidyF [(1, .int .i64 a1), (2, .int .i64 a2), (3, .pointer (some ⟨b7, 0, none⟩)), (6, .pointer (some ⟨b8, 0, none⟩)), (7, .pointer (some ⟨b9, 0, none⟩)), (8, .int .i64 t30), (9, .int .i64 x32_2), (10, .slice p_4.1 t39.length p_4.2), (11, .int .i64 x41_2), (12, .pointer (some ⟨b10, 0, none⟩)), (13, .slice p_5.1 t48.length p_5.2), (31, .int .i64 a2), (32, .int .i64 x32_2), (40, .int .i64 a1), (41, .int .i64 x41_2), (49, .slice p_4.1 t39.length p_4.2), (50, .int .i64 (t39.length : Int)), (51, .int .i64 x51_2)] [cellsC b7 [.int .i64 a0.W, .int .i64 a0.H, gv] 48, cellsC b8 [.int .i64 0, .int .i64 0, .slice none 0 0] 48, rowV 5 1 (.slice p_3.1 n_2 p_3.2) n_2 (l_6.map e_u8), cellsC b9 [.int .i64 t25.W, .int .i64 t25.H, .slice p_3.1 n_2 p_3.2] 48, rowV 214 2 (.slice p_4.1 t39.length p_4.2) t39.length (t39.map e_pix_share), cellsC b10 [.int .i64 (m_8 0), .int .i64 (m_8 1), .int .i64 (m_8 2)] 212, rowV 214 2 (.slice p_5.1 t48.length p_5.2) t48.length (t48.map e_pix_share)] rfl rfl ?_
              refine c_seq ?_
              refine c_region ?_
              refine l_val rfl rfl rfl (r_lss rfl rfl) ?_
              refine l_nil ?_
              refine c_seq ?_
              refine c_if (b := (decide (x51_2 < (t39.length : Int)))) rfl (fun hb => ?_) (fun hb => ?_)
              · have H80 := cnd_t hb H79; clear H79
                refine c_skip ?_
                refine c_meet (r := r) (σ := (Nat → Int)) (τ := Unit) (fun s => pix_scaled_j10 x51_2 next9 s) (fun s t => [(1, .int .i64 a1), (2, .int .i64 a2), (3, .pointer (some ⟨b7, 0, none⟩)), (6, .pointer (some ⟨b8, 0, none⟩)), (7, .pointer (some ⟨b9, 0, none⟩)), (8, .int .i64 t30), (9, .int .i64 x32_2), (10, .slice p_4.1 t39.length p_4.2), (11, .int .i64 x41_2), (12, .pointer (some ⟨b10, 0, none⟩)), (13, .slice p_5.1 t48.length p_5.2), (31, .int .i64 a2), (32, .int .i64 x32_2), (40, .int .i64 a1), (41, .int .i64 x41_2), (49, .slice p_4.1 t39.length p_4.2), (50, .int .i64 (t39.length : Int)), (51, .int .i64 x51_2)]) (fun s t => [cellsC b7 [.int .i64 a0.W, .int .i64 a0.H, gv] 48, cellsC b8 [.int .i64 0, .int .i64 0, .slice none 0 0] 48, rowV 5 1 (.slice p_3.1 n_2 p_3.2) n_2 (l_6.map e_u8), cellsC b9 [.int .i64 t25.W, .int .i64 t25.H, .slice p_3.1 n_2 p_3.2] 48, rowV 214 2 (.slice p_4.1 t39.length p_4.2) t39.length (t39.map e_pix_share), cellsC b10 [.int .i64 (s 0), .int .i64 (s 1), .int .i64 (s 2)] 212, rowV 214 2 (.slice p_5.1 t48.length p_5.2) t48.length (t48.map e_pix_share)]) (fun s t => True) ?_ ?_
                · refine c_block ?_
                  refine c_seq ?_
                  refine c_region ?_
                  obtain ⟨t53, h_t53, H83⟩ := bnd_some H80; clear H80
                  refine l_read (fun w hF hS => run_indexO Tryd.underlying210 Tryd.sizeOf214 rfl rfl (rowOf (i := 4) hS rfl) rfl h_t53) rfl rfl rfl ?_
                  refine l_read (fun w hF hS => run_loadGN (f := e_pix_share) (i := x51_2) (sz := 2) (j := 0) (vs := [.int .i64 t53.at_, .int .i64 t53.parts_]) Tryd.isAgg214 Tryd.sizeOf214 rfl rfl (rowOf (i := 4) hS rfl) h_t53 rfl) rfl rfl rfl ?_
                  refine l_alloc (cs := [.int .i64 0, .int .i64 0]) Tryd.zeroValue214 rfl rfl rfl (fun b12 => ?_)
                  refine l_store (i := 7) (vs := [.int .i64 t53.at_, .int .i64 t53.parts_]) (cs' := [.int .i64 t53.at_, .int .i64 t53.parts_]) Tryd.sizeOf214 rfl rfl rfl rfl rfl rfl rfl rfl rfl ?_
                  refine l_nil ?_
                  refine c_seq ?_
                  refine c_region ?_
                  refine l_val rfl rfl rfl (r_move (v := .slice p_5.1 t48.length p_5.2) rfl) ?_
                  refine l_val rfl rfl rfl (r_len Tryd.underlying210 rfl) ?_
                  refine l_val rfl rfl rfl (r_move (v := .int .i64 0) rfl) ?_
                  refine l_nil ?_
                  refine c_block ?_
                  refine c_fix (σ := Int × (Nat → Int)) (τ := Unit) (fun next11 s => pix_scaled_l11 a0 m_2 t48 x51_2 next9 t53 next11 s.1 s.2) (fun s t => [(1, .int .i64 a1), (2, .int .i64 a2), (3, .pointer (some ⟨b7, 0, none⟩)), (6, .pointer (some ⟨b8, 0, none⟩)), (7, .pointer (some ⟨b9, 0, none⟩)), (8, .int .i64 t30), (9, .int .i64 x32_2), (10, .slice p_4.1 t39.length p_4.2), (11, .int .i64 x41_2), (12, .pointer (some ⟨b10, 0, none⟩)), (13, .slice p_5.1 t48.length p_5.2), (15, .pointer (some ⟨b12, 0, none⟩)), (31, .int .i64 a2), (32, .int .i64 x32_2), (40, .int .i64 a1), (41, .int .i64 x41_2), (49, .slice p_4.1 t39.length p_4.2), (50, .int .i64 (t39.length : Int)), (51, .int .i64 x51_2), (55, .slice p_5.1 t48.length p_5.2), (56, .int .i64 (t48.length : Int)), (57, .int .i64 s.1)]) (fun s t => [cellsC b7 [.int .i64 a0.W, .int .i64 a0.H, gv] 48, cellsC b8 [.int .i64 0, .int .i64 0, .slice none 0 0] 48, rowV 5 1 (.slice p_3.1 n_2 p_3.2) n_2 (l_6.map e_u8), cellsC b9 [.int .i64 t25.W, .int .i64 t25.H, .slice p_3.1 n_2 p_3.2] 48, rowV 214 2 (.slice p_4.1 t39.length p_4.2) t39.length (t39.map e_pix_share), cellsC b10 [.int .i64 (s.2 0), .int .i64 (s.2 1), .int .i64 (s.2 2)] 212, rowV 214 2 (.slice p_5.1 t48.length p_5.2) t48.length (t48.map e_pix_share), cellsC b12 [.int .i64 t53.at_, .int .i64 t53.parts_] 214]) (fun s t => True) (0, m_8) () [0, 1, 2, 3, 4, 5, 6, 7] H83 (by exact trivial) (by exact ⟨rfl, rfl, rfl, rfl, rfl, rfl, rfl, rfl, rfl, rfl, rfl, rfl, rfl, rfl, rfl, rfl, rfl, rfl, rfl, rfl, rfl, rfl, trivial⟩) (by decide) rfl ?_
                  rintro ⟨x57_2, m_11⟩ _ m11 gg H84 _
                  clear H83
                  replace H84 : pix_scaled_l11 a0 m_2 t48 x51_2 next9 t53 (it (fun next11 s => pix_scaled_l11 a0 m_2 t48 x51_2 next9 t53 next11 s.1 s.2) m11) x57_2 m_11 = some r := H84
                  generalize hn11 : it (fun next11 s => pix_scaled_l11 a0 m_2 t48 x51_2 next9 t53 next11 s.1 s.2) m11 = next11 at H84
                  refine c_tidyF [(1, .int .i64 a1), (2, .int .i64 a2), (3, .pointer (some ⟨b7, 0, none⟩)), (6, .pointer (some ⟨b8, 0, none⟩)), (7, .pointer (some ⟨b9, 0, none⟩)), (8, .int .i64 t30), (9, .int .i64 x32_2), (10, .slice p_4.1 t39.length p_4.2), (11, .int .i64 x41_2), (12, .pointer (some ⟨b10, 0, none⟩)), (13, .slice p_5.1 t48.length p_5.2), (15, .pointer (some ⟨b12, 0, none⟩)), (31, .int .i64 a2), (32, .int .i64 x32_2), (40, .int .i64 a1), (41, .int .i64 x41_2), (49, .slice p_4.1 t39.length p_4.2), (50, .int .i64 (t39.length : Int)), (51, .int .i64 x51_2), (55, .slice p_5.1 t48.length p_5.2), (56, .int .i64 (t48.length : Int)), (57, .int .i64 x57_2)] [cellsC b7 [.int .i64 a0.W, .int .i64 a0.H, gv] 48, cellsC b8 [.int .i64 0, .int .i64 0, .slice none 0 0] 48, rowV 5 1 (.slice p_3.1 n_2 p_3.2) n_2 (l_6.map e_u8), cellsC b9 [.int .i64 t25.W, .int .i64 t25.H, .slice p_3.1 n_2 p_3.2] 48, rowV 214 2 (.slice p_4.1 t39.length p_4.2) t39.length (t39.map e_pix_share), cellsC b10 [.int .i64 (m_11 0), .int .i64 (m_11 1), .int .i64 (m_11 2)] 212, rowV 214 2 (.slice p_5.1 t48.length p_5.2) t48.length (t48.map e_pix_share), cellsC b12 [.int .i64 t53.at_, .int .i64 t53.parts_] 214] rfl rfl ?_
                  refine c_seq ?_
                  refine c_region ?_
                  refine l_val rfl rfl rfl (r_lss rfl rfl) ?_
                  refine l_nil ?_
                  refine c_seq ?_
                  refine c_if (b := (decide (x57_2 < (t48.length : Int)))) rfl (fun hb => ?_) (fun hb => ?_)
                  · have H85 := cnd_t hb H84; clear H84
                    refine c_skip ?_
                    refine c_meet (r := r) (σ := (Nat → Int)) (τ := Unit) (fun s => pix_scaled_j12 x57_2 next11 s) (fun s t => [(1, .int .i64 a1), (2, .int .i64 a2), (3, .pointer (some ⟨b7, 0, none⟩)), (6, .pointer (some ⟨b8, 0, none⟩)), (7, .pointer (some ⟨b9, 0, none⟩)), (8, .int .i64 t30), (9, .int .i64 x32_2), (10, .slice p_4.1 t39.length p_4.2), (11, .int .i64 x41_2), (12, .pointer (some ⟨b10, 0, none⟩)), (13, .slice p_5.1 t48.length p_5.2), (15, .pointer (some ⟨b12, 0, none⟩)), (31, .int .i64 a2), (32, .int .i64 x32_2), (40, .int .i64 a1), (41, .int .i64 x41_2), (49, .slice p_4.1 t39.length p_4.2), (50, .int .i64 (t39.length : Int)), (51, .int .i64 x51_2), (55, .slice p_5.1 t48.length p_5.2), (56, .int .i64 (t48.length : Int)), (57, .int .i64 x57_2)]) (fun s t => [cellsC b7 [.int .i64 a0.W, .int .i64 a0.H, gv] 48, cellsC b8 [.int .i64 0, .int .i64 0, .slice none 0 0] 48, rowV 5 1 (.slice p_3.1 n_2 p_3.2) n_2 (l_6.map e_u8), cellsC b9 [.int .i64 t25.W, .int .i64 t25.H, .slice p_3.1 n_2 p_3.2] 48, rowV 214 2 (.slice p_4.1 t39.length p_4.2) t39.length (t39.map e_pix_share), cellsC b10 [.int .i64 (s 0), .int .i64 (s 1), .int .i64 (s 2)] 212, rowV 214 2 (.slice p_5.1 t48.length p_5.2) t48.length (t48.map e_pix_share), cellsC b12 [.int .i64 t53.at_, .int .i64 t53.parts_] 214]) (fun s t => True) ?_ ?_
                    · refine c_block ?_
                      refine c_seq ?_
                      refine c_region ?_
                      obtain ⟨t59, h_t59, H88⟩ := bnd_some H85; clear H85
                      refine l_read (fun w hF hS => run_indexO Tryd.underlying210 Tryd.sizeOf214 rfl rfl (rowOf (i := 6) hS rfl) rfl h_t59) rfl rfl rfl ?_
                      refine l_read (fun w hF hS => run_loadGN (f := e_pix_share) (i := x57_2) (sz := 2) (j := 0) (vs := [.int .i64 t59.at_, .int .i64 t59.parts_]) Tryd.isAgg214 Tryd.sizeOf214 rfl rfl (rowOf (i := 6) hS rfl) h_t59 rfl) rfl rfl rfl ?_
                      refine l_alloc (cs := [.int .i64 0, .int .i64 0]) Tryd.zeroValue214 rfl rfl rfl (fun b13 => ?_)
                      refine l_store (i := 8) (vs := [.int .i64 t59.at_, .int .i64 t59.parts_]) (cs' := [.int .i64 t59.at_, .int .i64 t59.parts_]) Tryd.sizeOf214 rfl rfl rfl rfl rfl rfl rfl rfl rfl ?_
                      refine l_nil ?_
                      refine c_seq ?_
                      refine c_region ?_
                      refine l_loadN (i := 0) (vs := [.int .i64 a0.W, .int .i64 a0.H, gv]) Tryd.isAgg48 Tryd.sizeOf48 rfl rfl rfl rfl rfl ?_
                      refine l_val rfl rfl rfl (r_field Tryd.runUnderlying214 rfl Tryd.sizeOf3 rfl rfl) ?_
                      refine l_load1 (i := 8) (v := .int .i64 t59.at_) Tryd.isAgg3 rfl rfl rfl rfl rfl ?_
                      refine l_val rfl rfl rfl (r_field Tryd.runUnderlying214 rfl Tryd.sizeOf3 rfl rfl) ?_
                      refine l_load1 (i := 7) (v := .int .i64 t53.at_) Tryd.isAgg3 rfl rfl rfl rfl rfl ?_
                      obtain ⟨t66, h_t66, H89⟩ := bnd_some H88; clear H88
                      refine l_callG (fun w hF hS => k122 (know_all w) (gf_2.mono (hw.now hF)) h_t66) Tryd.call122 rfl rfl rfl ?_
                      refine l_val rfl rfl rfl (r_move (v := .int .i64 0) rfl) ?_
                      refine l_nil ?_
                      refine c_block ?_
                      refine c_fix (σ := Int × (Nat → Int)) (τ := Unit) (fun next13 s => pix_scaled_l13 t53 x57_2 next11 t59 t66 next13 s.1 s.2) (fun s t => [(1, .int .i64 a1), (2, .int .i64 a2), (3, .pointer (some ⟨b7, 0, none⟩)), (6, .pointer (some ⟨b8, 0, none⟩)), (7, .pointer (some ⟨b9, 0, none⟩)), (8, .int .i64 t30), (9, .int .i64 x32_2), (10, .slice p_4.1 t39.length p_4.2), (11, .int .i64 x41_2), (12, .pointer (some ⟨b10, 0, none⟩)), (13, .slice p_5.1 t48.length p_5.2), (15, .pointer (some ⟨b12, 0, none⟩)), (17, .pointer (some ⟨b13, 0, none⟩)), (31, .int .i64 a2), (32, .int .i64 x32_2), (40, .int .i64 a1), (41, .int .i64 x41_2), (49, .slice p_4.1 t39.length p_4.2), (50, .int .i64 (t39.length : Int)), (51, .int .i64 x51_2), (55, .slice p_5.1 t48.length p_5.2), (56, .int .i64 (t48.length : Int)), (57, .int .i64 x57_2), (66, .agg #[.int .u8 (t66 0), .int .u8 (t66 1), .int .u8 (t66 2)]), (67, .int .i64 s.1)]) (fun s t => [cellsC b7 [.int .i64 a0.W, .int .i64 a0.H, gv] 48, cellsC b8 [.int .i64 0, .int .i64 0, .slice none 0 0] 48, rowV 5 1 (.slice p_3.1 n_2 p_3.2) n_2 (l_6.map e_u8), cellsC b9 [.int .i64 t25.W, .int .i64 t25.H, .slice p_3.1 n_2 p_3.2] 48, rowV 214 2 (.slice p_4.1 t39.length p_4.2) t39.length (t39.map e_pix_share), cellsC b10 [.int .i64 (s.2 0), .int .i64 (s.2 1), .int .i64 (s.2 2)] 212, rowV 214 2 (.slice p_5.1 t48.length p_5.2) t48.length (t48.map e_pix_share), cellsC b12 [.int .i64 t53.at_, .int .i64 t53.parts_] 214, cellsC b13 [.int .i64 t59.at_, .int .i64 t59.parts_] 214]) (fun s t => True) (0, m_11) () [0, 1, 2, 3, 4, 5, 6, 7, 8] H89 (by exact trivial) (by exact ⟨rfl, rfl, rfl, rfl, rfl, rfl, rfl, rfl, rfl, rfl, rfl, rfl, rfl, rfl, rfl, rfl, rfl, rfl, rfl, rfl, rfl, rfl, rfl, rfl, rfl, trivial⟩) (by decide) rfl ?_
                      rintro ⟨x67_2, m_14⟩ _ m13 gg H90 _
                      clear H89
                      replace H90 : pix_scaled_l13 t53 x57_2 next11 t59 t66 (it (fun next13 s => pix_scaled_l13 t53 x57_2 next11 t59 t66 next13 s.1 s.2) m13) x67_2 m_14 = some r := H90
                      generalize hn13 : it (fun next13 s => pix_scaled_l13 t53 x57_2 next11 t59 t66 next13 s.1 s.2) m13 = next13 at H90
                      refine c_tidyF [(1, .int .i64 a1), (2, .int .i64 a2), (3, .pointer (some ⟨b7, 0, none⟩)), (6, .pointer (some ⟨b8, 0, none⟩)), (7, .pointer (some ⟨b9, 0, none⟩)), (8, .int .i64 t30), (9, .int .i64 x32_2), (10, .slice p_4.1 t39.length p_4.2), (11, .int .i64 x41_2), (12, .pointer (some ⟨b10, 0, none⟩)), (13, .slice p_5.1 t48.length p_5.2), (15, .pointer (some ⟨b12, 0, none⟩)), (17, .pointer (some ⟨b13, 0, none⟩)), (31, .int .i64 a2), (32, .int .i64 x32_2), (40, .int .i64 a1), (41, .int .i64 x41_2), (49, .slice p_4.1 t39.length p_4.2), (50, .int .i64 (t39.length : Int)), (51, .int .i64 x51_2), (55, .slice p_5.1 t48.length p_5.2), (56, .int .i64 (t48.length : Int)), (57, .int .i64 x57_2), (66, .agg #[.int .u8 (t66 0), .int .u8 (t66 1), .int .u8 (t66 2)]), (67, .int .i64 x67_2)] [cellsC b7 [.int .i64 a0.W, .int .i64 a0.H, gv] 48, cellsC b8 [.int .i64 0, .int .i64 0, .slice none 0 0] 48, rowV 5 1 (.slice p_3.1 n_2 p_3.2) n_2 (l_6.map e_u8), cellsC b9 [.int .i64 t25.W, .int .i64 t25.H, .slice p_3.1 n_2 p_3.2] 48, rowV 214 2 (.slice p_4.1 t39.length p_4.2) t39.length (t39.map e_pix_share), cellsC b10 [.int .i64 (m_14 0), .int .i64 (m_14 1), .int .i64 (m_14 2)] 212, rowV 214 2 (.slice p_5.1 t48.length p_5.2) t48.length (t48.map e_pix_share), cellsC b12 [.int .i64 t53.at_, .int .i64 t53.parts_] 214, cellsC b13 [.int .i64 t59.at_, .int .i64 t59.parts_] 214] rfl rfl ?_
                      refine c_seq ?_
                      refine c_region ?_
                      refine l_val rfl rfl rfl (r_lss rfl rfl) ?_
                      refine l_nil ?_
                      refine c_seq ?_
                      refine c_if (b := (decide (x67_2 < 3))) rfl (fun hb => ?_) (fun hb => ?_)
                      · have H91 := cnd_t hb H90; clear H90
                        refine c_skip ?_
                        refine c_seq ?_
                        refine c_block ?_
                        refine c_seq ?_
                        refine c_region ?_
                        refine l_val rfl rfl rfl (r_move (v := .int .i64 x67_2) rfl) ?_
                        obtain ⟨k70, h_k70, H92⟩ := bnd_some H91; clear H91
                        refine l_val rfl rfl rfl (r_indexAG (f := fun j_ => .int .u8 (t66 j_)) Tryd.runUnderlying167 Tryd.isAgg5 Tryd.sizeOf5 rfl rfl rfl h_k70) ?_
                        refine l_val rfl rfl rfl (r_assign (v := .int .i64 x67_2) rfl) ?_
                        refine l_val rfl rfl rfl (r_assign (v := .int .u8 (t66 k70)) rfl) ?_
                        refine l_nil ?_
                        exact c_regionD (Kd.p :: Kd.p :: Kd.d [5] _ :: Kd.p :: Kd.p :: Kd.p :: Kd.d [7] _ :: Kd.p :: Kd.p :: Kd.d [8] _ :: Kd.p :: Kd.p :: Kd.p :: Kd.st 83 5 [_, _, _] 212 :: []) 0 mixed (by
                          refine d_val rfl rfl (r_move (v := .int .i64 x67_2) rfl) ?_
                          have h_k72 := bnd_val H92
                          have H93 := bnd_rest H92
                          refine d_val rfl rfl (r_indexPG Tryd.runUnderlying212 Tryd.sizeOf3 rfl rfl h_k72) ?_
                          refine d_load1 (i := 5) (v := .int .i64 (m_14 (val (gIx 3 x67_2)))) Tryd.isAgg3 rfl rfl rfl (rg_arr (pre := []) (post := []) (f := fun j_ => [.int .i64 (m_14 j_)]) (n := 3) (sz := 1) (q := 0) rfl rfl (fun _ => rfl) (gIx_lt h_k72) rfl) ?_
                          refine d_val rfl rfl (r_move (v := .int .u8 (t66 k70)) rfl) ?_
                          have h_t75 := bnd_val H93
                          have H94 := bnd_rest H93
                          refine d_val rfl rfl (r_convG Tryd.runUnderlying5 Tryd.runUnderlying3 rfl (gK_i64 h_t75)) ?_
                          refine d_val rfl rfl (r_field Tryd.runUnderlying214 rfl Tryd.sizeOf3 rfl rfl) ?_
                          refine d_load1 (i := 7) (v := .int .i64 t53.parts_) Tryd.isAgg3 rfl rfl rfl rfl ?_
                          have h_t78 := bnd_val H94
                          have H95 := bnd_rest H94
                          refine d_val rfl rfl (r_mulG rfl rfl h_t78) ?_
                          refine d_val rfl rfl (r_field Tryd.runUnderlying214 rfl Tryd.sizeOf3 rfl rfl) ?_
                          refine d_load1 (i := 8) (v := .int .i64 t59.parts_) Tryd.isAgg3 rfl rfl rfl rfl ?_
                          have h_t81 := bnd_val H95
                          have H96 := bnd_rest H95
                          refine d_val rfl rfl (r_mulG rfl rfl h_t81) ?_
                          have h_t82 := bnd_val H96
                          have H97 := bnd_rest H96
                          refine d_val rfl rfl (r_addG rfl rfl h_t82) ?_
                          have h_k83 := bnd_val H97
                          have H98 := bnd_rest H97
                          refine d_val rfl rfl (r_indexPG Tryd.runUnderlying212 Tryd.sizeOf3 rfl rfl h_k83) ?_
                          refine d_store (i := 5) (vs := [.int .i64 (val (gI ((m_14 (val (gIx 3 x67_2))) + (val (gI ((val (gI ((val (gK (-9223372036854775808) 9223372036854775807 (t66 k70))) * t53.parts_))) * t59.parts_))))))]) (cs' := [.int .i64 ((setA m_14 (val (gIx 3 x67_2)) (val (gI ((m_14 (val (gIx 3 x67_2))) + (val (gI ((val (gI ((val (gK (-9223372036854775808) 9223372036854775807 (t66 k70))) * t53.parts_))) * t59.parts_))))))) 0), .int .i64 ((setA m_14 (val (gIx 3 x67_2)) (val (gI ((m_14 (val (gIx 3 x67_2))) + (val (gI ((val (gI ((val (gK (-9223372036854775808) 9223372036854775807 (t66 k70))) * t53.parts_))) * t59.parts_))))))) 1), .int .i64 ((setA m_14 (val (gIx 3 x67_2)) (val (gI ((m_14 (val (gIx 3 x67_2))) + (val (gI ((val (gI ((val (gK (-9223372036854775808) 9223372036854775807 (t66 k70))) * t53.parts_))) * t59.parts_))))))) 2)]) Tryd.sizeOf3 rfl rfl rfl rfl rfl rfl rfl rfl (wr_arr (pre := []) (post := []) (f := fun (j_ : Int) => [.int .i64 j_]) (n := 3) (sz := 1) (a := m_14) (x := (val (gI ((m_14 (val (gIx 3 x67_2))) + (val (gI ((val (gI ((val (gK (-9223372036854775808) 9223372036854775807 (t66 k70))) * t53.parts_))) * t59.parts_))))))) rfl rfl (fun _ => rfl) (gIx_lt h_k83) rfl rfl) ?_
                          refine d_nil ?_
                          refine c_region ?_
                          obtain ⟨t84, h_t84, H99⟩ := bnd_some H98; clear H98
                          refine l_val rfl rfl rfl (r_addG rfl rfl h_t84) ?_
                          refine l_val rfl rfl rfl (r_move (v := .int .i64 t84) rfl) ?_
                          refine l_nil ?_
                          refine c_close (t84, (setA m_14 (val (gIx 3 x67_2)) (val (gI ((m_14 (val (gIx 3 x67_2))) + (val (gI ((val (gI ((val (gK (-9223372036854775808) 9223372036854775807 (t66 k70))) * t53.parts_))) * t59.parts_)))))))) () m13 [0, 1, 2, 3, 4, 5, 6, 7, 8] (by exact ⟨rfl, rfl, rfl, rfl, rfl, rfl, rfl, rfl, rfl, rfl, rfl, rfl, rfl, rfl, rfl, rfl, rfl, rfl, rfl, rfl, rfl, rfl, rfl, rfl, rfl, trivial⟩) (by decide) rfl (by exact ⟨(by subst hn13; exact H99), trivial⟩) (Nat.lt_succ_self _)
                          ) (by kernel_rfl)
                      · have H100 := cnd_f hb H90; clear H90
                        refine c_exit ?_
                        refine c_close m_14 () 0 [0, 1, 2, 3, 4, 5, 6, 7] (by exact ⟨rfl, rfl, rfl, rfl, rfl, rfl, rfl, rfl, rfl, rfl, rfl, rfl, rfl, rfl, rfl, rfl, rfl, rfl, rfl, rfl, rfl, rfl, trivial⟩) (by decide) rfl (by exact ⟨H100, trivial⟩) (Nat.lt_succ_self _)
                    · rintro m_12 _ gg H86 _
                      replace H86 : pix_scaled_j12 x57_2 next11 m_12 = some r := H86
                      refine c_tidyF [(1, .int .i64 a1), (2, .int .i64 a2), (3, .pointer (some ⟨b7, 0, none⟩)), (6, .pointer (some ⟨b8, 0, none⟩)), (7, .pointer (some ⟨b9, 0, none⟩)), (8, .int .i64 t30), (9, .int .i64 x32_2), (10, .slice p_4.1 t39.length p_4.2), (11, .int .i64 x41_2), (12, .pointer (some ⟨b10, 0, none⟩)), (13, .slice p_5.1 t48.length p_5.2), (15, .pointer (some ⟨b12, 0, none⟩)), (31, .int .i64 a2), (32, .int .i64 x32_2), (40, .int .i64 a1), (41, .int .i64 x41_2), (49, .slice p_4.1 t39.length p_4.2), (50, .int .i64 (t39.length : Int)), (51, .int .i64 x51_2), (55, .slice p_5.1 t48.length p_5.2), (56, .int .i64 (t48.length : Int)), (57, .int .i64 x57_2)] [cellsC b7 [.int .i64 a0.W, .int .i64 a0.H, gv] 48, cellsC b8 [.int .i64 0, .int .i64 0, .slice none 0 0] 48, rowV 5 1 (.slice p_3.1 n_2 p_3.2) n_2 (l_6.map e_u8), cellsC b9 [.int .i64 t25.W, .int .i64 t25.H, .slice p_3.1 n_2 p_3.2] 48, rowV 214 2 (.slice p_4.1 t39.length p_4.2) t39.length (t39.map e_pix_share), cellsC b10 [.int .i64 (m_12 0), .int .i64 (m_12 1), .int .i64 (m_12 2)] 212, rowV 214 2 (.slice p_5.1 t48.length p_5.2) t48.length (t48.map e_pix_share), cellsC b12 [.int .i64 t53.at_, .int .i64 t53.parts_] 214] rfl rfl ?_
                      refine c_region ?_
                      obtain ⟨t85, h_t85, H87⟩ := bnd_some H86; clear H86
                      refine l_val rfl rfl rfl (r_addG rfl rfl h_t85) ?_
                      refine l_val rfl rfl rfl (r_move (v := .int .i64 t85) rfl) ?_
                      refine l_nil ?_
                      refine c_close (t85, m_12) () m11 [0, 1, 2, 3, 4, 5, 6, 7] (by exact ⟨rfl, rfl, rfl, rfl, rfl, rfl, rfl, rfl, rfl, rfl, rfl, rfl, rfl, rfl, rfl, rfl, rfl, rfl, rfl, rfl, rfl, rfl, trivial⟩) (by decide) rfl (by exact ⟨(by subst hn11; exact H87), trivial⟩) (Nat.lt_succ_self _)
                  · have H101 := cnd_f hb H84; clear H84
                    refine c_exit ?_
                    refine c_close m_11 () 0 [0, 1, 2, 3, 4, 5, 6] (by exact ⟨rfl, rfl, rfl, rfl, rfl, rfl, rfl, rfl, rfl, rfl, rfl, rfl, rfl, rfl, rfl, rfl, rfl, rfl, trivial⟩) (by decide) rfl (by exact ⟨H101, trivial⟩) (Nat.lt_succ_self _)
                · rintro m_9 _ gg H81 _
                  replace H81 : pix_scaled_j10 x51_2 next9 m_9 = some r := H81
                  refine c_tidyF [(1, .int .i64 a1), (2, .int .i64 a2), (3, .pointer (some ⟨b7, 0, none⟩)), (6, .pointer (some ⟨b8, 0, none⟩)), (7, .pointer (some ⟨b9, 0, none⟩)), (8, .int .i64 t30), (9, .int .i64 x32_2), (10, .slice p_4.1 t39.length p_4.2), (11, .int .i64 x41_2), (12, .pointer (some ⟨b10, 0, none⟩)), (13, .slice p_5.1 t48.length p_5.2), (31, .int .i64 a2), (32, .int .i64 x32_2), (40, .int .i64 a1), (41, .int .i64 x41_2), (49, .slice p_4.1 t39.length p_4.2), (50, .int .i64 (t39.length : Int)), (51, .int .i64 x51_2)] [cellsC b7 [.int .i64 a0.W, .int .i64 a0.H, gv] 48, cellsC b8 [.int .i64 0, .int .i64 0, .slice none 0 0] 48, rowV 5 1 (.slice p_3.1 n_2 p_3.2) n_2 (l_6.map e_u8), cellsC b9 [.int .i64 t25.W, .int .i64 t25.H, .slice p_3.1 n_2 p_3.2] 48, rowV 214 2 (.slice p_4.1 t39.length p_4.2) t39.length (t39.map e_pix_share), cellsC b10 [.int .i64 (m_9 0), .int .i64 (m_9 1), .int .i64 (m_9 2)] 212, rowV 214 2 (.slice p_5.1 t48.length p_5.2) t48.length (t48.map e_pix_share)] rfl rfl ?_
                  refine c_region ?_
                  obtain ⟨t86, h_t86, H82⟩ := bnd_some H81; clear H81
                  refine l_val rfl rfl rfl (r_addG rfl rfl h_t86) ?_
                  refine l_val rfl rfl rfl (r_move (v := .int .i64 t86) rfl) ?_
                  refine l_nil ?_
                  refine c_close (t86, m_9) () m9 [0, 1, 2, 3, 4, 5, 6] (by exact ⟨rfl, rfl, rfl, rfl, rfl, rfl, rfl, rfl, rfl, rfl, rfl, rfl, rfl, rfl, rfl, rfl, rfl, rfl, trivial⟩) (by decide) rfl (by exact ⟨(by subst hn9; exact H82), trivial⟩) (Nat.lt_succ_self _)
              · have H102 := cnd_f hb H79; clear H79
                refine c_exit ?_
                refine c_close m_8 () 0 [0, 1, 2, 3, 4, 5] (by exact ⟨rfl, rfl, rfl, rfl, rfl, rfl, rfl, rfl, rfl, rfl, rfl, rfl, rfl, rfl, trivial⟩) (by decide) rfl (by exact ⟨H102, trivial⟩) (Nat.lt_succ_self _)
            · rintro m_3 _ gg H66 _
              replace H66 : pix_scaled_j6 t25 t30 x32_2 x41_2 l_6 next4 m_3 = some r := H66
              refine c_tidyF [(1, .int .i64 a1), (2, .int .i64 a2), (3, .pointer (some ⟨b7, 0, none⟩)), (6, .pointer (some ⟨b8, 0, none⟩)), (7, .pointer (some ⟨b9, 0, none⟩)), (8, .int .i64 t30), (9, .int .i64 x32_2), (10, .slice p_4.1 t39.length p_4.2), (11, .int .i64 x41_2), (12, .pointer (some ⟨b10, 0, none⟩)), (31, .int .i64 a2), (32, .int .i64 x32_2), (40, .int .i64 a1), (41, .int .i64 x41_2)] [cellsC b7 [.int .i64 a0.W, .int .i64 a0.H, gv] 48, cellsC b8 [.int .i64 0, .int .i64 0, .slice none 0 0] 48, rowV 5 1 (.slice p_3.1 n_2 p_3.2) n_2 (l_6.map e_u8), cellsC b9 [.int .i64 t25.W, .int .i64 t25.H, .slice p_3.1 n_2 p_3.2] 48, rowV 214 2 (.slice p_4.1 t39.length p_4.2) t39.length (t39.map e_pix_share), cellsC b10 [.int .i64 (m_3 0), .int .i64 (m_3 1), .int .i64 (m_3 2)] 212] rfl rfl ?_
              refine c_seq ?_
              refine c_region ?_
              refine l_alloc (cs := [.int .u8 0, .int .u8 0, .int .u8 0]) Tryd.zeroValue167 rfl rfl rfl (fun b11 => ?_)
              refine l_nil ?_
              refine c_meet (r := r) (σ := (Nat → Int)) (τ := Unit) (fun s => pix_scaled_j7 t25 x32_2 x41_2 l_6 next4 s) (fun s t => [(1, .int .i64 a1), (2, .int .i64 a2), (3, .pointer (some ⟨b7, 0, none⟩)), (6, .pointer (some ⟨b8, 0, none⟩)), (7, .pointer (some ⟨b9, 0, none⟩)), (8, .int .i64 t30), (9, .int .i64 x32_2), (10, .slice p_4.1 t39.length p_4.2), (11, .int .i64 x41_2), (20, .pointer (some ⟨b11, 0, none⟩)), (31, .int .i64 a2), (32, .int .i64 x32_2), (40, .int .i64 a1), (41, .int .i64 x41_2)]) (fun s t => [cellsC b7 [.int .i64 a0.W, .int .i64 a0.H, gv] 48, cellsC b8 [.int .i64 0, .int .i64 0, .slice none 0 0] 48, rowV 5 1 (.slice p_3.1 n_2 p_3.2) n_2 (l_6.map e_u8), cellsC b9 [.int .i64 t25.W, .int .i64 t25.H, .slice p_3.1 n_2 p_3.2] 48, rowV 214 2 (.slice p_4.1 t39.length p_4.2) t39.length (t39.map e_pix_share), cellsC b11 [.int .u8 (s 0), .int .u8 (s 1), .int .u8 (s 2)] 167]) (fun s t => True) ?_ ?_
              · refine c_seq ?_
                refine c_region ?_
                refine l_loadN (i := 5) (vs := [.int .i64 (m_3 0), .int .i64 (m_3 1), .int .i64 (m_3 2)]) Tryd.isAgg212 Tryd.sizeOf212 rfl rfl rfl rfl rfl ?_
                refine l_val rfl rfl rfl (r_move (v := .int .i64 0) rfl) ?_
                refine l_nil ?_
                refine c_block ?_
                refine c_sel [0, 1, 2, 3, 4, 6] [cellsC b7 [.int .i64 a0.W, .int .i64 a0.H, gv] 48, cellsC b8 [.int .i64 0, .int .i64 0, .slice none 0 0] 48, rowV 5 1 (.slice p_3.1 n_2 p_3.2) n_2 (l_6.map e_u8), cellsC b9 [.int .i64 t25.W, .int .i64 t25.H, .slice p_3.1 n_2 p_3.2] 48, rowV 214 2 (.slice p_4.1 t39.length p_4.2) t39.length (t39.map e_pix_share), cellsC b11 [.int .u8 0, .int .u8 0, .int .u8 0] 167] rfl (by decide) ?_
                refine c_fix (σ := Int × (Nat → Int)) (τ := Unit) (fun next8 s => pix_scaled_l8 t25 t30 x32_2 x41_2 l_6 next4 m_3 next8 s.1 s.2) (fun s t => [(1, .int .i64 a1), (2, .int .i64 a2), (3, .pointer (some ⟨b7, 0, none⟩)), (6, .pointer (some ⟨b8, 0, none⟩)), (7, .pointer (some ⟨b9, 0, none⟩)), (8, .int .i64 t30), (9, .int .i64 x32_2), (10, .slice p_4.1 t39.length p_4.2), (11, .int .i64 x41_2), (20, .pointer (some ⟨b11, 0, none⟩)), (31, .int .i64 a2), (32, .int .i64 x32_2), (40, .int .i64 a1), (41, .int .i64 x41_2), (87, .agg #[.int .i64 (m_3 0), .int .i64 (m_3 1), .int .i64 (m_3 2)]), (88, .int .i64 s.1)]) (fun s t => [cellsC b7 [.int .i64 a0.W, .int .i64 a0.H, gv] 48, cellsC b8 [.int .i64 0, .int .i64 0, .slice none 0 0] 48, rowV 5 1 (.slice p_3.1 n_2 p_3.2) n_2 (l_6.map e_u8), cellsC b9 [.int .i64 t25.W, .int .i64 t25.H, .slice p_3.1 n_2 p_3.2] 48, rowV 214 2 (.slice p_4.1 t39.length p_4.2) t39.length (t39.map e_pix_share), cellsC b11 [.int .u8 (s.2 0), .int .u8 (s.2 1), .int .u8 (s.2 2)] 167]) (fun s t => True) (0, (fun _ => 0)) () [0, 1, 2, 3, 4, 5] H66 (by exact trivial) (by exact ⟨rfl, rfl, rfl, rfl, rfl, rfl, rfl, rfl, rfl, rfl, rfl, rfl, rfl, rfl, rfl, rfl, trivial⟩) (by decide) rfl ?_
                rintro ⟨x88_2, m_6⟩ _ m8 gg H69 _
                clear H66
                replace H69 : pix_scaled_l8 t25 t30 x32_2 x41_2 l_6 next4 m_3 (it (fun next8 s => pix_scaled_l8 t25 t30 x32_2 x41_2 l_6 next4 m_3 next8 s.1 s.2) m8) x88_2 m_6 = some r := H69
                generalize hn8 : it (fun next8 s => pix_scaled_l8 t25 t30 x32_2 x41_2 l_6 next4 m_3 next8 s.1 s.2) m8 = next8 at H69
                refine c_tidyF [(1, .int .i64 a1), (2, .int .i64 a2), (3, .pointer (some ⟨b7, 0, none⟩)), (6, .pointer (some ⟨b8, 0, none⟩)), (7, .pointer (some ⟨b9, 0, none⟩)), (8, .int .i64 t30), (9, .int .i64 x32_2), (10, .slice p_4.1 t39.length p_4.2), (11, .int .i64 x41_2), (20, .pointer (some ⟨b11, 0, none⟩)), (31, .int .i64 a2), (32, .int .i64 x32_2), (40, .int .i64 a1), (41, .int .i64 x41_2), (87, .agg #[.int .i64 (m_3 0), .int .i64 (m_3 1), .int .i64 (m_3 2)]), (88, .int .i64 x88_2)] [cellsC b7 [.int .i64 a0.W, .int .i64 a0.H, gv] 48, cellsC b8 [.int .i64 0, .int .i64 0, .slice none 0 0] 48, rowV 5 1 (.slice p_3.1 n_2 p_3.2) n_2 (l_6.map e_u8), cellsC b9 [.int .i64 t25.W, .int .i64 t25.H, .slice p_3.1 n_2 p_3.2] 48, rowV 214 2 (.slice p_4.1 t39.length p_4.2) t39.length (t39.map e_pix_share), cellsC b11 [.int .u8 (m_6 0), .int .u8 (m_6 1), .int .u8 (m_6 2)] 167] rfl rfl ?_
                refine c_seq ?_
                refine c_region ?_
                refine l_val rfl rfl rfl (r_lss rfl rfl) ?_
                refine l_nil ?_
                refine c_seq ?_
                refine c_if (b := (decide (x88_2 < 3))) rfl (fun hb => ?_) (fun hb => ?_)
                · have H70 := cnd_t hb H69; clear H69
                  refine c_skip ?_
                  refine c_seq ?_
                  refine c_block ?_
                  refine c_seq ?_
                  refine c_region ?_
                  refine l_val rfl rfl rfl (r_move (v := .int .i64 x88_2) rfl) ?_
                  obtain ⟨k91, h_k91, H71⟩ := bnd_some H70; clear H70
                  refine l_val rfl rfl rfl (r_indexAG (f := fun j_ => .int .i64 (m_3 j_)) Tryd.runUnderlying212 Tryd.isAgg3 Tryd.sizeOf3 rfl rfl rfl h_k91) ?_
                  refine l_val rfl rfl rfl (r_assign (v := .int .i64 x88_2) rfl) ?_
                  refine l_val rfl rfl rfl (r_assign (v := .int .i64 (m_3 k91)) rfl) ?_
                  refine l_nil ?_
                  refine c_region ?_
                  refine l_val rfl rfl rfl (r_move (v := .int .i64 x88_2) rfl) ?_
                  refine l_val rfl rfl rfl (r_move (v := .int .i64 (m_3 k91)) rfl) ?_
                  obtain ⟨t94, h_t94, H72⟩ := bnd_some H71; clear H71
                  refine l_val rfl rfl rfl (r_mulG rfl rfl h_t94) ?_
                  refine l_val rfl rfl rfl (r_move (v := .int .i64 t30) rfl) ?_
                  obtain ⟨t96, h_t96, H73⟩ := bnd_some H72; clear H72
                  refine l_val rfl rfl rfl (r_addG rfl rfl h_t96) ?_
                  refine l_val rfl rfl rfl (r_move (v := .int .i64 t30) rfl) ?_
                  obtain ⟨t98, h_t98, H74⟩ := bnd_some H73; clear H73
                  refine l_val rfl rfl rfl (r_mulG rfl rfl h_t98) ?_
                  obtain ⟨t99, h_t99, H75⟩ := bnd_some H74; clear H74
                  refine l_val rfl rfl rfl (r_quoG rfl rfl h_t99) ?_
                  refine l_val rfl rfl rfl (r_convG Tryd.runUnderlying3 Tryd.runUnderlying5 rfl (wr_u8 _)) ?_
                  obtain ⟨k101, h_k101, H76⟩ := bnd_some H75; clear H75
                  refine l_val rfl rfl rfl (r_indexPG Tryd.runUnderlying167 Tryd.sizeOf5 rfl rfl h_k101) ?_
                  refine l_store (i := 5) (vs := [.int .u8 (wU8 t99)]) (cs' := [.int .u8 ((setA m_6 k101 (wU8 t99)) 0), .int .u8 ((setA m_6 k101 (wU8 t99)) 1), .int .u8 ((setA m_6 k101 (wU8 t99)) 2)]) Tryd.sizeOf5 rfl rfl rfl rfl rfl rfl rfl rfl (wr_arr (pre := []) (post := []) (f := fun (j_ : Int) => [.int .u8 j_]) (n := 3) (sz := 1) (a := m_6) (x := (wU8 t99)) rfl rfl (fun _ => rfl) (gIx_lt h_k101) rfl rfl) ?_
                  refine l_nil ?_
                  refine c_region ?_
                  obtain ⟨t102, h_t102, H77⟩ := bnd_some H76; clear H76
                  refine l_val rfl rfl rfl (r_addG rfl rfl h_t102) ?_
                  refine l_val rfl rfl rfl (r_move (v := .int .i64 t102) rfl) ?_
                  refine l_nil ?_
                  refine c_close (t102, (setA m_6 k101 (wU8 t99))) () m8 [0, 1, 2, 3, 4, 5] (by exact ⟨rfl, rfl, rfl, rfl, rfl, rfl, rfl, rfl, rfl, rfl, rfl, rfl, rfl, rfl, rfl, rfl, trivial⟩) (by decide) rfl (by exact ⟨(by subst hn8; exact H77), trivial⟩) (Nat.lt_succ_self _)
                · have H78 := cnd_f hb H69; clear H69
                  refine c_exit ?_
                  refine c_close m_6 () 0 [0, 1, 2, 3, 4, 5] (by exact ⟨rfl, rfl, rfl, rfl, rfl, rfl, rfl, rfl, rfl, rfl, rfl, rfl, rfl, rfl, trivial⟩) (by decide) rfl (by exact ⟨H78, trivial⟩) (Nat.lt_succ_self _)
              · rintro m_4 _ gg H67 _
                replace H67 : pix_scaled_j7 t25 x32_2 x41_2 l_6 next4 m_4 = some r := H67
                refine c_tidyF [(1, .int .i64 a1), (2, .int .i64 a2), (3, .pointer (some ⟨b7, 0, none⟩)), (6, .pointer (some ⟨b8, 0, none⟩)), (7, .pointer (some ⟨b9, 0, none⟩)), (8, .int .i64 t30), (9, .int .i64 x32_2), (10, .slice p_4.1 t39.length p_4.2), (11, .int .i64 x41_2), (20, .pointer (some ⟨b11, 0, none⟩)), (31, .int .i64 a2), (32, .int .i64 x32_2), (40, .int .i64 a1), (41, .int .i64 x41_2)] [cellsC b7 [.int .i64 a0.W, .int .i64 a0.H, gv] 48, cellsC b8 [.int .i64 0, .int .i64 0, .slice none 0 0] 48, rowV 5 1 (.slice p_3.1 n_2 p_3.2) n_2 (l_6.map e_u8), cellsC b9 [.int .i64 t25.W, .int .i64 t25.H, .slice p_3.1 n_2 p_3.2] 48, rowV 214 2 (.slice p_4.1 t39.length p_4.2) t39.length (t39.map e_pix_share), cellsC b11 [.int .u8 (m_4 0), .int .u8 (m_4 1), .int .u8 (m_4 2)] 167] rfl rfl ?_
                refine c_region ?_
                refine l_loadN (i := 3) (vs := [.int .i64 t25.W, .int .i64 t25.H, .slice p_3.1 n_2 p_3.2]) Tryd.isAgg48 Tryd.sizeOf48 rfl rfl rfl rfl rfl ?_
                refine l_val rfl rfl rfl (r_move (v := .int .i64 x41_2) rfl) ?_
                refine l_val rfl rfl rfl (r_move (v := .int .i64 x32_2) rfl) ?_
                refine l_loadN (i := 5) (vs := [.int .u8 (m_4 0), .int .u8 (m_4 1), .int .u8 (m_4 2)]) Tryd.isAgg167 Tryd.sizeOf167 rfl rfl rfl rfl rfl ?_
                obtain ⟨t107, h_t107, H68⟩ := bnd_some H67; clear H67
                refine l_turn (turns_callB (i := 2) (rds := []) (G := fun x : Unit => .tuple #[]) (C := fun x : Unit => rowV 5 1 (.slice p_3.1 n_2 p_3.2) n_2 (t107.map e_u8)) rfl (fun w L' S hF hS hi hp hlt ho hA => k121 hp hlt (know_but w S) hl_6 h_t107) Tryd.call121 rfl) rfl rfl rfl (fun _ => ?_)
                refine c_know (fun w hF hS => lenOf (i := 2) hS rfl) (fun hl_8_ => ?_)
                have hl_8 : n_2 = t107.length := by simpa using hl_8_.symm
                refine l_nil ?_
                refine c_close t107 () 0 [0, 1, 2, 3, 4] (by exact ⟨rfl, rfl, rfl, rfl, rfl, rfl, rfl, rfl, rfl, rfl, rfl, rfl, trivial⟩) (by decide) rfl (by exact ⟨H68, hl_8⟩) (Nat.lt_succ_self _)
          · rintro l_7 _ gg H63 hl_7
            replace H63 : pix_scaled_j5 x41_2 next4 l_7 = some r := H63
            refine c_tidyF [(1, .int .i64 a1), (2, .int .i64 a2), (3, .pointer (some ⟨b7, 0, none⟩)), (6, .pointer (some ⟨b8, 0, none⟩)), (7, .pointer (some ⟨b9, 0, none⟩)), (8, .int .i64 t30), (9, .int .i64 x32_2), (10, .slice p_4.1 t39.length p_4.2), (31, .int .i64 a2), (32, .int .i64 x32_2), (40, .int .i64 a1), (41, .int .i64 x41_2)] [cellsC b7 [.int .i64 a0.W, .int .i64 a0.H, gv] 48, cellsC b8 [.int .i64 0, .int .i64 0, .slice none 0 0] 48, rowV 5 1 (.slice p_3.1 n_2 p_3.2) n_2 (l_7.map e_u8), cellsC b9 [.int .i64 t25.W, .int .i64 t25.H, .slice p_3.1 n_2 p_3.2] 48, rowV 214 2 (.slice p_4.1 t39.length p_4.2) t39.length (t39.map e_pix_share)] rfl rfl ?_
            refine c_region ?_
            obtain ⟨t108, h_t108, H64⟩ := bnd_some H63; clear H63
            refine l_val rfl rfl rfl (r_addG rfl rfl h_t108) ?_
            refine l_val rfl rfl rfl (r_move (v := .int .i64 t108) rfl) ?_
            refine l_nil ?_
            refine c_close (t108, l_7) () m4 [0, 1, 2, 3, 4] (by exact ⟨rfl, rfl, rfl, rfl, rfl, rfl, rfl, rfl, rfl, rfl, rfl, rfl, trivial⟩) (by decide) rfl (by exact ⟨(by subst hn4; exact H64), hl_7⟩) (Nat.lt_succ_self _)
        · have H103 := cnd_f hb H61; clear H61
          refine c_exit ?_
          refine c_close l_6 () 0 [0, 1, 2, 3] (by exact ⟨rfl, rfl, rfl, rfl, rfl, rfl, rfl, rfl, trivial⟩) (by decide) rfl (by exact ⟨H103, hl_6⟩) (Nat.lt_succ_self _)
      · rintro l_4 _ gg H58 hl_4
        replace H58 : pix_scaled_j3 x32_2 m_2 next2 l_4 = some r := H58
        refine c_tidyF [(1, .int .i64 a1), (2, .int .i64 a2), (3, .pointer (some ⟨b7, 0, none⟩)), (6, .pointer (some ⟨b8, 0, none⟩)), (7, .pointer (some ⟨b9, 0, none⟩)), (8, .int .i64 t30), (31, .int .i64 a2), (32, .int .i64 x32_2)] [cellsC b7 [.int .i64 a0.W, .int .i64 a0.H, gv] 48, cellsC b8 [.int .i64 0, .int .i64 0, .slice none 0 0] 48, rowV 5 1 (.slice p_3.1 n_2 p_3.2) n_2 (l_4.map e_u8), cellsC b9 [.int .i64 t25.W, .int .i64 t25.H, .slice p_3.1 n_2 p_3.2] 48] rfl rfl ?_
        refine c_region ?_
        obtain ⟨t109, h_t109, H59⟩ := bnd_some H58; clear H58
        refine l_val rfl rfl rfl (r_addG rfl rfl h_t109) ?_
        refine l_val rfl rfl rfl (r_move (v := .int .i64 t109) rfl) ?_
        refine l_nil ?_
        refine c_close (t109, m_2, l_4) (gv, p_3, n_2) m2 [0, 1, 2, 3] (by exact ⟨rfl, rfl, rfl, rfl, rfl, rfl, rfl, rfl, trivial⟩) (by decide) rfl (by exact ⟨(by subst hn2; exact H59), ⟨gf_2, hl_4⟩⟩) (Nat.lt_succ_self _)
    · have H104 := cnd_f hb H56; clear H56
      refine c_exit ?_
      refine c_close l_3 (p_3, n_2) 0 [1, 2, 3] (by exact ⟨rfl, rfl, trivial⟩) (by decide) rfl (by exact ⟨H104, hl_3⟩) (Nat.lt_succ_self _)
  · rintro l ⟨p_2, n⟩ gg H55 hl
    replace H55 : pix_scaled_j1 t25 l = some r := H55
    refine c_tidyF [(6, .pointer (some ⟨b8, 0, none⟩)), (7, .pointer (some ⟨b9, 0, none⟩))] [cellsC b8 [.int .i64 0, .int .i64 0, .slice none 0 0] 48, rowV 5 1 (.slice p_2.1 n p_2.2) n (l.map e_u8), cellsC b9 [.int .i64 t25.W, .int .i64 t25.H, .slice p_2.1 n p_2.2] 48] rfl rfl ?_
    refine c_seq ?_
    refine c_region ?_
    refine l_loadN (i := 2) (vs := [.int .i64 t25.W, .int .i64 t25.H, .slice p_2.1 n p_2.2]) Tryd.isAgg48 Tryd.sizeOf48 rfl rfl rfl rfl rfl ?_
    refine l_store (i := 0) (vs := [.int .i64 t25.W, .int .i64 t25.H, .slice p_2.1 n p_2.2]) (cs' := [.int .i64 t25.W, .int .i64 t25.H, .slice p_2.1 n p_2.2]) Tryd.sizeOf48 rfl rfl rfl rfl rfl rfl rfl rfl rfl ?_
    refine l_nil ?_
    refine c_ret ?_
    obtain rfl := Option.some.inj H55
    refine retC (i := 0) (vs := [.int .i64 t25.W, .int .i64 t25.H, .slice p_2.1 n p_2.2]) Tryd.isAgg48 Tryd.sizeOf48 rfl rfl rfl rfl (finX p_2 (i := 1) rfl (by first | rfl | rw [(show n = l.length from hl)]) (by first | exact Imp.refl _ | exact Imp.of (by rw [(show n = l.length from hl)])))
theorem k74 {a0 : T_api_Image} {v0_2 : Value} {a1 : Int} {a2 : Int} {r : T_api_Image × Int} {w : World} {h : Heap} (hw : Know h w noS) (f0_2 : FrS h 1 v0_2 (a0.Pixels.map e_u8)) (H : pix_Scale a0 a1 a2 = some r) : Does Tryd.prog 74 (List.toArray [.agg #[.int .i64 a0.W, .int .i64 a0.H, v0_2], .int .i64 a1, .int .i64 a2]) w (fun v w' => ∃ x : (Option Addr × Nat), v = (.tuple #[.agg #[.int .i64 r.1.W, .int .i64 r.1.H, .slice x.1 r.1.Pixels.length x.2], .int .i64 r.2]) ∧ Turn w w' noS (rowV 5 1 (.slice x.1 r.1.Pixels.length x.2) r.1.Pixels.length (r.1.Pixels.map e_u8))) := by
  refine enter (n := 26) Tryd.func74 rfl rfl rfl noS [] (Sat.nil _ _) ?_
  refine c_seq ?_
  refine c_region ?_
  refine l_box (cs := [.int .i64 a0.W, .int .i64 a0.H, v0_2]) rfl rfl rfl rfl (fun b2 => ?_)
  refine l_alloc (cs := [.int .i64 0, .int .i64 0, .slice none 0 0]) Tryd.zeroValue48 rfl rfl rfl (fun b3 => ?_)
  refine l_val rfl rfl rfl (r_assign (v := .int .i64 0) rfl) ?_
  refine l_nil ?_
  refine c_seq ?_
  refine c_seq ?_
  refine c_region ?_
  refine l_loadN (i := 0) (vs := [.int .i64 a0.W, .int .i64 a0.H, v0_2]) Tryd.isAgg48 Tryd.sizeOf48 rfl rfl rfl rfl rfl ?_
  obtain ⟨t10, h_t10, H11⟩ := bnd_some H; clear H
  refine l_callG (fun w hF hS => k70 (know_all w) (f0_2.mono (hw.now hF)) h_t10) Tryd.call70 rfl rfl rfl ?_
  refine l_val rfl rfl rfl (r_assign (v := .int .i64 t10) rfl) ?_
  refine l_nil ?_
  refine c_seq ?_
  refine c_region ?_
  refine l_val rfl rfl rfl (r_move (v := .int .i64 t10) rfl) ?_
  refine l_val rfl rfl rfl (r_neq rfl rfl) ?_
  refine l_nil ?_
  refine c_if (b := (decide (t10 ≠ 0))) rfl (fun hb => ?_) (fun hb => ?_)
  · have H12 := cnd_t hb H11; clear H11
    refine c_seq ?_
    refine c_region ?_
    refine l_val rfl rfl rfl (r_build (pl := #[(0, 1), (1, 1), (2, 1)]) (ps := []) (cells := #[.int .i64 0, .int .i64 0, .slice none 0 0]) Tryd.zeroValue48 Tryd.runUnderlying48 (fun w => by kernel_rfl) rfl rfl) ?_
    refine l_val rfl rfl rfl (r_move (v := .int .i64 t10) rfl) ?_
    refine l_store (i := 1) (vs := [.int .i64 0, .int .i64 0, .slice none 0 0]) (cs' := [.int .i64 0, .int .i64 0, .slice none 0 0]) Tryd.sizeOf48 rfl rfl rfl rfl rfl rfl rfl rfl rfl ?_
    refine l_val rfl rfl rfl (r_assign (v := .int .i64 t10) rfl) ?_
    refine l_nil ?_
    refine c_ret ?_
    refine c_nilRow 5 1 ?_
    obtain rfl := Option.some.inj H12
    refine retCt (i := 1) (vs := [.int .i64 0, .int .i64 0, .slice ((none, 0) : Option Addr × Nat).1 ([] : List Int).length ((none, 0) : Option Addr × Nat).2]) (v2 := .int .i64 t10) Tryd.isAgg48 Tryd.sizeOf48 rfl rfl rfl rfl rfl (finX ((none, 0) : Option Addr × Nat) (i := 2) rfl rfl (Imp.refl _))
  · have H13 := cnd_f hb H11; clear H11
    refine c_skip ?_
    refine c_seq ?_
    refine c_seq ?_
    refine c_region ?_
    refine l_val rfl rfl rfl (r_move (v := .int .i64 a1) rfl) ?_
    obtain ⟨t16, h_t16, H14⟩ := bnd_some H13; clear H13
    refine l_call (k117 h_t16) Tryd.call117 rfl rfl rfl ?_
    refine l_val rfl rfl rfl (r_move (v := .bool t16) rfl) ?_
    refine split (fun hb => ?_) (fun hb => ?_)
    · have H15 := cnd_t hb H14; clear H14
      refine l_passed rfl rfl rfl ?_
      refine l_passed rfl rfl rfl ?_
      refine l_val rfl rfl rfl (r_pickT (v := .bool true) rfl rfl) ?_
      refine l_nil ?_
      refine c_true rfl ?_
      refine c_seq ?_
      refine c_region ?_
      refine l_val rfl rfl rfl (r_build (pl := #[(0, 1), (1, 1), (2, 1)]) (ps := []) (cells := #[.int .i64 0, .int .i64 0, .slice none 0 0]) Tryd.zeroValue48 Tryd.runUnderlying48 (fun w => by kernel_rfl) rfl rfl) ?_
      refine l_store (i := 1) (vs := [.int .i64 0, .int .i64 0, .slice none 0 0]) (cs' := [.int .i64 0, .int .i64 0, .slice none 0 0]) Tryd.sizeOf48 rfl rfl rfl rfl rfl rfl rfl rfl rfl ?_
      refine l_val rfl rfl rfl (r_assign (v := .int .i64 2) rfl) ?_
      refine l_nil ?_
      refine c_ret ?_
      refine c_nilRow 5 1 ?_
      obtain rfl := Option.some.inj H15
      refine retCt (i := 1) (vs := [.int .i64 0, .int .i64 0, .slice ((none, 0) : Option Addr × Nat).1 ([] : List Int).length ((none, 0) : Option Addr × Nat).2]) (v2 := .int .i64 2) Tryd.isAgg48 Tryd.sizeOf48 rfl rfl rfl rfl rfl (finX ((none, 0) : Option Addr × Nat) (i := 2) rfl rfl (Imp.refl _))
    · have H16 := cnd_f hb H14; clear H14
      refine l_val rfl rfl rfl (r_move (v := .int .i64 a2) rfl) ?_
      obtain ⟨t19, h_t19, H17⟩ := bnd_some H16; clear H16
      refine l_call (k117 h_t19) Tryd.call117 rfl rfl rfl ?_
      refine l_val rfl rfl rfl (r_pickF (v := .bool t19) rfl rfl) ?_
      refine l_nil ?_
      refine c_if (b := t19) rfl (fun hb => ?_) (fun hb => ?_)
      · have H18 := cnd_t hb H17; clear H17
        refine c_seq ?_
        refine c_region ?_
        refine l_val rfl rfl rfl (r_build (pl := #[(0, 1), (1, 1), (2, 1)]) (ps := []) (cells := #[.int .i64 0, .int .i64 0, .slice none 0 0]) Tryd.zeroValue48 Tryd.runUnderlying48 (fun w => by kernel_rfl) rfl rfl) ?_
        refine l_store (i := 1) (vs := [.int .i64 0, .int .i64 0, .slice none 0 0]) (cs' := [.int .i64 0, .int .i64 0, .slice none 0 0]) Tryd.sizeOf48 rfl rfl rfl rfl rfl rfl rfl rfl rfl ?_
        refine l_val rfl rfl rfl (r_assign (v := .int .i64 2) rfl) ?_
        refine l_nil ?_
        refine c_ret ?_
        refine c_nilRow 5 1 ?_
        obtain rfl := Option.some.inj H18
        refine retCt (i := 1) (vs := [.int .i64 0, .int .i64 0, .slice ((none, 0) : Option Addr × Nat).1 ([] : List Int).length ((none, 0) : Option Addr × Nat).2]) (v2 := .int .i64 2) Tryd.isAgg48 Tryd.sizeOf48 rfl rfl rfl rfl rfl (finX ((none, 0) : Option Addr × Nat) (i := 2) rfl rfl (Imp.refl _))
      · have H19 := cnd_f hb H17; clear H17
        refine c_skip ?_
        refine c_seq ?_
        refine c_region ?_
        refine l_loadN (i := 0) (vs := [.int .i64 a0.W, .int .i64 a0.H, v0_2]) Tryd.isAgg48 Tryd.sizeOf48 rfl rfl rfl rfl rfl ?_
        refine l_val rfl rfl rfl (r_move (v := .int .i64 a1) rfl) ?_
        refine l_val rfl rfl rfl (r_move (v := .int .i64 a2) rfl) ?_
        obtain ⟨t25, h_t25, H20⟩ := bnd_some H19; clear H19
        refine l_make (makes_call (rds := []) (G := fun x : (Option Addr × Nat) => .agg #[.int .i64 t25.W, .int .i64 t25.H, .slice x.1 t25.Pixels.length x.2]) (C := fun x : (Option Addr × Nat) => rowV 5 1 (.slice x.1 t25.Pixels.length x.2) t25.Pixels.length (t25.Pixels.map e_u8)) (fun w L' hF hS hi => k123 (know_all w) (f0_2.mono (hw.now hF)) h_t25) Tryd.call123 rfl) rfl rfl rfl (fun p => ?_)
        refine l_store (i := 1) (vs := [.int .i64 t25.W, .int .i64 t25.H, .slice p.1 t25.Pixels.length p.2]) (cs' := [.int .i64 t25.W, .int .i64 t25.H, .slice p.1 t25.Pixels.length p.2]) Tryd.sizeOf48 rfl rfl rfl rfl rfl rfl rfl rfl rfl ?_
        refine l_val rfl rfl rfl (r_assign (v := .int .i64 0) rfl) ?_
        refine l_nil ?_
        refine c_ret ?_
        obtain rfl := Option.some.inj H20
        refine retCt (i := 1) (vs := [.int .i64 t25.W, .int .i64 t25.H, .slice p.1 t25.Pixels.length p.2]) (v2 := .int .i64 0) Tryd.isAgg48 Tryd.sizeOf48 rfl rfl rfl rfl rfl (finX p (i := 2) rfl rfl (Imp.refl _))
theorem k23 {a0 : T_api_Image} {v0_2 : Value} {a1 : (List T_edit_Step)} {v1 : Value} {r : T_api_Image × Int} {w : World} {h : Heap} (hw : Know h w noS) (f0_2 : FrS h 1 v0_2 (a0.Pixels.map e_u8)) (f1 : FrS h 5 v1 (a1.map e_edit_Step)) (H : edit_Render a0 a1 = some r) : Does Tryd.prog 23 (List.toArray [.agg #[.int .i64 a0.W, .int .i64 a0.H, v0_2], v1]) w (fun v w' => ∃ x : (Option Addr × Nat), v = (.tuple #[.agg #[.int .i64 r.1.W, .int .i64 r.1.H, .slice x.1 r.1.Pixels.length x.2], .int .i64 r.2]) ∧ Turn w w' noS (rowV 5 1 (.slice x.1 r.1.Pixels.length x.2) r.1.Pixels.length (r.1.Pixels.map e_u8))) := by
  refine enter (n := 92) Tryd.func23 rfl rfl rfl noS [] (Sat.nil _ _) ?_
  refine c_seq ?_
  refine c_region ?_
  refine l_box (cs := [.int .i64 a0.W, .int .i64 a0.H, v0_2]) rfl rfl rfl rfl (fun b3 => ?_)
  refine l_alloc (cs := [.int .i64 0, .int .i64 0, .slice none 0 0]) Tryd.zeroValue48 rfl rfl rfl (fun b4 => ?_)
  refine l_val rfl rfl rfl (r_assign (v := .int .i64 0) rfl) ?_
  refine l_nil ?_
  refine c_seq ?_
  refine c_seq ?_
  refine c_region ?_
  refine l_val rfl rfl rfl (r_move (v := v1) rfl) ?_
  obtain ⟨t14, h_t14, H28⟩ := bnd_some H; clear H
  refine l_callG (fun w hF hS => k69 (know_all w) (f1.mono (hw.now hF)) h_t14) Tryd.call69 rfl rfl rfl ?_
  refine l_val rfl rfl rfl (r_assign (v := .int .i64 t14) rfl) ?_
  refine l_nil ?_
  refine c_seq ?_
  refine c_region ?_
  refine l_val rfl rfl rfl (r_move (v := .int .i64 t14) rfl) ?_
  refine l_val rfl rfl rfl (r_neq rfl rfl) ?_
  refine l_nil ?_
  refine c_if (b := (decide (t14 ≠ 0))) rfl (fun hb => ?_) (fun hb => ?_)
  · have H29 := cnd_t hb H28; clear H28
    refine c_seq ?_
    refine c_region ?_
    refine l_val rfl rfl rfl (r_build (pl := #[(0, 1), (1, 1), (2, 1)]) (ps := []) (cells := #[.int .i64 0, .int .i64 0, .slice none 0 0]) Tryd.zeroValue48 Tryd.runUnderlying48 (fun w => by kernel_rfl) rfl rfl) ?_
    refine l_val rfl rfl rfl (r_move (v := .int .i64 t14) rfl) ?_
    refine l_store (i := 1) (vs := [.int .i64 0, .int .i64 0, .slice none 0 0]) (cs' := [.int .i64 0, .int .i64 0, .slice none 0 0]) Tryd.sizeOf48 rfl rfl rfl rfl rfl rfl rfl rfl rfl ?_
    refine l_val rfl rfl rfl (r_assign (v := .int .i64 t14) rfl) ?_
    refine l_nil ?_
    refine c_ret ?_
    refine c_nilRow 5 1 ?_
    obtain rfl := Option.some.inj H29
    refine retCt (i := 1) (vs := [.int .i64 0, .int .i64 0, .slice ((none, 0) : Option Addr × Nat).1 ([] : List Int).length ((none, 0) : Option Addr × Nat).2]) (v2 := .int .i64 t14) Tryd.isAgg48 Tryd.sizeOf48 rfl rfl rfl rfl rfl (finX ((none, 0) : Option Addr × Nat) (i := 2) rfl rfl (Imp.refl _))
  · have H30 := cnd_f hb H28; clear H28
    refine c_skip ?_
    refine c_seq ?_
    refine c_seq ?_
    refine c_region ?_
    refine l_loadN (i := 0) (vs := [.int .i64 a0.W, .int .i64 a0.H, v0_2]) Tryd.isAgg48 Tryd.sizeOf48 rfl rfl rfl rfl rfl ?_
    obtain ⟨t20, h_t20, H31⟩ := bnd_some H30; clear H30
    refine l_callG (fun w hF hS => k70 (know_all w) (f0_2.mono (hw.now hF)) h_t20) Tryd.call70 rfl rfl rfl ?_
    refine l_val rfl rfl rfl (r_assign (v := .int .i64 t20) rfl) ?_
    refine l_nil ?_
    refine c_seq ?_
    refine c_region ?_
    refine l_val rfl rfl rfl (r_move (v := .int .i64 t20) rfl) ?_
    refine l_val rfl rfl rfl (r_neq rfl rfl) ?_
    refine l_nil ?_
    refine c_if (b := (decide (t20 ≠ 0))) rfl (fun hb => ?_) (fun hb => ?_)
    · have H32 := cnd_t hb H31; clear H31
      refine c_seq ?_
      refine c_region ?_
      refine l_val rfl rfl rfl (r_build (pl := #[(0, 1), (1, 1), (2, 1)]) (ps := []) (cells := #[.int .i64 0, .int .i64 0, .slice none 0 0]) Tryd.zeroValue48 Tryd.runUnderlying48 (fun w => by kernel_rfl) rfl rfl) ?_
      refine l_val rfl rfl rfl (r_move (v := .int .i64 t20) rfl) ?_
      refine l_store (i := 1) (vs := [.int .i64 0, .int .i64 0, .slice none 0 0]) (cs' := [.int .i64 0, .int .i64 0, .slice none 0 0]) Tryd.sizeOf48 rfl rfl rfl rfl rfl rfl rfl rfl rfl ?_
      refine l_val rfl rfl rfl (r_assign (v := .int .i64 t20) rfl) ?_
      refine l_nil ?_
      refine c_ret ?_
      refine c_nilRow 5 1 ?_
      obtain rfl := Option.some.inj H32
      refine retCt (i := 1) (vs := [.int .i64 0, .int .i64 0, .slice ((none, 0) : Option Addr × Nat).1 ([] : List Int).length ((none, 0) : Option Addr × Nat).2]) (v2 := .int .i64 t20) Tryd.isAgg48 Tryd.sizeOf48 rfl rfl rfl rfl rfl (finX ((none, 0) : Option Addr × Nat) (i := 2) rfl rfl (Imp.refl _))
    · have H33 := cnd_f hb H31; clear H31
      refine c_skip ?_
      refine c_seq ?_
      refine c_seq ?_
      refine c_region ?_
      refine l_val rfl rfl rfl (r_move (v := v1) rfl) ?_
      refine l_val rfl rfl rfl (r_field Tryd.runUnderlying48 rfl Tryd.sizeOf3 rfl rfl) ?_
      refine l_load1 (i := 0) (v := .int .i64 a0.W) Tryd.isAgg3 rfl rfl rfl rfl rfl ?_
      refine l_val rfl rfl rfl (r_field Tryd.runUnderlying48 rfl Tryd.sizeOf3 rfl rfl) ?_
      refine l_load1 (i := 0) (v := .int .i64 a0.H) Tryd.isAgg3 rfl rfl rfl rfl rfl ?_
      obtain ⟨t31, h_t31, H34⟩ := bnd_some H33; clear H33
      refine l_callG (fun w hF hS => k71 (know_all w) (f1.mono (hw.now hF)) h_t31) Tryd.call71 rfl rfl rfl ?_
      refine l_val rfl rfl rfl (r_move (v := .tuple #[.int .i64 t31.1, .int .i64 t31.2.1, .int .i64 t31.2.2]) rfl) ?_
      refine l_val rfl rfl rfl (r_extract (v := .int .i64 t31.1) rfl rfl) ?_
      refine l_val rfl rfl rfl (r_extract (v := .int .i64 t31.2.1) rfl rfl) ?_
      refine l_val rfl rfl rfl (r_extract (v := .int .i64 t31.2.2) rfl rfl) ?_
      refine l_val rfl rfl rfl (r_assign (v := .int .i64 t31.1) rfl) ?_
      refine l_val rfl rfl rfl (r_assign (v := .int .i64 t31.2.1) rfl) ?_
      refine l_val rfl rfl rfl (r_assign (v := .int .i64 t31.2.2) rfl) ?_
      refine l_nil ?_
      refine c_seq ?_
      refine c_region ?_
      refine l_val rfl rfl rfl (r_move (v := .int .i64 t31.2.2) rfl) ?_
      refine l_val rfl rfl rfl (r_neq rfl rfl) ?_
      refine l_nil ?_
      refine c_if (b := (decide (t31.2.2 ≠ 0))) rfl (fun hb => ?_) (fun hb => ?_)
      · have H35 := cnd_t hb H34; clear H34
        refine c_seq ?_
        refine c_region ?_
        refine l_val rfl rfl rfl (r_build (pl := #[(0, 1), (1, 1), (2, 1)]) (ps := []) (cells := #[.int .i64 0, .int .i64 0, .slice none 0 0]) Tryd.zeroValue48 Tryd.runUnderlying48 (fun w => by kernel_rfl) rfl rfl) ?_
        refine l_val rfl rfl rfl (r_move (v := .int .i64 t31.2.2) rfl) ?_
        refine l_store (i := 1) (vs := [.int .i64 0, .int .i64 0, .slice none 0 0]) (cs' := [.int .i64 0, .int .i64 0, .slice none 0 0]) Tryd.sizeOf48 rfl rfl rfl rfl rfl rfl rfl rfl rfl ?_
        refine l_val rfl rfl rfl (r_assign (v := .int .i64 t31.2.2) rfl) ?_
        refine l_nil ?_
        refine c_ret ?_
        refine c_nilRow 5 1 ?_
        obtain rfl := Option.some.inj H35
        refine retCt (i := 1) (vs := [.int .i64 0, .int .i64 0, .slice ((none, 0) : Option Addr × Nat).1 ([] : List Int).length ((none, 0) : Option Addr × Nat).2]) (v2 := .int .i64 t31.2.2) Tryd.isAgg48 Tryd.sizeOf48 rfl rfl rfl rfl rfl (finX ((none, 0) : Option Addr × Nat) (i := 2) rfl rfl (Imp.refl _))
      · have H36 := cnd_f hb H34; clear H34
        refine c_skip ?_
        refine c_seq ?_
        refine c_region ?_
        refine l_loadN (i := 0) (vs := [.int .i64 a0.W, .int .i64 a0.H, v0_2]) Tryd.isAgg48 Tryd.sizeOf48 rfl rfl rfl rfl rfl ?_
        obtain ⟨t41, h_t41, H37⟩ := bnd_some H36; clear H36
        refine l_make (makes_call (rds := []) (G := fun x : (Option Addr × Nat) => .tuple #[.agg #[.int .i64 t41.1.W, .int .i64 t41.1.H, .slice x.1 t41.1.Pixels.length x.2], .int .i64 t41.2]) (C := fun x : (Option Addr × Nat) => rowV 5 1 (.slice x.1 t41.1.Pixels.length x.2) t41.1.Pixels.length (t41.1.Pixels.map e_u8)) (fun w L' hF hS hi => k72 (know_all w) (f0_2.mono (hw.now hF)) h_t41) Tryd.call72 rfl) rfl rfl rfl (fun p => ?_)
        refine l_val rfl rfl rfl (r_move (v := .tuple #[.agg #[.int .i64 t41.1.W, .int .i64 t41.1.H, .slice p.1 t41.1.Pixels.length p.2], .int .i64 t41.2]) rfl) ?_
        refine l_val rfl rfl rfl (r_extract (v := .agg #[.int .i64 t41.1.W, .int .i64 t41.1.H, .slice p.1 t41.1.Pixels.length p.2]) rfl rfl) ?_
        refine l_val rfl rfl rfl (r_extract (v := .int .i64 t41.2) rfl rfl) ?_
        refine l_store (i := 0) (vs := [.int .i64 t41.1.W, .int .i64 t41.1.H, .slice p.1 t41.1.Pixels.length p.2]) (cs' := [.int .i64 t41.1.W, .int .i64 t41.1.H, .slice p.1 t41.1.Pixels.length p.2]) Tryd.sizeOf48 rfl rfl rfl rfl rfl rfl rfl rfl rfl ?_
        refine l_nil ?_
        refine c_meet (r := r) (σ := Int × Int × (List Int)) (τ := (Option Addr × Nat) × Nat) (fun s => edit_Render_j1 s.1 s.2.1 s.2.2) (fun s t => [(2, .pointer (some ⟨b3, 0, none⟩)), (4, .pointer (some ⟨b4, 0, none⟩))]) (fun s t => [cellsC b3 [.int .i64 s.1, .int .i64 s.2.1, .slice t.1.1 t.2 t.1.2] 48, cellsC b4 [.int .i64 0, .int .i64 0, .slice none 0 0] 48, rowV 5 1 (.slice t.1.1 t.2 t.1.2) t.2 (s.2.2.map e_u8)]) (fun s t => t.2 = s.2.2.length) ?_ ?_
        · refine c_seq ?_
          refine c_region ?_
          refine l_val rfl rfl rfl (r_move (v := v1) rfl) ?_
          refine l_val rfl rfl rfl (r_lenF Tryd.underlying22 rfl f1 rfl) ?_
          refine l_val rfl rfl rfl (r_move (v := .int .i64 0) rfl) ?_
          refine l_nil ?_
          refine c_block ?_
          refine c_fix (σ := Int × Int × Int × (List Int)) (τ := (Option Addr × Nat) × Nat) (fun next2 s => edit_Render_l2 a1 next2 s.1 s.2.1 s.2.2.1 s.2.2.2) (fun s t => [(2, .pointer (some ⟨b3, 0, none⟩)), (4, .pointer (some ⟨b4, 0, none⟩)), (44, v1), (45, .int .i64 (a1.length : Int)), (46, .int .i64 s.1)]) (fun s t => [cellsC b3 [.int .i64 s.2.1, .int .i64 s.2.2.1, .slice t.1.1 t.2 t.1.2] 48, cellsC b4 [.int .i64 0, .int .i64 0, .slice none 0 0] 48, rowV 5 1 (.slice t.1.1 t.2 t.1.2) t.2 (s.2.2.2.map e_u8)]) (fun s t => t.2 = s.2.2.2.length) (0, t41.1.W, t41.1.H, t41.1.Pixels) (p, t41.1.Pixels.length) [0, 1, 2] H37 (by exact rfl) (by exact ⟨rfl, rfl, rfl, rfl, rfl, trivial⟩) (by decide) rfl ?_
          rintro ⟨x46_2, m_5, m_6, l_3⟩ ⟨p_3, n_2⟩ m2 gg H39 hl_3
          clear H37
          replace H39 : edit_Render_l2 a1 (it (fun next2 s => edit_Render_l2 a1 next2 s.1 s.2.1 s.2.2.1 s.2.2.2) m2) x46_2 m_5 m_6 l_3 = some r := H39
          generalize hn2 : it (fun next2 s => edit_Render_l2 a1 next2 s.1 s.2.1 s.2.2.1 s.2.2.2) m2 = next2 at H39
          refine c_tidyF [(2, .pointer (some ⟨b3, 0, none⟩)), (4, .pointer (some ⟨b4, 0, none⟩)), (44, v1), (45, .int .i64 (a1.length : Int)), (46, .int .i64 x46_2)] [cellsC b3 [.int .i64 m_5, .int .i64 m_6, .slice p_3.1 n_2 p_3.2] 48, cellsC b4 [.int .i64 0, .int .i64 0, .slice none 0 0] 48, rowV 5 1 (.slice p_3.1 n_2 p_3.2) n_2 (l_3.map e_u8)] rfl rfl ?_
          refine c_seq ?_
          refine c_region ?_
          refine l_val rfl rfl rfl (r_lss rfl rfl) ?_
          refine l_nil ?_
          refine c_seq ?_
          refine c_if (b := (decide (x46_2 < (a1.length : Int)))) rfl (fun hb => ?_) (fun hb => ?_)
          · have H40 := cnd_t hb H39; clear H39
            refine c_skip ?_
            refine c_meet (r := r) (σ := Int × Int × (List Int)) (τ := (Option Addr × Nat) × Nat) (fun s => edit_Render_j3 x46_2 next2 s.1 s.2.1 s.2.2) (fun s t => [(2, .pointer (some ⟨b3, 0, none⟩)), (4, .pointer (some ⟨b4, 0, none⟩)), (44, v1), (45, .int .i64 (a1.length : Int)), (46, .int .i64 x46_2)]) (fun s t => [cellsC b3 [.int .i64 s.1, .int .i64 s.2.1, .slice t.1.1 t.2 t.1.2] 48, cellsC b4 [.int .i64 0, .int .i64 0, .slice none 0 0] 48, rowV 5 1 (.slice t.1.1 t.2 t.1.2) t.2 (s.2.2.map e_u8)]) (fun s t => t.2 = s.2.2.length) ?_ ?_
            · refine c_block ?_
              refine c_seq ?_
              refine c_region ?_
              obtain ⟨t48, h_t48, H43⟩ := bnd_some H40; clear H40
              refine l_val rfl rfl rfl (r_indexF Tryd.underlying22 Tryd.sizeOf35 rfl rfl f1 h_t48) ?_
              refine l_read (fun w hF hS => run_loadGN (f := e_edit_Step) (i := x46_2) (sz := 5) (j := 0) (vs := [.int .i64 t48.Kind, .int .i64 t48.A, .int .i64 t48.B, .int .i64 t48.C, .int .i64 t48.D]) Tryd.isAgg35 Tryd.sizeOf35 rfl rfl (f1.row (hw.now hF)) h_t48 rfl) rfl rfl rfl ?_
              refine l_alloc (cs := [.int .i64 0, .int .i64 0, .int .i64 0, .int .i64 0, .int .i64 0]) Tryd.zeroValue35 rfl rfl rfl (fun b5 => ?_)
              refine l_store (i := 3) (vs := [.int .i64 t48.Kind, .int .i64 t48.A, .int .i64 t48.B, .int .i64 t48.C, .int .i64 t48.D]) (cs' := [.int .i64 t48.Kind, .int .i64 t48.A, .int .i64 t48.B, .int .i64 t48.C, .int .i64 t48.D]) Tryd.sizeOf35 rfl rfl rfl rfl rfl rfl rfl rfl rfl ?_
              refine l_nil ?_
              refine c_seq ?_
              refine c_region ?_
              refine l_val rfl rfl rfl (r_field Tryd.runUnderlying35 rfl Tryd.sizeOf3 rfl rfl) ?_
              refine l_load1 (i := 3) (v := .int .i64 t48.Kind) Tryd.isAgg3 rfl rfl rfl rfl rfl ?_
              refine l_nil ?_
              refine c_block ?_
              refine c_seq ?_
              refine c_region ?_
              refine l_val rfl rfl rfl (r_eql rfl rfl) ?_
              refine l_val rfl rfl rfl (r_assign (v := .bool (decide (t48.Kind = 1))) rfl) ?_
              refine l_nil ?_
              refine c_if (b := (decide (t48.Kind = 1))) rfl (fun hb => ?_) (fun hb => ?_)
              · have H44 := cnd_t hb H43; clear H43
                refine c_region ?_
                refine l_loadN (i := 0) (vs := [.int .i64 m_5, .int .i64 m_6, .slice p_3.1 n_2 p_3.2]) Tryd.isAgg48 Tryd.sizeOf48 rfl rfl rfl rfl rfl ?_
                refine l_val rfl rfl rfl (r_field Tryd.runUnderlying35 rfl Tryd.sizeOf3 rfl rfl) ?_
                refine l_load1 (i := 3) (v := .int .i64 t48.A) Tryd.isAgg3 rfl rfl rfl rfl rfl ?_
                obtain ⟨t61, h_t61, H45⟩ := bnd_some H44; clear H44
                refine l_make (makes_call (rds := [2]) (G := fun x : (Option Addr × Nat) => .tuple #[.agg #[.int .i64 t61.1.W, .int .i64 t61.1.H, .slice x.1 t61.1.Pixels.length x.2], .int .i64 t61.2]) (C := fun x : (Option Addr × Nat) => rowV 5 1 (.slice x.1 t61.1.Pixels.length x.2) t61.1.Pixels.length (t61.1.Pixels.map e_u8)) (fun w L' hF hS hi => k72 (know_all w) (frs_own (i := 2) hl_3 hS ((hi 2 (by simp)).trans rfl)) h_t61) Tryd.call72 rfl) rfl rfl rfl (fun p_5 => ?_)
                refine l_val rfl rfl rfl (r_move (v := .tuple #[.agg #[.int .i64 t61.1.W, .int .i64 t61.1.H, .slice p_5.1 t61.1.Pixels.length p_5.2], .int .i64 t61.2]) rfl) ?_
                refine l_val rfl rfl rfl (r_extract (v := .agg #[.int .i64 t61.1.W, .int .i64 t61.1.H, .slice p_5.1 t61.1.Pixels.length p_5.2]) rfl rfl) ?_
                refine l_val rfl rfl rfl (r_extract (v := .int .i64 t61.2) rfl rfl) ?_
                refine l_store (i := 0) (vs := [.int .i64 t61.1.W, .int .i64 t61.1.H, .slice p_5.1 t61.1.Pixels.length p_5.2]) (cs' := [.int .i64 t61.1.W, .int .i64 t61.1.H, .slice p_5.1 t61.1.Pixels.length p_5.2]) Tryd.sizeOf48 rfl rfl rfl rfl rfl rfl rfl rfl rfl ?_
                refine l_nil ?_
                refine c_close (t61.1.W, t61.1.H, t61.1.Pixels) (p_5, t61.1.Pixels.length) 0 [0, 1, 4] (by exact ⟨rfl, rfl, rfl, rfl, rfl, trivial⟩) (by decide) rfl (by exact ⟨H45, rfl⟩) (Nat.lt_succ_self _)
              · have H46 := cnd_f hb H43; clear H43
                refine c_seq ?_
                refine c_region ?_
                refine l_val rfl rfl rfl (r_eql rfl rfl) ?_
                refine l_val rfl rfl rfl (r_assign (v := .bool (decide (t48.Kind = 2))) rfl) ?_
                refine l_nil ?_
                refine c_if (b := (decide (t48.Kind = 2))) rfl (fun hb => ?_) (fun hb => ?_)
                · have H47 := cnd_t hb H46; clear H46
                  refine c_region ?_
                  refine l_loadN (i := 0) (vs := [.int .i64 m_5, .int .i64 m_6, .slice p_3.1 n_2 p_3.2]) Tryd.isAgg48 Tryd.sizeOf48 rfl rfl rfl rfl rfl ?_
                  refine l_val rfl rfl rfl (r_field Tryd.runUnderlying35 rfl Tryd.sizeOf3 rfl rfl) ?_
                  refine l_load1 (i := 3) (v := .int .i64 t48.A) Tryd.isAgg3 rfl rfl rfl rfl rfl ?_
                  refine l_val rfl rfl rfl (r_field Tryd.runUnderlying35 rfl Tryd.sizeOf3 rfl rfl) ?_
                  refine l_load1 (i := 3) (v := .int .i64 t48.B) Tryd.isAgg3 rfl rfl rfl rfl rfl ?_
                  refine l_val rfl rfl rfl (r_field Tryd.runUnderlying35 rfl Tryd.sizeOf3 rfl rfl) ?_
                  refine l_load1 (i := 3) (v := .int .i64 t48.C) Tryd.isAgg3 rfl rfl rfl rfl rfl ?_
                  refine l_val rfl rfl rfl (r_field Tryd.runUnderlying35 rfl Tryd.sizeOf3 rfl rfl) ?_
                  refine l_load1 (i := 3) (v := .int .i64 t48.D) Tryd.isAgg3 rfl rfl rfl rfl rfl ?_
                  obtain ⟨t76, h_t76, H48⟩ := bnd_some H47; clear H47
                  refine l_make (makes_call (rds := [2]) (G := fun x : (Option Addr × Nat) => .tuple #[.agg #[.int .i64 t76.1.W, .int .i64 t76.1.H, .slice x.1 t76.1.Pixels.length x.2], .int .i64 t76.2]) (C := fun x : (Option Addr × Nat) => rowV 5 1 (.slice x.1 t76.1.Pixels.length x.2) t76.1.Pixels.length (t76.1.Pixels.map e_u8)) (fun w L' hF hS hi => k73 (know_all w) (frs_own (i := 2) hl_3 hS ((hi 2 (by simp)).trans rfl)) h_t76) Tryd.call73 rfl) rfl rfl rfl (fun p_6 => ?_)
                  refine l_val rfl rfl rfl (r_move (v := .tuple #[.agg #[.int .i64 t76.1.W, .int .i64 t76.1.H, .slice p_6.1 t76.1.Pixels.length p_6.2], .int .i64 t76.2]) rfl) ?_
                  refine l_val rfl rfl rfl (r_extract (v := .agg #[.int .i64 t76.1.W, .int .i64 t76.1.H, .slice p_6.1 t76.1.Pixels.length p_6.2]) rfl rfl) ?_
                  refine l_val rfl rfl rfl (r_extract (v := .int .i64 t76.2) rfl rfl) ?_
                  refine l_store (i := 0) (vs := [.int .i64 t76.1.W, .int .i64 t76.1.H, .slice p_6.1 t76.1.Pixels.length p_6.2]) (cs' := [.int .i64 t76.1.W, .int .i64 t76.1.H, .slice p_6.1 t76.1.Pixels.length p_6.2]) Tryd.sizeOf48 rfl rfl rfl rfl rfl rfl rfl rfl rfl ?_
                  refine l_nil ?_
                  refine c_close (t76.1.W, t76.1.H, t76.1.Pixels) (p_6, t76.1.Pixels.length) 0 [0, 1, 4] (by exact ⟨rfl, rfl, rfl, rfl, rfl, trivial⟩) (by decide) rfl (by exact ⟨H48, rfl⟩) (Nat.lt_succ_self _)
                · have H49 := cnd_f hb H46; clear H46
                  refine c_seq ?_
                  refine c_region ?_
                  refine l_val rfl rfl rfl (r_eql rfl rfl) ?_
                  refine l_val rfl rfl rfl (r_assign (v := .bool (decide (t48.Kind = 3))) rfl) ?_
                  refine l_nil ?_
                  refine c_if (b := (decide (t48.Kind = 3))) rfl (fun hb => ?_) (fun hb => ?_)
                  · have H50 := cnd_t hb H49; clear H49
                    refine c_region ?_
                    refine l_loadN (i := 0) (vs := [.int .i64 m_5, .int .i64 m_6, .slice p_3.1 n_2 p_3.2]) Tryd.isAgg48 Tryd.sizeOf48 rfl rfl rfl rfl rfl ?_
                    refine l_val rfl rfl rfl (r_field Tryd.runUnderlying35 rfl Tryd.sizeOf3 rfl rfl) ?_
                    refine l_load1 (i := 3) (v := .int .i64 t48.A) Tryd.isAgg3 rfl rfl rfl rfl rfl ?_
                    refine l_val rfl rfl rfl (r_field Tryd.runUnderlying35 rfl Tryd.sizeOf3 rfl rfl) ?_
                    refine l_load1 (i := 3) (v := .int .i64 t48.B) Tryd.isAgg3 rfl rfl rfl rfl rfl ?_
                    obtain ⟨t87, h_t87, H51⟩ := bnd_some H50; clear H50
                    refine l_make (makes_call (rds := [2]) (G := fun x : (Option Addr × Nat) => .tuple #[.agg #[.int .i64 t87.1.W, .int .i64 t87.1.H, .slice x.1 t87.1.Pixels.length x.2], .int .i64 t87.2]) (C := fun x : (Option Addr × Nat) => rowV 5 1 (.slice x.1 t87.1.Pixels.length x.2) t87.1.Pixels.length (t87.1.Pixels.map e_u8)) (fun w L' hF hS hi => k74 (know_all w) (frs_own (i := 2) hl_3 hS ((hi 2 (by simp)).trans rfl)) h_t87) Tryd.call74 rfl) rfl rfl rfl (fun p_7 => ?_)
                    refine l_val rfl rfl rfl (r_move (v := .tuple #[.agg #[.int .i64 t87.1.W, .int .i64 t87.1.H, .slice p_7.1 t87.1.Pixels.length p_7.2], .int .i64 t87.2]) rfl) ?_
                    refine l_val rfl rfl rfl (r_extract (v := .agg #[.int .i64 t87.1.W, .int .i64 t87.1.H, .slice p_7.1 t87.1.Pixels.length p_7.2]) rfl rfl) ?_
                    refine l_val rfl rfl rfl (r_extract (v := .int .i64 t87.2) rfl rfl) ?_
                    refine l_store (i := 0) (vs := [.int .i64 t87.1.W, .int .i64 t87.1.H, .slice p_7.1 t87.1.Pixels.length p_7.2]) (cs' := [.int .i64 t87.1.W, .int .i64 t87.1.H, .slice p_7.1 t87.1.Pixels.length p_7.2]) Tryd.sizeOf48 rfl rfl rfl rfl rfl rfl rfl rfl rfl ?_
                    refine l_nil ?_
                    refine c_close (t87.1.W, t87.1.H, t87.1.Pixels) (p_7, t87.1.Pixels.length) 0 [0, 1, 4] (by exact ⟨rfl, rfl, rfl, rfl, rfl, trivial⟩) (by decide) rfl (by exact ⟨H51, rfl⟩) (Nat.lt_succ_self _)
                  · have H52 := cnd_f hb H49; clear H49
                    refine c_region ?_
                    refine l_loadN (i := 3) (vs := [.int .i64 t48.Kind, .int .i64 t48.A, .int .i64 t48.B, .int .i64 t48.C, .int .i64 t48.D]) Tryd.isAgg35 Tryd.sizeOf35 rfl rfl rfl rfl rfl ?_
                    refine l_loadN (i := 0) (vs := [.int .i64 m_5, .int .i64 m_6, .slice p_3.1 n_2 p_3.2]) Tryd.isAgg48 Tryd.sizeOf48 rfl rfl rfl rfl rfl ?_
                    obtain ⟨t54, h_t54, H53⟩ := bnd_some H52; clear H52
                    refine l_turn (turns_callB (i := 2) (rds := []) (G := fun x : Unit => .tuple #[]) (C := fun x : Unit => rowV 5 1 (.slice p_3.1 n_2 p_3.2) n_2 (t54.map e_u8)) rfl (fun w L' S hF hS hi hp hlt ho hA => k75 hp hlt (know_but w S) hl_3 h_t54) Tryd.call75 rfl) rfl rfl rfl (fun _ => ?_)
                    refine c_know (fun w hF hS => lenOf (i := 2) hS rfl) (fun hl_5_ => ?_)
                    have hl_5 : n_2 = t54.length := by simpa using hl_5_.symm
                    refine l_nil ?_
                    refine c_close (m_5, m_6, t54) (p_3, n_2) 0 [0, 1, 2] (by exact ⟨rfl, rfl, rfl, rfl, rfl, trivial⟩) (by decide) rfl (by exact ⟨H53, hl_5⟩) (Nat.lt_succ_self _)
            · rintro ⟨m_7, m_8, l_4⟩ ⟨p_4, n_3⟩ gg H41 hl_4
              replace H41 : edit_Render_j3 x46_2 next2 m_7 m_8 l_4 = some r := H41
              refine c_tidyF [(2, .pointer (some ⟨b3, 0, none⟩)), (4, .pointer (some ⟨b4, 0, none⟩)), (44, v1), (45, .int .i64 (a1.length : Int)), (46, .int .i64 x46_2)] [cellsC b3 [.int .i64 m_7, .int .i64 m_8, .slice p_4.1 n_3 p_4.2] 48, cellsC b4 [.int .i64 0, .int .i64 0, .slice none 0 0] 48, rowV 5 1 (.slice p_4.1 n_3 p_4.2) n_3 (l_4.map e_u8)] rfl rfl ?_
              refine c_region ?_
              obtain ⟨t90, h_t90, H42⟩ := bnd_some H41; clear H41
              refine l_val rfl rfl rfl (r_addG rfl rfl h_t90) ?_
              refine l_val rfl rfl rfl (r_move (v := .int .i64 t90) rfl) ?_
              refine l_nil ?_
              refine c_close (t90, m_7, m_8, l_4) (p_4, n_3) m2 [0, 1, 2] (by exact ⟨rfl, rfl, rfl, rfl, rfl, trivial⟩) (by decide) rfl (by exact ⟨(by subst hn2; exact H42), hl_4⟩) (Nat.lt_succ_self _)
          · have H54 := cnd_f hb H39; clear H39
            refine c_exit ?_
            refine c_close (m_5, m_6, l_3) (p_3, n_2) 0 [0, 1, 2] (by exact ⟨rfl, rfl, trivial⟩) (by decide) rfl (by exact ⟨H54, hl_3⟩) (Nat.lt_succ_self _)
        · rintro ⟨m, m_2, l⟩ ⟨p_2, n⟩ gg H38 hl
          replace H38 : edit_Render_j1 m m_2 l = some r := H38
          refine c_tidyF [(2, .pointer (some ⟨b3, 0, none⟩)), (4, .pointer (some ⟨b4, 0, none⟩))] [cellsC b3 [.int .i64 m, .int .i64 m_2, .slice p_2.1 n p_2.2] 48, cellsC b4 [.int .i64 0, .int .i64 0, .slice none 0 0] 48, rowV 5 1 (.slice p_2.1 n p_2.2) n (l.map e_u8)] rfl rfl ?_
          refine c_seq ?_
          refine c_region ?_
          refine l_loadN (i := 0) (vs := [.int .i64 m, .int .i64 m_2, .slice p_2.1 n p_2.2]) Tryd.isAgg48 Tryd.sizeOf48 rfl rfl rfl rfl rfl ?_
          refine l_store (i := 1) (vs := [.int .i64 m, .int .i64 m_2, .slice p_2.1 n p_2.2]) (cs' := [.int .i64 m, .int .i64 m_2, .slice p_2.1 n p_2.2]) Tryd.sizeOf48 rfl rfl rfl rfl rfl rfl rfl rfl rfl ?_
          refine l_val rfl rfl rfl (r_assign (v := .int .i64 0) rfl) ?_
          refine l_nil ?_
          refine c_ret ?_
          obtain rfl := Option.some.inj H38
          refine retCt (i := 1) (vs := [.int .i64 m, .int .i64 m_2, .slice p_2.1 n p_2.2]) (v2 := .int .i64 0) Tryd.isAgg48 Tryd.sizeOf48 rfl rfl rfl rfl rfl (finX p_2 (i := 2) rfl (by first | rfl | rw [(show n = l.length from hl)]) (by first | exact Imp.refl _ | exact Imp.of (by rw [(show n = l.length from hl)])))
end Go.Proofs.YtilhbkglchppjaaDoor
