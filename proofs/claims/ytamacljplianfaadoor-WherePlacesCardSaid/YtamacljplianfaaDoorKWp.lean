/- WherePlaces: the walks, printed by our generator; each follows its model. Conditions: the model yields a value. -/
import Derived.Test.YtamacljplianfaaDoorKWe
namespace Go.Proofs.YtamacljplianfaaDoor
open Go Go.Vc Go.Md Go.M Go.Lx
set_option maxRecDepth 100000
set_option maxHeartbeats 4000000
set_option linter.unusedVariables false

theorem k5 {a0 : T_api_Place} {r : Int} (H : R_PlaceFault a0 = some r) : Ret Tryd.prog 5 [.agg #[.int .i64 a0.Lat, .int .i64 a0.Lon]] (.int .i64 r) := by
  refine enterRet (n := 21) Tryd.func5 rfl rfl rfl (fun wd => ?_)
  refine c_seq ?_
  refine c_region ?_
  refine l_box (cs := [.int .i64 a0.Lat, .int .i64 a0.Lon]) rfl rfl rfl rfl (fun b1 => ?_)
  refine l_val rfl rfl rfl (r_assign (v := .int .i64 0) rfl) ?_
  refine l_nil ?_
  refine c_seq ?_
  refine c_seq ?_
  refine c_region ?_
  refine l_val rfl rfl rfl (r_field Tryd.runUnderlying23 rfl Tryd.sizeOf3 rfl rfl) ?_
  refine l_load1 (i := 0) (v := .int .i64 a0.Lat) Tryd.isAgg3 rfl rfl rfl rfl rfl ?_
  refine l_val rfl rfl rfl (r_lss rfl rfl) ?_
  refine l_val rfl rfl rfl (r_move (v := .bool (decide (a0.Lat < (-90000000)))) rfl) ?_
  refine split (fun hb => ?_) (fun hb => ?_)
  · have H9 := cnd_t hb H; clear H
    refine l_passed rfl rfl rfl ?_
    refine l_passed rfl rfl rfl ?_
    refine l_passed rfl rfl rfl ?_
    refine l_val rfl rfl rfl (r_pickT (v := .bool true) rfl rfl) ?_
    refine l_val rfl rfl rfl (r_move (v := .bool true) rfl) ?_
    refine l_passed rfl rfl rfl ?_
    refine l_passed rfl rfl rfl ?_
    refine l_passed rfl rfl rfl ?_
    refine l_val rfl rfl rfl (r_pickT (v := .bool true) rfl rfl) ?_
    refine l_val rfl rfl rfl (r_move (v := .bool true) rfl) ?_
    refine l_passed rfl rfl rfl ?_
    refine l_passed rfl rfl rfl ?_
    refine l_passed rfl rfl rfl ?_
    refine l_val rfl rfl rfl (r_pickT (v := .bool true) rfl rfl) ?_
    refine l_nil ?_
    refine c_true rfl ?_
    refine c_seq ?_
    refine c_region ?_
    refine l_val rfl rfl rfl (r_assign (v := .int .i64 2) rfl) ?_
    refine l_nil ?_
    refine c_ret ?_
    obtain rfl := Option.some.inj H9
    refine ret1 (v := .int .i64 2) rfl rfl (fin rfl)
  · have H10 := cnd_f hb H; clear H
    refine l_val rfl rfl rfl (r_field Tryd.runUnderlying23 rfl Tryd.sizeOf3 rfl rfl) ?_
    refine l_load1 (i := 0) (v := .int .i64 a0.Lat) Tryd.isAgg3 rfl rfl rfl rfl rfl ?_
    refine l_val rfl rfl rfl (r_gtr rfl rfl) ?_
    refine l_val rfl rfl rfl (r_pickF (v := .bool (decide (90000000 < a0.Lat))) rfl rfl) ?_
    refine l_val rfl rfl rfl (r_move (v := .bool (decide (90000000 < a0.Lat))) rfl) ?_
    refine split (fun hb => ?_) (fun hb => ?_)
    · have H11 := cnd_t hb H10; clear H10
      refine l_passed rfl rfl rfl ?_
      refine l_passed rfl rfl rfl ?_
      refine l_passed rfl rfl rfl ?_
      refine l_val rfl rfl rfl (r_pickT (v := .bool true) rfl rfl) ?_
      refine l_val rfl rfl rfl (r_move (v := .bool true) rfl) ?_
      refine l_passed rfl rfl rfl ?_
      refine l_passed rfl rfl rfl ?_
      refine l_passed rfl rfl rfl ?_
      refine l_val rfl rfl rfl (r_pickT (v := .bool true) rfl rfl) ?_
      refine l_nil ?_
      refine c_true rfl ?_
      refine c_seq ?_
      refine c_region ?_
      refine l_val rfl rfl rfl (r_assign (v := .int .i64 2) rfl) ?_
      refine l_nil ?_
      refine c_ret ?_
      obtain rfl := Option.some.inj H11
      refine ret1 (v := .int .i64 2) rfl rfl (fin rfl)
    · have H12 := cnd_f hb H10; clear H10
      refine l_val rfl rfl rfl (r_field Tryd.runUnderlying23 rfl Tryd.sizeOf3 rfl rfl) ?_
      refine l_load1 (i := 0) (v := .int .i64 a0.Lon) Tryd.isAgg3 rfl rfl rfl rfl rfl ?_
      refine l_val rfl rfl rfl (r_lss rfl rfl) ?_
      refine l_val rfl rfl rfl (r_pickF (v := .bool (decide (a0.Lon < (-180000000)))) rfl rfl) ?_
      refine l_val rfl rfl rfl (r_move (v := .bool (decide (a0.Lon < (-180000000)))) rfl) ?_
      refine split (fun hb => ?_) (fun hb => ?_)
      · have H13 := cnd_t hb H12; clear H12
        refine l_passed rfl rfl rfl ?_
        refine l_passed rfl rfl rfl ?_
        refine l_passed rfl rfl rfl ?_
        refine l_val rfl rfl rfl (r_pickT (v := .bool true) rfl rfl) ?_
        refine l_nil ?_
        refine c_true rfl ?_
        refine c_seq ?_
        refine c_region ?_
        refine l_val rfl rfl rfl (r_assign (v := .int .i64 2) rfl) ?_
        refine l_nil ?_
        refine c_ret ?_
        obtain rfl := Option.some.inj H13
        refine ret1 (v := .int .i64 2) rfl rfl (fin rfl)
      · have H14 := cnd_f hb H12; clear H12
        refine l_val rfl rfl rfl (r_field Tryd.runUnderlying23 rfl Tryd.sizeOf3 rfl rfl) ?_
        refine l_load1 (i := 0) (v := .int .i64 a0.Lon) Tryd.isAgg3 rfl rfl rfl rfl rfl ?_
        refine l_val rfl rfl rfl (r_gtr rfl rfl) ?_
        refine l_val rfl rfl rfl (r_pickF (v := .bool (decide (179999999 < a0.Lon))) rfl rfl) ?_
        refine l_nil ?_
        refine c_if (b := (decide (179999999 < a0.Lon))) rfl (fun hb => ?_) (fun hb => ?_)
        · have H15 := cnd_t hb H14; clear H14
          refine c_seq ?_
          refine c_region ?_
          refine l_val rfl rfl rfl (r_assign (v := .int .i64 2) rfl) ?_
          refine l_nil ?_
          refine c_ret ?_
          obtain rfl := Option.some.inj H15
          refine ret1 (v := .int .i64 2) rfl rfl (fin rfl)
        · have H16 := cnd_f hb H14; clear H14
          refine c_skip ?_
          refine c_seq ?_
          refine c_region ?_
          refine l_val rfl rfl rfl (r_assign (v := .int .i64 0) rfl) ?_
          refine l_nil ?_
          refine c_ret ?_
          obtain rfl := Option.some.inj H16
          refine ret1 (v := .int .i64 0) rfl rfl (fin rfl)
theorem k23 {a0 : (List UInt8)} {a1 : Int} {a2 : Bool} {r : Int × Bool} (H : R_Whole a0 a1 a2 = some r) : Ret Tryd.prog 23 [str a0, .int .i64 a1, .bool a2] (.tuple #[.int .i64 r.1, .bool r.2]) := by
  refine enterRet (n := 45) Tryd.func23 rfl rfl rfl (fun wd => ?_)
  refine c_seq ?_
  refine c_region ?_
  refine l_val rfl rfl rfl (r_assign (v := .int .i64 0) rfl) ?_
  refine l_val rfl rfl rfl (r_assign (v := .bool false) rfl) ?_
  refine l_nil ?_
  refine c_seq ?_
  refine c_region ?_
  refine l_val rfl rfl rfl (r_move (v := str a0) rfl) ?_
  refine l_val rfl rfl rfl (r_assign (v := str a0) rfl) ?_
  refine l_nil ?_
  refine c_meet (r := r) (σ := (List UInt8)) (τ := Unit) (fun s => R_Whole_j1 a0 a1 s) (fun s t => [(0, str a0), (1, .int .i64 a1), (8, str s)]) (fun s t => []) (fun s t => True) ?_ ?_
  · refine c_seq ?_
    refine c_region ?_
    refine l_val rfl rfl rfl (r_move (v := .bool a2) rfl) ?_
    refine l_nil ?_
    refine c_if (b := a2) rfl (fun hb => ?_) (fun hb => ?_)
    · have H34 := cnd_t hb H; clear H
      refine c_region ?_
      refine l_val rfl rfl rfl (r_move (v := str a0) rfl) ?_
      obtain ⟨t14, h_t14, H35⟩ := bnd_some H34; clear H34
      refine l_call (k38 h_t14) Tryd.call38 rfl rfl rfl ?_
      refine l_val rfl rfl rfl (r_assign (v := str t14) rfl) ?_
      refine l_nil ?_
      refine c_close t14 () 0 [] (by exact ⟨rfl, rfl, rfl, trivial⟩) (by decide) rfl (by exact ⟨H35, trivial⟩) (Nat.lt_succ_self _)
    · have H36 := cnd_f hb H; clear H
      refine c_skip ?_
      refine c_close a0 () 0 [] (by exact ⟨rfl, rfl, rfl, trivial⟩) (by decide) rfl (by exact ⟨H36, trivial⟩) (Nat.lt_succ_self _)
  · rintro x8 _ gg H19 _
    replace H19 : R_Whole_j1 a0 a1 x8 = some r := H19
    refine c_tidyF [(0, str a0), (1, .int .i64 a1), (8, str x8)] [] rfl rfl ?_
    refine c_meet (r := r) (σ := Unit) (τ := Unit) (fun s => R_Whole_j2 a0) (fun s t => [(0, str a0)]) (fun s t => []) (fun s t => True) ?_ ?_
    · refine c_seq ?_
      refine c_region ?_
      refine l_val rfl rfl rfl (r_move (v := str x8) rfl) ?_
      refine l_val rfl rfl rfl (r_eqlT rfl rfl) ?_
      refine l_val rfl rfl rfl (r_move (v := .bool (decide (x8 = []))) rfl) ?_
      refine split (fun hb => ?_) (fun hb => ?_)
      · have H22 := cnd_t hb H19; clear H19
        refine l_passed rfl rfl rfl ?_
        refine l_passed rfl rfl rfl ?_
        refine l_passed rfl rfl rfl ?_
        refine l_passed rfl rfl rfl ?_
        refine l_val rfl rfl rfl (r_pickT (v := .bool true) rfl rfl) ?_
        refine l_val rfl rfl rfl (r_move (v := .bool true) rfl) ?_
        refine l_passed rfl rfl rfl ?_
        refine l_passed rfl rfl rfl ?_
        refine l_passed rfl rfl rfl ?_
        refine l_val rfl rfl rfl (r_pickT (v := .bool true) rfl rfl) ?_
        refine l_val rfl rfl rfl (r_move (v := .bool true) rfl) ?_
        refine l_passed rfl rfl rfl ?_
        refine l_passed rfl rfl rfl ?_
        refine l_passed rfl rfl rfl ?_
        refine l_passed rfl rfl rfl ?_
        refine l_passed rfl rfl rfl ?_
        refine l_passed rfl rfl rfl ?_
        refine l_passed rfl rfl rfl ?_
        refine l_val rfl rfl rfl (r_pickT (v := .bool true) rfl rfl) ?_
        refine l_nil ?_
        refine c_true rfl ?_
        refine c_seq ?_
        refine c_region ?_
        refine l_val rfl rfl rfl (r_assign (v := .int .i64 0) rfl) ?_
        refine l_val rfl rfl rfl (r_assign (v := .bool false) rfl) ?_
        refine l_nil ?_
        refine c_ret ?_
        obtain rfl := Option.some.inj H22
        refine ret2 (v1 := .int .i64 0) (v2 := .bool false) rfl rfl rfl (fin rfl)
      · have H23 := cnd_f hb H19; clear H19
        refine l_val rfl rfl rfl (r_move (v := str x8) rfl) ?_
        refine l_val rfl rfl rfl (r_lenT Tryd.underlying9 rfl) ?_
        refine l_val rfl rfl rfl (r_move (v := .int .i64 a1) rfl) ?_
        refine l_val rfl rfl rfl (r_gtr rfl rfl) ?_
        refine l_val rfl rfl rfl (r_pickF (v := .bool (decide (a1 < (x8.length : Int)))) rfl rfl) ?_
        refine l_val rfl rfl rfl (r_move (v := .bool (decide (a1 < (x8.length : Int)))) rfl) ?_
        refine split (fun hb => ?_) (fun hb => ?_)
        · have H24 := cnd_t hb H23; clear H23
          refine l_passed rfl rfl rfl ?_
          refine l_passed rfl rfl rfl ?_
          refine l_passed rfl rfl rfl ?_
          refine l_val rfl rfl rfl (r_pickT (v := .bool true) rfl rfl) ?_
          refine l_val rfl rfl rfl (r_move (v := .bool true) rfl) ?_
          refine l_passed rfl rfl rfl ?_
          refine l_passed rfl rfl rfl ?_
          refine l_passed rfl rfl rfl ?_
          refine l_passed rfl rfl rfl ?_
          refine l_passed rfl rfl rfl ?_
          refine l_passed rfl rfl rfl ?_
          refine l_passed rfl rfl rfl ?_
          refine l_val rfl rfl rfl (r_pickT (v := .bool true) rfl rfl) ?_
          refine l_nil ?_
          refine c_true rfl ?_
          refine c_seq ?_
          refine c_region ?_
          refine l_val rfl rfl rfl (r_assign (v := .int .i64 0) rfl) ?_
          refine l_val rfl rfl rfl (r_assign (v := .bool false) rfl) ?_
          refine l_nil ?_
          refine c_ret ?_
          obtain rfl := Option.some.inj H24
          refine ret2 (v1 := .int .i64 0) (v2 := .bool false) rfl rfl rfl (fin rfl)
        · have H25 := cnd_f hb H23; clear H23
          refine l_val rfl rfl rfl (r_move (v := str x8) rfl) ?_
          obtain ⟨t25, h_t25, H26⟩ := bnd_some H25; clear H25
          refine l_call (k25 h_t25) Tryd.call25 rfl rfl rfl ?_
          refine l_val rfl rfl rfl (r_neqT rfl rfl) ?_
          refine l_val rfl rfl rfl (r_pickF (v := .bool (decide (t25 ≠ []))) rfl rfl) ?_
          refine l_val rfl rfl rfl (r_move (v := .bool (decide (t25 ≠ []))) rfl) ?_
          refine split (fun hb => ?_) (fun hb => ?_)
          · have H27 := cnd_t hb H26; clear H26
            refine l_passed rfl rfl rfl ?_
            refine l_passed rfl rfl rfl ?_
            refine l_passed rfl rfl rfl ?_
            refine l_passed rfl rfl rfl ?_
            refine l_passed rfl rfl rfl ?_
            refine l_passed rfl rfl rfl ?_
            refine l_passed rfl rfl rfl ?_
            refine l_val rfl rfl rfl (r_pickT (v := .bool true) rfl rfl) ?_
            refine l_nil ?_
            refine c_true rfl ?_
            refine c_seq ?_
            refine c_region ?_
            refine l_val rfl rfl rfl (r_assign (v := .int .i64 0) rfl) ?_
            refine l_val rfl rfl rfl (r_assign (v := .bool false) rfl) ?_
            refine l_nil ?_
            refine c_ret ?_
            obtain rfl := Option.some.inj H27
            refine ret2 (v1 := .int .i64 0) (v2 := .bool false) rfl rfl rfl (fin rfl)
          · have H28 := cnd_f hb H26; clear H26
            refine l_val rfl rfl rfl (r_move (v := str x8) rfl) ?_
            obtain ⟨t30, h_t30, H29⟩ := bnd_some H28; clear H28
            refine l_val rfl rfl rfl (r_octG Tryd.underlying9 rfl rfl h_t30) ?_
            refine l_val rfl rfl rfl (r_eql rfl rfl) ?_
            refine l_val rfl rfl rfl (r_move (v := .bool (decide (t30 = 48))) rfl) ?_
            refine split (fun hb => ?_) (fun hb => ?_)
            · have H30 := cnd_t hb H29; clear H29
              refine l_val rfl rfl rfl (r_move (v := str a0) rfl) ?_
              refine l_val rfl rfl rfl (r_neqT rfl rfl) ?_
              refine l_val rfl rfl rfl (r_pickT (v := .bool (decide (a0 ≠ [48]))) rfl rfl) ?_
              refine l_val rfl rfl rfl (r_pickF (v := .bool (decide (a0 ≠ [48]))) rfl rfl) ?_
              refine l_nil ?_
              refine c_if (b := (decide (a0 ≠ [48]))) rfl (fun hb => ?_) (fun hb => ?_)
              · have H31 := cnd_t hb H30; clear H30
                refine c_seq ?_
                refine c_region ?_
                refine l_val rfl rfl rfl (r_assign (v := .int .i64 0) rfl) ?_
                refine l_val rfl rfl rfl (r_assign (v := .bool false) rfl) ?_
                refine l_nil ?_
                refine c_ret ?_
                obtain rfl := Option.some.inj H31
                refine ret2 (v1 := .int .i64 0) (v2 := .bool false) rfl rfl rfl (fin rfl)
              · have H32 := cnd_f hb H30; clear H30
                refine c_skip ?_
                refine c_close () () 0 [] (by exact ⟨rfl, trivial⟩) (by decide) rfl (by exact ⟨H32, trivial⟩) (Nat.lt_succ_self _)
            · have H33 := cnd_f hb H29; clear H29
              refine l_passed rfl rfl rfl ?_
              refine l_passed rfl rfl rfl ?_
              refine l_val rfl rfl rfl (r_pickF (v := .bool false) rfl rfl) ?_
              refine l_val rfl rfl rfl (r_pickF (v := .bool false) rfl rfl) ?_
              refine l_nil ?_
              refine c_false rfl ?_
              refine c_skip ?_
              refine c_close () () 0 [] (by exact ⟨rfl, trivial⟩) (by decide) rfl (by exact ⟨H33, trivial⟩) (Nat.lt_succ_self _)
    · rintro _ _ gg H20 _
      replace H20 : R_Whole_j2 a0 = some r := H20
      refine c_tidyF [(0, str a0)] [] rfl rfl ?_
      refine c_seq ?_
      refine c_region ?_
      refine l_val rfl rfl rfl (r_move (v := str a0) rfl) ?_
      obtain ⟨t39, h_t39, H21⟩ := bnd_some H20; clear H20
      refine l_call (k26 h_t39) Tryd.call26 rfl rfl rfl ?_
      refine l_val rfl rfl rfl (r_move (v := .tuple #[.int .i64 t39, .nilIface]) rfl) ?_
      refine l_val rfl rfl rfl (r_extract (v := .int .i64 t39) rfl rfl) ?_
      refine l_val rfl rfl rfl (r_extract (v := .nilIface) rfl rfl) ?_
      refine l_val rfl rfl rfl (r_assign (v := .int .i64 t39) rfl) ?_
      refine l_val rfl rfl rfl (r_assign (v := .nilIface) rfl) ?_
      refine l_nil ?_
      refine c_seq ?_
      exact c_regionD (Kd.p :: Kd.p :: Kd.p :: Kd.p :: Kd.p :: []) 0 mixed (by
        refine d_val rfl rfl (r_move (v := .int .i64 t39) rfl) ?_
        refine d_val rfl rfl (r_move (v := .nilIface) rfl) ?_
        refine d_val rfl rfl (r_eqlErr rfl (by intro w; kernel_rfl)) ?_
        refine d_val rfl rfl (r_assign (v := .int .i64 t39) rfl) ?_
        refine d_val rfl rfl (r_assign (v := .bool true) rfl) ?_
        refine d_nil ?_
        refine c_ret ?_
        obtain rfl := Option.some.inj H21
        refine ret2 (v1 := .int .i64 t39) (v2 := .bool true) rfl rfl rfl (fin rfl)
        ) (by kernel_rfl)
theorem k24 {a0 : (List UInt8)} {a1 : (List UInt8)} {r : Bool} (H : strings_HasPrefix a0 a1 = some r) : Ret Tryd.prog 24 [str a0, str a1] (.bool r) := by
  refine enterRet (n := 8) Tryd.func24 rfl rfl rfl (fun wd => ?_)
  refine c_seq ?_
  refine c_region ?_
  refine l_val rfl rfl rfl (r_assign (v := .bool false) rfl) ?_
  refine l_nil ?_
  refine c_seq ?_
  refine c_region ?_
  refine l_val rfl rfl rfl (r_move (v := str a0) rfl) ?_
  refine l_val rfl rfl rfl (r_move (v := str a1) rfl) ?_
  obtain ⟨t7, h_t7, H2⟩ := bnd_some H; clear H
  refine l_call (k39 h_t7) Tryd.call39 rfl rfl rfl ?_
  refine l_val rfl rfl rfl (r_assign (v := .bool t7) rfl) ?_
  refine l_nil ?_
  refine c_ret ?_
  obtain rfl := Option.some.inj H2
  refine ret1 (v := .bool t7) rfl rfl (fin rfl)
theorem k8 {a0 : (List UInt8)} {r : T_api_Place × Int} (H : R_PlaceRead a0 = some r) : Ret Tryd.prog 8 [str a0] (.tuple #[.agg #[.int .i64 r.1.Lat, .int .i64 r.1.Lon], .int .i64 r.2]) := by
  refine enterRet (n := 98) Tryd.func8 rfl rfl rfl (fun wd => ?_)
  refine c_seq ?_
  refine c_region ?_
  refine l_alloc (cs := [.int .i64 0, .int .i64 0]) Tryd.zeroValue23 rfl rfl rfl (fun b2 => ?_)
  refine l_val rfl rfl rfl (r_assign (v := .int .i64 0) rfl) ?_
  refine l_nil ?_
  refine c_seq ?_
  refine c_region ?_
  refine l_val rfl rfl rfl (r_move (v := str a0) rfl) ?_
  obtain ⟨t19, h_t19, H41⟩ := bnd_some H; clear H
  refine l_call (k21 h_t19) Tryd.call21 rfl rfl rfl ?_
  refine l_val rfl rfl rfl (r_move (v := .tuple #[str t19.1, str t19.2.1, .bool t19.2.2]) rfl) ?_
  refine l_val rfl rfl rfl (r_extract (v := str t19.1) rfl rfl) ?_
  refine l_val rfl rfl rfl (r_extract (v := str t19.2.1) rfl rfl) ?_
  refine l_val rfl rfl rfl (r_extract (v := .bool t19.2.2) rfl rfl) ?_
  refine l_val rfl rfl rfl (r_assign (v := str t19.1) rfl) ?_
  refine l_val rfl rfl rfl (r_assign (v := str t19.2.1) rfl) ?_
  refine l_val rfl rfl rfl (r_assign (v := .bool t19.2.2) rfl) ?_
  refine l_nil ?_
  refine c_meet (r := r) (σ := Int × Int) (τ := Unit) (fun s => R_PlaceRead_j1 s.1 s.2) (fun s t => [(2, .pointer (some ⟨b2, 0, none⟩))]) (fun s t => [cellsC b2 [.int .i64 s.1, .int .i64 s.2] 23]) (fun s t => True) ?_ ?_
  · refine c_seq ?_
    refine c_region ?_
    refine l_val rfl rfl rfl (r_move (v := str t19.1) rfl) ?_
    refine l_val rfl rfl rfl (r_move (v := str t19.2.1) rfl) ?_
    refine l_buildSlice (vs := [str t19.1, str t19.2.1]) (cs := [str t19.1, str t19.2.1]) Tryd.underlying48 Tryd.sizeOf9 Tryd.zeroValue9 rfl rfl rfl rfl rfl rfl rfl (fun b3 => ?_)
    refine l_val rfl rfl rfl (r_len Tryd.underlying48 rfl) ?_
    refine l_val rfl rfl rfl (r_move (v := .int .i64 0) rfl) ?_
    refine l_nil ?_
    refine c_block ?_
    refine c_fix (σ := Int × Int × Int) (τ := Unit) (fun next2 s => R_PlaceRead_l2 t19 next2 s.1 s.2.1 s.2.2) (fun s t => [(2, .pointer (some ⟨b2, 0, none⟩)), (25, .slice (some ⟨b3, 0, none⟩) 2 2), (26, .int .i64 2), (27, .int .i64 s.1)]) (fun s t => [cellsC b2 [.int .i64 s.2.1, .int .i64 s.2.2] 23, cellsC b3 [str t19.1, str t19.2.1] 9]) (fun s t => True) (0, 0, 0) () [0, 1] H41 (by exact trivial) (by exact ⟨rfl, rfl, rfl, rfl, trivial⟩) (by decide) rfl ?_
    rintro ⟨x27_2, m_5, m_6⟩ _ m2 gg H46 _
    clear H41
    replace H46 : R_PlaceRead_l2 t19 (it (fun next2 s => R_PlaceRead_l2 t19 next2 s.1 s.2.1 s.2.2) m2) x27_2 m_5 m_6 = some r := H46
    generalize hn2 : it (fun next2 s => R_PlaceRead_l2 t19 next2 s.1 s.2.1 s.2.2) m2 = next2 at H46
    refine c_tidyF [(2, .pointer (some ⟨b2, 0, none⟩)), (25, .slice (some ⟨b3, 0, none⟩) 2 2), (26, .int .i64 2), (27, .int .i64 x27_2)] [cellsC b2 [.int .i64 m_5, .int .i64 m_6] 23, cellsC b3 [str t19.1, str t19.2.1] 9] rfl rfl ?_
    refine c_seq ?_
    refine c_region ?_
    refine l_val rfl rfl rfl (r_lss rfl rfl) ?_
    refine l_nil ?_
    refine c_seq ?_
    refine c_if (b := (decide (x27_2 < 2))) rfl (fun hb => ?_) (fun hb => ?_)
    · have H47 := cnd_t hb H46; clear H46
      refine c_skip ?_
      refine c_meet (r := r) (σ := Bool × Bool × (List UInt8) × Int × Bool × (List UInt8) × (List UInt8) × Bool × Int × Int) (τ := Unit) (fun s => R_PlaceRead_j3 x27_2 next2 s.1 s.2.1 s.2.2.1 s.2.2.2.1 s.2.2.2.2.1 s.2.2.2.2.2.1 s.2.2.2.2.2.2.1 s.2.2.2.2.2.2.2.1 s.2.2.2.2.2.2.2.2.1 s.2.2.2.2.2.2.2.2.2) (fun s t => [(2, .pointer (some ⟨b2, 0, none⟩)), (25, .slice (some ⟨b3, 0, none⟩) 2 2), (26, .int .i64 2), (27, .int .i64 x27_2), (54, .bool s.1), (55, .bool s.2.1), (58, str s.2.2.1), (59, .int .i64 s.2.2.2.1), (60, .bool s.2.2.2.2.1), (63, str s.2.2.2.2.2.1), (64, str s.2.2.2.2.2.2.1), (65, .bool s.2.2.2.2.2.2.2.1)]) (fun s t => [cellsC b2 [.int .i64 s.2.2.2.2.2.2.2.2.1, .int .i64 s.2.2.2.2.2.2.2.2.2] 23, cellsC b3 [str t19.1, str t19.2.1] 9]) (fun s t => True) ?_ ?_
      · refine c_block ?_
        refine c_seq ?_
        refine c_region ?_
        refine l_val rfl rfl rfl (r_move (v := .int .i64 x27_2) rfl) ?_
        obtain ⟨t30, h_t30, H50⟩ := bnd_some H47; clear H47
        refine l_val rfl rfl rfl (r_indexS Tryd.underlying48 Tryd.sizeOf9 rfl rfl h_t30 rfl) ?_
        refine l_read (fun w hF hS => run_loadG1 (f := e_string) (i := x27_2) (sz := 1) (j := 0) (v := str t30) Tryd.isAgg9 rfl rfl (row_box (sz := 1) (xs := ([t19.1, t19.2.1] : List (List UInt8)).map e_string) (i := 1) hS rfl rfl rfl) h_t30 rfl) rfl rfl rfl ?_
        refine l_val rfl rfl rfl (r_assign (v := .int .i64 x27_2) rfl) ?_
        refine l_val rfl rfl rfl (r_assign (v := str t30) rfl) ?_
        refine l_nil ?_
        refine c_seq ?_
        refine c_region ?_
        refine l_val rfl rfl rfl (r_move (v := str t30) rfl) ?_
        obtain ⟨t34, h_t34, H51⟩ := bnd_some H50; clear H50
        refine l_call (k21 h_t34) Tryd.call21 rfl rfl rfl ?_
        refine l_val rfl rfl rfl (r_move (v := .tuple #[str t34.1, str t34.2.1, .bool t34.2.2]) rfl) ?_
        refine l_val rfl rfl rfl (r_extract (v := str t34.1) rfl rfl) ?_
        refine l_val rfl rfl rfl (r_extract (v := str t34.2.1) rfl rfl) ?_
        refine l_val rfl rfl rfl (r_extract (v := .bool t34.2.2) rfl rfl) ?_
        refine l_val rfl rfl rfl (r_assign (v := str t34.1) rfl) ?_
        refine l_val rfl rfl rfl (r_assign (v := str t34.2.1) rfl) ?_
        refine l_val rfl rfl rfl (r_assign (v := .bool t34.2.2) rfl) ?_
        refine l_nil ?_
        refine c_seq ?_
        refine c_region ?_
        refine l_val rfl rfl rfl (r_move (v := str t34.1) rfl) ?_
        obtain ⟨t40, h_t40, H52⟩ := bnd_some H51; clear H51
        refine l_call (k23 h_t40) Tryd.call23 rfl rfl rfl ?_
        refine l_val rfl rfl rfl (r_move (v := .tuple #[.int .i64 t40.1, .bool t40.2]) rfl) ?_
        refine l_val rfl rfl rfl (r_extract (v := .int .i64 t40.1) rfl rfl) ?_
        refine l_val rfl rfl rfl (r_extract (v := .bool t40.2) rfl rfl) ?_
        refine l_val rfl rfl rfl (r_assign (v := .int .i64 t40.1) rfl) ?_
        refine l_val rfl rfl rfl (r_assign (v := .bool t40.2) rfl) ?_
        refine l_nil ?_
        refine c_meet (r := r) (σ := Int × Bool) (τ := Unit) (fun s => R_PlaceRead_j4 x27_2 m_5 m_6 next2 t34 s.1 s.2) (fun s t => [(2, .pointer (some ⟨b2, 0, none⟩)), (7, .int .i64 x27_2), (9, str t34.1), (10, str t34.2.1), (11, .bool t34.2.2), (12, .int .i64 s.1), (13, .bool s.2), (25, .slice (some ⟨b3, 0, none⟩) 2 2), (26, .int .i64 2), (27, .int .i64 x27_2)]) (fun s t => [cellsC b2 [.int .i64 m_5, .int .i64 m_6] 23, cellsC b3 [str t19.1, str t19.2.1] 9]) (fun s t => True) ?_ ?_
        · refine c_seq ?_
          refine c_region ?_
          refine l_val rfl rfl rfl (r_move (v := str t34.1) rfl) ?_
          obtain ⟨t44, h_t44, H75⟩ := bnd_some H52; clear H52
          refine l_call (k24 h_t44) Tryd.call24 rfl rfl rfl ?_
          refine l_nil ?_
          refine c_if (b := t44) rfl (fun hb => ?_) (fun hb => ?_)
          · have H76 := cnd_t hb H75; clear H75
            refine c_region ?_
            refine l_val rfl rfl rfl (r_move (v := str t34.1) rfl) ?_
            obtain ⟨t47, h_t47, H77⟩ := bnd_some H76; clear H76
            refine l_val rfl rfl rfl (r_cutFromG Tryd.underlying9 rfl rfl h_t47) ?_
            obtain ⟨t48, h_t48, H78⟩ := bnd_some H77; clear H77
            refine l_call (k23 h_t48) Tryd.call23 rfl rfl rfl ?_
            refine l_val rfl rfl rfl (r_move (v := .tuple #[.int .i64 t48.1, .bool t48.2]) rfl) ?_
            refine l_val rfl rfl rfl (r_extract (v := .int .i64 t48.1) rfl rfl) ?_
            refine l_val rfl rfl rfl (r_extract (v := .bool t48.2) rfl rfl) ?_
            refine l_val rfl rfl rfl (r_assign (v := .int .i64 t48.1) rfl) ?_
            refine l_val rfl rfl rfl (r_assign (v := .bool t48.2) rfl) ?_
            refine l_nil ?_
            refine c_close (t48.1, t48.2) () 0 [0, 1] (by exact ⟨rfl, rfl, rfl, rfl, rfl, rfl, rfl, rfl, rfl, rfl, trivial⟩) (by decide) rfl (by exact ⟨H78, trivial⟩) (Nat.lt_succ_self _)
          · have H79 := cnd_f hb H75; clear H75
            refine c_skip ?_
            refine c_close (t40.1, t40.2) () 0 [0, 1] (by exact ⟨rfl, rfl, rfl, rfl, rfl, rfl, rfl, rfl, rfl, rfl, trivial⟩) (by decide) rfl (by exact ⟨H79, trivial⟩) (Nat.lt_succ_self _)
        · rintro ⟨x12, x13⟩ _ gg H53 _
          replace H53 : R_PlaceRead_j4 x27_2 m_5 m_6 next2 t34 x12 x13 = some r := H53
          refine c_tidyF [(2, .pointer (some ⟨b2, 0, none⟩)), (7, .int .i64 x27_2), (9, str t34.1), (10, str t34.2.1), (11, .bool t34.2.2), (12, .int .i64 x12), (13, .bool x13), (25, .slice (some ⟨b3, 0, none⟩) 2 2), (26, .int .i64 2), (27, .int .i64 x27_2)] [cellsC b2 [.int .i64 m_5, .int .i64 m_6] 23, cellsC b3 [str t19.1, str t19.2.1] 9] rfl rfl ?_
          refine c_seq ?_
          refine c_seq ?_
          refine c_region ?_
          refine l_val rfl rfl rfl (r_move (v := .bool t34.2.2) rfl) ?_
          refine l_val rfl rfl rfl (r_not rfl) ?_
          refine l_val rfl rfl rfl (r_move (v := .bool (!t34.2.2)) rfl) ?_
          refine split (fun hb => ?_) (fun hb => ?_)
          · have H54 := cnd_t hb H53; clear H53
            refine l_passed rfl rfl rfl ?_
            refine l_passed rfl rfl rfl ?_
            refine l_val rfl rfl rfl (r_pickT (v := .bool true) rfl rfl) ?_
            refine l_val rfl rfl rfl (r_move (v := .bool true) rfl) ?_
            refine l_passed rfl rfl rfl ?_
            refine l_passed rfl rfl rfl ?_
            refine l_passed rfl rfl rfl ?_
            refine l_val rfl rfl rfl (r_pickT (v := .bool true) rfl rfl) ?_
            refine l_val rfl rfl rfl (r_move (v := .bool true) rfl) ?_
            refine l_passed rfl rfl rfl ?_
            refine l_passed rfl rfl rfl ?_
            refine l_passed rfl rfl rfl ?_
            refine l_val rfl rfl rfl (r_pickT (v := .bool true) rfl rfl) ?_
            refine l_nil ?_
            refine c_true rfl ?_
            refine c_seq ?_
            refine c_region ?_
            refine l_val rfl rfl rfl (r_build (pl := #[(0, 1), (1, 1)]) (ps := []) (cells := #[.int .i64 0, .int .i64 0]) Tryd.zeroValue23 Tryd.runUnderlying23 (fun w => by kernel_rfl) rfl rfl) ?_
            refine l_store (i := 0) (vs := [.int .i64 0, .int .i64 0]) (cs' := [.int .i64 0, .int .i64 0]) Tryd.sizeOf23 rfl rfl rfl rfl rfl rfl rfl rfl rfl ?_
            refine l_val rfl rfl rfl (r_assign (v := .int .i64 8) rfl) ?_
            refine l_nil ?_
            refine c_ret ?_
            obtain rfl := Option.some.inj H54
            refine retCt (i := 0) (vs := [.int .i64 0, .int .i64 0]) (v2 := .int .i64 8) Tryd.isAgg23 Tryd.sizeOf23 rfl rfl rfl rfl rfl (fin rfl)
          · have H55 := cnd_f hb H53; clear H53
            refine l_val rfl rfl rfl (r_move (v := .bool x13) rfl) ?_
            refine l_val rfl rfl rfl (r_not rfl) ?_
            refine l_val rfl rfl rfl (r_pickF (v := .bool (!x13)) rfl rfl) ?_
            refine l_val rfl rfl rfl (r_move (v := .bool (!x13)) rfl) ?_
            refine split (fun hb => ?_) (fun hb => ?_)
            · have H56 := cnd_t hb H55; clear H55
              refine l_passed rfl rfl rfl ?_
              refine l_passed rfl rfl rfl ?_
              refine l_passed rfl rfl rfl ?_
              refine l_val rfl rfl rfl (r_pickT (v := .bool true) rfl rfl) ?_
              refine l_val rfl rfl rfl (r_move (v := .bool true) rfl) ?_
              refine l_passed rfl rfl rfl ?_
              refine l_passed rfl rfl rfl ?_
              refine l_passed rfl rfl rfl ?_
              refine l_val rfl rfl rfl (r_pickT (v := .bool true) rfl rfl) ?_
              refine l_nil ?_
              refine c_true rfl ?_
              refine c_seq ?_
              refine c_region ?_
              refine l_val rfl rfl rfl (r_build (pl := #[(0, 1), (1, 1)]) (ps := []) (cells := #[.int .i64 0, .int .i64 0]) Tryd.zeroValue23 Tryd.runUnderlying23 (fun w => by kernel_rfl) rfl rfl) ?_
              refine l_store (i := 0) (vs := [.int .i64 0, .int .i64 0]) (cs' := [.int .i64 0, .int .i64 0]) Tryd.sizeOf23 rfl rfl rfl rfl rfl rfl rfl rfl rfl ?_
              refine l_val rfl rfl rfl (r_assign (v := .int .i64 8) rfl) ?_
              refine l_nil ?_
              refine c_ret ?_
              obtain rfl := Option.some.inj H56
              refine retCt (i := 0) (vs := [.int .i64 0, .int .i64 0]) (v2 := .int .i64 8) Tryd.isAgg23 Tryd.sizeOf23 rfl rfl rfl rfl rfl (fin rfl)
            · have H57 := cnd_f hb H55; clear H55
              refine l_val rfl rfl rfl (r_move (v := str t34.2.1) rfl) ?_
              refine l_val rfl rfl rfl (r_lenT Tryd.underlying9 rfl) ?_
              refine l_val rfl rfl rfl (r_neq rfl rfl) ?_
              refine l_val rfl rfl rfl (r_pickF (v := .bool (decide ((t34.2.1.length : Int) ≠ 6))) rfl rfl) ?_
              refine l_val rfl rfl rfl (r_move (v := .bool (decide ((t34.2.1.length : Int) ≠ 6))) rfl) ?_
              refine split (fun hb => ?_) (fun hb => ?_)
              · have H58 := cnd_t hb H57; clear H57
                refine l_passed rfl rfl rfl ?_
                refine l_passed rfl rfl rfl ?_
                refine l_passed rfl rfl rfl ?_
                refine l_val rfl rfl rfl (r_pickT (v := .bool true) rfl rfl) ?_
                refine l_nil ?_
                refine c_true rfl ?_
                refine c_seq ?_
                refine c_region ?_
                refine l_val rfl rfl rfl (r_build (pl := #[(0, 1), (1, 1)]) (ps := []) (cells := #[.int .i64 0, .int .i64 0]) Tryd.zeroValue23 Tryd.runUnderlying23 (fun w => by kernel_rfl) rfl rfl) ?_
                refine l_store (i := 0) (vs := [.int .i64 0, .int .i64 0]) (cs' := [.int .i64 0, .int .i64 0]) Tryd.sizeOf23 rfl rfl rfl rfl rfl rfl rfl rfl rfl ?_
                refine l_val rfl rfl rfl (r_assign (v := .int .i64 8) rfl) ?_
                refine l_nil ?_
                refine c_ret ?_
                obtain rfl := Option.some.inj H58
                refine retCt (i := 0) (vs := [.int .i64 0, .int .i64 0]) (v2 := .int .i64 8) Tryd.isAgg23 Tryd.sizeOf23 rfl rfl rfl rfl rfl (fin rfl)
              · have H59 := cnd_f hb H57; clear H57
                refine l_val rfl rfl rfl (r_move (v := str t34.2.1) rfl) ?_
                obtain ⟨t64, h_t64, H60⟩ := bnd_some H59; clear H59
                refine l_call (k25 h_t64) Tryd.call25 rfl rfl rfl ?_
                refine l_val rfl rfl rfl (r_neqT rfl rfl) ?_
                refine l_val rfl rfl rfl (r_pickF (v := .bool (decide (t64 ≠ []))) rfl rfl) ?_
                refine l_nil ?_
                refine c_if (b := (decide (t64 ≠ []))) rfl (fun hb => ?_) (fun hb => ?_)
                · have H61 := cnd_t hb H60; clear H60
                  refine c_seq ?_
                  refine c_region ?_
                  refine l_val rfl rfl rfl (r_build (pl := #[(0, 1), (1, 1)]) (ps := []) (cells := #[.int .i64 0, .int .i64 0]) Tryd.zeroValue23 Tryd.runUnderlying23 (fun w => by kernel_rfl) rfl rfl) ?_
                  refine l_store (i := 0) (vs := [.int .i64 0, .int .i64 0]) (cs' := [.int .i64 0, .int .i64 0]) Tryd.sizeOf23 rfl rfl rfl rfl rfl rfl rfl rfl rfl ?_
                  refine l_val rfl rfl rfl (r_assign (v := .int .i64 8) rfl) ?_
                  refine l_nil ?_
                  refine c_ret ?_
                  obtain rfl := Option.some.inj H61
                  refine retCt (i := 0) (vs := [.int .i64 0, .int .i64 0]) (v2 := .int .i64 8) Tryd.isAgg23 Tryd.sizeOf23 rfl rfl rfl rfl rfl (fin rfl)
                · have H62 := cnd_f hb H60; clear H60
                  refine c_skip ?_
                  refine c_seq ?_
                  refine c_region ?_
                  refine l_val rfl rfl rfl (r_move (v := str t34.2.1) rfl) ?_
                  obtain ⟨t70, h_t70, H63⟩ := bnd_some H62; clear H62
                  refine l_call (k26 h_t70) Tryd.call26 rfl rfl rfl ?_
                  refine l_val rfl rfl rfl (r_move (v := .tuple #[.int .i64 t70, .nilIface]) rfl) ?_
                  refine l_val rfl rfl rfl (r_extract (v := .int .i64 t70) rfl rfl) ?_
                  refine l_val rfl rfl rfl (r_extract (v := .nilIface) rfl rfl) ?_
                  refine l_val rfl rfl rfl (r_assign (v := .int .i64 t70) rfl) ?_
                  refine l_val rfl rfl rfl (r_assign (v := .nilIface) rfl) ?_
                  refine l_nil ?_
                  refine c_seq ?_
                  refine c_region ?_
                  refine l_val rfl rfl rfl (r_move (v := .int .i64 x12) rfl) ?_
                  obtain ⟨t74, h_t74, H64⟩ := bnd_some H63; clear H63
                  refine l_val rfl rfl rfl (r_mulG rfl rfl h_t74) ?_
                  refine l_val rfl rfl rfl (r_move (v := .int .i64 t70) rfl) ?_
                  obtain ⟨t76, h_t76, H65⟩ := bnd_some H64; clear H64
                  refine l_val rfl rfl rfl (r_addG rfl rfl h_t76) ?_
                  refine l_val rfl rfl rfl (r_assign (v := .int .i64 t76) rfl) ?_
                  refine l_nil ?_
                  refine c_meet (r := r) (σ := Int) (τ := Unit) (fun s => R_PlaceRead_j5 x27_2 m_5 m_6 next2 t34 x13 t64 s) (fun s t => [(2, .pointer (some ⟨b2, 0, none⟩)), (7, .int .i64 x27_2), (12, .int .i64 s), (25, .slice (some ⟨b3, 0, none⟩) 2 2), (26, .int .i64 2), (27, .int .i64 x27_2), (54, .bool x13), (55, .bool (!x13)), (58, str t34.2.1), (59, .int .i64 (t34.2.1.length : Int)), (60, .bool (decide ((t34.2.1.length : Int) ≠ 6))), (63, str t34.2.1), (64, str t64), (65, .bool (decide (t64 ≠ [])))]) (fun s t => [cellsC b2 [.int .i64 m_5, .int .i64 m_6] 23, cellsC b3 [str t19.1, str t19.2.1] 9]) (fun s t => True) ?_ ?_
                  · refine c_seq ?_
                    refine c_region ?_
                    refine l_val rfl rfl rfl (r_move (v := str t34.1) rfl) ?_
                    obtain ⟨t78, h_t78, H69⟩ := bnd_some H65; clear H65
                    refine l_call (k24 h_t78) Tryd.call24 rfl rfl rfl ?_
                    refine l_nil ?_
                    refine c_if (b := t78) rfl (fun hb => ?_) (fun hb => ?_)
                    · have H70 := cnd_t hb H69; clear H69
                      refine c_seq ?_
                      refine c_region ?_
                      refine l_val rfl rfl rfl (r_move (v := .int .i64 t76) rfl) ?_
                      obtain ⟨t80, h_t80, H71⟩ := bnd_some H70; clear H70
                      refine l_val rfl rfl rfl (r_negG rfl h_t80) ?_
                      refine l_val rfl rfl rfl (r_assign (v := .int .i64 t80) rfl) ?_
                      refine l_nil ?_
                      refine c_seq ?_
                      refine c_region ?_
                      refine l_val rfl rfl rfl (r_move (v := .int .i64 t80) rfl) ?_
                      refine l_val rfl rfl rfl (r_eql rfl rfl) ?_
                      refine l_nil ?_
                      refine c_if (b := (decide (t80 = 0))) rfl (fun hb => ?_) (fun hb => ?_)
                      · have H72 := cnd_t hb H71; clear H71
                        refine c_seq ?_
                        refine c_region ?_
                        refine l_val rfl rfl rfl (r_build (pl := #[(0, 1), (1, 1)]) (ps := []) (cells := #[.int .i64 0, .int .i64 0]) Tryd.zeroValue23 Tryd.runUnderlying23 (fun w => by kernel_rfl) rfl rfl) ?_
                        refine l_store (i := 0) (vs := [.int .i64 0, .int .i64 0]) (cs' := [.int .i64 0, .int .i64 0]) Tryd.sizeOf23 rfl rfl rfl rfl rfl rfl rfl rfl rfl ?_
                        refine l_val rfl rfl rfl (r_assign (v := .int .i64 8) rfl) ?_
                        refine l_nil ?_
                        refine c_ret ?_
                        obtain rfl := Option.some.inj H72
                        refine retCt (i := 0) (vs := [.int .i64 0, .int .i64 0]) (v2 := .int .i64 8) Tryd.isAgg23 Tryd.sizeOf23 rfl rfl rfl rfl rfl (fin rfl)
                      · have H73 := cnd_f hb H71; clear H71
                        refine c_skip ?_
                        refine c_close t80 () 0 [0, 1] (by exact ⟨rfl, rfl, rfl, rfl, rfl, rfl, rfl, rfl, rfl, rfl, rfl, rfl, rfl, rfl, trivial⟩) (by decide) rfl (by exact ⟨H73, trivial⟩) (Nat.lt_succ_self _)
                    · have H74 := cnd_f hb H69; clear H69
                      refine c_skip ?_
                      refine c_close t76 () 0 [0, 1] (by exact ⟨rfl, rfl, rfl, rfl, rfl, rfl, rfl, rfl, rfl, rfl, rfl, rfl, rfl, rfl, trivial⟩) (by decide) rfl (by exact ⟨H74, trivial⟩) (Nat.lt_succ_self _)
                  · rintro x12_2 _ gg H66 _
                    replace H66 : R_PlaceRead_j5 x27_2 m_5 m_6 next2 t34 x13 t64 x12_2 = some r := H66
                    refine c_tidyF [(2, .pointer (some ⟨b2, 0, none⟩)), (7, .int .i64 x27_2), (12, .int .i64 x12_2), (25, .slice (some ⟨b3, 0, none⟩) 2 2), (26, .int .i64 2), (27, .int .i64 x27_2), (54, .bool x13), (55, .bool (!x13)), (58, str t34.2.1), (59, .int .i64 (t34.2.1.length : Int)), (60, .bool (decide ((t34.2.1.length : Int) ≠ 6))), (63, str t34.2.1), (64, str t64), (65, .bool (decide (t64 ≠ [])))] [cellsC b2 [.int .i64 m_5, .int .i64 m_6] 23, cellsC b3 [str t19.1, str t19.2.1] 9] rfl rfl ?_
                    refine c_seq ?_
                    refine c_region ?_
                    refine l_val rfl rfl rfl (r_move (v := .int .i64 x27_2) rfl) ?_
                    refine l_val rfl rfl rfl (r_eql rfl rfl) ?_
                    refine l_nil ?_
                    refine c_if (b := (decide (x27_2 = 0))) rfl (fun hb => ?_) (fun hb => ?_)
                    · have H67 := cnd_t hb H66; clear H66
                      refine c_region ?_
                      refine l_val rfl rfl rfl (r_move (v := .int .i64 x12_2) rfl) ?_
                      refine l_val rfl rfl rfl (r_field Tryd.runUnderlying23 rfl Tryd.sizeOf3 rfl rfl) ?_
                      refine l_store (i := 0) (vs := [.int .i64 x12_2]) (cs' := [.int .i64 x12_2, .int .i64 m_6]) Tryd.sizeOf3 rfl rfl rfl rfl rfl rfl rfl rfl rfl ?_
                      refine l_nil ?_
                      refine c_close (x13, (!x13), t34.2.1, (t34.2.1.length : Int), (decide ((t34.2.1.length : Int) ≠ 6)), t34.2.1, t64, (decide (t64 ≠ [])), x12_2, m_6) () 0 [0, 1] (by exact ⟨rfl, rfl, rfl, rfl, rfl, rfl, rfl, rfl, rfl, rfl, rfl, rfl, trivial⟩) (by decide) rfl (by exact ⟨H67, trivial⟩) (Nat.lt_succ_self _)
                    · have H68 := cnd_f hb H66; clear H66
                      refine c_region ?_
                      refine l_val rfl rfl rfl (r_move (v := .int .i64 x12_2) rfl) ?_
                      refine l_val rfl rfl rfl (r_field Tryd.runUnderlying23 rfl Tryd.sizeOf3 rfl rfl) ?_
                      refine l_store (i := 0) (vs := [.int .i64 x12_2]) (cs' := [.int .i64 m_5, .int .i64 x12_2]) Tryd.sizeOf3 rfl rfl rfl rfl rfl rfl rfl rfl rfl ?_
                      refine l_nil ?_
                      refine c_close (x13, (!x13), t34.2.1, (t34.2.1.length : Int), (decide ((t34.2.1.length : Int) ≠ 6)), t34.2.1, t64, (decide (t64 ≠ [])), m_5, x12_2) () 0 [0, 1] (by exact ⟨rfl, rfl, rfl, rfl, rfl, rfl, rfl, rfl, rfl, rfl, rfl, rfl, trivial⟩) (by decide) rfl (by exact ⟨H68, trivial⟩) (Nat.lt_succ_self _)
      · rintro ⟨x54, x55, x58, x59, x60, x63, x64, x65, m_7, m_8⟩ _ gg H48 _
        replace H48 : R_PlaceRead_j3 x27_2 next2 x54 x55 x58 x59 x60 x63 x64 x65 m_7 m_8 = some r := H48
        refine c_tidyF [(2, .pointer (some ⟨b2, 0, none⟩)), (25, .slice (some ⟨b3, 0, none⟩) 2 2), (26, .int .i64 2), (27, .int .i64 x27_2), (54, .bool x54), (55, .bool x55), (58, str x58), (59, .int .i64 x59), (60, .bool x60), (63, str x63), (64, str x64), (65, .bool x65)] [cellsC b2 [.int .i64 m_7, .int .i64 m_8] 23, cellsC b3 [str t19.1, str t19.2.1] 9] rfl rfl ?_
        refine c_region ?_
        obtain ⟨t90, h_t90, H49⟩ := bnd_some H48; clear H48
        refine l_val rfl rfl rfl (r_addG rfl rfl h_t90) ?_
        refine l_val rfl rfl rfl (r_move (v := .int .i64 t90) rfl) ?_
        refine l_nil ?_
        refine c_close (t90, m_7, m_8) () m2 [0, 1] (by exact ⟨rfl, rfl, rfl, rfl, trivial⟩) (by decide) rfl (by exact ⟨(by subst hn2; exact H49), trivial⟩) (Nat.lt_succ_self _)
    · have H80 := cnd_f hb H46; clear H46
      refine c_exit ?_
      refine c_close (m_5, m_6) () 0 [0] (by exact ⟨rfl, trivial⟩) (by decide) rfl (by exact ⟨H80, trivial⟩) (Nat.lt_succ_self _)
  · rintro ⟨m, m_2⟩ _ gg H42 _
    replace H42 : R_PlaceRead_j1 m m_2 = some r := H42
    refine c_tidyF [(2, .pointer (some ⟨b2, 0, none⟩))] [cellsC b2 [.int .i64 m, .int .i64 m_2] 23] rfl rfl ?_
    refine c_seq ?_
    refine c_seq ?_
    refine c_region ?_
    refine l_loadN (i := 0) (vs := [.int .i64 m, .int .i64 m_2]) Tryd.isAgg23 Tryd.sizeOf23 rfl rfl rfl rfl rfl ?_
    obtain ⟨t92, h_t92, H43⟩ := bnd_some H42; clear H42
    refine l_call (k5 h_t92) Tryd.call5 rfl rfl rfl ?_
    refine l_val rfl rfl rfl (r_assign (v := .int .i64 t92) rfl) ?_
    refine l_nil ?_
    refine c_seq ?_
    refine c_region ?_
    refine l_val rfl rfl rfl (r_move (v := .int .i64 t92) rfl) ?_
    refine l_val rfl rfl rfl (r_neq rfl rfl) ?_
    refine l_nil ?_
    refine c_if (b := (decide (t92 ≠ 0))) rfl (fun hb => ?_) (fun hb => ?_)
    · have H44 := cnd_t hb H43; clear H43
      refine c_seq ?_
      refine c_region ?_
      refine l_val rfl rfl rfl (r_build (pl := #[(0, 1), (1, 1)]) (ps := []) (cells := #[.int .i64 0, .int .i64 0]) Tryd.zeroValue23 Tryd.runUnderlying23 (fun w => by kernel_rfl) rfl rfl) ?_
      refine l_val rfl rfl rfl (r_move (v := .int .i64 t92) rfl) ?_
      refine l_store (i := 0) (vs := [.int .i64 0, .int .i64 0]) (cs' := [.int .i64 0, .int .i64 0]) Tryd.sizeOf23 rfl rfl rfl rfl rfl rfl rfl rfl rfl ?_
      refine l_val rfl rfl rfl (r_assign (v := .int .i64 t92) rfl) ?_
      refine l_nil ?_
      refine c_ret ?_
      obtain rfl := Option.some.inj H44
      refine retCt (i := 0) (vs := [.int .i64 0, .int .i64 0]) (v2 := .int .i64 t92) Tryd.isAgg23 Tryd.sizeOf23 rfl rfl rfl rfl rfl (fin rfl)
    · have H45 := cnd_f hb H43; clear H43
      refine c_skip ?_
      refine c_seq ?_
      refine c_region ?_
      refine l_loadN (i := 0) (vs := [.int .i64 m, .int .i64 m_2]) Tryd.isAgg23 Tryd.sizeOf23 rfl rfl rfl rfl rfl ?_
      refine l_store (i := 0) (vs := [.int .i64 m, .int .i64 m_2]) (cs' := [.int .i64 m, .int .i64 m_2]) Tryd.sizeOf23 rfl rfl rfl rfl rfl rfl rfl rfl rfl ?_
      refine l_val rfl rfl rfl (r_assign (v := .int .i64 0) rfl) ?_
      refine l_nil ?_
      refine c_ret ?_
      obtain rfl := Option.some.inj H45
      refine retCt (i := 0) (vs := [.int .i64 m, .int .i64 m_2]) (v2 := .int .i64 0) Tryd.isAgg23 Tryd.sizeOf23 rfl rfl rfl rfl rfl (fin rfl)
theorem k10 {a0 : Bool} {a1 : Int} {r : Int} (H : Law_unless a0 a1 = some r) : Ret Tryd.prog 10 [.bool a0, .int .i64 a1] (.int .i64 r) := by
  refine enterRet (n := 7) Tryd.func10 rfl rfl rfl (fun wd => ?_)
  refine c_seq ?_
  refine c_region ?_
  refine l_val rfl rfl rfl (r_assign (v := .int .i64 0) rfl) ?_
  refine l_nil ?_
  refine c_seq ?_
  refine c_seq ?_
  refine c_region ?_
  refine l_val rfl rfl rfl (r_move (v := .bool a0) rfl) ?_
  refine l_nil ?_
  refine c_if (b := a0) rfl (fun hb => ?_) (fun hb => ?_)
  · have H3 := cnd_t hb H; clear H
    refine c_seq ?_
    refine c_region ?_
    refine l_val rfl rfl rfl (r_assign (v := .int .i64 0) rfl) ?_
    refine l_nil ?_
    refine c_ret ?_
    obtain rfl := Option.some.inj H3
    refine ret1 (v := .int .i64 0) rfl rfl (fin rfl)
  · have H4 := cnd_f hb H; clear H
    refine c_skip ?_
    refine c_seq ?_
    refine c_region ?_
    refine l_val rfl rfl rfl (r_move (v := .int .i64 a1) rfl) ?_
    refine l_val rfl rfl rfl (r_assign (v := .int .i64 a1) rfl) ?_
    refine l_nil ?_
    refine c_ret ?_
    obtain rfl := Option.some.inj H4
    refine ret1 (v := .int .i64 a1) rfl rfl (fin rfl)
theorem k11 {a0 : Int} {r : Int} (H : R_CosineOf a0 = some r) : Ret Tryd.prog 11 [.int .i64 a0] (.int .i64 r) := by
  refine enterRet (n := 17) Tryd.func11 rfl rfl rfl (fun wd => ?_)
  refine c_seq ?_
  refine c_region ?_
  refine l_val rfl rfl rfl (r_assign (v := .int .i64 0) rfl) ?_
  refine l_nil ?_
  refine c_seq ?_
  refine c_region ?_
  refine l_val rfl rfl rfl (r_move (v := .int .i64 a0) rfl) ?_
  obtain ⟨t5, h_t5, H9⟩ := bnd_some H; clear H
  refine l_val rfl rfl rfl (r_quoG rfl rfl h_t5) ?_
  refine l_val rfl rfl rfl (r_assign (v := .int .i64 t5) rfl) ?_
  refine l_nil ?_
  refine c_seq ?_
  refine c_region ?_
  refine l_val rfl rfl rfl (r_move (v := .int .i64 t5) rfl) ?_
  obtain ⟨t7, h_t7, H10⟩ := bnd_some H9; clear H9
  refine l_val rfl rfl rfl (r_mulG rfl rfl h_t7) ?_
  refine l_val rfl rfl rfl (r_move (v := .int .i64 t5) rfl) ?_
  obtain ⟨t9, h_t9, H11⟩ := bnd_some H10; clear H10
  refine l_val rfl rfl rfl (r_mulG rfl rfl h_t9) ?_
  obtain ⟨t10, h_t10, H12⟩ := bnd_some H11; clear H11
  refine l_val rfl rfl rfl (r_subG rfl rfl h_t10) ?_
  obtain ⟨t11, h_t11, H13⟩ := bnd_some H12; clear H12
  refine l_val rfl rfl rfl (r_mulG rfl rfl h_t11) ?_
  refine l_val rfl rfl rfl (r_move (v := .int .i64 t5) rfl) ?_
  refine l_val rfl rfl rfl (r_move (v := .int .i64 t5) rfl) ?_
  obtain ⟨t14, h_t14, H14⟩ := bnd_some H13; clear H13
  refine l_val rfl rfl rfl (r_mulG rfl rfl h_t14) ?_
  obtain ⟨t15, h_t15, H15⟩ := bnd_some H14; clear H14
  refine l_val rfl rfl rfl (r_addG rfl rfl h_t15) ?_
  obtain ⟨t16, h_t16, H16⟩ := bnd_some H15; clear H15
  refine l_val rfl rfl rfl (r_quoG rfl rfl h_t16) ?_
  refine l_val rfl rfl rfl (r_assign (v := .int .i64 t16) rfl) ?_
  refine l_nil ?_
  refine c_ret ?_
  obtain rfl := Option.some.inj H16
  refine ret1 (v := .int .i64 t16) rfl rfl (fin rfl)
theorem k29 {a0 : Int} {r : (List UInt8)} {w : World} {h : Heap} (hw : Know h w noS) (tb_pow10 : TabH Tryd.prog h "internal/strconv.uint64pow10" .u64 Lib.pow10Tab) (H : R_degrees a0 = some r) : Does Tryd.prog 29 (List.toArray [.int .i64 a0]) w (fun v w' => v = (str r) ∧ Grow w w') := by
  refine enter (n := 24) Tryd.func29 rfl rfl rfl noS [] (Sat.nil _ _) ?_
  refine c_seq ?_
  refine c_region ?_
  refine l_val rfl rfl rfl (r_assign (v := str []) rfl) ?_
  refine l_nil ?_
  refine c_seq ?_
  refine c_region ?_
  refine l_val rfl rfl rfl (r_assign (v := str []) rfl) ?_
  refine l_nil ?_
  refine c_meet (r := r) (σ := Int × (List UInt8)) (τ := Unit) (fun s => R_degrees_j1 s.1 s.2) (fun s t => [(0, .int .i64 s.1), (3, str s.2)]) (fun s t => []) (fun s t => True) ?_ ?_
  · refine c_seq ?_
    refine c_region ?_
    refine l_val rfl rfl rfl (r_move (v := .int .i64 a0) rfl) ?_
    refine l_val rfl rfl rfl (r_lss rfl rfl) ?_
    refine l_nil ?_
    refine c_if (b := (decide (a0 < 0))) rfl (fun hb => ?_) (fun hb => ?_)
    · have H24 := cnd_t hb H; clear H
      refine c_region ?_
      refine l_val rfl rfl rfl (r_move (v := .int .i64 a0) rfl) ?_
      obtain ⟨t8, h_t8, H25⟩ := bnd_some H24; clear H24
      refine l_val rfl rfl rfl (r_negG rfl h_t8) ?_
      refine l_val rfl rfl rfl (r_assign (v := str [45]) rfl) ?_
      refine l_val rfl rfl rfl (r_assign (v := .int .i64 t8) rfl) ?_
      refine l_nil ?_
      refine c_close (t8, [45]) () 0 [] (by exact ⟨rfl, rfl, trivial⟩) (by decide) rfl (by exact ⟨H25, trivial⟩) (Nat.lt_succ_self _)
    · have H26 := cnd_f hb H; clear H
      refine c_skip ?_
      refine c_close (a0, []) () 0 [] (by exact ⟨rfl, rfl, trivial⟩) (by decide) rfl (by exact ⟨H26, trivial⟩) (Nat.lt_succ_self _)
  · rintro ⟨x0, x3⟩ _ gg H14 _
    replace H14 : R_degrees_j1 x0 x3 = some r := H14
    refine c_tidyF [(0, .int .i64 x0), (3, str x3)] [] rfl rfl ?_
    refine c_seq ?_
    refine c_region ?_
    refine l_val rfl rfl rfl (r_move (v := .int .i64 x0) rfl) ?_
    obtain ⟨t10, h_t10, H15⟩ := bnd_some H14; clear H14
    refine l_val rfl rfl rfl (r_remG rfl rfl h_t10) ?_
    obtain ⟨t11, h_t11, H16⟩ := bnd_some H15; clear H15
    refine l_callG (fun w hF hS => k35 (know_all w) (tb_pow10.mono (hw.now hF)) h_t11) Tryd.call35 rfl rfl rfl ?_
    refine l_val rfl rfl rfl (r_assign (v := str t11) rfl) ?_
    refine l_nil ?_
    refine c_seq ?_
    exact c_regionD (Kd.p :: Kd.p :: Kd.p :: Kd.d [] _ :: Kd.p :: Kd.p :: Kd.p :: Kd.p :: Kd.p :: Kd.p :: Kd.p :: Kd.p :: Kd.p :: []) 0 mixed (by
      refine d_val rfl rfl (r_move (v := str x3) rfl) ?_
      refine d_val rfl rfl (r_move (v := .int .i64 x0) rfl) ?_
      have h_t14 := bnd_val H16
      have H17 := bnd_rest H16
      refine d_val rfl rfl (r_quoG rfl rfl h_t14) ?_
      have h_t15 := bnd_val H17
      have H18 := bnd_rest H17
      refine d_callD (fun w L' hF hS hi => k35 (know_all w) (tb_pow10.mono (hw.now hF)) h_t15) Tryd.call35 rfl rfl ?_
      have h_t16 := bnd_val H18
      have H19 := bnd_rest H18
      refine d_val rfl rfl (r_concatG rfl rfl h_t16) ?_
      have h_t17 := bnd_val H19
      have H20 := bnd_rest H19
      refine d_val rfl rfl (r_concatG rfl rfl h_t17) ?_
      refine d_val rfl rfl (r_move (v := str t11) rfl) ?_
      refine d_val rfl rfl (r_lenT Tryd.underlying9 rfl) ?_
      have h_t20 := bnd_val H20
      have H21 := bnd_rest H20
      refine d_val rfl rfl (r_cutFromG Tryd.underlying9 rfl rfl h_t20) ?_
      have h_t21 := bnd_val H21
      have H22 := bnd_rest H21
      refine d_val rfl rfl (r_concatG rfl rfl h_t21) ?_
      refine d_val rfl rfl (r_move (v := str t11) rfl) ?_
      have h_t23 := bnd_val H22
      have H23 := bnd_rest H22
      refine d_val rfl rfl (r_concatG rfl rfl h_t23) ?_
      refine d_val rfl rfl (r_assign (v := str (val (gCat (val (gCat (val (gCat (val (gCat x3 (val (gItoa (val (gQuo x0 1000000)))))) [46])) (val (gCut [48, 48, 48, 48, 48, 48] (t11.length : Int) ([48, 48, 48, 48, 48, 48].length))))) t11))) rfl) ?_
      refine d_nil ?_
      refine c_ret ?_
      obtain rfl := Option.some.inj H23
      refine ret1 (v := str (val (gCat (val (gCat (val (gCat (val (gCat x3 (val (gItoa (val (gQuo x0 1000000)))))) [46])) (val (gCut [48, 48, 48, 48, 48, 48] (t11.length : Int) ([48, 48, 48, 48, 48, 48].length))))) t11))) rfl rfl (fin rfl)
      ) (by kernel_rfl)
theorem k12 {a0 : T_api_Place} {r : (List UInt8)} {w : World} {h : Heap} (hw : Know h w noS) (tb_pow10 : TabH Tryd.prog h "internal/strconv.uint64pow10" .u64 Lib.pow10Tab) (H : R_PlaceWords a0 = some r) : Does Tryd.prog 12 (List.toArray [.agg #[.int .i64 a0.Lat, .int .i64 a0.Lon]]) w (fun v w' => v = (str r) ∧ Grow w w') := by
  refine enter (n := 11) Tryd.func12 rfl rfl rfl noS [] (Sat.nil _ _) ?_
  refine c_seq ?_
  refine c_region ?_
  refine l_box (cs := [.int .i64 a0.Lat, .int .i64 a0.Lon]) rfl rfl rfl rfl (fun b1 => ?_)
  refine l_val rfl rfl rfl (r_assign (v := str []) rfl) ?_
  refine l_nil ?_
  refine c_seq ?_
  exact c_regionD (Kd.p :: Kd.d [0] _ :: Kd.d [] _ :: Kd.p :: Kd.p :: Kd.d [0] _ :: Kd.d [] _ :: Kd.p :: Kd.p :: []) 0 mixed (by
    refine d_val rfl rfl (r_field Tryd.runUnderlying23 rfl Tryd.sizeOf3 rfl rfl) ?_
    refine d_load1 (i := 0) (v := .int .i64 a0.Lat) Tryd.isAgg3 rfl rfl rfl rfl ?_
    have h_t5 := bnd_val H
    have H5 := bnd_rest H
    refine d_callD (fun w L' hF hS hi => k29 (know_all w) (tb_pow10.mono (hw.now hF)) h_t5) Tryd.call29 rfl rfl ?_
    have h_t6 := bnd_val H5
    have H6 := bnd_rest H5
    refine d_val rfl rfl (r_concatG rfl rfl h_t6) ?_
    refine d_val rfl rfl (r_field Tryd.runUnderlying23 rfl Tryd.sizeOf3 rfl rfl) ?_
    refine d_load1 (i := 0) (v := .int .i64 a0.Lon) Tryd.isAgg3 rfl rfl rfl rfl ?_
    have h_t9 := bnd_val H6
    have H7 := bnd_rest H6
    refine d_callD (fun w L' hF hS hi => k29 (know_all w) (tb_pow10.mono (hw.now hF)) h_t9) Tryd.call29 rfl rfl ?_
    have h_t10 := bnd_val H7
    have H8 := bnd_rest H7
    refine d_val rfl rfl (r_concatG rfl rfl h_t10) ?_
    refine d_val rfl rfl (r_assign (v := str (val (gCat (val (gCat (val (R_degrees a0.Lat)) [32])) (val (R_degrees a0.Lon))))) rfl) ?_
    refine d_nil ?_
    refine c_ret ?_
    obtain rfl := Option.some.inj H8
    refine ret1 (v := str (val (gCat (val (gCat (val (R_degrees a0.Lat)) [32])) (val (R_degrees a0.Lon))))) rfl rfl (fin rfl)
    ) (by kernel_rfl)
theorem k14 {a0 : (List UInt8)} {a1 : Int} {a2 : (List UInt8)} {a3 : Int} {r : Bool} (H : Law_told_string a0 a1 a2 a3 = some r) : Ret Tryd.prog 14 [str a0, .int .i64 a1, str a2, .int .i64 a3] (.bool r) := by
  refine enterRet (n := 21) Tryd.func14 rfl rfl rfl (fun wd => ?_)
  refine c_seq ?_
  refine c_region ?_
  refine l_val rfl rfl rfl (r_assign (v := .bool false) rfl) ?_
  refine l_nil ?_
  refine c_seq ?_
  refine c_region ?_
  refine l_val rfl rfl rfl (r_assign (v := str []) rfl) ?_
  refine l_nil ?_
  refine c_meet (r := r) (σ := (List UInt8)) (τ := Unit) (fun s => Law_told_string_j1 a0 a1 a3 s) (fun s t => [(0, str a0), (1, .int .i64 a1), (2, str s), (3, .int .i64 a3)]) (fun s t => []) (fun s t => True) ?_ ?_
  · refine c_seq ?_
    refine c_region ?_
    refine l_val rfl rfl rfl (r_move (v := .int .i64 a3) rfl) ?_
    refine l_val rfl rfl rfl (r_neq rfl rfl) ?_
    refine l_nil ?_
    refine c_if (b := (decide (a3 ≠ 0))) rfl (fun hb => ?_) (fun hb => ?_)
    · have H9 := cnd_t hb H; clear H
      refine c_region ?_
      refine l_val rfl rfl rfl (r_move (v := str []) rfl) ?_
      refine l_val rfl rfl rfl (r_assign (v := str []) rfl) ?_
      refine l_nil ?_
      refine c_close [] () 0 [] (by exact ⟨rfl, rfl, rfl, rfl, trivial⟩) (by decide) rfl (by exact ⟨H9, trivial⟩) (Nat.lt_succ_self _)
    · have H10 := cnd_f hb H; clear H
      refine c_skip ?_
      refine c_close a2 () 0 [] (by exact ⟨rfl, rfl, rfl, rfl, trivial⟩) (by decide) rfl (by exact ⟨H10, trivial⟩) (Nat.lt_succ_self _)
  · rintro x2 _ gg H6 _
    replace H6 : Law_told_string_j1 a0 a1 a3 x2 = some r := H6
    refine c_tidyF [(0, str a0), (1, .int .i64 a1), (2, str x2), (3, .int .i64 a3)] [] rfl rfl ?_
    refine c_seq ?_
    refine c_region ?_
    refine l_val rfl rfl rfl (r_move (v := str a0) rfl) ?_
    refine l_val rfl rfl rfl (r_move (v := str x2) rfl) ?_
    refine l_val rfl rfl rfl (r_eqlT rfl rfl) ?_
    refine l_val rfl rfl rfl (r_move (v := .bool (decide (a0 = x2))) rfl) ?_
    refine split (fun hb => ?_) (fun hb => ?_)
    · have H7 := cnd_t hb H6; clear H6
      refine l_val rfl rfl rfl (r_move (v := .int .i64 a1) rfl) ?_
      refine l_val rfl rfl rfl (r_move (v := .int .i64 a3) rfl) ?_
      refine l_val rfl rfl rfl (r_eql rfl rfl) ?_
      refine l_val rfl rfl rfl (r_pickT (v := .bool (decide (a1 = a3))) rfl rfl) ?_
      refine l_val rfl rfl rfl (r_assign (v := .bool (decide (a1 = a3))) rfl) ?_
      refine l_nil ?_
      refine c_ret ?_
      obtain rfl := Option.some.inj H7
      refine ret1 (v := .bool (decide (a1 = a3))) rfl rfl (fin rfl)
    · have H8 := cnd_f hb H6; clear H6
      refine l_passed rfl rfl rfl ?_
      refine l_passed rfl rfl rfl ?_
      refine l_passed rfl rfl rfl ?_
      refine l_val rfl rfl rfl (r_pickF (v := .bool false) rfl rfl) ?_
      refine l_val rfl rfl rfl (r_assign (v := .bool false) rfl) ?_
      refine l_nil ?_
      refine c_ret ?_
      obtain rfl := Option.some.inj H8
      refine ret1 (v := .bool false) rfl rfl (fin rfl)
theorem k15 {a0 : T_api_Place} {a1 : Int} {a2 : T_api_Place} {a3 : Int} {r : Bool} (H : Law_told_api_Place a0 a1 a2 a3 = some r) : Ret Tryd.prog 15 [.agg #[.int .i64 a0.Lat, .int .i64 a0.Lon], .int .i64 a1, .agg #[.int .i64 a2.Lat, .int .i64 a2.Lon], .int .i64 a3] (.bool r) := by
  refine enterRet (n := 21) Tryd.func15 rfl rfl rfl (fun wd => ?_)
  refine c_seq ?_
  refine c_region ?_
  refine l_box (cs := [.int .i64 a0.Lat, .int .i64 a0.Lon]) rfl rfl rfl rfl (fun b3 => ?_)
  refine l_box (cs := [.int .i64 a2.Lat, .int .i64 a2.Lon]) rfl rfl rfl rfl (fun b4 => ?_)
  refine l_val rfl rfl rfl (r_assign (v := .bool false) rfl) ?_
  refine l_nil ?_
  refine c_seq ?_
  refine c_region ?_
  refine l_alloc (cs := [.int .i64 0, .int .i64 0]) Tryd.zeroValue23 rfl rfl rfl (fun b5 => ?_)
  refine l_nil ?_
  refine c_meet (r := r) (σ := Int × Int) (τ := Unit) (fun s => Law_told_api_Place_j1 a0 a1 a3 s.1 s.2) (fun s t => [(1, .int .i64 a1), (3, .int .i64 a3), (4, .pointer (some ⟨b3, 0, none⟩)), (6, .pointer (some ⟨b4, 0, none⟩))]) (fun s t => [cellsC b3 [.int .i64 a0.Lat, .int .i64 a0.Lon] 23, cellsC b4 [.int .i64 s.1, .int .i64 s.2] 23]) (fun s t => True) ?_ ?_
  · refine c_seq ?_
    refine c_region ?_
    refine l_val rfl rfl rfl (r_move (v := .int .i64 a3) rfl) ?_
    refine l_val rfl rfl rfl (r_neq rfl rfl) ?_
    refine l_nil ?_
    refine c_if (b := (decide (a3 ≠ 0))) rfl (fun hb => ?_) (fun hb => ?_)
    · have H9 := cnd_t hb H; clear H
      refine c_region ?_
      refine l_loadN (i := 2) (vs := [.int .i64 0, .int .i64 0]) Tryd.isAgg23 Tryd.sizeOf23 rfl rfl rfl rfl rfl ?_
      refine l_store (i := 1) (vs := [.int .i64 0, .int .i64 0]) (cs' := [.int .i64 0, .int .i64 0]) Tryd.sizeOf23 rfl rfl rfl rfl rfl rfl rfl rfl rfl ?_
      refine l_nil ?_
      refine c_close (0, 0) () 0 [0, 1] (by exact ⟨rfl, rfl, rfl, rfl, trivial⟩) (by decide) rfl (by exact ⟨H9, trivial⟩) (Nat.lt_succ_self _)
    · have H10 := cnd_f hb H; clear H
      refine c_skip ?_
      refine c_close (a2.Lat, a2.Lon) () 0 [0, 1] (by exact ⟨rfl, rfl, rfl, rfl, trivial⟩) (by decide) rfl (by exact ⟨H10, trivial⟩) (Nat.lt_succ_self _)
  · rintro ⟨m, m_2⟩ _ gg H6 _
    replace H6 : Law_told_api_Place_j1 a0 a1 a3 m m_2 = some r := H6
    refine c_tidyF [(1, .int .i64 a1), (3, .int .i64 a3), (4, .pointer (some ⟨b3, 0, none⟩)), (6, .pointer (some ⟨b4, 0, none⟩))] [cellsC b3 [.int .i64 a0.Lat, .int .i64 a0.Lon] 23, cellsC b4 [.int .i64 m, .int .i64 m_2] 23] rfl rfl ?_
    refine c_seq ?_
    refine c_region ?_
    refine l_loadN (i := 0) (vs := [.int .i64 a0.Lat, .int .i64 a0.Lon]) Tryd.isAgg23 Tryd.sizeOf23 rfl rfl rfl rfl rfl ?_
    refine l_loadN (i := 1) (vs := [.int .i64 m, .int .i64 m_2]) Tryd.isAgg23 Tryd.sizeOf23 rfl rfl rfl rfl rfl ?_
    refine l_val rfl rfl rfl (r_eqlA (xs := #[.int .i64 a0.Lat, .int .i64 a0.Lon]) (ys := #[.int .i64 m, .int .i64 m_2]) Tryd.eqGuardType23 (fun w => run_eq_api_Place w a0 (⟨m, m_2⟩ : T_api_Place)) rfl rfl) ?_
    refine l_val rfl rfl rfl (r_move (v := .bool (eq_api_Place a0 (⟨m, m_2⟩ : T_api_Place))) rfl) ?_
    refine split (fun hb => ?_) (fun hb => ?_)
    · have H7 := cnd_t hb H6; clear H6
      refine l_val rfl rfl rfl (r_move (v := .int .i64 a1) rfl) ?_
      refine l_val rfl rfl rfl (r_move (v := .int .i64 a3) rfl) ?_
      refine l_val rfl rfl rfl (r_eql rfl rfl) ?_
      refine l_val rfl rfl rfl (r_pickT (v := .bool (decide (a1 = a3))) rfl rfl) ?_
      refine l_val rfl rfl rfl (r_assign (v := .bool (decide (a1 = a3))) rfl) ?_
      refine l_nil ?_
      refine c_ret ?_
      obtain rfl := Option.some.inj H7
      refine ret1 (v := .bool (decide (a1 = a3))) rfl rfl (fin rfl)
    · have H8 := cnd_f hb H6; clear H6
      refine l_passed rfl rfl rfl ?_
      refine l_passed rfl rfl rfl ?_
      refine l_passed rfl rfl rfl ?_
      refine l_val rfl rfl rfl (r_pickF (v := .bool false) rfl rfl) ?_
      refine l_val rfl rfl rfl (r_assign (v := .bool false) rfl) ?_
      refine l_nil ?_
      refine c_ret ?_
      obtain rfl := Option.some.inj H8
      refine ret1 (v := .bool false) rfl rfl (fin rfl)
theorem k16 {a0 : Int} {a1 : Int} {a2 : Int} {a3 : Int} {r : Bool} (H : Law_told_int a0 a1 a2 a3 = some r) : Ret Tryd.prog 16 [.int .i64 a0, .int .i64 a1, .int .i64 a2, .int .i64 a3] (.bool r) := by
  refine enterRet (n := 21) Tryd.func16 rfl rfl rfl (fun wd => ?_)
  refine c_seq ?_
  refine c_region ?_
  refine l_val rfl rfl rfl (r_assign (v := .bool false) rfl) ?_
  refine l_nil ?_
  refine c_seq ?_
  refine c_region ?_
  refine l_val rfl rfl rfl (r_assign (v := .int .i64 0) rfl) ?_
  refine l_nil ?_
  refine c_meet (r := r) (σ := Int) (τ := Unit) (fun s => Law_told_int_j1 a0 a1 a3 s) (fun s t => [(0, .int .i64 a0), (1, .int .i64 a1), (2, .int .i64 s), (3, .int .i64 a3)]) (fun s t => []) (fun s t => True) ?_ ?_
  · refine c_seq ?_
    refine c_region ?_
    refine l_val rfl rfl rfl (r_move (v := .int .i64 a3) rfl) ?_
    refine l_val rfl rfl rfl (r_neq rfl rfl) ?_
    refine l_nil ?_
    refine c_if (b := (decide (a3 ≠ 0))) rfl (fun hb => ?_) (fun hb => ?_)
    · have H9 := cnd_t hb H; clear H
      refine c_region ?_
      refine l_val rfl rfl rfl (r_move (v := .int .i64 0) rfl) ?_
      refine l_val rfl rfl rfl (r_assign (v := .int .i64 0) rfl) ?_
      refine l_nil ?_
      refine c_close 0 () 0 [] (by exact ⟨rfl, rfl, rfl, rfl, trivial⟩) (by decide) rfl (by exact ⟨H9, trivial⟩) (Nat.lt_succ_self _)
    · have H10 := cnd_f hb H; clear H
      refine c_skip ?_
      refine c_close a2 () 0 [] (by exact ⟨rfl, rfl, rfl, rfl, trivial⟩) (by decide) rfl (by exact ⟨H10, trivial⟩) (Nat.lt_succ_self _)
  · rintro x2 _ gg H6 _
    replace H6 : Law_told_int_j1 a0 a1 a3 x2 = some r := H6
    refine c_tidyF [(0, .int .i64 a0), (1, .int .i64 a1), (2, .int .i64 x2), (3, .int .i64 a3)] [] rfl rfl ?_
    refine c_seq ?_
    refine c_region ?_
    refine l_val rfl rfl rfl (r_move (v := .int .i64 a0) rfl) ?_
    refine l_val rfl rfl rfl (r_move (v := .int .i64 x2) rfl) ?_
    refine l_val rfl rfl rfl (r_eql rfl rfl) ?_
    refine l_val rfl rfl rfl (r_move (v := .bool (decide (a0 = x2))) rfl) ?_
    refine split (fun hb => ?_) (fun hb => ?_)
    · have H7 := cnd_t hb H6; clear H6
      refine l_val rfl rfl rfl (r_move (v := .int .i64 a1) rfl) ?_
      refine l_val rfl rfl rfl (r_move (v := .int .i64 a3) rfl) ?_
      refine l_val rfl rfl rfl (r_eql rfl rfl) ?_
      refine l_val rfl rfl rfl (r_pickT (v := .bool (decide (a1 = a3))) rfl rfl) ?_
      refine l_val rfl rfl rfl (r_assign (v := .bool (decide (a1 = a3))) rfl) ?_
      refine l_nil ?_
      refine c_ret ?_
      obtain rfl := Option.some.inj H7
      refine ret1 (v := .bool (decide (a1 = a3))) rfl rfl (fin rfl)
    · have H8 := cnd_f hb H6; clear H6
      refine l_passed rfl rfl rfl ?_
      refine l_passed rfl rfl rfl ?_
      refine l_passed rfl rfl rfl ?_
      refine l_val rfl rfl rfl (r_pickF (v := .bool false) rfl rfl) ?_
      refine l_val rfl rfl rfl (r_assign (v := .bool false) rfl) ?_
      refine l_nil ?_
      refine c_ret ?_
      obtain rfl := Option.some.inj H8
      refine ret1 (v := .bool false) rfl rfl (fin rfl)
theorem k3 {a0 : T_api_Place} {a1 : (List UInt8)} {a2 : Int} {r : Bool} {w : World} {h : Heap} (hw : Know h w noS) (tb_pow10 : TabH Tryd.prog h "internal/strconv.uint64pow10" .u64 Lib.pow10Tab) (H : Law_WherePlaces a0 a1 a2 = some r) : Does Tryd.prog 3 (List.toArray [.agg #[.int .i64 a0.Lat, .int .i64 a0.Lon], str a1, .int .i64 a2]) w (fun v w' => v = (.bool r) ∧ Grow w w') := by
  refine enter (n := 81) Tryd.func3 rfl rfl rfl noS [] (Sat.nil _ _) ?_
  refine c_seq ?_
  refine c_region ?_
  refine l_box (cs := [.int .i64 a0.Lat, .int .i64 a0.Lon]) rfl rfl rfl rfl (fun b3 => ?_)
  refine l_val rfl rfl rfl (r_assign (v := .bool false) rfl) ?_
  refine l_nil ?_
  refine c_seq ?_
  refine c_region ?_
  refine l_loadN (i := 0) (vs := [.int .i64 a0.Lat, .int .i64 a0.Lon]) Tryd.isAgg23 Tryd.sizeOf23 rfl rfl rfl rfl rfl ?_
  obtain ⟨t20, h_t20, H29⟩ := bnd_some H; clear H
  refine l_call (k5 h_t20) Tryd.call5 rfl rfl rfl ?_
  refine l_val rfl rfl rfl (r_assign (v := .int .i64 t20) rfl) ?_
  refine l_nil ?_
  refine c_seq ?_
  refine c_region ?_
  refine l_loadN (i := 0) (vs := [.int .i64 a0.Lat, .int .i64 a0.Lon]) Tryd.isAgg23 Tryd.sizeOf23 rfl rfl rfl rfl rfl ?_
  obtain ⟨t23, h_t23, H30⟩ := bnd_some H29; clear H29
  refine l_callG (fun w hF hS => k6 (know_all w) (tb_pow10.mono (hw.now hF)) h_t23) Tryd.call6 rfl rfl rfl ?_
  refine l_val rfl rfl rfl (r_move (v := .tuple #[str t23.1, .int .i64 t23.2]) rfl) ?_
  refine l_val rfl rfl rfl (r_extract (v := str t23.1) rfl rfl) ?_
  refine l_val rfl rfl rfl (r_extract (v := .int .i64 t23.2) rfl rfl) ?_
  refine l_val rfl rfl rfl (r_assign (v := str t23.1) rfl) ?_
  refine l_val rfl rfl rfl (r_assign (v := .int .i64 t23.2) rfl) ?_
  refine l_nil ?_
  refine c_seq ?_
  refine c_region ?_
  refine l_val rfl rfl rfl (r_move (v := str a1) rfl) ?_
  obtain ⟨t28, h_t28, H31⟩ := bnd_some H30; clear H30
  refine l_call (k7 h_t28) Tryd.call7 rfl rfl rfl ?_
  refine l_val rfl rfl rfl (r_move (v := .tuple #[.agg #[.int .i64 t28.1.Lat, .int .i64 t28.1.Lon], .int .i64 t28.2]) rfl) ?_
  refine l_val rfl rfl rfl (r_extract (v := .agg #[.int .i64 t28.1.Lat, .int .i64 t28.1.Lon]) rfl rfl) ?_
  refine l_val rfl rfl rfl (r_extract (v := .int .i64 t28.2) rfl rfl) ?_
  refine l_alloc (cs := [.int .i64 0, .int .i64 0]) Tryd.zeroValue23 rfl rfl rfl (fun b4 => ?_)
  refine l_store (i := 1) (vs := [.int .i64 t28.1.Lat, .int .i64 t28.1.Lon]) (cs' := [.int .i64 t28.1.Lat, .int .i64 t28.1.Lon]) Tryd.sizeOf23 rfl rfl rfl rfl rfl rfl rfl rfl rfl ?_
  refine l_val rfl rfl rfl (r_assign (v := .int .i64 t28.2) rfl) ?_
  refine l_nil ?_
  refine c_seq ?_
  refine c_region ?_
  refine l_val rfl rfl rfl (r_move (v := str a1) rfl) ?_
  obtain ⟨t33, h_t33, H32⟩ := bnd_some H31; clear H31
  refine l_call (k8 h_t33) Tryd.call8 rfl rfl rfl ?_
  refine l_val rfl rfl rfl (r_move (v := .tuple #[.agg #[.int .i64 t33.1.Lat, .int .i64 t33.1.Lon], .int .i64 t33.2]) rfl) ?_
  refine l_val rfl rfl rfl (r_extract (v := .agg #[.int .i64 t33.1.Lat, .int .i64 t33.1.Lon]) rfl rfl) ?_
  refine l_val rfl rfl rfl (r_extract (v := .int .i64 t33.2) rfl rfl) ?_
  refine l_alloc (cs := [.int .i64 0, .int .i64 0]) Tryd.zeroValue23 rfl rfl rfl (fun b5 => ?_)
  refine l_store (i := 2) (vs := [.int .i64 t33.1.Lat, .int .i64 t33.1.Lon]) (cs' := [.int .i64 t33.1.Lat, .int .i64 t33.1.Lon]) Tryd.sizeOf23 rfl rfl rfl rfl rfl rfl rfl rfl rfl ?_
  refine l_val rfl rfl rfl (r_assign (v := .int .i64 t33.2) rfl) ?_
  refine l_nil ?_
  refine c_seq ?_
  refine c_region ?_
  refine l_val rfl rfl rfl (r_move (v := .int .i64 a2) rfl) ?_
  obtain ⟨t38, h_t38, H33⟩ := bnd_some H32; clear H32
  refine l_call (k9 h_t38) Tryd.call9 rfl rfl rfl ?_
  refine l_val rfl rfl rfl (r_move (v := .tuple #[.int .i64 t38.1, .int .i64 t38.2]) rfl) ?_
  refine l_val rfl rfl rfl (r_extract (v := .int .i64 t38.1) rfl rfl) ?_
  refine l_val rfl rfl rfl (r_extract (v := .int .i64 t38.2) rfl rfl) ?_
  refine l_val rfl rfl rfl (r_assign (v := .int .i64 t38.1) rfl) ?_
  refine l_val rfl rfl rfl (r_assign (v := .int .i64 t38.2) rfl) ?_
  refine l_nil ?_
  refine c_meet (r := r) (σ := Int) (τ := Unit) (fun s => Law_WherePlaces_j1 a0 a2 t20 t23 t28 t33 t38 s) (fun s t => [(2, .int .i64 a2), (3, .pointer (some ⟨b3, 0, none⟩)), (7, .int .i64 t20), (8, str t23.1), (9, .int .i64 t23.2), (10, .pointer (some ⟨b4, 0, none⟩)), (11, .int .i64 t28.2), (12, .pointer (some ⟨b5, 0, none⟩)), (13, .int .i64 t33.2), (14, .int .i64 t38.1), (15, .int .i64 t38.2), (16, .int .i64 s)]) (fun s t => [cellsC b3 [.int .i64 a0.Lat, .int .i64 a0.Lon] 23, cellsC b4 [.int .i64 t28.1.Lat, .int .i64 t28.1.Lon] 23, cellsC b5 [.int .i64 t33.1.Lat, .int .i64 t33.1.Lon] 23]) (fun s t => True) ?_ ?_
  · refine c_region ?_
    refine l_val rfl rfl rfl (r_move (v := .int .i64 a2) rfl) ?_
    refine l_val rfl rfl rfl (r_geq rfl rfl) ?_
    refine l_val rfl rfl rfl (r_move (v := .bool (decide ((-90000000) ≤ a2))) rfl) ?_
    refine split (fun hb => ?_) (fun hb => ?_)
    · have H53 := cnd_t hb H33; clear H33
      refine l_val rfl rfl rfl (r_move (v := .int .i64 a2) rfl) ?_
      refine l_val rfl rfl rfl (r_leq rfl rfl) ?_
      refine l_val rfl rfl rfl (r_pickT (v := .bool (decide (a2 ≤ 90000000))) rfl rfl) ?_
      obtain ⟨t47, h_t47, H54⟩ := bnd_some H53; clear H53
      refine l_call (k10 h_t47) Tryd.call10 rfl rfl rfl ?_
      refine l_val rfl rfl rfl (r_assign (v := .int .i64 t47) rfl) ?_
      refine l_nil ?_
      refine c_close t47 () 0 [0, 1, 2] (by exact ⟨rfl, rfl, rfl, rfl, rfl, rfl, rfl, rfl, rfl, rfl, rfl, rfl, trivial⟩) (by decide) rfl (by exact ⟨H54, trivial⟩) (Nat.lt_succ_self _)
    · have H55 := cnd_f hb H33; clear H33
      refine l_passed rfl rfl rfl ?_
      refine l_passed rfl rfl rfl ?_
      refine l_val rfl rfl rfl (r_pickF (v := .bool false) rfl rfl) ?_
      obtain ⟨t47_2, h_t47_2, H56⟩ := bnd_some H55; clear H55
      refine l_call (k10 h_t47_2) Tryd.call10 rfl rfl rfl ?_
      refine l_val rfl rfl rfl (r_assign (v := .int .i64 t47_2) rfl) ?_
      refine l_nil ?_
      refine c_close t47_2 () 0 [0, 1, 2] (by exact ⟨rfl, rfl, rfl, rfl, rfl, rfl, rfl, rfl, rfl, rfl, rfl, rfl, trivial⟩) (by decide) rfl (by exact ⟨H56, trivial⟩) (Nat.lt_succ_self _)
  · rintro x16 _ gg H34 _
    replace H34 : Law_WherePlaces_j1 a0 a2 t20 t23 t28 t33 t38 x16 = some r := H34
    refine c_tidyF [(2, .int .i64 a2), (3, .pointer (some ⟨b3, 0, none⟩)), (7, .int .i64 t20), (8, str t23.1), (9, .int .i64 t23.2), (10, .pointer (some ⟨b4, 0, none⟩)), (11, .int .i64 t28.2), (12, .pointer (some ⟨b5, 0, none⟩)), (13, .int .i64 t33.2), (14, .int .i64 t38.1), (15, .int .i64 t38.2), (16, .int .i64 x16)] [cellsC b3 [.int .i64 a0.Lat, .int .i64 a0.Lon] 23, cellsC b4 [.int .i64 t28.1.Lat, .int .i64 t28.1.Lon] 23, cellsC b5 [.int .i64 t33.1.Lat, .int .i64 t33.1.Lon] 23] rfl rfl ?_
    refine c_seq ?_
    refine c_region ?_
    refine l_val rfl rfl rfl (r_assign (v := .int .i64 0) rfl) ?_
    refine l_val rfl rfl rfl (r_assign (v := str []) rfl) ?_
    refine l_nil ?_
    refine c_meet (r := r) (σ := Int) (τ := Unit) (fun s => Law_WherePlaces_j2 a0 t20 t23 t28 t33 t38 x16 s) (fun s t => [(3, .pointer (some ⟨b3, 0, none⟩)), (7, .int .i64 t20), (8, str t23.1), (9, .int .i64 t23.2), (10, .pointer (some ⟨b4, 0, none⟩)), (11, .int .i64 t28.2), (12, .pointer (some ⟨b5, 0, none⟩)), (13, .int .i64 t33.2), (14, .int .i64 t38.1), (15, .int .i64 t38.2), (16, .int .i64 x16), (17, .int .i64 s), (18, str [])]) (fun s t => [cellsC b3 [.int .i64 a0.Lat, .int .i64 a0.Lon] 23, cellsC b4 [.int .i64 t28.1.Lat, .int .i64 t28.1.Lon] 23, cellsC b5 [.int .i64 t33.1.Lat, .int .i64 t33.1.Lon] 23]) (fun s t => True) ?_ ?_
    · refine c_seq ?_
      refine c_region ?_
      refine l_val rfl rfl rfl (r_move (v := .int .i64 x16) rfl) ?_
      refine l_val rfl rfl rfl (r_eql rfl rfl) ?_
      refine l_nil ?_
      refine c_if (b := (decide (x16 = 0))) rfl (fun hb => ?_) (fun hb => ?_)
      · have H50 := cnd_t hb H34; clear H34
        refine c_region ?_
        refine l_val rfl rfl rfl (r_move (v := .int .i64 a2) rfl) ?_
        obtain ⟨t51, h_t51, H51⟩ := bnd_some H50; clear H50
        refine l_call (k11 h_t51) Tryd.call11 rfl rfl rfl ?_
        refine l_val rfl rfl rfl (r_assign (v := .int .i64 t51) rfl) ?_
        refine l_nil ?_
        refine c_close t51 () 0 [0, 1, 2] (by exact ⟨rfl, rfl, rfl, rfl, rfl, rfl, rfl, rfl, rfl, rfl, rfl, rfl, rfl, trivial⟩) (by decide) rfl (by exact ⟨H51, trivial⟩) (Nat.lt_succ_self _)
      · have H52 := cnd_f hb H34; clear H34
        refine c_skip ?_
        refine c_close 0 () 0 [0, 1, 2] (by exact ⟨rfl, rfl, rfl, rfl, rfl, rfl, rfl, rfl, rfl, rfl, rfl, rfl, rfl, trivial⟩) (by decide) rfl (by exact ⟨H52, trivial⟩) (Nat.lt_succ_self _)
    · rintro x17 _ gg H35 _
      replace H35 : Law_WherePlaces_j2 a0 t20 t23 t28 t33 t38 x16 x17 = some r := H35
      refine c_tidyF [(3, .pointer (some ⟨b3, 0, none⟩)), (7, .int .i64 t20), (8, str t23.1), (9, .int .i64 t23.2), (10, .pointer (some ⟨b4, 0, none⟩)), (11, .int .i64 t28.2), (12, .pointer (some ⟨b5, 0, none⟩)), (13, .int .i64 t33.2), (14, .int .i64 t38.1), (15, .int .i64 t38.2), (16, .int .i64 x16), (17, .int .i64 x17), (18, str [])] [cellsC b3 [.int .i64 a0.Lat, .int .i64 a0.Lon] 23, cellsC b4 [.int .i64 t28.1.Lat, .int .i64 t28.1.Lon] 23, cellsC b5 [.int .i64 t33.1.Lat, .int .i64 t33.1.Lon] 23] rfl rfl ?_
      refine c_meet (r := r) (σ := (List UInt8)) (τ := Unit) (fun s => Law_WherePlaces_j3 a0 t20 t23 t28 t33 t38 x16 x17 s) (fun s t => [(3, .pointer (some ⟨b3, 0, none⟩)), (7, .int .i64 t20), (8, str t23.1), (9, .int .i64 t23.2), (10, .pointer (some ⟨b4, 0, none⟩)), (11, .int .i64 t28.2), (12, .pointer (some ⟨b5, 0, none⟩)), (13, .int .i64 t33.2), (14, .int .i64 t38.1), (15, .int .i64 t38.2), (16, .int .i64 x16), (17, .int .i64 x17), (18, str s)]) (fun s t => [cellsC b3 [.int .i64 a0.Lat, .int .i64 a0.Lon] 23, cellsC b4 [.int .i64 t28.1.Lat, .int .i64 t28.1.Lon] 23, cellsC b5 [.int .i64 t33.1.Lat, .int .i64 t33.1.Lon] 23]) (fun s t => True) ?_ ?_
      · refine c_seq ?_
        refine c_region ?_
        refine l_val rfl rfl rfl (r_move (v := .int .i64 t20) rfl) ?_
        refine l_val rfl rfl rfl (r_eql rfl rfl) ?_
        refine l_nil ?_
        refine c_if (b := (decide (t20 = 0))) rfl (fun hb => ?_) (fun hb => ?_)
        · have H47 := cnd_t hb H35; clear H35
          refine c_region ?_
          refine l_loadN (i := 0) (vs := [.int .i64 a0.Lat, .int .i64 a0.Lon]) Tryd.isAgg23 Tryd.sizeOf23 rfl rfl rfl rfl rfl ?_
          obtain ⟨t55, h_t55, H48⟩ := bnd_some H47; clear H47
          refine l_callG (fun w hF hS => k12 (know_all w) (tb_pow10.mono (hw.now hF)) h_t55) Tryd.call12 rfl rfl rfl ?_
          refine l_val rfl rfl rfl (r_assign (v := str t55) rfl) ?_
          refine l_nil ?_
          refine c_close t55 () 0 [0, 1, 2] (by exact ⟨rfl, rfl, rfl, rfl, rfl, rfl, rfl, rfl, rfl, rfl, rfl, rfl, rfl, trivial⟩) (by decide) rfl (by exact ⟨H48, trivial⟩) (Nat.lt_succ_self _)
        · have H49 := cnd_f hb H35; clear H35
          refine c_skip ?_
          refine c_close [] () 0 [0, 1, 2] (by exact ⟨rfl, rfl, rfl, rfl, rfl, rfl, rfl, rfl, rfl, rfl, rfl, rfl, rfl, trivial⟩) (by decide) rfl (by exact ⟨H49, trivial⟩) (Nat.lt_succ_self _)
      · rintro x18 _ gg H36 _
        replace H36 : Law_WherePlaces_j3 a0 t20 t23 t28 t33 t38 x16 x17 x18 = some r := H36
        refine c_tidyF [(3, .pointer (some ⟨b3, 0, none⟩)), (7, .int .i64 t20), (8, str t23.1), (9, .int .i64 t23.2), (10, .pointer (some ⟨b4, 0, none⟩)), (11, .int .i64 t28.2), (12, .pointer (some ⟨b5, 0, none⟩)), (13, .int .i64 t33.2), (14, .int .i64 t38.1), (15, .int .i64 t38.2), (16, .int .i64 x16), (17, .int .i64 x17), (18, str x18)] [cellsC b3 [.int .i64 a0.Lat, .int .i64 a0.Lon] 23, cellsC b4 [.int .i64 t28.1.Lat, .int .i64 t28.1.Lon] 23, cellsC b5 [.int .i64 t33.1.Lat, .int .i64 t33.1.Lon] 23] rfl rfl ?_
        refine c_seq ?_
        refine c_region ?_
        refine l_loadN (i := 0) (vs := [.int .i64 a0.Lat, .int .i64 a0.Lon]) Tryd.isAgg23 Tryd.sizeOf23 rfl rfl rfl rfl rfl ?_
        obtain ⟨t57, h_t57, H37⟩ := bnd_some H36; clear H36
        refine l_call (k13 h_t57) Tryd.call13 rfl rfl rfl ?_
        refine l_val rfl rfl rfl (r_move (v := .int .i64 t20) rfl) ?_
        refine l_val rfl rfl rfl (r_eql rfl rfl) ?_
        refine l_val rfl rfl rfl (r_move (v := .bool (decide (t57 = t20))) rfl) ?_
        refine split (fun hb => ?_) (fun hb => ?_)
        · have H38 := cnd_t hb H37; clear H37
          refine l_val rfl rfl rfl (r_move (v := str t23.1) rfl) ?_
          refine l_val rfl rfl rfl (r_move (v := .int .i64 t23.2) rfl) ?_
          refine l_val rfl rfl rfl (r_move (v := str x18) rfl) ?_
          refine l_val rfl rfl rfl (r_move (v := .int .i64 t20) rfl) ?_
          obtain ⟨t65, h_t65, H39⟩ := bnd_some H38; clear H38
          refine l_call (k14 h_t65) Tryd.call14 rfl rfl rfl ?_
          refine l_val rfl rfl rfl (r_pickT (v := .bool t65) rfl rfl) ?_
          refine l_val rfl rfl rfl (r_move (v := .bool t65) rfl) ?_
          refine split (fun hb => ?_) (fun hb => ?_)
          · have H40 := cnd_t hb H39; clear H39
            refine l_loadN (i := 1) (vs := [.int .i64 t28.1.Lat, .int .i64 t28.1.Lon]) Tryd.isAgg23 Tryd.sizeOf23 rfl rfl rfl rfl rfl ?_
            refine l_val rfl rfl rfl (r_move (v := .int .i64 t28.2) rfl) ?_
            refine l_loadN (i := 2) (vs := [.int .i64 t33.1.Lat, .int .i64 t33.1.Lon]) Tryd.isAgg23 Tryd.sizeOf23 rfl rfl rfl rfl rfl ?_
            refine l_val rfl rfl rfl (r_move (v := .int .i64 t33.2) rfl) ?_
            obtain ⟨t72, h_t72, H41⟩ := bnd_some H40; clear H40
            refine l_call (k15 h_t72) Tryd.call15 rfl rfl rfl ?_
            refine l_val rfl rfl rfl (r_pickT (v := .bool t72) rfl rfl) ?_
            refine l_val rfl rfl rfl (r_move (v := .bool t72) rfl) ?_
            refine split (fun hb => ?_) (fun hb => ?_)
            · have H42 := cnd_t hb H41; clear H41
              refine l_val rfl rfl rfl (r_move (v := .int .i64 t38.1) rfl) ?_
              refine l_val rfl rfl rfl (r_move (v := .int .i64 t38.2) rfl) ?_
              refine l_val rfl rfl rfl (r_move (v := .int .i64 x17) rfl) ?_
              refine l_val rfl rfl rfl (r_move (v := .int .i64 x16) rfl) ?_
              obtain ⟨t79, h_t79, H43⟩ := bnd_some H42; clear H42
              refine l_call (k16 h_t79) Tryd.call16 rfl rfl rfl ?_
              refine l_val rfl rfl rfl (r_pickT (v := .bool t79) rfl rfl) ?_
              refine l_val rfl rfl rfl (r_assign (v := .bool t79) rfl) ?_
              refine l_nil ?_
              refine c_ret ?_
              obtain rfl := Option.some.inj H43
              refine ret1 (v := .bool t79) rfl rfl (fin rfl)
            · have H44 := cnd_f hb H41; clear H41
              refine l_passed rfl rfl rfl ?_
              refine l_passed rfl rfl rfl ?_
              refine l_passed rfl rfl rfl ?_
              refine l_passed rfl rfl rfl ?_
              refine l_passed rfl rfl rfl ?_
              refine l_val rfl rfl rfl (r_pickF (v := .bool false) rfl rfl) ?_
              refine l_val rfl rfl rfl (r_assign (v := .bool false) rfl) ?_
              refine l_nil ?_
              refine c_ret ?_
              obtain rfl := Option.some.inj H44
              refine ret1 (v := .bool false) rfl rfl (fin rfl)
          · have H45 := cnd_f hb H39; clear H39
            refine l_passed rfl rfl rfl ?_
            refine l_passed rfl rfl rfl ?_
            refine l_passed rfl rfl rfl ?_
            refine l_passed rfl rfl rfl ?_
            refine l_passed rfl rfl rfl ?_
            refine l_val rfl rfl rfl (r_pickF (v := .bool false) rfl rfl) ?_
            refine l_val rfl rfl rfl (r_move (v := .bool false) rfl) ?_
            refine l_passed rfl rfl rfl ?_
            refine l_passed rfl rfl rfl ?_
            refine l_passed rfl rfl rfl ?_
            refine l_passed rfl rfl rfl ?_
            refine l_passed rfl rfl rfl ?_
            refine l_val rfl rfl rfl (r_pickF (v := .bool false) rfl rfl) ?_
            refine l_val rfl rfl rfl (r_assign (v := .bool false) rfl) ?_
            refine l_nil ?_
            refine c_ret ?_
            obtain rfl := Option.some.inj H45
            refine ret1 (v := .bool false) rfl rfl (fin rfl)
        · have H46 := cnd_f hb H37; clear H37
          refine l_passed rfl rfl rfl ?_
          refine l_passed rfl rfl rfl ?_
          refine l_passed rfl rfl rfl ?_
          refine l_passed rfl rfl rfl ?_
          refine l_passed rfl rfl rfl ?_
          refine l_val rfl rfl rfl (r_pickF (v := .bool false) rfl rfl) ?_
          refine l_val rfl rfl rfl (r_move (v := .bool false) rfl) ?_
          refine l_passed rfl rfl rfl ?_
          refine l_passed rfl rfl rfl ?_
          refine l_passed rfl rfl rfl ?_
          refine l_passed rfl rfl rfl ?_
          refine l_passed rfl rfl rfl ?_
          refine l_val rfl rfl rfl (r_pickF (v := .bool false) rfl rfl) ?_
          refine l_val rfl rfl rfl (r_move (v := .bool false) rfl) ?_
          refine l_passed rfl rfl rfl ?_
          refine l_passed rfl rfl rfl ?_
          refine l_passed rfl rfl rfl ?_
          refine l_passed rfl rfl rfl ?_
          refine l_passed rfl rfl rfl ?_
          refine l_val rfl rfl rfl (r_pickF (v := .bool false) rfl rfl) ?_
          refine l_val rfl rfl rfl (r_assign (v := .bool false) rfl) ?_
          refine l_nil ?_
          refine c_ret ?_
          obtain rfl := Option.some.inj H46
          refine ret1 (v := .bool false) rfl rfl (fin rfl)
end Go.Proofs.YtamacljplianfaaDoor
