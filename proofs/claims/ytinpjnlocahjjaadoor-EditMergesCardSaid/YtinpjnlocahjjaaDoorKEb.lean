/- Apart: the walks, printed by our generator; each follows its model. Conditions: the model yields a value. -/
import Derived.Test.YtinpjnlocahjjaaDoorKEr
namespace Go.Proofs.YtinpjnlocahjjaaDoor
open Go Go.Vc Go.Md Go.M Go.Lx
set_option maxRecDepth 100000
set_option maxHeartbeats 4000000
set_option linter.unusedVariables false

theorem k31 {a0 : T_edit_Step} {r : Bool} (H : edit_Shape a0 = some r) : Ret Tryd.prog 31 [.agg #[.int .i64 a0.Kind, .int .i64 a0.A, .int .i64 a0.B, .int .i64 a0.C, .int .i64 a0.D]] (.bool r) := by
  refine enterRet (n := 7) Tryd.func31 rfl rfl rfl (fun wd => ?_)
  refine c_seq ?_
  refine c_region ?_
  refine l_box (cs := [.int .i64 a0.Kind, .int .i64 a0.A, .int .i64 a0.B, .int .i64 a0.C, .int .i64 a0.D]) rfl rfl rfl rfl (fun b1 => ?_)
  refine l_val rfl rfl rfl (r_assign (v := .bool false) rfl) ?_
  refine l_nil ?_
  refine c_seq ?_
  refine c_region ?_
  refine l_val rfl rfl rfl (r_field Tryd.runUnderlying35 rfl Tryd.sizeOf3 rfl rfl) ?_
  refine l_load1 (i := 0) (v := .int .i64 a0.Kind) Tryd.isAgg3 rfl rfl rfl rfl rfl ?_
  obtain ⟨t5, h_t5, H2⟩ := bnd_some H; clear H
  refine l_call (k81 h_t5) Tryd.call81 rfl rfl rfl ?_
  refine l_val rfl rfl rfl (r_not rfl) ?_
  refine l_val rfl rfl rfl (r_assign (v := .bool (!t5)) rfl) ?_
  refine l_nil ?_
  refine c_ret ?_
  obtain rfl := Option.some.inj H2
  refine ret1 (v := .bool (!t5)) rfl rfl (fin rfl)
theorem k82 {a0 : (List T_edit_Step)} {v0 : Value} {a1 : (T_edit_Step → Option (Bool))} {v1 : Value} {r : Int} {w : World} {h : Heap} (hw : Know h w noS) (f0 : FrS h 5 v0 (a0.map e_edit_Step)) (f1 : FnH Tryd.prog h v1 (fnR_func_edit_Step_bool a1)) (H : slices_IndexFunc_edit_Step a0 a1 = some r) : Does Tryd.prog 82 (List.toArray [v0, v1]) w (fun v w' => v = (.int .i64 r) ∧ Grow w w') := by
  refine enter (n := 19) Tryd.func82 rfl rfl rfl noS [] (Sat.nil _ _) ?_
  refine c_seq ?_
  refine c_region ?_
  refine l_val rfl rfl rfl (r_assign (v := .int .i64 0) rfl) ?_
  refine l_nil ?_
  refine c_seq ?_
  refine c_seq ?_
  refine c_region ?_
  refine l_val rfl rfl rfl (r_move (v := v0) rfl) ?_
  refine l_val rfl rfl rfl (r_lenF Tryd.underlying22 rfl f0 rfl) ?_
  refine l_val rfl rfl rfl (r_move (v := .int .i64 0) rfl) ?_
  refine l_nil ?_
  refine c_block ?_
  refine c_fix (σ := Int) (τ := Unit) (fun next1 s => slices_IndexFunc_edit_Step_l1 a0 a1 next1 s) (fun s t => [(0, v0), (1, v1), (7, .int .i64 (a0.length : Int)), (8, .int .i64 s)]) (fun s t => []) (fun s t => True) 0 () [] H (by exact trivial) (by exact ⟨rfl, rfl, rfl, rfl, trivial⟩) (by decide) rfl ?_
  rintro x8_2 _ m1 gg H9 _
  clear H
  replace H9 : slices_IndexFunc_edit_Step_l1 a0 a1 (it (fun next1 s => slices_IndexFunc_edit_Step_l1 a0 a1 next1 s) m1) x8_2 = some r := H9
  generalize hn1 : it (fun next1 s => slices_IndexFunc_edit_Step_l1 a0 a1 next1 s) m1 = next1 at H9
  refine c_tidyF [(0, v0), (1, v1), (7, .int .i64 (a0.length : Int)), (8, .int .i64 x8_2)] [] rfl rfl ?_
  refine c_seq ?_
  refine c_region ?_
  refine l_val rfl rfl rfl (r_lss rfl rfl) ?_
  refine l_nil ?_
  refine c_seq ?_
  refine c_if (b := (decide (x8_2 < (a0.length : Int)))) rfl (fun hb => ?_) (fun hb => ?_)
  · have H10 := cnd_t hb H9; clear H9
    refine c_skip ?_
    refine c_seq ?_
    refine c_block ?_
    refine c_seq ?_
    refine c_region ?_
    refine l_val rfl rfl rfl (r_move (v := .int .i64 x8_2) rfl) ?_
    refine l_val rfl rfl rfl (r_assign (v := .int .i64 x8_2) rfl) ?_
    refine l_nil ?_
    refine c_seq ?_
    refine c_region ?_
    refine l_val rfl rfl rfl (r_move (v := v1) rfl) ?_
    refine l_val rfl rfl rfl (r_move (v := v0) rfl) ?_
    refine l_val rfl rfl rfl (r_move (v := .int .i64 x8_2) rfl) ?_
    obtain ⟨t14, h_t14, H11⟩ := bnd_some H10; clear H10
    refine l_val rfl rfl rfl (r_indexF Tryd.underlying22 Tryd.sizeOf35 rfl rfl f0 h_t14) ?_
    refine l_read (fun w hF hS => run_loadGN (f := e_edit_Step) (i := x8_2) (sz := 5) (j := 0) (vs := [.int .i64 t14.Kind, .int .i64 t14.A, .int .i64 t14.B, .int .i64 t14.C, .int .i64 t14.D]) Tryd.isAgg35 Tryd.sizeOf35 rfl rfl (f0.row (hw.now hF)) h_t14 rfl) rfl rfl rfl ?_
    obtain ⟨t16, h_t16, H12⟩ := bnd_some H11; clear H11
    refine l_callV (R := fnR_func_edit_Step_bool a1) (r := .bool t16) (v := v1) (fun w hF hS => ⟨(f1.mono (hw.now hF)), ⟨t14, _, rfl, h_t16, rfl⟩⟩) rfl rfl rfl rfl ?_
    refine l_nil ?_
    refine c_if (b := t16) rfl (fun hb => ?_) (fun hb => ?_)
    · have H13 := cnd_t hb H12; clear H12
      refine c_seq ?_
      refine c_region ?_
      refine l_val rfl rfl rfl (r_move (v := .int .i64 x8_2) rfl) ?_
      refine l_val rfl rfl rfl (r_assign (v := .int .i64 x8_2) rfl) ?_
      refine l_nil ?_
      refine c_ret ?_
      obtain rfl := Option.some.inj H13
      refine ret1 (v := .int .i64 x8_2) rfl rfl (fin rfl)
    · have H14 := cnd_f hb H12; clear H12
      refine c_skip ?_
      refine c_region ?_
      obtain ⟨t18, h_t18, H15⟩ := bnd_some H14; clear H14
      refine l_val rfl rfl rfl (r_addG rfl rfl h_t18) ?_
      refine l_val rfl rfl rfl (r_move (v := .int .i64 t18) rfl) ?_
      refine l_nil ?_
      refine c_close t18 () m1 [] (by exact ⟨rfl, rfl, rfl, rfl, trivial⟩) (by decide) rfl (by exact ⟨(by subst hn1; exact H15), trivial⟩) (Nat.lt_succ_self _)
  · have H16 := cnd_f hb H9; clear H9
    refine c_exit ?_
    refine c_seq ?_
    refine c_region ?_
    refine l_val rfl rfl rfl (r_assign (v := .int .i64 (-1)) rfl) ?_
    refine l_nil ?_
    refine c_ret ?_
    obtain rfl := Option.some.inj H16
    refine ret1 (v := .int .i64 (-1)) rfl rfl (fin rfl)
theorem k33 {a0 : (List T_edit_Step)} {v0 : Value} {a1 : (T_edit_Step → Option (Bool))} {v1 : Value} {r : Bool} {w : World} {h : Heap} (hw : Know h w noS) (f0 : FrS h 5 v0 (a0.map e_edit_Step)) (f1 : FnH Tryd.prog h v1 (fnR_func_edit_Step_bool a1)) (H : slices_ContainsFunc_edit_Step a0 a1 = some r) : Does Tryd.prog 33 (List.toArray [v0, v1]) w (fun v w' => v = (.bool r) ∧ Grow w w') := by
  refine enter (n := 9) Tryd.func33 rfl rfl rfl noS [] (Sat.nil _ _) ?_
  refine c_seq ?_
  refine c_region ?_
  refine l_val rfl rfl rfl (r_assign (v := .bool false) rfl) ?_
  refine l_nil ?_
  refine c_seq ?_
  refine c_region ?_
  refine l_val rfl rfl rfl (r_move (v := v0) rfl) ?_
  refine l_val rfl rfl rfl (r_move (v := v1) rfl) ?_
  obtain ⟨t7, h_t7, H2⟩ := bnd_some H; clear H
  refine l_callG (fun w hF hS => k82 (know_all w) (f0.mono (hw.now hF)) (f1.mono (hw.now hF)) h_t7) Tryd.call82 rfl rfl rfl ?_
  refine l_val rfl rfl rfl (r_geq rfl rfl) ?_
  refine l_val rfl rfl rfl (r_assign (v := .bool (decide (0 ≤ t7))) rfl) ?_
  refine l_nil ?_
  refine c_ret ?_
  obtain rfl := Option.some.inj H2
  refine ret1 (v := .bool (decide (0 ≤ t7))) rfl rfl (fin rfl)
theorem k60 {a : Option Addr} {n c : Nat} (hc : n ≤ c) : Ret Tryd.prog 60 [.slice a n c] (.slice (cutA a 0 n 5) n n) := by
  refine enterRet (n := 9) Tryd.func60 rfl rfl rfl (fun wd => ?_)
  refine c_seq ?_
  refine c_region ?_
  refine l_val rfl rfl rfl (r_assign (v := .slice none 0 0) rfl) ?_
  refine l_nil ?_
  refine c_seq ?_
  refine c_region ?_
  refine l_val rfl rfl rfl (r_move (v := .slice a n c) rfl) ?_
  refine l_val rfl rfl rfl (r_move (v := .slice a n c) rfl) ?_
  refine l_val rfl rfl rfl (r_len Tryd.underlying22 rfl) ?_
  refine l_val rfl rfl rfl (r_move (v := .slice a n c) rfl) ?_
  refine l_val rfl rfl rfl (r_len Tryd.underlying22 rfl) ?_
  refine l_val rfl rfl rfl (r_sliceHM (a := a) (m := n) (c := c) (h := (n : Int)) (q := (n : Int)) Tryd.underlying22 Tryd.sizeOf35 rfl rfl rfl (Int.natCast_nonneg n) (Int.le_refl _) (Int.ofNat_le.2 hc)) ?_
  refine l_val rfl rfl rfl (r_assign (v := .slice (cutA a 0 n 5) n n) rfl) ?_
  refine l_nil ?_
  refine c_ret ?_
  exact ret1 (v := .slice (cutA a 0 n 5) n n) rfl rfl (fin rfl)

theorem k59 {a0 : (List T_edit_Step)} {v0 : Value} {r : (List T_edit_Step) × (List T_edit_Step)} {w : World} {h : Heap} (hw : Know h w noS) (f0 : FrS h 5 v0 (a0.map e_edit_Step)) (H : edit_apart a0 = some r) : Does Tryd.prog 59 (List.toArray [v0]) w (fun v w' => ∃ x : (Option Addr × Nat) × (Option Addr × Nat), v = (.tuple #[.slice x.1.1 r.1.length x.1.2, .slice x.2.1 r.2.length x.2.2]) ∧ Turn w w' noS (bothC (roV 5 (.slice x.1.1 r.1.length x.1.2) r.1.length (r.1.map e_edit_Step)) (roV 5 (.slice x.2.1 r.2.length x.2.2) r.2.length (r.2.map e_edit_Step)))) := by
  refine enter (n := 27) Tryd.func59 rfl rfl rfl noS [] (Sat.nil _ _) ?_
  refine c_seq ?_
  refine c_region ?_
  refine l_val rfl rfl rfl (r_assign (v := .slice none 0 0) rfl) ?_
  refine l_val rfl rfl rfl (r_assign (v := .slice none 0 0) rfl) ?_
  refine l_nil ?_
  refine c_meet (r := r) (σ := (List T_edit_Step) × (List T_edit_Step)) (τ := (Option Addr × Nat) × (Option Addr × Nat)) (fun s => edit_apart_j1 s.1 s.2) (fun s t => [(2, .slice t.1.1 s.1.length t.1.2), (3, .slice t.2.1 s.2.length t.2.2)]) (fun s t => [rowV 35 5 (.slice t.1.1 s.1.length t.1.2) s.1.length (s.1.map e_edit_Step), rowV 35 5 (.slice t.2.1 s.2.length t.2.2) s.2.length (s.2.map e_edit_Step)]) (fun s t => True) ?_ ?_
  · refine c_seq ?_
    refine c_region ?_
    refine l_val rfl rfl rfl (r_move (v := v0) rfl) ?_
    refine l_val rfl rfl rfl (r_lenF Tryd.underlying22 rfl f0 rfl) ?_
    refine l_val rfl rfl rfl (r_move (v := .int .i64 0) rfl) ?_
    refine l_nil ?_
    refine c_block ?_
    refine c_nilRow 35 5 ?_
    refine c_nilRow 35 5 ?_
    refine c_fix (σ := Int × (List T_edit_Step) × (List T_edit_Step)) (τ := (Option Addr × Nat) × (Option Addr × Nat)) (fun next2 s => edit_apart_l2 a0 next2 s.1 s.2.1 s.2.2) (fun s t => [(2, .slice t.1.1 s.2.1.length t.1.2), (3, .slice t.2.1 s.2.2.length t.2.2), (6, v0), (7, .int .i64 (a0.length : Int)), (8, .int .i64 s.1)]) (fun s t => [rowV 35 5 (.slice t.1.1 s.2.1.length t.1.2) s.2.1.length (s.2.1.map e_edit_Step), rowV 35 5 (.slice t.2.1 s.2.2.length t.2.2) s.2.2.length (s.2.2.map e_edit_Step)]) (fun s t => True) (0, ([] : List T_edit_Step), ([] : List T_edit_Step)) (((none, 0) : Option Addr × Nat), ((none, 0) : Option Addr × Nat)) [0, 1] H (by exact trivial) (by exact ⟨rfl, rfl, rfl, rfl, rfl, trivial⟩) (by decide) rfl ?_
    rintro ⟨x8_2, l_5, l_6⟩ ⟨p_3, p_4⟩ m2 gg H26 _
    clear H
    replace H26 : edit_apart_l2 a0 (it (fun next2 s => edit_apart_l2 a0 next2 s.1 s.2.1 s.2.2) m2) x8_2 l_5 l_6 = some r := H26
    generalize hn2 : it (fun next2 s => edit_apart_l2 a0 next2 s.1 s.2.1 s.2.2) m2 = next2 at H26
    refine c_tidyF [(2, .slice p_3.1 l_5.length p_3.2), (3, .slice p_4.1 l_6.length p_4.2), (6, v0), (7, .int .i64 (a0.length : Int)), (8, .int .i64 x8_2)] [rowV 35 5 (.slice p_3.1 l_5.length p_3.2) l_5.length (l_5.map e_edit_Step), rowV 35 5 (.slice p_4.1 l_6.length p_4.2) l_6.length (l_6.map e_edit_Step)] rfl rfl ?_
    refine c_seq ?_
    refine c_region ?_
    refine l_val rfl rfl rfl (r_lss rfl rfl) ?_
    refine l_nil ?_
    refine c_seq ?_
    refine c_if (b := (decide (x8_2 < (a0.length : Int)))) rfl (fun hb => ?_) (fun hb => ?_)
    · have H27 := cnd_t hb H26; clear H26
      refine c_skip ?_
      refine c_meet (r := r) (σ := (List T_edit_Step) × (List T_edit_Step)) (τ := (Option Addr × Nat) × (Option Addr × Nat)) (fun s => edit_apart_j3 x8_2 next2 s.1 s.2) (fun s t => [(2, .slice t.1.1 s.1.length t.1.2), (3, .slice t.2.1 s.2.length t.2.2), (6, v0), (7, .int .i64 (a0.length : Int)), (8, .int .i64 x8_2)]) (fun s t => [rowV 35 5 (.slice t.1.1 s.1.length t.1.2) s.1.length (s.1.map e_edit_Step), rowV 35 5 (.slice t.2.1 s.2.length t.2.2) s.2.length (s.2.map e_edit_Step)]) (fun s t => True) ?_ ?_
      · refine c_block ?_
        refine c_seq ?_
        refine c_region ?_
        obtain ⟨t10, h_t10, H30⟩ := bnd_some H27; clear H27
        refine l_val rfl rfl rfl (r_indexF Tryd.underlying22 Tryd.sizeOf35 rfl rfl f0 h_t10) ?_
        refine l_read (fun w hF hS => run_loadGN (f := e_edit_Step) (i := x8_2) (sz := 5) (j := 0) (vs := [.int .i64 t10.Kind, .int .i64 t10.A, .int .i64 t10.B, .int .i64 t10.C, .int .i64 t10.D]) Tryd.isAgg35 Tryd.sizeOf35 rfl rfl (f0.row (hw.now hF)) h_t10 rfl) rfl rfl rfl ?_
        refine l_alloc (cs := [.int .i64 0, .int .i64 0, .int .i64 0, .int .i64 0, .int .i64 0]) Tryd.zeroValue35 rfl rfl rfl (fun b6 => ?_)
        refine l_store (i := 2) (vs := [.int .i64 t10.Kind, .int .i64 t10.A, .int .i64 t10.B, .int .i64 t10.C, .int .i64 t10.D]) (cs' := [.int .i64 t10.Kind, .int .i64 t10.A, .int .i64 t10.B, .int .i64 t10.C, .int .i64 t10.D]) Tryd.sizeOf35 rfl rfl rfl rfl rfl rfl rfl rfl rfl ?_
        refine l_nil ?_
        refine c_seq ?_
        refine c_region ?_
        refine l_loadN (i := 2) (vs := [.int .i64 t10.Kind, .int .i64 t10.A, .int .i64 t10.B, .int .i64 t10.C, .int .i64 t10.D]) Tryd.isAgg35 Tryd.sizeOf35 rfl rfl rfl rfl rfl ?_
        obtain ⟨t13, h_t13, H31⟩ := bnd_some H30; clear H30
        refine l_call (k31 h_t13) Tryd.call31 rfl rfl rfl ?_
        refine l_nil ?_
        refine c_if (b := t13) rfl (fun hb => ?_) (fun hb => ?_)
        · have H32 := cnd_t hb H31; clear H31
          refine c_region ?_
          refine l_val rfl rfl rfl (r_move (v := .slice p_3.1 l_5.length p_3.2) rfl) ?_
          refine l_loadN (i := 2) (vs := [.int .i64 t10.Kind, .int .i64 t10.A, .int .i64 t10.B, .int .i64 t10.C, .int .i64 t10.D]) Tryd.isAgg35 Tryd.sizeOf35 rfl rfl rfl rfl rfl ?_
          refine l_buildSlice (vs := [.agg #[.int .i64 t10.Kind, .int .i64 t10.A, .int .i64 t10.B, .int .i64 t10.C, .int .i64 t10.D]]) (cs := [.int .i64 t10.Kind, .int .i64 t10.A, .int .i64 t10.B, .int .i64 t10.C, .int .i64 t10.D]) Tryd.underlying22 Tryd.sizeOf35 Tryd.zeroValue35 rfl rfl rfl rfl rfl rfl rfl (fun b7 => ?_)
          obtain ⟨l17, h_l17, H33⟩ := bnd_some H32; clear H32
          refine l_turn (turns_appG (i := 0) (hn := rfl) (rds := [3]) (p := p_3) (sz := 5) (by_ := 40) (f := e_edit_Step) (ys := l_5) (ls := ([t10] : List T_edit_Step)) (V := .slice (some ⟨b7, 0, none⟩) 1 1) Tryd.underlying22 (info_of Tryd.typeInfo35) rfl rfl rfl rfl rfl rfl rfl rfl rfl rfl (fun w L' hF hS hi => row_box (i := 3) hS ((hi 3 (by simp)).trans rfl) rfl rfl) (fun _ => rfl) (fun _ => rfl) h_l17) rfl rfl rfl (fun p_7 => ?_)
          refine l_val rfl rfl rfl (r_assign (v := .slice p_7.1 l17.length p_7.2) rfl) ?_
          refine l_nil ?_
          refine c_close (l17, l_6) (p_7, p_4) 0 [0, 1] (by exact ⟨rfl, rfl, rfl, rfl, rfl, trivial⟩) (by decide) rfl (by exact ⟨H33, trivial⟩) (Nat.lt_succ_self _)
        · have H34 := cnd_f hb H31; clear H31
          refine c_region ?_
          refine l_val rfl rfl rfl (r_move (v := .slice p_4.1 l_6.length p_4.2) rfl) ?_
          refine l_loadN (i := 2) (vs := [.int .i64 t10.Kind, .int .i64 t10.A, .int .i64 t10.B, .int .i64 t10.C, .int .i64 t10.D]) Tryd.isAgg35 Tryd.sizeOf35 rfl rfl rfl rfl rfl ?_
          refine l_buildSlice (vs := [.agg #[.int .i64 t10.Kind, .int .i64 t10.A, .int .i64 t10.B, .int .i64 t10.C, .int .i64 t10.D]]) (cs := [.int .i64 t10.Kind, .int .i64 t10.A, .int .i64 t10.B, .int .i64 t10.C, .int .i64 t10.D]) Tryd.underlying22 Tryd.sizeOf35 Tryd.zeroValue35 rfl rfl rfl rfl rfl rfl rfl (fun b8 => ?_)
          obtain ⟨l21, h_l21, H35⟩ := bnd_some H34; clear H34
          refine l_turn (turns_appG (i := 1) (hn := rfl) (rds := [3]) (p := p_4) (sz := 5) (by_ := 40) (f := e_edit_Step) (ys := l_6) (ls := ([t10] : List T_edit_Step)) (V := .slice (some ⟨b8, 0, none⟩) 1 1) Tryd.underlying22 (info_of Tryd.typeInfo35) rfl rfl rfl rfl rfl rfl rfl rfl rfl rfl (fun w L' hF hS hi => row_box (i := 3) hS ((hi 3 (by simp)).trans rfl) rfl rfl) (fun _ => rfl) (fun _ => rfl) h_l21) rfl rfl rfl (fun p_8 => ?_)
          refine l_val rfl rfl rfl (r_assign (v := .slice p_8.1 l21.length p_8.2) rfl) ?_
          refine l_nil ?_
          refine c_close (l_5, l21) (p_3, p_8) 0 [0, 1] (by exact ⟨rfl, rfl, rfl, rfl, rfl, trivial⟩) (by decide) rfl (by exact ⟨H35, trivial⟩) (Nat.lt_succ_self _)
      · rintro ⟨l_7, l_8⟩ ⟨p_5, p_6⟩ gg H28 _
        replace H28 : edit_apart_j3 x8_2 next2 l_7 l_8 = some r := H28
        refine c_tidyF [(2, .slice p_5.1 l_7.length p_5.2), (3, .slice p_6.1 l_8.length p_6.2), (6, v0), (7, .int .i64 (a0.length : Int)), (8, .int .i64 x8_2)] [rowV 35 5 (.slice p_5.1 l_7.length p_5.2) l_7.length (l_7.map e_edit_Step), rowV 35 5 (.slice p_6.1 l_8.length p_6.2) l_8.length (l_8.map e_edit_Step)] rfl rfl ?_
        refine c_region ?_
        obtain ⟨t22, h_t22, H29⟩ := bnd_some H28; clear H28
        refine l_val rfl rfl rfl (r_addG rfl rfl h_t22) ?_
        refine l_val rfl rfl rfl (r_move (v := .int .i64 t22) rfl) ?_
        refine l_nil ?_
        refine c_close (t22, l_7, l_8) (p_5, p_6) m2 [0, 1] (by exact ⟨rfl, rfl, rfl, rfl, rfl, trivial⟩) (by decide) rfl (by exact ⟨(by subst hn2; exact H29), trivial⟩) (Nat.lt_succ_self _)
    · have H36 := cnd_f hb H26; clear H26
      refine c_exit ?_
      refine c_close (l_5, l_6) (p_3, p_4) 0 [0, 1] (by exact ⟨rfl, rfl, trivial⟩) (by decide) rfl (by exact ⟨H36, trivial⟩) (Nat.lt_succ_self _)
  · rintro ⟨l, l_2⟩ ⟨p, p_2⟩ gg H25 _
    replace H25 : edit_apart_j1 l l_2 = some r := H25
    refine c_tidyF [(2, .slice p.1 l.length p.2), (3, .slice p_2.1 l_2.length p_2.2)] [rowV 35 5 (.slice p.1 l.length p.2) l.length (l.map e_edit_Step), rowV 35 5 (.slice p_2.1 l_2.length p_2.2) l_2.length (l_2.map e_edit_Step)] rfl rfl ?_
    refine c_seq ?_
    refine c_region ?_
    refine l_val rfl rfl rfl (r_move (v := .slice p.1 l.length p.2) rfl) ?_
    refine l_callG (fun w hF hS => k60 (capOf (i := 0) hS rfl) w) Tryd.call60 rfl rfl rfl ?_
    refine l_val rfl rfl rfl (r_move (v := .slice p_2.1 l_2.length p_2.2) rfl) ?_
    refine l_callG (fun w hF hS => k60 (capOf (i := 1) hS rfl) w) Tryd.call60 rfl rfl rfl ?_
    refine l_val rfl rfl rfl (r_assign (v := .slice (cutA p.1 0 l.length 5) l.length l.length) rfl) ?_
    refine l_val rfl rfl rfl (r_assign (v := .slice (cutA p_2.1 0 l_2.length 5) l_2.length l_2.length) rfl) ?_
    refine l_nil ?_
    refine c_ret ?_
    obtain rfl := Option.some.inj H25
    refine c_imp 0 rfl (imp_clipO _ _ _ _ _ _) ?_
    refine c_imp 1 rfl (imp_clipO _ _ _ _ _ _) ?_
    refine c_both 0 1 rfl rfl (by decide) ?_
    refine ret2 (v1 := .slice (cutA p.1 0 l.length 5) l.length l.length) (v2 := .slice (cutA p_2.1 0 l_2.length 5) l_2.length l_2.length) rfl rfl rfl (finX ((cutA p.1 0 l.length 5, l.length), (cutA p_2.1 0 l_2.length 5, l_2.length)) (i := 0) rfl rfl (Imp.refl _))
theorem k32 {a0 : (List T_edit_Step)} {v0 : Value} {r : (List T_edit_Step) × (List T_edit_Step) × Int} {w : World} {h : Heap} (hw : Know h w noS) (f0 : FrS h 5 v0 (a0.map e_edit_Step)) (H : edit_Apart a0 = some r) : Does Tryd.prog 32 (List.toArray [v0]) w (fun v w' => ∃ x : (Option Addr × Nat) × (Option Addr × Nat), v = (.tuple #[.slice x.1.1 r.1.length x.1.2, .slice x.2.1 r.2.1.length x.2.2, .int .i64 r.2.2]) ∧ Turn w w' noS (bothC (roV 5 (.slice x.1.1 r.1.length x.1.2) r.1.length (r.1.map e_edit_Step)) (roV 5 (.slice x.2.1 r.2.1.length x.2.2) r.2.1.length (r.2.1.map e_edit_Step)))) := by
  refine enter (n := 18) Tryd.func32 rfl rfl rfl noS [] (Sat.nil _ _) ?_
  refine c_seq ?_
  refine c_region ?_
  refine l_val rfl rfl rfl (r_assign (v := .slice none 0 0) rfl) ?_
  refine l_val rfl rfl rfl (r_assign (v := .slice none 0 0) rfl) ?_
  refine l_val rfl rfl rfl (r_assign (v := .int .i64 0) rfl) ?_
  refine l_nil ?_
  refine c_seq ?_
  refine c_seq ?_
  refine c_region ?_
  refine l_val rfl rfl rfl (r_move (v := v0) rfl) ?_
  obtain ⟨t7, h_t7, H9⟩ := bnd_some H; clear H
  refine l_callG (fun w hF hS => k73 (know_all w) (f0.mono (hw.now hF)) h_t7) Tryd.call73 rfl rfl rfl ?_
  refine l_val rfl rfl rfl (r_assign (v := .int .i64 t7) rfl) ?_
  refine l_nil ?_
  refine c_seq ?_
  refine c_region ?_
  refine l_val rfl rfl rfl (r_move (v := .int .i64 t7) rfl) ?_
  refine l_val rfl rfl rfl (r_neq rfl rfl) ?_
  refine l_nil ?_
  refine c_if (b := (decide (t7 ≠ 0))) rfl (fun hb => ?_) (fun hb => ?_)
  · have H10 := cnd_t hb H9; clear H9
    refine c_seq ?_
    refine c_region ?_
    refine l_val rfl rfl rfl (r_move (v := .int .i64 t7) rfl) ?_
    refine l_val rfl rfl rfl (r_assign (v := .slice none 0 0) rfl) ?_
    refine l_val rfl rfl rfl (r_assign (v := .slice none 0 0) rfl) ?_
    refine l_val rfl rfl rfl (r_assign (v := .int .i64 t7) rfl) ?_
    refine l_nil ?_
    refine c_ret ?_
    refine c_nilRow 35 5 ?_
    refine c_nilRow 35 5 ?_
    obtain rfl := Option.some.inj H10
    refine c_imp 0 rfl (row_ro _ _ _ _ _) ?_
    refine c_imp 1 rfl (row_ro _ _ _ _ _) ?_
    refine c_both 0 1 rfl rfl (by decide) ?_
    refine ret3 (v1 := .slice ((none, 0) : Option Addr × Nat).1 ([] : List T_edit_Step).length ((none, 0) : Option Addr × Nat).2) (v2 := .slice ((none, 0) : Option Addr × Nat).1 ([] : List T_edit_Step).length ((none, 0) : Option Addr × Nat).2) (v3 := .int .i64 t7) rfl rfl rfl rfl (finX (((none, 0) : Option Addr × Nat), ((none, 0) : Option Addr × Nat)) (i := 0) rfl rfl (Imp.refl _))
  · have H11 := cnd_f hb H9; clear H9
    refine c_skip ?_
    refine c_seq ?_
    refine c_region ?_
    refine l_val rfl rfl rfl (r_move (v := v0) rfl) ?_
    obtain ⟨t13, h_t13, H12⟩ := bnd_some H11; clear H11
    refine l_make (makes_call (rds := []) (G := fun x : (Option Addr × Nat) × (Option Addr × Nat) => .tuple #[.slice x.1.1 t13.1.length x.1.2, .slice x.2.1 t13.2.length x.2.2]) (C := fun x : (Option Addr × Nat) × (Option Addr × Nat) => bothC (roV 5 (.slice x.1.1 t13.1.length x.1.2) t13.1.length (t13.1.map e_edit_Step)) (roV 5 (.slice x.2.1 t13.2.length x.2.2) t13.2.length (t13.2.map e_edit_Step))) (fun w L' hF hS hi => k59 (know_all w) (f0.mono (hw.now hF)) h_t13) Tryd.call59 rfl) rfl rfl rfl (fun ⟨p, p_2⟩ => ?_)
    refine c_split 0 rfl ?_
    refine l_val rfl rfl rfl (r_move (v := .tuple #[.slice p.1 t13.1.length p.2, .slice p_2.1 t13.2.length p_2.2]) rfl) ?_
    refine l_val rfl rfl rfl (r_extract (v := .slice p.1 t13.1.length p.2) rfl rfl) ?_
    refine l_val rfl rfl rfl (r_extract (v := .slice p_2.1 t13.2.length p_2.2) rfl rfl) ?_
    refine l_val rfl rfl rfl (r_assign (v := .slice p.1 t13.1.length p.2) rfl) ?_
    refine l_val rfl rfl rfl (r_assign (v := .slice p_2.1 t13.2.length p_2.2) rfl) ?_
    refine l_nil ?_
    refine c_seq ?_
    refine c_region ?_
    refine l_val rfl rfl rfl (r_move (v := .slice p.1 t13.1.length p.2) rfl) ?_
    refine l_val rfl rfl rfl (r_move (v := .slice p_2.1 t13.2.length p_2.2) rfl) ?_
    refine l_val rfl rfl rfl (r_assign (v := .slice p.1 t13.1.length p.2) rfl) ?_
    refine l_val rfl rfl rfl (r_assign (v := .slice p_2.1 t13.2.length p_2.2) rfl) ?_
    refine l_val rfl rfl rfl (r_assign (v := .int .i64 0) rfl) ?_
    refine l_nil ?_
    refine c_ret ?_
    obtain rfl := Option.some.inj H12
    refine c_both 0 1 rfl rfl (by decide) ?_
    refine ret3 (v1 := .slice p.1 t13.1.length p.2) (v2 := .slice p_2.1 t13.2.length p_2.2) (v3 := .int .i64 0) rfl rfl rfl rfl (finX (p, p_2) (i := 0) rfl rfl (Imp.refl _))
end Go.Proofs.YtinpjnlocahjjaaDoor
