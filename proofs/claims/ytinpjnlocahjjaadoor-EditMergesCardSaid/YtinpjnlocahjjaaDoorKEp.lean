/- EditApart: the walks, printed by our generator; each follows its model. Conditions: the model yields a value. -/
import Derived.Test.YtinpjnlocahjjaaDoorKEb
namespace Go.Proofs.YtinpjnlocahjjaaDoor
open Go Go.Vc Go.Md Go.M Go.Lx
set_option maxRecDepth 100000
set_option maxHeartbeats 4000000
set_option linter.unusedVariables false

theorem k64 {n : Int} {u : Unit} (hg : gGrow 40 n = some u) (w : World) : Does Tryd.prog 64 (List.toArray [.slice none 0 0, .int .i64 n]) w (fun v w' => ∃ p : Option Addr × Nat, v = .slice p.1 0 p.2 ∧ Turn w w' noS (rowV 35 5 (.slice p.1 0 p.2) 0 [])) := by
  obtain ⟨h0, h1, h2⟩ := gGrow_some hg
  obtain ⟨m, rfl⟩ : ∃ m : Nat, n = (m : Int) := ⟨n.toNat, (Int.toNat_of_nonneg h0).symm⟩
  rw [Int.toNat_natCast] at h2
  refine enter (n := 27) Tryd.func64 rfl rfl rfl noS [] (Sat.nil _ _) ?_
  refine c_seq ?_
  refine c_region ?_
  refine l_val rfl rfl rfl (r_assign (v := .slice none 0 0) rfl) ?_
  refine l_nil ?_
  refine c_seq ?_
  refine c_seq ?_
  refine c_region ?_
  refine l_val rfl rfl rfl (r_move (v := .int .i64 (m : Int)) rfl) ?_
  refine l_val rfl rfl rfl (r_decF (r_lss rfl rfl) (by omega)) ?_
  refine l_nil ?_
  refine c_false rfl ?_
  refine c_skip ?_
  refine c_seq ?_
  refine c_seq ?_
  refine c_region ?_
  refine l_val rfl rfl rfl (r_move (v := .int .i64 (m : Int)) rfl) ?_
  refine l_val rfl rfl rfl (r_move (v := .slice none 0 0) rfl) ?_
  refine l_val rfl rfl rfl (r_cap (c := 0) Tryd.underlying22 rfl) ?_
  refine l_val rfl rfl rfl (r_move (v := .slice none 0 0) rfl) ?_
  refine l_val rfl rfl rfl (r_len (m := 0) Tryd.underlying22 rfl) ?_
  refine l_val rfl rfl rfl (r_subG (z := 0) rfl rfl (by decide)) ?_
  refine l_val rfl rfl rfl (r_subG (z := (m : Int)) rfl rfl (by rw [Int.sub_zero]; exact gI_ok (by omega))) ?_
  refine l_val rfl rfl rfl (r_assign (v := .int .i64 (m : Int)) rfl) ?_
  refine l_nil ?_
  refine c_seq ?_
  refine c_region ?_
  refine l_val rfl rfl rfl (r_move (v := .int .i64 (m : Int)) rfl) ?_
  rcases Nat.eq_zero_or_pos m with hm | hm
  · refine l_val rfl rfl rfl (r_decF (r_gtr rfl rfl) (by omega)) ?_
    refine l_nil ?_
    refine c_false rfl ?_
    refine c_skip ?_
    refine c_seq ?_
    refine c_region ?_
    refine l_val rfl rfl rfl (r_move (v := .slice none 0 0) rfl) ?_
    refine l_val rfl rfl rfl (r_assign (v := .slice none 0 0) rfl) ?_
    refine l_nil ?_
    refine c_ret ?_
    refine c_nilRow 35 5 ?_
    exact ret1 (v := .slice none 0 0) rfl rfl (finX ((none, 0) : Option Addr × Nat) (i := 0) rfl rfl (Imp.refl _))
  · refine l_val rfl rfl rfl (r_decT (r_gtr rfl rfl) (by omega)) ?_
    refine l_nil ?_
    refine c_true rfl ?_
    refine c_region ?_
    refine l_val rfl rfl rfl (r_move (v := .slice none 0 0) rfl) ?_
    refine l_val rfl rfl rfl (r_move (v := .slice none 0 0) rfl) ?_
    refine l_val rfl rfl rfl (r_cap (c := 0) Tryd.underlying22 rfl) ?_
    refine l_val rfl rfl rfl (r_sliceH (a := none) (m := 0) (c := 0) (h := 0) Tryd.underlying22 Tryd.sizeOf35 rfl rfl (by decide) (by decide)) ?_
    refine l_val rfl rfl rfl (r_move (v := .int .i64 (m : Int)) rfl) ?_
    refine l_make (rds := []) (makes_zeros (E := 35) (sz := 5) (by_ := 40) (m := m) Tryd.underlying22 Tryd.underlying3 (info_of Tryd.typeInfo35) rfl rfl rfl rfl rfl rfl rfl hm (by omega) h2) rfl rfl rfl (fun ⟨g0, c0⟩ => ?_)
    refine l_val rfl rfl rfl (r_move (v := .slice none 0 0) rfl) ?_
    refine l_val rfl rfl rfl (r_len (m := 0) Tryd.underlying22 rfl) ?_
    refine l_val rfl rfl rfl (r_sliceH0 (g0 := g0) (c := c0) Tryd.underlying22 Tryd.sizeOf35 rfl rfl) ?_
    refine l_val rfl rfl rfl (r_assign (v := .slice (some ⟨g0, 0, none⟩) 0 c0) rfl) ?_
    refine l_nil ?_
    refine c_seq ?_
    refine c_region ?_
    refine l_val rfl rfl rfl (r_move (v := .slice (some ⟨g0, 0, none⟩) 0 c0) rfl) ?_
    refine l_val rfl rfl rfl (r_assign (v := .slice (some ⟨g0, 0, none⟩) 0 c0) rfl) ?_
    refine l_nil ?_
    refine c_ret ?_
    exact ret1 (v := .slice (some ⟨g0, 0, none⟩) 0 c0) rfl rfl (finX ((some ⟨g0, 0, none⟩, c0) : Option Addr × Nat) (i := 0) rfl rfl (Imp.refl _))

theorem k16 {a0 : (List (List T_edit_Step))} {v0 : Value} {r : (List T_edit_Step)} {w : World} {h : Heap} (hw : Know h w noS) (f0 : FrN h 1 v0 gs_edit_Step a0) (H : slices_Concat_edit_Step a0 = some r) : Does Tryd.prog 16 (List.toArray [v0]) w (fun v w' => ∃ x : (Option Addr × Nat), v = (.slice x.1 r.length x.2) ∧ Turn w w' noS (rowV 35 5 (.slice x.1 r.length x.2) r.length (r.map e_edit_Step))) := by
  refine enter (n := 36) Tryd.func16 rfl rfl rfl noS [] (Sat.nil _ _) ?_
  refine c_seq ?_
  refine c_region ?_
  refine l_val rfl rfl rfl (r_assign (v := .slice none 0 0) rfl) ?_
  refine l_nil ?_
  refine c_seq ?_
  refine c_region ?_
  refine l_val rfl rfl rfl (r_assign (v := .int .i64 0) rfl) ?_
  refine l_nil ?_
  refine c_meet (r := r) (σ := Int) (τ := Unit) (fun s => slices_Concat_edit_Step_j1 a0 s) (fun s t => [(0, v0), (3, .int .i64 s)]) (fun s t => []) (fun s t => True) ?_ ?_
  · refine c_seq ?_
    refine c_region ?_
    refine l_val rfl rfl rfl (r_move (v := v0) rfl) ?_
    refine l_val rfl rfl rfl (r_lenFN Tryd.underlying48 rfl f0) ?_
    refine l_val rfl rfl rfl (r_move (v := .int .i64 0) rfl) ?_
    refine l_nil ?_
    refine c_block ?_
    refine c_fix (σ := Int × Int) (τ := Unit) (fun next3 s => slices_Concat_edit_Step_l3 a0 next3 s.1 s.2) (fun s t => [(0, v0), (3, .int .i64 s.1), (9, v0), (10, .int .i64 (a0.length : Int)), (11, .int .i64 s.2)]) (fun s t => []) (fun s t => True) (0, 0) () [] H (by exact trivial) (by exact ⟨rfl, rfl, rfl, rfl, rfl, trivial⟩) (by decide) rfl ?_
    rintro ⟨x3_3, x11_2⟩ _ m3 gg H25 _
    clear H
    replace H25 : slices_Concat_edit_Step_l3 a0 (it (fun next3 s => slices_Concat_edit_Step_l3 a0 next3 s.1 s.2) m3) x3_3 x11_2 = some r := H25
    generalize hn3 : it (fun next3 s => slices_Concat_edit_Step_l3 a0 next3 s.1 s.2) m3 = next3 at H25
    refine c_tidyF [(0, v0), (3, .int .i64 x3_3), (9, v0), (10, .int .i64 (a0.length : Int)), (11, .int .i64 x11_2)] [] rfl rfl ?_
    refine c_seq ?_
    refine c_region ?_
    refine l_val rfl rfl rfl (r_lss rfl rfl) ?_
    refine l_nil ?_
    refine c_seq ?_
    refine c_if (b := (decide (x11_2 < (a0.length : Int)))) rfl (fun hb => ?_) (fun hb => ?_)
    · have H26 := cnd_t hb H25; clear H25
      refine c_skip ?_
      refine c_seq ?_
      refine c_block ?_
      refine c_seq ?_
      refine c_region ?_
      obtain ⟨t13, h_t13, H27⟩ := bnd_some H26; clear H26
      refine l_val rfl rfl rfl (r_indexF Tryd.underlying48 Tryd.sizeOf22 rfl rfl f0.frs (f0.ix h_t13)) ?_
      refine l_read (fun w hF hS => run_loadG1 (f := (elC h v0 1)) (i := x11_2) (sz := 1) (j := 0) (v := (elH h v0 1 (Int.toNat x11_2) 0)) Tryd.isAgg22 rfl rfl (f0.frs.row (hw.now hF)) (f0.ix h_t13) (rg_of (cgs_edit_Step (f0.at h_t13)) rfl)) rfl rfl rfl ?_
      refine l_val rfl rfl rfl (r_assign (v := (elH h v0 1 (Int.toNat x11_2) 0)) rfl) ?_
      refine l_nil ?_
      refine c_seq ?_
      refine c_region ?_
      refine l_val rfl rfl rfl (r_move (v := .int .i64 x3_3) rfl) ?_
      refine l_val rfl rfl rfl (r_move (v := (elH h v0 1 (Int.toNat x11_2) 0)) rfl) ?_
      refine l_val rfl rfl rfl (r_lenF Tryd.underlying22 rfl (show FrS h 5 (elH h v0 1 (Int.toNat x11_2) 0) (t13.map e_edit_Step) from (f0.at h_t13)) rfl) ?_
      obtain ⟨t18, h_t18, H28⟩ := bnd_some H27; clear H27
      refine l_val rfl rfl rfl (r_addG rfl rfl h_t18) ?_
      refine l_val rfl rfl rfl (r_assign (v := .int .i64 t18) rfl) ?_
      refine l_nil ?_
      refine c_seq ?_
      refine c_region ?_
      refine l_val rfl rfl rfl (r_move (v := .int .i64 t18) rfl) ?_
      refine l_val rfl rfl rfl (r_lss rfl rfl) ?_
      refine l_nil ?_
      refine c_if (b := (decide (t18 < 0))) rfl (fun hb => ?_) (fun hb => ?_)
      · have H29 := cnd_t hb H28; clear H28
        exact absurd (show (none : Option ((List T_edit_Step))) = some r from H29) (fun h => by cases h)
      · have H30 := cnd_f hb H28; clear H28
        refine c_skip ?_
        refine c_region ?_
        obtain ⟨t22, h_t22, H31⟩ := bnd_some H30; clear H30
        refine l_val rfl rfl rfl (r_addG rfl rfl h_t22) ?_
        refine l_val rfl rfl rfl (r_move (v := .int .i64 t22) rfl) ?_
        refine l_nil ?_
        refine c_close (t18, t22) () m3 [] (by exact ⟨rfl, rfl, rfl, rfl, rfl, trivial⟩) (by decide) rfl (by exact ⟨(by subst hn3; exact H31), trivial⟩) (Nat.lt_succ_self _)
    · have H32 := cnd_f hb H25; clear H25
      refine c_exit ?_
      refine c_close x3_3 () 0 [] (by exact ⟨rfl, rfl, trivial⟩) (by decide) rfl (by exact ⟨H32, trivial⟩) (Nat.lt_succ_self _)
  · rintro x3 _ gg H17 _
    replace H17 : slices_Concat_edit_Step_j1 a0 x3 = some r := H17
    refine c_tidyF [(0, v0), (3, .int .i64 x3)] [] rfl rfl ?_
    refine c_seq ?_
    refine c_region ?_
    refine l_val rfl rfl rfl (r_move (v := .int .i64 x3) rfl) ?_
    obtain ⟨u24, h_u24, H18⟩ := bnd_some H17; clear H17
    refine l_make (makes_call (rds := []) (G := fun x : (Option Addr × Nat) => .slice x.1 ([] : List T_edit_Step).length x.2) (C := fun x : (Option Addr × Nat) => rowV 35 5 (.slice x.1 ([] : List T_edit_Step).length x.2) ([] : List T_edit_Step).length (([] : List T_edit_Step).map e_edit_Step)) (fun w L' hF hS hi => k64 h_u24 w) Tryd.call64 rfl) rfl rfl rfl (fun p => ?_)
    refine l_val rfl rfl rfl (r_assign (v := .slice p.1 ([] : List T_edit_Step).length p.2) rfl) ?_
    refine l_nil ?_
    refine c_seq ?_
    refine c_seq ?_
    refine c_region ?_
    refine l_val rfl rfl rfl (r_move (v := v0) rfl) ?_
    refine l_val rfl rfl rfl (r_lenFN Tryd.underlying48 rfl f0) ?_
    refine l_val rfl rfl rfl (r_move (v := .int .i64 0) rfl) ?_
    refine l_nil ?_
    refine c_block ?_
    refine c_fix (σ := Int × (List T_edit_Step)) (τ := (Option Addr × Nat)) (fun next2 s => slices_Concat_edit_Step_l2 a0 next2 s.1 s.2) (fun s t => [(6, .slice t.1 s.2.length t.2), (25, v0), (26, .int .i64 (a0.length : Int)), (27, .int .i64 s.1)]) (fun s t => [rowV 35 5 (.slice t.1 s.2.length t.2) s.2.length (s.2.map e_edit_Step)]) (fun s t => True) (0, ([] : List T_edit_Step)) p [0] H18 (by exact trivial) (by exact ⟨rfl, rfl, rfl, rfl, trivial⟩) (by decide) rfl ?_
    rintro ⟨x27_2, l_2⟩ p_2 m2 gg H19 _
    clear H18
    replace H19 : slices_Concat_edit_Step_l2 a0 (it (fun next2 s => slices_Concat_edit_Step_l2 a0 next2 s.1 s.2) m2) x27_2 l_2 = some r := H19
    generalize hn2 : it (fun next2 s => slices_Concat_edit_Step_l2 a0 next2 s.1 s.2) m2 = next2 at H19
    refine c_tidyF [(6, .slice p_2.1 l_2.length p_2.2), (25, v0), (26, .int .i64 (a0.length : Int)), (27, .int .i64 x27_2)] [rowV 35 5 (.slice p_2.1 l_2.length p_2.2) l_2.length (l_2.map e_edit_Step)] rfl rfl ?_
    refine c_seq ?_
    refine c_region ?_
    refine l_val rfl rfl rfl (r_lss rfl rfl) ?_
    refine l_nil ?_
    refine c_seq ?_
    refine c_if (b := (decide (x27_2 < (a0.length : Int)))) rfl (fun hb => ?_) (fun hb => ?_)
    · have H20 := cnd_t hb H19; clear H19
      refine c_skip ?_
      refine c_seq ?_
      refine c_block ?_
      refine c_seq ?_
      refine c_region ?_
      obtain ⟨t29, h_t29, H21⟩ := bnd_some H20; clear H20
      refine l_val rfl rfl rfl (r_indexF Tryd.underlying48 Tryd.sizeOf22 rfl rfl f0.frs (f0.ix h_t29)) ?_
      refine l_read (fun w hF hS => run_loadG1 (f := (elC h v0 1)) (i := x27_2) (sz := 1) (j := 0) (v := (elH h v0 1 (Int.toNat x27_2) 0)) Tryd.isAgg22 rfl rfl (f0.frs.row (hw.now hF)) (f0.ix h_t29) (rg_of (cgs_edit_Step (f0.at h_t29)) rfl)) rfl rfl rfl ?_
      refine l_val rfl rfl rfl (r_assign (v := (elH h v0 1 (Int.toNat x27_2) 0)) rfl) ?_
      refine l_nil ?_
      refine c_region ?_
      refine l_val rfl rfl rfl (r_move (v := .slice p_2.1 l_2.length p_2.2) rfl) ?_
      refine l_val rfl rfl rfl (r_move (v := (elH h v0 1 (Int.toNat x27_2) 0)) rfl) ?_
      obtain ⟨l33, h_l33, H22⟩ := bnd_some H21; clear H21
      refine l_turn (turns_appG (i := 0) (hn := rfl) (rds := []) (p := p_2) (sz := 5) (by_ := 40) (f := e_edit_Step) (ys := l_2) (ls := t29) (V := (elH h v0 1 (Int.toNat x27_2) 0)) Tryd.underlying22 (info_of Tryd.typeInfo35) rfl rfl rfl rfl rfl rfl rfl rfl (show FrS h 5 (elH h v0 1 (Int.toNat x27_2) 0) (t29.map e_edit_Step) from (f0.at h_t29)).eq (List.length_map _) (fun w L' hF hS hi => ((show FrS h 5 (elH h v0 1 (Int.toNat x27_2) 0) (t29.map e_edit_Step) from (f0.at h_t29))).row (hw.now hF)) (fun _ => rfl) (fun _ => rfl) h_l33) rfl rfl rfl (fun p_3 => ?_)
      refine l_val rfl rfl rfl (r_assign (v := .slice p_3.1 l33.length p_3.2) rfl) ?_
      refine l_nil ?_
      refine c_region ?_
      obtain ⟨t34, h_t34, H23⟩ := bnd_some H22; clear H22
      refine l_val rfl rfl rfl (r_addG rfl rfl h_t34) ?_
      refine l_val rfl rfl rfl (r_move (v := .int .i64 t34) rfl) ?_
      refine l_nil ?_
      refine c_close (t34, l33) p_3 m2 [0] (by exact ⟨rfl, rfl, rfl, rfl, trivial⟩) (by decide) rfl (by exact ⟨(by subst hn2; exact H23), trivial⟩) (Nat.lt_succ_self _)
    · have H24 := cnd_f hb H19; clear H19
      refine c_exit ?_
      refine c_seq ?_
      refine c_region ?_
      refine l_val rfl rfl rfl (r_move (v := .slice p_2.1 l_2.length p_2.2) rfl) ?_
      refine l_val rfl rfl rfl (r_assign (v := .slice p_2.1 l_2.length p_2.2) rfl) ?_
      refine l_nil ?_
      refine c_ret ?_
      obtain rfl := Option.some.inj H24
      refine ret1 (v := .slice p_2.1 l_2.length p_2.2) rfl rfl (finX p_2 (i := 0) rfl rfl (Imp.refl _))
theorem k6 {a0 : T_api_Image} {v0_2 : Value} {a1 : (List T_edit_Step)} {v1 : Value} {r : Bool} {w : World} {h : Heap} (hw : Know h w noS) (f0_2 : FrS h 1 v0_2 (a0.Pixels.map e_u8)) (f1 : FrS h 5 v1 (a1.map e_edit_Step)) (H : Keep_EditApart a0 a1 = some r) : Does Tryd.prog 6 (List.toArray [.agg #[.int .i64 a0.W, .int .i64 a0.H, v0_2], v1]) w (fun v w' => v = (.bool r) ∧ Grow w w') := by
  refine enter (n := 66) Tryd.func6 rfl rfl rfl noS [] (Sat.nil _ _) ?_
  refine c_seq ?_
  refine c_region ?_
  refine l_box (cs := [.int .i64 a0.W, .int .i64 a0.H, v0_2]) rfl rfl rfl rfl (fun b5 => ?_)
  refine l_val rfl rfl rfl (r_assign (v := .bool false) rfl) ?_
  refine l_nil ?_
  refine c_seq ?_
  refine c_seq ?_
  refine c_region ?_
  obtain ⟨t13, h_t13, H30⟩ := bnd_some H; clear H
  refine l_call (k25 h_t13) Tryd.call25 rfl rfl rfl ?_
  refine l_val rfl rfl rfl (r_not rfl) ?_
  refine l_nil ?_
  refine c_if (b := (!t13)) rfl (fun hb => ?_) (fun hb => ?_)
  · have H31 := cnd_t hb H30; clear H30
    refine c_seq ?_
    refine c_region ?_
    refine l_val rfl rfl rfl (r_assign (v := .bool false) rfl) ?_
    refine l_nil ?_
    refine c_ret ?_
    obtain rfl := Option.some.inj H31
    refine ret1 (v := .bool false) rfl rfl (fin rfl)
  · have H32 := cnd_f hb H30; clear H30
    refine c_skip ?_
    refine c_seq ?_
    refine c_region ?_
    refine l_loadN (i := 0) (vs := [.int .i64 a0.W, .int .i64 a0.H, v0_2]) Tryd.isAgg52 Tryd.sizeOf52 rfl rfl rfl rfl rfl ?_
    refine l_val rfl rfl rfl (r_move (v := v1) rfl) ?_
    obtain ⟨t18, h_t18, H33⟩ := bnd_some H32; clear H32
    refine l_make (makes_call (rds := []) (G := fun x : (Option Addr × Nat) => .tuple #[.agg #[.int .i64 t18.1.W, .int .i64 t18.1.H, .slice x.1 t18.1.Pixels.length x.2], .int .i64 t18.2]) (C := fun x : (Option Addr × Nat) => rowV 5 1 (.slice x.1 t18.1.Pixels.length x.2) t18.1.Pixels.length (t18.1.Pixels.map e_u8)) (fun w L' hF hS hi => k28 (know_all w) (f0_2.mono (hw.now hF)) (f1.mono (hw.now hF)) h_t18) Tryd.call28 rfl) rfl rfl rfl (fun p => ?_)
    refine l_val rfl rfl rfl (r_move (v := .tuple #[.agg #[.int .i64 t18.1.W, .int .i64 t18.1.H, .slice p.1 t18.1.Pixels.length p.2], .int .i64 t18.2]) rfl) ?_
    refine l_val rfl rfl rfl (r_extract (v := .agg #[.int .i64 t18.1.W, .int .i64 t18.1.H, .slice p.1 t18.1.Pixels.length p.2]) rfl rfl) ?_
    refine l_val rfl rfl rfl (r_extract (v := .int .i64 t18.2) rfl rfl) ?_
    refine l_alloc (cs := [.int .i64 0, .int .i64 0, .slice none 0 0]) Tryd.zeroValue52 rfl rfl rfl (fun b6 => ?_)
    refine l_store (i := 2) (vs := [.int .i64 t18.1.W, .int .i64 t18.1.H, .slice p.1 t18.1.Pixels.length p.2]) (cs' := [.int .i64 t18.1.W, .int .i64 t18.1.H, .slice p.1 t18.1.Pixels.length p.2]) Tryd.sizeOf52 rfl rfl rfl rfl rfl rfl rfl rfl rfl ?_
    refine l_val rfl rfl rfl (r_assign (v := .int .i64 t18.2) rfl) ?_
    refine l_nil ?_
    refine c_seq ?_
    refine c_seq ?_
    refine c_region ?_
    refine l_val rfl rfl rfl (r_move (v := .int .i64 t18.2) rfl) ?_
    refine l_val rfl rfl rfl (r_neq rfl rfl) ?_
    refine l_nil ?_
    refine c_if (b := (decide (t18.2 ≠ 0))) rfl (fun hb => ?_) (fun hb => ?_)
    · have H34 := cnd_t hb H33; clear H33
      refine c_seq ?_
      refine c_region ?_
      refine l_val rfl rfl rfl (r_assign (v := .bool true) rfl) ?_
      refine l_nil ?_
      refine c_ret ?_
      obtain rfl := Option.some.inj H34
      refine ret1 (v := .bool true) rfl rfl (fin rfl)
    · have H35 := cnd_f hb H33; clear H33
      refine c_skip ?_
      refine c_seq ?_
      refine c_region ?_
      refine l_val rfl rfl rfl (r_assign (v := .bool false) rfl) ?_
      refine l_nil ?_
      refine c_meet (r := r) (σ := Unit) (τ := Unit) (fun s => Keep_EditApart_j1 a0 a1 t18) (fun s t => [(1, v1), (2, .pointer (some ⟨b5, 0, none⟩)), (5, .pointer (some ⟨b6, 0, none⟩))]) (fun s t => [cellsC b5 [.int .i64 a0.W, .int .i64 a0.H, v0_2] 52, rowV 5 1 (.slice p.1 t18.1.Pixels.length p.2) t18.1.Pixels.length (t18.1.Pixels.map e_u8), cellsC b6 [.int .i64 t18.1.W, .int .i64 t18.1.H, .slice p.1 t18.1.Pixels.length p.2] 52]) (fun s t => True) ?_ ?_
      · refine c_seq ?_
        refine c_region ?_
        refine l_val rfl rfl rfl (r_move (v := v1) rfl) ?_
        refine l_val rfl rfl rfl (r_lenF Tryd.underlying22 rfl f1 rfl) ?_
        refine l_val rfl rfl rfl (r_move (v := .int .i64 0) rfl) ?_
        refine l_nil ?_
        refine c_block ?_
        refine c_fix (σ := Bool × Int) (τ := Unit) (fun next2 s => Keep_EditApart_l2 a0 a1 t18 next2 s.1 s.2) (fun s t => [(1, v1), (2, .pointer (some ⟨b5, 0, none⟩)), (5, .pointer (some ⟨b6, 0, none⟩)), (7, .bool s.1), (23, v1), (24, .int .i64 (a1.length : Int)), (25, .int .i64 s.2)]) (fun s t => [cellsC b5 [.int .i64 a0.W, .int .i64 a0.H, v0_2] 52, rowV 5 1 (.slice p.1 t18.1.Pixels.length p.2) t18.1.Pixels.length (t18.1.Pixels.map e_u8), cellsC b6 [.int .i64 t18.1.W, .int .i64 t18.1.H, .slice p.1 t18.1.Pixels.length p.2] 52]) (fun s t => True) (false, 0) () [0, 1, 2] H35 (by exact trivial) (by exact ⟨rfl, rfl, rfl, rfl, rfl, rfl, rfl, trivial⟩) (by decide) rfl ?_
        rintro ⟨x7_2, x25_2⟩ _ m2 gg H45 _
        clear H35
        replace H45 : Keep_EditApart_l2 a0 a1 t18 (it (fun next2 s => Keep_EditApart_l2 a0 a1 t18 next2 s.1 s.2) m2) x7_2 x25_2 = some r := H45
        generalize hn2 : it (fun next2 s => Keep_EditApart_l2 a0 a1 t18 next2 s.1 s.2) m2 = next2 at H45
        refine c_tidyF [(1, v1), (2, .pointer (some ⟨b5, 0, none⟩)), (5, .pointer (some ⟨b6, 0, none⟩)), (7, .bool x7_2), (23, v1), (24, .int .i64 (a1.length : Int)), (25, .int .i64 x25_2)] [cellsC b5 [.int .i64 a0.W, .int .i64 a0.H, v0_2] 52, rowV 5 1 (.slice p.1 t18.1.Pixels.length p.2) t18.1.Pixels.length (t18.1.Pixels.map e_u8), cellsC b6 [.int .i64 t18.1.W, .int .i64 t18.1.H, .slice p.1 t18.1.Pixels.length p.2] 52] rfl rfl ?_
        refine c_seq ?_
        refine c_region ?_
        refine l_val rfl rfl rfl (r_lss rfl rfl) ?_
        refine l_nil ?_
        refine c_seq ?_
        refine c_if (b := (decide (x25_2 < (a1.length : Int)))) rfl (fun hb => ?_) (fun hb => ?_)
        · have H46 := cnd_t hb H45; clear H45
          refine c_skip ?_
          refine c_meet (r := r) (σ := Bool) (τ := Unit) (fun s => Keep_EditApart_j3 x25_2 next2 s) (fun s t => [(1, v1), (2, .pointer (some ⟨b5, 0, none⟩)), (5, .pointer (some ⟨b6, 0, none⟩)), (7, .bool s), (23, v1), (24, .int .i64 (a1.length : Int)), (25, .int .i64 x25_2)]) (fun s t => [cellsC b5 [.int .i64 a0.W, .int .i64 a0.H, v0_2] 52, rowV 5 1 (.slice p.1 t18.1.Pixels.length p.2) t18.1.Pixels.length (t18.1.Pixels.map e_u8), cellsC b6 [.int .i64 t18.1.W, .int .i64 t18.1.H, .slice p.1 t18.1.Pixels.length p.2] 52]) (fun s t => True) ?_ ?_
          · refine c_block ?_
            refine c_seq ?_
            refine c_region ?_
            obtain ⟨t27, h_t27, H49⟩ := bnd_some H46; clear H46
            refine l_val rfl rfl rfl (r_indexF Tryd.underlying22 Tryd.sizeOf35 rfl rfl f1 h_t27) ?_
            refine l_read (fun w hF hS => run_loadGN (f := e_edit_Step) (i := x25_2) (sz := 5) (j := 0) (vs := [.int .i64 t27.Kind, .int .i64 t27.A, .int .i64 t27.B, .int .i64 t27.C, .int .i64 t27.D]) Tryd.isAgg35 Tryd.sizeOf35 rfl rfl (f1.row (hw.now hF)) h_t27 rfl) rfl rfl rfl ?_
            refine l_alloc (cs := [.int .i64 0, .int .i64 0, .int .i64 0, .int .i64 0, .int .i64 0]) Tryd.zeroValue35 rfl rfl rfl (fun b9 => ?_)
            refine l_store (i := 3) (vs := [.int .i64 t27.Kind, .int .i64 t27.A, .int .i64 t27.B, .int .i64 t27.C, .int .i64 t27.D]) (cs' := [.int .i64 t27.Kind, .int .i64 t27.A, .int .i64 t27.B, .int .i64 t27.C, .int .i64 t27.D]) Tryd.sizeOf35 rfl rfl rfl rfl rfl rfl rfl rfl rfl ?_
            refine l_nil ?_
            refine c_meet (r := r) (σ := Unit) (τ := Unit) (fun s => Keep_EditApart_j4 x7_2 x25_2 next2 t27) (fun s t => [(1, v1), (2, .pointer (some ⟨b5, 0, none⟩)), (5, .pointer (some ⟨b6, 0, none⟩)), (7, .bool x7_2), (9, .pointer (some ⟨b9, 0, none⟩)), (23, v1), (24, .int .i64 (a1.length : Int)), (25, .int .i64 x25_2)]) (fun s t => [cellsC b5 [.int .i64 a0.W, .int .i64 a0.H, v0_2] 52, rowV 5 1 (.slice p.1 t18.1.Pixels.length p.2) t18.1.Pixels.length (t18.1.Pixels.map e_u8), cellsC b6 [.int .i64 t18.1.W, .int .i64 t18.1.H, .slice p.1 t18.1.Pixels.length p.2] 52, cellsC b9 [.int .i64 t27.Kind, .int .i64 t27.A, .int .i64 t27.B, .int .i64 t27.C, .int .i64 t27.D] 35]) (fun s t => True) ?_ ?_
            · refine c_seq ?_
              refine c_region ?_
              refine l_val rfl rfl rfl (r_field Tryd.runUnderlying35 rfl Tryd.sizeOf3 rfl rfl) ?_
              refine l_load1 (i := 3) (v := .int .i64 t27.Kind) Tryd.isAgg3 rfl rfl rfl rfl rfl ?_
              refine l_val rfl rfl rfl (r_eql rfl rfl) ?_
              refine l_val rfl rfl rfl (r_move (v := .bool (decide (t27.Kind = 3))) rfl) ?_
              refine split (fun hb => ?_) (fun hb => ?_)
              · have H54 := cnd_t hb H49; clear H49
                refine l_val rfl rfl rfl (r_move (v := .bool x7_2) rfl) ?_
                refine l_val rfl rfl rfl (r_pickT (v := .bool x7_2) rfl rfl) ?_
                refine l_nil ?_
                refine c_if (b := x7_2) rfl (fun hb => ?_) (fun hb => ?_)
                · have H55 := cnd_t hb H54; clear H54
                  refine c_seq ?_
                  refine c_region ?_
                  refine l_val rfl rfl rfl (r_assign (v := .bool true) rfl) ?_
                  refine l_nil ?_
                  refine c_ret ?_
                  obtain rfl := Option.some.inj H55
                  refine ret1 (v := .bool true) rfl rfl (fin rfl)
                · have H56 := cnd_f hb H54; clear H54
                  refine c_skip ?_
                  refine c_close () () 0 [0, 1, 2, 3] (by exact ⟨rfl, rfl, rfl, rfl, rfl, rfl, rfl, rfl, trivial⟩) (by decide) rfl (by exact ⟨H56, trivial⟩) (Nat.lt_succ_self _)
              · have H57 := cnd_f hb H49; clear H49
                refine l_passed rfl rfl rfl ?_
                refine l_val rfl rfl rfl (r_pickF (v := .bool false) rfl rfl) ?_
                refine l_nil ?_
                refine c_false rfl ?_
                refine c_skip ?_
                refine c_close () () 0 [0, 1, 2, 3] (by exact ⟨rfl, rfl, rfl, rfl, rfl, rfl, rfl, rfl, trivial⟩) (by decide) rfl (by exact ⟨H57, trivial⟩) (Nat.lt_succ_self _)
            · rintro _ _ gg H50 _
              replace H50 : Keep_EditApart_j4 x7_2 x25_2 next2 t27 = some r := H50
              refine c_tidyF [(1, v1), (2, .pointer (some ⟨b5, 0, none⟩)), (5, .pointer (some ⟨b6, 0, none⟩)), (7, .bool x7_2), (9, .pointer (some ⟨b9, 0, none⟩)), (23, v1), (24, .int .i64 (a1.length : Int)), (25, .int .i64 x25_2)] [cellsC b5 [.int .i64 a0.W, .int .i64 a0.H, v0_2] 52, rowV 5 1 (.slice p.1 t18.1.Pixels.length p.2) t18.1.Pixels.length (t18.1.Pixels.map e_u8), cellsC b6 [.int .i64 t18.1.W, .int .i64 t18.1.H, .slice p.1 t18.1.Pixels.length p.2] 52, cellsC b9 [.int .i64 t27.Kind, .int .i64 t27.A, .int .i64 t27.B, .int .i64 t27.C, .int .i64 t27.D] 35] rfl rfl ?_
              refine c_region ?_
              refine l_val rfl rfl rfl (r_move (v := .bool x7_2) rfl) ?_
              refine l_val rfl rfl rfl (r_move (v := .bool x7_2) rfl) ?_
              refine split (fun hb => ?_) (fun hb => ?_)
              · have H51 := cnd_t hb H50; clear H50
                refine l_passed rfl rfl rfl ?_
                refine l_passed rfl rfl rfl ?_
                refine l_passed rfl rfl rfl ?_
                refine l_val rfl rfl rfl (r_pickT (v := .bool true) rfl rfl) ?_
                refine l_val rfl rfl rfl (r_assign (v := .bool true) rfl) ?_
                refine l_nil ?_
                refine c_close true () 0 [0, 1, 2] (by exact ⟨rfl, rfl, rfl, rfl, rfl, rfl, rfl, trivial⟩) (by decide) rfl (by exact ⟨H51, trivial⟩) (Nat.lt_succ_self _)
              · have H52 := cnd_f hb H50; clear H50
                refine l_loadN (i := 3) (vs := [.int .i64 t27.Kind, .int .i64 t27.A, .int .i64 t27.B, .int .i64 t27.C, .int .i64 t27.D]) Tryd.isAgg35 Tryd.sizeOf35 rfl rfl rfl rfl rfl ?_
                obtain ⟨t38, h_t38, H53⟩ := bnd_some H52; clear H52
                refine l_call (k31 h_t38) Tryd.call31 rfl rfl rfl ?_
                refine l_val rfl rfl rfl (r_not rfl) ?_
                refine l_val rfl rfl rfl (r_pickF (v := .bool (!t38)) rfl rfl) ?_
                refine l_val rfl rfl rfl (r_assign (v := .bool (!t38)) rfl) ?_
                refine l_nil ?_
                refine c_close (!t38) () 0 [0, 1, 2] (by exact ⟨rfl, rfl, rfl, rfl, rfl, rfl, rfl, trivial⟩) (by decide) rfl (by exact ⟨H53, trivial⟩) (Nat.lt_succ_self _)
          · rintro x7_3 _ gg H47 _
            replace H47 : Keep_EditApart_j3 x25_2 next2 x7_3 = some r := H47
            refine c_tidyF [(1, v1), (2, .pointer (some ⟨b5, 0, none⟩)), (5, .pointer (some ⟨b6, 0, none⟩)), (7, .bool x7_3), (23, v1), (24, .int .i64 (a1.length : Int)), (25, .int .i64 x25_2)] [cellsC b5 [.int .i64 a0.W, .int .i64 a0.H, v0_2] 52, rowV 5 1 (.slice p.1 t18.1.Pixels.length p.2) t18.1.Pixels.length (t18.1.Pixels.map e_u8), cellsC b6 [.int .i64 t18.1.W, .int .i64 t18.1.H, .slice p.1 t18.1.Pixels.length p.2] 52] rfl rfl ?_
            refine c_region ?_
            obtain ⟨t41, h_t41, H48⟩ := bnd_some H47; clear H47
            refine l_val rfl rfl rfl (r_addG rfl rfl h_t41) ?_
            refine l_val rfl rfl rfl (r_move (v := .int .i64 t41) rfl) ?_
            refine l_nil ?_
            refine c_close (x7_3, t41) () m2 [0, 1, 2] (by exact ⟨rfl, rfl, rfl, rfl, rfl, rfl, rfl, trivial⟩) (by decide) rfl (by exact ⟨(by subst hn2; exact H48), trivial⟩) (Nat.lt_succ_self _)
        · have H58 := cnd_f hb H45; clear H45
          refine c_exit ?_
          refine c_close () () 0 [0, 1, 2] (by exact ⟨rfl, rfl, rfl, trivial⟩) (by decide) rfl (by exact ⟨H58, trivial⟩) (Nat.lt_succ_self _)
      · rintro _ _ gg H36 _
        replace H36 : Keep_EditApart_j1 a0 a1 t18 = some r := H36
        refine c_tidyF [(1, v1), (2, .pointer (some ⟨b5, 0, none⟩)), (5, .pointer (some ⟨b6, 0, none⟩))] [cellsC b5 [.int .i64 a0.W, .int .i64 a0.H, v0_2] 52, rowV 5 1 (.slice p.1 t18.1.Pixels.length p.2) t18.1.Pixels.length (t18.1.Pixels.map e_u8), cellsC b6 [.int .i64 t18.1.W, .int .i64 t18.1.H, .slice p.1 t18.1.Pixels.length p.2] 52] rfl rfl ?_
        refine c_seq ?_
        refine c_region ?_
        refine l_val rfl rfl rfl (r_move (v := v1) rfl) ?_
        obtain ⟨t44, h_t44, H37⟩ := bnd_some H36; clear H36
        refine l_make (makes_call (rds := []) (G := fun x : (Option Addr × Nat) × (Option Addr × Nat) => .tuple #[.slice x.1.1 t44.1.length x.1.2, .slice x.2.1 t44.2.1.length x.2.2, .int .i64 t44.2.2]) (C := fun x : (Option Addr × Nat) × (Option Addr × Nat) => bothC (roV 5 (.slice x.1.1 t44.1.length x.1.2) t44.1.length (t44.1.map e_edit_Step)) (roV 5 (.slice x.2.1 t44.2.1.length x.2.2) t44.2.1.length (t44.2.1.map e_edit_Step))) (fun w L' hF hS hi => k32 (know_all w) (f1.mono (hw.now hF)) h_t44) Tryd.call32 rfl) rfl rfl rfl (fun ⟨p_2, p_3⟩ => ?_)
        refine c_split 3 rfl ?_
        refine l_val rfl rfl rfl (r_move (v := .tuple #[.slice p_2.1 t44.1.length p_2.2, .slice p_3.1 t44.2.1.length p_3.2, .int .i64 t44.2.2]) rfl) ?_
        refine l_val rfl rfl rfl (r_extract (v := .slice p_2.1 t44.1.length p_2.2) rfl rfl) ?_
        refine l_val rfl rfl rfl (r_extract (v := .slice p_3.1 t44.2.1.length p_3.2) rfl rfl) ?_
        refine l_val rfl rfl rfl (r_extract (v := .int .i64 t44.2.2) rfl rfl) ?_
        refine l_val rfl rfl rfl (r_assign (v := .slice p_2.1 t44.1.length p_2.2) rfl) ?_
        refine l_val rfl rfl rfl (r_assign (v := .slice p_3.1 t44.2.1.length p_3.2) rfl) ?_
        refine l_val rfl rfl rfl (r_assign (v := .int .i64 t44.2.2) rfl) ?_
        refine l_nil ?_
        refine c_seq ?_
        refine c_seq ?_
        refine c_region ?_
        refine l_val rfl rfl rfl (r_move (v := .int .i64 t44.2.2) rfl) ?_
        refine l_val rfl rfl rfl (r_neq rfl rfl) ?_
        refine l_nil ?_
        refine c_if (b := (decide (t44.2.2 ≠ 0))) rfl (fun hb => ?_) (fun hb => ?_)
        · have H38 := cnd_t hb H37; clear H37
          refine c_seq ?_
          refine c_region ?_
          refine l_val rfl rfl rfl (r_assign (v := .bool false) rfl) ?_
          refine l_nil ?_
          refine c_ret ?_
          obtain rfl := Option.some.inj H38
          refine ret1 (v := .bool false) rfl rfl (fin rfl)
        · have H39 := cnd_f hb H37; clear H37
          refine c_skip ?_
          refine c_seq ?_
          exact c_regionD (Kd.d [0] _ :: Kd.p :: Kd.p :: Kd.ns 5 [_, _] 22 2 :: Kd.t 6 [5, 3, 4] _ _ :: Kd.t 7 [6] _ _ :: Kd.p :: Kd.p :: Kd.p :: Kd.nw 8 [_, _, _] 52 :: Kd.sv 12 57 8 _ 52 :: Kd.p :: []) 4 mixed (by
            refine d_loadN (i := 0) (vs := [.int .i64 a0.W, .int .i64 a0.H, v0_2]) Tryd.isAgg52 Tryd.sizeOf52 rfl rfl rfl rfl ?_
            refine d_val rfl rfl (r_move (v := .slice p_2.1 t44.1.length p_2.2) rfl) ?_
            refine d_val rfl rfl (r_move (v := .slice p_3.1 t44.2.1.length p_3.2) rfl) ?_
            refine d_newS rfl rfl (run_buildSlice (vs := [.slice p_2.1 t44.1.length p_2.2, .slice p_3.1 t44.2.1.length p_3.2]) (cs := [.slice p_2.1 t44.1.length p_2.2, .slice p_3.1 t44.2.1.length p_3.2]) Tryd.underlying48 Tryd.sizeOf22 Tryd.zeroValue22 rfl rfl rfl rfl rfl) rfl (fun b7 => ?_)
            have h_t55 := bnd_val H39
            have H40 := bnd_rest H39
            refine d_make (Cv := fun v => rowV 35 5 v (val (slices_Concat_edit_Step ([t44.1, t44.2.1] : List (List T_edit_Step)))).length ((val (slices_Concat_edit_Step ([t44.1, t44.2.1] : List (List T_edit_Step)))).map e_edit_Step)) (none, 0) (makes_call (G := fun x : (Option Addr × Nat) => .slice x.1 (val (slices_Concat_edit_Step ([t44.1, t44.2.1] : List (List T_edit_Step)))).length x.2) (C := fun x : (Option Addr × Nat) => rowV 35 5 (.slice x.1 (val (slices_Concat_edit_Step ([t44.1, t44.2.1] : List (List T_edit_Step)))).length x.2) (val (slices_Concat_edit_Step ([t44.1, t44.2.1] : List (List T_edit_Step)))).length ((val (slices_Concat_edit_Step ([t44.1, t44.2.1] : List (List T_edit_Step)))).map e_edit_Step)) (fun w L' hF hS hi => k16 (know_all w) (frn_box (G := gs_edit_Step) (sz := 1) (xs := ([t44.1, t44.2.1] : List (List T_edit_Step))) (i := 5) hS ((hi 5 (by simp)).trans rfl) rfl rfl rfl ⟨(frs_rd (i := 3) hS ((hi 3 (by simp)).trans rfl)), (frs_rd (i := 4) hS ((hi 4 (by simp)).trans rfl)), rfl⟩) h_t55) Tryd.call16 rfl) (fun _ => rfl) rfl rfl rfl (fun p_4 => ?_)
            have h_t56 := bnd_val H40
            have H41 := bnd_rest H40
            refine d_make (Cv := fun v => rowV 5 1 (.slice (sa (vcell v 2)) (val (edit_Render a0 (val (slices_Concat_edit_Step ([t44.1, t44.2.1] : List (List T_edit_Step)))))).1.Pixels.length (sc (vcell v 2))) (val (edit_Render a0 (val (slices_Concat_edit_Step ([t44.1, t44.2.1] : List (List T_edit_Step)))))).1.Pixels.length ((val (edit_Render a0 (val (slices_Concat_edit_Step ([t44.1, t44.2.1] : List (List T_edit_Step)))))).1.Pixels.map e_u8)) (none, 0) (makes_call (G := fun x : (Option Addr × Nat) => .tuple #[.agg #[.int .i64 (val (edit_Render a0 (val (slices_Concat_edit_Step ([t44.1, t44.2.1] : List (List T_edit_Step)))))).1.W, .int .i64 (val (edit_Render a0 (val (slices_Concat_edit_Step ([t44.1, t44.2.1] : List (List T_edit_Step)))))).1.H, .slice x.1 (val (edit_Render a0 (val (slices_Concat_edit_Step ([t44.1, t44.2.1] : List (List T_edit_Step)))))).1.Pixels.length x.2], .int .i64 (val (edit_Render a0 (val (slices_Concat_edit_Step ([t44.1, t44.2.1] : List (List T_edit_Step)))))).2]) (C := fun x : (Option Addr × Nat) => rowV 5 1 (.slice x.1 (val (edit_Render a0 (val (slices_Concat_edit_Step ([t44.1, t44.2.1] : List (List T_edit_Step)))))).1.Pixels.length x.2) (val (edit_Render a0 (val (slices_Concat_edit_Step ([t44.1, t44.2.1] : List (List T_edit_Step)))))).1.Pixels.length ((val (edit_Render a0 (val (slices_Concat_edit_Step ([t44.1, t44.2.1] : List (List T_edit_Step)))))).1.Pixels.map e_u8)) (fun w L' hF hS hi => k28 (know_all w) (f0_2.mono (hw.now hF)) (frs_own (i := 6) rfl hS ((hi 6 (by simp)).trans rfl)) h_t56) Tryd.call28 rfl) (fun _ => rfl) rfl rfl rfl (fun p_5 => ?_)
            refine d_val rfl rfl (r_move (v := .tuple #[.agg #[.int .i64 (val (edit_Render a0 (val (slices_Concat_edit_Step ([t44.1, t44.2.1] : List (List T_edit_Step)))))).1.W, .int .i64 (val (edit_Render a0 (val (slices_Concat_edit_Step ([t44.1, t44.2.1] : List (List T_edit_Step)))))).1.H, .slice p_5.1 (val (edit_Render a0 (val (slices_Concat_edit_Step ([t44.1, t44.2.1] : List (List T_edit_Step)))))).1.Pixels.length p_5.2], .int .i64 (val (edit_Render a0 (val (slices_Concat_edit_Step ([t44.1, t44.2.1] : List (List T_edit_Step)))))).2]) rfl) ?_
            refine d_val rfl rfl (r_extract (v := .agg #[.int .i64 (val (edit_Render a0 (val (slices_Concat_edit_Step ([t44.1, t44.2.1] : List (List T_edit_Step)))))).1.W, .int .i64 (val (edit_Render a0 (val (slices_Concat_edit_Step ([t44.1, t44.2.1] : List (List T_edit_Step)))))).1.H, .slice p_5.1 (val (edit_Render a0 (val (slices_Concat_edit_Step ([t44.1, t44.2.1] : List (List T_edit_Step)))))).1.Pixels.length p_5.2]) rfl rfl) ?_
            refine d_val rfl rfl (r_extract (v := .int .i64 (val (edit_Render a0 (val (slices_Concat_edit_Step ([t44.1, t44.2.1] : List (List T_edit_Step)))))).2) rfl rfl) ?_
            refine d_new rfl rfl (run_alloc (cs := [.int .i64 0, .int .i64 0, .slice none 0 0]) Tryd.zeroValue52 rfl) rfl (fun b8 => ?_)
            refine d_storeV (i := 8) (vs := [.int .i64 (val (edit_Render a0 (val (slices_Concat_edit_Step ([t44.1, t44.2.1] : List (List T_edit_Step)))))).1.W, .int .i64 (val (edit_Render a0 (val (slices_Concat_edit_Step ([t44.1, t44.2.1] : List (List T_edit_Step)))))).1.H, .slice p_5.1 (val (edit_Render a0 (val (slices_Concat_edit_Step ([t44.1, t44.2.1] : List (List T_edit_Step)))))).1.Pixels.length p_5.2]) (cs' := fun v_ => [(vcell v_ 0), (vcell v_ 1), (vcell v_ 2)]) Tryd.sizeOf52 rfl rfl rfl rfl rfl rfl rfl rfl rfl ?_
            refine d_val rfl rfl (r_assign (v := .int .i64 (val (edit_Render a0 (val (slices_Concat_edit_Step ([t44.1, t44.2.1] : List (List T_edit_Step)))))).2) rfl) ?_
            refine d_nil ?_
            refine c_seq ?_
            refine c_region ?_
            refine l_val rfl rfl rfl (r_move (v := .int .i64 (val (edit_Render a0 (val (slices_Concat_edit_Step ([t44.1, t44.2.1] : List (List T_edit_Step)))))).2) rfl) ?_
            refine l_val rfl rfl rfl (r_eql rfl rfl) ?_
            refine l_val rfl rfl rfl (r_move (v := .bool (decide ((val (edit_Render a0 (val (slices_Concat_edit_Step ([t44.1, t44.2.1] : List (List T_edit_Step)))))).2 = 0))) rfl) ?_
            refine split (fun hb => ?_) (fun hb => ?_)
            · have H42 := cnd_t hb H41; clear H41
              refine l_loadN (i := 2) (vs := [.int .i64 t18.1.W, .int .i64 t18.1.H, .slice p.1 t18.1.Pixels.length p.2]) Tryd.isAgg52 Tryd.sizeOf52 rfl rfl rfl rfl rfl ?_
              refine l_loadN (i := 8) (vs := [.int .i64 (val (edit_Render a0 (val (slices_Concat_edit_Step ([t44.1, t44.2.1] : List (List T_edit_Step)))))).1.W, .int .i64 (val (edit_Render a0 (val (slices_Concat_edit_Step ([t44.1, t44.2.1] : List (List T_edit_Step)))))).1.H, .slice p_5.1 (val (edit_Render a0 (val (slices_Concat_edit_Step ([t44.1, t44.2.1] : List (List T_edit_Step)))))).1.Pixels.length p_5.2]) Tryd.isAgg52 Tryd.sizeOf52 rfl rfl rfl rfl rfl ?_
              obtain ⟨t64, h_t64, H43⟩ := bnd_some H42; clear H42
              refine l_callG (fun w hF hS => k30 (know_all w) (frs_own (i := 1) rfl hS rfl) (frs_own (i := 7) rfl hS rfl) h_t64) Tryd.call30 rfl rfl rfl ?_
              refine l_val rfl rfl rfl (r_pickT (v := .bool t64) rfl rfl) ?_
              refine l_val rfl rfl rfl (r_assign (v := .bool t64) rfl) ?_
              refine l_nil ?_
              refine c_ret ?_
              obtain rfl := Option.some.inj H43
              refine ret1 (v := .bool t64) rfl rfl (fin rfl)
            · have H44 := cnd_f hb H41; clear H41
              refine l_passed rfl rfl rfl ?_
              refine l_passed rfl rfl rfl ?_
              refine l_passed rfl rfl rfl ?_
              refine l_val rfl rfl rfl (r_pickF (v := .bool false) rfl rfl) ?_
              refine l_val rfl rfl rfl (r_assign (v := .bool false) rfl) ?_
              refine l_nil ?_
              refine c_ret ?_
              obtain rfl := Option.some.inj H44
              refine ret1 (v := .bool false) rfl rfl (fin rfl)
            ) (by kernel_rfl)
end Go.Proofs.YtinpjnlocahjjaaDoor
