/- EditOthers, first part: the walks, printed by our generator; each follows its model. Conditions: the model yields a value. -/
import Derived.Test.YtilhbkglchppjaaDoorMEo
import Derived.Test.YtilhbkglchppjaaDoorProg
import Derived.Test.YtilhbkglchppjaaDoorLx15
import Derived.Test.YtilhbkglchppjaaDoorSrt
import Derived.Test.YtilhbkglchppjaaDoorLx17
import Derived.Test.YtilhbkglchppjaaDoorLx18
import Derived.Test.YtilhbkglchppjaaDoorLx19
namespace Go.Proofs.YtilhbkglchppjaaDoor
open Go Go.Vc Go.Md Go.M Go.Lx
set_option maxRecDepth 100000
set_option maxHeartbeats 4000000
set_option linter.unusedVariables false

theorem mixed : Tryd.prog.follows .mixedOrders = true := by kernel_rfl

abbrev e_i64 (x : Int) : List Value := [.int .i64 x]
def fnR_func_int_int_int_bool (m : (Int → Int → Int → Option (Bool))) (w : World) (args : List Value) (post : Value → World → Prop) : Prop :=
  ∃ (a0 : Int) (a1 : Int) (a2 : Int) (r : Bool), args = [.int .i64 a0, .int .i64 a1, .int .i64 a2] ∧ m a0 a1 a2 = some r ∧ post = fun v' w' => v' = (.bool r) ∧ Grow w w'
abbrev e_edit_Step (x : T_edit_Step) : List Value := [.int .i64 x.Kind, .int .i64 x.A, .int .i64 x.B, .int .i64 x.C, .int .i64 x.D]
abbrev e_string (x : (List UInt8)) : List Value := [str x]
def fnR_func_edit_Step_bool (m : (T_edit_Step → Option (Bool))) (w : World) (args : List Value) (post : Value → World → Prop) : Prop :=
  ∃ (a0 : T_edit_Step) (r : Bool), args = [.agg #[.int .i64 a0.Kind, .int .i64 a0.A, .int .i64 a0.B, .int .i64 a0.C, .int .i64 a0.D]] ∧ m a0 = some r ∧ post = fun v' w' => v' = (.bool r) ∧ Grow w w'

def gs_edit_Step (h : Heap) (c : Nat → Value) (x : (List T_edit_Step)) : Prop := FrS h 5 (c 0) (x.map e_edit_Step)
instance : Mon gs_edit_Step := ⟨fun k _ _ f => FrS.mono f k⟩
theorem cgs_edit_Step {h : Heap} {c : Nat → Value} {x : (List T_edit_Step)} (_ : gs_edit_Step h c x) : (List.range 1).map c = [c 0] := rfl

theorem run_eqT35 (d : Nat) (w : World) (a0 b0 : Int) (a1 b1 : Int) (a2 b2 : Int) (a3 b3 : Int) (a4 b4 : Int) : (Op.equalIn (d + 2) 35 (.agg #[.int .i64 a0, .int .i64 a1, .int .i64 a2, .int .i64 a3, .int .i64 a4]) (.agg #[.int .i64 b0, .int .i64 b1, .int .i64 b2, .int .i64 b3, .int .i64 b4])).run Tryd.prog w = .ok (decide (a0 = b0 ∧ a1 = b1 ∧ a2 = b2 ∧ a3 = b3 ∧ a4 = b4)) w := by
  rw [run_equalIn_struct w (d + 1) 35 _ _ (by simp only [Program.fieldsOf, Tryd.underlying35]) Tryd.stoodInHeld35]
  simp only [Program.fieldsOf, Tryd.underlying35, Op.eqFields]
  simp [part, run_equalIn_int, run_equalIn_strL, run_equalIn_bool', Tryd.underlying3]
  repeat' split
  all_goals simp_all

theorem run_eq_edit_Step (w : World) (x y : T_edit_Step) : (Op.equalIn Op.maxDepth 35 (.agg #[.int .i64 x.Kind, .int .i64 x.A, .int .i64 x.B, .int .i64 x.C, .int .i64 x.D]) (.agg #[.int .i64 y.Kind, .int .i64 y.A, .int .i64 y.B, .int .i64 y.C, .int .i64 y.D])).run Tryd.prog w = .ok (eq_edit_Step x y) w :=
  run_eqT35 9998 w _ _ _ _ _ _ _ _ _ _

theorem k60 {n : Int} {u : Nat} (hg : gGroC 40 n = some u) (w : World) : Does Tryd.prog 60 (List.toArray [.slice none 0 0, .int .i64 n]) w (fun v w' => ∃ p : Option Addr × Nat, v = .slice p.1 0 p.2 ∧ Turn w w' noS (rowC 35 5 (.slice p.1 0 p.2) 0 [] u)) := by
  obtain ⟨rfl, h0, h1, h2⟩ := gGroC_some hg
  obtain ⟨m, rfl⟩ : ∃ m : Nat, n = (m : Int) := ⟨n.toNat, (Int.toNat_of_nonneg h0).symm⟩
  rw [Int.toNat_natCast] at h2 ⊢
  refine enter (n := 27) Tryd.func60 rfl rfl rfl noS [] (Sat.nil _ _) ?_
  refine c_seq ?_
  refine c_region ?_
  refine l_val rfl rfl rfl (r_assign (v := .slice none 0 0) rfl) ?_
  refine l_nil ?_
  refine c_seq ?_
  refine c_seq ?_
  refine c_region ?_
  refine l_val rfl rfl rfl (r_move (v := .int .i64 (m : Int)) rfl) ?_
  refine l_val rfl rfl rfl (r_decF (r_lss rfl rfl) (by omega)) ?_
  refine l_nil ?_
  refine c_false rfl ?_
  refine c_skip ?_
  refine c_seq ?_
  refine c_seq ?_
  refine c_region ?_
  refine l_val rfl rfl rfl (r_move (v := .int .i64 (m : Int)) rfl) ?_
  refine l_val rfl rfl rfl (r_move (v := .slice none 0 0) rfl) ?_
  refine l_val rfl rfl rfl (r_cap (c := 0) Tryd.underlying22 rfl) ?_
  refine l_val rfl rfl rfl (r_move (v := .slice none 0 0) rfl) ?_
  refine l_val rfl rfl rfl (r_len (m := 0) Tryd.underlying22 rfl) ?_
  refine l_val rfl rfl rfl (r_subG (z := 0) rfl rfl (by decide)) ?_
  refine l_val rfl rfl rfl (r_subG (z := (m : Int)) rfl rfl (by rw [Int.sub_zero]; exact gI_ok (by omega))) ?_
  refine l_val rfl rfl rfl (r_assign (v := .int .i64 (m : Int)) rfl) ?_
  refine l_nil ?_
  refine c_seq ?_
  refine c_region ?_
  refine l_val rfl rfl rfl (r_move (v := .int .i64 (m : Int)) rfl) ?_
  rcases Nat.eq_zero_or_pos m with hm | hm
  · refine l_val rfl rfl rfl (r_decF (r_gtr rfl rfl) (by omega)) ?_
    refine l_nil ?_
    refine c_false rfl ?_
    refine c_skip ?_
    refine c_seq ?_
    refine c_region ?_
    refine l_val rfl rfl rfl (r_move (v := .slice none 0 0) rfl) ?_
    refine l_val rfl rfl rfl (r_assign (v := .slice none 0 0) rfl) ?_
    refine l_nil ?_
    refine c_ret ?_
    subst hm
    refine c_nilRow 35 5 ?_
    refine c_imp 0 rfl (imp_C0 35 5 _) ?_
    exact ret1 (v := .slice none 0 0) rfl rfl (finX ((none, 0) : Option Addr × Nat) (i := 0) rfl rfl (Imp.refl _))
  · refine l_val rfl rfl rfl (r_decT (r_gtr rfl rfl) (by omega)) ?_
    refine l_nil ?_
    refine c_true rfl ?_
    refine c_region ?_
    refine l_val rfl rfl rfl (r_move (v := .slice none 0 0) rfl) ?_
    refine l_val rfl rfl rfl (r_move (v := .slice none 0 0) rfl) ?_
    refine l_val rfl rfl rfl (r_cap (c := 0) Tryd.underlying22 rfl) ?_
    refine l_val rfl rfl rfl (r_sliceH (a := none) (m := 0) (c := 0) (h := 0) Tryd.underlying22 Tryd.sizeOf35 rfl rfl (by decide) (by decide)) ?_
    refine l_val rfl rfl rfl (r_move (v := .int .i64 (m : Int)) rfl) ?_
    refine l_make (rds := []) (makes_zerosC (E := 35) (sz := 5) (by_ := 40) (m := m) Tryd.underlying22 Tryd.underlying3 (info_of Tryd.typeInfo35) rfl rfl rfl rfl rfl rfl rfl hm (by omega) h2) rfl rfl rfl (fun ⟨g0, c0⟩ => ?_)
    refine l_val rfl rfl rfl (r_move (v := .slice none 0 0) rfl) ?_
    refine l_val rfl rfl rfl (r_len (m := 0) Tryd.underlying22 rfl) ?_
    refine l_val rfl rfl rfl (r_sliceH0 (g0 := g0) (c := c0) Tryd.underlying22 Tryd.sizeOf35 rfl rfl) ?_
    refine l_val rfl rfl rfl (r_assign (v := .slice (some ⟨g0, 0, none⟩) 0 c0) rfl) ?_
    refine l_nil ?_
    refine c_seq ?_
    refine c_region ?_
    refine l_val rfl rfl rfl (r_move (v := .slice (some ⟨g0, 0, none⟩) 0 c0) rfl) ?_
    refine l_val rfl rfl rfl (r_assign (v := .slice (some ⟨g0, 0, none⟩) 0 c0) rfl) ?_
    refine l_nil ?_
    refine c_ret ?_
    exact ret1 (v := .slice (some ⟨g0, 0, none⟩) 0 c0) rfl rfl (finX ((some ⟨g0, 0, none⟩, c0) : Option Addr × Nat) (i := 0) rfl rfl (Imp.refl _))

theorem k13 {a0 : (List (List T_edit_Step))} {v0 : Value} {r : (List T_edit_Step)} {w : World} {h : Heap} (hw : Know h w noS) (f0 : FrN h 1 v0 gs_edit_Step a0) (H : slices_Concat_edit_Step a0 = some r) : Does Tryd.prog 13 (List.toArray [v0]) w (fun v w' => ∃ x : (Option Addr × Nat), v = (.slice x.1 r.length x.2) ∧ Turn w w' noS (rowV 35 5 (.slice x.1 r.length x.2) r.length (r.map e_edit_Step))) := by
  refine enter (n := 36) Tryd.func13 rfl rfl rfl noS [] (Sat.nil _ _) ?_
  refine c_seq ?_
  refine c_region ?_
  refine l_val rfl rfl rfl (r_assign (v := .slice none 0 0) rfl) ?_
  refine l_nil ?_
  refine c_seq ?_
  refine c_region ?_
  refine l_val rfl rfl rfl (r_assign (v := .int .i64 0) rfl) ?_
  refine l_nil ?_
  refine c_meet (r := r) (σ := Int) (τ := Unit) (fun s => slices_Concat_edit_Step_j1 a0 s) (fun s t => [(0, v0), (3, .int .i64 s)]) (fun s t => []) (fun s t => True) ?_ ?_
  · refine c_seq ?_
    refine c_region ?_
    refine l_val rfl rfl rfl (r_move (v := v0) rfl) ?_
    refine l_val rfl rfl rfl (r_lenFN Tryd.underlying104 rfl f0) ?_
    refine l_val rfl rfl rfl (r_move (v := .int .i64 0) rfl) ?_
    refine l_nil ?_
    refine c_block ?_
    refine c_fix (σ := Int × Int) (τ := Unit) (fun next3 s => slices_Concat_edit_Step_l3 a0 next3 s.1 s.2) (fun s t => [(0, v0), (3, .int .i64 s.1), (9, v0), (10, .int .i64 (a0.length : Int)), (11, .int .i64 s.2)]) (fun s t => []) (fun s t => True) (0, 0) () [] H (by exact trivial) (by exact ⟨rfl, rfl, rfl, rfl, rfl, trivial⟩) (by decide) rfl ?_
    rintro ⟨x3_3, x11_2⟩ _ m3 gg H25 _
    clear H
    replace H25 : slices_Concat_edit_Step_l3 a0 (it (fun next3 s => slices_Concat_edit_Step_l3 a0 next3 s.1 s.2) m3) x3_3 x11_2 = some r := H25
    generalize hn3 : it (fun next3 s => slices_Concat_edit_Step_l3 a0 next3 s.1 s.2) m3 = next3 at H25
    refine c_tidyF [(0, v0), (3, .int .i64 x3_3), (9, v0), (10, .int .i64 (a0.length : Int)), (11, .int .i64 x11_2)] [] rfl rfl ?_
    refine c_seq ?_
    refine c_region ?_
    refine l_val rfl rfl rfl (r_lss rfl rfl) ?_
    refine l_nil ?_
    refine c_seq ?_
    refine c_if (b := (decide (x11_2 < (a0.length : Int)))) rfl (fun hb => ?_) (fun hb => ?_)
    · have H26 := cnd_t hb H25; clear H25
      refine c_skip ?_
      refine c_seq ?_
      refine c_block ?_
      refine c_seq ?_
      refine c_region ?_
      obtain ⟨t13, h_t13, H27⟩ := bnd_some H26; clear H26
      refine l_val rfl rfl rfl (r_indexF Tryd.underlying104 Tryd.sizeOf22 rfl rfl f0.frs (f0.ix h_t13)) ?_
      refine l_read (fun w hF hS => run_loadG1 (f := (elC h v0 1)) (i := x11_2) (sz := 1) (j := 0) (v := (elH h v0 1 (Int.toNat x11_2) 0)) Tryd.isAgg22 rfl rfl (f0.frs.row (hw.now hF)) (f0.ix h_t13) (rg_of (cgs_edit_Step (f0.at h_t13)) rfl)) rfl rfl rfl ?_
      refine l_val rfl rfl rfl (r_assign (v := (elH h v0 1 (Int.toNat x11_2) 0)) rfl) ?_
      refine l_nil ?_
      refine c_seq ?_
      refine c_region ?_
      refine l_val rfl rfl rfl (r_move (v := .int .i64 x3_3) rfl) ?_
      refine l_val rfl rfl rfl (r_move (v := (elH h v0 1 (Int.toNat x11_2) 0)) rfl) ?_
      refine l_val rfl rfl rfl (r_lenF Tryd.underlying22 rfl (show FrS h 5 (elH h v0 1 (Int.toNat x11_2) 0) (t13.map e_edit_Step) from (f0.at h_t13)) rfl) ?_
      obtain ⟨t18, h_t18, H28⟩ := bnd_some H27; clear H27
      refine l_val rfl rfl rfl (r_addG rfl rfl h_t18) ?_
      refine l_val rfl rfl rfl (r_assign (v := .int .i64 t18) rfl) ?_
      refine l_nil ?_
      refine c_seq ?_
      refine c_region ?_
      refine l_val rfl rfl rfl (r_move (v := .int .i64 t18) rfl) ?_
      refine l_val rfl rfl rfl (r_lss rfl rfl) ?_
      refine l_nil ?_
      refine c_if (b := (decide (t18 < 0))) rfl (fun hb => ?_) (fun hb => ?_)
      · have H29 := cnd_t hb H28; clear H28
        exact absurd (show (none : Option ((List T_edit_Step))) = some r from H29) (fun h => by cases h)
      · have H30 := cnd_f hb H28; clear H28
        refine c_skip ?_
        refine c_region ?_
        obtain ⟨t22, h_t22, H31⟩ := bnd_some H30; clear H30
        refine l_val rfl rfl rfl (r_addG rfl rfl h_t22) ?_
        refine l_val rfl rfl rfl (r_move (v := .int .i64 t22) rfl) ?_
        refine l_nil ?_
        refine c_close (t18, t22) () m3 [] (by exact ⟨rfl, rfl, rfl, rfl, rfl, trivial⟩) (by decide) rfl (by exact ⟨(by subst hn3; exact H31), trivial⟩) (Nat.lt_succ_self _)
    · have H32 := cnd_f hb H25; clear H25
      refine c_exit ?_
      refine c_close x3_3 () 0 [] (by exact ⟨rfl, rfl, trivial⟩) (by decide) rfl (by exact ⟨H32, trivial⟩) (Nat.lt_succ_self _)
  · rintro x3 _ gg H17 _
    replace H17 : slices_Concat_edit_Step_j1 a0 x3 = some r := H17
    refine c_tidyF [(0, v0), (3, .int .i64 x3)] [] rfl rfl ?_
    refine c_seq ?_
    refine c_region ?_
    refine l_val rfl rfl rfl (r_move (v := .int .i64 x3) rfl) ?_
    obtain ⟨u24, h_u24, H18⟩ := bnd_some H17; clear H17
    refine l_make (makes_call (rds := []) (G := fun x : (Option Addr × Nat) => .slice x.1 ([] : List T_edit_Step).length x.2) (C := fun x : (Option Addr × Nat) => rowC 35 5 (.slice x.1 ([] : List T_edit_Step).length x.2) ([] : List T_edit_Step).length (([] : List T_edit_Step).map e_edit_Step) u24) (fun w L' hF hS hi => k60 h_u24 w) Tryd.call60 rfl) rfl rfl rfl (fun p => ?_)
    refine l_val rfl rfl rfl (r_assign (v := .slice p.1 ([] : List T_edit_Step).length p.2) rfl) ?_
    refine l_nil ?_
    refine c_seq ?_
    refine c_seq ?_
    refine c_region ?_
    refine l_val rfl rfl rfl (r_move (v := v0) rfl) ?_
    refine l_val rfl rfl rfl (r_lenFN Tryd.underlying104 rfl f0) ?_
    refine l_val rfl rfl rfl (r_move (v := .int .i64 0) rfl) ?_
    refine l_nil ?_
    refine c_block ?_
    refine c_fix (σ := Int × (List T_edit_Step)) (τ := (Option Addr × Nat)) (fun next2 s => slices_Concat_edit_Step_l2 a0 u24 next2 s.1 s.2) (fun s t => [(6, .slice t.1 s.2.length t.2), (25, v0), (26, .int .i64 (a0.length : Int)), (27, .int .i64 s.1)]) (fun s t => [rowC 35 5 (.slice t.1 s.2.length t.2) s.2.length (s.2.map e_edit_Step) u24]) (fun s t => True) (0, ([] : List T_edit_Step)) p [0] H18 (by exact trivial) (by exact ⟨rfl, rfl, rfl, rfl, trivial⟩) (by decide) rfl ?_
    rintro ⟨x27_2, l_2⟩ p_2 m2 gg H19 _
    clear H18
    replace H19 : slices_Concat_edit_Step_l2 a0 u24 (it (fun next2 s => slices_Concat_edit_Step_l2 a0 u24 next2 s.1 s.2) m2) x27_2 l_2 = some r := H19
    generalize hn2 : it (fun next2 s => slices_Concat_edit_Step_l2 a0 u24 next2 s.1 s.2) m2 = next2 at H19
    refine c_tidyF [(6, .slice p_2.1 l_2.length p_2.2), (25, v0), (26, .int .i64 (a0.length : Int)), (27, .int .i64 x27_2)] [rowC 35 5 (.slice p_2.1 l_2.length p_2.2) l_2.length (l_2.map e_edit_Step) u24] rfl rfl ?_
    refine c_seq ?_
    refine c_region ?_
    refine l_val rfl rfl rfl (r_lss rfl rfl) ?_
    refine l_nil ?_
    refine c_seq ?_
    refine c_if (b := (decide (x27_2 < (a0.length : Int)))) rfl (fun hb => ?_) (fun hb => ?_)
    · have H20 := cnd_t hb H19; clear H19
      refine c_skip ?_
      refine c_seq ?_
      refine c_block ?_
      refine c_seq ?_
      refine c_region ?_
      obtain ⟨t29, h_t29, H21⟩ := bnd_some H20; clear H20
      refine l_val rfl rfl rfl (r_indexF Tryd.underlying104 Tryd.sizeOf22 rfl rfl f0.frs (f0.ix h_t29)) ?_
      refine l_read (fun w hF hS => run_loadG1 (f := (elC h v0 1)) (i := x27_2) (sz := 1) (j := 0) (v := (elH h v0 1 (Int.toNat x27_2) 0)) Tryd.isAgg22 rfl rfl (f0.frs.row (hw.now hF)) (f0.ix h_t29) (rg_of (cgs_edit_Step (f0.at h_t29)) rfl)) rfl rfl rfl ?_
      refine l_val rfl rfl rfl (r_assign (v := (elH h v0 1 (Int.toNat x27_2) 0)) rfl) ?_
      refine l_nil ?_
      refine c_region ?_
      refine l_val rfl rfl rfl (r_move (v := .slice p_2.1 l_2.length p_2.2) rfl) ?_
      refine l_val rfl rfl rfl (r_move (v := (elH h v0 1 (Int.toNat x27_2) 0)) rfl) ?_
      obtain ⟨l33, h_l33, H22⟩ := bnd_some H21; clear H21
      refine l_turn (turns_appC (i := 0) (hn := rfl) (rds := []) (p := p_2) (sz := 5) (by_ := 40) (f := e_edit_Step) (ys := l_2) (ls := t29) (V := (elH h v0 1 (Int.toNat x27_2) 0)) Tryd.underlying22 (info_of Tryd.typeInfo35) rfl rfl rfl rfl rfl rfl rfl rfl (show FrS h 5 (elH h v0 1 (Int.toNat x27_2) 0) (t29.map e_edit_Step) from (f0.at h_t29)).eq (List.length_map _) (fun w L' hF hS hi => ((show FrS h 5 (elH h v0 1 (Int.toNat x27_2) 0) (t29.map e_edit_Step) from (f0.at h_t29))).row (hw.now hF)) (fun _ => rfl) (fun _ => rfl) h_l33) rfl rfl rfl (fun p_3 => ?_)
      refine l_val rfl rfl rfl (r_assign (v := .slice p_3.1 l33.length p_3.2) rfl) ?_
      refine l_nil ?_
      refine c_region ?_
      obtain ⟨t34, h_t34, H23⟩ := bnd_some H22; clear H22
      refine l_val rfl rfl rfl (r_addG rfl rfl h_t34) ?_
      refine l_val rfl rfl rfl (r_move (v := .int .i64 t34) rfl) ?_
      refine l_nil ?_
      refine c_close (t34, l33) p_3 m2 [0] (by exact ⟨rfl, rfl, rfl, rfl, trivial⟩) (by decide) rfl (by exact ⟨(by subst hn2; exact H23), trivial⟩) (Nat.lt_succ_self _)
    · have H24 := cnd_f hb H19; clear H19
      refine c_exit ?_
      refine c_seq ?_
      refine c_region ?_
      refine l_val rfl rfl rfl (r_move (v := .slice p_2.1 l_2.length p_2.2) rfl) ?_
      refine l_val rfl rfl rfl (r_assign (v := .slice p_2.1 l_2.length p_2.2) rfl) ?_
      refine l_nil ?_
      refine c_ret ?_
      obtain rfl := Option.some.inj H24
      refine c_imp 0 rfl (imp_rowC _ _ _ _ _ _) ?_
      refine ret1 (v := .slice p_2.1 l_2.length p_2.2) rfl rfl (finX p_2 (i := 0) rfl rfl (Imp.refl _))
theorem k109 {a0 : Int} {r : (List UInt8) × Int} (H : edit_word a0 = some r) : Ret Tryd.prog 109 [.int .i64 a0] (.tuple #[str r.1, .int .i64 r.2]) := by
  refine enterRet (n := 21) Tryd.func109 rfl rfl rfl (fun wd => ?_)
  refine c_seq ?_
  refine c_region ?_
  refine l_val rfl rfl rfl (r_assign (v := str []) rfl) ?_
  refine l_val rfl rfl rfl (r_assign (v := .int .i64 0) rfl) ?_
  refine l_nil ?_
  refine c_seq ?_
  refine c_seq ?_
  refine c_region ?_
  refine l_val rfl rfl rfl (r_move (v := .int .i64 a0) rfl) ?_
  refine l_nil ?_
  refine c_block ?_
  refine c_seq ?_
  refine c_region ?_
  refine l_val rfl rfl rfl (r_eql rfl rfl) ?_
  refine l_val rfl rfl rfl (r_assign (v := .bool (decide (a0 = 1))) rfl) ?_
  refine l_nil ?_
  refine c_if (b := (decide (a0 = 1))) rfl (fun hb => ?_) (fun hb => ?_)
  · have H17 := cnd_t hb H; clear H
    refine c_seq ?_
    refine c_region ?_
    refine l_val rfl rfl rfl (r_assign (v := str [116, 117, 114, 110]) rfl) ?_
    refine l_val rfl rfl rfl (r_assign (v := .int .i64 1) rfl) ?_
    refine l_nil ?_
    refine c_ret ?_
    obtain rfl := Option.some.inj H17
    refine ret2 (v1 := str [116, 117, 114, 110]) (v2 := .int .i64 1) rfl rfl rfl (fin rfl)
  · have H18 := cnd_f hb H; clear H
    refine c_seq ?_
    refine c_region ?_
    refine l_val rfl rfl rfl (r_eql rfl rfl) ?_
    refine l_val rfl rfl rfl (r_assign (v := .bool (decide (a0 = 2))) rfl) ?_
    refine l_nil ?_
    refine c_if (b := (decide (a0 = 2))) rfl (fun hb => ?_) (fun hb => ?_)
    · have H19 := cnd_t hb H18; clear H18
      refine c_seq ?_
      refine c_region ?_
      refine l_val rfl rfl rfl (r_assign (v := str [99, 114, 111, 112]) rfl) ?_
      refine l_val rfl rfl rfl (r_assign (v := .int .i64 4) rfl) ?_
      refine l_nil ?_
      refine c_ret ?_
      obtain rfl := Option.some.inj H19
      refine ret2 (v1 := str [99, 114, 111, 112]) (v2 := .int .i64 4) rfl rfl rfl (fin rfl)
    · have H20 := cnd_f hb H18; clear H18
      refine c_seq ?_
      refine c_region ?_
      refine l_val rfl rfl rfl (r_eql rfl rfl) ?_
      refine l_val rfl rfl rfl (r_assign (v := .bool (decide (a0 = 3))) rfl) ?_
      refine l_nil ?_
      refine c_if (b := (decide (a0 = 3))) rfl (fun hb => ?_) (fun hb => ?_)
      · have H21 := cnd_t hb H20; clear H20
        refine c_seq ?_
        refine c_region ?_
        refine l_val rfl rfl rfl (r_assign (v := str [115, 99, 97, 108, 101]) rfl) ?_
        refine l_val rfl rfl rfl (r_assign (v := .int .i64 2) rfl) ?_
        refine l_nil ?_
        refine c_ret ?_
        obtain rfl := Option.some.inj H21
        refine ret2 (v1 := str [115, 99, 97, 108, 101]) (v2 := .int .i64 2) rfl rfl rfl (fin rfl)
      · have H22 := cnd_f hb H20; clear H20
        refine c_seq ?_
        refine c_region ?_
        refine l_val rfl rfl rfl (r_eql rfl rfl) ?_
        refine l_val rfl rfl rfl (r_assign (v := .bool (decide (a0 = 4))) rfl) ?_
        refine l_nil ?_
        refine c_if (b := (decide (a0 = 4))) rfl (fun hb => ?_) (fun hb => ?_)
        · have H23 := cnd_t hb H22; clear H22
          refine c_seq ?_
          refine c_region ?_
          refine l_val rfl rfl rfl (r_assign (v := str [108, 105, 103, 104, 116]) rfl) ?_
          refine l_val rfl rfl rfl (r_assign (v := .int .i64 1) rfl) ?_
          refine l_nil ?_
          refine c_ret ?_
          obtain rfl := Option.some.inj H23
          refine ret2 (v1 := str [108, 105, 103, 104, 116]) (v2 := .int .i64 1) rfl rfl rfl (fin rfl)
        · have H24 := cnd_f hb H22; clear H22
          refine c_seq ?_
          refine c_region ?_
          refine l_val rfl rfl rfl (r_eql rfl rfl) ?_
          refine l_val rfl rfl rfl (r_assign (v := .bool (decide (a0 = 5))) rfl) ?_
          refine l_nil ?_
          refine c_if (b := (decide (a0 = 5))) rfl (fun hb => ?_) (fun hb => ?_)
          · have H25 := cnd_t hb H24; clear H24
            refine c_seq ?_
            refine c_region ?_
            refine l_val rfl rfl rfl (r_assign (v := str [115, 112, 114, 101, 97, 100]) rfl) ?_
            refine l_val rfl rfl rfl (r_assign (v := .int .i64 1) rfl) ?_
            refine l_nil ?_
            refine c_ret ?_
            obtain rfl := Option.some.inj H25
            refine ret2 (v1 := str [115, 112, 114, 101, 97, 100]) (v2 := .int .i64 1) rfl rfl rfl (fin rfl)
          · have H26 := cnd_f hb H24; clear H24
            refine c_seq ?_
            refine c_region ?_
            refine l_val rfl rfl rfl (r_eql rfl rfl) ?_
            refine l_val rfl rfl rfl (r_assign (v := .bool (decide (a0 = 6))) rfl) ?_
            refine l_nil ?_
            refine c_if (b := (decide (a0 = 6))) rfl (fun hb => ?_) (fun hb => ?_)
            · have H27 := cnd_t hb H26; clear H26
              refine c_seq ?_
              refine c_region ?_
              refine l_val rfl rfl rfl (r_assign (v := str [108, 101, 118, 101, 108, 115]) rfl) ?_
              refine l_val rfl rfl rfl (r_assign (v := .int .i64 2) rfl) ?_
              refine l_nil ?_
              refine c_ret ?_
              obtain rfl := Option.some.inj H27
              refine ret2 (v1 := str [108, 101, 118, 101, 108, 115]) (v2 := .int .i64 2) rfl rfl rfl (fin rfl)
            · have H28 := cnd_f hb H26; clear H26
              refine c_seq ?_
              refine c_region ?_
              refine l_val rfl rfl rfl (r_eql rfl rfl) ?_
              refine l_val rfl rfl rfl (r_assign (v := .bool (decide (a0 = 7))) rfl) ?_
              refine l_nil ?_
              refine c_if (b := (decide (a0 = 7))) rfl (fun hb => ?_) (fun hb => ?_)
              · have H29 := cnd_t hb H28; clear H28
                refine c_seq ?_
                refine c_region ?_
                refine l_val rfl rfl rfl (r_assign (v := str [119, 97, 114, 109]) rfl) ?_
                refine l_val rfl rfl rfl (r_assign (v := .int .i64 1) rfl) ?_
                refine l_nil ?_
                refine c_ret ?_
                obtain rfl := Option.some.inj H29
                refine ret2 (v1 := str [119, 97, 114, 109]) (v2 := .int .i64 1) rfl rfl rfl (fin rfl)
              · have H30 := cnd_f hb H28; clear H28
                refine c_seq ?_
                refine c_region ?_
                refine l_val rfl rfl rfl (r_eql rfl rfl) ?_
                refine l_val rfl rfl rfl (r_assign (v := .bool (decide (a0 = 8))) rfl) ?_
                refine l_nil ?_
                refine c_if (b := (decide (a0 = 8))) rfl (fun hb => ?_) (fun hb => ?_)
                · have H31 := cnd_t hb H30; clear H30
                  refine c_seq ?_
                  refine c_region ?_
                  refine l_val rfl rfl rfl (r_assign (v := str [109, 117, 116, 101]) rfl) ?_
                  refine l_val rfl rfl rfl (r_assign (v := .int .i64 1) rfl) ?_
                  refine l_nil ?_
                  refine c_ret ?_
                  obtain rfl := Option.some.inj H31
                  refine ret2 (v1 := str [109, 117, 116, 101]) (v2 := .int .i64 1) rfl rfl rfl (fin rfl)
                · have H32 := cnd_f hb H30; clear H30
                  refine c_skip ?_
                  refine c_seq ?_
                  refine c_region ?_
                  refine l_val rfl rfl rfl (r_assign (v := str [105, 110, 118, 101, 114, 116]) rfl) ?_
                  refine l_val rfl rfl rfl (r_assign (v := .int .i64 0) rfl) ?_
                  refine l_nil ?_
                  refine c_ret ?_
                  obtain rfl := Option.some.inj H32
                  refine ret2 (v1 := str [105, 110, 118, 101, 114, 116]) (v2 := .int .i64 0) rfl rfl rfl (fin rfl)
theorem k110 {a0 : T_edit_Step} {r : (List Int)} {w : World} {h : Heap} (hw : Know h w noS) (H : edit_Step_numbers a0 = some r) : Does Tryd.prog 110 (List.toArray [.agg #[.int .i64 a0.Kind, .int .i64 a0.A, .int .i64 a0.B, .int .i64 a0.C, .int .i64 a0.D]]) w (fun v w' => ∃ x : (Option Addr × Nat), v = (.slice x.1 r.length x.2) ∧ Turn w w' noS (rowV 3 1 (.slice x.1 r.length x.2) r.length (r.map e_i64))) := by
  refine enter (n := 12) Tryd.func110 rfl rfl rfl noS [] (Sat.nil _ _) ?_
  refine c_seq ?_
  refine c_region ?_
  refine l_box (cs := [.int .i64 a0.Kind, .int .i64 a0.A, .int .i64 a0.B, .int .i64 a0.C, .int .i64 a0.D]) rfl rfl rfl rfl (fun b2 => ?_)
  refine l_val rfl rfl rfl (r_assign (v := .slice none 0 0) rfl) ?_
  refine l_nil ?_
  refine c_seq ?_
  refine c_region ?_
  refine l_val rfl rfl rfl (r_field Tryd.runUnderlying35 rfl Tryd.sizeOf3 rfl rfl) ?_
  refine l_load1 (i := 0) (v := .int .i64 a0.A) Tryd.isAgg3 rfl rfl rfl rfl rfl ?_
  refine l_val rfl rfl rfl (r_field Tryd.runUnderlying35 rfl Tryd.sizeOf3 rfl rfl) ?_
  refine l_load1 (i := 0) (v := .int .i64 a0.B) Tryd.isAgg3 rfl rfl rfl rfl rfl ?_
  refine l_val rfl rfl rfl (r_field Tryd.runUnderlying35 rfl Tryd.sizeOf3 rfl rfl) ?_
  refine l_load1 (i := 0) (v := .int .i64 a0.C) Tryd.isAgg3 rfl rfl rfl rfl rfl ?_
  refine l_val rfl rfl rfl (r_field Tryd.runUnderlying35 rfl Tryd.sizeOf3 rfl rfl) ?_
  refine l_load1 (i := 0) (v := .int .i64 a0.D) Tryd.isAgg3 rfl rfl rfl rfl rfl ?_
  refine l_buildSlice (vs := [.int .i64 a0.A, .int .i64 a0.B, .int .i64 a0.C, .int .i64 a0.D]) (cs := [.int .i64 a0.A, .int .i64 a0.B, .int .i64 a0.C, .int .i64 a0.D]) Tryd.underlying132 Tryd.sizeOf3 Tryd.zeroValue3 rfl rfl rfl rfl rfl rfl rfl (fun b3 => ?_)
  refine l_val rfl rfl rfl (r_assign (v := .slice (some ⟨b3, 0, none⟩) 4 4) rfl) ?_
  refine l_nil ?_
  refine c_ret ?_
  refine c_imp 1 rfl (imp_box (m := 4) (E := 3) (sz := 1) (xs := (([a0.A, a0.B, a0.C, a0.D] : List Int)).map e_i64) rfl rfl rfl ⟨rfl, by decide⟩) ?_
  obtain rfl := Option.some.inj H
  refine ret1 (v := .slice ((some ⟨b3, 0, none⟩, 4) : Option Addr × Nat).1 4 ((some ⟨b3, 0, none⟩, 4) : Option Addr × Nat).2) rfl rfl (finX ((some ⟨b3, 0, none⟩, 4) : Option Addr × Nat) (i := 1) rfl rfl (Imp.refl _))
theorem k113 {a0 : Int} {a1 : Int} {a2 : Int} {r : Bool} (H : edit_outside a0 a1 a2 = some r) : Ret Tryd.prog 113 [.int .i64 a0, .int .i64 a1, .int .i64 a2] (.bool r) := by
  refine enterRet (n := 15) Tryd.func113 rfl rfl rfl (fun wd => ?_)
  refine c_seq ?_
  refine c_region ?_
  refine l_val rfl rfl rfl (r_assign (v := .bool false) rfl) ?_
  refine l_nil ?_
  refine c_seq ?_
  refine c_region ?_
  refine l_val rfl rfl rfl (r_move (v := .int .i64 a0) rfl) ?_
  refine l_val rfl rfl rfl (r_move (v := .int .i64 a1) rfl) ?_
  refine l_val rfl rfl rfl (r_lss rfl rfl) ?_
  refine l_val rfl rfl rfl (r_move (v := .bool (decide (a0 < a1))) rfl) ?_
  refine split (fun hb => ?_) (fun hb => ?_)
  · have H3 := cnd_t hb H; clear H
    refine l_passed rfl rfl rfl ?_
    refine l_passed rfl rfl rfl ?_
    refine l_passed rfl rfl rfl ?_
    refine l_val rfl rfl rfl (r_pickT (v := .bool true) rfl rfl) ?_
    refine l_val rfl rfl rfl (r_assign (v := .bool true) rfl) ?_
    refine l_nil ?_
    refine c_ret ?_
    obtain rfl := Option.some.inj H3
    refine ret1 (v := .bool true) rfl rfl (fin rfl)
  · have H4 := cnd_f hb H; clear H
    refine l_val rfl rfl rfl (r_move (v := .int .i64 a0) rfl) ?_
    refine l_val rfl rfl rfl (r_move (v := .int .i64 a2) rfl) ?_
    refine l_val rfl rfl rfl (r_gtr rfl rfl) ?_
    refine l_val rfl rfl rfl (r_pickF (v := .bool (decide (a2 < a0))) rfl rfl) ?_
    refine l_val rfl rfl rfl (r_assign (v := .bool (decide (a2 < a0))) rfl) ?_
    refine l_nil ?_
    refine c_ret ?_
    obtain rfl := Option.some.inj H4
    refine ret1 (v := .bool (decide (a2 < a0))) rfl rfl (fin rfl)
theorem k160 {a0 : Int} {r : (Nat → (Nat → Int))} (H : edit_bounds a0 = some r) : Ret Tryd.prog 160 [.int .i64 a0] (.agg #[.int .i64 ((r 0) 0), .int .i64 ((r 0) 1), .int .i64 ((r 1) 0), .int .i64 ((r 1) 1), .int .i64 ((r 2) 0), .int .i64 ((r 2) 1), .int .i64 ((r 3) 0), .int .i64 ((r 3) 1)]) := by
  refine enterRet (n := 42) Tryd.func160 rfl rfl rfl (fun wd => ?_)
  refine c_seq ?_
  refine c_region ?_
  refine l_alloc (cs := [.int .i64 0, .int .i64 0, .int .i64 0, .int .i64 0, .int .i64 0, .int .i64 0, .int .i64 0, .int .i64 0]) Tryd.zeroValue201 rfl rfl rfl (fun b1 => ?_)
  refine l_nil ?_
  refine c_seq ?_
  refine c_seq ?_
  refine c_region ?_
  refine l_val rfl rfl rfl (r_move (v := .int .i64 a0) rfl) ?_
  refine l_nil ?_
  refine c_block ?_
  refine c_seq ?_
  refine c_region ?_
  refine l_val rfl rfl rfl (r_eql rfl rfl) ?_
  refine l_val rfl rfl rfl (r_assign (v := .bool (decide (a0 = 1))) rfl) ?_
  refine l_nil ?_
  refine c_if (b := (decide (a0 = 1))) rfl (fun hb => ?_) (fun hb => ?_)
  · have H17 := cnd_t hb H; clear H
    refine c_seq ?_
    refine c_region ?_
    refine l_val rfl rfl rfl (r_buildA (ps := [(0, .int .i64 1), (1, .int .i64 8)]) (cells := #[.int .i64 1, .int .i64 8]) Tryd.zeroValue200 Tryd.runUnderlying200 Tryd.sizeOf3 rfl rfl) ?_
    refine l_val rfl rfl rfl (r_buildA (ps := [(0, .agg #[.int .i64 1, .int .i64 8])]) (cells := #[.int .i64 1, .int .i64 8, .int .i64 0, .int .i64 0, .int .i64 0, .int .i64 0, .int .i64 0, .int .i64 0]) Tryd.zeroValue201 Tryd.runUnderlying201 Tryd.sizeOf200 rfl rfl) ?_
    refine l_store (i := 0) (vs := [.int .i64 1, .int .i64 8, .int .i64 0, .int .i64 0, .int .i64 0, .int .i64 0, .int .i64 0, .int .i64 0]) (cs' := [.int .i64 1, .int .i64 8, .int .i64 0, .int .i64 0, .int .i64 0, .int .i64 0, .int .i64 0, .int .i64 0]) Tryd.sizeOf201 rfl rfl rfl rfl rfl rfl rfl rfl rfl ?_
    refine l_nil ?_
    refine c_ret ?_
    obtain rfl := Option.some.inj H17
    refine retC (i := 0) (vs := [.int .i64 1, .int .i64 8, .int .i64 0, .int .i64 0, .int .i64 0, .int .i64 0, .int .i64 0, .int .i64 0]) Tryd.isAgg201 Tryd.sizeOf201 rfl rfl rfl rfl (fin rfl)
  · have H18 := cnd_f hb H; clear H
    refine c_seq ?_
    refine c_region ?_
    refine l_val rfl rfl rfl (r_eql rfl rfl) ?_
    refine l_val rfl rfl rfl (r_assign (v := .bool (decide (a0 = 2))) rfl) ?_
    refine l_nil ?_
    refine c_if (b := (decide (a0 = 2))) rfl (fun hb => ?_) (fun hb => ?_)
    · have H19 := cnd_t hb H18; clear H18
      refine c_seq ?_
      refine c_region ?_
      refine l_val rfl rfl rfl (r_buildA (ps := [(0, .int .i64 0), (1, .int .i64 63)]) (cells := #[.int .i64 0, .int .i64 63]) Tryd.zeroValue200 Tryd.runUnderlying200 Tryd.sizeOf3 rfl rfl) ?_
      refine l_val rfl rfl rfl (r_buildA (ps := [(0, .int .i64 0), (1, .int .i64 63)]) (cells := #[.int .i64 0, .int .i64 63]) Tryd.zeroValue200 Tryd.runUnderlying200 Tryd.sizeOf3 rfl rfl) ?_
      refine l_val rfl rfl rfl (r_buildA (ps := [(0, .int .i64 1), (1, .int .i64 64)]) (cells := #[.int .i64 1, .int .i64 64]) Tryd.zeroValue200 Tryd.runUnderlying200 Tryd.sizeOf3 rfl rfl) ?_
      refine l_val rfl rfl rfl (r_buildA (ps := [(0, .int .i64 1), (1, .int .i64 64)]) (cells := #[.int .i64 1, .int .i64 64]) Tryd.zeroValue200 Tryd.runUnderlying200 Tryd.sizeOf3 rfl rfl) ?_
      refine l_val rfl rfl rfl (r_buildA (ps := [(0, .agg #[.int .i64 0, .int .i64 63]), (1, .agg #[.int .i64 0, .int .i64 63]), (2, .agg #[.int .i64 1, .int .i64 64]), (3, .agg #[.int .i64 1, .int .i64 64])]) (cells := #[.int .i64 0, .int .i64 63, .int .i64 0, .int .i64 63, .int .i64 1, .int .i64 64, .int .i64 1, .int .i64 64]) Tryd.zeroValue201 Tryd.runUnderlying201 Tryd.sizeOf200 rfl rfl) ?_
      refine l_store (i := 0) (vs := [.int .i64 0, .int .i64 63, .int .i64 0, .int .i64 63, .int .i64 1, .int .i64 64, .int .i64 1, .int .i64 64]) (cs' := [.int .i64 0, .int .i64 63, .int .i64 0, .int .i64 63, .int .i64 1, .int .i64 64, .int .i64 1, .int .i64 64]) Tryd.sizeOf201 rfl rfl rfl rfl rfl rfl rfl rfl rfl ?_
      refine l_nil ?_
      refine c_ret ?_
      obtain rfl := Option.some.inj H19
      refine retC (i := 0) (vs := [.int .i64 0, .int .i64 63, .int .i64 0, .int .i64 63, .int .i64 1, .int .i64 64, .int .i64 1, .int .i64 64]) Tryd.isAgg201 Tryd.sizeOf201 rfl rfl rfl rfl (fin rfl)
    · have H20 := cnd_f hb H18; clear H18
      refine c_seq ?_
      refine c_region ?_
      refine l_val rfl rfl rfl (r_eql rfl rfl) ?_
      refine l_val rfl rfl rfl (r_assign (v := .bool (decide (a0 = 3))) rfl) ?_
      refine l_nil ?_
      refine c_if (b := (decide (a0 = 3))) rfl (fun hb => ?_) (fun hb => ?_)
      · have H21 := cnd_t hb H20; clear H20
        refine c_seq ?_
        refine c_region ?_
        refine l_val rfl rfl rfl (r_buildA (ps := [(0, .int .i64 1), (1, .int .i64 64)]) (cells := #[.int .i64 1, .int .i64 64]) Tryd.zeroValue200 Tryd.runUnderlying200 Tryd.sizeOf3 rfl rfl) ?_
        refine l_val rfl rfl rfl (r_buildA (ps := [(0, .int .i64 1), (1, .int .i64 64)]) (cells := #[.int .i64 1, .int .i64 64]) Tryd.zeroValue200 Tryd.runUnderlying200 Tryd.sizeOf3 rfl rfl) ?_
        refine l_val rfl rfl rfl (r_buildA (ps := [(0, .agg #[.int .i64 1, .int .i64 64]), (1, .agg #[.int .i64 1, .int .i64 64])]) (cells := #[.int .i64 1, .int .i64 64, .int .i64 1, .int .i64 64, .int .i64 0, .int .i64 0, .int .i64 0, .int .i64 0]) Tryd.zeroValue201 Tryd.runUnderlying201 Tryd.sizeOf200 rfl rfl) ?_
        refine l_store (i := 0) (vs := [.int .i64 1, .int .i64 64, .int .i64 1, .int .i64 64, .int .i64 0, .int .i64 0, .int .i64 0, .int .i64 0]) (cs' := [.int .i64 1, .int .i64 64, .int .i64 1, .int .i64 64, .int .i64 0, .int .i64 0, .int .i64 0, .int .i64 0]) Tryd.sizeOf201 rfl rfl rfl rfl rfl rfl rfl rfl rfl ?_
        refine l_nil ?_
        refine c_ret ?_
        obtain rfl := Option.some.inj H21
        refine retC (i := 0) (vs := [.int .i64 1, .int .i64 64, .int .i64 1, .int .i64 64, .int .i64 0, .int .i64 0, .int .i64 0, .int .i64 0]) Tryd.isAgg201 Tryd.sizeOf201 rfl rfl rfl rfl (fin rfl)
      · have H22 := cnd_f hb H20; clear H20
        refine c_seq ?_
        refine c_region ?_
        refine l_val rfl rfl rfl (r_eql rfl rfl) ?_
        refine l_val rfl rfl rfl (r_assign (v := .bool (decide (a0 = 4))) rfl) ?_
        refine l_nil ?_
        refine c_if (b := (decide (a0 = 4))) rfl (fun hb => ?_) (fun hb => ?_)
        · have H23 := cnd_t hb H22; clear H22
          refine c_seq ?_
          refine c_region ?_
          refine l_val rfl rfl rfl (r_buildA (ps := [(0, .int .i64 (-255)), (1, .int .i64 255)]) (cells := #[.int .i64 (-255), .int .i64 255]) Tryd.zeroValue200 Tryd.runUnderlying200 Tryd.sizeOf3 rfl rfl) ?_
          refine l_val rfl rfl rfl (r_buildA (ps := [(0, .agg #[.int .i64 (-255), .int .i64 255])]) (cells := #[.int .i64 (-255), .int .i64 255, .int .i64 0, .int .i64 0, .int .i64 0, .int .i64 0, .int .i64 0, .int .i64 0]) Tryd.zeroValue201 Tryd.runUnderlying201 Tryd.sizeOf200 rfl rfl) ?_
          refine l_store (i := 0) (vs := [.int .i64 (-255), .int .i64 255, .int .i64 0, .int .i64 0, .int .i64 0, .int .i64 0, .int .i64 0, .int .i64 0]) (cs' := [.int .i64 (-255), .int .i64 255, .int .i64 0, .int .i64 0, .int .i64 0, .int .i64 0, .int .i64 0, .int .i64 0]) Tryd.sizeOf201 rfl rfl rfl rfl rfl rfl rfl rfl rfl ?_
          refine l_nil ?_
          refine c_ret ?_
          obtain rfl := Option.some.inj H23
          refine retC (i := 0) (vs := [.int .i64 (-255), .int .i64 255, .int .i64 0, .int .i64 0, .int .i64 0, .int .i64 0, .int .i64 0, .int .i64 0]) Tryd.isAgg201 Tryd.sizeOf201 rfl rfl rfl rfl (fin rfl)
        · have H24 := cnd_f hb H22; clear H22
          refine c_seq ?_
          refine c_region ?_
          refine l_val rfl rfl rfl (r_eql rfl rfl) ?_
          refine l_val rfl rfl rfl (r_assign (v := .bool (decide (a0 = 5))) rfl) ?_
          refine l_nil ?_
          refine c_if (b := (decide (a0 = 5))) rfl (fun hb => ?_) (fun hb => ?_)
          · have H25 := cnd_t hb H24; clear H24
            refine c_seq ?_
            refine c_region ?_
            refine l_val rfl rfl rfl (r_buildA (ps := [(0, .int .i64 0), (1, .int .i64 400)]) (cells := #[.int .i64 0, .int .i64 400]) Tryd.zeroValue200 Tryd.runUnderlying200 Tryd.sizeOf3 rfl rfl) ?_
            refine l_val rfl rfl rfl (r_buildA (ps := [(0, .agg #[.int .i64 0, .int .i64 400])]) (cells := #[.int .i64 0, .int .i64 400, .int .i64 0, .int .i64 0, .int .i64 0, .int .i64 0, .int .i64 0, .int .i64 0]) Tryd.zeroValue201 Tryd.runUnderlying201 Tryd.sizeOf200 rfl rfl) ?_
            refine l_store (i := 0) (vs := [.int .i64 0, .int .i64 400, .int .i64 0, .int .i64 0, .int .i64 0, .int .i64 0, .int .i64 0, .int .i64 0]) (cs' := [.int .i64 0, .int .i64 400, .int .i64 0, .int .i64 0, .int .i64 0, .int .i64 0, .int .i64 0, .int .i64 0]) Tryd.sizeOf201 rfl rfl rfl rfl rfl rfl rfl rfl rfl ?_
            refine l_nil ?_
            refine c_ret ?_
            obtain rfl := Option.some.inj H25
            refine retC (i := 0) (vs := [.int .i64 0, .int .i64 400, .int .i64 0, .int .i64 0, .int .i64 0, .int .i64 0, .int .i64 0, .int .i64 0]) Tryd.isAgg201 Tryd.sizeOf201 rfl rfl rfl rfl (fin rfl)
          · have H26 := cnd_f hb H24; clear H24
            refine c_seq ?_
            refine c_region ?_
            refine l_val rfl rfl rfl (r_eql rfl rfl) ?_
            refine l_val rfl rfl rfl (r_assign (v := .bool (decide (a0 = 6))) rfl) ?_
            refine l_nil ?_
            refine c_if (b := (decide (a0 = 6))) rfl (fun hb => ?_) (fun hb => ?_)
            · have H27 := cnd_t hb H26; clear H26
              refine c_seq ?_
              refine c_region ?_
              refine l_val rfl rfl rfl (r_buildA (ps := [(0, .int .i64 0), (1, .int .i64 255)]) (cells := #[.int .i64 0, .int .i64 255]) Tryd.zeroValue200 Tryd.runUnderlying200 Tryd.sizeOf3 rfl rfl) ?_
              refine l_val rfl rfl rfl (r_buildA (ps := [(0, .int .i64 0), (1, .int .i64 255)]) (cells := #[.int .i64 0, .int .i64 255]) Tryd.zeroValue200 Tryd.runUnderlying200 Tryd.sizeOf3 rfl rfl) ?_
              refine l_val rfl rfl rfl (r_buildA (ps := [(0, .agg #[.int .i64 0, .int .i64 255]), (1, .agg #[.int .i64 0, .int .i64 255])]) (cells := #[.int .i64 0, .int .i64 255, .int .i64 0, .int .i64 255, .int .i64 0, .int .i64 0, .int .i64 0, .int .i64 0]) Tryd.zeroValue201 Tryd.runUnderlying201 Tryd.sizeOf200 rfl rfl) ?_
              refine l_store (i := 0) (vs := [.int .i64 0, .int .i64 255, .int .i64 0, .int .i64 255, .int .i64 0, .int .i64 0, .int .i64 0, .int .i64 0]) (cs' := [.int .i64 0, .int .i64 255, .int .i64 0, .int .i64 255, .int .i64 0, .int .i64 0, .int .i64 0, .int .i64 0]) Tryd.sizeOf201 rfl rfl rfl rfl rfl rfl rfl rfl rfl ?_
              refine l_nil ?_
              refine c_ret ?_
              obtain rfl := Option.some.inj H27
              refine retC (i := 0) (vs := [.int .i64 0, .int .i64 255, .int .i64 0, .int .i64 255, .int .i64 0, .int .i64 0, .int .i64 0, .int .i64 0]) Tryd.isAgg201 Tryd.sizeOf201 rfl rfl rfl rfl (fin rfl)
            · have H28 := cnd_f hb H26; clear H26
              refine c_seq ?_
              refine c_region ?_
              refine l_val rfl rfl rfl (r_eql rfl rfl) ?_
              refine l_val rfl rfl rfl (r_assign (v := .bool (decide (a0 = 7))) rfl) ?_
              refine l_nil ?_
              refine c_if (b := (decide (a0 = 7))) rfl (fun hb => ?_) (fun hb => ?_)
              · have H29 := cnd_t hb H28; clear H28
                refine c_seq ?_
                refine c_region ?_
                refine l_val rfl rfl rfl (r_buildA (ps := [(0, .int .i64 (-100)), (1, .int .i64 100)]) (cells := #[.int .i64 (-100), .int .i64 100]) Tryd.zeroValue200 Tryd.runUnderlying200 Tryd.sizeOf3 rfl rfl) ?_
                refine l_val rfl rfl rfl (r_buildA (ps := [(0, .agg #[.int .i64 (-100), .int .i64 100])]) (cells := #[.int .i64 (-100), .int .i64 100, .int .i64 0, .int .i64 0, .int .i64 0, .int .i64 0, .int .i64 0, .int .i64 0]) Tryd.zeroValue201 Tryd.runUnderlying201 Tryd.sizeOf200 rfl rfl) ?_
                refine l_store (i := 0) (vs := [.int .i64 (-100), .int .i64 100, .int .i64 0, .int .i64 0, .int .i64 0, .int .i64 0, .int .i64 0, .int .i64 0]) (cs' := [.int .i64 (-100), .int .i64 100, .int .i64 0, .int .i64 0, .int .i64 0, .int .i64 0, .int .i64 0, .int .i64 0]) Tryd.sizeOf201 rfl rfl rfl rfl rfl rfl rfl rfl rfl ?_
                refine l_nil ?_
                refine c_ret ?_
                obtain rfl := Option.some.inj H29
                refine retC (i := 0) (vs := [.int .i64 (-100), .int .i64 100, .int .i64 0, .int .i64 0, .int .i64 0, .int .i64 0, .int .i64 0, .int .i64 0]) Tryd.isAgg201 Tryd.sizeOf201 rfl rfl rfl rfl (fin rfl)
              · have H30 := cnd_f hb H28; clear H28
                refine c_seq ?_
                refine c_region ?_
                refine l_val rfl rfl rfl (r_eql rfl rfl) ?_
                refine l_val rfl rfl rfl (r_assign (v := .bool (decide (a0 = 8))) rfl) ?_
                refine l_nil ?_
                refine c_if (b := (decide (a0 = 8))) rfl (fun hb => ?_) (fun hb => ?_)
                · have H31 := cnd_t hb H30; clear H30
                  refine c_seq ?_
                  refine c_region ?_
                  refine l_val rfl rfl rfl (r_buildA (ps := [(0, .int .i64 0), (1, .int .i64 100)]) (cells := #[.int .i64 0, .int .i64 100]) Tryd.zeroValue200 Tryd.runUnderlying200 Tryd.sizeOf3 rfl rfl) ?_
                  refine l_val rfl rfl rfl (r_buildA (ps := [(0, .agg #[.int .i64 0, .int .i64 100])]) (cells := #[.int .i64 0, .int .i64 100, .int .i64 0, .int .i64 0, .int .i64 0, .int .i64 0, .int .i64 0, .int .i64 0]) Tryd.zeroValue201 Tryd.runUnderlying201 Tryd.sizeOf200 rfl rfl) ?_
                  refine l_store (i := 0) (vs := [.int .i64 0, .int .i64 100, .int .i64 0, .int .i64 0, .int .i64 0, .int .i64 0, .int .i64 0, .int .i64 0]) (cs' := [.int .i64 0, .int .i64 100, .int .i64 0, .int .i64 0, .int .i64 0, .int .i64 0, .int .i64 0, .int .i64 0]) Tryd.sizeOf201 rfl rfl rfl rfl rfl rfl rfl rfl rfl ?_
                  refine l_nil ?_
                  refine c_ret ?_
                  obtain rfl := Option.some.inj H31
                  refine retC (i := 0) (vs := [.int .i64 0, .int .i64 100, .int .i64 0, .int .i64 0, .int .i64 0, .int .i64 0, .int .i64 0, .int .i64 0]) Tryd.isAgg201 Tryd.sizeOf201 rfl rfl rfl rfl (fin rfl)
                · have H32 := cnd_f hb H30; clear H30
                  refine c_skip ?_
                  refine c_seq ?_
                  refine c_region ?_
                  refine l_val rfl rfl rfl (r_buildA (ps := []) (cells := #[.int .i64 0, .int .i64 0, .int .i64 0, .int .i64 0, .int .i64 0, .int .i64 0, .int .i64 0, .int .i64 0]) Tryd.zeroValue201 Tryd.runUnderlying201 Tryd.sizeOf200 rfl rfl) ?_
                  refine l_store (i := 0) (vs := [.int .i64 0, .int .i64 0, .int .i64 0, .int .i64 0, .int .i64 0, .int .i64 0, .int .i64 0, .int .i64 0]) (cs' := [.int .i64 0, .int .i64 0, .int .i64 0, .int .i64 0, .int .i64 0, .int .i64 0, .int .i64 0, .int .i64 0]) Tryd.sizeOf201 rfl rfl rfl rfl rfl rfl rfl rfl rfl ?_
                  refine l_nil ?_
                  refine c_ret ?_
                  obtain rfl := Option.some.inj H32
                  refine retC (i := 0) (vs := [.int .i64 0, .int .i64 0, .int .i64 0, .int .i64 0, .int .i64 0, .int .i64 0, .int .i64 0, .int .i64 0]) Tryd.isAgg201 Tryd.sizeOf201 rfl rfl rfl rfl (fin rfl)
theorem k116 {a0 : T_edit_Step} {r : Int} (H : edit_CheckStep a0 = some r) : Ret Tryd.prog 116 [.agg #[.int .i64 a0.Kind, .int .i64 a0.A, .int .i64 a0.B, .int .i64 a0.C, .int .i64 a0.D]] (.int .i64 r) := by
  refine enterRet (n := 66) Tryd.func116 rfl rfl rfl (fun wd => ?_)
  refine c_seq ?_
  refine c_region ?_
  refine l_box (cs := [.int .i64 a0.Kind, .int .i64 a0.A, .int .i64 a0.B, .int .i64 a0.C, .int .i64 a0.D]) rfl rfl rfl rfl (fun b2 => ?_)
  refine l_val rfl rfl rfl (r_assign (v := .int .i64 0) rfl) ?_
  refine l_nil ?_
  refine c_seq ?_
  refine c_seq ?_
  refine c_region ?_
  refine l_val rfl rfl rfl (r_field Tryd.runUnderlying35 rfl Tryd.sizeOf3 rfl rfl) ?_
  refine l_load1 (i := 0) (v := .int .i64 a0.Kind) Tryd.isAgg3 rfl rfl rfl rfl rfl ?_
  obtain ⟨t13, h_t13, H32⟩ := bnd_some H; clear H
  refine l_call (k113 h_t13) Tryd.call113 rfl rfl rfl ?_
  refine l_nil ?_
  refine c_if (b := t13) rfl (fun hb => ?_) (fun hb => ?_)
  · have H33 := cnd_t hb H32; clear H32
    refine c_seq ?_
    refine c_region ?_
    refine l_val rfl rfl rfl (r_assign (v := .int .i64 10) rfl) ?_
    refine l_nil ?_
    refine c_ret ?_
    obtain rfl := Option.some.inj H33
    refine ret1 (v := .int .i64 10) rfl rfl (fin rfl)
  · have H34 := cnd_f hb H32; clear H32
    refine c_skip ?_
    refine c_seq ?_
    refine c_region ?_
    refine l_val rfl rfl rfl (r_field Tryd.runUnderlying35 rfl Tryd.sizeOf3 rfl rfl) ?_
    refine l_load1 (i := 0) (v := .int .i64 a0.Kind) Tryd.isAgg3 rfl rfl rfl rfl rfl ?_
    obtain ⟨t17, h_t17, H35⟩ := bnd_some H34; clear H34
    refine l_call (k109 h_t17) Tryd.call109 rfl rfl rfl ?_
    refine l_val rfl rfl rfl (r_move (v := .tuple #[str t17.1, .int .i64 t17.2]) rfl) ?_
    refine l_val rfl rfl rfl (r_extract (v := str t17.1) rfl rfl) ?_
    refine l_val rfl rfl rfl (r_extract (v := .int .i64 t17.2) rfl rfl) ?_
    refine l_val rfl rfl rfl (r_assign (v := str t17.1) rfl) ?_
    refine l_val rfl rfl rfl (r_assign (v := .int .i64 t17.2) rfl) ?_
    refine l_nil ?_
    refine c_seq ?_
    refine c_region ?_
    refine l_loadN (i := 0) (vs := [.int .i64 a0.Kind, .int .i64 a0.A, .int .i64 a0.B, .int .i64 a0.C, .int .i64 a0.D]) Tryd.isAgg35 Tryd.sizeOf35 rfl rfl rfl rfl rfl ?_
    obtain ⟨t21, h_t21, H36⟩ := bnd_some H35; clear H35
    refine l_make (makes_call (rds := []) (G := fun x : (Option Addr × Nat) => .slice x.1 t21.length x.2) (C := fun x : (Option Addr × Nat) => rowV 3 1 (.slice x.1 t21.length x.2) t21.length (t21.map e_i64)) (fun w L' hF hS hi => k110 (know_all w)  h_t21) Tryd.call110 rfl) rfl rfl rfl (fun p => ?_)
    refine l_val rfl rfl rfl (r_assign (v := .slice p.1 t21.length p.2) rfl) ?_
    refine l_nil ?_
    refine c_meet (r := r) (σ := Unit) (τ := Unit) (fun s => edit_CheckStep_j1 a0 t17 t21) (fun s t => [(1, .pointer (some ⟨b2, 0, none⟩)), (4, .int .i64 t17.2), (5, .slice p.1 t21.length p.2)]) (fun s t => [cellsC b2 [.int .i64 a0.Kind, .int .i64 a0.A, .int .i64 a0.B, .int .i64 a0.C, .int .i64 a0.D] 35, rowV 3 1 (.slice p.1 t21.length p.2) t21.length (t21.map e_i64)]) (fun s t => True) ?_ ?_
    · refine c_seq ?_
      refine c_region ?_
      refine l_val rfl rfl rfl (r_move (v := .slice p.1 t21.length p.2) rfl) ?_
      refine l_val rfl rfl rfl (r_move (v := .int .i64 t17.2) rfl) ?_
      obtain ⟨t24, h_t24, H55⟩ := bnd_some H36; clear H36
      refine l_read (v := .slice (cutA p.1 (Int.toNat t17.2) p.2 1) t24.length (p.2 - Int.toNat t17.2)) (fun w hF hS => run_sliceLO (xs := t21) Tryd.underlying132 Tryd.sizeOf3 rfl rfl rfl (capOf (i := 1) hS rfl) h_t24) rfl rfl rfl ?_
      refine l_val rfl rfl rfl (r_len Tryd.underlying132 rfl) ?_
      refine l_val rfl rfl rfl (r_move (v := .int .i64 0) rfl) ?_
      refine l_nil ?_
      refine c_block ?_
      refine c_fix (σ := Int) (τ := Unit) (fun next4 s => edit_CheckStep_l4 a0 t17 t21 t24 next4 s) (fun s t => [(1, .pointer (some ⟨b2, 0, none⟩)), (4, .int .i64 t17.2), (5, .slice p.1 t21.length p.2), (24, .slice (cutA p.1 (Int.toNat t17.2) p.2 1) t24.length (p.2 - Int.toNat t17.2)), (25, .int .i64 (t24.length : Int)), (26, .int .i64 s)]) (fun s t => [cellsC b2 [.int .i64 a0.Kind, .int .i64 a0.A, .int .i64 a0.B, .int .i64 a0.C, .int .i64 a0.D] 35, rowV 3 1 (.slice p.1 t21.length p.2) t21.length (t21.map e_i64)]) (fun s t => True) 0 () [0, 1] H55 (by exact trivial) (by exact ⟨rfl, rfl, rfl, rfl, rfl, rfl, trivial⟩) (by decide) rfl ?_
      rintro x26_2 _ m4 gg H56 _
      clear H55
      replace H56 : edit_CheckStep_l4 a0 t17 t21 t24 (it (fun next4 s => edit_CheckStep_l4 a0 t17 t21 t24 next4 s) m4) x26_2 = some r := H56
      generalize hn4 : it (fun next4 s => edit_CheckStep_l4 a0 t17 t21 t24 next4 s) m4 = next4 at H56
      refine c_tidyF [(1, .pointer (some ⟨b2, 0, none⟩)), (4, .int .i64 t17.2), (5, .slice p.1 t21.length p.2), (24, .slice (cutA p.1 (Int.toNat t17.2) p.2 1) t24.length (p.2 - Int.toNat t17.2)), (25, .int .i64 (t24.length : Int)), (26, .int .i64 x26_2)] [cellsC b2 [.int .i64 a0.Kind, .int .i64 a0.A, .int .i64 a0.B, .int .i64 a0.C, .int .i64 a0.D] 35, rowV 3 1 (.slice p.1 t21.length p.2) t21.length (t21.map e_i64)] rfl rfl ?_
      refine c_seq ?_
      refine c_region ?_
      refine l_val rfl rfl rfl (r_lss rfl rfl) ?_
      refine l_nil ?_
      refine c_seq ?_
      refine c_if (b := (decide (x26_2 < (t24.length : Int)))) rfl (fun hb => ?_) (fun hb => ?_)
      · have H57 := cnd_t hb H56; clear H56
        refine c_skip ?_
        refine c_seq ?_
        refine c_block ?_
        refine c_seq ?_
        refine c_region ?_
        obtain ⟨t28, h_t28, H58⟩ := bnd_some H57; clear H57
        refine l_read (fun w hF hS => run_indexO Tryd.underlying132 Tryd.sizeOf3 rfl rfl (Row.cutG (rowOf (i := 1) hS rfl) rfl (capOf (i := 1) hS rfl) h_t24) rfl h_t28) rfl rfl rfl ?_
        refine l_read (fun w hF hS => run_loadG1 (f := e_i64) (i := x26_2) (sz := 1) (j := 0) (v := .int .i64 t28) Tryd.isAgg3 rfl rfl (Row.cutG (rowOf (i := 1) hS rfl) rfl (capOf (i := 1) hS rfl) h_t24) h_t28 rfl) rfl rfl rfl ?_
        refine l_val rfl rfl rfl (r_assign (v := .int .i64 t28) rfl) ?_
        refine l_nil ?_
        refine c_seq ?_
        refine c_region ?_
        refine l_val rfl rfl rfl (r_move (v := .int .i64 t28) rfl) ?_
        refine l_val rfl rfl rfl (r_neq rfl rfl) ?_
        refine l_nil ?_
        refine c_if (b := (decide (t28 ≠ 0))) rfl (fun hb => ?_) (fun hb => ?_)
        · have H59 := cnd_t hb H58; clear H58
          refine c_seq ?_
          refine c_region ?_
          refine l_val rfl rfl rfl (r_assign (v := .int .i64 1) rfl) ?_
          refine l_nil ?_
          refine c_ret ?_
          obtain rfl := Option.some.inj H59
          refine ret1 (v := .int .i64 1) rfl rfl (fin rfl)
        · have H60 := cnd_f hb H58; clear H58
          refine c_skip ?_
          refine c_region ?_
          obtain ⟨t32, h_t32, H61⟩ := bnd_some H60; clear H60
          refine l_val rfl rfl rfl (r_addG rfl rfl h_t32) ?_
          refine l_val rfl rfl rfl (r_move (v := .int .i64 t32) rfl) ?_
          refine l_nil ?_
          refine c_close t32 () m4 [0, 1] (by exact ⟨rfl, rfl, rfl, rfl, rfl, rfl, trivial⟩) (by decide) rfl (by exact ⟨(by subst hn4; exact H61), trivial⟩) (Nat.lt_succ_self _)
      · have H62 := cnd_f hb H56; clear H56
        refine c_exit ?_
        refine c_close () () 0 [0, 1] (by exact ⟨rfl, rfl, rfl, trivial⟩) (by decide) rfl (by exact ⟨H62, trivial⟩) (Nat.lt_succ_self _)
    · rintro _ _ gg H37 _
      replace H37 : edit_CheckStep_j1 a0 t17 t21 = some r := H37
      refine c_tidyF [(1, .pointer (some ⟨b2, 0, none⟩)), (4, .int .i64 t17.2), (5, .slice p.1 t21.length p.2)] [cellsC b2 [.int .i64 a0.Kind, .int .i64 a0.A, .int .i64 a0.B, .int .i64 a0.C, .int .i64 a0.D] 35, rowV 3 1 (.slice p.1 t21.length p.2) t21.length (t21.map e_i64)] rfl rfl ?_
      refine c_seq ?_
      refine c_region ?_
      refine l_val rfl rfl rfl (r_field Tryd.runUnderlying35 rfl Tryd.sizeOf3 rfl rfl) ?_
      refine l_load1 (i := 0) (v := .int .i64 a0.Kind) Tryd.isAgg3 rfl rfl rfl rfl rfl ?_
      obtain ⟨t35, h_t35, H38⟩ := bnd_some H37; clear H37
      refine l_call (k160 h_t35) Tryd.call160 rfl rfl rfl ?_
      refine l_alloc (cs := [.int .i64 0, .int .i64 0, .int .i64 0, .int .i64 0, .int .i64 0, .int .i64 0, .int .i64 0, .int .i64 0]) Tryd.zeroValue201 rfl rfl rfl (fun b3 => ?_)
      refine l_store (i := 2) (vs := [.int .i64 ((t35 0) 0), .int .i64 ((t35 0) 1), .int .i64 ((t35 1) 0), .int .i64 ((t35 1) 1), .int .i64 ((t35 2) 0), .int .i64 ((t35 2) 1), .int .i64 ((t35 3) 0), .int .i64 ((t35 3) 1)]) (cs' := [.int .i64 ((t35 0) 0), .int .i64 ((t35 0) 1), .int .i64 ((t35 1) 0), .int .i64 ((t35 1) 1), .int .i64 ((t35 2) 0), .int .i64 ((t35 2) 1), .int .i64 ((t35 3) 0), .int .i64 ((t35 3) 1)]) Tryd.sizeOf201 rfl rfl rfl rfl rfl rfl rfl rfl rfl ?_
      refine l_nil ?_
      refine c_meet (r := r) (σ := Unit) (τ := Unit) (fun s => edit_CheckStep_j2 a0) (fun s t => [(1, .pointer (some ⟨b2, 0, none⟩))]) (fun s t => [cellsC b2 [.int .i64 a0.Kind, .int .i64 a0.A, .int .i64 a0.B, .int .i64 a0.C, .int .i64 a0.D] 35]) (fun s t => True) ?_ ?_
      · refine c_seq ?_
        refine c_region ?_
        refine l_val rfl rfl rfl (r_move (v := .slice p.1 t21.length p.2) rfl) ?_
        refine l_val rfl rfl rfl (r_move (v := .int .i64 t17.2) rfl) ?_
        obtain ⟨t38, h_t38, H44⟩ := bnd_some H38; clear H38
        refine l_read (v := .slice (cutA p.1 (Int.toNat (0 : Int)) p.2 1) t38.length (p.2 - Int.toNat (0 : Int))) (fun w hF hS => run_sliceHO (xs := t21) Tryd.underlying132 Tryd.sizeOf3 rfl rfl rfl (capOf (i := 1) hS rfl) h_t38) rfl rfl rfl ?_
        refine l_val rfl rfl rfl (r_len Tryd.underlying132 rfl) ?_
        refine l_val rfl rfl rfl (r_move (v := .int .i64 0) rfl) ?_
        refine l_nil ?_
        refine c_block ?_
        refine c_fix (σ := Int) (τ := Unit) (fun next3 s => edit_CheckStep_l3 a0 t35 t38 next3 s) (fun s t => [(1, .pointer (some ⟨b2, 0, none⟩)), (8, .pointer (some ⟨b3, 0, none⟩)), (38, .slice (cutA p.1 (Int.toNat (0 : Int)) p.2 1) t38.length (p.2 - Int.toNat (0 : Int))), (39, .int .i64 (t38.length : Int)), (40, .int .i64 s)]) (fun s t => [cellsC b2 [.int .i64 a0.Kind, .int .i64 a0.A, .int .i64 a0.B, .int .i64 a0.C, .int .i64 a0.D] 35, rowV 3 1 (.slice p.1 t21.length p.2) t21.length (t21.map e_i64), cellsC b3 [.int .i64 ((t35 0) 0), .int .i64 ((t35 0) 1), .int .i64 ((t35 1) 0), .int .i64 ((t35 1) 1), .int .i64 ((t35 2) 0), .int .i64 ((t35 2) 1), .int .i64 ((t35 3) 0), .int .i64 ((t35 3) 1)] 201]) (fun s t => True) 0 () [0, 1, 2] H44 (by exact trivial) (by exact ⟨rfl, rfl, rfl, rfl, rfl, trivial⟩) (by decide) rfl ?_
        rintro x40_2 _ m3 gg H45 _
        clear H44
        replace H45 : edit_CheckStep_l3 a0 t35 t38 (it (fun next3 s => edit_CheckStep_l3 a0 t35 t38 next3 s) m3) x40_2 = some r := H45
        generalize hn3 : it (fun next3 s => edit_CheckStep_l3 a0 t35 t38 next3 s) m3 = next3 at H45
        refine c_tidyF [(1, .pointer (some ⟨b2, 0, none⟩)), (8, .pointer (some ⟨b3, 0, none⟩)), (38, .slice (cutA p.1 (Int.toNat (0 : Int)) p.2 1) t38.length (p.2 - Int.toNat (0 : Int))), (39, .int .i64 (t38.length : Int)), (40, .int .i64 x40_2)] [cellsC b2 [.int .i64 a0.Kind, .int .i64 a0.A, .int .i64 a0.B, .int .i64 a0.C, .int .i64 a0.D] 35, rowV 3 1 (.slice p.1 t21.length p.2) t21.length (t21.map e_i64), cellsC b3 [.int .i64 ((t35 0) 0), .int .i64 ((t35 0) 1), .int .i64 ((t35 1) 0), .int .i64 ((t35 1) 1), .int .i64 ((t35 2) 0), .int .i64 ((t35 2) 1), .int .i64 ((t35 3) 0), .int .i64 ((t35 3) 1)] 201] rfl rfl ?_
        refine c_seq ?_
        refine c_region ?_
        refine l_val rfl rfl rfl (r_lss rfl rfl) ?_
        refine l_nil ?_
        refine c_seq ?_
        refine c_if (b := (decide (x40_2 < (t38.length : Int)))) rfl (fun hb => ?_) (fun hb => ?_)
        · have H46 := cnd_t hb H45; clear H45
          refine c_skip ?_
          refine c_seq ?_
          refine c_block ?_
          refine c_seq ?_
          refine c_region ?_
          refine l_val rfl rfl rfl (r_move (v := .int .i64 x40_2) rfl) ?_
          obtain ⟨t43, h_t43, H47⟩ := bnd_some H46; clear H46
          refine l_read (fun w hF hS => run_indexO Tryd.underlying132 Tryd.sizeOf3 rfl rfl (Row.cutG (rowOf (i := 1) hS rfl) rfl (capOf (i := 1) hS rfl) h_t38) rfl h_t43) rfl rfl rfl ?_
          refine l_read (fun w hF hS => run_loadG1 (f := e_i64) (i := x40_2) (sz := 1) (j := 0) (v := .int .i64 t43) Tryd.isAgg3 rfl rfl (Row.cutG (rowOf (i := 1) hS rfl) rfl (capOf (i := 1) hS rfl) h_t38) h_t43 rfl) rfl rfl rfl ?_
          refine l_val rfl rfl rfl (r_assign (v := .int .i64 x40_2) rfl) ?_
          refine l_val rfl rfl rfl (r_assign (v := .int .i64 t43) rfl) ?_
          refine l_nil ?_
          refine c_seq ?_
          exact c_regionD (Kd.p :: Kd.p :: Kd.p :: Kd.p :: Kd.d [2] _ :: Kd.p :: Kd.p :: Kd.p :: Kd.d [2] _ :: Kd.d [] _ :: []) 0 mixed (by
            refine d_val rfl rfl (r_move (v := .int .i64 t43) rfl) ?_
            refine d_val rfl rfl (r_move (v := .int .i64 x40_2) rfl) ?_
            have h_k47 := bnd_val H47
            have H48 := bnd_rest H47
            refine d_val rfl rfl (r_indexPG Tryd.runUnderlying201 Tryd.sizeOf200 rfl rfl h_k47) ?_
            refine d_val rfl rfl (r_indexPA0 Tryd.runUnderlying200 Tryd.sizeOf3 rfl rfl (by decide)) ?_
            refine d_load1 (i := 2) (v := .int .i64 ((t35 (val (gIx 4 x40_2))) 0)) Tryd.isAgg3 rfl rfl rfl (rg_arr (pre := []) (post := []) (f := fun j_ => [.int .i64 ((t35 j_) 0), .int .i64 ((t35 j_) 1)]) (n := 4) (sz := 2) (q := 0) rfl rfl (fun _ => rfl) (gIx_lt h_k47) rfl) ?_
            refine d_val rfl rfl (r_move (v := .int .i64 x40_2) rfl) ?_
            have h_k51 := bnd_val H48
            have H49 := bnd_rest H48
            refine d_val rfl rfl (r_indexPG Tryd.runUnderlying201 Tryd.sizeOf200 rfl rfl h_k51) ?_
            refine d_val rfl rfl (r_indexPA Tryd.runUnderlying200 Tryd.sizeOf3 rfl rfl (by decide) (by decide)) ?_
            refine d_load1 (i := 2) (v := .int .i64 ((t35 (val (gIx 4 x40_2))) 1)) Tryd.isAgg3 rfl rfl rfl (rg_arr (pre := []) (post := []) (f := fun j_ => [.int .i64 ((t35 j_) 0), .int .i64 ((t35 j_) 1)]) (n := 4) (sz := 2) (q := 1) rfl rfl (fun _ => rfl) (gIx_lt h_k51) rfl) ?_
            have h_t54 := bnd_val H49
            have H50 := bnd_rest H49
            refine d_call (k113 h_t54) Tryd.call113 rfl rfl ?_
            refine d_nil ?_
            refine c_if (b := (val (edit_outside t43 ((t35 (val (gIx 4 x40_2))) 0) ((t35 (val (gIx 4 x40_2))) 1)))) rfl (fun hb => ?_) (fun hb => ?_)
            · have H51 := cnd_t hb H50; clear H50
              refine c_seq ?_
              refine c_region ?_
              refine l_val rfl rfl rfl (r_assign (v := .int .i64 2) rfl) ?_
              refine l_nil ?_
              refine c_ret ?_
              obtain rfl := Option.some.inj H51
              refine ret1 (v := .int .i64 2) rfl rfl (fin rfl)
            · have H52 := cnd_f hb H50; clear H50
              refine c_skip ?_
              refine c_region ?_
              obtain ⟨t55, h_t55, H53⟩ := bnd_some H52; clear H52
              refine l_val rfl rfl rfl (r_addG rfl rfl h_t55) ?_
              refine l_val rfl rfl rfl (r_move (v := .int .i64 t55) rfl) ?_
              refine l_nil ?_
              refine c_close t55 () m3 [0, 1, 2] (by exact ⟨rfl, rfl, rfl, rfl, rfl, trivial⟩) (by decide) rfl (by exact ⟨(by subst hn3; exact H53), trivial⟩) (Nat.lt_succ_self _)
            ) (by kernel_rfl)
        · have H54 := cnd_f hb H45; clear H45
          refine c_exit ?_
          refine c_close () () 0 [0] (by exact ⟨rfl, trivial⟩) (by decide) rfl (by exact ⟨H54, trivial⟩) (Nat.lt_succ_self _)
      · rintro _ _ gg H39 _
        replace H39 : edit_CheckStep_j2 a0 = some r := H39
        refine c_tidyF [(1, .pointer (some ⟨b2, 0, none⟩))] [cellsC b2 [.int .i64 a0.Kind, .int .i64 a0.A, .int .i64 a0.B, .int .i64 a0.C, .int .i64 a0.D] 35] rfl rfl ?_
        refine c_seq ?_
        refine c_seq ?_
        refine c_region ?_
        refine l_val rfl rfl rfl (r_field Tryd.runUnderlying35 rfl Tryd.sizeOf3 rfl rfl) ?_
        refine l_load1 (i := 0) (v := .int .i64 a0.Kind) Tryd.isAgg3 rfl rfl rfl rfl rfl ?_
        refine l_val rfl rfl rfl (r_eql rfl rfl) ?_
        refine l_val rfl rfl rfl (r_move (v := .bool (decide (a0.Kind = 6))) rfl) ?_
        refine split (fun hb => ?_) (fun hb => ?_)
        · have H40 := cnd_t hb H39; clear H39
          refine l_val rfl rfl rfl (r_field Tryd.runUnderlying35 rfl Tryd.sizeOf3 rfl rfl) ?_
          refine l_load1 (i := 0) (v := .int .i64 a0.B) Tryd.isAgg3 rfl rfl rfl rfl rfl ?_
          refine l_val rfl rfl rfl (r_field Tryd.runUnderlying35 rfl Tryd.sizeOf3 rfl rfl) ?_
          refine l_load1 (i := 0) (v := .int .i64 a0.A) Tryd.isAgg3 rfl rfl rfl rfl rfl ?_
          refine l_val rfl rfl rfl (r_leq rfl rfl) ?_
          refine l_val rfl rfl rfl (r_pickT (v := .bool (decide (a0.B ≤ a0.A))) rfl rfl) ?_
          refine l_nil ?_
          refine c_if (b := (decide (a0.B ≤ a0.A))) rfl (fun hb => ?_) (fun hb => ?_)
          · have H41 := cnd_t hb H40; clear H40
            refine c_seq ?_
            refine c_region ?_
            refine l_val rfl rfl rfl (r_assign (v := .int .i64 5) rfl) ?_
            refine l_nil ?_
            refine c_ret ?_
            obtain rfl := Option.some.inj H41
            refine ret1 (v := .int .i64 5) rfl rfl (fin rfl)
          · have H42 := cnd_f hb H40; clear H40
            refine c_skip ?_
            refine c_seq ?_
            refine c_region ?_
            refine l_val rfl rfl rfl (r_assign (v := .int .i64 0) rfl) ?_
            refine l_nil ?_
            refine c_ret ?_
            obtain rfl := Option.some.inj H42
            refine ret1 (v := .int .i64 0) rfl rfl (fin rfl)
        · have H43 := cnd_f hb H39; clear H39
          refine l_passed rfl rfl rfl ?_
          refine l_passed rfl rfl rfl ?_
          refine l_passed rfl rfl rfl ?_
          refine l_passed rfl rfl rfl ?_
          refine l_passed rfl rfl rfl ?_
          refine l_val rfl rfl rfl (r_pickF (v := .bool false) rfl rfl) ?_
          refine l_nil ?_
          refine c_false rfl ?_
          refine c_skip ?_
          refine c_seq ?_
          refine c_region ?_
          refine l_val rfl rfl rfl (r_assign (v := .int .i64 0) rfl) ?_
          refine l_nil ?_
          refine c_ret ?_
          obtain rfl := Option.some.inj H43
          refine ret1 (v := .int .i64 0) rfl rfl (fin rfl)
theorem k69 {a0 : (List T_edit_Step)} {v0 : Value} {r : Int} {w : World} {h : Heap} (hw : Know h w noS) (f0 : FrS h 5 v0 (a0.map e_edit_Step)) (H : edit_Check a0 = some r) : Does Tryd.prog 69 (List.toArray [v0]) w (fun v w' => v = (.int .i64 r) ∧ Grow w w') := by
  refine enter (n := 21) Tryd.func69 rfl rfl rfl noS [] (Sat.nil _ _) ?_
  refine c_seq ?_
  refine c_region ?_
  refine l_val rfl rfl rfl (r_assign (v := .int .i64 0) rfl) ?_
  refine l_nil ?_
  refine c_seq ?_
  refine c_seq ?_
  refine c_region ?_
  refine l_val rfl rfl rfl (r_move (v := v0) rfl) ?_
  refine l_val rfl rfl rfl (r_lenF Tryd.underlying22 rfl f0 rfl) ?_
  refine l_val rfl rfl rfl (r_gtr rfl rfl) ?_
  refine l_nil ?_
  refine c_if (b := (decide (50 < (a0.length : Int)))) rfl (fun hb => ?_) (fun hb => ?_)
  · have H11 := cnd_t hb H; clear H
    refine c_seq ?_
    refine c_region ?_
    refine l_val rfl rfl rfl (r_assign (v := .int .i64 4) rfl) ?_
    refine l_nil ?_
    refine c_ret ?_
    obtain rfl := Option.some.inj H11
    refine ret1 (v := .int .i64 4) rfl rfl (fin rfl)
  · have H12 := cnd_f hb H; clear H
    refine c_skip ?_
    refine c_seq ?_
    refine c_seq ?_
    refine c_region ?_
    refine l_val rfl rfl rfl (r_move (v := v0) rfl) ?_
    refine l_val rfl rfl rfl (r_lenF Tryd.underlying22 rfl f0 rfl) ?_
    refine l_val rfl rfl rfl (r_move (v := .int .i64 0) rfl) ?_
    refine l_nil ?_
    refine c_block ?_
    refine c_fix (σ := Int) (τ := Unit) (fun next1 s => edit_Check_l1 a0 next1 s) (fun s t => [(9, v0), (10, .int .i64 (a0.length : Int)), (11, .int .i64 s)]) (fun s t => []) (fun s t => True) 0 () [] H12 (by exact trivial) (by exact ⟨rfl, rfl, rfl, trivial⟩) (by decide) rfl ?_
    rintro x11_2 _ m1 gg H13 _
    clear H12
    replace H13 : edit_Check_l1 a0 (it (fun next1 s => edit_Check_l1 a0 next1 s) m1) x11_2 = some r := H13
    generalize hn1 : it (fun next1 s => edit_Check_l1 a0 next1 s) m1 = next1 at H13
    refine c_tidyF [(9, v0), (10, .int .i64 (a0.length : Int)), (11, .int .i64 x11_2)] [] rfl rfl ?_
    refine c_seq ?_
    refine c_region ?_
    refine l_val rfl rfl rfl (r_lss rfl rfl) ?_
    refine l_nil ?_
    refine c_seq ?_
    refine c_if (b := (decide (x11_2 < (a0.length : Int)))) rfl (fun hb => ?_) (fun hb => ?_)
    · have H14 := cnd_t hb H13; clear H13
      refine c_skip ?_
      refine c_seq ?_
      refine c_block ?_
      refine c_seq ?_
      refine c_region ?_
      obtain ⟨t13, h_t13, H15⟩ := bnd_some H14; clear H14
      refine l_val rfl rfl rfl (r_indexF Tryd.underlying22 Tryd.sizeOf35 rfl rfl f0 h_t13) ?_
      refine l_read (fun w hF hS => run_loadGN (f := e_edit_Step) (i := x11_2) (sz := 5) (j := 0) (vs := [.int .i64 t13.Kind, .int .i64 t13.A, .int .i64 t13.B, .int .i64 t13.C, .int .i64 t13.D]) Tryd.isAgg35 Tryd.sizeOf35 rfl rfl (f0.row (hw.now hF)) h_t13 rfl) rfl rfl rfl ?_
      refine l_alloc (cs := [.int .i64 0, .int .i64 0, .int .i64 0, .int .i64 0, .int .i64 0]) Tryd.zeroValue35 rfl rfl rfl (fun b1 => ?_)
      refine l_store (i := 0) (vs := [.int .i64 t13.Kind, .int .i64 t13.A, .int .i64 t13.B, .int .i64 t13.C, .int .i64 t13.D]) (cs' := [.int .i64 t13.Kind, .int .i64 t13.A, .int .i64 t13.B, .int .i64 t13.C, .int .i64 t13.D]) Tryd.sizeOf35 rfl rfl rfl rfl rfl rfl rfl rfl rfl ?_
      refine l_nil ?_
      refine c_seq ?_
      refine c_region ?_
      refine l_loadN (i := 0) (vs := [.int .i64 t13.Kind, .int .i64 t13.A, .int .i64 t13.B, .int .i64 t13.C, .int .i64 t13.D]) Tryd.isAgg35 Tryd.sizeOf35 rfl rfl rfl rfl rfl ?_
      obtain ⟨t16, h_t16, H16⟩ := bnd_some H15; clear H15
      refine l_call (k116 h_t16) Tryd.call116 rfl rfl rfl ?_
      refine l_val rfl rfl rfl (r_assign (v := .int .i64 t16) rfl) ?_
      refine l_nil ?_
      refine c_seq ?_
      refine c_region ?_
      refine l_val rfl rfl rfl (r_move (v := .int .i64 t16) rfl) ?_
      refine l_val rfl rfl rfl (r_neq rfl rfl) ?_
      refine l_nil ?_
      refine c_if (b := (decide (t16 ≠ 0))) rfl (fun hb => ?_) (fun hb => ?_)
      · have H17 := cnd_t hb H16; clear H16
        refine c_seq ?_
        refine c_region ?_
        refine l_val rfl rfl rfl (r_move (v := .int .i64 t16) rfl) ?_
        refine l_val rfl rfl rfl (r_assign (v := .int .i64 t16) rfl) ?_
        refine l_nil ?_
        refine c_ret ?_
        obtain rfl := Option.some.inj H17
        refine ret1 (v := .int .i64 t16) rfl rfl (fin rfl)
      · have H18 := cnd_f hb H16; clear H16
        refine c_skip ?_
        refine c_region ?_
        obtain ⟨t20, h_t20, H19⟩ := bnd_some H18; clear H18
        refine l_val rfl rfl rfl (r_addG rfl rfl h_t20) ?_
        refine l_val rfl rfl rfl (r_move (v := .int .i64 t20) rfl) ?_
        refine l_nil ?_
        refine c_close t20 () m1 [] (by exact ⟨rfl, rfl, rfl, trivial⟩) (by decide) rfl (by exact ⟨(by subst hn1; exact H19), trivial⟩) (Nat.lt_succ_self _)
    · have H20 := cnd_f hb H13; clear H13
      refine c_exit ?_
      refine c_seq ?_
      refine c_region ?_
      refine l_val rfl rfl rfl (r_assign (v := .int .i64 0) rfl) ?_
      refine l_nil ?_
      refine c_ret ?_
      obtain rfl := Option.some.inj H20
      refine ret1 (v := .int .i64 0) rfl rfl (fin rfl)
theorem k54 {a0 : (List (List T_edit_Step))} {v0 : Value} {r : Int} {w : World} {h : Heap} (hw : Know h w noS) (f0 : FrN h 1 v0 gs_edit_Step a0) (H : edit_checkAll a0 = some r) : Does Tryd.prog 54 (List.toArray [v0]) w (fun v w' => v = (.int .i64 r) ∧ Grow w w') := by
  refine enter (n := 18) Tryd.func54 rfl rfl rfl noS [] (Sat.nil _ _) ?_
  refine c_seq ?_
  refine c_region ?_
  refine l_val rfl rfl rfl (r_assign (v := .int .i64 0) rfl) ?_
  refine l_nil ?_
  refine c_seq ?_
  refine c_seq ?_
  refine c_region ?_
  refine l_val rfl rfl rfl (r_move (v := v0) rfl) ?_
  refine l_val rfl rfl rfl (r_lenFN Tryd.underlying104 rfl f0) ?_
  refine l_val rfl rfl rfl (r_move (v := .int .i64 0) rfl) ?_
  refine l_nil ?_
  refine c_block ?_
  refine c_fix (σ := Int) (τ := Unit) (fun next1 s => edit_checkAll_l1 a0 next1 s) (fun s t => [(6, v0), (7, .int .i64 (a0.length : Int)), (8, .int .i64 s)]) (fun s t => []) (fun s t => True) 0 () [] H (by exact trivial) (by exact ⟨rfl, rfl, rfl, trivial⟩) (by decide) rfl ?_
  rintro x8_2 _ m1 gg H9 _
  clear H
  replace H9 : edit_checkAll_l1 a0 (it (fun next1 s => edit_checkAll_l1 a0 next1 s) m1) x8_2 = some r := H9
  generalize hn1 : it (fun next1 s => edit_checkAll_l1 a0 next1 s) m1 = next1 at H9
  refine c_tidyF [(6, v0), (7, .int .i64 (a0.length : Int)), (8, .int .i64 x8_2)] [] rfl rfl ?_
  refine c_seq ?_
  refine c_region ?_
  refine l_val rfl rfl rfl (r_lss rfl rfl) ?_
  refine l_nil ?_
  refine c_seq ?_
  refine c_if (b := (decide (x8_2 < (a0.length : Int)))) rfl (fun hb => ?_) (fun hb => ?_)
  · have H10 := cnd_t hb H9; clear H9
    refine c_skip ?_
    refine c_seq ?_
    refine c_block ?_
    refine c_seq ?_
    refine c_region ?_
    obtain ⟨t10, h_t10, H11⟩ := bnd_some H10; clear H10
    refine l_val rfl rfl rfl (r_indexF Tryd.underlying104 Tryd.sizeOf22 rfl rfl f0.frs (f0.ix h_t10)) ?_
    refine l_read (fun w hF hS => run_loadG1 (f := (elC h v0 1)) (i := x8_2) (sz := 1) (j := 0) (v := (elH h v0 1 (Int.toNat x8_2) 0)) Tryd.isAgg22 rfl rfl (f0.frs.row (hw.now hF)) (f0.ix h_t10) (rg_of (cgs_edit_Step (f0.at h_t10)) rfl)) rfl rfl rfl ?_
    refine l_val rfl rfl rfl (r_assign (v := (elH h v0 1 (Int.toNat x8_2) 0)) rfl) ?_
    refine l_nil ?_
    refine c_seq ?_
    refine c_region ?_
    refine l_val rfl rfl rfl (r_move (v := (elH h v0 1 (Int.toNat x8_2) 0)) rfl) ?_
    obtain ⟨t13, h_t13, H12⟩ := bnd_some H11; clear H11
    refine l_callG (fun w hF hS => k69 (know_all w) ((show FrS h 5 (elH h v0 1 (Int.toNat x8_2) 0) (t10.map e_edit_Step) from (f0.at h_t10)).mono (hw.now hF)) h_t13) Tryd.call69 rfl rfl rfl ?_
    refine l_val rfl rfl rfl (r_assign (v := .int .i64 t13) rfl) ?_
    refine l_nil ?_
    refine c_seq ?_
    refine c_region ?_
    refine l_val rfl rfl rfl (r_move (v := .int .i64 t13) rfl) ?_
    refine l_val rfl rfl rfl (r_neq rfl rfl) ?_
    refine l_nil ?_
    refine c_if (b := (decide (t13 ≠ 0))) rfl (fun hb => ?_) (fun hb => ?_)
    · have H13 := cnd_t hb H12; clear H12
      refine c_seq ?_
      refine c_region ?_
      refine l_val rfl rfl rfl (r_move (v := .int .i64 t13) rfl) ?_
      refine l_val rfl rfl rfl (r_assign (v := .int .i64 t13) rfl) ?_
      refine l_nil ?_
      refine c_ret ?_
      obtain rfl := Option.some.inj H13
      refine ret1 (v := .int .i64 t13) rfl rfl (fin rfl)
    · have H14 := cnd_f hb H12; clear H12
      refine c_skip ?_
      refine c_region ?_
      obtain ⟨t17, h_t17, H15⟩ := bnd_some H14; clear H14
      refine l_val rfl rfl rfl (r_addG rfl rfl h_t17) ?_
      refine l_val rfl rfl rfl (r_move (v := .int .i64 t17) rfl) ?_
      refine l_nil ?_
      refine c_close t17 () m1 [] (by exact ⟨rfl, rfl, rfl, trivial⟩) (by decide) rfl (by exact ⟨(by subst hn1; exact H15), trivial⟩) (Nat.lt_succ_self _)
  · have H16 := cnd_f hb H9; clear H9
    refine c_exit ?_
    refine c_seq ?_
    refine c_region ?_
    refine l_val rfl rfl rfl (r_assign (v := .int .i64 0) rfl) ?_
    refine l_nil ?_
    refine c_ret ?_
    obtain rfl := Option.some.inj H16
    refine ret1 (v := .int .i64 0) rfl rfl (fin rfl)
theorem k56 {a : Option Addr} {n c : Nat} (hc : n ≤ c) : Ret Tryd.prog 56 [.slice a n c] (.slice (cutA a 0 n 5) n n) := by
  refine enterRet (n := 9) Tryd.func56 rfl rfl rfl (fun wd => ?_)
  refine c_seq ?_
  refine c_region ?_
  refine l_val rfl rfl rfl (r_assign (v := .slice none 0 0) rfl) ?_
  refine l_nil ?_
  refine c_seq ?_
  refine c_region ?_
  refine l_val rfl rfl rfl (r_move (v := .slice a n c) rfl) ?_
  refine l_val rfl rfl rfl (r_move (v := .slice a n c) rfl) ?_
  refine l_val rfl rfl rfl (r_len Tryd.underlying22 rfl) ?_
  refine l_val rfl rfl rfl (r_move (v := .slice a n c) rfl) ?_
  refine l_val rfl rfl rfl (r_len Tryd.underlying22 rfl) ?_
  refine l_val rfl rfl rfl (r_sliceHM (a := a) (m := n) (c := c) (h := (n : Int)) (q := (n : Int)) Tryd.underlying22 Tryd.sizeOf35 rfl rfl rfl (Int.natCast_nonneg n) (Int.le_refl _) (Int.ofNat_le.2 hc)) ?_
  refine l_val rfl rfl rfl (r_assign (v := .slice (cutA a 0 n 5) n n) rfl) ?_
  refine l_nil ?_
  refine c_ret ?_
  exact ret1 (v := .slice (cutA a 0 n 5) n n) rfl rfl (fin rfl)

theorem k64 {a0 : T_edit_Step} {r : Bool} (H : edit_Shape a0 = some r) : Ret Tryd.prog 64 [.agg #[.int .i64 a0.Kind, .int .i64 a0.A, .int .i64 a0.B, .int .i64 a0.C, .int .i64 a0.D]] (.bool r) := by
  refine enterRet (n := 7) Tryd.func64 rfl rfl rfl (fun wd => ?_)
  refine c_seq ?_
  refine c_region ?_
  refine l_box (cs := [.int .i64 a0.Kind, .int .i64 a0.A, .int .i64 a0.B, .int .i64 a0.C, .int .i64 a0.D]) rfl rfl rfl rfl (fun b1 => ?_)
  refine l_val rfl rfl rfl (r_assign (v := .bool false) rfl) ?_
  refine l_nil ?_
  refine c_seq ?_
  refine c_region ?_
  refine l_val rfl rfl rfl (r_field Tryd.runUnderlying35 rfl Tryd.sizeOf3 rfl rfl) ?_
  refine l_load1 (i := 0) (v := .int .i64 a0.Kind) Tryd.isAgg3 rfl rfl rfl rfl rfl ?_
  obtain ⟨t5, h_t5, H2⟩ := bnd_some H; clear H
  refine l_call (k113 h_t5) Tryd.call113 rfl rfl rfl ?_
  refine l_val rfl rfl rfl (r_not rfl) ?_
  refine l_val rfl rfl rfl (r_assign (v := .bool (!t5)) rfl) ?_
  refine l_nil ?_
  refine c_ret ?_
  obtain rfl := Option.some.inj H2
  refine ret1 (v := .bool (!t5)) rfl rfl (fin rfl)
theorem k55 {a0 : (List T_edit_Step)} {v0 : Value} {r : (List T_edit_Step) × (List T_edit_Step)} {w : World} {h : Heap} (hw : Know h w noS) (f0 : FrS h 5 v0 (a0.map e_edit_Step)) (H : edit_apart a0 = some r) : Does Tryd.prog 55 (List.toArray [v0]) w (fun v w' => ∃ x : (Option Addr × Nat) × (Option Addr × Nat), v = (.tuple #[.slice x.1.1 r.1.length x.1.2, .slice x.2.1 r.2.length x.2.2]) ∧ Turn w w' noS (bothC (roV 5 (.slice x.1.1 r.1.length x.1.2) r.1.length (r.1.map e_edit_Step)) (roV 5 (.slice x.2.1 r.2.length x.2.2) r.2.length (r.2.map e_edit_Step)))) := by
  refine enter (n := 27) Tryd.func55 rfl rfl rfl noS [] (Sat.nil _ _) ?_
  refine c_seq ?_
  refine c_region ?_
  refine l_val rfl rfl rfl (r_assign (v := .slice none 0 0) rfl) ?_
  refine l_val rfl rfl rfl (r_assign (v := .slice none 0 0) rfl) ?_
  refine l_nil ?_
  refine c_meet (r := r) (σ := (List T_edit_Step) × (List T_edit_Step)) (τ := (Option Addr × Nat) × (Option Addr × Nat)) (fun s => edit_apart_j1 s.1 s.2) (fun s t => [(2, .slice t.1.1 s.1.length t.1.2), (3, .slice t.2.1 s.2.length t.2.2)]) (fun s t => [rowV 35 5 (.slice t.1.1 s.1.length t.1.2) s.1.length (s.1.map e_edit_Step), rowV 35 5 (.slice t.2.1 s.2.length t.2.2) s.2.length (s.2.map e_edit_Step)]) (fun s t => True) ?_ ?_
  · refine c_seq ?_
    refine c_region ?_
    refine l_val rfl rfl rfl (r_move (v := v0) rfl) ?_
    refine l_val rfl rfl rfl (r_lenF Tryd.underlying22 rfl f0 rfl) ?_
    refine l_val rfl rfl rfl (r_move (v := .int .i64 0) rfl) ?_
    refine l_nil ?_
    refine c_block ?_
    refine c_nilRow 35 5 ?_
    refine c_nilRow 35 5 ?_
    refine c_fix (σ := Int × (List T_edit_Step) × (List T_edit_Step)) (τ := (Option Addr × Nat) × (Option Addr × Nat)) (fun next2 s => edit_apart_l2 a0 next2 s.1 s.2.1 s.2.2) (fun s t => [(2, .slice t.1.1 s.2.1.length t.1.2), (3, .slice t.2.1 s.2.2.length t.2.2), (6, v0), (7, .int .i64 (a0.length : Int)), (8, .int .i64 s.1)]) (fun s t => [rowV 35 5 (.slice t.1.1 s.2.1.length t.1.2) s.2.1.length (s.2.1.map e_edit_Step), rowV 35 5 (.slice t.2.1 s.2.2.length t.2.2) s.2.2.length (s.2.2.map e_edit_Step)]) (fun s t => True) (0, ([] : List T_edit_Step), ([] : List T_edit_Step)) (((none, 0) : Option Addr × Nat), ((none, 0) : Option Addr × Nat)) [0, 1] H (by exact trivial) (by exact ⟨rfl, rfl, rfl, rfl, rfl, trivial⟩) (by decide) rfl ?_
    rintro ⟨x8_2, l_5, l_6⟩ ⟨p_3, p_4⟩ m2 gg H26 _
    clear H
    replace H26 : edit_apart_l2 a0 (it (fun next2 s => edit_apart_l2 a0 next2 s.1 s.2.1 s.2.2) m2) x8_2 l_5 l_6 = some r := H26
    generalize hn2 : it (fun next2 s => edit_apart_l2 a0 next2 s.1 s.2.1 s.2.2) m2 = next2 at H26
    refine c_tidyF [(2, .slice p_3.1 l_5.length p_3.2), (3, .slice p_4.1 l_6.length p_4.2), (6, v0), (7, .int .i64 (a0.length : Int)), (8, .int .i64 x8_2)] [rowV 35 5 (.slice p_3.1 l_5.length p_3.2) l_5.length (l_5.map e_edit_Step), rowV 35 5 (.slice p_4.1 l_6.length p_4.2) l_6.length (l_6.map e_edit_Step)] rfl rfl ?_
    refine c_seq ?_
    refine c_region ?_
    refine l_val rfl rfl rfl (r_lss rfl rfl) ?_
    refine l_nil ?_
    refine c_seq ?_
    refine c_if (b := (decide (x8_2 < (a0.length : Int)))) rfl (fun hb => ?_) (fun hb => ?_)
    · have H27 := cnd_t hb H26; clear H26
      refine c_skip ?_
      refine c_meet (r := r) (σ := (List T_edit_Step) × (List T_edit_Step)) (τ := (Option Addr × Nat) × (Option Addr × Nat)) (fun s => edit_apart_j3 x8_2 next2 s.1 s.2) (fun s t => [(2, .slice t.1.1 s.1.length t.1.2), (3, .slice t.2.1 s.2.length t.2.2), (6, v0), (7, .int .i64 (a0.length : Int)), (8, .int .i64 x8_2)]) (fun s t => [rowV 35 5 (.slice t.1.1 s.1.length t.1.2) s.1.length (s.1.map e_edit_Step), rowV 35 5 (.slice t.2.1 s.2.length t.2.2) s.2.length (s.2.map e_edit_Step)]) (fun s t => True) ?_ ?_
      · refine c_block ?_
        refine c_seq ?_
        refine c_region ?_
        obtain ⟨t10, h_t10, H30⟩ := bnd_some H27; clear H27
        refine l_val rfl rfl rfl (r_indexF Tryd.underlying22 Tryd.sizeOf35 rfl rfl f0 h_t10) ?_
        refine l_read (fun w hF hS => run_loadGN (f := e_edit_Step) (i := x8_2) (sz := 5) (j := 0) (vs := [.int .i64 t10.Kind, .int .i64 t10.A, .int .i64 t10.B, .int .i64 t10.C, .int .i64 t10.D]) Tryd.isAgg35 Tryd.sizeOf35 rfl rfl (f0.row (hw.now hF)) h_t10 rfl) rfl rfl rfl ?_
        refine l_alloc (cs := [.int .i64 0, .int .i64 0, .int .i64 0, .int .i64 0, .int .i64 0]) Tryd.zeroValue35 rfl rfl rfl (fun b6 => ?_)
        refine l_store (i := 2) (vs := [.int .i64 t10.Kind, .int .i64 t10.A, .int .i64 t10.B, .int .i64 t10.C, .int .i64 t10.D]) (cs' := [.int .i64 t10.Kind, .int .i64 t10.A, .int .i64 t10.B, .int .i64 t10.C, .int .i64 t10.D]) Tryd.sizeOf35 rfl rfl rfl rfl rfl rfl rfl rfl rfl ?_
        refine l_nil ?_
        refine c_seq ?_
        refine c_region ?_
        refine l_loadN (i := 2) (vs := [.int .i64 t10.Kind, .int .i64 t10.A, .int .i64 t10.B, .int .i64 t10.C, .int .i64 t10.D]) Tryd.isAgg35 Tryd.sizeOf35 rfl rfl rfl rfl rfl ?_
        obtain ⟨t13, h_t13, H31⟩ := bnd_some H30; clear H30
        refine l_call (k64 h_t13) Tryd.call64 rfl rfl rfl ?_
        refine l_nil ?_
        refine c_if (b := t13) rfl (fun hb => ?_) (fun hb => ?_)
        · have H32 := cnd_t hb H31; clear H31
          refine c_region ?_
          refine l_val rfl rfl rfl (r_move (v := .slice p_3.1 l_5.length p_3.2) rfl) ?_
          refine l_loadN (i := 2) (vs := [.int .i64 t10.Kind, .int .i64 t10.A, .int .i64 t10.B, .int .i64 t10.C, .int .i64 t10.D]) Tryd.isAgg35 Tryd.sizeOf35 rfl rfl rfl rfl rfl ?_
          refine l_buildSlice (vs := [.agg #[.int .i64 t10.Kind, .int .i64 t10.A, .int .i64 t10.B, .int .i64 t10.C, .int .i64 t10.D]]) (cs := [.int .i64 t10.Kind, .int .i64 t10.A, .int .i64 t10.B, .int .i64 t10.C, .int .i64 t10.D]) Tryd.underlying22 Tryd.sizeOf35 Tryd.zeroValue35 rfl rfl rfl rfl rfl rfl rfl (fun b7 => ?_)
          obtain ⟨l17, h_l17, H33⟩ := bnd_some H32; clear H32
          refine l_turn (turns_appG (i := 0) (hn := rfl) (rds := [3]) (p := p_3) (sz := 5) (by_ := 40) (f := e_edit_Step) (ys := l_5) (ls := ([t10] : List T_edit_Step)) (V := .slice (some ⟨b7, 0, none⟩) 1 1) Tryd.underlying22 (info_of Tryd.typeInfo35) rfl rfl rfl rfl rfl rfl rfl rfl rfl rfl (fun w L' hF hS hi => row_box (i := 3) hS ((hi 3 (by simp)).trans rfl) rfl rfl) (fun _ => rfl) (fun _ => rfl) h_l17) rfl rfl rfl (fun p_7 => ?_)
          refine l_val rfl rfl rfl (r_assign (v := .slice p_7.1 l17.length p_7.2) rfl) ?_
          refine l_nil ?_
          refine c_close (l17, l_6) (p_7, p_4) 0 [0, 1] (by exact ⟨rfl, rfl, rfl, rfl, rfl, trivial⟩) (by decide) rfl (by exact ⟨H33, trivial⟩) (Nat.lt_succ_self _)
        · have H34 := cnd_f hb H31; clear H31
          refine c_region ?_
          refine l_val rfl rfl rfl (r_move (v := .slice p_4.1 l_6.length p_4.2) rfl) ?_
          refine l_loadN (i := 2) (vs := [.int .i64 t10.Kind, .int .i64 t10.A, .int .i64 t10.B, .int .i64 t10.C, .int .i64 t10.D]) Tryd.isAgg35 Tryd.sizeOf35 rfl rfl rfl rfl rfl ?_
          refine l_buildSlice (vs := [.agg #[.int .i64 t10.Kind, .int .i64 t10.A, .int .i64 t10.B, .int .i64 t10.C, .int .i64 t10.D]]) (cs := [.int .i64 t10.Kind, .int .i64 t10.A, .int .i64 t10.B, .int .i64 t10.C, .int .i64 t10.D]) Tryd.underlying22 Tryd.sizeOf35 Tryd.zeroValue35 rfl rfl rfl rfl rfl rfl rfl (fun b8 => ?_)
          obtain ⟨l21, h_l21, H35⟩ := bnd_some H34; clear H34
          refine l_turn (turns_appG (i := 1) (hn := rfl) (rds := [3]) (p := p_4) (sz := 5) (by_ := 40) (f := e_edit_Step) (ys := l_6) (ls := ([t10] : List T_edit_Step)) (V := .slice (some ⟨b8, 0, none⟩) 1 1) Tryd.underlying22 (info_of Tryd.typeInfo35) rfl rfl rfl rfl rfl rfl rfl rfl rfl rfl (fun w L' hF hS hi => row_box (i := 3) hS ((hi 3 (by simp)).trans rfl) rfl rfl) (fun _ => rfl) (fun _ => rfl) h_l21) rfl rfl rfl (fun p_8 => ?_)
          refine l_val rfl rfl rfl (r_assign (v := .slice p_8.1 l21.length p_8.2) rfl) ?_
          refine l_nil ?_
          refine c_close (l_5, l21) (p_3, p_8) 0 [0, 1] (by exact ⟨rfl, rfl, rfl, rfl, rfl, trivial⟩) (by decide) rfl (by exact ⟨H35, trivial⟩) (Nat.lt_succ_self _)
      · rintro ⟨l_7, l_8⟩ ⟨p_5, p_6⟩ gg H28 _
        replace H28 : edit_apart_j3 x8_2 next2 l_7 l_8 = some r := H28
        refine c_tidyF [(2, .slice p_5.1 l_7.length p_5.2), (3, .slice p_6.1 l_8.length p_6.2), (6, v0), (7, .int .i64 (a0.length : Int)), (8, .int .i64 x8_2)] [rowV 35 5 (.slice p_5.1 l_7.length p_5.2) l_7.length (l_7.map e_edit_Step), rowV 35 5 (.slice p_6.1 l_8.length p_6.2) l_8.length (l_8.map e_edit_Step)] rfl rfl ?_
        refine c_region ?_
        obtain ⟨t22, h_t22, H29⟩ := bnd_some H28; clear H28
        refine l_val rfl rfl rfl (r_addG rfl rfl h_t22) ?_
        refine l_val rfl rfl rfl (r_move (v := .int .i64 t22) rfl) ?_
        refine l_nil ?_
        refine c_close (t22, l_7, l_8) (p_5, p_6) m2 [0, 1] (by exact ⟨rfl, rfl, rfl, rfl, rfl, trivial⟩) (by decide) rfl (by exact ⟨(by subst hn2; exact H29), trivial⟩) (Nat.lt_succ_self _)
    · have H36 := cnd_f hb H26; clear H26
      refine c_exit ?_
      refine c_close (l_5, l_6) (p_3, p_4) 0 [0, 1] (by exact ⟨rfl, rfl, trivial⟩) (by decide) rfl (by exact ⟨H36, trivial⟩) (Nat.lt_succ_self _)
  · rintro ⟨l, l_2⟩ ⟨p, p_2⟩ gg H25 _
    replace H25 : edit_apart_j1 l l_2 = some r := H25
    refine c_tidyF [(2, .slice p.1 l.length p.2), (3, .slice p_2.1 l_2.length p_2.2)] [rowV 35 5 (.slice p.1 l.length p.2) l.length (l.map e_edit_Step), rowV 35 5 (.slice p_2.1 l_2.length p_2.2) l_2.length (l_2.map e_edit_Step)] rfl rfl ?_
    refine c_seq ?_
    refine c_region ?_
    refine l_val rfl rfl rfl (r_move (v := .slice p.1 l.length p.2) rfl) ?_
    refine l_callG (fun w hF hS => k56 (capOf (i := 0) hS rfl) w) Tryd.call56 rfl rfl rfl ?_
    refine l_val rfl rfl rfl (r_move (v := .slice p_2.1 l_2.length p_2.2) rfl) ?_
    refine l_callG (fun w hF hS => k56 (capOf (i := 1) hS rfl) w) Tryd.call56 rfl rfl rfl ?_
    refine l_val rfl rfl rfl (r_assign (v := .slice (cutA p.1 0 l.length 5) l.length l.length) rfl) ?_
    refine l_val rfl rfl rfl (r_assign (v := .slice (cutA p_2.1 0 l_2.length 5) l_2.length l_2.length) rfl) ?_
    refine l_nil ?_
    refine c_ret ?_
    obtain rfl := Option.some.inj H25
    refine c_imp 0 rfl (imp_clipO _ _ _ _ _ _) ?_
    refine c_imp 1 rfl (imp_clipO _ _ _ _ _ _) ?_
    refine c_both 0 1 rfl rfl (by decide) ?_
    refine ret2 (v1 := .slice (cutA p.1 0 l.length 5) l.length l.length) (v2 := .slice (cutA p_2.1 0 l_2.length 5) l_2.length l_2.length) rfl rfl rfl (finX ((cutA p.1 0 l.length 5, l.length), (cutA p_2.1 0 l_2.length 5, l_2.length)) (i := 0) rfl rfl (Imp.refl _))
theorem k10 {a0 : (List T_edit_Step)} {v0 : Value} {a1 : (List T_edit_Step)} {v1 : Value} {r : (List T_edit_Step) × Int} {w : World} {h : Heap} (hw : Know h w noS) (f0 : FrS h 5 v0 (a0.map e_edit_Step)) (f1 : FrS h 5 v1 (a1.map e_edit_Step)) (H : edit_Like a0 a1 = some r) : Does Tryd.prog 10 (List.toArray [v0, v1]) w (fun v w' => ∃ x : (Option Addr × Nat), v = (.tuple #[.slice x.1 r.1.length x.2, .int .i64 r.2]) ∧ Turn w w' noS (roV 5 (.slice x.1 r.1.length x.2) r.1.length (r.1.map e_edit_Step))) := by
  refine enter (n := 38) Tryd.func10 rfl rfl rfl noS [] (Sat.nil _ _) ?_
  refine c_seq ?_
  refine c_region ?_
  refine l_val rfl rfl rfl (r_assign (v := .slice none 0 0) rfl) ?_
  refine l_val rfl rfl rfl (r_assign (v := .int .i64 0) rfl) ?_
  refine l_nil ?_
  refine c_seq ?_
  refine c_seq ?_
  refine c_region ?_
  refine l_val rfl rfl rfl (r_move (v := v0) rfl) ?_
  refine l_val rfl rfl rfl (r_move (v := v1) rfl) ?_
  refine l_buildSlice (vs := [v0, v1]) (cs := [v0, v1]) Tryd.underlying104 Tryd.sizeOf22 Tryd.zeroValue22 rfl rfl rfl rfl (by simp only [List.all_cons, List.all_nil, cells_sz f0.cells, cells_sz f1.cells] <;> rfl) rfl (by simp only [List.flatMap_cons, List.flatMap_nil, f0.cells, f1.cells] <;> rfl) (fun b4 => ?_)
  obtain ⟨t15, h_t15, H17⟩ := bnd_some H; clear H
  refine l_callG (fun w hF hS => k54 (know_all w) (frn_box (G := gs_edit_Step) (sz := 1) (xs := ([a0, a1] : List (List T_edit_Step))) (i := 0) hS rfl rfl rfl rfl ⟨(f0.mono (hw.now hF)), (f1.mono (hw.now hF)), rfl⟩) h_t15) Tryd.call54 rfl rfl rfl ?_
  refine l_val rfl rfl rfl (r_assign (v := .int .i64 t15) rfl) ?_
  refine l_nil ?_
  refine c_seq ?_
  refine c_region ?_
  refine l_val rfl rfl rfl (r_move (v := .int .i64 t15) rfl) ?_
  refine l_val rfl rfl rfl (r_neq rfl rfl) ?_
  refine l_nil ?_
  refine c_if (b := (decide (t15 ≠ 0))) rfl (fun hb => ?_) (fun hb => ?_)
  · have H18 := cnd_t hb H17; clear H17
    refine c_seq ?_
    refine c_region ?_
    refine l_val rfl rfl rfl (r_move (v := .int .i64 t15) rfl) ?_
    refine l_val rfl rfl rfl (r_assign (v := .slice none 0 0) rfl) ?_
    refine l_val rfl rfl rfl (r_assign (v := .int .i64 t15) rfl) ?_
    refine l_nil ?_
    refine c_ret ?_
    refine c_nilRow 35 5 ?_
    obtain rfl := Option.some.inj H18
    refine c_imp 1 rfl (row_ro _ _ _ _ _) ?_
    refine ret2 (v1 := .slice ((none, 0) : Option Addr × Nat).1 ([] : List T_edit_Step).length ((none, 0) : Option Addr × Nat).2) (v2 := .int .i64 t15) rfl rfl rfl (finX ((none, 0) : Option Addr × Nat) (i := 1) rfl rfl (Imp.refl _))
  · have H19 := cnd_f hb H17; clear H17
    refine c_skip ?_
    refine c_seq ?_
    refine c_region ?_
    refine l_val rfl rfl rfl (r_move (v := v0) rfl) ?_
    obtain ⟨t21, h_t21, H20⟩ := bnd_some H19; clear H19
    refine l_make (makes_call (rds := []) (G := fun x : (Option Addr × Nat) × (Option Addr × Nat) => .tuple #[.slice x.1.1 t21.1.length x.1.2, .slice x.2.1 t21.2.length x.2.2]) (C := fun x : (Option Addr × Nat) × (Option Addr × Nat) => bothC (roV 5 (.slice x.1.1 t21.1.length x.1.2) t21.1.length (t21.1.map e_edit_Step)) (roV 5 (.slice x.2.1 t21.2.length x.2.2) t21.2.length (t21.2.map e_edit_Step))) (fun w L' hF hS hi => k55 (know_all w) (f0.mono (hw.now hF)) h_t21) Tryd.call55 rfl) rfl rfl rfl (fun ⟨p, p_2⟩ => ?_)
    refine c_split 1 rfl ?_
    refine l_val rfl rfl rfl (r_move (v := .tuple #[.slice p.1 t21.1.length p.2, .slice p_2.1 t21.2.length p_2.2]) rfl) ?_
    refine l_val rfl rfl rfl (r_extract (v := .slice p.1 t21.1.length p.2) rfl rfl) ?_
    refine l_val rfl rfl rfl (r_extract (v := .slice p_2.1 t21.2.length p_2.2) rfl rfl) ?_
    refine l_val rfl rfl rfl (r_assign (v := .slice p.1 t21.1.length p.2) rfl) ?_
    refine l_val rfl rfl rfl (r_assign (v := .slice p_2.1 t21.2.length p_2.2) rfl) ?_
    refine l_nil ?_
    refine c_seq ?_
    refine c_region ?_
    refine l_val rfl rfl rfl (r_move (v := v1) rfl) ?_
    obtain ⟨t26, h_t26, H21⟩ := bnd_some H20; clear H20
    refine l_make (makes_call (rds := []) (G := fun x : (Option Addr × Nat) × (Option Addr × Nat) => .tuple #[.slice x.1.1 t26.1.length x.1.2, .slice x.2.1 t26.2.length x.2.2]) (C := fun x : (Option Addr × Nat) × (Option Addr × Nat) => bothC (roV 5 (.slice x.1.1 t26.1.length x.1.2) t26.1.length (t26.1.map e_edit_Step)) (roV 5 (.slice x.2.1 t26.2.length x.2.2) t26.2.length (t26.2.map e_edit_Step))) (fun w L' hF hS hi => k55 (know_all w) (f1.mono (hw.now hF)) h_t26) Tryd.call55 rfl) rfl rfl rfl (fun ⟨p_3, p_4⟩ => ?_)
    refine c_split 3 rfl ?_
    refine l_val rfl rfl rfl (r_move (v := .tuple #[.slice p_3.1 t26.1.length p_3.2, .slice p_4.1 t26.2.length p_4.2]) rfl) ?_
    refine l_val rfl rfl rfl (r_extract (v := .slice p_3.1 t26.1.length p_3.2) rfl rfl) ?_
    refine l_val rfl rfl rfl (r_extract (v := .slice p_4.1 t26.2.length p_4.2) rfl rfl) ?_
    refine l_val rfl rfl rfl (r_assign (v := .slice p_3.1 t26.1.length p_3.2) rfl) ?_
    refine l_val rfl rfl rfl (r_assign (v := .slice p_4.1 t26.2.length p_4.2) rfl) ?_
    refine l_nil ?_
    refine c_seq ?_
    refine c_region ?_
    refine l_val rfl rfl rfl (r_move (v := .slice p_3.1 t26.1.length p_3.2) rfl) ?_
    refine l_val rfl rfl rfl (r_move (v := .slice p_2.1 t21.2.length p_2.2) rfl) ?_
    refine l_buildSlice (vs := [.slice p_3.1 t26.1.length p_3.2, .slice p_2.1 t21.2.length p_2.2]) (cs := [.slice p_3.1 t26.1.length p_3.2, .slice p_2.1 t21.2.length p_2.2]) Tryd.underlying104 Tryd.sizeOf22 Tryd.zeroValue22 rfl rfl rfl rfl rfl rfl rfl (fun b5 => ?_)
    obtain ⟨t32, h_t32, H22⟩ := bnd_some H21; clear H21
    refine l_make (makes_call (rds := [2, 3, 5]) (G := fun x : (Option Addr × Nat) => .slice x.1 t32.length x.2) (C := fun x : (Option Addr × Nat) => rowV 35 5 (.slice x.1 t32.length x.2) t32.length (t32.map e_edit_Step)) (fun w L' hF hS hi => k13 (know_all w) (frn_box (G := gs_edit_Step) (sz := 1) (xs := ([t26.1, t21.2] : List (List T_edit_Step))) (i := 5) hS ((hi 5 (by simp)).trans rfl) rfl rfl rfl ⟨(frs_rd (i := 3) hS ((hi 3 (by simp)).trans rfl)), (frs_rd (i := 2) hS ((hi 2 (by simp)).trans rfl)), rfl⟩) h_t32) Tryd.call13 rfl) rfl rfl rfl (fun p_5 => ?_)
    refine l_val rfl rfl rfl (r_assign (v := .slice p_5.1 t32.length p_5.2) rfl) ?_
    refine l_nil ?_
    refine c_seq ?_
    refine c_seq ?_
    refine c_region ?_
    refine l_val rfl rfl rfl (r_move (v := .slice p_5.1 t32.length p_5.2) rfl) ?_
    refine l_val rfl rfl rfl (r_len Tryd.underlying22 rfl) ?_
    refine l_val rfl rfl rfl (r_gtr rfl rfl) ?_
    refine l_nil ?_
    refine c_if (b := (decide (50 < (t32.length : Int)))) rfl (fun hb => ?_) (fun hb => ?_)
    · have H23 := cnd_t hb H22; clear H22
      refine c_seq ?_
      refine c_region ?_
      refine l_val rfl rfl rfl (r_assign (v := .slice none 0 0) rfl) ?_
      refine l_val rfl rfl rfl (r_assign (v := .int .i64 4) rfl) ?_
      refine l_nil ?_
      refine c_ret ?_
      refine c_nilRow 35 5 ?_
      obtain rfl := Option.some.inj H23
      refine c_imp 7 rfl (row_ro _ _ _ _ _) ?_
      refine ret2 (v1 := .slice ((none, 0) : Option Addr × Nat).1 ([] : List T_edit_Step).length ((none, 0) : Option Addr × Nat).2) (v2 := .int .i64 4) rfl rfl rfl (finX ((none, 0) : Option Addr × Nat) (i := 7) rfl rfl (Imp.refl _))
    · have H24 := cnd_f hb H22; clear H22
      refine c_skip ?_
      refine c_seq ?_
      refine c_region ?_
      refine l_val rfl rfl rfl (r_move (v := .slice p_5.1 t32.length p_5.2) rfl) ?_
      refine l_callG (fun w hF hS => k56 (capOf (i := 6) hS rfl) w) Tryd.call56 rfl rfl rfl ?_
      refine l_val rfl rfl rfl (r_assign (v := .slice (cutA p_5.1 0 t32.length 5) t32.length t32.length) rfl) ?_
      refine l_val rfl rfl rfl (r_assign (v := .int .i64 0) rfl) ?_
      refine l_nil ?_
      refine c_ret ?_
      obtain rfl := Option.some.inj H24
      refine c_imp 6 rfl (imp_clipO _ _ _ _ _ _) ?_
      refine ret2 (v1 := .slice (cutA p_5.1 0 t32.length 5) t32.length t32.length) (v2 := .int .i64 0) rfl rfl rfl (finX (cutA p_5.1 0 t32.length 5, t32.length) (i := 6) rfl rfl (Imp.refl _))
theorem k16 {a0 : (List T_edit_Step)} {v0 : Value} {a1 : (List T_edit_Step)} {v1 : Value} {r : Int} {w : World} {h : Heap} (hw : Know h w noS) (f0 : FrS h 5 v0 (a0.map e_edit_Step)) (f1 : FrS h 5 v1 (a1.map e_edit_Step)) (H : edit_Common a0 a1 = some r) : Does Tryd.prog 16 (List.toArray [v0, v1]) w (fun v w' => v = (.int .i64 r) ∧ Grow w w') := by
  refine enter (n := 30) Tryd.func16 rfl rfl rfl noS [] (Sat.nil _ _) ?_
  refine c_seq ?_
  refine c_region ?_
  refine l_val rfl rfl rfl (r_assign (v := .int .i64 0) rfl) ?_
  refine l_nil ?_
  refine c_seq ?_
  refine c_region ?_
  refine l_val rfl rfl rfl (r_assign (v := .int .i64 0) rfl) ?_
  refine l_nil ?_
  refine c_seq ?_
  refine c_block ?_
  refine c_fix (σ := Int) (τ := Unit) (fun next1 s => edit_Common_l1 a0 a1 next1 s) (fun s t => [(0, v0), (1, v1), (5, .int .i64 s)]) (fun s t => []) (fun s t => True) 0 () [] H (by exact trivial) (by exact ⟨rfl, rfl, rfl, trivial⟩) (by decide) rfl ?_
  rintro x5_2 _ m1 gg H11 _
  clear H
  replace H11 : edit_Common_l1 a0 a1 (it (fun next1 s => edit_Common_l1 a0 a1 next1 s) m1) x5_2 = some r := H11
  generalize hn1 : it (fun next1 s => edit_Common_l1 a0 a1 next1 s) m1 = next1 at H11
  refine c_tidyF [(0, v0), (1, v1), (5, .int .i64 x5_2)] [] rfl rfl ?_
  refine c_seq ?_
  refine c_seq ?_
  exact c_regionD (Kd.p :: Kd.p :: Kd.p :: Kd.p :: Kd.p :: Kd.p :: Kd.p :: Kd.p :: Kd.p :: Kd.p :: Kd.p :: Kd.p :: Kd.p :: Kd.p :: Kd.d [] _ :: Kd.p :: Kd.p :: Kd.p :: Kd.d [] _ :: Kd.p :: Kd.p :: []) 0 mixed (by
    refine d_val rfl rfl (r_move (v := .int .i64 x5_2) rfl) ?_
    refine d_val rfl rfl (r_move (v := v0) rfl) ?_
    refine d_val rfl rfl (r_lenF Tryd.underlying22 rfl f0 rfl) ?_
    refine d_val rfl rfl (r_lss rfl rfl) ?_
    refine d_val rfl rfl (r_move (v := .bool (decide (x5_2 < (a0.length : Int)))) rfl) ?_
    refine splitS (fun hb => ?_) (fun hb => ?_)
    · have H12 := cnd_t hb H11
      refine d_val rfl rfl (r_move (v := .int .i64 x5_2) rfl) ?_
      refine d_val rfl rfl (r_move (v := v1) rfl) ?_
      refine d_val rfl rfl (r_lenF Tryd.underlying22 rfl f1 rfl) ?_
      refine d_val rfl rfl (r_lss rfl rfl) ?_
      refine d_val rfl rfl (r_pickT (v := .bool (decide (x5_2 < (a1.length : Int)))) rfl rfl) ?_
      refine d_val rfl rfl (r_move (v := .bool (decide (x5_2 < (a1.length : Int)))) rfl) ?_
      refine splitS (fun hb => ?_) (fun hb => ?_)
      · have H13 := cnd_t hb H12
        refine d_val rfl rfl (r_move (v := v0) rfl) ?_
        refine d_val rfl rfl (r_move (v := .int .i64 x5_2) rfl) ?_
        have h_t19 := bnd_val H13
        have H14 := bnd_rest H13
        refine d_val rfl rfl (r_indexF Tryd.underlying22 Tryd.sizeOf35 rfl rfl f0 h_t19) ?_
        refine d_read (fun w hF => run_loadGN (f := e_edit_Step) (i := x5_2) (sz := 5) (j := 0) (vs := [.int .i64 (val (gAt a0 x5_2)).Kind, .int .i64 (val (gAt a0 x5_2)).A, .int .i64 (val (gAt a0 x5_2)).B, .int .i64 (val (gAt a0 x5_2)).C, .int .i64 (val (gAt a0 x5_2)).D]) Tryd.isAgg35 Tryd.sizeOf35 rfl rfl (f0.row (hw.now hF)) h_t19 rfl) rfl rfl ?_
        refine d_val rfl rfl (r_move (v := v1) rfl) ?_
        refine d_val rfl rfl (r_move (v := .int .i64 x5_2) rfl) ?_
        have h_t23 := bnd_val H14
        have H15 := bnd_rest H14
        refine d_val rfl rfl (r_indexF Tryd.underlying22 Tryd.sizeOf35 rfl rfl f1 h_t23) ?_
        refine d_read (fun w hF => run_loadGN (f := e_edit_Step) (i := x5_2) (sz := 5) (j := 0) (vs := [.int .i64 (val (gAt a1 x5_2)).Kind, .int .i64 (val (gAt a1 x5_2)).A, .int .i64 (val (gAt a1 x5_2)).B, .int .i64 (val (gAt a1 x5_2)).C, .int .i64 (val (gAt a1 x5_2)).D]) Tryd.isAgg35 Tryd.sizeOf35 rfl rfl (f1.row (hw.now hF)) h_t23 rfl) rfl rfl ?_
        refine d_val rfl rfl (r_eqlA (xs := #[.int .i64 (val (gAt a0 x5_2)).Kind, .int .i64 (val (gAt a0 x5_2)).A, .int .i64 (val (gAt a0 x5_2)).B, .int .i64 (val (gAt a0 x5_2)).C, .int .i64 (val (gAt a0 x5_2)).D]) (ys := #[.int .i64 (val (gAt a1 x5_2)).Kind, .int .i64 (val (gAt a1 x5_2)).A, .int .i64 (val (gAt a1 x5_2)).B, .int .i64 (val (gAt a1 x5_2)).C, .int .i64 (val (gAt a1 x5_2)).D]) Tryd.eqGuardType35 (fun w => run_eq_edit_Step w (val (gAt a0 x5_2)) (val (gAt a1 x5_2))) rfl rfl) ?_
        refine d_val rfl rfl (r_pickT (v := .bool (eq_edit_Step (val (gAt a0 x5_2)) (val (gAt a1 x5_2)))) rfl rfl) ?_
        refine d_nil ?_
        refine c_if (b := (eq_edit_Step (val (gAt a0 x5_2)) (val (gAt a1 x5_2)))) rfl (fun hb => ?_) (fun hb => ?_)
        · have H16 := cnd_t hb H15; clear H15
          refine c_skip ?_
          refine c_block ?_
          refine c_region ?_
          refine l_val rfl rfl rfl (r_move (v := .int .i64 x5_2) rfl) ?_
          obtain ⟨t28, h_t28, H17⟩ := bnd_some H16; clear H16
          refine l_val rfl rfl rfl (r_addG rfl rfl h_t28) ?_
          refine l_val rfl rfl rfl (r_assign (v := .int .i64 t28) rfl) ?_
          refine l_nil ?_
          refine c_close t28 () m1 [] (by exact ⟨rfl, rfl, rfl, trivial⟩) (by decide) rfl (by exact ⟨(by subst hn1; exact H17), trivial⟩) (Nat.lt_succ_self _)
        · have H18 := cnd_f hb H15; clear H15
          refine c_exit ?_
          refine c_seq ?_
          refine c_region ?_
          refine l_val rfl rfl rfl (r_move (v := .int .i64 x5_2) rfl) ?_
          refine l_val rfl rfl rfl (r_assign (v := .int .i64 x5_2) rfl) ?_
          refine l_nil ?_
          refine c_ret ?_
          obtain rfl := Option.some.inj H18
          refine ret1 (v := .int .i64 x5_2) rfl rfl (fin rfl)
      · have H19 := cnd_f hb H12
        refine d_pass rfl rfl ?_
        refine d_pass rfl rfl ?_
        refine d_pass rfl rfl ?_
        refine d_pass rfl rfl ?_
        refine d_pass rfl rfl ?_
        refine d_pass rfl rfl ?_
        refine d_pass rfl rfl ?_
        refine d_pass rfl rfl ?_
        refine d_pass rfl rfl ?_
        refine d_val rfl rfl (r_pickF (v := .bool false) rfl rfl) ?_
        refine d_nil ?_
        refine c_false rfl ?_
        refine c_exit ?_
        refine c_seq ?_
        refine c_region ?_
        refine l_val rfl rfl rfl (r_move (v := .int .i64 x5_2) rfl) ?_
        refine l_val rfl rfl rfl (r_assign (v := .int .i64 x5_2) rfl) ?_
        refine l_nil ?_
        refine c_ret ?_
        obtain rfl := Option.some.inj H19
        refine ret1 (v := .int .i64 x5_2) rfl rfl (fin rfl)
    · have H20 := cnd_f hb H11
      refine d_pass rfl rfl ?_
      refine d_pass rfl rfl ?_
      refine d_pass rfl rfl ?_
      refine d_pass rfl rfl ?_
      refine d_val rfl rfl (r_pickF (v := .bool false) rfl rfl) ?_
      refine d_val rfl rfl (r_move (v := .bool false) rfl) ?_
      refine d_pass rfl rfl ?_
      refine d_pass rfl rfl ?_
      refine d_pass rfl rfl ?_
      refine d_pass rfl rfl ?_
      refine d_pass rfl rfl ?_
      refine d_pass rfl rfl ?_
      refine d_pass rfl rfl ?_
      refine d_pass rfl rfl ?_
      refine d_pass rfl rfl ?_
      refine d_val rfl rfl (r_pickF (v := .bool false) rfl rfl) ?_
      refine d_nil ?_
      refine c_false rfl ?_
      refine c_exit ?_
      refine c_seq ?_
      refine c_region ?_
      refine l_val rfl rfl rfl (r_move (v := .int .i64 x5_2) rfl) ?_
      refine l_val rfl rfl rfl (r_assign (v := .int .i64 x5_2) rfl) ?_
      refine l_nil ?_
      refine c_ret ?_
      obtain rfl := Option.some.inj H20
      refine ret1 (v := .int .i64 x5_2) rfl rfl (fin rfl)
    ) (by kernel_rfl)
theorem k62 {a0 : (List T_edit_Step)} {v0 : Value} {a1 : (List T_edit_Step)} {v1 : Value} {r : Bool} {w : World} {h : Heap} (hw : Know h w noS) (f0 : FrS h 5 v0 (a0.map e_edit_Step)) (f1 : FrS h 5 v1 (a1.map e_edit_Step)) (H : slices_Equal_edit_Step a0 a1 = some r) : Does Tryd.prog 62 (List.toArray [v0, v1]) w (fun v w' => v = (.bool r) ∧ Grow w w') := by
  refine enter (n := 26) Tryd.func62 rfl rfl rfl noS [] (Sat.nil _ _) ?_
  refine c_seq ?_
  refine c_region ?_
  refine l_val rfl rfl rfl (r_assign (v := .bool false) rfl) ?_
  refine l_nil ?_
  refine c_seq ?_
  refine c_seq ?_
  refine c_region ?_
  refine l_val rfl rfl rfl (r_move (v := v0) rfl) ?_
  refine l_val rfl rfl rfl (r_lenF Tryd.underlying22 rfl f0 rfl) ?_
  refine l_val rfl rfl rfl (r_move (v := v1) rfl) ?_
  refine l_val rfl rfl rfl (r_lenF Tryd.underlying22 rfl f1 rfl) ?_
  refine l_val rfl rfl rfl (r_neq rfl rfl) ?_
  refine l_nil ?_
  refine c_if (b := (decide ((a0.length : Int) ≠ (a1.length : Int)))) rfl (fun hb => ?_) (fun hb => ?_)
  · have H11 := cnd_t hb H; clear H
    refine c_seq ?_
    refine c_region ?_
    refine l_val rfl rfl rfl (r_assign (v := .bool false) rfl) ?_
    refine l_nil ?_
    refine c_ret ?_
    obtain rfl := Option.some.inj H11
    refine ret1 (v := .bool false) rfl rfl (fin rfl)
  · have H12 := cnd_f hb H; clear H
    refine c_skip ?_
    refine c_seq ?_
    refine c_seq ?_
    refine c_region ?_
    refine l_val rfl rfl rfl (r_move (v := v0) rfl) ?_
    refine l_val rfl rfl rfl (r_lenF Tryd.underlying22 rfl f0 rfl) ?_
    refine l_val rfl rfl rfl (r_move (v := .int .i64 0) rfl) ?_
    refine l_nil ?_
    refine c_block ?_
    refine c_fix (σ := Int) (τ := Unit) (fun next1 s => slices_Equal_edit_Step_l1 a0 a1 next1 s) (fun s t => [(0, v0), (1, v1), (12, .int .i64 (a0.length : Int)), (13, .int .i64 s)]) (fun s t => []) (fun s t => True) 0 () [] H12 (by exact trivial) (by exact ⟨rfl, rfl, rfl, rfl, trivial⟩) (by decide) rfl ?_
    rintro x13_2 _ m1 gg H13 _
    clear H12
    replace H13 : slices_Equal_edit_Step_l1 a0 a1 (it (fun next1 s => slices_Equal_edit_Step_l1 a0 a1 next1 s) m1) x13_2 = some r := H13
    generalize hn1 : it (fun next1 s => slices_Equal_edit_Step_l1 a0 a1 next1 s) m1 = next1 at H13
    refine c_tidyF [(0, v0), (1, v1), (12, .int .i64 (a0.length : Int)), (13, .int .i64 x13_2)] [] rfl rfl ?_
    refine c_seq ?_
    refine c_region ?_
    refine l_val rfl rfl rfl (r_lss rfl rfl) ?_
    refine l_nil ?_
    refine c_seq ?_
    refine c_if (b := (decide (x13_2 < (a0.length : Int)))) rfl (fun hb => ?_) (fun hb => ?_)
    · have H14 := cnd_t hb H13; clear H13
      refine c_skip ?_
      refine c_seq ?_
      refine c_block ?_
      refine c_seq ?_
      refine c_region ?_
      refine l_val rfl rfl rfl (r_move (v := .int .i64 x13_2) rfl) ?_
      refine l_val rfl rfl rfl (r_assign (v := .int .i64 x13_2) rfl) ?_
      refine l_nil ?_
      refine c_seq ?_
      exact c_regionD (Kd.p :: Kd.p :: Kd.p :: Kd.d [] _ :: Kd.p :: Kd.p :: Kd.p :: Kd.d [] _ :: Kd.p :: []) 0 mixed (by
        refine d_val rfl rfl (r_move (v := v0) rfl) ?_
        refine d_val rfl rfl (r_move (v := .int .i64 x13_2) rfl) ?_
        have h_t18 := bnd_val H14
        have H15 := bnd_rest H14
        refine d_val rfl rfl (r_indexF Tryd.underlying22 Tryd.sizeOf35 rfl rfl f0 h_t18) ?_
        refine d_read (fun w hF => run_loadGN (f := e_edit_Step) (i := x13_2) (sz := 5) (j := 0) (vs := [.int .i64 (val (gAt a0 x13_2)).Kind, .int .i64 (val (gAt a0 x13_2)).A, .int .i64 (val (gAt a0 x13_2)).B, .int .i64 (val (gAt a0 x13_2)).C, .int .i64 (val (gAt a0 x13_2)).D]) Tryd.isAgg35 Tryd.sizeOf35 rfl rfl (f0.row (hw.now hF)) h_t18 rfl) rfl rfl ?_
        refine d_val rfl rfl (r_move (v := v1) rfl) ?_
        refine d_val rfl rfl (r_move (v := .int .i64 x13_2) rfl) ?_
        have h_t22 := bnd_val H15
        have H16 := bnd_rest H15
        refine d_val rfl rfl (r_indexF Tryd.underlying22 Tryd.sizeOf35 rfl rfl f1 h_t22) ?_
        refine d_read (fun w hF => run_loadGN (f := e_edit_Step) (i := x13_2) (sz := 5) (j := 0) (vs := [.int .i64 (val (gAt a1 x13_2)).Kind, .int .i64 (val (gAt a1 x13_2)).A, .int .i64 (val (gAt a1 x13_2)).B, .int .i64 (val (gAt a1 x13_2)).C, .int .i64 (val (gAt a1 x13_2)).D]) Tryd.isAgg35 Tryd.sizeOf35 rfl rfl (f1.row (hw.now hF)) h_t22 rfl) rfl rfl ?_
        refine d_val rfl rfl (r_neqA (xs := #[.int .i64 (val (gAt a0 x13_2)).Kind, .int .i64 (val (gAt a0 x13_2)).A, .int .i64 (val (gAt a0 x13_2)).B, .int .i64 (val (gAt a0 x13_2)).C, .int .i64 (val (gAt a0 x13_2)).D]) (ys := #[.int .i64 (val (gAt a1 x13_2)).Kind, .int .i64 (val (gAt a1 x13_2)).A, .int .i64 (val (gAt a1 x13_2)).B, .int .i64 (val (gAt a1 x13_2)).C, .int .i64 (val (gAt a1 x13_2)).D]) Tryd.eqGuardType35 (fun w => run_eq_edit_Step w (val (gAt a0 x13_2)) (val (gAt a1 x13_2))) rfl rfl) ?_
        refine d_nil ?_
        refine c_if (b := (!(eq_edit_Step (val (gAt a0 x13_2)) (val (gAt a1 x13_2))))) rfl (fun hb => ?_) (fun hb => ?_)
        · have H17 := cnd_t hb H16; clear H16
          refine c_seq ?_
          refine c_region ?_
          refine l_val rfl rfl rfl (r_assign (v := .bool false) rfl) ?_
          refine l_nil ?_
          refine c_ret ?_
          obtain rfl := Option.some.inj H17
          refine ret1 (v := .bool false) rfl rfl (fin rfl)
        · have H18 := cnd_f hb H16; clear H16
          refine c_skip ?_
          refine c_region ?_
          obtain ⟨t25, h_t25, H19⟩ := bnd_some H18; clear H18
          refine l_val rfl rfl rfl (r_addG rfl rfl h_t25) ?_
          refine l_val rfl rfl rfl (r_move (v := .int .i64 t25) rfl) ?_
          refine l_nil ?_
          refine c_close t25 () m1 [] (by exact ⟨rfl, rfl, rfl, rfl, trivial⟩) (by decide) rfl (by exact ⟨(by subst hn1; exact H19), trivial⟩) (Nat.lt_succ_self _)
        ) (by kernel_rfl)
    · have H20 := cnd_f hb H13; clear H13
      refine c_exit ?_
      refine c_seq ?_
      refine c_region ?_
      refine l_val rfl rfl rfl (r_assign (v := .bool true) rfl) ?_
      refine l_nil ?_
      refine c_ret ?_
      obtain rfl := Option.some.inj H20
      refine ret1 (v := .bool true) rfl rfl (fin rfl)
theorem k26 {a0 : (List T_edit_Step)} {v0 : Value} {a1 : (List T_edit_Step)} {v1 : Value} {r : Bool} {w : World} {h : Heap} (hw : Know h w noS) (f0 : FrS h 5 v0 (a0.map e_edit_Step)) (f1 : FrS h 5 v1 (a1.map e_edit_Step)) (H : edit_Same a0 a1 = some r) : Does Tryd.prog 26 (List.toArray [v0, v1]) w (fun v w' => v = (.bool r) ∧ Grow w w') := by
  refine enter (n := 8) Tryd.func26 rfl rfl rfl noS [] (Sat.nil _ _) ?_
  refine c_seq ?_
  refine c_region ?_
  refine l_val rfl rfl rfl (r_assign (v := .bool false) rfl) ?_
  refine l_nil ?_
  refine c_seq ?_
  refine c_region ?_
  refine l_val rfl rfl rfl (r_move (v := v0) rfl) ?_
  refine l_val rfl rfl rfl (r_move (v := v1) rfl) ?_
  obtain ⟨t7, h_t7, H2⟩ := bnd_some H; clear H
  refine l_callG (fun w hF hS => k62 (know_all w) (f0.mono (hw.now hF)) (f1.mono (hw.now hF)) h_t7) Tryd.call62 rfl rfl rfl ?_
  refine l_val rfl rfl rfl (r_assign (v := .bool t7) rfl) ?_
  refine l_nil ?_
  refine c_ret ?_
  obtain rfl := Option.some.inj H2
  refine ret1 (v := .bool t7) rfl rfl (fin rfl)
theorem k78 {a0 : (List T_edit_Step)} {v0 : Value} {a1 : (T_edit_Step → Option (Bool))} {v1 : Value} {r : Int} {w : World} {h : Heap} (hw : Know h w noS) (f0 : FrS h 5 v0 (a0.map e_edit_Step)) (f1 : FnH Tryd.prog h v1 (fnR_func_edit_Step_bool a1)) (H : slices_IndexFunc_edit_Step a0 a1 = some r) : Does Tryd.prog 78 (List.toArray [v0, v1]) w (fun v w' => v = (.int .i64 r) ∧ Grow w w') := by
  refine enter (n := 19) Tryd.func78 rfl rfl rfl noS [] (Sat.nil _ _) ?_
  refine c_seq ?_
  refine c_region ?_
  refine l_val rfl rfl rfl (r_assign (v := .int .i64 0) rfl) ?_
  refine l_nil ?_
  refine c_seq ?_
  refine c_seq ?_
  refine c_region ?_
  refine l_val rfl rfl rfl (r_move (v := v0) rfl) ?_
  refine l_val rfl rfl rfl (r_lenF Tryd.underlying22 rfl f0 rfl) ?_
  refine l_val rfl rfl rfl (r_move (v := .int .i64 0) rfl) ?_
  refine l_nil ?_
  refine c_block ?_
  refine c_fix (σ := Int) (τ := Unit) (fun next1 s => slices_IndexFunc_edit_Step_l1 a0 a1 next1 s) (fun s t => [(0, v0), (1, v1), (7, .int .i64 (a0.length : Int)), (8, .int .i64 s)]) (fun s t => []) (fun s t => True) 0 () [] H (by exact trivial) (by exact ⟨rfl, rfl, rfl, rfl, trivial⟩) (by decide) rfl ?_
  rintro x8_2 _ m1 gg H9 _
  clear H
  replace H9 : slices_IndexFunc_edit_Step_l1 a0 a1 (it (fun next1 s => slices_IndexFunc_edit_Step_l1 a0 a1 next1 s) m1) x8_2 = some r := H9
  generalize hn1 : it (fun next1 s => slices_IndexFunc_edit_Step_l1 a0 a1 next1 s) m1 = next1 at H9
  refine c_tidyF [(0, v0), (1, v1), (7, .int .i64 (a0.length : Int)), (8, .int .i64 x8_2)] [] rfl rfl ?_
  refine c_seq ?_
  refine c_region ?_
  refine l_val rfl rfl rfl (r_lss rfl rfl) ?_
  refine l_nil ?_
  refine c_seq ?_
  refine c_if (b := (decide (x8_2 < (a0.length : Int)))) rfl (fun hb => ?_) (fun hb => ?_)
  · have H10 := cnd_t hb H9; clear H9
    refine c_skip ?_
    refine c_seq ?_
    refine c_block ?_
    refine c_seq ?_
    refine c_region ?_
    refine l_val rfl rfl rfl (r_move (v := .int .i64 x8_2) rfl) ?_
    refine l_val rfl rfl rfl (r_assign (v := .int .i64 x8_2) rfl) ?_
    refine l_nil ?_
    refine c_seq ?_
    refine c_region ?_
    refine l_val rfl rfl rfl (r_move (v := v1) rfl) ?_
    refine l_val rfl rfl rfl (r_move (v := v0) rfl) ?_
    refine l_val rfl rfl rfl (r_move (v := .int .i64 x8_2) rfl) ?_
    obtain ⟨t14, h_t14, H11⟩ := bnd_some H10; clear H10
    refine l_val rfl rfl rfl (r_indexF Tryd.underlying22 Tryd.sizeOf35 rfl rfl f0 h_t14) ?_
    refine l_read (fun w hF hS => run_loadGN (f := e_edit_Step) (i := x8_2) (sz := 5) (j := 0) (vs := [.int .i64 t14.Kind, .int .i64 t14.A, .int .i64 t14.B, .int .i64 t14.C, .int .i64 t14.D]) Tryd.isAgg35 Tryd.sizeOf35 rfl rfl (f0.row (hw.now hF)) h_t14 rfl) rfl rfl rfl ?_
    obtain ⟨t16, h_t16, H12⟩ := bnd_some H11; clear H11
    refine l_callV (R := fnR_func_edit_Step_bool a1) (r := .bool t16) (v := v1) (fun w hF hS => ⟨(f1.mono (hw.now hF)), ⟨t14, _, rfl, h_t16, rfl⟩⟩) rfl rfl rfl rfl ?_
    refine l_nil ?_
    refine c_if (b := t16) rfl (fun hb => ?_) (fun hb => ?_)
    · have H13 := cnd_t hb H12; clear H12
      refine c_seq ?_
      refine c_region ?_
      refine l_val rfl rfl rfl (r_move (v := .int .i64 x8_2) rfl) ?_
      refine l_val rfl rfl rfl (r_assign (v := .int .i64 x8_2) rfl) ?_
      refine l_nil ?_
      refine c_ret ?_
      obtain rfl := Option.some.inj H13
      refine ret1 (v := .int .i64 x8_2) rfl rfl (fin rfl)
    · have H14 := cnd_f hb H12; clear H12
      refine c_skip ?_
      refine c_region ?_
      obtain ⟨t18, h_t18, H15⟩ := bnd_some H14; clear H14
      refine l_val rfl rfl rfl (r_addG rfl rfl h_t18) ?_
      refine l_val rfl rfl rfl (r_move (v := .int .i64 t18) rfl) ?_
      refine l_nil ?_
      refine c_close t18 () m1 [] (by exact ⟨rfl, rfl, rfl, rfl, trivial⟩) (by decide) rfl (by exact ⟨(by subst hn1; exact H15), trivial⟩) (Nat.lt_succ_self _)
  · have H16 := cnd_f hb H9; clear H9
    refine c_exit ?_
    refine c_seq ?_
    refine c_region ?_
    refine l_val rfl rfl rfl (r_assign (v := .int .i64 (-1)) rfl) ?_
    refine l_nil ?_
    refine c_ret ?_
    obtain rfl := Option.some.inj H16
    refine ret1 (v := .int .i64 (-1)) rfl rfl (fin rfl)
theorem k27 {a0 : (List T_edit_Step)} {v0 : Value} {a1 : (T_edit_Step → Option (Bool))} {v1 : Value} {r : Bool} {w : World} {h : Heap} (hw : Know h w noS) (f0 : FrS h 5 v0 (a0.map e_edit_Step)) (f1 : FnH Tryd.prog h v1 (fnR_func_edit_Step_bool a1)) (H : slices_ContainsFunc_edit_Step a0 a1 = some r) : Does Tryd.prog 27 (List.toArray [v0, v1]) w (fun v w' => v = (.bool r) ∧ Grow w w') := by
  refine enter (n := 9) Tryd.func27 rfl rfl rfl noS [] (Sat.nil _ _) ?_
  refine c_seq ?_
  refine c_region ?_
  refine l_val rfl rfl rfl (r_assign (v := .bool false) rfl) ?_
  refine l_nil ?_
  refine c_seq ?_
  refine c_region ?_
  refine l_val rfl rfl rfl (r_move (v := v0) rfl) ?_
  refine l_val rfl rfl rfl (r_move (v := v1) rfl) ?_
  obtain ⟨t7, h_t7, H2⟩ := bnd_some H; clear H
  refine l_callG (fun w hF hS => k78 (know_all w) (f0.mono (hw.now hF)) (f1.mono (hw.now hF)) h_t7) Tryd.call78 rfl rfl rfl ?_
  refine l_val rfl rfl rfl (r_geq rfl rfl) ?_
  refine l_val rfl rfl rfl (r_assign (v := .bool (decide (0 ≤ t7))) rfl) ?_
  refine l_nil ?_
  refine c_ret ?_
  obtain rfl := Option.some.inj H2
  refine ret1 (v := .bool (decide (0 ≤ t7))) rfl rfl (fin rfl)
theorem k65 {a0 : (List T_edit_Step)} {v0 : Value} {r : (List T_edit_Step)} {w : World} {h : Heap} (hw : Know h w noS) (f0 : FrS h 5 v0 (a0.map e_edit_Step)) (H : slices_Clone_edit_Step a0 = some r) : Does Tryd.prog 65 (List.toArray [v0]) w (fun v w' => ∃ x : (Option Addr × Nat), v = (.slice x.1 r.length x.2) ∧ Turn w w' noS (rowV 35 5 (.slice x.1 r.length x.2) r.length (r.map e_edit_Step))) := by
  refine enter (n := 8) Tryd.func65 rfl rfl rfl noS [] (Sat.nil _ _) ?_
  refine c_seq ?_
  refine c_region ?_
  refine l_val rfl rfl rfl (r_assign (v := .slice none 0 0) rfl) ?_
  refine l_nil ?_
  refine c_seq ?_
  refine c_seq ?_
  refine c_region ?_
  refine l_val rfl rfl rfl (r_move (v := v0) rfl) ?_
  refine l_val rfl rfl rfl (r_eqlNilS Tryd.underlying22 f0 rfl rfl) ?_
  refine l_nil ?_
  refine c_if (b := isNilV v0) rfl (fun hb => ?_) (fun hb => ?_)
  · have hn_ : a0 = [] := f0.nilV hb
    have H3 : some ([] : List T_edit_Step) = some r := by have h_ := H; rw [hn_] at h_; exact h_
    refine c_seq ?_
    refine c_region ?_
    refine l_val rfl rfl rfl (r_assign (v := .slice none 0 0) rfl) ?_
    refine l_nil ?_
    refine c_ret ?_
    refine c_nilRow 35 5 ?_
    obtain rfl := Option.some.inj H3
    refine ret1 (v := .slice ((none, 0) : Option Addr × Nat).1 ([] : List T_edit_Step).length ((none, 0) : Option Addr × Nat).2) rfl rfl (finX ((none, 0) : Option Addr × Nat) (i := 0) rfl rfl (Imp.refl _))
  · skip
    refine c_skip ?_
    refine c_seq ?_
    refine c_region ?_
    refine l_buildSlice (vs := []) (cs := []) Tryd.underlying22 Tryd.sizeOf35 Tryd.zeroValue35 rfl rfl rfl rfl rfl rfl rfl (fun b1 => ?_)
    refine l_val rfl rfl rfl (r_move (v := v0) rfl) ?_
    refine c_imp 0 rfl (imp_box (m := 0) (E := 35) (sz := 5) (xs := (([] : List T_edit_Step)).map e_edit_Step) rfl rfl rfl ⟨rfl, by decide⟩) ?_
    obtain ⟨l7, h_l7, H4⟩ := bnd_some H; clear H
    refine l_turn (turns_appG (i := 0) (hn := rfl) (rds := []) (p := ((some ⟨b1, 0, none⟩, 0) : Option Addr × Nat)) (sz := 5) (by_ := 40) (f := e_edit_Step) (ys := ([] : List T_edit_Step)) (ls := a0) (V := v0) Tryd.underlying22 (info_of Tryd.typeInfo35) rfl rfl rfl rfl rfl rfl rfl rfl f0.eq (List.length_map _) (fun w L' hF hS hi => (f0).row (hw.now hF)) (fun _ => rfl) (fun _ => rfl) h_l7) rfl rfl rfl (fun p => ?_)
    refine l_val rfl rfl rfl (r_assign (v := .slice p.1 l7.length p.2) rfl) ?_
    refine l_nil ?_
    refine c_ret ?_
    obtain rfl := Option.some.inj H4
    refine ret1 (v := .slice p.1 l7.length p.2) rfl rfl (finX p (i := 0) rfl rfl (Imp.refl _))
theorem k20 {a0 : (List T_edit_Step)} {v0 : Value} {a1 : (List T_edit_Step)} {v1 : Value} {a2 : (List T_edit_Step)} {v2 : Value} {r : (List T_edit_Step) × Bool × Int} {w : World} {h : Heap} (hw : Know h w noS) (f0 : FrS h 5 v0 (a0.map e_edit_Step)) (f1 : FrS h 5 v1 (a1.map e_edit_Step)) (f2 : FrS h 5 v2 (a2.map e_edit_Step)) (H : edit_Merge a0 a1 a2 = some r) : Does Tryd.prog 20 (List.toArray [v0, v1, v2]) w (fun v w' => ∃ x : (Option Addr × Nat), v = (.tuple #[.slice x.1 r.1.length x.2, .bool r.2.1, .int .i64 r.2.2]) ∧ Turn w w' noS (roV 5 (.slice x.1 r.1.length x.2) r.1.length (r.1.map e_edit_Step))) := by
  refine enter (n := 82) Tryd.func20 rfl rfl rfl noS [] (Sat.nil _ _) ?_
  refine c_seq ?_
  refine c_region ?_
  refine l_val rfl rfl rfl (r_assign (v := .slice none 0 0) rfl) ?_
  refine l_val rfl rfl rfl (r_assign (v := .bool false) rfl) ?_
  refine l_val rfl rfl rfl (r_assign (v := .int .i64 0) rfl) ?_
  refine l_nil ?_
  refine c_seq ?_
  refine c_seq ?_
  refine c_region ?_
  refine l_val rfl rfl rfl (r_move (v := v0) rfl) ?_
  refine l_val rfl rfl rfl (r_move (v := v1) rfl) ?_
  refine l_val rfl rfl rfl (r_move (v := v2) rfl) ?_
  refine l_buildSlice (vs := [v0, v1, v2]) (cs := [v0, v1, v2]) Tryd.underlying104 Tryd.sizeOf22 Tryd.zeroValue22 rfl rfl rfl rfl (by simp only [List.all_cons, List.all_nil, cells_sz f0.cells, cells_sz f1.cells, cells_sz f2.cells] <;> rfl) rfl (by simp only [List.flatMap_cons, List.flatMap_nil, f0.cells, f1.cells, f2.cells] <;> rfl) (fun b6 => ?_)
  obtain ⟨t20, h_t20, H59⟩ := bnd_some H; clear H
  refine l_callG (fun w hF hS => k54 (know_all w) (frn_box (G := gs_edit_Step) (sz := 1) (xs := ([a0, a1, a2] : List (List T_edit_Step))) (i := 0) hS rfl rfl rfl rfl ⟨(f0.mono (hw.now hF)), (f1.mono (hw.now hF)), (f2.mono (hw.now hF)), rfl⟩) h_t20) Tryd.call54 rfl rfl rfl ?_
  refine l_val rfl rfl rfl (r_assign (v := .int .i64 t20) rfl) ?_
  refine l_nil ?_
  refine c_seq ?_
  refine c_region ?_
  refine l_val rfl rfl rfl (r_move (v := .int .i64 t20) rfl) ?_
  refine l_val rfl rfl rfl (r_neq rfl rfl) ?_
  refine l_nil ?_
  refine c_if (b := (decide (t20 ≠ 0))) rfl (fun hb => ?_) (fun hb => ?_)
  · have H60 := cnd_t hb H59; clear H59
    refine c_seq ?_
    refine c_region ?_
    refine l_val rfl rfl rfl (r_move (v := .int .i64 t20) rfl) ?_
    refine l_val rfl rfl rfl (r_assign (v := .slice none 0 0) rfl) ?_
    refine l_val rfl rfl rfl (r_assign (v := .bool false) rfl) ?_
    refine l_val rfl rfl rfl (r_assign (v := .int .i64 t20) rfl) ?_
    refine l_nil ?_
    refine c_ret ?_
    refine c_nilRow 35 5 ?_
    obtain rfl := Option.some.inj H60
    refine c_imp 1 rfl (row_ro _ _ _ _ _) ?_
    refine ret3 (v1 := .slice ((none, 0) : Option Addr × Nat).1 ([] : List T_edit_Step).length ((none, 0) : Option Addr × Nat).2) (v2 := .bool false) (v3 := .int .i64 t20) rfl rfl rfl rfl (finX ((none, 0) : Option Addr × Nat) (i := 1) rfl rfl (Imp.refl _))
  · have H61 := cnd_f hb H59; clear H59
    refine c_skip ?_
    refine c_seq ?_
    refine c_region ?_
    refine l_val rfl rfl rfl (r_move (v := v0) rfl) ?_
    refine l_val rfl rfl rfl (r_move (v := v1) rfl) ?_
    obtain ⟨t26, h_t26, H62⟩ := bnd_some H61; clear H61
    refine l_callG (fun w hF hS => k16 (know_all w) (f0.mono (hw.now hF)) (f1.mono (hw.now hF)) h_t26) Tryd.call16 rfl rfl rfl ?_
    refine l_val rfl rfl rfl (r_move (v := v0) rfl) ?_
    refine l_val rfl rfl rfl (r_move (v := v2) rfl) ?_
    obtain ⟨t29, h_t29, H63⟩ := bnd_some H62; clear H62
    refine l_callG (fun w hF hS => k16 (know_all w) (f0.mono (hw.now hF)) (f2.mono (hw.now hF)) h_t29) Tryd.call16 rfl rfl rfl ?_
    refine l_val rfl rfl rfl (r_min rfl rfl) ?_
    refine l_val rfl rfl rfl (r_assign (v := .int .i64 (min t26 t29)) rfl) ?_
    refine l_nil ?_
    refine c_seq ?_
    exact c_regionD (Kd.p :: Kd.p :: Kd.p :: Kd.p :: Kd.p :: Kd.p :: Kd.p :: Kd.p :: Kd.p :: Kd.p :: Kd.p :: Kd.p :: []) 0 mixed (by
      refine d_val rfl rfl (r_move (v := v1) rfl) ?_
      refine d_val rfl rfl (r_move (v := .int .i64 (min t26 t29)) rfl) ?_
      have h_t33 := bnd_val H63
      have H64 := bnd_rest H63
      refine d_val rfl rfl (r_sliceLF Tryd.underlying22 Tryd.sizeOf35 rfl rfl f1 h_t33) ?_
      refine d_val rfl rfl (r_move (v := v2) rfl) ?_
      refine d_val rfl rfl (r_move (v := .int .i64 (min t26 t29)) rfl) ?_
      have h_t36 := bnd_val H64
      have H65 := bnd_rest H64
      refine d_val rfl rfl (r_sliceLF Tryd.underlying22 Tryd.sizeOf35 rfl rfl f2 h_t36) ?_
      refine d_val rfl rfl (r_move (v := v0) rfl) ?_
      refine d_val rfl rfl (r_move (v := .int .i64 (min t26 t29)) rfl) ?_
      have h_t39 := bnd_val H65
      have H66 := bnd_rest H65
      refine d_val rfl rfl (r_sliceLF Tryd.underlying22 Tryd.sizeOf35 rfl rfl f0 h_t39) ?_
      refine d_val rfl rfl (r_assign (v := (cutV 5 v1 (min t26 t29) a1.length)) rfl) ?_
      refine d_val rfl rfl (r_assign (v := (cutV 5 v2 (min t26 t29) a2.length)) rfl) ?_
      refine d_val rfl rfl (r_assign (v := (cutV 5 v0 (min t26 t29) a0.length)) rfl) ?_
      refine d_nil ?_
      refine c_seq ?_
      refine c_region ?_
      refine l_val rfl rfl rfl (r_assign (v := .slice none 0 0) rfl) ?_
      refine l_nil ?_
      refine c_seq ?_
      refine c_region ?_
      refine l_val rfl rfl rfl (r_assign (v := .bool false) rfl) ?_
      refine l_nil ?_
      refine c_meet (r := r) (σ := Bool × (List T_edit_Step)) (τ := (Option Addr × Nat)) (fun s => edit_Merge_j1 s.1 s.2) (fun s t => [(14, .slice t.1 s.2.length t.2), (15, .bool s.1)]) (fun s t => [roH h 5 (.slice t.1 s.2.length t.2) s.2.length (s.2.map e_edit_Step)]) (fun s t => True) ?_ ?_
      · refine c_block ?_
        refine c_seq ?_
        refine c_region ?_
        refine l_val rfl rfl rfl (r_move (v := (cutV 5 v1 (min t26 t29) a1.length)) rfl) ?_
        refine l_val rfl rfl rfl (r_move (v := (cutV 5 v0 (min t26 t29) a0.length)) rfl) ?_
        obtain ⟨t44, h_t44, H71⟩ := bnd_some H66; clear H66
        refine l_callG (fun w hF hS => k26 (know_all w) ((f1.cut h_t33).mono (hw.now hF)) ((f0.cut h_t39).mono (hw.now hF)) h_t44) Tryd.call26 rfl rfl rfl ?_
        refine l_val rfl rfl rfl (r_assign (v := .bool t44) rfl) ?_
        refine l_nil ?_
        refine c_if (b := t44) rfl (fun hb => ?_) (fun hb => ?_)
        · have H72 := cnd_t hb H71; clear H71
          refine c_region ?_
          refine l_val rfl rfl rfl (r_move (v := v2) rfl) ?_
          refine l_val rfl rfl rfl (r_assign (v := v2) rfl) ?_
          refine l_nil ?_
          obtain ⟨p_3, hp_⟩ := (f2).form; subst hp_
          refine c_frz f2 ?_
          refine c_close (false, a2) p_3 0 [1] (by exact ⟨rfl, rfl, trivial⟩) (by decide) rfl (by exact ⟨H72, trivial⟩) (Nat.lt_succ_self _)
        · have H73 := cnd_f hb H71; clear H71
          refine c_seq ?_
          refine c_region ?_
          refine l_val rfl rfl rfl (r_move (v := (cutV 5 v2 (min t26 t29) a2.length)) rfl) ?_
          refine l_val rfl rfl rfl (r_move (v := (cutV 5 v0 (min t26 t29) a0.length)) rfl) ?_
          obtain ⟨t49, h_t49, H74⟩ := bnd_some H73; clear H73
          refine l_callG (fun w hF hS => k26 (know_all w) ((f2.cut h_t36).mono (hw.now hF)) ((f0.cut h_t39).mono (hw.now hF)) h_t49) Tryd.call26 rfl rfl rfl ?_
          refine l_val rfl rfl rfl (r_move (v := .bool t49) rfl) ?_
          refine split (fun hb => ?_) (fun hb => ?_)
          · have H75 := cnd_t hb H74; clear H74
            refine l_passed rfl rfl rfl ?_
            refine l_passed rfl rfl rfl ?_
            refine l_passed rfl rfl rfl ?_
            refine l_val rfl rfl rfl (r_pickT (v := .bool true) rfl rfl) ?_
            refine l_val rfl rfl rfl (r_assign (v := .bool true) rfl) ?_
            refine l_nil ?_
            refine c_true rfl ?_
            refine c_region ?_
            refine l_val rfl rfl rfl (r_move (v := v1) rfl) ?_
            refine l_val rfl rfl rfl (r_assign (v := v1) rfl) ?_
            refine l_nil ?_
            obtain ⟨p_4, hp_⟩ := (f1).form; subst hp_
            refine c_frz f1 ?_
            refine c_close (false, a1) p_4 0 [1] (by exact ⟨rfl, rfl, trivial⟩) (by decide) rfl (by exact ⟨H75, trivial⟩) (Nat.lt_succ_self _)
          · have H76 := cnd_f hb H74; clear H74
            refine l_val rfl rfl rfl (r_move (v := (cutV 5 v1 (min t26 t29) a1.length)) rfl) ?_
            refine l_val rfl rfl rfl (r_move (v := (cutV 5 v2 (min t26 t29) a2.length)) rfl) ?_
            obtain ⟨t53, h_t53, H77⟩ := bnd_some H76; clear H76
            refine l_callG (fun w hF hS => k26 (know_all w) ((f1.cut h_t33).mono (hw.now hF)) ((f2.cut h_t36).mono (hw.now hF)) h_t53) Tryd.call26 rfl rfl rfl ?_
            refine l_val rfl rfl rfl (r_pickF (v := .bool t53) rfl rfl) ?_
            refine l_val rfl rfl rfl (r_assign (v := .bool t53) rfl) ?_
            refine l_nil ?_
            refine c_if (b := t53) rfl (fun hb => ?_) (fun hb => ?_)
            · have H78 := cnd_t hb H77; clear H77
              refine c_region ?_
              refine l_val rfl rfl rfl (r_move (v := v1) rfl) ?_
              refine l_val rfl rfl rfl (r_assign (v := v1) rfl) ?_
              refine l_nil ?_
              obtain ⟨p_5, hp_⟩ := (f1).form; subst hp_
              refine c_frz f1 ?_
              refine c_close (false, a1) p_5 0 [1] (by exact ⟨rfl, rfl, trivial⟩) (by decide) rfl (by exact ⟨H78, trivial⟩) (Nat.lt_succ_self _)
            · have H79 := cnd_f hb H77; clear H77
              refine c_seq ?_
              refine c_region ?_
              refine l_val rfl rfl rfl (r_move (v := (cutV 5 v0 (min t26 t29) a0.length)) rfl) ?_
              refine l_val rfl rfl rfl (r_lenF Tryd.underlying22 rfl (f0.cut h_t39) rfl) ?_
              refine l_val rfl rfl rfl (r_eql rfl rfl) ?_
              refine l_val rfl rfl rfl (r_move (v := .bool (decide (((val (gCut a0 (min t26 t29) a0.length)).length : Int) = 0))) rfl) ?_
              refine split (fun hb => ?_) (fun hb => ?_)
              · have H80 := cnd_t hb H79; clear H79
                refine l_val rfl rfl rfl (r_move (v := (cutV 5 v1 (min t26 t29) a1.length)) rfl) ?_
                refine l_val rfl rfl rfl (r_move (v := (cutV 5 v2 (min t26 t29) a2.length)) rfl) ?_
                refine l_buildSlice (vs := [(cutV 5 v1 (min t26 t29) a1.length), (cutV 5 v2 (min t26 t29) a2.length)]) (cs := [(cutV 5 v1 (min t26 t29) a1.length), (cutV 5 v2 (min t26 t29) a2.length)]) Tryd.underlying104 Tryd.sizeOf22 Tryd.zeroValue22 rfl rfl rfl rfl (by simp only [List.all_cons, List.all_nil, cells_sz (f1.cut h_t33).cells, cells_sz (f2.cut h_t36).cells] <;> rfl) rfl (by simp only [List.flatMap_cons, List.flatMap_nil, (f1.cut h_t33).cells, (f2.cut h_t36).cells] <;> rfl) (fun b7 => ?_)
                obtain ⟨t64, h_t64, H81⟩ := bnd_some H80; clear H80
                refine l_make (makes_call (rds := [1]) (G := fun x : (Option Addr × Nat) => .slice x.1 t64.length x.2) (C := fun x : (Option Addr × Nat) => rowV 35 5 (.slice x.1 t64.length x.2) t64.length (t64.map e_edit_Step)) (fun w L' hF hS hi => k13 (know_all w) (frn_box (G := gs_edit_Step) (sz := 1) (xs := ([(val (gCut a1 (min t26 t29) a1.length)), (val (gCut a2 (min t26 t29) a2.length))] : List (List T_edit_Step))) (i := 1) hS ((hi 1 (by simp)).trans rfl) rfl rfl rfl ⟨((f1.cut h_t33).mono (hw.now hF)), ((f2.cut h_t36).mono (hw.now hF)), rfl⟩) h_t64) Tryd.call13 rfl) rfl rfl rfl (fun p_6 => ?_)
                obtain ⟨t65, h_t65, H82⟩ := bnd_some H81; clear H81
                refine l_callG (fun w hF hS => k27 (know_all w) (frs_own (i := 2) rfl hS rfl) (FnH.mk ⟨64, #[], #[], rfl, Tryd.call64, fun args2 post2 w2 hk2 hR2 => by obtain ⟨a0_, r_, rfl, H_, rfl⟩ := hR2; exact k64 H_ w2⟩) h_t65) Tryd.call27 rfl rfl rfl ?_
                refine l_val rfl rfl rfl (r_not rfl) ?_
                refine l_val rfl rfl rfl (r_pickT (v := .bool (!t65)) rfl rfl) ?_
                refine l_val rfl rfl rfl (r_assign (v := .bool (!t65)) rfl) ?_
                refine l_nil ?_
                refine c_if (b := (!t65)) rfl (fun hb => ?_) (fun hb => ?_)
                · have H83 := cnd_t hb H82; clear H82
                  refine c_region ?_
                  refine l_val rfl rfl rfl (r_move (v := v0) rfl) ?_
                  refine l_val rfl rfl rfl (r_move (v := .int .i64 (min t26 t29)) rfl) ?_
                  obtain ⟨t70, h_t70, H84⟩ := bnd_some H83; clear H83
                  refine l_val rfl rfl rfl (r_sliceHF Tryd.underlying22 Tryd.sizeOf35 rfl rfl f0 h_t70) ?_
                  refine l_val rfl rfl rfl (r_move (v := (cutV 5 v1 (min t26 t29) a1.length)) rfl) ?_
                  refine l_val rfl rfl rfl (r_move (v := (cutV 5 v2 (min t26 t29) a2.length)) rfl) ?_
                  refine l_buildSlice (vs := [(cutV 5 v0 0 (min t26 t29)), (cutV 5 v1 (min t26 t29) a1.length), (cutV 5 v2 (min t26 t29) a2.length)]) (cs := [(cutV 5 v0 0 (min t26 t29)), (cutV 5 v1 (min t26 t29) a1.length), (cutV 5 v2 (min t26 t29) a2.length)]) Tryd.underlying104 Tryd.sizeOf22 Tryd.zeroValue22 rfl rfl rfl rfl (by simp only [List.all_cons, List.all_nil, cells_sz (f0.cut h_t70).cells, cells_sz (f1.cut h_t33).cells, cells_sz (f2.cut h_t36).cells] <;> rfl) rfl (by simp only [List.flatMap_cons, List.flatMap_nil, (f0.cut h_t70).cells, (f1.cut h_t33).cells, (f2.cut h_t36).cells] <;> rfl) (fun b8 => ?_)
                  obtain ⟨t74, h_t74, H85⟩ := bnd_some H84; clear H84
                  refine l_make (makes_call (rds := [3]) (G := fun x : (Option Addr × Nat) => .slice x.1 t74.length x.2) (C := fun x : (Option Addr × Nat) => rowV 35 5 (.slice x.1 t74.length x.2) t74.length (t74.map e_edit_Step)) (fun w L' hF hS hi => k13 (know_all w) (frn_box (G := gs_edit_Step) (sz := 1) (xs := ([t70, (val (gCut a1 (min t26 t29) a1.length)), (val (gCut a2 (min t26 t29) a2.length))] : List (List T_edit_Step))) (i := 3) hS ((hi 3 (by simp)).trans rfl) rfl rfl rfl ⟨((f0.cut h_t70).mono (hw.now hF)), ((f1.cut h_t33).mono (hw.now hF)), ((f2.cut h_t36).mono (hw.now hF)), rfl⟩) h_t74) Tryd.call13 rfl) rfl rfl rfl (fun p_7 => ?_)
                  refine l_val rfl rfl rfl (r_assign (v := .slice p_7.1 t74.length p_7.2) rfl) ?_
                  refine l_nil ?_
                  refine c_imp 4 rfl (imp_rowH h _ _ _ _ _) ?_
                  refine c_close (false, t74) p_7 0 [4] (by exact ⟨rfl, rfl, trivial⟩) (by decide) rfl (by exact ⟨H85, trivial⟩) (Nat.lt_succ_self _)
                · have H86 := cnd_f hb H82; clear H82
                  refine c_region ?_
                  refine l_val rfl rfl rfl (r_move (v := v1) rfl) ?_
                  refine l_val rfl rfl rfl (r_assign (v := v1) rfl) ?_
                  refine l_val rfl rfl rfl (r_assign (v := .bool true) rfl) ?_
                  refine l_nil ?_
                  obtain ⟨p_8, hp_⟩ := (f1).form; subst hp_
                  refine c_frz f1 ?_
                  refine c_close (true, a1) p_8 0 [3] (by exact ⟨rfl, rfl, trivial⟩) (by decide) rfl (by exact ⟨H86, trivial⟩) (Nat.lt_succ_self _)
              · have H87 := cnd_f hb H79; clear H79
                refine l_passed rfl rfl rfl ?_
                refine l_passed rfl rfl rfl ?_
                refine l_passed rfl rfl rfl ?_
                refine l_passed rfl rfl rfl ?_
                refine l_passed rfl rfl rfl ?_
                refine l_passed rfl rfl rfl ?_
                refine l_val rfl rfl rfl (r_pickF (v := .bool false) rfl rfl) ?_
                refine l_val rfl rfl rfl (r_assign (v := .bool false) rfl) ?_
                refine l_nil ?_
                refine c_false rfl ?_
                refine c_region ?_
                refine l_val rfl rfl rfl (r_move (v := v1) rfl) ?_
                refine l_val rfl rfl rfl (r_assign (v := v1) rfl) ?_
                refine l_val rfl rfl rfl (r_assign (v := .bool true) rfl) ?_
                refine l_nil ?_
                obtain ⟨p_9, hp_⟩ := (f1).form; subst hp_
                refine c_frz f1 ?_
                refine c_close (true, a1) p_9 0 [1] (by exact ⟨rfl, rfl, trivial⟩) (by decide) rfl (by exact ⟨H87, trivial⟩) (Nat.lt_succ_self _)
      · rintro ⟨x15, l⟩ p gg H67 _
        replace H67 : edit_Merge_j1 x15 l = some r := H67
        refine c_tidyF [(14, .slice p.1 l.length p.2), (15, .bool x15)] [roH h 5 (.slice p.1 l.length p.2) l.length (l.map e_edit_Step)] rfl rfl ?_
        refine c_seq ?_
        refine c_seq ?_
        refine c_region ?_
        refine l_val rfl rfl rfl (r_move (v := .slice p.1 l.length p.2) rfl) ?_
        refine l_val rfl rfl rfl (r_len Tryd.underlying22 rfl) ?_
        refine l_val rfl rfl rfl (r_gtr rfl rfl) ?_
        refine l_nil ?_
        refine c_if (b := (decide (50 < (l.length : Int)))) rfl (fun hb => ?_) (fun hb => ?_)
        · have H68 := cnd_t hb H67; clear H67
          refine c_seq ?_
          refine c_region ?_
          refine l_val rfl rfl rfl (r_assign (v := .slice none 0 0) rfl) ?_
          refine l_val rfl rfl rfl (r_assign (v := .bool false) rfl) ?_
          refine l_val rfl rfl rfl (r_assign (v := .int .i64 4) rfl) ?_
          refine l_nil ?_
          refine c_ret ?_
          refine c_nilRow 35 5 ?_
          obtain rfl := Option.some.inj H68
          refine c_imp 1 rfl (row_ro _ _ _ _ _) ?_
          refine ret3 (v1 := .slice ((none, 0) : Option Addr × Nat).1 ([] : List T_edit_Step).length ((none, 0) : Option Addr × Nat).2) (v2 := .bool false) (v3 := .int .i64 4) rfl rfl rfl rfl (finX ((none, 0) : Option Addr × Nat) (i := 1) rfl rfl (Imp.refl _))
        · have H69 := cnd_f hb H67; clear H67
          refine c_skip ?_
          refine c_seq ?_
          refine c_region ?_
          refine l_val rfl rfl rfl (r_move (v := .slice p.1 l.length p.2) rfl) ?_
          obtain ⟨t79, h_t79, H70⟩ := bnd_some H69; clear H69
          refine l_make (makes_call (rds := [0]) (G := fun x : (Option Addr × Nat) => .slice x.1 t79.length x.2) (C := fun x : (Option Addr × Nat) => rowV 35 5 (.slice x.1 t79.length x.2) t79.length (t79.map e_edit_Step)) (fun w L' hF hS hi => k65 (know_all w) (frs_roh (i := 0) hS ((hi 0 (by simp)).trans rfl) (hw.now hF)) h_t79) Tryd.call65 rfl) rfl rfl rfl (fun p_2 => ?_)
          refine l_callG (fun w hF hS => k56 (capOf (i := 1) hS rfl) w) Tryd.call56 rfl rfl rfl ?_
          refine l_val rfl rfl rfl (r_move (v := .bool x15) rfl) ?_
          refine l_val rfl rfl rfl (r_assign (v := .slice (cutA p_2.1 0 t79.length 5) t79.length t79.length) rfl) ?_
          refine l_val rfl rfl rfl (r_assign (v := .bool x15) rfl) ?_
          refine l_val rfl rfl rfl (r_assign (v := .int .i64 0) rfl) ?_
          refine l_nil ?_
          refine c_ret ?_
          obtain rfl := Option.some.inj H70
          refine c_imp 1 rfl (imp_clipO _ _ _ _ _ _) ?_
          refine ret3 (v1 := .slice (cutA p_2.1 0 t79.length 5) t79.length t79.length) (v2 := .bool x15) (v3 := .int .i64 0) rfl rfl rfl rfl (finX (cutA p_2.1 0 t79.length 5, t79.length) (i := 1) rfl rfl (Imp.refl _))
      ) (by kernel_rfl)
end Go.Proofs.YtilhbkglchppjaaDoor
