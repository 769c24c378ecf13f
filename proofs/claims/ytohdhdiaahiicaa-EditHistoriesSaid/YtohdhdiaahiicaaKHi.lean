/- EditHistories: the walks, printed by our generator; each follows its model. Conditions: the model yields a value. -/
import Derived.Test.YtohdhdiaahiicaaKHb
namespace Go.Proofs.Ytohdhdiaahiicaa
open Go Go.Vc Go.Md Go.M Go.Lx
set_option maxRecDepth 100000
set_option maxHeartbeats 4000000
set_option linter.unusedVariables false

theorem k3 {a0 : (List T_edit_Step)} {v0 : Value} {a1 : (List T_tintlaw2_Move)} {v1 : Value} {r : Bool} {w : World} {h : Heap} (hw : Know h w noS) (f0 : FrS h 5 v0 (a0.map e_edit_Step)) (f1 : FrN h 8 v1 g_tintlaw2_Move a1) (H : Law_EditHistories a0 a1 = some r) : Does Try.prog 3 (List.toArray [v0, v1]) w (fun v w' => v = (.bool r) ∧ Grow w w') := by
 refine enter (n := 211) Try.func3 rfl rfl rfl noS [] (Sat.nil _ _) ?_
 refine c_poolNew h ?_
 refine c_seq ?_
 refine c_region ?_
 refine l_val rfl rfl rfl (r_assign (v := .bool false) rfl) ?_
 refine l_nil ?_
 refine c_seq ?_
 refine c_region ?_
 refine l_val rfl rfl rfl (r_move (v := v0) rfl) ?_
 obtain ⟨t23, h_t23, H94⟩ := bnd_some H; clear H
 refine l_make (makes_call (rds := []) (G := fun x : Nat × (Option Addr × Nat) => .tuple #[optP t23.1 x.1, .int .i64 t23.2]) (C := fun x : Nat × (Option Addr × Nat) => obxC (optP t23.1 x.1) t23.1 x.1 (fun z : T_edit_History => bothC (cellsC x.1 [.slice x.2.1 z.all_.length x.2.2, .int .i64 z.now_] 97) (rowD 22 1 gs_edit_Step (.slice x.2.1 z.all_.length x.2.2) z.all_.length z.all_))) (fun w L' hF hS hi => k8 (know_all w) (f0.mono (hw.now hF)) h_t23) Try.call8 rfl) rfl rfl rfl (fun ⟨p, p_2⟩ => ?_)
 refine l_val rfl rfl rfl (r_move (v := .tuple #[optP t23.1 p, .int .i64 t23.2]) rfl) ?_
 refine l_val rfl rfl rfl (r_extract (v := optP t23.1 p) rfl rfl) ?_
 refine l_val rfl rfl rfl (r_extract (v := .int .i64 t23.2) rfl rfl) ?_
 refine l_val rfl rfl rfl (r_assign (v := optP t23.1 p) rfl) ?_
 refine l_val rfl rfl rfl (r_assign (v := .int .i64 t23.2) rfl) ?_
 refine l_nil ?_
 refine c_seq ?_
 refine c_seq ?_
 refine c_region ?_
 refine l_val rfl rfl rfl (r_move (v := v0) rfl) ?_
 obtain ⟨t27, h_t27, H95⟩ := bnd_some H94; clear H94
 refine l_callG (fun w hF hS => k9 (know_all w) (f0.mono (hw.now hF)) h_t27) Try.call9 rfl rfl rfl ?_
 refine l_val rfl rfl rfl (r_assign (v := .int .i64 t27) rfl) ?_
 refine l_nil ?_
 refine c_seq ?_
 refine c_region ?_
 refine l_val rfl rfl rfl (r_move (v := .int .i64 t27) rfl) ?_
 refine l_val rfl rfl rfl (r_neq rfl rfl) ?_
 refine l_nil ?_
 refine c_if (b := (decide (t27 ≠ 0))) rfl (fun hb => ?_) (fun hb => ?_)
 ·have H96 := cnd_t hb H95; clear H95
  refine c_seq ?_
  refine c_region ?_
  refine l_val rfl rfl rfl (r_move (v := .int .i64 t23.2) rfl) ?_
  refine l_val rfl rfl rfl (r_move (v := .int .i64 t27) rfl) ?_
  refine l_val rfl rfl rfl (r_eql rfl rfl) ?_
  refine l_val rfl rfl rfl (r_move (v := .bool (decide (t23.2 = t27))) rfl) ?_
  refine split (fun hb => ?_) (fun hb => ?_)
  ·have H97 := cnd_t hb H96; clear H96
   refine l_val rfl rfl rfl (r_move (v := optP t23.1 p) rfl) ?_
   refine l_read (fun w hF hS => run_eqlOpt (i := 1) Try.underlying24 rfl rfl hS rfl) rfl rfl rfl ?_
   refine l_val rfl rfl rfl (r_pickT (v := .bool (Option.isNone t23.1)) rfl rfl) ?_
   refine l_val rfl rfl rfl (r_assign (v := .bool (Option.isNone t23.1)) rfl) ?_
   refine l_nil ?_
   refine c_ret ?_
   obtain rfl := Option.some.inj H97
   refine ret1 (v := .bool (Option.isNone t23.1)) rfl rfl (fin rfl)
  ·have H98 := cnd_f hb H96; clear H96
   refine l_passed rfl rfl rfl ?_
   refine l_passed rfl rfl rfl ?_
   refine l_val rfl rfl rfl (r_pickF (v := .bool false) rfl rfl) ?_
   refine l_val rfl rfl rfl (r_assign (v := .bool false) rfl) ?_
   refine l_nil ?_
   refine c_ret ?_
   obtain rfl := Option.some.inj H98
   refine ret1 (v := .bool false) rfl rfl (fin rfl)
 ·have H99 := cnd_f hb H95; clear H95
  refine c_skip ?_
  refine c_seq ?_
  refine c_seq ?_
  refine c_region ?_
  refine l_val rfl rfl rfl (r_move (v := .int .i64 t23.2) rfl) ?_
  refine l_val rfl rfl rfl (r_neq rfl rfl) ?_
  refine l_nil ?_
  refine c_if (b := (decide (t23.2 ≠ 0))) rfl (fun hb => ?_) (fun hb => ?_)
  ·have H100 := cnd_t hb H99; clear H99
   refine c_seq ?_
   refine c_region ?_
   refine l_val rfl rfl rfl (r_assign (v := .bool false) rfl) ?_
   refine l_nil ?_
   refine c_ret ?_
   obtain rfl := Option.some.inj H100
   refine ret1 (v := .bool false) rfl rfl (fin rfl)
  ·have H101 := cnd_f hb H99; clear H99
   refine c_skip ?_
   refine c_seq ?_
   refine c_region ?_
   refine l_buildSlice (vs := []) (cs := []) Try.underlying29 Try.sizeOf22 Try.zeroValue22 rfl rfl rfl rfl rfl rfl rfl (fun b9 => ?_)
   refine l_val rfl rfl rfl (r_move (v := v0) rfl) ?_
   refine l_buildSlice (vs := []) (cs := []) Try.underlying29 Try.sizeOf22 Try.zeroValue22 rfl rfl rfl rfl rfl rfl rfl (fun b10 => ?_)
   refine l_val rfl rfl rfl (r_assign (v := .slice (some ⟨b9, 0, none⟩) 0 0) rfl) ?_
   refine l_val rfl rfl rfl (r_assign (v := v0) rfl) ?_
   refine l_val rfl rfl rfl (r_assign (v := .slice (some ⟨b10, 0, none⟩) 0 0) rfl) ?_
   refine l_nil ?_
   refine c_meet (r := r) (σ := (List T_edit_Step) × Int × (List (List T_edit_Step))) (τ := Heap × Value × (Option Addr × Nat)) (fun s => Law_EditHistories_j1 s.1 s.2.1 s.2.2) (fun s t => [(5, .pointer (some ⟨p, 0, none⟩)), (9, t.2.1)]) (fun s t => [poolC h t.1, cellsC p [.slice t.2.2.1 s.2.2.length t.2.2.2, .int .i64 s.2.1] 97, rowD 22 1 gs_edit_Step (.slice t.2.2.1 s.2.2.length t.2.2.2) s.2.2.length s.2.2]) (fun s t => FrS t.1 5 t.2.1 (s.1.map e_edit_Step)) ?_ ?_
   ·refine c_seq ?_
    refine c_region ?_
    refine l_val rfl rfl rfl (r_move (v := v1) rfl) ?_
    refine l_val rfl rfl rfl (r_lenFN Try.underlying23 rfl f1) ?_
    refine l_val rfl rfl rfl (r_move (v := .int .i64 0) rfl) ?_
    refine l_nil ?_
    refine c_block ?_
    refine c_poolLe 0 rfl (fun hle_ => ?_)
    refine c_imp 2 rfl (imp_box (m := 0) (E := 22) (sz := 1) (xs := (([] : List (List Value))).map idC) rfl rfl rfl ⟨rfl, by decide⟩) ?_
    have pf : AllC gs_edit_Step h 1 ([] : List (List Value)) ([] : List (List T_edit_Step)) := (AllC.nil (G := gs_edit_Step) (h := h) (sz := 1))
    refine c_poolLe 0 rfl (fun hle_ => ?_)
    refine c_imp 3 rfl (imp_box (m := 0) (E := 22) (sz := 1) (xs := (([] : List (List Value))).map idC) rfl rfl rfl ⟨rfl, by decide⟩) ?_
    have pf_2 : AllC gs_edit_Step h 1 ([] : List (List Value)) ([] : List (List T_edit_Step)) := (AllC.nil (G := gs_edit_Step) (h := h) (sz := 1))
    obtain ⟨z, h_z, H105⟩ := bnd_some H101; clear H101
    refine c_obx 1 rfl h_z (fun hpv_ => ?_)
    rw [hpv_]; clear hpv_
    refine c_split 1 rfl ?_
    refine c_imp 2 rfl (imp_rowO _ _ _ _ _) ?_
    refine c_poolLe 0 rfl (fun hle_ => ?_)
    refine c_fix (σ := (List T_edit_Step) × Int × Int × (List (List T_edit_Step)) × (List (List T_edit_Step)) × (List (List T_edit_Step))) (τ := Heap × Value × (List (List Value)) × (Option Addr × Nat) × (List (List Value)) × (Option Addr × Nat) × (Option Addr × Nat)) (fun next2 s => Law_EditHistories_l2 a1 next2 s.1 s.2.1 s.2.2.1 s.2.2.2.1 s.2.2.2.2.1 s.2.2.2.2.2) (fun s t => [(5, .pointer (some ⟨p, 0, none⟩)), (8, .slice t.2.2.2.1.1 t.2.2.1.length t.2.2.2.1.2), (9, t.2.1), (10, .slice t.2.2.2.2.2.1.1 t.2.2.2.2.1.length t.2.2.2.2.2.1.2), (42, v1), (43, .int .i64 (a1.length : Int)), (44, .int .i64 s.2.1)]) (fun s t => [poolC h t.1, cellsC p [.slice t.2.2.2.2.2.2.1 s.2.2.2.2.2.length t.2.2.2.2.2.2.2, .int .i64 s.2.2.1] 97, rowO 22 1 (.slice t.2.2.2.1.1 t.2.2.1.length t.2.2.2.1.2) t.2.2.1.length (t.2.2.1.map idC), rowV 22 1 (.slice t.2.2.2.2.2.1.1 t.2.2.2.2.1.length t.2.2.2.2.2.1.2) t.2.2.2.2.1.length (t.2.2.2.2.1.map idC), rowD 22 1 gs_edit_Step (.slice t.2.2.2.2.2.2.1 s.2.2.2.2.2.length t.2.2.2.2.2.2.2) s.2.2.2.2.2.length s.2.2.2.2.2]) (fun s t => FrS t.1 5 t.2.1 (s.1.map e_edit_Step) ∧ AllC gs_edit_Step t.1 1 t.2.2.1 s.2.2.2.1 ∧ AllC gs_edit_Step t.1 1 t.2.2.2.2.1 s.2.2.2.2.1) (a0, 0, z.now_, ([] : List (List T_edit_Step)), ([] : List (List T_edit_Step)), z.all_) (h, v0, ([] : List (List Value)), ((some ⟨b9, 0, none⟩, 0) : Option Addr × Nat), ([] : List (List Value)), ((some ⟨b10, 0, none⟩, 0) : Option Addr × Nat), p_2) [0, 1, 2, 3, 4] H105 (by exact ⟨(f0.mono hle_), pf, pf_2⟩) (by exact ⟨rfl, rfl, rfl, rfl, rfl, rfl, rfl, trivial⟩) (by decide) rfl ?_
    rintro ⟨x9_3, x44_2, m_3, l_5, l_6, l_7⟩ ⟨hp_2, gv_2, css, p_5, css_2, p_6, p_7⟩ m2 gg H106 ⟨gf_3, pf_5, pf_6⟩
    clear H105
    replace H106 : Law_EditHistories_l2 a1 (it (fun next2 s => Law_EditHistories_l2 a1 next2 s.1 s.2.1 s.2.2.1 s.2.2.2.1 s.2.2.2.2.1 s.2.2.2.2.2) m2) x9_3 x44_2 m_3 l_5 l_6 l_7 = some r := H106
    generalize hn2 : it (fun next2 s => Law_EditHistories_l2 a1 next2 s.1 s.2.1 s.2.2.1 s.2.2.2.1 s.2.2.2.2.1 s.2.2.2.2.2) m2 = next2 at H106
    refine c_tidyF [(5, .pointer (some ⟨p, 0, none⟩)), (8, .slice p_5.1 css.length p_5.2), (9, gv_2), (10, .slice p_6.1 css_2.length p_6.2), (42, v1), (43, .int .i64 (a1.length : Int)), (44, .int .i64 x44_2)] [poolC h hp_2, cellsC p [.slice p_7.1 l_7.length p_7.2, .int .i64 m_3] 97, rowO 22 1 (.slice p_5.1 css.length p_5.2) css.length (css.map idC), rowV 22 1 (.slice p_6.1 css_2.length p_6.2) css_2.length (css_2.map idC), rowD 22 1 gs_edit_Step (.slice p_7.1 l_7.length p_7.2) l_7.length l_7] rfl rfl ?_
    refine c_seq ?_
    refine c_sel [0, 1, 2, 3, 4] [poolC h hp_2, cellsC p [.slice p_7.1 l_7.length p_7.2, .int .i64 m_3] 97, rowO 22 1 (.slice p_5.1 css.length p_5.2) css.length (css.map idC), rowV 22 1 (.slice p_6.1 css_2.length p_6.2) css_2.length (css_2.map idC), rowD 22 1 gs_edit_Step (.slice p_7.1 l_7.length p_7.2) l_7.length l_7] rfl (by decide) ?_
    refine c_region ?_
    refine l_val rfl rfl rfl (r_lss rfl rfl) ?_
    refine l_nil ?_
    refine c_sel [0, 1, 2, 3, 4] [poolC h hp_2, cellsC p [.slice p_7.1 l_7.length p_7.2, .int .i64 m_3] 97, rowO 22 1 (.slice p_5.1 css.length p_5.2) css.length (css.map idC), rowV 22 1 (.slice p_6.1 css_2.length p_6.2) css_2.length (css_2.map idC), rowD 22 1 gs_edit_Step (.slice p_7.1 l_7.length p_7.2) l_7.length l_7] rfl (by decide) ?_
    refine c_seq ?_
    refine c_if (b := (decide (x44_2 < (a1.length : Int)))) rfl (fun hb => ?_) (fun hb => ?_)
    ·have H107 := cnd_t hb H106; clear H106
     refine c_skip ?_
     refine c_meet (r := r) (σ := (List T_edit_Step) × Int × (List (List T_edit_Step)) × (List (List T_edit_Step)) × (List (List T_edit_Step))) (τ := Heap × Value × (List (List Value)) × (Option Addr × Nat) × (List (List Value)) × (Option Addr × Nat) × (Option Addr × Nat)) (fun s => Law_EditHistories_j3 x44_2 next2 s.1 s.2.1 s.2.2.1 s.2.2.2.1 s.2.2.2.2) (fun s t => [(5, .pointer (some ⟨p, 0, none⟩)), (8, .slice t.2.2.2.1.1 t.2.2.1.length t.2.2.2.1.2), (9, t.2.1), (10, .slice t.2.2.2.2.2.1.1 t.2.2.2.2.1.length t.2.2.2.2.2.1.2), (42, v1), (43, .int .i64 (a1.length : Int)), (44, .int .i64 x44_2)]) (fun s t => [poolC h t.1, cellsC p [.slice t.2.2.2.2.2.2.1 s.2.2.2.2.length t.2.2.2.2.2.2.2, .int .i64 s.2.1] 97, rowO 22 1 (.slice t.2.2.2.1.1 t.2.2.1.length t.2.2.2.1.2) t.2.2.1.length (t.2.2.1.map idC), rowV 22 1 (.slice t.2.2.2.2.2.1.1 t.2.2.2.2.1.length t.2.2.2.2.2.1.2) t.2.2.2.2.1.length (t.2.2.2.2.1.map idC), rowD 22 1 gs_edit_Step (.slice t.2.2.2.2.2.2.1 s.2.2.2.2.length t.2.2.2.2.2.2.2) s.2.2.2.2.length s.2.2.2.2]) (fun s t => FrS t.1 5 t.2.1 (s.1.map e_edit_Step) ∧ AllC gs_edit_Step t.1 1 t.2.2.1 s.2.2.1 ∧ AllC gs_edit_Step t.1 1 t.2.2.2.2.1 s.2.2.2.1) ?_ ?_
     ·refine c_block ?_
      refine c_seq ?_
      refine c_region ?_
      obtain ⟨t46, h_t46, H110⟩ := bnd_some H107; clear H107
      refine l_val rfl rfl rfl (r_indexF Try.underlying23 Try.sizeOf33 rfl rfl f1.frs (f1.ix h_t46)) ?_
      refine l_read (fun w hF hS => run_loadGN (f := (elC h v1 8)) (i := x44_2) (sz := 8) (j := 0) (vs := [.int .i64 t46.Kind, .int .i64 t46.N, .int .i64 t46.Step.Kind, .int .i64 t46.Step.A, .int .i64 t46.Step.B, .int .i64 t46.Step.C, .int .i64 t46.Step.D, (elH h v1 8 (Int.toNat x44_2) 7)]) Try.isAgg33 Try.sizeOf33 rfl rfl (f1.frs.row (hw.now hF)) (f1.ix h_t46) (rd_of (cg_tintlaw2_Move (f1.at h_t46)) rfl)) rfl rfl rfl ?_
      refine l_alloc (cs := [.int .i64 0, .int .i64 0, .int .i64 0, .int .i64 0, .int .i64 0, .int .i64 0, .int .i64 0, .slice none 0 0]) Try.zeroValue33 rfl rfl rfl (fun b11 => ?_)
      refine l_store (i := 5) (vs := [.int .i64 t46.Kind, .int .i64 t46.N, .int .i64 t46.Step.Kind, .int .i64 t46.Step.A, .int .i64 t46.Step.B, .int .i64 t46.Step.C, .int .i64 t46.Step.D, (elH h v1 8 (Int.toNat x44_2) 7)]) (cs' := [.int .i64 t46.Kind, .int .i64 t46.N, .int .i64 t46.Step.Kind, .int .i64 t46.Step.A, .int .i64 t46.Step.B, .int .i64 t46.Step.C, .int .i64 t46.Step.D, (elH h v1 8 (Int.toNat x44_2) 7)]) Try.sizeOf33 rfl rfl rfl rfl rfl rfl (by simp only [List.all_cons, List.all_nil, (show FrS h 5 (elH h v1 8 (Int.toNat x44_2) 7) (t46.Steps.map e_edit_Step) from (g_tintlaw2_Move_p3 (f1.at h_t46))).one] <;> rfl) rfl rfl ?_
      refine l_nil ?_
      refine c_sel [0, 1, 2, 3, 4, 5] [poolC h hp_2, cellsC p [.slice p_7.1 l_7.length p_7.2, .int .i64 m_3] 97, rowO 22 1 (.slice p_5.1 css.length p_5.2) css.length (css.map idC), rowV 22 1 (.slice p_6.1 css_2.length p_6.2) css_2.length (css_2.map idC), rowD 22 1 gs_edit_Step (.slice p_7.1 l_7.length p_7.2) l_7.length l_7, cellsC b11 [.int .i64 t46.Kind, .int .i64 t46.N, .int .i64 t46.Step.Kind, .int .i64 t46.Step.A, .int .i64 t46.Step.B, .int .i64 t46.Step.C, .int .i64 t46.Step.D, (elH h v1 8 (Int.toNat x44_2) 7)] 33] rfl (by decide) ?_
      refine c_seq ?_
      refine c_region ?_
      refine l_val rfl rfl rfl (r_assign (v := .slice none 0 0) rfl) ?_
      refine l_nil ?_
      refine c_sel [0, 1, 2, 3, 4, 5] [poolC h hp_2, cellsC p [.slice p_7.1 l_7.length p_7.2, .int .i64 m_3] 97, rowO 22 1 (.slice p_5.1 css.length p_5.2) css.length (css.map idC), rowV 22 1 (.slice p_6.1 css_2.length p_6.2) css_2.length (css_2.map idC), rowD 22 1 gs_edit_Step (.slice p_7.1 l_7.length p_7.2) l_7.length l_7, cellsC b11 [.int .i64 t46.Kind, .int .i64 t46.N, .int .i64 t46.Step.Kind, .int .i64 t46.Step.A, .int .i64 t46.Step.B, .int .i64 t46.Step.C, .int .i64 t46.Step.D, (elH h v1 8 (Int.toNat x44_2) 7)] 33] rfl (by decide) ?_
      refine c_seq ?_
      refine c_region ?_
      refine l_val rfl rfl rfl (r_assign (v := .int .i64 0) rfl) ?_
      refine l_nil ?_
      refine c_sel [0, 1, 2, 3, 4, 5] [poolC h hp_2, cellsC p [.slice p_7.1 l_7.length p_7.2, .int .i64 m_3] 97, rowO 22 1 (.slice p_5.1 css.length p_5.2) css.length (css.map idC), rowV 22 1 (.slice p_6.1 css_2.length p_6.2) css_2.length (css_2.map idC), rowD 22 1 gs_edit_Step (.slice p_7.1 l_7.length p_7.2) l_7.length l_7, cellsC b11 [.int .i64 t46.Kind, .int .i64 t46.N, .int .i64 t46.Step.Kind, .int .i64 t46.Step.A, .int .i64 t46.Step.B, .int .i64 t46.Step.C, .int .i64 t46.Step.D, (elH h v1 8 (Int.toNat x44_2) 7)] 33] rfl (by decide) ?_
      refine c_meet (r := r) (σ := (List T_edit_Step) × (List T_edit_Step) × Int × Int × (List (List T_edit_Step))) (τ := Heap × Value × Value × (Option Addr × Nat)) (fun s => Law_EditHistories_j4 x44_2 l_5 l_6 next2 s.1 s.2.1 s.2.2.1 s.2.2.2.1 s.2.2.2.2) (fun s t => [(5, .pointer (some ⟨p, 0, none⟩)), (8, .slice p_5.1 css.length p_5.2), (9, t.2.1), (10, .slice p_6.1 css_2.length p_6.2), (13, t.2.2.1), (14, .int .i64 s.2.2.1), (42, v1), (43, .int .i64 (a1.length : Int)), (44, .int .i64 x44_2)]) (fun s t => [poolC h t.1, cellsC p [.slice t.2.2.2.1 s.2.2.2.2.length t.2.2.2.2, .int .i64 s.2.2.2.1] 97, rowO 22 1 (.slice p_5.1 css.length p_5.2) css.length (css.map idC), rowV 22 1 (.slice p_6.1 css_2.length p_6.2) css_2.length (css_2.map idC), rowD 22 1 gs_edit_Step (.slice t.2.2.2.1 s.2.2.2.2.length t.2.2.2.2) s.2.2.2.2.length s.2.2.2.2]) (fun s t => FrS t.1 5 t.2.1 (s.1.map e_edit_Step) ∧ FrS t.1 5 t.2.2.1 (s.2.1.map e_edit_Step) ∧ AllC gs_edit_Step t.1 1 css l_5 ∧ AllC gs_edit_Step t.1 1 css_2 l_6) ?_ ?_
      ·refine c_seq ?_
       refine c_sel [0, 1, 2, 3, 4, 5] [poolC h hp_2, cellsC p [.slice p_7.1 l_7.length p_7.2, .int .i64 m_3] 97, rowO 22 1 (.slice p_5.1 css.length p_5.2) css.length (css.map idC), rowV 22 1 (.slice p_6.1 css_2.length p_6.2) css_2.length (css_2.map idC), rowD 22 1 gs_edit_Step (.slice p_7.1 l_7.length p_7.2) l_7.length l_7, cellsC b11 [.int .i64 t46.Kind, .int .i64 t46.N, .int .i64 t46.Step.Kind, .int .i64 t46.Step.A, .int .i64 t46.Step.B, .int .i64 t46.Step.C, .int .i64 t46.Step.D, (elH h v1 8 (Int.toNat x44_2) 7)] 33] rfl (by decide) ?_
       refine c_region ?_
       refine l_val rfl rfl rfl (r_field Try.runUnderlying33 rfl Try.sizeOf3 rfl rfl) ?_
       refine l_load1 (i := 5) (v := .int .i64 t46.Kind) Try.isAgg3 rfl rfl rfl rfl rfl ?_
       refine l_nil ?_
       refine c_sel [0, 1, 2, 3, 4, 5] [poolC h hp_2, cellsC p [.slice p_7.1 l_7.length p_7.2, .int .i64 m_3] 97, rowO 22 1 (.slice p_5.1 css.length p_5.2) css.length (css.map idC), rowV 22 1 (.slice p_6.1 css_2.length p_6.2) css_2.length (css_2.map idC), rowD 22 1 gs_edit_Step (.slice p_7.1 l_7.length p_7.2) l_7.length l_7, cellsC b11 [.int .i64 t46.Kind, .int .i64 t46.N, .int .i64 t46.Step.Kind, .int .i64 t46.Step.A, .int .i64 t46.Step.B, .int .i64 t46.Step.C, .int .i64 t46.Step.D, (elH h v1 8 (Int.toNat x44_2) 7)] 33] rfl (by decide) ?_
       refine c_block ?_
       refine c_seq ?_
       refine c_region ?_
       refine l_val rfl rfl rfl (r_eql rfl rfl) ?_
       refine l_val rfl rfl rfl (r_assign (v := .bool (decide (t46.Kind = 0))) rfl) ?_
       refine l_nil ?_
       refine c_sel [0, 1, 2, 3, 4, 5] [poolC h hp_2, cellsC p [.slice p_7.1 l_7.length p_7.2, .int .i64 m_3] 97, rowO 22 1 (.slice p_5.1 css.length p_5.2) css.length (css.map idC), rowV 22 1 (.slice p_6.1 css_2.length p_6.2) css_2.length (css_2.map idC), rowD 22 1 gs_edit_Step (.slice p_7.1 l_7.length p_7.2) l_7.length l_7, cellsC b11 [.int .i64 t46.Kind, .int .i64 t46.N, .int .i64 t46.Step.Kind, .int .i64 t46.Step.A, .int .i64 t46.Step.B, .int .i64 t46.Step.C, .int .i64 t46.Step.D, (elH h v1 8 (Int.toNat x44_2) 7)] 33] rfl (by decide) ?_
       refine c_if (b := (decide (t46.Kind = 0))) rfl (fun hb => ?_) (fun hb => ?_)
       ·have H124 := cnd_t hb H110; clear H110
        refine c_seq ?_
        exact c_regionD (Kd.p :: Kd.t 6 [0] _ _ :: Kd.p :: Kd.d [5] _ :: Kd.ns 7 [_, _, _, _, _] 31 1 :: Kd.t 6 [7] _ _ :: Kd.p :: []) 2 mixed (by
         refine d_val rfl rfl (r_move (v := gv_2) rfl) ?_
         have h_t97 := bnd_val H124
         have H125 := bnd_rest H124
         refine d_make (Cv := fun v => rowV 31 5 v (val (slices_Clone_edit_Step x9_3)).length ((val (slices_Clone_edit_Step x9_3)).map e_edit_Step)) (none, 0) (makes_call (G := fun x : (Option Addr × Nat) => .slice x.1 (val (slices_Clone_edit_Step x9_3)).length x.2) (C := fun x : (Option Addr × Nat) => rowV 31 5 (.slice x.1 (val (slices_Clone_edit_Step x9_3)).length x.2) (val (slices_Clone_edit_Step x9_3)).length ((val (slices_Clone_edit_Step x9_3)).map e_edit_Step)) (fun w L' hF hS hi => k10 (know_all w) (gf_3.mono (pool_now (i := 0) hS ((hi 0 (by simp)).trans rfl) (hw.now hF))) h_t97) Try.call10 rfl) (fun _ => rfl) rfl rfl rfl (fun p_18 => ?_)
         refine d_val rfl rfl (r_field Try.runUnderlying33 rfl Try.sizeOf31 rfl rfl) ?_
         refine d_loadN (i := 5) (vs := [.int .i64 t46.Step.Kind, .int .i64 t46.Step.A, .int .i64 t46.Step.B, .int .i64 t46.Step.C, .int .i64 t46.Step.D]) Try.isAgg31 Try.sizeOf31 rfl rfl rfl rfl ?_
         refine d_newS rfl rfl (run_buildSlice (vs := [.agg #[.int .i64 t46.Step.Kind, .int .i64 t46.Step.A, .int .i64 t46.Step.B, .int .i64 t46.Step.C, .int .i64 t46.Step.D]]) (cs := [.int .i64 t46.Step.Kind, .int .i64 t46.Step.A, .int .i64 t46.Step.B, .int .i64 t46.Step.C, .int .i64 t46.Step.D]) Try.underlying22 Try.sizeOf31 Try.zeroValue31 rfl rfl rfl rfl rfl) rfl (fun b13 => ?_)
         have h_l101 := bnd_val H125
         have H126 := bnd_rest H125
         refine d_turn (Cv := fun v => rowV 31 5 v (val (gApp 40 (val (slices_Clone_edit_Step x9_3)) ([t46.Step] : List T_edit_Step))).length ((val (gApp 40 (val (slices_Clone_edit_Step x9_3)) ([t46.Step] : List T_edit_Step))).map e_edit_Step)) (none, 0) (turns_appG (i := 6) (hn := rfl) (rds := [7]) (p := p_18) (sz := 5) (by_ := 40) (f := e_edit_Step) (ys := (val (slices_Clone_edit_Step x9_3))) (ls := ([t46.Step] : List T_edit_Step)) (V := .slice (some ⟨b13, 0, none⟩) 1 1) Try.underlying22 (info_of Try.typeInfo31) rfl rfl rfl rfl rfl rfl rfl rfl rfl rfl (fun w L' hF hS hi => row_box (i := 7) hS ((hi 7 (by simp)).trans rfl) rfl rfl) (fun _ => rfl) (fun _ => rfl) h_l101) (fun _ => rfl) rfl rfl (fun p_19 => ?_)
         refine d_val rfl rfl (r_assign (v := .slice p_19.1 (val (gApp 40 (val (slices_Clone_edit_Step x9_3)) ([t46.Step] : List T_edit_Step))).length p_19.2) rfl) ?_
         refine d_nil ?_
         refine c_sel [0, 1, 2, 3, 4, 5, 6, 7] [poolC h hp_2, cellsC p [.slice p_7.1 l_7.length p_7.2, .int .i64 m_3] 97, rowO 22 1 (.slice p_5.1 css.length p_5.2) css.length (css.map idC), rowV 22 1 (.slice p_6.1 css_2.length p_6.2) css_2.length (css_2.map idC), rowD 22 1 gs_edit_Step (.slice p_7.1 l_7.length p_7.2) l_7.length l_7, cellsC b11 [.int .i64 t46.Kind, .int .i64 t46.N, .int .i64 t46.Step.Kind, .int .i64 t46.Step.A, .int .i64 t46.Step.B, .int .i64 t46.Step.C, .int .i64 t46.Step.D, (elH h v1 8 (Int.toNat x44_2) 7)] 33, rowV 31 5 (.slice p_19.1 (val (gApp 40 (val (slices_Clone_edit_Step x9_3)) ([t46.Step] : List T_edit_Step))).length p_19.2) (val (gApp 40 (val (slices_Clone_edit_Step x9_3)) ([t46.Step] : List T_edit_Step))).length ((val (gApp 40 (val (slices_Clone_edit_Step x9_3)) ([t46.Step] : List T_edit_Step))).map e_edit_Step), cellsC b13 [.int .i64 t46.Step.Kind, .int .i64 t46.Step.A, .int .i64 t46.Step.B, .int .i64 t46.Step.C, .int .i64 t46.Step.D] 31] rfl (by decide) ?_
         refine c_seq ?_
         refine c_region ?_
         refine l_val rfl rfl rfl (r_field Try.runUnderlying33 rfl Try.sizeOf31 rfl rfl) ?_
         refine l_loadN (i := 5) (vs := [.int .i64 t46.Step.Kind, .int .i64 t46.Step.A, .int .i64 t46.Step.B, .int .i64 t46.Step.C, .int .i64 t46.Step.D]) Try.isAgg31 Try.sizeOf31 rfl rfl rfl rfl rfl ?_
         obtain ⟨t104, h_t104, H127⟩ := bnd_some H126; clear H126
         refine l_call (k12 h_t104) Try.call12 rfl rfl rfl ?_
         refine l_val rfl rfl rfl (r_move (v := gv_2) rfl) ?_
         refine l_val rfl rfl rfl (r_lenF Try.underlying22 rfl gf_3 rfl) ?_
         refine l_val rfl rfl rfl (r_lss rfl rfl) ?_
         obtain ⟨t108, h_t108, H128⟩ := bnd_some H127; clear H127
         refine l_call (k13 h_t108) Try.call13 rfl rfl rfl ?_
         refine l_buildSlice (vs := [.int .i64 t104, .int .i64 t108]) (cs := [.int .i64 t104, .int .i64 t108]) Try.underlying98 Try.sizeOf25 Try.zeroValue25 rfl rfl rfl rfl rfl rfl rfl (fun b14 => ?_)
         obtain ⟨t110, h_t110, H129⟩ := bnd_some H128; clear H128
         refine l_callG (fun w hF hS => k11 (know_all w) (frs_box (i := 8) (xs := ([t104, t108] : List Int)) (f := e_i64) hS rfl rfl rfl rfl rfl) h_t110) Try.call11 rfl rfl rfl ?_
         refine l_val rfl rfl rfl (r_assign (v := .int .i64 t110) rfl) ?_
         refine l_nil ?_
         refine c_sel [0, 1, 2, 3, 4, 5, 6, 7, 8] [poolC h hp_2, cellsC p [.slice p_7.1 l_7.length p_7.2, .int .i64 m_3] 97, rowO 22 1 (.slice p_5.1 css.length p_5.2) css.length (css.map idC), rowV 22 1 (.slice p_6.1 css_2.length p_6.2) css_2.length (css_2.map idC), rowD 22 1 gs_edit_Step (.slice p_7.1 l_7.length p_7.2) l_7.length l_7, cellsC b11 [.int .i64 t46.Kind, .int .i64 t46.N, .int .i64 t46.Step.Kind, .int .i64 t46.Step.A, .int .i64 t46.Step.B, .int .i64 t46.Step.C, .int .i64 t46.Step.D, (elH h v1 8 (Int.toNat x44_2) 7)] 33, rowV 31 5 (.slice p_19.1 (val (gApp 40 (val (slices_Clone_edit_Step x9_3)) ([t46.Step] : List T_edit_Step))).length p_19.2) (val (gApp 40 (val (slices_Clone_edit_Step x9_3)) ([t46.Step] : List T_edit_Step))).length ((val (gApp 40 (val (slices_Clone_edit_Step x9_3)) ([t46.Step] : List T_edit_Step))).map e_edit_Step), cellsC b13 [.int .i64 t46.Step.Kind, .int .i64 t46.Step.A, .int .i64 t46.Step.B, .int .i64 t46.Step.C, .int .i64 t46.Step.D] 31, cellsC b14 [.int .i64 t104, .int .i64 t108] 25] rfl (by decide) ?_
         refine c_seq ?_
         refine c_region ?_
         refine l_val rfl rfl rfl (r_move (v := .pointer (some ⟨p, 0, none⟩)) rfl) ?_
         refine l_val rfl rfl rfl (r_field Try.runUnderlying33 rfl Try.sizeOf31 rfl rfl) ?_
         refine l_loadN (i := 5) (vs := [.int .i64 t46.Step.Kind, .int .i64 t46.Step.A, .int .i64 t46.Step.B, .int .i64 t46.Step.C, .int .i64 t46.Step.D]) Try.isAgg31 Try.sizeOf31 rfl rfl rfl rfl rfl ?_
         obtain ⟨t114, h_t114, H130⟩ := bnd_some H129; clear H129
         refine c_both 1 4 rfl rfl (by decide) ?_
         refine l_turn (turns_callB (i := 1) (rds := []) (G := fun x : (Option Addr × Nat) => .int .i64 t114.1) (C := fun x : (Option Addr × Nat) => bothC (cellsC p [.slice x.1 t114.2.all_.length x.2, .int .i64 t114.2.now_] 97) (rowD 22 1 gs_edit_Step (.slice x.1 t114.2.all_.length x.2) t114.2.all_.length t114.2.all_)) rfl (fun w L' S hF hS hi hp hlt ho hA => k14 hp hlt (know_but w S)  h_t114) Try.call14 rfl) rfl rfl rfl (fun p_20 => ?_)
         refine c_splitAt 1 4 rfl rfl (by decide) ?_
         refine l_val rfl rfl rfl (r_move (v := .int .i64 t110) rfl) ?_
         refine l_val rfl rfl rfl (r_neq rfl rfl) ?_
         refine l_nil ?_
         refine c_sel [0, 1, 2, 3, 4, 5, 6, 7, 8] [poolC h hp_2, cellsC p [.slice p_20.1 t114.2.all_.length p_20.2, .int .i64 t114.2.now_] 97, rowO 22 1 (.slice p_5.1 css.length p_5.2) css.length (css.map idC), rowV 22 1 (.slice p_6.1 css_2.length p_6.2) css_2.length (css_2.map idC), rowD 22 1 gs_edit_Step (.slice p_20.1 t114.2.all_.length p_20.2) t114.2.all_.length t114.2.all_, cellsC b11 [.int .i64 t46.Kind, .int .i64 t46.N, .int .i64 t46.Step.Kind, .int .i64 t46.Step.A, .int .i64 t46.Step.B, .int .i64 t46.Step.C, .int .i64 t46.Step.D, (elH h v1 8 (Int.toNat x44_2) 7)] 33, rowV 31 5 (.slice p_19.1 (val (gApp 40 (val (slices_Clone_edit_Step x9_3)) ([t46.Step] : List T_edit_Step))).length p_19.2) (val (gApp 40 (val (slices_Clone_edit_Step x9_3)) ([t46.Step] : List T_edit_Step))).length ((val (gApp 40 (val (slices_Clone_edit_Step x9_3)) ([t46.Step] : List T_edit_Step))).map e_edit_Step), cellsC b13 [.int .i64 t46.Step.Kind, .int .i64 t46.Step.A, .int .i64 t46.Step.B, .int .i64 t46.Step.C, .int .i64 t46.Step.D] 31, cellsC b14 [.int .i64 t104, .int .i64 t108] 25] rfl (by decide) ?_
         refine c_if (b := (decide (t114.1 ≠ t110))) rfl (fun hb => ?_) (fun hb => ?_)
         ·have H131 := cnd_t hb H130; clear H130
          refine c_seq ?_
          refine c_region ?_
          refine l_val rfl rfl rfl (r_assign (v := .bool false) rfl) ?_
          refine l_nil ?_
          refine c_sel [0, 1, 2, 3, 4, 5, 6, 7, 8] [poolC h hp_2, cellsC p [.slice p_20.1 t114.2.all_.length p_20.2, .int .i64 t114.2.now_] 97, rowO 22 1 (.slice p_5.1 css.length p_5.2) css.length (css.map idC), rowV 22 1 (.slice p_6.1 css_2.length p_6.2) css_2.length (css_2.map idC), rowD 22 1 gs_edit_Step (.slice p_20.1 t114.2.all_.length p_20.2) t114.2.all_.length t114.2.all_, cellsC b11 [.int .i64 t46.Kind, .int .i64 t46.N, .int .i64 t46.Step.Kind, .int .i64 t46.Step.A, .int .i64 t46.Step.B, .int .i64 t46.Step.C, .int .i64 t46.Step.D, (elH h v1 8 (Int.toNat x44_2) 7)] 33, rowV 31 5 (.slice p_19.1 (val (gApp 40 (val (slices_Clone_edit_Step x9_3)) ([t46.Step] : List T_edit_Step))).length p_19.2) (val (gApp 40 (val (slices_Clone_edit_Step x9_3)) ([t46.Step] : List T_edit_Step))).length ((val (gApp 40 (val (slices_Clone_edit_Step x9_3)) ([t46.Step] : List T_edit_Step))).map e_edit_Step), cellsC b13 [.int .i64 t46.Step.Kind, .int .i64 t46.Step.A, .int .i64 t46.Step.B, .int .i64 t46.Step.C, .int .i64 t46.Step.D] 31, cellsC b14 [.int .i64 t104, .int .i64 t108] 25] rfl (by decide) ?_
          refine c_ret ?_
          obtain rfl := Option.some.inj H131
          refine ret1 (v := .bool false) rfl rfl (fin rfl)
         ·have H132 := cnd_f hb H130; clear H130
          refine c_skip ?_
          refine c_freeze (Φ := fun H_ => FrS H_ 5 (.slice p_19.1 (val (gApp 40 (val (slices_Clone_edit_Step x9_3)) ([t46.Step] : List T_edit_Step))).length p_19.2) ((val (gApp 40 (val (slices_Clone_edit_Step x9_3)) ([t46.Step] : List T_edit_Step))).map e_edit_Step)) 0 6 rfl rfl (by decide) (fun w hF => hw.now hF) (fz_own _) (fun hp_5 hle hf => ?_)
          refine c_poolLe 0 rfl (fun hle_ => ?_)
          refine c_close (x9_3, (val (gApp 40 (val (slices_Clone_edit_Step x9_3)) ([t46.Step] : List T_edit_Step))), t110, t114.2.now_, t114.2.all_) (hp_5, gv_2, (.slice p_19.1 (val (gApp 40 (val (slices_Clone_edit_Step x9_3)) ([t46.Step] : List T_edit_Step))).length p_19.2), p_20) 0 [0, 1, 2, 3, 4] (by exact ⟨rfl, rfl, rfl, rfl, rfl, rfl, rfl, rfl, rfl, trivial⟩) (by decide) rfl (by exact ⟨H132, ⟨(gf_3.mono hle), hf, (pf_5.mono hle), (pf_6.mono hle)⟩⟩) (Nat.lt_succ_self _)
         ) (by kernel_rfl)
       ·have H133 := cnd_f hb H110; clear H110
        refine c_seq ?_
        refine c_region ?_
        refine l_val rfl rfl rfl (r_eql rfl rfl) ?_
        refine l_val rfl rfl rfl (r_assign (v := .bool (decide (t46.Kind = 1))) rfl) ?_
        refine l_nil ?_
        refine c_sel [0, 1, 2, 3, 4, 5] [poolC h hp_2, cellsC p [.slice p_7.1 l_7.length p_7.2, .int .i64 m_3] 97, rowO 22 1 (.slice p_5.1 css.length p_5.2) css.length (css.map idC), rowV 22 1 (.slice p_6.1 css_2.length p_6.2) css_2.length (css_2.map idC), rowD 22 1 gs_edit_Step (.slice p_7.1 l_7.length p_7.2) l_7.length l_7, cellsC b11 [.int .i64 t46.Kind, .int .i64 t46.N, .int .i64 t46.Step.Kind, .int .i64 t46.Step.A, .int .i64 t46.Step.B, .int .i64 t46.Step.C, .int .i64 t46.Step.D, (elH h v1 8 (Int.toNat x44_2) 7)] 33] rfl (by decide) ?_
        refine c_if (b := (decide (t46.Kind = 1))) rfl (fun hb => ?_) (fun hb => ?_)
        ·have H134 := cnd_t hb H133; clear H133
         refine c_seq ?_
         refine c_region ?_
         refine l_val rfl rfl rfl (r_field Try.runUnderlying33 rfl Try.sizeOf22 rfl rfl) ?_
         refine l_load1 (i := 5) (v := (elH h v1 8 (Int.toNat x44_2) 7)) Try.isAgg22 rfl rfl rfl rfl rfl ?_
         refine l_val rfl rfl rfl (r_assign (v := (elH h v1 8 (Int.toNat x44_2) 7)) rfl) ?_
         refine l_nil ?_
         refine c_sel [0, 1, 2, 3, 4, 5] [poolC h hp_2, cellsC p [.slice p_7.1 l_7.length p_7.2, .int .i64 m_3] 97, rowO 22 1 (.slice p_5.1 css.length p_5.2) css.length (css.map idC), rowV 22 1 (.slice p_6.1 css_2.length p_6.2) css_2.length (css_2.map idC), rowD 22 1 gs_edit_Step (.slice p_7.1 l_7.length p_7.2) l_7.length l_7, cellsC b11 [.int .i64 t46.Kind, .int .i64 t46.N, .int .i64 t46.Step.Kind, .int .i64 t46.Step.A, .int .i64 t46.Step.B, .int .i64 t46.Step.C, .int .i64 t46.Step.D, (elH h v1 8 (Int.toNat x44_2) 7)] 33] rfl (by decide) ?_
         refine c_seq ?_
         exact c_regionD (Kd.p :: Kd.d [5] _ :: Kd.d [0] _ :: Kd.p :: Kd.d [5] _ :: Kd.p :: Kd.d [0] _ :: Kd.p :: Kd.d [] _ :: Kd.ns 6 [_, _] 25 2 :: Kd.d [0, 6] _ :: Kd.p :: []) 1 mixed (by
          refine d_val rfl rfl (r_field Try.runUnderlying33 rfl Try.sizeOf22 rfl rfl) ?_
          refine d_load1 (i := 5) (v := (elH h v1 8 (Int.toNat x44_2) 7)) Try.isAgg22 rfl rfl rfl rfl ?_
          have h_t123 := bnd_val H134
          have H135 := bnd_rest H134
          refine d_callD (fun w L' hF hS hi => k9 (know_all w) ((show FrS h 5 (elH h v1 8 (Int.toNat x44_2) 7) (t46.Steps.map e_edit_Step) from (g_tintlaw2_Move_p3 (f1.at h_t46))).mono (hw.now hF)) h_t123) Try.call9 rfl rfl ?_
          refine d_val rfl rfl (r_field Try.runUnderlying33 rfl Try.sizeOf22 rfl rfl) ?_
          refine d_load1 (i := 5) (v := (elH h v1 8 (Int.toNat x44_2) 7)) Try.isAgg22 rfl rfl rfl rfl ?_
          refine d_val rfl rfl (r_move (v := gv_2) rfl) ?_
          have h_t127 := bnd_val H135
          have H136 := bnd_rest H135
          refine d_callD (fun w L' hF hS hi => k15 (know_all w) ((show FrS h 5 (elH h v1 8 (Int.toNat x44_2) 7) (t46.Steps.map e_edit_Step) from (g_tintlaw2_Move_p3 (f1.at h_t46))).mono (hw.now hF)) (gf_3.mono (pool_now (i := 0) hS ((hi 0 (by simp)).trans rfl) (hw.now hF))) h_t127) Try.call15 rfl rfl ?_
          refine d_val rfl rfl (r_not rfl) ?_
          have h_t129 := bnd_val H136
          have H137 := bnd_rest H136
          refine d_call (k13 h_t129) Try.call13 rfl rfl ?_
          refine d_newS rfl rfl (run_buildSlice (vs := [.int .i64 (val (R_StepsFault t46.Steps)), .int .i64 (val (Law_unless (!(val (slices_Equal_edit_Step t46.Steps x9_3))) 11))]) (cs := [.int .i64 (val (R_StepsFault t46.Steps)), .int .i64 (val (Law_unless (!(val (slices_Equal_edit_Step t46.Steps x9_3))) 11))]) Try.underlying98 Try.sizeOf25 Try.zeroValue25 rfl rfl rfl rfl rfl) rfl (fun b15 => ?_)
          have h_t131 := bnd_val H137
          have H138 := bnd_rest H137
          refine d_callD (fun w L' hF hS hi => k11 (know_all w) (frs_box (i := 6) (xs := ([(val (R_StepsFault t46.Steps)), (val (Law_unless (!(val (slices_Equal_edit_Step t46.Steps x9_3))) 11))] : List Int)) (f := e_i64) hS ((hi 6 (by simp)).trans rfl) rfl rfl rfl rfl) h_t131) Try.call11 rfl rfl ?_
          refine d_val rfl rfl (r_assign (v := .int .i64 (val (Law_first ([(val (R_StepsFault t46.Steps)), (val (Law_unless (!(val (slices_Equal_edit_Step t46.Steps x9_3))) 11))] : List Int)))) rfl) ?_
          refine d_nil ?_
          refine c_sel [0, 1, 2, 3, 4, 5, 6] [poolC h hp_2, cellsC p [.slice p_7.1 l_7.length p_7.2, .int .i64 m_3] 97, rowO 22 1 (.slice p_5.1 css.length p_5.2) css.length (css.map idC), rowV 22 1 (.slice p_6.1 css_2.length p_6.2) css_2.length (css_2.map idC), rowD 22 1 gs_edit_Step (.slice p_7.1 l_7.length p_7.2) l_7.length l_7, cellsC b11 [.int .i64 t46.Kind, .int .i64 t46.N, .int .i64 t46.Step.Kind, .int .i64 t46.Step.A, .int .i64 t46.Step.B, .int .i64 t46.Step.C, .int .i64 t46.Step.D, (elH h v1 8 (Int.toNat x44_2) 7)] 33, cellsC b15 [.int .i64 (val (R_StepsFault t46.Steps)), .int .i64 (val (Law_unless (!(val (slices_Equal_edit_Step t46.Steps x9_3))) 11))] 25] rfl (by decide) ?_
          refine c_seq ?_
          refine c_region ?_
          refine l_val rfl rfl rfl (r_move (v := .pointer (some ⟨p, 0, none⟩)) rfl) ?_
          refine l_val rfl rfl rfl (r_field Try.runUnderlying33 rfl Try.sizeOf22 rfl rfl) ?_
          refine l_load1 (i := 5) (v := (elH h v1 8 (Int.toNat x44_2) 7)) Try.isAgg22 rfl rfl rfl rfl rfl ?_
          obtain ⟨t135, h_t135, H139⟩ := bnd_some H138; clear H138
          refine c_both 1 4 rfl rfl (by decide) ?_
          refine l_turn (turns_callB (i := 1) (rds := []) (G := fun x : (Option Addr × Nat) => .int .i64 t135.1) (C := fun x : (Option Addr × Nat) => bothC (cellsC p [.slice x.1 t135.2.all_.length x.2, .int .i64 t135.2.now_] 97) (rowD 22 1 gs_edit_Step (.slice x.1 t135.2.all_.length x.2) t135.2.all_.length t135.2.all_)) rfl (fun w L' S hF hS hi hp hlt ho hA => k16 hp hlt (know_but w S) ((show FrS h 5 (elH h v1 8 (Int.toNat x44_2) 7) (t46.Steps.map e_edit_Step) from (g_tintlaw2_Move_p3 (f1.at h_t46))).mono (hw.but hF ho)) h_t135) Try.call16 rfl) rfl rfl rfl (fun p_21 => ?_)
          refine c_splitAt 1 4 rfl rfl (by decide) ?_
          refine l_val rfl rfl rfl (r_move (v := .int .i64 (val (Law_first ([(val (R_StepsFault t46.Steps)), (val (Law_unless (!(val (slices_Equal_edit_Step t46.Steps x9_3))) 11))] : List Int)))) rfl) ?_
          refine l_val rfl rfl rfl (r_neq rfl rfl) ?_
          refine l_nil ?_
          refine c_sel [0, 1, 2, 3, 4, 5, 6] [poolC h hp_2, cellsC p [.slice p_21.1 t135.2.all_.length p_21.2, .int .i64 t135.2.now_] 97, rowO 22 1 (.slice p_5.1 css.length p_5.2) css.length (css.map idC), rowV 22 1 (.slice p_6.1 css_2.length p_6.2) css_2.length (css_2.map idC), rowD 22 1 gs_edit_Step (.slice p_21.1 t135.2.all_.length p_21.2) t135.2.all_.length t135.2.all_, cellsC b11 [.int .i64 t46.Kind, .int .i64 t46.N, .int .i64 t46.Step.Kind, .int .i64 t46.Step.A, .int .i64 t46.Step.B, .int .i64 t46.Step.C, .int .i64 t46.Step.D, (elH h v1 8 (Int.toNat x44_2) 7)] 33, cellsC b15 [.int .i64 (val (R_StepsFault t46.Steps)), .int .i64 (val (Law_unless (!(val (slices_Equal_edit_Step t46.Steps x9_3))) 11))] 25] rfl (by decide) ?_
          refine c_if (b := (decide (t135.1 ≠ (val (Law_first ([(val (R_StepsFault t46.Steps)), (val (Law_unless (!(val (slices_Equal_edit_Step t46.Steps x9_3))) 11))] : List Int)))))) rfl (fun hb => ?_) (fun hb => ?_)
          ·have H140 := cnd_t hb H139; clear H139
           refine c_seq ?_
           refine c_region ?_
           refine l_val rfl rfl rfl (r_assign (v := .bool false) rfl) ?_
           refine l_nil ?_
           refine c_sel [0, 1, 2, 3, 4, 5, 6] [poolC h hp_2, cellsC p [.slice p_21.1 t135.2.all_.length p_21.2, .int .i64 t135.2.now_] 97, rowO 22 1 (.slice p_5.1 css.length p_5.2) css.length (css.map idC), rowV 22 1 (.slice p_6.1 css_2.length p_6.2) css_2.length (css_2.map idC), rowD 22 1 gs_edit_Step (.slice p_21.1 t135.2.all_.length p_21.2) t135.2.all_.length t135.2.all_, cellsC b11 [.int .i64 t46.Kind, .int .i64 t46.N, .int .i64 t46.Step.Kind, .int .i64 t46.Step.A, .int .i64 t46.Step.B, .int .i64 t46.Step.C, .int .i64 t46.Step.D, (elH h v1 8 (Int.toNat x44_2) 7)] 33, cellsC b15 [.int .i64 (val (R_StepsFault t46.Steps)), .int .i64 (val (Law_unless (!(val (slices_Equal_edit_Step t46.Steps x9_3))) 11))] 25] rfl (by decide) ?_
           refine c_ret ?_
           obtain rfl := Option.some.inj H140
           refine ret1 (v := .bool false) rfl rfl (fin rfl)
          ·have H141 := cnd_f hb H139; clear H139
           refine c_skip ?_
           refine c_poolLe 0 rfl (fun hle_ => ?_)
           refine c_close (x9_3, t46.Steps, (val (Law_first ([(val (R_StepsFault t46.Steps)), (val (Law_unless (!(val (slices_Equal_edit_Step t46.Steps x9_3))) 11))] : List Int))), t135.2.now_, t135.2.all_) (hp_2, gv_2, (elH h v1 8 (Int.toNat x44_2) 7), p_21) 0 [0, 1, 2, 3, 4] (by exact ⟨rfl, rfl, rfl, rfl, rfl, rfl, rfl, rfl, rfl, trivial⟩) (by decide) rfl (by exact ⟨H141, ⟨gf_3, ((show FrS h 5 (elH h v1 8 (Int.toNat x44_2) 7) (t46.Steps.map e_edit_Step) from (g_tintlaw2_Move_p3 (f1.at h_t46))).mono hle_), pf_5, pf_6⟩⟩) (Nat.lt_succ_self _)
          ) (by kernel_rfl)
        ·have H142 := cnd_f hb H133; clear H133
         refine c_seq ?_
         refine c_region ?_
         refine l_val rfl rfl rfl (r_eql rfl rfl) ?_
         refine l_val rfl rfl rfl (r_assign (v := .bool (decide (t46.Kind = 2))) rfl) ?_
         refine l_nil ?_
         refine c_sel [0, 1, 2, 3, 4, 5] [poolC h hp_2, cellsC p [.slice p_7.1 l_7.length p_7.2, .int .i64 m_3] 97, rowO 22 1 (.slice p_5.1 css.length p_5.2) css.length (css.map idC), rowV 22 1 (.slice p_6.1 css_2.length p_6.2) css_2.length (css_2.map idC), rowD 22 1 gs_edit_Step (.slice p_7.1 l_7.length p_7.2) l_7.length l_7, cellsC b11 [.int .i64 t46.Kind, .int .i64 t46.N, .int .i64 t46.Step.Kind, .int .i64 t46.Step.A, .int .i64 t46.Step.B, .int .i64 t46.Step.C, .int .i64 t46.Step.D, (elH h v1 8 (Int.toNat x44_2) 7)] 33] rfl (by decide) ?_
         refine c_if (b := (decide (t46.Kind = 2))) rfl (fun hb => ?_) (fun hb => ?_)
         ·have H143 := cnd_t hb H142; clear H142
          refine c_seq ?_
          refine c_seq ?_
          refine c_region ?_
          refine l_val rfl rfl rfl (r_move (v := .pointer (some ⟨p, 0, none⟩)) rfl) ?_
          obtain ⟨t141, h_t141, H144⟩ := bnd_some H143; clear H143
          refine c_both 1 4 rfl rfl (by decide) ?_
          refine l_turn (turns_callB (i := 1) (rds := []) (G := fun x : (Option Addr × Nat) => .bool t141.1) (C := fun x : (Option Addr × Nat) => bothC (cellsC p [.slice x.1 t141.2.all_.length x.2, .int .i64 t141.2.now_] 97) (rowD 22 1 gs_edit_Step (.slice x.1 t141.2.all_.length x.2) t141.2.all_.length t141.2.all_)) rfl (fun w L' S hF hS hi hp hlt ho hA => k17 hp hlt (know_but w S)  h_t141) Try.call17 rfl) rfl rfl rfl (fun p_22 => ?_)
          refine c_splitAt 1 4 rfl rfl (by decide) ?_
          refine l_val rfl rfl rfl (r_move (v := .slice p_5.1 css.length p_5.2) rfl) ?_
          refine l_val rfl rfl rfl (r_lenN Try.underlying29 rfl pf_5.len) ?_
          refine l_val rfl rfl rfl (r_gtr rfl rfl) ?_
          refine l_val rfl rfl rfl (r_neqB Try.underlying4 rfl rfl) ?_
          refine l_nil ?_
          refine c_sel [0, 1, 2, 3, 4, 5] [poolC h hp_2, cellsC p [.slice p_22.1 t141.2.all_.length p_22.2, .int .i64 t141.2.now_] 97, rowO 22 1 (.slice p_5.1 css.length p_5.2) css.length (css.map idC), rowV 22 1 (.slice p_6.1 css_2.length p_6.2) css_2.length (css_2.map idC), rowD 22 1 gs_edit_Step (.slice p_22.1 t141.2.all_.length p_22.2) t141.2.all_.length t141.2.all_, cellsC b11 [.int .i64 t46.Kind, .int .i64 t46.N, .int .i64 t46.Step.Kind, .int .i64 t46.Step.A, .int .i64 t46.Step.B, .int .i64 t46.Step.C, .int .i64 t46.Step.D, (elH h v1 8 (Int.toNat x44_2) 7)] 33] rfl (by decide) ?_
          refine c_if (b := (decide (t141.1 ≠ (decide (0 < (l_5.length : Int)))))) rfl (fun hb => ?_) (fun hb => ?_)
          ·have H145 := cnd_t hb H144; clear H144
           refine c_seq ?_
           refine c_region ?_
           refine l_val rfl rfl rfl (r_assign (v := .bool false) rfl) ?_
           refine l_nil ?_
           refine c_sel [0, 1, 2, 3, 4, 5] [poolC h hp_2, cellsC p [.slice p_22.1 t141.2.all_.length p_22.2, .int .i64 t141.2.now_] 97, rowO 22 1 (.slice p_5.1 css.length p_5.2) css.length (css.map idC), rowV 22 1 (.slice p_6.1 css_2.length p_6.2) css_2.length (css_2.map idC), rowD 22 1 gs_edit_Step (.slice p_22.1 t141.2.all_.length p_22.2) t141.2.all_.length t141.2.all_, cellsC b11 [.int .i64 t46.Kind, .int .i64 t46.N, .int .i64 t46.Step.Kind, .int .i64 t46.Step.A, .int .i64 t46.Step.B, .int .i64 t46.Step.C, .int .i64 t46.Step.D, (elH h v1 8 (Int.toNat x44_2) 7)] 33] rfl (by decide) ?_
           refine c_ret ?_
           obtain rfl := Option.some.inj H145
           refine ret1 (v := .bool false) rfl rfl (fin rfl)
          ·have H146 := cnd_f hb H144; clear H144
           refine c_skip ?_
           refine c_seq ?_
           refine c_seq ?_
           refine c_region ?_
           refine l_val rfl rfl rfl (r_move (v := .slice p_5.1 css.length p_5.2) rfl) ?_
           refine l_val rfl rfl rfl (r_lenN Try.underlying29 rfl pf_5.len) ?_
           refine l_val rfl rfl rfl (r_assign (v := .int .i64 (l_5.length : Int)) rfl) ?_
           refine l_nil ?_
           refine c_sel [0, 1, 2, 3, 4, 5] [poolC h hp_2, cellsC p [.slice p_22.1 t141.2.all_.length p_22.2, .int .i64 t141.2.now_] 97, rowO 22 1 (.slice p_5.1 css.length p_5.2) css.length (css.map idC), rowV 22 1 (.slice p_6.1 css_2.length p_6.2) css_2.length (css_2.map idC), rowD 22 1 gs_edit_Step (.slice p_22.1 t141.2.all_.length p_22.2) t141.2.all_.length t141.2.all_, cellsC b11 [.int .i64 t46.Kind, .int .i64 t46.N, .int .i64 t46.Step.Kind, .int .i64 t46.Step.A, .int .i64 t46.Step.B, .int .i64 t46.Step.C, .int .i64 t46.Step.D, (elH h v1 8 (Int.toNat x44_2) 7)] 33] rfl (by decide) ?_
           refine c_seq ?_
           refine c_region ?_
           refine l_val rfl rfl rfl (r_move (v := .int .i64 (l_5.length : Int)) rfl) ?_
           refine l_val rfl rfl rfl (r_gtr rfl rfl) ?_
           refine l_nil ?_
           refine c_sel [0, 1, 2, 3, 4, 5] [poolC h hp_2, cellsC p [.slice p_22.1 t141.2.all_.length p_22.2, .int .i64 t141.2.now_] 97, rowO 22 1 (.slice p_5.1 css.length p_5.2) css.length (css.map idC), rowV 22 1 (.slice p_6.1 css_2.length p_6.2) css_2.length (css_2.map idC), rowD 22 1 gs_edit_Step (.slice p_22.1 t141.2.all_.length p_22.2) t141.2.all_.length t141.2.all_, cellsC b11 [.int .i64 t46.Kind, .int .i64 t46.N, .int .i64 t46.Step.Kind, .int .i64 t46.Step.A, .int .i64 t46.Step.B, .int .i64 t46.Step.C, .int .i64 t46.Step.D, (elH h v1 8 (Int.toNat x44_2) 7)] 33] rfl (by decide) ?_
           refine c_if (b := (decide (0 < (l_5.length : Int)))) rfl (fun hb => ?_) (fun hb => ?_)
           ·have H147 := cnd_t hb H146; clear H146
            exact c_regionD (Kd.p :: Kd.p :: Kd.ns 6 [_] 22 1 :: Kd.t 3 [6] _ _ :: Kd.p :: Kd.p :: Kd.p :: Kd.d [2] _ :: Kd.d [2] _ :: Kd.p :: Kd.p :: Kd.p :: Kd.d [2] _ :: Kd.p :: Kd.p :: Kd.p :: []) 1 mixed (by
             refine d_val rfl rfl (r_move (v := .slice p_6.1 css_2.length p_6.2) rfl) ?_
             refine d_val rfl rfl (r_move (v := gv_2) rfl) ?_
             refine d_newS rfl rfl (run_buildSlice (vs := [gv_2]) (cs := [gv_2]) Try.underlying29 Try.sizeOf22 Try.zeroValue22 rfl rfl (by simp only [List.all_cons, List.all_nil, cells_sz gf_3.cells] <;> rfl) rfl (by simp only [List.flatMap_cons, List.flatMap_nil, gf_3.cells] <;> rfl)) rfl (fun b16 => ?_)
             have h_l153 := bnd_val H147
             have H148 := bnd_rest H147
             refine d_turn (Cv := fun v_ => rowV 22 1 v_ (css_2 ++ [[gv_2]]).length ((css_2 ++ [[gv_2]]).map idC)) (none, 0) (turns_appendM (i := 3) (k := 6) (p := p_6) (f := idC) (ys := css_2) (ls := [[gv_2]]) Try.underlying29 (info_of Try.typeInfo22) rfl rfl rfl rfl rfl rfl rfl rfl rfl rfl rfl rfl rfl rfl (by simp only [idC, List.map_cons, List.map_nil, List.all_cons, List.all_nil, gf_3.one] <;> rfl) (app63 (pf_6.app h_l153 (nc := [[gv_2]]) rfl)) rfl) (fun _ => rfl) rfl rfl (fun p_23 => ?_)
             have pf_16 : AllC gs_edit_Step hp_2 1 (css_2 ++ [[gv_2]]) (val (gApp 24 l_6 ([x9_3] : List (List T_edit_Step)))) := AllC.snocG pf_6 h_l153 rfl (gf_3)
             refine d_val rfl rfl (r_move (v := .slice p_5.1 css.length p_5.2) rfl) ?_
             refine d_val rfl rfl (r_move (v := .int .i64 (l_5.length : Int)) rfl) ?_
             have h_t156 := bnd_val H148
             have H149 := bnd_rest H148
             refine d_val rfl rfl (r_subG rfl rfl h_t156) ?_
             have h_t157 := bnd_val H149
             have H150 := bnd_rest H149
             refine d_readD (fun w L' hF hS hi => run_indexO Try.underlying29 Try.sizeOf22 rfl rfl (offOf (i := 2) (E := 22) (sz := 1) (n := css.length) (a := p_5.1) (c := p_5.2) hS ((hi 2 (by simp)).trans rfl)) rfl (pf_5.ix h_t157)) rfl rfl ?_
             refine d_readD (fun w L' hF hS hi => run_loadG1 (f := idC) (i := (val (gI ((l_5.length : Int) - 1)))) (sz := 1) (j := 0) (v := (List.getD (List.getD css (Int.toNat (val (gI ((l_5.length : Int) - 1)))) []) 0 undef)) Try.isAgg22 rfl rfl (offOf (i := 2) (E := 22) (sz := 1) (n := css.length) (a := p_5.1) (c := p_5.2) hS ((hi 2 (by simp)).trans rfl)) (pf_5.ix h_t157) (rg_of ((pf_5.eta h_t157).trans (cgs_edit_Step (pf_5.at h_t157))) rfl)) rfl rfl ?_
             refine d_val rfl rfl (r_move (v := .slice p_5.1 css.length p_5.2) rfl) ?_
             refine d_val rfl rfl (r_move (v := .int .i64 (l_5.length : Int)) rfl) ?_
             have h_t161 := bnd_val H150
             have H151 := bnd_rest H150
             refine d_val rfl rfl (r_subG rfl rfl h_t161) ?_
             have h_t162 := bnd_val H151
             have H152 := bnd_rest H151
             refine d_readD (v := .slice (cutA p_5.1 (Int.toNat (0 : Int)) p_5.2 1) (cutL css 0 (val (gI ((l_5.length : Int) - 1)))).length (p_5.2 - Int.toNat (0 : Int))) (fun w L' hF hS hi => run_sliceHO (xs := css) Try.underlying29 Try.sizeOf22 rfl rfl rfl (capO (i := 2) hS ((hi 2 (by simp)).trans rfl)) (pf_5.cutG h_t162)) rfl rfl ?_
             refine d_val rfl rfl (r_assign (v := .slice p_23.1 ((css_2 ++ [[gv_2]]).length) p_23.2) rfl) ?_
             refine d_val rfl rfl (r_assign (v := (List.getD (List.getD css (Int.toNat (val (gI ((l_5.length : Int) - 1)))) []) 0 undef)) rfl) ?_
             refine d_val rfl rfl (r_assign (v := .slice (cutA p_5.1 (Int.toNat (0 : Int)) p_5.2 1) (cutL css 0 (val (gI ((l_5.length : Int) - 1)))).length (p_5.2 - Int.toNat (0 : Int))) rfl) ?_
             refine d_nil ?_
             refine c_imp 2 rfl (imp_cutO rfl (pf_5.cutG h_t162)) ?_
             have pf_17 : AllC gs_edit_Step hp_2 1 (cutL css 0 (val (gI ((l_5.length : Int) - 1)))) (val (gCut l_5 0 (val (gI ((l_5.length : Int) - 1))))) := pf_5.cut h_t162
             refine c_sel [0, 1, 2, 3, 4, 5, 6] [poolC h hp_2, cellsC p [.slice p_22.1 t141.2.all_.length p_22.2, .int .i64 t141.2.now_] 97, rowO 22 1 (.slice ((cutA p_5.1 (Int.toNat (0 : Int)) p_5.2 1, p_5.2 - Int.toNat (0 : Int)) : Option Addr × Nat).1 ((cutL css 0 (val (gI ((l_5.length : Int) - 1)))).length) ((cutA p_5.1 (Int.toNat (0 : Int)) p_5.2 1, p_5.2 - Int.toNat (0 : Int)) : Option Addr × Nat).2) ((cutL css 0 (val (gI ((l_5.length : Int) - 1)))).length) ((cutL css 0 (val (gI ((l_5.length : Int) - 1)))).map idC), rowV 22 1 (.slice p_23.1 ((css_2 ++ [[gv_2]]).length) p_23.2) ((css_2 ++ [[gv_2]]).length) ((css_2 ++ [[gv_2]]).map idC), rowD 22 1 gs_edit_Step (.slice p_22.1 t141.2.all_.length p_22.2) t141.2.all_.length t141.2.all_, cellsC b11 [.int .i64 t46.Kind, .int .i64 t46.N, .int .i64 t46.Step.Kind, .int .i64 t46.Step.A, .int .i64 t46.Step.B, .int .i64 t46.Step.C, .int .i64 t46.Step.D, (elH h v1 8 (Int.toNat x44_2) 7)] 33, cellsC b16 [gv_2] 22] rfl (by decide) ?_
             refine c_exit ?_
             refine c_poolLe 0 rfl (fun hle_ => ?_)
             refine c_close ((val (gAt l_5 (val (gI ((l_5.length : Int) - 1))))), t141.2.now_, (val (gCut l_5 0 (val (gI ((l_5.length : Int) - 1))))), (val (gApp 24 l_6 ([x9_3] : List (List T_edit_Step)))), t141.2.all_) (hp_2, (List.getD (List.getD css (Int.toNat (val (gI ((l_5.length : Int) - 1)))) []) 0 undef), (cutL css 0 (val (gI ((l_5.length : Int) - 1)))), ((cutA p_5.1 (Int.toNat (0 : Int)) p_5.2 1, p_5.2 - Int.toNat (0 : Int)) : Option Addr × Nat), (css_2 ++ [[gv_2]]), p_23, p_22) 0 [0, 1, 2, 3, 4] (by exact ⟨rfl, rfl, rfl, rfl, rfl, rfl, rfl, trivial⟩) (by decide) rfl (by exact ⟨H152, ⟨(show FrS hp_2 5 (List.getD (List.getD css (Int.toNat (val (gI ((l_5.length : Int) - 1)))) []) 0 undef) ((val (gAt l_5 (val (gI ((l_5.length : Int) - 1))))).map e_edit_Step) from (pf_5.at h_t157)), pf_17, pf_16⟩⟩) (Nat.lt_succ_self _)
             ) (by kernel_rfl)
           ·have H153 := cnd_f hb H146; clear H146
            refine c_skip ?_
            refine c_exit ?_
            refine c_poolLe 0 rfl (fun hle_ => ?_)
            refine c_close (x9_3, t141.2.now_, l_5, l_6, t141.2.all_) (hp_2, gv_2, css, p_5, css_2, p_6, p_22) 0 [0, 1, 2, 3, 4] (by exact ⟨rfl, rfl, rfl, rfl, rfl, rfl, rfl, trivial⟩) (by decide) rfl (by exact ⟨H153, ⟨gf_3, pf_5, pf_6⟩⟩) (Nat.lt_succ_self _)
         ·have H154 := cnd_f hb H142; clear H142
          refine c_seq ?_
          refine c_region ?_
          refine l_val rfl rfl rfl (r_eql rfl rfl) ?_
          refine l_val rfl rfl rfl (r_assign (v := .bool (decide (t46.Kind = 3))) rfl) ?_
          refine l_nil ?_
          refine c_sel [0, 1, 2, 3, 4, 5] [poolC h hp_2, cellsC p [.slice p_7.1 l_7.length p_7.2, .int .i64 m_3] 97, rowO 22 1 (.slice p_5.1 css.length p_5.2) css.length (css.map idC), rowV 22 1 (.slice p_6.1 css_2.length p_6.2) css_2.length (css_2.map idC), rowD 22 1 gs_edit_Step (.slice p_7.1 l_7.length p_7.2) l_7.length l_7, cellsC b11 [.int .i64 t46.Kind, .int .i64 t46.N, .int .i64 t46.Step.Kind, .int .i64 t46.Step.A, .int .i64 t46.Step.B, .int .i64 t46.Step.C, .int .i64 t46.Step.D, (elH h v1 8 (Int.toNat x44_2) 7)] 33] rfl (by decide) ?_
          refine c_if (b := (decide (t46.Kind = 3))) rfl (fun hb => ?_) (fun hb => ?_)
          ·have H155 := cnd_t hb H154; clear H154
           refine c_seq ?_
           refine c_seq ?_
           refine c_region ?_
           refine l_val rfl rfl rfl (r_move (v := .pointer (some ⟨p, 0, none⟩)) rfl) ?_
           obtain ⟨t166, h_t166, H156⟩ := bnd_some H155; clear H155
           refine c_both 1 4 rfl rfl (by decide) ?_
           refine l_turn (turns_callB (i := 1) (rds := []) (G := fun x : (Option Addr × Nat) => .bool t166.1) (C := fun x : (Option Addr × Nat) => bothC (cellsC p [.slice x.1 t166.2.all_.length x.2, .int .i64 t166.2.now_] 97) (rowD 22 1 gs_edit_Step (.slice x.1 t166.2.all_.length x.2) t166.2.all_.length t166.2.all_)) rfl (fun w L' S hF hS hi hp hlt ho hA => k18 hp hlt (know_but w S)  h_t166) Try.call18 rfl) rfl rfl rfl (fun p_24 => ?_)
           refine c_splitAt 1 4 rfl rfl (by decide) ?_
           refine l_val rfl rfl rfl (r_move (v := .slice p_6.1 css_2.length p_6.2) rfl) ?_
           refine l_val rfl rfl rfl (r_lenN Try.underlying29 rfl pf_6.len) ?_
           refine l_val rfl rfl rfl (r_gtr rfl rfl) ?_
           refine l_val rfl rfl rfl (r_neqB Try.underlying4 rfl rfl) ?_
           refine l_nil ?_
           refine c_sel [0, 1, 2, 3, 4, 5] [poolC h hp_2, cellsC p [.slice p_24.1 t166.2.all_.length p_24.2, .int .i64 t166.2.now_] 97, rowO 22 1 (.slice p_5.1 css.length p_5.2) css.length (css.map idC), rowV 22 1 (.slice p_6.1 css_2.length p_6.2) css_2.length (css_2.map idC), rowD 22 1 gs_edit_Step (.slice p_24.1 t166.2.all_.length p_24.2) t166.2.all_.length t166.2.all_, cellsC b11 [.int .i64 t46.Kind, .int .i64 t46.N, .int .i64 t46.Step.Kind, .int .i64 t46.Step.A, .int .i64 t46.Step.B, .int .i64 t46.Step.C, .int .i64 t46.Step.D, (elH h v1 8 (Int.toNat x44_2) 7)] 33] rfl (by decide) ?_
           refine c_if (b := (decide (t166.1 ≠ (decide (0 < (l_6.length : Int)))))) rfl (fun hb => ?_) (fun hb => ?_)
           ·have H157 := cnd_t hb H156; clear H156
            refine c_seq ?_
            refine c_region ?_
            refine l_val rfl rfl rfl (r_assign (v := .bool false) rfl) ?_
            refine l_nil ?_
            refine c_sel [0, 1, 2, 3, 4, 5] [poolC h hp_2, cellsC p [.slice p_24.1 t166.2.all_.length p_24.2, .int .i64 t166.2.now_] 97, rowO 22 1 (.slice p_5.1 css.length p_5.2) css.length (css.map idC), rowV 22 1 (.slice p_6.1 css_2.length p_6.2) css_2.length (css_2.map idC), rowD 22 1 gs_edit_Step (.slice p_24.1 t166.2.all_.length p_24.2) t166.2.all_.length t166.2.all_, cellsC b11 [.int .i64 t46.Kind, .int .i64 t46.N, .int .i64 t46.Step.Kind, .int .i64 t46.Step.A, .int .i64 t46.Step.B, .int .i64 t46.Step.C, .int .i64 t46.Step.D, (elH h v1 8 (Int.toNat x44_2) 7)] 33] rfl (by decide) ?_
            refine c_ret ?_
            obtain rfl := Option.some.inj H157
            refine ret1 (v := .bool false) rfl rfl (fin rfl)
           ·have H158 := cnd_f hb H156; clear H156
            refine c_skip ?_
            refine c_seq ?_
            refine c_seq ?_
            refine c_region ?_
            refine l_val rfl rfl rfl (r_move (v := .slice p_6.1 css_2.length p_6.2) rfl) ?_
            refine l_val rfl rfl rfl (r_lenN Try.underlying29 rfl pf_6.len) ?_
            refine l_val rfl rfl rfl (r_assign (v := .int .i64 (l_6.length : Int)) rfl) ?_
            refine l_nil ?_
            refine c_sel [0, 1, 2, 3, 4, 5] [poolC h hp_2, cellsC p [.slice p_24.1 t166.2.all_.length p_24.2, .int .i64 t166.2.now_] 97, rowO 22 1 (.slice p_5.1 css.length p_5.2) css.length (css.map idC), rowV 22 1 (.slice p_6.1 css_2.length p_6.2) css_2.length (css_2.map idC), rowD 22 1 gs_edit_Step (.slice p_24.1 t166.2.all_.length p_24.2) t166.2.all_.length t166.2.all_, cellsC b11 [.int .i64 t46.Kind, .int .i64 t46.N, .int .i64 t46.Step.Kind, .int .i64 t46.Step.A, .int .i64 t46.Step.B, .int .i64 t46.Step.C, .int .i64 t46.Step.D, (elH h v1 8 (Int.toNat x44_2) 7)] 33] rfl (by decide) ?_
            refine c_seq ?_
            refine c_region ?_
            refine l_val rfl rfl rfl (r_move (v := .int .i64 (l_6.length : Int)) rfl) ?_
            refine l_val rfl rfl rfl (r_gtr rfl rfl) ?_
            refine l_nil ?_
            refine c_sel [0, 1, 2, 3, 4, 5] [poolC h hp_2, cellsC p [.slice p_24.1 t166.2.all_.length p_24.2, .int .i64 t166.2.now_] 97, rowO 22 1 (.slice p_5.1 css.length p_5.2) css.length (css.map idC), rowV 22 1 (.slice p_6.1 css_2.length p_6.2) css_2.length (css_2.map idC), rowD 22 1 gs_edit_Step (.slice p_24.1 t166.2.all_.length p_24.2) t166.2.all_.length t166.2.all_, cellsC b11 [.int .i64 t46.Kind, .int .i64 t46.N, .int .i64 t46.Step.Kind, .int .i64 t46.Step.A, .int .i64 t46.Step.B, .int .i64 t46.Step.C, .int .i64 t46.Step.D, (elH h v1 8 (Int.toNat x44_2) 7)] 33] rfl (by decide) ?_
            refine c_if (b := (decide (0 < (l_6.length : Int)))) rfl (fun hb => ?_) (fun hb => ?_)
            ·have H159 := cnd_t hb H158; clear H158
             exact c_regionD (Kd.p :: Kd.p :: Kd.ns 6 [_] 22 1 :: Kd.t 2 [6] _ _ :: Kd.p :: Kd.p :: Kd.p :: Kd.d [3] _ :: Kd.d [3] _ :: Kd.p :: Kd.p :: Kd.p :: Kd.d [3] _ :: Kd.p :: Kd.p :: Kd.p :: []) 1 mixed (by
              refine d_val rfl rfl (r_move (v := .slice p_5.1 css.length p_5.2) rfl) ?_
              refine d_val rfl rfl (r_move (v := gv_2) rfl) ?_
              refine d_newS rfl rfl (run_buildSlice (vs := [gv_2]) (cs := [gv_2]) Try.underlying29 Try.sizeOf22 Try.zeroValue22 rfl rfl (by simp only [List.all_cons, List.all_nil, cells_sz gf_3.cells] <;> rfl) rfl (by simp only [List.flatMap_cons, List.flatMap_nil, gf_3.cells] <;> rfl)) rfl (fun b17 => ?_)
              have h_l178 := bnd_val H159
              have H160 := bnd_rest H159
              refine d_turn (Cv := fun v_ => rowO 22 1 v_ (css ++ [[gv_2]]).length ((css ++ [[gv_2]]).map idC)) (none, 0) (turns_appO (sz := 1) (by_ := 24) (i := 2) (k := 6) (p := p_5) (css := css) (cs1 := [gv_2]) Try.underlying29 (info_of Try.typeInfo22) rfl rfl rfl rfl rfl rfl rfl rfl rfl rfl rfl rfl (by simp only [idC, List.map_cons, List.map_nil, List.all_cons, List.all_nil, gf_3.one] <;> rfl) (app63 (pf_5.app h_l178 (nc := [[gv_2]]) rfl)) rfl) (fun _ => rfl) rfl rfl (fun p_25 => ?_)
              have pf_18 : AllC gs_edit_Step hp_2 1 (css ++ [[gv_2]]) (val (gApp 24 l_5 ([x9_3] : List (List T_edit_Step)))) := AllC.snocG pf_5 h_l178 rfl (gf_3)
              refine d_val rfl rfl (r_move (v := .slice p_6.1 css_2.length p_6.2) rfl) ?_
              refine d_val rfl rfl (r_move (v := .int .i64 (l_6.length : Int)) rfl) ?_
              have h_t181 := bnd_val H160
              have H161 := bnd_rest H160
              refine d_val rfl rfl (r_subG rfl rfl h_t181) ?_
              have h_t182 := bnd_val H161
              have H162 := bnd_rest H161
              refine d_readD (fun w L' hF hS hi => run_indexO Try.underlying29 Try.sizeOf22 rfl rfl (rowOf (i := 3) (E := 22) (sz := 1) (n := css_2.length) (a := p_6.1) (c := p_6.2) hS ((hi 3 (by simp)).trans rfl)) rfl (pf_6.ix h_t182)) rfl rfl ?_
              refine d_readD (fun w L' hF hS hi => run_loadG1 (f := idC) (i := (val (gI ((l_6.length : Int) - 1)))) (sz := 1) (j := 0) (v := (List.getD (List.getD css_2 (Int.toNat (val (gI ((l_6.length : Int) - 1)))) []) 0 undef)) Try.isAgg22 rfl rfl (rowOf (i := 3) (E := 22) (sz := 1) (n := css_2.length) (a := p_6.1) (c := p_6.2) hS ((hi 3 (by simp)).trans rfl)) (pf_6.ix h_t182) (rg_of ((pf_6.eta h_t182).trans (cgs_edit_Step (pf_6.at h_t182))) rfl)) rfl rfl ?_
              refine d_val rfl rfl (r_move (v := .slice p_6.1 css_2.length p_6.2) rfl) ?_
              refine d_val rfl rfl (r_move (v := .int .i64 (l_6.length : Int)) rfl) ?_
              have h_t186 := bnd_val H162
              have H163 := bnd_rest H162
              refine d_val rfl rfl (r_subG rfl rfl h_t186) ?_
              have h_t187 := bnd_val H163
              have H164 := bnd_rest H163
              refine d_readD (v := .slice p_6.1 (cutL css_2 0 (val (gI ((l_6.length : Int) - 1)))).length p_6.2) (fun w L' hF hS hi => run_sliceHO0 (xs := css_2) Try.underlying29 Try.sizeOf22 rfl rfl rfl (capOf (i := 3) hS ((hi 3 (by simp)).trans rfl)) (pf_6.cutG h_t187)) rfl rfl ?_
              refine d_val rfl rfl (r_assign (v := .slice p_25.1 ((css ++ [[gv_2]]).length) p_25.2) rfl) ?_
              refine d_val rfl rfl (r_assign (v := (List.getD (List.getD css_2 (Int.toNat (val (gI ((l_6.length : Int) - 1)))) []) 0 undef)) rfl) ?_
              refine d_val rfl rfl (r_assign (v := .slice p_6.1 (cutL css_2 0 (val (gI ((l_6.length : Int) - 1)))).length p_6.2) rfl) ?_
              refine d_nil ?_
              refine c_imp 3 rfl (imp_shrink rfl (pf_6.cutG h_t187)) ?_
              refine c_imp 3 rfl (imp_rowC _ _ _ _ _ _) ?_
              have pf_19 : AllC gs_edit_Step hp_2 1 (cutL css_2 0 (val (gI ((l_6.length : Int) - 1)))) (val (gCut l_6 0 (val (gI ((l_6.length : Int) - 1))))) := pf_6.cut h_t187
              refine c_sel [0, 1, 2, 3, 4, 5, 6] [poolC h hp_2, cellsC p [.slice p_24.1 t166.2.all_.length p_24.2, .int .i64 t166.2.now_] 97, rowO 22 1 (.slice p_25.1 ((css ++ [[gv_2]]).length) p_25.2) ((css ++ [[gv_2]]).length) ((css ++ [[gv_2]]).map idC), rowV 22 1 (.slice p_6.1 ((cutL css_2 0 (val (gI ((l_6.length : Int) - 1)))).length) p_6.2) ((cutL css_2 0 (val (gI ((l_6.length : Int) - 1)))).length) ((cutL css_2 0 (val (gI ((l_6.length : Int) - 1)))).map idC), rowD 22 1 gs_edit_Step (.slice p_24.1 t166.2.all_.length p_24.2) t166.2.all_.length t166.2.all_, cellsC b11 [.int .i64 t46.Kind, .int .i64 t46.N, .int .i64 t46.Step.Kind, .int .i64 t46.Step.A, .int .i64 t46.Step.B, .int .i64 t46.Step.C, .int .i64 t46.Step.D, (elH h v1 8 (Int.toNat x44_2) 7)] 33, cellsC b17 [gv_2] 22] rfl (by decide) ?_
              refine c_exit ?_
              refine c_poolLe 0 rfl (fun hle_ => ?_)
              refine c_close ((val (gAt l_6 (val (gI ((l_6.length : Int) - 1))))), t166.2.now_, (val (gApp 24 l_5 ([x9_3] : List (List T_edit_Step)))), (val (gCut l_6 0 (val (gI ((l_6.length : Int) - 1))))), t166.2.all_) (hp_2, (List.getD (List.getD css_2 (Int.toNat (val (gI ((l_6.length : Int) - 1)))) []) 0 undef), (css ++ [[gv_2]]), p_25, (cutL css_2 0 (val (gI ((l_6.length : Int) - 1)))), p_6, p_24) 0 [0, 1, 2, 3, 4] (by exact ⟨rfl, rfl, rfl, rfl, rfl, rfl, rfl, trivial⟩) (by decide) rfl (by exact ⟨H164, ⟨(show FrS hp_2 5 (List.getD (List.getD css_2 (Int.toNat (val (gI ((l_6.length : Int) - 1)))) []) 0 undef) ((val (gAt l_6 (val (gI ((l_6.length : Int) - 1))))).map e_edit_Step) from (pf_6.at h_t182)), pf_18, pf_19⟩⟩) (Nat.lt_succ_self _)
              ) (by kernel_rfl)
            ·have H165 := cnd_f hb H158; clear H158
             refine c_skip ?_
             refine c_exit ?_
             refine c_poolLe 0 rfl (fun hle_ => ?_)
             refine c_close (x9_3, t166.2.now_, l_5, l_6, t166.2.all_) (hp_2, gv_2, css, p_5, css_2, p_6, p_24) 0 [0, 1, 2, 3, 4] (by exact ⟨rfl, rfl, rfl, rfl, rfl, rfl, rfl, trivial⟩) (by decide) rfl (by exact ⟨H165, ⟨gf_3, pf_5, pf_6⟩⟩) (Nat.lt_succ_self _)
          ·have H166 := cnd_f hb H154; clear H154
           refine c_seq ?_
           refine c_region ?_
           refine l_val rfl rfl rfl (r_move (v := .pointer (some ⟨p, 0, none⟩)) rfl) ?_
           refine l_val rfl rfl rfl (r_field Try.runUnderlying33 rfl Try.sizeOf3 rfl rfl) ?_
           refine l_load1 (i := 5) (v := .int .i64 t46.N) Try.isAgg3 rfl rfl rfl rfl rfl ?_
           obtain ⟨t54, h_t54, H167⟩ := bnd_some H166; clear H166
           refine l_make (makes_call (rds := [1, 4]) (G := fun x : (Option Addr × Nat) => .tuple #[.slice x.1 t54.1.length x.2, .bool t54.2]) (C := fun x : (Option Addr × Nat) => rowO 31 5 (.slice x.1 t54.1.length x.2) t54.1.length (t54.1.map e_edit_Step)) (fun w L' hF hS hi => k19 (know_all w) (frn_rowD (i := 4) hS ((hi 4 (by simp)).trans rfl)) (sat_cell (i := 1) hS ((hi 1 (by simp)).trans rfl)) h_t54) Try.call19 rfl) rfl rfl rfl (fun p_26 => ?_)
           refine l_val rfl rfl rfl (r_move (v := .tuple #[.slice p_26.1 t54.1.length p_26.2, .bool t54.2]) rfl) ?_
           refine l_val rfl rfl rfl (r_extract (v := .slice p_26.1 t54.1.length p_26.2) rfl rfl) ?_
           refine l_val rfl rfl rfl (r_extract (v := .bool t54.2) rfl rfl) ?_
           refine l_val rfl rfl rfl (r_assign (v := .slice p_26.1 t54.1.length p_26.2) rfl) ?_
           refine l_val rfl rfl rfl (r_assign (v := .bool t54.2) rfl) ?_
           refine l_nil ?_
           refine c_sel [0, 1, 2, 3, 4, 5, 6] [poolC h hp_2, cellsC p [.slice p_7.1 l_7.length p_7.2, .int .i64 m_3] 97, rowO 22 1 (.slice p_5.1 css.length p_5.2) css.length (css.map idC), rowV 22 1 (.slice p_6.1 css_2.length p_6.2) css_2.length (css_2.map idC), rowD 22 1 gs_edit_Step (.slice p_7.1 l_7.length p_7.2) l_7.length l_7, cellsC b11 [.int .i64 t46.Kind, .int .i64 t46.N, .int .i64 t46.Step.Kind, .int .i64 t46.Step.A, .int .i64 t46.Step.B, .int .i64 t46.Step.C, .int .i64 t46.Step.D, (elH h v1 8 (Int.toNat x44_2) 7)] 33, rowO 31 5 (.slice p_26.1 t54.1.length p_26.2) t54.1.length (t54.1.map e_edit_Step)] rfl (by decide) ?_
           refine c_seq ?_
           refine c_region ?_
           refine l_val rfl rfl rfl (r_assign (v := .slice none 0 0) rfl) ?_
           refine l_nil ?_
           refine c_sel [0, 1, 2, 3, 4, 5, 6] [poolC h hp_2, cellsC p [.slice p_7.1 l_7.length p_7.2, .int .i64 m_3] 97, rowO 22 1 (.slice p_5.1 css.length p_5.2) css.length (css.map idC), rowV 22 1 (.slice p_6.1 css_2.length p_6.2) css_2.length (css_2.map idC), rowD 22 1 gs_edit_Step (.slice p_7.1 l_7.length p_7.2) l_7.length l_7, cellsC b11 [.int .i64 t46.Kind, .int .i64 t46.N, .int .i64 t46.Step.Kind, .int .i64 t46.Step.A, .int .i64 t46.Step.B, .int .i64 t46.Step.C, .int .i64 t46.Step.D, (elH h v1 8 (Int.toNat x44_2) 7)] 33, rowO 31 5 (.slice p_26.1 t54.1.length p_26.2) t54.1.length (t54.1.map e_edit_Step)] rfl (by decide) ?_
           refine c_meet (r := r) (σ := Bool) (τ := Unit) (fun s => Law_EditHistories_j6 x9_3 x44_2 m_3 l_5 l_6 l_7 next2 t46 t54 s) (fun s t => [(5, .pointer (some ⟨p, 0, none⟩)), (8, .slice p_5.1 css.length p_5.2), (9, gv_2), (10, .slice p_6.1 css_2.length p_6.2), (12, .pointer (some ⟨b11, 0, none⟩)), (13, .slice none 0 0), (14, .int .i64 0), (17, .slice p_26.1 t54.1.length p_26.2), (18, .bool t54.2), (19, .slice none 0 0), (20, .bool s), (42, v1), (43, .int .i64 (a1.length : Int)), (44, .int .i64 x44_2)]) (fun s t => [poolC h hp_2, cellsC p [.slice p_7.1 l_7.length p_7.2, .int .i64 m_3] 97, rowO 22 1 (.slice p_5.1 css.length p_5.2) css.length (css.map idC), rowV 22 1 (.slice p_6.1 css_2.length p_6.2) css_2.length (css_2.map idC), rowD 22 1 gs_edit_Step (.slice p_7.1 l_7.length p_7.2) l_7.length l_7, cellsC b11 [.int .i64 t46.Kind, .int .i64 t46.N, .int .i64 t46.Step.Kind, .int .i64 t46.Step.A, .int .i64 t46.Step.B, .int .i64 t46.Step.C, .int .i64 t46.Step.D, (elH h v1 8 (Int.toNat x44_2) 7)] 33, rowO 31 5 (.slice p_26.1 t54.1.length p_26.2) t54.1.length (t54.1.map e_edit_Step)]) (fun s t => True) ?_ ?_
           ·refine c_region ?_
            refine l_val rfl rfl rfl (r_field Try.runUnderlying33 rfl Try.sizeOf3 rfl rfl) ?_
            refine l_load1 (i := 5) (v := .int .i64 t46.N) Try.isAgg3 rfl rfl rfl rfl rfl ?_
            refine l_val rfl rfl rfl (r_geq rfl rfl) ?_
            refine l_val rfl rfl rfl (r_move (v := .bool (decide (0 ≤ t46.N))) rfl) ?_
            refine split (fun hb => ?_) (fun hb => ?_)
            ·have H184 := cnd_t hb H167; clear H167
             refine l_val rfl rfl rfl (r_field Try.runUnderlying33 rfl Try.sizeOf3 rfl rfl) ?_
             refine l_load1 (i := 5) (v := .int .i64 t46.N) Try.isAgg3 rfl rfl rfl rfl rfl ?_
             refine l_val rfl rfl rfl (r_move (v := .slice p_5.1 css.length p_5.2) rfl) ?_
             refine l_val rfl rfl rfl (r_lenN Try.underlying29 rfl pf_5.len) ?_
             refine l_val rfl rfl rfl (r_leq rfl rfl) ?_
             refine l_val rfl rfl rfl (r_pickT (v := .bool (decide (t46.N ≤ (l_5.length : Int)))) rfl rfl) ?_
             refine l_val rfl rfl rfl (r_assign (v := .bool (decide (t46.N ≤ (l_5.length : Int)))) rfl) ?_
             refine l_nil ?_
             refine c_sel [0, 1, 2, 3, 4, 5, 6] [poolC h hp_2, cellsC p [.slice p_7.1 l_7.length p_7.2, .int .i64 m_3] 97, rowO 22 1 (.slice p_5.1 css.length p_5.2) css.length (css.map idC), rowV 22 1 (.slice p_6.1 css_2.length p_6.2) css_2.length (css_2.map idC), rowD 22 1 gs_edit_Step (.slice p_7.1 l_7.length p_7.2) l_7.length l_7, cellsC b11 [.int .i64 t46.Kind, .int .i64 t46.N, .int .i64 t46.Step.Kind, .int .i64 t46.Step.A, .int .i64 t46.Step.B, .int .i64 t46.Step.C, .int .i64 t46.Step.D, (elH h v1 8 (Int.toNat x44_2) 7)] 33, rowO 31 5 (.slice p_26.1 t54.1.length p_26.2) t54.1.length (t54.1.map e_edit_Step)] rfl (by decide) ?_
             refine c_close (decide (t46.N ≤ (l_5.length : Int))) () 0 [0, 1, 2, 3, 4, 5, 6] (by exact ⟨rfl, rfl, rfl, rfl, rfl, rfl, rfl, rfl, rfl, rfl, rfl, rfl, rfl, rfl, trivial⟩) (by decide) rfl (by exact ⟨H184, trivial⟩) (Nat.lt_succ_self _)
            ·have H185 := cnd_f hb H167; clear H167
             refine l_passed rfl rfl rfl ?_
             refine l_passed rfl rfl rfl ?_
             refine l_passed rfl rfl rfl ?_
             refine l_passed rfl rfl rfl ?_
             refine l_passed rfl rfl rfl ?_
             refine l_val rfl rfl rfl (r_pickF (v := .bool false) rfl rfl) ?_
             refine l_val rfl rfl rfl (r_assign (v := .bool false) rfl) ?_
             refine l_nil ?_
             refine c_sel [0, 1, 2, 3, 4, 5, 6] [poolC h hp_2, cellsC p [.slice p_7.1 l_7.length p_7.2, .int .i64 m_3] 97, rowO 22 1 (.slice p_5.1 css.length p_5.2) css.length (css.map idC), rowV 22 1 (.slice p_6.1 css_2.length p_6.2) css_2.length (css_2.map idC), rowD 22 1 gs_edit_Step (.slice p_7.1 l_7.length p_7.2) l_7.length l_7, cellsC b11 [.int .i64 t46.Kind, .int .i64 t46.N, .int .i64 t46.Step.Kind, .int .i64 t46.Step.A, .int .i64 t46.Step.B, .int .i64 t46.Step.C, .int .i64 t46.Step.D, (elH h v1 8 (Int.toNat x44_2) 7)] 33, rowO 31 5 (.slice p_26.1 t54.1.length p_26.2) t54.1.length (t54.1.map e_edit_Step)] rfl (by decide) ?_
             refine c_close false () 0 [0, 1, 2, 3, 4, 5, 6] (by exact ⟨rfl, rfl, rfl, rfl, rfl, rfl, rfl, rfl, rfl, rfl, rfl, rfl, rfl, rfl, trivial⟩) (by decide) rfl (by exact ⟨H185, trivial⟩) (Nat.lt_succ_self _)
           ·rintro x20 _ gg H168 _
            replace H168 : Law_EditHistories_j6 x9_3 x44_2 m_3 l_5 l_6 l_7 next2 t46 t54 x20 = some r := H168
            refine c_tidyF [(5, .pointer (some ⟨p, 0, none⟩)), (8, .slice p_5.1 css.length p_5.2), (9, gv_2), (10, .slice p_6.1 css_2.length p_6.2), (12, .pointer (some ⟨b11, 0, none⟩)), (13, .slice none 0 0), (14, .int .i64 0), (17, .slice p_26.1 t54.1.length p_26.2), (18, .bool t54.2), (19, .slice none 0 0), (20, .bool x20), (42, v1), (43, .int .i64 (a1.length : Int)), (44, .int .i64 x44_2)] [poolC h hp_2, cellsC p [.slice p_7.1 l_7.length p_7.2, .int .i64 m_3] 97, rowO 22 1 (.slice p_5.1 css.length p_5.2) css.length (css.map idC), rowV 22 1 (.slice p_6.1 css_2.length p_6.2) css_2.length (css_2.map idC), rowD 22 1 gs_edit_Step (.slice p_7.1 l_7.length p_7.2) l_7.length l_7, cellsC b11 [.int .i64 t46.Kind, .int .i64 t46.N, .int .i64 t46.Step.Kind, .int .i64 t46.Step.A, .int .i64 t46.Step.B, .int .i64 t46.Step.C, .int .i64 t46.Step.D, (elH h v1 8 (Int.toNat x44_2) 7)] 33, rowO 31 5 (.slice p_26.1 t54.1.length p_26.2) t54.1.length (t54.1.map e_edit_Step)] rfl rfl ?_
            refine c_meet (r := r) (σ := (List T_edit_Step)) (τ := Value) (fun s => Law_EditHistories_j7 x9_3 x44_2 m_3 l_5 l_6 l_7 next2 t54 x20 s) (fun s t => [(5, .pointer (some ⟨p, 0, none⟩)), (8, .slice p_5.1 css.length p_5.2), (9, gv_2), (10, .slice p_6.1 css_2.length p_6.2), (13, .slice none 0 0), (14, .int .i64 0), (17, .slice p_26.1 t54.1.length p_26.2), (18, .bool t54.2), (19, t), (20, .bool x20), (42, v1), (43, .int .i64 (a1.length : Int)), (44, .int .i64 x44_2)]) (fun s t => [poolC h hp_2, cellsC p [.slice p_7.1 l_7.length p_7.2, .int .i64 m_3] 97, rowO 22 1 (.slice p_5.1 css.length p_5.2) css.length (css.map idC), rowV 22 1 (.slice p_6.1 css_2.length p_6.2) css_2.length (css_2.map idC), rowD 22 1 gs_edit_Step (.slice p_7.1 l_7.length p_7.2) l_7.length l_7, rowO 31 5 (.slice p_26.1 t54.1.length p_26.2) t54.1.length (t54.1.map e_edit_Step)]) (fun s t => FrS hp_2 5 t (s.map e_edit_Step)) ?_ ?_
            ·refine c_block ?_
             refine c_meet (r := r) (σ := Bool) (τ := Unit) (fun s => Law_EditHistories_j8 x9_3 x44_2 m_3 l_5 l_6 l_7 next2 t46 t54 x20 s) (fun s t => [(5, .pointer (some ⟨p, 0, none⟩)), (8, .slice p_5.1 css.length p_5.2), (9, gv_2), (10, .slice p_6.1 css_2.length p_6.2), (12, .pointer (some ⟨b11, 0, none⟩)), (13, .slice none 0 0), (14, .int .i64 0), (17, .slice p_26.1 t54.1.length p_26.2), (18, .bool t54.2), (19, .slice none 0 0), (20, .bool x20), (42, v1), (43, .int .i64 (a1.length : Int)), (44, .int .i64 x44_2), (67, .bool s)]) (fun s t => [poolC h hp_2, cellsC p [.slice p_7.1 l_7.length p_7.2, .int .i64 m_3] 97, rowO 22 1 (.slice p_5.1 css.length p_5.2) css.length (css.map idC), rowV 22 1 (.slice p_6.1 css_2.length p_6.2) css_2.length (css_2.map idC), rowD 22 1 gs_edit_Step (.slice p_7.1 l_7.length p_7.2) l_7.length l_7, cellsC b11 [.int .i64 t46.Kind, .int .i64 t46.N, .int .i64 t46.Step.Kind, .int .i64 t46.Step.A, .int .i64 t46.Step.B, .int .i64 t46.Step.C, .int .i64 t46.Step.D, (elH h v1 8 (Int.toNat x44_2) 7)] 33, rowO 31 5 (.slice p_26.1 t54.1.length p_26.2) t54.1.length (t54.1.map e_edit_Step)]) (fun s t => True) ?_ ?_
             ·refine c_region ?_
              refine l_val rfl rfl rfl (r_move (v := .bool x20) rfl) ?_
              refine l_val rfl rfl rfl (r_move (v := .bool x20) rfl) ?_
              refine split (fun hb => ?_) (fun hb => ?_)
              ·have H182 := cnd_t hb H168; clear H168
               refine l_val rfl rfl rfl (r_field Try.runUnderlying33 rfl Try.sizeOf3 rfl rfl) ?_
               refine l_load1 (i := 5) (v := .int .i64 t46.N) Try.isAgg3 rfl rfl rfl rfl rfl ?_
               refine l_val rfl rfl rfl (r_eql rfl rfl) ?_
               refine l_val rfl rfl rfl (r_pickT (v := .bool (decide (t46.N = 0))) rfl rfl) ?_
               refine l_val rfl rfl rfl (r_assign (v := .bool (decide (t46.N = 0))) rfl) ?_
               refine l_nil ?_
               refine c_sel [0, 1, 2, 3, 4, 5, 6] [poolC h hp_2, cellsC p [.slice p_7.1 l_7.length p_7.2, .int .i64 m_3] 97, rowO 22 1 (.slice p_5.1 css.length p_5.2) css.length (css.map idC), rowV 22 1 (.slice p_6.1 css_2.length p_6.2) css_2.length (css_2.map idC), rowD 22 1 gs_edit_Step (.slice p_7.1 l_7.length p_7.2) l_7.length l_7, cellsC b11 [.int .i64 t46.Kind, .int .i64 t46.N, .int .i64 t46.Step.Kind, .int .i64 t46.Step.A, .int .i64 t46.Step.B, .int .i64 t46.Step.C, .int .i64 t46.Step.D, (elH h v1 8 (Int.toNat x44_2) 7)] 33, rowO 31 5 (.slice p_26.1 t54.1.length p_26.2) t54.1.length (t54.1.map e_edit_Step)] rfl (by decide) ?_
               refine c_close (decide (t46.N = 0)) () 0 [0, 1, 2, 3, 4, 5, 6] (by exact ⟨rfl, rfl, rfl, rfl, rfl, rfl, rfl, rfl, rfl, rfl, rfl, rfl, rfl, rfl, rfl, trivial⟩) (by decide) rfl (by exact ⟨H182, trivial⟩) (Nat.lt_succ_self _)
              ·have H183 := cnd_f hb H168; clear H168
               refine l_passed rfl rfl rfl ?_
               refine l_passed rfl rfl rfl ?_
               refine l_passed rfl rfl rfl ?_
               refine l_val rfl rfl rfl (r_pickF (v := .bool false) rfl rfl) ?_
               refine l_val rfl rfl rfl (r_assign (v := .bool false) rfl) ?_
               refine l_nil ?_
               refine c_sel [0, 1, 2, 3, 4, 5, 6] [poolC h hp_2, cellsC p [.slice p_7.1 l_7.length p_7.2, .int .i64 m_3] 97, rowO 22 1 (.slice p_5.1 css.length p_5.2) css.length (css.map idC), rowV 22 1 (.slice p_6.1 css_2.length p_6.2) css_2.length (css_2.map idC), rowD 22 1 gs_edit_Step (.slice p_7.1 l_7.length p_7.2) l_7.length l_7, cellsC b11 [.int .i64 t46.Kind, .int .i64 t46.N, .int .i64 t46.Step.Kind, .int .i64 t46.Step.A, .int .i64 t46.Step.B, .int .i64 t46.Step.C, .int .i64 t46.Step.D, (elH h v1 8 (Int.toNat x44_2) 7)] 33, rowO 31 5 (.slice p_26.1 t54.1.length p_26.2) t54.1.length (t54.1.map e_edit_Step)] rfl (by decide) ?_
               refine c_close false () 0 [0, 1, 2, 3, 4, 5, 6] (by exact ⟨rfl, rfl, rfl, rfl, rfl, rfl, rfl, rfl, rfl, rfl, rfl, rfl, rfl, rfl, rfl, trivial⟩) (by decide) rfl (by exact ⟨H183, trivial⟩) (Nat.lt_succ_self _)
             ·rintro x67 _ gg H175 _
              replace H175 : Law_EditHistories_j8 x9_3 x44_2 m_3 l_5 l_6 l_7 next2 t46 t54 x20 x67 = some r := H175
              refine c_tidyF [(5, .pointer (some ⟨p, 0, none⟩)), (8, .slice p_5.1 css.length p_5.2), (9, gv_2), (10, .slice p_6.1 css_2.length p_6.2), (12, .pointer (some ⟨b11, 0, none⟩)), (13, .slice none 0 0), (14, .int .i64 0), (17, .slice p_26.1 t54.1.length p_26.2), (18, .bool t54.2), (19, .slice none 0 0), (20, .bool x20), (42, v1), (43, .int .i64 (a1.length : Int)), (44, .int .i64 x44_2), (67, .bool x67)] [poolC h hp_2, cellsC p [.slice p_7.1 l_7.length p_7.2, .int .i64 m_3] 97, rowO 22 1 (.slice p_5.1 css.length p_5.2) css.length (css.map idC), rowV 22 1 (.slice p_6.1 css_2.length p_6.2) css_2.length (css_2.map idC), rowD 22 1 gs_edit_Step (.slice p_7.1 l_7.length p_7.2) l_7.length l_7, cellsC b11 [.int .i64 t46.Kind, .int .i64 t46.N, .int .i64 t46.Step.Kind, .int .i64 t46.Step.A, .int .i64 t46.Step.B, .int .i64 t46.Step.C, .int .i64 t46.Step.D, (elH h v1 8 (Int.toNat x44_2) 7)] 33, rowO 31 5 (.slice p_26.1 t54.1.length p_26.2) t54.1.length (t54.1.map e_edit_Step)] rfl rfl ?_
              refine c_if (b := x67) rfl (fun hb => ?_) (fun hb => ?_)
              ·have H176 := cnd_t hb H175; clear H175
               refine c_region ?_
               refine l_val rfl rfl rfl (r_move (v := gv_2) rfl) ?_
               refine l_val rfl rfl rfl (r_assign (v := gv_2) rfl) ?_
               refine l_nil ?_
               refine c_sel [0, 1, 2, 3, 4, 5, 6] [poolC h hp_2, cellsC p [.slice p_7.1 l_7.length p_7.2, .int .i64 m_3] 97, rowO 22 1 (.slice p_5.1 css.length p_5.2) css.length (css.map idC), rowV 22 1 (.slice p_6.1 css_2.length p_6.2) css_2.length (css_2.map idC), rowD 22 1 gs_edit_Step (.slice p_7.1 l_7.length p_7.2) l_7.length l_7, cellsC b11 [.int .i64 t46.Kind, .int .i64 t46.N, .int .i64 t46.Step.Kind, .int .i64 t46.Step.A, .int .i64 t46.Step.B, .int .i64 t46.Step.C, .int .i64 t46.Step.D, (elH h v1 8 (Int.toNat x44_2) 7)] 33, rowO 31 5 (.slice p_26.1 t54.1.length p_26.2) t54.1.length (t54.1.map e_edit_Step)] rfl (by decide) ?_
               refine c_poolLe 0 rfl (fun hle_ => ?_)
               refine c_close x9_3 gv_2 0 [0, 1, 2, 3, 4, 6] (by exact ⟨rfl, rfl, rfl, rfl, rfl, rfl, rfl, rfl, rfl, rfl, rfl, rfl, rfl, trivial⟩) (by decide) rfl (by exact ⟨H176, gf_3⟩) (Nat.lt_succ_self _)
              ·have H177 := cnd_f hb H175; clear H175
               refine c_seq ?_
               refine c_region ?_
               refine l_val rfl rfl rfl (r_move (v := .bool x20) rfl) ?_
               refine l_val rfl rfl rfl (r_assign (v := .bool x20) rfl) ?_
               refine l_nil ?_
               refine c_sel [0, 1, 2, 3, 4, 5, 6] [poolC h hp_2, cellsC p [.slice p_7.1 l_7.length p_7.2, .int .i64 m_3] 97, rowO 22 1 (.slice p_5.1 css.length p_5.2) css.length (css.map idC), rowV 22 1 (.slice p_6.1 css_2.length p_6.2) css_2.length (css_2.map idC), rowD 22 1 gs_edit_Step (.slice p_7.1 l_7.length p_7.2) l_7.length l_7, cellsC b11 [.int .i64 t46.Kind, .int .i64 t46.N, .int .i64 t46.Step.Kind, .int .i64 t46.Step.A, .int .i64 t46.Step.B, .int .i64 t46.Step.C, .int .i64 t46.Step.D, (elH h v1 8 (Int.toNat x44_2) 7)] 33, rowO 31 5 (.slice p_26.1 t54.1.length p_26.2) t54.1.length (t54.1.map e_edit_Step)] rfl (by decide) ?_
               refine c_if (b := x20) rfl (fun hb => ?_) (fun hb => ?_)
               ·have H178 := cnd_t hb H177; clear H177
                refine c_region ?_
                refine l_val rfl rfl rfl (r_move (v := .slice p_5.1 css.length p_5.2) rfl) ?_
                refine l_val rfl rfl rfl (r_move (v := .slice p_5.1 css.length p_5.2) rfl) ?_
                refine l_val rfl rfl rfl (r_lenN Try.underlying29 rfl pf_5.len) ?_
                refine l_val rfl rfl rfl (r_field Try.runUnderlying33 rfl Try.sizeOf3 rfl rfl) ?_
                refine l_load1 (i := 5) (v := .int .i64 t46.N) Try.isAgg3 rfl rfl rfl rfl rfl ?_
                obtain ⟨t82, h_t82, H179⟩ := bnd_some H178; clear H178
                refine l_val rfl rfl rfl (r_subG rfl rfl h_t82) ?_
                obtain ⟨t83, h_t83, H180⟩ := bnd_some H179; clear H179
                refine l_read (fun w hF hS => run_indexO Try.underlying29 Try.sizeOf22 rfl rfl (offOf (i := 2) hS rfl) rfl (pf_5.ix h_t83)) rfl rfl rfl ?_
                refine l_read (fun w hF hS => run_loadG1 (f := idC) (i := t82) (sz := 1) (j := 0) (v := (List.getD (List.getD css (Int.toNat t82) []) 0 undef)) Try.isAgg22 rfl rfl (offOf (i := 2) hS rfl) (pf_5.ix h_t83) (rg_of ((pf_5.eta h_t83).trans (cgs_edit_Step (pf_5.at h_t83))) rfl)) rfl rfl rfl ?_
                refine l_val rfl rfl rfl (r_assign (v := (List.getD (List.getD css (Int.toNat t82) []) 0 undef)) rfl) ?_
                refine l_nil ?_
                refine c_sel [0, 1, 2, 3, 4, 5, 6] [poolC h hp_2, cellsC p [.slice p_7.1 l_7.length p_7.2, .int .i64 m_3] 97, rowO 22 1 (.slice p_5.1 css.length p_5.2) css.length (css.map idC), rowV 22 1 (.slice p_6.1 css_2.length p_6.2) css_2.length (css_2.map idC), rowD 22 1 gs_edit_Step (.slice p_7.1 l_7.length p_7.2) l_7.length l_7, cellsC b11 [.int .i64 t46.Kind, .int .i64 t46.N, .int .i64 t46.Step.Kind, .int .i64 t46.Step.A, .int .i64 t46.Step.B, .int .i64 t46.Step.C, .int .i64 t46.Step.D, (elH h v1 8 (Int.toNat x44_2) 7)] 33, rowO 31 5 (.slice p_26.1 t54.1.length p_26.2) t54.1.length (t54.1.map e_edit_Step)] rfl (by decide) ?_
                refine c_poolLe 0 rfl (fun hle_ => ?_)
                refine c_close t83 (List.getD (List.getD css (Int.toNat t82) []) 0 undef) 0 [0, 1, 2, 3, 4, 6] (by exact ⟨rfl, rfl, rfl, rfl, rfl, rfl, rfl, rfl, rfl, rfl, rfl, rfl, rfl, trivial⟩) (by decide) rfl (by exact ⟨H180, (show FrS hp_2 5 (List.getD (List.getD css (Int.toNat t82) []) 0 undef) (t83.map e_edit_Step) from (pf_5.at h_t83))⟩) (Nat.lt_succ_self _)
               ·have H181 := cnd_f hb H177; clear H177
                refine c_skip ?_
                refine c_poolLe 0 rfl (fun hle_ => ?_)
                refine c_close ([] : (List T_edit_Step)) (.slice none 0 0) 0 [0, 1, 2, 3, 4, 6] (by exact ⟨rfl, rfl, rfl, rfl, rfl, rfl, rfl, rfl, rfl, rfl, rfl, rfl, rfl, trivial⟩) (by decide) rfl (by exact ⟨H181, (FrS.nil _ _)⟩) (Nat.lt_succ_self _)
            ·rintro x19 gv_8 gg H169 gf_9
             replace H169 : Law_EditHistories_j7 x9_3 x44_2 m_3 l_5 l_6 l_7 next2 t54 x20 x19 = some r := H169
             refine c_tidyF [(5, .pointer (some ⟨p, 0, none⟩)), (8, .slice p_5.1 css.length p_5.2), (9, gv_2), (10, .slice p_6.1 css_2.length p_6.2), (13, .slice none 0 0), (14, .int .i64 0), (17, .slice p_26.1 t54.1.length p_26.2), (18, .bool t54.2), (19, gv_8), (20, .bool x20), (42, v1), (43, .int .i64 (a1.length : Int)), (44, .int .i64 x44_2)] [poolC h hp_2, cellsC p [.slice p_7.1 l_7.length p_7.2, .int .i64 m_3] 97, rowO 22 1 (.slice p_5.1 css.length p_5.2) css.length (css.map idC), rowV 22 1 (.slice p_6.1 css_2.length p_6.2) css_2.length (css_2.map idC), rowD 22 1 gs_edit_Step (.slice p_7.1 l_7.length p_7.2) l_7.length l_7, rowO 31 5 (.slice p_26.1 t54.1.length p_26.2) t54.1.length (t54.1.map e_edit_Step)] rfl rfl ?_
             refine c_seq ?_
             refine c_seq ?_
             refine c_region ?_
             refine l_val rfl rfl rfl (r_move (v := .bool t54.2) rfl) ?_
             refine l_val rfl rfl rfl (r_move (v := .bool x20) rfl) ?_
             refine l_val rfl rfl rfl (r_neqB Try.underlying4 rfl rfl) ?_
             refine l_val rfl rfl rfl (r_move (v := .bool (decide (t54.2 ≠ x20))) rfl) ?_
             refine split (fun hb => ?_) (fun hb => ?_)
             ·have H170 := cnd_t hb H169; clear H169
              refine l_passed rfl rfl rfl ?_
              refine l_passed rfl rfl rfl ?_
              refine l_passed rfl rfl rfl ?_
              refine l_passed rfl rfl rfl ?_
              refine l_val rfl rfl rfl (r_pickT (v := .bool true) rfl rfl) ?_
              refine l_nil ?_
              refine c_sel [0, 1, 2, 3, 4, 5] [poolC h hp_2, cellsC p [.slice p_7.1 l_7.length p_7.2, .int .i64 m_3] 97, rowO 22 1 (.slice p_5.1 css.length p_5.2) css.length (css.map idC), rowV 22 1 (.slice p_6.1 css_2.length p_6.2) css_2.length (css_2.map idC), rowD 22 1 gs_edit_Step (.slice p_7.1 l_7.length p_7.2) l_7.length l_7, rowO 31 5 (.slice p_26.1 t54.1.length p_26.2) t54.1.length (t54.1.map e_edit_Step)] rfl (by decide) ?_
              refine c_true rfl ?_
              refine c_seq ?_
              refine c_region ?_
              refine l_val rfl rfl rfl (r_assign (v := .bool false) rfl) ?_
              refine l_nil ?_
              refine c_sel [0, 1, 2, 3, 4, 5] [poolC h hp_2, cellsC p [.slice p_7.1 l_7.length p_7.2, .int .i64 m_3] 97, rowO 22 1 (.slice p_5.1 css.length p_5.2) css.length (css.map idC), rowV 22 1 (.slice p_6.1 css_2.length p_6.2) css_2.length (css_2.map idC), rowD 22 1 gs_edit_Step (.slice p_7.1 l_7.length p_7.2) l_7.length l_7, rowO 31 5 (.slice p_26.1 t54.1.length p_26.2) t54.1.length (t54.1.map e_edit_Step)] rfl (by decide) ?_
              refine c_ret ?_
              obtain rfl := Option.some.inj H170
              refine ret1 (v := .bool false) rfl rfl (fin rfl)
             ·have H171 := cnd_f hb H169; clear H169
              refine l_val rfl rfl rfl (r_move (v := .slice p_26.1 t54.1.length p_26.2) rfl) ?_
              refine l_val rfl rfl rfl (r_move (v := gv_8) rfl) ?_
              obtain ⟨t91, h_t91, H172⟩ := bnd_some H171; clear H171
              refine l_callG (fun w hF hS => k15 (know_all w) (frs_off (i := 5) rfl hS rfl) (gf_9.mono (pool_now (i := 0) hS rfl (hw.now hF))) h_t91) Try.call15 rfl rfl rfl ?_
              refine l_val rfl rfl rfl (r_not rfl) ?_
              refine l_val rfl rfl rfl (r_pickF (v := .bool (!t91)) rfl rfl) ?_
              refine l_nil ?_
              refine c_sel [0, 1, 2, 3, 4, 5] [poolC h hp_2, cellsC p [.slice p_7.1 l_7.length p_7.2, .int .i64 m_3] 97, rowO 22 1 (.slice p_5.1 css.length p_5.2) css.length (css.map idC), rowV 22 1 (.slice p_6.1 css_2.length p_6.2) css_2.length (css_2.map idC), rowD 22 1 gs_edit_Step (.slice p_7.1 l_7.length p_7.2) l_7.length l_7, rowO 31 5 (.slice p_26.1 t54.1.length p_26.2) t54.1.length (t54.1.map e_edit_Step)] rfl (by decide) ?_
              refine c_if (b := (!t91)) rfl (fun hb => ?_) (fun hb => ?_)
              ·have H173 := cnd_t hb H172; clear H172
               refine c_seq ?_
               refine c_region ?_
               refine l_val rfl rfl rfl (r_assign (v := .bool false) rfl) ?_
               refine l_nil ?_
               refine c_sel [0, 1, 2, 3, 4, 5] [poolC h hp_2, cellsC p [.slice p_7.1 l_7.length p_7.2, .int .i64 m_3] 97, rowO 22 1 (.slice p_5.1 css.length p_5.2) css.length (css.map idC), rowV 22 1 (.slice p_6.1 css_2.length p_6.2) css_2.length (css_2.map idC), rowD 22 1 gs_edit_Step (.slice p_7.1 l_7.length p_7.2) l_7.length l_7, rowO 31 5 (.slice p_26.1 t54.1.length p_26.2) t54.1.length (t54.1.map e_edit_Step)] rfl (by decide) ?_
               refine c_ret ?_
               obtain rfl := Option.some.inj H173
               refine ret1 (v := .bool false) rfl rfl (fin rfl)
              ·have H174 := cnd_f hb H172; clear H172
               refine c_skip ?_
               refine c_exit ?_
               refine c_poolLe 0 rfl (fun hle_ => ?_)
               refine c_close (x9_3, m_3, l_5, l_6, l_7) (hp_2, gv_2, css, p_5, css_2, p_6, p_7) 0 [0, 1, 2, 3, 4] (by exact ⟨rfl, rfl, rfl, rfl, rfl, rfl, rfl, trivial⟩) (by decide) rfl (by exact ⟨H174, ⟨gf_3, pf_5, pf_6⟩⟩) (Nat.lt_succ_self _)
      ·rintro ⟨x9_5, x13_2, x14_2, m_6, l_14⟩ ⟨hp_4, gv_5, gv_6, p_12⟩ gg H111 ⟨gf_6, gf_7, pf_9, pf_10⟩
       replace H111 : Law_EditHistories_j4 x44_2 l_5 l_6 next2 x9_5 x13_2 x14_2 m_6 l_14 = some r := H111
       refine c_tidyF [(5, .pointer (some ⟨p, 0, none⟩)), (8, .slice p_5.1 css.length p_5.2), (9, gv_5), (10, .slice p_6.1 css_2.length p_6.2), (13, gv_6), (14, .int .i64 x14_2), (42, v1), (43, .int .i64 (a1.length : Int)), (44, .int .i64 x44_2)] [poolC h hp_4, cellsC p [.slice p_12.1 l_14.length p_12.2, .int .i64 m_6] 97, rowO 22 1 (.slice p_5.1 css.length p_5.2) css.length (css.map idC), rowV 22 1 (.slice p_6.1 css_2.length p_6.2) css_2.length (css_2.map idC), rowD 22 1 gs_edit_Step (.slice p_12.1 l_14.length p_12.2) l_14.length l_14] rfl rfl ?_
       refine c_meet (r := r) (σ := (List T_edit_Step) × (List (List T_edit_Step)) × (List (List T_edit_Step))) (τ := Value × (List (List Value)) × (Option Addr × Nat) × (List (List Value)) × (Option Addr × Nat)) (fun s => Law_EditHistories_j5 x44_2 next2 m_6 l_14 s.1 s.2.1 s.2.2) (fun s t => [(5, .pointer (some ⟨p, 0, none⟩)), (8, .slice t.2.2.1.1 t.2.1.length t.2.2.1.2), (9, t.1), (10, .slice t.2.2.2.2.1 t.2.2.2.1.length t.2.2.2.2.2), (42, v1), (43, .int .i64 (a1.length : Int)), (44, .int .i64 x44_2)]) (fun s t => [poolC h hp_4, cellsC p [.slice p_12.1 l_14.length p_12.2, .int .i64 m_6] 97, rowD 22 1 gs_edit_Step (.slice p_12.1 l_14.length p_12.2) l_14.length l_14, rowO 22 1 (.slice t.2.2.1.1 t.2.1.length t.2.2.1.2) t.2.1.length (t.2.1.map idC), rowV 22 1 (.slice t.2.2.2.2.1 t.2.2.2.1.length t.2.2.2.2.2) t.2.2.2.1.length (t.2.2.2.1.map idC)]) (fun s t => FrS hp_4 5 t.1 (s.1.map e_edit_Step) ∧ AllC gs_edit_Step hp_4 1 t.2.1 s.2.1 ∧ AllC gs_edit_Step hp_4 1 t.2.2.2.1 s.2.2) ?_ ?_
       ·refine c_seq ?_
        refine c_region ?_
        refine l_val rfl rfl rfl (r_move (v := .int .i64 x14_2) rfl) ?_
        refine l_val rfl rfl rfl (r_eql rfl rfl) ?_
        refine l_nil ?_
        refine c_sel [0, 1, 2, 3, 4] [poolC h hp_4, cellsC p [.slice p_12.1 l_14.length p_12.2, .int .i64 m_6] 97, rowO 22 1 (.slice p_5.1 css.length p_5.2) css.length (css.map idC), rowV 22 1 (.slice p_6.1 css_2.length p_6.2) css_2.length (css_2.map idC), rowD 22 1 gs_edit_Step (.slice p_12.1 l_14.length p_12.2) l_14.length l_14] rfl (by decide) ?_
        refine c_if (b := (decide (x14_2 = 0))) rfl (fun hb => ?_) (fun hb => ?_)
        ·have H117 := cnd_t hb H111; clear H111
         refine c_seq ?_
         refine c_region ?_
         refine l_val rfl rfl rfl (r_move (v := .slice p_5.1 css.length p_5.2) rfl) ?_
         obtain ⟨t191, h_t191, H118⟩ := bnd_some H117; clear H117
         obtain ⟨hs, hh⟩ := slh_of (fun c_ x_ f_ => by obtain ⟨a_, k_, e_, _⟩ := (show FrS _ _ _ _ from f_).out; exact ⟨_, _, _, e_⟩) pf_9
         obtain ⟨hr, pf_13⟩ := rel20 (show AllC gs_edit_Step hp_4 1 (hs.map e_slh) l_5 from by rw [← hh]; exact pf_9) h_t191
         refine l_make (makes_call (rds := [2]) (G := fun x : Option Addr × Nat => .slice x.1 (val (slices_Clone_edit_Step_edit_Step ((none, 0, 0) : SlH) hs)).length x.2) (C := fun x : Option Addr × Nat => rowV 22 1 (.slice x.1 (val (slices_Clone_edit_Step_edit_Step ((none, 0, 0) : SlH) hs)).length x.2) (val (slices_Clone_edit_Step_edit_Step ((none, 0, 0) : SlH) hs)).length ((val (slices_Clone_edit_Step_edit_Step ((none, 0, 0) : SlH) hs)).map e_slh)) (fun w L' hF hS hi => k20 (know_all w) (FrS.slh hh (frs_off (i := 2) rfl hS ((hi 2 (by simp)).trans rfl))) hr) Try.call20 rfl) rfl rfl rfl (fun p_16 => ?_)
         refine c_imp 5 rfl imp_slhB ?_
         rw [show (val (slices_Clone_edit_Step_edit_Step ((none, 0, 0) : SlH) hs)).length = ((val (slices_Clone_edit_Step_edit_Step ((none, 0, 0) : SlH) hs)).map e_slh).length from (List.length_map _).symm]
         refine l_val rfl rfl rfl (r_move (v := gv_5) rfl) ?_
         refine l_buildSlice (vs := [gv_5]) (cs := [gv_5]) Try.underlying29 Try.sizeOf22 Try.zeroValue22 rfl rfl rfl rfl (by simp only [List.all_cons, List.all_nil, cells_sz gf_6.cells] <;> rfl) rfl (by simp only [List.flatMap_cons, List.flatMap_nil, gf_6.cells] <;> rfl) (fun b12 => ?_)
         obtain ⟨l194, h_l194, H119⟩ := bnd_some H118; clear H118
         refine c_poolLe 0 rfl (fun hle_ => ?_)
         refine l_turn (turns_appendM (i := 5) (k := 6) (p := p_16) (f := idC) (ys := ((val (slices_Clone_edit_Step_edit_Step ((none, 0, 0) : SlH) hs)).map e_slh)) (ls := [[gv_5]]) Try.underlying29 (info_of Try.typeInfo22) rfl rfl rfl rfl rfl rfl rfl rfl rfl rfl rfl rfl rfl rfl (by simp only [idC, List.map_cons, List.map_nil, List.all_cons, List.all_nil, gf_6.one] <;> rfl) (app63 (pf_13.app h_l194 (nc := [[gv_5]]) rfl)) rfl) rfl rfl rfl (fun p_17 => ?_)
         have pf_14 : AllC gs_edit_Step hp_4 1 (((val (slices_Clone_edit_Step_edit_Step ((none, 0, 0) : SlH) hs)).map e_slh) ++ [[gv_5]]) l194 := AllC.snocG pf_13 h_l194 rfl (gf_6)
         refine l_val rfl rfl rfl (r_move (v := gv_6) rfl) ?_
         refine l_val rfl rfl rfl (r_assign (v := .slice p_17.1 ((((val (slices_Clone_edit_Step_edit_Step ((none, 0, 0) : SlH) hs)).map e_slh) ++ [[gv_5]]).length) p_17.2) rfl) ?_
         refine l_val rfl rfl rfl (r_assign (v := gv_6) rfl) ?_
         refine l_val rfl rfl rfl (r_assign (v := .slice none 0 0) rfl) ?_
         refine l_nil ?_
         refine c_sel [0, 1, 2, 3, 4, 5, 6] [poolC h hp_4, cellsC p [.slice p_12.1 l_14.length p_12.2, .int .i64 m_6] 97, rowO 22 1 (.slice p_5.1 css.length p_5.2) css.length (css.map idC), rowV 22 1 (.slice p_6.1 css_2.length p_6.2) css_2.length (css_2.map idC), rowD 22 1 gs_edit_Step (.slice p_12.1 l_14.length p_12.2) l_14.length l_14, rowV 22 1 (.slice p_17.1 ((((val (slices_Clone_edit_Step_edit_Step ((none, 0, 0) : SlH) hs)).map e_slh) ++ [[gv_5]]).length) p_17.2) ((((val (slices_Clone_edit_Step_edit_Step ((none, 0, 0) : SlH) hs)).map e_slh) ++ [[gv_5]]).length) ((((val (slices_Clone_edit_Step_edit_Step ((none, 0, 0) : SlH) hs)).map e_slh) ++ [[gv_5]]).map idC), cellsC b12 [gv_5] 22] rfl (by decide) ?_
         refine c_seq ?_
         refine c_region ?_
         refine l_val rfl rfl rfl (r_move (v := .slice p_17.1 ((((val (slices_Clone_edit_Step_edit_Step ((none, 0, 0) : SlH) hs)).map e_slh) ++ [[gv_5]]).length) p_17.2) rfl) ?_
         refine l_val rfl rfl rfl (r_lenN Try.underlying29 rfl pf_14.len) ?_
         refine l_val rfl rfl rfl (r_gtr rfl rfl) ?_
         refine l_nil ?_
         refine c_sel [0, 1, 2, 3, 4, 5, 6] [poolC h hp_4, cellsC p [.slice p_12.1 l_14.length p_12.2, .int .i64 m_6] 97, rowO 22 1 (.slice p_5.1 css.length p_5.2) css.length (css.map idC), rowV 22 1 (.slice p_6.1 css_2.length p_6.2) css_2.length (css_2.map idC), rowD 22 1 gs_edit_Step (.slice p_12.1 l_14.length p_12.2) l_14.length l_14, rowV 22 1 (.slice p_17.1 ((((val (slices_Clone_edit_Step_edit_Step ((none, 0, 0) : SlH) hs)).map e_slh) ++ [[gv_5]]).length) p_17.2) ((((val (slices_Clone_edit_Step_edit_Step ((none, 0, 0) : SlH) hs)).map e_slh) ++ [[gv_5]]).length) ((((val (slices_Clone_edit_Step_edit_Step ((none, 0, 0) : SlH) hs)).map e_slh) ++ [[gv_5]]).map idC), cellsC b12 [gv_5] 22] rfl (by decide) ?_
         refine c_if (b := (decide (100 < (l194.length : Int)))) rfl (fun hb => ?_) (fun hb => ?_)
         ·have H120 := cnd_t hb H119; clear H119
          refine c_region ?_
          refine l_val rfl rfl rfl (r_move (v := .slice p_17.1 ((((val (slices_Clone_edit_Step_edit_Step ((none, 0, 0) : SlH) hs)).map e_slh) ++ [[gv_5]]).length) p_17.2) rfl) ?_
          obtain ⟨t200, h_t200, H121⟩ := bnd_some H120; clear H120
          refine l_read (v := .slice (cutA p_17.1 (Int.toNat 1) p_17.2 1) (cutL (((val (slices_Clone_edit_Step_edit_Step ((none, 0, 0) : SlH) hs)).map e_slh) ++ [[gv_5]]) 1 l194.length).length (p_17.2 - Int.toNat 1)) (fun w hF hS => run_sliceLO (xs := (((val (slices_Clone_edit_Step_edit_Step ((none, 0, 0) : SlH) hs)).map e_slh) ++ [[gv_5]])) Try.underlying29 Try.sizeOf22 rfl rfl rfl (capOf (i := 5) hS rfl) (by rw [pf_14.len]; exact pf_14.cutG h_t200)) rfl rfl rfl ?_
          refine c_imp 5 rfl (imp_rowO _ _ _ _ _) ?_
          refine c_imp 5 rfl (imp_cutO rfl (pf_14.cutG h_t200)) ?_
          have pf_15 : AllC gs_edit_Step hp_4 1 (cutL (((val (slices_Clone_edit_Step_edit_Step ((none, 0, 0) : SlH) hs)).map e_slh) ++ [[gv_5]]) 1 l194.length) t200 := pf_14.cut h_t200
          refine l_val rfl rfl rfl (r_assign (v := .slice ((cutA p_17.1 (Int.toNat 1) p_17.2 1, p_17.2 - Int.toNat 1) : Option Addr × Nat).1 ((cutL (((val (slices_Clone_edit_Step_edit_Step ((none, 0, 0) : SlH) hs)).map e_slh) ++ [[gv_5]]) 1 l194.length).length) ((cutA p_17.1 (Int.toNat 1) p_17.2 1, p_17.2 - Int.toNat 1) : Option Addr × Nat).2) rfl) ?_
          refine l_nil ?_
          refine c_sel [0, 1, 2, 3, 4, 5, 6] [poolC h hp_4, cellsC p [.slice p_12.1 l_14.length p_12.2, .int .i64 m_6] 97, rowO 22 1 (.slice p_5.1 css.length p_5.2) css.length (css.map idC), rowV 22 1 (.slice p_6.1 css_2.length p_6.2) css_2.length (css_2.map idC), rowD 22 1 gs_edit_Step (.slice p_12.1 l_14.length p_12.2) l_14.length l_14, rowO 22 1 (.slice ((cutA p_17.1 (Int.toNat 1) p_17.2 1, p_17.2 - Int.toNat 1) : Option Addr × Nat).1 ((cutL (((val (slices_Clone_edit_Step_edit_Step ((none, 0, 0) : SlH) hs)).map e_slh) ++ [[gv_5]]) 1 l194.length).length) ((cutA p_17.1 (Int.toNat 1) p_17.2 1, p_17.2 - Int.toNat 1) : Option Addr × Nat).2) ((cutL (((val (slices_Clone_edit_Step_edit_Step ((none, 0, 0) : SlH) hs)).map e_slh) ++ [[gv_5]]) 1 l194.length).length) ((cutL (((val (slices_Clone_edit_Step_edit_Step ((none, 0, 0) : SlH) hs)).map e_slh) ++ [[gv_5]]) 1 l194.length).map idC), cellsC b12 [gv_5] 22] rfl (by decide) ?_
          refine c_nilRow 22 1 ?_
          refine c_poolLe 0 rfl (fun hle_ => ?_)
          refine c_close (x13_2, t200, ([] : List (List T_edit_Step))) (gv_6, (cutL (((val (slices_Clone_edit_Step_edit_Step ((none, 0, 0) : SlH) hs)).map e_slh) ++ [[gv_5]]) 1 l194.length), ((cutA p_17.1 (Int.toNat 1) p_17.2 1, p_17.2 - Int.toNat 1) : Option Addr × Nat), ([] : List (List Value)), ((none, 0) : Option Addr × Nat)) 0 [0, 1, 4, 5, 7] (by exact ⟨rfl, rfl, rfl, rfl, rfl, rfl, rfl, trivial⟩) (by decide) rfl (by exact ⟨H121, ⟨gf_7, pf_15, (AllC.nil (G := gs_edit_Step) (h := hp_4) (sz := 1))⟩⟩) (Nat.lt_succ_self _)
         ·have H122 := cnd_f hb H119; clear H119
          refine c_skip ?_
          refine c_nilRow 22 1 ?_
          refine c_poolLe 0 rfl (fun hle_ => ?_)
          refine c_imp 5 rfl (imp_rowO _ _ _ _ _) ?_
          refine c_close (x13_2, l194, ([] : List (List T_edit_Step))) (gv_6, (((val (slices_Clone_edit_Step_edit_Step ((none, 0, 0) : SlH) hs)).map e_slh) ++ [[gv_5]]), p_17, ([] : List (List Value)), ((none, 0) : Option Addr × Nat)) 0 [0, 1, 4, 5, 7] (by exact ⟨rfl, rfl, rfl, rfl, rfl, rfl, rfl, trivial⟩) (by decide) rfl (by exact ⟨H122, ⟨gf_7, pf_14, (AllC.nil (G := gs_edit_Step) (h := hp_4) (sz := 1))⟩⟩) (Nat.lt_succ_self _)
        ·have H123 := cnd_f hb H111; clear H111
         refine c_skip ?_
         refine c_poolLe 0 rfl (fun hle_ => ?_)
         refine c_close (x9_5, l_5, l_6) (gv_5, css, p_5, css_2, p_6) 0 [0, 1, 4, 2, 3] (by exact ⟨rfl, rfl, rfl, rfl, rfl, rfl, rfl, trivial⟩) (by decide) rfl (by exact ⟨H123, ⟨gf_6, pf_9, pf_10⟩⟩) (Nat.lt_succ_self _)
       ·rintro ⟨x9_6, l_15, l_16⟩ ⟨gv_7, css_7, p_13, css_8, p_14⟩ gg H112 ⟨gf_8, pf_11, pf_12⟩
        replace H112 : Law_EditHistories_j5 x44_2 next2 m_6 l_14 x9_6 l_15 l_16 = some r := H112
        refine c_tidyF [(5, .pointer (some ⟨p, 0, none⟩)), (8, .slice p_13.1 css_7.length p_13.2), (9, gv_7), (10, .slice p_14.1 css_8.length p_14.2), (42, v1), (43, .int .i64 (a1.length : Int)), (44, .int .i64 x44_2)] [poolC h hp_4, cellsC p [.slice p_12.1 l_14.length p_12.2, .int .i64 m_6] 97, rowD 22 1 gs_edit_Step (.slice p_12.1 l_14.length p_12.2) l_14.length l_14, rowO 22 1 (.slice p_13.1 css_7.length p_13.2) css_7.length (css_7.map idC), rowV 22 1 (.slice p_14.1 css_8.length p_14.2) css_8.length (css_8.map idC)] rfl rfl ?_
        refine c_seq ?_
        refine c_region ?_
        refine l_val rfl rfl rfl (r_move (v := .pointer (some ⟨p, 0, none⟩)) rfl) ?_
        obtain ⟨t202, h_t202, H113⟩ := bnd_some H112; clear H112
        refine l_make (makes_call (rds := [1, 2]) (G := fun x : (Option Addr × Nat) => .slice x.1 t202.length x.2) (C := fun x : (Option Addr × Nat) => rowO 31 5 (.slice x.1 t202.length x.2) t202.length (t202.map e_edit_Step)) (fun w L' hF hS hi => k21 (know_all w) (frn_rowD (i := 2) hS ((hi 2 (by simp)).trans rfl)) (sat_cell (i := 1) hS ((hi 1 (by simp)).trans rfl)) h_t202) Try.call21 rfl) rfl rfl rfl (fun p_15 => ?_)
        refine l_val rfl rfl rfl (r_move (v := gv_7) rfl) ?_
        obtain ⟨t204, h_t204, H114⟩ := bnd_some H113; clear H113
        refine l_callG (fun w hF hS => k15 (know_all w) (frs_off (i := 5) rfl hS rfl) (gf_8.mono (pool_now (i := 0) hS rfl (hw.now hF))) h_t204) Try.call15 rfl rfl rfl ?_
        refine l_val rfl rfl rfl (r_not rfl) ?_
        refine l_nil ?_
        refine c_sel [0, 1, 2, 3, 4, 5] [poolC h hp_4, cellsC p [.slice p_12.1 l_14.length p_12.2, .int .i64 m_6] 97, rowD 22 1 gs_edit_Step (.slice p_12.1 l_14.length p_12.2) l_14.length l_14, rowO 22 1 (.slice p_13.1 css_7.length p_13.2) css_7.length (css_7.map idC), rowV 22 1 (.slice p_14.1 css_8.length p_14.2) css_8.length (css_8.map idC), rowO 31 5 (.slice p_15.1 t202.length p_15.2) t202.length (t202.map e_edit_Step)] rfl (by decide) ?_
        refine c_if (b := (!t204)) rfl (fun hb => ?_) (fun hb => ?_)
        ·have H115 := cnd_t hb H114; clear H114
         refine c_seq ?_
         refine c_region ?_
         refine l_val rfl rfl rfl (r_assign (v := .bool false) rfl) ?_
         refine l_nil ?_
         refine c_sel [0, 1, 2, 3, 4, 5] [poolC h hp_4, cellsC p [.slice p_12.1 l_14.length p_12.2, .int .i64 m_6] 97, rowD 22 1 gs_edit_Step (.slice p_12.1 l_14.length p_12.2) l_14.length l_14, rowO 22 1 (.slice p_13.1 css_7.length p_13.2) css_7.length (css_7.map idC), rowV 22 1 (.slice p_14.1 css_8.length p_14.2) css_8.length (css_8.map idC), rowO 31 5 (.slice p_15.1 t202.length p_15.2) t202.length (t202.map e_edit_Step)] rfl (by decide) ?_
         refine c_ret ?_
         obtain rfl := Option.some.inj H115
         refine ret1 (v := .bool false) rfl rfl (fin rfl)
        ·have H116 := cnd_f hb H114; clear H114
         refine c_skip ?_
         refine c_poolLe 0 rfl (fun hle_ => ?_)
         refine c_close (x9_6, m_6, l_15, l_16, l_14) (hp_4, gv_7, css_7, p_13, css_8, p_14, p_12) 0 [0, 1, 3, 4, 2] (by exact ⟨rfl, rfl, rfl, rfl, rfl, rfl, rfl, trivial⟩) (by decide) rfl (by exact ⟨H116, ⟨gf_8, pf_11, pf_12⟩⟩) (Nat.lt_succ_self _)
     ·rintro ⟨x9_4, m_4, l_8, l_9, l_10⟩ ⟨hp_3, gv_3, css_3, p_8, css_4, p_9, p_10⟩ gg H108 ⟨gf_4, pf_7, pf_8⟩
      replace H108 : Law_EditHistories_j3 x44_2 next2 x9_4 m_4 l_8 l_9 l_10 = some r := H108
      refine c_tidyF [(5, .pointer (some ⟨p, 0, none⟩)), (8, .slice p_8.1 css_3.length p_8.2), (9, gv_3), (10, .slice p_9.1 css_4.length p_9.2), (42, v1), (43, .int .i64 (a1.length : Int)), (44, .int .i64 x44_2)] [poolC h hp_3, cellsC p [.slice p_10.1 l_10.length p_10.2, .int .i64 m_4] 97, rowO 22 1 (.slice p_8.1 css_3.length p_8.2) css_3.length (css_3.map idC), rowV 22 1 (.slice p_9.1 css_4.length p_9.2) css_4.length (css_4.map idC), rowD 22 1 gs_edit_Step (.slice p_10.1 l_10.length p_10.2) l_10.length l_10] rfl rfl ?_
      refine c_region ?_
      obtain ⟨t206, h_t206, H109⟩ := bnd_some H108; clear H108
      refine l_val rfl rfl rfl (r_addG rfl rfl h_t206) ?_
      refine l_val rfl rfl rfl (r_move (v := .int .i64 t206) rfl) ?_
      refine l_nil ?_
      refine c_sel [0, 1, 2, 3, 4] [poolC h hp_3, cellsC p [.slice p_10.1 l_10.length p_10.2, .int .i64 m_4] 97, rowO 22 1 (.slice p_8.1 css_3.length p_8.2) css_3.length (css_3.map idC), rowV 22 1 (.slice p_9.1 css_4.length p_9.2) css_4.length (css_4.map idC), rowD 22 1 gs_edit_Step (.slice p_10.1 l_10.length p_10.2) l_10.length l_10] rfl (by decide) ?_
      refine c_poolLe 0 rfl (fun hle_ => ?_)
      refine c_close (x9_4, t206, m_4, l_8, l_9, l_10) (hp_3, gv_3, css_3, p_8, css_4, p_9, p_10) m2 [0, 1, 2, 3, 4] (by exact ⟨rfl, rfl, rfl, rfl, rfl, rfl, rfl, trivial⟩) (by decide) rfl (by exact ⟨(by subst hn2; exact H109), ⟨gf_4, pf_7, pf_8⟩⟩) (Nat.lt_succ_self _)
    ·have H186 := cnd_f hb H106; clear H106
     refine c_exit ?_
     refine c_poolLe 0 rfl (fun hle_ => ?_)
     refine c_close (x9_3, m_3, l_7) (hp_2, gv_2, p_7) 0 [0, 1, 4] (by exact ⟨rfl, rfl, trivial⟩) (by decide) rfl (by exact ⟨H186, gf_3⟩) (Nat.lt_succ_self _)
   ·rintro ⟨x9, m, l⟩ ⟨hp, gv, p_3⟩ gg H102 gf
    replace H102 : Law_EditHistories_j1 x9 m l = some r := H102
    refine c_tidyF [(5, .pointer (some ⟨p, 0, none⟩)), (9, gv)] [poolC h hp, cellsC p [.slice p_3.1 l.length p_3.2, .int .i64 m] 97, rowD 22 1 gs_edit_Step (.slice p_3.1 l.length p_3.2) l.length l] rfl rfl ?_
    refine c_seq ?_
    refine c_region ?_
    refine l_val rfl rfl rfl (r_move (v := .pointer (some ⟨p, 0, none⟩)) rfl) ?_
    obtain ⟨t208, h_t208, H103⟩ := bnd_some H102; clear H102
    refine l_make (makes_call (rds := [1, 2]) (G := fun x : (Option Addr × Nat) => .slice x.1 t208.length x.2) (C := fun x : (Option Addr × Nat) => rowO 31 5 (.slice x.1 t208.length x.2) t208.length (t208.map e_edit_Step)) (fun w L' hF hS hi => k21 (know_all w) (frn_rowD (i := 2) hS ((hi 2 (by simp)).trans rfl)) (sat_cell (i := 1) hS ((hi 1 (by simp)).trans rfl)) h_t208) Try.call21 rfl) rfl rfl rfl (fun p_4 => ?_)
    refine l_val rfl rfl rfl (r_move (v := gv) rfl) ?_
    obtain ⟨t210, h_t210, H104⟩ := bnd_some H103; clear H103
    refine l_callG (fun w hF hS => k15 (know_all w) (frs_off (i := 3) rfl hS rfl) (gf.mono (pool_now (i := 0) hS rfl (hw.now hF))) h_t210) Try.call15 rfl rfl rfl ?_
    refine l_val rfl rfl rfl (r_assign (v := .bool t210) rfl) ?_
    refine l_nil ?_
    refine c_ret ?_
    obtain rfl := Option.some.inj H104
    refine ret1 (v := .bool t210) rfl rfl (fin rfl)
end Go.Proofs.Ytohdhdiaahiicaa
