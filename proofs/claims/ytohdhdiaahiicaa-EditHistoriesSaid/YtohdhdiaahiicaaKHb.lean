/- EditHistories, a history: the walks, printed by our generator; each follows its model. Conditions: the model yields a value. -/
import Derived.Test.YtohdhdiaahiicaaKHa
namespace Go.Proofs.Ytohdhdiaahiicaa
open Go Go.Vc Go.Md Go.M Go.Lx
set_option maxRecDepth 100000
set_option maxHeartbeats 4000000
set_option linter.unusedVariables false

theorem k54 {a0 : T_edit_History} {pb0 : Nat} {p0_0 : Option Addr × Nat} {a1 : (List T_edit_Step)} {v1 : Value} {r : T_edit_History} {w : World} {h : Heap} {S : Nat → Prop} (hcs : (bothC (cellsC pb0 [.slice p0_0.1 a0.all_.length p0_0.2, .int .i64 a0.now_] 97) (rowD 22 1 gs_edit_Step (.slice p0_0.1 a0.all_.length p0_0.2) a0.all_.length a0.all_)).P S w) (hlt : ∀ b, S b → b < w.heap.size) (hw : Know h w S) (f1 : FrS h 5 v1 (a1.map e_edit_Step)) (H : edit_History_put a0 a1 = some r) : Does Try.prog 54 (List.toArray [.pointer (some ⟨pb0, 0, none⟩), v1]) w (fun v w' => ∃ x : (Option Addr × Nat), v = (.tuple #[]) ∧ Turn w w' S (bothC (cellsC pb0 [.slice x.1 r.all_.length x.2, .int .i64 r.now_] 97) (rowD 22 1 gs_edit_Step (.slice x.1 r.all_.length x.2) r.all_.length r.all_))) := by
 refine enter (n := 51) Try.func54 rfl rfl rfl S [bothC (cellsC pb0 [.slice p0_0.1 a0.all_.length p0_0.2, .int .i64 a0.now_] 97) (rowD 22 1 gs_edit_Step (.slice p0_0.1 a0.all_.length p0_0.2) a0.all_.length a0.all_)] (Sat.one hcs hlt) ?_
 refine c_split 0 rfl ?_
 refine c_poolNew noH ?_
 refine c_seq ?_
 refine c_rowD 1 rfl (fun hp css hn pf => ?_)
 rw [hn]
 refine c_split 1 rfl ?_
 refine c_poolJoin 2 1 rfl rfl (by decide) (fun _ _ => noH_le) (fun hp_2 hle hle_2 => ?_)
 exact c_regionD (Kd.p :: Kd.p :: Kd.p :: Kd.p :: Kd.d [0] _ :: Kd.p :: Kd.p :: Kd.p :: Kd.d [0] _ :: Kd.p :: Kd.d [3] _ :: Kd.p :: Kd.t 4 [2] _ _ :: Kd.nsv 16 5 1 (fun v_ => [v_]) 22 :: Kd.tv 22 3 [5] _ _ :: Kd.p :: Kd.p :: Kd.sv 20 18 0 _ 97 :: []) 2 mixed (by
  refine d_val rfl rfl (r_move (v := .pointer (some ⟨pb0, 0, none⟩)) rfl) ?_
  refine d_val rfl rfl (r_move (v := .pointer (some ⟨pb0, 0, none⟩)) rfl) ?_
  refine d_val rfl rfl (r_nilCheck rfl) ?_
  refine d_val rfl rfl (r_field Try.runUnderlying97 rfl Try.sizeOf29 rfl rfl) ?_
  refine d_load1 (i := 0) (v := .slice p0_0.1 css.length p0_0.2) Try.isAgg29 rfl rfl rfl rfl ?_
  refine d_val rfl rfl (r_move (v := .pointer (some ⟨pb0, 0, none⟩)) rfl) ?_
  refine d_val rfl rfl (r_nilCheck rfl) ?_
  refine d_val rfl rfl (r_field Try.runUnderlying97 rfl Try.sizeOf3 rfl rfl) ?_
  refine d_load1 (i := 0) (v := .int .i64 a0.now_) Try.isAgg3 rfl rfl rfl rfl ?_
  have h_t13 := bnd_val H
  have H12 := bnd_rest H
  refine d_val rfl rfl (r_addG rfl rfl h_t13) ?_
  have h_t14 := bnd_val H12
  have H13 := bnd_rest H12
  refine d_readD (v := .slice p0_0.1 (cutL css 0 (val (gI (a0.now_ + 1)))).length p0_0.2) (fun w L' hF hS hi => run_sliceHO0 (xs := css) Try.underlying29 Try.sizeOf22 rfl rfl rfl (capOf (i := 3) hS ((hi 3 (by simp)).trans rfl)) ((pf.mono hle_2).cutG h_t14)) rfl rfl ?_
  refine d_val rfl rfl (r_move (v := v1) rfl) ?_
  have h_t16 := bnd_val H13
  have H14 := bnd_rest H13
  refine d_make (Cv := fun v => rowV 31 5 v (val (slices_Clone_edit_Step a1)).length ((val (slices_Clone_edit_Step a1)).map e_edit_Step)) (none, 0) (makes_call (G := fun x : (Option Addr × Nat) => .slice x.1 (val (slices_Clone_edit_Step a1)).length x.2) (C := fun x : (Option Addr × Nat) => rowV 31 5 (.slice x.1 (val (slices_Clone_edit_Step a1)).length x.2) (val (slices_Clone_edit_Step a1)).length ((val (slices_Clone_edit_Step a1)).map e_edit_Step)) (fun w L' hF hS hi => k10 (know_all w) (f1.mono (hw.now hF)) h_t16) Try.call10 rfl) (fun _ => rfl) rfl rfl rfl (fun p => ?_)
  refine d_newSV (x := .slice p.1 (val (slices_Clone_edit_Step a1)).length p.2) (cs := fun v_ => [v_]) (cs0 := [.slice p.1 (val (slices_Clone_edit_Step a1)).length p.2]) rfl rfl rfl rfl (run_buildSlice (vs := [.slice p.1 (val (slices_Clone_edit_Step a1)).length p.2]) (cs := [.slice p.1 (val (slices_Clone_edit_Step a1)).length p.2]) Try.underlying29 Try.sizeOf22 Try.zeroValue22 rfl rfl rfl rfl rfl) rfl (fun b1 => ?_)
  have h_l18 := bnd_val H14
  have H15 := bnd_rest H14
  refine d_turnV (u := .slice p.1 (val (slices_Clone_edit_Step a1)).length p.2) (G := fun u_ (x_ : Option Addr × Nat) => .slice x_.1 ((cutL css 0 (val (gI (a0.now_ + 1)))) ++ [[u_]]).length x_.2) (Cv := fun u_ v_ => rowV 22 1 v_ ((cutL css 0 (val (gI (a0.now_ + 1)))) ++ [[u_]]).length (((cutL css 0 (val (gI (a0.now_ + 1)))) ++ [[u_]]).map idC)) (none, 0) rfl (turns_appPM (sz := 1) (by_ := 24) (i := 3) (k := 5) (p := p0_0) (cs0 := css) (cs1 := [.slice p.1 (val (slices_Clone_edit_Step a1)).length p.2]) rfl ((pf.mono hle_2).cutG h_t14) (by decide) Try.underlying29 (info_of Try.typeInfo22) rfl rfl rfl rfl rfl rfl rfl rfl rfl rfl rfl rfl (app63 (((pf.mono hle_2).cut h_t14).app h_l18 (nc := [[.slice p.1 (val (slices_Clone_edit_Step a1)).length p.2]]) rfl)) rfl) (fun _ => rfl) rfl rfl (fun p_2 => ?_)
  refine d_val rfl rfl (r_nilCheck rfl) ?_
  refine d_val rfl rfl (r_field Try.runUnderlying97 rfl Try.sizeOf29 rfl rfl) ?_
  refine d_storeV (i := 0) (vs := [.slice p_2.1 (((cutL css 0 (val (gI (a0.now_ + 1)))) ++ [[Value.slice p.1 (val (slices_Clone_edit_Step a1)).length p.2]]).length) p_2.2]) (cs' := fun v_ => [v_, .int .i64 a0.now_]) Try.sizeOf29 rfl rfl rfl rfl rfl rfl rfl rfl rfl ?_
  refine d_nil ?_
  refine c_freeze (Φ := fun H_ => FrS H_ 5 (.slice p.1 (val (slices_Clone_edit_Step a1)).length p.2) ((val (slices_Clone_edit_Step a1)).map e_edit_Step)) 2 4 rfl rfl (by decide) (fun _ _ => noH_le) (fz_own _) (fun hp_3 hle_3 hf => ?_)
  have pf_2 : AllC gs_edit_Step hp_3 1 ((cutL css 0 (val (gI (a0.now_ + 1)))) ++ [[Value.slice p.1 (val (slices_Clone_edit_Step a1)).length p.2]]) (val (gApp 24 (val (gCut a0.all_ 0 (val (gI (a0.now_ + 1))))) ([(val (slices_Clone_edit_Step a1))] : List (List T_edit_Step)))) := AllC.snocG (((pf.mono hle_2).cut h_t14).mono hle_3) h_l18 rfl hf
  refine c_sel [0, 1, 2, 3, 4, 5] [cellsC pb0 [.slice p_2.1 (((cutL css 0 (val (gI (a0.now_ + 1)))) ++ [[Value.slice p.1 (val (slices_Clone_edit_Step a1)).length p.2]]).length) p_2.2, .int .i64 a0.now_] 97, _, poolC noH hp_3, rowV 22 1 (.slice p_2.1 (((cutL css 0 (val (gI (a0.now_ + 1)))) ++ [[Value.slice p.1 (val (slices_Clone_edit_Step a1)).length p.2]]).length) p_2.2) (((cutL css 0 (val (gI (a0.now_ + 1)))) ++ [[Value.slice p.1 (val (slices_Clone_edit_Step a1)).length p.2]]).length) (((cutL css 0 (val (gI (a0.now_ + 1)))) ++ [[Value.slice p.1 (val (slices_Clone_edit_Step a1)).length p.2]]).map idC), _, cellsC b1 [.slice p.1 (val (slices_Clone_edit_Step a1)).length p.2] 22] rfl (by decide) ?_
  refine c_meet (r := r) (σ := Int × (List (List T_edit_Step))) (τ := (List (List Value)) × (Option Addr × Nat)) (fun s => edit_History_put_j1 s.1 s.2) (fun s t => [(0, .pointer (some ⟨pb0, 0, none⟩))]) (fun s t => [cellsC pb0 [.slice t.2.1 t.1.length t.2.2, .int .i64 s.1] 97, poolC noH hp_3, rowV 22 1 (.slice t.2.1 t.1.length t.2.2) t.1.length (t.1.map idC)]) (fun s t => AllC gs_edit_Step hp_3 1 t.1 s.2) ?_ ?_
  ·refine c_seq ?_
   refine c_region ?_
   refine l_val rfl rfl rfl (r_move (v := .pointer (some ⟨pb0, 0, none⟩)) rfl) ?_
   refine l_val rfl rfl rfl (r_nilCheck rfl) ?_
   refine l_val rfl rfl rfl (r_field Try.runUnderlying97 rfl Try.sizeOf29 rfl rfl) ?_
   refine l_load1 (i := 0) (v := .slice p_2.1 (((cutL css 0 (val (gI (a0.now_ + 1)))) ++ [[Value.slice p.1 (val (slices_Clone_edit_Step a1)).length p.2]]).length) p_2.2) Try.isAgg29 rfl rfl rfl rfl rfl ?_
   refine l_val rfl rfl rfl (r_lenN Try.underlying29 rfl pf_2.len) ?_
   refine l_val rfl rfl rfl (r_gtr rfl rfl) ?_
   refine l_nil ?_
   refine c_sel [0, 1, 2, 3, 4, 5] [cellsC pb0 [.slice p_2.1 (((cutL css 0 (val (gI (a0.now_ + 1)))) ++ [[Value.slice p.1 (val (slices_Clone_edit_Step a1)).length p.2]]).length) p_2.2, .int .i64 a0.now_] 97, _, poolC noH hp_3, rowV 22 1 (.slice p_2.1 (((cutL css 0 (val (gI (a0.now_ + 1)))) ++ [[Value.slice p.1 (val (slices_Clone_edit_Step a1)).length p.2]]).length) p_2.2) (((cutL css 0 (val (gI (a0.now_ + 1)))) ++ [[Value.slice p.1 (val (slices_Clone_edit_Step a1)).length p.2]]).length) (((cutL css 0 (val (gI (a0.now_ + 1)))) ++ [[Value.slice p.1 (val (slices_Clone_edit_Step a1)).length p.2]]).map idC), _, cellsC b1 [.slice p.1 (val (slices_Clone_edit_Step a1)).length p.2] 22] rfl (by decide) ?_
   refine c_if (b := (decide (101 < ((val (gApp 24 (val (gCut a0.all_ 0 (val (gI (a0.now_ + 1))))) ([(val (slices_Clone_edit_Step a1))] : List (List T_edit_Step)))).length : Int)))) rfl (fun hb => ?_) (fun hb => ?_)
   ·have H18 := cnd_t hb H15; clear H15
    obtain ⟨hs, hh⟩ := slh_of (fun c_ x_ f_ => by obtain ⟨a_, k_, e_, _⟩ := (show FrS _ _ _ _ from f_).out; exact ⟨_, _, _, e_⟩) pf_2
    refine c_imp 3 rfl (imp_slh hh) ?_
    exact c_regionD (Kd.p :: Kd.p :: Kd.p :: Kd.p :: Kd.d [0] _ :: Kd.p :: Kd.p :: Kd.p :: Kd.d [0] _ :: Kd.p :: Kd.p :: Kd.p :: Kd.t 3 [2] _ _ :: Kd.p :: Kd.p :: Kd.sv 41 39 0 _ 97 :: []) 0 mixed (by
     refine d_val rfl rfl (r_move (v := .pointer (some ⟨pb0, 0, none⟩)) rfl) ?_
     refine d_val rfl rfl (r_move (v := .pointer (some ⟨pb0, 0, none⟩)) rfl) ?_
     refine d_val rfl rfl (r_nilCheck rfl) ?_
     refine d_val rfl rfl (r_field Try.runUnderlying97 rfl Try.sizeOf29 rfl rfl) ?_
     refine d_load1 (i := 0) (v := .slice p_2.1 (((cutL css 0 (val (gI (a0.now_ + 1)))) ++ [[Value.slice p.1 (val (slices_Clone_edit_Step a1)).length p.2]]).length) p_2.2) Try.isAgg29 rfl rfl rfl rfl ?_
     refine d_val rfl rfl (r_move (v := .pointer (some ⟨pb0, 0, none⟩)) rfl) ?_
     refine d_val rfl rfl (r_nilCheck rfl) ?_
     refine d_val rfl rfl (r_field Try.runUnderlying97 rfl Try.sizeOf29 rfl rfl) ?_
     refine d_load1 (i := 0) (v := .slice p_2.1 (((cutL css 0 (val (gI (a0.now_ + 1)))) ++ [[Value.slice p.1 (val (slices_Clone_edit_Step a1)).length p.2]]).length) p_2.2) Try.isAgg29 rfl rfl rfl rfl ?_
     refine d_val rfl rfl (r_lenN Try.underlying29 rfl pf_2.len) ?_
     have h_t37 := bnd_val H18
     have H19 := bnd_rest H18
     refine d_val rfl rfl (r_subG rfl rfl h_t37) ?_
     have h_t38 := bnd_val H19
     have H20 := bnd_rest H19
     refine d_val rfl rfl (r_subG rfl rfl h_t38) ?_
     have h_t39 := bnd_val H20
     have H21 := bnd_rest H20
     obtain ⟨hr, pf_4⟩ := rel117 (show AllC gs_edit_Step hp_3 1 (hs.map e_slh) (val (gApp 24 (val (gCut a0.all_ 0 (val (gI (a0.now_ + 1))))) ([(val (slices_Clone_edit_Step a1))] : List (List T_edit_Step)))) from by rw [← hh]; exact pf_2) h_t39
     refine d_turn (Cv := fun v => rowV 22 1 v (val (slices_Delete_edit_Step_edit_Step ((none, 0, 0) : SlH) hs 0 (val (gI ((val (gI (((val (gApp 24 (val (gCut a0.all_ 0 (val (gI (a0.now_ + 1))))) ([(val (slices_Clone_edit_Step a1))] : List (List T_edit_Step)))).length : Int) - 100))) - 1))))).length ((val (slices_Delete_edit_Step_edit_Step ((none, 0, 0) : SlH) hs 0 (val (gI ((val (gI (((val (gApp 24 (val (gCut a0.all_ 0 (val (gI (a0.now_ + 1))))) ([(val (slices_Clone_edit_Step a1))] : List (List T_edit_Step)))).length : Int) - 100))) - 1))))).map e_slh)) (none, 0) (turns_callB (i := 3) (rds := _) (G := fun x : Option Addr × Nat => .slice x.1 (val (slices_Delete_edit_Step_edit_Step ((none, 0, 0) : SlH) hs 0 (val (gI ((val (gI (((val (gApp 24 (val (gCut a0.all_ 0 (val (gI (a0.now_ + 1))))) ([(val (slices_Clone_edit_Step a1))] : List (List T_edit_Step)))).length : Int) - 100))) - 1))))).length x.2) (C := fun x : Option Addr × Nat => rowV 22 1 (.slice x.1 (val (slices_Delete_edit_Step_edit_Step ((none, 0, 0) : SlH) hs 0 (val (gI ((val (gI (((val (gApp 24 (val (gCut a0.all_ 0 (val (gI (a0.now_ + 1))))) ([(val (slices_Clone_edit_Step a1))] : List (List T_edit_Step)))).length : Int) - 100))) - 1))))).length x.2) (val (slices_Delete_edit_Step_edit_Step ((none, 0, 0) : SlH) hs 0 (val (gI ((val (gI (((val (gApp 24 (val (gCut a0.all_ 0 (val (gI (a0.now_ + 1))))) ([(val (slices_Clone_edit_Step a1))] : List (List T_edit_Step)))).length : Int) - 100))) - 1))))).length ((val (slices_Delete_edit_Step_edit_Step ((none, 0, 0) : SlH) hs 0 (val (gI ((val (gI (((val (gApp 24 (val (gCut a0.all_ 0 (val (gI (a0.now_ + 1))))) ([(val (slices_Clone_edit_Step a1))] : List (List T_edit_Step)))).length : Int) - 100))) - 1))))).map e_slh)) rfl (fun w L' S hF hS hi hp hlt ho hA => k117 (p0 := p_2) hp hlt (know_but w S) (rfl.trans (slh_len hh)) hr) Try.call117 rfl) (fun _ => rfl) rfl rfl (fun p_4 => ?_)
     refine d_val rfl rfl (r_nilCheck rfl) ?_
     refine d_val rfl rfl (r_field Try.runUnderlying97 rfl Try.sizeOf29 rfl rfl) ?_
     refine d_storeV (i := 0) (vs := [.slice p_4.1 ((val (slices_Delete_edit_Step_edit_Step ((none, 0, 0) : SlH) hs 0 (val (gI ((val (gI (((val (gApp 24 (val (gCut a0.all_ 0 (val (gI (a0.now_ + 1))))) ([(val (slices_Clone_edit_Step a1))] : List (List T_edit_Step)))).length : Int) - 100))) - 1))))).length) p_4.2]) (cs' := fun v_ => [v_, .int .i64 a0.now_]) Try.sizeOf29 rfl rfl rfl rfl rfl rfl rfl rfl rfl ?_
     refine d_nil ?_
     refine c_imp 3 rfl imp_slhB ?_
     rw [show (val (slices_Delete_edit_Step_edit_Step ((none, 0, 0) : SlH) hs 0 (val (gI ((val (gI (((val (gApp 24 (val (gCut a0.all_ 0 (val (gI (a0.now_ + 1))))) ([(val (slices_Clone_edit_Step a1))] : List (List T_edit_Step)))).length : Int) - 100))) - 1))))).length = ((val (slices_Delete_edit_Step_edit_Step ((none, 0, 0) : SlH) hs 0 (val (gI ((val (gI (((val (gApp 24 (val (gCut a0.all_ 0 (val (gI (a0.now_ + 1))))) ([(val (slices_Clone_edit_Step a1))] : List (List T_edit_Step)))).length : Int) - 100))) - 1))))).map e_slh).length from (List.length_map _).symm]
     refine c_sel [0, 1, 2, 3, 4, 5] [cellsC pb0 [.slice p_4.1 (((val (slices_Delete_edit_Step_edit_Step ((none, 0, 0) : SlH) hs 0 (val (gI ((val (gI (((val (gApp 24 (val (gCut a0.all_ 0 (val (gI (a0.now_ + 1))))) ([(val (slices_Clone_edit_Step a1))] : List (List T_edit_Step)))).length : Int) - 100))) - 1))))).map e_slh).length) p_4.2, .int .i64 a0.now_] 97, _, poolC noH hp_3, rowV 22 1 (.slice p_4.1 (((val (slices_Delete_edit_Step_edit_Step ((none, 0, 0) : SlH) hs 0 (val (gI ((val (gI (((val (gApp 24 (val (gCut a0.all_ 0 (val (gI (a0.now_ + 1))))) ([(val (slices_Clone_edit_Step a1))] : List (List T_edit_Step)))).length : Int) - 100))) - 1))))).map e_slh).length) p_4.2) (((val (slices_Delete_edit_Step_edit_Step ((none, 0, 0) : SlH) hs 0 (val (gI ((val (gI (((val (gApp 24 (val (gCut a0.all_ 0 (val (gI (a0.now_ + 1))))) ([(val (slices_Clone_edit_Step a1))] : List (List T_edit_Step)))).length : Int) - 100))) - 1))))).map e_slh).length) (((val (slices_Delete_edit_Step_edit_Step ((none, 0, 0) : SlH) hs 0 (val (gI ((val (gI (((val (gApp 24 (val (gCut a0.all_ 0 (val (gI (a0.now_ + 1))))) ([(val (slices_Clone_edit_Step a1))] : List (List T_edit_Step)))).length : Int) - 100))) - 1))))).map e_slh).map idC), _, cellsC b1 [.slice p.1 (val (slices_Clone_edit_Step a1)).length p.2] 22] rfl (by decide) ?_
     refine c_close (a0.now_, (val (slices_Delete_edit_Step_edit_Step ([] : (List T_edit_Step)) (val (gApp 24 (val (gCut a0.all_ 0 (val (gI (a0.now_ + 1))))) ([(val (slices_Clone_edit_Step a1))] : List (List T_edit_Step)))) 0 (val (gI ((val (gI (((val (gApp 24 (val (gCut a0.all_ 0 (val (gI (a0.now_ + 1))))) ([(val (slices_Clone_edit_Step a1))] : List (List T_edit_Step)))).length : Int) - 100))) - 1)))))) (((val (slices_Delete_edit_Step_edit_Step ((none, 0, 0) : SlH) hs 0 (val (gI ((val (gI (((val (gApp 24 (val (gCut a0.all_ 0 (val (gI (a0.now_ + 1))))) ([(val (slices_Clone_edit_Step a1))] : List (List T_edit_Step)))).length : Int) - 100))) - 1))))).map e_slh), p_4) 0 [0, 2, 3] (by exact ⟨rfl, trivial⟩) (by decide) rfl (by exact ⟨H21, pf_4⟩) (Nat.lt_succ_self _)
     ) (by kernel_rfl)
   ·have H22 := cnd_f hb H15; clear H15
    refine c_skip ?_
    refine c_close (a0.now_, (val (gApp 24 (val (gCut a0.all_ 0 (val (gI (a0.now_ + 1))))) ([(val (slices_Clone_edit_Step a1))] : List (List T_edit_Step))))) (((cutL css 0 (val (gI (a0.now_ + 1)))) ++ [[Value.slice p.1 (val (slices_Clone_edit_Step a1)).length p.2]]), p_2) 0 [0, 2, 3] (by exact ⟨rfl, trivial⟩) (by decide) rfl (by exact ⟨H22, pf_2⟩) (Nat.lt_succ_self _)
  ·rintro ⟨m, l⟩ ⟨css_2, p_3⟩ gg H16 pf_3
   replace H16 : edit_History_put_j1 m l = some r := H16
   refine c_tidyF [(0, .pointer (some ⟨pb0, 0, none⟩))] [cellsC pb0 [.slice p_3.1 css_2.length p_3.2, .int .i64 m] 97, poolC noH hp_3, rowV 22 1 (.slice p_3.1 css_2.length p_3.2) css_2.length (css_2.map idC)] rfl rfl ?_
   refine c_region ?_
   refine l_val rfl rfl rfl (r_move (v := .pointer (some ⟨pb0, 0, none⟩)) rfl) ?_
   refine l_val rfl rfl rfl (r_move (v := .pointer (some ⟨pb0, 0, none⟩)) rfl) ?_
   refine l_val rfl rfl rfl (r_nilCheck rfl) ?_
   refine l_val rfl rfl rfl (r_field Try.runUnderlying97 rfl Try.sizeOf29 rfl rfl) ?_
   refine l_load1 (i := 0) (v := .slice p_3.1 css_2.length p_3.2) Try.isAgg29 rfl rfl rfl rfl rfl ?_
   refine l_val rfl rfl rfl (r_lenN Try.underlying29 rfl pf_3.len) ?_
   obtain ⟨t48, h_t48, H17⟩ := bnd_some H16; clear H16
   refine l_val rfl rfl rfl (r_subG rfl rfl h_t48) ?_
   refine l_val rfl rfl rfl (r_nilCheck rfl) ?_
   refine l_val rfl rfl rfl (r_field Try.runUnderlying97 rfl Try.sizeOf3 rfl rfl) ?_
   refine l_store (i := 0) (vs := [.int .i64 t48]) (cs' := [.slice p_3.1 css_2.length p_3.2, .int .i64 t48]) Try.sizeOf3 rfl rfl rfl rfl rfl rfl rfl rfl rfl ?_
   refine l_nil ?_
   refine c_sel [0, 1, 2] [cellsC pb0 [.slice p_3.1 css_2.length p_3.2, .int .i64 t48] 97, poolC noH hp_3, rowV 22 1 (.slice p_3.1 css_2.length p_3.2) css_2.length (css_2.map idC)] rfl (by decide) ?_
   obtain rfl := Option.some.inj H17
   refine c_both 1 2 rfl rfl (by decide) ?_
   refine c_imp 1 rfl (imp_rowD (p := p_3) rfl pf_3) ?_
   refine c_both 0 1 rfl rfl (by decide) ?_
   refine ret0n rfl (finX p_3 (i := 0) rfl (by first | rfl | rw [(show css_2.length = l.length from pf_3.len)]) (by first | exact Imp.refl _ | exact Imp.of (by rw [(show css_2.length = l.length from pf_3.len)])))
  ) (by kernel_rfl)
theorem k14 {a0 : T_edit_History} {pb0 : Nat} {p0_0 : Option Addr × Nat} {a1 : T_edit_Step} {r : Int × T_edit_History} {w : World} {h : Heap} {S : Nat → Prop} (hcs : (bothC (cellsC pb0 [.slice p0_0.1 a0.all_.length p0_0.2, .int .i64 a0.now_] 97) (rowD 22 1 gs_edit_Step (.slice p0_0.1 a0.all_.length p0_0.2) a0.all_.length a0.all_)).P S w) (hlt : ∀ b, S b → b < w.heap.size) (hw : Know h w S) (H : edit_History_Add a0 a1 = some r) : Does Try.prog 14 (List.toArray [.pointer (some ⟨pb0, 0, none⟩), .agg #[.int .i64 a1.Kind, .int .i64 a1.A, .int .i64 a1.B, .int .i64 a1.C, .int .i64 a1.D]]) w (fun v w' => ∃ x : (Option Addr × Nat), v = (.int .i64 r.1) ∧ Turn w w' S (bothC (cellsC pb0 [.slice x.1 r.2.all_.length x.2, .int .i64 r.2.now_] 97) (rowD 22 1 gs_edit_Step (.slice x.1 r.2.all_.length x.2) r.2.all_.length r.2.all_))) := by
 refine enter (n := 23) Try.func14 rfl rfl rfl S [bothC (cellsC pb0 [.slice p0_0.1 a0.all_.length p0_0.2, .int .i64 a0.now_] 97) (rowD 22 1 gs_edit_Step (.slice p0_0.1 a0.all_.length p0_0.2) a0.all_.length a0.all_)] (Sat.one hcs hlt) ?_
 refine c_split 0 rfl ?_
 refine c_seq ?_
 refine c_region ?_
 refine l_box (cs := [.int .i64 a1.Kind, .int .i64 a1.A, .int .i64 a1.B, .int .i64 a1.C, .int .i64 a1.D]) rfl rfl rfl rfl (fun b2 => ?_)
 refine l_val rfl rfl rfl (r_assign (v := .int .i64 0) rfl) ?_
 refine l_nil ?_
 refine c_seq ?_
 refine c_seq ?_
 refine c_region ?_
 refine l_loadN (i := 2) (vs := [.int .i64 a1.Kind, .int .i64 a1.A, .int .i64 a1.B, .int .i64 a1.C, .int .i64 a1.D]) Try.isAgg31 Try.sizeOf31 rfl rfl rfl rfl rfl ?_
 obtain ⟨t8, h_t8, H9⟩ := bnd_some H; clear H
 refine l_call (k53 h_t8) Try.call53 rfl rfl rfl ?_
 refine l_val rfl rfl rfl (r_assign (v := .int .i64 t8) rfl) ?_
 refine l_nil ?_
 refine c_seq ?_
 refine c_region ?_
 refine l_val rfl rfl rfl (r_move (v := .int .i64 t8) rfl) ?_
 refine l_val rfl rfl rfl (r_neq rfl rfl) ?_
 refine l_nil ?_
 refine c_if (b := (decide (t8 ≠ 0))) rfl (fun hb => ?_) (fun hb => ?_)
 ·have H10 := cnd_t hb H9; clear H9
  refine c_seq ?_
  refine c_region ?_
  refine l_val rfl rfl rfl (r_move (v := .int .i64 t8) rfl) ?_
  refine l_val rfl rfl rfl (r_assign (v := .int .i64 t8) rfl) ?_
  refine l_nil ?_
  refine c_ret ?_
  obtain rfl := Option.some.inj H10
  refine c_both 0 1 rfl rfl (by decide) ?_
  refine ret1 (v := .int .i64 t8) rfl rfl (finX p0_0 (i := 0) rfl rfl (Imp.refl _))
 ·have H11 := cnd_f hb H9; clear H9
  refine c_skip ?_
  refine c_seq ?_
  exact c_regionD (Kd.p :: Kd.t 3 [0, 1] _ _ :: Kd.d [2] _ :: Kd.ns 4 [_, _, _, _, _] 31 1 :: Kd.t 3 [4] _ _ :: Kd.p :: []) 2 mixed (by
   refine d_val rfl rfl (r_move (v := .pointer (some ⟨pb0, 0, none⟩)) rfl) ?_
   have h_t13 := bnd_val H11
   have H12 := bnd_rest H11
   refine d_make (Cv := fun v => rowO 31 5 v (val (edit_History_Now a0)).length ((val (edit_History_Now a0)).map e_edit_Step)) (none, 0) (makes_call (G := fun x : (Option Addr × Nat) => .slice x.1 (val (edit_History_Now a0)).length x.2) (C := fun x : (Option Addr × Nat) => rowO 31 5 (.slice x.1 (val (edit_History_Now a0)).length x.2) (val (edit_History_Now a0)).length ((val (edit_History_Now a0)).map e_edit_Step)) (fun w L' hF hS hi => k21 (know_all w) (frn_rowD (i := 1) hS ((hi 1 (by simp)).trans rfl)) (sat_cell (i := 0) hS ((hi 0 (by simp)).trans rfl)) h_t13) Try.call21 rfl) (fun _ => rfl) rfl rfl rfl (fun p => ?_)
   refine d_loadN (i := 2) (vs := [.int .i64 a1.Kind, .int .i64 a1.A, .int .i64 a1.B, .int .i64 a1.C, .int .i64 a1.D]) Try.isAgg31 Try.sizeOf31 rfl rfl rfl rfl ?_
   refine d_newS rfl rfl (run_buildSlice (vs := [.agg #[.int .i64 a1.Kind, .int .i64 a1.A, .int .i64 a1.B, .int .i64 a1.C, .int .i64 a1.D]]) (cs := [.int .i64 a1.Kind, .int .i64 a1.A, .int .i64 a1.B, .int .i64 a1.C, .int .i64 a1.D]) Try.underlying22 Try.sizeOf31 Try.zeroValue31 rfl rfl rfl rfl rfl) rfl (fun b3 => ?_)
   have h_l16 := bnd_val H12
   have H13 := bnd_rest H12
   refine d_turn (Cv := fun v => rowO 31 5 v (val (gApp 40 (val (edit_History_Now a0)) ([a1] : List T_edit_Step))).length ((val (gApp 40 (val (edit_History_Now a0)) ([a1] : List T_edit_Step))).map e_edit_Step)) (none, 0) (turns_appF (i := 3) (hn := rfl) (rds := [4]) (p := p) (sz := 5) (by_ := 40) (f := e_edit_Step) (ys := (val (edit_History_Now a0))) (ls := ([a1] : List T_edit_Step)) (V := .slice (some ⟨b3, 0, none⟩) 1 1) Try.underlying22 (info_of Try.typeInfo31) rfl rfl rfl rfl rfl rfl rfl rfl rfl rfl (fun w L' hF hS hi => row_box (i := 4) hS ((hi 4 (by simp)).trans rfl) rfl rfl) (fun _ => rfl) (fun _ => rfl) h_l16) (fun _ => rfl) rfl rfl (fun p_2 => ?_)
   refine d_val rfl rfl (r_assign (v := .slice p_2.1 (val (gApp 40 (val (edit_History_Now a0)) ([a1] : List T_edit_Step))).length p_2.2) rfl) ?_
   refine d_nil ?_
   refine c_seq ?_
   refine c_seq ?_
   refine c_region ?_
   refine l_val rfl rfl rfl (r_move (v := .slice p_2.1 (val (gApp 40 (val (edit_History_Now a0)) ([a1] : List T_edit_Step))).length p_2.2) rfl) ?_
   refine l_val rfl rfl rfl (r_len Try.underlying22 rfl) ?_
   refine l_val rfl rfl rfl (r_gtr rfl rfl) ?_
   refine l_nil ?_
   refine c_if (b := (decide (50 < ((val (gApp 40 (val (edit_History_Now a0)) ([a1] : List T_edit_Step))).length : Int)))) rfl (fun hb => ?_) (fun hb => ?_)
   ·have H14 := cnd_t hb H13; clear H13
    refine c_seq ?_
    refine c_region ?_
    refine l_val rfl rfl rfl (r_assign (v := .int .i64 4) rfl) ?_
    refine l_nil ?_
    refine c_ret ?_
    obtain rfl := Option.some.inj H14
    refine c_both 0 1 rfl rfl (by decide) ?_
    refine ret1 (v := .int .i64 4) rfl rfl (finX p0_0 (i := 0) rfl rfl (Imp.refl _))
   ·have H15 := cnd_f hb H13; clear H13
    refine c_skip ?_
    refine c_seq ?_
    refine c_region ?_
    refine l_val rfl rfl rfl (r_move (v := .pointer (some ⟨pb0, 0, none⟩)) rfl) ?_
    refine l_val rfl rfl rfl (r_move (v := .slice p_2.1 (val (gApp 40 (val (edit_History_Now a0)) ([a1] : List T_edit_Step))).length p_2.2) rfl) ?_
    obtain ⟨t22, h_t22, H16⟩ := bnd_some H15; clear H15
    refine c_both 0 1 rfl rfl (by decide) ?_
    refine l_turn (turns_callB (i := 0) (rds := [3]) (G := fun x : (Option Addr × Nat) => .tuple #[]) (C := fun x : (Option Addr × Nat) => bothC (cellsC pb0 [.slice x.1 t22.all_.length x.2, .int .i64 t22.now_] 97) (rowD 22 1 gs_edit_Step (.slice x.1 t22.all_.length x.2) t22.all_.length t22.all_)) rfl (fun w L' S hF hS hi hp hlt ho hA => k54 hp hlt (know_but w S) (frb_off (j := 3) rfl hA hS (by decide) ((hi 3 (by simp)).trans rfl)) h_t22) Try.call54 rfl) rfl rfl rfl (fun p_3 => ?_)
    refine c_splitAt 0 1 rfl rfl (by decide) ?_
    refine l_nil ?_
    refine c_seq ?_
    refine c_sel [0, 1, 2, 3, 4] [cellsC pb0 [.slice p_3.1 t22.all_.length p_3.2, .int .i64 t22.now_] 97, rowD 22 1 gs_edit_Step (.slice p_3.1 t22.all_.length p_3.2) t22.all_.length t22.all_, cellsC b2 [.int .i64 a1.Kind, .int .i64 a1.A, .int .i64 a1.B, .int .i64 a1.C, .int .i64 a1.D] 31, rowO 31 5 (.slice p_2.1 (val (gApp 40 (val (edit_History_Now a0)) ([a1] : List T_edit_Step))).length p_2.2) (val (gApp 40 (val (edit_History_Now a0)) ([a1] : List T_edit_Step))).length ((val (gApp 40 (val (edit_History_Now a0)) ([a1] : List T_edit_Step))).map e_edit_Step), cellsC b3 [.int .i64 a1.Kind, .int .i64 a1.A, .int .i64 a1.B, .int .i64 a1.C, .int .i64 a1.D] 31] rfl (by decide) ?_
    refine c_region ?_
    refine l_val rfl rfl rfl (r_assign (v := .int .i64 0) rfl) ?_
    refine l_nil ?_
    refine c_ret ?_
    obtain rfl := Option.some.inj H16
    refine c_both 0 1 rfl rfl (by decide) ?_
    refine ret1 (v := .int .i64 0) rfl rfl (finX p_3 (i := 0) rfl rfl (Imp.refl _))
   ) (by kernel_rfl)
theorem k16 {a0 : T_edit_History} {pb0 : Nat} {p0_0 : Option Addr × Nat} {a1 : (List T_edit_Step)} {v1 : Value} {r : Int × T_edit_History} {w : World} {h : Heap} {S : Nat → Prop} (hcs : (bothC (cellsC pb0 [.slice p0_0.1 a0.all_.length p0_0.2, .int .i64 a0.now_] 97) (rowD 22 1 gs_edit_Step (.slice p0_0.1 a0.all_.length p0_0.2) a0.all_.length a0.all_)).P S w) (hlt : ∀ b, S b → b < w.heap.size) (hw : Know h w S) (f1 : FrS h 5 v1 (a1.map e_edit_Step)) (H : edit_History_Set a0 a1 = some r) : Does Try.prog 16 (List.toArray [.pointer (some ⟨pb0, 0, none⟩), v1]) w (fun v w' => ∃ x : (Option Addr × Nat), v = (.int .i64 r.1) ∧ Turn w w' S (bothC (cellsC pb0 [.slice x.1 r.2.all_.length x.2, .int .i64 r.2.now_] 97) (rowD 22 1 gs_edit_Step (.slice x.1 r.2.all_.length x.2) r.2.all_.length r.2.all_))) := by
 refine enter (n := 26) Try.func16 rfl rfl rfl S [bothC (cellsC pb0 [.slice p0_0.1 a0.all_.length p0_0.2, .int .i64 a0.now_] 97) (rowD 22 1 gs_edit_Step (.slice p0_0.1 a0.all_.length p0_0.2) a0.all_.length a0.all_)] (Sat.one hcs hlt) ?_
 refine c_split 0 rfl ?_
 refine c_poolNew noH ?_
 refine c_seq ?_
 refine c_region ?_
 refine l_val rfl rfl rfl (r_assign (v := .int .i64 0) rfl) ?_
 refine l_nil ?_
 refine c_seq ?_
 refine c_seq ?_
 refine c_region ?_
 refine l_val rfl rfl rfl (r_move (v := v1) rfl) ?_
 obtain ⟨t7, h_t7, H9⟩ := bnd_some H; clear H
 refine l_callG (fun w hF hS => k50 (know_all w) (f1.mono (hw.now hF)) h_t7) Try.call50 rfl rfl rfl ?_
 refine l_val rfl rfl rfl (r_assign (v := .int .i64 t7) rfl) ?_
 refine l_nil ?_
 refine c_seq ?_
 refine c_region ?_
 refine l_val rfl rfl rfl (r_move (v := .int .i64 t7) rfl) ?_
 refine l_val rfl rfl rfl (r_neq rfl rfl) ?_
 refine l_nil ?_
 refine c_if (b := (decide (t7 ≠ 0))) rfl (fun hb => ?_) (fun hb => ?_)
 ·have H10 := cnd_t hb H9; clear H9
  refine c_seq ?_
  refine c_region ?_
  refine l_val rfl rfl rfl (r_move (v := .int .i64 t7) rfl) ?_
  refine l_val rfl rfl rfl (r_assign (v := .int .i64 t7) rfl) ?_
  refine l_nil ?_
  refine c_ret ?_
  obtain rfl := Option.some.inj H10
  refine c_both 0 1 rfl rfl (by decide) ?_
  refine ret1 (v := .int .i64 t7) rfl rfl (finX p0_0 (i := 0) rfl rfl (Imp.refl _))
 ·have H11 := cnd_f hb H9; clear H9
  refine c_skip ?_
  refine c_seq ?_
  refine c_seq ?_
  refine c_rowD 1 rfl (fun hp css hn pf => ?_)
  rw [hn]
  refine c_split 1 rfl ?_
  refine c_poolJoin 2 1 rfl rfl (by decide) (fun _ _ => noH_le) (fun hp_2 hle hle_2 => ?_)
  refine c_sel [0, 1, 2, 3] [cellsC pb0 [.slice p0_0.1 css.length p0_0.2, .int .i64 a0.now_] 97, _, poolC noH hp_2, rowV 22 1 (.slice p0_0.1 css.length p0_0.2) css.length (css.map idC)] rfl (by decide) ?_
  exact c_regionD (Kd.p :: Kd.p :: Kd.p :: Kd.p :: Kd.d [0] _ :: Kd.p :: Kd.p :: Kd.p :: Kd.d [0] _ :: Kd.d [3] _ :: Kd.d [3] _ :: Kd.d [2] _ :: []) 0 mixed (by
   refine d_val rfl rfl (r_move (v := v1) rfl) ?_
   refine d_val rfl rfl (r_move (v := .pointer (some ⟨pb0, 0, none⟩)) rfl) ?_
   refine d_val rfl rfl (r_nilCheck rfl) ?_
   refine d_val rfl rfl (r_field Try.runUnderlying97 rfl Try.sizeOf29 rfl rfl) ?_
   refine d_load1 (i := 0) (v := .slice p0_0.1 css.length p0_0.2) Try.isAgg29 rfl rfl rfl rfl ?_
   refine d_val rfl rfl (r_move (v := .pointer (some ⟨pb0, 0, none⟩)) rfl) ?_
   refine d_val rfl rfl (r_nilCheck rfl) ?_
   refine d_val rfl rfl (r_field Try.runUnderlying97 rfl Try.sizeOf3 rfl rfl) ?_
   refine d_load1 (i := 0) (v := .int .i64 a0.now_) Try.isAgg3 rfl rfl rfl rfl ?_
   have h_t20 := bnd_val H11
   have H12 := bnd_rest H11
   refine d_readD (fun w L' hF hS hi => run_indexO Try.underlying29 Try.sizeOf22 rfl rfl (rowOf (i := 3) (E := 22) (sz := 1) (n := css.length) (a := p0_0.1) (c := p0_0.2) hS ((hi 3 (by simp)).trans rfl)) rfl ((pf.mono hle_2).ix h_t20)) rfl rfl ?_
   refine d_readD (fun w L' hF hS hi => run_loadG1 (f := idC) (i := a0.now_) (sz := 1) (j := 0) (v := (List.getD (List.getD css (Int.toNat a0.now_) []) 0 undef)) Try.isAgg22 rfl rfl (rowOf (i := 3) (E := 22) (sz := 1) (n := css.length) (a := p0_0.1) (c := p0_0.2) hS ((hi 3 (by simp)).trans rfl)) ((pf.mono hle_2).ix h_t20) (rg_of (((pf.mono hle_2).eta h_t20).trans (cgs_edit_Step ((pf.mono hle_2).at h_t20))) rfl)) rfl rfl ?_
   have h_t22 := bnd_val H12
   have H13 := bnd_rest H12
   refine d_callD (fun w L' hF hS hi => k55 (know_all w) (f1.mono (hw.now hF)) ((show FrS hp_2 5 (List.getD (List.getD css (Int.toNat a0.now_) []) 0 undef) ((val (gAt a0.all_ a0.now_)).map e_edit_Step) from ((pf.mono hle_2).at h_t20)).mono (pool_now (i := 2) hS ((hi 2 (by simp)).trans rfl) noH_le)) h_t22) Try.call55 rfl rfl ?_
   refine d_nil ?_
   refine c_sel [0, 1, 2, 3] [cellsC pb0 [.slice p0_0.1 css.length p0_0.2, .int .i64 a0.now_] 97, _, poolC noH hp_2, rowV 22 1 (.slice p0_0.1 css.length p0_0.2) css.length (css.map idC)] rfl (by decide) ?_
   refine c_if (b := (val (edit_Same a1 (val (gAt a0.all_ a0.now_))))) rfl (fun hb => ?_) (fun hb => ?_)
   ·have H14 := cnd_t hb H13; clear H13
    refine c_seq ?_
    refine c_region ?_
    refine l_val rfl rfl rfl (r_assign (v := .int .i64 11) rfl) ?_
    refine l_nil ?_
    refine c_sel [0, 1, 2, 3] [cellsC pb0 [.slice p0_0.1 css.length p0_0.2, .int .i64 a0.now_] 97, _, poolC noH hp_2, rowV 22 1 (.slice p0_0.1 css.length p0_0.2) css.length (css.map idC)] rfl (by decide) ?_
    refine c_ret ?_
    obtain rfl := Option.some.inj H14
    refine c_both 2 3 rfl rfl (by decide) ?_
    refine c_imp 2 rfl (imp_rowD (p := p0_0) rfl (pf.mono hle_2)) ?_
    refine c_both 0 2 rfl rfl (by decide) ?_
    refine ret1 (v := .int .i64 11) rfl rfl (finX p0_0 (i := 0) rfl (by first | rfl | rw [(show css.length = a0.all_.length from hn.symm)]) (by first | exact Imp.refl _ | exact Imp.of (by rw [(show css.length = a0.all_.length from hn.symm)])))
   ·have H15 := cnd_f hb H13; clear H13
    refine c_skip ?_
    refine c_seq ?_
    refine c_region ?_
    refine l_val rfl rfl rfl (r_move (v := .pointer (some ⟨pb0, 0, none⟩)) rfl) ?_
    refine l_val rfl rfl rfl (r_move (v := v1) rfl) ?_
    refine c_both 2 3 rfl rfl (by decide) ?_
    refine c_imp 2 rfl (imp_rowDx (p := p0_0) rfl (pf.mono hle_2)) ?_
    (try rw [show css.length = a0.all_.length from hn.symm])
    refine c_poolNew noH ?_
    obtain ⟨t25, h_t25, H16⟩ := bnd_some H15; clear H15
    refine c_both 0 2 rfl rfl (by decide) ?_
    refine l_turn (turns_callB (i := 0) (rds := []) (G := fun x : (Option Addr × Nat) => .tuple #[]) (C := fun x : (Option Addr × Nat) => bothC (cellsC pb0 [.slice x.1 t25.all_.length x.2, .int .i64 t25.now_] 97) (rowD 22 1 gs_edit_Step (.slice x.1 t25.all_.length x.2) t25.all_.length t25.all_)) rfl (fun w L' S hF hS hi hp hlt ho hA => k54 hp hlt (know_but w S) (f1.mono (hw.but hF ho)) h_t25) Try.call54 rfl) rfl rfl rfl (fun p => ?_)
    refine c_splitAt 0 2 rfl rfl (by decide) ?_
    refine l_nil ?_
    refine c_seq ?_
    refine c_sel [0, 1, 2, 3, 4] [cellsC pb0 [.slice p.1 t25.all_.length p.2, .int .i64 t25.now_] 97, _, rowD 22 1 gs_edit_Step (.slice p.1 t25.all_.length p.2) t25.all_.length t25.all_, _, poolC noH noH] rfl (by decide) ?_
    refine c_region ?_
    refine l_val rfl rfl rfl (r_assign (v := .int .i64 0) rfl) ?_
    refine l_nil ?_
    refine c_ret ?_
    obtain rfl := Option.some.inj H16
    refine c_both 0 2 rfl rfl (by decide) ?_
    refine ret1 (v := .int .i64 0) rfl rfl (finX p (i := 0) rfl rfl (Imp.refl _))
   ) (by kernel_rfl)
theorem k17 {a0 : T_edit_History} {pb0 : Nat} {p0_0 : Option Addr × Nat} {r : Bool × T_edit_History} {w : World} {h : Heap} {S : Nat → Prop} (hcs : (bothC (cellsC pb0 [.slice p0_0.1 a0.all_.length p0_0.2, .int .i64 a0.now_] 97) (rowD 22 1 gs_edit_Step (.slice p0_0.1 a0.all_.length p0_0.2) a0.all_.length a0.all_)).P S w) (hlt : ∀ b, S b → b < w.heap.size) (hw : Know h w S) (H : edit_History_Undo a0 = some r) : Does Try.prog 17 (List.toArray [.pointer (some ⟨pb0, 0, none⟩)]) w (fun v w' => ∃ x : (Option Addr × Nat), v = (.bool r.1) ∧ Turn w w' S (bothC (cellsC pb0 [.slice x.1 r.2.all_.length x.2, .int .i64 r.2.now_] 97) (rowD 22 1 gs_edit_Step (.slice x.1 r.2.all_.length x.2) r.2.all_.length r.2.all_))) := by
 refine enter (n := 15) Try.func17 rfl rfl rfl S [bothC (cellsC pb0 [.slice p0_0.1 a0.all_.length p0_0.2, .int .i64 a0.now_] 97) (rowD 22 1 gs_edit_Step (.slice p0_0.1 a0.all_.length p0_0.2) a0.all_.length a0.all_)] (Sat.one hcs hlt) ?_
 refine c_split 0 rfl ?_
 refine c_seq ?_
 refine c_region ?_
 refine l_val rfl rfl rfl (r_assign (v := .bool false) rfl) ?_
 refine l_nil ?_
 refine c_seq ?_
 refine c_seq ?_
 refine c_region ?_
 refine l_val rfl rfl rfl (r_move (v := .pointer (some ⟨pb0, 0, none⟩)) rfl) ?_
 refine l_val rfl rfl rfl (r_nilCheck rfl) ?_
 refine l_val rfl rfl rfl (r_field Try.runUnderlying97 rfl Try.sizeOf3 rfl rfl) ?_
 refine l_load1 (i := 0) (v := .int .i64 a0.now_) Try.isAgg3 rfl rfl rfl rfl rfl ?_
 refine l_val rfl rfl rfl (r_eql rfl rfl) ?_
 refine l_nil ?_
 refine c_if (b := (decide (a0.now_ = 0))) rfl (fun hb => ?_) (fun hb => ?_)
 ·have H4 := cnd_t hb H; clear H
  refine c_seq ?_
  refine c_region ?_
  refine l_val rfl rfl rfl (r_assign (v := .bool false) rfl) ?_
  refine l_nil ?_
  refine c_ret ?_
  obtain rfl := Option.some.inj H4
  refine c_both 0 1 rfl rfl (by decide) ?_
  refine ret1 (v := .bool false) rfl rfl (finX p0_0 (i := 0) rfl rfl (Imp.refl _))
 ·have H5 := cnd_f hb H; clear H
  refine c_skip ?_
  refine c_seq ?_
  refine c_region ?_
  refine l_val rfl rfl rfl (r_move (v := .pointer (some ⟨pb0, 0, none⟩)) rfl) ?_
  refine l_val rfl rfl rfl (r_nilCheck rfl) ?_
  refine l_val rfl rfl rfl (r_field Try.runUnderlying97 rfl Try.sizeOf3 rfl rfl) ?_
  refine l_load1 (i := 0) (v := .int .i64 a0.now_) Try.isAgg3 rfl rfl rfl rfl rfl ?_
  obtain ⟨t12, h_t12, H6⟩ := bnd_some H5; clear H5
  refine l_val rfl rfl rfl (r_subG rfl rfl h_t12) ?_
  refine l_val rfl rfl rfl (r_nilCheck rfl) ?_
  refine l_val rfl rfl rfl (r_field Try.runUnderlying97 rfl Try.sizeOf3 rfl rfl) ?_
  refine l_store (i := 0) (vs := [.int .i64 t12]) (cs' := [.slice p0_0.1 a0.all_.length p0_0.2, .int .i64 t12]) Try.sizeOf3 rfl rfl rfl rfl rfl rfl rfl rfl rfl ?_
  refine l_nil ?_
  refine c_seq ?_
  refine c_region ?_
  refine l_val rfl rfl rfl (r_assign (v := .bool true) rfl) ?_
  refine l_nil ?_
  refine c_ret ?_
  obtain rfl := Option.some.inj H6
  refine c_both 0 1 rfl rfl (by decide) ?_
  refine ret1 (v := .bool true) rfl rfl (finX p0_0 (i := 0) rfl rfl (Imp.refl _))
theorem k18 {a0 : T_edit_History} {pb0 : Nat} {p0_0 : Option Addr × Nat} {r : Bool × T_edit_History} {w : World} {h : Heap} {S : Nat → Prop} (hcs : (bothC (cellsC pb0 [.slice p0_0.1 a0.all_.length p0_0.2, .int .i64 a0.now_] 97) (rowD 22 1 gs_edit_Step (.slice p0_0.1 a0.all_.length p0_0.2) a0.all_.length a0.all_)).P S w) (hlt : ∀ b, S b → b < w.heap.size) (hw : Know h w S) (H : edit_History_Redo a0 = some r) : Does Try.prog 18 (List.toArray [.pointer (some ⟨pb0, 0, none⟩)]) w (fun v w' => ∃ x : (Option Addr × Nat), v = (.bool r.1) ∧ Turn w w' S (bothC (cellsC pb0 [.slice x.1 r.2.all_.length x.2, .int .i64 r.2.now_] 97) (rowD 22 1 gs_edit_Step (.slice x.1 r.2.all_.length x.2) r.2.all_.length r.2.all_))) := by
 refine enter (n := 21) Try.func18 rfl rfl rfl S [bothC (cellsC pb0 [.slice p0_0.1 a0.all_.length p0_0.2, .int .i64 a0.now_] 97) (rowD 22 1 gs_edit_Step (.slice p0_0.1 a0.all_.length p0_0.2) a0.all_.length a0.all_)] (Sat.one hcs hlt) ?_
 refine c_split 0 rfl ?_
 refine c_seq ?_
 refine c_region ?_
 refine l_val rfl rfl rfl (r_assign (v := .bool false) rfl) ?_
 refine l_nil ?_
 refine c_seq ?_
 refine c_seq ?_
 exact c_regionD (Kd.p :: Kd.p :: Kd.p :: Kd.d [0] _ :: Kd.p :: Kd.p :: Kd.p :: Kd.d [0] _ :: Kd.p :: Kd.p :: Kd.p :: []) 0 mixed (by
  refine d_val rfl rfl (r_move (v := .pointer (some ⟨pb0, 0, none⟩)) rfl) ?_
  refine d_val rfl rfl (r_nilCheck rfl) ?_
  refine d_val rfl rfl (r_field Try.runUnderlying97 rfl Try.sizeOf3 rfl rfl) ?_
  refine d_load1 (i := 0) (v := .int .i64 a0.now_) Try.isAgg3 rfl rfl rfl rfl ?_
  refine d_val rfl rfl (r_move (v := .pointer (some ⟨pb0, 0, none⟩)) rfl) ?_
  refine d_val rfl rfl (r_nilCheck rfl) ?_
  refine d_val rfl rfl (r_field Try.runUnderlying97 rfl Try.sizeOf29 rfl rfl) ?_
  refine d_load1 (i := 0) (v := .slice p0_0.1 a0.all_.length p0_0.2) Try.isAgg29 rfl rfl rfl rfl ?_
  refine d_val rfl rfl (r_len Try.underlying29 rfl) ?_
  have h_t12 := bnd_val H
  have H5 := bnd_rest H
  refine d_val rfl rfl (r_subG rfl rfl h_t12) ?_
  refine d_val rfl rfl (r_eql rfl rfl) ?_
  refine d_nil ?_
  refine c_if (b := (decide (a0.now_ = (val (gI ((a0.all_.length : Int) - 1)))))) rfl (fun hb => ?_) (fun hb => ?_)
  ·have H6 := cnd_t hb H5; clear H5
   refine c_seq ?_
   refine c_region ?_
   refine l_val rfl rfl rfl (r_assign (v := .bool false) rfl) ?_
   refine l_nil ?_
   refine c_ret ?_
   obtain rfl := Option.some.inj H6
   refine c_both 0 1 rfl rfl (by decide) ?_
   refine ret1 (v := .bool false) rfl rfl (finX p0_0 (i := 0) rfl rfl (Imp.refl _))
  ·have H7 := cnd_f hb H5; clear H5
   refine c_skip ?_
   refine c_seq ?_
   refine c_region ?_
   refine l_val rfl rfl rfl (r_move (v := .pointer (some ⟨pb0, 0, none⟩)) rfl) ?_
   refine l_val rfl rfl rfl (r_nilCheck rfl) ?_
   refine l_val rfl rfl rfl (r_field Try.runUnderlying97 rfl Try.sizeOf3 rfl rfl) ?_
   refine l_load1 (i := 0) (v := .int .i64 a0.now_) Try.isAgg3 rfl rfl rfl rfl rfl ?_
   obtain ⟨t18, h_t18, H8⟩ := bnd_some H7; clear H7
   refine l_val rfl rfl rfl (r_addG rfl rfl h_t18) ?_
   refine l_val rfl rfl rfl (r_nilCheck rfl) ?_
   refine l_val rfl rfl rfl (r_field Try.runUnderlying97 rfl Try.sizeOf3 rfl rfl) ?_
   refine l_store (i := 0) (vs := [.int .i64 t18]) (cs' := [.slice p0_0.1 a0.all_.length p0_0.2, .int .i64 t18]) Try.sizeOf3 rfl rfl rfl rfl rfl rfl rfl rfl rfl ?_
   refine l_nil ?_
   refine c_seq ?_
   refine c_region ?_
   refine l_val rfl rfl rfl (r_assign (v := .bool true) rfl) ?_
   refine l_nil ?_
   refine c_ret ?_
   obtain rfl := Option.some.inj H8
   refine c_both 0 1 rfl rfl (by decide) ?_
   refine ret1 (v := .bool true) rfl rfl (finX p0_0 (i := 0) rfl rfl (Imp.refl _))
  ) (by kernel_rfl)
theorem k19 {a0 : T_edit_History} {v0_0 : Value} {pb0 : Nat} {a1 : Int} {r : (List T_edit_Step) × Bool} {w : World} {h : Heap} (hw : Know h w noS) (f0_0 : FrN h 1 v0_0 gs_edit_Step a0.all_) (hb0 : h pb0 = some (.cells (List.toArray [v0_0, .int .i64 a0.now_]) 97 (0, 0))) (H : edit_History_Back a0 a1 = some r) : Does Try.prog 19 (List.toArray [.pointer (some ⟨pb0, 0, none⟩), .int .i64 a1]) w (fun v w' => ∃ x : (Option Addr × Nat), v = (.tuple #[.slice x.1 r.1.length x.2, .bool r.2]) ∧ Turn w w' noS (rowO 31 5 (.slice x.1 r.1.length x.2) r.1.length (r.1.map e_edit_Step))) := by
 refine enter (n := 20) Try.func19 rfl rfl rfl noS [] (Sat.nil _ _) ?_
 refine c_seq ?_
 refine c_region ?_
 refine l_val rfl rfl rfl (r_assign (v := .slice none 0 0) rfl) ?_
 refine l_val rfl rfl rfl (r_assign (v := .bool false) rfl) ?_
 refine l_nil ?_
 refine c_seq ?_
 refine c_seq ?_
 refine c_region ?_
 refine l_val rfl rfl rfl (r_move (v := .int .i64 a1) rfl) ?_
 refine l_val rfl rfl rfl (r_move (v := .pointer (some ⟨pb0, 0, none⟩)) rfl) ?_
 refine l_val rfl rfl rfl (r_nilCheck rfl) ?_
 refine l_val rfl rfl rfl (r_field Try.runUnderlying97 rfl Try.sizeOf3 rfl rfl) ?_
 refine l_read (fun w hF hS => run_loadK1 (v := .int .i64 a0.now_) Try.isAgg3 rfl (hw.now hF _ _ hb0) rfl) rfl rfl rfl ?_
 obtain ⟨t11, h_t11, H11⟩ := bnd_some H; clear H
 refine l_call (k56 h_t11) Try.call56 rfl rfl rfl ?_
 refine l_nil ?_
 refine c_if (b := t11) rfl (fun hb => ?_) (fun hb => ?_)
 ·have H12 := cnd_t hb H11; clear H11
  refine c_seq ?_
  refine c_region ?_
  refine l_val rfl rfl rfl (r_assign (v := .slice none 0 0) rfl) ?_
  refine l_val rfl rfl rfl (r_assign (v := .bool false) rfl) ?_
  refine l_nil ?_
  refine c_ret ?_
  refine c_nilRow 31 5 ?_
  obtain rfl := Option.some.inj H12
  refine c_imp 0 rfl (imp_rowO _ _ _ _ _) ?_
  refine ret2 (v1 := .slice ((none, 0) : Option Addr × Nat).1 ([] : List T_edit_Step).length ((none, 0) : Option Addr × Nat).2) (v2 := .bool false) rfl rfl rfl (finX ((none, 0) : Option Addr × Nat) (i := 0) rfl rfl (Imp.refl _))
 ·have H13 := cnd_f hb H11; clear H11
  refine c_skip ?_
  refine c_seq ?_
  refine c_region ?_
  refine l_val rfl rfl rfl (r_move (v := .pointer (some ⟨pb0, 0, none⟩)) rfl) ?_
  refine l_val rfl rfl rfl (r_move (v := .pointer (some ⟨pb0, 0, none⟩)) rfl) ?_
  refine l_val rfl rfl rfl (r_nilCheck rfl) ?_
  refine l_val rfl rfl rfl (r_field Try.runUnderlying97 rfl Try.sizeOf3 rfl rfl) ?_
  refine l_read (fun w hF hS => run_loadK1 (v := .int .i64 a0.now_) Try.isAgg3 rfl (hw.now hF _ _ hb0) rfl) rfl rfl rfl ?_
  refine l_val rfl rfl rfl (r_move (v := .int .i64 a1) rfl) ?_
  obtain ⟨t18, h_t18, H14⟩ := bnd_some H13; clear H13
  refine l_val rfl rfl rfl (r_subG rfl rfl h_t18) ?_
  obtain ⟨t19, h_t19, H15⟩ := bnd_some H14; clear H14
  refine l_make (makes_call (rds := []) (G := fun x : (Option Addr × Nat) => .slice x.1 t19.length x.2) (C := fun x : (Option Addr × Nat) => rowO 31 5 (.slice x.1 t19.length x.2) t19.length (t19.map e_edit_Step)) (fun w L' hF hS hi => k57 (know_all w) (f0_0.mono (hw.now hF)) (hw.now hF _ _ hb0) h_t19) Try.call57 rfl) rfl rfl rfl (fun p => ?_)
  refine l_val rfl rfl rfl (r_assign (v := .slice p.1 t19.length p.2) rfl) ?_
  refine l_val rfl rfl rfl (r_assign (v := .bool true) rfl) ?_
  refine l_nil ?_
  refine c_ret ?_
  obtain rfl := Option.some.inj H15
  refine ret2 (v1 := .slice p.1 t19.length p.2) (v2 := .bool true) rfl rfl rfl (finX p (i := 0) rfl rfl (Imp.refl _))
end Go.Proofs.Ytohdhdiaahiicaa
