/- EditPixels: the walks, printed by our generator; each follows its model. Conditions: the model yields a value. -/
import Derived.Test.YtngogocmhmfbjaaKEa
namespace Go.Proofs.Ytngogocmhmfbjaa
open Go Go.Vc Go.Md Go.M Go.Lx
set_option maxRecDepth 100000
set_option maxHeartbeats 4000000
set_option linter.unusedVariables false

theorem k16 {a0 : (List Int)} {v0 : Value} {r : Int} {w : World} {h : Heap} (hw : Know h w noS) (f0 : FrS h 1 v0 (a0.map e_i64)) (H : Law_first a0 = some r) : Does Try.prog 16 (List.toArray [v0]) w (fun v w' => v = (.int .i64 r) ∧ Grow w w') := by
  refine enter (n := 15) Try.func16 rfl rfl rfl noS [] (Sat.nil _ _) ?_
  refine c_seq ?_
  refine c_region ?_
  refine l_val rfl rfl rfl (r_assign (v := .int .i64 0) rfl) ?_
  refine l_nil ?_
  refine c_seq ?_
  refine c_seq ?_
  refine c_region ?_
  refine l_val rfl rfl rfl (r_move (v := v0) rfl) ?_
  refine l_val rfl rfl rfl (r_lenF Try.underlying128 rfl f0 rfl) ?_
  refine l_val rfl rfl rfl (r_move (v := .int .i64 0) rfl) ?_
  refine l_nil ?_
  refine c_block ?_
  refine c_fix (σ := Int) (τ := Unit) (fun next1 s => Law_first_l1 a0 next1 s) (fun s t => [(5, v0), (6, .int .i64 (a0.length : Int)), (7, .int .i64 s)]) (fun s t => []) (fun s t => True) 0 () [] H (by exact trivial) (by exact ⟨rfl, rfl, rfl, trivial⟩) (by decide) rfl ?_
  rintro x7_2 _ m1 gg H8 _
  clear H
  replace H8 : Law_first_l1 a0 (it (fun next1 s => Law_first_l1 a0 next1 s) m1) x7_2 = some r := H8
  generalize hn1 : it (fun next1 s => Law_first_l1 a0 next1 s) m1 = next1 at H8
  refine c_tidyF [(5, v0), (6, .int .i64 (a0.length : Int)), (7, .int .i64 x7_2)] [] rfl rfl ?_
  refine c_seq ?_
  refine c_region ?_
  refine l_val rfl rfl rfl (r_lss rfl rfl) ?_
  refine l_nil ?_
  refine c_seq ?_
  refine c_if (b := (decide (x7_2 < (a0.length : Int)))) rfl (fun hb => ?_) (fun hb => ?_)
  · have H9 := cnd_t hb H8; clear H8
    refine c_skip ?_
    refine c_seq ?_
    refine c_block ?_
    refine c_seq ?_
    refine c_region ?_
    obtain ⟨t9, h_t9, H10⟩ := bnd_some H9; clear H9
    refine l_val rfl rfl rfl (r_indexF Try.underlying128 Try.sizeOf26 rfl rfl f0 h_t9) ?_
    refine l_read (fun w hF hS => run_loadG1 (f := e_i64) (i := x7_2) (sz := 1) (j := 0) (v := .int .i64 t9) Try.isAgg26 rfl rfl (f0.row (hw.now hF)) h_t9 rfl) rfl rfl rfl ?_
    refine l_val rfl rfl rfl (r_assign (v := .int .i64 t9) rfl) ?_
    refine l_nil ?_
    refine c_seq ?_
    refine c_region ?_
    refine l_val rfl rfl rfl (r_move (v := .int .i64 t9) rfl) ?_
    refine l_val rfl rfl rfl (r_neq rfl rfl) ?_
    refine l_nil ?_
    refine c_if (b := (decide (t9 ≠ 0))) rfl (fun hb => ?_) (fun hb => ?_)
    · have H11 := cnd_t hb H10; clear H10
      refine c_seq ?_
      refine c_region ?_
      refine l_val rfl rfl rfl (r_move (v := .int .i64 t9) rfl) ?_
      refine l_val rfl rfl rfl (r_assign (v := .int .i64 t9) rfl) ?_
      refine l_nil ?_
      refine c_ret ?_
      obtain rfl := Option.some.inj H11
      refine ret1 (v := .int .i64 t9) rfl rfl (fin rfl)
    · have H12 := cnd_f hb H10; clear H10
      refine c_skip ?_
      refine c_region ?_
      obtain ⟨t14, h_t14, H13⟩ := bnd_some H12; clear H12
      refine l_val rfl rfl rfl (r_addG rfl rfl h_t14) ?_
      refine l_val rfl rfl rfl (r_move (v := .int .i64 t14) rfl) ?_
      refine l_nil ?_
      refine c_close t14 () m1 [] (by exact ⟨rfl, rfl, rfl, trivial⟩) (by decide) rfl (by exact ⟨(by subst hn1; exact H13), trivial⟩) (Nat.lt_succ_self _)
  · have H14 := cnd_f hb H8; clear H8
    refine c_exit ?_
    refine c_seq ?_
    refine c_region ?_
    refine l_val rfl rfl rfl (r_assign (v := .int .i64 0) rfl) ?_
    refine l_nil ?_
    refine c_ret ?_
    obtain rfl := Option.some.inj H14
    refine ret1 (v := .int .i64 0) rfl rfl (fin rfl)
theorem k42 {a0 : Bool} {a1 : Int} {r : Int} (H : Law_unless a0 a1 = some r) : Ret Try.prog 42 [.bool a0, .int .i64 a1] (.int .i64 r) := by
  refine enterRet (n := 7) Try.func42 rfl rfl rfl (fun wd => ?_)
  refine c_seq ?_
  refine c_region ?_
  refine l_val rfl rfl rfl (r_assign (v := .int .i64 0) rfl) ?_
  refine l_nil ?_
  refine c_seq ?_
  refine c_seq ?_
  refine c_region ?_
  refine l_val rfl rfl rfl (r_move (v := .bool a0) rfl) ?_
  refine l_nil ?_
  refine c_if (b := a0) rfl (fun hb => ?_) (fun hb => ?_)
  · have H3 := cnd_t hb H; clear H
    refine c_seq ?_
    refine c_region ?_
    refine l_val rfl rfl rfl (r_assign (v := .int .i64 0) rfl) ?_
    refine l_nil ?_
    refine c_ret ?_
    obtain rfl := Option.some.inj H3
    refine ret1 (v := .int .i64 0) rfl rfl (fin rfl)
  · have H4 := cnd_f hb H; clear H
    refine c_skip ?_
    refine c_seq ?_
    refine c_region ?_
    refine l_val rfl rfl rfl (r_move (v := .int .i64 a1) rfl) ?_
    refine l_val rfl rfl rfl (r_assign (v := .int .i64 a1) rfl) ?_
    refine l_nil ?_
    refine c_ret ?_
    obtain rfl := Option.some.inj H4
    refine ret1 (v := .int .i64 a1) rfl rfl (fin rfl)
theorem k117 {r : (Nat → Int)} (H : edit_straight = some r) : Ret Try.prog 117 [] (.agg (List.toArray (arrC 256 (fun j_ => [.int .u8 (r j_)])))) := by
  refine enterRet (n := 12) Try.func117 rfl rfl rfl (fun wd => ?_)
  refine c_seq ?_
  refine c_region ?_
  refine l_alloc (cs := (arrC 256 (fun j_ => [.int .u8 ((fun _ => 0) j_)]))) Try.zeroValue163 (by kernel_rfl) rfl rfl (fun b2 => ?_)
  refine l_nil ?_
  refine c_seq ?_
  refine c_region ?_
  refine l_alloc (cs := (arrC 256 (fun j_ => [.int .u8 ((fun _ => 0) j_)]))) Try.zeroValue163 (by kernel_rfl) rfl rfl (fun b3 => ?_)
  refine l_nil ?_
  refine c_meet (r := r) (σ := (Nat → Int)) (τ := Unit) (fun s => edit_straight_j1 s) (fun s t => [(0, .pointer (some ⟨b2, 0, none⟩)), (1, .pointer (some ⟨b3, 0, none⟩))]) (fun s t => [cellsC b2 (arrC 256 (fun j_ => [.int .u8 ((fun _ => 0) j_)])) 163, cellsC b3 (arrC 256 (fun j_ => [.int .u8 (s j_)])) 163]) (fun s t => True) ?_ ?_
  · refine c_seq ?_
    refine c_region ?_
    refine l_val rfl rfl rfl (r_move (v := .int .i64 0) rfl) ?_
    refine l_nil ?_
    refine c_block ?_
    refine c_fix (σ := Int × (Nat → Int)) (τ := Unit) (fun next2 s => edit_straight_l2 next2 s.1 s.2) (fun s t => [(0, .pointer (some ⟨b2, 0, none⟩)), (1, .pointer (some ⟨b3, 0, none⟩)), (3, .int .i64 s.1)]) (fun s t => [cellsC b2 (arrC 256 (fun j_ => [.int .u8 ((fun _ => 0) j_)])) 163, cellsC b3 (arrC 256 (fun j_ => [.int .u8 (s.2 j_)])) 163]) (fun s t => True) (0, (fun _ => 0)) () [0, 1] H (by exact trivial) (by exact ⟨rfl, rfl, rfl, trivial⟩) (by decide) rfl ?_
    rintro ⟨x3_2, m_3⟩ _ m2 gg H8 _
    clear H
    replace H8 : edit_straight_l2 (it (fun next2 s => edit_straight_l2 next2 s.1 s.2) m2) x3_2 m_3 = some r := H8
    generalize hn2 : it (fun next2 s => edit_straight_l2 next2 s.1 s.2) m2 = next2 at H8
    refine c_tidyF [(0, .pointer (some ⟨b2, 0, none⟩)), (1, .pointer (some ⟨b3, 0, none⟩)), (3, .int .i64 x3_2)] [cellsC b2 (arrC 256 (fun j_ => [.int .u8 ((fun _ => 0) j_)])) 163, cellsC b3 (arrC 256 (fun j_ => [.int .u8 (m_3 j_)])) 163] rfl rfl ?_
    refine c_seq ?_
    refine c_region ?_
    refine l_val rfl rfl rfl (r_lss rfl rfl) ?_
    refine l_nil ?_
    refine c_seq ?_
    refine c_if (b := (decide (x3_2 < 256))) rfl (fun hb => ?_) (fun hb => ?_)
    · have H9 := cnd_t hb H8; clear H8
      refine c_skip ?_
      refine c_seq ?_
      refine c_block ?_
      refine c_seq ?_
      refine c_region ?_
      refine l_val rfl rfl rfl (r_move (v := .int .i64 x3_2) rfl) ?_
      refine l_val rfl rfl rfl (r_assign (v := .int .i64 x3_2) rfl) ?_
      refine l_nil ?_
      refine c_region ?_
      refine l_val rfl rfl rfl (r_move (v := .int .i64 x3_2) rfl) ?_
      refine l_val rfl rfl rfl (r_move (v := .int .i64 x3_2) rfl) ?_
      refine l_val rfl rfl rfl (r_convG Try.runUnderlying3 Try.runUnderlying5 rfl (wr_u8 _)) ?_
      obtain ⟨k9, h_k9, H10⟩ := bnd_some H9; clear H9
      refine l_val rfl rfl rfl (r_indexPG Try.runUnderlying163 Try.sizeOf5 rfl rfl h_k9) ?_
      refine l_store (i := 1) (vs := [.int .u8 (wU8 x3_2)]) (cs' := (arrC 256 (fun j_ => [.int .u8 ((setA m_3 k9 (wU8 x3_2)) j_)]))) Try.sizeOf5 rfl rfl rfl rfl rfl rfl rfl rfl (wr_arr (pre := []) (post := []) (f := fun (j_ : Int) => [.int .u8 j_]) (n := 256) (sz := 1) (a := m_3) (x := (wU8 x3_2)) (arr_whole _ _) rfl (fun _ => rfl) (gIx_lt h_k9) rfl (arr_whole _ _)) ?_
      refine l_nil ?_
      refine c_region ?_
      obtain ⟨t10, h_t10, H11⟩ := bnd_some H10; clear H10
      refine l_val rfl rfl rfl (r_addG rfl rfl h_t10) ?_
      refine l_val rfl rfl rfl (r_move (v := .int .i64 t10) rfl) ?_
      refine l_nil ?_
      refine c_close (t10, (setA m_3 k9 (wU8 x3_2))) () m2 [0, 1] (by exact ⟨rfl, rfl, rfl, trivial⟩) (by decide) rfl (by exact ⟨(by subst hn2; exact H11), trivial⟩) (Nat.lt_succ_self _)
    · have H12 := cnd_f hb H8; clear H8
      refine c_exit ?_
      refine c_close m_3 () 0 [0, 1] (by exact ⟨rfl, rfl, trivial⟩) (by decide) rfl (by exact ⟨H12, trivial⟩) (Nat.lt_succ_self _)
  · rintro m _ gg H7 _
    replace H7 : edit_straight_j1 m = some r := H7
    refine c_tidyF [(0, .pointer (some ⟨b2, 0, none⟩)), (1, .pointer (some ⟨b3, 0, none⟩))] [cellsC b2 (arrC 256 (fun j_ => [.int .u8 ((fun _ => 0) j_)])) 163, cellsC b3 (arrC 256 (fun j_ => [.int .u8 (m j_)])) 163] rfl rfl ?_
    refine c_seq ?_
    refine c_region ?_
    refine l_loadN (i := 1) (vs := (arrC 256 (fun j_ => [.int .u8 (m j_)]))) Try.isAgg163 Try.sizeOf163 rfl rfl rfl rfl (rd_whole (arrC_len (fun _ => rfl))) ?_
    refine l_store (i := 0) (vs := (arrC 256 (fun j_ => [.int .u8 (m j_)]))) (cs' := (arrC 256 (fun j_ => [.int .u8 (m j_)]))) Try.sizeOf163 rfl rfl rfl rfl (arrC_len (fun _ => rfl)) rfl (arrC_one (fun _ => rfl)) rfl (wr_whole ((arrC_len (fun _ => rfl)).trans (arrC_len (fun _ => rfl)).symm)) ?_
    refine l_nil ?_
    refine c_ret ?_
    obtain rfl := Option.some.inj H7
    refine retC (i := 0) (vs := (arrC 256 (fun j_ => [.int .u8 (m j_)]))) Try.isAgg163 Try.sizeOf163 rfl rfl rfl (rd_whole (arrC_len (fun _ => rfl))) (fin rfl)
theorem k197 {a0 : Int} {r : Int} (H : edit_clamp a0 = some r) : Ret Try.prog 197 [.int .i64 a0] (.int .u8 r) := by
  refine enterRet (n := 7) Try.func197 rfl rfl rfl (fun wd => ?_)
  refine c_seq ?_
  refine c_region ?_
  refine l_val rfl rfl rfl (r_assign (v := .int .u8 0) rfl) ?_
  refine l_nil ?_
  refine c_seq ?_
  refine c_region ?_
  refine l_val rfl rfl rfl (r_move (v := .int .i64 a0) rfl) ?_
  refine l_val rfl rfl rfl (r_max rfl rfl) ?_
  refine l_val rfl rfl rfl (r_min rfl rfl) ?_
  refine l_val rfl rfl rfl (r_convG Try.runUnderlying3 Try.runUnderlying5 rfl (wr_u8 _)) ?_
  refine l_val rfl rfl rfl (r_assign (v := .int .u8 (wU8 (min (max a0 0) 255))) rfl) ?_
  refine l_nil ?_
  refine c_ret ?_
  obtain rfl := Option.some.inj H
  refine ret1 (v := .int .u8 (wU8 (min (max a0 0) 255))) rfl rfl (fin rfl)
theorem k193 {a0 : T_edit_Step} {a1 : Int} {r : Int} (H : edit_Step_light a0 a1 = some r) : Ret Try.prog 193 [.agg #[.int .i64 a0.Kind, .int .i64 a0.A, .int .i64 a0.B, .int .i64 a0.C, .int .i64 a0.D], .int .u8 a1] (.int .u8 r) := by
  refine enterRet (n := 11) Try.func193 rfl rfl rfl (fun wd => ?_)
  refine c_seq ?_
  refine c_region ?_
  refine l_box (cs := [.int .i64 a0.Kind, .int .i64 a0.A, .int .i64 a0.B, .int .i64 a0.C, .int .i64 a0.D]) rfl rfl rfl rfl (fun b1 => ?_)
  refine l_val rfl rfl rfl (r_assign (v := .int .u8 0) rfl) ?_
  refine l_nil ?_
  refine c_seq ?_
  refine c_region ?_
  refine l_val rfl rfl rfl (r_move (v := .int .u8 a1) rfl) ?_
  obtain ⟨t6, h_t6, H4⟩ := bnd_some H; clear H
  refine l_val rfl rfl rfl (r_convG Try.runUnderlying5 Try.runUnderlying3 rfl (gK_i64 h_t6)) ?_
  refine l_val rfl rfl rfl (r_field Try.runUnderlying69 rfl Try.sizeOf3 rfl rfl) ?_
  refine l_load1 (i := 0) (v := .int .i64 a0.A) Try.isAgg3 rfl rfl rfl rfl rfl ?_
  obtain ⟨t9, h_t9, H5⟩ := bnd_some H4; clear H4
  refine l_val rfl rfl rfl (r_addG rfl rfl h_t9) ?_
  obtain ⟨t10, h_t10, H6⟩ := bnd_some H5; clear H5
  refine l_call (k197 h_t10) Try.call197 rfl rfl rfl ?_
  refine l_val rfl rfl rfl (r_assign (v := .int .u8 t10) rfl) ?_
  refine l_nil ?_
  refine c_ret ?_
  obtain rfl := Option.some.inj H6
  refine ret1 (v := .int .u8 t10) rfl rfl (fin rfl)
theorem k198 {a0 : Int} {a1 : Int} {r : Int} (H : edit_floor a0 a1 = some r) : Ret Try.prog 198 [.int .i64 a0, .int .i64 a1] (.int .i64 r) := by
  refine enterRet (n := 16) Try.func198 rfl rfl rfl (fun wd => ?_)
  refine c_seq ?_
  refine c_region ?_
  refine l_val rfl rfl rfl (r_assign (v := .int .i64 0) rfl) ?_
  refine l_nil ?_
  refine c_seq ?_
  refine c_region ?_
  refine l_val rfl rfl rfl (r_move (v := .int .i64 a0) rfl) ?_
  refine l_val rfl rfl rfl (r_move (v := .int .i64 a1) rfl) ?_
  obtain ⟨t8, h_t8, H6⟩ := bnd_some H; clear H
  refine l_val rfl rfl rfl (r_quoG rfl rfl h_t8) ?_
  refine l_val rfl rfl rfl (r_assign (v := .int .i64 t8) rfl) ?_
  refine l_nil ?_
  refine c_seq ?_
  refine c_seq ?_
  refine c_region ?_
  refine l_val rfl rfl rfl (r_move (v := .int .i64 a0) rfl) ?_
  refine l_val rfl rfl rfl (r_move (v := .int .i64 a1) rfl) ?_
  obtain ⟨t11, h_t11, H7⟩ := bnd_some H6; clear H6
  refine l_val rfl rfl rfl (r_remG rfl rfl h_t11) ?_
  refine l_val rfl rfl rfl (r_lss rfl rfl) ?_
  refine l_nil ?_
  refine c_if (b := (decide (t11 < 0))) rfl (fun hb => ?_) (fun hb => ?_)
  · have H8 := cnd_t hb H7; clear H7
    refine c_region ?_
    refine l_val rfl rfl rfl (r_move (v := .int .i64 t8) rfl) ?_
    obtain ⟨t14, h_t14, H9⟩ := bnd_some H8; clear H8
    refine l_val rfl rfl rfl (r_subG rfl rfl h_t14) ?_
    refine l_val rfl rfl rfl (r_assign (v := .int .i64 t14) rfl) ?_
    refine l_nil ?_
    refine c_seq ?_
    refine c_region ?_
    refine l_val rfl rfl rfl (r_move (v := .int .i64 t14) rfl) ?_
    refine l_val rfl rfl rfl (r_assign (v := .int .i64 t14) rfl) ?_
    refine l_nil ?_
    refine c_ret ?_
    obtain rfl := Option.some.inj H9
    refine ret1 (v := .int .i64 t14) rfl rfl (fin rfl)
  · have H10 := cnd_f hb H7; clear H7
    refine c_skip ?_
    refine c_seq ?_
    refine c_region ?_
    refine l_val rfl rfl rfl (r_move (v := .int .i64 t8) rfl) ?_
    refine l_val rfl rfl rfl (r_assign (v := .int .i64 t8) rfl) ?_
    refine l_nil ?_
    refine c_ret ?_
    obtain rfl := Option.some.inj H10
    refine ret1 (v := .int .i64 t8) rfl rfl (fin rfl)
theorem k194 {a0 : T_edit_Step} {a1 : Int} {r : Int} (H : edit_Step_spread a0 a1 = some r) : Ret Try.prog 194 [.agg #[.int .i64 a0.Kind, .int .i64 a0.A, .int .i64 a0.B, .int .i64 a0.C, .int .i64 a0.D], .int .u8 a1] (.int .u8 r) := by
  refine enterRet (n := 14) Try.func194 rfl rfl rfl (fun wd => ?_)
  refine c_seq ?_
  refine c_region ?_
  refine l_box (cs := [.int .i64 a0.Kind, .int .i64 a0.A, .int .i64 a0.B, .int .i64 a0.C, .int .i64 a0.D]) rfl rfl rfl rfl (fun b1 => ?_)
  refine l_val rfl rfl rfl (r_assign (v := .int .u8 0) rfl) ?_
  refine l_nil ?_
  refine c_seq ?_
  refine c_region ?_
  refine l_val rfl rfl rfl (r_move (v := .int .u8 a1) rfl) ?_
  obtain ⟨t6, h_t6, H7⟩ := bnd_some H; clear H
  refine l_val rfl rfl rfl (r_convG Try.runUnderlying5 Try.runUnderlying3 rfl (gK_i64 h_t6)) ?_
  obtain ⟨t7, h_t7, H8⟩ := bnd_some H7; clear H7
  refine l_val rfl rfl rfl (r_subG rfl rfl h_t7) ?_
  refine l_val rfl rfl rfl (r_field Try.runUnderlying69 rfl Try.sizeOf3 rfl rfl) ?_
  refine l_load1 (i := 0) (v := .int .i64 a0.A) Try.isAgg3 rfl rfl rfl rfl rfl ?_
  obtain ⟨t10, h_t10, H9⟩ := bnd_some H8; clear H8
  refine l_val rfl rfl rfl (r_mulG rfl rfl h_t10) ?_
  obtain ⟨t11, h_t11, H10⟩ := bnd_some H9; clear H9
  refine l_call (k198 h_t11) Try.call198 rfl rfl rfl ?_
  obtain ⟨t12, h_t12, H11⟩ := bnd_some H10; clear H10
  refine l_val rfl rfl rfl (r_addG rfl rfl h_t12) ?_
  obtain ⟨t13, h_t13, H12⟩ := bnd_some H11; clear H11
  refine l_call (k197 h_t13) Try.call197 rfl rfl rfl ?_
  refine l_val rfl rfl rfl (r_assign (v := .int .u8 t13) rfl) ?_
  refine l_nil ?_
  refine c_ret ?_
  obtain rfl := Option.some.inj H12
  refine ret1 (v := .int .u8 t13) rfl rfl (fin rfl)
theorem k195 {a0 : T_edit_Step} {a1 : Int} {r : Int} (H : edit_Step_levels a0 a1 = some r) : Ret Try.prog 195 [.agg #[.int .i64 a0.Kind, .int .i64 a0.A, .int .i64 a0.B, .int .i64 a0.C, .int .i64 a0.D], .int .u8 a1] (.int .u8 r) := by
  refine enterRet (n := 18) Try.func195 rfl rfl rfl (fun wd => ?_)
  refine c_seq ?_
  refine c_region ?_
  refine l_box (cs := [.int .i64 a0.Kind, .int .i64 a0.A, .int .i64 a0.B, .int .i64 a0.C, .int .i64 a0.D]) rfl rfl rfl rfl (fun b1 => ?_)
  refine l_val rfl rfl rfl (r_assign (v := .int .u8 0) rfl) ?_
  refine l_nil ?_
  refine c_seq ?_
  refine c_region ?_
  refine l_val rfl rfl rfl (r_move (v := .int .u8 a1) rfl) ?_
  obtain ⟨t6, h_t6, H7⟩ := bnd_some H; clear H
  refine l_val rfl rfl rfl (r_convG Try.runUnderlying5 Try.runUnderlying3 rfl (gK_i64 h_t6)) ?_
  refine l_val rfl rfl rfl (r_field Try.runUnderlying69 rfl Try.sizeOf3 rfl rfl) ?_
  refine l_load1 (i := 0) (v := .int .i64 a0.A) Try.isAgg3 rfl rfl rfl rfl rfl ?_
  obtain ⟨t9, h_t9, H8⟩ := bnd_some H7; clear H7
  refine l_val rfl rfl rfl (r_subG rfl rfl h_t9) ?_
  obtain ⟨t10, h_t10, H9⟩ := bnd_some H8; clear H8
  refine l_val rfl rfl rfl (r_mulG rfl rfl h_t10) ?_
  refine l_val rfl rfl rfl (r_field Try.runUnderlying69 rfl Try.sizeOf3 rfl rfl) ?_
  refine l_load1 (i := 0) (v := .int .i64 a0.B) Try.isAgg3 rfl rfl rfl rfl rfl ?_
  refine l_val rfl rfl rfl (r_field Try.runUnderlying69 rfl Try.sizeOf3 rfl rfl) ?_
  refine l_load1 (i := 0) (v := .int .i64 a0.A) Try.isAgg3 rfl rfl rfl rfl rfl ?_
  obtain ⟨t15, h_t15, H10⟩ := bnd_some H9; clear H9
  refine l_val rfl rfl rfl (r_subG rfl rfl h_t15) ?_
  obtain ⟨t16, h_t16, H11⟩ := bnd_some H10; clear H10
  refine l_call (k198 h_t16) Try.call198 rfl rfl rfl ?_
  obtain ⟨t17, h_t17, H12⟩ := bnd_some H11; clear H11
  refine l_call (k197 h_t17) Try.call197 rfl rfl rfl ?_
  refine l_val rfl rfl rfl (r_assign (v := .int .u8 t17) rfl) ?_
  refine l_nil ?_
  refine c_ret ?_
  obtain rfl := Option.some.inj H12
  refine ret1 (v := .int .u8 t17) rfl rfl (fin rfl)
theorem k196 {a0 : T_edit_Step} {a1 : Int} {r : Int} (H : edit_Step_invert a0 a1 = some r) : Ret Try.prog 196 [.agg #[.int .i64 a0.Kind, .int .i64 a0.A, .int .i64 a0.B, .int .i64 a0.C, .int .i64 a0.D], .int .u8 a1] (.int .u8 r) := by
  refine enterRet (n := 7) Try.func196 rfl rfl rfl (fun wd => ?_)
  refine c_seq ?_
  refine c_region ?_
  refine l_box (cs := [.int .i64 a0.Kind, .int .i64 a0.A, .int .i64 a0.B, .int .i64 a0.C, .int .i64 a0.D]) rfl rfl rfl rfl (fun b1 => ?_)
  refine l_val rfl rfl rfl (r_assign (v := .int .u8 0) rfl) ?_
  refine l_nil ?_
  refine c_seq ?_
  refine c_region ?_
  refine l_val rfl rfl rfl (r_move (v := .int .u8 a1) rfl) ?_
  refine l_val rfl rfl rfl (r_subW rfl rfl (wr_u8 _)) ?_
  refine l_val rfl rfl rfl (r_assign (v := .int .u8 (wU8 (255 - a1))) rfl) ?_
  refine l_nil ?_
  refine c_ret ?_
  obtain rfl := Option.some.inj H
  refine ret1 (v := .int .u8 (wU8 (255 - a1))) rfl rfl (fin rfl)
theorem k154 {a0 : T_edit_Step} {r : (Option (Int → Option (Int)))} (H : edit_Step_byByte a0 = some r) : RetF Try.prog 154 [.agg #[.int .i64 a0.Kind, .int .i64 a0.A, .int .i64 a0.B, .int .i64 a0.C, .int .i64 a0.D]] (fun v => FnV Try.prog v r (fun g => fnR_func_uint8_uint8 g)) := by
  refine enterRetF (n := 21) Try.func154 rfl rfl rfl (fun wd => ?_)
  refine c_seq ?_
  refine c_region ?_
  refine l_box (cs := [.int .i64 a0.Kind, .int .i64 a0.A, .int .i64 a0.B, .int .i64 a0.C, .int .i64 a0.D]) rfl rfl rfl rfl (fun b1 => ?_)
  refine l_val rfl rfl rfl (r_assign (v := .nilFunc) rfl) ?_
  refine l_nil ?_
  refine c_seq ?_
  refine c_seq ?_
  refine c_region ?_
  refine l_val rfl rfl rfl (r_field Try.runUnderlying69 rfl Try.sizeOf3 rfl rfl) ?_
  refine l_load1 (i := 0) (v := .int .i64 a0.Kind) Try.isAgg3 rfl rfl rfl rfl rfl ?_
  refine l_nil ?_
  refine c_block ?_
  refine c_seq ?_
  refine c_region ?_
  refine l_val rfl rfl rfl (r_eql rfl rfl) ?_
  refine l_val rfl rfl rfl (r_assign (v := .bool (decide (a0.Kind = 4))) rfl) ?_
  refine l_nil ?_
  refine c_if (b := (decide (a0.Kind = 4))) rfl (fun hb => ?_) (fun hb => ?_)
  · have H9 := cnd_t hb H; clear H
    refine c_seq ?_
    refine c_region ?_
    refine l_loadN (i := 0) (vs := [.int .i64 a0.Kind, .int .i64 a0.A, .int .i64 a0.B, .int .i64 a0.C, .int .i64 a0.D]) Try.isAgg69 Try.sizeOf69 rfl rfl rfl rfl rfl ?_
    refine l_val rfl rfl rfl (r_makeFnP (pre := #[.agg #[.int .i64 a0.Kind, .int .i64 a0.A, .int .i64 a0.B, .int .i64 a0.C, .int .i64 a0.D]]) (caps := #[]) rfl rfl) ?_
    refine l_val rfl rfl rfl (r_assign (v := .func (.func 193) #[.agg #[.int .i64 a0.Kind, .int .i64 a0.A, .int .i64 a0.B, .int .i64 a0.C, .int .i64 a0.D]] #[]) rfl) ?_
    refine l_nil ?_
    refine c_ret ?_
    obtain rfl := Option.some.inj H9
    refine ret1 (v := .func (.func 193) #[.agg #[.int .i64 a0.Kind, .int .i64 a0.A, .int .i64 a0.B, .int .i64 a0.C, .int .i64 a0.D]] #[]) rfl rfl (finF (φ := fun v => FnV Try.prog v (some (edit_Step_light a0)) (fun g => fnR_func_uint8_uint8 g)) (FnV.mk (g := (edit_Step_light a0)) (R := fun g => fnR_func_uint8_uint8 g) (fun h_ => (FnH.mk ⟨193, #[.agg #[.int .i64 a0.Kind, .int .i64 a0.A, .int .i64 a0.B, .int .i64 a0.C, .int .i64 a0.D]], #[], rfl, Try.call193, fun args2 post2 w2 hk2 hR2 => by obtain ⟨a0_, r_, rfl, H_, rfl⟩ := hR2; exact k193 H_ w2⟩))))
  · have H10 := cnd_f hb H; clear H
    refine c_seq ?_
    refine c_region ?_
    refine l_val rfl rfl rfl (r_eql rfl rfl) ?_
    refine l_val rfl rfl rfl (r_assign (v := .bool (decide (a0.Kind = 5))) rfl) ?_
    refine l_nil ?_
    refine c_if (b := (decide (a0.Kind = 5))) rfl (fun hb => ?_) (fun hb => ?_)
    · have H11 := cnd_t hb H10; clear H10
      refine c_seq ?_
      refine c_region ?_
      refine l_loadN (i := 0) (vs := [.int .i64 a0.Kind, .int .i64 a0.A, .int .i64 a0.B, .int .i64 a0.C, .int .i64 a0.D]) Try.isAgg69 Try.sizeOf69 rfl rfl rfl rfl rfl ?_
      refine l_val rfl rfl rfl (r_makeFnP (pre := #[.agg #[.int .i64 a0.Kind, .int .i64 a0.A, .int .i64 a0.B, .int .i64 a0.C, .int .i64 a0.D]]) (caps := #[]) rfl rfl) ?_
      refine l_val rfl rfl rfl (r_assign (v := .func (.func 194) #[.agg #[.int .i64 a0.Kind, .int .i64 a0.A, .int .i64 a0.B, .int .i64 a0.C, .int .i64 a0.D]] #[]) rfl) ?_
      refine l_nil ?_
      refine c_ret ?_
      obtain rfl := Option.some.inj H11
      refine ret1 (v := .func (.func 194) #[.agg #[.int .i64 a0.Kind, .int .i64 a0.A, .int .i64 a0.B, .int .i64 a0.C, .int .i64 a0.D]] #[]) rfl rfl (finF (φ := fun v => FnV Try.prog v (some (edit_Step_spread a0)) (fun g => fnR_func_uint8_uint8 g)) (FnV.mk (g := (edit_Step_spread a0)) (R := fun g => fnR_func_uint8_uint8 g) (fun h_ => (FnH.mk ⟨194, #[.agg #[.int .i64 a0.Kind, .int .i64 a0.A, .int .i64 a0.B, .int .i64 a0.C, .int .i64 a0.D]], #[], rfl, Try.call194, fun args2 post2 w2 hk2 hR2 => by obtain ⟨a0_, r_, rfl, H_, rfl⟩ := hR2; exact k194 H_ w2⟩))))
    · have H12 := cnd_f hb H10; clear H10
      refine c_seq ?_
      refine c_region ?_
      refine l_val rfl rfl rfl (r_eql rfl rfl) ?_
      refine l_val rfl rfl rfl (r_assign (v := .bool (decide (a0.Kind = 6))) rfl) ?_
      refine l_nil ?_
      refine c_if (b := (decide (a0.Kind = 6))) rfl (fun hb => ?_) (fun hb => ?_)
      · have H13 := cnd_t hb H12; clear H12
        refine c_seq ?_
        refine c_region ?_
        refine l_loadN (i := 0) (vs := [.int .i64 a0.Kind, .int .i64 a0.A, .int .i64 a0.B, .int .i64 a0.C, .int .i64 a0.D]) Try.isAgg69 Try.sizeOf69 rfl rfl rfl rfl rfl ?_
        refine l_val rfl rfl rfl (r_makeFnP (pre := #[.agg #[.int .i64 a0.Kind, .int .i64 a0.A, .int .i64 a0.B, .int .i64 a0.C, .int .i64 a0.D]]) (caps := #[]) rfl rfl) ?_
        refine l_val rfl rfl rfl (r_assign (v := .func (.func 195) #[.agg #[.int .i64 a0.Kind, .int .i64 a0.A, .int .i64 a0.B, .int .i64 a0.C, .int .i64 a0.D]] #[]) rfl) ?_
        refine l_nil ?_
        refine c_ret ?_
        obtain rfl := Option.some.inj H13
        refine ret1 (v := .func (.func 195) #[.agg #[.int .i64 a0.Kind, .int .i64 a0.A, .int .i64 a0.B, .int .i64 a0.C, .int .i64 a0.D]] #[]) rfl rfl (finF (φ := fun v => FnV Try.prog v (some (edit_Step_levels a0)) (fun g => fnR_func_uint8_uint8 g)) (FnV.mk (g := (edit_Step_levels a0)) (R := fun g => fnR_func_uint8_uint8 g) (fun h_ => (FnH.mk ⟨195, #[.agg #[.int .i64 a0.Kind, .int .i64 a0.A, .int .i64 a0.B, .int .i64 a0.C, .int .i64 a0.D]], #[], rfl, Try.call195, fun args2 post2 w2 hk2 hR2 => by obtain ⟨a0_, r_, rfl, H_, rfl⟩ := hR2; exact k195 H_ w2⟩))))
      · have H14 := cnd_f hb H12; clear H12
        refine c_seq ?_
        refine c_region ?_
        refine l_val rfl rfl rfl (r_eql rfl rfl) ?_
        refine l_val rfl rfl rfl (r_assign (v := .bool (decide (a0.Kind = 9))) rfl) ?_
        refine l_nil ?_
        refine c_if (b := (decide (a0.Kind = 9))) rfl (fun hb => ?_) (fun hb => ?_)
        · have H15 := cnd_t hb H14; clear H14
          refine c_seq ?_
          refine c_region ?_
          refine l_loadN (i := 0) (vs := [.int .i64 a0.Kind, .int .i64 a0.A, .int .i64 a0.B, .int .i64 a0.C, .int .i64 a0.D]) Try.isAgg69 Try.sizeOf69 rfl rfl rfl rfl rfl ?_
          refine l_val rfl rfl rfl (r_makeFnP (pre := #[.agg #[.int .i64 a0.Kind, .int .i64 a0.A, .int .i64 a0.B, .int .i64 a0.C, .int .i64 a0.D]]) (caps := #[]) rfl rfl) ?_
          refine l_val rfl rfl rfl (r_assign (v := .func (.func 196) #[.agg #[.int .i64 a0.Kind, .int .i64 a0.A, .int .i64 a0.B, .int .i64 a0.C, .int .i64 a0.D]] #[]) rfl) ?_
          refine l_nil ?_
          refine c_ret ?_
          obtain rfl := Option.some.inj H15
          refine ret1 (v := .func (.func 196) #[.agg #[.int .i64 a0.Kind, .int .i64 a0.A, .int .i64 a0.B, .int .i64 a0.C, .int .i64 a0.D]] #[]) rfl rfl (finF (φ := fun v => FnV Try.prog v (some (edit_Step_invert a0)) (fun g => fnR_func_uint8_uint8 g)) (FnV.mk (g := (edit_Step_invert a0)) (R := fun g => fnR_func_uint8_uint8 g) (fun h_ => (FnH.mk ⟨196, #[.agg #[.int .i64 a0.Kind, .int .i64 a0.A, .int .i64 a0.B, .int .i64 a0.C, .int .i64 a0.D]], #[], rfl, Try.call196, fun args2 post2 w2 hk2 hR2 => by obtain ⟨a0_, r_, rfl, H_, rfl⟩ := hR2; exact k196 H_ w2⟩))))
        · have H16 := cnd_f hb H14; clear H14
          refine c_skip ?_
          refine c_seq ?_
          refine c_region ?_
          refine l_val rfl rfl rfl (r_assign (v := .nilFunc) rfl) ?_
          refine l_nil ?_
          refine c_ret ?_
          obtain rfl := Option.some.inj H16
          refine ret1 (v := .nilFunc) rfl rfl (finF (φ := fun v => FnV Try.prog v none (fun g => fnR_func_uint8_uint8 g)) FnV.nil)
theorem k118 {a0 : (Nat → Int)} {a1 : T_edit_Step} {r : (Nat → Int) × Bool} (H : edit_curve_after a0 a1 = some r) : Ret Try.prog 118 [.agg (List.toArray (arrC 256 (fun j_ => [.int .u8 (a0 j_)]))), .agg #[.int .i64 a1.Kind, .int .i64 a1.A, .int .i64 a1.B, .int .i64 a1.C, .int .i64 a1.D]] (.tuple #[.agg (List.toArray (arrC 256 (fun j_ => [.int .u8 (r.1 j_)]))), .bool r.2]) := by
  refine enterRet (n := 26) Try.func118 rfl rfl rfl (fun wd => ?_)
  refine c_seq ?_
  refine c_region ?_
  refine l_box (cs := (arrC 256 (fun j_ => [.int .u8 (a0 j_)]))) rfl rfl rfl rfl (fun b3 => ?_)
  refine l_box (cs := [.int .i64 a1.Kind, .int .i64 a1.A, .int .i64 a1.B, .int .i64 a1.C, .int .i64 a1.D]) rfl rfl rfl rfl (fun b4 => ?_)
  refine l_alloc (cs := (arrC 256 (fun j_ => [.int .u8 ((fun _ => 0) j_)]))) Try.zeroValue163 (by kernel_rfl) rfl rfl (fun b5 => ?_)
  refine l_val rfl rfl rfl (r_assign (v := .bool false) rfl) ?_
  refine l_nil ?_
  refine c_seq ?_
  refine c_region ?_
  refine l_loadN (i := 1) (vs := [.int .i64 a1.Kind, .int .i64 a1.A, .int .i64 a1.B, .int .i64 a1.C, .int .i64 a1.D]) Try.isAgg69 Try.sizeOf69 rfl rfl rfl rfl rfl ?_
  obtain ⟨t10, h_t10, H13⟩ := bnd_some H; clear H
  refine l_callF (k154 h_t10) Try.call154 rfl rfl rfl (fun fv hf => ?_)
  refine l_val rfl rfl rfl (r_assign (v := fv) rfl) ?_
  refine l_nil ?_
  refine c_seq ?_
  refine c_seq ?_
  refine c_region ?_
  refine l_val rfl rfl rfl (r_move (v := fv) rfl) ?_
  refine l_val rfl rfl rfl (r_eqlFn Try.underlying208 rfl rfl hf) ?_
  refine l_nil ?_
  refine c_if (b := (Option.isNone t10)) rfl (fun hb => ?_) (fun hb => ?_)
  · have H14 := cnd_t hb H13; clear H13
    refine c_seq ?_
    refine c_region ?_
    refine l_loadN (i := 0) (vs := (arrC 256 (fun j_ => [.int .u8 (a0 j_)]))) Try.isAgg163 Try.sizeOf163 rfl rfl rfl rfl (rd_whole (arrC_len (fun _ => rfl))) ?_
    refine l_store (i := 2) (vs := (arrC 256 (fun j_ => [.int .u8 (a0 j_)]))) (cs' := (arrC 256 (fun j_ => [.int .u8 (a0 j_)]))) Try.sizeOf163 rfl rfl rfl rfl (arrC_len (fun _ => rfl)) rfl (arrC_one (fun _ => rfl)) rfl (wr_whole ((arrC_len (fun _ => rfl)).trans (arrC_len (fun _ => rfl)).symm)) ?_
    refine l_val rfl rfl rfl (r_assign (v := .bool false) rfl) ?_
    refine l_nil ?_
    refine c_ret ?_
    obtain rfl := Option.some.inj H14
    refine retCt (i := 2) (vs := (arrC 256 (fun j_ => [.int .u8 (a0 j_)]))) (v2 := .bool false) Try.isAgg163 Try.sizeOf163 rfl rfl rfl (rd_whole (arrC_len (fun _ => rfl))) rfl (fin rfl)
  · have H15 := cnd_f hb H13; clear H13
    refine c_skip ?_
    refine c_meet (r := r) (σ := (Nat → Int)) (τ := Unit) (fun s => edit_curve_after_j1 s) (fun s t => [(2, .pointer (some ⟨b3, 0, none⟩)), (4, .pointer (some ⟨b5, 0, none⟩))]) (fun s t => [cellsC b3 (arrC 256 (fun j_ => [.int .u8 (s j_)])) 163, cellsC b5 (arrC 256 (fun j_ => [.int .u8 ((fun _ => 0) j_)])) 163]) (fun s t => True) ?_ ?_
    · refine c_seq ?_
      refine c_region ?_
      refine l_loadN (i := 0) (vs := (arrC 256 (fun j_ => [.int .u8 (a0 j_)]))) Try.isAgg163 Try.sizeOf163 rfl rfl rfl rfl (rd_whole (arrC_len (fun _ => rfl))) ?_
      refine l_val rfl rfl rfl (r_move (v := .int .i64 0) rfl) ?_
      refine l_nil ?_
      refine c_block ?_
      refine c_sel [0, 2] [cellsC b3 (arrC 256 (fun j_ => [.int .u8 (a0 j_)])) 163, cellsC b5 (arrC 256 (fun j_ => [.int .u8 ((fun _ => 0) j_)])) 163] rfl (by decide) ?_
      refine c_fix (σ := Int × (Nat → Int)) (τ := Unit) (fun next2 s => edit_curve_after_l2 a0 t10 next2 s.1 s.2) (fun s t => [(2, .pointer (some ⟨b3, 0, none⟩)), (4, .pointer (some ⟨b5, 0, none⟩)), (6, fv), (14, .agg (List.toArray (arrC 256 (fun j_ => [.int .u8 (a0 j_)])))), (15, .int .i64 s.1)]) (fun s t => [cellsC b3 (arrC 256 (fun j_ => [.int .u8 (s.2 j_)])) 163, cellsC b5 (arrC 256 (fun j_ => [.int .u8 ((fun _ => 0) j_)])) 163]) (fun s t => True) (0, a0) () [0, 1] H15 (by exact trivial) (by exact ⟨rfl, rfl, rfl, rfl, rfl, trivial⟩) (by decide) rfl ?_
      rintro ⟨x15_2, m_3⟩ _ m2 gg H17 _
      clear H15
      replace H17 : edit_curve_after_l2 a0 t10 (it (fun next2 s => edit_curve_after_l2 a0 t10 next2 s.1 s.2) m2) x15_2 m_3 = some r := H17
      generalize hn2 : it (fun next2 s => edit_curve_after_l2 a0 t10 next2 s.1 s.2) m2 = next2 at H17
      refine c_tidyF [(2, .pointer (some ⟨b3, 0, none⟩)), (4, .pointer (some ⟨b5, 0, none⟩)), (6, fv), (14, .agg (List.toArray (arrC 256 (fun j_ => [.int .u8 (a0 j_)])))), (15, .int .i64 x15_2)] [cellsC b3 (arrC 256 (fun j_ => [.int .u8 (m_3 j_)])) 163, cellsC b5 (arrC 256 (fun j_ => [.int .u8 ((fun _ => 0) j_)])) 163] rfl rfl ?_
      refine c_seq ?_
      refine c_region ?_
      refine l_val rfl rfl rfl (r_lss rfl rfl) ?_
      refine l_nil ?_
      refine c_seq ?_
      refine c_if (b := (decide (x15_2 < 256))) rfl (fun hb => ?_) (fun hb => ?_)
      · have H18 := cnd_t hb H17; clear H17
        refine c_skip ?_
        refine c_seq ?_
        refine c_block ?_
        refine c_seq ?_
        refine c_region ?_
        refine l_val rfl rfl rfl (r_move (v := .int .i64 x15_2) rfl) ?_
        obtain ⟨k18, h_k18, H19⟩ := bnd_some H18; clear H18
        refine l_val rfl rfl rfl (r_indexAG (f := fun j_ => .int .u8 (a0 j_)) Try.runUnderlying163 Try.isAgg5 Try.sizeOf5 rfl rfl rfl h_k18) ?_
        refine l_val rfl rfl rfl (r_assign (v := .int .i64 x15_2) rfl) ?_
        refine l_val rfl rfl rfl (r_assign (v := .int .u8 (a0 k18)) rfl) ?_
        refine l_nil ?_
        refine c_region ?_
        refine l_val rfl rfl rfl (r_move (v := .int .i64 x15_2) rfl) ?_
        refine l_val rfl rfl rfl (r_move (v := fv) rfl) ?_
        refine l_val rfl rfl rfl (r_move (v := .int .u8 (a0 k18)) rfl) ?_
        obtain ⟨g22, h_g22, H20⟩ := bnd_some H19; clear H19
        obtain ⟨t22, h_t22, H21⟩ := bnd_some H20; clear H20
        refine l_callV (R := fnR_func_uint8_uint8 g22) (r := .int .u8 t22) (v := fv) (fun w hF hS => ⟨(hf.fn (gFn_some h_g22) _), ⟨(a0 k18), _, rfl, h_t22, rfl⟩⟩) rfl rfl rfl rfl ?_
        obtain ⟨k23, h_k23, H22⟩ := bnd_some H21; clear H21
        refine l_val rfl rfl rfl (r_indexPG Try.runUnderlying163 Try.sizeOf5 rfl rfl h_k23) ?_
        refine l_store (i := 0) (vs := [.int .u8 t22]) (cs' := (arrC 256 (fun j_ => [.int .u8 ((setA m_3 k23 t22) j_)]))) Try.sizeOf5 rfl rfl rfl rfl rfl rfl rfl rfl (wr_arr (pre := []) (post := []) (f := fun (j_ : Int) => [.int .u8 j_]) (n := 256) (sz := 1) (a := m_3) (x := t22) (arr_whole _ _) rfl (fun _ => rfl) (gIx_lt h_k23) rfl (arr_whole _ _)) ?_
        refine l_nil ?_
        refine c_region ?_
        obtain ⟨t24, h_t24, H23⟩ := bnd_some H22; clear H22
        refine l_val rfl rfl rfl (r_addG rfl rfl h_t24) ?_
        refine l_val rfl rfl rfl (r_move (v := .int .i64 t24) rfl) ?_
        refine l_nil ?_
        refine c_close (t24, (setA m_3 k23 t22)) () m2 [0, 1] (by exact ⟨rfl, rfl, rfl, rfl, rfl, trivial⟩) (by decide) rfl (by exact ⟨(by subst hn2; exact H23), trivial⟩) (Nat.lt_succ_self _)
      · have H24 := cnd_f hb H17; clear H17
        refine c_exit ?_
        refine c_close m_3 () 0 [0, 1] (by exact ⟨rfl, rfl, trivial⟩) (by decide) rfl (by exact ⟨H24, trivial⟩) (Nat.lt_succ_self _)
    · rintro m _ gg H16 _
      replace H16 : edit_curve_after_j1 m = some r := H16
      refine c_tidyF [(2, .pointer (some ⟨b3, 0, none⟩)), (4, .pointer (some ⟨b5, 0, none⟩))] [cellsC b3 (arrC 256 (fun j_ => [.int .u8 (m j_)])) 163, cellsC b5 (arrC 256 (fun j_ => [.int .u8 ((fun _ => 0) j_)])) 163] rfl rfl ?_
      refine c_seq ?_
      refine c_region ?_
      refine l_loadN (i := 0) (vs := (arrC 256 (fun j_ => [.int .u8 (m j_)]))) Try.isAgg163 Try.sizeOf163 rfl rfl rfl rfl (rd_whole (arrC_len (fun _ => rfl))) ?_
      refine l_store (i := 1) (vs := (arrC 256 (fun j_ => [.int .u8 (m j_)]))) (cs' := (arrC 256 (fun j_ => [.int .u8 (m j_)]))) Try.sizeOf163 rfl rfl rfl rfl (arrC_len (fun _ => rfl)) rfl (arrC_one (fun _ => rfl)) rfl (wr_whole ((arrC_len (fun _ => rfl)).trans (arrC_len (fun _ => rfl)).symm)) ?_
      refine l_val rfl rfl rfl (r_assign (v := .bool true) rfl) ?_
      refine l_nil ?_
      refine c_ret ?_
      obtain rfl := Option.some.inj H16
      refine retCt (i := 1) (vs := (arrC 256 (fun j_ => [.int .u8 (m j_)]))) (v2 := .bool true) Try.isAgg163 Try.sizeOf163 rfl rfl rfl (rd_whole (arrC_len (fun _ => rfl))) rfl (fin rfl)
theorem k53 {a0 : (List T_edit_Step)} {v0 : Value} {r : (Nat → Int) × Int} {w : World} {h : Heap} (hw : Know h w noS) (f0 : FrS h 5 v0 (a0.map e_edit_Step)) (H : edit_Curve a0 = some r) : Does Try.prog 53 (List.toArray [v0]) w (fun v w' => v = (.tuple #[.agg (List.toArray (arrC 256 (fun j_ => [.int .u8 (r.1 j_)]))), .int .i64 r.2]) ∧ Grow w w') := by
  refine enter (n := 33) Try.func53 rfl rfl rfl noS [] (Sat.nil _ _) ?_
  refine c_seq ?_
  refine c_region ?_
  refine l_alloc (cs := (arrC 256 (fun j_ => [.int .u8 ((fun _ => 0) j_)]))) Try.zeroValue84 (by kernel_rfl) rfl rfl (fun b3 => ?_)
  refine l_val rfl rfl rfl (r_assign (v := .int .i64 0) rfl) ?_
  refine l_nil ?_
  refine c_seq ?_
  refine c_seq ?_
  refine c_region ?_
  refine l_val rfl rfl rfl (r_move (v := v0) rfl) ?_
  obtain ⟨t10, h_t10, H14⟩ := bnd_some H; clear H
  refine l_callG (fun w hF hS => k104 (know_all w) (f0.mono (hw.now hF)) h_t10) Try.call104 rfl rfl rfl ?_
  refine l_val rfl rfl rfl (r_assign (v := .int .i64 t10) rfl) ?_
  refine l_nil ?_
  refine c_seq ?_
  refine c_region ?_
  refine l_val rfl rfl rfl (r_move (v := .int .i64 t10) rfl) ?_
  refine l_val rfl rfl rfl (r_neq rfl rfl) ?_
  refine l_nil ?_
  refine c_if (b := (decide (t10 ≠ 0))) rfl (fun hb => ?_) (fun hb => ?_)
  · have H15 := cnd_t hb H14; clear H14
    refine c_seq ?_
    refine c_region ?_
    refine l_val rfl rfl rfl (r_buildA (ps := []) (cells := #[.int .u8 0, .int .u8 0, .int .u8 0, .int .u8 0, .int .u8 0, .int .u8 0, .int .u8 0, .int .u8 0, .int .u8 0, .int .u8 0, .int .u8 0, .int .u8 0, .int .u8 0, .int .u8 0, .int .u8 0, .int .u8 0, .int .u8 0, .int .u8 0, .int .u8 0, .int .u8 0, .int .u8 0, .int .u8 0, .int .u8 0, .int .u8 0, .int .u8 0, .int .u8 0, .int .u8 0, .int .u8 0, .int .u8 0, .int .u8 0, .int .u8 0, .int .u8 0, .int .u8 0, .int .u8 0, .int .u8 0, .int .u8 0, .int .u8 0, .int .u8 0, .int .u8 0, .int .u8 0, .int .u8 0, .int .u8 0, .int .u8 0, .int .u8 0, .int .u8 0, .int .u8 0, .int .u8 0, .int .u8 0, .int .u8 0, .int .u8 0, .int .u8 0, .int .u8 0, .int .u8 0, .int .u8 0, .int .u8 0, .int .u8 0, .int .u8 0, .int .u8 0, .int .u8 0, .int .u8 0, .int .u8 0, .int .u8 0, .int .u8 0, .int .u8 0, .int .u8 0, .int .u8 0, .int .u8 0, .int .u8 0, .int .u8 0, .int .u8 0, .int .u8 0, .int .u8 0, .int .u8 0, .int .u8 0, .int .u8 0, .int .u8 0, .int .u8 0, .int .u8 0, .int .u8 0, .int .u8 0, .int .u8 0, .int .u8 0, .int .u8 0, .int .u8 0, .int .u8 0, .int .u8 0, .int .u8 0, .int .u8 0, .int .u8 0, .int .u8 0, .int .u8 0, .int .u8 0, .int .u8 0, .int .u8 0, .int .u8 0, .int .u8 0, .int .u8 0, .int .u8 0, .int .u8 0, .int .u8 0, .int .u8 0, .int .u8 0, .int .u8 0, .int .u8 0, .int .u8 0, .int .u8 0, .int .u8 0, .int .u8 0, .int .u8 0, .int .u8 0, .int .u8 0, .int .u8 0, .int .u8 0, .int .u8 0, .int .u8 0, .int .u8 0, .int .u8 0, .int .u8 0, .int .u8 0, .int .u8 0, .int .u8 0, .int .u8 0, .int .u8 0, .int .u8 0, .int .u8 0, .int .u8 0, .int .u8 0, .int .u8 0, .int .u8 0, .int .u8 0, .int .u8 0, .int .u8 0, .int .u8 0, .int .u8 0, .int .u8 0, .int .u8 0, .int .u8 0, .int .u8 0, .int .u8 0, .int .u8 0, .int .u8 0, .int .u8 0, .int .u8 0, .int .u8 0, .int .u8 0, .int .u8 0, .int .u8 0, .int .u8 0, .int .u8 0, .int .u8 0, .int .u8 0, .int .u8 0, .int .u8 0, .int .u8 0, .int .u8 0, .int .u8 0, .int .u8 0, .int .u8 0, .int .u8 0, .int .u8 0, .int .u8 0, .int .u8 0, .int .u8 0, .int .u8 0, .int .u8 0, .int .u8 0, .int .u8 0, .int .u8 0, .int .u8 0, .int .u8 0, .int .u8 0, .int .u8 0, .int .u8 0, .int .u8 0, .int .u8 0, .int .u8 0, .int .u8 0, .int .u8 0, .int .u8 0, .int .u8 0, .int .u8 0, .int .u8 0, .int .u8 0, .int .u8 0, .int .u8 0, .int .u8 0, .int .u8 0, .int .u8 0, .int .u8 0, .int .u8 0, .int .u8 0, .int .u8 0, .int .u8 0, .int .u8 0, .int .u8 0, .int .u8 0, .int .u8 0, .int .u8 0, .int .u8 0, .int .u8 0, .int .u8 0, .int .u8 0, .int .u8 0, .int .u8 0, .int .u8 0, .int .u8 0, .int .u8 0, .int .u8 0, .int .u8 0, .int .u8 0, .int .u8 0, .int .u8 0, .int .u8 0, .int .u8 0, .int .u8 0, .int .u8 0, .int .u8 0, .int .u8 0, .int .u8 0, .int .u8 0, .int .u8 0, .int .u8 0, .int .u8 0, .int .u8 0, .int .u8 0, .int .u8 0, .int .u8 0, .int .u8 0, .int .u8 0, .int .u8 0, .int .u8 0, .int .u8 0, .int .u8 0, .int .u8 0, .int .u8 0, .int .u8 0, .int .u8 0, .int .u8 0, .int .u8 0, .int .u8 0, .int .u8 0, .int .u8 0, .int .u8 0, .int .u8 0, .int .u8 0, .int .u8 0, .int .u8 0, .int .u8 0, .int .u8 0, .int .u8 0, .int .u8 0, .int .u8 0, .int .u8 0, .int .u8 0, .int .u8 0, .int .u8 0]) Try.zeroValue84 Try.runUnderlying84 Try.sizeOf5 rfl rfl) ?_
    refine l_val rfl rfl rfl (r_move (v := .int .i64 t10) rfl) ?_
    refine l_store (i := 0) (vs := (arrC 256 (fun j_ => [.int .u8 ((fun _ => 0) j_)]))) (cs' := (arrC 256 (fun j_ => [.int .u8 ((fun _ => 0) j_)]))) Try.sizeOf84 rfl rfl rfl rfl (arrC_len (fun _ => rfl)) rfl (arrC_one (fun _ => rfl)) rfl (wr_whole ((arrC_len (fun _ => rfl)).trans (arrC_len (fun _ => rfl)).symm)) ?_
    refine l_val rfl rfl rfl (r_assign (v := .int .i64 t10) rfl) ?_
    refine l_nil ?_
    refine c_ret ?_
    obtain rfl := Option.some.inj H15
    refine retCt (i := 0) (vs := (arrC 256 (fun j_ => [.int .u8 ((fun _ => 0) j_)]))) (v2 := .int .i64 t10) Try.isAgg84 Try.sizeOf84 rfl rfl rfl (rd_whole (arrC_len (fun _ => rfl))) rfl (fin rfl)
  · have H16 := cnd_f hb H14; clear H14
    refine c_skip ?_
    refine c_seq ?_
    refine c_region ?_
    obtain ⟨t15, h_t15, H17⟩ := bnd_some H16; clear H16
    refine l_call (k117 h_t15) Try.call117 rfl rfl rfl ?_
    refine l_alloc (cs := (arrC 256 (fun j_ => [.int .u8 ((fun _ => 0) j_)]))) Try.zeroValue163 (by kernel_rfl) rfl rfl (fun b4 => ?_)
    refine l_store (i := 1) (vs := (arrC 256 (fun j_ => [.int .u8 (t15 j_)]))) (cs' := (arrC 256 (fun j_ => [.int .u8 (t15 j_)]))) Try.sizeOf163 rfl rfl rfl rfl (arrC_len (fun _ => rfl)) rfl (arrC_one (fun _ => rfl)) rfl (wr_whole ((arrC_len (fun _ => rfl)).trans (arrC_len (fun _ => rfl)).symm)) ?_
    refine l_nil ?_
    refine c_meet (r := r) (σ := (Nat → Int)) (τ := Unit) (fun s => edit_Curve_j1 s) (fun s t => [(2, .pointer (some ⟨b3, 0, none⟩)), (5, .pointer (some ⟨b4, 0, none⟩))]) (fun s t => [cellsC b3 (arrC 256 (fun j_ => [.int .u8 ((fun _ => 0) j_)])) 84, cellsC b4 (arrC 256 (fun j_ => [.int .u8 (s j_)])) 163]) (fun s t => True) ?_ ?_
    · refine c_seq ?_
      refine c_region ?_
      refine l_val rfl rfl rfl (r_move (v := v0) rfl) ?_
      refine l_val rfl rfl rfl (r_lenF Try.underlying61 rfl f0 rfl) ?_
      refine l_val rfl rfl rfl (r_move (v := .int .i64 0) rfl) ?_
      refine l_nil ?_
      refine c_block ?_
      refine c_fix (σ := Int × (Nat → Int)) (τ := Unit) (fun next2 s => edit_Curve_l2 a0 next2 s.1 s.2) (fun s t => [(2, .pointer (some ⟨b3, 0, none⟩)), (5, .pointer (some ⟨b4, 0, none⟩)), (16, v0), (17, .int .i64 (a0.length : Int)), (18, .int .i64 s.1)]) (fun s t => [cellsC b3 (arrC 256 (fun j_ => [.int .u8 ((fun _ => 0) j_)])) 84, cellsC b4 (arrC 256 (fun j_ => [.int .u8 (s.2 j_)])) 163]) (fun s t => True) (0, t15) () [0, 1] H17 (by exact trivial) (by exact ⟨rfl, rfl, rfl, rfl, rfl, trivial⟩) (by decide) rfl ?_
      rintro ⟨x18_2, m_3⟩ _ m2 gg H19 _
      clear H17
      replace H19 : edit_Curve_l2 a0 (it (fun next2 s => edit_Curve_l2 a0 next2 s.1 s.2) m2) x18_2 m_3 = some r := H19
      generalize hn2 : it (fun next2 s => edit_Curve_l2 a0 next2 s.1 s.2) m2 = next2 at H19
      refine c_tidyF [(2, .pointer (some ⟨b3, 0, none⟩)), (5, .pointer (some ⟨b4, 0, none⟩)), (16, v0), (17, .int .i64 (a0.length : Int)), (18, .int .i64 x18_2)] [cellsC b3 (arrC 256 (fun j_ => [.int .u8 ((fun _ => 0) j_)])) 84, cellsC b4 (arrC 256 (fun j_ => [.int .u8 (m_3 j_)])) 163] rfl rfl ?_
      refine c_seq ?_
      refine c_region ?_
      refine l_val rfl rfl rfl (r_lss rfl rfl) ?_
      refine l_nil ?_
      refine c_seq ?_
      refine c_if (b := (decide (x18_2 < (a0.length : Int)))) rfl (fun hb => ?_) (fun hb => ?_)
      · have H20 := cnd_t hb H19; clear H19
        refine c_skip ?_
        refine c_seq ?_
        refine c_block ?_
        refine c_seq ?_
        refine c_region ?_
        obtain ⟨t20, h_t20, H21⟩ := bnd_some H20; clear H20
        refine l_val rfl rfl rfl (r_indexF Try.underlying61 Try.sizeOf69 rfl rfl f0 h_t20) ?_
        refine l_read (fun w hF hS => run_loadGN (f := e_edit_Step) (i := x18_2) (sz := 5) (j := 0) (vs := [.int .i64 t20.Kind, .int .i64 t20.A, .int .i64 t20.B, .int .i64 t20.C, .int .i64 t20.D]) Try.isAgg69 Try.sizeOf69 rfl rfl (f0.row (hw.now hF)) h_t20 rfl) rfl rfl rfl ?_
        refine l_alloc (cs := [.int .i64 0, .int .i64 0, .int .i64 0, .int .i64 0, .int .i64 0]) Try.zeroValue69 rfl rfl rfl (fun b5 => ?_)
        refine l_store (i := 2) (vs := [.int .i64 t20.Kind, .int .i64 t20.A, .int .i64 t20.B, .int .i64 t20.C, .int .i64 t20.D]) (cs' := [.int .i64 t20.Kind, .int .i64 t20.A, .int .i64 t20.B, .int .i64 t20.C, .int .i64 t20.D]) Try.sizeOf69 rfl rfl rfl rfl rfl rfl rfl rfl rfl ?_
        refine l_nil ?_
        refine c_seq ?_
        refine c_region ?_
        refine l_val rfl rfl rfl (r_assign (v := .bool false) rfl) ?_
        refine l_nil ?_
        refine c_seq ?_
        refine c_region ?_
        refine l_loadN (i := 1) (vs := (arrC 256 (fun j_ => [.int .u8 (m_3 j_)]))) Try.isAgg163 Try.sizeOf163 rfl rfl rfl rfl (rd_whole (arrC_len (fun _ => rfl))) ?_
        refine l_loadN (i := 2) (vs := [.int .i64 t20.Kind, .int .i64 t20.A, .int .i64 t20.B, .int .i64 t20.C, .int .i64 t20.D]) Try.isAgg69 Try.sizeOf69 rfl rfl rfl rfl rfl ?_
        obtain ⟨t25, h_t25, H22⟩ := bnd_some H21; clear H21
        refine l_call (k118 h_t25) Try.call118 rfl rfl rfl ?_
        refine l_val rfl rfl rfl (r_move (v := .tuple #[.agg (List.toArray (arrC 256 (fun j_ => [.int .u8 (t25.1 j_)]))), .bool t25.2]) rfl) ?_
        refine l_val rfl rfl rfl (r_extract (v := .agg (List.toArray (arrC 256 (fun j_ => [.int .u8 (t25.1 j_)])))) rfl rfl) ?_
        refine l_val rfl rfl rfl (r_extract (v := .bool t25.2) rfl rfl) ?_
        refine l_store (i := 1) (vs := (arrC 256 (fun j_ => [.int .u8 (t25.1 j_)]))) (cs' := (arrC 256 (fun j_ => [.int .u8 (t25.1 j_)]))) Try.sizeOf163 rfl rfl rfl rfl (arrC_len (fun _ => rfl)) rfl (arrC_one (fun _ => rfl)) rfl (wr_whole ((arrC_len (fun _ => rfl)).trans (arrC_len (fun _ => rfl)).symm)) ?_
        refine l_val rfl rfl rfl (r_assign (v := .bool t25.2) rfl) ?_
        refine l_nil ?_
        refine c_seq ?_
        refine c_region ?_
        refine l_val rfl rfl rfl (r_move (v := .bool t25.2) rfl) ?_
        refine l_val rfl rfl rfl (r_not rfl) ?_
        refine l_nil ?_
        refine c_if (b := (!t25.2)) rfl (fun hb => ?_) (fun hb => ?_)
        · have H23 := cnd_t hb H22; clear H22
          refine c_seq ?_
          refine c_region ?_
          refine l_val rfl rfl rfl (r_buildA (ps := []) (cells := #[.int .u8 0, .int .u8 0, .int .u8 0, .int .u8 0, .int .u8 0, .int .u8 0, .int .u8 0, .int .u8 0, .int .u8 0, .int .u8 0, .int .u8 0, .int .u8 0, .int .u8 0, .int .u8 0, .int .u8 0, .int .u8 0, .int .u8 0, .int .u8 0, .int .u8 0, .int .u8 0, .int .u8 0, .int .u8 0, .int .u8 0, .int .u8 0, .int .u8 0, .int .u8 0, .int .u8 0, .int .u8 0, .int .u8 0, .int .u8 0, .int .u8 0, .int .u8 0, .int .u8 0, .int .u8 0, .int .u8 0, .int .u8 0, .int .u8 0, .int .u8 0, .int .u8 0, .int .u8 0, .int .u8 0, .int .u8 0, .int .u8 0, .int .u8 0, .int .u8 0, .int .u8 0, .int .u8 0, .int .u8 0, .int .u8 0, .int .u8 0, .int .u8 0, .int .u8 0, .int .u8 0, .int .u8 0, .int .u8 0, .int .u8 0, .int .u8 0, .int .u8 0, .int .u8 0, .int .u8 0, .int .u8 0, .int .u8 0, .int .u8 0, .int .u8 0, .int .u8 0, .int .u8 0, .int .u8 0, .int .u8 0, .int .u8 0, .int .u8 0, .int .u8 0, .int .u8 0, .int .u8 0, .int .u8 0, .int .u8 0, .int .u8 0, .int .u8 0, .int .u8 0, .int .u8 0, .int .u8 0, .int .u8 0, .int .u8 0, .int .u8 0, .int .u8 0, .int .u8 0, .int .u8 0, .int .u8 0, .int .u8 0, .int .u8 0, .int .u8 0, .int .u8 0, .int .u8 0, .int .u8 0, .int .u8 0, .int .u8 0, .int .u8 0, .int .u8 0, .int .u8 0, .int .u8 0, .int .u8 0, .int .u8 0, .int .u8 0, .int .u8 0, .int .u8 0, .int .u8 0, .int .u8 0, .int .u8 0, .int .u8 0, .int .u8 0, .int .u8 0, .int .u8 0, .int .u8 0, .int .u8 0, .int .u8 0, .int .u8 0, .int .u8 0, .int .u8 0, .int .u8 0, .int .u8 0, .int .u8 0, .int .u8 0, .int .u8 0, .int .u8 0, .int .u8 0, .int .u8 0, .int .u8 0, .int .u8 0, .int .u8 0, .int .u8 0, .int .u8 0, .int .u8 0, .int .u8 0, .int .u8 0, .int .u8 0, .int .u8 0, .int .u8 0, .int .u8 0, .int .u8 0, .int .u8 0, .int .u8 0, .int .u8 0, .int .u8 0, .int .u8 0, .int .u8 0, .int .u8 0, .int .u8 0, .int .u8 0, .int .u8 0, .int .u8 0, .int .u8 0, .int .u8 0, .int .u8 0, .int .u8 0, .int .u8 0, .int .u8 0, .int .u8 0, .int .u8 0, .int .u8 0, .int .u8 0, .int .u8 0, .int .u8 0, .int .u8 0, .int .u8 0, .int .u8 0, .int .u8 0, .int .u8 0, .int .u8 0, .int .u8 0, .int .u8 0, .int .u8 0, .int .u8 0, .int .u8 0, .int .u8 0, .int .u8 0, .int .u8 0, .int .u8 0, .int .u8 0, .int .u8 0, .int .u8 0, .int .u8 0, .int .u8 0, .int .u8 0, .int .u8 0, .int .u8 0, .int .u8 0, .int .u8 0, .int .u8 0, .int .u8 0, .int .u8 0, .int .u8 0, .int .u8 0, .int .u8 0, .int .u8 0, .int .u8 0, .int .u8 0, .int .u8 0, .int .u8 0, .int .u8 0, .int .u8 0, .int .u8 0, .int .u8 0, .int .u8 0, .int .u8 0, .int .u8 0, .int .u8 0, .int .u8 0, .int .u8 0, .int .u8 0, .int .u8 0, .int .u8 0, .int .u8 0, .int .u8 0, .int .u8 0, .int .u8 0, .int .u8 0, .int .u8 0, .int .u8 0, .int .u8 0, .int .u8 0, .int .u8 0, .int .u8 0, .int .u8 0, .int .u8 0, .int .u8 0, .int .u8 0, .int .u8 0, .int .u8 0, .int .u8 0, .int .u8 0, .int .u8 0, .int .u8 0, .int .u8 0, .int .u8 0, .int .u8 0, .int .u8 0, .int .u8 0, .int .u8 0, .int .u8 0, .int .u8 0, .int .u8 0, .int .u8 0, .int .u8 0, .int .u8 0, .int .u8 0, .int .u8 0, .int .u8 0, .int .u8 0, .int .u8 0, .int .u8 0, .int .u8 0, .int .u8 0, .int .u8 0, .int .u8 0, .int .u8 0, .int .u8 0, .int .u8 0]) Try.zeroValue84 Try.runUnderlying84 Try.sizeOf5 rfl rfl) ?_
          refine l_store (i := 0) (vs := (arrC 256 (fun j_ => [.int .u8 ((fun _ => 0) j_)]))) (cs' := (arrC 256 (fun j_ => [.int .u8 ((fun _ => 0) j_)]))) Try.sizeOf84 rfl rfl rfl rfl (arrC_len (fun _ => rfl)) rfl (arrC_one (fun _ => rfl)) rfl (wr_whole ((arrC_len (fun _ => rfl)).trans (arrC_len (fun _ => rfl)).symm)) ?_
          refine l_val rfl rfl rfl (r_assign (v := .int .i64 10) rfl) ?_
          refine l_nil ?_
          refine c_ret ?_
          obtain rfl := Option.some.inj H23
          refine retCt (i := 0) (vs := (arrC 256 (fun j_ => [.int .u8 ((fun _ => 0) j_)]))) (v2 := .int .i64 10) Try.isAgg84 Try.sizeOf84 rfl rfl rfl (rd_whole (arrC_len (fun _ => rfl))) rfl (fin rfl)
        · have H24 := cnd_f hb H22; clear H22
          refine c_skip ?_
          refine c_region ?_
          obtain ⟨t31, h_t31, H25⟩ := bnd_some H24; clear H24
          refine l_val rfl rfl rfl (r_addG rfl rfl h_t31) ?_
          refine l_val rfl rfl rfl (r_move (v := .int .i64 t31) rfl) ?_
          refine l_nil ?_
          refine c_close (t31, t25.1) () m2 [0, 1] (by exact ⟨rfl, rfl, rfl, rfl, rfl, trivial⟩) (by decide) rfl (by exact ⟨(by subst hn2; exact H25), trivial⟩) (Nat.lt_succ_self _)
      · have H26 := cnd_f hb H19; clear H19
        refine c_exit ?_
        refine c_close m_3 () 0 [0, 1] (by exact ⟨rfl, rfl, trivial⟩) (by decide) rfl (by exact ⟨H26, trivial⟩) (Nat.lt_succ_self _)
    · rintro m _ gg H18 _
      replace H18 : edit_Curve_j1 m = some r := H18
      refine c_tidyF [(2, .pointer (some ⟨b3, 0, none⟩)), (5, .pointer (some ⟨b4, 0, none⟩))] [cellsC b3 (arrC 256 (fun j_ => [.int .u8 ((fun _ => 0) j_)])) 84, cellsC b4 (arrC 256 (fun j_ => [.int .u8 (m j_)])) 163] rfl rfl ?_
      refine c_seq ?_
      refine c_region ?_
      refine l_loadN (i := 1) (vs := (arrC 256 (fun j_ => [.int .u8 (m j_)]))) Try.isAgg163 Try.sizeOf163 rfl rfl rfl rfl (rd_whole (arrC_len (fun _ => rfl))) ?_
      refine l_store (i := 0) (vs := (arrC 256 (fun j_ => [.int .u8 (m j_)]))) (cs' := (arrC 256 (fun j_ => [.int .u8 (m j_)]))) Try.sizeOf84 rfl rfl rfl rfl (arrC_len (fun _ => rfl)) rfl (arrC_one (fun _ => rfl)) rfl (wr_whole ((arrC_len (fun _ => rfl)).trans (arrC_len (fun _ => rfl)).symm)) ?_
      refine l_val rfl rfl rfl (r_assign (v := .int .i64 0) rfl) ?_
      refine l_nil ?_
      refine c_ret ?_
      obtain rfl := Option.some.inj H18
      refine retCt (i := 0) (vs := (arrC 256 (fun j_ => [.int .u8 (m j_)]))) (v2 := .int .i64 0) Try.isAgg84 Try.sizeOf84 rfl rfl rfl (rd_whole (arrC_len (fun _ => rfl))) rfl (fin rfl)
theorem k119 {a0 : T_edit_Step} {r : Bool} (H : edit_Shape a0 = some r) : Ret Try.prog 119 [.agg #[.int .i64 a0.Kind, .int .i64 a0.A, .int .i64 a0.B, .int .i64 a0.C, .int .i64 a0.D]] (.bool r) := by
  refine enterRet (n := 7) Try.func119 rfl rfl rfl (fun wd => ?_)
  refine c_seq ?_
  refine c_region ?_
  refine l_box (cs := [.int .i64 a0.Kind, .int .i64 a0.A, .int .i64 a0.B, .int .i64 a0.C, .int .i64 a0.D]) rfl rfl rfl rfl (fun b1 => ?_)
  refine l_val rfl rfl rfl (r_assign (v := .bool false) rfl) ?_
  refine l_nil ?_
  refine c_seq ?_
  refine c_region ?_
  refine l_val rfl rfl rfl (r_field Try.runUnderlying69 rfl Try.sizeOf3 rfl rfl) ?_
  refine l_load1 (i := 0) (v := .int .i64 a0.Kind) Try.isAgg3 rfl rfl rfl rfl rfl ?_
  obtain ⟨t5, h_t5, H2⟩ := bnd_some H; clear H
  refine l_call (k110 h_t5) Try.call110 rfl rfl rfl ?_
  refine l_val rfl rfl rfl (r_not rfl) ?_
  refine l_val rfl rfl rfl (r_assign (v := .bool (!t5)) rfl) ?_
  refine l_nil ?_
  refine c_ret ?_
  obtain rfl := Option.some.inj H2
  refine ret1 (v := .bool (!t5)) rfl rfl (fin rfl)
theorem k155 {a0 : T_edit_Step} {a1 : (Nat → Int)} {r : (Nat → Int)} (H : edit_Step_warm a0 a1 = some r) : Ret Try.prog 155 [.agg #[.int .i64 a0.Kind, .int .i64 a0.A, .int .i64 a0.B, .int .i64 a0.C, .int .i64 a0.D], .agg #[.int .u8 (a1 0), .int .u8 (a1 1), .int .u8 (a1 2)]] (.agg #[.int .u8 (r 0), .int .u8 (r 1), .int .u8 (r 2)]) := by
  refine enterRet (n := 22) Try.func155 rfl rfl rfl (fun wd => ?_)
  refine c_seq ?_
  refine c_region ?_
  refine l_box (cs := [.int .i64 a0.Kind, .int .i64 a0.A, .int .i64 a0.B, .int .i64 a0.C, .int .i64 a0.D]) rfl rfl rfl rfl (fun b3 => ?_)
  refine l_box (cs := [.int .u8 (a1 0), .int .u8 (a1 1), .int .u8 (a1 2)]) rfl rfl rfl rfl (fun b4 => ?_)
  refine l_alloc (cs := [.int .u8 0, .int .u8 0, .int .u8 0]) Try.zeroValue81 rfl rfl rfl (fun b5 => ?_)
  refine l_nil ?_
  refine c_seq ?_
  exact c_regionD (Kd.p :: Kd.d [1] _ :: Kd.p :: Kd.p :: Kd.d [0] _ :: Kd.p :: Kd.d [] _ :: Kd.p :: Kd.d [1] _ :: Kd.p :: Kd.d [1] _ :: Kd.p :: Kd.p :: Kd.d [0] _ :: Kd.p :: Kd.d [] _ :: Kd.p :: Kd.st 4 2 [_, _, _] 81 :: []) 0 mixed (by
    refine d_val rfl rfl (r_indexPA Try.runUnderlying81 Try.sizeOf5 rfl rfl (by decide) (by decide)) ?_
    refine d_load1 (i := 1) (v := .int .u8 (a1 0)) Try.isAgg5 rfl rfl rfl rfl ?_
    have h_t7 := bnd_val H
    have H7 := bnd_rest H
    refine d_val rfl rfl (r_convG Try.runUnderlying5 Try.runUnderlying3 rfl (gK_i64 h_t7)) ?_
    refine d_val rfl rfl (r_field Try.runUnderlying69 rfl Try.sizeOf3 rfl rfl) ?_
    refine d_load1 (i := 0) (v := .int .i64 a0.A) Try.isAgg3 rfl rfl rfl rfl ?_
    have h_t10 := bnd_val H7
    have H8 := bnd_rest H7
    refine d_val rfl rfl (r_addG rfl rfl h_t10) ?_
    have h_t11 := bnd_val H8
    have H9 := bnd_rest H8
    refine d_call (k197 h_t11) Try.call197 rfl rfl ?_
    refine d_val rfl rfl (r_indexPA Try.runUnderlying81 Try.sizeOf5 rfl rfl (by decide) (by decide)) ?_
    refine d_load1 (i := 1) (v := .int .u8 (a1 1)) Try.isAgg5 rfl rfl rfl rfl ?_
    refine d_val rfl rfl (r_indexPA Try.runUnderlying81 Try.sizeOf5 rfl rfl (by decide) (by decide)) ?_
    refine d_load1 (i := 1) (v := .int .u8 (a1 2)) Try.isAgg5 rfl rfl rfl rfl ?_
    have h_t16 := bnd_val H9
    have H10 := bnd_rest H9
    refine d_val rfl rfl (r_convG Try.runUnderlying5 Try.runUnderlying3 rfl (gK_i64 h_t16)) ?_
    refine d_val rfl rfl (r_field Try.runUnderlying69 rfl Try.sizeOf3 rfl rfl) ?_
    refine d_load1 (i := 0) (v := .int .i64 a0.A) Try.isAgg3 rfl rfl rfl rfl ?_
    have h_t19 := bnd_val H10
    have H11 := bnd_rest H10
    refine d_val rfl rfl (r_subG rfl rfl h_t19) ?_
    have h_t20 := bnd_val H11
    have H12 := bnd_rest H11
    refine d_call (k197 h_t20) Try.call197 rfl rfl ?_
    refine d_val rfl rfl (r_buildA (ps := [(0, .int .u8 (val (edit_clamp (val (gI ((val (gK (-9223372036854775808) 9223372036854775807 (a1 0))) + a0.A)))))), (1, .int .u8 (a1 1)), (2, .int .u8 (val (edit_clamp (val (gI ((val (gK (-9223372036854775808) 9223372036854775807 (a1 2))) - a0.A))))))]) (cells := #[.int .u8 (val (edit_clamp (val (gI ((val (gK (-9223372036854775808) 9223372036854775807 (a1 0))) + a0.A))))), .int .u8 (a1 1), .int .u8 (val (edit_clamp (val (gI ((val (gK (-9223372036854775808) 9223372036854775807 (a1 2))) - a0.A)))))]) Try.zeroValue81 Try.runUnderlying81 Try.sizeOf5 rfl rfl) ?_
    refine d_store (i := 2) (vs := [.int .u8 (val (edit_clamp (val (gI ((val (gK (-9223372036854775808) 9223372036854775807 (a1 0))) + a0.A))))), .int .u8 (a1 1), .int .u8 (val (edit_clamp (val (gI ((val (gK (-9223372036854775808) 9223372036854775807 (a1 2))) - a0.A)))))]) (cs' := [.int .u8 (val (edit_clamp (val (gI ((val (gK (-9223372036854775808) 9223372036854775807 (a1 0))) + a0.A))))), .int .u8 (a1 1), .int .u8 (val (edit_clamp (val (gI ((val (gK (-9223372036854775808) 9223372036854775807 (a1 2))) - a0.A)))))]) Try.sizeOf81 rfl rfl rfl rfl rfl rfl rfl rfl rfl ?_
    refine d_nil ?_
    refine c_ret ?_
    obtain rfl := Option.some.inj H12
    refine retC (i := 2) (vs := [.int .u8 (val (edit_clamp (val (gI ((val (gK (-9223372036854775808) 9223372036854775807 (a1 0))) + a0.A))))), .int .u8 (a1 1), .int .u8 (val (edit_clamp (val (gI ((val (gK (-9223372036854775808) 9223372036854775807 (a1 2))) - a0.A)))))]) Try.isAgg81 Try.sizeOf81 rfl rfl rfl rfl (fin rfl)
    ) (by kernel_rfl)
theorem k156 {a0 : T_edit_Step} {a1 : (Nat → Int)} {r : (Nat → Int)} (H : edit_Step_mute a0 a1 = some r) : Ret Try.prog 156 [.agg #[.int .i64 a0.Kind, .int .i64 a0.A, .int .i64 a0.B, .int .i64 a0.C, .int .i64 a0.D], .agg #[.int .u8 (a1 0), .int .u8 (a1 1), .int .u8 (a1 2)]] (.agg #[.int .u8 (r 0), .int .u8 (r 1), .int .u8 (r 2)]) := by
  refine enterRet (n := 44) Try.func156 rfl rfl rfl (fun wd => ?_)
  refine c_seq ?_
  refine c_region ?_
  refine l_box (cs := [.int .i64 a0.Kind, .int .i64 a0.A, .int .i64 a0.B, .int .i64 a0.C, .int .i64 a0.D]) rfl rfl rfl rfl (fun b3 => ?_)
  refine l_box (cs := [.int .u8 (a1 0), .int .u8 (a1 1), .int .u8 (a1 2)]) rfl rfl rfl rfl (fun b4 => ?_)
  refine l_alloc (cs := [.int .u8 0, .int .u8 0, .int .u8 0]) Try.zeroValue81 rfl rfl rfl (fun b5 => ?_)
  refine l_nil ?_
  refine c_seq ?_
  refine c_region ?_
  refine l_val rfl rfl rfl (r_indexPA Try.runUnderlying81 Try.sizeOf5 rfl rfl (by decide) (by decide)) ?_
  refine l_load1 (i := 1) (v := .int .u8 (a1 0)) Try.isAgg5 rfl rfl rfl rfl rfl ?_
  obtain ⟨t10, h_t10, H24⟩ := bnd_some H; clear H
  refine l_val rfl rfl rfl (r_convG Try.runUnderlying5 Try.runUnderlying3 rfl (gK_i64 h_t10)) ?_
  obtain ⟨t11, h_t11, H25⟩ := bnd_some H24; clear H24
  refine l_val rfl rfl rfl (r_mulG rfl rfl h_t11) ?_
  refine l_val rfl rfl rfl (r_indexPA Try.runUnderlying81 Try.sizeOf5 rfl rfl (by decide) (by decide)) ?_
  refine l_load1 (i := 1) (v := .int .u8 (a1 1)) Try.isAgg5 rfl rfl rfl rfl rfl ?_
  obtain ⟨t14, h_t14, H26⟩ := bnd_some H25; clear H25
  refine l_val rfl rfl rfl (r_convG Try.runUnderlying5 Try.runUnderlying3 rfl (gK_i64 h_t14)) ?_
  obtain ⟨t15, h_t15, H27⟩ := bnd_some H26; clear H26
  refine l_val rfl rfl rfl (r_mulG rfl rfl h_t15) ?_
  obtain ⟨t16, h_t16, H28⟩ := bnd_some H27; clear H27
  refine l_val rfl rfl rfl (r_addG rfl rfl h_t16) ?_
  refine l_val rfl rfl rfl (r_indexPA Try.runUnderlying81 Try.sizeOf5 rfl rfl (by decide) (by decide)) ?_
  refine l_load1 (i := 1) (v := .int .u8 (a1 2)) Try.isAgg5 rfl rfl rfl rfl rfl ?_
  obtain ⟨t19, h_t19, H29⟩ := bnd_some H28; clear H28
  refine l_val rfl rfl rfl (r_convG Try.runUnderlying5 Try.runUnderlying3 rfl (gK_i64 h_t19)) ?_
  obtain ⟨t20, h_t20, H30⟩ := bnd_some H29; clear H29
  refine l_val rfl rfl rfl (r_mulG rfl rfl h_t20) ?_
  obtain ⟨t21, h_t21, H31⟩ := bnd_some H30; clear H30
  refine l_val rfl rfl rfl (r_addG rfl rfl h_t21) ?_
  obtain ⟨t22, h_t22, H32⟩ := bnd_some H31; clear H31
  refine l_val rfl rfl rfl (r_quoG rfl rfl h_t22) ?_
  refine l_val rfl rfl rfl (r_assign (v := .int .i64 t22) rfl) ?_
  refine l_nil ?_
  refine c_meet (r := r) (σ := (Nat → Int)) (τ := Unit) (fun s => edit_Step_mute_j1 s) (fun s t => [(3, .pointer (some ⟨b4, 0, none⟩)), (4, .pointer (some ⟨b5, 0, none⟩))]) (fun s t => [cellsC b4 [.int .u8 (s 0), .int .u8 (s 1), .int .u8 (s 2)] 81, cellsC b5 [.int .u8 0, .int .u8 0, .int .u8 0] 81]) (fun s t => True) ?_ ?_
  · refine c_seq ?_
    refine c_region ?_
    refine l_loadN (i := 1) (vs := [.int .u8 (a1 0), .int .u8 (a1 1), .int .u8 (a1 2)]) Try.isAgg81 Try.sizeOf81 rfl rfl rfl rfl rfl ?_
    refine l_val rfl rfl rfl (r_move (v := .int .i64 0) rfl) ?_
    refine l_nil ?_
    refine c_block ?_
    refine c_fix (σ := Int × (Nat → Int)) (τ := Unit) (fun next2 s => edit_Step_mute_l2 a0 a1 t22 next2 s.1 s.2) (fun s t => [(2, .pointer (some ⟨b3, 0, none⟩)), (3, .pointer (some ⟨b4, 0, none⟩)), (4, .pointer (some ⟨b5, 0, none⟩)), (5, .int .i64 t22), (23, .agg #[.int .u8 (a1 0), .int .u8 (a1 1), .int .u8 (a1 2)]), (24, .int .i64 s.1)]) (fun s t => [cellsC b3 [.int .i64 a0.Kind, .int .i64 a0.A, .int .i64 a0.B, .int .i64 a0.C, .int .i64 a0.D] 69, cellsC b4 [.int .u8 (s.2 0), .int .u8 (s.2 1), .int .u8 (s.2 2)] 81, cellsC b5 [.int .u8 0, .int .u8 0, .int .u8 0] 81]) (fun s t => True) (0, a1) () [0, 1, 2] H32 (by exact trivial) (by exact ⟨rfl, rfl, rfl, rfl, rfl, rfl, trivial⟩) (by decide) rfl ?_
    rintro ⟨x24_2, m_3⟩ _ m2 gg H34 _
    clear H32
    replace H34 : edit_Step_mute_l2 a0 a1 t22 (it (fun next2 s => edit_Step_mute_l2 a0 a1 t22 next2 s.1 s.2) m2) x24_2 m_3 = some r := H34
    generalize hn2 : it (fun next2 s => edit_Step_mute_l2 a0 a1 t22 next2 s.1 s.2) m2 = next2 at H34
    refine c_tidyF [(2, .pointer (some ⟨b3, 0, none⟩)), (3, .pointer (some ⟨b4, 0, none⟩)), (4, .pointer (some ⟨b5, 0, none⟩)), (5, .int .i64 t22), (23, .agg #[.int .u8 (a1 0), .int .u8 (a1 1), .int .u8 (a1 2)]), (24, .int .i64 x24_2)] [cellsC b3 [.int .i64 a0.Kind, .int .i64 a0.A, .int .i64 a0.B, .int .i64 a0.C, .int .i64 a0.D] 69, cellsC b4 [.int .u8 (m_3 0), .int .u8 (m_3 1), .int .u8 (m_3 2)] 81, cellsC b5 [.int .u8 0, .int .u8 0, .int .u8 0] 81] rfl rfl ?_
    refine c_seq ?_
    refine c_region ?_
    refine l_val rfl rfl rfl (r_lss rfl rfl) ?_
    refine l_nil ?_
    refine c_seq ?_
    refine c_if (b := (decide (x24_2 < 3))) rfl (fun hb => ?_) (fun hb => ?_)
    · have H35 := cnd_t hb H34; clear H34
      refine c_skip ?_
      refine c_seq ?_
      refine c_block ?_
      refine c_seq ?_
      refine c_region ?_
      refine l_val rfl rfl rfl (r_move (v := .int .i64 x24_2) rfl) ?_
      obtain ⟨k27, h_k27, H36⟩ := bnd_some H35; clear H35
      refine l_val rfl rfl rfl (r_indexAG (f := fun j_ => .int .u8 (a1 j_)) Try.runUnderlying81 Try.isAgg5 Try.sizeOf5 rfl rfl rfl h_k27) ?_
      refine l_val rfl rfl rfl (r_assign (v := .int .i64 x24_2) rfl) ?_
      refine l_val rfl rfl rfl (r_assign (v := .int .u8 (a1 k27)) rfl) ?_
      refine l_nil ?_
      refine c_region ?_
      refine l_val rfl rfl rfl (r_move (v := .int .i64 x24_2) rfl) ?_
      refine l_val rfl rfl rfl (r_move (v := .int .u8 (a1 k27)) rfl) ?_
      obtain ⟨t30, h_t30, H37⟩ := bnd_some H36; clear H36
      refine l_val rfl rfl rfl (r_convG Try.runUnderlying5 Try.runUnderlying3 rfl (gK_i64 h_t30)) ?_
      refine l_val rfl rfl rfl (r_move (v := .int .i64 t22) rfl) ?_
      refine l_val rfl rfl rfl (r_move (v := .int .u8 (a1 k27)) rfl) ?_
      obtain ⟨t33, h_t33, H38⟩ := bnd_some H37; clear H37
      refine l_val rfl rfl rfl (r_convG Try.runUnderlying5 Try.runUnderlying3 rfl (gK_i64 h_t33)) ?_
      obtain ⟨t34, h_t34, H39⟩ := bnd_some H38; clear H38
      refine l_val rfl rfl rfl (r_subG rfl rfl h_t34) ?_
      refine l_val rfl rfl rfl (r_field Try.runUnderlying69 rfl Try.sizeOf3 rfl rfl) ?_
      refine l_load1 (i := 0) (v := .int .i64 a0.A) Try.isAgg3 rfl rfl rfl rfl rfl ?_
      obtain ⟨t37, h_t37, H40⟩ := bnd_some H39; clear H39
      refine l_val rfl rfl rfl (r_mulG rfl rfl h_t37) ?_
      obtain ⟨t38, h_t38, H41⟩ := bnd_some H40; clear H40
      refine l_call (k198 h_t38) Try.call198 rfl rfl rfl ?_
      obtain ⟨t39, h_t39, H42⟩ := bnd_some H41; clear H41
      refine l_val rfl rfl rfl (r_addG rfl rfl h_t39) ?_
      obtain ⟨t40, h_t40, H43⟩ := bnd_some H42; clear H42
      refine l_call (k197 h_t40) Try.call197 rfl rfl rfl ?_
      obtain ⟨k41, h_k41, H44⟩ := bnd_some H43; clear H43
      refine l_val rfl rfl rfl (r_indexPG Try.runUnderlying81 Try.sizeOf5 rfl rfl h_k41) ?_
      refine l_store (i := 1) (vs := [.int .u8 t40]) (cs' := [.int .u8 ((setA m_3 k41 t40) 0), .int .u8 ((setA m_3 k41 t40) 1), .int .u8 ((setA m_3 k41 t40) 2)]) Try.sizeOf5 rfl rfl rfl rfl rfl rfl rfl rfl (wr_arr (pre := []) (post := []) (f := fun (j_ : Int) => [.int .u8 j_]) (n := 3) (sz := 1) (a := m_3) (x := t40) rfl rfl (fun _ => rfl) (gIx_lt h_k41) rfl rfl) ?_
      refine l_nil ?_
      refine c_region ?_
      obtain ⟨t42, h_t42, H45⟩ := bnd_some H44; clear H44
      refine l_val rfl rfl rfl (r_addG rfl rfl h_t42) ?_
      refine l_val rfl rfl rfl (r_move (v := .int .i64 t42) rfl) ?_
      refine l_nil ?_
      refine c_close (t42, (setA m_3 k41 t40)) () m2 [0, 1, 2] (by exact ⟨rfl, rfl, rfl, rfl, rfl, rfl, trivial⟩) (by decide) rfl (by exact ⟨(by subst hn2; exact H45), trivial⟩) (Nat.lt_succ_self _)
    · have H46 := cnd_f hb H34; clear H34
      refine c_exit ?_
      refine c_close m_3 () 0 [1, 2] (by exact ⟨rfl, rfl, trivial⟩) (by decide) rfl (by exact ⟨H46, trivial⟩) (Nat.lt_succ_self _)
  · rintro m _ gg H33 _
    replace H33 : edit_Step_mute_j1 m = some r := H33
    refine c_tidyF [(3, .pointer (some ⟨b4, 0, none⟩)), (4, .pointer (some ⟨b5, 0, none⟩))] [cellsC b4 [.int .u8 (m 0), .int .u8 (m 1), .int .u8 (m 2)] 81, cellsC b5 [.int .u8 0, .int .u8 0, .int .u8 0] 81] rfl rfl ?_
    refine c_seq ?_
    refine c_region ?_
    refine l_loadN (i := 0) (vs := [.int .u8 (m 0), .int .u8 (m 1), .int .u8 (m 2)]) Try.isAgg81 Try.sizeOf81 rfl rfl rfl rfl rfl ?_
    refine l_store (i := 1) (vs := [.int .u8 (m 0), .int .u8 (m 1), .int .u8 (m 2)]) (cs' := [.int .u8 (m 0), .int .u8 (m 1), .int .u8 (m 2)]) Try.sizeOf81 rfl rfl rfl rfl rfl rfl rfl rfl rfl ?_
    refine l_nil ?_
    refine c_ret ?_
    obtain rfl := Option.some.inj H33
    refine retC (i := 1) (vs := [.int .u8 (m 0), .int .u8 (m 1), .int .u8 (m 2)]) Try.isAgg81 Try.sizeOf81 rfl rfl rfl rfl (fin rfl)
theorem k157 {a0 : T_edit_Step} {a1 : (Nat → Int)} {r : (Nat → Int)} (H : edit_Step_eachByte a0 a1 = some r) : Ret Try.prog 157 [.agg #[.int .i64 a0.Kind, .int .i64 a0.A, .int .i64 a0.B, .int .i64 a0.C, .int .i64 a0.D], .agg #[.int .u8 (a1 0), .int .u8 (a1 1), .int .u8 (a1 2)]] (.agg #[.int .u8 (r 0), .int .u8 (r 1), .int .u8 (r 2)]) := by
  refine enterRet (n := 22) Try.func157 rfl rfl rfl (fun wd => ?_)
  refine c_seq ?_
  refine c_region ?_
  refine l_box (cs := [.int .i64 a0.Kind, .int .i64 a0.A, .int .i64 a0.B, .int .i64 a0.C, .int .i64 a0.D]) rfl rfl rfl rfl (fun b3 => ?_)
  refine l_box (cs := [.int .u8 (a1 0), .int .u8 (a1 1), .int .u8 (a1 2)]) rfl rfl rfl rfl (fun b4 => ?_)
  refine l_alloc (cs := [.int .u8 0, .int .u8 0, .int .u8 0]) Try.zeroValue81 rfl rfl rfl (fun b5 => ?_)
  refine l_nil ?_
  refine c_seq ?_
  refine c_region ?_
  refine l_loadN (i := 0) (vs := [.int .i64 a0.Kind, .int .i64 a0.A, .int .i64 a0.B, .int .i64 a0.C, .int .i64 a0.D]) Try.isAgg69 Try.sizeOf69 rfl rfl rfl rfl rfl ?_
  obtain ⟨t9, h_t9, H11⟩ := bnd_some H; clear H
  refine l_callF (k154 h_t9) Try.call154 rfl rfl rfl (fun fv hf => ?_)
  refine l_val rfl rfl rfl (r_assign (v := fv) rfl) ?_
  refine l_nil ?_
  refine c_meet (r := r) (σ := (Nat → Int)) (τ := Unit) (fun s => edit_Step_eachByte_j1 s) (fun s t => [(3, .pointer (some ⟨b4, 0, none⟩)), (4, .pointer (some ⟨b5, 0, none⟩))]) (fun s t => [cellsC b4 [.int .u8 (s 0), .int .u8 (s 1), .int .u8 (s 2)] 81, cellsC b5 [.int .u8 0, .int .u8 0, .int .u8 0] 81]) (fun s t => True) ?_ ?_
  · refine c_seq ?_
    refine c_region ?_
    refine l_loadN (i := 1) (vs := [.int .u8 (a1 0), .int .u8 (a1 1), .int .u8 (a1 2)]) Try.isAgg81 Try.sizeOf81 rfl rfl rfl rfl rfl ?_
    refine l_val rfl rfl rfl (r_move (v := .int .i64 0) rfl) ?_
    refine l_nil ?_
    refine c_block ?_
    refine c_sel [1, 2] [cellsC b4 [.int .u8 (a1 0), .int .u8 (a1 1), .int .u8 (a1 2)] 81, cellsC b5 [.int .u8 0, .int .u8 0, .int .u8 0] 81] rfl (by decide) ?_
    refine c_fix (σ := Int × (Nat → Int)) (τ := Unit) (fun next2 s => edit_Step_eachByte_l2 a1 t9 next2 s.1 s.2) (fun s t => [(3, .pointer (some ⟨b4, 0, none⟩)), (4, .pointer (some ⟨b5, 0, none⟩)), (5, fv), (10, .agg #[.int .u8 (a1 0), .int .u8 (a1 1), .int .u8 (a1 2)]), (11, .int .i64 s.1)]) (fun s t => [cellsC b4 [.int .u8 (s.2 0), .int .u8 (s.2 1), .int .u8 (s.2 2)] 81, cellsC b5 [.int .u8 0, .int .u8 0, .int .u8 0] 81]) (fun s t => True) (0, a1) () [0, 1] H11 (by exact trivial) (by exact ⟨rfl, rfl, rfl, rfl, rfl, trivial⟩) (by decide) rfl ?_
    rintro ⟨x11_2, m_3⟩ _ m2 gg H13 _
    clear H11
    replace H13 : edit_Step_eachByte_l2 a1 t9 (it (fun next2 s => edit_Step_eachByte_l2 a1 t9 next2 s.1 s.2) m2) x11_2 m_3 = some r := H13
    generalize hn2 : it (fun next2 s => edit_Step_eachByte_l2 a1 t9 next2 s.1 s.2) m2 = next2 at H13
    refine c_tidyF [(3, .pointer (some ⟨b4, 0, none⟩)), (4, .pointer (some ⟨b5, 0, none⟩)), (5, fv), (10, .agg #[.int .u8 (a1 0), .int .u8 (a1 1), .int .u8 (a1 2)]), (11, .int .i64 x11_2)] [cellsC b4 [.int .u8 (m_3 0), .int .u8 (m_3 1), .int .u8 (m_3 2)] 81, cellsC b5 [.int .u8 0, .int .u8 0, .int .u8 0] 81] rfl rfl ?_
    refine c_seq ?_
    refine c_region ?_
    refine l_val rfl rfl rfl (r_lss rfl rfl) ?_
    refine l_nil ?_
    refine c_seq ?_
    refine c_if (b := (decide (x11_2 < 3))) rfl (fun hb => ?_) (fun hb => ?_)
    · have H14 := cnd_t hb H13; clear H13
      refine c_skip ?_
      refine c_seq ?_
      refine c_block ?_
      refine c_seq ?_
      refine c_region ?_
      refine l_val rfl rfl rfl (r_move (v := .int .i64 x11_2) rfl) ?_
      obtain ⟨k14, h_k14, H15⟩ := bnd_some H14; clear H14
      refine l_val rfl rfl rfl (r_indexAG (f := fun j_ => .int .u8 (a1 j_)) Try.runUnderlying81 Try.isAgg5 Try.sizeOf5 rfl rfl rfl h_k14) ?_
      refine l_val rfl rfl rfl (r_assign (v := .int .i64 x11_2) rfl) ?_
      refine l_val rfl rfl rfl (r_assign (v := .int .u8 (a1 k14)) rfl) ?_
      refine l_nil ?_
      refine c_region ?_
      refine l_val rfl rfl rfl (r_move (v := .int .i64 x11_2) rfl) ?_
      refine l_val rfl rfl rfl (r_move (v := fv) rfl) ?_
      refine l_val rfl rfl rfl (r_move (v := .int .u8 (a1 k14)) rfl) ?_
      obtain ⟨g18, h_g18, H16⟩ := bnd_some H15; clear H15
      obtain ⟨t18, h_t18, H17⟩ := bnd_some H16; clear H16
      refine l_callV (R := fnR_func_uint8_uint8 g18) (r := .int .u8 t18) (v := fv) (fun w hF hS => ⟨(hf.fn (gFn_some h_g18) _), ⟨(a1 k14), _, rfl, h_t18, rfl⟩⟩) rfl rfl rfl rfl ?_
      obtain ⟨k19, h_k19, H18⟩ := bnd_some H17; clear H17
      refine l_val rfl rfl rfl (r_indexPG Try.runUnderlying81 Try.sizeOf5 rfl rfl h_k19) ?_
      refine l_store (i := 0) (vs := [.int .u8 t18]) (cs' := [.int .u8 ((setA m_3 k19 t18) 0), .int .u8 ((setA m_3 k19 t18) 1), .int .u8 ((setA m_3 k19 t18) 2)]) Try.sizeOf5 rfl rfl rfl rfl rfl rfl rfl rfl (wr_arr (pre := []) (post := []) (f := fun (j_ : Int) => [.int .u8 j_]) (n := 3) (sz := 1) (a := m_3) (x := t18) rfl rfl (fun _ => rfl) (gIx_lt h_k19) rfl rfl) ?_
      refine l_nil ?_
      refine c_region ?_
      obtain ⟨t20, h_t20, H19⟩ := bnd_some H18; clear H18
      refine l_val rfl rfl rfl (r_addG rfl rfl h_t20) ?_
      refine l_val rfl rfl rfl (r_move (v := .int .i64 t20) rfl) ?_
      refine l_nil ?_
      refine c_close (t20, (setA m_3 k19 t18)) () m2 [0, 1] (by exact ⟨rfl, rfl, rfl, rfl, rfl, trivial⟩) (by decide) rfl (by exact ⟨(by subst hn2; exact H19), trivial⟩) (Nat.lt_succ_self _)
    · have H20 := cnd_f hb H13; clear H13
      refine c_exit ?_
      refine c_close m_3 () 0 [0, 1] (by exact ⟨rfl, rfl, trivial⟩) (by decide) rfl (by exact ⟨H20, trivial⟩) (Nat.lt_succ_self _)
  · rintro m _ gg H12 _
    replace H12 : edit_Step_eachByte_j1 m = some r := H12
    refine c_tidyF [(3, .pointer (some ⟨b4, 0, none⟩)), (4, .pointer (some ⟨b5, 0, none⟩))] [cellsC b4 [.int .u8 (m 0), .int .u8 (m 1), .int .u8 (m 2)] 81, cellsC b5 [.int .u8 0, .int .u8 0, .int .u8 0] 81] rfl rfl ?_
    refine c_seq ?_
    refine c_region ?_
    refine l_loadN (i := 0) (vs := [.int .u8 (m 0), .int .u8 (m 1), .int .u8 (m 2)]) Try.isAgg81 Try.sizeOf81 rfl rfl rfl rfl rfl ?_
    refine l_store (i := 1) (vs := [.int .u8 (m 0), .int .u8 (m 1), .int .u8 (m 2)]) (cs' := [.int .u8 (m 0), .int .u8 (m 1), .int .u8 (m 2)]) Try.sizeOf81 rfl rfl rfl rfl rfl rfl rfl rfl rfl ?_
    refine l_nil ?_
    refine c_ret ?_
    obtain rfl := Option.some.inj H12
    refine retC (i := 1) (vs := [.int .u8 (m 0), .int .u8 (m 1), .int .u8 (m 2)]) Try.isAgg81 Try.sizeOf81 rfl rfl rfl rfl (fin rfl)
theorem k120 {a0 : T_edit_Step} {r : (Option ((Nat → Int) → Option ((Nat → Int))))} (H : edit_Step_byPixel a0 = some r) : RetF Try.prog 120 [.agg #[.int .i64 a0.Kind, .int .i64 a0.A, .int .i64 a0.B, .int .i64 a0.C, .int .i64 a0.D]] (fun v => FnV Try.prog v r (fun g => fnR_func_3_uint8_3_uint8 g)) := by
  refine enterRetF (n := 15) Try.func120 rfl rfl rfl (fun wd => ?_)
  refine c_seq ?_
  refine c_region ?_
  refine l_box (cs := [.int .i64 a0.Kind, .int .i64 a0.A, .int .i64 a0.B, .int .i64 a0.C, .int .i64 a0.D]) rfl rfl rfl rfl (fun b1 => ?_)
  refine l_val rfl rfl rfl (r_assign (v := .nilFunc) rfl) ?_
  refine l_nil ?_
  refine c_seq ?_
  refine c_seq ?_
  refine c_region ?_
  refine l_val rfl rfl rfl (r_field Try.runUnderlying69 rfl Try.sizeOf3 rfl rfl) ?_
  refine l_load1 (i := 0) (v := .int .i64 a0.Kind) Try.isAgg3 rfl rfl rfl rfl rfl ?_
  refine l_nil ?_
  refine c_block ?_
  refine c_seq ?_
  refine c_region ?_
  refine l_val rfl rfl rfl (r_eql rfl rfl) ?_
  refine l_val rfl rfl rfl (r_assign (v := .bool (decide (a0.Kind = 7))) rfl) ?_
  refine l_nil ?_
  refine c_if (b := (decide (a0.Kind = 7))) rfl (fun hb => ?_) (fun hb => ?_)
  · have H5 := cnd_t hb H; clear H
    refine c_seq ?_
    refine c_region ?_
    refine l_loadN (i := 0) (vs := [.int .i64 a0.Kind, .int .i64 a0.A, .int .i64 a0.B, .int .i64 a0.C, .int .i64 a0.D]) Try.isAgg69 Try.sizeOf69 rfl rfl rfl rfl rfl ?_
    refine l_val rfl rfl rfl (r_makeFnP (pre := #[.agg #[.int .i64 a0.Kind, .int .i64 a0.A, .int .i64 a0.B, .int .i64 a0.C, .int .i64 a0.D]]) (caps := #[]) rfl rfl) ?_
    refine l_val rfl rfl rfl (r_assign (v := .func (.func 155) #[.agg #[.int .i64 a0.Kind, .int .i64 a0.A, .int .i64 a0.B, .int .i64 a0.C, .int .i64 a0.D]] #[]) rfl) ?_
    refine l_nil ?_
    refine c_ret ?_
    obtain rfl := Option.some.inj H5
    refine ret1 (v := .func (.func 155) #[.agg #[.int .i64 a0.Kind, .int .i64 a0.A, .int .i64 a0.B, .int .i64 a0.C, .int .i64 a0.D]] #[]) rfl rfl (finF (φ := fun v => FnV Try.prog v (some (edit_Step_warm a0)) (fun g => fnR_func_3_uint8_3_uint8 g)) (FnV.mk (g := (edit_Step_warm a0)) (R := fun g => fnR_func_3_uint8_3_uint8 g) (fun h_ => (FnH.mk ⟨155, #[.agg #[.int .i64 a0.Kind, .int .i64 a0.A, .int .i64 a0.B, .int .i64 a0.C, .int .i64 a0.D]], #[], rfl, Try.call155, fun args2 post2 w2 hk2 hR2 => by obtain ⟨a0_, r_, rfl, H_, rfl⟩ := hR2; exact k155 H_ w2⟩))))
  · have H6 := cnd_f hb H; clear H
    refine c_seq ?_
    refine c_region ?_
    refine l_val rfl rfl rfl (r_eql rfl rfl) ?_
    refine l_val rfl rfl rfl (r_assign (v := .bool (decide (a0.Kind = 8))) rfl) ?_
    refine l_nil ?_
    refine c_if (b := (decide (a0.Kind = 8))) rfl (fun hb => ?_) (fun hb => ?_)
    · have H7 := cnd_t hb H6; clear H6
      refine c_seq ?_
      refine c_region ?_
      refine l_loadN (i := 0) (vs := [.int .i64 a0.Kind, .int .i64 a0.A, .int .i64 a0.B, .int .i64 a0.C, .int .i64 a0.D]) Try.isAgg69 Try.sizeOf69 rfl rfl rfl rfl rfl ?_
      refine l_val rfl rfl rfl (r_makeFnP (pre := #[.agg #[.int .i64 a0.Kind, .int .i64 a0.A, .int .i64 a0.B, .int .i64 a0.C, .int .i64 a0.D]]) (caps := #[]) rfl rfl) ?_
      refine l_val rfl rfl rfl (r_assign (v := .func (.func 156) #[.agg #[.int .i64 a0.Kind, .int .i64 a0.A, .int .i64 a0.B, .int .i64 a0.C, .int .i64 a0.D]] #[]) rfl) ?_
      refine l_nil ?_
      refine c_ret ?_
      obtain rfl := Option.some.inj H7
      refine ret1 (v := .func (.func 156) #[.agg #[.int .i64 a0.Kind, .int .i64 a0.A, .int .i64 a0.B, .int .i64 a0.C, .int .i64 a0.D]] #[]) rfl rfl (finF (φ := fun v => FnV Try.prog v (some (edit_Step_mute a0)) (fun g => fnR_func_3_uint8_3_uint8 g)) (FnV.mk (g := (edit_Step_mute a0)) (R := fun g => fnR_func_3_uint8_3_uint8 g) (fun h_ => (FnH.mk ⟨156, #[.agg #[.int .i64 a0.Kind, .int .i64 a0.A, .int .i64 a0.B, .int .i64 a0.C, .int .i64 a0.D]], #[], rfl, Try.call156, fun args2 post2 w2 hk2 hR2 => by obtain ⟨a0_, r_, rfl, H_, rfl⟩ := hR2; exact k156 H_ w2⟩))))
    · have H8 := cnd_f hb H6; clear H6
      refine c_skip ?_
      refine c_seq ?_
      refine c_region ?_
      refine l_loadN (i := 0) (vs := [.int .i64 a0.Kind, .int .i64 a0.A, .int .i64 a0.B, .int .i64 a0.C, .int .i64 a0.D]) Try.isAgg69 Try.sizeOf69 rfl rfl rfl rfl rfl ?_
      refine l_val rfl rfl rfl (r_makeFnP (pre := #[.agg #[.int .i64 a0.Kind, .int .i64 a0.A, .int .i64 a0.B, .int .i64 a0.C, .int .i64 a0.D]]) (caps := #[]) rfl rfl) ?_
      refine l_val rfl rfl rfl (r_assign (v := .func (.func 157) #[.agg #[.int .i64 a0.Kind, .int .i64 a0.A, .int .i64 a0.B, .int .i64 a0.C, .int .i64 a0.D]] #[]) rfl) ?_
      refine l_nil ?_
      refine c_ret ?_
      obtain rfl := Option.some.inj H8
      refine ret1 (v := .func (.func 157) #[.agg #[.int .i64 a0.Kind, .int .i64 a0.A, .int .i64 a0.B, .int .i64 a0.C, .int .i64 a0.D]] #[]) rfl rfl (finF (φ := fun v => FnV Try.prog v (some (edit_Step_eachByte a0)) (fun g => fnR_func_3_uint8_3_uint8 g)) (FnV.mk (g := (edit_Step_eachByte a0)) (R := fun g => fnR_func_3_uint8_3_uint8 g) (fun h_ => (FnH.mk ⟨157, #[.agg #[.int .i64 a0.Kind, .int .i64 a0.A, .int .i64 a0.B, .int .i64 a0.C, .int .i64 a0.D]], #[], rfl, Try.call157, fun args2 post2 w2 hk2 hR2 => by obtain ⟨a0_, r_, rfl, H_, rfl⟩ := hR2; exact k157 H_ w2⟩))))
theorem k54 {a0 : (List T_edit_Step)} {v0 : Value} {a1 : (Nat → Int)} {r : (Nat → Int) × Int} {w : World} {h : Heap} (hw : Know h w noS) (f0 : FrS h 5 v0 (a0.map e_edit_Step)) (H : edit_Pixel a0 a1 = some r) : Does Try.prog 54 (List.toArray [v0, .agg #[.int .u8 (a1 0), .int .u8 (a1 1), .int .u8 (a1 2)]]) w (fun v w' => v = (.tuple #[.agg #[.int .u8 (r.1 0), .int .u8 (r.1 1), .int .u8 (r.1 2)], .int .i64 r.2]) ∧ Grow w w') := by
  refine enter (n := 30) Try.func54 rfl rfl rfl noS [] (Sat.nil _ _) ?_
  refine c_seq ?_
  refine c_region ?_
  refine l_box (cs := [.int .u8 (a1 0), .int .u8 (a1 1), .int .u8 (a1 2)]) rfl rfl rfl rfl (fun b3 => ?_)
  refine l_alloc (cs := [.int .u8 0, .int .u8 0, .int .u8 0]) Try.zeroValue81 rfl rfl rfl (fun b4 => ?_)
  refine l_val rfl rfl rfl (r_assign (v := .int .i64 0) rfl) ?_
  refine l_nil ?_
  refine c_seq ?_
  refine c_seq ?_
  refine c_region ?_
  refine l_val rfl rfl rfl (r_move (v := v0) rfl) ?_
  obtain ⟨t10, h_t10, H16⟩ := bnd_some H; clear H
  refine l_callG (fun w hF hS => k104 (know_all w) (f0.mono (hw.now hF)) h_t10) Try.call104 rfl rfl rfl ?_
  refine l_val rfl rfl rfl (r_assign (v := .int .i64 t10) rfl) ?_
  refine l_nil ?_
  refine c_seq ?_
  refine c_region ?_
  refine l_val rfl rfl rfl (r_move (v := .int .i64 t10) rfl) ?_
  refine l_val rfl rfl rfl (r_neq rfl rfl) ?_
  refine l_nil ?_
  refine c_if (b := (decide (t10 ≠ 0))) rfl (fun hb => ?_) (fun hb => ?_)
  · have H17 := cnd_t hb H16; clear H16
    refine c_seq ?_
    refine c_region ?_
    refine l_val rfl rfl rfl (r_buildA (ps := []) (cells := #[.int .u8 0, .int .u8 0, .int .u8 0]) Try.zeroValue81 Try.runUnderlying81 Try.sizeOf5 rfl rfl) ?_
    refine l_val rfl rfl rfl (r_move (v := .int .i64 t10) rfl) ?_
    refine l_store (i := 1) (vs := [.int .u8 0, .int .u8 0, .int .u8 0]) (cs' := [.int .u8 0, .int .u8 0, .int .u8 0]) Try.sizeOf81 rfl rfl rfl rfl rfl rfl rfl rfl rfl ?_
    refine l_val rfl rfl rfl (r_assign (v := .int .i64 t10) rfl) ?_
    refine l_nil ?_
    refine c_ret ?_
    obtain rfl := Option.some.inj H17
    refine retCt (i := 1) (vs := [.int .u8 0, .int .u8 0, .int .u8 0]) (v2 := .int .i64 t10) Try.isAgg81 Try.sizeOf81 rfl rfl rfl rfl rfl (fin rfl)
  · have H18 := cnd_f hb H16; clear H16
    refine c_skip ?_
    refine c_meet (r := r) (σ := (Nat → Int)) (τ := Unit) (fun s => edit_Pixel_j1 s) (fun s t => [(3, .pointer (some ⟨b3, 0, none⟩)), (4, .pointer (some ⟨b4, 0, none⟩))]) (fun s t => [cellsC b3 [.int .u8 (s 0), .int .u8 (s 1), .int .u8 (s 2)] 81, cellsC b4 [.int .u8 0, .int .u8 0, .int .u8 0] 81]) (fun s t => True) ?_ ?_
    · refine c_seq ?_
      refine c_region ?_
      refine l_val rfl rfl rfl (r_move (v := v0) rfl) ?_
      refine l_val rfl rfl rfl (r_lenF Try.underlying61 rfl f0 rfl) ?_
      refine l_val rfl rfl rfl (r_move (v := .int .i64 0) rfl) ?_
      refine l_nil ?_
      refine c_block ?_
      refine c_fix (σ := Int × (Nat → Int)) (τ := Unit) (fun next2 s => edit_Pixel_l2 a0 next2 s.1 s.2) (fun s t => [(3, .pointer (some ⟨b3, 0, none⟩)), (4, .pointer (some ⟨b4, 0, none⟩)), (15, v0), (16, .int .i64 (a0.length : Int)), (17, .int .i64 s.1)]) (fun s t => [cellsC b3 [.int .u8 (s.2 0), .int .u8 (s.2 1), .int .u8 (s.2 2)] 81, cellsC b4 [.int .u8 0, .int .u8 0, .int .u8 0] 81]) (fun s t => True) (0, a1) () [0, 1] H18 (by exact trivial) (by exact ⟨rfl, rfl, rfl, rfl, rfl, trivial⟩) (by decide) rfl ?_
      rintro ⟨x17_2, m_3⟩ _ m2 gg H20 _
      clear H18
      replace H20 : edit_Pixel_l2 a0 (it (fun next2 s => edit_Pixel_l2 a0 next2 s.1 s.2) m2) x17_2 m_3 = some r := H20
      generalize hn2 : it (fun next2 s => edit_Pixel_l2 a0 next2 s.1 s.2) m2 = next2 at H20
      refine c_tidyF [(3, .pointer (some ⟨b3, 0, none⟩)), (4, .pointer (some ⟨b4, 0, none⟩)), (15, v0), (16, .int .i64 (a0.length : Int)), (17, .int .i64 x17_2)] [cellsC b3 [.int .u8 (m_3 0), .int .u8 (m_3 1), .int .u8 (m_3 2)] 81, cellsC b4 [.int .u8 0, .int .u8 0, .int .u8 0] 81] rfl rfl ?_
      refine c_seq ?_
      refine c_region ?_
      refine l_val rfl rfl rfl (r_lss rfl rfl) ?_
      refine l_nil ?_
      refine c_seq ?_
      refine c_if (b := (decide (x17_2 < (a0.length : Int)))) rfl (fun hb => ?_) (fun hb => ?_)
      · have H21 := cnd_t hb H20; clear H20
        refine c_skip ?_
        refine c_seq ?_
        refine c_block ?_
        refine c_seq ?_
        refine c_region ?_
        obtain ⟨t19, h_t19, H22⟩ := bnd_some H21; clear H21
        refine l_val rfl rfl rfl (r_indexF Try.underlying61 Try.sizeOf69 rfl rfl f0 h_t19) ?_
        refine l_read (fun w hF hS => run_loadGN (f := e_edit_Step) (i := x17_2) (sz := 5) (j := 0) (vs := [.int .i64 t19.Kind, .int .i64 t19.A, .int .i64 t19.B, .int .i64 t19.C, .int .i64 t19.D]) Try.isAgg69 Try.sizeOf69 rfl rfl (f0.row (hw.now hF)) h_t19 rfl) rfl rfl rfl ?_
        refine l_alloc (cs := [.int .i64 0, .int .i64 0, .int .i64 0, .int .i64 0, .int .i64 0]) Try.zeroValue69 rfl rfl rfl (fun b5 => ?_)
        refine l_store (i := 2) (vs := [.int .i64 t19.Kind, .int .i64 t19.A, .int .i64 t19.B, .int .i64 t19.C, .int .i64 t19.D]) (cs' := [.int .i64 t19.Kind, .int .i64 t19.A, .int .i64 t19.B, .int .i64 t19.C, .int .i64 t19.D]) Try.sizeOf69 rfl rfl rfl rfl rfl rfl rfl rfl rfl ?_
        refine l_nil ?_
        refine c_seq ?_
        refine c_seq ?_
        refine c_region ?_
        refine l_loadN (i := 2) (vs := [.int .i64 t19.Kind, .int .i64 t19.A, .int .i64 t19.B, .int .i64 t19.C, .int .i64 t19.D]) Try.isAgg69 Try.sizeOf69 rfl rfl rfl rfl rfl ?_
        obtain ⟨t22, h_t22, H23⟩ := bnd_some H22; clear H22
        refine l_call (k119 h_t22) Try.call119 rfl rfl rfl ?_
        refine l_nil ?_
        refine c_if (b := t22) rfl (fun hb => ?_) (fun hb => ?_)
        · have H24 := cnd_t hb H23; clear H23
          refine c_seq ?_
          refine c_region ?_
          refine l_val rfl rfl rfl (r_buildA (ps := []) (cells := #[.int .u8 0, .int .u8 0, .int .u8 0]) Try.zeroValue81 Try.runUnderlying81 Try.sizeOf5 rfl rfl) ?_
          refine l_store (i := 1) (vs := [.int .u8 0, .int .u8 0, .int .u8 0]) (cs' := [.int .u8 0, .int .u8 0, .int .u8 0]) Try.sizeOf81 rfl rfl rfl rfl rfl rfl rfl rfl rfl ?_
          refine l_val rfl rfl rfl (r_assign (v := .int .i64 10) rfl) ?_
          refine l_nil ?_
          refine c_ret ?_
          obtain rfl := Option.some.inj H24
          refine retCt (i := 1) (vs := [.int .u8 0, .int .u8 0, .int .u8 0]) (v2 := .int .i64 10) Try.isAgg81 Try.sizeOf81 rfl rfl rfl rfl rfl (fin rfl)
        · have H25 := cnd_f hb H23; clear H23
          refine c_skip ?_
          exact c_regionD (Kd.d [2] _ :: Kd.fv _ :: Kd.d [0] _ :: Kd.d [] _ :: Kd.st 3 0 [_, _, _] 81 :: []) 0 mixed (by
            refine d_loadN (i := 2) (vs := [.int .i64 t19.Kind, .int .i64 t19.A, .int .i64 t19.B, .int .i64 t19.C, .int .i64 t19.D]) Try.isAgg69 Try.sizeOf69 rfl rfl rfl rfl ?_
            have h_t25 := bnd_val H25
            have H26 := bnd_rest H25
            refine d_callF (k120 h_t25) Try.call120 rfl rfl (fun fv hf => ?_)
            refine d_loadN (i := 0) (vs := [.int .u8 (m_3 0), .int .u8 (m_3 1), .int .u8 (m_3 2)]) Try.isAgg81 Try.sizeOf81 rfl rfl rfl rfl ?_
            have h_g27 := bnd_val H26
            have H27 := bnd_rest H26
            have h_t27 := bnd_val H27
            have H28 := bnd_rest H27
            refine d_callV (R := fnR_func_3_uint8_3_uint8 (val (gFn (val (edit_Step_byPixel t19))))) (r := .agg #[.int .u8 ((val ((val (gFn (val (edit_Step_byPixel t19)))) m_3)) 0), .int .u8 ((val ((val (gFn (val (edit_Step_byPixel t19)))) m_3)) 1), .int .u8 ((val ((val (gFn (val (edit_Step_byPixel t19)))) m_3)) 2)]) (v := fv) (fun w L' hF hS hi => ⟨(hf.fn (gFn_some h_g27) _), ⟨m_3, _, rfl, h_t27, rfl⟩⟩) rfl rfl rfl ?_
            refine d_store (i := 0) (vs := [.int .u8 ((val ((val (gFn (val (edit_Step_byPixel t19)))) m_3)) 0), .int .u8 ((val ((val (gFn (val (edit_Step_byPixel t19)))) m_3)) 1), .int .u8 ((val ((val (gFn (val (edit_Step_byPixel t19)))) m_3)) 2)]) (cs' := [.int .u8 ((val ((val (gFn (val (edit_Step_byPixel t19)))) m_3)) 0), .int .u8 ((val ((val (gFn (val (edit_Step_byPixel t19)))) m_3)) 1), .int .u8 ((val ((val (gFn (val (edit_Step_byPixel t19)))) m_3)) 2)]) Try.sizeOf81 rfl rfl rfl rfl rfl rfl rfl rfl rfl ?_
            refine d_nil ?_
            refine c_region ?_
            obtain ⟨t28, h_t28, H29⟩ := bnd_some H28; clear H28
            refine l_val rfl rfl rfl (r_addG rfl rfl h_t28) ?_
            refine l_val rfl rfl rfl (r_move (v := .int .i64 t28) rfl) ?_
            refine l_nil ?_
            refine c_close (t28, (val ((val (gFn (val (edit_Step_byPixel t19)))) m_3))) () m2 [0, 1] (by exact ⟨rfl, rfl, rfl, rfl, rfl, trivial⟩) (by decide) rfl (by exact ⟨(by subst hn2; exact H29), trivial⟩) (Nat.lt_succ_self _)
            ) (by kernel_rfl)
      · have H30 := cnd_f hb H20; clear H20
        refine c_exit ?_
        refine c_close m_3 () 0 [0, 1] (by exact ⟨rfl, rfl, trivial⟩) (by decide) rfl (by exact ⟨H30, trivial⟩) (Nat.lt_succ_self _)
    · rintro m _ gg H19 _
      replace H19 : edit_Pixel_j1 m = some r := H19
      refine c_tidyF [(3, .pointer (some ⟨b3, 0, none⟩)), (4, .pointer (some ⟨b4, 0, none⟩))] [cellsC b3 [.int .u8 (m 0), .int .u8 (m 1), .int .u8 (m 2)] 81, cellsC b4 [.int .u8 0, .int .u8 0, .int .u8 0] 81] rfl rfl ?_
      refine c_seq ?_
      refine c_region ?_
      refine l_loadN (i := 0) (vs := [.int .u8 (m 0), .int .u8 (m 1), .int .u8 (m 2)]) Try.isAgg81 Try.sizeOf81 rfl rfl rfl rfl rfl ?_
      refine l_store (i := 1) (vs := [.int .u8 (m 0), .int .u8 (m 1), .int .u8 (m 2)]) (cs' := [.int .u8 (m 0), .int .u8 (m 1), .int .u8 (m 2)]) Try.sizeOf81 rfl rfl rfl rfl rfl rfl rfl rfl rfl ?_
      refine l_val rfl rfl rfl (r_assign (v := .int .i64 0) rfl) ?_
      refine l_nil ?_
      refine c_ret ?_
      obtain rfl := Option.some.inj H19
      refine retCt (i := 1) (vs := [.int .u8 (m 0), .int .u8 (m 1), .int .u8 (m 2)]) (v2 := .int .i64 0) Try.isAgg81 Try.sizeOf81 rfl rfl rfl rfl rfl (fin rfl)
theorem k55 {a0 : T_edit_Step} {r : Bool} (H : R_Shaped a0 = some r) : Ret Try.prog 55 [.agg #[.int .i64 a0.Kind, .int .i64 a0.A, .int .i64 a0.B, .int .i64 a0.C, .int .i64 a0.D]] (.bool r) := by
  refine enterRet (n := 11) Try.func55 rfl rfl rfl (fun wd => ?_)
  refine c_seq ?_
  refine c_region ?_
  refine l_box (cs := [.int .i64 a0.Kind, .int .i64 a0.A, .int .i64 a0.B, .int .i64 a0.C, .int .i64 a0.D]) rfl rfl rfl rfl (fun b1 => ?_)
  refine l_val rfl rfl rfl (r_assign (v := .bool false) rfl) ?_
  refine l_nil ?_
  refine c_seq ?_
  refine c_region ?_
  refine l_val rfl rfl rfl (r_field Try.runUnderlying69 rfl Try.sizeOf3 rfl rfl) ?_
  refine l_load1 (i := 0) (v := .int .i64 a0.Kind) Try.isAgg3 rfl rfl rfl rfl rfl ?_
  refine l_val rfl rfl rfl (r_geq rfl rfl) ?_
  refine l_val rfl rfl rfl (r_move (v := .bool (decide (1 ≤ a0.Kind))) rfl) ?_
  refine split (fun hb => ?_) (fun hb => ?_)
  · have H3 := cnd_t hb H; clear H
    refine l_val rfl rfl rfl (r_field Try.runUnderlying69 rfl Try.sizeOf3 rfl rfl) ?_
    refine l_load1 (i := 0) (v := .int .i64 a0.Kind) Try.isAgg3 rfl rfl rfl rfl rfl ?_
    refine l_val rfl rfl rfl (r_leq rfl rfl) ?_
    refine l_val rfl rfl rfl (r_pickT (v := .bool (decide (a0.Kind ≤ 3))) rfl rfl) ?_
    refine l_val rfl rfl rfl (r_assign (v := .bool (decide (a0.Kind ≤ 3))) rfl) ?_
    refine l_nil ?_
    refine c_ret ?_
    obtain rfl := Option.some.inj H3
    refine ret1 (v := .bool (decide (a0.Kind ≤ 3))) rfl rfl (fin rfl)
  · have H4 := cnd_f hb H; clear H
    refine l_passed rfl rfl rfl ?_
    refine l_passed rfl rfl rfl ?_
    refine l_passed rfl rfl rfl ?_
    refine l_val rfl rfl rfl (r_pickF (v := .bool false) rfl rfl) ?_
    refine l_val rfl rfl rfl (r_assign (v := .bool false) rfl) ?_
    refine l_nil ?_
    refine c_ret ?_
    obtain rfl := Option.some.inj H4
    refine ret1 (v := .bool false) rfl rfl (fin rfl)
theorem k81 {a0 : Int} {a1 : Int} {r : Int} (H : R_down a0 a1 = some r) : Ret Try.prog 81 [.int .i64 a0, .int .i64 a1] (.int .i64 r) := by
  refine enterRet (n := 23) Try.func81 rfl rfl rfl (fun wd => ?_)
  refine c_seq ?_
  refine c_region ?_
  refine l_val rfl rfl rfl (r_assign (v := .int .i64 0) rfl) ?_
  refine l_nil ?_
  refine c_seq ?_
  refine c_region ?_
  refine l_val rfl rfl rfl (r_move (v := .int .i64 a0) rfl) ?_
  refine l_val rfl rfl rfl (r_move (v := .int .i64 a1) rfl) ?_
  obtain ⟨t8, h_t8, H8⟩ := bnd_some H; clear H
  refine l_val rfl rfl rfl (r_quoG rfl rfl h_t8) ?_
  refine l_val rfl rfl rfl (r_assign (v := .int .i64 t8) rfl) ?_
  refine l_nil ?_
  refine c_seq ?_
  refine c_seq ?_
  refine c_region ?_
  refine l_val rfl rfl rfl (r_move (v := .int .i64 a0) rfl) ?_
  refine l_val rfl rfl rfl (r_move (v := .int .i64 a1) rfl) ?_
  obtain ⟨t11, h_t11, H9⟩ := bnd_some H8; clear H8
  refine l_val rfl rfl rfl (r_remG rfl rfl h_t11) ?_
  refine l_val rfl rfl rfl (r_neq rfl rfl) ?_
  refine l_val rfl rfl rfl (r_move (v := .bool (decide (t11 ≠ 0))) rfl) ?_
  refine split (fun hb => ?_) (fun hb => ?_)
  · have H10 := cnd_t hb H9; clear H9
    refine l_val rfl rfl rfl (r_move (v := .int .i64 a0) rfl) ?_
    refine l_val rfl rfl rfl (r_lss rfl rfl) ?_
    refine l_val rfl rfl rfl (r_move (v := .int .i64 a1) rfl) ?_
    refine l_val rfl rfl rfl (r_lss rfl rfl) ?_
    refine l_val rfl rfl rfl (r_neqB Try.underlying4 rfl rfl) ?_
    refine l_val rfl rfl rfl (r_pickT (v := .bool (decide ((decide (a0 < 0)) ≠ (decide (a1 < 0))))) rfl rfl) ?_
    refine l_nil ?_
    refine c_if (b := (decide ((decide (a0 < 0)) ≠ (decide (a1 < 0))))) rfl (fun hb => ?_) (fun hb => ?_)
    · have H11 := cnd_t hb H10; clear H10
      refine c_region ?_
      refine l_val rfl rfl rfl (r_move (v := .int .i64 t8) rfl) ?_
      obtain ⟨t21, h_t21, H12⟩ := bnd_some H11; clear H11
      refine l_val rfl rfl rfl (r_subG rfl rfl h_t21) ?_
      refine l_val rfl rfl rfl (r_assign (v := .int .i64 t21) rfl) ?_
      refine l_nil ?_
      refine c_seq ?_
      refine c_region ?_
      refine l_val rfl rfl rfl (r_move (v := .int .i64 t21) rfl) ?_
      refine l_val rfl rfl rfl (r_assign (v := .int .i64 t21) rfl) ?_
      refine l_nil ?_
      refine c_ret ?_
      obtain rfl := Option.some.inj H12
      refine ret1 (v := .int .i64 t21) rfl rfl (fin rfl)
    · have H13 := cnd_f hb H10; clear H10
      refine c_skip ?_
      refine c_seq ?_
      refine c_region ?_
      refine l_val rfl rfl rfl (r_move (v := .int .i64 t8) rfl) ?_
      refine l_val rfl rfl rfl (r_assign (v := .int .i64 t8) rfl) ?_
      refine l_nil ?_
      refine c_ret ?_
      obtain rfl := Option.some.inj H13
      refine ret1 (v := .int .i64 t8) rfl rfl (fin rfl)
  · have H14 := cnd_f hb H9; clear H9
    refine l_passed rfl rfl rfl ?_
    refine l_passed rfl rfl rfl ?_
    refine l_passed rfl rfl rfl ?_
    refine l_passed rfl rfl rfl ?_
    refine l_passed rfl rfl rfl ?_
    refine l_val rfl rfl rfl (r_pickF (v := .bool false) rfl rfl) ?_
    refine l_nil ?_
    refine c_false rfl ?_
    refine c_skip ?_
    refine c_seq ?_
    refine c_region ?_
    refine l_val rfl rfl rfl (r_move (v := .int .i64 t8) rfl) ?_
    refine l_val rfl rfl rfl (r_assign (v := .int .i64 t8) rfl) ?_
    refine l_nil ?_
    refine c_ret ?_
    obtain rfl := Option.some.inj H14
    refine ret1 (v := .int .i64 t8) rfl rfl (fin rfl)
theorem k121 {a0 : Int} {r : Int} (H : R_byteOf a0 = some r) : Ret Try.prog 121 [.int .i64 a0] (.int .i64 r) := by
  refine enterRet (n := 6) Try.func121 rfl rfl rfl (fun wd => ?_)
  refine c_seq ?_
  refine c_region ?_
  refine l_val rfl rfl rfl (r_assign (v := .int .i64 0) rfl) ?_
  refine l_nil ?_
  refine c_seq ?_
  refine c_region ?_
  refine l_val rfl rfl rfl (r_move (v := .int .i64 a0) rfl) ?_
  refine l_val rfl rfl rfl (r_max rfl rfl) ?_
  refine l_val rfl rfl rfl (r_min rfl rfl) ?_
  refine l_val rfl rfl rfl (r_assign (v := .int .i64 (min (max a0 0) 255)) rfl) ?_
  refine l_nil ?_
  refine c_ret ?_
  obtain rfl := Option.some.inj H
  refine ret1 (v := .int .i64 (min (max a0 0) 255)) rfl rfl (fin rfl)
theorem k56 {a0 : T_edit_Step} {a1 : (Nat → Int)} {r : (Nat → Int)} (H : R_Dot a0 a1 = some r) : Ret Try.prog 56 [.agg #[.int .i64 a0.Kind, .int .i64 a0.A, .int .i64 a0.B, .int .i64 a0.C, .int .i64 a0.D], .agg #[.int .i64 (a1 0), .int .i64 (a1 1), .int .i64 (a1 2)]] (.agg #[.int .i64 (r 0), .int .i64 (r 1), .int .i64 (r 2)]) := by
  refine enterRet (n := 89) Try.func56 rfl rfl rfl (fun wd => ?_)
  refine c_seq ?_
  refine c_region ?_
  refine l_box (cs := [.int .i64 a0.Kind, .int .i64 a0.A, .int .i64 a0.B, .int .i64 a0.C, .int .i64 a0.D]) rfl rfl rfl rfl (fun b4 => ?_)
  refine l_box (cs := [.int .i64 (a1 0), .int .i64 (a1 1), .int .i64 (a1 2)]) rfl rfl rfl rfl (fun b5 => ?_)
  refine l_alloc (cs := [.int .i64 0, .int .i64 0, .int .i64 0]) Try.zeroValue90 rfl rfl rfl (fun b6 => ?_)
  refine l_nil ?_
  refine c_seq ?_
  refine c_region ?_
  refine l_val rfl rfl rfl (r_indexPA Try.runUnderlying90 Try.sizeOf3 rfl rfl (by decide) (by decide)) ?_
  refine l_load1 (i := 1) (v := .int .i64 (a1 0)) Try.isAgg3 rfl rfl rfl rfl rfl ?_
  obtain ⟨t10, h_t10, H45⟩ := bnd_some H; clear H
  refine l_val rfl rfl rfl (r_mulG rfl rfl h_t10) ?_
  refine l_val rfl rfl rfl (r_indexPA Try.runUnderlying90 Try.sizeOf3 rfl rfl (by decide) (by decide)) ?_
  refine l_load1 (i := 1) (v := .int .i64 (a1 1)) Try.isAgg3 rfl rfl rfl rfl rfl ?_
  obtain ⟨t13, h_t13, H46⟩ := bnd_some H45; clear H45
  refine l_val rfl rfl rfl (r_mulG rfl rfl h_t13) ?_
  obtain ⟨t14, h_t14, H47⟩ := bnd_some H46; clear H46
  refine l_val rfl rfl rfl (r_addG rfl rfl h_t14) ?_
  refine l_val rfl rfl rfl (r_indexPA Try.runUnderlying90 Try.sizeOf3 rfl rfl (by decide) (by decide)) ?_
  refine l_load1 (i := 1) (v := .int .i64 (a1 2)) Try.isAgg3 rfl rfl rfl rfl rfl ?_
  obtain ⟨t17, h_t17, H48⟩ := bnd_some H47; clear H47
  refine l_val rfl rfl rfl (r_mulG rfl rfl h_t17) ?_
  obtain ⟨t18, h_t18, H49⟩ := bnd_some H48; clear H48
  refine l_val rfl rfl rfl (r_addG rfl rfl h_t18) ?_
  obtain ⟨t19, h_t19, H50⟩ := bnd_some H49; clear H49
  refine l_call (k81 h_t19) Try.call81 rfl rfl rfl ?_
  refine l_val rfl rfl rfl (r_assign (v := .int .i64 t19) rfl) ?_
  refine l_nil ?_
  refine c_meet (r := r) (σ := (Nat → Int)) (τ := Unit) (fun s => R_Dot_j1 s) (fun s t => [(3, .pointer (some ⟨b5, 0, none⟩)), (4, .pointer (some ⟨b6, 0, none⟩))]) (fun s t => [cellsC b5 [.int .i64 (s 0), .int .i64 (s 1), .int .i64 (s 2)] 90, cellsC b6 [.int .i64 0, .int .i64 0, .int .i64 0] 90]) (fun s t => True) ?_ ?_
  · refine c_seq ?_
    refine c_region ?_
    refine l_loadN (i := 1) (vs := [.int .i64 (a1 0), .int .i64 (a1 1), .int .i64 (a1 2)]) Try.isAgg90 Try.sizeOf90 rfl rfl rfl rfl rfl ?_
    refine l_val rfl rfl rfl (r_move (v := .int .i64 0) rfl) ?_
    refine l_nil ?_
    refine c_block ?_
    refine c_fix (σ := Int × (Nat → Int)) (τ := Unit) (fun next2 s => R_Dot_l2 a0 a1 t19 next2 s.1 s.2) (fun s t => [(2, .pointer (some ⟨b4, 0, none⟩)), (3, .pointer (some ⟨b5, 0, none⟩)), (4, .pointer (some ⟨b6, 0, none⟩)), (5, .int .i64 t19), (20, .agg #[.int .i64 (a1 0), .int .i64 (a1 1), .int .i64 (a1 2)]), (21, .int .i64 s.1)]) (fun s t => [cellsC b4 [.int .i64 a0.Kind, .int .i64 a0.A, .int .i64 a0.B, .int .i64 a0.C, .int .i64 a0.D] 69, cellsC b5 [.int .i64 (s.2 0), .int .i64 (s.2 1), .int .i64 (s.2 2)] 90, cellsC b6 [.int .i64 0, .int .i64 0, .int .i64 0] 90]) (fun s t => True) (0, a1) () [0, 1, 2] H50 (by exact trivial) (by exact ⟨rfl, rfl, rfl, rfl, rfl, rfl, trivial⟩) (by decide) rfl ?_
    rintro ⟨x21_2, m_3⟩ _ m2 gg H52 _
    clear H50
    replace H52 : R_Dot_l2 a0 a1 t19 (it (fun next2 s => R_Dot_l2 a0 a1 t19 next2 s.1 s.2) m2) x21_2 m_3 = some r := H52
    generalize hn2 : it (fun next2 s => R_Dot_l2 a0 a1 t19 next2 s.1 s.2) m2 = next2 at H52
    refine c_tidyF [(2, .pointer (some ⟨b4, 0, none⟩)), (3, .pointer (some ⟨b5, 0, none⟩)), (4, .pointer (some ⟨b6, 0, none⟩)), (5, .int .i64 t19), (20, .agg #[.int .i64 (a1 0), .int .i64 (a1 1), .int .i64 (a1 2)]), (21, .int .i64 x21_2)] [cellsC b4 [.int .i64 a0.Kind, .int .i64 a0.A, .int .i64 a0.B, .int .i64 a0.C, .int .i64 a0.D] 69, cellsC b5 [.int .i64 (m_3 0), .int .i64 (m_3 1), .int .i64 (m_3 2)] 90, cellsC b6 [.int .i64 0, .int .i64 0, .int .i64 0] 90] rfl rfl ?_
    refine c_seq ?_
    refine c_region ?_
    refine l_val rfl rfl rfl (r_lss rfl rfl) ?_
    refine l_nil ?_
    refine c_seq ?_
    refine c_if (b := (decide (x21_2 < 3))) rfl (fun hb => ?_) (fun hb => ?_)
    · have H53 := cnd_t hb H52; clear H52
      refine c_skip ?_
      refine c_seq ?_
      refine c_block ?_
      refine c_seq ?_
      refine c_region ?_
      refine l_val rfl rfl rfl (r_move (v := .int .i64 x21_2) rfl) ?_
      obtain ⟨k24, h_k24, H54⟩ := bnd_some H53; clear H53
      refine l_val rfl rfl rfl (r_indexAG (f := fun j_ => .int .i64 (a1 j_)) Try.runUnderlying90 Try.isAgg3 Try.sizeOf3 rfl rfl rfl h_k24) ?_
      refine l_val rfl rfl rfl (r_assign (v := .int .i64 x21_2) rfl) ?_
      refine l_val rfl rfl rfl (r_assign (v := .int .i64 (a1 k24)) rfl) ?_
      refine l_nil ?_
      refine c_meet (r := r) (σ := Int) (τ := Unit) (fun s => R_Dot_j3 x21_2 m_3 next2 s) (fun s t => [(2, .pointer (some ⟨b4, 0, none⟩)), (3, .pointer (some ⟨b5, 0, none⟩)), (4, .pointer (some ⟨b6, 0, none⟩)), (5, .int .i64 t19), (6, .int .i64 x21_2), (7, .int .i64 s), (20, .agg #[.int .i64 (a1 0), .int .i64 (a1 1), .int .i64 (a1 2)]), (21, .int .i64 x21_2)]) (fun s t => [cellsC b4 [.int .i64 a0.Kind, .int .i64 a0.A, .int .i64 a0.B, .int .i64 a0.C, .int .i64 a0.D] 69, cellsC b5 [.int .i64 (m_3 0), .int .i64 (m_3 1), .int .i64 (m_3 2)] 90, cellsC b6 [.int .i64 0, .int .i64 0, .int .i64 0] 90]) (fun s t => True) ?_ ?_
      · refine c_seq ?_
        refine c_region ?_
        refine l_val rfl rfl rfl (r_field Try.runUnderlying69 rfl Try.sizeOf3 rfl rfl) ?_
        refine l_load1 (i := 0) (v := .int .i64 a0.Kind) Try.isAgg3 rfl rfl rfl rfl rfl ?_
        refine l_nil ?_
        refine c_block ?_
        refine c_seq ?_
        refine c_region ?_
        refine l_val rfl rfl rfl (r_eql rfl rfl) ?_
        refine l_val rfl rfl rfl (r_assign (v := .bool (decide (a0.Kind = 4))) rfl) ?_
        refine l_nil ?_
        refine c_if (b := (decide (a0.Kind = 4))) rfl (fun hb => ?_) (fun hb => ?_)
        · have H59 := cnd_t hb H54; clear H54
          refine c_region ?_
          refine l_val rfl rfl rfl (r_move (v := .int .i64 (a1 k24)) rfl) ?_
          refine l_val rfl rfl rfl (r_field Try.runUnderlying69 rfl Try.sizeOf3 rfl rfl) ?_
          refine l_load1 (i := 0) (v := .int .i64 a0.A) Try.isAgg3 rfl rfl rfl rfl rfl ?_
          obtain ⟨t32, h_t32, H60⟩ := bnd_some H59; clear H59
          refine l_val rfl rfl rfl (r_addG rfl rfl h_t32) ?_
          refine l_val rfl rfl rfl (r_assign (v := .int .i64 t32) rfl) ?_
          refine l_nil ?_
          refine c_close t32 () 0 [0, 1, 2] (by exact ⟨rfl, rfl, rfl, rfl, rfl, rfl, rfl, rfl, trivial⟩) (by decide) rfl (by exact ⟨H60, trivial⟩) (Nat.lt_succ_self _)
        · have H61 := cnd_f hb H54; clear H54
          refine c_seq ?_
          refine c_region ?_
          refine l_val rfl rfl rfl (r_eql rfl rfl) ?_
          refine l_val rfl rfl rfl (r_assign (v := .bool (decide (a0.Kind = 5))) rfl) ?_
          refine l_nil ?_
          refine c_if (b := (decide (a0.Kind = 5))) rfl (fun hb => ?_) (fun hb => ?_)
          · have H62 := cnd_t hb H61; clear H61
            refine c_region ?_
            refine l_val rfl rfl rfl (r_move (v := .int .i64 (a1 k24)) rfl) ?_
            obtain ⟨t36, h_t36, H63⟩ := bnd_some H62; clear H62
            refine l_val rfl rfl rfl (r_subG rfl rfl h_t36) ?_
            refine l_val rfl rfl rfl (r_field Try.runUnderlying69 rfl Try.sizeOf3 rfl rfl) ?_
            refine l_load1 (i := 0) (v := .int .i64 a0.A) Try.isAgg3 rfl rfl rfl rfl rfl ?_
            obtain ⟨t39, h_t39, H64⟩ := bnd_some H63; clear H63
            refine l_val rfl rfl rfl (r_mulG rfl rfl h_t39) ?_
            obtain ⟨t40, h_t40, H65⟩ := bnd_some H64; clear H64
            refine l_call (k81 h_t40) Try.call81 rfl rfl rfl ?_
            obtain ⟨t41, h_t41, H66⟩ := bnd_some H65; clear H65
            refine l_val rfl rfl rfl (r_addG rfl rfl h_t41) ?_
            refine l_val rfl rfl rfl (r_assign (v := .int .i64 t41) rfl) ?_
            refine l_nil ?_
            refine c_close t41 () 0 [0, 1, 2] (by exact ⟨rfl, rfl, rfl, rfl, rfl, rfl, rfl, rfl, trivial⟩) (by decide) rfl (by exact ⟨H66, trivial⟩) (Nat.lt_succ_self _)
          · have H67 := cnd_f hb H61; clear H61
            refine c_seq ?_
            refine c_region ?_
            refine l_val rfl rfl rfl (r_eql rfl rfl) ?_
            refine l_val rfl rfl rfl (r_assign (v := .bool (decide (a0.Kind = 6))) rfl) ?_
            refine l_nil ?_
            refine c_if (b := (decide (a0.Kind = 6))) rfl (fun hb => ?_) (fun hb => ?_)
            · have H68 := cnd_t hb H67; clear H67
              refine c_region ?_
              refine l_val rfl rfl rfl (r_move (v := .int .i64 (a1 k24)) rfl) ?_
              refine l_val rfl rfl rfl (r_field Try.runUnderlying69 rfl Try.sizeOf3 rfl rfl) ?_
              refine l_load1 (i := 0) (v := .int .i64 a0.A) Try.isAgg3 rfl rfl rfl rfl rfl ?_
              obtain ⟨t47, h_t47, H69⟩ := bnd_some H68; clear H68
              refine l_val rfl rfl rfl (r_subG rfl rfl h_t47) ?_
              obtain ⟨t48, h_t48, H70⟩ := bnd_some H69; clear H69
              refine l_val rfl rfl rfl (r_mulG rfl rfl h_t48) ?_
              refine l_val rfl rfl rfl (r_field Try.runUnderlying69 rfl Try.sizeOf3 rfl rfl) ?_
              refine l_load1 (i := 0) (v := .int .i64 a0.B) Try.isAgg3 rfl rfl rfl rfl rfl ?_
              refine l_val rfl rfl rfl (r_field Try.runUnderlying69 rfl Try.sizeOf3 rfl rfl) ?_
              refine l_load1 (i := 0) (v := .int .i64 a0.A) Try.isAgg3 rfl rfl rfl rfl rfl ?_
              obtain ⟨t53, h_t53, H71⟩ := bnd_some H70; clear H70
              refine l_val rfl rfl rfl (r_subG rfl rfl h_t53) ?_
              obtain ⟨t54, h_t54, H72⟩ := bnd_some H71; clear H71
              refine l_call (k81 h_t54) Try.call81 rfl rfl rfl ?_
              refine l_val rfl rfl rfl (r_assign (v := .int .i64 t54) rfl) ?_
              refine l_nil ?_
              refine c_close t54 () 0 [0, 1, 2] (by exact ⟨rfl, rfl, rfl, rfl, rfl, rfl, rfl, rfl, trivial⟩) (by decide) rfl (by exact ⟨H72, trivial⟩) (Nat.lt_succ_self _)
            · have H73 := cnd_f hb H67; clear H67
              refine c_seq ?_
              refine c_region ?_
              refine l_val rfl rfl rfl (r_eql rfl rfl) ?_
              refine l_val rfl rfl rfl (r_assign (v := .bool (decide (a0.Kind = 7))) rfl) ?_
              refine l_nil ?_
              refine c_if (b := (decide (a0.Kind = 7))) rfl (fun hb => ?_) (fun hb => ?_)
              · have H74 := cnd_t hb H73; clear H73
                refine c_region ?_
                refine l_val rfl rfl rfl (r_move (v := .int .i64 (a1 k24)) rfl) ?_
                refine l_val rfl rfl rfl (r_field Try.runUnderlying69 rfl Try.sizeOf3 rfl rfl) ?_
                refine l_load1 (i := 0) (v := .int .i64 a0.A) Try.isAgg3 rfl rfl rfl rfl rfl ?_
                refine l_val rfl rfl rfl (r_field Try.runUnderlying69 rfl Try.sizeOf3 rfl rfl) ?_
                refine l_load1 (i := 0) (v := .int .i64 a0.A) Try.isAgg3 rfl rfl rfl rfl rfl ?_
                obtain ⟨t62, h_t62, H75⟩ := bnd_some H74; clear H74
                refine l_val rfl rfl rfl (r_negG rfl h_t62) ?_
                refine l_buildSlice (vs := [.int .i64 a0.A, .int .i64 0, .int .i64 t62]) (cs := [.int .i64 a0.A, .int .i64 0, .int .i64 t62]) Try.underlying148 Try.sizeOf3 Try.zeroValue3 rfl rfl rfl rfl rfl rfl rfl (fun b7 => ?_)
                refine l_val rfl rfl rfl (r_move (v := .int .i64 x21_2) rfl) ?_
                obtain ⟨t65, h_t65, H76⟩ := bnd_some H75; clear H75
                refine l_val rfl rfl rfl (r_indexS Try.underlying148 Try.sizeOf3 rfl rfl h_t65 rfl) ?_
                refine l_read (fun w hF hS => run_loadG1 (f := e_i64) (i := x21_2) (sz := 1) (j := 0) (v := .int .i64 t65) Try.isAgg3 rfl rfl (row_box (sz := 1) (xs := ([a0.A, 0, t62] : List Int).map e_i64) (i := 3) hS rfl rfl rfl) h_t65 rfl) rfl rfl rfl ?_
                obtain ⟨t67, h_t67, H77⟩ := bnd_some H76; clear H76
                refine l_val rfl rfl rfl (r_addG rfl rfl h_t67) ?_
                refine l_val rfl rfl rfl (r_assign (v := .int .i64 t67) rfl) ?_
                refine l_nil ?_
                refine c_close t67 () 0 [0, 1, 2] (by exact ⟨rfl, rfl, rfl, rfl, rfl, rfl, rfl, rfl, trivial⟩) (by decide) rfl (by exact ⟨H77, trivial⟩) (Nat.lt_succ_self _)
              · have H78 := cnd_f hb H73; clear H73
                refine c_seq ?_
                refine c_region ?_
                refine l_val rfl rfl rfl (r_eql rfl rfl) ?_
                refine l_val rfl rfl rfl (r_assign (v := .bool (decide (a0.Kind = 8))) rfl) ?_
                refine l_nil ?_
                refine c_if (b := (decide (a0.Kind = 8))) rfl (fun hb => ?_) (fun hb => ?_)
                · have H79 := cnd_t hb H78; clear H78
                  refine c_region ?_
                  refine l_val rfl rfl rfl (r_move (v := .int .i64 (a1 k24)) rfl) ?_
                  refine l_val rfl rfl rfl (r_move (v := .int .i64 t19) rfl) ?_
                  refine l_val rfl rfl rfl (r_move (v := .int .i64 (a1 k24)) rfl) ?_
                  obtain ⟨t73, h_t73, H80⟩ := bnd_some H79; clear H79
                  refine l_val rfl rfl rfl (r_subG rfl rfl h_t73) ?_
                  refine l_val rfl rfl rfl (r_field Try.runUnderlying69 rfl Try.sizeOf3 rfl rfl) ?_
                  refine l_load1 (i := 0) (v := .int .i64 a0.A) Try.isAgg3 rfl rfl rfl rfl rfl ?_
                  obtain ⟨t76, h_t76, H81⟩ := bnd_some H80; clear H80
                  refine l_val rfl rfl rfl (r_mulG rfl rfl h_t76) ?_
                  obtain ⟨t77, h_t77, H82⟩ := bnd_some H81; clear H81
                  refine l_call (k81 h_t77) Try.call81 rfl rfl rfl ?_
                  obtain ⟨t78, h_t78, H83⟩ := bnd_some H82; clear H82
                  refine l_val rfl rfl rfl (r_addG rfl rfl h_t78) ?_
                  refine l_val rfl rfl rfl (r_assign (v := .int .i64 t78) rfl) ?_
                  refine l_nil ?_
                  refine c_close t78 () 0 [0, 1, 2] (by exact ⟨rfl, rfl, rfl, rfl, rfl, rfl, rfl, rfl, trivial⟩) (by decide) rfl (by exact ⟨H83, trivial⟩) (Nat.lt_succ_self _)
                · have H84 := cnd_f hb H78; clear H78
                  refine c_seq ?_
                  refine c_region ?_
                  refine l_val rfl rfl rfl (r_eql rfl rfl) ?_
                  refine l_val rfl rfl rfl (r_assign (v := .bool (decide (a0.Kind = 9))) rfl) ?_
                  refine l_nil ?_
                  refine c_if (b := (decide (a0.Kind = 9))) rfl (fun hb => ?_) (fun hb => ?_)
                  · have H85 := cnd_t hb H84; clear H84
                    refine c_region ?_
                    refine l_val rfl rfl rfl (r_move (v := .int .i64 (a1 k24)) rfl) ?_
                    obtain ⟨t82, h_t82, H86⟩ := bnd_some H85; clear H85
                    refine l_val rfl rfl rfl (r_subG rfl rfl h_t82) ?_
                    refine l_val rfl rfl rfl (r_assign (v := .int .i64 t82) rfl) ?_
                    refine l_nil ?_
                    refine c_close t82 () 0 [0, 1, 2] (by exact ⟨rfl, rfl, rfl, rfl, rfl, rfl, rfl, rfl, trivial⟩) (by decide) rfl (by exact ⟨H86, trivial⟩) (Nat.lt_succ_self _)
                  · have H87 := cnd_f hb H84; clear H84
                    refine c_skip ?_
                    refine c_close (a1 k24) () 0 [0, 1, 2] (by exact ⟨rfl, rfl, rfl, rfl, rfl, rfl, rfl, rfl, trivial⟩) (by decide) rfl (by exact ⟨H87, trivial⟩) (Nat.lt_succ_self _)
      · rintro x7 _ gg H55 _
        replace H55 : R_Dot_j3 x21_2 m_3 next2 x7 = some r := H55
        refine c_tidyF [(2, .pointer (some ⟨b4, 0, none⟩)), (3, .pointer (some ⟨b5, 0, none⟩)), (4, .pointer (some ⟨b6, 0, none⟩)), (5, .int .i64 t19), (6, .int .i64 x21_2), (7, .int .i64 x7), (20, .agg #[.int .i64 (a1 0), .int .i64 (a1 1), .int .i64 (a1 2)]), (21, .int .i64 x21_2)] [cellsC b4 [.int .i64 a0.Kind, .int .i64 a0.A, .int .i64 a0.B, .int .i64 a0.C, .int .i64 a0.D] 69, cellsC b5 [.int .i64 (m_3 0), .int .i64 (m_3 1), .int .i64 (m_3 2)] 90, cellsC b6 [.int .i64 0, .int .i64 0, .int .i64 0] 90] rfl rfl ?_
        refine c_region ?_
        refine l_val rfl rfl rfl (r_move (v := .int .i64 x21_2) rfl) ?_
        refine l_val rfl rfl rfl (r_move (v := .int .i64 x7) rfl) ?_
        obtain ⟨t85, h_t85, H56⟩ := bnd_some H55; clear H55
        refine l_call (k121 h_t85) Try.call121 rfl rfl rfl ?_
        obtain ⟨k86, h_k86, H57⟩ := bnd_some H56; clear H56
        refine l_val rfl rfl rfl (r_indexPG Try.runUnderlying90 Try.sizeOf3 rfl rfl h_k86) ?_
        refine l_store (i := 1) (vs := [.int .i64 t85]) (cs' := [.int .i64 ((setA m_3 k86 t85) 0), .int .i64 ((setA m_3 k86 t85) 1), .int .i64 ((setA m_3 k86 t85) 2)]) Try.sizeOf3 rfl rfl rfl rfl rfl rfl rfl rfl (wr_arr (pre := []) (post := []) (f := fun (j_ : Int) => [.int .i64 j_]) (n := 3) (sz := 1) (a := m_3) (x := t85) rfl rfl (fun _ => rfl) (gIx_lt h_k86) rfl rfl) ?_
        refine l_nil ?_
        refine c_region ?_
        obtain ⟨t87, h_t87, H58⟩ := bnd_some H57; clear H57
        refine l_val rfl rfl rfl (r_addG rfl rfl h_t87) ?_
        refine l_val rfl rfl rfl (r_move (v := .int .i64 t87) rfl) ?_
        refine l_nil ?_
        refine c_close (t87, (setA m_3 k86 t85)) () m2 [0, 1, 2] (by exact ⟨rfl, rfl, rfl, rfl, rfl, rfl, trivial⟩) (by decide) rfl (by exact ⟨(by subst hn2; exact H58), trivial⟩) (Nat.lt_succ_self _)
    · have H88 := cnd_f hb H52; clear H52
      refine c_exit ?_
      refine c_close m_3 () 0 [1, 2] (by exact ⟨rfl, rfl, trivial⟩) (by decide) rfl (by exact ⟨H88, trivial⟩) (Nat.lt_succ_self _)
  · rintro m _ gg H51 _
    replace H51 : R_Dot_j1 m = some r := H51
    refine c_tidyF [(3, .pointer (some ⟨b5, 0, none⟩)), (4, .pointer (some ⟨b6, 0, none⟩))] [cellsC b5 [.int .i64 (m 0), .int .i64 (m 1), .int .i64 (m 2)] 90, cellsC b6 [.int .i64 0, .int .i64 0, .int .i64 0] 90] rfl rfl ?_
    refine c_seq ?_
    refine c_region ?_
    refine l_loadN (i := 0) (vs := [.int .i64 (m 0), .int .i64 (m 1), .int .i64 (m 2)]) Try.isAgg90 Try.sizeOf90 rfl rfl rfl rfl rfl ?_
    refine l_store (i := 1) (vs := [.int .i64 (m 0), .int .i64 (m 1), .int .i64 (m 2)]) (cs' := [.int .i64 (m 0), .int .i64 (m 1), .int .i64 (m 2)]) Try.sizeOf90 rfl rfl rfl rfl rfl rfl rfl rfl rfl ?_
    refine l_nil ?_
    refine c_ret ?_
    obtain rfl := Option.some.inj H51
    refine retC (i := 1) (vs := [.int .i64 (m 0), .int .i64 (m 1), .int .i64 (m 2)]) Try.isAgg90 Try.sizeOf90 rfl rfl rfl rfl (fin rfl)
theorem k57 {a0 : (Nat → Int)} {a1 : Int} {a2 : (Nat → Int)} {a3 : Int} {r : Bool} (H : Law_told_256_byte a0 a1 a2 a3 = some r) : Ret Try.prog 57 [.agg (List.toArray (arrC 256 (fun j_ => [.int .u8 (a0 j_)]))), .int .i64 a1, .agg (List.toArray (arrC 256 (fun j_ => [.int .u8 (a2 j_)]))), .int .i64 a3] (.bool r) := by
  refine enterRet (n := 21) Try.func57 rfl rfl rfl (fun wd => ?_)
  refine c_seq ?_
  refine c_region ?_
  refine l_box (cs := (arrC 256 (fun j_ => [.int .u8 (a0 j_)]))) rfl rfl rfl rfl (fun b3 => ?_)
  refine l_box (cs := (arrC 256 (fun j_ => [.int .u8 (a2 j_)]))) rfl rfl rfl rfl (fun b4 => ?_)
  refine l_val rfl rfl rfl (r_assign (v := .bool false) rfl) ?_
  refine l_nil ?_
  refine c_seq ?_
  refine c_region ?_
  refine l_alloc (cs := (arrC 256 (fun j_ => [.int .u8 ((fun _ => 0) j_)]))) Try.zeroValue84 (by kernel_rfl) rfl rfl (fun b5 => ?_)
  refine l_nil ?_
  refine c_meet (r := r) (σ := (Nat → Int)) (τ := Unit) (fun s => Law_told_256_byte_j1 a0 a1 a3 s) (fun s t => [(1, .int .i64 a1), (3, .int .i64 a3), (4, .pointer (some ⟨b3, 0, none⟩)), (6, .pointer (some ⟨b4, 0, none⟩))]) (fun s t => [cellsC b3 (arrC 256 (fun j_ => [.int .u8 (a0 j_)])) 84, cellsC b4 (arrC 256 (fun j_ => [.int .u8 (s j_)])) 84]) (fun s t => True) ?_ ?_
  · refine c_seq ?_
    refine c_region ?_
    refine l_val rfl rfl rfl (r_move (v := .int .i64 a3) rfl) ?_
    refine l_val rfl rfl rfl (r_neq rfl rfl) ?_
    refine l_nil ?_
    refine c_if (b := (decide (a3 ≠ 0))) rfl (fun hb => ?_) (fun hb => ?_)
    · have H9 := cnd_t hb H; clear H
      refine c_region ?_
      refine l_loadN (i := 2) (vs := (arrC 256 (fun j_ => [.int .u8 ((fun _ => 0) j_)]))) Try.isAgg84 Try.sizeOf84 rfl rfl rfl rfl (rd_whole (arrC_len (fun _ => rfl))) ?_
      refine l_store (i := 1) (vs := (arrC 256 (fun j_ => [.int .u8 ((fun _ => 0) j_)]))) (cs' := (arrC 256 (fun j_ => [.int .u8 ((fun _ => 0) j_)]))) Try.sizeOf84 rfl rfl rfl rfl (arrC_len (fun _ => rfl)) rfl (arrC_one (fun _ => rfl)) rfl (wr_whole ((arrC_len (fun _ => rfl)).trans (arrC_len (fun _ => rfl)).symm)) ?_
      refine l_nil ?_
      refine c_close (fun _ => 0) () 0 [0, 1] (by exact ⟨rfl, rfl, rfl, rfl, trivial⟩) (by decide) rfl (by exact ⟨H9, trivial⟩) (Nat.lt_succ_self _)
    · have H10 := cnd_f hb H; clear H
      refine c_skip ?_
      refine c_close a2 () 0 [0, 1] (by exact ⟨rfl, rfl, rfl, rfl, trivial⟩) (by decide) rfl (by exact ⟨H10, trivial⟩) (Nat.lt_succ_self _)
  · rintro m _ gg H6 _
    replace H6 : Law_told_256_byte_j1 a0 a1 a3 m = some r := H6
    refine c_tidyF [(1, .int .i64 a1), (3, .int .i64 a3), (4, .pointer (some ⟨b3, 0, none⟩)), (6, .pointer (some ⟨b4, 0, none⟩))] [cellsC b3 (arrC 256 (fun j_ => [.int .u8 (a0 j_)])) 84, cellsC b4 (arrC 256 (fun j_ => [.int .u8 (m j_)])) 84] rfl rfl ?_
    refine c_seq ?_
    refine c_region ?_
    refine l_loadN (i := 0) (vs := (arrC 256 (fun j_ => [.int .u8 (a0 j_)]))) Try.isAgg84 Try.sizeOf84 rfl rfl rfl rfl (rd_whole (arrC_len (fun _ => rfl))) ?_
    refine l_loadN (i := 1) (vs := (arrC 256 (fun j_ => [.int .u8 (m j_)]))) Try.isAgg84 Try.sizeOf84 rfl rfl rfl rfl (rd_whole (arrC_len (fun _ => rfl))) ?_
    refine l_val rfl rfl rfl (r_eqlA (xs := (List.toArray (arrC 256 (fun j_ => [.int .u8 (a0 j_)])))) (ys := (List.toArray (arrC 256 (fun j_ => [.int .u8 (m j_)])))) Try.eqGuardType84 (fun w => run_eq_256_uint8 w a0 m) rfl rfl) ?_
    refine l_val rfl rfl rfl (r_move (v := .bool (eq_256_uint8 a0 m)) rfl) ?_
    refine split (fun hb => ?_) (fun hb => ?_)
    · have H7 := cnd_t hb H6; clear H6
      refine l_val rfl rfl rfl (r_move (v := .int .i64 a1) rfl) ?_
      refine l_val rfl rfl rfl (r_move (v := .int .i64 a3) rfl) ?_
      refine l_val rfl rfl rfl (r_eql rfl rfl) ?_
      refine l_val rfl rfl rfl (r_pickT (v := .bool (decide (a1 = a3))) rfl rfl) ?_
      refine l_val rfl rfl rfl (r_assign (v := .bool (decide (a1 = a3))) rfl) ?_
      refine l_nil ?_
      refine c_ret ?_
      obtain rfl := Option.some.inj H7
      refine ret1 (v := .bool (decide (a1 = a3))) rfl rfl (fin rfl)
    · have H8 := cnd_f hb H6; clear H6
      refine l_passed rfl rfl rfl ?_
      refine l_passed rfl rfl rfl ?_
      refine l_passed rfl rfl rfl ?_
      refine l_val rfl rfl rfl (r_pickF (v := .bool false) rfl rfl) ?_
      refine l_val rfl rfl rfl (r_assign (v := .bool false) rfl) ?_
      refine l_nil ?_
      refine c_ret ?_
      obtain rfl := Option.some.inj H8
      refine ret1 (v := .bool false) rfl rfl (fin rfl)
theorem k58 {a0 : (Nat → Int)} {a1 : Int} {a2 : (Nat → Int)} {a3 : Int} {r : Bool} (H : Law_told_3_byte a0 a1 a2 a3 = some r) : Ret Try.prog 58 [.agg #[.int .u8 (a0 0), .int .u8 (a0 1), .int .u8 (a0 2)], .int .i64 a1, .agg #[.int .u8 (a2 0), .int .u8 (a2 1), .int .u8 (a2 2)], .int .i64 a3] (.bool r) := by
  refine enterRet (n := 21) Try.func58 rfl rfl rfl (fun wd => ?_)
  refine c_seq ?_
  refine c_region ?_
  refine l_box (cs := [.int .u8 (a0 0), .int .u8 (a0 1), .int .u8 (a0 2)]) rfl rfl rfl rfl (fun b3 => ?_)
  refine l_box (cs := [.int .u8 (a2 0), .int .u8 (a2 1), .int .u8 (a2 2)]) rfl rfl rfl rfl (fun b4 => ?_)
  refine l_val rfl rfl rfl (r_assign (v := .bool false) rfl) ?_
  refine l_nil ?_
  refine c_seq ?_
  refine c_region ?_
  refine l_alloc (cs := [.int .u8 0, .int .u8 0, .int .u8 0]) Try.zeroValue81 rfl rfl rfl (fun b5 => ?_)
  refine l_nil ?_
  refine c_meet (r := r) (σ := (Nat → Int)) (τ := Unit) (fun s => Law_told_3_byte_j1 a0 a1 a3 s) (fun s t => [(1, .int .i64 a1), (3, .int .i64 a3), (4, .pointer (some ⟨b3, 0, none⟩)), (6, .pointer (some ⟨b4, 0, none⟩))]) (fun s t => [cellsC b3 [.int .u8 (a0 0), .int .u8 (a0 1), .int .u8 (a0 2)] 81, cellsC b4 [.int .u8 (s 0), .int .u8 (s 1), .int .u8 (s 2)] 81]) (fun s t => True) ?_ ?_
  · refine c_seq ?_
    refine c_region ?_
    refine l_val rfl rfl rfl (r_move (v := .int .i64 a3) rfl) ?_
    refine l_val rfl rfl rfl (r_neq rfl rfl) ?_
    refine l_nil ?_
    refine c_if (b := (decide (a3 ≠ 0))) rfl (fun hb => ?_) (fun hb => ?_)
    · have H9 := cnd_t hb H; clear H
      refine c_region ?_
      refine l_loadN (i := 2) (vs := [.int .u8 0, .int .u8 0, .int .u8 0]) Try.isAgg81 Try.sizeOf81 rfl rfl rfl rfl rfl ?_
      refine l_store (i := 1) (vs := [.int .u8 0, .int .u8 0, .int .u8 0]) (cs' := [.int .u8 0, .int .u8 0, .int .u8 0]) Try.sizeOf81 rfl rfl rfl rfl rfl rfl rfl rfl rfl ?_
      refine l_nil ?_
      refine c_close (fun _ => 0) () 0 [0, 1] (by exact ⟨rfl, rfl, rfl, rfl, trivial⟩) (by decide) rfl (by exact ⟨H9, trivial⟩) (Nat.lt_succ_self _)
    · have H10 := cnd_f hb H; clear H
      refine c_skip ?_
      refine c_close a2 () 0 [0, 1] (by exact ⟨rfl, rfl, rfl, rfl, trivial⟩) (by decide) rfl (by exact ⟨H10, trivial⟩) (Nat.lt_succ_self _)
  · rintro m _ gg H6 _
    replace H6 : Law_told_3_byte_j1 a0 a1 a3 m = some r := H6
    refine c_tidyF [(1, .int .i64 a1), (3, .int .i64 a3), (4, .pointer (some ⟨b3, 0, none⟩)), (6, .pointer (some ⟨b4, 0, none⟩))] [cellsC b3 [.int .u8 (a0 0), .int .u8 (a0 1), .int .u8 (a0 2)] 81, cellsC b4 [.int .u8 (m 0), .int .u8 (m 1), .int .u8 (m 2)] 81] rfl rfl ?_
    refine c_seq ?_
    refine c_region ?_
    refine l_loadN (i := 0) (vs := [.int .u8 (a0 0), .int .u8 (a0 1), .int .u8 (a0 2)]) Try.isAgg81 Try.sizeOf81 rfl rfl rfl rfl rfl ?_
    refine l_loadN (i := 1) (vs := [.int .u8 (m 0), .int .u8 (m 1), .int .u8 (m 2)]) Try.isAgg81 Try.sizeOf81 rfl rfl rfl rfl rfl ?_
    refine l_val rfl rfl rfl (r_eqlA (xs := #[.int .u8 (a0 0), .int .u8 (a0 1), .int .u8 (a0 2)]) (ys := #[.int .u8 (m 0), .int .u8 (m 1), .int .u8 (m 2)]) Try.eqGuardType81 (fun w => run_eq_3_uint8 w a0 m) rfl rfl) ?_
    refine l_val rfl rfl rfl (r_move (v := .bool (eq_3_uint8 a0 m)) rfl) ?_
    refine split (fun hb => ?_) (fun hb => ?_)
    · have H7 := cnd_t hb H6; clear H6
      refine l_val rfl rfl rfl (r_move (v := .int .i64 a1) rfl) ?_
      refine l_val rfl rfl rfl (r_move (v := .int .i64 a3) rfl) ?_
      refine l_val rfl rfl rfl (r_eql rfl rfl) ?_
      refine l_val rfl rfl rfl (r_pickT (v := .bool (decide (a1 = a3))) rfl rfl) ?_
      refine l_val rfl rfl rfl (r_assign (v := .bool (decide (a1 = a3))) rfl) ?_
      refine l_nil ?_
      refine c_ret ?_
      obtain rfl := Option.some.inj H7
      refine ret1 (v := .bool (decide (a1 = a3))) rfl rfl (fin rfl)
    · have H8 := cnd_f hb H6; clear H6
      refine l_passed rfl rfl rfl ?_
      refine l_passed rfl rfl rfl ?_
      refine l_passed rfl rfl rfl ?_
      refine l_val rfl rfl rfl (r_pickF (v := .bool false) rfl rfl) ?_
      refine l_val rfl rfl rfl (r_assign (v := .bool false) rfl) ?_
      refine l_nil ?_
      refine c_ret ?_
      obtain rfl := Option.some.inj H8
      refine ret1 (v := .bool false) rfl rfl (fin rfl)
theorem k8 {a0 : (List T_edit_Step)} {v0 : Value} {a1 : Int} {a2 : Int} {a3 : Int} {a4 : Int} {a5 : (Nat → Int)} {r : Bool} {w : World} {h : Heap} (hw : Know h w noS) (f0 : FrS h 5 v0 (a0.map e_edit_Step)) (H : Law_EditPixels a0 a1 a2 a3 a4 a5 = some r) : Does Try.prog 8 (List.toArray [v0, .int .i64 a1, .int .i64 a2, .int .i64 a3, .int .i64 a4, .agg #[.int .u8 (a5 0), .int .u8 (a5 1), .int .u8 (a5 2)]]) w (fun v w' => v = (.bool r) ∧ Grow w w') := by
  refine enter (n := 188) Try.func8 rfl rfl rfl noS [] (Sat.nil _ _) ?_
  refine c_seq ?_
  refine c_region ?_
  refine l_box (cs := [.int .u8 (a5 0), .int .u8 (a5 1), .int .u8 (a5 2)]) rfl rfl rfl rfl (fun b14 => ?_)
  refine l_val rfl rfl rfl (r_assign (v := .bool false) rfl) ?_
  refine l_nil ?_
  refine c_seq ?_
  refine c_region ?_
  refine l_val rfl rfl rfl (r_move (v := v0) rfl) ?_
  obtain ⟨t38, h_t38, H69⟩ := bnd_some H; clear H
  refine l_callG (fun w hF hS => k39 (know_all w) (f0.mono (hw.now hF)) h_t38) Try.call39 rfl rfl rfl ?_
  refine l_val rfl rfl rfl (r_assign (v := .int .i64 t38) rfl) ?_
  refine l_nil ?_
  refine c_seq ?_
  refine c_region ?_
  refine l_val rfl rfl rfl (r_move (v := v0) rfl) ?_
  refine l_val rfl rfl rfl (r_move (v := .int .i64 a1) rfl) ?_
  refine l_val rfl rfl rfl (r_move (v := .int .i64 a2) rfl) ?_
  refine l_val rfl rfl rfl (r_move (v := .int .i64 a3) rfl) ?_
  refine l_val rfl rfl rfl (r_move (v := .int .i64 a4) rfl) ?_
  obtain ⟨t45, h_t45, H70⟩ := bnd_some H69; clear H69
  refine l_callG (fun w hF hS => k51 (know_all w) (f0.mono (hw.now hF)) h_t45) Try.call51 rfl rfl rfl ?_
  refine l_val rfl rfl rfl (r_move (v := .tuple #[.int .i64 t45.1, .int .i64 t45.2.1, .int .i64 t45.2.2]) rfl) ?_
  refine l_val rfl rfl rfl (r_extract (v := .int .i64 t45.1) rfl rfl) ?_
  refine l_val rfl rfl rfl (r_extract (v := .int .i64 t45.2.1) rfl rfl) ?_
  refine l_val rfl rfl rfl (r_extract (v := .int .i64 t45.2.2) rfl rfl) ?_
  refine l_val rfl rfl rfl (r_assign (v := .int .i64 t45.1) rfl) ?_
  refine l_val rfl rfl rfl (r_assign (v := .int .i64 t45.2.1) rfl) ?_
  refine l_val rfl rfl rfl (r_assign (v := .int .i64 t45.2.2) rfl) ?_
  refine l_nil ?_
  refine c_seq ?_
  refine c_region ?_
  refine l_val rfl rfl rfl (r_move (v := .int .i64 t38) rfl) ?_
  refine l_val rfl rfl rfl (r_assign (v := .int .i64 0) rfl) ?_
  refine l_val rfl rfl rfl (r_assign (v := .int .i64 0) rfl) ?_
  refine l_val rfl rfl rfl (r_assign (v := .int .i64 t38) rfl) ?_
  refine l_nil ?_
  refine c_meet (r := r) (σ := Int × Int × Int) (τ := Unit) (fun s => Law_EditPixels_j1 a0 a5 t38 t45 s.1 s.2.1 s.2.2) (fun s t => [(0, v0), (11, .pointer (some ⟨b14, 0, none⟩)), (13, .int .i64 t38), (14, .int .i64 t45.1), (15, .int .i64 t45.2.1), (16, .int .i64 t45.2.2), (17, .int .i64 s.1), (18, .int .i64 s.2.1), (19, .int .i64 s.2.2)]) (fun s t => [cellsC b14 [.int .u8 (a5 0), .int .u8 (a5 1), .int .u8 (a5 2)] 81]) (fun s t => True) ?_ ?_
  · refine c_seq ?_
    refine c_region ?_
    refine l_val rfl rfl rfl (r_move (v := .int .i64 t38) rfl) ?_
    refine l_val rfl rfl rfl (r_eql rfl rfl) ?_
    refine l_nil ?_
    refine c_if (b := (decide (t38 = 0))) rfl (fun hb => ?_) (fun hb => ?_)
    · have H134 := cnd_t hb H70; clear H70
      refine c_region ?_
      refine l_val rfl rfl rfl (r_move (v := v0) rfl) ?_
      refine l_val rfl rfl rfl (r_move (v := .int .i64 a1) rfl) ?_
      refine l_val rfl rfl rfl (r_move (v := .int .i64 a2) rfl) ?_
      refine l_val rfl rfl rfl (r_move (v := .int .i64 a3) rfl) ?_
      refine l_val rfl rfl rfl (r_move (v := .int .i64 a4) rfl) ?_
      obtain ⟨t58, h_t58, H135⟩ := bnd_some H134; clear H134
      refine l_callG (fun w hF hS => k52 (know_all w) (f0.mono (hw.now hF)) h_t58) Try.call52 rfl rfl rfl ?_
      refine l_val rfl rfl rfl (r_move (v := .tuple #[.int .i64 t58.1, .int .i64 t58.2.1, .int .i64 t58.2.2]) rfl) ?_
      refine l_val rfl rfl rfl (r_extract (v := .int .i64 t58.1) rfl rfl) ?_
      refine l_val rfl rfl rfl (r_extract (v := .int .i64 t58.2.1) rfl rfl) ?_
      refine l_val rfl rfl rfl (r_extract (v := .int .i64 t58.2.2) rfl rfl) ?_
      refine l_val rfl rfl rfl (r_assign (v := .int .i64 t58.1) rfl) ?_
      refine l_val rfl rfl rfl (r_assign (v := .int .i64 t58.2.1) rfl) ?_
      refine l_val rfl rfl rfl (r_assign (v := .int .i64 t58.2.2) rfl) ?_
      refine l_nil ?_
      refine c_close (t58.1, t58.2.1, t58.2.2) () 0 [0] (by exact ⟨rfl, rfl, rfl, rfl, rfl, rfl, rfl, rfl, rfl, trivial⟩) (by decide) rfl (by exact ⟨H135, trivial⟩) (Nat.lt_succ_self _)
    · have H136 := cnd_f hb H70; clear H70
      refine c_skip ?_
      refine c_close (0, 0, t38) () 0 [0] (by exact ⟨rfl, rfl, rfl, rfl, rfl, rfl, rfl, rfl, rfl, trivial⟩) (by decide) rfl (by exact ⟨H136, trivial⟩) (Nat.lt_succ_self _)
  · rintro ⟨x17, x18, x19⟩ _ gg H71 _
    replace H71 : Law_EditPixels_j1 a0 a5 t38 t45 x17 x18 x19 = some r := H71
    refine c_tidyF [(0, v0), (11, .pointer (some ⟨b14, 0, none⟩)), (13, .int .i64 t38), (14, .int .i64 t45.1), (15, .int .i64 t45.2.1), (16, .int .i64 t45.2.2), (17, .int .i64 x17), (18, .int .i64 x18), (19, .int .i64 x19)] [cellsC b14 [.int .u8 (a5 0), .int .u8 (a5 1), .int .u8 (a5 2)] 81] rfl rfl ?_
    refine c_seq ?_
    refine c_seq ?_
    refine c_region ?_
    refine l_val rfl rfl rfl (r_move (v := .int .i64 t45.1) rfl) ?_
    refine l_val rfl rfl rfl (r_move (v := .int .i64 x17) rfl) ?_
    refine l_val rfl rfl rfl (r_neq rfl rfl) ?_
    refine l_val rfl rfl rfl (r_move (v := .bool (decide (t45.1 ≠ x17))) rfl) ?_
    refine split (fun hb => ?_) (fun hb => ?_)
    · have H72 := cnd_t hb H71; clear H71
      refine l_passed rfl rfl rfl ?_
      refine l_passed rfl rfl rfl ?_
      refine l_passed rfl rfl rfl ?_
      refine l_val rfl rfl rfl (r_pickT (v := .bool true) rfl rfl) ?_
      refine l_val rfl rfl rfl (r_move (v := .bool true) rfl) ?_
      refine l_passed rfl rfl rfl ?_
      refine l_passed rfl rfl rfl ?_
      refine l_passed rfl rfl rfl ?_
      refine l_val rfl rfl rfl (r_pickT (v := .bool true) rfl rfl) ?_
      refine l_nil ?_
      refine c_true rfl ?_
      refine c_seq ?_
      refine c_region ?_
      refine l_val rfl rfl rfl (r_assign (v := .bool false) rfl) ?_
      refine l_nil ?_
      refine c_ret ?_
      obtain rfl := Option.some.inj H72
      refine ret1 (v := .bool false) rfl rfl (fin rfl)
    · have H73 := cnd_f hb H71; clear H71
      refine l_val rfl rfl rfl (r_move (v := .int .i64 t45.2.1) rfl) ?_
      refine l_val rfl rfl rfl (r_move (v := .int .i64 x18) rfl) ?_
      refine l_val rfl rfl rfl (r_neq rfl rfl) ?_
      refine l_val rfl rfl rfl (r_pickF (v := .bool (decide (t45.2.1 ≠ x18))) rfl rfl) ?_
      refine l_val rfl rfl rfl (r_move (v := .bool (decide (t45.2.1 ≠ x18))) rfl) ?_
      refine split (fun hb => ?_) (fun hb => ?_)
      · have H74 := cnd_t hb H73; clear H73
        refine l_passed rfl rfl rfl ?_
        refine l_passed rfl rfl rfl ?_
        refine l_passed rfl rfl rfl ?_
        refine l_val rfl rfl rfl (r_pickT (v := .bool true) rfl rfl) ?_
        refine l_nil ?_
        refine c_true rfl ?_
        refine c_seq ?_
        refine c_region ?_
        refine l_val rfl rfl rfl (r_assign (v := .bool false) rfl) ?_
        refine l_nil ?_
        refine c_ret ?_
        obtain rfl := Option.some.inj H74
        refine ret1 (v := .bool false) rfl rfl (fin rfl)
      · have H75 := cnd_f hb H73; clear H73
        refine l_val rfl rfl rfl (r_move (v := .int .i64 t45.2.2) rfl) ?_
        refine l_val rfl rfl rfl (r_move (v := .int .i64 x19) rfl) ?_
        refine l_val rfl rfl rfl (r_neq rfl rfl) ?_
        refine l_val rfl rfl rfl (r_pickF (v := .bool (decide (t45.2.2 ≠ x19))) rfl rfl) ?_
        refine l_nil ?_
        refine c_if (b := (decide (t45.2.2 ≠ x19))) rfl (fun hb => ?_) (fun hb => ?_)
        · have H76 := cnd_t hb H75; clear H75
          refine c_seq ?_
          refine c_region ?_
          refine l_val rfl rfl rfl (r_assign (v := .bool false) rfl) ?_
          refine l_nil ?_
          refine c_ret ?_
          obtain rfl := Option.some.inj H76
          refine ret1 (v := .bool false) rfl rfl (fin rfl)
        · have H77 := cnd_f hb H75; clear H75
          refine c_skip ?_
          refine c_seq ?_
          refine c_region ?_
          refine l_val rfl rfl rfl (r_move (v := v0) rfl) ?_
          obtain ⟨t77, h_t77, H78⟩ := bnd_some H77; clear H77
          refine l_callG (fun w hF hS => k53 (know_all w) (f0.mono (hw.now hF)) h_t77) Try.call53 rfl rfl rfl ?_
          refine l_val rfl rfl rfl (r_move (v := .tuple #[.agg (List.toArray (arrC 256 (fun j_ => [.int .u8 (t77.1 j_)]))), .int .i64 t77.2]) rfl) ?_
          refine l_val rfl rfl rfl (r_extract (v := .agg (List.toArray (arrC 256 (fun j_ => [.int .u8 (t77.1 j_)])))) rfl rfl) ?_
          refine l_val rfl rfl rfl (r_extract (v := .int .i64 t77.2) rfl rfl) ?_
          refine l_alloc (cs := (arrC 256 (fun j_ => [.int .u8 ((fun _ => 0) j_)]))) Try.zeroValue84 (by kernel_rfl) rfl rfl (fun b15 => ?_)
          refine l_store (i := 1) (vs := (arrC 256 (fun j_ => [.int .u8 (t77.1 j_)]))) (cs' := (arrC 256 (fun j_ => [.int .u8 (t77.1 j_)]))) Try.sizeOf84 rfl rfl rfl rfl (arrC_len (fun _ => rfl)) rfl (arrC_one (fun _ => rfl)) rfl (wr_whole ((arrC_len (fun _ => rfl)).trans (arrC_len (fun _ => rfl)).symm)) ?_
          refine l_val rfl rfl rfl (r_assign (v := .int .i64 t77.2) rfl) ?_
          refine l_nil ?_
          refine c_seq ?_
          refine c_region ?_
          refine l_val rfl rfl rfl (r_move (v := v0) rfl) ?_
          refine l_loadN (i := 0) (vs := [.int .u8 (a5 0), .int .u8 (a5 1), .int .u8 (a5 2)]) Try.isAgg81 Try.sizeOf81 rfl rfl rfl rfl rfl ?_
          obtain ⟨t83, h_t83, H79⟩ := bnd_some H78; clear H78
          refine l_callG (fun w hF hS => k54 (know_all w) (f0.mono (hw.now hF)) h_t83) Try.call54 rfl rfl rfl ?_
          refine l_val rfl rfl rfl (r_move (v := .tuple #[.agg #[.int .u8 (t83.1 0), .int .u8 (t83.1 1), .int .u8 (t83.1 2)], .int .i64 t83.2]) rfl) ?_
          refine l_val rfl rfl rfl (r_extract (v := .agg #[.int .u8 (t83.1 0), .int .u8 (t83.1 1), .int .u8 (t83.1 2)]) rfl rfl) ?_
          refine l_val rfl rfl rfl (r_extract (v := .int .i64 t83.2) rfl rfl) ?_
          refine l_alloc (cs := [.int .u8 0, .int .u8 0, .int .u8 0]) Try.zeroValue81 rfl rfl rfl (fun b16 => ?_)
          refine l_store (i := 2) (vs := [.int .u8 (t83.1 0), .int .u8 (t83.1 1), .int .u8 (t83.1 2)]) (cs' := [.int .u8 (t83.1 0), .int .u8 (t83.1 1), .int .u8 (t83.1 2)]) Try.sizeOf81 rfl rfl rfl rfl rfl rfl rfl rfl rfl ?_
          refine l_val rfl rfl rfl (r_assign (v := .int .i64 t83.2) rfl) ?_
          refine l_nil ?_
          refine c_seq ?_
          refine c_region ?_
          refine l_val rfl rfl rfl (r_move (v := .int .i64 t38) rfl) ?_
          refine l_val rfl rfl rfl (r_move (v := .int .i64 t38) rfl) ?_
          refine l_val rfl rfl rfl (r_assign (v := .int .i64 t38) rfl) ?_
          refine l_val rfl rfl rfl (r_assign (v := .int .i64 t38) rfl) ?_
          refine l_nil ?_
          refine c_meet (r := r) (σ := Int × Int) (τ := Unit) (fun s => Law_EditPixels_j2 a0 a5 t77 t83 s.1 s.2) (fun s t => [(0, v0), (11, .pointer (some ⟨b14, 0, none⟩)), (20, .pointer (some ⟨b15, 0, none⟩)), (21, .int .i64 t77.2), (22, .pointer (some ⟨b16, 0, none⟩)), (23, .int .i64 t83.2), (24, .int .i64 s.1), (25, .int .i64 s.2)]) (fun s t => [cellsC b14 [.int .u8 (a5 0), .int .u8 (a5 1), .int .u8 (a5 2)] 81, cellsC b15 (arrC 256 (fun j_ => [.int .u8 (t77.1 j_)])) 84, cellsC b16 [.int .u8 (t83.1 0), .int .u8 (t83.1 1), .int .u8 (t83.1 2)] 81]) (fun s t => True) ?_ ?_
          · refine c_seq ?_
            refine c_region ?_
            refine l_val rfl rfl rfl (r_move (v := v0) rfl) ?_
            refine l_val rfl rfl rfl (r_lenF Try.underlying61 rfl f0 rfl) ?_
            refine l_val rfl rfl rfl (r_move (v := .int .i64 0) rfl) ?_
            refine l_nil ?_
            refine c_block ?_
            refine c_fix (σ := Int × Int × Int) (τ := Unit) (fun next11 s => Law_EditPixels_l11 a0 a5 t77 t83 next11 s.1 s.2.1 s.2.2) (fun s t => [(0, v0), (11, .pointer (some ⟨b14, 0, none⟩)), (20, .pointer (some ⟨b15, 0, none⟩)), (21, .int .i64 t77.2), (22, .pointer (some ⟨b16, 0, none⟩)), (23, .int .i64 t83.2), (24, .int .i64 s.1), (25, .int .i64 s.2.1), (88, v0), (89, .int .i64 (a0.length : Int)), (90, .int .i64 s.2.2)]) (fun s t => [cellsC b14 [.int .u8 (a5 0), .int .u8 (a5 1), .int .u8 (a5 2)] 81, cellsC b15 (arrC 256 (fun j_ => [.int .u8 (t77.1 j_)])) 84, cellsC b16 [.int .u8 (t83.1 0), .int .u8 (t83.1 1), .int .u8 (t83.1 2)] 81]) (fun s t => True) (t38, t38, 0) () [0, 1, 2] H79 (by exact trivial) (by exact ⟨rfl, rfl, rfl, rfl, rfl, rfl, rfl, rfl, rfl, rfl, rfl, trivial⟩) (by decide) rfl ?_
            rintro ⟨x24_3, x25_3, x90_2⟩ _ m11 gg H114 _
            clear H79
            replace H114 : Law_EditPixels_l11 a0 a5 t77 t83 (it (fun next11 s => Law_EditPixels_l11 a0 a5 t77 t83 next11 s.1 s.2.1 s.2.2) m11) x24_3 x25_3 x90_2 = some r := H114
            generalize hn11 : it (fun next11 s => Law_EditPixels_l11 a0 a5 t77 t83 next11 s.1 s.2.1 s.2.2) m11 = next11 at H114
            refine c_tidyF [(0, v0), (11, .pointer (some ⟨b14, 0, none⟩)), (20, .pointer (some ⟨b15, 0, none⟩)), (21, .int .i64 t77.2), (22, .pointer (some ⟨b16, 0, none⟩)), (23, .int .i64 t83.2), (24, .int .i64 x24_3), (25, .int .i64 x25_3), (88, v0), (89, .int .i64 (a0.length : Int)), (90, .int .i64 x90_2)] [cellsC b14 [.int .u8 (a5 0), .int .u8 (a5 1), .int .u8 (a5 2)] 81, cellsC b15 (arrC 256 (fun j_ => [.int .u8 (t77.1 j_)])) 84, cellsC b16 [.int .u8 (t83.1 0), .int .u8 (t83.1 1), .int .u8 (t83.1 2)] 81] rfl rfl ?_
            refine c_seq ?_
            refine c_region ?_
            refine l_val rfl rfl rfl (r_lss rfl rfl) ?_
            refine l_nil ?_
            refine c_seq ?_
            refine c_if (b := (decide (x90_2 < (a0.length : Int)))) rfl (fun hb => ?_) (fun hb => ?_)
            · have H115 := cnd_t hb H114; clear H114
              refine c_skip ?_
              refine c_seq ?_
              refine c_block ?_
              refine c_seq ?_
              refine c_region ?_
              obtain ⟨t92, h_t92, H116⟩ := bnd_some H115; clear H115
              refine l_val rfl rfl rfl (r_indexF Try.underlying61 Try.sizeOf69 rfl rfl f0 h_t92) ?_
              refine l_read (fun w hF hS => run_loadGN (f := e_edit_Step) (i := x90_2) (sz := 5) (j := 0) (vs := [.int .i64 t92.Kind, .int .i64 t92.A, .int .i64 t92.B, .int .i64 t92.C, .int .i64 t92.D]) Try.isAgg69 Try.sizeOf69 rfl rfl (f0.row (hw.now hF)) h_t92 rfl) rfl rfl rfl ?_
              refine l_alloc (cs := [.int .i64 0, .int .i64 0, .int .i64 0, .int .i64 0, .int .i64 0]) Try.zeroValue69 rfl rfl rfl (fun b23 => ?_)
              refine l_store (i := 3) (vs := [.int .i64 t92.Kind, .int .i64 t92.A, .int .i64 t92.B, .int .i64 t92.C, .int .i64 t92.D]) (cs' := [.int .i64 t92.Kind, .int .i64 t92.A, .int .i64 t92.B, .int .i64 t92.C, .int .i64 t92.D]) Try.sizeOf69 rfl rfl rfl rfl rfl rfl rfl rfl rfl ?_
              refine l_nil ?_
              refine c_meet (r := r) (σ := Int) (τ := Unit) (fun s => Law_EditPixels_j12 x25_3 x90_2 next11 t92 s) (fun s t => [(0, v0), (11, .pointer (some ⟨b14, 0, none⟩)), (20, .pointer (some ⟨b15, 0, none⟩)), (21, .int .i64 t77.2), (22, .pointer (some ⟨b16, 0, none⟩)), (23, .int .i64 t83.2), (24, .int .i64 s), (25, .int .i64 x25_3), (27, .pointer (some ⟨b23, 0, none⟩)), (88, v0), (89, .int .i64 (a0.length : Int)), (90, .int .i64 x90_2)]) (fun s t => [cellsC b14 [.int .u8 (a5 0), .int .u8 (a5 1), .int .u8 (a5 2)] 81, cellsC b15 (arrC 256 (fun j_ => [.int .u8 (t77.1 j_)])) 84, cellsC b16 [.int .u8 (t83.1 0), .int .u8 (t83.1 1), .int .u8 (t83.1 2)] 81, cellsC b23 [.int .i64 t92.Kind, .int .i64 t92.A, .int .i64 t92.B, .int .i64 t92.C, .int .i64 t92.D] 69]) (fun s t => True) ?_ ?_
              · refine c_region ?_
                refine l_val rfl rfl rfl (r_move (v := .int .i64 x24_3) rfl) ?_
                refine l_loadN (i := 3) (vs := [.int .i64 t92.Kind, .int .i64 t92.A, .int .i64 t92.B, .int .i64 t92.C, .int .i64 t92.D]) Try.isAgg69 Try.sizeOf69 rfl rfl rfl rfl rfl ?_
                obtain ⟨t96, h_t96, H122⟩ := bnd_some H116; clear H116
                refine l_call (k55 h_t96) Try.call55 rfl rfl rfl ?_
                refine l_val rfl rfl rfl (r_not rfl) ?_
                refine l_val rfl rfl rfl (r_move (v := .bool (!t96)) rfl) ?_
                refine split (fun hb => ?_) (fun hb => ?_)
                · have H123 := cnd_t hb H122; clear H122
                  refine l_val rfl rfl rfl (r_field Try.runUnderlying69 rfl Try.sizeOf3 rfl rfl) ?_
                  refine l_load1 (i := 3) (v := .int .i64 t92.Kind) Try.isAgg3 rfl rfl rfl rfl rfl ?_
                  refine l_val rfl rfl rfl (r_neq rfl rfl) ?_
                  refine l_val rfl rfl rfl (r_pickT (v := .bool (decide (t92.Kind ≠ 7))) rfl rfl) ?_
                  refine l_val rfl rfl rfl (r_move (v := .bool (decide (t92.Kind ≠ 7))) rfl) ?_
                  refine split (fun hb => ?_) (fun hb => ?_)
                  · have H124 := cnd_t hb H123; clear H123
                    refine l_val rfl rfl rfl (r_field Try.runUnderlying69 rfl Try.sizeOf3 rfl rfl) ?_
                    refine l_load1 (i := 3) (v := .int .i64 t92.Kind) Try.isAgg3 rfl rfl rfl rfl rfl ?_
                    refine l_val rfl rfl rfl (r_neq rfl rfl) ?_
                    refine l_val rfl rfl rfl (r_pickT (v := .bool (decide (t92.Kind ≠ 8))) rfl rfl) ?_
                    obtain ⟨t108, h_t108, H125⟩ := bnd_some H124; clear H124
                    refine l_call (k42 h_t108) Try.call42 rfl rfl rfl ?_
                    refine l_buildSlice (vs := [.int .i64 x24_3, .int .i64 t108]) (cs := [.int .i64 x24_3, .int .i64 t108]) Try.underlying128 Try.sizeOf26 Try.zeroValue26 rfl rfl rfl rfl rfl rfl rfl (fun b25 => ?_)
                    obtain ⟨t110, h_t110, H126⟩ := bnd_some H125; clear H125
                    refine l_callG (fun w hF hS => k16 (know_all w) (frs_box (i := 4) (xs := ([x24_3, t108] : List Int)) (f := e_i64) hS rfl rfl rfl rfl rfl) h_t110) Try.call16 rfl rfl rfl ?_
                    refine l_val rfl rfl rfl (r_assign (v := .int .i64 t110) rfl) ?_
                    refine l_nil ?_
                    refine c_close t110 () 0 [0, 1, 2, 3] (by exact ⟨rfl, rfl, rfl, rfl, rfl, rfl, rfl, rfl, rfl, rfl, rfl, rfl, trivial⟩) (by decide) rfl (by exact ⟨H126, trivial⟩) (Nat.lt_succ_self _)
                  · have H127 := cnd_f hb H123; clear H123
                    refine l_passed rfl rfl rfl ?_
                    refine l_passed rfl rfl rfl ?_
                    refine l_passed rfl rfl rfl ?_
                    refine l_val rfl rfl rfl (r_pickF (v := .bool false) rfl rfl) ?_
                    obtain ⟨t108_2, h_t108_2, H128⟩ := bnd_some H127; clear H127
                    refine l_call (k42 h_t108_2) Try.call42 rfl rfl rfl ?_
                    refine l_buildSlice (vs := [.int .i64 x24_3, .int .i64 t108_2]) (cs := [.int .i64 x24_3, .int .i64 t108_2]) Try.underlying128 Try.sizeOf26 Try.zeroValue26 rfl rfl rfl rfl rfl rfl rfl (fun b26 => ?_)
                    obtain ⟨t110_2, h_t110_2, H129⟩ := bnd_some H128; clear H128
                    refine l_callG (fun w hF hS => k16 (know_all w) (frs_box (i := 4) (xs := ([x24_3, t108_2] : List Int)) (f := e_i64) hS rfl rfl rfl rfl rfl) h_t110_2) Try.call16 rfl rfl rfl ?_
                    refine l_val rfl rfl rfl (r_assign (v := .int .i64 t110_2) rfl) ?_
                    refine l_nil ?_
                    refine c_close t110_2 () 0 [0, 1, 2, 3] (by exact ⟨rfl, rfl, rfl, rfl, rfl, rfl, rfl, rfl, rfl, rfl, rfl, rfl, trivial⟩) (by decide) rfl (by exact ⟨H129, trivial⟩) (Nat.lt_succ_self _)
                · have H130 := cnd_f hb H122; clear H122
                  refine l_passed rfl rfl rfl ?_
                  refine l_passed rfl rfl rfl ?_
                  refine l_passed rfl rfl rfl ?_
                  refine l_val rfl rfl rfl (r_pickF (v := .bool false) rfl rfl) ?_
                  refine l_val rfl rfl rfl (r_move (v := .bool false) rfl) ?_
                  refine l_passed rfl rfl rfl ?_
                  refine l_passed rfl rfl rfl ?_
                  refine l_passed rfl rfl rfl ?_
                  refine l_val rfl rfl rfl (r_pickF (v := .bool false) rfl rfl) ?_
                  obtain ⟨t108_3, h_t108_3, H131⟩ := bnd_some H130; clear H130
                  refine l_call (k42 h_t108_3) Try.call42 rfl rfl rfl ?_
                  refine l_buildSlice (vs := [.int .i64 x24_3, .int .i64 t108_3]) (cs := [.int .i64 x24_3, .int .i64 t108_3]) Try.underlying128 Try.sizeOf26 Try.zeroValue26 rfl rfl rfl rfl rfl rfl rfl (fun b27 => ?_)
                  obtain ⟨t110_3, h_t110_3, H132⟩ := bnd_some H131; clear H131
                  refine l_callG (fun w hF hS => k16 (know_all w) (frs_box (i := 4) (xs := ([x24_3, t108_3] : List Int)) (f := e_i64) hS rfl rfl rfl rfl rfl) h_t110_3) Try.call16 rfl rfl rfl ?_
                  refine l_val rfl rfl rfl (r_assign (v := .int .i64 t110_3) rfl) ?_
                  refine l_nil ?_
                  refine c_close t110_3 () 0 [0, 1, 2, 3] (by exact ⟨rfl, rfl, rfl, rfl, rfl, rfl, rfl, rfl, rfl, rfl, rfl, rfl, trivial⟩) (by decide) rfl (by exact ⟨H132, trivial⟩) (Nat.lt_succ_self _)
              · rintro x24_4 _ gg H117 _
                replace H117 : Law_EditPixels_j12 x25_3 x90_2 next11 t92 x24_4 = some r := H117
                refine c_tidyF [(0, v0), (11, .pointer (some ⟨b14, 0, none⟩)), (20, .pointer (some ⟨b15, 0, none⟩)), (21, .int .i64 t77.2), (22, .pointer (some ⟨b16, 0, none⟩)), (23, .int .i64 t83.2), (24, .int .i64 x24_4), (25, .int .i64 x25_3), (27, .pointer (some ⟨b23, 0, none⟩)), (88, v0), (89, .int .i64 (a0.length : Int)), (90, .int .i64 x90_2)] [cellsC b14 [.int .u8 (a5 0), .int .u8 (a5 1), .int .u8 (a5 2)] 81, cellsC b15 (arrC 256 (fun j_ => [.int .u8 (t77.1 j_)])) 84, cellsC b16 [.int .u8 (t83.1 0), .int .u8 (t83.1 1), .int .u8 (t83.1 2)] 81, cellsC b23 [.int .i64 t92.Kind, .int .i64 t92.A, .int .i64 t92.B, .int .i64 t92.C, .int .i64 t92.D] 69] rfl rfl ?_
                refine c_region ?_
                refine l_val rfl rfl rfl (r_move (v := .int .i64 x25_3) rfl) ?_
                refine l_loadN (i := 3) (vs := [.int .i64 t92.Kind, .int .i64 t92.A, .int .i64 t92.B, .int .i64 t92.C, .int .i64 t92.D]) Try.isAgg69 Try.sizeOf69 rfl rfl rfl rfl rfl ?_
                obtain ⟨t113, h_t113, H118⟩ := bnd_some H117; clear H117
                refine l_call (k55 h_t113) Try.call55 rfl rfl rfl ?_
                refine l_val rfl rfl rfl (r_not rfl) ?_
                obtain ⟨t115, h_t115, H119⟩ := bnd_some H118; clear H118
                refine l_call (k42 h_t115) Try.call42 rfl rfl rfl ?_
                refine l_buildSlice (vs := [.int .i64 x25_3, .int .i64 t115]) (cs := [.int .i64 x25_3, .int .i64 t115]) Try.underlying128 Try.sizeOf26 Try.zeroValue26 rfl rfl rfl rfl rfl rfl rfl (fun b24 => ?_)
                obtain ⟨t117, h_t117, H120⟩ := bnd_some H119; clear H119
                refine l_callG (fun w hF hS => k16 (know_all w) (frs_box (i := 4) (xs := ([x25_3, t115] : List Int)) (f := e_i64) hS rfl rfl rfl rfl rfl) h_t117) Try.call16 rfl rfl rfl ?_
                refine l_val rfl rfl rfl (r_assign (v := .int .i64 t117) rfl) ?_
                refine l_nil ?_
                refine c_region ?_
                obtain ⟨t118, h_t118, H121⟩ := bnd_some H120; clear H120
                refine l_val rfl rfl rfl (r_addG rfl rfl h_t118) ?_
                refine l_val rfl rfl rfl (r_move (v := .int .i64 t118) rfl) ?_
                refine l_nil ?_
                refine c_close (x24_4, t117, t118) () m11 [0, 1, 2] (by exact ⟨rfl, rfl, rfl, rfl, rfl, rfl, rfl, rfl, rfl, rfl, rfl, trivial⟩) (by decide) rfl (by exact ⟨(by subst hn11; exact H121), trivial⟩) (Nat.lt_succ_self _)
            · have H133 := cnd_f hb H114; clear H114
              refine c_exit ?_
              refine c_close (x24_3, x25_3) () 0 [0, 1, 2] (by exact ⟨rfl, rfl, rfl, rfl, rfl, rfl, rfl, rfl, trivial⟩) (by decide) rfl (by exact ⟨H133, trivial⟩) (Nat.lt_succ_self _)
          · rintro ⟨x24, x25⟩ _ gg H80 _
            replace H80 : Law_EditPixels_j2 a0 a5 t77 t83 x24 x25 = some r := H80
            refine c_tidyF [(0, v0), (11, .pointer (some ⟨b14, 0, none⟩)), (20, .pointer (some ⟨b15, 0, none⟩)), (21, .int .i64 t77.2), (22, .pointer (some ⟨b16, 0, none⟩)), (23, .int .i64 t83.2), (24, .int .i64 x24), (25, .int .i64 x25)] [cellsC b14 [.int .u8 (a5 0), .int .u8 (a5 1), .int .u8 (a5 2)] 81, cellsC b15 (arrC 256 (fun j_ => [.int .u8 (t77.1 j_)])) 84, cellsC b16 [.int .u8 (t83.1 0), .int .u8 (t83.1 1), .int .u8 (t83.1 2)] 81] rfl rfl ?_
            refine c_seq ?_
            refine c_region ?_
            refine l_alloc (cs := (arrC 256 (fun j_ => [.int .u8 ((fun _ => 0) j_)]))) Try.zeroValue84 (by kernel_rfl) rfl rfl (fun b17 => ?_)
            refine l_nil ?_
            refine c_meet (r := r) (σ := (Nat → Int)) (τ := Unit) (fun s => Law_EditPixels_j3 a0 a5 t77 t83 x24 x25 s) (fun s t => [(0, v0), (11, .pointer (some ⟨b14, 0, none⟩)), (20, .pointer (some ⟨b15, 0, none⟩)), (21, .int .i64 t77.2), (22, .pointer (some ⟨b16, 0, none⟩)), (23, .int .i64 t83.2), (24, .int .i64 x24), (25, .int .i64 x25), (28, .pointer (some ⟨b17, 0, none⟩))]) (fun s t => [cellsC b14 [.int .u8 (a5 0), .int .u8 (a5 1), .int .u8 (a5 2)] 81, cellsC b15 (arrC 256 (fun j_ => [.int .u8 (t77.1 j_)])) 84, cellsC b16 [.int .u8 (t83.1 0), .int .u8 (t83.1 1), .int .u8 (t83.1 2)] 81, cellsC b17 (arrC 256 (fun j_ => [.int .u8 (s j_)])) 84]) (fun s t => True) ?_ ?_
            · refine c_seq ?_
              refine c_region ?_
              refine l_val rfl rfl rfl (r_move (v := .int .i64 x24) rfl) ?_
              refine l_val rfl rfl rfl (r_eql rfl rfl) ?_
              refine l_nil ?_
              refine c_if (b := (decide (x24 = 0))) rfl (fun hb => ?_) (fun hb => ?_)
              · have H99 := cnd_t hb H80; clear H80
                refine c_seq ?_
                refine c_region ?_
                refine l_val rfl rfl rfl (r_move (v := .int .i64 0) rfl) ?_
                refine l_nil ?_
                refine c_block ?_
                refine c_fix (σ := Int × (Nat → Int)) (τ := Unit) (fun next7 s => Law_EditPixels_l7 a0 a5 t77 t83 x24 x25 next7 s.1 s.2) (fun s t => [(0, v0), (11, .pointer (some ⟨b14, 0, none⟩)), (20, .pointer (some ⟨b15, 0, none⟩)), (21, .int .i64 t77.2), (22, .pointer (some ⟨b16, 0, none⟩)), (23, .int .i64 t83.2), (24, .int .i64 x24), (25, .int .i64 x25), (28, .pointer (some ⟨b17, 0, none⟩)), (121, .int .i64 s.1)]) (fun s t => [cellsC b14 [.int .u8 (a5 0), .int .u8 (a5 1), .int .u8 (a5 2)] 81, cellsC b15 (arrC 256 (fun j_ => [.int .u8 (t77.1 j_)])) 84, cellsC b16 [.int .u8 (t83.1 0), .int .u8 (t83.1 1), .int .u8 (t83.1 2)] 81, cellsC b17 (arrC 256 (fun j_ => [.int .u8 (s.2 j_)])) 84]) (fun s t => True) (0, (fun _ => 0)) () [0, 1, 2, 3] H99 (by exact trivial) (by exact ⟨rfl, rfl, rfl, rfl, rfl, rfl, rfl, rfl, rfl, rfl, trivial⟩) (by decide) rfl ?_
                rintro ⟨x121_2, m_7⟩ _ m7 gg H100 _
                clear H99
                replace H100 : Law_EditPixels_l7 a0 a5 t77 t83 x24 x25 (it (fun next7 s => Law_EditPixels_l7 a0 a5 t77 t83 x24 x25 next7 s.1 s.2) m7) x121_2 m_7 = some r := H100
                generalize hn7 : it (fun next7 s => Law_EditPixels_l7 a0 a5 t77 t83 x24 x25 next7 s.1 s.2) m7 = next7 at H100
                refine c_tidyF [(0, v0), (11, .pointer (some ⟨b14, 0, none⟩)), (20, .pointer (some ⟨b15, 0, none⟩)), (21, .int .i64 t77.2), (22, .pointer (some ⟨b16, 0, none⟩)), (23, .int .i64 t83.2), (24, .int .i64 x24), (25, .int .i64 x25), (28, .pointer (some ⟨b17, 0, none⟩)), (121, .int .i64 x121_2)] [cellsC b14 [.int .u8 (a5 0), .int .u8 (a5 1), .int .u8 (a5 2)] 81, cellsC b15 (arrC 256 (fun j_ => [.int .u8 (t77.1 j_)])) 84, cellsC b16 [.int .u8 (t83.1 0), .int .u8 (t83.1 1), .int .u8 (t83.1 2)] 81, cellsC b17 (arrC 256 (fun j_ => [.int .u8 (m_7 j_)])) 84] rfl rfl ?_
                refine c_seq ?_
                refine c_region ?_
                refine l_val rfl rfl rfl (r_lss rfl rfl) ?_
                refine l_nil ?_
                refine c_seq ?_
                refine c_if (b := (decide (x121_2 < 256))) rfl (fun hb => ?_) (fun hb => ?_)
                · have H101 := cnd_t hb H100; clear H100
                  refine c_skip ?_
                  refine c_meet (r := r) (σ := (Nat → Int)) (τ := Unit) (fun s => Law_EditPixels_j8 x121_2 next7 s) (fun s t => [(0, v0), (11, .pointer (some ⟨b14, 0, none⟩)), (20, .pointer (some ⟨b15, 0, none⟩)), (21, .int .i64 t77.2), (22, .pointer (some ⟨b16, 0, none⟩)), (23, .int .i64 t83.2), (24, .int .i64 x24), (25, .int .i64 x25), (28, .pointer (some ⟨b17, 0, none⟩)), (121, .int .i64 x121_2)]) (fun s t => [cellsC b14 [.int .u8 (a5 0), .int .u8 (a5 1), .int .u8 (a5 2)] 81, cellsC b15 (arrC 256 (fun j_ => [.int .u8 (t77.1 j_)])) 84, cellsC b16 [.int .u8 (t83.1 0), .int .u8 (t83.1 1), .int .u8 (t83.1 2)] 81, cellsC b17 (arrC 256 (fun j_ => [.int .u8 (s j_)])) 84]) (fun s t => True) ?_ ?_
                  · refine c_block ?_
                    refine c_seq ?_
                    refine c_region ?_
                    refine l_val rfl rfl rfl (r_move (v := .int .i64 x121_2) rfl) ?_
                    refine l_val rfl rfl rfl (r_assign (v := .int .i64 x121_2) rfl) ?_
                    refine l_nil ?_
                    refine c_seq ?_
                    refine c_region ?_
                    refine l_val rfl rfl rfl (r_move (v := .int .i64 x121_2) rfl) ?_
                    refine l_val rfl rfl rfl (r_move (v := .int .i64 x121_2) rfl) ?_
                    refine l_val rfl rfl rfl (r_move (v := .int .i64 x121_2) rfl) ?_
                    refine l_val rfl rfl rfl (r_buildA (ps := [(0, .int .i64 x121_2), (1, .int .i64 x121_2), (2, .int .i64 x121_2)]) (cells := #[.int .i64 x121_2, .int .i64 x121_2, .int .i64 x121_2]) Try.zeroValue90 Try.runUnderlying90 Try.sizeOf3 rfl rfl) ?_
                    refine l_alloc (cs := [.int .i64 0, .int .i64 0, .int .i64 0]) Try.zeroValue90 rfl rfl rfl (fun b21 => ?_)
                    refine l_store (i := 4) (vs := [.int .i64 x121_2, .int .i64 x121_2, .int .i64 x121_2]) (cs' := [.int .i64 x121_2, .int .i64 x121_2, .int .i64 x121_2]) Try.sizeOf90 rfl rfl rfl rfl rfl rfl rfl rfl rfl ?_
                    refine l_nil ?_
                    refine c_meet (r := r) (σ := (Nat → Int)) (τ := Unit) (fun s => Law_EditPixels_j9 x121_2 m_7 next7 s) (fun s t => [(0, v0), (11, .pointer (some ⟨b14, 0, none⟩)), (20, .pointer (some ⟨b15, 0, none⟩)), (21, .int .i64 t77.2), (22, .pointer (some ⟨b16, 0, none⟩)), (23, .int .i64 t83.2), (24, .int .i64 x24), (25, .int .i64 x25), (28, .pointer (some ⟨b17, 0, none⟩)), (29, .int .i64 x121_2), (30, .pointer (some ⟨b21, 0, none⟩)), (121, .int .i64 x121_2)]) (fun s t => [cellsC b14 [.int .u8 (a5 0), .int .u8 (a5 1), .int .u8 (a5 2)] 81, cellsC b15 (arrC 256 (fun j_ => [.int .u8 (t77.1 j_)])) 84, cellsC b16 [.int .u8 (t83.1 0), .int .u8 (t83.1 1), .int .u8 (t83.1 2)] 81, cellsC b17 (arrC 256 (fun j_ => [.int .u8 (m_7 j_)])) 84, cellsC b21 [.int .i64 (s 0), .int .i64 (s 1), .int .i64 (s 2)] 90]) (fun s t => True) ?_ ?_
                    · refine c_seq ?_
                      refine c_region ?_
                      refine l_val rfl rfl rfl (r_move (v := v0) rfl) ?_
                      refine l_val rfl rfl rfl (r_lenF Try.underlying61 rfl f0 rfl) ?_
                      refine l_val rfl rfl rfl (r_move (v := .int .i64 0) rfl) ?_
                      refine l_nil ?_
                      refine c_block ?_
                      refine c_fix (σ := Int × (Nat → Int)) (τ := Unit) (fun next10 s => Law_EditPixels_l10 a0 x121_2 m_7 next7 next10 s.1 s.2) (fun s t => [(0, v0), (11, .pointer (some ⟨b14, 0, none⟩)), (20, .pointer (some ⟨b15, 0, none⟩)), (21, .int .i64 t77.2), (22, .pointer (some ⟨b16, 0, none⟩)), (23, .int .i64 t83.2), (24, .int .i64 x24), (25, .int .i64 x25), (28, .pointer (some ⟨b17, 0, none⟩)), (29, .int .i64 x121_2), (30, .pointer (some ⟨b21, 0, none⟩)), (121, .int .i64 x121_2), (128, v0), (129, .int .i64 (a0.length : Int)), (130, .int .i64 s.1)]) (fun s t => [cellsC b14 [.int .u8 (a5 0), .int .u8 (a5 1), .int .u8 (a5 2)] 81, cellsC b15 (arrC 256 (fun j_ => [.int .u8 (t77.1 j_)])) 84, cellsC b16 [.int .u8 (t83.1 0), .int .u8 (t83.1 1), .int .u8 (t83.1 2)] 81, cellsC b17 (arrC 256 (fun j_ => [.int .u8 (m_7 j_)])) 84, cellsC b21 [.int .i64 (s.2 0), .int .i64 (s.2 1), .int .i64 (s.2 2)] 90]) (fun s t => True) (0, (ofL [x121_2, x121_2, x121_2])) () [0, 1, 2, 3, 4] H101 (by exact trivial) (by exact ⟨rfl, rfl, rfl, rfl, rfl, rfl, rfl, rfl, rfl, rfl, rfl, rfl, rfl, rfl, rfl, trivial⟩) (by decide) rfl ?_
                      rintro ⟨x130_2, m_11⟩ _ m10 gg H106 _
                      clear H101
                      replace H106 : Law_EditPixels_l10 a0 x121_2 m_7 next7 (it (fun next10 s => Law_EditPixels_l10 a0 x121_2 m_7 next7 next10 s.1 s.2) m10) x130_2 m_11 = some r := H106
                      generalize hn10 : it (fun next10 s => Law_EditPixels_l10 a0 x121_2 m_7 next7 next10 s.1 s.2) m10 = next10 at H106
                      refine c_tidyF [(0, v0), (11, .pointer (some ⟨b14, 0, none⟩)), (20, .pointer (some ⟨b15, 0, none⟩)), (21, .int .i64 t77.2), (22, .pointer (some ⟨b16, 0, none⟩)), (23, .int .i64 t83.2), (24, .int .i64 x24), (25, .int .i64 x25), (28, .pointer (some ⟨b17, 0, none⟩)), (29, .int .i64 x121_2), (30, .pointer (some ⟨b21, 0, none⟩)), (121, .int .i64 x121_2), (128, v0), (129, .int .i64 (a0.length : Int)), (130, .int .i64 x130_2)] [cellsC b14 [.int .u8 (a5 0), .int .u8 (a5 1), .int .u8 (a5 2)] 81, cellsC b15 (arrC 256 (fun j_ => [.int .u8 (t77.1 j_)])) 84, cellsC b16 [.int .u8 (t83.1 0), .int .u8 (t83.1 1), .int .u8 (t83.1 2)] 81, cellsC b17 (arrC 256 (fun j_ => [.int .u8 (m_7 j_)])) 84, cellsC b21 [.int .i64 (m_11 0), .int .i64 (m_11 1), .int .i64 (m_11 2)] 90] rfl rfl ?_
                      refine c_seq ?_
                      refine c_region ?_
                      refine l_val rfl rfl rfl (r_lss rfl rfl) ?_
                      refine l_nil ?_
                      refine c_seq ?_
                      refine c_if (b := (decide (x130_2 < (a0.length : Int)))) rfl (fun hb => ?_) (fun hb => ?_)
                      · have H107 := cnd_t hb H106; clear H106
                        refine c_skip ?_
                        refine c_seq ?_
                        refine c_block ?_
                        refine c_seq ?_
                        refine c_region ?_
                        obtain ⟨t132, h_t132, H108⟩ := bnd_some H107; clear H107
                        refine l_val rfl rfl rfl (r_indexF Try.underlying61 Try.sizeOf69 rfl rfl f0 h_t132) ?_
                        refine l_read (fun w hF hS => run_loadGN (f := e_edit_Step) (i := x130_2) (sz := 5) (j := 0) (vs := [.int .i64 t132.Kind, .int .i64 t132.A, .int .i64 t132.B, .int .i64 t132.C, .int .i64 t132.D]) Try.isAgg69 Try.sizeOf69 rfl rfl (f0.row (hw.now hF)) h_t132 rfl) rfl rfl rfl ?_
                        refine l_alloc (cs := [.int .i64 0, .int .i64 0, .int .i64 0, .int .i64 0, .int .i64 0]) Try.zeroValue69 rfl rfl rfl (fun b22 => ?_)
                        refine l_store (i := 5) (vs := [.int .i64 t132.Kind, .int .i64 t132.A, .int .i64 t132.B, .int .i64 t132.C, .int .i64 t132.D]) (cs' := [.int .i64 t132.Kind, .int .i64 t132.A, .int .i64 t132.B, .int .i64 t132.C, .int .i64 t132.D]) Try.sizeOf69 rfl rfl rfl rfl rfl rfl rfl rfl rfl ?_
                        refine l_nil ?_
                        refine c_region ?_
                        refine l_loadN (i := 5) (vs := [.int .i64 t132.Kind, .int .i64 t132.A, .int .i64 t132.B, .int .i64 t132.C, .int .i64 t132.D]) Try.isAgg69 Try.sizeOf69 rfl rfl rfl rfl rfl ?_
                        refine l_loadN (i := 4) (vs := [.int .i64 (m_11 0), .int .i64 (m_11 1), .int .i64 (m_11 2)]) Try.isAgg90 Try.sizeOf90 rfl rfl rfl rfl rfl ?_
                        obtain ⟨t136, h_t136, H109⟩ := bnd_some H108; clear H108
                        refine l_call (k56 h_t136) Try.call56 rfl rfl rfl ?_
                        refine l_store (i := 4) (vs := [.int .i64 (t136 0), .int .i64 (t136 1), .int .i64 (t136 2)]) (cs' := [.int .i64 (t136 0), .int .i64 (t136 1), .int .i64 (t136 2)]) Try.sizeOf90 rfl rfl rfl rfl rfl rfl rfl rfl rfl ?_
                        refine l_nil ?_
                        refine c_region ?_
                        obtain ⟨t137, h_t137, H110⟩ := bnd_some H109; clear H109
                        refine l_val rfl rfl rfl (r_addG rfl rfl h_t137) ?_
                        refine l_val rfl rfl rfl (r_move (v := .int .i64 t137) rfl) ?_
                        refine l_nil ?_
                        refine c_close (t137, t136) () m10 [0, 1, 2, 3, 4] (by exact ⟨rfl, rfl, rfl, rfl, rfl, rfl, rfl, rfl, rfl, rfl, rfl, rfl, rfl, rfl, rfl, trivial⟩) (by decide) rfl (by exact ⟨(by subst hn10; exact H110), trivial⟩) (Nat.lt_succ_self _)
                      · have H111 := cnd_f hb H106; clear H106
                        refine c_exit ?_
                        refine c_close m_11 () 0 [0, 1, 2, 3, 4] (by exact ⟨rfl, rfl, rfl, rfl, rfl, rfl, rfl, rfl, rfl, rfl, rfl, rfl, trivial⟩) (by decide) rfl (by exact ⟨H111, trivial⟩) (Nat.lt_succ_self _)
                    · rintro m_9 _ gg H104 _
                      replace H104 : Law_EditPixels_j9 x121_2 m_7 next7 m_9 = some r := H104
                      refine c_tidyF [(0, v0), (11, .pointer (some ⟨b14, 0, none⟩)), (20, .pointer (some ⟨b15, 0, none⟩)), (21, .int .i64 t77.2), (22, .pointer (some ⟨b16, 0, none⟩)), (23, .int .i64 t83.2), (24, .int .i64 x24), (25, .int .i64 x25), (28, .pointer (some ⟨b17, 0, none⟩)), (29, .int .i64 x121_2), (30, .pointer (some ⟨b21, 0, none⟩)), (121, .int .i64 x121_2)] [cellsC b14 [.int .u8 (a5 0), .int .u8 (a5 1), .int .u8 (a5 2)] 81, cellsC b15 (arrC 256 (fun j_ => [.int .u8 (t77.1 j_)])) 84, cellsC b16 [.int .u8 (t83.1 0), .int .u8 (t83.1 1), .int .u8 (t83.1 2)] 81, cellsC b17 (arrC 256 (fun j_ => [.int .u8 (m_7 j_)])) 84, cellsC b21 [.int .i64 (m_9 0), .int .i64 (m_9 1), .int .i64 (m_9 2)] 90] rfl rfl ?_
                      refine c_region ?_
                      refine l_val rfl rfl rfl (r_move (v := .int .i64 x121_2) rfl) ?_
                      refine l_val rfl rfl rfl (r_indexPA Try.runUnderlying90 Try.sizeOf3 rfl rfl (by decide) (by decide)) ?_
                      refine l_load1 (i := 4) (v := .int .i64 (m_9 0)) Try.isAgg3 rfl rfl rfl rfl rfl ?_
                      refine l_val rfl rfl rfl (r_convG Try.runUnderlying3 Try.runUnderlying5 rfl (wr_u8 _)) ?_
                      obtain ⟨k142, h_k142, H105⟩ := bnd_some H104; clear H104
                      refine l_val rfl rfl rfl (r_indexPG Try.runUnderlying84 Try.sizeOf5 rfl rfl h_k142) ?_
                      refine l_store (i := 3) (vs := [.int .u8 (wU8 (m_9 0))]) (cs' := (arrC 256 (fun j_ => [.int .u8 ((setA m_7 k142 (wU8 (m_9 0))) j_)]))) Try.sizeOf5 rfl rfl rfl rfl rfl rfl rfl rfl (wr_arr (pre := []) (post := []) (f := fun (j_ : Int) => [.int .u8 j_]) (n := 256) (sz := 1) (a := m_7) (x := (wU8 (m_9 0))) (arr_whole _ _) rfl (fun _ => rfl) (gIx_lt h_k142) rfl (arr_whole _ _)) ?_
                      refine l_nil ?_
                      refine c_close (setA m_7 k142 (wU8 (m_9 0))) () 0 [0, 1, 2, 3] (by exact ⟨rfl, rfl, rfl, rfl, rfl, rfl, rfl, rfl, rfl, rfl, trivial⟩) (by decide) rfl (by exact ⟨H105, trivial⟩) (Nat.lt_succ_self _)
                  · rintro m_8 _ gg H102 _
                    replace H102 : Law_EditPixels_j8 x121_2 next7 m_8 = some r := H102
                    refine c_tidyF [(0, v0), (11, .pointer (some ⟨b14, 0, none⟩)), (20, .pointer (some ⟨b15, 0, none⟩)), (21, .int .i64 t77.2), (22, .pointer (some ⟨b16, 0, none⟩)), (23, .int .i64 t83.2), (24, .int .i64 x24), (25, .int .i64 x25), (28, .pointer (some ⟨b17, 0, none⟩)), (121, .int .i64 x121_2)] [cellsC b14 [.int .u8 (a5 0), .int .u8 (a5 1), .int .u8 (a5 2)] 81, cellsC b15 (arrC 256 (fun j_ => [.int .u8 (t77.1 j_)])) 84, cellsC b16 [.int .u8 (t83.1 0), .int .u8 (t83.1 1), .int .u8 (t83.1 2)] 81, cellsC b17 (arrC 256 (fun j_ => [.int .u8 (m_8 j_)])) 84] rfl rfl ?_
                    refine c_region ?_
                    obtain ⟨t143, h_t143, H103⟩ := bnd_some H102; clear H102
                    refine l_val rfl rfl rfl (r_addG rfl rfl h_t143) ?_
                    refine l_val rfl rfl rfl (r_move (v := .int .i64 t143) rfl) ?_
                    refine l_nil ?_
                    refine c_close (t143, m_8) () m7 [0, 1, 2, 3] (by exact ⟨rfl, rfl, rfl, rfl, rfl, rfl, rfl, rfl, rfl, rfl, trivial⟩) (by decide) rfl (by exact ⟨(by subst hn7; exact H103), trivial⟩) (Nat.lt_succ_self _)
                · have H112 := cnd_f hb H100; clear H100
                  refine c_exit ?_
                  refine c_close m_7 () 0 [0, 1, 2, 3] (by exact ⟨rfl, rfl, rfl, rfl, rfl, rfl, rfl, rfl, rfl, trivial⟩) (by decide) rfl (by exact ⟨H112, trivial⟩) (Nat.lt_succ_self _)
              · have H113 := cnd_f hb H80; clear H80
                refine c_skip ?_
                refine c_close (fun _ => 0) () 0 [0, 1, 2, 3] (by exact ⟨rfl, rfl, rfl, rfl, rfl, rfl, rfl, rfl, rfl, trivial⟩) (by decide) rfl (by exact ⟨H113, trivial⟩) (Nat.lt_succ_self _)
            · rintro m _ gg H81 _
              replace H81 : Law_EditPixels_j3 a0 a5 t77 t83 x24 x25 m = some r := H81
              refine c_tidyF [(0, v0), (11, .pointer (some ⟨b14, 0, none⟩)), (20, .pointer (some ⟨b15, 0, none⟩)), (21, .int .i64 t77.2), (22, .pointer (some ⟨b16, 0, none⟩)), (23, .int .i64 t83.2), (24, .int .i64 x24), (25, .int .i64 x25), (28, .pointer (some ⟨b17, 0, none⟩))] [cellsC b14 [.int .u8 (a5 0), .int .u8 (a5 1), .int .u8 (a5 2)] 81, cellsC b15 (arrC 256 (fun j_ => [.int .u8 (t77.1 j_)])) 84, cellsC b16 [.int .u8 (t83.1 0), .int .u8 (t83.1 1), .int .u8 (t83.1 2)] 81, cellsC b17 (arrC 256 (fun j_ => [.int .u8 (m j_)])) 84] rfl rfl ?_
              refine c_seq ?_
              refine c_region ?_
              refine l_alloc (cs := [.int .u8 0, .int .u8 0, .int .u8 0]) Try.zeroValue81 rfl rfl rfl (fun b18 => ?_)
              refine l_nil ?_
              refine c_meet (r := r) (σ := (Nat → Int)) (τ := Unit) (fun s => Law_EditPixels_j4 t77 t83 x24 x25 m s) (fun s t => [(20, .pointer (some ⟨b15, 0, none⟩)), (21, .int .i64 t77.2), (22, .pointer (some ⟨b16, 0, none⟩)), (23, .int .i64 t83.2), (24, .int .i64 x24), (25, .int .i64 x25), (28, .pointer (some ⟨b17, 0, none⟩)), (33, .pointer (some ⟨b18, 0, none⟩))]) (fun s t => [cellsC b15 (arrC 256 (fun j_ => [.int .u8 (t77.1 j_)])) 84, cellsC b16 [.int .u8 (t83.1 0), .int .u8 (t83.1 1), .int .u8 (t83.1 2)] 81, cellsC b17 (arrC 256 (fun j_ => [.int .u8 (m j_)])) 84, cellsC b18 [.int .u8 (s 0), .int .u8 (s 1), .int .u8 (s 2)] 81]) (fun s t => True) ?_ ?_
              · refine c_seq ?_
                refine c_region ?_
                refine l_val rfl rfl rfl (r_move (v := .int .i64 x25) rfl) ?_
                refine l_val rfl rfl rfl (r_eql rfl rfl) ?_
                refine l_nil ?_
                refine c_if (b := (decide (x25 = 0))) rfl (fun hb => ?_) (fun hb => ?_)
                · have H87 := cnd_t hb H81; clear H81
                  refine c_seq ?_
                  refine c_region ?_
                  refine l_val rfl rfl rfl (r_indexPA Try.runUnderlying81 Try.sizeOf5 rfl rfl (by decide) (by decide)) ?_
                  refine l_load1 (i := 0) (v := .int .u8 (a5 0)) Try.isAgg5 rfl rfl rfl rfl rfl ?_
                  obtain ⟨t148, h_t148, H88⟩ := bnd_some H87; clear H87
                  refine l_val rfl rfl rfl (r_convG Try.runUnderlying5 Try.runUnderlying3 rfl (gK_i64 h_t148)) ?_
                  refine l_val rfl rfl rfl (r_indexPA Try.runUnderlying81 Try.sizeOf5 rfl rfl (by decide) (by decide)) ?_
                  refine l_load1 (i := 0) (v := .int .u8 (a5 1)) Try.isAgg5 rfl rfl rfl rfl rfl ?_
                  obtain ⟨t151, h_t151, H89⟩ := bnd_some H88; clear H88
                  refine l_val rfl rfl rfl (r_convG Try.runUnderlying5 Try.runUnderlying3 rfl (gK_i64 h_t151)) ?_
                  refine l_val rfl rfl rfl (r_indexPA Try.runUnderlying81 Try.sizeOf5 rfl rfl (by decide) (by decide)) ?_
                  refine l_load1 (i := 0) (v := .int .u8 (a5 2)) Try.isAgg5 rfl rfl rfl rfl rfl ?_
                  obtain ⟨t154, h_t154, H90⟩ := bnd_some H89; clear H89
                  refine l_val rfl rfl rfl (r_convG Try.runUnderlying5 Try.runUnderlying3 rfl (gK_i64 h_t154)) ?_
                  refine l_val rfl rfl rfl (r_buildA (ps := [(0, .int .i64 t148), (1, .int .i64 t151), (2, .int .i64 t154)]) (cells := #[.int .i64 t148, .int .i64 t151, .int .i64 t154]) Try.zeroValue90 Try.runUnderlying90 Try.sizeOf3 rfl rfl) ?_
                  refine l_alloc (cs := [.int .i64 0, .int .i64 0, .int .i64 0]) Try.zeroValue90 rfl rfl rfl (fun b19 => ?_)
                  refine l_store (i := 5) (vs := [.int .i64 t148, .int .i64 t151, .int .i64 t154]) (cs' := [.int .i64 t148, .int .i64 t151, .int .i64 t154]) Try.sizeOf90 rfl rfl rfl rfl rfl rfl rfl rfl rfl ?_
                  refine l_nil ?_
                  refine c_meet (r := r) (σ := (Nat → Int)) (τ := Unit) (fun s => Law_EditPixels_j5 t77 t83 x24 x25 m s) (fun s t => [(20, .pointer (some ⟨b15, 0, none⟩)), (21, .int .i64 t77.2), (22, .pointer (some ⟨b16, 0, none⟩)), (23, .int .i64 t83.2), (24, .int .i64 x24), (25, .int .i64 x25), (28, .pointer (some ⟨b17, 0, none⟩)), (33, .pointer (some ⟨b18, 0, none⟩)), (34, .pointer (some ⟨b19, 0, none⟩))]) (fun s t => [cellsC b15 (arrC 256 (fun j_ => [.int .u8 (t77.1 j_)])) 84, cellsC b16 [.int .u8 (t83.1 0), .int .u8 (t83.1 1), .int .u8 (t83.1 2)] 81, cellsC b17 (arrC 256 (fun j_ => [.int .u8 (m j_)])) 84, cellsC b18 [.int .u8 0, .int .u8 0, .int .u8 0] 81, cellsC b19 [.int .i64 (s 0), .int .i64 (s 1), .int .i64 (s 2)] 90]) (fun s t => True) ?_ ?_
                  · refine c_seq ?_
                    refine c_region ?_
                    refine l_val rfl rfl rfl (r_move (v := v0) rfl) ?_
                    refine l_val rfl rfl rfl (r_lenF Try.underlying61 rfl f0 rfl) ?_
                    refine l_val rfl rfl rfl (r_move (v := .int .i64 0) rfl) ?_
                    refine l_nil ?_
                    refine c_block ?_
                    refine c_sel [1, 2, 3, 4, 5] [cellsC b15 (arrC 256 (fun j_ => [.int .u8 (t77.1 j_)])) 84, cellsC b16 [.int .u8 (t83.1 0), .int .u8 (t83.1 1), .int .u8 (t83.1 2)] 81, cellsC b17 (arrC 256 (fun j_ => [.int .u8 (m j_)])) 84, cellsC b18 [.int .u8 0, .int .u8 0, .int .u8 0] 81, cellsC b19 [.int .i64 t148, .int .i64 t151, .int .i64 t154] 90] rfl (by decide) ?_
                    refine c_fix (σ := Int × (Nat → Int)) (τ := Unit) (fun next6 s => Law_EditPixels_l6 a0 t77 t83 x24 x25 m next6 s.1 s.2) (fun s t => [(20, .pointer (some ⟨b15, 0, none⟩)), (21, .int .i64 t77.2), (22, .pointer (some ⟨b16, 0, none⟩)), (23, .int .i64 t83.2), (24, .int .i64 x24), (25, .int .i64 x25), (28, .pointer (some ⟨b17, 0, none⟩)), (33, .pointer (some ⟨b18, 0, none⟩)), (34, .pointer (some ⟨b19, 0, none⟩)), (156, v0), (157, .int .i64 (a0.length : Int)), (158, .int .i64 s.1)]) (fun s t => [cellsC b15 (arrC 256 (fun j_ => [.int .u8 (t77.1 j_)])) 84, cellsC b16 [.int .u8 (t83.1 0), .int .u8 (t83.1 1), .int .u8 (t83.1 2)] 81, cellsC b17 (arrC 256 (fun j_ => [.int .u8 (m j_)])) 84, cellsC b18 [.int .u8 0, .int .u8 0, .int .u8 0] 81, cellsC b19 [.int .i64 (s.2 0), .int .i64 (s.2 1), .int .i64 (s.2 2)] 90]) (fun s t => True) (0, (ofL [t148, t151, t154])) () [0, 1, 2, 3, 4] H90 (by exact trivial) (by exact ⟨rfl, rfl, rfl, rfl, rfl, rfl, rfl, rfl, rfl, rfl, rfl, rfl, trivial⟩) (by decide) rfl ?_
                    rintro ⟨x158_2, m_5⟩ _ m6 gg H92 _
                    clear H90
                    replace H92 : Law_EditPixels_l6 a0 t77 t83 x24 x25 m (it (fun next6 s => Law_EditPixels_l6 a0 t77 t83 x24 x25 m next6 s.1 s.2) m6) x158_2 m_5 = some r := H92
                    generalize hn6 : it (fun next6 s => Law_EditPixels_l6 a0 t77 t83 x24 x25 m next6 s.1 s.2) m6 = next6 at H92
                    refine c_tidyF [(20, .pointer (some ⟨b15, 0, none⟩)), (21, .int .i64 t77.2), (22, .pointer (some ⟨b16, 0, none⟩)), (23, .int .i64 t83.2), (24, .int .i64 x24), (25, .int .i64 x25), (28, .pointer (some ⟨b17, 0, none⟩)), (33, .pointer (some ⟨b18, 0, none⟩)), (34, .pointer (some ⟨b19, 0, none⟩)), (156, v0), (157, .int .i64 (a0.length : Int)), (158, .int .i64 x158_2)] [cellsC b15 (arrC 256 (fun j_ => [.int .u8 (t77.1 j_)])) 84, cellsC b16 [.int .u8 (t83.1 0), .int .u8 (t83.1 1), .int .u8 (t83.1 2)] 81, cellsC b17 (arrC 256 (fun j_ => [.int .u8 (m j_)])) 84, cellsC b18 [.int .u8 0, .int .u8 0, .int .u8 0] 81, cellsC b19 [.int .i64 (m_5 0), .int .i64 (m_5 1), .int .i64 (m_5 2)] 90] rfl rfl ?_
                    refine c_seq ?_
                    refine c_region ?_
                    refine l_val rfl rfl rfl (r_lss rfl rfl) ?_
                    refine l_nil ?_
                    refine c_seq ?_
                    refine c_if (b := (decide (x158_2 < (a0.length : Int)))) rfl (fun hb => ?_) (fun hb => ?_)
                    · have H93 := cnd_t hb H92; clear H92
                      refine c_skip ?_
                      refine c_seq ?_
                      refine c_block ?_
                      refine c_seq ?_
                      refine c_region ?_
                      obtain ⟨t160, h_t160, H94⟩ := bnd_some H93; clear H93
                      refine l_val rfl rfl rfl (r_indexF Try.underlying61 Try.sizeOf69 rfl rfl f0 h_t160) ?_
                      refine l_read (fun w hF hS => run_loadGN (f := e_edit_Step) (i := x158_2) (sz := 5) (j := 0) (vs := [.int .i64 t160.Kind, .int .i64 t160.A, .int .i64 t160.B, .int .i64 t160.C, .int .i64 t160.D]) Try.isAgg69 Try.sizeOf69 rfl rfl (f0.row (hw.now hF)) h_t160 rfl) rfl rfl rfl ?_
                      refine l_alloc (cs := [.int .i64 0, .int .i64 0, .int .i64 0, .int .i64 0, .int .i64 0]) Try.zeroValue69 rfl rfl rfl (fun b20 => ?_)
                      refine l_store (i := 5) (vs := [.int .i64 t160.Kind, .int .i64 t160.A, .int .i64 t160.B, .int .i64 t160.C, .int .i64 t160.D]) (cs' := [.int .i64 t160.Kind, .int .i64 t160.A, .int .i64 t160.B, .int .i64 t160.C, .int .i64 t160.D]) Try.sizeOf69 rfl rfl rfl rfl rfl rfl rfl rfl rfl ?_
                      refine l_nil ?_
                      refine c_region ?_
                      refine l_loadN (i := 5) (vs := [.int .i64 t160.Kind, .int .i64 t160.A, .int .i64 t160.B, .int .i64 t160.C, .int .i64 t160.D]) Try.isAgg69 Try.sizeOf69 rfl rfl rfl rfl rfl ?_
                      refine l_loadN (i := 4) (vs := [.int .i64 (m_5 0), .int .i64 (m_5 1), .int .i64 (m_5 2)]) Try.isAgg90 Try.sizeOf90 rfl rfl rfl rfl rfl ?_
                      obtain ⟨t164, h_t164, H95⟩ := bnd_some H94; clear H94
                      refine l_call (k56 h_t164) Try.call56 rfl rfl rfl ?_
                      refine l_store (i := 4) (vs := [.int .i64 (t164 0), .int .i64 (t164 1), .int .i64 (t164 2)]) (cs' := [.int .i64 (t164 0), .int .i64 (t164 1), .int .i64 (t164 2)]) Try.sizeOf90 rfl rfl rfl rfl rfl rfl rfl rfl rfl ?_
                      refine l_nil ?_
                      refine c_region ?_
                      obtain ⟨t165, h_t165, H96⟩ := bnd_some H95; clear H95
                      refine l_val rfl rfl rfl (r_addG rfl rfl h_t165) ?_
                      refine l_val rfl rfl rfl (r_move (v := .int .i64 t165) rfl) ?_
                      refine l_nil ?_
                      refine c_close (t165, t164) () m6 [0, 1, 2, 3, 4] (by exact ⟨rfl, rfl, rfl, rfl, rfl, rfl, rfl, rfl, rfl, rfl, rfl, rfl, trivial⟩) (by decide) rfl (by exact ⟨(by subst hn6; exact H96), trivial⟩) (Nat.lt_succ_self _)
                    · have H97 := cnd_f hb H92; clear H92
                      refine c_exit ?_
                      refine c_close m_5 () 0 [0, 1, 2, 3, 4] (by exact ⟨rfl, rfl, rfl, rfl, rfl, rfl, rfl, rfl, rfl, trivial⟩) (by decide) rfl (by exact ⟨H97, trivial⟩) (Nat.lt_succ_self _)
                  · rintro m_3 _ gg H91 _
                    replace H91 : Law_EditPixels_j5 t77 t83 x24 x25 m m_3 = some r := H91
                    refine c_tidyF [(20, .pointer (some ⟨b15, 0, none⟩)), (21, .int .i64 t77.2), (22, .pointer (some ⟨b16, 0, none⟩)), (23, .int .i64 t83.2), (24, .int .i64 x24), (25, .int .i64 x25), (28, .pointer (some ⟨b17, 0, none⟩)), (33, .pointer (some ⟨b18, 0, none⟩)), (34, .pointer (some ⟨b19, 0, none⟩))] [cellsC b15 (arrC 256 (fun j_ => [.int .u8 (t77.1 j_)])) 84, cellsC b16 [.int .u8 (t83.1 0), .int .u8 (t83.1 1), .int .u8 (t83.1 2)] 81, cellsC b17 (arrC 256 (fun j_ => [.int .u8 (m j_)])) 84, cellsC b18 [.int .u8 0, .int .u8 0, .int .u8 0] 81, cellsC b19 [.int .i64 (m_3 0), .int .i64 (m_3 1), .int .i64 (m_3 2)] 90] rfl rfl ?_
                    refine c_region ?_
                    refine l_val rfl rfl rfl (r_indexPA Try.runUnderlying90 Try.sizeOf3 rfl rfl (by decide) (by decide)) ?_
                    refine l_load1 (i := 4) (v := .int .i64 (m_3 0)) Try.isAgg3 rfl rfl rfl rfl rfl ?_
                    refine l_val rfl rfl rfl (r_convG Try.runUnderlying3 Try.runUnderlying5 rfl (wr_u8 _)) ?_
                    refine l_val rfl rfl rfl (r_indexPA Try.runUnderlying90 Try.sizeOf3 rfl rfl (by decide) (by decide)) ?_
                    refine l_load1 (i := 4) (v := .int .i64 (m_3 1)) Try.isAgg3 rfl rfl rfl rfl rfl ?_
                    refine l_val rfl rfl rfl (r_convG Try.runUnderlying3 Try.runUnderlying5 rfl (wr_u8 _)) ?_
                    refine l_val rfl rfl rfl (r_indexPA Try.runUnderlying90 Try.sizeOf3 rfl rfl (by decide) (by decide)) ?_
                    refine l_load1 (i := 4) (v := .int .i64 (m_3 2)) Try.isAgg3 rfl rfl rfl rfl rfl ?_
                    refine l_val rfl rfl rfl (r_convG Try.runUnderlying3 Try.runUnderlying5 rfl (wr_u8 _)) ?_
                    refine l_val rfl rfl rfl (r_buildA (ps := [(0, .int .u8 (wU8 (m_3 0))), (1, .int .u8 (wU8 (m_3 1))), (2, .int .u8 (wU8 (m_3 2)))]) (cells := #[.int .u8 (wU8 (m_3 0)), .int .u8 (wU8 (m_3 1)), .int .u8 (wU8 (m_3 2))]) Try.zeroValue81 Try.runUnderlying81 Try.sizeOf5 rfl rfl) ?_
                    refine l_store (i := 3) (vs := [.int .u8 (wU8 (m_3 0)), .int .u8 (wU8 (m_3 1)), .int .u8 (wU8 (m_3 2))]) (cs' := [.int .u8 (wU8 (m_3 0)), .int .u8 (wU8 (m_3 1)), .int .u8 (wU8 (m_3 2))]) Try.sizeOf81 rfl rfl rfl rfl rfl rfl rfl rfl rfl ?_
                    refine l_nil ?_
                    refine c_close (ofL [(wU8 (m_3 0)), (wU8 (m_3 1)), (wU8 (m_3 2))]) () 0 [0, 1, 2, 3] (by exact ⟨rfl, rfl, rfl, rfl, rfl, rfl, rfl, rfl, trivial⟩) (by decide) rfl (by exact ⟨H91, trivial⟩) (Nat.lt_succ_self _)
                · have H98 := cnd_f hb H81; clear H81
                  refine c_skip ?_
                  refine c_close (fun _ => 0) () 0 [1, 2, 3, 4] (by exact ⟨rfl, rfl, rfl, rfl, rfl, rfl, rfl, rfl, trivial⟩) (by decide) rfl (by exact ⟨H98, trivial⟩) (Nat.lt_succ_self _)
              · rintro m_2 _ gg H82 _
                replace H82 : Law_EditPixels_j4 t77 t83 x24 x25 m m_2 = some r := H82
                refine c_tidyF [(20, .pointer (some ⟨b15, 0, none⟩)), (21, .int .i64 t77.2), (22, .pointer (some ⟨b16, 0, none⟩)), (23, .int .i64 t83.2), (24, .int .i64 x24), (25, .int .i64 x25), (28, .pointer (some ⟨b17, 0, none⟩)), (33, .pointer (some ⟨b18, 0, none⟩))] [cellsC b15 (arrC 256 (fun j_ => [.int .u8 (t77.1 j_)])) 84, cellsC b16 [.int .u8 (t83.1 0), .int .u8 (t83.1 1), .int .u8 (t83.1 2)] 81, cellsC b17 (arrC 256 (fun j_ => [.int .u8 (m j_)])) 84, cellsC b18 [.int .u8 (m_2 0), .int .u8 (m_2 1), .int .u8 (m_2 2)] 81] rfl rfl ?_
                refine c_seq ?_
                refine c_region ?_
                refine l_loadN (i := 0) (vs := (arrC 256 (fun j_ => [.int .u8 (t77.1 j_)]))) Try.isAgg84 Try.sizeOf84 rfl rfl rfl rfl (rd_whole (arrC_len (fun _ => rfl))) ?_
                refine l_val rfl rfl rfl (r_move (v := .int .i64 t77.2) rfl) ?_
                refine l_loadN (i := 2) (vs := (arrC 256 (fun j_ => [.int .u8 (m j_)]))) Try.isAgg84 Try.sizeOf84 rfl rfl rfl rfl (rd_whole (arrC_len (fun _ => rfl))) ?_
                refine l_val rfl rfl rfl (r_move (v := .int .i64 x24) rfl) ?_
                obtain ⟨t180, h_t180, H83⟩ := bnd_some H82; clear H82
                refine l_call (k57 h_t180) Try.call57 rfl rfl rfl ?_
                refine l_val rfl rfl rfl (r_move (v := .bool t180) rfl) ?_
                refine split (fun hb => ?_) (fun hb => ?_)
                · have H84 := cnd_t hb H83; clear H83
                  refine l_loadN (i := 1) (vs := [.int .u8 (t83.1 0), .int .u8 (t83.1 1), .int .u8 (t83.1 2)]) Try.isAgg81 Try.sizeOf81 rfl rfl rfl rfl rfl ?_
                  refine l_val rfl rfl rfl (r_move (v := .int .i64 t83.2) rfl) ?_
                  refine l_loadN (i := 3) (vs := [.int .u8 (m_2 0), .int .u8 (m_2 1), .int .u8 (m_2 2)]) Try.isAgg81 Try.sizeOf81 rfl rfl rfl rfl rfl ?_
                  refine l_val rfl rfl rfl (r_move (v := .int .i64 x25) rfl) ?_
                  obtain ⟨t186, h_t186, H85⟩ := bnd_some H84; clear H84
                  refine l_call (k58 h_t186) Try.call58 rfl rfl rfl ?_
                  refine l_val rfl rfl rfl (r_pickT (v := .bool t186) rfl rfl) ?_
                  refine l_val rfl rfl rfl (r_assign (v := .bool t186) rfl) ?_
                  refine l_nil ?_
                  refine c_ret ?_
                  obtain rfl := Option.some.inj H85
                  refine ret1 (v := .bool t186) rfl rfl (fin rfl)
                · have H86 := cnd_f hb H83; clear H83
                  refine l_passed rfl rfl rfl ?_
                  refine l_passed rfl rfl rfl ?_
                  refine l_passed rfl rfl rfl ?_
                  refine l_passed rfl rfl rfl ?_
                  refine l_passed rfl rfl rfl ?_
                  refine l_val rfl rfl rfl (r_pickF (v := .bool false) rfl rfl) ?_
                  refine l_val rfl rfl rfl (r_assign (v := .bool false) rfl) ?_
                  refine l_nil ?_
                  refine c_ret ?_
                  obtain rfl := Option.some.inj H86
                  refine ret1 (v := .bool false) rfl rfl (fin rfl)
end Go.Proofs.Ytngogocmhmfbjaa
