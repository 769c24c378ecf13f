/- TagValues, second part: the walks, printed by our generator; each follows its model. Conditions: the model yields a value. -/
import Derived.Test.YtohdhdiaahiicaaGreatDoorKVa
namespace Go.Proofs.YtohdhdiaahiicaaGreatDoor
open Go Go.Vc Go.Md Go.M Go.Lx
set_option maxRecDepth 100000
set_option maxHeartbeats 4000000
set_option linter.unusedVariables false

theorem k86 {a0 : (List UInt8)} {r : Int} (H : unicode_utf8_RuneCountInString a0 = some r) : Ret Tryz.prog 86 [str a0] (.int .i64 r) := by
 refine enterRet (n := 10) Tryz.func86 rfl rfl rfl (fun wd => ?_)
 refine c_seq ?_
 refine c_region ?_
 refine l_val rfl rfl rfl (r_assign (v := .int .i64 0) rfl) ?_
 refine l_nil ?_
 refine c_seq ?_
 refine c_seq ?_
 refine c_region ?_
 refine l_val rfl rfl rfl (r_move (v := str a0) rfl) ?_
 refine l_make (rds := []) (makes_range (s := a0) Tryz.underlying9 rfl) rfl rfl rfl (fun b1 => ?_)
 refine l_nil ?_
 refine c_block ?_
 refine c_fix (σ := Int × Nat) (τ := Unit) (fun next1 s => unicode_utf8_RuneCountInString_l1 a0 next1 s.1 s.2) (fun s t => [(2, .int .i64 s.1), (4, .pointer (some ⟨b1, 0, none⟩))]) (fun s t => [iterC b1 a0 s.2]) (fun s t => True) (0, 0) () [0] H (by exact trivial) (by exact ⟨rfl, rfl, trivial⟩) (by decide) rfl ?_
 rintro ⟨x2_2, k_2⟩ _ m1 gg H6 _
 clear H
 replace H6 : unicode_utf8_RuneCountInString_l1 a0 (it (fun next1 s => unicode_utf8_RuneCountInString_l1 a0 next1 s.1 s.2) m1) x2_2 k_2 = some r := H6
 generalize hn1 : it (fun next1 s => unicode_utf8_RuneCountInString_l1 a0 next1 s.1 s.2) m1 = next1 at H6
 refine c_tidyF [(2, .int .i64 x2_2), (4, .pointer (some ⟨b1, 0, none⟩))] [iterC b1 a0 k_2] rfl rfl ?_
 refine c_seq ?_
 refine c_region ?_
 refine caseB (decide (k_2 < a0.length)) (fun hb => ?_) (fun hb => ?_)
 ·have H7 := cnd_t hb H6; clear H6
  obtain ⟨t5, h_t5, H8⟩ := bnd_some H7; clear H7
  refine l_turn (turns_next (i := 0) (rds := []) rfl rfl h_t5) rfl rfl rfl (fun _ => ?_)
  refine l_val rfl rfl rfl (r_extract (v := .bool true) rfl rfl) ?_
  refine l_nil ?_
  refine c_seq ?_
  refine c_true rfl ?_
  refine c_skip ?_
  refine c_block ?_
  refine c_region ?_
  refine l_val rfl rfl rfl (r_move (v := .int .i64 x2_2) rfl) ?_
  obtain ⟨t8, h_t8, H9⟩ := bnd_some H8; clear H8
  refine l_val rfl rfl rfl (r_addG rfl rfl h_t8) ?_
  refine l_val rfl rfl rfl (r_assign (v := .int .i64 t8) rfl) ?_
  refine l_nil ?_
  refine c_close (t8, (k_2 + 1)) () m1 [0] (by exact ⟨rfl, rfl, trivial⟩) (by decide) rfl (by exact ⟨(by subst hn1; exact H9), trivial⟩) (Nat.lt_succ_self _)
 ·have H10 := cnd_f hb H6; clear H6
  refine l_read (fun w hF hS => r_nextOver (i := 0) hS rfl rfl hb) rfl rfl rfl ?_
  refine l_val rfl rfl rfl (r_extract (v := .bool false) rfl rfl) ?_
  refine l_nil ?_
  refine c_seq ?_
  refine c_false rfl ?_
  refine c_exit ?_
  refine c_seq ?_
  refine c_region ?_
  refine l_val rfl rfl rfl (r_move (v := .int .i64 x2_2) rfl) ?_
  refine l_val rfl rfl rfl (r_assign (v := .int .i64 x2_2) rfl) ?_
  refine l_nil ?_
  refine c_ret ?_
  obtain rfl := Option.some.inj H10
  refine ret1 (v := .int .i64 x2_2) rfl rfl (fin rfl)
theorem k106 {a0 : (List UInt8)} {r : Int × Int} (H : unicode_utf8_decodeRuneInStringSlow a0 = some r) : Ret Tryz.prog 106 [str a0] (.tuple #[.int .i32 r.1, .int .i64 r.2]) := by
 refine enterRet (n := 117) Tryz.func106 rfl rfl rfl (fun wd => ?_)
 refine c_seq ?_
 refine c_region ?_
 refine l_val rfl rfl rfl (r_assign (v := .int .i32 0) rfl) ?_
 refine l_val rfl rfl rfl (r_assign (v := .int .i64 0) rfl) ?_
 refine l_nil ?_
 refine c_seq ?_
 refine c_region ?_
 refine l_val rfl rfl rfl (r_move (v := str a0) rfl) ?_
 refine l_val rfl rfl rfl (r_lenT Tryz.underlying9 rfl) ?_
 refine l_val rfl rfl rfl (r_assign (v := .int .i64 (a0.length : Int)) rfl) ?_
 refine l_nil ?_
 refine c_seq ?_
 refine c_seq ?_
 refine c_region ?_
 refine l_val rfl rfl rfl (r_move (v := .int .i64 (a0.length : Int)) rfl) ?_
 refine l_val rfl rfl rfl (r_lss rfl rfl) ?_
 refine l_nil ?_
 refine c_if (b := (decide ((a0.length : Int) < 1))) rfl (fun hb => ?_) (fun hb => ?_)
 ·have H3 := cnd_t hb H; clear H
  refine c_seq ?_
  refine c_region ?_
  refine l_val rfl rfl rfl (r_assign (v := .int .i32 65533) rfl) ?_
  refine l_val rfl rfl rfl (r_assign (v := .int .i64 0) rfl) ?_
  refine l_nil ?_
  refine c_ret ?_
  obtain rfl := Option.some.inj H3
  refine ret2 (v1 := .int .i32 65533) (v2 := .int .i64 0) rfl rfl rfl (fin rfl)
 ·have H4 := cnd_f hb H; clear H
  exact absurd (show (none : Option (Int × Int)) = some r from H4) (fun h => by cases h)
theorem k87 {a0 : (List UInt8)} {r : Int × Int} (H : unicode_utf8_DecodeRuneInString a0 = some r) : Ret Tryz.prog 87 [str a0] (.tuple #[.int .i32 r.1, .int .i64 r.2]) := by
 refine enterRet (n := 19) Tryz.func87 rfl rfl rfl (fun wd => ?_)
 refine c_seq ?_
 refine c_region ?_
 refine l_val rfl rfl rfl (r_assign (v := .int .i32 0) rfl) ?_
 refine l_val rfl rfl rfl (r_assign (v := .int .i64 0) rfl) ?_
 refine l_nil ?_
 refine c_seq ?_
 refine c_meet (r := r) (σ := Bool) (τ := Unit) (fun s => unicode_utf8_DecodeRuneInString_j1 a0 s) (fun s t => [(0, str a0), (10, .bool s)]) (fun s t => []) (fun s t => True) ?_ ?_
 ·refine c_region ?_
  refine l_val rfl rfl rfl (r_move (v := str a0) rfl) ?_
  refine l_val rfl rfl rfl (r_neqT rfl rfl) ?_
  refine l_val rfl rfl rfl (r_move (v := .bool (decide (a0 ≠ []))) rfl) ?_
  refine split (fun hb => ?_) (fun hb => ?_)
  ·have H16 := cnd_t hb H; clear H
   refine l_val rfl rfl rfl (r_move (v := str a0) rfl) ?_
   obtain ⟨t8, h_t8, H17⟩ := bnd_some H16; clear H16
   refine l_val rfl rfl rfl (r_octG Tryz.underlying9 rfl rfl h_t8) ?_
   refine l_val rfl rfl rfl (r_lss rfl rfl) ?_
   refine l_val rfl rfl rfl (r_pickT (v := .bool (decide (t8 < 128))) rfl rfl) ?_
   refine l_nil ?_
   refine c_close (decide (t8 < 128)) () 0 [] (by exact ⟨rfl, rfl, trivial⟩) (by decide) rfl (by exact ⟨H17, trivial⟩) (Nat.lt_succ_self _)
  ·have H18 := cnd_f hb H; clear H
   refine l_passed rfl rfl rfl ?_
   refine l_passed rfl rfl rfl ?_
   refine l_passed rfl rfl rfl ?_
   refine l_val rfl rfl rfl (r_pickF (v := .bool false) rfl rfl) ?_
   refine l_nil ?_
   refine c_close false () 0 [] (by exact ⟨rfl, rfl, trivial⟩) (by decide) rfl (by exact ⟨H18, trivial⟩) (Nat.lt_succ_self _)
 ·rintro x10 _ gg H10 _
  replace H10 : unicode_utf8_DecodeRuneInString_j1 a0 x10 = some r := H10
  refine c_tidyF [(0, str a0), (10, .bool x10)] [] rfl rfl ?_
  refine c_if (b := x10) rfl (fun hb => ?_) (fun hb => ?_)
  ·have H11 := cnd_t hb H10; clear H10
   refine c_seq ?_
   refine c_region ?_
   refine l_val rfl rfl rfl (r_move (v := str a0) rfl) ?_
   obtain ⟨t12, h_t12, H12⟩ := bnd_some H11; clear H11
   refine l_val rfl rfl rfl (r_octG Tryz.underlying9 rfl rfl h_t12) ?_
   obtain ⟨t13, h_t13, H13⟩ := bnd_some H12; clear H12
   refine l_val rfl rfl rfl (r_convG Tryz.runUnderlying5 Tryz.runUnderlying21 rfl (gK_i32 h_t13)) ?_
   refine l_val rfl rfl rfl (r_assign (v := .int .i32 t13) rfl) ?_
   refine l_val rfl rfl rfl (r_assign (v := .int .i64 1) rfl) ?_
   refine l_nil ?_
   refine c_ret ?_
   obtain rfl := Option.some.inj H13
   refine ret2 (v1 := .int .i32 t13) (v2 := .int .i64 1) rfl rfl rfl (fin rfl)
  ·have H14 := cnd_f hb H10; clear H10
   refine c_region ?_
   refine l_val rfl rfl rfl (r_move (v := str a0) rfl) ?_
   obtain ⟨t16, h_t16, H15⟩ := bnd_some H14; clear H14
   refine l_call (k106 h_t16) Tryz.call106 rfl rfl rfl ?_
   refine l_val rfl rfl rfl (r_move (v := .tuple #[.int .i32 t16.1, .int .i64 t16.2]) rfl) ?_
   refine l_val rfl rfl rfl (r_extract (v := .int .i32 t16.1) rfl rfl) ?_
   refine l_val rfl rfl rfl (r_extract (v := .int .i64 t16.2) rfl rfl) ?_
   refine l_val rfl rfl rfl (r_assign (v := .int .i32 t16.1) rfl) ?_
   refine l_val rfl rfl rfl (r_assign (v := .int .i64 t16.2) rfl) ?_
   refine l_nil ?_
   refine c_ret ?_
   obtain rfl := Option.some.inj H15
   refine ret2 (v1 := .int .i32 t16.1) (v2 := .int .i64 t16.2) rfl rfl rfl (fin rfl)
theorem k66 {a0 : (List UInt8)} {a1 : Int} {r : (List (List UInt8))} {w : World} {h : Heap} (hw : Know h w noS) (H : strings_explode a0 a1 = some r) : Does Tryz.prog 66 (List.toArray [str a0, .int .i64 a1]) w (fun v w' => ∃ x : (Option Addr × Nat), v = (.slice x.1 r.length x.2) ∧ Turn w w' noS (rowV 9 1 (.slice x.1 r.length x.2) r.length (r.map e_string))) := by
 refine enter (n := 50) Tryz.func66 rfl rfl rfl noS [] (Sat.nil _ _) ?_
 refine c_seq ?_
 refine c_region ?_
 refine l_val rfl rfl rfl (r_assign (v := .slice none 0 0) rfl) ?_
 refine l_nil ?_
 refine c_seq ?_
 refine c_region ?_
 refine l_val rfl rfl rfl (r_move (v := str a0) rfl) ?_
 obtain ⟨t11, h_t11, H24⟩ := bnd_some H; clear H
 refine l_call (k86 h_t11) Tryz.call86 rfl rfl rfl ?_
 refine l_val rfl rfl rfl (r_assign (v := .int .i64 t11) rfl) ?_
 refine l_nil ?_
 refine c_meet (r := r) (σ := Int) (τ := Unit) (fun s => strings_explode_j1 a0 s) (fun s t => [(0, str a0), (1, .int .i64 s)]) (fun s t => []) (fun s t => True) ?_ ?_
 ·refine c_seq ?_
  refine c_region ?_
  refine l_val rfl rfl rfl (r_move (v := .int .i64 a1) rfl) ?_
  refine l_val rfl rfl rfl (r_lss rfl rfl) ?_
  refine l_val rfl rfl rfl (r_move (v := .bool (decide (a1 < 0))) rfl) ?_
  refine split (fun hb => ?_) (fun hb => ?_)
  ·have H43 := cnd_t hb H24; clear H24
   refine l_passed rfl rfl rfl ?_
   refine l_passed rfl rfl rfl ?_
   refine l_passed rfl rfl rfl ?_
   refine l_val rfl rfl rfl (r_pickT (v := .bool true) rfl rfl) ?_
   refine l_nil ?_
   refine c_true rfl ?_
   refine c_region ?_
   refine l_val rfl rfl rfl (r_move (v := .int .i64 t11) rfl) ?_
   refine l_val rfl rfl rfl (r_assign (v := .int .i64 t11) rfl) ?_
   refine l_nil ?_
   refine c_close t11 () 0 [] (by exact ⟨rfl, rfl, trivial⟩) (by decide) rfl (by exact ⟨H43, trivial⟩) (Nat.lt_succ_self _)
  ·have H44 := cnd_f hb H24; clear H24
   refine l_val rfl rfl rfl (r_move (v := .int .i64 a1) rfl) ?_
   refine l_val rfl rfl rfl (r_move (v := .int .i64 t11) rfl) ?_
   refine l_val rfl rfl rfl (r_gtr rfl rfl) ?_
   refine l_val rfl rfl rfl (r_pickF (v := .bool (decide (t11 < a1))) rfl rfl) ?_
   refine l_nil ?_
   refine c_if (b := (decide (t11 < a1))) rfl (fun hb => ?_) (fun hb => ?_)
   ·have H45 := cnd_t hb H44; clear H44
    refine c_region ?_
    refine l_val rfl rfl rfl (r_move (v := .int .i64 t11) rfl) ?_
    refine l_val rfl rfl rfl (r_assign (v := .int .i64 t11) rfl) ?_
    refine l_nil ?_
    refine c_close t11 () 0 [] (by exact ⟨rfl, rfl, trivial⟩) (by decide) rfl (by exact ⟨H45, trivial⟩) (Nat.lt_succ_self _)
   ·have H46 := cnd_f hb H44; clear H44
    refine c_skip ?_
    refine c_close a1 () 0 [] (by exact ⟨rfl, rfl, trivial⟩) (by decide) rfl (by exact ⟨H46, trivial⟩) (Nat.lt_succ_self _)
 ·rintro x1 _ gg H25 _
  replace H25 : strings_explode_j1 a0 x1 = some r := H25
  refine c_tidyF [(0, str a0), (1, .int .i64 x1)] [] rfl rfl ?_
  refine c_seq ?_
  refine c_region ?_
  refine l_val rfl rfl rfl (r_move (v := .int .i64 x1) rfl) ?_
  obtain ⟨t21, h_t21, H26⟩ := bnd_some H25; clear H25
  refine l_make (rds := []) (makes_makeG (E := 9) (sz := 1) (f := e_string) (xs := t21) Tryz.underlying33 (info_of Tryz.typeInfo9) rfl rfl rfl rfl rfl rfl ⟨rfl, rfl⟩ h_t21) rfl rfl rfl (fun p => ?_)
  refine l_val rfl rfl rfl (r_assign (v := .slice p.1 t21.length p.2) rfl) ?_
  refine l_nil ?_
  refine c_meet (r := r) (σ := (List UInt8) × (List (List UInt8))) (τ := Unit) (fun s => strings_explode_j2 x1 s.1 s.2) (fun s t => [(0, str s.1), (1, .int .i64 x1), (6, .slice p.1 t21.length p.2)]) (fun s t => [rowV 9 1 (.slice p.1 t21.length p.2) t21.length (s.2.map e_string)]) (fun s t => t21.length = s.2.length) ?_ ?_
  ·refine c_seq ?_
   refine c_region ?_
   refine l_val rfl rfl rfl (r_assign (v := .int .i64 0) rfl) ?_
   refine l_nil ?_
   refine c_block ?_
   refine c_fix (σ := (List UInt8) × Int × (List (List UInt8))) (τ := Unit) (fun next3 s => strings_explode_l3 x1 next3 s.1 s.2.1 s.2.2) (fun s t => [(0, str s.1), (1, .int .i64 x1), (6, .slice p.1 t21.length p.2), (7, .int .i64 s.2.1)]) (fun s t => [rowV 9 1 (.slice p.1 t21.length p.2) t21.length (s.2.2.map e_string)]) (fun s t => t21.length = s.2.2.length) (a0, 0, t21) () [0] H26 (by exact rfl) (by exact ⟨rfl, rfl, rfl, rfl, trivial⟩) (by decide) rfl ?_
   rintro ⟨x0_3, x7_2, l_3⟩ _ m3 gg H33 hl_3
   clear H26
   replace H33 : strings_explode_l3 x1 (it (fun next3 s => strings_explode_l3 x1 next3 s.1 s.2.1 s.2.2) m3) x0_3 x7_2 l_3 = some r := H33
   generalize hn3 : it (fun next3 s => strings_explode_l3 x1 next3 s.1 s.2.1 s.2.2) m3 = next3 at H33
   refine c_tidyF [(0, str x0_3), (1, .int .i64 x1), (6, .slice p.1 t21.length p.2), (7, .int .i64 x7_2)] [rowV 9 1 (.slice p.1 t21.length p.2) t21.length (l_3.map e_string)] rfl rfl ?_
   refine c_seq ?_
   refine c_seq ?_
   refine c_region ?_
   refine l_val rfl rfl rfl (r_move (v := .int .i64 x7_2) rfl) ?_
   refine l_val rfl rfl rfl (r_move (v := .int .i64 x1) rfl) ?_
   obtain ⟨t24, h_t24, H34⟩ := bnd_some H33; clear H33
   refine l_val rfl rfl rfl (r_subG rfl rfl h_t24) ?_
   refine l_val rfl rfl rfl (r_lss rfl rfl) ?_
   refine l_nil ?_
   refine c_if (b := (decide (x7_2 < t24))) rfl (fun hb => ?_) (fun hb => ?_)
   ·have H35 := cnd_t hb H34; clear H34
    refine c_skip ?_
    refine c_seq ?_
    refine c_block ?_
    refine c_seq ?_
    refine c_region ?_
    refine l_val rfl rfl rfl (r_move (v := str x0_3) rfl) ?_
    obtain ⟨t30, h_t30, H36⟩ := bnd_some H35; clear H35
    refine l_call (k87 h_t30) Tryz.call87 rfl rfl rfl ?_
    refine l_val rfl rfl rfl (r_move (v := .tuple #[.int .i32 t30.1, .int .i64 t30.2]) rfl) ?_
    refine l_val rfl rfl rfl (r_extract (v := .int .i32 t30.1) rfl rfl) ?_
    refine l_val rfl rfl rfl (r_extract (v := .int .i64 t30.2) rfl rfl) ?_
    refine l_val rfl rfl rfl (r_assign (v := .int .i32 t30.1) rfl) ?_
    refine l_val rfl rfl rfl (r_assign (v := .int .i64 t30.2) rfl) ?_
    refine l_nil ?_
    refine c_seq ?_
    refine c_region ?_
    refine l_val rfl rfl rfl (r_move (v := .slice p.1 t21.length p.2) rfl) ?_
    refine l_val rfl rfl rfl (r_move (v := .int .i64 x7_2) rfl) ?_
    refine l_val rfl rfl rfl (r_move (v := str x0_3) rfl) ?_
    refine l_val rfl rfl rfl (r_move (v := .int .i64 t30.2) rfl) ?_
    obtain ⟨t37, h_t37, H37⟩ := bnd_some H36; clear H36
    refine l_val rfl rfl rfl (r_cutToG Tryz.underlying9 rfl rfl h_t37) ?_
    obtain ⟨t38, h_t38, H38⟩ := bnd_some H37; clear H37
    refine l_read (fun w hF hS => run_indexO Tryz.underlying33 Tryz.sizeOf9 rfl rfl (rowOf (i := 0) hS rfl) hl_3 h_t38) rfl rfl rfl ?_
    obtain ⟨l0_2, h_l0_2, H39⟩ := bnd_some H38; clear H38
    refine l_storeG (q := 0) (j := 0) (i := x7_2) (sz := 1) (hm := hl_3) (f := e_string) (vs := [str t37]) Tryz.sizeOf9 rfl rfl rfl rfl rfl rfl rfl rfl rfl (fun y_ hy_ => by first | rfl | (cases hy_.symm.trans h_t38; rfl)) h_l0_2 ?_
    refine l_nil ?_
    refine c_region ?_
    refine l_val rfl rfl rfl (r_move (v := str x0_3) rfl) ?_
    refine l_val rfl rfl rfl (r_move (v := .int .i64 t30.2) rfl) ?_
    obtain ⟨t41, h_t41, H40⟩ := bnd_some H39; clear H39
    refine l_val rfl rfl rfl (r_cutFromG Tryz.underlying9 rfl rfl h_t41) ?_
    refine l_val rfl rfl rfl (r_assign (v := str t41) rfl) ?_
    refine l_nil ?_
    refine c_region ?_
    refine l_val rfl rfl rfl (r_move (v := .int .i64 x7_2) rfl) ?_
    obtain ⟨t27, h_t27, H41⟩ := bnd_some H40; clear H40
    refine l_val rfl rfl rfl (r_addG rfl rfl h_t27) ?_
    refine l_val rfl rfl rfl (r_assign (v := .int .i64 t27) rfl) ?_
    refine l_nil ?_
    refine c_close (t41, t27, l0_2) () m3 [0] (by exact ⟨rfl, rfl, rfl, rfl, trivial⟩) (by decide) rfl (by exact ⟨(by subst hn3; exact H41), (gSet_n hl_3 h_l0_2)⟩) (Nat.lt_succ_self _)
   ·have H42 := cnd_f hb H34; clear H34
    refine c_exit ?_
    refine c_close (x0_3, l_3) () 0 [0] (by exact ⟨rfl, rfl, rfl, trivial⟩) (by decide) rfl (by exact ⟨H42, hl_3⟩) (Nat.lt_succ_self _)
  ·rintro ⟨x0, l⟩ _ gg H27 hl
   replace H27 : strings_explode_j2 x1 x0 l = some r := H27
   refine c_tidyF [(0, str x0), (1, .int .i64 x1), (6, .slice p.1 t21.length p.2)] [rowV 9 1 (.slice p.1 t21.length p.2) t21.length (l.map e_string)] rfl rfl ?_
   refine c_seq ?_
   refine c_seq ?_
   refine c_region ?_
   refine l_val rfl rfl rfl (r_move (v := .int .i64 x1) rfl) ?_
   refine l_val rfl rfl rfl (r_gtr rfl rfl) ?_
   refine l_nil ?_
   refine c_if (b := (decide (0 < x1))) rfl (fun hb => ?_) (fun hb => ?_)
   ·have H28 := cnd_t hb H27; clear H27
    refine c_region ?_
    refine l_val rfl rfl rfl (r_move (v := .slice p.1 t21.length p.2) rfl) ?_
    refine l_val rfl rfl rfl (r_move (v := .int .i64 x1) rfl) ?_
    obtain ⟨t46, h_t46, H29⟩ := bnd_some H28; clear H28
    refine l_val rfl rfl rfl (r_subG rfl rfl h_t46) ?_
    refine l_val rfl rfl rfl (r_move (v := str x0) rfl) ?_
    obtain ⟨t48, h_t48, H30⟩ := bnd_some H29; clear H29
    refine l_read (fun w hF hS => run_indexO Tryz.underlying33 Tryz.sizeOf9 rfl rfl (rowOf (i := 0) hS rfl) hl h_t48) rfl rfl rfl ?_
    obtain ⟨l0, h_l0, H31⟩ := bnd_some H30; clear H30
    refine l_storeG (q := 0) (j := 0) (i := t46) (sz := 1) (hm := hl) (f := e_string) (vs := [str x0]) Tryz.sizeOf9 rfl rfl rfl rfl rfl rfl rfl rfl rfl (fun y_ hy_ => by first | rfl | (cases hy_.symm.trans h_t48; rfl)) h_l0 ?_
    refine l_nil ?_
    refine c_seq ?_
    refine c_region ?_
    refine l_val rfl rfl rfl (r_move (v := .slice p.1 t21.length p.2) rfl) ?_
    refine l_val rfl rfl rfl (r_assign (v := .slice p.1 t21.length p.2) rfl) ?_
    refine l_nil ?_
    refine c_ret ?_
    obtain rfl := Option.some.inj H31
    refine ret1 (v := .slice p.1 t21.length p.2) rfl rfl (finX p (i := 0) rfl (by first | rfl | rw [(show t21.length = l0.length from (gSet_n hl h_l0))]) (by first | exact Imp.refl _ | exact Imp.of (by rw [(show t21.length = l0.length from (gSet_n hl h_l0))])))
   ·have H32 := cnd_f hb H27; clear H27
    refine c_skip ?_
    refine c_seq ?_
    refine c_region ?_
    refine l_val rfl rfl rfl (r_move (v := .slice p.1 t21.length p.2) rfl) ?_
    refine l_val rfl rfl rfl (r_assign (v := .slice p.1 t21.length p.2) rfl) ?_
    refine l_nil ?_
    refine c_ret ?_
    obtain rfl := Option.some.inj H32
    refine ret1 (v := .slice p.1 t21.length p.2) rfl rfl (finX p (i := 0) rfl (by first | rfl | rw [(show t21.length = l.length from hl)]) (by first | exact Imp.refl _ | exact Imp.of (by rw [(show t21.length = l.length from hl)])))
theorem k90 {a0 : Int} {r : Int} (H : internal_bytealg_Cutover a0 = some r) : Ret Tryz.prog 90 [.int .i64 a0] (.int .i64 r) := by
 refine enterRet (n := 6) Tryz.func90 rfl rfl rfl (fun wd => ?_)
 refine c_seq ?_
 refine c_region ?_
 refine l_val rfl rfl rfl (r_assign (v := .int .i64 0) rfl) ?_
 refine l_nil ?_
 refine c_seq ?_
 refine c_region ?_
 refine l_val rfl rfl rfl (r_move (v := .int .i64 a0) rfl) ?_
 obtain ⟨t4, h_t4, H3⟩ := bnd_some H; clear H
 refine l_val rfl rfl rfl (r_addG rfl rfl h_t4) ?_
 obtain ⟨t5, h_t5, H4⟩ := bnd_some H3; clear H3
 refine l_val rfl rfl rfl (r_quoG rfl rfl h_t5) ?_
 refine l_val rfl rfl rfl (r_assign (v := .int .i64 t5) rfl) ?_
 refine l_nil ?_
 refine c_ret ?_
 obtain rfl := Option.some.inj H4
 refine ret1 (v := .int .i64 t5) rfl rfl (fin rfl)
theorem k107 {a0 : (List UInt8)} {r : Int × Int} (H : internal_bytealg_hashStr_string a0 = some r) : Ret Tryz.prog 107 [str a0] (.tuple #[.int .u32 r.1, .int .u32 r.2]) := by
 refine enterRet (n := 39) Tryz.func107 rfl rfl rfl (fun wd => ?_)
 refine c_seq ?_
 refine c_region ?_
 refine l_val rfl rfl rfl (r_assign (v := .int .u32 0) rfl) ?_
 refine l_val rfl rfl rfl (r_assign (v := .int .u32 0) rfl) ?_
 refine l_nil ?_
 refine c_seq ?_
 refine c_region ?_
 refine l_val rfl rfl rfl (r_assign (v := .int .u32 0) rfl) ?_
 refine l_nil ?_
 refine c_meet (r := r) (σ := Int) (τ := Unit) (fun s => internal_bytealg_hashStr_string_j1 a0 s) (fun s t => [(0, str a0), (4, .int .u32 s)]) (fun s t => []) (fun s t => True) ?_ ?_
 ·refine c_seq ?_
  refine c_region ?_
  refine l_val rfl rfl rfl (r_assign (v := .int .i64 0) rfl) ?_
  refine l_nil ?_
  refine c_block ?_
  refine c_fix (σ := Int × Int) (τ := Unit) (fun next5 s => internal_bytealg_hashStr_string_l5 a0 next5 s.1 s.2) (fun s t => [(0, str a0), (4, .int .u32 s.1), (5, .int .i64 s.2)]) (fun s t => []) (fun s t => True) (0, 0) () [] H (by exact trivial) (by exact ⟨rfl, rfl, rfl, trivial⟩) (by decide) rfl ?_
  rintro ⟨x4_3, x5_2⟩ _ m5 gg H25 _
  clear H
  replace H25 : internal_bytealg_hashStr_string_l5 a0 (it (fun next5 s => internal_bytealg_hashStr_string_l5 a0 next5 s.1 s.2) m5) x4_3 x5_2 = some r := H25
  generalize hn5 : it (fun next5 s => internal_bytealg_hashStr_string_l5 a0 next5 s.1 s.2) m5 = next5 at H25
  refine c_tidyF [(0, str a0), (4, .int .u32 x4_3), (5, .int .i64 x5_2)] [] rfl rfl ?_
  refine c_seq ?_
  refine c_seq ?_
  refine c_region ?_
  refine l_val rfl rfl rfl (r_move (v := .int .i64 x5_2) rfl) ?_
  refine l_val rfl rfl rfl (r_move (v := str a0) rfl) ?_
  refine l_val rfl rfl rfl (r_lenT Tryz.underlying9 rfl) ?_
  refine l_val rfl rfl rfl (r_lss rfl rfl) ?_
  refine l_nil ?_
  refine c_if (b := (decide (x5_2 < (a0.length : Int)))) rfl (fun hb => ?_) (fun hb => ?_)
  ·have H26 := cnd_t hb H25; clear H25
   refine c_skip ?_
   refine c_seq ?_
   refine c_block ?_
   refine c_region ?_
   refine l_val rfl rfl rfl (r_move (v := .int .u32 x4_3) rfl) ?_
   refine l_val rfl rfl rfl (r_mulW rfl rfl (wr_u32 _)) ?_
   refine l_val rfl rfl rfl (r_move (v := str a0) rfl) ?_
   refine l_val rfl rfl rfl (r_move (v := .int .i64 x5_2) rfl) ?_
   obtain ⟨t19, h_t19, H27⟩ := bnd_some H26; clear H26
   refine l_val rfl rfl rfl (r_octG Tryz.underlying9 rfl rfl h_t19) ?_
   obtain ⟨t20, h_t20, H28⟩ := bnd_some H27; clear H27
   refine l_val rfl rfl rfl (r_convG Tryz.runUnderlying5 Tryz.runUnderlying124 rfl (gK_u32 h_t20)) ?_
   refine l_val rfl rfl rfl (r_addW rfl rfl (wr_u32 _)) ?_
   refine l_val rfl rfl rfl (r_assign (v := .int .u32 (wU32 ((wU32 (x4_3 * 16777619)) + t20))) rfl) ?_
   refine l_nil ?_
   refine c_region ?_
   refine l_val rfl rfl rfl (r_move (v := .int .i64 x5_2) rfl) ?_
   obtain ⟨t14, h_t14, H29⟩ := bnd_some H28; clear H28
   refine l_val rfl rfl rfl (r_addG rfl rfl h_t14) ?_
   refine l_val rfl rfl rfl (r_assign (v := .int .i64 t14) rfl) ?_
   refine l_nil ?_
   refine c_close ((wU32 ((wU32 (x4_3 * 16777619)) + t20)), t14) () m5 [] (by exact ⟨rfl, rfl, rfl, trivial⟩) (by decide) rfl (by exact ⟨(by subst hn5; exact H29), trivial⟩) (Nat.lt_succ_self _)
  ·have H30 := cnd_f hb H25; clear H25
   refine c_exit ?_
   refine c_close x4_3 () 0 [] (by exact ⟨rfl, rfl, trivial⟩) (by decide) rfl (by exact ⟨H30, trivial⟩) (Nat.lt_succ_self _)
 ·rintro x4 _ gg H16 _
  replace H16 : internal_bytealg_hashStr_string_j1 a0 x4 = some r := H16
  refine c_tidyF [(0, str a0), (4, .int .u32 x4)] [] rfl rfl ?_
  refine c_seq ?_
  refine c_region ?_
  refine l_val rfl rfl rfl (r_assign (v := .int .u32 1) rfl) ?_
  refine l_val rfl rfl rfl (r_assign (v := .int .u32 16777619) rfl) ?_
  refine l_nil ?_
  refine c_meet (r := r) (σ := Int) (τ := Unit) (fun s => internal_bytealg_hashStr_string_j2 x4 s) (fun s t => [(4, .int .u32 x4), (6, .int .u32 s)]) (fun s t => []) (fun s t => True) ?_ ?_
  ·refine c_seq ?_
   refine c_region ?_
   refine l_val rfl rfl rfl (r_move (v := str a0) rfl) ?_
   refine l_val rfl rfl rfl (r_lenT Tryz.underlying9 rfl) ?_
   refine l_val rfl rfl rfl (r_assign (v := .int .i64 (a0.length : Int)) rfl) ?_
   refine l_nil ?_
   refine c_block ?_
   refine c_fix (σ := Int × Int × Int) (τ := Unit) (fun next3 s => internal_bytealg_hashStr_string_l3 x4 next3 s.1 s.2.1 s.2.2) (fun s t => [(4, .int .u32 x4), (6, .int .u32 s.1), (7, .int .u32 s.2.1), (8, .int .i64 s.2.2)]) (fun s t => []) (fun s t => True) (1, 16777619, (a0.length : Int)) () [] H16 (by exact trivial) (by exact ⟨rfl, rfl, rfl, rfl, trivial⟩) (by decide) rfl ?_
   rintro ⟨x6_3, x7_2, x8_2⟩ _ m3 gg H18 _
   clear H16
   replace H18 : internal_bytealg_hashStr_string_l3 x4 (it (fun next3 s => internal_bytealg_hashStr_string_l3 x4 next3 s.1 s.2.1 s.2.2) m3) x6_3 x7_2 x8_2 = some r := H18
   generalize hn3 : it (fun next3 s => internal_bytealg_hashStr_string_l3 x4 next3 s.1 s.2.1 s.2.2) m3 = next3 at H18
   refine c_tidyF [(4, .int .u32 x4), (6, .int .u32 x6_3), (7, .int .u32 x7_2), (8, .int .i64 x8_2)] [] rfl rfl ?_
   refine c_seq ?_
   refine c_seq ?_
   refine c_region ?_
   refine l_val rfl rfl rfl (r_move (v := .int .i64 x8_2) rfl) ?_
   refine l_val rfl rfl rfl (r_gtr rfl rfl) ?_
   refine l_nil ?_
   refine c_if (b := (decide (0 < x8_2))) rfl (fun hb => ?_) (fun hb => ?_)
   ·have H19 := cnd_t hb H18; clear H18
    refine c_skip ?_
    refine c_seq ?_
    refine c_block ?_
    refine c_meet (r := r) (σ := Int) (τ := Unit) (fun s => internal_bytealg_hashStr_string_j4 x7_2 x8_2 next3 s) (fun s t => [(4, .int .u32 x4), (6, .int .u32 s), (7, .int .u32 x7_2), (8, .int .i64 x8_2)]) (fun s t => []) (fun s t => True) ?_ ?_
    ·refine c_seq ?_
     refine c_region ?_
     refine l_val rfl rfl rfl (r_move (v := .int .i64 x8_2) rfl) ?_
     refine l_val rfl rfl rfl (r_bitsAnd (bits := 64) rfl rfl rfl (wr_i64 _)) ?_
     refine l_val rfl rfl rfl (r_neq rfl rfl) ?_
     refine l_nil ?_
     refine c_if (b := (decide ((wI64 (bAnd 64 x8_2 1)) ≠ 0))) rfl (fun hb => ?_) (fun hb => ?_)
     ·have H22 := cnd_t hb H19; clear H19
      refine c_region ?_
      refine l_val rfl rfl rfl (r_move (v := .int .u32 x6_3) rfl) ?_
      refine l_val rfl rfl rfl (r_move (v := .int .u32 x7_2) rfl) ?_
      refine l_val rfl rfl rfl (r_mulW rfl rfl (wr_u32 _)) ?_
      refine l_val rfl rfl rfl (r_assign (v := .int .u32 (wU32 (x6_3 * x7_2))) rfl) ?_
      refine l_nil ?_
      refine c_close (wU32 (x6_3 * x7_2)) () 0 [] (by exact ⟨rfl, rfl, rfl, rfl, trivial⟩) (by decide) rfl (by exact ⟨H22, trivial⟩) (Nat.lt_succ_self _)
     ·have H23 := cnd_f hb H19; clear H19
      refine c_skip ?_
      refine c_close x6_3 () 0 [] (by exact ⟨rfl, rfl, rfl, rfl, trivial⟩) (by decide) rfl (by exact ⟨H23, trivial⟩) (Nat.lt_succ_self _)
    ·rintro x6_4 _ gg H20 _
     replace H20 : internal_bytealg_hashStr_string_j4 x7_2 x8_2 next3 x6_4 = some r := H20
     refine c_tidyF [(4, .int .u32 x4), (6, .int .u32 x6_4), (7, .int .u32 x7_2), (8, .int .i64 x8_2)] [] rfl rfl ?_
     refine c_region ?_
     refine l_val rfl rfl rfl (r_move (v := .int .u32 x7_2) rfl) ?_
     refine l_val rfl rfl rfl (r_move (v := .int .u32 x7_2) rfl) ?_
     refine l_val rfl rfl rfl (r_mulW rfl rfl (wr_u32 _)) ?_
     refine l_val rfl rfl rfl (r_assign (v := .int .u32 (wU32 (x7_2 * x7_2))) rfl) ?_
     refine l_nil ?_
     refine c_region ?_
     refine l_val rfl rfl rfl (r_move (v := .int .i64 x8_2) rfl) ?_
     obtain ⟨t27, h_t27, H21⟩ := bnd_some H20; clear H20
     refine l_val rfl rfl rfl (r_shrG rfl rfl rfl h_t27) ?_
     refine l_val rfl rfl rfl (r_assign (v := .int .i64 t27) rfl) ?_
     refine l_nil ?_
     refine c_close (x6_4, (wU32 (x7_2 * x7_2)), t27) () m3 [] (by exact ⟨rfl, rfl, rfl, rfl, trivial⟩) (by decide) rfl (by exact ⟨(by subst hn3; exact H21), trivial⟩) (Nat.lt_succ_self _)
   ·have H24 := cnd_f hb H18; clear H18
    refine c_exit ?_
    refine c_close x6_3 () 0 [] (by exact ⟨rfl, rfl, trivial⟩) (by decide) rfl (by exact ⟨H24, trivial⟩) (Nat.lt_succ_self _)
  ·rintro x6 _ gg H17 _
   replace H17 : internal_bytealg_hashStr_string_j2 x4 x6 = some r := H17
   refine c_tidyF [(4, .int .u32 x4), (6, .int .u32 x6)] [] rfl rfl ?_
   refine c_seq ?_
   refine c_region ?_
   refine l_val rfl rfl rfl (r_move (v := .int .u32 x4) rfl) ?_
   refine l_val rfl rfl rfl (r_move (v := .int .u32 x6) rfl) ?_
   refine l_val rfl rfl rfl (r_assign (v := .int .u32 x4) rfl) ?_
   refine l_val rfl rfl rfl (r_assign (v := .int .u32 x6) rfl) ?_
   refine l_nil ?_
   refine c_ret ?_
   obtain rfl := Option.some.inj H17
   refine ret2 (v1 := .int .u32 x4) (v2 := .int .u32 x6) rfl rfl rfl (fin rfl)
theorem k91 {a0 : (List UInt8)} {a1 : (List UInt8)} {r : Int} (H : internal_bytealg_IndexRabinKarp_string a0 a1 = some r) : Ret Tryz.prog 91 [str a0, str a1] (.int .i64 r) := by
 refine enterRet (n := 81) Tryz.func91 rfl rfl rfl (fun wd => ?_)
 refine c_seq ?_
 refine c_region ?_
 refine l_val rfl rfl rfl (r_assign (v := .int .i64 0) rfl) ?_
 refine l_nil ?_
 refine c_seq ?_
 refine c_region ?_
 refine l_val rfl rfl rfl (r_move (v := str a1) rfl) ?_
 obtain ⟨t13, h_t13, H31⟩ := bnd_some H; clear H
 refine l_call (k107 h_t13) Tryz.call107 rfl rfl rfl ?_
 refine l_val rfl rfl rfl (r_move (v := .tuple #[.int .u32 t13.1, .int .u32 t13.2]) rfl) ?_
 refine l_val rfl rfl rfl (r_extract (v := .int .u32 t13.1) rfl rfl) ?_
 refine l_val rfl rfl rfl (r_extract (v := .int .u32 t13.2) rfl rfl) ?_
 refine l_val rfl rfl rfl (r_assign (v := .int .u32 t13.1) rfl) ?_
 refine l_val rfl rfl rfl (r_assign (v := .int .u32 t13.2) rfl) ?_
 refine l_nil ?_
 refine c_seq ?_
 refine c_region ?_
 refine l_val rfl rfl rfl (r_move (v := str a1) rfl) ?_
 refine l_val rfl rfl rfl (r_lenT Tryz.underlying9 rfl) ?_
 refine l_val rfl rfl rfl (r_assign (v := .int .i64 (a1.length : Int)) rfl) ?_
 refine l_nil ?_
 refine c_seq ?_
 refine c_region ?_
 refine l_val rfl rfl rfl (r_assign (v := .int .u32 0) rfl) ?_
 refine l_nil ?_
 refine c_meet (r := r) (σ := Int) (τ := Unit) (fun s => internal_bytealg_IndexRabinKarp_string_j1 a0 a1 t13 s) (fun s t => [(0, str a0), (1, str a1), (5, .int .u32 t13.1), (6, .int .u32 t13.2), (7, .int .i64 (a1.length : Int)), (8, .int .u32 s)]) (fun s t => []) (fun s t => True) ?_ ?_
 ·refine c_seq ?_
  refine c_region ?_
  refine l_val rfl rfl rfl (r_assign (v := .int .i64 0) rfl) ?_
  refine l_nil ?_
  refine c_block ?_
  refine c_fix (σ := Int × Int) (τ := Unit) (fun next4 s => internal_bytealg_IndexRabinKarp_string_l4 a0 a1 t13 next4 s.1 s.2) (fun s t => [(0, str a0), (1, str a1), (5, .int .u32 t13.1), (6, .int .u32 t13.2), (7, .int .i64 (a1.length : Int)), (8, .int .u32 s.1), (9, .int .i64 s.2)]) (fun s t => []) (fun s t => True) (0, 0) () [] H31 (by exact trivial) (by exact ⟨rfl, rfl, rfl, rfl, rfl, rfl, rfl, trivial⟩) (by decide) rfl ?_
  rintro ⟨x8_5, x9_2⟩ _ m4 gg H55 _
  clear H31
  replace H55 : internal_bytealg_IndexRabinKarp_string_l4 a0 a1 t13 (it (fun next4 s => internal_bytealg_IndexRabinKarp_string_l4 a0 a1 t13 next4 s.1 s.2) m4) x8_5 x9_2 = some r := H55
  generalize hn4 : it (fun next4 s => internal_bytealg_IndexRabinKarp_string_l4 a0 a1 t13 next4 s.1 s.2) m4 = next4 at H55
  refine c_tidyF [(0, str a0), (1, str a1), (5, .int .u32 t13.1), (6, .int .u32 t13.2), (7, .int .i64 (a1.length : Int)), (8, .int .u32 x8_5), (9, .int .i64 x9_2)] [] rfl rfl ?_
  refine c_seq ?_
  refine c_seq ?_
  refine c_region ?_
  refine l_val rfl rfl rfl (r_move (v := .int .i64 x9_2) rfl) ?_
  refine l_val rfl rfl rfl (r_move (v := .int .i64 (a1.length : Int)) rfl) ?_
  refine l_val rfl rfl rfl (r_lss rfl rfl) ?_
  refine l_nil ?_
  refine c_if (b := (decide (x9_2 < (a1.length : Int)))) rfl (fun hb => ?_) (fun hb => ?_)
  ·have H56 := cnd_t hb H55; clear H55
   refine c_skip ?_
   refine c_seq ?_
   refine c_block ?_
   refine c_region ?_
   refine l_val rfl rfl rfl (r_move (v := .int .u32 x8_5) rfl) ?_
   refine l_val rfl rfl rfl (r_mulW rfl rfl (wr_u32 _)) ?_
   refine l_val rfl rfl rfl (r_move (v := str a0) rfl) ?_
   refine l_val rfl rfl rfl (r_move (v := .int .i64 x9_2) rfl) ?_
   obtain ⟨t27, h_t27, H57⟩ := bnd_some H56; clear H56
   refine l_val rfl rfl rfl (r_octG Tryz.underlying9 rfl rfl h_t27) ?_
   obtain ⟨t28, h_t28, H58⟩ := bnd_some H57; clear H57
   refine l_val rfl rfl rfl (r_convG Tryz.runUnderlying5 Tryz.runUnderlying124 rfl (gK_u32 h_t28)) ?_
   refine l_val rfl rfl rfl (r_addW rfl rfl (wr_u32 _)) ?_
   refine l_val rfl rfl rfl (r_assign (v := .int .u32 (wU32 ((wU32 (x8_5 * 16777619)) + t28))) rfl) ?_
   refine l_nil ?_
   refine c_region ?_
   refine l_val rfl rfl rfl (r_move (v := .int .i64 x9_2) rfl) ?_
   obtain ⟨t22, h_t22, H59⟩ := bnd_some H58; clear H58
   refine l_val rfl rfl rfl (r_addG rfl rfl h_t22) ?_
   refine l_val rfl rfl rfl (r_assign (v := .int .i64 t22) rfl) ?_
   refine l_nil ?_
   refine c_close ((wU32 ((wU32 (x8_5 * 16777619)) + t28)), t22) () m4 [] (by exact ⟨rfl, rfl, rfl, rfl, rfl, rfl, rfl, trivial⟩) (by decide) rfl (by exact ⟨(by subst hn4; exact H59), trivial⟩) (Nat.lt_succ_self _)
  ·have H60 := cnd_f hb H55; clear H55
   refine c_exit ?_
   refine c_close x8_5 () 0 [] (by exact ⟨rfl, rfl, rfl, rfl, rfl, rfl, trivial⟩) (by decide) rfl (by exact ⟨H60, trivial⟩) (Nat.lt_succ_self _)
 ·rintro x8 _ gg H32 _
  replace H32 : internal_bytealg_IndexRabinKarp_string_j1 a0 a1 t13 x8 = some r := H32
  refine c_tidyF [(0, str a0), (1, str a1), (5, .int .u32 t13.1), (6, .int .u32 t13.2), (7, .int .i64 (a1.length : Int)), (8, .int .u32 x8)] [] rfl rfl ?_
  refine c_meet (r := r) (σ := Unit) (τ := Unit) (fun s => internal_bytealg_IndexRabinKarp_string_j2 a0 a1 t13 x8) (fun s t => [(0, str a0), (1, str a1), (5, .int .u32 t13.1), (6, .int .u32 t13.2), (7, .int .i64 (a1.length : Int)), (8, .int .u32 x8)]) (fun s t => []) (fun s t => True) ?_ ?_
  ·refine c_seq ?_
   refine c_region ?_
   refine l_val rfl rfl rfl (r_move (v := .int .u32 x8) rfl) ?_
   refine l_val rfl rfl rfl (r_move (v := .int .u32 t13.1) rfl) ?_
   refine l_val rfl rfl rfl (r_eql rfl rfl) ?_
   refine l_val rfl rfl rfl (r_move (v := .bool (decide (x8 = t13.1))) rfl) ?_
   refine split (fun hb => ?_) (fun hb => ?_)
   ·have H50 := cnd_t hb H32; clear H32
    refine l_val rfl rfl rfl (r_move (v := str a0) rfl) ?_
    refine l_val rfl rfl rfl (r_move (v := .int .i64 (a1.length : Int)) rfl) ?_
    obtain ⟨t36, h_t36, H51⟩ := bnd_some H50; clear H50
    refine l_val rfl rfl rfl (r_cutToG Tryz.underlying9 rfl rfl h_t36) ?_
    refine l_val rfl rfl rfl (r_move (v := str a1) rfl) ?_
    refine l_val rfl rfl rfl (r_eqlT rfl rfl) ?_
    refine l_val rfl rfl rfl (r_pickT (v := .bool (decide (t36 = a1))) rfl rfl) ?_
    refine l_nil ?_
    refine c_if (b := (decide (t36 = a1))) rfl (fun hb => ?_) (fun hb => ?_)
    ·have H52 := cnd_t hb H51; clear H51
     refine c_seq ?_
     refine c_region ?_
     refine l_val rfl rfl rfl (r_assign (v := .int .i64 0) rfl) ?_
     refine l_nil ?_
     refine c_ret ?_
     obtain rfl := Option.some.inj H52
     refine ret1 (v := .int .i64 0) rfl rfl (fin rfl)
    ·have H53 := cnd_f hb H51; clear H51
     refine c_skip ?_
     refine c_close () () 0 [] (by exact ⟨rfl, rfl, rfl, rfl, rfl, rfl, trivial⟩) (by decide) rfl (by exact ⟨H53, trivial⟩) (Nat.lt_succ_self _)
   ·have H54 := cnd_f hb H32; clear H32
    refine l_passed rfl rfl rfl ?_
    refine l_passed rfl rfl rfl ?_
    refine l_passed rfl rfl rfl ?_
    refine l_passed rfl rfl rfl ?_
    refine l_passed rfl rfl rfl ?_
    refine l_val rfl rfl rfl (r_pickF (v := .bool false) rfl rfl) ?_
    refine l_nil ?_
    refine c_false rfl ?_
    refine c_skip ?_
    refine c_close () () 0 [] (by exact ⟨rfl, rfl, rfl, rfl, rfl, rfl, trivial⟩) (by decide) rfl (by exact ⟨H54, trivial⟩) (Nat.lt_succ_self _)
  ·rintro _ _ gg H33 _
   replace H33 : internal_bytealg_IndexRabinKarp_string_j2 a0 a1 t13 x8 = some r := H33
   refine c_tidyF [(0, str a0), (1, str a1), (5, .int .u32 t13.1), (6, .int .u32 t13.2), (7, .int .i64 (a1.length : Int)), (8, .int .u32 x8)] [] rfl rfl ?_
   refine c_seq ?_
   refine c_seq ?_
   refine c_region ?_
   refine l_val rfl rfl rfl (r_move (v := .int .i64 (a1.length : Int)) rfl) ?_
   refine l_val rfl rfl rfl (r_assign (v := .int .i64 (a1.length : Int)) rfl) ?_
   refine l_nil ?_
   refine c_block ?_
   refine c_fix (σ := Int × Int) (τ := Unit) (fun next3 s => internal_bytealg_IndexRabinKarp_string_l3 a0 a1 t13 next3 s.1 s.2) (fun s t => [(0, str a0), (1, str a1), (5, .int .u32 t13.1), (6, .int .u32 t13.2), (7, .int .i64 (a1.length : Int)), (8, .int .u32 s.1), (10, .int .i64 s.2)]) (fun s t => []) (fun s t => True) (x8, (a1.length : Int)) () [] H33 (by exact trivial) (by exact ⟨rfl, rfl, rfl, rfl, rfl, rfl, rfl, trivial⟩) (by decide) rfl ?_
   rintro ⟨x8_3, x10_2⟩ _ m3 gg H34 _
   clear H33
   replace H34 : internal_bytealg_IndexRabinKarp_string_l3 a0 a1 t13 (it (fun next3 s => internal_bytealg_IndexRabinKarp_string_l3 a0 a1 t13 next3 s.1 s.2) m3) x8_3 x10_2 = some r := H34
   generalize hn3 : it (fun next3 s => internal_bytealg_IndexRabinKarp_string_l3 a0 a1 t13 next3 s.1 s.2) m3 = next3 at H34
   refine c_tidyF [(0, str a0), (1, str a1), (5, .int .u32 t13.1), (6, .int .u32 t13.2), (7, .int .i64 (a1.length : Int)), (8, .int .u32 x8_3), (10, .int .i64 x10_2)] [] rfl rfl ?_
   refine c_seq ?_
   refine c_seq ?_
   refine c_region ?_
   refine l_val rfl rfl rfl (r_move (v := .int .i64 x10_2) rfl) ?_
   refine l_val rfl rfl rfl (r_move (v := str a0) rfl) ?_
   refine l_val rfl rfl rfl (r_lenT Tryz.underlying9 rfl) ?_
   refine l_val rfl rfl rfl (r_lss rfl rfl) ?_
   refine l_nil ?_
   refine c_if (b := (decide (x10_2 < (a0.length : Int)))) rfl (fun hb => ?_) (fun hb => ?_)
   ·have H35 := cnd_t hb H34; clear H34
    refine c_skip ?_
    refine c_block ?_
    refine c_seq ?_
    refine c_region ?_
    refine l_val rfl rfl rfl (r_move (v := .int .u32 x8_3) rfl) ?_
    refine l_val rfl rfl rfl (r_mulW rfl rfl (wr_u32 _)) ?_
    refine l_val rfl rfl rfl (r_assign (v := .int .u32 (wU32 (x8_3 * 16777619))) rfl) ?_
    refine l_nil ?_
    refine c_seq ?_
    refine c_region ?_
    refine l_val rfl rfl rfl (r_move (v := .int .u32 (wU32 (x8_3 * 16777619))) rfl) ?_
    refine l_val rfl rfl rfl (r_move (v := str a0) rfl) ?_
    refine l_val rfl rfl rfl (r_move (v := .int .i64 x10_2) rfl) ?_
    obtain ⟨t50, h_t50, H36⟩ := bnd_some H35; clear H35
    refine l_val rfl rfl rfl (r_octG Tryz.underlying9 rfl rfl h_t50) ?_
    obtain ⟨t51, h_t51, H37⟩ := bnd_some H36; clear H36
    refine l_val rfl rfl rfl (r_convG Tryz.runUnderlying5 Tryz.runUnderlying124 rfl (gK_u32 h_t51)) ?_
    refine l_val rfl rfl rfl (r_addW rfl rfl (wr_u32 _)) ?_
    refine l_val rfl rfl rfl (r_assign (v := .int .u32 (wU32 ((wU32 (x8_3 * 16777619)) + t51))) rfl) ?_
    refine l_nil ?_
    refine c_seq ?_
    refine c_region ?_
    refine l_val rfl rfl rfl (r_move (v := .int .u32 (wU32 ((wU32 (x8_3 * 16777619)) + t51))) rfl) ?_
    refine l_val rfl rfl rfl (r_move (v := .int .u32 t13.2) rfl) ?_
    refine l_val rfl rfl rfl (r_move (v := str a0) rfl) ?_
    refine l_val rfl rfl rfl (r_move (v := .int .i64 x10_2) rfl) ?_
    refine l_val rfl rfl rfl (r_move (v := .int .i64 (a1.length : Int)) rfl) ?_
    obtain ⟨t58, h_t58, H38⟩ := bnd_some H37; clear H37
    refine l_val rfl rfl rfl (r_subG rfl rfl h_t58) ?_
    obtain ⟨t59, h_t59, H39⟩ := bnd_some H38; clear H38
    refine l_val rfl rfl rfl (r_octG Tryz.underlying9 rfl rfl h_t59) ?_
    obtain ⟨t60, h_t60, H40⟩ := bnd_some H39; clear H39
    refine l_val rfl rfl rfl (r_convG Tryz.runUnderlying5 Tryz.runUnderlying124 rfl (gK_u32 h_t60)) ?_
    refine l_val rfl rfl rfl (r_mulW rfl rfl (wr_u32 _)) ?_
    refine l_val rfl rfl rfl (r_subW rfl rfl (wr_u32 _)) ?_
    refine l_val rfl rfl rfl (r_assign (v := .int .u32 (wU32 ((wU32 ((wU32 (x8_3 * 16777619)) + t51)) - (wU32 (t13.2 * t60))))) rfl) ?_
    refine l_nil ?_
    refine c_seq ?_
    refine c_region ?_
    refine l_val rfl rfl rfl (r_move (v := .int .i64 x10_2) rfl) ?_
    obtain ⟨t64, h_t64, H41⟩ := bnd_some H40; clear H40
    refine l_val rfl rfl rfl (r_addG rfl rfl h_t64) ?_
    refine l_val rfl rfl rfl (r_assign (v := .int .i64 t64) rfl) ?_
    refine l_nil ?_
    refine c_seq ?_
    refine c_region ?_
    refine l_val rfl rfl rfl (r_move (v := .int .u32 (wU32 ((wU32 ((wU32 (x8_3 * 16777619)) + t51)) - (wU32 (t13.2 * t60))))) rfl) ?_
    refine l_val rfl rfl rfl (r_move (v := .int .u32 t13.1) rfl) ?_
    refine l_val rfl rfl rfl (r_eql rfl rfl) ?_
    refine l_val rfl rfl rfl (r_move (v := .bool (decide ((wU32 ((wU32 ((wU32 (x8_3 * 16777619)) + t51)) - (wU32 (t13.2 * t60)))) = t13.1))) rfl) ?_
    refine split (fun hb => ?_) (fun hb => ?_)
    ·have H42 := cnd_t hb H41; clear H41
     refine l_val rfl rfl rfl (r_move (v := str a0) rfl) ?_
     refine l_val rfl rfl rfl (r_move (v := .int .i64 t64) rfl) ?_
     refine l_val rfl rfl rfl (r_move (v := .int .i64 (a1.length : Int)) rfl) ?_
     obtain ⟨t72, h_t72, H43⟩ := bnd_some H42; clear H42
     refine l_val rfl rfl rfl (r_subG rfl rfl h_t72) ?_
     refine l_val rfl rfl rfl (r_move (v := .int .i64 t64) rfl) ?_
     obtain ⟨t74, h_t74, H44⟩ := bnd_some H43; clear H43
     refine l_val rfl rfl rfl (r_cutTG Tryz.underlying9 rfl rfl rfl h_t74) ?_
     refine l_val rfl rfl rfl (r_move (v := str a1) rfl) ?_
     refine l_val rfl rfl rfl (r_eqlT rfl rfl) ?_
     refine l_val rfl rfl rfl (r_pickT (v := .bool (decide (t74 = a1))) rfl rfl) ?_
     refine l_nil ?_
     refine c_if (b := (decide (t74 = a1))) rfl (fun hb => ?_) (fun hb => ?_)
     ·have H45 := cnd_t hb H44; clear H44
      refine c_seq ?_
      refine c_region ?_
      refine l_val rfl rfl rfl (r_move (v := .int .i64 t64) rfl) ?_
      refine l_val rfl rfl rfl (r_move (v := .int .i64 (a1.length : Int)) rfl) ?_
      obtain ⟨t80, h_t80, H46⟩ := bnd_some H45; clear H45
      refine l_val rfl rfl rfl (r_subG rfl rfl h_t80) ?_
      refine l_val rfl rfl rfl (r_assign (v := .int .i64 t80) rfl) ?_
      refine l_nil ?_
      refine c_ret ?_
      obtain rfl := Option.some.inj H46
      refine ret1 (v := .int .i64 t80) rfl rfl (fin rfl)
     ·have H47 := cnd_f hb H44; clear H44
      refine c_skip ?_
      refine c_close ((wU32 ((wU32 ((wU32 (x8_3 * 16777619)) + t51)) - (wU32 (t13.2 * t60)))), t64) () m3 [] (by exact ⟨rfl, rfl, rfl, rfl, rfl, rfl, rfl, trivial⟩) (by decide) rfl (by exact ⟨(by subst hn3; exact H47), trivial⟩) (Nat.lt_succ_self _)
    ·have H48 := cnd_f hb H41; clear H41
     refine l_passed rfl rfl rfl ?_
     refine l_passed rfl rfl rfl ?_
     refine l_passed rfl rfl rfl ?_
     refine l_passed rfl rfl rfl ?_
     refine l_passed rfl rfl rfl ?_
     refine l_passed rfl rfl rfl ?_
     refine l_passed rfl rfl rfl ?_
     refine l_passed rfl rfl rfl ?_
     refine l_val rfl rfl rfl (r_pickF (v := .bool false) rfl rfl) ?_
     refine l_nil ?_
     refine c_false rfl ?_
     refine c_skip ?_
     refine c_close ((wU32 ((wU32 ((wU32 (x8_3 * 16777619)) + t51)) - (wU32 (t13.2 * t60)))), t64) () m3 [] (by exact ⟨rfl, rfl, rfl, rfl, rfl, rfl, rfl, trivial⟩) (by decide) rfl (by exact ⟨(by subst hn3; exact H48), trivial⟩) (Nat.lt_succ_self _)
   ·have H49 := cnd_f hb H34; clear H34
    refine c_exit ?_
    refine c_seq ?_
    refine c_region ?_
    refine l_val rfl rfl rfl (r_assign (v := .int .i64 (-1)) rfl) ?_
    refine l_nil ?_
    refine c_ret ?_
    obtain rfl := Option.some.inj H49
    refine ret1 (v := .int .i64 (-1)) rfl rfl (fin rfl)
theorem k69 {a0 : (List UInt8)} {a1 : (List UInt8)} {r : Int} (H : internal_stringslite_Index a0 a1 = some r) : Ret Tryz.prog 69 [str a0, str a1] (.int .i64 r) := by
 refine enterRet (n := 143) Tryz.func69 rfl rfl rfl (fun wd => ?_)
 refine c_seq ?_
 refine c_region ?_
 refine l_val rfl rfl rfl (r_assign (v := .int .i64 0) rfl) ?_
 refine l_nil ?_
 refine c_seq ?_
 refine c_region ?_
 refine l_val rfl rfl rfl (r_move (v := str a1) rfl) ?_
 refine l_val rfl rfl rfl (r_lenT Tryz.underlying9 rfl) ?_
 refine l_val rfl rfl rfl (r_assign (v := .int .i64 (a1.length : Int)) rfl) ?_
 refine l_nil ?_
 refine c_seq ?_
 refine c_block ?_
 refine c_seq ?_
 refine c_region ?_
 refine l_val rfl rfl rfl (r_move (v := .int .i64 (a1.length : Int)) rfl) ?_
 refine l_val rfl rfl rfl (r_eql rfl rfl) ?_
 refine l_val rfl rfl rfl (r_move (v := .bool (decide ((a1.length : Int) = 0))) rfl) ?_
 refine split (fun hb => ?_) (fun hb => ?_)
 ·have H11 := cnd_t hb H; clear H
  refine l_passed rfl rfl rfl ?_
  refine l_passed rfl rfl rfl ?_
  refine l_passed rfl rfl rfl ?_
  refine l_val rfl rfl rfl (r_pickT (v := .bool true) rfl rfl) ?_
  refine l_val rfl rfl rfl (r_assign (v := .bool true) rfl) ?_
  refine l_nil ?_
  refine c_true rfl ?_
  refine c_seq ?_
  refine c_region ?_
  refine l_val rfl rfl rfl (r_assign (v := .int .i64 0) rfl) ?_
  refine l_nil ?_
  refine c_ret ?_
  obtain rfl := Option.some.inj H11
  refine ret1 (v := .int .i64 0) rfl rfl (fin rfl)
 ·have H12 := cnd_f hb H; clear H
  refine l_val rfl rfl rfl (r_move (v := str a1) rfl) ?_
  refine l_val rfl rfl rfl (r_move (v := str a0) rfl) ?_
  refine l_val rfl rfl rfl (r_eqlT rfl rfl) ?_
  refine l_val rfl rfl rfl (r_pickF (v := .bool (decide (a1 = a0))) rfl rfl) ?_
  refine l_val rfl rfl rfl (r_assign (v := .bool (decide (a1 = a0))) rfl) ?_
  refine l_nil ?_
  refine c_if (b := (decide (a1 = a0))) rfl (fun hb => ?_) (fun hb => ?_)
  ·have H13 := cnd_t hb H12; clear H12
   refine c_seq ?_
   refine c_region ?_
   refine l_val rfl rfl rfl (r_assign (v := .int .i64 0) rfl) ?_
   refine l_nil ?_
   refine c_ret ?_
   obtain rfl := Option.some.inj H13
   refine ret1 (v := .int .i64 0) rfl rfl (fin rfl)
  ·have H14 := cnd_f hb H12; clear H12
   refine c_seq ?_
   refine c_region ?_
   refine l_val rfl rfl rfl (r_move (v := .int .i64 (a1.length : Int)) rfl) ?_
   refine l_val rfl rfl rfl (r_eql rfl rfl) ?_
   refine l_val rfl rfl rfl (r_assign (v := .bool (decide ((a1.length : Int) = 1))) rfl) ?_
   refine l_nil ?_
   refine c_if (b := (decide ((a1.length : Int) = 1))) rfl (fun hb => ?_) (fun hb => ?_)
   ·have H15 := cnd_t hb H14; clear H14
    refine c_seq ?_
    refine c_region ?_
    refine l_val rfl rfl rfl (r_move (v := str a0) rfl) ?_
    refine l_val rfl rfl rfl (r_move (v := str a1) rfl) ?_
    obtain ⟨t29, h_t29, H16⟩ := bnd_some H15; clear H15
    refine l_val rfl rfl rfl (r_octG Tryz.underlying9 rfl rfl h_t29) ?_
    obtain ⟨t30, h_t30, H17⟩ := bnd_some H16; clear H16
    refine l_call (k34 h_t30) Tryz.call34 rfl rfl rfl ?_
    refine l_val rfl rfl rfl (r_assign (v := .int .i64 t30) rfl) ?_
    refine l_nil ?_
    refine c_ret ?_
    obtain rfl := Option.some.inj H17
    refine ret1 (v := .int .i64 t30) rfl rfl (fin rfl)
   ·have H18 := cnd_f hb H14; clear H14
    refine c_seq ?_
    refine c_region ?_
    refine l_val rfl rfl rfl (r_move (v := .int .i64 (a1.length : Int)) rfl) ?_
    refine l_val rfl rfl rfl (r_move (v := str a0) rfl) ?_
    refine l_val rfl rfl rfl (r_lenT Tryz.underlying9 rfl) ?_
    refine l_val rfl rfl rfl (r_geq rfl rfl) ?_
    refine l_val rfl rfl rfl (r_assign (v := .bool (decide ((a0.length : Int) ≤ (a1.length : Int)))) rfl) ?_
    refine l_nil ?_
    refine c_if (b := (decide ((a0.length : Int) ≤ (a1.length : Int)))) rfl (fun hb => ?_) (fun hb => ?_)
    ·have H19 := cnd_t hb H18; clear H18
     refine c_seq ?_
     refine c_region ?_
     refine l_val rfl rfl rfl (r_assign (v := .int .i64 (-1)) rfl) ?_
     refine l_nil ?_
     refine c_ret ?_
     obtain rfl := Option.some.inj H19
     refine ret1 (v := .int .i64 (-1)) rfl rfl (fin rfl)
    ·have H20 := cnd_f hb H18; clear H18
     exact absurd (show (none : Option (Int)) = some r from H20) (fun h => by cases h)
theorem k68 {a0 : (List UInt8)} {a1 : (List UInt8)} {r : Int} (H : strings_Index a0 a1 = some r) : Ret Tryz.prog 68 [str a0, str a1] (.int .i64 r) := by
 refine enterRet (n := 8) Tryz.func68 rfl rfl rfl (fun wd => ?_)
 refine c_seq ?_
 refine c_region ?_
 refine l_val rfl rfl rfl (r_assign (v := .int .i64 0) rfl) ?_
 refine l_nil ?_
 refine c_seq ?_
 refine c_region ?_
 refine l_val rfl rfl rfl (r_move (v := str a0) rfl) ?_
 refine l_val rfl rfl rfl (r_move (v := str a1) rfl) ?_
 obtain ⟨t7, h_t7, H2⟩ := bnd_some H; clear H
 refine l_call (k69 h_t7) Tryz.call69 rfl rfl rfl ?_
 refine l_val rfl rfl rfl (r_assign (v := .int .i64 t7) rfl) ?_
 refine l_nil ?_
 refine c_ret ?_
 obtain rfl := Option.some.inj H2
 refine ret1 (v := .int .i64 t7) rfl rfl (fin rfl)
theorem ext88 (s : List UInt8) (c r : Int) (h : gCnB s c = some r) (w : World) : (callFunc 88 (List.toArray [str s, .int .u8 c])).run Tryz.prog w = .ok (.value (.int .i64 r)) w := by
  have h0 : (callFunc 88 #[str s, .int .u8 c]).run Tryz.prog w = (do pure (.value (← Extern.BytealgCount.count #[str s, .int .u8 c])) : Sem Next).run Tryz.prog w := by kernel_rfl
  rw [h0]
  simp only [Sem.run_bind, Go.Lx.run_cnB h, Result.andThen_ok, Sem.run_pure]

theorem k67 {a0 : (List UInt8)} {a1 : (List UInt8)} {r : Int} (H : strings_Count a0 a1 = some r) : Ret Tryz.prog 67 [str a0, str a1] (.int .i64 r) := by
 refine enterRet (n := 34) Tryz.func67 rfl rfl rfl (fun wd => ?_)
 refine c_seq ?_
 refine c_region ?_
 refine l_val rfl rfl rfl (r_assign (v := .int .i64 0) rfl) ?_
 refine l_nil ?_
 refine c_seq ?_
 refine c_seq ?_
 refine c_region ?_
 refine l_val rfl rfl rfl (r_move (v := str a1) rfl) ?_
 refine l_val rfl rfl rfl (r_lenT Tryz.underlying9 rfl) ?_
 refine l_val rfl rfl rfl (r_eql rfl rfl) ?_
 refine l_nil ?_
 refine c_if (b := (decide ((a1.length : Int) = 0))) rfl (fun hb => ?_) (fun hb => ?_)
 ·have H16 := cnd_t hb H; clear H
  refine c_seq ?_
  refine c_region ?_
  refine l_val rfl rfl rfl (r_move (v := str a0) rfl) ?_
  obtain ⟨t11, h_t11, H17⟩ := bnd_some H16; clear H16
  refine l_call (k86 h_t11) Tryz.call86 rfl rfl rfl ?_
  obtain ⟨t12, h_t12, H18⟩ := bnd_some H17; clear H17
  refine l_val rfl rfl rfl (r_addG rfl rfl h_t12) ?_
  refine l_val rfl rfl rfl (r_assign (v := .int .i64 t12) rfl) ?_
  refine l_nil ?_
  refine c_ret ?_
  obtain rfl := Option.some.inj H18
  refine ret1 (v := .int .i64 t12) rfl rfl (fin rfl)
 ·have H19 := cnd_f hb H; clear H
  refine c_skip ?_
  refine c_seq ?_
  refine c_seq ?_
  refine c_region ?_
  refine l_val rfl rfl rfl (r_move (v := str a1) rfl) ?_
  refine l_val rfl rfl rfl (r_lenT Tryz.underlying9 rfl) ?_
  refine l_val rfl rfl rfl (r_eql rfl rfl) ?_
  refine l_nil ?_
  refine c_if (b := (decide ((a1.length : Int) = 1))) rfl (fun hb => ?_) (fun hb => ?_)
  ·have H20 := cnd_t hb H19; clear H19
   refine c_seq ?_
   refine c_region ?_
   refine l_val rfl rfl rfl (r_move (v := str a0) rfl) ?_
   refine l_val rfl rfl rfl (r_move (v := str a1) rfl) ?_
   obtain ⟨t18, h_t18, H21⟩ := bnd_some H20; clear H20
   refine l_val rfl rfl rfl (r_octG Tryz.underlying9 rfl rfl h_t18) ?_
   obtain ⟨t19, h_t19, H22⟩ := bnd_some H21; clear H21
   refine l_val rfl rfl rfl (r_ext (args := [str a0, .int .u8 t18]) (ext88 _ _ _ h_t19) rfl) ?_
   refine l_val rfl rfl rfl (r_assign (v := .int .i64 t19) rfl) ?_
   refine l_nil ?_
   refine c_ret ?_
   obtain rfl := Option.some.inj H22
   refine ret1 (v := .int .i64 t19) rfl rfl (fin rfl)
  ·have H23 := cnd_f hb H19; clear H19
   refine c_skip ?_
   refine c_seq ?_
   refine c_region ?_
   refine l_val rfl rfl rfl (r_assign (v := .int .i64 0) rfl) ?_
   refine l_nil ?_
   refine c_block ?_
   refine c_fix (σ := (List UInt8) × Int) (τ := Unit) (fun next1 s => strings_Count_l1 a1 next1 s.1 s.2) (fun s t => [(0, str s.1), (1, str a1), (5, .int .i64 s.2)]) (fun s t => []) (fun s t => True) (a0, 0) () [] H23 (by exact trivial) (by exact ⟨rfl, rfl, rfl, trivial⟩) (by decide) rfl ?_
   rintro ⟨x0_2, x5_2⟩ _ m1 gg H24 _
   clear H23
   replace H24 : strings_Count_l1 a1 (it (fun next1 s => strings_Count_l1 a1 next1 s.1 s.2) m1) x0_2 x5_2 = some r := H24
   generalize hn1 : it (fun next1 s => strings_Count_l1 a1 next1 s.1 s.2) m1 = next1 at H24
   refine c_tidyF [(0, str x0_2), (1, str a1), (5, .int .i64 x5_2)] [] rfl rfl ?_
   refine c_block ?_
   refine c_seq ?_
   refine c_region ?_
   refine l_val rfl rfl rfl (r_move (v := str x0_2) rfl) ?_
   refine l_val rfl rfl rfl (r_move (v := str a1) rfl) ?_
   obtain ⟨t22, h_t22, H25⟩ := bnd_some H24; clear H24
   refine l_call (k68 h_t22) Tryz.call68 rfl rfl rfl ?_
   refine l_val rfl rfl rfl (r_assign (v := .int .i64 t22) rfl) ?_
   refine l_nil ?_
   refine c_seq ?_
   refine c_seq ?_
   refine c_region ?_
   refine l_val rfl rfl rfl (r_move (v := .int .i64 t22) rfl) ?_
   refine l_val rfl rfl rfl (r_eql rfl rfl) ?_
   refine l_nil ?_
   refine c_if (b := (decide (t22 = (-1)))) rfl (fun hb => ?_) (fun hb => ?_)
   ·have H26 := cnd_t hb H25; clear H25
    refine c_seq ?_
    refine c_region ?_
    refine l_val rfl rfl rfl (r_move (v := .int .i64 x5_2) rfl) ?_
    refine l_val rfl rfl rfl (r_assign (v := .int .i64 x5_2) rfl) ?_
    refine l_nil ?_
    refine c_ret ?_
    obtain rfl := Option.some.inj H26
    refine ret1 (v := .int .i64 x5_2) rfl rfl (fin rfl)
   ·have H27 := cnd_f hb H25; clear H25
    refine c_skip ?_
    refine c_seq ?_
    refine c_region ?_
    refine l_val rfl rfl rfl (r_move (v := .int .i64 x5_2) rfl) ?_
    obtain ⟨t27, h_t27, H28⟩ := bnd_some H27; clear H27
    refine l_val rfl rfl rfl (r_addG rfl rfl h_t27) ?_
    refine l_val rfl rfl rfl (r_assign (v := .int .i64 t27) rfl) ?_
    refine l_nil ?_
    refine c_region ?_
    refine l_val rfl rfl rfl (r_move (v := str x0_2) rfl) ?_
    refine l_val rfl rfl rfl (r_move (v := .int .i64 t22) rfl) ?_
    refine l_val rfl rfl rfl (r_move (v := str a1) rfl) ?_
    refine l_val rfl rfl rfl (r_lenT Tryz.underlying9 rfl) ?_
    obtain ⟨t32, h_t32, H29⟩ := bnd_some H28; clear H28
    refine l_val rfl rfl rfl (r_addG rfl rfl h_t32) ?_
    obtain ⟨t33, h_t33, H30⟩ := bnd_some H29; clear H29
    refine l_val rfl rfl rfl (r_cutFromG Tryz.underlying9 rfl rfl h_t33) ?_
    refine l_val rfl rfl rfl (r_assign (v := str t33) rfl) ?_
    refine l_nil ?_
    refine c_close (t33, t27) () m1 [] (by exact ⟨rfl, rfl, rfl, trivial⟩) (by decide) rfl (by exact ⟨(by subst hn1; exact H30), trivial⟩) (Nat.lt_succ_self _)
theorem k46 {a0 : (List UInt8)} {a1 : (List UInt8)} {a2 : Int} {a3 : Int} {r : (List (List UInt8))} {w : World} {h : Heap} (hw : Know h w noS) (H : strings_genSplit a0 a1 a2 a3 = some r) : Does Tryz.prog 46 (List.toArray [str a0, str a1, .int .i64 a2, .int .i64 a3]) w (fun v w' => ∃ x : (Option Addr × Nat), v = (.slice x.1 r.length x.2) ∧ Turn w w' noS (rowV 9 1 (.slice x.1 r.length x.2) r.length (r.map e_string))) := by
 refine enter (n := 66) Tryz.func46 rfl rfl rfl noS [] (Sat.nil _ _) ?_
 refine c_seq ?_
 refine c_region ?_
 refine l_val rfl rfl rfl (r_assign (v := .slice none 0 0) rfl) ?_
 refine l_nil ?_
 refine c_seq ?_
 refine c_seq ?_
 refine c_region ?_
 refine l_val rfl rfl rfl (r_move (v := .int .i64 a3) rfl) ?_
 refine l_val rfl rfl rfl (r_eql rfl rfl) ?_
 refine l_nil ?_
 refine c_if (b := (decide (a3 = 0))) rfl (fun hb => ?_) (fun hb => ?_)
 ·have H32 := cnd_t hb H; clear H
  refine c_seq ?_
  refine c_region ?_
  refine l_val rfl rfl rfl (r_assign (v := .slice none 0 0) rfl) ?_
  refine l_nil ?_
  refine c_ret ?_
  refine c_nilRow 9 1 ?_
  obtain rfl := Option.some.inj H32
  refine ret1 (v := .slice ((none, 0) : Option Addr × Nat).1 ([] : List (List UInt8)).length ((none, 0) : Option Addr × Nat).2) rfl rfl (finX ((none, 0) : Option Addr × Nat) (i := 0) rfl rfl (Imp.refl _))
 ·have H33 := cnd_f hb H; clear H
  refine c_skip ?_
  refine c_seq ?_
  refine c_seq ?_
  refine c_region ?_
  refine l_val rfl rfl rfl (r_move (v := str a1) rfl) ?_
  refine l_val rfl rfl rfl (r_eqlT rfl rfl) ?_
  refine l_nil ?_
  refine c_if (b := (decide (a1 = []))) rfl (fun hb => ?_) (fun hb => ?_)
  ·have H34 := cnd_t hb H33; clear H33
   refine c_seq ?_
   refine c_region ?_
   refine l_val rfl rfl rfl (r_move (v := str a0) rfl) ?_
   refine l_val rfl rfl rfl (r_move (v := .int .i64 a3) rfl) ?_
   obtain ⟨t18, h_t18, H35⟩ := bnd_some H34; clear H34
   refine l_make (makes_call (rds := []) (G := fun x : (Option Addr × Nat) => .slice x.1 t18.length x.2) (C := fun x : (Option Addr × Nat) => rowV 9 1 (.slice x.1 t18.length x.2) t18.length (t18.map e_string)) (fun w L' hF hS hi => k66 (know_all w)  h_t18) Tryz.call66 rfl) rfl rfl rfl (fun p => ?_)
   refine l_val rfl rfl rfl (r_assign (v := .slice p.1 t18.length p.2) rfl) ?_
   refine l_nil ?_
   refine c_ret ?_
   obtain rfl := Option.some.inj H35
   refine ret1 (v := .slice p.1 t18.length p.2) rfl rfl (finX p (i := 0) rfl rfl (Imp.refl _))
  ·have H36 := cnd_f hb H33; clear H33
   refine c_skip ?_
   refine c_meet (r := r) (σ := Int) (τ := Unit) (fun s => strings_genSplit_j1 a0 a1 a2 s) (fun s t => [(0, str a0), (1, str a1), (2, .int .i64 a2), (3, .int .i64 s)]) (fun s t => []) (fun s t => True) ?_ ?_
   ·refine c_seq ?_
    refine c_region ?_
    refine l_val rfl rfl rfl (r_move (v := .int .i64 a3) rfl) ?_
    refine l_val rfl rfl rfl (r_lss rfl rfl) ?_
    refine l_nil ?_
    refine c_if (b := (decide (a3 < 0))) rfl (fun hb => ?_) (fun hb => ?_)
    ·have H59 := cnd_t hb H36; clear H36
     refine c_region ?_
     refine l_val rfl rfl rfl (r_move (v := str a0) rfl) ?_
     refine l_val rfl rfl rfl (r_move (v := str a1) rfl) ?_
     obtain ⟨t23, h_t23, H60⟩ := bnd_some H59; clear H59
     refine l_call (k67 h_t23) Tryz.call67 rfl rfl rfl ?_
     obtain ⟨t24, h_t24, H61⟩ := bnd_some H60; clear H60
     refine l_val rfl rfl rfl (r_addG rfl rfl h_t24) ?_
     refine l_val rfl rfl rfl (r_assign (v := .int .i64 t24) rfl) ?_
     refine l_nil ?_
     refine c_close t24 () 0 [] (by exact ⟨rfl, rfl, rfl, rfl, trivial⟩) (by decide) rfl (by exact ⟨H61, trivial⟩) (Nat.lt_succ_self _)
    ·have H62 := cnd_f hb H36; clear H36
     refine c_skip ?_
     refine c_close a3 () 0 [] (by exact ⟨rfl, rfl, rfl, rfl, trivial⟩) (by decide) rfl (by exact ⟨H62, trivial⟩) (Nat.lt_succ_self _)
   ·rintro x3 _ gg H37 _
    replace H37 : strings_genSplit_j1 a0 a1 a2 x3 = some r := H37
    refine c_tidyF [(0, str a0), (1, str a1), (2, .int .i64 a2), (3, .int .i64 x3)] [] rfl rfl ?_
    refine c_seq ?_
    refine c_region ?_
    refine l_val rfl rfl rfl (r_move (v := .int .i64 x3) rfl) ?_
    refine l_val rfl rfl rfl (r_move (v := str a0) rfl) ?_
    refine l_val rfl rfl rfl (r_lenT Tryz.underlying9 rfl) ?_
    obtain ⟨t28, h_t28, H38⟩ := bnd_some H37; clear H37
    refine l_val rfl rfl rfl (r_addG rfl rfl h_t28) ?_
    refine l_val rfl rfl rfl (r_min rfl rfl) ?_
    refine l_val rfl rfl rfl (r_assign (v := .int .i64 (min x3 t28)) rfl) ?_
    refine l_nil ?_
    refine c_seq ?_
    refine c_region ?_
    refine l_val rfl rfl rfl (r_move (v := .int .i64 (min x3 t28)) rfl) ?_
    obtain ⟨t31, h_t31, H39⟩ := bnd_some H38; clear H38
    refine l_make (rds := []) (makes_makeG (E := 9) (sz := 1) (f := e_string) (xs := t31) Tryz.underlying33 (info_of Tryz.typeInfo9) rfl rfl rfl rfl rfl rfl ⟨rfl, rfl⟩ h_t31) rfl rfl rfl (fun p_2 => ?_)
    refine l_val rfl rfl rfl (r_assign (v := .slice p_2.1 t31.length p_2.2) rfl) ?_
    refine l_nil ?_
    refine c_seq ?_
    refine c_region ?_
    refine l_val rfl rfl rfl (r_move (v := .int .i64 (min x3 t28)) rfl) ?_
    obtain ⟨t33, h_t33, H40⟩ := bnd_some H39; clear H39
    refine l_val rfl rfl rfl (r_subG rfl rfl h_t33) ?_
    refine l_val rfl rfl rfl (r_assign (v := .int .i64 t33) rfl) ?_
    refine l_nil ?_
    refine c_seq ?_
    refine c_region ?_
    refine l_val rfl rfl rfl (r_assign (v := .int .i64 0) rfl) ?_
    refine l_nil ?_
    refine c_meet (r := r) (σ := (List UInt8) × Int × (List (List UInt8))) (τ := Unit) (fun s => strings_genSplit_j2 s.1 s.2.1 s.2.2) (fun s t => [(0, str s.1), (9, .slice p_2.1 t31.length p_2.2), (10, .int .i64 s.2.1)]) (fun s t => [rowV 9 1 (.slice p_2.1 t31.length p_2.2) t31.length (s.2.2.map e_string)]) (fun s t => t31.length = s.2.2.length) ?_ ?_
    ·refine c_block ?_
     refine c_fix (σ := (List UInt8) × Int × (List (List UInt8))) (τ := Unit) (fun next3 s => strings_genSplit_l3 a1 a2 t33 next3 s.1 s.2.1 s.2.2) (fun s t => [(0, str s.1), (1, str a1), (2, .int .i64 a2), (3, .int .i64 t33), (9, .slice p_2.1 t31.length p_2.2), (10, .int .i64 s.2.1)]) (fun s t => [rowV 9 1 (.slice p_2.1 t31.length p_2.2) t31.length (s.2.2.map e_string)]) (fun s t => t31.length = s.2.2.length) (a0, 0, t31) () [0] H40 (by exact rfl) (by exact ⟨rfl, rfl, rfl, rfl, rfl, rfl, trivial⟩) (by decide) rfl ?_
     rintro ⟨x0_3, x10_3, l_3⟩ _ m3 gg H46 hl_3
     clear H40
     replace H46 : strings_genSplit_l3 a1 a2 t33 (it (fun next3 s => strings_genSplit_l3 a1 a2 t33 next3 s.1 s.2.1 s.2.2) m3) x0_3 x10_3 l_3 = some r := H46
     generalize hn3 : it (fun next3 s => strings_genSplit_l3 a1 a2 t33 next3 s.1 s.2.1 s.2.2) m3 = next3 at H46
     refine c_tidyF [(0, str x0_3), (1, str a1), (2, .int .i64 a2), (3, .int .i64 t33), (9, .slice p_2.1 t31.length p_2.2), (10, .int .i64 x10_3)] [rowV 9 1 (.slice p_2.1 t31.length p_2.2) t31.length (l_3.map e_string)] rfl rfl ?_
     refine c_seq ?_
     refine c_seq ?_
     refine c_region ?_
     refine l_val rfl rfl rfl (r_move (v := .int .i64 x10_3) rfl) ?_
     refine l_val rfl rfl rfl (r_move (v := .int .i64 t33) rfl) ?_
     refine l_val rfl rfl rfl (r_lss rfl rfl) ?_
     refine l_nil ?_
     refine c_if (b := (decide (x10_3 < t33))) rfl (fun hb => ?_) (fun hb => ?_)
     ·have H47 := cnd_t hb H46; clear H46
      refine c_skip ?_
      refine c_block ?_
      refine c_seq ?_
      refine c_region ?_
      refine l_val rfl rfl rfl (r_move (v := str x0_3) rfl) ?_
      refine l_val rfl rfl rfl (r_move (v := str a1) rfl) ?_
      obtain ⟨t39, h_t39, H48⟩ := bnd_some H47; clear H47
      refine l_call (k68 h_t39) Tryz.call68 rfl rfl rfl ?_
      refine l_val rfl rfl rfl (r_assign (v := .int .i64 t39) rfl) ?_
      refine l_nil ?_
      refine c_seq ?_
      refine c_seq ?_
      refine c_region ?_
      refine l_val rfl rfl rfl (r_move (v := .int .i64 t39) rfl) ?_
      refine l_val rfl rfl rfl (r_lss rfl rfl) ?_
      refine l_nil ?_
      refine c_if (b := (decide (t39 < 0))) rfl (fun hb => ?_) (fun hb => ?_)
      ·have H49 := cnd_t hb H48; clear H48
       refine c_exit ?_
       refine c_close (x0_3, x10_3, l_3) () 0 [0] (by exact ⟨rfl, rfl, rfl, trivial⟩) (by decide) rfl (by exact ⟨H49, hl_3⟩) (Nat.lt_succ_self _)
      ·have H50 := cnd_f hb H48; clear H48
       refine c_skip ?_
       refine c_seq ?_
       refine c_region ?_
       refine l_val rfl rfl rfl (r_move (v := .slice p_2.1 t31.length p_2.2) rfl) ?_
       refine l_val rfl rfl rfl (r_move (v := .int .i64 x10_3) rfl) ?_
       refine l_val rfl rfl rfl (r_move (v := str x0_3) rfl) ?_
       refine l_val rfl rfl rfl (r_move (v := .int .i64 t39) rfl) ?_
       refine l_val rfl rfl rfl (r_move (v := .int .i64 a2) rfl) ?_
       obtain ⟨t47, h_t47, H51⟩ := bnd_some H50; clear H50
       refine l_val rfl rfl rfl (r_addG rfl rfl h_t47) ?_
       obtain ⟨t48, h_t48, H52⟩ := bnd_some H51; clear H51
       refine l_val rfl rfl rfl (r_cutToG Tryz.underlying9 rfl rfl h_t48) ?_
       obtain ⟨t49, h_t49, H53⟩ := bnd_some H52; clear H52
       refine l_read (fun w hF hS => run_indexO Tryz.underlying33 Tryz.sizeOf9 rfl rfl (rowOf (i := 0) hS rfl) hl_3 h_t49) rfl rfl rfl ?_
       obtain ⟨l0_2, h_l0_2, H54⟩ := bnd_some H53; clear H53
       refine l_storeG (q := 0) (j := 0) (i := x10_3) (sz := 1) (hm := hl_3) (f := e_string) (vs := [str t48]) Tryz.sizeOf9 rfl rfl rfl rfl rfl rfl rfl rfl rfl (fun y_ hy_ => by first | rfl | (cases hy_.symm.trans h_t49; rfl)) h_l0_2 ?_
       refine l_nil ?_
       refine c_seq ?_
       refine c_region ?_
       refine l_val rfl rfl rfl (r_move (v := str x0_3) rfl) ?_
       refine l_val rfl rfl rfl (r_move (v := .int .i64 t39) rfl) ?_
       refine l_val rfl rfl rfl (r_move (v := str a1) rfl) ?_
       refine l_val rfl rfl rfl (r_lenT Tryz.underlying9 rfl) ?_
       obtain ⟨t54, h_t54, H55⟩ := bnd_some H54; clear H54
       refine l_val rfl rfl rfl (r_addG rfl rfl h_t54) ?_
       obtain ⟨t55, h_t55, H56⟩ := bnd_some H55; clear H55
       refine l_val rfl rfl rfl (r_cutFromG Tryz.underlying9 rfl rfl h_t55) ?_
       refine l_val rfl rfl rfl (r_assign (v := str t55) rfl) ?_
       refine l_nil ?_
       refine c_region ?_
       refine l_val rfl rfl rfl (r_move (v := .int .i64 x10_3) rfl) ?_
       obtain ⟨t57, h_t57, H57⟩ := bnd_some H56; clear H56
       refine l_val rfl rfl rfl (r_addG rfl rfl h_t57) ?_
       refine l_val rfl rfl rfl (r_assign (v := .int .i64 t57) rfl) ?_
       refine l_nil ?_
       refine c_close (t55, t57, l0_2) () m3 [0] (by exact ⟨rfl, rfl, rfl, rfl, rfl, rfl, trivial⟩) (by decide) rfl (by exact ⟨(by subst hn3; exact H57), (gSet_n hl_3 h_l0_2)⟩) (Nat.lt_succ_self _)
     ·have H58 := cnd_f hb H46; clear H46
      refine c_exit ?_
      refine c_close (x0_3, x10_3, l_3) () 0 [0] (by exact ⟨rfl, rfl, rfl, trivial⟩) (by decide) rfl (by exact ⟨H58, hl_3⟩) (Nat.lt_succ_self _)
    ·rintro ⟨x0, x10, l⟩ _ gg H41 hl
     replace H41 : strings_genSplit_j2 x0 x10 l = some r := H41
     refine c_tidyF [(0, str x0), (9, .slice p_2.1 t31.length p_2.2), (10, .int .i64 x10)] [rowV 9 1 (.slice p_2.1 t31.length p_2.2) t31.length (l.map e_string)] rfl rfl ?_
     refine c_seq ?_
     refine c_region ?_
     refine l_val rfl rfl rfl (r_move (v := .slice p_2.1 t31.length p_2.2) rfl) ?_
     refine l_val rfl rfl rfl (r_move (v := .int .i64 x10) rfl) ?_
     refine l_val rfl rfl rfl (r_move (v := str x0) rfl) ?_
     obtain ⟨t61, h_t61, H42⟩ := bnd_some H41; clear H41
     refine l_read (fun w hF hS => run_indexO Tryz.underlying33 Tryz.sizeOf9 rfl rfl (rowOf (i := 0) hS rfl) hl h_t61) rfl rfl rfl ?_
     obtain ⟨l0, h_l0, H43⟩ := bnd_some H42; clear H42
     refine l_storeG (q := 0) (j := 0) (i := x10) (sz := 1) (hm := hl) (f := e_string) (vs := [str x0]) Tryz.sizeOf9 rfl rfl rfl rfl rfl rfl rfl rfl rfl (fun y_ hy_ => by first | rfl | (cases hy_.symm.trans h_t61; rfl)) h_l0 ?_
     refine l_nil ?_
     refine c_seq ?_
     refine c_region ?_
     refine l_val rfl rfl rfl (r_move (v := .slice p_2.1 t31.length p_2.2) rfl) ?_
     refine l_val rfl rfl rfl (r_move (v := .int .i64 x10) rfl) ?_
     obtain ⟨t64, h_t64, H44⟩ := bnd_some H43; clear H43
     refine l_val rfl rfl rfl (r_addG rfl rfl h_t64) ?_
     obtain ⟨t65, h_t65, H45⟩ := bnd_some H44; clear H44
     refine l_read (v := .slice p_2.1 t65.length p_2.2) (fun w hF hS => run_sliceHO0 (xs := l0) Tryz.underlying33 Tryz.sizeOf9 rfl rfl (gSet_n hl h_l0) (capOf (i := 0) hS rfl) h_t65) rfl rfl rfl ?_
     refine l_val rfl rfl rfl (r_assign (v := .slice p_2.1 t65.length p_2.2) rfl) ?_
     refine l_nil ?_
     refine c_ret ?_
     refine c_imp 0 rfl (imp_shrink (gSet_n hl h_l0) h_t65) ?_
     obtain rfl := Option.some.inj H45
     refine c_imp 0 rfl (imp_rowC _ _ _ _ _ _) ?_
     refine ret1 (v := .slice p_2.1 t65.length p_2.2) rfl rfl (finX p_2 (i := 0) rfl rfl (Imp.refl _))
theorem k24 {a0 : (List UInt8)} {a1 : (List UInt8)} {r : (List (List UInt8))} {w : World} {h : Heap} (hw : Know h w noS) (H : strings_Split a0 a1 = some r) : Does Tryz.prog 24 (List.toArray [str a0, str a1]) w (fun v w' => ∃ x : (Option Addr × Nat), v = (.slice x.1 r.length x.2) ∧ Turn w w' noS (rowV 9 1 (.slice x.1 r.length x.2) r.length (r.map e_string))) := by
 refine enter (n := 8) Tryz.func24 rfl rfl rfl noS [] (Sat.nil _ _) ?_
 refine c_seq ?_
 refine c_region ?_
 refine l_val rfl rfl rfl (r_assign (v := .slice none 0 0) rfl) ?_
 refine l_nil ?_
 refine c_seq ?_
 refine c_region ?_
 refine l_val rfl rfl rfl (r_move (v := str a0) rfl) ?_
 refine l_val rfl rfl rfl (r_move (v := str a1) rfl) ?_
 obtain ⟨t7, h_t7, H2⟩ := bnd_some H; clear H
 refine l_make (makes_call (rds := []) (G := fun x : (Option Addr × Nat) => .slice x.1 t7.length x.2) (C := fun x : (Option Addr × Nat) => rowV 9 1 (.slice x.1 t7.length x.2) t7.length (t7.map e_string)) (fun w L' hF hS hi => k46 (know_all w)  h_t7) Tryz.call46 rfl) rfl rfl rfl (fun p => ?_)
 refine l_val rfl rfl rfl (r_assign (v := .slice p.1 t7.length p.2) rfl) ?_
 refine l_nil ?_
 refine c_ret ?_
 obtain rfl := Option.some.inj H2
 refine ret1 (v := .slice p.1 t7.length p.2) rfl rfl (finX p (i := 0) rfl rfl (Imp.refl _))
theorem k25 {a0 : (List UInt8)} {r : Int} (H : tag_kindOf a0 = some r) : Ret Tryz.prog 25 [str a0] (.int .i64 r) := by
 refine enterRet (n := 17) Tryz.func25 rfl rfl rfl (fun wd => ?_)
 refine c_seq ?_
 refine c_region ?_
 refine l_val rfl rfl rfl (r_assign (v := .int .i64 0) rfl) ?_
 refine l_nil ?_
 refine c_seq ?_
 refine c_seq ?_
 refine c_region ?_
 refine l_buildSlice (vs := [.int .i64 1, .int .i64 2, .int .i64 3, .int .i64 4, .int .i64 5, .int .i64 7, .int .i64 9]) (cs := [.int .i64 1, .int .i64 2, .int .i64 3, .int .i64 4, .int .i64 5, .int .i64 7, .int .i64 9]) Tryz.underlying22 Tryz.sizeOf3 Tryz.zeroValue3 rfl rfl rfl rfl rfl rfl rfl (fun b1 => ?_)
 refine l_val rfl rfl rfl (r_len Tryz.underlying22 rfl) ?_
 refine l_val rfl rfl rfl (r_move (v := .int .i64 0) rfl) ?_
 refine l_nil ?_
 refine c_block ?_
 refine c_fix (σ := Int) (τ := Unit) (fun next1 s => tag_kindOf_l1 a0 next1 s) (fun s t => [(0, str a0), (5, .slice (some ⟨b1, 0, none⟩) 7 7), (6, .int .i64 7), (7, .int .i64 s)]) (fun s t => [cellsC b1 [.int .i64 1, .int .i64 2, .int .i64 3, .int .i64 4, .int .i64 5, .int .i64 7, .int .i64 9] 3]) (fun s t => True) 0 () [0] H (by exact trivial) (by exact ⟨rfl, rfl, rfl, rfl, trivial⟩) (by decide) rfl ?_
 rintro x7_2 _ m1 gg H9 _
 clear H
 replace H9 : tag_kindOf_l1 a0 (it (fun next1 s => tag_kindOf_l1 a0 next1 s) m1) x7_2 = some r := H9
 generalize hn1 : it (fun next1 s => tag_kindOf_l1 a0 next1 s) m1 = next1 at H9
 refine c_tidyF [(0, str a0), (5, .slice (some ⟨b1, 0, none⟩) 7 7), (6, .int .i64 7), (7, .int .i64 x7_2)] [cellsC b1 [.int .i64 1, .int .i64 2, .int .i64 3, .int .i64 4, .int .i64 5, .int .i64 7, .int .i64 9] 3] rfl rfl ?_
 refine c_seq ?_
 refine c_region ?_
 refine l_val rfl rfl rfl (r_lss rfl rfl) ?_
 refine l_nil ?_
 refine c_seq ?_
 refine c_if (b := (decide (x7_2 < 7))) rfl (fun hb => ?_) (fun hb => ?_)
 ·have H10 := cnd_t hb H9; clear H9
  refine c_skip ?_
  refine c_seq ?_
  refine c_block ?_
  refine c_seq ?_
  refine c_region ?_
  obtain ⟨t9, h_t9, H11⟩ := bnd_some H10; clear H10
  refine l_val rfl rfl rfl (r_indexS Tryz.underlying22 Tryz.sizeOf3 rfl rfl h_t9 rfl) ?_
  refine l_read (fun w hF hS => run_loadG1 (f := e_i64) (i := x7_2) (sz := 1) (j := 0) (v := .int .i64 t9) Tryz.isAgg3 rfl rfl (row_box (sz := 1) (xs := ([1, 2, 3, 4, 5, 7, 9] : List Int).map e_i64) (i := 0) hS rfl rfl rfl) h_t9 rfl) rfl rfl rfl ?_
  refine l_val rfl rfl rfl (r_assign (v := .int .i64 t9) rfl) ?_
  refine l_nil ?_
  refine c_seq ?_
  refine c_region ?_
  refine l_val rfl rfl rfl (r_move (v := .int .i64 t9) rfl) ?_
  obtain ⟨t12, h_t12, H12⟩ := bnd_some H11; clear H11
  refine l_call (k44 h_t12) Tryz.call44 rfl rfl rfl ?_
  refine l_val rfl rfl rfl (r_move (v := str a0) rfl) ?_
  refine l_val rfl rfl rfl (r_eqlT rfl rfl) ?_
  refine l_nil ?_
  refine c_if (b := (decide (t12 = a0))) rfl (fun hb => ?_) (fun hb => ?_)
  ·have H13 := cnd_t hb H12; clear H12
   refine c_seq ?_
   refine c_region ?_
   refine l_val rfl rfl rfl (r_move (v := .int .i64 t9) rfl) ?_
   refine l_val rfl rfl rfl (r_assign (v := .int .i64 t9) rfl) ?_
   refine l_nil ?_
   refine c_ret ?_
   obtain rfl := Option.some.inj H13
   refine ret1 (v := .int .i64 t9) rfl rfl (fin rfl)
  ·have H14 := cnd_f hb H12; clear H12
   refine c_skip ?_
   refine c_region ?_
   obtain ⟨t16, h_t16, H15⟩ := bnd_some H14; clear H14
   refine l_val rfl rfl rfl (r_addG rfl rfl h_t16) ?_
   refine l_val rfl rfl rfl (r_move (v := .int .i64 t16) rfl) ?_
   refine l_nil ?_
   refine c_close t16 () m1 [0] (by exact ⟨rfl, rfl, rfl, rfl, trivial⟩) (by decide) rfl (by exact ⟨(by subst hn1; exact H15), trivial⟩) (Nat.lt_succ_self _)
 ·have H16 := cnd_f hb H9; clear H9
  refine c_exit ?_
  refine c_seq ?_
  refine c_region ?_
  refine l_val rfl rfl rfl (r_assign (v := .int .i64 0) rfl) ?_
  refine l_nil ?_
  refine c_ret ?_
  obtain rfl := Option.some.inj H16
  refine ret1 (v := .int .i64 0) rfl rfl (fin rfl)
theorem k47 {a0 : (List UInt8)} {r : (List UInt8) × Bool} (H : tag_unhex a0 = some r) : Ret Tryz.prog 47 [str a0] (.tuple #[str r.1, .bool r.2]) := by
 refine enterRet (n := 36) Tryz.func47 rfl rfl rfl (fun wd => ?_)
 refine c_seq ?_
 refine c_region ?_
 refine l_val rfl rfl rfl (r_assign (v := str []) rfl) ?_
 refine l_val rfl rfl rfl (r_assign (v := .bool false) rfl) ?_
 refine l_nil ?_
 refine c_seq ?_
 refine c_region ?_
 refine l_val rfl rfl rfl (r_assign (v := .slice none 0 0) rfl) ?_
 refine l_nil ?_
 refine c_meet (r := r) (σ := (List UInt8) × (List Int)) (τ := (Option Addr × Nat)) (fun s => tag_unhex_j1 s.1 s.2) (fun s t => [(0, str s.1), (4, .slice t.1 s.2.length t.2)]) (fun s t => [rowV 5 1 (.slice t.1 s.2.length t.2) s.2.length (s.2.map e_u8)]) (fun s t => True) ?_ ?_
 ·refine c_block ?_
  refine c_nilRow 5 1 ?_
  refine c_fix (σ := (List UInt8) × (List Int)) (τ := (Option Addr × Nat)) (fun next2 s => tag_unhex_l2 next2 s.1 s.2) (fun s t => [(0, str s.1), (4, .slice t.1 s.2.length t.2)]) (fun s t => [rowV 5 1 (.slice t.1 s.2.length t.2) s.2.length (s.2.map e_u8)]) (fun s t => True) (a0, ([] : List Int)) ((none, 0) : Option Addr × Nat) [0] H (by exact trivial) (by exact ⟨rfl, rfl, trivial⟩) (by decide) rfl ?_
  rintro ⟨x0_3, l_3⟩ p_2 m2 gg H17 _
  clear H
  replace H17 : tag_unhex_l2 (it (fun next2 s => tag_unhex_l2 next2 s.1 s.2) m2) x0_3 l_3 = some r := H17
  generalize hn2 : it (fun next2 s => tag_unhex_l2 next2 s.1 s.2) m2 = next2 at H17
  refine c_tidyF [(0, str x0_3), (4, .slice p_2.1 l_3.length p_2.2)] [rowV 5 1 (.slice p_2.1 l_3.length p_2.2) l_3.length (l_3.map e_u8)] rfl rfl ?_
  refine c_seq ?_
  refine c_seq ?_
  refine c_region ?_
  refine l_val rfl rfl rfl (r_move (v := str x0_3) rfl) ?_
  refine l_val rfl rfl rfl (r_lenT Tryz.underlying9 rfl) ?_
  refine l_val rfl rfl rfl (r_geq rfl rfl) ?_
  refine l_nil ?_
  refine c_if (b := (decide (2 ≤ (x0_3.length : Int)))) rfl (fun hb => ?_) (fun hb => ?_)
  ·have H18 := cnd_t hb H17; clear H17
   refine c_skip ?_
   refine c_seq ?_
   refine c_block ?_
   refine c_seq ?_
   exact c_regionD (Kd.p :: Kd.p :: Kd.d [] _ :: Kd.p :: Kd.p :: Kd.d [] _ :: Kd.p :: Kd.p :: []) 0 mixed (by
    refine d_val rfl rfl (r_move (v := str x0_3) rfl) ?_
    have h_t13 := bnd_val H18
    have H19 := bnd_rest H18
    refine d_val rfl rfl (r_octG Tryz.underlying9 rfl rfl h_t13) ?_
    have h_t14 := bnd_val H19
    have H20 := bnd_rest H19
    refine d_call (k14 h_t14) Tryz.call14 rfl rfl ?_
    refine d_val rfl rfl (r_move (v := str x0_3) rfl) ?_
    have h_t16 := bnd_val H20
    have H21 := bnd_rest H20
    refine d_val rfl rfl (r_octG Tryz.underlying9 rfl rfl h_t16) ?_
    have h_t17 := bnd_val H21
    have H22 := bnd_rest H21
    refine d_call (k14 h_t17) Tryz.call14 rfl rfl ?_
    refine d_val rfl rfl (r_assign (v := .int .i64 (val (strings_IndexByte [48, 49, 50, 51, 52, 53, 54, 55, 56, 57, 97, 98, 99, 100, 101, 102] (val (gOct x0_3 0))))) rfl) ?_
    refine d_val rfl rfl (r_assign (v := .int .i64 (val (strings_IndexByte [48, 49, 50, 51, 52, 53, 54, 55, 56, 57, 97, 98, 99, 100, 101, 102] (val (gOct x0_3 1))))) rfl) ?_
    refine d_nil ?_
    refine c_seq ?_
    refine c_seq ?_
    refine c_region ?_
    refine l_val rfl rfl rfl (r_move (v := .int .i64 (val (strings_IndexByte [48, 49, 50, 51, 52, 53, 54, 55, 56, 57, 97, 98, 99, 100, 101, 102] (val (gOct x0_3 0))))) rfl) ?_
    refine l_val rfl rfl rfl (r_lss rfl rfl) ?_
    refine l_val rfl rfl rfl (r_move (v := .bool (decide ((val (strings_IndexByte [48, 49, 50, 51, 52, 53, 54, 55, 56, 57, 97, 98, 99, 100, 101, 102] (val (gOct x0_3 0)))) < 0))) rfl) ?_
    refine split (fun hb => ?_) (fun hb => ?_)
    ·have H23 := cnd_t hb H22; clear H22
     refine l_passed rfl rfl rfl ?_
     refine l_passed rfl rfl rfl ?_
     refine l_val rfl rfl rfl (r_pickT (v := .bool true) rfl rfl) ?_
     refine l_nil ?_
     refine c_true rfl ?_
     refine c_seq ?_
     refine c_region ?_
     refine l_val rfl rfl rfl (r_assign (v := str []) rfl) ?_
     refine l_val rfl rfl rfl (r_assign (v := .bool false) rfl) ?_
     refine l_nil ?_
     refine c_ret ?_
     obtain rfl := Option.some.inj H23
     refine ret2 (v1 := str []) (v2 := .bool false) rfl rfl rfl (fin rfl)
    ·have H24 := cnd_f hb H22; clear H22
     refine l_val rfl rfl rfl (r_move (v := .int .i64 (val (strings_IndexByte [48, 49, 50, 51, 52, 53, 54, 55, 56, 57, 97, 98, 99, 100, 101, 102] (val (gOct x0_3 1))))) rfl) ?_
     refine l_val rfl rfl rfl (r_lss rfl rfl) ?_
     refine l_val rfl rfl rfl (r_pickF (v := .bool (decide ((val (strings_IndexByte [48, 49, 50, 51, 52, 53, 54, 55, 56, 57, 97, 98, 99, 100, 101, 102] (val (gOct x0_3 1)))) < 0))) rfl rfl) ?_
     refine l_nil ?_
     refine c_if (b := (decide ((val (strings_IndexByte [48, 49, 50, 51, 52, 53, 54, 55, 56, 57, 97, 98, 99, 100, 101, 102] (val (gOct x0_3 1)))) < 0))) rfl (fun hb => ?_) (fun hb => ?_)
     ·have H25 := cnd_t hb H24; clear H24
      refine c_seq ?_
      refine c_region ?_
      refine l_val rfl rfl rfl (r_assign (v := str []) rfl) ?_
      refine l_val rfl rfl rfl (r_assign (v := .bool false) rfl) ?_
      refine l_nil ?_
      refine c_ret ?_
      obtain rfl := Option.some.inj H25
      refine ret2 (v1 := str []) (v2 := .bool false) rfl rfl rfl (fin rfl)
     ·have H26 := cnd_f hb H24; clear H24
      refine c_skip ?_
      refine c_region ?_
      refine l_val rfl rfl rfl (r_move (v := .slice p_2.1 l_3.length p_2.2) rfl) ?_
      refine l_val rfl rfl rfl (r_move (v := .int .i64 (val (strings_IndexByte [48, 49, 50, 51, 52, 53, 54, 55, 56, 57, 97, 98, 99, 100, 101, 102] (val (gOct x0_3 0))))) rfl) ?_
      obtain ⟨t26, h_t26, H27⟩ := bnd_some H26; clear H26
      refine l_val rfl rfl rfl (r_shlG rfl rfl h_t26) ?_
      refine l_val rfl rfl rfl (r_move (v := .int .i64 (val (strings_IndexByte [48, 49, 50, 51, 52, 53, 54, 55, 56, 57, 97, 98, 99, 100, 101, 102] (val (gOct x0_3 1))))) rfl) ?_
      refine l_val rfl rfl rfl (r_bitsOr (bits := 64) rfl rfl rfl (wr_i64 _)) ?_
      refine l_val rfl rfl rfl (r_convG Tryz.runUnderlying3 Tryz.runUnderlying5 rfl (wr_u8 _)) ?_
      refine l_buildSlice (vs := [.int .u8 (wU8 (wI64 (bOr 64 t26 (val (strings_IndexByte [48, 49, 50, 51, 52, 53, 54, 55, 56, 57, 97, 98, 99, 100, 101, 102] (val (gOct x0_3 1)))))))]) (cs := [.int .u8 (wU8 (wI64 (bOr 64 t26 (val (strings_IndexByte [48, 49, 50, 51, 52, 53, 54, 55, 56, 57, 97, 98, 99, 100, 101, 102] (val (gOct x0_3 1)))))))]) Tryz.underlying70 Tryz.sizeOf5 Tryz.zeroValue5 rfl rfl rfl rfl rfl rfl rfl (fun b1 => ?_)
      obtain ⟨l31, h_l31, H28⟩ := bnd_some H27; clear H27
      refine l_turn (turns_appG (i := 0) (hn := rfl) (rds := [1]) (p := p_2) (sz := 1) (by_ := 1) (f := e_u8) (ys := l_3) (ls := ([(wU8 (wI64 (bOr 64 t26 (val (strings_IndexByte [48, 49, 50, 51, 52, 53, 54, 55, 56, 57, 97, 98, 99, 100, 101, 102] (val (gOct x0_3 1)))))))] : List Int)) (V := .slice (some ⟨b1, 0, none⟩) 1 1) Tryz.underlying70 (info_of Tryz.typeInfo5) rfl rfl rfl rfl rfl rfl rfl rfl rfl rfl (fun w L' hF hS hi => row_box (i := 1) hS ((hi 1 (by simp)).trans rfl) rfl rfl) (fun _ => rfl) (fun _ => rfl) h_l31) rfl rfl rfl (fun p_3 => ?_)
      refine l_val rfl rfl rfl (r_assign (v := .slice p_3.1 l31.length p_3.2) rfl) ?_
      refine l_nil ?_
      refine c_region ?_
      refine l_val rfl rfl rfl (r_move (v := str x0_3) rfl) ?_
      obtain ⟨t11, h_t11, H29⟩ := bnd_some H28; clear H28
      refine l_val rfl rfl rfl (r_cutFromG Tryz.underlying9 rfl rfl h_t11) ?_
      refine l_val rfl rfl rfl (r_assign (v := str t11) rfl) ?_
      refine l_nil ?_
      refine c_close (t11, l31) p_3 m2 [0] (by exact ⟨rfl, rfl, trivial⟩) (by decide) rfl (by exact ⟨(by subst hn2; exact H29), trivial⟩) (Nat.lt_succ_self _)
    ) (by kernel_rfl)
  ·have H30 := cnd_f hb H17; clear H17
   refine c_exit ?_
   refine c_close (x0_3, l_3) p_2 0 [0] (by exact ⟨rfl, rfl, trivial⟩) (by decide) rfl (by exact ⟨H30, trivial⟩) (Nat.lt_succ_self _)
 ·rintro ⟨x0, l⟩ p gg H16 _
  replace H16 : tag_unhex_j1 x0 l = some r := H16
  refine c_tidyF [(0, str x0), (4, .slice p.1 l.length p.2)] [rowV 5 1 (.slice p.1 l.length p.2) l.length (l.map e_u8)] rfl rfl ?_
  refine c_seq ?_
  refine c_region ?_
  refine l_val rfl rfl rfl (r_move (v := .slice p.1 l.length p.2) rfl) ?_
  refine l_read (fun w hF hS => run_bytes (f := e_u8) (xs := l) rfl Tryz.underlying70 Tryz.underlying5 Tryz.underlying9 rfl (fun _ => rfl) (rowOf (i := 0) hS rfl)) rfl rfl rfl ?_
  refine l_val rfl rfl rfl (r_move (v := str x0) rfl) ?_
  refine l_val rfl rfl rfl (r_eqlT rfl rfl) ?_
  refine l_val rfl rfl rfl (r_assign (v := str (toStr l)) rfl) ?_
  refine l_val rfl rfl rfl (r_assign (v := .bool (decide (x0 = []))) rfl) ?_
  refine l_nil ?_
  refine c_ret ?_
  obtain rfl := Option.some.inj H16
  refine ret2 (v1 := str (toStr l)) (v2 := .bool (decide (x0 = []))) rfl rfl rfl (fin rfl)
theorem k55 {a0 : (List UInt8)} {a1 : (List UInt8)} {r : (List UInt8) × (List UInt8) × Bool} (H : internal_stringslite_Cut a0 a1 = some r) : Ret Tryz.prog 55 [str a0, str a1] (.tuple #[str r.1, str r.2.1, .bool r.2.2]) := by
 refine enterRet (n := 23) Tryz.func55 rfl rfl rfl (fun wd => ?_)
 refine c_seq ?_
 refine c_region ?_
 refine l_val rfl rfl rfl (r_assign (v := str []) rfl) ?_
 refine l_val rfl rfl rfl (r_assign (v := str []) rfl) ?_
 refine l_val rfl rfl rfl (r_assign (v := .bool false) rfl) ?_
 refine l_nil ?_
 refine c_seq ?_
 refine c_seq ?_
 refine c_region ?_
 refine l_val rfl rfl rfl (r_move (v := str a0) rfl) ?_
 refine l_val rfl rfl rfl (r_move (v := str a1) rfl) ?_
 obtain ⟨t10, h_t10, H7⟩ := bnd_some H; clear H
 refine l_call (k69 h_t10) Tryz.call69 rfl rfl rfl ?_
 refine l_val rfl rfl rfl (r_assign (v := .int .i64 t10) rfl) ?_
 refine l_nil ?_
 refine c_seq ?_
 refine c_region ?_
 refine l_val rfl rfl rfl (r_move (v := .int .i64 t10) rfl) ?_
 refine l_val rfl rfl rfl (r_geq rfl rfl) ?_
 refine l_nil ?_
 refine c_if (b := (decide (0 ≤ t10))) rfl (fun hb => ?_) (fun hb => ?_)
 ·have H8 := cnd_t hb H7; clear H7
  refine c_seq ?_
  exact c_regionD (Kd.p :: Kd.p :: Kd.p :: Kd.p :: Kd.p :: Kd.p :: Kd.p :: Kd.p :: Kd.p :: Kd.p :: Kd.p :: Kd.p :: []) 0 mixed (by
   refine d_val rfl rfl (r_move (v := str a0) rfl) ?_
   refine d_val rfl rfl (r_move (v := .int .i64 t10) rfl) ?_
   have h_t15 := bnd_val H8
   have H9 := bnd_rest H8
   refine d_val rfl rfl (r_cutToG Tryz.underlying9 rfl rfl h_t15) ?_
   refine d_val rfl rfl (r_move (v := str a0) rfl) ?_
   refine d_val rfl rfl (r_move (v := .int .i64 t10) rfl) ?_
   refine d_val rfl rfl (r_move (v := str a1) rfl) ?_
   refine d_val rfl rfl (r_lenT Tryz.underlying9 rfl) ?_
   have h_t20 := bnd_val H9
   have H10 := bnd_rest H9
   refine d_val rfl rfl (r_addG rfl rfl h_t20) ?_
   have h_t21 := bnd_val H10
   have H11 := bnd_rest H10
   refine d_val rfl rfl (r_cutFromG Tryz.underlying9 rfl rfl h_t21) ?_
   refine d_val rfl rfl (r_assign (v := str (val (gCut a0 0 t10))) rfl) ?_
   refine d_val rfl rfl (r_assign (v := str (val (gCut a0 (val (gI (t10 + (a1.length : Int)))) a0.length))) rfl) ?_
   refine d_val rfl rfl (r_assign (v := .bool true) rfl) ?_
   refine d_nil ?_
   refine c_ret ?_
   obtain rfl := Option.some.inj H11
   refine ret3 (v1 := str (val (gCut a0 0 t10))) (v2 := str (val (gCut a0 (val (gI (t10 + (a1.length : Int)))) a0.length))) (v3 := .bool true) rfl rfl rfl rfl (fin rfl)
   ) (by kernel_rfl)
 ·have H12 := cnd_f hb H7; clear H7
  refine c_skip ?_
  refine c_seq ?_
  refine c_region ?_
  refine l_val rfl rfl rfl (r_move (v := str a0) rfl) ?_
  refine l_val rfl rfl rfl (r_assign (v := str a0) rfl) ?_
  refine l_val rfl rfl rfl (r_assign (v := str []) rfl) ?_
  refine l_val rfl rfl rfl (r_assign (v := .bool false) rfl) ?_
  refine l_nil ?_
  refine c_ret ?_
  obtain rfl := Option.some.inj H12
  refine ret3 (v1 := str a0) (v2 := str []) (v3 := .bool false) rfl rfl rfl rfl (fin rfl)
theorem k29 {a0 : (List UInt8)} {a1 : (List UInt8)} {r : (List UInt8) × (List UInt8) × Bool} (H : strings_Cut a0 a1 = some r) : Ret Tryz.prog 29 [str a0, str a1] (.tuple #[str r.1, str r.2.1, .bool r.2.2]) := by
 refine enterRet (n := 13) Tryz.func29 rfl rfl rfl (fun wd => ?_)
 refine c_seq ?_
 refine c_region ?_
 refine l_val rfl rfl rfl (r_assign (v := str []) rfl) ?_
 refine l_val rfl rfl rfl (r_assign (v := str []) rfl) ?_
 refine l_val rfl rfl rfl (r_assign (v := .bool false) rfl) ?_
 refine l_nil ?_
 refine c_seq ?_
 refine c_region ?_
 refine l_val rfl rfl rfl (r_move (v := str a0) rfl) ?_
 refine l_val rfl rfl rfl (r_move (v := str a1) rfl) ?_
 obtain ⟨t9, h_t9, H2⟩ := bnd_some H; clear H
 refine l_call (k55 h_t9) Tryz.call55 rfl rfl rfl ?_
 refine l_val rfl rfl rfl (r_extract (v := str t9.1) rfl rfl) ?_
 refine l_val rfl rfl rfl (r_extract (v := str t9.2.1) rfl rfl) ?_
 refine l_val rfl rfl rfl (r_extract (v := .bool t9.2.2) rfl rfl) ?_
 refine l_val rfl rfl rfl (r_assign (v := str t9.1) rfl) ?_
 refine l_val rfl rfl rfl (r_assign (v := str t9.2.1) rfl) ?_
 refine l_val rfl rfl rfl (r_assign (v := .bool t9.2.2) rfl) ?_
 refine l_nil ?_
 refine c_ret ?_
 obtain rfl := Option.some.inj H2
 refine ret3 (v1 := str t9.1) (v2 := str t9.2.1) (v3 := .bool t9.2.2) rfl rfl rfl rfl (fin rfl)
theorem k92 {a0 : (List UInt8)} {a1 : (List UInt8)} {r : Bool} (H : internal_stringslite_HasPrefix a0 a1 = some r) : Ret Tryz.prog 92 [str a0, str a1] (.bool r) := by
 refine enterRet (n := 18) Tryz.func92 rfl rfl rfl (fun wd => ?_)
 refine c_seq ?_
 refine c_region ?_
 refine l_val rfl rfl rfl (r_assign (v := .bool false) rfl) ?_
 refine l_nil ?_
 refine c_seq ?_
 refine c_region ?_
 refine l_val rfl rfl rfl (r_move (v := str a0) rfl) ?_
 refine l_val rfl rfl rfl (r_lenT Tryz.underlying9 rfl) ?_
 refine l_val rfl rfl rfl (r_move (v := str a1) rfl) ?_
 refine l_val rfl rfl rfl (r_lenT Tryz.underlying9 rfl) ?_
 refine l_val rfl rfl rfl (r_geq rfl rfl) ?_
 refine l_val rfl rfl rfl (r_move (v := .bool (decide ((a1.length : Int) ≤ (a0.length : Int)))) rfl) ?_
 refine split (fun hb => ?_) (fun hb => ?_)
 ·have H4 := cnd_t hb H; clear H
  refine l_val rfl rfl rfl (r_move (v := str a0) rfl) ?_
  refine l_val rfl rfl rfl (r_move (v := str a1) rfl) ?_
  refine l_val rfl rfl rfl (r_lenT Tryz.underlying9 rfl) ?_
  obtain ⟨t14, h_t14, H5⟩ := bnd_some H4; clear H4
  refine l_val rfl rfl rfl (r_cutToG Tryz.underlying9 rfl rfl h_t14) ?_
  refine l_val rfl rfl rfl (r_move (v := str a1) rfl) ?_
  refine l_val rfl rfl rfl (r_eqlT rfl rfl) ?_
  refine l_val rfl rfl rfl (r_pickT (v := .bool (decide (t14 = a1))) rfl rfl) ?_
  refine l_val rfl rfl rfl (r_assign (v := .bool (decide (t14 = a1))) rfl) ?_
  refine l_nil ?_
  refine c_ret ?_
  obtain rfl := Option.some.inj H5
  refine ret1 (v := .bool (decide (t14 = a1))) rfl rfl (fin rfl)
 ·have H6 := cnd_f hb H; clear H
  refine l_passed rfl rfl rfl ?_
  refine l_passed rfl rfl rfl ?_
  refine l_passed rfl rfl rfl ?_
  refine l_passed rfl rfl rfl ?_
  refine l_passed rfl rfl rfl ?_
  refine l_passed rfl rfl rfl ?_
  refine l_val rfl rfl rfl (r_pickF (v := .bool false) rfl rfl) ?_
  refine l_val rfl rfl rfl (r_assign (v := .bool false) rfl) ?_
  refine l_nil ?_
  refine c_ret ?_
  obtain rfl := Option.some.inj H6
  refine ret1 (v := .bool false) rfl rfl (fin rfl)
theorem k70 {a0 : (List UInt8)} {a1 : (List UInt8)} {r : (List UInt8)} (H : internal_stringslite_TrimPrefix a0 a1 = some r) : Ret Tryz.prog 70 [str a0, str a1] (str r) := by
 refine enterRet (n := 13) Tryz.func70 rfl rfl rfl (fun wd => ?_)
 refine c_seq ?_
 refine c_region ?_
 refine l_val rfl rfl rfl (r_assign (v := str []) rfl) ?_
 refine l_nil ?_
 refine c_seq ?_
 refine c_seq ?_
 refine c_region ?_
 refine l_val rfl rfl rfl (r_move (v := str a0) rfl) ?_
 refine l_val rfl rfl rfl (r_move (v := str a1) rfl) ?_
 obtain ⟨t7, h_t7, H5⟩ := bnd_some H; clear H
 refine l_call (k92 h_t7) Tryz.call92 rfl rfl rfl ?_
 refine l_nil ?_
 refine c_if (b := t7) rfl (fun hb => ?_) (fun hb => ?_)
 ·have H6 := cnd_t hb H5; clear H5
  refine c_seq ?_
  refine c_region ?_
  refine l_val rfl rfl rfl (r_move (v := str a0) rfl) ?_
  refine l_val rfl rfl rfl (r_move (v := str a1) rfl) ?_
  refine l_val rfl rfl rfl (r_lenT Tryz.underlying9 rfl) ?_
  obtain ⟨t11, h_t11, H7⟩ := bnd_some H6; clear H6
  refine l_val rfl rfl rfl (r_cutFromG Tryz.underlying9 rfl rfl h_t11) ?_
  refine l_val rfl rfl rfl (r_assign (v := str t11) rfl) ?_
  refine l_nil ?_
  refine c_ret ?_
  obtain rfl := Option.some.inj H7
  refine ret1 (v := str t11) rfl rfl (fin rfl)
 ·have H8 := cnd_f hb H5; clear H5
  refine c_skip ?_
  refine c_seq ?_
  refine c_region ?_
  refine l_val rfl rfl rfl (r_move (v := str a0) rfl) ?_
  refine l_val rfl rfl rfl (r_assign (v := str a0) rfl) ?_
  refine l_nil ?_
  refine c_ret ?_
  obtain rfl := Option.some.inj H8
  refine ret1 (v := str a0) rfl rfl (fin rfl)
theorem k56 {a0 : (List UInt8)} {a1 : (List UInt8)} {r : (List UInt8)} (H : strings_TrimPrefix a0 a1 = some r) : Ret Tryz.prog 56 [str a0, str a1] (str r) := by
 refine enterRet (n := 8) Tryz.func56 rfl rfl rfl (fun wd => ?_)
 refine c_seq ?_
 refine c_region ?_
 refine l_val rfl rfl rfl (r_assign (v := str []) rfl) ?_
 refine l_nil ?_
 refine c_seq ?_
 refine c_region ?_
 refine l_val rfl rfl rfl (r_move (v := str a0) rfl) ?_
 refine l_val rfl rfl rfl (r_move (v := str a1) rfl) ?_
 obtain ⟨t7, h_t7, H2⟩ := bnd_some H; clear H
 refine l_call (k70 h_t7) Tryz.call70 rfl rfl rfl ?_
 refine l_val rfl rfl rfl (r_assign (v := str t7) rfl) ?_
 refine l_nil ?_
 refine c_ret ?_
 obtain rfl := Option.some.inj H2
 refine ret1 (v := str t7) rfl rfl (fin rfl)
theorem k71 {a0 : (List UInt8)} {a1 : Int} {r : (List UInt8)} (H : strings_trimLeftByte a0 a1 = some r) : Ret Tryz.prog 71 [str a0, .int .u8 a1] (str r) := by
 refine enterRet (n := 17) Tryz.func71 rfl rfl rfl (fun wd => ?_)
 refine c_seq ?_
 refine c_region ?_
 refine l_val rfl rfl rfl (r_assign (v := str []) rfl) ?_
 refine l_nil ?_
 refine c_seq ?_
 refine c_block ?_
 refine c_fix (σ := (List UInt8)) (τ := Unit) (fun next1 s => strings_trimLeftByte_l1 a1 next1 s) (fun s t => [(0, str s), (1, .int .u8 a1)]) (fun s t => []) (fun s t => True) a0 () [] H (by exact trivial) (by exact ⟨rfl, rfl, trivial⟩) (by decide) rfl ?_
 rintro x0_2 _ m1 gg H8 _
 clear H
 replace H8 : strings_trimLeftByte_l1 a1 (it (fun next1 s => strings_trimLeftByte_l1 a1 next1 s) m1) x0_2 = some r := H8
 generalize hn1 : it (fun next1 s => strings_trimLeftByte_l1 a1 next1 s) m1 = next1 at H8
 refine c_tidyF [(0, str x0_2), (1, .int .u8 a1)] [] rfl rfl ?_
 refine c_seq ?_
 refine c_seq ?_
 refine c_region ?_
 refine l_val rfl rfl rfl (r_move (v := str x0_2) rfl) ?_
 refine l_val rfl rfl rfl (r_lenT Tryz.underlying9 rfl) ?_
 refine l_val rfl rfl rfl (r_gtr rfl rfl) ?_
 refine l_val rfl rfl rfl (r_move (v := .bool (decide (0 < (x0_2.length : Int)))) rfl) ?_
 refine split (fun hb => ?_) (fun hb => ?_)
 ·have H9 := cnd_t hb H8; clear H8
  refine l_val rfl rfl rfl (r_move (v := str x0_2) rfl) ?_
  obtain ⟨t10, h_t10, H10⟩ := bnd_some H9; clear H9
  refine l_val rfl rfl rfl (r_octG Tryz.underlying9 rfl rfl h_t10) ?_
  refine l_val rfl rfl rfl (r_move (v := .int .u8 a1) rfl) ?_
  refine l_val rfl rfl rfl (r_eql rfl rfl) ?_
  refine l_val rfl rfl rfl (r_pickT (v := .bool (decide (t10 = a1))) rfl rfl) ?_
  refine l_nil ?_
  refine c_if (b := (decide (t10 = a1))) rfl (fun hb => ?_) (fun hb => ?_)
  ·have H11 := cnd_t hb H10; clear H10
   refine c_skip ?_
   refine c_block ?_
   refine c_region ?_
   refine l_val rfl rfl rfl (r_move (v := str x0_2) rfl) ?_
   obtain ⟨t15, h_t15, H12⟩ := bnd_some H11; clear H11
   refine l_val rfl rfl rfl (r_cutFromG Tryz.underlying9 rfl rfl h_t15) ?_
   refine l_val rfl rfl rfl (r_assign (v := str t15) rfl) ?_
   refine l_nil ?_
   refine c_close t15 () m1 [] (by exact ⟨rfl, rfl, trivial⟩) (by decide) rfl (by exact ⟨(by subst hn1; exact H12), trivial⟩) (Nat.lt_succ_self _)
  ·have H13 := cnd_f hb H10; clear H10
   refine c_exit ?_
   refine c_seq ?_
   refine c_region ?_
   refine l_val rfl rfl rfl (r_move (v := str x0_2) rfl) ?_
   refine l_val rfl rfl rfl (r_assign (v := str x0_2) rfl) ?_
   refine l_nil ?_
   refine c_ret ?_
   obtain rfl := Option.some.inj H13
   refine ret1 (v := str x0_2) rfl rfl (fin rfl)
 ·have H14 := cnd_f hb H8; clear H8
  refine l_passed rfl rfl rfl ?_
  refine l_passed rfl rfl rfl ?_
  refine l_passed rfl rfl rfl ?_
  refine l_passed rfl rfl rfl ?_
  refine l_val rfl rfl rfl (r_pickF (v := .bool false) rfl rfl) ?_
  refine l_nil ?_
  refine c_false rfl ?_
  refine c_exit ?_
  refine c_seq ?_
  refine c_region ?_
  refine l_val rfl rfl rfl (r_move (v := str x0_2) rfl) ?_
  refine l_val rfl rfl rfl (r_assign (v := str x0_2) rfl) ?_
  refine l_nil ?_
  refine c_ret ?_
  obtain rfl := Option.some.inj H14
  refine ret1 (v := str x0_2) rfl rfl (fin rfl)
theorem k72 {a0 : (List UInt8)} {a1 : Int} {r : (List UInt8)} (H : strings_trimRightByte a0 a1 = some r) : Ret Tryz.prog 72 [str a0, .int .u8 a1] (str r) := by
 refine enterRet (n := 23) Tryz.func72 rfl rfl rfl (fun wd => ?_)
 refine c_seq ?_
 refine c_region ?_
 refine l_val rfl rfl rfl (r_assign (v := str []) rfl) ?_
 refine l_nil ?_
 refine c_seq ?_
 refine c_block ?_
 refine c_fix (σ := (List UInt8)) (τ := Unit) (fun next1 s => strings_trimRightByte_l1 a1 next1 s) (fun s t => [(0, str s), (1, .int .u8 a1)]) (fun s t => []) (fun s t => True) a0 () [] H (by exact trivial) (by exact ⟨rfl, rfl, trivial⟩) (by decide) rfl ?_
 rintro x0_2 _ m1 gg H10 _
 clear H
 replace H10 : strings_trimRightByte_l1 a1 (it (fun next1 s => strings_trimRightByte_l1 a1 next1 s) m1) x0_2 = some r := H10
 generalize hn1 : it (fun next1 s => strings_trimRightByte_l1 a1 next1 s) m1 = next1 at H10
 refine c_tidyF [(0, str x0_2), (1, .int .u8 a1)] [] rfl rfl ?_
 refine c_seq ?_
 refine c_seq ?_
 refine c_region ?_
 refine l_val rfl rfl rfl (r_move (v := str x0_2) rfl) ?_
 refine l_val rfl rfl rfl (r_lenT Tryz.underlying9 rfl) ?_
 refine l_val rfl rfl rfl (r_gtr rfl rfl) ?_
 refine l_val rfl rfl rfl (r_move (v := .bool (decide (0 < (x0_2.length : Int)))) rfl) ?_
 refine split (fun hb => ?_) (fun hb => ?_)
 ·have H11 := cnd_t hb H10; clear H10
  refine l_val rfl rfl rfl (r_move (v := str x0_2) rfl) ?_
  refine l_val rfl rfl rfl (r_move (v := str x0_2) rfl) ?_
  refine l_val rfl rfl rfl (r_lenT Tryz.underlying9 rfl) ?_
  obtain ⟨t12, h_t12, H12⟩ := bnd_some H11; clear H11
  refine l_val rfl rfl rfl (r_subG rfl rfl h_t12) ?_
  obtain ⟨t13, h_t13, H13⟩ := bnd_some H12; clear H12
  refine l_val rfl rfl rfl (r_octG Tryz.underlying9 rfl rfl h_t13) ?_
  refine l_val rfl rfl rfl (r_move (v := .int .u8 a1) rfl) ?_
  refine l_val rfl rfl rfl (r_eql rfl rfl) ?_
  refine l_val rfl rfl rfl (r_pickT (v := .bool (decide (t13 = a1))) rfl rfl) ?_
  refine l_nil ?_
  refine c_if (b := (decide (t13 = a1))) rfl (fun hb => ?_) (fun hb => ?_)
  ·have H14 := cnd_t hb H13; clear H13
   refine c_skip ?_
   refine c_block ?_
   refine c_region ?_
   refine l_val rfl rfl rfl (r_move (v := str x0_2) rfl) ?_
   refine l_val rfl rfl rfl (r_move (v := str x0_2) rfl) ?_
   refine l_val rfl rfl rfl (r_lenT Tryz.underlying9 rfl) ?_
   obtain ⟨t20, h_t20, H15⟩ := bnd_some H14; clear H14
   refine l_val rfl rfl rfl (r_subG rfl rfl h_t20) ?_
   obtain ⟨t21, h_t21, H16⟩ := bnd_some H15; clear H15
   refine l_val rfl rfl rfl (r_cutToG Tryz.underlying9 rfl rfl h_t21) ?_
   refine l_val rfl rfl rfl (r_assign (v := str t21) rfl) ?_
   refine l_nil ?_
   refine c_close t21 () m1 [] (by exact ⟨rfl, rfl, trivial⟩) (by decide) rfl (by exact ⟨(by subst hn1; exact H16), trivial⟩) (Nat.lt_succ_self _)
  ·have H17 := cnd_f hb H13; clear H13
   refine c_exit ?_
   refine c_seq ?_
   refine c_region ?_
   refine l_val rfl rfl rfl (r_move (v := str x0_2) rfl) ?_
   refine l_val rfl rfl rfl (r_assign (v := str x0_2) rfl) ?_
   refine l_nil ?_
   refine c_ret ?_
   obtain rfl := Option.some.inj H17
   refine ret1 (v := str x0_2) rfl rfl (fin rfl)
 ·have H18 := cnd_f hb H10; clear H10
  refine l_passed rfl rfl rfl ?_
  refine l_passed rfl rfl rfl ?_
  refine l_passed rfl rfl rfl ?_
  refine l_passed rfl rfl rfl ?_
  refine l_passed rfl rfl rfl ?_
  refine l_passed rfl rfl rfl ?_
  refine l_passed rfl rfl rfl ?_
  refine l_val rfl rfl rfl (r_pickF (v := .bool false) rfl rfl) ?_
  refine l_nil ?_
  refine c_false rfl ?_
  refine c_exit ?_
  refine c_seq ?_
  refine c_region ?_
  refine l_val rfl rfl rfl (r_move (v := str x0_2) rfl) ?_
  refine l_val rfl rfl rfl (r_assign (v := str x0_2) rfl) ?_
  refine l_nil ?_
  refine c_ret ?_
  obtain rfl := Option.some.inj H18
  refine ret1 (v := str x0_2) rfl rfl (fin rfl)
theorem k73 {a0 : (List UInt8)} {r : (Nat → Bool) × Bool} (H : strings_makeASCIISet a0 = some r) : Ret Tryz.prog 73 [str a0] (.tuple #[.agg (List.toArray (arrC 256 (fun j_ => [.bool (r.1 j_)]))), .bool r.2]) := by
 refine enterRet (n := 21) Tryz.func73 rfl rfl rfl (fun wd => ?_)
 refine c_seq ?_
 refine c_region ?_
 refine l_alloc (cs := (arrC 256 (fun j_ => [.bool ((fun _ => false) j_)]))) Tryz.zeroValue96 (by kernel_rfl) rfl rfl (fun b1 => ?_)
 refine l_val rfl rfl rfl (r_assign (v := .bool false) rfl) ?_
 refine l_nil ?_
 refine c_meet (r := r) (σ := (Nat → Bool)) (τ := Unit) (fun s => strings_makeASCIISet_j1 s) (fun s t => [(2, .pointer (some ⟨b1, 0, none⟩))]) (fun s t => [cellsC b1 (arrC 256 (fun j_ => [.bool (s j_)])) 96]) (fun s t => True) ?_ ?_
 ·refine c_seq ?_
  refine c_region ?_
  refine l_val rfl rfl rfl (r_assign (v := .int .i64 0) rfl) ?_
  refine l_nil ?_
  refine c_block ?_
  refine c_fix (σ := Int × (Nat → Bool)) (τ := Unit) (fun next2 s => strings_makeASCIISet_l2 a0 next2 s.1 s.2) (fun s t => [(0, str a0), (2, .pointer (some ⟨b1, 0, none⟩)), (4, .int .i64 s.1)]) (fun s t => [cellsC b1 (arrC 256 (fun j_ => [.bool (s.2 j_)])) 96]) (fun s t => True) (0, (fun _ => false)) () [0] H (by exact trivial) (by exact ⟨rfl, rfl, rfl, trivial⟩) (by decide) rfl ?_
  rintro ⟨x4_2, m_3⟩ _ m2 gg H11 _
  clear H
  replace H11 : strings_makeASCIISet_l2 a0 (it (fun next2 s => strings_makeASCIISet_l2 a0 next2 s.1 s.2) m2) x4_2 m_3 = some r := H11
  generalize hn2 : it (fun next2 s => strings_makeASCIISet_l2 a0 next2 s.1 s.2) m2 = next2 at H11
  refine c_tidyF [(0, str a0), (2, .pointer (some ⟨b1, 0, none⟩)), (4, .int .i64 x4_2)] [cellsC b1 (arrC 256 (fun j_ => [.bool (m_3 j_)])) 96] rfl rfl ?_
  refine c_seq ?_
  refine c_seq ?_
  refine c_region ?_
  refine l_val rfl rfl rfl (r_move (v := .int .i64 x4_2) rfl) ?_
  refine l_val rfl rfl rfl (r_move (v := str a0) rfl) ?_
  refine l_val rfl rfl rfl (r_lenT Tryz.underlying9 rfl) ?_
  refine l_val rfl rfl rfl (r_lss rfl rfl) ?_
  refine l_nil ?_
  refine c_if (b := (decide (x4_2 < (a0.length : Int)))) rfl (fun hb => ?_) (fun hb => ?_)
  ·have H12 := cnd_t hb H11; clear H11
   refine c_skip ?_
   refine c_seq ?_
   refine c_block ?_
   refine c_seq ?_
   refine c_region ?_
   refine l_val rfl rfl rfl (r_move (v := str a0) rfl) ?_
   refine l_val rfl rfl rfl (r_move (v := .int .i64 x4_2) rfl) ?_
   obtain ⟨t14, h_t14, H13⟩ := bnd_some H12; clear H12
   refine l_val rfl rfl rfl (r_octG Tryz.underlying9 rfl rfl h_t14) ?_
   refine l_val rfl rfl rfl (r_assign (v := .int .u8 t14) rfl) ?_
   refine l_nil ?_
   refine c_seq ?_
   refine c_seq ?_
   refine c_region ?_
   refine l_val rfl rfl rfl (r_move (v := .int .u8 t14) rfl) ?_
   refine l_val rfl rfl rfl (r_geq rfl rfl) ?_
   refine l_nil ?_
   refine c_if (b := (decide (128 ≤ t14))) rfl (fun hb => ?_) (fun hb => ?_)
   ·have H14 := cnd_t hb H13; clear H13
    refine c_seq ?_
    refine c_region ?_
    refine l_loadN (i := 0) (vs := (arrC 256 (fun j_ => [.bool (m_3 j_)]))) Tryz.isAgg96 Tryz.sizeOf96 rfl rfl rfl rfl (rd_whole (arrC_len (fun _ => rfl))) ?_
    refine l_store (i := 0) (vs := (arrC 256 (fun j_ => [.bool (m_3 j_)]))) (cs' := (arrC 256 (fun j_ => [.bool (m_3 j_)]))) Tryz.sizeOf96 rfl rfl rfl rfl (arrC_len (fun _ => rfl)) rfl (arrC_one (fun _ => rfl)) rfl (wr_whole ((arrC_len (fun _ => rfl)).trans (arrC_len (fun _ => rfl)).symm)) ?_
    refine l_val rfl rfl rfl (r_assign (v := .bool false) rfl) ?_
    refine l_nil ?_
    refine c_ret ?_
    obtain rfl := Option.some.inj H14
    refine retCt (i := 0) (vs := (arrC 256 (fun j_ => [.bool (m_3 j_)]))) (v2 := .bool false) Tryz.isAgg96 Tryz.sizeOf96 rfl rfl rfl (rd_whole (arrC_len (fun _ => rfl))) rfl (fin rfl)
   ·have H15 := cnd_f hb H13; clear H13
    refine c_skip ?_
    refine c_region ?_
    refine l_val rfl rfl rfl (r_move (v := .int .u8 t14) rfl) ?_
    obtain ⟨k19, h_k19, H16⟩ := bnd_some H15; clear H15
    refine l_val rfl rfl rfl (r_indexPG Tryz.runUnderlying96 Tryz.sizeOf4 rfl rfl h_k19) ?_
    refine l_store (i := 0) (vs := [.bool true]) (cs' := (arrC 256 (fun j_ => [.bool ((setA m_3 k19 true) j_)]))) Tryz.sizeOf4 rfl rfl rfl rfl rfl rfl rfl rfl (wr_arr (pre := []) (post := []) (f := fun (j_ : Bool) => [.bool j_]) (n := 256) (sz := 1) (a := m_3) (x := true) (arr_whole _ _) rfl (fun _ => rfl) (gIx_lt h_k19) rfl (arr_whole _ _)) ?_
    refine l_nil ?_
    refine c_region ?_
    refine l_val rfl rfl rfl (r_move (v := .int .i64 x4_2) rfl) ?_
    obtain ⟨t11, h_t11, H17⟩ := bnd_some H16; clear H16
    refine l_val rfl rfl rfl (r_addG rfl rfl h_t11) ?_
    refine l_val rfl rfl rfl (r_assign (v := .int .i64 t11) rfl) ?_
    refine l_nil ?_
    refine c_close (t11, (setA m_3 k19 true)) () m2 [0] (by exact ⟨rfl, rfl, rfl, trivial⟩) (by decide) rfl (by exact ⟨(by subst hn2; exact H17), trivial⟩) (Nat.lt_succ_self _)
  ·have H18 := cnd_f hb H11; clear H11
   refine c_exit ?_
   refine c_close m_3 () 0 [0] (by exact ⟨rfl, trivial⟩) (by decide) rfl (by exact ⟨H18, trivial⟩) (Nat.lt_succ_self _)
 ·rintro m _ gg H10 _
  replace H10 : strings_makeASCIISet_j1 m = some r := H10
  refine c_tidyF [(2, .pointer (some ⟨b1, 0, none⟩))] [cellsC b1 (arrC 256 (fun j_ => [.bool (m j_)])) 96] rfl rfl ?_
  refine c_seq ?_
  refine c_region ?_
  refine l_loadN (i := 0) (vs := (arrC 256 (fun j_ => [.bool (m j_)]))) Tryz.isAgg96 Tryz.sizeOf96 rfl rfl rfl rfl (rd_whole (arrC_len (fun _ => rfl))) ?_
  refine l_store (i := 0) (vs := (arrC 256 (fun j_ => [.bool (m j_)]))) (cs' := (arrC 256 (fun j_ => [.bool (m j_)]))) Tryz.sizeOf96 rfl rfl rfl rfl (arrC_len (fun _ => rfl)) rfl (arrC_one (fun _ => rfl)) rfl (wr_whole ((arrC_len (fun _ => rfl)).trans (arrC_len (fun _ => rfl)).symm)) ?_
  refine l_val rfl rfl rfl (r_assign (v := .bool true) rfl) ?_
  refine l_nil ?_
  refine c_ret ?_
  obtain rfl := Option.some.inj H10
  refine retCt (i := 0) (vs := (arrC 256 (fun j_ => [.bool (m j_)]))) (v2 := .bool true) Tryz.isAgg96 Tryz.sizeOf96 rfl rfl rfl (rd_whole (arrC_len (fun _ => rfl))) rfl (fin rfl)
theorem k93 {a0 : (Nat → Bool)} {pb0 : Nat} {a1 : Int} {r : Bool × (Nat → Bool)} {w : World} {h : Heap} {S : Nat → Prop} (hcs : (cellsC pb0 (arrC 256 (fun j_ => [.bool (a0 j_)])) 96).P S w) (hlt : ∀ b, S b → b < w.heap.size) (hw : Know h w S) (H : strings_asciiSet_contains a0 a1 = some r) : Does Tryz.prog 93 (List.toArray [.pointer (some ⟨pb0, 0, none⟩), .int .u8 a1]) w (fun v w' => ∃ x : Unit, v = (.bool r.1) ∧ Turn w w' S (cellsC pb0 (arrC 256 (fun j_ => [.bool (r.2 j_)])) 96)) := by
 refine enter (n := 10) Tryz.func93 rfl rfl rfl S [cellsC pb0 (arrC 256 (fun j_ => [.bool (a0 j_)])) 96] (Sat.one hcs hlt) ?_
 refine c_seq ?_
 refine c_region ?_
 refine l_val rfl rfl rfl (r_assign (v := .bool false) rfl) ?_
 refine l_nil ?_
 refine c_seq ?_
 refine c_region ?_
 refine l_val rfl rfl rfl (r_move (v := .pointer (some ⟨pb0, 0, none⟩)) rfl) ?_
 refine l_val rfl rfl rfl (r_move (v := .int .u8 a1) rfl) ?_
 refine l_val rfl rfl rfl (r_nilCheck rfl) ?_
 obtain ⟨k8, h_k8, H2⟩ := bnd_some H; clear H
 refine l_val rfl rfl rfl (r_indexPG Tryz.runUnderlying96 Tryz.sizeOf4 rfl rfl h_k8) ?_
 refine l_load1 (i := 0) (v := .bool (a0 k8)) Tryz.isAgg4 rfl rfl rfl rfl (rg_arr (pre := []) (post := []) (f := fun j_ => [.bool (a0 j_)]) (n := 256) (sz := 1) (q := 0) (arr_whole _ _) rfl (fun _ => rfl) (gIx_lt h_k8) rfl) ?_
 refine l_val rfl rfl rfl (r_assign (v := .bool (a0 k8)) rfl) ?_
 refine l_nil ?_
 refine c_ret ?_
 obtain rfl := Option.some.inj H2
 refine ret1 (v := .bool (a0 k8)) rfl rfl (finX () (i := 0) rfl rfl (Imp.refl _))
theorem k74 {a0 : (List UInt8)} {a1 : (Nat → Bool)} {pb1 : Nat} {r : (List UInt8) × (Nat → Bool)} {w : World} {h : Heap} {S : Nat → Prop} (hcs : (cellsC pb1 (arrC 256 (fun j_ => [.bool (a1 j_)])) 96).P S w) (hlt : ∀ b, S b → b < w.heap.size) (hw : Know h w S) (H : strings_trimLeftASCII a0 a1 = some r) : Does Tryz.prog 74 (List.toArray [str a0, .pointer (some ⟨pb1, 0, none⟩)]) w (fun v w' => ∃ x : Unit, v = (str r.1) ∧ Turn w w' S (cellsC pb1 (arrC 256 (fun j_ => [.bool (r.2 j_)])) 96)) := by
 refine enter (n := 16) Tryz.func74 rfl rfl rfl S [cellsC pb1 (arrC 256 (fun j_ => [.bool (a1 j_)])) 96] (Sat.one hcs hlt) ?_
 refine c_seq ?_
 refine c_region ?_
 refine l_val rfl rfl rfl (r_assign (v := str []) rfl) ?_
 refine l_nil ?_
 refine c_seq ?_
 refine c_block ?_
 refine c_fix (σ := (List UInt8) × (Nat → Bool)) (τ := Unit) (fun next1 s => strings_trimLeftASCII_l1 next1 s.1 s.2) (fun s t => [(0, str s.1), (1, .pointer (some ⟨pb1, 0, none⟩))]) (fun s t => [cellsC pb1 (arrC 256 (fun j_ => [.bool (s.2 j_)])) 96]) (fun s t => True) (a0, a1) () [0] H (by exact trivial) (by exact ⟨rfl, rfl, trivial⟩) (by decide) rfl ?_
 rintro ⟨x0_2, m_2⟩ _ m1 gg H9 _
 clear H
 replace H9 : strings_trimLeftASCII_l1 (it (fun next1 s => strings_trimLeftASCII_l1 next1 s.1 s.2) m1) x0_2 m_2 = some r := H9
 generalize hn1 : it (fun next1 s => strings_trimLeftASCII_l1 next1 s.1 s.2) m1 = next1 at H9
 refine c_tidyF [(0, str x0_2), (1, .pointer (some ⟨pb1, 0, none⟩))] [cellsC pb1 (arrC 256 (fun j_ => [.bool (m_2 j_)])) 96] rfl rfl ?_
 refine c_seq ?_
 refine c_seq ?_
 refine c_region ?_
 refine l_val rfl rfl rfl (r_move (v := str x0_2) rfl) ?_
 refine l_val rfl rfl rfl (r_lenT Tryz.underlying9 rfl) ?_
 refine l_val rfl rfl rfl (r_gtr rfl rfl) ?_
 refine l_nil ?_
 refine c_if (b := (decide (0 < (x0_2.length : Int)))) rfl (fun hb => ?_) (fun hb => ?_)
 ·have H10 := cnd_t hb H9; clear H9
  refine c_skip ?_
  refine c_block ?_
  refine c_seq ?_
  refine c_seq ?_
  refine c_region ?_
  refine l_val rfl rfl rfl (r_move (v := .pointer (some ⟨pb1, 0, none⟩)) rfl) ?_
  refine l_val rfl rfl rfl (r_move (v := str x0_2) rfl) ?_
  obtain ⟨t10, h_t10, H11⟩ := bnd_some H10; clear H10
  refine l_val rfl rfl rfl (r_octG Tryz.underlying9 rfl rfl h_t10) ?_
  obtain ⟨t11, h_t11, H12⟩ := bnd_some H11; clear H11
  refine l_turn (turns_callB (i := 0) (rds := []) (G := fun x : Unit => .bool t11.1) (C := fun x : Unit => cellsC pb1 (arrC 256 (fun j_ => [.bool (t11.2 j_)])) 96) rfl (fun w L' S hF hS hi hp hlt ho hA => k93 hp hlt (know_but w S)  h_t11) Tryz.call93 rfl) rfl rfl rfl (fun _ => ?_)
  refine l_val rfl rfl rfl (r_not rfl) ?_
  refine l_nil ?_
  refine c_if (b := (!t11.1)) rfl (fun hb => ?_) (fun hb => ?_)
  ·have H13 := cnd_t hb H12; clear H12
   refine c_exit ?_
   refine c_seq ?_
   refine c_region ?_
   refine l_val rfl rfl rfl (r_move (v := str x0_2) rfl) ?_
   refine l_val rfl rfl rfl (r_assign (v := str x0_2) rfl) ?_
   refine l_nil ?_
   refine c_ret ?_
   obtain rfl := Option.some.inj H13
   refine ret1 (v := str x0_2) rfl rfl (finX () (i := 0) rfl rfl (Imp.refl _))
  ·have H14 := cnd_f hb H12; clear H12
   refine c_skip ?_
   refine c_region ?_
   refine l_val rfl rfl rfl (r_move (v := str x0_2) rfl) ?_
   obtain ⟨t14, h_t14, H15⟩ := bnd_some H14; clear H14
   refine l_val rfl rfl rfl (r_cutFromG Tryz.underlying9 rfl rfl h_t14) ?_
   refine l_val rfl rfl rfl (r_assign (v := str t14) rfl) ?_
   refine l_nil ?_
   refine c_close (t14, t11.2) () m1 [0] (by exact ⟨rfl, rfl, trivial⟩) (by decide) rfl (by exact ⟨(by subst hn1; exact H15), trivial⟩) (Nat.lt_succ_self _)
 ·have H16 := cnd_f hb H9; clear H9
  refine c_exit ?_
  refine c_seq ?_
  refine c_region ?_
  refine l_val rfl rfl rfl (r_move (v := str x0_2) rfl) ?_
  refine l_val rfl rfl rfl (r_assign (v := str x0_2) rfl) ?_
  refine l_nil ?_
  refine c_ret ?_
  obtain rfl := Option.some.inj H16
  refine ret1 (v := str x0_2) rfl rfl (finX () (i := 0) rfl rfl (Imp.refl _))
theorem k75 {a0 : (List UInt8)} {a1 : (Nat → Bool)} {pb1 : Nat} {r : (List UInt8) × (Nat → Bool)} {w : World} {h : Heap} {S : Nat → Prop} (hcs : (cellsC pb1 (arrC 256 (fun j_ => [.bool (a1 j_)])) 96).P S w) (hlt : ∀ b, S b → b < w.heap.size) (hw : Know h w S) (H : strings_trimRightASCII a0 a1 = some r) : Does Tryz.prog 75 (List.toArray [str a0, .pointer (some ⟨pb1, 0, none⟩)]) w (fun v w' => ∃ x : Unit, v = (str r.1) ∧ Turn w w' S (cellsC pb1 (arrC 256 (fun j_ => [.bool (r.2 j_)])) 96)) := by
 refine enter (n := 22) Tryz.func75 rfl rfl rfl S [cellsC pb1 (arrC 256 (fun j_ => [.bool (a1 j_)])) 96] (Sat.one hcs hlt) ?_
 refine c_seq ?_
 refine c_region ?_
 refine l_val rfl rfl rfl (r_assign (v := str []) rfl) ?_
 refine l_nil ?_
 refine c_seq ?_
 refine c_block ?_
 refine c_fix (σ := (List UInt8) × (Nat → Bool)) (τ := Unit) (fun next1 s => strings_trimRightASCII_l1 next1 s.1 s.2) (fun s t => [(0, str s.1), (1, .pointer (some ⟨pb1, 0, none⟩))]) (fun s t => [cellsC pb1 (arrC 256 (fun j_ => [.bool (s.2 j_)])) 96]) (fun s t => True) (a0, a1) () [0] H (by exact trivial) (by exact ⟨rfl, rfl, trivial⟩) (by decide) rfl ?_
 rintro ⟨x0_2, m_2⟩ _ m1 gg H11 _
 clear H
 replace H11 : strings_trimRightASCII_l1 (it (fun next1 s => strings_trimRightASCII_l1 next1 s.1 s.2) m1) x0_2 m_2 = some r := H11
 generalize hn1 : it (fun next1 s => strings_trimRightASCII_l1 next1 s.1 s.2) m1 = next1 at H11
 refine c_tidyF [(0, str x0_2), (1, .pointer (some ⟨pb1, 0, none⟩))] [cellsC pb1 (arrC 256 (fun j_ => [.bool (m_2 j_)])) 96] rfl rfl ?_
 refine c_seq ?_
 refine c_seq ?_
 refine c_region ?_
 refine l_val rfl rfl rfl (r_move (v := str x0_2) rfl) ?_
 refine l_val rfl rfl rfl (r_lenT Tryz.underlying9 rfl) ?_
 refine l_val rfl rfl rfl (r_gtr rfl rfl) ?_
 refine l_nil ?_
 refine c_if (b := (decide (0 < (x0_2.length : Int)))) rfl (fun hb => ?_) (fun hb => ?_)
 ·have H12 := cnd_t hb H11; clear H11
  refine c_skip ?_
  refine c_block ?_
  refine c_seq ?_
  refine c_seq ?_
  refine c_region ?_
  refine l_val rfl rfl rfl (r_move (v := .pointer (some ⟨pb1, 0, none⟩)) rfl) ?_
  refine l_val rfl rfl rfl (r_move (v := str x0_2) rfl) ?_
  refine l_val rfl rfl rfl (r_move (v := str x0_2) rfl) ?_
  refine l_val rfl rfl rfl (r_lenT Tryz.underlying9 rfl) ?_
  obtain ⟨t12, h_t12, H13⟩ := bnd_some H12; clear H12
  refine l_val rfl rfl rfl (r_subG rfl rfl h_t12) ?_
  obtain ⟨t13, h_t13, H14⟩ := bnd_some H13; clear H13
  refine l_val rfl rfl rfl (r_octG Tryz.underlying9 rfl rfl h_t13) ?_
  obtain ⟨t14, h_t14, H15⟩ := bnd_some H14; clear H14
  refine l_turn (turns_callB (i := 0) (rds := []) (G := fun x : Unit => .bool t14.1) (C := fun x : Unit => cellsC pb1 (arrC 256 (fun j_ => [.bool (t14.2 j_)])) 96) rfl (fun w L' S hF hS hi hp hlt ho hA => k93 hp hlt (know_but w S)  h_t14) Tryz.call93 rfl) rfl rfl rfl (fun _ => ?_)
  refine l_val rfl rfl rfl (r_not rfl) ?_
  refine l_nil ?_
  refine c_if (b := (!t14.1)) rfl (fun hb => ?_) (fun hb => ?_)
  ·have H16 := cnd_t hb H15; clear H15
   refine c_exit ?_
   refine c_seq ?_
   refine c_region ?_
   refine l_val rfl rfl rfl (r_move (v := str x0_2) rfl) ?_
   refine l_val rfl rfl rfl (r_assign (v := str x0_2) rfl) ?_
   refine l_nil ?_
   refine c_ret ?_
   obtain rfl := Option.some.inj H16
   refine ret1 (v := str x0_2) rfl rfl (finX () (i := 0) rfl rfl (Imp.refl _))
  ·have H17 := cnd_f hb H15; clear H15
   refine c_skip ?_
   refine c_region ?_
   refine l_val rfl rfl rfl (r_move (v := str x0_2) rfl) ?_
   refine l_val rfl rfl rfl (r_move (v := str x0_2) rfl) ?_
   refine l_val rfl rfl rfl (r_lenT Tryz.underlying9 rfl) ?_
   obtain ⟨t19, h_t19, H18⟩ := bnd_some H17; clear H17
   refine l_val rfl rfl rfl (r_subG rfl rfl h_t19) ?_
   obtain ⟨t20, h_t20, H19⟩ := bnd_some H18; clear H18
   refine l_val rfl rfl rfl (r_cutToG Tryz.underlying9 rfl rfl h_t20) ?_
   refine l_val rfl rfl rfl (r_assign (v := str t20) rfl) ?_
   refine l_nil ?_
   refine c_close (t20, t14.2) () m1 [0] (by exact ⟨rfl, rfl, trivial⟩) (by decide) rfl (by exact ⟨(by subst hn1; exact H19), trivial⟩) (Nat.lt_succ_self _)
 ·have H20 := cnd_f hb H11; clear H11
  refine c_exit ?_
  refine c_seq ?_
  refine c_region ?_
  refine l_val rfl rfl rfl (r_move (v := str x0_2) rfl) ?_
  refine l_val rfl rfl rfl (r_assign (v := str x0_2) rfl) ?_
  refine l_nil ?_
  refine c_ret ?_
  obtain rfl := Option.some.inj H20
  refine ret1 (v := str x0_2) rfl rfl (finX () (i := 0) rfl rfl (Imp.refl _))
theorem k115 {a0 : Int} {r : Bool} (H : unicode_utf8_ValidRune a0 = some r) : Ret Tryz.prog 115 [.int .i32 a0] (.bool r) := by
 refine enterRet (n := 17) Tryz.func115 rfl rfl rfl (fun wd => ?_)
 refine c_seq ?_
 refine c_region ?_
 refine l_val rfl rfl rfl (r_assign (v := .bool false) rfl) ?_
 refine l_nil ?_
 refine c_seq ?_
 refine c_block ?_
 refine c_meet (r := r) (σ := Bool) (τ := Unit) (fun s => unicode_utf8_ValidRune_j1 a0 s) (fun s t => [(0, .int .i32 a0), (3, .bool s)]) (fun s t => []) (fun s t => True) ?_ ?_
 ·refine c_region ?_
  refine l_val rfl rfl rfl (r_move (v := .int .i32 a0) rfl) ?_
  refine l_val rfl rfl rfl (r_leq rfl rfl) ?_
  refine l_val rfl rfl rfl (r_move (v := .bool (decide (0 ≤ a0))) rfl) ?_
  refine split (fun hb => ?_) (fun hb => ?_)
  ·have H17 := cnd_t hb H; clear H
   refine l_val rfl rfl rfl (r_move (v := .int .i32 a0) rfl) ?_
   refine l_val rfl rfl rfl (r_lss rfl rfl) ?_
   refine l_val rfl rfl rfl (r_pickT (v := .bool (decide (a0 < 55296))) rfl rfl) ?_
   refine l_val rfl rfl rfl (r_assign (v := .bool (decide (a0 < 55296))) rfl) ?_
   refine l_nil ?_
   refine c_close (decide (a0 < 55296)) () 0 [] (by exact ⟨rfl, rfl, trivial⟩) (by decide) rfl (by exact ⟨H17, trivial⟩) (Nat.lt_succ_self _)
  ·have H18 := cnd_f hb H; clear H
   refine l_passed rfl rfl rfl ?_
   refine l_passed rfl rfl rfl ?_
   refine l_val rfl rfl rfl (r_pickF (v := .bool false) rfl rfl) ?_
   refine l_val rfl rfl rfl (r_assign (v := .bool false) rfl) ?_
   refine l_nil ?_
   refine c_close false () 0 [] (by exact ⟨rfl, rfl, trivial⟩) (by decide) rfl (by exact ⟨H18, trivial⟩) (Nat.lt_succ_self _)
 ·rintro x3 _ gg H10 _
  replace H10 : unicode_utf8_ValidRune_j1 a0 x3 = some r := H10
  refine c_tidyF [(0, .int .i32 a0), (3, .bool x3)] [] rfl rfl ?_
  refine c_if (b := x3) rfl (fun hb => ?_) (fun hb => ?_)
  ·have H11 := cnd_t hb H10; clear H10
   refine c_seq ?_
   refine c_region ?_
   refine l_val rfl rfl rfl (r_assign (v := .bool true) rfl) ?_
   refine l_nil ?_
   refine c_ret ?_
   obtain rfl := Option.some.inj H11
   refine ret1 (v := .bool true) rfl rfl (fin rfl)
  ·have H12 := cnd_f hb H10; clear H10
   refine c_seq ?_
   refine c_region ?_
   refine l_val rfl rfl rfl (r_move (v := .int .i32 a0) rfl) ?_
   refine l_val rfl rfl rfl (r_lss rfl rfl) ?_
   refine l_val rfl rfl rfl (r_move (v := .bool (decide (57343 < a0))) rfl) ?_
   refine split (fun hb => ?_) (fun hb => ?_)
   ·have H13 := cnd_t hb H12; clear H12
    refine l_val rfl rfl rfl (r_move (v := .int .i32 a0) rfl) ?_
    refine l_val rfl rfl rfl (r_leq rfl rfl) ?_
    refine l_val rfl rfl rfl (r_pickT (v := .bool (decide (a0 ≤ 1114111))) rfl rfl) ?_
    refine l_val rfl rfl rfl (r_assign (v := .bool (decide (a0 ≤ 1114111))) rfl) ?_
    refine l_nil ?_
    refine c_if (b := (decide (a0 ≤ 1114111))) rfl (fun hb => ?_) (fun hb => ?_)
    ·have H14 := cnd_t hb H13; clear H13
     refine c_seq ?_
     refine c_region ?_
     refine l_val rfl rfl rfl (r_assign (v := .bool true) rfl) ?_
     refine l_nil ?_
     refine c_ret ?_
     obtain rfl := Option.some.inj H14
     refine ret1 (v := .bool true) rfl rfl (fin rfl)
    ·have H15 := cnd_f hb H13; clear H13
     refine c_skip ?_
     refine c_seq ?_
     refine c_region ?_
     refine l_val rfl rfl rfl (r_assign (v := .bool false) rfl) ?_
     refine l_nil ?_
     refine c_ret ?_
     obtain rfl := Option.some.inj H15
     refine ret1 (v := .bool false) rfl rfl (fin rfl)
   ·have H16 := cnd_f hb H12; clear H12
    refine l_passed rfl rfl rfl ?_
    refine l_passed rfl rfl rfl ?_
    refine l_val rfl rfl rfl (r_pickF (v := .bool false) rfl rfl) ?_
    refine l_val rfl rfl rfl (r_assign (v := .bool false) rfl) ?_
    refine l_nil ?_
    refine c_false rfl ?_
    refine c_skip ?_
    refine c_seq ?_
    refine c_region ?_
    refine l_val rfl rfl rfl (r_assign (v := .bool false) rfl) ?_
    refine l_nil ?_
    refine c_ret ?_
    obtain rfl := Option.some.inj H16
    refine ret1 (v := .bool false) rfl rfl (fin rfl)
theorem k108 {a0 : (List UInt8)} {a1 : Int} {r : Int} (H : strings_IndexRune a0 a1 = some r) : Ret Tryz.prog 108 [str a0, .int .i32 a1] (.int .i64 r) := by
 refine enterRet (n := 187) Tryz.func108 rfl rfl rfl (fun wd => ?_)
 refine c_seq ?_
 refine c_region ?_
 refine l_val rfl rfl rfl (r_assign (v := .int .i64 0) rfl) ?_
 refine l_nil ?_
 refine c_block ?_
 refine c_meet (r := r) (σ := Bool) (τ := Unit) (fun s => strings_IndexRune_j1 a0 a1 s) (fun s t => [(0, str a0), (1, .int .i32 a1), (160, .bool s)]) (fun s t => []) (fun s t => True) ?_ ?_
 ·refine c_region ?_
  refine l_val rfl rfl rfl (r_move (v := .int .i32 a1) rfl) ?_
  refine l_val rfl rfl rfl (r_leq rfl rfl) ?_
  refine l_val rfl rfl rfl (r_move (v := .bool (decide (0 ≤ a1))) rfl) ?_
  refine split (fun hb => ?_) (fun hb => ?_)
  ·have H33 := cnd_t hb H; clear H
   refine l_val rfl rfl rfl (r_move (v := .int .i32 a1) rfl) ?_
   refine l_val rfl rfl rfl (r_lss rfl rfl) ?_
   refine l_val rfl rfl rfl (r_pickT (v := .bool (decide (a1 < 128))) rfl rfl) ?_
   refine l_val rfl rfl rfl (r_assign (v := .bool (decide (a1 < 128))) rfl) ?_
   refine l_nil ?_
   refine c_close (decide (a1 < 128)) () 0 [] (by exact ⟨rfl, rfl, rfl, trivial⟩) (by decide) rfl (by exact ⟨H33, trivial⟩) (Nat.lt_succ_self _)
  ·have H34 := cnd_f hb H; clear H
   refine l_passed rfl rfl rfl ?_
   refine l_passed rfl rfl rfl ?_
   refine l_val rfl rfl rfl (r_pickF (v := .bool false) rfl rfl) ?_
   refine l_val rfl rfl rfl (r_assign (v := .bool false) rfl) ?_
   refine l_nil ?_
   refine c_close false () 0 [] (by exact ⟨rfl, rfl, rfl, trivial⟩) (by decide) rfl (by exact ⟨H34, trivial⟩) (Nat.lt_succ_self _)
 ·rintro x160 _ gg H18 _
  replace H18 : strings_IndexRune_j1 a0 a1 x160 = some r := H18
  refine c_tidyF [(0, str a0), (1, .int .i32 a1), (160, .bool x160)] [] rfl rfl ?_
  refine c_if (b := x160) rfl (fun hb => ?_) (fun hb => ?_)
  ·have H19 := cnd_t hb H18; clear H18
   refine c_seq ?_
   refine c_region ?_
   refine l_val rfl rfl rfl (r_move (v := str a0) rfl) ?_
   refine l_val rfl rfl rfl (r_move (v := .int .i32 a1) rfl) ?_
   refine l_val rfl rfl rfl (r_convG Tryz.runUnderlying21 Tryz.runUnderlying5 rfl (wr_u8 _)) ?_
   obtain ⟨t170, h_t170, H20⟩ := bnd_some H19; clear H19
   refine l_call (k14 h_t170) Tryz.call14 rfl rfl rfl ?_
   refine l_val rfl rfl rfl (r_assign (v := .int .i64 t170) rfl) ?_
   refine l_nil ?_
   refine c_ret ?_
   obtain rfl := Option.some.inj H20
   refine ret1 (v := .int .i64 t170) rfl rfl (fin rfl)
  ·have H21 := cnd_f hb H18; clear H18
   refine c_seq ?_
   refine c_region ?_
   refine l_val rfl rfl rfl (r_move (v := .int .i32 a1) rfl) ?_
   refine l_val rfl rfl rfl (r_eql rfl rfl) ?_
   refine l_val rfl rfl rfl (r_assign (v := .bool (decide (a1 = 65533))) rfl) ?_
   refine l_nil ?_
   refine c_if (b := (decide (a1 = 65533))) rfl (fun hb => ?_) (fun hb => ?_)
   ·have H22 := cnd_t hb H21; clear H21
    refine c_seq ?_
    refine c_seq ?_
    refine c_region ?_
    refine l_val rfl rfl rfl (r_move (v := str a0) rfl) ?_
    refine l_make (rds := []) (makes_range (s := a0) Tryz.underlying9 rfl) rfl rfl rfl (fun b1 => ?_)
    refine l_nil ?_
    refine c_block ?_
    refine c_fix (σ := Nat) (τ := Unit) (fun next2 s => strings_IndexRune_l2 a0 next2 s) (fun s t => [(175, .pointer (some ⟨b1, 0, none⟩))]) (fun s t => [iterC b1 a0 s]) (fun s t => True) 0 () [0] H22 (by exact trivial) (by exact ⟨rfl, trivial⟩) (by decide) rfl ?_
    rintro k_2 _ m2 gg H23 _
    clear H22
    replace H23 : strings_IndexRune_l2 a0 (it (fun next2 s => strings_IndexRune_l2 a0 next2 s) m2) k_2 = some r := H23
    generalize hn2 : it (fun next2 s => strings_IndexRune_l2 a0 next2 s) m2 = next2 at H23
    refine c_tidyF [(175, .pointer (some ⟨b1, 0, none⟩))] [iterC b1 a0 k_2] rfl rfl ?_
    refine c_seq ?_
    refine c_region ?_
    refine caseB (decide (k_2 < a0.length)) (fun hb => ?_) (fun hb => ?_)
    ·have H24 := cnd_t hb H23; clear H23
     obtain ⟨t176, h_t176, H25⟩ := bnd_some H24; clear H24
     refine l_turn (turns_next (i := 0) (rds := []) rfl rfl h_t176) rfl rfl rfl (fun _ => ?_)
     refine l_val rfl rfl rfl (r_extract (v := .bool true) rfl rfl) ?_
     refine l_nil ?_
     refine c_seq ?_
     refine c_true rfl ?_
     refine c_skip ?_
     refine c_block ?_
     refine c_seq ?_
     refine c_region ?_
     refine l_val rfl rfl rfl (r_extract (v := .int .i64 ((k_2 : Nat) : Int)) rfl rfl) ?_
     refine l_val rfl rfl rfl (r_extract (v := .int .i32 t176) rfl rfl) ?_
     refine l_val rfl rfl rfl (r_assign (v := .int .i64 ((k_2 : Nat) : Int)) rfl) ?_
     refine l_val rfl rfl rfl (r_assign (v := .int .i32 t176) rfl) ?_
     refine l_nil ?_
     refine c_seq ?_
     refine c_region ?_
     refine l_val rfl rfl rfl (r_move (v := .int .i32 t176) rfl) ?_
     refine l_val rfl rfl rfl (r_eql rfl rfl) ?_
     refine l_nil ?_
     refine c_if (b := (decide (t176 = 65533))) rfl (fun hb => ?_) (fun hb => ?_)
     ·have H26 := cnd_t hb H25; clear H25
      refine c_seq ?_
      refine c_region ?_
      refine l_val rfl rfl rfl (r_move (v := .int .i64 ((k_2 : Nat) : Int)) rfl) ?_
      refine l_val rfl rfl rfl (r_assign (v := .int .i64 ((k_2 : Nat) : Int)) rfl) ?_
      refine l_nil ?_
      refine c_ret ?_
      obtain rfl := Option.some.inj H26
      refine ret1 (v := .int .i64 ((k_2 : Nat) : Int)) rfl rfl (fin rfl)
     ·have H27 := cnd_f hb H25; clear H25
      refine c_skip ?_
      refine c_close (k_2 + 1) () m2 [0] (by exact ⟨rfl, trivial⟩) (by decide) rfl (by exact ⟨(by subst hn2; exact H27), trivial⟩) (Nat.lt_succ_self _)
    ·have H28 := cnd_f hb H23; clear H23
     refine l_read (fun w hF hS => r_nextOver (i := 0) hS rfl rfl hb) rfl rfl rfl ?_
     refine l_val rfl rfl rfl (r_extract (v := .bool false) rfl rfl) ?_
     refine l_nil ?_
     refine c_seq ?_
     refine c_false rfl ?_
     refine c_exit ?_
     refine c_seq ?_
     refine c_region ?_
     refine l_val rfl rfl rfl (r_assign (v := .int .i64 (-1)) rfl) ?_
     refine l_nil ?_
     refine c_ret ?_
     obtain rfl := Option.some.inj H28
     refine ret1 (v := .int .i64 (-1)) rfl rfl (fin rfl)
   ·have H29 := cnd_f hb H21; clear H21
    refine c_seq ?_
    refine c_region ?_
    refine l_val rfl rfl rfl (r_move (v := .int .i32 a1) rfl) ?_
    obtain ⟨t185, h_t185, H30⟩ := bnd_some H29; clear H29
    refine l_call (k115 h_t185) Tryz.call115 rfl rfl rfl ?_
    refine l_val rfl rfl rfl (r_not rfl) ?_
    refine l_val rfl rfl rfl (r_assign (v := .bool (!t185)) rfl) ?_
    refine l_nil ?_
    refine c_if (b := (!t185)) rfl (fun hb => ?_) (fun hb => ?_)
    ·have H31 := cnd_t hb H30; clear H30
     refine c_seq ?_
     refine c_region ?_
     refine l_val rfl rfl rfl (r_assign (v := .int .i64 (-1)) rfl) ?_
     refine l_nil ?_
     refine c_ret ?_
     obtain rfl := Option.some.inj H31
     refine ret1 (v := .int .i64 (-1)) rfl rfl (fin rfl)
    ·have H32 := cnd_f hb H30; clear H30
     exact absurd (show (none : Option (Int)) = some r from H32) (fun h => by cases h)
theorem k94 {a0 : (List UInt8)} {a1 : Int} {r : Bool} (H : strings_ContainsRune a0 a1 = some r) : Ret Tryz.prog 94 [str a0, .int .i32 a1] (.bool r) := by
 refine enterRet (n := 9) Tryz.func94 rfl rfl rfl (fun wd => ?_)
 refine c_seq ?_
 refine c_region ?_
 refine l_val rfl rfl rfl (r_assign (v := .bool false) rfl) ?_
 refine l_nil ?_
 refine c_seq ?_
 refine c_region ?_
 refine l_val rfl rfl rfl (r_move (v := str a0) rfl) ?_
 refine l_val rfl rfl rfl (r_move (v := .int .i32 a1) rfl) ?_
 obtain ⟨t7, h_t7, H2⟩ := bnd_some H; clear H
 refine l_call (k108 h_t7) Tryz.call108 rfl rfl rfl ?_
 refine l_val rfl rfl rfl (r_geq rfl rfl) ?_
 refine l_val rfl rfl rfl (r_assign (v := .bool (decide (0 ≤ t7))) rfl) ?_
 refine l_nil ?_
 refine c_ret ?_
 obtain rfl := Option.some.inj H2
 refine ret1 (v := .bool (decide (0 ≤ t7))) rfl rfl (fin rfl)
theorem k76 {a0 : (List UInt8)} {a1 : (List UInt8)} {r : (List UInt8)} (H : strings_trimLeftUnicode a0 a1 = some r) : Ret Tryz.prog 76 [str a0, str a1] (str r) := by
 refine enterRet (n := 23) Tryz.func76 rfl rfl rfl (fun wd => ?_)
 refine c_seq ?_
 refine c_region ?_
 refine l_val rfl rfl rfl (r_assign (v := str []) rfl) ?_
 refine l_nil ?_
 refine c_seq ?_
 refine c_block ?_
 refine c_fix (σ := (List UInt8)) (τ := Unit) (fun next1 s => strings_trimLeftUnicode_l1 a1 next1 s) (fun s t => [(0, str s), (1, str a1)]) (fun s t => []) (fun s t => True) a0 () [] H (by exact trivial) (by exact ⟨rfl, rfl, trivial⟩) (by decide) rfl ?_
 rintro x0_2 _ m1 gg H9 _
 clear H
 replace H9 : strings_trimLeftUnicode_l1 a1 (it (fun next1 s => strings_trimLeftUnicode_l1 a1 next1 s) m1) x0_2 = some r := H9
 generalize hn1 : it (fun next1 s => strings_trimLeftUnicode_l1 a1 next1 s) m1 = next1 at H9
 refine c_tidyF [(0, str x0_2), (1, str a1)] [] rfl rfl ?_
 refine c_seq ?_
 refine c_seq ?_
 refine c_region ?_
 refine l_val rfl rfl rfl (r_move (v := str x0_2) rfl) ?_
 refine l_val rfl rfl rfl (r_lenT Tryz.underlying9 rfl) ?_
 refine l_val rfl rfl rfl (r_gtr rfl rfl) ?_
 refine l_nil ?_
 refine c_if (b := (decide (0 < (x0_2.length : Int)))) rfl (fun hb => ?_) (fun hb => ?_)
 ·have H10 := cnd_t hb H9; clear H9
  refine c_skip ?_
  refine c_block ?_
  refine c_seq ?_
  refine c_region ?_
  refine l_val rfl rfl rfl (r_move (v := str x0_2) rfl) ?_
  obtain ⟨t12, h_t12, H11⟩ := bnd_some H10; clear H10
  refine l_call (k87 h_t12) Tryz.call87 rfl rfl rfl ?_
  refine l_val rfl rfl rfl (r_move (v := .tuple #[.int .i32 t12.1, .int .i64 t12.2]) rfl) ?_
  refine l_val rfl rfl rfl (r_extract (v := .int .i32 t12.1) rfl rfl) ?_
  refine l_val rfl rfl rfl (r_extract (v := .int .i64 t12.2) rfl rfl) ?_
  refine l_val rfl rfl rfl (r_assign (v := .int .i32 t12.1) rfl) ?_
  refine l_val rfl rfl rfl (r_assign (v := .int .i64 t12.2) rfl) ?_
  refine l_nil ?_
  refine c_seq ?_
  refine c_seq ?_
  refine c_region ?_
  refine l_val rfl rfl rfl (r_move (v := str a1) rfl) ?_
  refine l_val rfl rfl rfl (r_move (v := .int .i32 t12.1) rfl) ?_
  obtain ⟨t17, h_t17, H12⟩ := bnd_some H11; clear H11
  refine l_call (k94 h_t17) Tryz.call94 rfl rfl rfl ?_
  refine l_val rfl rfl rfl (r_not rfl) ?_
  refine l_nil ?_
  refine c_if (b := (!t17)) rfl (fun hb => ?_) (fun hb => ?_)
  ·have H13 := cnd_t hb H12; clear H12
   refine c_exit ?_
   refine c_seq ?_
   refine c_region ?_
   refine l_val rfl rfl rfl (r_move (v := str x0_2) rfl) ?_
   refine l_val rfl rfl rfl (r_assign (v := str x0_2) rfl) ?_
   refine l_nil ?_
   refine c_ret ?_
   obtain rfl := Option.some.inj H13
   refine ret1 (v := str x0_2) rfl rfl (fin rfl)
  ·have H14 := cnd_f hb H12; clear H12
   refine c_skip ?_
   refine c_region ?_
   refine l_val rfl rfl rfl (r_move (v := str x0_2) rfl) ?_
   refine l_val rfl rfl rfl (r_move (v := .int .i64 t12.2) rfl) ?_
   obtain ⟨t21, h_t21, H15⟩ := bnd_some H14; clear H14
   refine l_val rfl rfl rfl (r_cutFromG Tryz.underlying9 rfl rfl h_t21) ?_
   refine l_val rfl rfl rfl (r_assign (v := str t21) rfl) ?_
   refine l_nil ?_
   refine c_close t21 () m1 [] (by exact ⟨rfl, rfl, trivial⟩) (by decide) rfl (by exact ⟨(by subst hn1; exact H15), trivial⟩) (Nat.lt_succ_self _)
 ·have H16 := cnd_f hb H9; clear H9
  refine c_exit ?_
  refine c_seq ?_
  refine c_region ?_
  refine l_val rfl rfl rfl (r_move (v := str x0_2) rfl) ?_
  refine l_val rfl rfl rfl (r_assign (v := str x0_2) rfl) ?_
  refine l_nil ?_
  refine c_ret ?_
  obtain rfl := Option.some.inj H16
  refine ret1 (v := str x0_2) rfl rfl (fin rfl)
theorem k109 {a0 : Int} {r : Bool} (H : unicode_utf8_RuneStart a0 = some r) : Ret Tryz.prog 109 [.int .u8 a0] (.bool r) := by
 refine enterRet (n := 6) Tryz.func109 rfl rfl rfl (fun wd => ?_)
 refine c_seq ?_
 refine c_region ?_
 refine l_val rfl rfl rfl (r_assign (v := .bool false) rfl) ?_
 refine l_nil ?_
 refine c_seq ?_
 refine c_region ?_
 refine l_val rfl rfl rfl (r_move (v := .int .u8 a0) rfl) ?_
 refine l_val rfl rfl rfl (r_bitsAnd (bits := 8) rfl rfl rfl (wr_u8 _)) ?_
 refine l_val rfl rfl rfl (r_neq rfl rfl) ?_
 refine l_val rfl rfl rfl (r_assign (v := .bool (decide ((wU8 (bAnd 8 a0 192)) ≠ 128))) rfl) ?_
 refine l_nil ?_
 refine c_ret ?_
 obtain rfl := Option.some.inj H
 refine ret1 (v := .bool (decide ((wU8 (bAnd 8 a0 192)) ≠ 128))) rfl rfl (fin rfl)
theorem k95 {a0 : (List UInt8)} {r : Int × Int} (H : unicode_utf8_DecodeLastRuneInString a0 = some r) : Ret Tryz.prog 95 [str a0] (.tuple #[.int .i32 r.1, .int .i64 r.2]) := by
 refine enterRet (n := 51) Tryz.func95 rfl rfl rfl (fun wd => ?_)
 refine c_seq ?_
 refine c_region ?_
 refine l_val rfl rfl rfl (r_assign (v := .int .i32 0) rfl) ?_
 refine l_val rfl rfl rfl (r_assign (v := .int .i64 0) rfl) ?_
 refine l_nil ?_
 refine c_seq ?_
 refine c_region ?_
 refine l_val rfl rfl rfl (r_move (v := str a0) rfl) ?_
 refine l_val rfl rfl rfl (r_lenT Tryz.underlying9 rfl) ?_
 refine l_val rfl rfl rfl (r_assign (v := .int .i64 (a0.length : Int)) rfl) ?_
 refine l_nil ?_
 refine c_seq ?_
 refine c_seq ?_
 refine c_region ?_
 refine l_val rfl rfl rfl (r_move (v := .int .i64 (a0.length : Int)) rfl) ?_
 refine l_val rfl rfl rfl (r_eql rfl rfl) ?_
 refine l_nil ?_
 refine c_if (b := (decide ((a0.length : Int) = 0))) rfl (fun hb => ?_) (fun hb => ?_)
 ·have H27 := cnd_t hb H; clear H
  refine c_seq ?_
  refine c_region ?_
  refine l_val rfl rfl rfl (r_assign (v := .int .i32 65533) rfl) ?_
  refine l_val rfl rfl rfl (r_assign (v := .int .i64 0) rfl) ?_
  refine l_nil ?_
  refine c_ret ?_
  obtain rfl := Option.some.inj H27
  refine ret2 (v1 := .int .i32 65533) (v2 := .int .i64 0) rfl rfl rfl (fin rfl)
 ·have H28 := cnd_f hb H; clear H
  refine c_skip ?_
  refine c_seq ?_
  refine c_region ?_
  refine l_val rfl rfl rfl (r_move (v := .int .i64 (a0.length : Int)) rfl) ?_
  obtain ⟨t12, h_t12, H29⟩ := bnd_some H28; clear H28
  refine l_val rfl rfl rfl (r_subG rfl rfl h_t12) ?_
  refine l_val rfl rfl rfl (r_assign (v := .int .i64 t12) rfl) ?_
  refine l_nil ?_
  refine c_seq ?_
  refine c_region ?_
  refine l_val rfl rfl rfl (r_move (v := str a0) rfl) ?_
  refine l_val rfl rfl rfl (r_move (v := .int .i64 t12) rfl) ?_
  obtain ⟨t15, h_t15, H30⟩ := bnd_some H29; clear H29
  refine l_val rfl rfl rfl (r_octG Tryz.underlying9 rfl rfl h_t15) ?_
  obtain ⟨t16, h_t16, H31⟩ := bnd_some H30; clear H30
  refine l_val rfl rfl rfl (r_convG Tryz.runUnderlying5 Tryz.runUnderlying21 rfl (gK_i32 h_t16)) ?_
  refine l_val rfl rfl rfl (r_assign (v := .int .i32 t16) rfl) ?_
  refine l_nil ?_
  refine c_seq ?_
  refine c_seq ?_
  refine c_region ?_
  refine l_val rfl rfl rfl (r_move (v := .int .i32 t16) rfl) ?_
  refine l_val rfl rfl rfl (r_lss rfl rfl) ?_
  refine l_nil ?_
  refine c_if (b := (decide (t16 < 128))) rfl (fun hb => ?_) (fun hb => ?_)
  ·have H32 := cnd_t hb H31; clear H31
   refine c_seq ?_
   refine c_region ?_
   refine l_val rfl rfl rfl (r_move (v := .int .i32 t16) rfl) ?_
   refine l_val rfl rfl rfl (r_assign (v := .int .i32 t16) rfl) ?_
   refine l_val rfl rfl rfl (r_assign (v := .int .i64 1) rfl) ?_
   refine l_nil ?_
   refine c_ret ?_
   obtain rfl := Option.some.inj H32
   refine ret2 (v1 := .int .i32 t16) (v2 := .int .i64 1) rfl rfl rfl (fin rfl)
  ·have H33 := cnd_f hb H31; clear H31
   refine c_skip ?_
   refine c_seq ?_
   refine c_region ?_
   refine l_val rfl rfl rfl (r_move (v := .int .i64 (a0.length : Int)) rfl) ?_
   obtain ⟨t21, h_t21, H34⟩ := bnd_some H33; clear H33
   refine l_val rfl rfl rfl (r_subG rfl rfl h_t21) ?_
   refine l_val rfl rfl rfl (r_max rfl rfl) ?_
   refine l_val rfl rfl rfl (r_assign (v := .int .i64 (max t21 0)) rfl) ?_
   refine l_nil ?_
   refine c_meet (r := r) (σ := Int) (τ := Unit) (fun s => unicode_utf8_DecodeLastRuneInString_j1 a0 s) (fun s t => [(0, str a0), (4, .int .i64 (a0.length : Int)), (5, .int .i64 s)]) (fun s t => []) (fun s t => True) ?_ ?_
   ·refine c_seq ?_
    refine c_region ?_
    refine l_val rfl rfl rfl (r_move (v := .int .i64 t12) rfl) ?_
    obtain ⟨t24, h_t24, H44⟩ := bnd_some H34; clear H34
    refine l_val rfl rfl rfl (r_subG rfl rfl h_t24) ?_
    refine l_val rfl rfl rfl (r_assign (v := .int .i64 t24) rfl) ?_
    refine l_nil ?_
    refine c_block ?_
    refine c_fix (σ := Int) (τ := Unit) (fun next3 s => unicode_utf8_DecodeLastRuneInString_l3 a0 t21 next3 s) (fun s t => [(0, str a0), (4, .int .i64 (a0.length : Int)), (5, .int .i64 s), (6, .int .i64 (max t21 0))]) (fun s t => []) (fun s t => True) t24 () [] H44 (by exact trivial) (by exact ⟨rfl, rfl, rfl, rfl, trivial⟩) (by decide) rfl ?_
    rintro x5_4 _ m3 gg H45 _
    clear H44
    replace H45 : unicode_utf8_DecodeLastRuneInString_l3 a0 t21 (it (fun next3 s => unicode_utf8_DecodeLastRuneInString_l3 a0 t21 next3 s) m3) x5_4 = some r := H45
    generalize hn3 : it (fun next3 s => unicode_utf8_DecodeLastRuneInString_l3 a0 t21 next3 s) m3 = next3 at H45
    refine c_tidyF [(0, str a0), (4, .int .i64 (a0.length : Int)), (5, .int .i64 x5_4), (6, .int .i64 (max t21 0))] [] rfl rfl ?_
    refine c_seq ?_
    refine c_seq ?_
    refine c_region ?_
    refine l_val rfl rfl rfl (r_move (v := .int .i64 x5_4) rfl) ?_
    refine l_val rfl rfl rfl (r_move (v := .int .i64 (max t21 0)) rfl) ?_
    refine l_val rfl rfl rfl (r_geq rfl rfl) ?_
    refine l_nil ?_
    refine c_if (b := (decide ((max t21 0) ≤ x5_4))) rfl (fun hb => ?_) (fun hb => ?_)
    ·have H46 := cnd_t hb H45; clear H45
     refine c_skip ?_
     refine c_seq ?_
     refine c_block ?_
     refine c_seq ?_
     refine c_region ?_
     refine l_val rfl rfl rfl (r_move (v := str a0) rfl) ?_
     refine l_val rfl rfl rfl (r_move (v := .int .i64 x5_4) rfl) ?_
     obtain ⟨t32, h_t32, H47⟩ := bnd_some H46; clear H46
     refine l_val rfl rfl rfl (r_octG Tryz.underlying9 rfl rfl h_t32) ?_
     obtain ⟨t33, h_t33, H48⟩ := bnd_some H47; clear H47
     refine l_call (k109 h_t33) Tryz.call109 rfl rfl rfl ?_
     refine l_nil ?_
     refine c_if (b := t33) rfl (fun hb => ?_) (fun hb => ?_)
     ·have H49 := cnd_t hb H48; clear H48
      refine c_exit ?_
      refine c_close x5_4 () 0 [] (by exact ⟨rfl, rfl, rfl, trivial⟩) (by decide) rfl (by exact ⟨H49, trivial⟩) (Nat.lt_succ_self _)
     ·have H50 := cnd_f hb H48; clear H48
      refine c_skip ?_
      refine c_region ?_
      refine l_val rfl rfl rfl (r_move (v := .int .i64 x5_4) rfl) ?_
      obtain ⟨t29, h_t29, H51⟩ := bnd_some H50; clear H50
      refine l_val rfl rfl rfl (r_subG rfl rfl h_t29) ?_
      refine l_val rfl rfl rfl (r_assign (v := .int .i64 t29) rfl) ?_
      refine l_nil ?_
      refine c_close t29 () m3 [] (by exact ⟨rfl, rfl, rfl, rfl, trivial⟩) (by decide) rfl (by exact ⟨(by subst hn3; exact H51), trivial⟩) (Nat.lt_succ_self _)
    ·have H52 := cnd_f hb H45; clear H45
     refine c_exit ?_
     refine c_close x5_4 () 0 [] (by exact ⟨rfl, rfl, rfl, trivial⟩) (by decide) rfl (by exact ⟨H52, trivial⟩) (Nat.lt_succ_self _)
   ·rintro x5 _ gg H35 _
    replace H35 : unicode_utf8_DecodeLastRuneInString_j1 a0 x5 = some r := H35
    refine c_tidyF [(0, str a0), (4, .int .i64 (a0.length : Int)), (5, .int .i64 x5)] [] rfl rfl ?_
    refine c_meet (r := r) (σ := Int) (τ := Unit) (fun s => unicode_utf8_DecodeLastRuneInString_j2 a0 s) (fun s t => [(0, str a0), (4, .int .i64 (a0.length : Int)), (5, .int .i64 s)]) (fun s t => []) (fun s t => True) ?_ ?_
    ·refine c_seq ?_
     refine c_region ?_
     refine l_val rfl rfl rfl (r_move (v := .int .i64 x5) rfl) ?_
     refine l_val rfl rfl rfl (r_lss rfl rfl) ?_
     refine l_nil ?_
     refine c_if (b := (decide (x5 < 0))) rfl (fun hb => ?_) (fun hb => ?_)
     ·have H42 := cnd_t hb H35; clear H35
      refine c_region ?_
      refine l_val rfl rfl rfl (r_assign (v := .int .i64 0) rfl) ?_
      refine l_nil ?_
      refine c_close 0 () 0 [] (by exact ⟨rfl, rfl, rfl, trivial⟩) (by decide) rfl (by exact ⟨H42, trivial⟩) (Nat.lt_succ_self _)
     ·have H43 := cnd_f hb H35; clear H35
      refine c_skip ?_
      refine c_close x5 () 0 [] (by exact ⟨rfl, rfl, rfl, trivial⟩) (by decide) rfl (by exact ⟨H43, trivial⟩) (Nat.lt_succ_self _)
    ·rintro x5_2 _ gg H36 _
     replace H36 : unicode_utf8_DecodeLastRuneInString_j2 a0 x5_2 = some r := H36
     refine c_tidyF [(0, str a0), (4, .int .i64 (a0.length : Int)), (5, .int .i64 x5_2)] [] rfl rfl ?_
     refine c_seq ?_
     refine c_region ?_
     refine l_val rfl rfl rfl (r_move (v := str a0) rfl) ?_
     refine l_val rfl rfl rfl (r_move (v := .int .i64 x5_2) rfl) ?_
     refine l_val rfl rfl rfl (r_move (v := .int .i64 (a0.length : Int)) rfl) ?_
     obtain ⟨t40, h_t40, H37⟩ := bnd_some H36; clear H36
     refine l_val rfl rfl rfl (r_cutTG Tryz.underlying9 rfl rfl rfl h_t40) ?_
     obtain ⟨t41, h_t41, H38⟩ := bnd_some H37; clear H37
     refine l_call (k87 h_t41) Tryz.call87 rfl rfl rfl ?_
     refine l_val rfl rfl rfl (r_move (v := .tuple #[.int .i32 t41.1, .int .i64 t41.2]) rfl) ?_
     refine l_val rfl rfl rfl (r_extract (v := .int .i32 t41.1) rfl rfl) ?_
     refine l_val rfl rfl rfl (r_extract (v := .int .i64 t41.2) rfl rfl) ?_
     refine l_val rfl rfl rfl (r_assign (v := .int .i32 t41.1) rfl) ?_
     refine l_val rfl rfl rfl (r_assign (v := .int .i64 t41.2) rfl) ?_
     refine l_nil ?_
     refine c_seq ?_
     refine c_seq ?_
     refine c_region ?_
     refine l_val rfl rfl rfl (r_move (v := .int .i64 x5_2) rfl) ?_
     refine l_val rfl rfl rfl (r_move (v := .int .i64 t41.2) rfl) ?_
     obtain ⟨t46, h_t46, H39⟩ := bnd_some H38; clear H38
     refine l_val rfl rfl rfl (r_addG rfl rfl h_t46) ?_
     refine l_val rfl rfl rfl (r_move (v := .int .i64 (a0.length : Int)) rfl) ?_
     refine l_val rfl rfl rfl (r_neq rfl rfl) ?_
     refine l_nil ?_
     refine c_if (b := (decide (t46 ≠ (a0.length : Int)))) rfl (fun hb => ?_) (fun hb => ?_)
     ·have H40 := cnd_t hb H39; clear H39
      refine c_seq ?_
      refine c_region ?_
      refine l_val rfl rfl rfl (r_assign (v := .int .i32 65533) rfl) ?_
      refine l_val rfl rfl rfl (r_assign (v := .int .i64 1) rfl) ?_
      refine l_nil ?_
      refine c_ret ?_
      obtain rfl := Option.some.inj H40
      refine ret2 (v1 := .int .i32 65533) (v2 := .int .i64 1) rfl rfl rfl (fin rfl)
     ·have H41 := cnd_f hb H39; clear H39
      refine c_skip ?_
      refine c_seq ?_
      refine c_region ?_
      refine l_val rfl rfl rfl (r_move (v := .int .i32 t41.1) rfl) ?_
      refine l_val rfl rfl rfl (r_move (v := .int .i64 t41.2) rfl) ?_
      refine l_val rfl rfl rfl (r_assign (v := .int .i32 t41.1) rfl) ?_
      refine l_val rfl rfl rfl (r_assign (v := .int .i64 t41.2) rfl) ?_
      refine l_nil ?_
      refine c_ret ?_
      obtain rfl := Option.some.inj H41
      refine ret2 (v1 := .int .i32 t41.1) (v2 := .int .i64 t41.2) rfl rfl rfl (fin rfl)
theorem k77 {a0 : (List UInt8)} {a1 : (List UInt8)} {r : (List UInt8)} (H : strings_trimRightUnicode a0 a1 = some r) : Ret Tryz.prog 77 [str a0, str a1] (str r) := by
 refine enterRet (n := 34) Tryz.func77 rfl rfl rfl (fun wd => ?_)
 refine c_seq ?_
 refine c_region ?_
 refine l_val rfl rfl rfl (r_assign (v := str []) rfl) ?_
 refine l_nil ?_
 refine c_seq ?_
 refine c_block ?_
 refine c_fix (σ := (List UInt8)) (τ := Unit) (fun next1 s => strings_trimRightUnicode_l1 a1 next1 s) (fun s t => [(0, str s), (1, str a1)]) (fun s t => []) (fun s t => True) a0 () [] H (by exact trivial) (by exact ⟨rfl, rfl, trivial⟩) (by decide) rfl ?_
 rintro x0_2 _ m1 gg H16 _
 clear H
 replace H16 : strings_trimRightUnicode_l1 a1 (it (fun next1 s => strings_trimRightUnicode_l1 a1 next1 s) m1) x0_2 = some r := H16
 generalize hn1 : it (fun next1 s => strings_trimRightUnicode_l1 a1 next1 s) m1 = next1 at H16
 refine c_tidyF [(0, str x0_2), (1, str a1)] [] rfl rfl ?_
 refine c_seq ?_
 refine c_seq ?_
 refine c_region ?_
 refine l_val rfl rfl rfl (r_move (v := str x0_2) rfl) ?_
 refine l_val rfl rfl rfl (r_lenT Tryz.underlying9 rfl) ?_
 refine l_val rfl rfl rfl (r_gtr rfl rfl) ?_
 refine l_nil ?_
 refine c_if (b := (decide (0 < (x0_2.length : Int)))) rfl (fun hb => ?_) (fun hb => ?_)
 ·have H17 := cnd_t hb H16; clear H16
  refine c_skip ?_
  refine c_block ?_
  refine c_seq ?_
  refine c_region ?_
  refine l_val rfl rfl rfl (r_move (v := str x0_2) rfl) ?_
  refine l_val rfl rfl rfl (r_move (v := str x0_2) rfl) ?_
  refine l_val rfl rfl rfl (r_lenT Tryz.underlying9 rfl) ?_
  obtain ⟨t13, h_t13, H18⟩ := bnd_some H17; clear H17
  refine l_val rfl rfl rfl (r_subG rfl rfl h_t13) ?_
  obtain ⟨t14, h_t14, H19⟩ := bnd_some H18; clear H18
  refine l_val rfl rfl rfl (r_octG Tryz.underlying9 rfl rfl h_t14) ?_
  obtain ⟨t15, h_t15, H20⟩ := bnd_some H19; clear H19
  refine l_val rfl rfl rfl (r_convG Tryz.runUnderlying5 Tryz.runUnderlying21 rfl (gK_i32 h_t15)) ?_
  refine l_val rfl rfl rfl (r_assign (v := .int .i32 t15) rfl) ?_
  refine l_val rfl rfl rfl (r_assign (v := .int .i64 1) rfl) ?_
  refine l_nil ?_
  refine c_meet (r := r) (σ := Int × Int) (τ := Unit) (fun s => strings_trimRightUnicode_j2 a1 x0_2 next1 s.1 s.2) (fun s t => [(0, str x0_2), (1, str a1), (5, .int .i32 s.1), (6, .int .i64 s.2)]) (fun s t => []) (fun s t => True) ?_ ?_
  ·refine c_seq ?_
   refine c_region ?_
   refine l_val rfl rfl rfl (r_move (v := .int .i32 t15) rfl) ?_
   refine l_val rfl rfl rfl (r_geq rfl rfl) ?_
   refine l_nil ?_
   refine c_if (b := (decide (128 ≤ t15))) rfl (fun hb => ?_) (fun hb => ?_)
   ·have H27 := cnd_t hb H20; clear H20
    refine c_region ?_
    refine l_val rfl rfl rfl (r_move (v := str x0_2) rfl) ?_
    obtain ⟨t20, h_t20, H28⟩ := bnd_some H27; clear H27
    refine l_call (k95 h_t20) Tryz.call95 rfl rfl rfl ?_
    refine l_val rfl rfl rfl (r_move (v := .tuple #[.int .i32 t20.1, .int .i64 t20.2]) rfl) ?_
    refine l_val rfl rfl rfl (r_extract (v := .int .i32 t20.1) rfl rfl) ?_
    refine l_val rfl rfl rfl (r_extract (v := .int .i64 t20.2) rfl rfl) ?_
    refine l_val rfl rfl rfl (r_assign (v := .int .i32 t20.1) rfl) ?_
    refine l_val rfl rfl rfl (r_assign (v := .int .i64 t20.2) rfl) ?_
    refine l_nil ?_
    refine c_close (t20.1, t20.2) () 0 [] (by exact ⟨rfl, rfl, rfl, rfl, trivial⟩) (by decide) rfl (by exact ⟨H28, trivial⟩) (Nat.lt_succ_self _)
   ·have H29 := cnd_f hb H20; clear H20
    refine c_skip ?_
    refine c_close (t15, 1) () 0 [] (by exact ⟨rfl, rfl, rfl, rfl, trivial⟩) (by decide) rfl (by exact ⟨H29, trivial⟩) (Nat.lt_succ_self _)
  ·rintro ⟨x5, x6⟩ _ gg H21 _
   replace H21 : strings_trimRightUnicode_j2 a1 x0_2 next1 x5 x6 = some r := H21
   refine c_tidyF [(0, str x0_2), (1, str a1), (5, .int .i32 x5), (6, .int .i64 x6)] [] rfl rfl ?_
   refine c_seq ?_
   refine c_seq ?_
   refine c_region ?_
   refine l_val rfl rfl rfl (r_move (v := str a1) rfl) ?_
   refine l_val rfl rfl rfl (r_move (v := .int .i32 x5) rfl) ?_
   obtain ⟨t25, h_t25, H22⟩ := bnd_some H21; clear H21
   refine l_call (k94 h_t25) Tryz.call94 rfl rfl rfl ?_
   refine l_val rfl rfl rfl (r_not rfl) ?_
   refine l_nil ?_
   refine c_if (b := (!t25)) rfl (fun hb => ?_) (fun hb => ?_)
   ·have H23 := cnd_t hb H22; clear H22
    refine c_exit ?_
    refine c_seq ?_
    refine c_region ?_
    refine l_val rfl rfl rfl (r_move (v := str x0_2) rfl) ?_
    refine l_val rfl rfl rfl (r_assign (v := str x0_2) rfl) ?_
    refine l_nil ?_
    refine c_ret ?_
    obtain rfl := Option.some.inj H23
    refine ret1 (v := str x0_2) rfl rfl (fin rfl)
   ·have H24 := cnd_f hb H22; clear H22
    refine c_skip ?_
    refine c_region ?_
    refine l_val rfl rfl rfl (r_move (v := str x0_2) rfl) ?_
    refine l_val rfl rfl rfl (r_move (v := str x0_2) rfl) ?_
    refine l_val rfl rfl rfl (r_lenT Tryz.underlying9 rfl) ?_
    refine l_val rfl rfl rfl (r_move (v := .int .i64 x6) rfl) ?_
    obtain ⟨t31, h_t31, H25⟩ := bnd_some H24; clear H24
    refine l_val rfl rfl rfl (r_subG rfl rfl h_t31) ?_
    obtain ⟨t32, h_t32, H26⟩ := bnd_some H25; clear H25
    refine l_val rfl rfl rfl (r_cutToG Tryz.underlying9 rfl rfl h_t32) ?_
    refine l_val rfl rfl rfl (r_assign (v := str t32) rfl) ?_
    refine l_nil ?_
    refine c_close t32 () m1 [] (by exact ⟨rfl, rfl, trivial⟩) (by decide) rfl (by exact ⟨(by subst hn1; exact H26), trivial⟩) (Nat.lt_succ_self _)
 ·have H30 := cnd_f hb H16; clear H16
  refine c_exit ?_
  refine c_seq ?_
  refine c_region ?_
  refine l_val rfl rfl rfl (r_move (v := str x0_2) rfl) ?_
  refine l_val rfl rfl rfl (r_assign (v := str x0_2) rfl) ?_
  refine l_nil ?_
  refine c_ret ?_
  obtain rfl := Option.some.inj H30
  refine ret1 (v := str x0_2) rfl rfl (fin rfl)
theorem k57 {a0 : (List UInt8)} {a1 : (List UInt8)} {r : (List UInt8)} (H : strings_Trim a0 a1 = some r) : Ret Tryz.prog 57 [str a0, str a1] (str r) := by
 refine enterRet (n := 43) Tryz.func57 rfl rfl rfl (fun wd => ?_)
 refine c_seq ?_
 refine c_region ?_
 refine l_val rfl rfl rfl (r_assign (v := str []) rfl) ?_
 refine l_nil ?_
 refine c_seq ?_
 refine c_seq ?_
 refine c_region ?_
 refine l_val rfl rfl rfl (r_move (v := str a0) rfl) ?_
 refine l_val rfl rfl rfl (r_eqlT rfl rfl) ?_
 refine l_val rfl rfl rfl (r_move (v := .bool (decide (a0 = []))) rfl) ?_
 refine split (fun hb => ?_) (fun hb => ?_)
 ·have H22 := cnd_t hb H; clear H
  refine l_passed rfl rfl rfl ?_
  refine l_passed rfl rfl rfl ?_
  refine l_val rfl rfl rfl (r_pickT (v := .bool true) rfl rfl) ?_
  refine l_nil ?_
  refine c_true rfl ?_
  refine c_seq ?_
  refine c_region ?_
  refine l_val rfl rfl rfl (r_move (v := str a0) rfl) ?_
  refine l_val rfl rfl rfl (r_assign (v := str a0) rfl) ?_
  refine l_nil ?_
  refine c_ret ?_
  obtain rfl := Option.some.inj H22
  refine ret1 (v := str a0) rfl rfl (fin rfl)
 ·have H23 := cnd_f hb H; clear H
  refine l_val rfl rfl rfl (r_move (v := str a1) rfl) ?_
  refine l_val rfl rfl rfl (r_eqlT rfl rfl) ?_
  refine l_val rfl rfl rfl (r_pickF (v := .bool (decide (a1 = []))) rfl rfl) ?_
  refine l_nil ?_
  refine c_if (b := (decide (a1 = []))) rfl (fun hb => ?_) (fun hb => ?_)
  ·have H24 := cnd_t hb H23; clear H23
   refine c_seq ?_
   refine c_region ?_
   refine l_val rfl rfl rfl (r_move (v := str a0) rfl) ?_
   refine l_val rfl rfl rfl (r_assign (v := str a0) rfl) ?_
   refine l_nil ?_
   refine c_ret ?_
   obtain rfl := Option.some.inj H24
   refine ret1 (v := str a0) rfl rfl (fin rfl)
  ·have H25 := cnd_f hb H23; clear H23
   refine c_skip ?_
   refine c_meet (r := r) (σ := Unit) (τ := Unit) (fun s => strings_Trim_j1 a0 a1) (fun s t => [(0, str a0), (1, str a1)]) (fun s t => []) (fun s t => True) ?_ ?_
   ·refine c_seq ?_
    refine c_region ?_
    refine l_val rfl rfl rfl (r_move (v := str a1) rfl) ?_
    refine l_val rfl rfl rfl (r_lenT Tryz.underlying9 rfl) ?_
    refine l_val rfl rfl rfl (r_eql rfl rfl) ?_
    refine l_val rfl rfl rfl (r_move (v := .bool (decide ((a1.length : Int) = 1))) rfl) ?_
    refine split (fun hb => ?_) (fun hb => ?_)
    ·have H34 := cnd_t hb H25; clear H25
     refine l_val rfl rfl rfl (r_move (v := str a1) rfl) ?_
     obtain ⟨t19, h_t19, H35⟩ := bnd_some H34; clear H34
     refine l_val rfl rfl rfl (r_octG Tryz.underlying9 rfl rfl h_t19) ?_
     refine l_val rfl rfl rfl (r_lss rfl rfl) ?_
     refine l_val rfl rfl rfl (r_pickT (v := .bool (decide (t19 < 128))) rfl rfl) ?_
     refine l_nil ?_
     refine c_if (b := (decide (t19 < 128))) rfl (fun hb => ?_) (fun hb => ?_)
     ·have H36 := cnd_t hb H35; clear H35
      refine c_seq ?_
      exact c_regionD (Kd.p :: Kd.p :: Kd.p :: Kd.d [] _ :: Kd.p :: Kd.p :: Kd.d [] _ :: Kd.p :: []) 0 mixed (by
       refine d_val rfl rfl (r_move (v := str a0) rfl) ?_
       refine d_val rfl rfl (r_move (v := str a1) rfl) ?_
       have h_t24 := bnd_val H36
       have H37 := bnd_rest H36
       refine d_val rfl rfl (r_octG Tryz.underlying9 rfl rfl h_t24) ?_
       have h_t25 := bnd_val H37
       have H38 := bnd_rest H37
       refine d_call (k72 h_t25) Tryz.call72 rfl rfl ?_
       refine d_val rfl rfl (r_move (v := str a1) rfl) ?_
       have h_t27 := bnd_val H38
       have H39 := bnd_rest H38
       refine d_val rfl rfl (r_octG Tryz.underlying9 rfl rfl h_t27) ?_
       have h_t28 := bnd_val H39
       have H40 := bnd_rest H39
       refine d_call (k71 h_t28) Tryz.call71 rfl rfl ?_
       refine d_val rfl rfl (r_assign (v := str (val (strings_trimLeftByte (val (strings_trimRightByte a0 (val (gOct a1 0)))) (val (gOct a1 0))))) rfl) ?_
       refine d_nil ?_
       refine c_ret ?_
       obtain rfl := Option.some.inj H40
       refine ret1 (v := str (val (strings_trimLeftByte (val (strings_trimRightByte a0 (val (gOct a1 0)))) (val (gOct a1 0))))) rfl rfl (fin rfl)
       ) (by kernel_rfl)
     ·have H41 := cnd_f hb H35; clear H35
      refine c_skip ?_
      refine c_close () () 0 [] (by exact ⟨rfl, rfl, trivial⟩) (by decide) rfl (by exact ⟨H41, trivial⟩) (Nat.lt_succ_self _)
    ·have H42 := cnd_f hb H25; clear H25
     refine l_passed rfl rfl rfl ?_
     refine l_passed rfl rfl rfl ?_
     refine l_passed rfl rfl rfl ?_
     refine l_val rfl rfl rfl (r_pickF (v := .bool false) rfl rfl) ?_
     refine l_nil ?_
     refine c_false rfl ?_
     refine c_skip ?_
     refine c_close () () 0 [] (by exact ⟨rfl, rfl, trivial⟩) (by decide) rfl (by exact ⟨H42, trivial⟩) (Nat.lt_succ_self _)
   ·rintro _ _ gg H26 _
    replace H26 : strings_Trim_j1 a0 a1 = some r := H26
    refine c_tidyF [(0, str a0), (1, str a1)] [] rfl rfl ?_
    refine c_seq ?_
    refine c_seq ?_
    refine c_region ?_
    refine l_val rfl rfl rfl (r_move (v := str a1) rfl) ?_
    obtain ⟨t31, h_t31, H27⟩ := bnd_some H26; clear H26
    refine l_call (k73 h_t31) Tryz.call73 rfl rfl rfl ?_
    refine l_val rfl rfl rfl (r_move (v := .tuple #[.agg (List.toArray (arrC 256 (fun j_ => [.bool (t31.1 j_)]))), .bool t31.2]) rfl) ?_
    refine l_val rfl rfl rfl (r_extract (v := .agg (List.toArray (arrC 256 (fun j_ => [.bool (t31.1 j_)])))) rfl rfl) ?_
    refine l_val rfl rfl rfl (r_extract (v := .bool t31.2) rfl rfl) ?_
    refine l_alloc (cs := (arrC 256 (fun j_ => [.bool ((fun _ => false) j_)]))) Tryz.zeroValue96 (by kernel_rfl) rfl rfl (fun b1 => ?_)
    refine l_store (i := 0) (vs := (arrC 256 (fun j_ => [.bool (t31.1 j_)]))) (cs' := (arrC 256 (fun j_ => [.bool (t31.1 j_)]))) Tryz.sizeOf96 rfl rfl rfl rfl (arrC_len (fun _ => rfl)) rfl (arrC_one (fun _ => rfl)) rfl (wr_whole ((arrC_len (fun _ => rfl)).trans (arrC_len (fun _ => rfl)).symm)) ?_
    refine l_val rfl rfl rfl (r_assign (v := .bool t31.2) rfl) ?_
    refine l_nil ?_
    refine c_seq ?_
    refine c_region ?_
    refine l_val rfl rfl rfl (r_move (v := .bool t31.2) rfl) ?_
    refine l_nil ?_
    refine c_if (b := t31.2) rfl (fun hb => ?_) (fun hb => ?_)
    ·have H28 := cnd_t hb H27; clear H27
     refine c_seq ?_
     refine c_region ?_
     refine l_val rfl rfl rfl (r_move (v := str a0) rfl) ?_
     obtain ⟨t36, h_t36, H29⟩ := bnd_some H28; clear H28
     refine l_turn (turns_callB (i := 0) (rds := []) (G := fun x : Unit => str t36.1) (C := fun x : Unit => cellsC b1 (arrC 256 (fun j_ => [.bool (t36.2 j_)])) 96) rfl (fun w L' S hF hS hi hp hlt ho hA => k75 hp hlt (know_but w S)  h_t36) Tryz.call75 rfl) rfl rfl rfl (fun _ => ?_)
     obtain ⟨t37, h_t37, H30⟩ := bnd_some H29; clear H29
     refine l_turn (turns_callB (i := 0) (rds := []) (G := fun x : Unit => str t37.1) (C := fun x : Unit => cellsC b1 (arrC 256 (fun j_ => [.bool (t37.2 j_)])) 96) rfl (fun w L' S hF hS hi hp hlt ho hA => k74 hp hlt (know_but w S)  h_t37) Tryz.call74 rfl) rfl rfl rfl (fun _ => ?_)
     refine l_val rfl rfl rfl (r_assign (v := str t37.1) rfl) ?_
     refine l_nil ?_
     refine c_ret ?_
     obtain rfl := Option.some.inj H30
     refine ret1 (v := str t37.1) rfl rfl (fin rfl)
    ·have H31 := cnd_f hb H27; clear H27
     refine c_skip ?_
     refine c_seq ?_
     refine c_region ?_
     refine l_val rfl rfl rfl (r_move (v := str a0) rfl) ?_
     refine l_val rfl rfl rfl (r_move (v := str a1) rfl) ?_
     obtain ⟨t40, h_t40, H32⟩ := bnd_some H31; clear H31
     refine l_call (k77 h_t40) Tryz.call77 rfl rfl rfl ?_
     refine l_val rfl rfl rfl (r_move (v := str a1) rfl) ?_
     obtain ⟨t42, h_t42, H33⟩ := bnd_some H32; clear H32
     refine l_call (k76 h_t42) Tryz.call76 rfl rfl rfl ?_
     refine l_val rfl rfl rfl (r_assign (v := str t42) rfl) ?_
     refine l_nil ?_
     refine c_ret ?_
     obtain rfl := Option.some.inj H33
     refine ret1 (v := str t42) rfl rfl (fin rfl)
theorem k58 {a0 : (List UInt8)} {r : Int} (H : gAtoi a0 = some r) : Ret Tryz.prog 58 [str a0] (.tuple #[.int .i64 r, .nilIface]) :=
  atoi_ret (ρ := Go.Proofs.Tryz.lays172_ren) Go.Proofs.Tryz.lays172 H

theorem k49 {a0 : (List UInt8)} {a1 : Bool} {r : Int × Bool} {w : World} {h : Heap} (hw : Know h w noS) (tb_pow10 : TabH Tryz.prog h "internal/strconv.uint64pow10" .u64 Lib.pow10Tab) (H : tag_plainNumber a0 a1 = some r) : Does Tryz.prog 49 (List.toArray [str a0, .bool a1]) w (fun v w' => v = (.tuple #[.int .i64 r.1, .bool r.2]) ∧ Grow w w') := by
 refine enter (n := 39) Tryz.func49 rfl rfl rfl noS [] (Sat.nil _ _) ?_
 refine c_seq ?_
 refine c_region ?_
 refine l_val rfl rfl rfl (r_assign (v := .int .i64 0) rfl) ?_
 refine l_val rfl rfl rfl (r_assign (v := .bool false) rfl) ?_
 refine l_nil ?_
 refine c_seq ?_
 refine c_region ?_
 refine l_val rfl rfl rfl (r_move (v := str a0) rfl) ?_
 refine l_val rfl rfl rfl (r_assign (v := str a0) rfl) ?_
 refine l_nil ?_
 refine c_meet (r := r) (σ := (List UInt8)) (τ := Unit) (fun s => tag_plainNumber_j1 a0 s) (fun s t => [(0, str a0), (6, str s)]) (fun s t => []) (fun s t => True) ?_ ?_
 ·refine c_seq ?_
  refine c_region ?_
  refine l_val rfl rfl rfl (r_move (v := .bool a1) rfl) ?_
  refine l_nil ?_
  refine c_if (b := a1) rfl (fun hb => ?_) (fun hb => ?_)
  ·have H24 := cnd_t hb H; clear H
   refine c_region ?_
   refine l_val rfl rfl rfl (r_move (v := str a0) rfl) ?_
   obtain ⟨t12, h_t12, H25⟩ := bnd_some H24; clear H24
   refine l_call (k56 h_t12) Tryz.call56 rfl rfl rfl ?_
   refine l_val rfl rfl rfl (r_assign (v := str t12) rfl) ?_
   refine l_nil ?_
   refine c_close t12 () 0 [] (by exact ⟨rfl, rfl, trivial⟩) (by decide) rfl (by exact ⟨H25, trivial⟩) (Nat.lt_succ_self _)
  ·have H26 := cnd_f hb H; clear H
   refine c_skip ?_
   refine c_close a0 () 0 [] (by exact ⟨rfl, rfl, trivial⟩) (by decide) rfl (by exact ⟨H26, trivial⟩) (Nat.lt_succ_self _)
 ·rintro x6 _ gg H14 _
  replace H14 : tag_plainNumber_j1 a0 x6 = some r := H14
  refine c_tidyF [(0, str a0), (6, str x6)] [] rfl rfl ?_
  refine c_seq ?_
  refine c_seq ?_
  refine c_region ?_
  refine l_val rfl rfl rfl (r_move (v := str x6) rfl) ?_
  refine l_val rfl rfl rfl (r_eqlT rfl rfl) ?_
  refine l_val rfl rfl rfl (r_move (v := .bool (decide (x6 = []))) rfl) ?_
  refine split (fun hb => ?_) (fun hb => ?_)
  ·have H15 := cnd_t hb H14; clear H14
   refine l_passed rfl rfl rfl ?_
   refine l_passed rfl rfl rfl ?_
   refine l_passed rfl rfl rfl ?_
   refine l_val rfl rfl rfl (r_pickT (v := .bool true) rfl rfl) ?_
   refine l_val rfl rfl rfl (r_move (v := .bool true) rfl) ?_
   refine l_passed rfl rfl rfl ?_
   refine l_passed rfl rfl rfl ?_
   refine l_passed rfl rfl rfl ?_
   refine l_val rfl rfl rfl (r_pickT (v := .bool true) rfl rfl) ?_
   refine l_nil ?_
   refine c_true rfl ?_
   refine c_seq ?_
   refine c_region ?_
   refine l_val rfl rfl rfl (r_assign (v := .int .i64 0) rfl) ?_
   refine l_val rfl rfl rfl (r_assign (v := .bool false) rfl) ?_
   refine l_nil ?_
   refine c_ret ?_
   obtain rfl := Option.some.inj H15
   refine ret2 (v1 := .int .i64 0) (v2 := .bool false) rfl rfl rfl (fin rfl)
  ·have H16 := cnd_f hb H14; clear H14
   refine l_val rfl rfl rfl (r_move (v := str x6) rfl) ?_
   refine l_val rfl rfl rfl (r_lenT Tryz.underlying9 rfl) ?_
   refine l_val rfl rfl rfl (r_gtr rfl rfl) ?_
   refine l_val rfl rfl rfl (r_pickF (v := .bool (decide (10 < (x6.length : Int)))) rfl rfl) ?_
   refine l_val rfl rfl rfl (r_move (v := .bool (decide (10 < (x6.length : Int)))) rfl) ?_
   refine split (fun hb => ?_) (fun hb => ?_)
   ·have H17 := cnd_t hb H16; clear H16
    refine l_passed rfl rfl rfl ?_
    refine l_passed rfl rfl rfl ?_
    refine l_passed rfl rfl rfl ?_
    refine l_val rfl rfl rfl (r_pickT (v := .bool true) rfl rfl) ?_
    refine l_nil ?_
    refine c_true rfl ?_
    refine c_seq ?_
    refine c_region ?_
    refine l_val rfl rfl rfl (r_assign (v := .int .i64 0) rfl) ?_
    refine l_val rfl rfl rfl (r_assign (v := .bool false) rfl) ?_
    refine l_nil ?_
    refine c_ret ?_
    obtain rfl := Option.some.inj H17
    refine ret2 (v1 := .int .i64 0) (v2 := .bool false) rfl rfl rfl (fin rfl)
   ·have H18 := cnd_f hb H16; clear H16
    refine l_val rfl rfl rfl (r_move (v := str x6) rfl) ?_
    obtain ⟨t22, h_t22, H19⟩ := bnd_some H18; clear H18
    refine l_call (k57 h_t22) Tryz.call57 rfl rfl rfl ?_
    refine l_val rfl rfl rfl (r_neqT rfl rfl) ?_
    refine l_val rfl rfl rfl (r_pickF (v := .bool (decide (t22 ≠ []))) rfl rfl) ?_
    refine l_nil ?_
    refine c_if (b := (decide (t22 ≠ []))) rfl (fun hb => ?_) (fun hb => ?_)
    ·have H20 := cnd_t hb H19; clear H19
     refine c_seq ?_
     refine c_region ?_
     refine l_val rfl rfl rfl (r_assign (v := .int .i64 0) rfl) ?_
     refine l_val rfl rfl rfl (r_assign (v := .bool false) rfl) ?_
     refine l_nil ?_
     refine c_ret ?_
     obtain rfl := Option.some.inj H20
     refine ret2 (v1 := .int .i64 0) (v2 := .bool false) rfl rfl rfl (fin rfl)
    ·have H21 := cnd_f hb H19; clear H19
     refine c_skip ?_
     refine c_seq ?_
     refine c_region ?_
     refine l_val rfl rfl rfl (r_move (v := str a0) rfl) ?_
     obtain ⟨t27, h_t27, H22⟩ := bnd_some H21; clear H21
     refine l_call (k58 h_t27) Tryz.call58 rfl rfl rfl ?_
     refine l_val rfl rfl rfl (r_move (v := .tuple #[.int .i64 t27, .nilIface]) rfl) ?_
     refine l_val rfl rfl rfl (r_extract (v := .int .i64 t27) rfl rfl) ?_
     refine l_val rfl rfl rfl (r_extract (v := .nilIface) rfl rfl) ?_
     refine l_val rfl rfl rfl (r_assign (v := .int .i64 t27) rfl) ?_
     refine l_val rfl rfl rfl (r_assign (v := .nilIface) rfl) ?_
     refine l_nil ?_
     refine c_seq ?_
     refine c_region ?_
     refine l_val rfl rfl rfl (r_move (v := .int .i64 t27) rfl) ?_
     refine l_val rfl rfl rfl (r_move (v := .nilIface) rfl) ?_
     refine l_val rfl rfl rfl (r_eqlErr rfl (by intro w; kernel_rfl)) ?_
     refine l_val rfl rfl rfl (r_move (v := .bool true) rfl) ?_
     refine l_val rfl rfl rfl (r_move (v := .int .i64 t27) rfl) ?_
     obtain ⟨t35, h_t35, H23⟩ := bnd_some H22; clear H22
     refine l_callG (fun w hF hS => k21 (know_all w) (tb_pow10.mono (hw.now hF)) h_t35) Tryz.call21 rfl rfl rfl ?_
     refine l_val rfl rfl rfl (r_move (v := str a0) rfl) ?_
     refine l_val rfl rfl rfl (r_eqlT rfl rfl) ?_
     refine l_val rfl rfl rfl (r_pickT (v := .bool (decide (t35 = a0))) rfl rfl) ?_
     refine l_val rfl rfl rfl (r_assign (v := .int .i64 t27) rfl) ?_
     refine l_val rfl rfl rfl (r_assign (v := .bool (decide (t35 = a0))) rfl) ?_
     refine l_nil ?_
     refine c_ret ?_
     obtain rfl := Option.some.inj H23
     refine ret2 (v1 := .int .i64 t27) (v2 := .bool (decide (t35 = a0))) rfl rfl rfl (fin rfl)
theorem k48 {a0 : (List UInt8)} {r : T_tag_Ratio × Bool} {w : World} {h : Heap} (hw : Know h w noS) (tb_pow10 : TabH Tryz.prog h "internal/strconv.uint64pow10" .u64 Lib.pow10Tab) (H : tag_readRatio a0 = some r) : Does Tryz.prog 48 (List.toArray [str a0]) w (fun v w' => v = (.tuple #[.agg #[.int .i64 r.1.Num, .int .i64 r.1.Den], .bool r.2]) ∧ Grow w w') := by
 refine enter (n := 37) Tryz.func48 rfl rfl rfl noS [] (Sat.nil _ _) ?_
 refine c_seq ?_
 refine c_region ?_
 refine l_alloc (cs := [.int .i64 0, .int .i64 0]) Tryz.zeroValue42 rfl rfl rfl (fun b1 => ?_)
 refine l_val rfl rfl rfl (r_assign (v := .bool false) rfl) ?_
 refine l_nil ?_
 refine c_seq ?_
 refine c_region ?_
 refine l_val rfl rfl rfl (r_move (v := str a0) rfl) ?_
 obtain ⟨t13, h_t13, H8⟩ := bnd_some H; clear H
 refine l_call (k29 h_t13) Tryz.call29 rfl rfl rfl ?_
 refine l_val rfl rfl rfl (r_move (v := .tuple #[str t13.1, str t13.2.1, .bool t13.2.2]) rfl) ?_
 refine l_val rfl rfl rfl (r_extract (v := str t13.1) rfl rfl) ?_
 refine l_val rfl rfl rfl (r_extract (v := str t13.2.1) rfl rfl) ?_
 refine l_val rfl rfl rfl (r_extract (v := .bool t13.2.2) rfl rfl) ?_
 refine l_val rfl rfl rfl (r_assign (v := str t13.1) rfl) ?_
 refine l_val rfl rfl rfl (r_assign (v := str t13.2.1) rfl) ?_
 refine l_val rfl rfl rfl (r_assign (v := .bool t13.2.2) rfl) ?_
 refine l_nil ?_
 refine c_seq ?_
 refine c_region ?_
 refine l_val rfl rfl rfl (r_move (v := str t13.1) rfl) ?_
 obtain ⟨t19, h_t19, H9⟩ := bnd_some H8; clear H8
 refine l_callG (fun w hF hS => k49 (know_all w) (tb_pow10.mono (hw.now hF)) h_t19) Tryz.call49 rfl rfl rfl ?_
 refine l_val rfl rfl rfl (r_move (v := .tuple #[.int .i64 t19.1, .bool t19.2]) rfl) ?_
 refine l_val rfl rfl rfl (r_extract (v := .int .i64 t19.1) rfl rfl) ?_
 refine l_val rfl rfl rfl (r_extract (v := .bool t19.2) rfl rfl) ?_
 refine l_val rfl rfl rfl (r_assign (v := .int .i64 t19.1) rfl) ?_
 refine l_val rfl rfl rfl (r_assign (v := .bool t19.2) rfl) ?_
 refine l_nil ?_
 refine c_seq ?_
 refine c_region ?_
 refine l_val rfl rfl rfl (r_move (v := str t13.2.1) rfl) ?_
 obtain ⟨t24, h_t24, H10⟩ := bnd_some H9; clear H9
 refine l_callG (fun w hF hS => k49 (know_all w) (tb_pow10.mono (hw.now hF)) h_t24) Tryz.call49 rfl rfl rfl ?_
 refine l_val rfl rfl rfl (r_move (v := .tuple #[.int .i64 t24.1, .bool t24.2]) rfl) ?_
 refine l_val rfl rfl rfl (r_extract (v := .int .i64 t24.1) rfl rfl) ?_
 refine l_val rfl rfl rfl (r_extract (v := .bool t24.2) rfl rfl) ?_
 refine l_val rfl rfl rfl (r_assign (v := .int .i64 t24.1) rfl) ?_
 refine l_val rfl rfl rfl (r_assign (v := .bool t24.2) rfl) ?_
 refine l_nil ?_
 refine c_seq ?_
 refine c_region ?_
 refine l_val rfl rfl rfl (r_move (v := .int .i64 t19.1) rfl) ?_
 refine l_val rfl rfl rfl (r_move (v := .int .i64 t24.1) rfl) ?_
 refine l_val rfl rfl rfl (r_build (pl := #[(0, 1), (1, 1)]) (ps := [(0, .int .i64 t19.1), (1, .int .i64 t24.1)]) (cells := #[.int .i64 t19.1, .int .i64 t24.1]) Tryz.zeroValue42 Tryz.runUnderlying42 (fun w => by kernel_rfl) rfl rfl) ?_
 refine l_val rfl rfl rfl (r_move (v := .bool t13.2.2) rfl) ?_
 refine l_val rfl rfl rfl (r_move (v := .bool t13.2.2) rfl) ?_
 refine split (fun hb => ?_) (fun hb => ?_)
 ·have H11 := cnd_t hb H10; clear H10
  refine l_val rfl rfl rfl (r_move (v := .bool t19.2) rfl) ?_
  refine l_val rfl rfl rfl (r_pickT (v := .bool t19.2) rfl rfl) ?_
  refine l_val rfl rfl rfl (r_move (v := .bool t19.2) rfl) ?_
  refine split (fun hb => ?_) (fun hb => ?_)
  ·have H12 := cnd_t hb H11; clear H11
   refine l_val rfl rfl rfl (r_move (v := .bool t24.2) rfl) ?_
   refine l_val rfl rfl rfl (r_pickT (v := .bool t24.2) rfl rfl) ?_
   refine l_store (i := 0) (vs := [.int .i64 t19.1, .int .i64 t24.1]) (cs' := [.int .i64 t19.1, .int .i64 t24.1]) Tryz.sizeOf42 rfl rfl rfl rfl rfl rfl rfl rfl rfl ?_
   refine l_val rfl rfl rfl (r_assign (v := .bool t24.2) rfl) ?_
   refine l_nil ?_
   refine c_ret ?_
   obtain rfl := Option.some.inj H12
   refine retCt (i := 0) (vs := [.int .i64 t19.1, .int .i64 t24.1]) (v2 := .bool t24.2) Tryz.isAgg42 Tryz.sizeOf42 rfl rfl rfl rfl rfl (fin rfl)
  ·have H13 := cnd_f hb H11; clear H11
   refine l_passed rfl rfl rfl ?_
   refine l_val rfl rfl rfl (r_pickF (v := .bool false) rfl rfl) ?_
   refine l_store (i := 0) (vs := [.int .i64 t19.1, .int .i64 t24.1]) (cs' := [.int .i64 t19.1, .int .i64 t24.1]) Tryz.sizeOf42 rfl rfl rfl rfl rfl rfl rfl rfl rfl ?_
   refine l_val rfl rfl rfl (r_assign (v := .bool false) rfl) ?_
   refine l_nil ?_
   refine c_ret ?_
   obtain rfl := Option.some.inj H13
   refine retCt (i := 0) (vs := [.int .i64 t19.1, .int .i64 t24.1]) (v2 := .bool false) Tryz.isAgg42 Tryz.sizeOf42 rfl rfl rfl rfl rfl (fin rfl)
 ·have H14 := cnd_f hb H10; clear H10
  refine l_passed rfl rfl rfl ?_
  refine l_val rfl rfl rfl (r_pickF (v := .bool false) rfl rfl) ?_
  refine l_val rfl rfl rfl (r_move (v := .bool false) rfl) ?_
  refine l_passed rfl rfl rfl ?_
  refine l_val rfl rfl rfl (r_pickF (v := .bool false) rfl rfl) ?_
  refine l_store (i := 0) (vs := [.int .i64 t19.1, .int .i64 t24.1]) (cs' := [.int .i64 t19.1, .int .i64 t24.1]) Tryz.sizeOf42 rfl rfl rfl rfl rfl rfl rfl rfl rfl ?_
  refine l_val rfl rfl rfl (r_assign (v := .bool false) rfl) ?_
  refine l_nil ?_
  refine c_ret ?_
  obtain rfl := Option.some.inj H14
  refine retCt (i := 0) (vs := [.int .i64 t19.1, .int .i64 t24.1]) (v2 := .bool false) Tryz.isAgg42 Tryz.sizeOf42 rfl rfl rfl rfl rfl (fin rfl)
theorem k26 {a0 : Int} {a1 : (List (List UInt8))} {v1 : Value} {r : T_tag_Value × Bool} {w : World} {h : Heap} (hw : Know h w noS) (f1 : FrS h 1 v1 (a1.map e_string)) (tb_pow10 : TabH Tryz.prog h "internal/strconv.uint64pow10" .u64 Lib.pow10Tab) (H : tag_readWords a0 a1 = some r) : Does Tryz.prog 26 (List.toArray [.int .i64 a0, v1]) w (fun v w' => ∃ x : (Option Addr × Nat) × (Option Addr × Nat) × (Option Addr × Nat), v = (.tuple #[.agg #[.int .i64 r.1.Kind, str r.1.Text, .slice x.1.1 r.1.Ints.length x.1.2, .slice x.2.1.1 r.1.Ratios.length x.2.1.2, .slice x.2.2.1 r.1.Entries.length x.2.2.2], .bool r.2]) ∧ Turn w w' noS (bothC (rowV 3 1 (.slice x.1.1 r.1.Ints.length x.1.2) r.1.Ints.length (r.1.Ints.map e_i64)) (bothC (rowV 42 2 (.slice x.2.1.1 r.1.Ratios.length x.2.1.2) r.1.Ratios.length (r.1.Ratios.map e_tag_Ratio)) (rowD 65 6 g_tag_Entry (.slice x.2.2.1 r.1.Entries.length x.2.2.2) r.1.Entries.length r.1.Entries)))) := by
 refine enter (n := 80) Tryz.func26 rfl rfl rfl noS [] (Sat.nil _ _) ?_
 refine c_poolNew noH ?_
 refine c_seq ?_
 refine c_region ?_
 refine l_alloc (cs := [.int .i64 0, str [], .slice none 0 0, .slice none 0 0, .slice none 0 0]) Tryz.zeroValue26 rfl rfl rfl (fun b5 => ?_)
 refine l_val rfl rfl rfl (r_assign (v := .bool false) rfl) ?_
 refine l_nil ?_
 refine c_seq ?_
 refine c_region ?_
 refine l_val rfl rfl rfl (r_move (v := .int .i64 a0) rfl) ?_
 refine l_val rfl rfl rfl (r_build (pl := #[(0, 1), (1, 1), (2, 1), (3, 1), (4, 1)]) (ps := [(0, .int .i64 a0)]) (cells := #[.int .i64 a0, str [], .slice none 0 0, .slice none 0 0, .slice none 0 0]) Tryz.zeroValue26 Tryz.runUnderlying26 (fun w => by kernel_rfl) rfl rfl) ?_
 refine l_alloc (cs := [.int .i64 0, str [], .slice none 0 0, .slice none 0 0, .slice none 0 0]) Tryz.zeroValue26 rfl rfl rfl (fun b6 => ?_)
 refine l_store (i := 2) (vs := [.int .i64 a0, str [], .slice none 0 0, .slice none 0 0, .slice none 0 0]) (cs' := [.int .i64 a0, str [], .slice none 0 0, .slice none 0 0, .slice none 0 0]) Tryz.sizeOf26 rfl rfl rfl rfl rfl rfl rfl rfl rfl ?_
 refine l_nil ?_
 refine c_seq ?_
 refine c_seq ?_
 refine c_sel [0, 1, 2] [poolC noH noH, cellsC b5 [.int .i64 0, str [], .slice none 0 0, .slice none 0 0, .slice none 0 0] 26, cellsC b6 [.int .i64 a0, str [], .slice none 0 0, .slice none 0 0, .slice none 0 0] 26] rfl (by decide) ?_
 refine c_region ?_
 refine l_val rfl rfl rfl (r_move (v := .int .i64 a0) rfl) ?_
 obtain ⟨t17, h_t17, H29⟩ := bnd_some H; clear H
 refine l_call (k39 h_t17) Tryz.call39 rfl rfl rfl ?_
 refine l_nil ?_
 refine c_if (b := t17) rfl (fun hb => ?_) (fun hb => ?_)
 ·have H30 := cnd_t hb H29; clear H29
  refine c_meet (r := r) (σ := Unit) (τ := Unit) (fun s => tag_readWords_j1 a0 a1) (fun s t => [(0, .int .i64 a0), (1, v1), (4, .pointer (some ⟨b5, 0, none⟩)), (6, .pointer (some ⟨b6, 0, none⟩))]) (fun s t => [poolC noH noH, cellsC b5 [.int .i64 0, str [], .slice none 0 0, .slice none 0 0, .slice none 0 0] 26, cellsC b6 [.int .i64 a0, str [], .slice none 0 0, .slice none 0 0, .slice none 0 0] 26]) (fun s t => True) ?_ ?_
  ·refine c_seq ?_
   refine c_region ?_
   refine l_val rfl rfl rfl (r_move (v := v1) rfl) ?_
   refine l_val rfl rfl rfl (r_lenF Tryz.underlying33 rfl f1 rfl) ?_
   refine l_val rfl rfl rfl (r_gtr rfl rfl) ?_
   refine l_val rfl rfl rfl (r_move (v := .bool (decide (1 < (a1.length : Int)))) rfl) ?_
   refine split (fun hb => ?_) (fun hb => ?_)
   ·have H34 := cnd_t hb H30; clear H30
    refine l_passed rfl rfl rfl ?_
    refine l_passed rfl rfl rfl ?_
    refine l_passed rfl rfl rfl ?_
    refine l_passed rfl rfl rfl ?_
    refine l_passed rfl rfl rfl ?_
    refine l_passed rfl rfl rfl ?_
    refine l_passed rfl rfl rfl ?_
    refine l_passed rfl rfl rfl ?_
    refine l_passed rfl rfl rfl ?_
    refine l_val rfl rfl rfl (r_pickT (v := .bool true) rfl rfl) ?_
    refine l_nil ?_
    refine c_true rfl ?_
    refine c_seq ?_
    refine c_region ?_
    refine l_val rfl rfl rfl (r_build (pl := #[(0, 1), (1, 1), (2, 1), (3, 1), (4, 1)]) (ps := []) (cells := #[.int .i64 0, str [], .slice none 0 0, .slice none 0 0, .slice none 0 0]) Tryz.zeroValue26 Tryz.runUnderlying26 (fun w => by kernel_rfl) rfl rfl) ?_
    refine l_store (i := 1) (vs := [.int .i64 0, str [], .slice none 0 0, .slice none 0 0, .slice none 0 0]) (cs' := [.int .i64 0, str [], .slice none 0 0, .slice none 0 0, .slice none 0 0]) Tryz.sizeOf26 rfl rfl rfl rfl rfl rfl rfl rfl rfl ?_
    refine l_val rfl rfl rfl (r_assign (v := .bool false) rfl) ?_
    refine l_nil ?_
    refine c_ret ?_
    refine c_sel [0, 1] [poolC noH noH, cellsC b5 [.int .i64 0, str [], .slice none 0 0, .slice none 0 0, .slice none 0 0] 26] rfl (by decide) ?_
    refine c_nilRow 3 1 ?_
    refine c_nilRow 42 2 ?_
    refine c_nilRow 65 6 ?_
    refine c_sel [0, 1, 2, 3, 4] [poolC noH noH, cellsC b5 [.int .i64 0, str [], .slice none 0 0, .slice none 0 0, .slice none 0 0] 26, rowV 3 1 (.slice ((none, 0) : Option Addr × Nat).1 ([] : List Int).length ((none, 0) : Option Addr × Nat).2) ([] : List Int).length (([] : List Int).map e_i64), rowV 42 2 (.slice ((none, 0) : Option Addr × Nat).1 ([] : List T_tag_Ratio).length ((none, 0) : Option Addr × Nat).2) ([] : List T_tag_Ratio).length (([] : List T_tag_Ratio).map e_tag_Ratio), rowV 65 6 (.slice ((none, 0) : Option Addr × Nat).1 (([] : List (List Value)).length) ((none, 0) : Option Addr × Nat).2) (([] : List (List Value)).length) (([] : List (List Value)).map idC)] rfl (by decide) ?_
    obtain rfl := Option.some.inj H34
    refine c_both 0 4 rfl rfl (by decide) ?_
    refine c_imp 0 rfl (imp_rowD (p := ((none, 0) : Option Addr × Nat)) rfl (AllC.nil (G := g_tag_Entry) (h := noH) (sz := 6))) ?_
    refine c_both 3 0 rfl rfl (by decide) ?_
    refine c_both 2 3 rfl rfl (by decide) ?_
    refine retCt (i := 1) (vs := [.int .i64 0, str [], .slice ((none, 0) : Option Addr × Nat).1 ([] : List Int).length ((none, 0) : Option Addr × Nat).2, .slice ((none, 0) : Option Addr × Nat).1 ([] : List T_tag_Ratio).length ((none, 0) : Option Addr × Nat).2, .slice ((none, 0) : Option Addr × Nat).1 (([] : List (List Value)).length) ((none, 0) : Option Addr × Nat).2]) (v2 := .bool false) Tryz.isAgg26 Tryz.sizeOf26 rfl rfl rfl rfl rfl (finX (((none, 0) : Option Addr × Nat), ((none, 0) : Option Addr × Nat), ((none, 0) : Option Addr × Nat)) (i := 2) rfl (by first | rfl | rw [(show (([] : List (List Value)).length) = ([] : List T_tag_Entry).length from (AllC.nil (G := g_tag_Entry) (h := noH) (sz := 6)).len)]) (by first | exact Imp.refl _ | exact Imp.of (by rw [(show (([] : List (List Value)).length) = ([] : List T_tag_Entry).length from (AllC.nil (G := g_tag_Entry) (h := noH) (sz := 6)).len)])))
   ·have H35 := cnd_f hb H30; clear H30
    refine l_val rfl rfl rfl (r_move (v := v1) rfl) ?_
    refine l_val rfl rfl rfl (r_lenF Tryz.underlying33 rfl f1 rfl) ?_
    refine l_val rfl rfl rfl (r_eql rfl rfl) ?_
    refine l_val rfl rfl rfl (r_move (v := .bool (decide ((a1.length : Int) = 1))) rfl) ?_
    refine split (fun hb => ?_) (fun hb => ?_)
    ·have H36 := cnd_t hb H35; clear H35
     refine l_val rfl rfl rfl (r_move (v := v1) rfl) ?_
     obtain ⟨t27, h_t27, H37⟩ := bnd_some H36; clear H36
     refine l_val rfl rfl rfl (r_indexF Tryz.underlying33 Tryz.sizeOf9 rfl rfl f1 h_t27) ?_
     refine l_read (fun w hF hS => run_loadG1 (f := e_string) (i := 0) (sz := 1) (j := 0) (v := str t27) Tryz.isAgg9 rfl rfl (f1.row (hw.now hF)) h_t27 rfl) rfl rfl rfl ?_
     refine l_val rfl rfl rfl (r_eqlT rfl rfl) ?_
     refine l_val rfl rfl rfl (r_pickT (v := .bool (decide (t27 = []))) rfl rfl) ?_
     refine l_val rfl rfl rfl (r_pickF (v := .bool (decide (t27 = []))) rfl rfl) ?_
     refine l_nil ?_
     refine c_if (b := (decide (t27 = []))) rfl (fun hb => ?_) (fun hb => ?_)
     ·have H38 := cnd_t hb H37; clear H37
      refine c_seq ?_
      refine c_region ?_
      refine l_val rfl rfl rfl (r_build (pl := #[(0, 1), (1, 1), (2, 1), (3, 1), (4, 1)]) (ps := []) (cells := #[.int .i64 0, str [], .slice none 0 0, .slice none 0 0, .slice none 0 0]) Tryz.zeroValue26 Tryz.runUnderlying26 (fun w => by kernel_rfl) rfl rfl) ?_
      refine l_store (i := 1) (vs := [.int .i64 0, str [], .slice none 0 0, .slice none 0 0, .slice none 0 0]) (cs' := [.int .i64 0, str [], .slice none 0 0, .slice none 0 0, .slice none 0 0]) Tryz.sizeOf26 rfl rfl rfl rfl rfl rfl rfl rfl rfl ?_
      refine l_val rfl rfl rfl (r_assign (v := .bool false) rfl) ?_
      refine l_nil ?_
      refine c_ret ?_
      refine c_sel [0, 1] [poolC noH noH, cellsC b5 [.int .i64 0, str [], .slice none 0 0, .slice none 0 0, .slice none 0 0] 26] rfl (by decide) ?_
      refine c_nilRow 3 1 ?_
      refine c_nilRow 42 2 ?_
      refine c_nilRow 65 6 ?_
      refine c_sel [0, 1, 2, 3, 4] [poolC noH noH, cellsC b5 [.int .i64 0, str [], .slice none 0 0, .slice none 0 0, .slice none 0 0] 26, rowV 3 1 (.slice ((none, 0) : Option Addr × Nat).1 ([] : List Int).length ((none, 0) : Option Addr × Nat).2) ([] : List Int).length (([] : List Int).map e_i64), rowV 42 2 (.slice ((none, 0) : Option Addr × Nat).1 ([] : List T_tag_Ratio).length ((none, 0) : Option Addr × Nat).2) ([] : List T_tag_Ratio).length (([] : List T_tag_Ratio).map e_tag_Ratio), rowV 65 6 (.slice ((none, 0) : Option Addr × Nat).1 (([] : List (List Value)).length) ((none, 0) : Option Addr × Nat).2) (([] : List (List Value)).length) (([] : List (List Value)).map idC)] rfl (by decide) ?_
      obtain rfl := Option.some.inj H38
      refine c_both 0 4 rfl rfl (by decide) ?_
      refine c_imp 0 rfl (imp_rowD (p := ((none, 0) : Option Addr × Nat)) rfl (AllC.nil (G := g_tag_Entry) (h := noH) (sz := 6))) ?_
      refine c_both 3 0 rfl rfl (by decide) ?_
      refine c_both 2 3 rfl rfl (by decide) ?_
      refine retCt (i := 1) (vs := [.int .i64 0, str [], .slice ((none, 0) : Option Addr × Nat).1 ([] : List Int).length ((none, 0) : Option Addr × Nat).2, .slice ((none, 0) : Option Addr × Nat).1 ([] : List T_tag_Ratio).length ((none, 0) : Option Addr × Nat).2, .slice ((none, 0) : Option Addr × Nat).1 (([] : List (List Value)).length) ((none, 0) : Option Addr × Nat).2]) (v2 := .bool false) Tryz.isAgg26 Tryz.sizeOf26 rfl rfl rfl rfl rfl (finX (((none, 0) : Option Addr × Nat), ((none, 0) : Option Addr × Nat), ((none, 0) : Option Addr × Nat)) (i := 2) rfl (by first | rfl | rw [(show (([] : List (List Value)).length) = ([] : List T_tag_Entry).length from (AllC.nil (G := g_tag_Entry) (h := noH) (sz := 6)).len)]) (by first | exact Imp.refl _ | exact Imp.of (by rw [(show (([] : List (List Value)).length) = ([] : List T_tag_Entry).length from (AllC.nil (G := g_tag_Entry) (h := noH) (sz := 6)).len)])))
     ·have H39 := cnd_f hb H37; clear H37
      refine c_skip ?_
      refine c_close () () 0 [0, 1, 2] (by exact ⟨rfl, rfl, rfl, rfl, trivial⟩) (by decide) rfl (by exact ⟨H39, trivial⟩) (Nat.lt_succ_self _)
    ·have H40 := cnd_f hb H35; clear H35
     refine l_passed rfl rfl rfl ?_
     refine l_passed rfl rfl rfl ?_
     refine l_passed rfl rfl rfl ?_
     refine l_passed rfl rfl rfl ?_
     refine l_val rfl rfl rfl (r_pickF (v := .bool false) rfl rfl) ?_
     refine l_val rfl rfl rfl (r_pickF (v := .bool false) rfl rfl) ?_
     refine l_nil ?_
     refine c_false rfl ?_
     refine c_skip ?_
     refine c_close () () 0 [0, 1, 2] (by exact ⟨rfl, rfl, rfl, rfl, trivial⟩) (by decide) rfl (by exact ⟨H40, trivial⟩) (Nat.lt_succ_self _)
  ·rintro _ _ gg H31 _
   replace H31 : tag_readWords_j1 a0 a1 = some r := H31
   refine c_tidyF [(0, .int .i64 a0), (1, v1), (4, .pointer (some ⟨b5, 0, none⟩)), (6, .pointer (some ⟨b6, 0, none⟩))] [poolC noH noH, cellsC b5 [.int .i64 0, str [], .slice none 0 0, .slice none 0 0, .slice none 0 0] 26, cellsC b6 [.int .i64 a0, str [], .slice none 0 0, .slice none 0 0, .slice none 0 0] 26] rfl rfl ?_
   refine c_seq ?_
   refine c_region ?_
   refine l_val rfl rfl rfl (r_move (v := v1) rfl) ?_
   obtain ⟨t35, h_t35, H32⟩ := bnd_some H31; clear H31
   refine l_callG (fun w hF hS => k22 (know_all w) (f1.mono (hw.now hF)) h_t35) Tryz.call22 rfl rfl rfl ?_
   obtain ⟨t36, h_t36, H33⟩ := bnd_some H32; clear H32
   refine l_call (k47 h_t36) Tryz.call47 rfl rfl rfl ?_
   refine l_val rfl rfl rfl (r_move (v := .tuple #[str t36.1, .bool t36.2]) rfl) ?_
   refine l_val rfl rfl rfl (r_extract (v := str t36.1) rfl rfl) ?_
   refine l_val rfl rfl rfl (r_extract (v := .bool t36.2) rfl rfl) ?_
   refine l_val rfl rfl rfl (r_assign (v := str t36.1) rfl) ?_
   refine l_val rfl rfl rfl (r_assign (v := .bool t36.2) rfl) ?_
   refine l_nil ?_
   refine c_seq ?_
   refine c_region ?_
   refine l_val rfl rfl rfl (r_move (v := str t36.1) rfl) ?_
   refine l_val rfl rfl rfl (r_field Tryz.runUnderlying26 rfl Tryz.sizeOf9 rfl rfl) ?_
   refine l_store (i := 2) (vs := [str t36.1]) (cs' := [.int .i64 a0, str t36.1, .slice none 0 0, .slice none 0 0, .slice none 0 0]) Tryz.sizeOf9 rfl rfl rfl rfl rfl rfl rfl rfl rfl ?_
   refine l_nil ?_
   refine c_seq ?_
   refine c_region ?_
   refine l_loadN (i := 2) (vs := [.int .i64 a0, str t36.1, .slice none 0 0, .slice none 0 0, .slice none 0 0]) Tryz.isAgg26 Tryz.sizeOf26 rfl rfl rfl rfl rfl ?_
   refine l_val rfl rfl rfl (r_move (v := .bool t36.2) rfl) ?_
   refine l_store (i := 1) (vs := [.int .i64 a0, str t36.1, .slice none 0 0, .slice none 0 0, .slice none 0 0]) (cs' := [.int .i64 a0, str t36.1, .slice none 0 0, .slice none 0 0, .slice none 0 0]) Tryz.sizeOf26 rfl rfl rfl rfl rfl rfl rfl rfl rfl ?_
   refine l_val rfl rfl rfl (r_assign (v := .bool t36.2) rfl) ?_
   refine l_nil ?_
   refine c_ret ?_
   refine c_sel [0, 1] [poolC noH noH, cellsC b5 [.int .i64 a0, str t36.1, .slice none 0 0, .slice none 0 0, .slice none 0 0] 26] rfl (by decide) ?_
   refine c_nilRow 3 1 ?_
   refine c_nilRow 42 2 ?_
   refine c_nilRow 65 6 ?_
   refine c_sel [0, 1, 2, 3, 4] [poolC noH noH, cellsC b5 [.int .i64 a0, str t36.1, .slice none 0 0, .slice none 0 0, .slice none 0 0] 26, rowV 3 1 (.slice ((none, 0) : Option Addr × Nat).1 ([] : List Int).length ((none, 0) : Option Addr × Nat).2) ([] : List Int).length (([] : List Int).map e_i64), rowV 42 2 (.slice ((none, 0) : Option Addr × Nat).1 ([] : List T_tag_Ratio).length ((none, 0) : Option Addr × Nat).2) ([] : List T_tag_Ratio).length (([] : List T_tag_Ratio).map e_tag_Ratio), rowV 65 6 (.slice ((none, 0) : Option Addr × Nat).1 (([] : List (List Value)).length) ((none, 0) : Option Addr × Nat).2) (([] : List (List Value)).length) (([] : List (List Value)).map idC)] rfl (by decide) ?_
   obtain rfl := Option.some.inj H33
   refine c_both 0 4 rfl rfl (by decide) ?_
   refine c_imp 0 rfl (imp_rowD (p := ((none, 0) : Option Addr × Nat)) rfl (AllC.nil (G := g_tag_Entry) (h := noH) (sz := 6))) ?_
   refine c_both 3 0 rfl rfl (by decide) ?_
   refine c_both 2 3 rfl rfl (by decide) ?_
   refine retCt (i := 1) (vs := [.int .i64 a0, str t36.1, .slice ((none, 0) : Option Addr × Nat).1 ([] : List Int).length ((none, 0) : Option Addr × Nat).2, .slice ((none, 0) : Option Addr × Nat).1 ([] : List T_tag_Ratio).length ((none, 0) : Option Addr × Nat).2, .slice ((none, 0) : Option Addr × Nat).1 (([] : List (List Value)).length) ((none, 0) : Option Addr × Nat).2]) (v2 := .bool t36.2) Tryz.isAgg26 Tryz.sizeOf26 rfl rfl rfl rfl rfl (finX (((none, 0) : Option Addr × Nat), ((none, 0) : Option Addr × Nat), ((none, 0) : Option Addr × Nat)) (i := 2) rfl (by first | rfl | rw [(show (([] : List (List Value)).length) = ([] : List T_tag_Entry).length from (AllC.nil (G := g_tag_Entry) (h := noH) (sz := 6)).len)]) (by first | exact Imp.refl _ | exact Imp.of (by rw [(show (([] : List (List Value)).length) = ([] : List T_tag_Entry).length from (AllC.nil (G := g_tag_Entry) (h := noH) (sz := 6)).len)])))
 ·have H41 := cnd_f hb H29; clear H29
  refine c_skip ?_
  refine c_meet (r := r) (σ := (List Int) × (List T_tag_Ratio)) (τ := (Option Addr × Nat) × (Option Addr × Nat)) (fun s => tag_readWords_j2 a0 s.1 s.2) (fun s t => [(4, .pointer (some ⟨b5, 0, none⟩)), (6, .pointer (some ⟨b6, 0, none⟩))]) (fun s t => [poolC noH noH, cellsC b5 [.int .i64 0, str [], .slice none 0 0, .slice none 0 0, .slice none 0 0] 26, cellsC b6 [.int .i64 a0, str [], .slice t.1.1 s.1.length t.1.2, .slice t.2.1 s.2.length t.2.2, .slice none 0 0] 26, rowV 3 1 (.slice t.1.1 s.1.length t.1.2) s.1.length (s.1.map e_i64), rowV 42 2 (.slice t.2.1 s.2.length t.2.2) s.2.length (s.2.map e_tag_Ratio)]) (fun s t => True) ?_ ?_
  ·refine c_seq ?_
   refine c_region ?_
   refine l_val rfl rfl rfl (r_move (v := v1) rfl) ?_
   refine l_val rfl rfl rfl (r_lenF Tryz.underlying33 rfl f1 rfl) ?_
   refine l_val rfl rfl rfl (r_move (v := .int .i64 0) rfl) ?_
   refine l_nil ?_
   refine c_block ?_
   refine c_nilRow 3 1 ?_
   refine c_nilRow 42 2 ?_
   refine c_fix (σ := Int × (List Int) × (List T_tag_Ratio)) (τ := (Option Addr × Nat) × (Option Addr × Nat)) (fun next3 s => tag_readWords_l3 a0 a1 next3 s.1 s.2.1 s.2.2) (fun s t => [(0, .int .i64 a0), (4, .pointer (some ⟨b5, 0, none⟩)), (6, .pointer (some ⟨b6, 0, none⟩)), (43, v1), (44, .int .i64 (a1.length : Int)), (45, .int .i64 s.1)]) (fun s t => [poolC noH noH, cellsC b5 [.int .i64 0, str [], .slice none 0 0, .slice none 0 0, .slice none 0 0] 26, cellsC b6 [.int .i64 a0, str [], .slice t.1.1 s.2.1.length t.1.2, .slice t.2.1 s.2.2.length t.2.2, .slice none 0 0] 26, rowV 3 1 (.slice t.1.1 s.2.1.length t.1.2) s.2.1.length (s.2.1.map e_i64), rowV 42 2 (.slice t.2.1 s.2.2.length t.2.2) s.2.2.length (s.2.2.map e_tag_Ratio)]) (fun s t => True) (0, ([] : List Int), ([] : List T_tag_Ratio)) (((none, 0) : Option Addr × Nat), ((none, 0) : Option Addr × Nat)) [0, 1, 2, 3, 4] H41 (by exact trivial) (by exact ⟨rfl, rfl, rfl, rfl, rfl, rfl, trivial⟩) (by decide) rfl ?_
   rintro ⟨x45_2, l_5, l_6⟩ ⟨p_3, p_4⟩ m3 gg H43 _
   clear H41
   replace H43 : tag_readWords_l3 a0 a1 (it (fun next3 s => tag_readWords_l3 a0 a1 next3 s.1 s.2.1 s.2.2) m3) x45_2 l_5 l_6 = some r := H43
   generalize hn3 : it (fun next3 s => tag_readWords_l3 a0 a1 next3 s.1 s.2.1 s.2.2) m3 = next3 at H43
   refine c_tidyF [(0, .int .i64 a0), (4, .pointer (some ⟨b5, 0, none⟩)), (6, .pointer (some ⟨b6, 0, none⟩)), (43, v1), (44, .int .i64 (a1.length : Int)), (45, .int .i64 x45_2)] [poolC noH noH, cellsC b5 [.int .i64 0, str [], .slice none 0 0, .slice none 0 0, .slice none 0 0] 26, cellsC b6 [.int .i64 a0, str [], .slice p_3.1 l_5.length p_3.2, .slice p_4.1 l_6.length p_4.2, .slice none 0 0] 26, rowV 3 1 (.slice p_3.1 l_5.length p_3.2) l_5.length (l_5.map e_i64), rowV 42 2 (.slice p_4.1 l_6.length p_4.2) l_6.length (l_6.map e_tag_Ratio)] rfl rfl ?_
   refine c_seq ?_
   refine c_sel [0, 1, 2, 3, 4] [poolC noH noH, cellsC b5 [.int .i64 0, str [], .slice none 0 0, .slice none 0 0, .slice none 0 0] 26, cellsC b6 [.int .i64 a0, str [], .slice p_3.1 l_5.length p_3.2, .slice p_4.1 l_6.length p_4.2, .slice none 0 0] 26, rowV 3 1 (.slice p_3.1 l_5.length p_3.2) l_5.length (l_5.map e_i64), rowV 42 2 (.slice p_4.1 l_6.length p_4.2) l_6.length (l_6.map e_tag_Ratio)] rfl (by decide) ?_
   refine c_region ?_
   refine l_val rfl rfl rfl (r_lss rfl rfl) ?_
   refine l_nil ?_
   refine c_seq ?_
   refine c_if (b := (decide (x45_2 < (a1.length : Int)))) rfl (fun hb => ?_) (fun hb => ?_)
   ·have H44 := cnd_t hb H43; clear H43
    refine c_skip ?_
    refine c_seq ?_
    refine c_block ?_
    refine c_seq ?_
    refine c_region ?_
    obtain ⟨t47, h_t47, H45⟩ := bnd_some H44; clear H44
    refine l_val rfl rfl rfl (r_indexF Tryz.underlying33 Tryz.sizeOf9 rfl rfl f1 h_t47) ?_
    refine l_read (fun w hF hS => run_loadG1 (f := e_string) (i := x45_2) (sz := 1) (j := 0) (v := str t47) Tryz.isAgg9 rfl rfl (f1.row (hw.now hF)) h_t47 rfl) rfl rfl rfl ?_
    refine l_val rfl rfl rfl (r_assign (v := str t47) rfl) ?_
    refine l_nil ?_
    refine c_seq ?_
    refine c_region ?_
    refine l_val rfl rfl rfl (r_assign (v := .bool false) rfl) ?_
    refine l_nil ?_
    refine c_meet (r := r) (σ := Bool × (List Int) × (List T_tag_Ratio)) (τ := (Option Addr × Nat) × (Option Addr × Nat)) (fun s => tag_readWords_j4 x45_2 next3 s.1 s.2.1 s.2.2) (fun s t => [(0, .int .i64 a0), (4, .pointer (some ⟨b5, 0, none⟩)), (6, .pointer (some ⟨b6, 0, none⟩)), (11, .bool s.1), (43, v1), (44, .int .i64 (a1.length : Int)), (45, .int .i64 x45_2)]) (fun s t => [poolC noH noH, cellsC b5 [.int .i64 0, str [], .slice none 0 0, .slice none 0 0, .slice none 0 0] 26, cellsC b6 [.int .i64 a0, str [], .slice t.1.1 s.2.1.length t.1.2, .slice t.2.1 s.2.2.length t.2.2, .slice none 0 0] 26, rowV 3 1 (.slice t.1.1 s.2.1.length t.1.2) s.2.1.length (s.2.1.map e_i64), rowV 42 2 (.slice t.2.1 s.2.2.length t.2.2) s.2.2.length (s.2.2.map e_tag_Ratio)]) (fun s t => True) ?_ ?_
    ·refine c_seq ?_
     refine c_region ?_
     refine l_val rfl rfl rfl (r_move (v := .int .i64 a0) rfl) ?_
     refine l_val rfl rfl rfl (r_eql rfl rfl) ?_
     refine l_nil ?_
     refine c_if (b := (decide (a0 = 5))) rfl (fun hb => ?_) (fun hb => ?_)
     ·have H50 := cnd_t hb H45; clear H45
      refine c_seq ?_
      refine c_region ?_
      refine l_alloc (cs := [.int .i64 0, .int .i64 0]) Tryz.zeroValue42 rfl rfl rfl (fun b7 => ?_)
      refine l_nil ?_
      refine c_seq ?_
      refine c_region ?_
      refine l_val rfl rfl rfl (r_move (v := str t47) rfl) ?_
      obtain ⟨t53, h_t53, H51⟩ := bnd_some H50; clear H50
      refine l_callG (fun w hF hS => k48 (know_all w) (tb_pow10.mono (hw.now hF)) h_t53) Tryz.call48 rfl rfl rfl ?_
      refine l_val rfl rfl rfl (r_move (v := .tuple #[.agg #[.int .i64 t53.1.Num, .int .i64 t53.1.Den], .bool t53.2]) rfl) ?_
      refine l_val rfl rfl rfl (r_extract (v := .agg #[.int .i64 t53.1.Num, .int .i64 t53.1.Den]) rfl rfl) ?_
      refine l_val rfl rfl rfl (r_extract (v := .bool t53.2) rfl rfl) ?_
      refine l_store (i := 5) (vs := [.int .i64 t53.1.Num, .int .i64 t53.1.Den]) (cs' := [.int .i64 t53.1.Num, .int .i64 t53.1.Den]) Tryz.sizeOf42 rfl rfl rfl rfl rfl rfl rfl rfl rfl ?_
      refine l_val rfl rfl rfl (r_assign (v := .bool t53.2) rfl) ?_
      refine l_nil ?_
      refine c_sel [0, 1, 2, 3, 4, 5] [poolC noH noH, cellsC b5 [.int .i64 0, str [], .slice none 0 0, .slice none 0 0, .slice none 0 0] 26, cellsC b6 [.int .i64 a0, str [], .slice p_3.1 l_5.length p_3.2, .slice p_4.1 l_6.length p_4.2, .slice none 0 0] 26, rowV 3 1 (.slice p_3.1 l_5.length p_3.2) l_5.length (l_5.map e_i64), rowV 42 2 (.slice p_4.1 l_6.length p_4.2) l_6.length (l_6.map e_tag_Ratio), cellsC b7 [.int .i64 t53.1.Num, .int .i64 t53.1.Den] 42] rfl (by decide) ?_
      refine c_region ?_
      refine l_val rfl rfl rfl (r_field Tryz.runUnderlying26 rfl Tryz.sizeOf23 rfl rfl) ?_
      refine l_load1 (i := 2) (v := .slice p_4.1 l_6.length p_4.2) Tryz.isAgg23 rfl rfl rfl rfl rfl ?_
      refine l_loadN (i := 5) (vs := [.int .i64 t53.1.Num, .int .i64 t53.1.Den]) Tryz.isAgg42 Tryz.sizeOf42 rfl rfl rfl rfl rfl ?_
      refine l_buildSlice (vs := [.agg #[.int .i64 t53.1.Num, .int .i64 t53.1.Den]]) (cs := [.int .i64 t53.1.Num, .int .i64 t53.1.Den]) Tryz.underlying23 Tryz.sizeOf42 Tryz.zeroValue42 rfl rfl rfl rfl rfl rfl rfl (fun b8 => ?_)
      obtain ⟨l60, h_l60, H52⟩ := bnd_some H51; clear H51
      refine l_turn (turns_appG (i := 4) (hn := rfl) (rds := [6]) (p := p_4) (sz := 2) (by_ := 16) (f := e_tag_Ratio) (ys := l_6) (ls := ([t53.1] : List T_tag_Ratio)) (V := .slice (some ⟨b8, 0, none⟩) 1 1) Tryz.underlying23 (info_of Tryz.typeInfo42) rfl rfl rfl rfl rfl rfl rfl rfl rfl rfl (fun w L' hF hS hi => row_box (i := 6) hS ((hi 6 (by simp)).trans rfl) rfl rfl) (fun _ => rfl) (fun _ => rfl) h_l60) rfl rfl rfl (fun p_7 => ?_)
      refine l_val rfl rfl rfl (r_field Tryz.runUnderlying26 rfl Tryz.sizeOf23 rfl rfl) ?_
      refine l_store (i := 2) (vs := [.slice p_7.1 l60.length p_7.2]) (cs' := [.int .i64 a0, str [], .slice p_3.1 l_5.length p_3.2, .slice p_7.1 l60.length p_7.2, .slice none 0 0]) Tryz.sizeOf23 rfl rfl rfl rfl rfl rfl rfl rfl rfl ?_
      refine l_nil ?_
      refine c_close (t53.2, l_5, l60) (p_3, p_7) 0 [0, 1, 2, 3, 4] (by exact ⟨rfl, rfl, rfl, rfl, rfl, rfl, rfl, trivial⟩) (by decide) rfl (by exact ⟨H52, trivial⟩) (Nat.lt_succ_self _)
     ·have H53 := cnd_f hb H45; clear H45
      refine c_seq ?_
      refine c_region ?_
      refine l_val rfl rfl rfl (r_assign (v := .int .i64 0) rfl) ?_
      refine l_nil ?_
      refine c_seq ?_
      refine c_region ?_
      refine l_val rfl rfl rfl (r_move (v := str t47) rfl) ?_
      refine l_val rfl rfl rfl (r_move (v := .int .i64 a0) rfl) ?_
      refine l_val rfl rfl rfl (r_eql rfl rfl) ?_
      obtain ⟨t66, h_t66, H54⟩ := bnd_some H53; clear H53
      refine l_callG (fun w hF hS => k49 (know_all w) (tb_pow10.mono (hw.now hF)) h_t66) Tryz.call49 rfl rfl rfl ?_
      refine l_val rfl rfl rfl (r_move (v := .tuple #[.int .i64 t66.1, .bool t66.2]) rfl) ?_
      refine l_val rfl rfl rfl (r_extract (v := .int .i64 t66.1) rfl rfl) ?_
      refine l_val rfl rfl rfl (r_extract (v := .bool t66.2) rfl rfl) ?_
      refine l_val rfl rfl rfl (r_assign (v := .int .i64 t66.1) rfl) ?_
      refine l_val rfl rfl rfl (r_assign (v := .bool t66.2) rfl) ?_
      refine l_nil ?_
      refine c_region ?_
      refine l_val rfl rfl rfl (r_field Tryz.runUnderlying26 rfl Tryz.sizeOf22 rfl rfl) ?_
      refine l_load1 (i := 2) (v := .slice p_3.1 l_5.length p_3.2) Tryz.isAgg22 rfl rfl rfl rfl rfl ?_
      refine l_val rfl rfl rfl (r_move (v := .int .i64 t66.1) rfl) ?_
      refine l_buildSlice (vs := [.int .i64 t66.1]) (cs := [.int .i64 t66.1]) Tryz.underlying22 Tryz.sizeOf3 Tryz.zeroValue3 rfl rfl rfl rfl rfl rfl rfl (fun b9 => ?_)
      obtain ⟨l73, h_l73, H55⟩ := bnd_some H54; clear H54
      refine l_turn (turns_appG (i := 3) (hn := rfl) (rds := [5]) (p := p_3) (sz := 1) (by_ := 8) (f := e_i64) (ys := l_5) (ls := ([t66.1] : List Int)) (V := .slice (some ⟨b9, 0, none⟩) 1 1) Tryz.underlying22 (info_of Tryz.typeInfo3) rfl rfl rfl rfl rfl rfl rfl rfl rfl rfl (fun w L' hF hS hi => row_box (i := 5) hS ((hi 5 (by simp)).trans rfl) rfl rfl) (fun _ => rfl) (fun _ => rfl) h_l73) rfl rfl rfl (fun p_8 => ?_)
      refine l_val rfl rfl rfl (r_field Tryz.runUnderlying26 rfl Tryz.sizeOf22 rfl rfl) ?_
      refine l_store (i := 2) (vs := [.slice p_8.1 l73.length p_8.2]) (cs' := [.int .i64 a0, str [], .slice p_8.1 l73.length p_8.2, .slice p_4.1 l_6.length p_4.2, .slice none 0 0]) Tryz.sizeOf22 rfl rfl rfl rfl rfl rfl rfl rfl rfl ?_
      refine l_nil ?_
      refine c_close (t66.2, l73, l_6) (p_8, p_4) 0 [0, 1, 2, 3, 4] (by exact ⟨rfl, rfl, rfl, rfl, rfl, rfl, rfl, trivial⟩) (by decide) rfl (by exact ⟨H55, trivial⟩) (Nat.lt_succ_self _)
    ·rintro ⟨x11, l_7, l_8⟩ ⟨p_5, p_6⟩ gg H46 _
     replace H46 : tag_readWords_j4 x45_2 next3 x11 l_7 l_8 = some r := H46
     refine c_tidyF [(0, .int .i64 a0), (4, .pointer (some ⟨b5, 0, none⟩)), (6, .pointer (some ⟨b6, 0, none⟩)), (11, .bool x11), (43, v1), (44, .int .i64 (a1.length : Int)), (45, .int .i64 x45_2)] [poolC noH noH, cellsC b5 [.int .i64 0, str [], .slice none 0 0, .slice none 0 0, .slice none 0 0] 26, cellsC b6 [.int .i64 a0, str [], .slice p_5.1 l_7.length p_5.2, .slice p_6.1 l_8.length p_6.2, .slice none 0 0] 26, rowV 3 1 (.slice p_5.1 l_7.length p_5.2) l_7.length (l_7.map e_i64), rowV 42 2 (.slice p_6.1 l_8.length p_6.2) l_8.length (l_8.map e_tag_Ratio)] rfl rfl ?_
     refine c_seq ?_
     refine c_region ?_
     refine l_val rfl rfl rfl (r_move (v := .bool x11) rfl) ?_
     refine l_val rfl rfl rfl (r_not rfl) ?_
     refine l_nil ?_
     refine c_if (b := (!x11)) rfl (fun hb => ?_) (fun hb => ?_)
     ·have H47 := cnd_t hb H46; clear H46
      refine c_seq ?_
      refine c_region ?_
      refine l_val rfl rfl rfl (r_build (pl := #[(0, 1), (1, 1), (2, 1), (3, 1), (4, 1)]) (ps := []) (cells := #[.int .i64 0, str [], .slice none 0 0, .slice none 0 0, .slice none 0 0]) Tryz.zeroValue26 Tryz.runUnderlying26 (fun w => by kernel_rfl) rfl rfl) ?_
      refine l_store (i := 1) (vs := [.int .i64 0, str [], .slice none 0 0, .slice none 0 0, .slice none 0 0]) (cs' := [.int .i64 0, str [], .slice none 0 0, .slice none 0 0, .slice none 0 0]) Tryz.sizeOf26 rfl rfl rfl rfl rfl rfl rfl rfl rfl ?_
      refine l_val rfl rfl rfl (r_assign (v := .bool false) rfl) ?_
      refine l_nil ?_
      refine c_ret ?_
      refine c_sel [0, 1] [poolC noH noH, cellsC b5 [.int .i64 0, str [], .slice none 0 0, .slice none 0 0, .slice none 0 0] 26] rfl (by decide) ?_
      refine c_nilRow 3 1 ?_
      refine c_nilRow 42 2 ?_
      refine c_nilRow 65 6 ?_
      refine c_sel [0, 1, 2, 3, 4] [poolC noH noH, cellsC b5 [.int .i64 0, str [], .slice none 0 0, .slice none 0 0, .slice none 0 0] 26, rowV 3 1 (.slice ((none, 0) : Option Addr × Nat).1 ([] : List Int).length ((none, 0) : Option Addr × Nat).2) ([] : List Int).length (([] : List Int).map e_i64), rowV 42 2 (.slice ((none, 0) : Option Addr × Nat).1 ([] : List T_tag_Ratio).length ((none, 0) : Option Addr × Nat).2) ([] : List T_tag_Ratio).length (([] : List T_tag_Ratio).map e_tag_Ratio), rowV 65 6 (.slice ((none, 0) : Option Addr × Nat).1 (([] : List (List Value)).length) ((none, 0) : Option Addr × Nat).2) (([] : List (List Value)).length) (([] : List (List Value)).map idC)] rfl (by decide) ?_
      obtain rfl := Option.some.inj H47
      refine c_both 0 4 rfl rfl (by decide) ?_
      refine c_imp 0 rfl (imp_rowD (p := ((none, 0) : Option Addr × Nat)) rfl (AllC.nil (G := g_tag_Entry) (h := noH) (sz := 6))) ?_
      refine c_both 3 0 rfl rfl (by decide) ?_
      refine c_both 2 3 rfl rfl (by decide) ?_
      refine retCt (i := 1) (vs := [.int .i64 0, str [], .slice ((none, 0) : Option Addr × Nat).1 ([] : List Int).length ((none, 0) : Option Addr × Nat).2, .slice ((none, 0) : Option Addr × Nat).1 ([] : List T_tag_Ratio).length ((none, 0) : Option Addr × Nat).2, .slice ((none, 0) : Option Addr × Nat).1 (([] : List (List Value)).length) ((none, 0) : Option Addr × Nat).2]) (v2 := .bool false) Tryz.isAgg26 Tryz.sizeOf26 rfl rfl rfl rfl rfl (finX (((none, 0) : Option Addr × Nat), ((none, 0) : Option Addr × Nat), ((none, 0) : Option Addr × Nat)) (i := 2) rfl (by first | rfl | rw [(show (([] : List (List Value)).length) = ([] : List T_tag_Entry).length from (AllC.nil (G := g_tag_Entry) (h := noH) (sz := 6)).len)]) (by first | exact Imp.refl _ | exact Imp.of (by rw [(show (([] : List (List Value)).length) = ([] : List T_tag_Entry).length from (AllC.nil (G := g_tag_Entry) (h := noH) (sz := 6)).len)])))
     ·have H48 := cnd_f hb H46; clear H46
      refine c_skip ?_
      refine c_region ?_
      obtain ⟨t78, h_t78, H49⟩ := bnd_some H48; clear H48
      refine l_val rfl rfl rfl (r_addG rfl rfl h_t78) ?_
      refine l_val rfl rfl rfl (r_move (v := .int .i64 t78) rfl) ?_
      refine l_nil ?_
      refine c_close (t78, l_7, l_8) (p_5, p_6) m3 [0, 1, 2, 3, 4] (by exact ⟨rfl, rfl, rfl, rfl, rfl, rfl, trivial⟩) (by decide) rfl (by exact ⟨(by subst hn3; exact H49), trivial⟩) (Nat.lt_succ_self _)
   ·have H56 := cnd_f hb H43; clear H43
    refine c_exit ?_
    refine c_close (l_5, l_6) (p_3, p_4) 0 [0, 1, 2, 3, 4] (by exact ⟨rfl, rfl, trivial⟩) (by decide) rfl (by exact ⟨H56, trivial⟩) (Nat.lt_succ_self _)
  ·rintro ⟨l, l_2⟩ ⟨p, p_2⟩ gg H42 _
   replace H42 : tag_readWords_j2 a0 l l_2 = some r := H42
   refine c_tidyF [(4, .pointer (some ⟨b5, 0, none⟩)), (6, .pointer (some ⟨b6, 0, none⟩))] [poolC noH noH, cellsC b5 [.int .i64 0, str [], .slice none 0 0, .slice none 0 0, .slice none 0 0] 26, cellsC b6 [.int .i64 a0, str [], .slice p.1 l.length p.2, .slice p_2.1 l_2.length p_2.2, .slice none 0 0] 26, rowV 3 1 (.slice p.1 l.length p.2) l.length (l.map e_i64), rowV 42 2 (.slice p_2.1 l_2.length p_2.2) l_2.length (l_2.map e_tag_Ratio)] rfl rfl ?_
   refine c_seq ?_
   refine c_region ?_
   refine l_loadN (i := 2) (vs := [.int .i64 a0, str [], .slice p.1 l.length p.2, .slice p_2.1 l_2.length p_2.2, .slice none 0 0]) Tryz.isAgg26 Tryz.sizeOf26 rfl rfl rfl rfl rfl ?_
   refine l_store (i := 1) (vs := [.int .i64 a0, str [], .slice p.1 l.length p.2, .slice p_2.1 l_2.length p_2.2, .slice none 0 0]) (cs' := [.int .i64 a0, str [], .slice p.1 l.length p.2, .slice p_2.1 l_2.length p_2.2, .slice none 0 0]) Tryz.sizeOf26 rfl rfl rfl rfl rfl rfl rfl rfl rfl ?_
   refine l_val rfl rfl rfl (r_assign (v := .bool true) rfl) ?_
   refine l_nil ?_
   refine c_ret ?_
   refine c_sel [0, 1, 3, 4] [poolC noH noH, cellsC b5 [.int .i64 a0, str [], .slice p.1 l.length p.2, .slice p_2.1 l_2.length p_2.2, .slice none 0 0] 26, rowV 3 1 (.slice p.1 l.length p.2) l.length (l.map e_i64), rowV 42 2 (.slice p_2.1 l_2.length p_2.2) l_2.length (l_2.map e_tag_Ratio)] rfl (by decide) ?_
   refine c_nilRow 65 6 ?_
   obtain rfl := Option.some.inj H42
   refine c_both 0 4 rfl rfl (by decide) ?_
   refine c_imp 0 rfl (imp_rowD (p := ((none, 0) : Option Addr × Nat)) rfl (AllC.nil (G := g_tag_Entry) (h := noH) (sz := 6))) ?_
   refine c_both 3 0 rfl rfl (by decide) ?_
   refine c_both 2 3 rfl rfl (by decide) ?_
   refine retCt (i := 1) (vs := [.int .i64 a0, str [], .slice p.1 l.length p.2, .slice p_2.1 l_2.length p_2.2, .slice ((none, 0) : Option Addr × Nat).1 (([] : List (List Value)).length) ((none, 0) : Option Addr × Nat).2]) (v2 := .bool true) Tryz.isAgg26 Tryz.sizeOf26 rfl rfl rfl rfl rfl (finX (p, p_2, ((none, 0) : Option Addr × Nat)) (i := 2) rfl (by first | rfl | rw [(show (([] : List (List Value)).length) = ([] : List T_tag_Entry).length from (AllC.nil (G := g_tag_Entry) (h := noH) (sz := 6)).len)]) (by first | exact Imp.refl _ | exact Imp.of (by rw [(show (([] : List (List Value)).length) = ([] : List T_tag_Entry).length from (AllC.nil (G := g_tag_Entry) (h := noH) (sz := 6)).len)])))
theorem k50 {a : Option Addr} {n c : Nat} (hc : n ≤ c) : Ret Tryz.prog 50 [.slice a n c] (.slice (cutA a 0 n 1) n n) := by
  refine enterRet (n := 9) Tryz.func50 rfl rfl rfl (fun wd => ?_)
  refine c_seq ?_
  refine c_region ?_
  refine l_val rfl rfl rfl (r_assign (v := .slice none 0 0) rfl) ?_
  refine l_nil ?_
  refine c_seq ?_
  refine c_region ?_
  refine l_val rfl rfl rfl (r_move (v := .slice a n c) rfl) ?_
  refine l_val rfl rfl rfl (r_move (v := .slice a n c) rfl) ?_
  refine l_val rfl rfl rfl (r_len Tryz.underlying22 rfl) ?_
  refine l_val rfl rfl rfl (r_move (v := .slice a n c) rfl) ?_
  refine l_val rfl rfl rfl (r_len Tryz.underlying22 rfl) ?_
  refine l_val rfl rfl rfl (r_sliceHM (a := a) (m := n) (c := c) (h := (n : Int)) (q := (n : Int)) Tryz.underlying22 Tryz.sizeOf3 rfl rfl rfl (Int.natCast_nonneg n) (Int.le_refl _) (Int.ofNat_le.2 hc)) ?_
  refine l_val rfl rfl rfl (r_assign (v := .slice (cutA a 0 n 1) n n) rfl) ?_
  refine l_nil ?_
  refine c_ret ?_
  exact ret1 (v := .slice (cutA a 0 n 1) n n) rfl rfl (fin rfl)

theorem k51 {a0 : (List Int)} {v0 : Value} {r : (List Int)} {w : World} {h : Heap} (hw : Know h w noS) (f0 : FrS h 1 v0 (a0.map e_i64)) (H : slices_Clone_int a0 = some r) : Does Tryz.prog 51 (List.toArray [v0]) w (fun v w' => ∃ x : (Option Addr × Nat), v = (.slice x.1 r.length x.2) ∧ Turn w w' noS (rowV 3 1 (.slice x.1 r.length x.2) r.length (r.map e_i64))) := by
 refine enter (n := 8) Tryz.func51 rfl rfl rfl noS [] (Sat.nil _ _) ?_
 refine c_seq ?_
 refine c_region ?_
 refine l_val rfl rfl rfl (r_assign (v := .slice none 0 0) rfl) ?_
 refine l_nil ?_
 refine c_seq ?_
 refine c_seq ?_
 refine c_region ?_
 refine l_val rfl rfl rfl (r_move (v := v0) rfl) ?_
 refine l_val rfl rfl rfl (r_eqlNilS Tryz.underlying22 f0 rfl rfl) ?_
 refine l_nil ?_
 refine c_if (b := isNilV v0) rfl (fun hb => ?_) (fun hb => ?_)
 ·have hn_ : a0 = [] := f0.nilV hb
  have H3 : some ([] : List Int) = some r := by have h_ := H; rw [hn_] at h_; exact h_
  refine c_seq ?_
  refine c_region ?_
  refine l_val rfl rfl rfl (r_assign (v := .slice none 0 0) rfl) ?_
  refine l_nil ?_
  refine c_ret ?_
  refine c_nilRow 3 1 ?_
  obtain rfl := Option.some.inj H3
  refine ret1 (v := .slice ((none, 0) : Option Addr × Nat).1 ([] : List Int).length ((none, 0) : Option Addr × Nat).2) rfl rfl (finX ((none, 0) : Option Addr × Nat) (i := 0) rfl rfl (Imp.refl _))
 ·skip
  refine c_skip ?_
  refine c_seq ?_
  refine c_region ?_
  refine l_buildSlice (vs := []) (cs := []) Tryz.underlying22 Tryz.sizeOf3 Tryz.zeroValue3 rfl rfl rfl rfl rfl rfl rfl (fun b1 => ?_)
  refine l_val rfl rfl rfl (r_move (v := v0) rfl) ?_
  refine c_imp 0 rfl (imp_box (m := 0) (E := 3) (sz := 1) (xs := (([] : List Int)).map e_i64) rfl rfl rfl ⟨rfl, by decide⟩) ?_
  obtain ⟨l7, h_l7, H4⟩ := bnd_some H; clear H
  refine l_turn (turns_appG (i := 0) (hn := rfl) (rds := []) (p := ((some ⟨b1, 0, none⟩, 0) : Option Addr × Nat)) (sz := 1) (by_ := 8) (f := e_i64) (ys := ([] : List Int)) (ls := a0) (V := v0) Tryz.underlying22 (info_of Tryz.typeInfo3) rfl rfl rfl rfl rfl rfl rfl rfl f0.eq (List.length_map _) (fun w L' hF hS hi => (f0).row (hw.now hF)) (fun _ => rfl) (fun _ => rfl) h_l7) rfl rfl rfl (fun p => ?_)
  refine l_val rfl rfl rfl (r_assign (v := .slice p.1 l7.length p.2) rfl) ?_
  refine l_nil ?_
  refine c_ret ?_
  obtain rfl := Option.some.inj H4
  refine ret1 (v := .slice p.1 l7.length p.2) rfl rfl (finX p (i := 0) rfl rfl (Imp.refl _))
theorem k52 {a : Option Addr} {n c : Nat} (hc : n ≤ c) : Ret Tryz.prog 52 [.slice a n c] (.slice (cutA a 0 n 2) n n) := by
  refine enterRet (n := 9) Tryz.func52 rfl rfl rfl (fun wd => ?_)
  refine c_seq ?_
  refine c_region ?_
  refine l_val rfl rfl rfl (r_assign (v := .slice none 0 0) rfl) ?_
  refine l_nil ?_
  refine c_seq ?_
  refine c_region ?_
  refine l_val rfl rfl rfl (r_move (v := .slice a n c) rfl) ?_
  refine l_val rfl rfl rfl (r_move (v := .slice a n c) rfl) ?_
  refine l_val rfl rfl rfl (r_len Tryz.underlying23 rfl) ?_
  refine l_val rfl rfl rfl (r_move (v := .slice a n c) rfl) ?_
  refine l_val rfl rfl rfl (r_len Tryz.underlying23 rfl) ?_
  refine l_val rfl rfl rfl (r_sliceHM (a := a) (m := n) (c := c) (h := (n : Int)) (q := (n : Int)) Tryz.underlying23 Tryz.sizeOf42 rfl rfl rfl (Int.natCast_nonneg n) (Int.le_refl _) (Int.ofNat_le.2 hc)) ?_
  refine l_val rfl rfl rfl (r_assign (v := .slice (cutA a 0 n 2) n n) rfl) ?_
  refine l_nil ?_
  refine c_ret ?_
  exact ret1 (v := .slice (cutA a 0 n 2) n n) rfl rfl (fin rfl)

theorem k53 {a0 : (List T_tag_Ratio)} {v0 : Value} {r : (List T_tag_Ratio)} {w : World} {h : Heap} (hw : Know h w noS) (f0 : FrS h 2 v0 (a0.map e_tag_Ratio)) (H : slices_Clone_tag_Ratio a0 = some r) : Does Tryz.prog 53 (List.toArray [v0]) w (fun v w' => ∃ x : (Option Addr × Nat), v = (.slice x.1 r.length x.2) ∧ Turn w w' noS (rowV 42 2 (.slice x.1 r.length x.2) r.length (r.map e_tag_Ratio))) := by
 refine enter (n := 8) Tryz.func53 rfl rfl rfl noS [] (Sat.nil _ _) ?_
 refine c_seq ?_
 refine c_region ?_
 refine l_val rfl rfl rfl (r_assign (v := .slice none 0 0) rfl) ?_
 refine l_nil ?_
 refine c_seq ?_
 refine c_seq ?_
 refine c_region ?_
 refine l_val rfl rfl rfl (r_move (v := v0) rfl) ?_
 refine l_val rfl rfl rfl (r_eqlNilS Tryz.underlying23 f0 rfl rfl) ?_
 refine l_nil ?_
 refine c_if (b := isNilV v0) rfl (fun hb => ?_) (fun hb => ?_)
 ·have hn_ : a0 = [] := f0.nilV hb
  have H3 : some ([] : List T_tag_Ratio) = some r := by have h_ := H; rw [hn_] at h_; exact h_
  refine c_seq ?_
  refine c_region ?_
  refine l_val rfl rfl rfl (r_assign (v := .slice none 0 0) rfl) ?_
  refine l_nil ?_
  refine c_ret ?_
  refine c_nilRow 42 2 ?_
  obtain rfl := Option.some.inj H3
  refine ret1 (v := .slice ((none, 0) : Option Addr × Nat).1 ([] : List T_tag_Ratio).length ((none, 0) : Option Addr × Nat).2) rfl rfl (finX ((none, 0) : Option Addr × Nat) (i := 0) rfl rfl (Imp.refl _))
 ·skip
  refine c_skip ?_
  refine c_seq ?_
  refine c_region ?_
  refine l_buildSlice (vs := []) (cs := []) Tryz.underlying23 Tryz.sizeOf42 Tryz.zeroValue42 rfl rfl rfl rfl rfl rfl rfl (fun b1 => ?_)
  refine l_val rfl rfl rfl (r_move (v := v0) rfl) ?_
  refine c_imp 0 rfl (imp_box (m := 0) (E := 42) (sz := 2) (xs := (([] : List T_tag_Ratio)).map e_tag_Ratio) rfl rfl rfl ⟨rfl, by decide⟩) ?_
  obtain ⟨l7, h_l7, H4⟩ := bnd_some H; clear H
  refine l_turn (turns_appG (i := 0) (hn := rfl) (rds := []) (p := ((some ⟨b1, 0, none⟩, 0) : Option Addr × Nat)) (sz := 2) (by_ := 16) (f := e_tag_Ratio) (ys := ([] : List T_tag_Ratio)) (ls := a0) (V := v0) Tryz.underlying23 (info_of Tryz.typeInfo42) rfl rfl rfl rfl rfl rfl rfl rfl f0.eq (List.length_map _) (fun w L' hF hS hi => (f0).row (hw.now hF)) (fun _ => rfl) (fun _ => rfl) h_l7) rfl rfl rfl (fun p => ?_)
  refine l_val rfl rfl rfl (r_assign (v := .slice p.1 l7.length p.2) rfl) ?_
  refine l_nil ?_
  refine c_ret ?_
  obtain rfl := Option.some.inj H4
  refine ret1 (v := .slice p.1 l7.length p.2) rfl rfl (finX p (i := 0) rfl rfl (Imp.refl _))
theorem k54 {a0 : (List T_tag_Entry)} {v0 : Value} {r : (List T_tag_Entry)} {w : World} {h : Heap} (hw : Know h w noS) (f0 : FrN h 6 v0 g_tag_Entry a0) (H : tag_copyEntries a0 = some r) : Does Tryz.prog 54 (List.toArray [v0]) w (fun v w' => ∃ x : (Option Addr × Nat), v = (.slice x.1 r.length x.2) ∧ Turn w w' noS (rowD 65 6 g_tag_Entry (.slice x.1 r.length x.2) r.length r)) := by
 refine enter (n := 31) Tryz.func54 rfl rfl rfl noS [] (Sat.nil _ _) ?_
 refine c_poolNew noH ?_
 refine c_seq ?_
 refine c_region ?_
 refine l_val rfl rfl rfl (r_assign (v := .slice none 0 0) rfl) ?_
 refine l_nil ?_
 refine c_seq ?_
 refine c_seq ?_
 refine c_region ?_
 refine l_val rfl rfl rfl (r_move (v := v0) rfl) ?_
 refine l_val rfl rfl rfl (r_lenFN Tryz.underlying24 rfl f0) ?_
 refine l_val rfl rfl rfl (r_eql rfl rfl) ?_
 refine l_nil ?_
 refine c_if (b := (decide ((a0.length : Int) = 0))) rfl (fun hb => ?_) (fun hb => ?_)
 ·have H3 := cnd_t hb H; clear H
  refine c_seq ?_
  refine c_region ?_
  refine l_val rfl rfl rfl (r_assign (v := .slice none 0 0) rfl) ?_
  refine l_nil ?_
  refine c_ret ?_
  refine c_nilRow 65 6 ?_
  obtain rfl := Option.some.inj H3
  refine c_both 0 1 rfl rfl (by decide) ?_
  refine c_imp 0 rfl (imp_rowD (p := ((none, 0) : Option Addr × Nat)) rfl (AllC.nil (G := g_tag_Entry) (h := noH) (sz := 6))) ?_
  refine ret1 (v := .slice ((none, 0) : Option Addr × Nat).1 (([] : List (List Value)).length) ((none, 0) : Option Addr × Nat).2) rfl rfl (finX ((none, 0) : Option Addr × Nat) (i := 0) rfl (by first | rfl | rw [(show (([] : List (List Value)).length) = ([] : List T_tag_Entry).length from (AllC.nil (G := g_tag_Entry) (h := noH) (sz := 6)).len)]) (by first | exact Imp.refl _ | exact Imp.of (by rw [(show (([] : List (List Value)).length) = ([] : List T_tag_Entry).length from (AllC.nil (G := g_tag_Entry) (h := noH) (sz := 6)).len)])))
 ·have H4 := cnd_f hb H; clear H
  exact absurd (show (none : Option ((List T_tag_Entry))) = some r from H4) (fun h => by cases h)
theorem k27 {a0 : T_tag_Value} {v0_2 : Value} {v0_3 : Value} {v0_4 : Value} {r : T_tag_Value} {w : World} {h : Heap} (hw : Know h w noS) (f0_2 : FrS h 1 v0_2 (a0.Ints.map e_i64)) (f0_3 : FrS h 2 v0_3 (a0.Ratios.map e_tag_Ratio)) (f0_4 : FrN h 6 v0_4 g_tag_Entry a0.Entries) (H : tag_copyValue a0 = some r) : Does Tryz.prog 27 (List.toArray [.agg #[.int .i64 a0.Kind, str a0.Text, v0_2, v0_3, v0_4]]) w (fun v w' => ∃ x : (Option Addr × Nat) × (Option Addr × Nat) × (Option Addr × Nat), v = (.agg #[.int .i64 r.Kind, str r.Text, .slice x.1.1 r.Ints.length x.1.2, .slice x.2.1.1 r.Ratios.length x.2.1.2, .slice x.2.2.1 r.Entries.length x.2.2.2]) ∧ Turn w w' noS (bothC (roV 1 (.slice x.1.1 r.Ints.length x.1.2) r.Ints.length (r.Ints.map e_i64)) (bothC (roV 2 (.slice x.2.1.1 r.Ratios.length x.2.1.2) r.Ratios.length (r.Ratios.map e_tag_Ratio)) (rowD 65 6 g_tag_Entry (.slice x.2.2.1 r.Entries.length x.2.2.2) r.Entries.length r.Entries)))) := by
 refine enter (n := 18) Tryz.func27 rfl rfl rfl noS [] (Sat.nil _ _) ?_
 refine c_poolNew noH ?_
 refine c_seq ?_
 refine c_region ?_
 refine l_box (cs := [.int .i64 a0.Kind, str a0.Text, v0_2, v0_3, v0_4]) rfl rfl rfl rfl (fun b4 => ?_)
 refine l_alloc (cs := [.int .i64 0, str [], .slice none 0 0, .slice none 0 0, .slice none 0 0]) Tryz.zeroValue26 rfl rfl rfl (fun b5 => ?_)
 refine l_nil ?_
 refine c_seq ?_
 refine c_region ?_
 refine l_val rfl rfl rfl (r_field Tryz.runUnderlying26 rfl Tryz.sizeOf22 rfl rfl) ?_
 refine l_load1 (i := 1) (v := v0_2) Tryz.isAgg22 rfl rfl rfl rfl rfl ?_
 obtain ⟨t5, h_t5, H7⟩ := bnd_some H; clear H
 refine l_make (makes_call (rds := []) (G := fun x : (Option Addr × Nat) => .slice x.1 t5.length x.2) (C := fun x : (Option Addr × Nat) => rowV 3 1 (.slice x.1 t5.length x.2) t5.length (t5.map e_i64)) (fun w L' hF hS hi => k51 (know_all w) (f0_2.mono (hw.now hF)) h_t5) Tryz.call51 rfl) rfl rfl rfl (fun p => ?_)
 refine l_callG (fun w hF hS => k50 (capOf (i := 3) hS rfl) w) Tryz.call50 rfl rfl rfl ?_
 refine l_val rfl rfl rfl (r_field Tryz.runUnderlying26 rfl Tryz.sizeOf22 rfl rfl) ?_
 refine l_store (i := 1) (vs := [.slice (cutA p.1 0 t5.length 1) t5.length t5.length]) (cs' := [.int .i64 a0.Kind, str a0.Text, .slice (cutA p.1 0 t5.length 1) t5.length t5.length, v0_3, v0_4]) Tryz.sizeOf22 rfl rfl rfl rfl rfl rfl rfl rfl rfl ?_
 refine l_nil ?_
 refine c_seq ?_
 refine c_region ?_
 refine l_val rfl rfl rfl (r_field Tryz.runUnderlying26 rfl Tryz.sizeOf23 rfl rfl) ?_
 refine l_load1 (i := 1) (v := v0_3) Tryz.isAgg23 rfl rfl rfl rfl rfl ?_
 obtain ⟨t10, h_t10, H8⟩ := bnd_some H7; clear H7
 refine l_make (makes_call (rds := []) (G := fun x : (Option Addr × Nat) => .slice x.1 t10.length x.2) (C := fun x : (Option Addr × Nat) => rowV 42 2 (.slice x.1 t10.length x.2) t10.length (t10.map e_tag_Ratio)) (fun w L' hF hS hi => k53 (know_all w) (f0_3.mono (hw.now hF)) h_t10) Tryz.call53 rfl) rfl rfl rfl (fun p_2 => ?_)
 refine l_callG (fun w hF hS => k52 (capOf (i := 4) hS rfl) w) Tryz.call52 rfl rfl rfl ?_
 refine l_val rfl rfl rfl (r_field Tryz.runUnderlying26 rfl Tryz.sizeOf23 rfl rfl) ?_
 refine l_store (i := 1) (vs := [.slice (cutA p_2.1 0 t10.length 2) t10.length t10.length]) (cs' := [.int .i64 a0.Kind, str a0.Text, .slice (cutA p.1 0 t5.length 1) t5.length t5.length, .slice (cutA p_2.1 0 t10.length 2) t10.length t10.length, v0_4]) Tryz.sizeOf23 rfl rfl rfl rfl rfl rfl rfl rfl rfl ?_
 refine l_nil ?_
 refine c_seq ?_
 refine c_sel [0, 1, 2, 3, 4] [poolC noH noH, cellsC b4 [.int .i64 a0.Kind, str a0.Text, .slice (cutA p.1 0 t5.length 1) t5.length t5.length, .slice (cutA p_2.1 0 t10.length 2) t10.length t10.length, v0_4] 26, cellsC b5 [.int .i64 0, str [], .slice none 0 0, .slice none 0 0, .slice none 0 0] 26, rowV 3 1 (.slice p.1 t5.length p.2) t5.length (t5.map e_i64), rowV 42 2 (.slice p_2.1 t10.length p_2.2) t10.length (t10.map e_tag_Ratio)] rfl (by decide) ?_
 refine c_region ?_
 refine l_val rfl rfl rfl (r_field Tryz.runUnderlying26 rfl Tryz.sizeOf24 rfl rfl) ?_
 refine l_load1 (i := 1) (v := v0_4) Tryz.isAgg24 rfl rfl rfl rfl rfl ?_
 obtain ⟨t15, h_t15, H9⟩ := bnd_some H8; clear H8
 refine l_make (makes_call (rds := []) (G := fun x : (Option Addr × Nat) => .slice x.1 t15.length x.2) (C := fun x : (Option Addr × Nat) => rowD 65 6 g_tag_Entry (.slice x.1 t15.length x.2) t15.length t15) (fun w L' hF hS hi => k54 (know_all w) (f0_4.mono (hw.now hF)) h_t15) Tryz.call54 rfl) rfl rfl rfl (fun p_3 => ?_)
 refine c_rowD 5 rfl (fun hp css hn pf => ?_)
 rw [hn]
 refine c_split 5 rfl ?_
 refine c_poolJoin 0 5 rfl rfl (by decide) (fun _ _ => noH_le) (fun hp_2 hle hle_2 => ?_)
 refine l_val rfl rfl rfl (r_field Tryz.runUnderlying26 rfl Tryz.sizeOf24 rfl rfl) ?_
 refine l_store (i := 1) (vs := [.slice p_3.1 css.length p_3.2]) (cs' := [.int .i64 a0.Kind, str a0.Text, .slice (cutA p.1 0 t5.length 1) t5.length t5.length, .slice (cutA p_2.1 0 t10.length 2) t10.length t10.length, .slice p_3.1 css.length p_3.2]) Tryz.sizeOf24 rfl rfl rfl rfl rfl rfl rfl rfl rfl ?_
 refine l_nil ?_
 refine c_seq ?_
 refine c_region ?_
 refine l_loadN (i := 1) (vs := [.int .i64 a0.Kind, str a0.Text, .slice (cutA p.1 0 t5.length 1) t5.length t5.length, .slice (cutA p_2.1 0 t10.length 2) t10.length t10.length, .slice p_3.1 css.length p_3.2]) Tryz.isAgg26 Tryz.sizeOf26 rfl rfl rfl rfl rfl ?_
 refine l_store (i := 2) (vs := [.int .i64 a0.Kind, str a0.Text, .slice (cutA p.1 0 t5.length 1) t5.length t5.length, .slice (cutA p_2.1 0 t10.length 2) t10.length t10.length, .slice p_3.1 css.length p_3.2]) (cs' := [.int .i64 a0.Kind, str a0.Text, .slice (cutA p.1 0 t5.length 1) t5.length t5.length, .slice (cutA p_2.1 0 t10.length 2) t10.length t10.length, .slice p_3.1 css.length p_3.2]) Tryz.sizeOf26 rfl rfl rfl rfl rfl rfl rfl rfl rfl ?_
 refine l_nil ?_
 refine c_ret ?_
 refine c_sel [0, 2, 3, 4, 6] [poolC noH hp_2, cellsC b5 [.int .i64 a0.Kind, str a0.Text, .slice (cutA p.1 0 t5.length 1) t5.length t5.length, .slice (cutA p_2.1 0 t10.length 2) t10.length t10.length, .slice p_3.1 css.length p_3.2] 26, rowV 3 1 (.slice p.1 t5.length p.2) t5.length (t5.map e_i64), rowV 42 2 (.slice p_2.1 t10.length p_2.2) t10.length (t10.map e_tag_Ratio), rowV 65 6 (.slice p_3.1 css.length p_3.2) css.length (css.map idC)] rfl (by decide) ?_
 obtain rfl := Option.some.inj H9
 refine c_imp 2 rfl (imp_clipO _ _ _ _ _ _) ?_
 refine c_imp 3 rfl (imp_clipO _ _ _ _ _ _) ?_
 refine c_both 0 4 rfl rfl (by decide) ?_
 refine c_imp 0 rfl (imp_rowD (p := p_3) rfl (pf.mono hle_2)) ?_
 refine c_both 3 0 rfl rfl (by decide) ?_
 refine c_both 2 3 rfl rfl (by decide) ?_
 refine retC (i := 1) (vs := [.int .i64 a0.Kind, str a0.Text, .slice (cutA p.1 0 t5.length 1) t5.length t5.length, .slice (cutA p_2.1 0 t10.length 2) t10.length t10.length, .slice p_3.1 css.length p_3.2]) Tryz.isAgg26 Tryz.sizeOf26 rfl rfl rfl rfl (finX ((cutA p.1 0 t5.length 1, t5.length), (cutA p_2.1 0 t10.length 2, t10.length), p_3) (i := 2) rfl (by first | rfl | rw [(show css.length = t15.length from hn.symm)]) (by first | exact Imp.refl _ | exact Imp.of (by rw [(show css.length = t15.length from hn.symm)])))
theorem k9 {a0 : (List UInt8)} {r : T_tag_Value × Int} {w : World} {h : Heap} (hw : Know h w noS) (tb_pow10 : TabH Tryz.prog h "internal/strconv.uint64pow10" .u64 Lib.pow10Tab) (H : tag_ReadValue a0 = some r) : Does Tryz.prog 9 (List.toArray [str a0]) w (fun v w' => ∃ x : (Option Addr × Nat) × (Option Addr × Nat) × (Option Addr × Nat), v = (.tuple #[.agg #[.int .i64 r.1.Kind, str r.1.Text, .slice x.1.1 r.1.Ints.length x.1.2, .slice x.2.1.1 r.1.Ratios.length x.2.1.2, .slice x.2.2.1 r.1.Entries.length x.2.2.2], .int .i64 r.2]) ∧ Turn w w' noS (bothC (roV 1 (.slice x.1.1 r.1.Ints.length x.1.2) r.1.Ints.length (r.1.Ints.map e_i64)) (bothC (roV 2 (.slice x.2.1.1 r.1.Ratios.length x.2.1.2) r.1.Ratios.length (r.1.Ratios.map e_tag_Ratio)) (rowD 65 6 g_tag_Entry (.slice x.2.2.1 r.1.Entries.length x.2.2.2) r.1.Entries.length r.1.Entries)))) := by
 refine enter (n := 40) Tryz.func9 rfl rfl rfl noS [] (Sat.nil _ _) ?_
 refine c_poolNew noH ?_
 refine c_seq ?_
 refine c_region ?_
 refine l_alloc (cs := [.int .i64 0, str [], .slice none 0 0, .slice none 0 0, .slice none 0 0]) Tryz.zeroValue26 rfl rfl rfl (fun b4 => ?_)
 refine l_val rfl rfl rfl (r_assign (v := .int .i64 0) rfl) ?_
 refine l_nil ?_
 refine c_seq ?_
 refine c_seq ?_
 refine c_region ?_
 refine l_val rfl rfl rfl (r_move (v := str a0) rfl) ?_
 refine l_val rfl rfl rfl (r_lenT Tryz.underlying9 rfl) ?_
 refine l_val rfl rfl rfl (r_gtr rfl rfl) ?_
 refine l_nil ?_
 refine c_if (b := (decide (1000000 < (a0.length : Int)))) rfl (fun hb => ?_) (fun hb => ?_)
 ·have H31 := cnd_t hb H; clear H
  refine c_seq ?_
  refine c_region ?_
  refine l_val rfl rfl rfl (r_build (pl := #[(0, 1), (1, 1), (2, 1), (3, 1), (4, 1)]) (ps := []) (cells := #[.int .i64 0, str [], .slice none 0 0, .slice none 0 0, .slice none 0 0]) Tryz.zeroValue26 Tryz.runUnderlying26 (fun w => by kernel_rfl) rfl rfl) ?_
  refine l_store (i := 1) (vs := [.int .i64 0, str [], .slice none 0 0, .slice none 0 0, .slice none 0 0]) (cs' := [.int .i64 0, str [], .slice none 0 0, .slice none 0 0, .slice none 0 0]) Tryz.sizeOf26 rfl rfl rfl rfl rfl rfl rfl rfl rfl ?_
  refine l_val rfl rfl rfl (r_assign (v := .int .i64 4) rfl) ?_
  refine l_nil ?_
  refine c_ret ?_
  refine c_sel [0, 1] [poolC noH noH, cellsC b4 [.int .i64 0, str [], .slice none 0 0, .slice none 0 0, .slice none 0 0] 26] rfl (by decide) ?_
  refine c_nilRow 3 1 ?_
  refine c_nilRow 42 2 ?_
  refine c_nilRow 65 6 ?_
  refine c_sel [0, 1, 2, 3, 4] [poolC noH noH, cellsC b4 [.int .i64 0, str [], .slice none 0 0, .slice none 0 0, .slice none 0 0] 26, rowV 3 1 (.slice ((none, 0) : Option Addr × Nat).1 ([] : List Int).length ((none, 0) : Option Addr × Nat).2) ([] : List Int).length (([] : List Int).map e_i64), rowV 42 2 (.slice ((none, 0) : Option Addr × Nat).1 ([] : List T_tag_Ratio).length ((none, 0) : Option Addr × Nat).2) ([] : List T_tag_Ratio).length (([] : List T_tag_Ratio).map e_tag_Ratio), rowV 65 6 (.slice ((none, 0) : Option Addr × Nat).1 (([] : List (List Value)).length) ((none, 0) : Option Addr × Nat).2) (([] : List (List Value)).length) (([] : List (List Value)).map idC)] rfl (by decide) ?_
  obtain rfl := Option.some.inj H31
  refine c_imp 2 rfl (row_ro _ _ _ _ _) ?_
  refine c_imp 3 rfl (row_ro _ _ _ _ _) ?_
  refine c_both 0 4 rfl rfl (by decide) ?_
  refine c_imp 0 rfl (imp_rowD (p := ((none, 0) : Option Addr × Nat)) rfl (AllC.nil (G := g_tag_Entry) (h := noH) (sz := 6))) ?_
  refine c_both 3 0 rfl rfl (by decide) ?_
  refine c_both 2 3 rfl rfl (by decide) ?_
  refine retCt (i := 1) (vs := [.int .i64 0, str [], .slice ((none, 0) : Option Addr × Nat).1 ([] : List Int).length ((none, 0) : Option Addr × Nat).2, .slice ((none, 0) : Option Addr × Nat).1 ([] : List T_tag_Ratio).length ((none, 0) : Option Addr × Nat).2, .slice ((none, 0) : Option Addr × Nat).1 (([] : List (List Value)).length) ((none, 0) : Option Addr × Nat).2]) (v2 := .int .i64 4) Tryz.isAgg26 Tryz.sizeOf26 rfl rfl rfl rfl rfl (finX (((none, 0) : Option Addr × Nat), ((none, 0) : Option Addr × Nat), ((none, 0) : Option Addr × Nat)) (i := 2) rfl (by first | rfl | rw [(show (([] : List (List Value)).length) = ([] : List T_tag_Entry).length from (AllC.nil (G := g_tag_Entry) (h := noH) (sz := 6)).len)]) (by first | exact Imp.refl _ | exact Imp.of (by rw [(show (([] : List (List Value)).length) = ([] : List T_tag_Entry).length from (AllC.nil (G := g_tag_Entry) (h := noH) (sz := 6)).len)])))
 ·have H32 := cnd_f hb H; clear H
  refine c_skip ?_
  refine c_seq ?_
  refine c_region ?_
  refine l_val rfl rfl rfl (r_move (v := str a0) rfl) ?_
  obtain ⟨t14, h_t14, H33⟩ := bnd_some H32; clear H32
  refine l_make (makes_call (rds := []) (G := fun x : (Option Addr × Nat) => .slice x.1 t14.length x.2) (C := fun x : (Option Addr × Nat) => rowV 9 1 (.slice x.1 t14.length x.2) t14.length (t14.map e_string)) (fun w L' hF hS hi => k24 (know_all w)  h_t14) Tryz.call24 rfl) rfl rfl rfl (fun p => ?_)
  refine l_val rfl rfl rfl (r_assign (v := .slice p.1 t14.length p.2) rfl) ?_
  refine l_nil ?_
  refine c_seq ?_
  refine c_sel [0, 1, 2] [poolC noH noH, cellsC b4 [.int .i64 0, str [], .slice none 0 0, .slice none 0 0, .slice none 0 0] 26, rowV 9 1 (.slice p.1 t14.length p.2) t14.length (t14.map e_string)] rfl (by decide) ?_
  refine c_region ?_
  refine l_val rfl rfl rfl (r_move (v := .slice p.1 t14.length p.2) rfl) ?_
  obtain ⟨t16, h_t16, H34⟩ := bnd_some H33; clear H33
  refine l_read (fun w hF hS => run_indexO Tryz.underlying33 Tryz.sizeOf9 rfl rfl (rowOf (i := 2) hS rfl) rfl h_t16) rfl rfl rfl ?_
  refine l_read (fun w hF hS => run_loadG1 (f := e_string) (i := 0) (sz := 1) (j := 0) (v := str t16) Tryz.isAgg9 rfl rfl (rowOf (i := 2) hS rfl) h_t16 rfl) rfl rfl rfl ?_
  obtain ⟨t18, h_t18, H35⟩ := bnd_some H34; clear H34
  refine l_call (k25 h_t18) Tryz.call25 rfl rfl rfl ?_
  refine l_val rfl rfl rfl (r_assign (v := .int .i64 t18) rfl) ?_
  refine l_nil ?_
  refine c_seq ?_
  refine c_seq ?_
  refine c_region ?_
  refine l_val rfl rfl rfl (r_move (v := .int .i64 t18) rfl) ?_
  refine l_val rfl rfl rfl (r_eql rfl rfl) ?_
  refine l_nil ?_
  refine c_if (b := (decide (t18 = 0))) rfl (fun hb => ?_) (fun hb => ?_)
  ·have H36 := cnd_t hb H35; clear H35
   refine c_seq ?_
   refine c_region ?_
   refine l_val rfl rfl rfl (r_build (pl := #[(0, 1), (1, 1), (2, 1), (3, 1), (4, 1)]) (ps := []) (cells := #[.int .i64 0, str [], .slice none 0 0, .slice none 0 0, .slice none 0 0]) Tryz.zeroValue26 Tryz.runUnderlying26 (fun w => by kernel_rfl) rfl rfl) ?_
   refine l_store (i := 1) (vs := [.int .i64 0, str [], .slice none 0 0, .slice none 0 0, .slice none 0 0]) (cs' := [.int .i64 0, str [], .slice none 0 0, .slice none 0 0, .slice none 0 0]) Tryz.sizeOf26 rfl rfl rfl rfl rfl rfl rfl rfl rfl ?_
   refine l_val rfl rfl rfl (r_assign (v := .int .i64 8) rfl) ?_
   refine l_nil ?_
   refine c_ret ?_
   refine c_sel [0, 1] [poolC noH noH, cellsC b4 [.int .i64 0, str [], .slice none 0 0, .slice none 0 0, .slice none 0 0] 26] rfl (by decide) ?_
   refine c_nilRow 3 1 ?_
   refine c_nilRow 42 2 ?_
   refine c_nilRow 65 6 ?_
   refine c_sel [0, 1, 2, 3, 4] [poolC noH noH, cellsC b4 [.int .i64 0, str [], .slice none 0 0, .slice none 0 0, .slice none 0 0] 26, rowV 3 1 (.slice ((none, 0) : Option Addr × Nat).1 ([] : List Int).length ((none, 0) : Option Addr × Nat).2) ([] : List Int).length (([] : List Int).map e_i64), rowV 42 2 (.slice ((none, 0) : Option Addr × Nat).1 ([] : List T_tag_Ratio).length ((none, 0) : Option Addr × Nat).2) ([] : List T_tag_Ratio).length (([] : List T_tag_Ratio).map e_tag_Ratio), rowV 65 6 (.slice ((none, 0) : Option Addr × Nat).1 (([] : List (List Value)).length) ((none, 0) : Option Addr × Nat).2) (([] : List (List Value)).length) (([] : List (List Value)).map idC)] rfl (by decide) ?_
   obtain rfl := Option.some.inj H36
   refine c_imp 2 rfl (row_ro _ _ _ _ _) ?_
   refine c_imp 3 rfl (row_ro _ _ _ _ _) ?_
   refine c_both 0 4 rfl rfl (by decide) ?_
   refine c_imp 0 rfl (imp_rowD (p := ((none, 0) : Option Addr × Nat)) rfl (AllC.nil (G := g_tag_Entry) (h := noH) (sz := 6))) ?_
   refine c_both 3 0 rfl rfl (by decide) ?_
   refine c_both 2 3 rfl rfl (by decide) ?_
   refine retCt (i := 1) (vs := [.int .i64 0, str [], .slice ((none, 0) : Option Addr × Nat).1 ([] : List Int).length ((none, 0) : Option Addr × Nat).2, .slice ((none, 0) : Option Addr × Nat).1 ([] : List T_tag_Ratio).length ((none, 0) : Option Addr × Nat).2, .slice ((none, 0) : Option Addr × Nat).1 (([] : List (List Value)).length) ((none, 0) : Option Addr × Nat).2]) (v2 := .int .i64 8) Tryz.isAgg26 Tryz.sizeOf26 rfl rfl rfl rfl rfl (finX (((none, 0) : Option Addr × Nat), ((none, 0) : Option Addr × Nat), ((none, 0) : Option Addr × Nat)) (i := 2) rfl (by first | rfl | rw [(show (([] : List (List Value)).length) = ([] : List T_tag_Entry).length from (AllC.nil (G := g_tag_Entry) (h := noH) (sz := 6)).len)]) (by first | exact Imp.refl _ | exact Imp.of (by rw [(show (([] : List (List Value)).length) = ([] : List T_tag_Entry).length from (AllC.nil (G := g_tag_Entry) (h := noH) (sz := 6)).len)])))
  ·have H37 := cnd_f hb H35; clear H35
   refine c_skip ?_
   refine c_seq ?_
   refine c_sel [0, 1, 2] [poolC noH noH, cellsC b4 [.int .i64 0, str [], .slice none 0 0, .slice none 0 0, .slice none 0 0] 26, rowV 9 1 (.slice p.1 t14.length p.2) t14.length (t14.map e_string)] rfl (by decide) ?_
   refine c_region ?_
   refine l_val rfl rfl rfl (r_move (v := .int .i64 t18) rfl) ?_
   refine l_val rfl rfl rfl (r_move (v := .slice p.1 t14.length p.2) rfl) ?_
   obtain ⟨t25, h_t25, H38⟩ := bnd_some H37; clear H37
   refine l_read (v := .slice (cutA p.1 (Int.toNat 1) p.2 1) t25.length (p.2 - Int.toNat 1)) (fun w hF hS => run_sliceLO (xs := t14) Tryz.underlying33 Tryz.sizeOf9 rfl rfl rfl (capOf (i := 2) hS rfl) h_t25) rfl rfl rfl ?_
   obtain ⟨t26, h_t26, H39⟩ := bnd_some H38; clear H38
   refine l_make (makes_call (rds := [2]) (G := fun x : (Option Addr × Nat) × (Option Addr × Nat) × (Option Addr × Nat) => .tuple #[.agg #[.int .i64 t26.1.Kind, str t26.1.Text, .slice x.1.1 t26.1.Ints.length x.1.2, .slice x.2.1.1 t26.1.Ratios.length x.2.1.2, .slice x.2.2.1 t26.1.Entries.length x.2.2.2], .bool t26.2]) (C := fun x : (Option Addr × Nat) × (Option Addr × Nat) × (Option Addr × Nat) => bothC (rowV 3 1 (.slice x.1.1 t26.1.Ints.length x.1.2) t26.1.Ints.length (t26.1.Ints.map e_i64)) (bothC (rowV 42 2 (.slice x.2.1.1 t26.1.Ratios.length x.2.1.2) t26.1.Ratios.length (t26.1.Ratios.map e_tag_Ratio)) (rowD 65 6 g_tag_Entry (.slice x.2.2.1 t26.1.Entries.length x.2.2.2) t26.1.Entries.length t26.1.Entries))) (fun w L' hF hS hi => k26 (know_all w) (FrS.cutL (frs_own (i := 2) rfl hS ((hi 2 (by simp)).trans rfl)) h_t25) (tb_pow10.mono (hw.now hF)) h_t26) Tryz.call26 rfl) rfl rfl rfl (fun ⟨p_2, p_3, p_4⟩ => ?_)
   refine c_split 3 rfl ?_
   refine c_split 4 rfl ?_
   refine c_rowD 5 rfl (fun hp css hn pf => ?_)
   rw [hn]
   refine c_split 5 rfl ?_
   refine c_poolJoin 0 5 rfl rfl (by decide) (fun _ _ => noH_le) (fun hp_2 hle hle_2 => ?_)
   refine l_val rfl rfl rfl (r_move (v := .tuple #[.agg #[.int .i64 t26.1.Kind, str t26.1.Text, .slice p_2.1 t26.1.Ints.length p_2.2, .slice p_3.1 t26.1.Ratios.length p_3.2, .slice p_4.1 css.length p_4.2], .bool t26.2]) rfl) ?_
   refine l_val rfl rfl rfl (r_extract (v := .agg #[.int .i64 t26.1.Kind, str t26.1.Text, .slice p_2.1 t26.1.Ints.length p_2.2, .slice p_3.1 t26.1.Ratios.length p_3.2, .slice p_4.1 css.length p_4.2]) rfl rfl) ?_
   refine l_val rfl rfl rfl (r_extract (v := .bool t26.2) rfl rfl) ?_
   refine l_alloc (cs := [.int .i64 0, str [], .slice none 0 0, .slice none 0 0, .slice none 0 0]) Tryz.zeroValue26 rfl rfl rfl (fun b5 => ?_)
   refine l_store (i := 7) (vs := [.int .i64 t26.1.Kind, str t26.1.Text, .slice p_2.1 t26.1.Ints.length p_2.2, .slice p_3.1 t26.1.Ratios.length p_3.2, .slice p_4.1 css.length p_4.2]) (cs' := [.int .i64 t26.1.Kind, str t26.1.Text, .slice p_2.1 t26.1.Ints.length p_2.2, .slice p_3.1 t26.1.Ratios.length p_3.2, .slice p_4.1 css.length p_4.2]) Tryz.sizeOf26 rfl rfl rfl rfl rfl rfl rfl rfl rfl ?_
   refine l_val rfl rfl rfl (r_assign (v := .bool t26.2) rfl) ?_
   refine l_nil ?_
   refine c_seq ?_
   refine c_seq ?_
   refine c_sel [0, 1, 2, 3, 4, 5, 6, 7] [poolC noH hp_2, cellsC b4 [.int .i64 0, str [], .slice none 0 0, .slice none 0 0, .slice none 0 0] 26, rowV 9 1 (.slice p.1 t14.length p.2) t14.length (t14.map e_string), rowV 3 1 (.slice p_2.1 t26.1.Ints.length p_2.2) t26.1.Ints.length (t26.1.Ints.map e_i64), rowV 42 2 (.slice p_3.1 t26.1.Ratios.length p_3.2) t26.1.Ratios.length (t26.1.Ratios.map e_tag_Ratio), _, rowV 65 6 (.slice p_4.1 css.length p_4.2) css.length (css.map idC), cellsC b5 [.int .i64 t26.1.Kind, str t26.1.Text, .slice p_2.1 t26.1.Ints.length p_2.2, .slice p_3.1 t26.1.Ratios.length p_3.2, .slice p_4.1 css.length p_4.2] 26] rfl (by decide) ?_
   refine c_region ?_
   refine l_val rfl rfl rfl (r_move (v := .bool t26.2) rfl) ?_
   refine l_val rfl rfl rfl (r_not rfl) ?_
   refine l_nil ?_
   refine c_if (b := (!t26.2)) rfl (fun hb => ?_) (fun hb => ?_)
   ·have H40 := cnd_t hb H39; clear H39
    refine c_seq ?_
    refine c_region ?_
    refine l_val rfl rfl rfl (r_build (pl := #[(0, 1), (1, 1), (2, 1), (3, 1), (4, 1)]) (ps := []) (cells := #[.int .i64 0, str [], .slice none 0 0, .slice none 0 0, .slice none 0 0]) Tryz.zeroValue26 Tryz.runUnderlying26 (fun w => by kernel_rfl) rfl rfl) ?_
    refine l_store (i := 1) (vs := [.int .i64 0, str [], .slice none 0 0, .slice none 0 0, .slice none 0 0]) (cs' := [.int .i64 0, str [], .slice none 0 0, .slice none 0 0, .slice none 0 0]) Tryz.sizeOf26 rfl rfl rfl rfl rfl rfl rfl rfl rfl ?_
    refine l_val rfl rfl rfl (r_assign (v := .int .i64 8) rfl) ?_
    refine l_nil ?_
    refine c_ret ?_
    refine c_sel [0, 1] [poolC noH hp_2, cellsC b4 [.int .i64 0, str [], .slice none 0 0, .slice none 0 0, .slice none 0 0] 26] rfl (by decide) ?_
    refine c_nilRow 3 1 ?_
    refine c_nilRow 42 2 ?_
    refine c_nilRow 65 6 ?_
    refine c_sel [0, 1, 2, 3, 4] [poolC noH hp_2, cellsC b4 [.int .i64 0, str [], .slice none 0 0, .slice none 0 0, .slice none 0 0] 26, rowV 3 1 (.slice ((none, 0) : Option Addr × Nat).1 ([] : List Int).length ((none, 0) : Option Addr × Nat).2) ([] : List Int).length (([] : List Int).map e_i64), rowV 42 2 (.slice ((none, 0) : Option Addr × Nat).1 ([] : List T_tag_Ratio).length ((none, 0) : Option Addr × Nat).2) ([] : List T_tag_Ratio).length (([] : List T_tag_Ratio).map e_tag_Ratio), rowV 65 6 (.slice ((none, 0) : Option Addr × Nat).1 (([] : List (List Value)).length) ((none, 0) : Option Addr × Nat).2) (([] : List (List Value)).length) (([] : List (List Value)).map idC)] rfl (by decide) ?_
    obtain rfl := Option.some.inj H40
    refine c_imp 2 rfl (row_ro _ _ _ _ _) ?_
    refine c_imp 3 rfl (row_ro _ _ _ _ _) ?_
    refine c_both 0 4 rfl rfl (by decide) ?_
    refine c_imp 0 rfl (imp_rowD (p := ((none, 0) : Option Addr × Nat)) rfl (AllC.nil (G := g_tag_Entry) (h := hp_2) (sz := 6))) ?_
    refine c_both 3 0 rfl rfl (by decide) ?_
    refine c_both 2 3 rfl rfl (by decide) ?_
    refine retCt (i := 1) (vs := [.int .i64 0, str [], .slice ((none, 0) : Option Addr × Nat).1 ([] : List Int).length ((none, 0) : Option Addr × Nat).2, .slice ((none, 0) : Option Addr × Nat).1 ([] : List T_tag_Ratio).length ((none, 0) : Option Addr × Nat).2, .slice ((none, 0) : Option Addr × Nat).1 (([] : List (List Value)).length) ((none, 0) : Option Addr × Nat).2]) (v2 := .int .i64 8) Tryz.isAgg26 Tryz.sizeOf26 rfl rfl rfl rfl rfl (finX (((none, 0) : Option Addr × Nat), ((none, 0) : Option Addr × Nat), ((none, 0) : Option Addr × Nat)) (i := 2) rfl (by first | rfl | rw [(show (([] : List (List Value)).length) = ([] : List T_tag_Entry).length from (AllC.nil (G := g_tag_Entry) (h := hp_2) (sz := 6)).len)]) (by first | exact Imp.refl _ | exact Imp.of (by rw [(show (([] : List (List Value)).length) = ([] : List T_tag_Entry).length from (AllC.nil (G := g_tag_Entry) (h := hp_2) (sz := 6)).len)])))
   ·have H41 := cnd_f hb H39; clear H39
    refine c_skip ?_
    refine c_seq ?_
    refine c_seq ?_
    refine c_sel [0, 1, 2, 3, 4, 5, 6, 7] [poolC noH hp_2, cellsC b4 [.int .i64 0, str [], .slice none 0 0, .slice none 0 0, .slice none 0 0] 26, rowV 9 1 (.slice p.1 t14.length p.2) t14.length (t14.map e_string), rowV 3 1 (.slice p_2.1 t26.1.Ints.length p_2.2) t26.1.Ints.length (t26.1.Ints.map e_i64), rowV 42 2 (.slice p_3.1 t26.1.Ratios.length p_3.2) t26.1.Ratios.length (t26.1.Ratios.map e_tag_Ratio), _, rowV 65 6 (.slice p_4.1 css.length p_4.2) css.length (css.map idC), cellsC b5 [.int .i64 t26.1.Kind, str t26.1.Text, .slice p_2.1 t26.1.Ints.length p_2.2, .slice p_3.1 t26.1.Ratios.length p_3.2, .slice p_4.1 css.length p_4.2] 26] rfl (by decide) ?_
    refine c_region ?_
    refine l_loadN (i := 7) (vs := [.int .i64 t26.1.Kind, str t26.1.Text, .slice p_2.1 t26.1.Ints.length p_2.2, .slice p_3.1 t26.1.Ratios.length p_3.2, .slice p_4.1 css.length p_4.2]) Tryz.isAgg26 Tryz.sizeOf26 rfl rfl rfl rfl rfl ?_
    obtain ⟨t33, h_t33, H42⟩ := bnd_some H41; clear H41
    refine l_callG (fun w hF hS => k5 (know_all w) (frs_own (i := 3) rfl hS rfl) (frs_own (i := 4) rfl hS rfl) (frn_of (xs := t26.1.Entries) (frs_own (i := 6) rfl hS rfl) ((pf.mono hle_2).mono (pool_now (i := 0) hS rfl noH_le))) h_t33) Tryz.call5 rfl rfl rfl ?_
    refine l_val rfl rfl rfl (r_assign (v := .int .i64 t33) rfl) ?_
    refine l_nil ?_
    refine c_seq ?_
    refine c_region ?_
    refine l_val rfl rfl rfl (r_move (v := .int .i64 t33) rfl) ?_
    refine l_val rfl rfl rfl (r_neq rfl rfl) ?_
    refine l_nil ?_
    refine c_if (b := (decide (t33 ≠ 0))) rfl (fun hb => ?_) (fun hb => ?_)
    ·have H43 := cnd_t hb H42; clear H42
     refine c_seq ?_
     refine c_region ?_
     refine l_val rfl rfl rfl (r_build (pl := #[(0, 1), (1, 1), (2, 1), (3, 1), (4, 1)]) (ps := []) (cells := #[.int .i64 0, str [], .slice none 0 0, .slice none 0 0, .slice none 0 0]) Tryz.zeroValue26 Tryz.runUnderlying26 (fun w => by kernel_rfl) rfl rfl) ?_
     refine l_val rfl rfl rfl (r_move (v := .int .i64 t33) rfl) ?_
     refine l_store (i := 1) (vs := [.int .i64 0, str [], .slice none 0 0, .slice none 0 0, .slice none 0 0]) (cs' := [.int .i64 0, str [], .slice none 0 0, .slice none 0 0, .slice none 0 0]) Tryz.sizeOf26 rfl rfl rfl rfl rfl rfl rfl rfl rfl ?_
     refine l_val rfl rfl rfl (r_assign (v := .int .i64 t33) rfl) ?_
     refine l_nil ?_
     refine c_ret ?_
     refine c_sel [0, 1] [poolC noH hp_2, cellsC b4 [.int .i64 0, str [], .slice none 0 0, .slice none 0 0, .slice none 0 0] 26] rfl (by decide) ?_
     refine c_nilRow 3 1 ?_
     refine c_nilRow 42 2 ?_
     refine c_nilRow 65 6 ?_
     refine c_sel [0, 1, 2, 3, 4] [poolC noH hp_2, cellsC b4 [.int .i64 0, str [], .slice none 0 0, .slice none 0 0, .slice none 0 0] 26, rowV 3 1 (.slice ((none, 0) : Option Addr × Nat).1 ([] : List Int).length ((none, 0) : Option Addr × Nat).2) ([] : List Int).length (([] : List Int).map e_i64), rowV 42 2 (.slice ((none, 0) : Option Addr × Nat).1 ([] : List T_tag_Ratio).length ((none, 0) : Option Addr × Nat).2) ([] : List T_tag_Ratio).length (([] : List T_tag_Ratio).map e_tag_Ratio), rowV 65 6 (.slice ((none, 0) : Option Addr × Nat).1 (([] : List (List Value)).length) ((none, 0) : Option Addr × Nat).2) (([] : List (List Value)).length) (([] : List (List Value)).map idC)] rfl (by decide) ?_
     obtain rfl := Option.some.inj H43
     refine c_imp 2 rfl (row_ro _ _ _ _ _) ?_
     refine c_imp 3 rfl (row_ro _ _ _ _ _) ?_
     refine c_both 0 4 rfl rfl (by decide) ?_
     refine c_imp 0 rfl (imp_rowD (p := ((none, 0) : Option Addr × Nat)) rfl (AllC.nil (G := g_tag_Entry) (h := hp_2) (sz := 6))) ?_
     refine c_both 3 0 rfl rfl (by decide) ?_
     refine c_both 2 3 rfl rfl (by decide) ?_
     refine retCt (i := 1) (vs := [.int .i64 0, str [], .slice ((none, 0) : Option Addr × Nat).1 ([] : List Int).length ((none, 0) : Option Addr × Nat).2, .slice ((none, 0) : Option Addr × Nat).1 ([] : List T_tag_Ratio).length ((none, 0) : Option Addr × Nat).2, .slice ((none, 0) : Option Addr × Nat).1 (([] : List (List Value)).length) ((none, 0) : Option Addr × Nat).2]) (v2 := .int .i64 t33) Tryz.isAgg26 Tryz.sizeOf26 rfl rfl rfl rfl rfl (finX (((none, 0) : Option Addr × Nat), ((none, 0) : Option Addr × Nat), ((none, 0) : Option Addr × Nat)) (i := 2) rfl (by first | rfl | rw [(show (([] : List (List Value)).length) = ([] : List T_tag_Entry).length from (AllC.nil (G := g_tag_Entry) (h := hp_2) (sz := 6)).len)]) (by first | exact Imp.refl _ | exact Imp.of (by rw [(show (([] : List (List Value)).length) = ([] : List T_tag_Entry).length from (AllC.nil (G := g_tag_Entry) (h := hp_2) (sz := 6)).len)])))
    ·have H44 := cnd_f hb H42; clear H42
     refine c_skip ?_
     refine c_seq ?_
     refine c_sel [0, 1, 2, 3, 4, 5, 6, 7] [poolC noH hp_2, cellsC b4 [.int .i64 0, str [], .slice none 0 0, .slice none 0 0, .slice none 0 0] 26, rowV 9 1 (.slice p.1 t14.length p.2) t14.length (t14.map e_string), rowV 3 1 (.slice p_2.1 t26.1.Ints.length p_2.2) t26.1.Ints.length (t26.1.Ints.map e_i64), rowV 42 2 (.slice p_3.1 t26.1.Ratios.length p_3.2) t26.1.Ratios.length (t26.1.Ratios.map e_tag_Ratio), _, rowV 65 6 (.slice p_4.1 css.length p_4.2) css.length (css.map idC), cellsC b5 [.int .i64 t26.1.Kind, str t26.1.Text, .slice p_2.1 t26.1.Ints.length p_2.2, .slice p_3.1 t26.1.Ratios.length p_3.2, .slice p_4.1 css.length p_4.2] 26] rfl (by decide) ?_
     refine c_region ?_
     refine l_loadN (i := 7) (vs := [.int .i64 t26.1.Kind, str t26.1.Text, .slice p_2.1 t26.1.Ints.length p_2.2, .slice p_3.1 t26.1.Ratios.length p_3.2, .slice p_4.1 css.length p_4.2]) Tryz.isAgg26 Tryz.sizeOf26 rfl rfl rfl rfl rfl ?_
     obtain ⟨t39, h_t39, H45⟩ := bnd_some H44; clear H44
     refine l_make (makes_call (rds := [0, 3, 4, 6]) (G := fun x : (Option Addr × Nat) × (Option Addr × Nat) × (Option Addr × Nat) => .agg #[.int .i64 t39.Kind, str t39.Text, .slice x.1.1 t39.Ints.length x.1.2, .slice x.2.1.1 t39.Ratios.length x.2.1.2, .slice x.2.2.1 t39.Entries.length x.2.2.2]) (C := fun x : (Option Addr × Nat) × (Option Addr × Nat) × (Option Addr × Nat) => bothC (roV 1 (.slice x.1.1 t39.Ints.length x.1.2) t39.Ints.length (t39.Ints.map e_i64)) (bothC (roV 2 (.slice x.2.1.1 t39.Ratios.length x.2.1.2) t39.Ratios.length (t39.Ratios.map e_tag_Ratio)) (rowD 65 6 g_tag_Entry (.slice x.2.2.1 t39.Entries.length x.2.2.2) t39.Entries.length t39.Entries))) (fun w L' hF hS hi => k27 (know_all w) (frs_own (i := 3) rfl hS ((hi 3 (by simp)).trans rfl)) (frs_own (i := 4) rfl hS ((hi 4 (by simp)).trans rfl)) (frn_of (xs := t26.1.Entries) (frs_own (i := 6) rfl hS ((hi 6 (by simp)).trans rfl)) ((pf.mono hle_2).mono (pool_now (i := 0) hS ((hi 0 (by simp)).trans rfl) noH_le))) h_t39) Tryz.call27 rfl) rfl rfl rfl (fun ⟨p_5, p_6, p_7⟩ => ?_)
     refine c_split 8 rfl ?_
     refine c_split 9 rfl ?_
     refine c_rowD 10 rfl (fun hp_3 css_2 hn_2 pf_2 => ?_)
     rw [hn_2]
     refine c_split 10 rfl ?_
     refine c_poolJoin 0 10 rfl rfl (by decide) (fun _ _ => noH_le) (fun hp_4 hle_3 hle_4 => ?_)
     refine l_store (i := 1) (vs := [.int .i64 t39.Kind, str t39.Text, .slice p_5.1 t39.Ints.length p_5.2, .slice p_6.1 t39.Ratios.length p_6.2, .slice p_7.1 css_2.length p_7.2]) (cs' := [.int .i64 t39.Kind, str t39.Text, .slice p_5.1 t39.Ints.length p_5.2, .slice p_6.1 t39.Ratios.length p_6.2, .slice p_7.1 css_2.length p_7.2]) Tryz.sizeOf26 rfl rfl rfl rfl rfl rfl rfl rfl rfl ?_
     refine l_val rfl rfl rfl (r_assign (v := .int .i64 0) rfl) ?_
     refine l_nil ?_
     refine c_ret ?_
     refine c_sel [0, 1, 8, 9, 11] [poolC noH hp_4, cellsC b4 [.int .i64 t39.Kind, str t39.Text, .slice p_5.1 t39.Ints.length p_5.2, .slice p_6.1 t39.Ratios.length p_6.2, .slice p_7.1 css_2.length p_7.2] 26, roV 1 (.slice p_5.1 t39.Ints.length p_5.2) t39.Ints.length (t39.Ints.map e_i64), roV 2 (.slice p_6.1 t39.Ratios.length p_6.2) t39.Ratios.length (t39.Ratios.map e_tag_Ratio), rowV 65 6 (.slice p_7.1 css_2.length p_7.2) css_2.length (css_2.map idC)] rfl (by decide) ?_
     obtain rfl := Option.some.inj H45
     refine c_both 0 4 rfl rfl (by decide) ?_
     refine c_imp 0 rfl (imp_rowD (p := p_7) rfl (pf_2.mono hle_4)) ?_
     refine c_both 3 0 rfl rfl (by decide) ?_
     refine c_both 2 3 rfl rfl (by decide) ?_
     refine retCt (i := 1) (vs := [.int .i64 t39.Kind, str t39.Text, .slice p_5.1 t39.Ints.length p_5.2, .slice p_6.1 t39.Ratios.length p_6.2, .slice p_7.1 css_2.length p_7.2]) (v2 := .int .i64 0) Tryz.isAgg26 Tryz.sizeOf26 rfl rfl rfl rfl rfl (finX (p_5, p_6, p_7) (i := 2) rfl (by first | rfl | rw [(show css_2.length = t39.Entries.length from hn_2.symm)]) (by first | exact Imp.refl _ | exact Imp.of (by rw [(show css_2.length = t39.Entries.length from hn_2.symm)])))
end Go.Proofs.YtohdhdiaahiicaaGreatDoor
