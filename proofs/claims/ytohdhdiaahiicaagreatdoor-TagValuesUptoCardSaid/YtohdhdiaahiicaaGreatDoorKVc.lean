/- TagValues: the walks, printed by our generator; each follows its model. Conditions: the model yields a value. -/
import Derived.Test.YtohdhdiaahiicaaGreatDoorKVb
namespace Go.Proofs.YtohdhdiaahiicaaGreatDoor
open Go Go.Vc Go.Md Go.M Go.Lx
set_option maxRecDepth 100000
set_option maxHeartbeats 4000000
set_option linter.unusedVariables false

theorem k7 {a0 : T_tag_Value} {v0_2 : Value} {v0_3 : Value} {v0_4 : Value} {r : (List UInt8) × Int} {w : World} {h : Heap} (hw : Know h w noS) (f0_2 : FrS h 1 v0_2 (a0.Ints.map e_i64)) (f0_3 : FrS h 2 v0_3 (a0.Ratios.map e_tag_Ratio)) (f0_4 : FrN h 6 v0_4 g_tag_Entry a0.Entries) (tb_pow10 : TabH Tryz.prog h "internal/strconv.uint64pow10" .u64 Lib.pow10Tab) (H : tag_ValueText a0 = some r) : Does Tryz.prog 7 (List.toArray [.agg #[.int .i64 a0.Kind, str a0.Text, v0_2, v0_3, v0_4]]) w (fun v w' => v = (.tuple #[str r.1, .int .i64 r.2]) ∧ Grow w w') := by
 refine enter (n := 20) Tryz.func7 rfl rfl rfl noS [] (Sat.nil _ _) ?_
 refine c_seq ?_
 refine c_region ?_
 refine l_box (cs := [.int .i64 a0.Kind, str a0.Text, v0_2, v0_3, v0_4]) rfl rfl rfl rfl (fun b1 => ?_)
 refine l_val rfl rfl rfl (r_assign (v := str []) rfl) ?_
 refine l_val rfl rfl rfl (r_assign (v := .int .i64 0) rfl) ?_
 refine l_nil ?_
 refine c_seq ?_
 refine c_seq ?_
 refine c_region ?_
 refine l_loadN (i := 0) (vs := [.int .i64 a0.Kind, str a0.Text, v0_2, v0_3, v0_4]) Tryz.isAgg26 Tryz.sizeOf26 rfl rfl rfl rfl rfl ?_
 obtain ⟨t7, h_t7, H9⟩ := bnd_some H; clear H
 refine l_callG (fun w hF hS => k5 (know_all w) (f0_2.mono (hw.now hF)) (f0_3.mono (hw.now hF)) (f0_4.mono (hw.now hF)) h_t7) Tryz.call5 rfl rfl rfl ?_
 refine l_val rfl rfl rfl (r_assign (v := .int .i64 t7) rfl) ?_
 refine l_nil ?_
 refine c_seq ?_
 refine c_region ?_
 refine l_val rfl rfl rfl (r_move (v := .int .i64 t7) rfl) ?_
 refine l_val rfl rfl rfl (r_neq rfl rfl) ?_
 refine l_nil ?_
 refine c_if (b := (decide (t7 ≠ 0))) rfl (fun hb => ?_) (fun hb => ?_)
 ·have H10 := cnd_t hb H9; clear H9
  refine c_seq ?_
  refine c_region ?_
  refine l_val rfl rfl rfl (r_move (v := .int .i64 t7) rfl) ?_
  refine l_val rfl rfl rfl (r_assign (v := str []) rfl) ?_
  refine l_val rfl rfl rfl (r_assign (v := .int .i64 t7) rfl) ?_
  refine l_nil ?_
  refine c_ret ?_
  obtain rfl := Option.some.inj H10
  refine ret2 (v1 := str []) (v2 := .int .i64 t7) rfl rfl rfl (fin rfl)
 ·have H11 := cnd_f hb H9; clear H9
  refine c_skip ?_
  refine c_seq ?_
  refine c_seq ?_
  refine c_region ?_
  refine l_val rfl rfl rfl (r_field Tryz.runUnderlying26 rfl Tryz.sizeOf3 rfl rfl) ?_
  refine l_load1 (i := 0) (v := .int .i64 a0.Kind) Tryz.isAgg3 rfl rfl rfl rfl rfl ?_
  refine l_val rfl rfl rfl (r_eql rfl rfl) ?_
  refine l_nil ?_
  refine c_if (b := (decide (a0.Kind = 13))) rfl (fun hb => ?_) (fun hb => ?_)
  ·have H12 := cnd_t hb H11; clear H11
   refine c_seq ?_
   refine c_region ?_
   refine l_val rfl rfl rfl (r_assign (v := str []) rfl) ?_
   refine l_val rfl rfl rfl (r_assign (v := .int .i64 10) rfl) ?_
   refine l_nil ?_
   refine c_ret ?_
   obtain rfl := Option.some.inj H12
   refine ret2 (v1 := str []) (v2 := .int .i64 10) rfl rfl rfl (fin rfl)
  ·have H13 := cnd_f hb H11; clear H11
   refine c_skip ?_
   refine c_seq ?_
   refine c_region ?_
   refine l_loadN (i := 0) (vs := [.int .i64 a0.Kind, str a0.Text, v0_2, v0_3, v0_4]) Tryz.isAgg26 Tryz.sizeOf26 rfl rfl rfl rfl rfl ?_
   obtain ⟨t15, h_t15, H14⟩ := bnd_some H13; clear H13
   refine l_callG (fun w hF hS => k23 (know_all w) (f0_2.mono (hw.now hF)) (f0_3.mono (hw.now hF)) (f0_4.mono (hw.now hF)) (tb_pow10.mono (hw.now hF)) h_t15) Tryz.call23 rfl rfl rfl ?_
   refine l_val rfl rfl rfl (r_assign (v := str t15) rfl) ?_
   refine l_nil ?_
   refine c_seq ?_
   refine c_seq ?_
   refine c_region ?_
   refine l_val rfl rfl rfl (r_move (v := str t15) rfl) ?_
   refine l_val rfl rfl rfl (r_lenT Tryz.underlying9 rfl) ?_
   refine l_val rfl rfl rfl (r_gtr rfl rfl) ?_
   refine l_nil ?_
   refine c_if (b := (decide (1000000 < (t15.length : Int)))) rfl (fun hb => ?_) (fun hb => ?_)
   ·have H15 := cnd_t hb H14; clear H14
    refine c_seq ?_
    refine c_region ?_
    refine l_val rfl rfl rfl (r_assign (v := str []) rfl) ?_
    refine l_val rfl rfl rfl (r_assign (v := .int .i64 4) rfl) ?_
    refine l_nil ?_
    refine c_ret ?_
    obtain rfl := Option.some.inj H15
    refine ret2 (v1 := str []) (v2 := .int .i64 4) rfl rfl rfl (fin rfl)
   ·have H16 := cnd_f hb H14; clear H14
    refine c_skip ?_
    refine c_seq ?_
    refine c_region ?_
    refine l_val rfl rfl rfl (r_move (v := str t15) rfl) ?_
    refine l_val rfl rfl rfl (r_assign (v := str t15) rfl) ?_
    refine l_val rfl rfl rfl (r_assign (v := .int .i64 0) rfl) ?_
    refine l_nil ?_
    refine c_ret ?_
    obtain rfl := Option.some.inj H16
    refine ret2 (v1 := str t15) (v2 := .int .i64 0) rfl rfl rfl (fin rfl)
theorem k8 {a0 : (List UInt8)} {a1 : Int} {a2 : (List UInt8)} {a3 : Int} {r : Bool} (H : Law_told_string a0 a1 a2 a3 = some r) : Ret Tryz.prog 8 [str a0, .int .i64 a1, str a2, .int .i64 a3] (.bool r) := by
 refine enterRet (n := 21) Tryz.func8 rfl rfl rfl (fun wd => ?_)
 refine c_seq ?_
 refine c_region ?_
 refine l_val rfl rfl rfl (r_assign (v := .bool false) rfl) ?_
 refine l_nil ?_
 refine c_seq ?_
 refine c_region ?_
 refine l_val rfl rfl rfl (r_assign (v := str []) rfl) ?_
 refine l_nil ?_
 refine c_meet (r := r) (σ := (List UInt8)) (τ := Unit) (fun s => Law_told_string_j1 a0 a1 a3 s) (fun s t => [(0, str a0), (1, .int .i64 a1), (2, str s), (3, .int .i64 a3)]) (fun s t => []) (fun s t => True) ?_ ?_
 ·refine c_seq ?_
  refine c_region ?_
  refine l_val rfl rfl rfl (r_move (v := .int .i64 a3) rfl) ?_
  refine l_val rfl rfl rfl (r_neq rfl rfl) ?_
  refine l_nil ?_
  refine c_if (b := (decide (a3 ≠ 0))) rfl (fun hb => ?_) (fun hb => ?_)
  ·have H9 := cnd_t hb H; clear H
   refine c_region ?_
   refine l_val rfl rfl rfl (r_move (v := str []) rfl) ?_
   refine l_val rfl rfl rfl (r_assign (v := str []) rfl) ?_
   refine l_nil ?_
   refine c_close [] () 0 [] (by exact ⟨rfl, rfl, rfl, rfl, trivial⟩) (by decide) rfl (by exact ⟨H9, trivial⟩) (Nat.lt_succ_self _)
  ·have H10 := cnd_f hb H; clear H
   refine c_skip ?_
   refine c_close a2 () 0 [] (by exact ⟨rfl, rfl, rfl, rfl, trivial⟩) (by decide) rfl (by exact ⟨H10, trivial⟩) (Nat.lt_succ_self _)
 ·rintro x2 _ gg H6 _
  replace H6 : Law_told_string_j1 a0 a1 a3 x2 = some r := H6
  refine c_tidyF [(0, str a0), (1, .int .i64 a1), (2, str x2), (3, .int .i64 a3)] [] rfl rfl ?_
  refine c_seq ?_
  refine c_region ?_
  refine l_val rfl rfl rfl (r_move (v := str a0) rfl) ?_
  refine l_val rfl rfl rfl (r_move (v := str x2) rfl) ?_
  refine l_val rfl rfl rfl (r_eqlT rfl rfl) ?_
  refine l_val rfl rfl rfl (r_move (v := .bool (decide (a0 = x2))) rfl) ?_
  refine split (fun hb => ?_) (fun hb => ?_)
  ·have H7 := cnd_t hb H6; clear H6
   refine l_val rfl rfl rfl (r_move (v := .int .i64 a1) rfl) ?_
   refine l_val rfl rfl rfl (r_move (v := .int .i64 a3) rfl) ?_
   refine l_val rfl rfl rfl (r_eql rfl rfl) ?_
   refine l_val rfl rfl rfl (r_pickT (v := .bool (decide (a1 = a3))) rfl rfl) ?_
   refine l_val rfl rfl rfl (r_assign (v := .bool (decide (a1 = a3))) rfl) ?_
   refine l_nil ?_
   refine c_ret ?_
   obtain rfl := Option.some.inj H7
   refine ret1 (v := .bool (decide (a1 = a3))) rfl rfl (fin rfl)
  ·have H8 := cnd_f hb H6; clear H6
   refine l_passed rfl rfl rfl ?_
   refine l_passed rfl rfl rfl ?_
   refine l_passed rfl rfl rfl ?_
   refine l_val rfl rfl rfl (r_pickF (v := .bool false) rfl rfl) ?_
   refine l_val rfl rfl rfl (r_assign (v := .bool false) rfl) ?_
   refine l_nil ?_
   refine c_ret ?_
   obtain rfl := Option.some.inj H8
   refine ret1 (v := .bool false) rfl rfl (fin rfl)
theorem k28 {a0 : (List UInt8)} {r : (List UInt8) × Bool} (H : R_octets16 a0 = some r) : Ret Tryz.prog 28 [str a0] (.tuple #[str r.1, .bool r.2]) := by
 refine enterRet (n := 36) Tryz.func28 rfl rfl rfl (fun wd => ?_)
 refine c_seq ?_
 refine c_region ?_
 refine l_val rfl rfl rfl (r_assign (v := str []) rfl) ?_
 refine l_val rfl rfl rfl (r_assign (v := .bool false) rfl) ?_
 refine l_nil ?_
 refine c_seq ?_
 refine c_region ?_
 refine l_val rfl rfl rfl (r_assign (v := .slice none 0 0) rfl) ?_
 refine l_nil ?_
 refine c_meet (r := r) (σ := (List UInt8) × (List Int)) (τ := (Option Addr × Nat)) (fun s => R_octets16_j1 s.1 s.2) (fun s t => [(0, str s.1), (4, .slice t.1 s.2.length t.2)]) (fun s t => [rowV 5 1 (.slice t.1 s.2.length t.2) s.2.length (s.2.map e_u8)]) (fun s t => True) ?_ ?_
 ·refine c_block ?_
  refine c_nilRow 5 1 ?_
  refine c_fix (σ := (List UInt8) × (List Int)) (τ := (Option Addr × Nat)) (fun next2 s => R_octets16_l2 next2 s.1 s.2) (fun s t => [(0, str s.1), (4, .slice t.1 s.2.length t.2)]) (fun s t => [rowV 5 1 (.slice t.1 s.2.length t.2) s.2.length (s.2.map e_u8)]) (fun s t => True) (a0, ([] : List Int)) ((none, 0) : Option Addr × Nat) [0] H (by exact trivial) (by exact ⟨rfl, rfl, trivial⟩) (by decide) rfl ?_
  rintro ⟨x0_3, l_3⟩ p_2 m2 gg H18 _
  clear H
  replace H18 : R_octets16_l2 (it (fun next2 s => R_octets16_l2 next2 s.1 s.2) m2) x0_3 l_3 = some r := H18
  generalize hn2 : it (fun next2 s => R_octets16_l2 next2 s.1 s.2) m2 = next2 at H18
  refine c_tidyF [(0, str x0_3), (4, .slice p_2.1 l_3.length p_2.2)] [rowV 5 1 (.slice p_2.1 l_3.length p_2.2) l_3.length (l_3.map e_u8)] rfl rfl ?_
  refine c_seq ?_
  refine c_seq ?_
  refine c_region ?_
  refine l_val rfl rfl rfl (r_move (v := str x0_3) rfl) ?_
  refine l_val rfl rfl rfl (r_lenT Tryz.underlying9 rfl) ?_
  refine l_val rfl rfl rfl (r_geq rfl rfl) ?_
  refine l_nil ?_
  refine c_if (b := (decide (2 ≤ (x0_3.length : Int)))) rfl (fun hb => ?_) (fun hb => ?_)
  ·have H19 := cnd_t hb H18; clear H18
   refine c_skip ?_
   refine c_seq ?_
   refine c_block ?_
   refine c_seq ?_
   exact c_regionD (Kd.p :: Kd.p :: Kd.d [] _ :: Kd.p :: Kd.p :: Kd.d [] _ :: Kd.p :: Kd.p :: []) 0 mixed (by
    refine d_val rfl rfl (r_move (v := str x0_3) rfl) ?_
    have h_t13 := bnd_val H19
    have H20 := bnd_rest H19
    refine d_val rfl rfl (r_octG Tryz.underlying9 rfl rfl h_t13) ?_
    have h_t14 := bnd_val H20
    have H21 := bnd_rest H20
    refine d_call (k14 h_t14) Tryz.call14 rfl rfl ?_
    refine d_val rfl rfl (r_move (v := str x0_3) rfl) ?_
    have h_t16 := bnd_val H21
    have H22 := bnd_rest H21
    refine d_val rfl rfl (r_octG Tryz.underlying9 rfl rfl h_t16) ?_
    have h_t17 := bnd_val H22
    have H23 := bnd_rest H22
    refine d_call (k14 h_t17) Tryz.call14 rfl rfl ?_
    refine d_val rfl rfl (r_assign (v := .int .i64 (val (strings_IndexByte [48, 49, 50, 51, 52, 53, 54, 55, 56, 57, 97, 98, 99, 100, 101, 102] (val (gOct x0_3 0))))) rfl) ?_
    refine d_val rfl rfl (r_assign (v := .int .i64 (val (strings_IndexByte [48, 49, 50, 51, 52, 53, 54, 55, 56, 57, 97, 98, 99, 100, 101, 102] (val (gOct x0_3 1))))) rfl) ?_
    refine d_nil ?_
    refine c_seq ?_
    refine c_seq ?_
    refine c_region ?_
    refine l_val rfl rfl rfl (r_move (v := .int .i64 (val (strings_IndexByte [48, 49, 50, 51, 52, 53, 54, 55, 56, 57, 97, 98, 99, 100, 101, 102] (val (gOct x0_3 0))))) rfl) ?_
    refine l_val rfl rfl rfl (r_lss rfl rfl) ?_
    refine l_val rfl rfl rfl (r_move (v := .bool (decide ((val (strings_IndexByte [48, 49, 50, 51, 52, 53, 54, 55, 56, 57, 97, 98, 99, 100, 101, 102] (val (gOct x0_3 0)))) < 0))) rfl) ?_
    refine split (fun hb => ?_) (fun hb => ?_)
    ·have H24 := cnd_t hb H23; clear H23
     refine l_passed rfl rfl rfl ?_
     refine l_passed rfl rfl rfl ?_
     refine l_val rfl rfl rfl (r_pickT (v := .bool true) rfl rfl) ?_
     refine l_nil ?_
     refine c_true rfl ?_
     refine c_seq ?_
     refine c_region ?_
     refine l_val rfl rfl rfl (r_assign (v := str []) rfl) ?_
     refine l_val rfl rfl rfl (r_assign (v := .bool false) rfl) ?_
     refine l_nil ?_
     refine c_ret ?_
     obtain rfl := Option.some.inj H24
     refine ret2 (v1 := str []) (v2 := .bool false) rfl rfl rfl (fin rfl)
    ·have H25 := cnd_f hb H23; clear H23
     refine l_val rfl rfl rfl (r_move (v := .int .i64 (val (strings_IndexByte [48, 49, 50, 51, 52, 53, 54, 55, 56, 57, 97, 98, 99, 100, 101, 102] (val (gOct x0_3 1))))) rfl) ?_
     refine l_val rfl rfl rfl (r_lss rfl rfl) ?_
     refine l_val rfl rfl rfl (r_pickF (v := .bool (decide ((val (strings_IndexByte [48, 49, 50, 51, 52, 53, 54, 55, 56, 57, 97, 98, 99, 100, 101, 102] (val (gOct x0_3 1)))) < 0))) rfl rfl) ?_
     refine l_nil ?_
     refine c_if (b := (decide ((val (strings_IndexByte [48, 49, 50, 51, 52, 53, 54, 55, 56, 57, 97, 98, 99, 100, 101, 102] (val (gOct x0_3 1)))) < 0))) rfl (fun hb => ?_) (fun hb => ?_)
     ·have H26 := cnd_t hb H25; clear H25
      refine c_seq ?_
      refine c_region ?_
      refine l_val rfl rfl rfl (r_assign (v := str []) rfl) ?_
      refine l_val rfl rfl rfl (r_assign (v := .bool false) rfl) ?_
      refine l_nil ?_
      refine c_ret ?_
      obtain rfl := Option.some.inj H26
      refine ret2 (v1 := str []) (v2 := .bool false) rfl rfl rfl (fin rfl)
     ·have H27 := cnd_f hb H25; clear H25
      refine c_skip ?_
      refine c_region ?_
      refine l_val rfl rfl rfl (r_move (v := .slice p_2.1 l_3.length p_2.2) rfl) ?_
      refine l_val rfl rfl rfl (r_move (v := .int .i64 (val (strings_IndexByte [48, 49, 50, 51, 52, 53, 54, 55, 56, 57, 97, 98, 99, 100, 101, 102] (val (gOct x0_3 0))))) rfl) ?_
      obtain ⟨t26, h_t26, H28⟩ := bnd_some H27; clear H27
      refine l_val rfl rfl rfl (r_mulG rfl rfl h_t26) ?_
      refine l_val rfl rfl rfl (r_move (v := .int .i64 (val (strings_IndexByte [48, 49, 50, 51, 52, 53, 54, 55, 56, 57, 97, 98, 99, 100, 101, 102] (val (gOct x0_3 1))))) rfl) ?_
      obtain ⟨t28, h_t28, H29⟩ := bnd_some H28; clear H28
      refine l_val rfl rfl rfl (r_addG rfl rfl h_t28) ?_
      refine l_val rfl rfl rfl (r_convG Tryz.runUnderlying3 Tryz.runUnderlying5 rfl (wr_u8 _)) ?_
      refine l_buildSlice (vs := [.int .u8 (wU8 t28)]) (cs := [.int .u8 (wU8 t28)]) Tryz.underlying70 Tryz.sizeOf5 Tryz.zeroValue5 rfl rfl rfl rfl rfl rfl rfl (fun b1 => ?_)
      obtain ⟨l31, h_l31, H30⟩ := bnd_some H29; clear H29
      refine l_turn (turns_appG (i := 0) (hn := rfl) (rds := [1]) (p := p_2) (sz := 1) (by_ := 1) (f := e_u8) (ys := l_3) (ls := ([(wU8 t28)] : List Int)) (V := .slice (some ⟨b1, 0, none⟩) 1 1) Tryz.underlying70 (info_of Tryz.typeInfo5) rfl rfl rfl rfl rfl rfl rfl rfl rfl rfl (fun w L' hF hS hi => row_box (i := 1) hS ((hi 1 (by simp)).trans rfl) rfl rfl) (fun _ => rfl) (fun _ => rfl) h_l31) rfl rfl rfl (fun p_3 => ?_)
      refine l_val rfl rfl rfl (r_assign (v := .slice p_3.1 l31.length p_3.2) rfl) ?_
      refine l_nil ?_
      refine c_region ?_
      refine l_val rfl rfl rfl (r_move (v := str x0_3) rfl) ?_
      obtain ⟨t11, h_t11, H31⟩ := bnd_some H30; clear H30
      refine l_val rfl rfl rfl (r_cutFromG Tryz.underlying9 rfl rfl h_t11) ?_
      refine l_val rfl rfl rfl (r_assign (v := str t11) rfl) ?_
      refine l_nil ?_
      refine c_close (t11, l31) p_3 m2 [0] (by exact ⟨rfl, rfl, trivial⟩) (by decide) rfl (by exact ⟨(by subst hn2; exact H31), trivial⟩) (Nat.lt_succ_self _)
    ) (by kernel_rfl)
  ·have H32 := cnd_f hb H18; clear H18
   refine c_exit ?_
   refine c_close (x0_3, l_3) p_2 0 [0] (by exact ⟨rfl, rfl, trivial⟩) (by decide) rfl (by exact ⟨H32, trivial⟩) (Nat.lt_succ_self _)
 ·rintro ⟨x0, l⟩ p gg H17 _
  replace H17 : R_octets16_j1 x0 l = some r := H17
  refine c_tidyF [(0, str x0), (4, .slice p.1 l.length p.2)] [rowV 5 1 (.slice p.1 l.length p.2) l.length (l.map e_u8)] rfl rfl ?_
  refine c_seq ?_
  refine c_region ?_
  refine l_val rfl rfl rfl (r_move (v := .slice p.1 l.length p.2) rfl) ?_
  refine l_read (fun w hF hS => run_bytes (f := e_u8) (xs := l) rfl Tryz.underlying70 Tryz.underlying5 Tryz.underlying9 rfl (fun _ => rfl) (rowOf (i := 0) hS rfl)) rfl rfl rfl ?_
  refine l_val rfl rfl rfl (r_move (v := str x0) rfl) ?_
  refine l_val rfl rfl rfl (r_eqlT rfl rfl) ?_
  refine l_val rfl rfl rfl (r_assign (v := str (toStr l)) rfl) ?_
  refine l_val rfl rfl rfl (r_assign (v := .bool (decide (x0 = []))) rfl) ?_
  refine l_nil ?_
  refine c_ret ?_
  obtain rfl := Option.some.inj H17
  refine ret2 (v1 := str (toStr l)) (v2 := .bool (decide (x0 = []))) rfl rfl rfl (fin rfl)
theorem k30 {a0 : (List UInt8)} {a1 : Int} {a2 : Bool} {r : Int × Bool} (H : R_Whole a0 a1 a2 = some r) : Ret Tryz.prog 30 [str a0, .int .i64 a1, .bool a2] (.tuple #[.int .i64 r.1, .bool r.2]) := by
 refine enterRet (n := 45) Tryz.func30 rfl rfl rfl (fun wd => ?_)
 refine c_seq ?_
 refine c_region ?_
 refine l_val rfl rfl rfl (r_assign (v := .int .i64 0) rfl) ?_
 refine l_val rfl rfl rfl (r_assign (v := .bool false) rfl) ?_
 refine l_nil ?_
 refine c_seq ?_
 refine c_region ?_
 refine l_val rfl rfl rfl (r_move (v := str a0) rfl) ?_
 refine l_val rfl rfl rfl (r_assign (v := str a0) rfl) ?_
 refine l_nil ?_
 refine c_meet (r := r) (σ := (List UInt8)) (τ := Unit) (fun s => R_Whole_j1 a0 a1 s) (fun s t => [(0, str a0), (1, .int .i64 a1), (8, str s)]) (fun s t => []) (fun s t => True) ?_ ?_
 ·refine c_seq ?_
  refine c_region ?_
  refine l_val rfl rfl rfl (r_move (v := .bool a2) rfl) ?_
  refine l_nil ?_
  refine c_if (b := a2) rfl (fun hb => ?_) (fun hb => ?_)
  ·have H34 := cnd_t hb H; clear H
   refine c_region ?_
   refine l_val rfl rfl rfl (r_move (v := str a0) rfl) ?_
   obtain ⟨t14, h_t14, H35⟩ := bnd_some H34; clear H34
   refine l_call (k56 h_t14) Tryz.call56 rfl rfl rfl ?_
   refine l_val rfl rfl rfl (r_assign (v := str t14) rfl) ?_
   refine l_nil ?_
   refine c_close t14 () 0 [] (by exact ⟨rfl, rfl, rfl, trivial⟩) (by decide) rfl (by exact ⟨H35, trivial⟩) (Nat.lt_succ_self _)
  ·have H36 := cnd_f hb H; clear H
   refine c_skip ?_
   refine c_close a0 () 0 [] (by exact ⟨rfl, rfl, rfl, trivial⟩) (by decide) rfl (by exact ⟨H36, trivial⟩) (Nat.lt_succ_self _)
 ·rintro x8 _ gg H19 _
  replace H19 : R_Whole_j1 a0 a1 x8 = some r := H19
  refine c_tidyF [(0, str a0), (1, .int .i64 a1), (8, str x8)] [] rfl rfl ?_
  refine c_meet (r := r) (σ := Unit) (τ := Unit) (fun s => R_Whole_j2 a0) (fun s t => [(0, str a0)]) (fun s t => []) (fun s t => True) ?_ ?_
  ·refine c_seq ?_
   refine c_region ?_
   refine l_val rfl rfl rfl (r_move (v := str x8) rfl) ?_
   refine l_val rfl rfl rfl (r_eqlT rfl rfl) ?_
   refine l_val rfl rfl rfl (r_move (v := .bool (decide (x8 = []))) rfl) ?_
   refine split (fun hb => ?_) (fun hb => ?_)
   ·have H22 := cnd_t hb H19; clear H19
    refine l_passed rfl rfl rfl ?_
    refine l_passed rfl rfl rfl ?_
    refine l_passed rfl rfl rfl ?_
    refine l_passed rfl rfl rfl ?_
    refine l_val rfl rfl rfl (r_pickT (v := .bool true) rfl rfl) ?_
    refine l_val rfl rfl rfl (r_move (v := .bool true) rfl) ?_
    refine l_passed rfl rfl rfl ?_
    refine l_passed rfl rfl rfl ?_
    refine l_passed rfl rfl rfl ?_
    refine l_val rfl rfl rfl (r_pickT (v := .bool true) rfl rfl) ?_
    refine l_val rfl rfl rfl (r_move (v := .bool true) rfl) ?_
    refine l_passed rfl rfl rfl ?_
    refine l_passed rfl rfl rfl ?_
    refine l_passed rfl rfl rfl ?_
    refine l_passed rfl rfl rfl ?_
    refine l_passed rfl rfl rfl ?_
    refine l_passed rfl rfl rfl ?_
    refine l_passed rfl rfl rfl ?_
    refine l_val rfl rfl rfl (r_pickT (v := .bool true) rfl rfl) ?_
    refine l_nil ?_
    refine c_true rfl ?_
    refine c_seq ?_
    refine c_region ?_
    refine l_val rfl rfl rfl (r_assign (v := .int .i64 0) rfl) ?_
    refine l_val rfl rfl rfl (r_assign (v := .bool false) rfl) ?_
    refine l_nil ?_
    refine c_ret ?_
    obtain rfl := Option.some.inj H22
    refine ret2 (v1 := .int .i64 0) (v2 := .bool false) rfl rfl rfl (fin rfl)
   ·have H23 := cnd_f hb H19; clear H19
    refine l_val rfl rfl rfl (r_move (v := str x8) rfl) ?_
    refine l_val rfl rfl rfl (r_lenT Tryz.underlying9 rfl) ?_
    refine l_val rfl rfl rfl (r_move (v := .int .i64 a1) rfl) ?_
    refine l_val rfl rfl rfl (r_gtr rfl rfl) ?_
    refine l_val rfl rfl rfl (r_pickF (v := .bool (decide (a1 < (x8.length : Int)))) rfl rfl) ?_
    refine l_val rfl rfl rfl (r_move (v := .bool (decide (a1 < (x8.length : Int)))) rfl) ?_
    refine split (fun hb => ?_) (fun hb => ?_)
    ·have H24 := cnd_t hb H23; clear H23
     refine l_passed rfl rfl rfl ?_
     refine l_passed rfl rfl rfl ?_
     refine l_passed rfl rfl rfl ?_
     refine l_val rfl rfl rfl (r_pickT (v := .bool true) rfl rfl) ?_
     refine l_val rfl rfl rfl (r_move (v := .bool true) rfl) ?_
     refine l_passed rfl rfl rfl ?_
     refine l_passed rfl rfl rfl ?_
     refine l_passed rfl rfl rfl ?_
     refine l_passed rfl rfl rfl ?_
     refine l_passed rfl rfl rfl ?_
     refine l_passed rfl rfl rfl ?_
     refine l_passed rfl rfl rfl ?_
     refine l_val rfl rfl rfl (r_pickT (v := .bool true) rfl rfl) ?_
     refine l_nil ?_
     refine c_true rfl ?_
     refine c_seq ?_
     refine c_region ?_
     refine l_val rfl rfl rfl (r_assign (v := .int .i64 0) rfl) ?_
     refine l_val rfl rfl rfl (r_assign (v := .bool false) rfl) ?_
     refine l_nil ?_
     refine c_ret ?_
     obtain rfl := Option.some.inj H24
     refine ret2 (v1 := .int .i64 0) (v2 := .bool false) rfl rfl rfl (fin rfl)
    ·have H25 := cnd_f hb H23; clear H23
     refine l_val rfl rfl rfl (r_move (v := str x8) rfl) ?_
     obtain ⟨t25, h_t25, H26⟩ := bnd_some H25; clear H25
     refine l_call (k57 h_t25) Tryz.call57 rfl rfl rfl ?_
     refine l_val rfl rfl rfl (r_neqT rfl rfl) ?_
     refine l_val rfl rfl rfl (r_pickF (v := .bool (decide (t25 ≠ []))) rfl rfl) ?_
     refine l_val rfl rfl rfl (r_move (v := .bool (decide (t25 ≠ []))) rfl) ?_
     refine split (fun hb => ?_) (fun hb => ?_)
     ·have H27 := cnd_t hb H26; clear H26
      refine l_passed rfl rfl rfl ?_
      refine l_passed rfl rfl rfl ?_
      refine l_passed rfl rfl rfl ?_
      refine l_passed rfl rfl rfl ?_
      refine l_passed rfl rfl rfl ?_
      refine l_passed rfl rfl rfl ?_
      refine l_passed rfl rfl rfl ?_
      refine l_val rfl rfl rfl (r_pickT (v := .bool true) rfl rfl) ?_
      refine l_nil ?_
      refine c_true rfl ?_
      refine c_seq ?_
      refine c_region ?_
      refine l_val rfl rfl rfl (r_assign (v := .int .i64 0) rfl) ?_
      refine l_val rfl rfl rfl (r_assign (v := .bool false) rfl) ?_
      refine l_nil ?_
      refine c_ret ?_
      obtain rfl := Option.some.inj H27
      refine ret2 (v1 := .int .i64 0) (v2 := .bool false) rfl rfl rfl (fin rfl)
     ·have H28 := cnd_f hb H26; clear H26
      refine l_val rfl rfl rfl (r_move (v := str x8) rfl) ?_
      obtain ⟨t30, h_t30, H29⟩ := bnd_some H28; clear H28
      refine l_val rfl rfl rfl (r_octG Tryz.underlying9 rfl rfl h_t30) ?_
      refine l_val rfl rfl rfl (r_eql rfl rfl) ?_
      refine l_val rfl rfl rfl (r_move (v := .bool (decide (t30 = 48))) rfl) ?_
      refine split (fun hb => ?_) (fun hb => ?_)
      ·have H30 := cnd_t hb H29; clear H29
       refine l_val rfl rfl rfl (r_move (v := str a0) rfl) ?_
       refine l_val rfl rfl rfl (r_neqT rfl rfl) ?_
       refine l_val rfl rfl rfl (r_pickT (v := .bool (decide (a0 ≠ [48]))) rfl rfl) ?_
       refine l_val rfl rfl rfl (r_pickF (v := .bool (decide (a0 ≠ [48]))) rfl rfl) ?_
       refine l_nil ?_
       refine c_if (b := (decide (a0 ≠ [48]))) rfl (fun hb => ?_) (fun hb => ?_)
       ·have H31 := cnd_t hb H30; clear H30
        refine c_seq ?_
        refine c_region ?_
        refine l_val rfl rfl rfl (r_assign (v := .int .i64 0) rfl) ?_
        refine l_val rfl rfl rfl (r_assign (v := .bool false) rfl) ?_
        refine l_nil ?_
        refine c_ret ?_
        obtain rfl := Option.some.inj H31
        refine ret2 (v1 := .int .i64 0) (v2 := .bool false) rfl rfl rfl (fin rfl)
       ·have H32 := cnd_f hb H30; clear H30
        refine c_skip ?_
        refine c_close () () 0 [] (by exact ⟨rfl, trivial⟩) (by decide) rfl (by exact ⟨H32, trivial⟩) (Nat.lt_succ_self _)
      ·have H33 := cnd_f hb H29; clear H29
       refine l_passed rfl rfl rfl ?_
       refine l_passed rfl rfl rfl ?_
       refine l_val rfl rfl rfl (r_pickF (v := .bool false) rfl rfl) ?_
       refine l_val rfl rfl rfl (r_pickF (v := .bool false) rfl rfl) ?_
       refine l_nil ?_
       refine c_false rfl ?_
       refine c_skip ?_
       refine c_close () () 0 [] (by exact ⟨rfl, trivial⟩) (by decide) rfl (by exact ⟨H33, trivial⟩) (Nat.lt_succ_self _)
  ·rintro _ _ gg H20 _
   replace H20 : R_Whole_j2 a0 = some r := H20
   refine c_tidyF [(0, str a0)] [] rfl rfl ?_
   refine c_seq ?_
   refine c_region ?_
   refine l_val rfl rfl rfl (r_move (v := str a0) rfl) ?_
   obtain ⟨t39, h_t39, H21⟩ := bnd_some H20; clear H20
   refine l_call (k58 h_t39) Tryz.call58 rfl rfl rfl ?_
   refine l_val rfl rfl rfl (r_move (v := .tuple #[.int .i64 t39, .nilIface]) rfl) ?_
   refine l_val rfl rfl rfl (r_extract (v := .int .i64 t39) rfl rfl) ?_
   refine l_val rfl rfl rfl (r_extract (v := .nilIface) rfl rfl) ?_
   refine l_val rfl rfl rfl (r_assign (v := .int .i64 t39) rfl) ?_
   refine l_val rfl rfl rfl (r_assign (v := .nilIface) rfl) ?_
   refine l_nil ?_
   refine c_seq ?_
   exact c_regionD (Kd.p :: Kd.p :: Kd.p :: Kd.p :: Kd.p :: []) 0 mixed (by
    refine d_val rfl rfl (r_move (v := .int .i64 t39) rfl) ?_
    refine d_val rfl rfl (r_move (v := .nilIface) rfl) ?_
    refine d_val rfl rfl (r_eqlErr rfl (by intro w; kernel_rfl)) ?_
    refine d_val rfl rfl (r_assign (v := .int .i64 t39) rfl) ?_
    refine d_val rfl rfl (r_assign (v := .bool true) rfl) ?_
    refine d_nil ?_
    refine c_ret ?_
    obtain rfl := Option.some.inj H21
    refine ret2 (v1 := .int .i64 t39) (v2 := .bool true) rfl rfl rfl (fin rfl)
    ) (by kernel_rfl)
theorem k10 {a0 : (List UInt8)} {r : T_tag_Value × Int} {w : World} {h : Heap} (hw : Know h w noS) (H : R_ValueRead a0 = some r) : Does Tryz.prog 10 (List.toArray [str a0]) w (fun v w' => ∃ x : (Option Addr × Nat) × (Option Addr × Nat) × (Option Addr × Nat), v = (.tuple #[.agg #[.int .i64 r.1.Kind, str r.1.Text, .slice x.1.1 r.1.Ints.length x.1.2, .slice x.2.1.1 r.1.Ratios.length x.2.1.2, .slice x.2.2.1 r.1.Entries.length x.2.2.2], .int .i64 r.2]) ∧ Turn w w' noS (bothC (rowV 3 1 (.slice x.1.1 r.1.Ints.length x.1.2) r.1.Ints.length (r.1.Ints.map e_i64)) (bothC (rowV 42 2 (.slice x.2.1.1 r.1.Ratios.length x.2.1.2) r.1.Ratios.length (r.1.Ratios.map e_tag_Ratio)) (rowD 65 6 g_tag_Entry (.slice x.2.2.1 r.1.Entries.length x.2.2.2) r.1.Entries.length r.1.Entries)))) := by
 refine enter (n := 154) Tryz.func10 rfl rfl rfl noS [] (Sat.nil _ _) ?_
 refine c_poolNew noH ?_
 refine c_seq ?_
 refine c_region ?_
 refine l_alloc (cs := [.int .i64 0, str [], .slice none 0 0, .slice none 0 0, .slice none 0 0]) Tryz.zeroValue26 rfl rfl rfl (fun b4 => ?_)
 refine l_val rfl rfl rfl (r_assign (v := .int .i64 0) rfl) ?_
 refine l_nil ?_
 refine c_seq ?_
 refine c_seq ?_
 refine c_region ?_
 refine l_val rfl rfl rfl (r_move (v := str a0) rfl) ?_
 refine l_val rfl rfl rfl (r_lenT Tryz.underlying9 rfl) ?_
 refine l_val rfl rfl rfl (r_gtr rfl rfl) ?_
 refine l_nil ?_
 refine c_if (b := (decide (1000000 < (a0.length : Int)))) rfl (fun hb => ?_) (fun hb => ?_)
 ·have H62 := cnd_t hb H; clear H
  refine c_seq ?_
  refine c_region ?_
  refine l_loadN (i := 1) (vs := [.int .i64 0, str [], .slice none 0 0, .slice none 0 0, .slice none 0 0]) Tryz.isAgg26 Tryz.sizeOf26 rfl rfl rfl rfl rfl ?_
  refine l_store (i := 1) (vs := [.int .i64 0, str [], .slice none 0 0, .slice none 0 0, .slice none 0 0]) (cs' := [.int .i64 0, str [], .slice none 0 0, .slice none 0 0, .slice none 0 0]) Tryz.sizeOf26 rfl rfl rfl rfl rfl rfl rfl rfl rfl ?_
  refine l_val rfl rfl rfl (r_assign (v := .int .i64 4) rfl) ?_
  refine l_nil ?_
  refine c_ret ?_
  refine c_sel [0, 1] [poolC noH noH, cellsC b4 [.int .i64 0, str [], .slice none 0 0, .slice none 0 0, .slice none 0 0] 26] rfl (by decide) ?_
  refine c_nilRow 3 1 ?_
  refine c_nilRow 42 2 ?_
  refine c_nilRow 65 6 ?_
  refine c_sel [0, 1, 2, 3, 4] [poolC noH noH, cellsC b4 [.int .i64 0, str [], .slice none 0 0, .slice none 0 0, .slice none 0 0] 26, rowV 3 1 (.slice ((none, 0) : Option Addr × Nat).1 ([] : List Int).length ((none, 0) : Option Addr × Nat).2) ([] : List Int).length (([] : List Int).map e_i64), rowV 42 2 (.slice ((none, 0) : Option Addr × Nat).1 ([] : List T_tag_Ratio).length ((none, 0) : Option Addr × Nat).2) ([] : List T_tag_Ratio).length (([] : List T_tag_Ratio).map e_tag_Ratio), rowV 65 6 (.slice ((none, 0) : Option Addr × Nat).1 (([] : List (List Value)).length) ((none, 0) : Option Addr × Nat).2) (([] : List (List Value)).length) (([] : List (List Value)).map idC)] rfl (by decide) ?_
  obtain rfl := Option.some.inj H62
  refine c_both 0 4 rfl rfl (by decide) ?_
  refine c_imp 0 rfl (imp_rowD (p := ((none, 0) : Option Addr × Nat)) rfl (AllC.nil (G := g_tag_Entry) (h := noH) (sz := 6))) ?_
  refine c_both 3 0 rfl rfl (by decide) ?_
  refine c_both 2 3 rfl rfl (by decide) ?_
  refine retCt (i := 1) (vs := [.int .i64 0, str [], .slice ((none, 0) : Option Addr × Nat).1 ([] : List Int).length ((none, 0) : Option Addr × Nat).2, .slice ((none, 0) : Option Addr × Nat).1 ([] : List T_tag_Ratio).length ((none, 0) : Option Addr × Nat).2, .slice ((none, 0) : Option Addr × Nat).1 (([] : List (List Value)).length) ((none, 0) : Option Addr × Nat).2]) (v2 := .int .i64 4) Tryz.isAgg26 Tryz.sizeOf26 rfl rfl rfl rfl rfl (finX (((none, 0) : Option Addr × Nat), ((none, 0) : Option Addr × Nat), ((none, 0) : Option Addr × Nat)) (i := 2) rfl (by first | rfl | rw [(show (([] : List (List Value)).length) = ([] : List T_tag_Entry).length from (AllC.nil (G := g_tag_Entry) (h := noH) (sz := 6)).len)]) (by first | exact Imp.refl _ | exact Imp.of (by rw [(show (([] : List (List Value)).length) = ([] : List T_tag_Entry).length from (AllC.nil (G := g_tag_Entry) (h := noH) (sz := 6)).len)])))
 ·have H63 := cnd_f hb H; clear H
  refine c_skip ?_
  refine c_seq ?_
  refine c_region ?_
  refine l_val rfl rfl rfl (r_move (v := str a0) rfl) ?_
  obtain ⟨t28, h_t28, H64⟩ := bnd_some H63; clear H63
  refine l_make (makes_call (rds := []) (G := fun x : (Option Addr × Nat) => .slice x.1 t28.length x.2) (C := fun x : (Option Addr × Nat) => rowV 9 1 (.slice x.1 t28.length x.2) t28.length (t28.map e_string)) (fun w L' hF hS hi => k24 (know_all w)  h_t28) Tryz.call24 rfl) rfl rfl rfl (fun p => ?_)
  refine l_val rfl rfl rfl (r_assign (v := .slice p.1 t28.length p.2) rfl) ?_
  refine l_nil ?_
  refine c_meet (r := r) (σ := Int) (τ := Unit) (fun s => R_ValueRead_j1 t28 s) (fun s t => [(2, .pointer (some ⟨b4, 0, none⟩)), (4, .slice p.1 t28.length p.2)]) (fun s t => [poolC noH noH, cellsC b4 [.int .i64 s, str [], .slice none 0 0, .slice none 0 0, .slice none 0 0] 26, rowV 9 1 (.slice p.1 t28.length p.2) t28.length (t28.map e_string)]) (fun s t => True) ?_ ?_
  ·refine c_seq ?_
   refine c_region ?_
   obtain ⟨t29, h_t29, H115⟩ := bnd_some H64; clear H64
   refine l_make (makes_call (rds := []) (G := fun x : Nat => .map (some x)) (C := fun x : Nat => mapC (fun x_ : Int => .int .i64 x_) (fun x_ : (List UInt8) => str x_) x t29) (fun w L' hF hS hi => k19 (know_all w)  h_t29) Tryz.call19 rfl) rfl rfl rfl (fun p_8 => ?_)
   refine l_turn (turns_rangeM (i := 3) (rds := []) (fk := (fun x_ : Int => .int .i64 x_)) (fv := (fun x_ : (List UInt8) => str x_)) Tryz.underlying45 rfl rfl) rfl rfl rfl (fun b7 => ?_)
   refine l_nil ?_
   refine c_block ?_
   refine c_fix (σ := Int × (List (Int × (List UInt8)))) (τ := Unit) (fun next8 s => R_ValueRead_l8 t28 next8 s.1 s.2) (fun s t => [(2, .pointer (some ⟨b4, 0, none⟩)), (4, .slice p.1 t28.length p.2), (30, .pointer (some ⟨b7, 0, none⟩))]) (fun s t => [poolC noH noH, cellsC b4 [.int .i64 s.1, str [], .slice none 0 0, .slice none 0 0, .slice none 0 0] 26, rowV 9 1 (.slice p.1 t28.length p.2) t28.length (t28.map e_string), mitC (fun x_ : Int => .int .i64 x_) (fun x_ : (List UInt8) => str x_) p_8 b7 t29 s.2 none]) (fun s t => True) (0, t29) () [0, 1, 2, 3] H115 (by exact trivial) (by exact ⟨rfl, rfl, rfl, trivial⟩) (by decide) rfl ?_
   rintro ⟨m_4, rs_2⟩ _ m8 gg H116 _
   clear H115
   replace H116 : R_ValueRead_l8 t28 (it (fun next8 s => R_ValueRead_l8 t28 next8 s.1 s.2) m8) m_4 rs_2 = some r := H116
   generalize hn8 : it (fun next8 s => R_ValueRead_l8 t28 next8 s.1 s.2) m8 = next8 at H116
   refine c_tidyF [(2, .pointer (some ⟨b4, 0, none⟩)), (4, .slice p.1 t28.length p.2), (30, .pointer (some ⟨b7, 0, none⟩))] [poolC noH noH, cellsC b4 [.int .i64 m_4, str [], .slice none 0 0, .slice none 0 0, .slice none 0 0] 26, rowV 9 1 (.slice p.1 t28.length p.2) t28.length (t28.map e_string), mitC (fun x_ : Int => .int .i64 x_) (fun x_ : (List UInt8) => str x_) p_8 b7 t29 rs_2 none] rfl rfl ?_
   refine c_seq ?_
   refine c_sel [0, 1, 2, 3] [poolC noH noH, cellsC b4 [.int .i64 m_4, str [], .slice none 0 0, .slice none 0 0, .slice none 0 0] 26, rowV 9 1 (.slice p.1 t28.length p.2) t28.length (t28.map e_string), mitC (fun x_ : Int => .int .i64 x_) (fun x_ : (List UInt8) => str x_) p_8 b7 t29 rs_2 none] rfl (by decide) ?_
   refine c_region ?_
   refine caseB (!rs_2.isEmpty) (fun hb => ?_) (fun hb => ?_)
   ·have H117 := cnd_t hb H116; clear H116
    refine l_nextM (i := 3) rfl rfl hb rfl rfl rfl (fun pe rs_3 hp_ => ?_)
    have H118 := gAll_some H117 hp_; clear H117 hp_
    refine l_val rfl rfl rfl (r_extract (v := .bool true) rfl rfl) ?_
    refine l_nil ?_
    refine c_seq ?_
    refine c_true rfl ?_
    refine c_skip ?_
    refine c_block ?_
    refine c_seq ?_
    refine c_region ?_
    refine l_read (fun w hF hS => r_entryM (i := 3) hS rfl rfl) rfl rfl rfl ?_
    refine c_imp 3 rfl (imp_mit _) ?_
    refine l_val rfl rfl rfl (r_extract (v := .int .i64 pe.1) rfl rfl) ?_
    refine l_val rfl rfl rfl (r_extract (v := str pe.2) rfl rfl) ?_
    refine l_val rfl rfl rfl (r_assign (v := .int .i64 pe.1) rfl) ?_
    refine l_val rfl rfl rfl (r_assign (v := str pe.2) rfl) ?_
    refine l_nil ?_
    refine c_seq ?_
    refine c_region ?_
    refine l_val rfl rfl rfl (r_move (v := str pe.2) rfl) ?_
    refine l_val rfl rfl rfl (r_move (v := .slice p.1 t28.length p.2) rfl) ?_
    obtain ⟨t38, h_t38, H119⟩ := bnd_some H118; clear H118
    refine l_read (fun w hF hS => run_indexO Tryz.underlying33 Tryz.sizeOf9 rfl rfl (rowOf (i := 2) hS rfl) rfl h_t38) rfl rfl rfl ?_
    refine l_read (fun w hF hS => run_loadG1 (f := e_string) (i := 0) (sz := 1) (j := 0) (v := str t38) Tryz.isAgg9 rfl rfl (rowOf (i := 2) hS rfl) h_t38 rfl) rfl rfl rfl ?_
    refine l_val rfl rfl rfl (r_eqlT rfl rfl) ?_
    refine l_nil ?_
    refine c_if (b := (decide (pe.2 = t38))) rfl (fun hb => ?_) (fun hb => ?_)
    ·have H120 := cnd_t hb H119; clear H119
     refine c_region ?_
     refine l_val rfl rfl rfl (r_move (v := .int .i64 pe.1) rfl) ?_
     refine l_val rfl rfl rfl (r_field Tryz.runUnderlying26 rfl Tryz.sizeOf3 rfl rfl) ?_
     refine l_store (i := 1) (vs := [.int .i64 pe.1]) (cs' := [.int .i64 pe.1, str [], .slice none 0 0, .slice none 0 0, .slice none 0 0]) Tryz.sizeOf3 rfl rfl rfl rfl rfl rfl rfl rfl rfl ?_
     refine l_nil ?_
     refine c_close (pe.1, rs_3) () m8 [0, 1, 2, 3] (by exact ⟨rfl, rfl, rfl, trivial⟩) (by decide) rfl (by exact ⟨(by subst hn8; exact H120), trivial⟩) (Nat.lt_succ_self _)
    ·have H121 := cnd_f hb H119; clear H119
     refine c_skip ?_
     refine c_close (m_4, rs_3) () m8 [0, 1, 2, 3] (by exact ⟨rfl, rfl, rfl, trivial⟩) (by decide) rfl (by exact ⟨(by subst hn8; exact H121), trivial⟩) (Nat.lt_succ_self _)
   ·have H122 := cnd_f hb H116; clear H116
    refine l_read (fun w hF hS => r_nextOverM (i := 3) hS rfl rfl hb) rfl rfl rfl ?_
    refine l_val rfl rfl rfl (r_extract (v := .bool false) rfl rfl) ?_
    refine l_nil ?_
    refine c_seq ?_
    refine c_false rfl ?_
    refine c_exit ?_
    refine c_close m_4 () 0 [0, 1, 2] (by exact ⟨rfl, rfl, trivial⟩) (by decide) rfl (by exact ⟨H122, trivial⟩) (Nat.lt_succ_self _)
  ·rintro m _ gg H65 _
   replace H65 : R_ValueRead_j1 t28 m = some r := H65
   refine c_tidyF [(2, .pointer (some ⟨b4, 0, none⟩)), (4, .slice p.1 t28.length p.2)] [poolC noH noH, cellsC b4 [.int .i64 m, str [], .slice none 0 0, .slice none 0 0, .slice none 0 0] 26, rowV 9 1 (.slice p.1 t28.length p.2) t28.length (t28.map e_string)] rfl rfl ?_
   refine c_seq ?_
   refine c_region ?_
   refine l_val rfl rfl rfl (r_move (v := .slice p.1 t28.length p.2) rfl) ?_
   obtain ⟨t44, h_t44, H66⟩ := bnd_some H65; clear H65
   refine l_read (v := .slice (cutA p.1 (Int.toNat 1) p.2 1) t44.length (p.2 - Int.toNat 1)) (fun w hF hS => run_sliceLO (xs := t28) Tryz.underlying33 Tryz.sizeOf9 rfl rfl rfl (capOf (i := 2) hS rfl) h_t44) rfl rfl rfl ?_
   refine l_val rfl rfl rfl (r_assign (v := .slice (cutA p.1 (Int.toNat 1) p.2 1) t44.length (p.2 - Int.toNat 1)) rfl) ?_
   refine l_nil ?_
   refine c_seq ?_
   refine c_region ?_
   refine l_val rfl rfl rfl (r_field Tryz.runUnderlying26 rfl Tryz.sizeOf3 rfl rfl) ?_
   refine l_load1 (i := 1) (v := .int .i64 m) Tryz.isAgg3 rfl rfl rfl rfl rfl ?_
   refine l_val rfl rfl rfl (r_gtr rfl rfl) ?_
   refine l_val rfl rfl rfl (r_assign (v := .bool (decide (0 < m))) rfl) ?_
   refine l_nil ?_
   refine c_meet (r := r) (σ := Bool × (List UInt8) × (List Int) × (List T_tag_Ratio)) (τ := (Option Addr × Nat) × (Option Addr × Nat)) (fun s => R_ValueRead_j2 m s.1 s.2.1 s.2.2.1 s.2.2.2) (fun s t => [(2, .pointer (some ⟨b4, 0, none⟩)), (7, .bool s.1)]) (fun s t => [poolC noH noH, cellsC b4 [.int .i64 m, str s.2.1, .slice t.1.1 s.2.2.1.length t.1.2, .slice t.2.1 s.2.2.2.length t.2.2, .slice none 0 0] 26, rowV 3 1 (.slice t.1.1 s.2.2.1.length t.1.2) s.2.2.1.length (s.2.2.1.map e_i64), rowV 42 2 (.slice t.2.1 s.2.2.2.length t.2.2) s.2.2.2.length (s.2.2.2.map e_tag_Ratio)]) (fun s t => True) ?_ ?_
   ·refine c_seq ?_
    refine c_region ?_
    refine l_val rfl rfl rfl (r_field Tryz.runUnderlying26 rfl Tryz.sizeOf3 rfl rfl) ?_
    refine l_load1 (i := 1) (v := .int .i64 m) Tryz.isAgg3 rfl rfl rfl rfl rfl ?_
    refine l_nil ?_
    refine c_block ?_
    refine c_meet (r := r) (σ := Bool) (τ := Unit) (fun s => R_ValueRead_j3 m t44 s) (fun s t => [(2, .pointer (some ⟨b4, 0, none⟩)), (4, .slice (cutA p.1 (Int.toNat 1) p.2 1) t44.length (p.2 - Int.toNat 1)), (7, .bool (decide (0 < m))), (49, .int .i64 m), (75, .bool s)]) (fun s t => [poolC noH noH, cellsC b4 [.int .i64 m, str [], .slice none 0 0, .slice none 0 0, .slice none 0 0] 26, rowV 9 1 (.slice p.1 t28.length p.2) t28.length (t28.map e_string)]) (fun s t => True) ?_ ?_
    ·refine c_seq ?_
     refine c_region ?_
     refine l_val rfl rfl rfl (r_eql rfl rfl) ?_
     refine l_val rfl rfl rfl (r_assign (v := .bool (decide (m = 2))) rfl) ?_
     refine l_nil ?_
     refine c_if (b := (decide (m = 2))) rfl (fun hb => ?_) (fun hb => ?_)
     ·have H113 := cnd_t hb H66; clear H66
      refine c_skip ?_
      refine c_close (decide (m = 2)) () 0 [0, 1, 2] (by exact ⟨rfl, rfl, rfl, rfl, rfl, trivial⟩) (by decide) rfl (by exact ⟨H113, trivial⟩) (Nat.lt_succ_self _)
     ·have H114 := cnd_f hb H66; clear H66
      refine c_region ?_
      refine l_val rfl rfl rfl (r_eql rfl rfl) ?_
      refine l_val rfl rfl rfl (r_assign (v := .bool (decide (m = 7))) rfl) ?_
      refine l_nil ?_
      refine c_close (decide (m = 7)) () 0 [0, 1, 2] (by exact ⟨rfl, rfl, rfl, rfl, rfl, trivial⟩) (by decide) rfl (by exact ⟨H114, trivial⟩) (Nat.lt_succ_self _)
    ·rintro x75 _ gg H73 _
     replace H73 : R_ValueRead_j3 m t44 x75 = some r := H73
     refine c_tidyF [(2, .pointer (some ⟨b4, 0, none⟩)), (4, .slice (cutA p.1 (Int.toNat 1) p.2 1) t44.length (p.2 - Int.toNat 1)), (7, .bool (decide (0 < m))), (49, .int .i64 m), (75, .bool x75)] [poolC noH noH, cellsC b4 [.int .i64 m, str [], .slice none 0 0, .slice none 0 0, .slice none 0 0] 26, rowV 9 1 (.slice p.1 t28.length p.2) t28.length (t28.map e_string)] rfl rfl ?_
     refine c_if (b := x75) rfl (fun hb => ?_) (fun hb => ?_)
     ·have H74 := cnd_t hb H73; clear H73
      refine c_seq ?_
      refine c_region ?_
      refine l_val rfl rfl rfl (r_move (v := .slice (cutA p.1 (Int.toNat 1) p.2 1) t44.length (p.2 - Int.toNat 1)) rfl) ?_
      refine l_val rfl rfl rfl (r_len Tryz.underlying33 rfl) ?_
      refine l_val rfl rfl rfl (r_gtr rfl rfl) ?_
      refine l_nil ?_
      refine c_if (b := (decide (0 < (t44.length : Int)))) rfl (fun hb => ?_) (fun hb => ?_)
      ·have H75 := cnd_t hb H74; clear H74
       refine c_seq ?_
       refine c_region ?_
       refine l_val rfl rfl rfl (r_assign (v := .bool false) rfl) ?_
       refine l_nil ?_
       refine c_seq ?_
       refine c_region ?_
       refine l_val rfl rfl rfl (r_move (v := .slice (cutA p.1 (Int.toNat 1) p.2 1) t44.length (p.2 - Int.toNat 1)) rfl) ?_
       obtain ⟨t83, h_t83, H76⟩ := bnd_some H75; clear H75
       refine l_read (fun w hF hS => run_indexO Tryz.underlying33 Tryz.sizeOf9 rfl rfl (Row.cutG (rowOf (i := 2) hS rfl) rfl (capOf (i := 2) hS rfl) h_t44) rfl h_t83) rfl rfl rfl ?_
       refine l_read (fun w hF hS => run_loadG1 (f := e_string) (i := 0) (sz := 1) (j := 0) (v := str t83) Tryz.isAgg9 rfl rfl (Row.cutG (rowOf (i := 2) hS rfl) rfl (capOf (i := 2) hS rfl) h_t44) h_t83 rfl) rfl rfl rfl ?_
       obtain ⟨t85, h_t85, H77⟩ := bnd_some H76; clear H76
       refine l_call (k28 h_t85) Tryz.call28 rfl rfl rfl ?_
       refine l_val rfl rfl rfl (r_move (v := .tuple #[str t85.1, .bool t85.2]) rfl) ?_
       refine l_val rfl rfl rfl (r_extract (v := str t85.1) rfl rfl) ?_
       refine l_val rfl rfl rfl (r_extract (v := .bool t85.2) rfl rfl) ?_
       refine l_val rfl rfl rfl (r_field Tryz.runUnderlying26 rfl Tryz.sizeOf9 rfl rfl) ?_
       refine l_store (i := 1) (vs := [str t85.1]) (cs' := [.int .i64 m, str t85.1, .slice none 0 0, .slice none 0 0, .slice none 0 0]) Tryz.sizeOf9 rfl rfl rfl rfl rfl rfl rfl rfl rfl ?_
       refine l_val rfl rfl rfl (r_assign (v := .bool t85.2) rfl) ?_
       refine l_nil ?_
       refine c_sel [0, 1, 2] [poolC noH noH, cellsC b4 [.int .i64 m, str t85.1, .slice none 0 0, .slice none 0 0, .slice none 0 0] 26, rowV 9 1 (.slice p.1 t28.length p.2) t28.length (t28.map e_string)] rfl (by decide) ?_
       refine c_region ?_
       refine l_val rfl rfl rfl (r_move (v := .bool t85.2) rfl) ?_
       refine l_val rfl rfl rfl (r_move (v := .bool t85.2) rfl) ?_
       refine split (fun hb => ?_) (fun hb => ?_)
       ·have H78 := cnd_t hb H77; clear H77
        refine l_val rfl rfl rfl (r_move (v := .slice (cutA p.1 (Int.toNat 1) p.2 1) t44.length (p.2 - Int.toNat 1)) rfl) ?_
        refine l_val rfl rfl rfl (r_len Tryz.underlying33 rfl) ?_
        refine l_val rfl rfl rfl (r_eql rfl rfl) ?_
        refine l_val rfl rfl rfl (r_pickT (v := .bool (decide ((t44.length : Int) = 1))) rfl rfl) ?_
        refine l_val rfl rfl rfl (r_move (v := .bool (decide ((t44.length : Int) = 1))) rfl) ?_
        refine split (fun hb => ?_) (fun hb => ?_)
        ·have H79 := cnd_t hb H78; clear H78
         refine l_val rfl rfl rfl (r_move (v := .slice (cutA p.1 (Int.toNat 1) p.2 1) t44.length (p.2 - Int.toNat 1)) rfl) ?_
         obtain ⟨t97, h_t97, H80⟩ := bnd_some H79; clear H79
         refine l_read (fun w hF hS => run_indexO Tryz.underlying33 Tryz.sizeOf9 rfl rfl (Row.cutG (rowOf (i := 2) hS rfl) rfl (capOf (i := 2) hS rfl) h_t44) rfl h_t97) rfl rfl rfl ?_
         refine l_read (fun w hF hS => run_loadG1 (f := e_string) (i := 0) (sz := 1) (j := 0) (v := str t97) Tryz.isAgg9 rfl rfl (Row.cutG (rowOf (i := 2) hS rfl) rfl (capOf (i := 2) hS rfl) h_t44) h_t97 rfl) rfl rfl rfl ?_
         refine l_val rfl rfl rfl (r_neqT rfl rfl) ?_
         refine l_val rfl rfl rfl (r_pickT (v := .bool (decide (t97 ≠ []))) rfl rfl) ?_
         refine l_val rfl rfl rfl (r_assign (v := .bool (decide (t97 ≠ []))) rfl) ?_
         refine l_nil ?_
         refine c_nilRow 3 1 ?_
         refine c_nilRow 42 2 ?_
         refine c_close ((decide (t97 ≠ [])), t85.1, ([] : List Int), ([] : List T_tag_Ratio)) (((none, 0) : Option Addr × Nat), ((none, 0) : Option Addr × Nat)) 0 [0, 1, 3, 4] (by exact ⟨rfl, rfl, trivial⟩) (by decide) rfl (by exact ⟨H80, trivial⟩) (Nat.lt_succ_self _)
        ·have H81 := cnd_f hb H78; clear H78
         refine l_passed rfl rfl rfl ?_
         refine l_passed rfl rfl rfl ?_
         refine l_passed rfl rfl rfl ?_
         refine l_passed rfl rfl rfl ?_
         refine l_val rfl rfl rfl (r_pickF (v := .bool false) rfl rfl) ?_
         refine l_val rfl rfl rfl (r_assign (v := .bool false) rfl) ?_
         refine l_nil ?_
         refine c_nilRow 3 1 ?_
         refine c_nilRow 42 2 ?_
         refine c_close (false, t85.1, ([] : List Int), ([] : List T_tag_Ratio)) (((none, 0) : Option Addr × Nat), ((none, 0) : Option Addr × Nat)) 0 [0, 1, 3, 4] (by exact ⟨rfl, rfl, trivial⟩) (by decide) rfl (by exact ⟨H81, trivial⟩) (Nat.lt_succ_self _)
       ·have H82 := cnd_f hb H77; clear H77
        refine l_passed rfl rfl rfl ?_
        refine l_passed rfl rfl rfl ?_
        refine l_passed rfl rfl rfl ?_
        refine l_val rfl rfl rfl (r_pickF (v := .bool false) rfl rfl) ?_
        refine l_val rfl rfl rfl (r_move (v := .bool false) rfl) ?_
        refine l_passed rfl rfl rfl ?_
        refine l_passed rfl rfl rfl ?_
        refine l_passed rfl rfl rfl ?_
        refine l_passed rfl rfl rfl ?_
        refine l_val rfl rfl rfl (r_pickF (v := .bool false) rfl rfl) ?_
        refine l_val rfl rfl rfl (r_assign (v := .bool false) rfl) ?_
        refine l_nil ?_
        refine c_nilRow 3 1 ?_
        refine c_nilRow 42 2 ?_
        refine c_close (false, t85.1, ([] : List Int), ([] : List T_tag_Ratio)) (((none, 0) : Option Addr × Nat), ((none, 0) : Option Addr × Nat)) 0 [0, 1, 3, 4] (by exact ⟨rfl, rfl, trivial⟩) (by decide) rfl (by exact ⟨H82, trivial⟩) (Nat.lt_succ_self _)
      ·have H83 := cnd_f hb H74; clear H74
       refine c_skip ?_
       refine c_nilRow 3 1 ?_
       refine c_nilRow 42 2 ?_
       refine c_close ((decide (0 < m)), [], ([] : List Int), ([] : List T_tag_Ratio)) (((none, 0) : Option Addr × Nat), ((none, 0) : Option Addr × Nat)) 0 [0, 1, 3, 4] (by exact ⟨rfl, rfl, trivial⟩) (by decide) rfl (by exact ⟨H83, trivial⟩) (Nat.lt_succ_self _)
     ·have H84 := cnd_f hb H73; clear H73
      refine c_seq ?_
      refine c_sel [0, 1, 2] [poolC noH noH, cellsC b4 [.int .i64 m, str [], .slice none 0 0, .slice none 0 0, .slice none 0 0] 26, rowV 9 1 (.slice p.1 t28.length p.2) t28.length (t28.map e_string)] rfl (by decide) ?_
      refine c_region ?_
      refine l_val rfl rfl rfl (r_eql rfl rfl) ?_
      refine l_val rfl rfl rfl (r_assign (v := .bool (decide (m = 5))) rfl) ?_
      refine l_nil ?_
      refine c_if (b := (decide (m = 5))) rfl (fun hb => ?_) (fun hb => ?_)
      ·have H85 := cnd_t hb H84; clear H84
       refine c_seq ?_
       refine c_region ?_
       refine l_val rfl rfl rfl (r_move (v := .slice (cutA p.1 (Int.toNat 1) p.2 1) t44.length (p.2 - Int.toNat 1)) rfl) ?_
       refine l_val rfl rfl rfl (r_len Tryz.underlying33 rfl) ?_
       refine l_val rfl rfl rfl (r_move (v := .int .i64 0) rfl) ?_
       refine l_nil ?_
       refine c_block ?_
       refine c_nilRow 42 2 ?_
       refine c_fix (σ := Bool × Int × (List T_tag_Ratio)) (τ := (Option Addr × Nat)) (fun next4 s => R_ValueRead_l4 m t44 next4 s.1 s.2.1 s.2.2) (fun s t => [(2, .pointer (some ⟨b4, 0, none⟩)), (7, .bool s.1), (103, .slice (cutA p.1 (Int.toNat 1) p.2 1) t44.length (p.2 - Int.toNat 1)), (104, .int .i64 (t44.length : Int)), (105, .int .i64 s.2.1)]) (fun s t => [poolC noH noH, cellsC b4 [.int .i64 m, str [], .slice none 0 0, .slice t.1 s.2.2.length t.2, .slice none 0 0] 26, rowV 9 1 (.slice p.1 t28.length p.2) t28.length (t28.map e_string), rowV 42 2 (.slice t.1 s.2.2.length t.2) s.2.2.length (s.2.2.map e_tag_Ratio)]) (fun s t => True) ((decide (0 < m)), 0, ([] : List T_tag_Ratio)) ((none, 0) : Option Addr × Nat) [0, 1, 2, 3] H85 (by exact trivial) (by exact ⟨rfl, rfl, rfl, rfl, rfl, trivial⟩) (by decide) rfl ?_
       rintro ⟨x7_3, x105_2, l_4⟩ p_4 m4 gg H86 _
       clear H85
       replace H86 : R_ValueRead_l4 m t44 (it (fun next4 s => R_ValueRead_l4 m t44 next4 s.1 s.2.1 s.2.2) m4) x7_3 x105_2 l_4 = some r := H86
       generalize hn4 : it (fun next4 s => R_ValueRead_l4 m t44 next4 s.1 s.2.1 s.2.2) m4 = next4 at H86
       refine c_tidyF [(2, .pointer (some ⟨b4, 0, none⟩)), (7, .bool x7_3), (103, .slice (cutA p.1 (Int.toNat 1) p.2 1) t44.length (p.2 - Int.toNat 1)), (104, .int .i64 (t44.length : Int)), (105, .int .i64 x105_2)] [poolC noH noH, cellsC b4 [.int .i64 m, str [], .slice none 0 0, .slice p_4.1 l_4.length p_4.2, .slice none 0 0] 26, rowV 9 1 (.slice p.1 t28.length p.2) t28.length (t28.map e_string), rowV 42 2 (.slice p_4.1 l_4.length p_4.2) l_4.length (l_4.map e_tag_Ratio)] rfl rfl ?_
       refine c_seq ?_
       refine c_region ?_
       refine l_val rfl rfl rfl (r_lss rfl rfl) ?_
       refine l_nil ?_
       refine c_seq ?_
       refine c_if (b := (decide (x105_2 < (t44.length : Int)))) rfl (fun hb => ?_) (fun hb => ?_)
       ·have H87 := cnd_t hb H86; clear H86
        refine c_skip ?_
        refine c_seq ?_
        refine c_block ?_
        refine c_seq ?_
        refine c_region ?_
        obtain ⟨t107, h_t107, H88⟩ := bnd_some H87; clear H87
        refine l_read (fun w hF hS => run_indexO Tryz.underlying33 Tryz.sizeOf9 rfl rfl (Row.cutG (rowOf (i := 2) hS rfl) rfl (capOf (i := 2) hS rfl) h_t44) rfl h_t107) rfl rfl rfl ?_
        refine l_read (fun w hF hS => run_loadG1 (f := e_string) (i := x105_2) (sz := 1) (j := 0) (v := str t107) Tryz.isAgg9 rfl rfl (Row.cutG (rowOf (i := 2) hS rfl) rfl (capOf (i := 2) hS rfl) h_t44) h_t107 rfl) rfl rfl rfl ?_
        refine l_val rfl rfl rfl (r_assign (v := str t107) rfl) ?_
        refine l_nil ?_
        refine c_seq ?_
        refine c_region ?_
        refine l_val rfl rfl rfl (r_move (v := str t107) rfl) ?_
        obtain ⟨t111, h_t111, H89⟩ := bnd_some H88; clear H88
        refine l_call (k29 h_t111) Tryz.call29 rfl rfl rfl ?_
        refine l_val rfl rfl rfl (r_move (v := .tuple #[str t111.1, str t111.2.1, .bool t111.2.2]) rfl) ?_
        refine l_val rfl rfl rfl (r_extract (v := str t111.1) rfl rfl) ?_
        refine l_val rfl rfl rfl (r_extract (v := str t111.2.1) rfl rfl) ?_
        refine l_val rfl rfl rfl (r_extract (v := .bool t111.2.2) rfl rfl) ?_
        refine l_val rfl rfl rfl (r_assign (v := str t111.1) rfl) ?_
        refine l_val rfl rfl rfl (r_assign (v := str t111.2.1) rfl) ?_
        refine l_val rfl rfl rfl (r_assign (v := .bool t111.2.2) rfl) ?_
        refine l_nil ?_
        refine c_seq ?_
        refine c_region ?_
        refine l_val rfl rfl rfl (r_move (v := str t111.1) rfl) ?_
        obtain ⟨t117, h_t117, H90⟩ := bnd_some H89; clear H89
        refine l_call (k30 h_t117) Tryz.call30 rfl rfl rfl ?_
        refine l_val rfl rfl rfl (r_move (v := .tuple #[.int .i64 t117.1, .bool t117.2]) rfl) ?_
        refine l_val rfl rfl rfl (r_extract (v := .int .i64 t117.1) rfl rfl) ?_
        refine l_val rfl rfl rfl (r_extract (v := .bool t117.2) rfl rfl) ?_
        refine l_val rfl rfl rfl (r_assign (v := .int .i64 t117.1) rfl) ?_
        refine l_val rfl rfl rfl (r_assign (v := .bool t117.2) rfl) ?_
        refine l_nil ?_
        refine c_seq ?_
        refine c_region ?_
        refine l_val rfl rfl rfl (r_move (v := str t111.2.1) rfl) ?_
        obtain ⟨t122, h_t122, H91⟩ := bnd_some H90; clear H90
        refine l_call (k30 h_t122) Tryz.call30 rfl rfl rfl ?_
        refine l_val rfl rfl rfl (r_move (v := .tuple #[.int .i64 t122.1, .bool t122.2]) rfl) ?_
        refine l_val rfl rfl rfl (r_extract (v := .int .i64 t122.1) rfl rfl) ?_
        refine l_val rfl rfl rfl (r_extract (v := .bool t122.2) rfl rfl) ?_
        refine l_val rfl rfl rfl (r_assign (v := .int .i64 t122.1) rfl) ?_
        refine l_val rfl rfl rfl (r_assign (v := .bool t122.2) rfl) ?_
        refine l_nil ?_
        refine c_meet (r := r) (σ := Bool) (τ := Unit) (fun s => R_ValueRead_j5 x105_2 l_4 next4 t117 t122 s) (fun s t => [(2, .pointer (some ⟨b4, 0, none⟩)), (7, .bool s), (14, .int .i64 t117.1), (16, .int .i64 t122.1), (103, .slice (cutA p.1 (Int.toNat 1) p.2 1) t44.length (p.2 - Int.toNat 1)), (104, .int .i64 (t44.length : Int)), (105, .int .i64 x105_2)]) (fun s t => [poolC noH noH, cellsC b4 [.int .i64 m, str [], .slice none 0 0, .slice p_4.1 l_4.length p_4.2, .slice none 0 0] 26, rowV 9 1 (.slice p.1 t28.length p.2) t28.length (t28.map e_string), rowV 42 2 (.slice p_4.1 l_4.length p_4.2) l_4.length (l_4.map e_tag_Ratio)]) (fun s t => True) ?_ ?_
        ·refine c_region ?_
         refine l_val rfl rfl rfl (r_move (v := .bool x7_3) rfl) ?_
         refine l_val rfl rfl rfl (r_move (v := .bool x7_3) rfl) ?_
         refine split (fun hb => ?_) (fun hb => ?_)
         ·have H95 := cnd_t hb H91; clear H91
          refine l_val rfl rfl rfl (r_move (v := .bool t111.2.2) rfl) ?_
          refine l_val rfl rfl rfl (r_pickT (v := .bool t111.2.2) rfl rfl) ?_
          refine l_val rfl rfl rfl (r_move (v := .bool t111.2.2) rfl) ?_
          refine split (fun hb => ?_) (fun hb => ?_)
          ·have H96 := cnd_t hb H95; clear H95
           refine l_val rfl rfl rfl (r_move (v := .bool t117.2) rfl) ?_
           refine l_val rfl rfl rfl (r_pickT (v := .bool t117.2) rfl rfl) ?_
           refine l_val rfl rfl rfl (r_move (v := .bool t117.2) rfl) ?_
           refine split (fun hb => ?_) (fun hb => ?_)
           ·have H97 := cnd_t hb H96; clear H96
            refine l_val rfl rfl rfl (r_move (v := .bool t122.2) rfl) ?_
            refine l_val rfl rfl rfl (r_pickT (v := .bool t122.2) rfl rfl) ?_
            refine l_val rfl rfl rfl (r_assign (v := .bool t122.2) rfl) ?_
            refine l_nil ?_
            refine c_close t122.2 () 0 [0, 1, 2, 3] (by exact ⟨rfl, rfl, rfl, rfl, rfl, rfl, rfl, trivial⟩) (by decide) rfl (by exact ⟨H97, trivial⟩) (Nat.lt_succ_self _)
           ·have H98 := cnd_f hb H96; clear H96
            refine l_passed rfl rfl rfl ?_
            refine l_val rfl rfl rfl (r_pickF (v := .bool false) rfl rfl) ?_
            refine l_val rfl rfl rfl (r_assign (v := .bool false) rfl) ?_
            refine l_nil ?_
            refine c_close false () 0 [0, 1, 2, 3] (by exact ⟨rfl, rfl, rfl, rfl, rfl, rfl, rfl, trivial⟩) (by decide) rfl (by exact ⟨H98, trivial⟩) (Nat.lt_succ_self _)
          ·have H99 := cnd_f hb H95; clear H95
           refine l_passed rfl rfl rfl ?_
           refine l_val rfl rfl rfl (r_pickF (v := .bool false) rfl rfl) ?_
           refine l_val rfl rfl rfl (r_move (v := .bool false) rfl) ?_
           refine l_passed rfl rfl rfl ?_
           refine l_val rfl rfl rfl (r_pickF (v := .bool false) rfl rfl) ?_
           refine l_val rfl rfl rfl (r_assign (v := .bool false) rfl) ?_
           refine l_nil ?_
           refine c_close false () 0 [0, 1, 2, 3] (by exact ⟨rfl, rfl, rfl, rfl, rfl, rfl, rfl, trivial⟩) (by decide) rfl (by exact ⟨H99, trivial⟩) (Nat.lt_succ_self _)
         ·have H100 := cnd_f hb H91; clear H91
          refine l_passed rfl rfl rfl ?_
          refine l_val rfl rfl rfl (r_pickF (v := .bool false) rfl rfl) ?_
          refine l_val rfl rfl rfl (r_move (v := .bool false) rfl) ?_
          refine l_passed rfl rfl rfl ?_
          refine l_val rfl rfl rfl (r_pickF (v := .bool false) rfl rfl) ?_
          refine l_val rfl rfl rfl (r_move (v := .bool false) rfl) ?_
          refine l_passed rfl rfl rfl ?_
          refine l_val rfl rfl rfl (r_pickF (v := .bool false) rfl rfl) ?_
          refine l_val rfl rfl rfl (r_assign (v := .bool false) rfl) ?_
          refine l_nil ?_
          refine c_close false () 0 [0, 1, 2, 3] (by exact ⟨rfl, rfl, rfl, rfl, rfl, rfl, rfl, trivial⟩) (by decide) rfl (by exact ⟨H100, trivial⟩) (Nat.lt_succ_self _)
        ·rintro x7_4 _ gg H92 _
         replace H92 : R_ValueRead_j5 x105_2 l_4 next4 t117 t122 x7_4 = some r := H92
         refine c_tidyF [(2, .pointer (some ⟨b4, 0, none⟩)), (7, .bool x7_4), (14, .int .i64 t117.1), (16, .int .i64 t122.1), (103, .slice (cutA p.1 (Int.toNat 1) p.2 1) t44.length (p.2 - Int.toNat 1)), (104, .int .i64 (t44.length : Int)), (105, .int .i64 x105_2)] [poolC noH noH, cellsC b4 [.int .i64 m, str [], .slice none 0 0, .slice p_4.1 l_4.length p_4.2, .slice none 0 0] 26, rowV 9 1 (.slice p.1 t28.length p.2) t28.length (t28.map e_string), rowV 42 2 (.slice p_4.1 l_4.length p_4.2) l_4.length (l_4.map e_tag_Ratio)] rfl rfl ?_
         refine c_region ?_
         refine l_val rfl rfl rfl (r_field Tryz.runUnderlying26 rfl Tryz.sizeOf23 rfl rfl) ?_
         refine l_load1 (i := 1) (v := .slice p_4.1 l_4.length p_4.2) Tryz.isAgg23 rfl rfl rfl rfl rfl ?_
         refine l_val rfl rfl rfl (r_move (v := .int .i64 t117.1) rfl) ?_
         refine l_val rfl rfl rfl (r_move (v := .int .i64 t122.1) rfl) ?_
         refine l_val rfl rfl rfl (r_build (pl := #[(0, 1), (1, 1)]) (ps := [(0, .int .i64 t117.1), (1, .int .i64 t122.1)]) (cells := #[.int .i64 t117.1, .int .i64 t122.1]) Tryz.zeroValue42 Tryz.runUnderlying42 (fun w => by kernel_rfl) rfl rfl) ?_
         refine l_buildSlice (vs := [.agg #[.int .i64 t117.1, .int .i64 t122.1]]) (cs := [.int .i64 t117.1, .int .i64 t122.1]) Tryz.underlying23 Tryz.sizeOf42 Tryz.zeroValue42 rfl rfl rfl rfl rfl rfl rfl (fun b5 => ?_)
         obtain ⟨l141, h_l141, H93⟩ := bnd_some H92; clear H92
         refine l_turn (turns_appG (i := 3) (hn := rfl) (rds := [4]) (p := p_4) (sz := 2) (by_ := 16) (f := e_tag_Ratio) (ys := l_4) (ls := ([(⟨t117.1, t122.1⟩ : T_tag_Ratio)] : List T_tag_Ratio)) (V := .slice (some ⟨b5, 0, none⟩) 1 1) Tryz.underlying23 (info_of Tryz.typeInfo42) rfl rfl rfl rfl rfl rfl rfl rfl rfl rfl (fun w L' hF hS hi => row_box (i := 4) hS ((hi 4 (by simp)).trans rfl) rfl rfl) (fun _ => rfl) (fun _ => rfl) h_l141) rfl rfl rfl (fun p_5 => ?_)
         refine l_val rfl rfl rfl (r_field Tryz.runUnderlying26 rfl Tryz.sizeOf23 rfl rfl) ?_
         refine l_store (i := 1) (vs := [.slice p_5.1 l141.length p_5.2]) (cs' := [.int .i64 m, str [], .slice none 0 0, .slice p_5.1 l141.length p_5.2, .slice none 0 0]) Tryz.sizeOf23 rfl rfl rfl rfl rfl rfl rfl rfl rfl ?_
         refine l_nil ?_
         refine c_region ?_
         obtain ⟨t143, h_t143, H94⟩ := bnd_some H93; clear H93
         refine l_val rfl rfl rfl (r_addG rfl rfl h_t143) ?_
         refine l_val rfl rfl rfl (r_move (v := .int .i64 t143) rfl) ?_
         refine l_nil ?_
         refine c_close (x7_4, t143, l141) p_5 m4 [0, 1, 2, 3] (by exact ⟨rfl, rfl, rfl, rfl, rfl, trivial⟩) (by decide) rfl (by exact ⟨(by subst hn4; exact H94), trivial⟩) (Nat.lt_succ_self _)
       ·have H101 := cnd_f hb H86; clear H86
        refine c_exit ?_
        refine c_nilRow 3 1 ?_
        refine c_close (x7_3, [], ([] : List Int), l_4) (((none, 0) : Option Addr × Nat), p_4) 0 [0, 1, 4, 3] (by exact ⟨rfl, rfl, trivial⟩) (by decide) rfl (by exact ⟨H101, trivial⟩) (Nat.lt_succ_self _)
      ·have H102 := cnd_f hb H84; clear H84
       refine c_seq ?_
       refine c_region ?_
       refine l_val rfl rfl rfl (r_move (v := .slice (cutA p.1 (Int.toNat 1) p.2 1) t44.length (p.2 - Int.toNat 1)) rfl) ?_
       refine l_val rfl rfl rfl (r_len Tryz.underlying33 rfl) ?_
       refine l_val rfl rfl rfl (r_move (v := .int .i64 0) rfl) ?_
       refine l_nil ?_
       refine c_block ?_
       refine c_nilRow 3 1 ?_
       refine c_fix (σ := Bool × Int × (List Int)) (τ := (Option Addr × Nat)) (fun next6 s => R_ValueRead_l6 m t44 next6 s.1 s.2.1 s.2.2) (fun s t => [(2, .pointer (some ⟨b4, 0, none⟩)), (7, .bool s.1), (50, .slice (cutA p.1 (Int.toNat 1) p.2 1) t44.length (p.2 - Int.toNat 1)), (51, .int .i64 (t44.length : Int)), (52, .int .i64 s.2.1)]) (fun s t => [poolC noH noH, cellsC b4 [.int .i64 m, str [], .slice t.1 s.2.2.length t.2, .slice none 0 0, .slice none 0 0] 26, rowV 9 1 (.slice p.1 t28.length p.2) t28.length (t28.map e_string), rowV 3 1 (.slice t.1 s.2.2.length t.2) s.2.2.length (s.2.2.map e_i64)]) (fun s t => True) ((decide (0 < m)), 0, ([] : List Int)) ((none, 0) : Option Addr × Nat) [0, 1, 2, 3] H102 (by exact trivial) (by exact ⟨rfl, rfl, rfl, rfl, rfl, trivial⟩) (by decide) rfl ?_
       rintro ⟨x7_6, x52_2, l_6⟩ p_6 m6 gg H103 _
       clear H102
       replace H103 : R_ValueRead_l6 m t44 (it (fun next6 s => R_ValueRead_l6 m t44 next6 s.1 s.2.1 s.2.2) m6) x7_6 x52_2 l_6 = some r := H103
       generalize hn6 : it (fun next6 s => R_ValueRead_l6 m t44 next6 s.1 s.2.1 s.2.2) m6 = next6 at H103
       refine c_tidyF [(2, .pointer (some ⟨b4, 0, none⟩)), (7, .bool x7_6), (50, .slice (cutA p.1 (Int.toNat 1) p.2 1) t44.length (p.2 - Int.toNat 1)), (51, .int .i64 (t44.length : Int)), (52, .int .i64 x52_2)] [poolC noH noH, cellsC b4 [.int .i64 m, str [], .slice p_6.1 l_6.length p_6.2, .slice none 0 0, .slice none 0 0] 26, rowV 9 1 (.slice p.1 t28.length p.2) t28.length (t28.map e_string), rowV 3 1 (.slice p_6.1 l_6.length p_6.2) l_6.length (l_6.map e_i64)] rfl rfl ?_
       refine c_seq ?_
       refine c_sel [0, 1, 2, 3] [poolC noH noH, cellsC b4 [.int .i64 m, str [], .slice p_6.1 l_6.length p_6.2, .slice none 0 0, .slice none 0 0] 26, rowV 9 1 (.slice p.1 t28.length p.2) t28.length (t28.map e_string), rowV 3 1 (.slice p_6.1 l_6.length p_6.2) l_6.length (l_6.map e_i64)] rfl (by decide) ?_
       refine c_region ?_
       refine l_val rfl rfl rfl (r_lss rfl rfl) ?_
       refine l_nil ?_
       refine c_seq ?_
       refine c_if (b := (decide (x52_2 < (t44.length : Int)))) rfl (fun hb => ?_) (fun hb => ?_)
       ·have H104 := cnd_t hb H103; clear H103
        refine c_skip ?_
        refine c_seq ?_
        refine c_block ?_
        refine c_seq ?_
        refine c_region ?_
        obtain ⟨t54, h_t54, H105⟩ := bnd_some H104; clear H104
        refine l_read (fun w hF hS => run_indexO Tryz.underlying33 Tryz.sizeOf9 rfl rfl (Row.cutG (rowOf (i := 2) hS rfl) rfl (capOf (i := 2) hS rfl) h_t44) rfl h_t54) rfl rfl rfl ?_
        refine l_read (fun w hF hS => run_loadG1 (f := e_string) (i := x52_2) (sz := 1) (j := 0) (v := str t54) Tryz.isAgg9 rfl rfl (Row.cutG (rowOf (i := 2) hS rfl) rfl (capOf (i := 2) hS rfl) h_t44) h_t54 rfl) rfl rfl rfl ?_
        refine l_val rfl rfl rfl (r_assign (v := str t54) rfl) ?_
        refine l_nil ?_
        refine c_seq ?_
        refine c_region ?_
        refine l_val rfl rfl rfl (r_move (v := str t54) rfl) ?_
        refine l_val rfl rfl rfl (r_field Tryz.runUnderlying26 rfl Tryz.sizeOf3 rfl rfl) ?_
        refine l_load1 (i := 1) (v := .int .i64 m) Tryz.isAgg3 rfl rfl rfl rfl rfl ?_
        refine l_val rfl rfl rfl (r_eql rfl rfl) ?_
        obtain ⟨t61, h_t61, H106⟩ := bnd_some H105; clear H105
        refine l_call (k30 h_t61) Tryz.call30 rfl rfl rfl ?_
        refine l_val rfl rfl rfl (r_move (v := .tuple #[.int .i64 t61.1, .bool t61.2]) rfl) ?_
        refine l_val rfl rfl rfl (r_extract (v := .int .i64 t61.1) rfl rfl) ?_
        refine l_val rfl rfl rfl (r_extract (v := .bool t61.2) rfl rfl) ?_
        refine l_val rfl rfl rfl (r_assign (v := .int .i64 t61.1) rfl) ?_
        refine l_val rfl rfl rfl (r_assign (v := .bool t61.2) rfl) ?_
        refine l_nil ?_
        refine c_meet (r := r) (σ := Bool) (τ := Unit) (fun s => R_ValueRead_j7 x52_2 l_6 next6 t61 s) (fun s t => [(2, .pointer (some ⟨b4, 0, none⟩)), (7, .bool s), (20, .int .i64 t61.1), (50, .slice (cutA p.1 (Int.toNat 1) p.2 1) t44.length (p.2 - Int.toNat 1)), (51, .int .i64 (t44.length : Int)), (52, .int .i64 x52_2)]) (fun s t => [poolC noH noH, cellsC b4 [.int .i64 m, str [], .slice p_6.1 l_6.length p_6.2, .slice none 0 0, .slice none 0 0] 26, rowV 9 1 (.slice p.1 t28.length p.2) t28.length (t28.map e_string), rowV 3 1 (.slice p_6.1 l_6.length p_6.2) l_6.length (l_6.map e_i64)]) (fun s t => True) ?_ ?_
        ·refine c_region ?_
         refine l_val rfl rfl rfl (r_move (v := .bool x7_6) rfl) ?_
         refine l_val rfl rfl rfl (r_move (v := .bool x7_6) rfl) ?_
         refine split (fun hb => ?_) (fun hb => ?_)
         ·have H110 := cnd_t hb H106; clear H106
          refine l_val rfl rfl rfl (r_move (v := .bool t61.2) rfl) ?_
          refine l_val rfl rfl rfl (r_pickT (v := .bool t61.2) rfl rfl) ?_
          refine l_val rfl rfl rfl (r_assign (v := .bool t61.2) rfl) ?_
          refine l_nil ?_
          refine c_close t61.2 () 0 [0, 1, 2, 3] (by exact ⟨rfl, rfl, rfl, rfl, rfl, rfl, trivial⟩) (by decide) rfl (by exact ⟨H110, trivial⟩) (Nat.lt_succ_self _)
         ·have H111 := cnd_f hb H106; clear H106
          refine l_passed rfl rfl rfl ?_
          refine l_val rfl rfl rfl (r_pickF (v := .bool false) rfl rfl) ?_
          refine l_val rfl rfl rfl (r_assign (v := .bool false) rfl) ?_
          refine l_nil ?_
          refine c_close false () 0 [0, 1, 2, 3] (by exact ⟨rfl, rfl, rfl, rfl, rfl, rfl, trivial⟩) (by decide) rfl (by exact ⟨H111, trivial⟩) (Nat.lt_succ_self _)
        ·rintro x7_7 _ gg H107 _
         replace H107 : R_ValueRead_j7 x52_2 l_6 next6 t61 x7_7 = some r := H107
         refine c_tidyF [(2, .pointer (some ⟨b4, 0, none⟩)), (7, .bool x7_7), (20, .int .i64 t61.1), (50, .slice (cutA p.1 (Int.toNat 1) p.2 1) t44.length (p.2 - Int.toNat 1)), (51, .int .i64 (t44.length : Int)), (52, .int .i64 x52_2)] [poolC noH noH, cellsC b4 [.int .i64 m, str [], .slice p_6.1 l_6.length p_6.2, .slice none 0 0, .slice none 0 0] 26, rowV 9 1 (.slice p.1 t28.length p.2) t28.length (t28.map e_string), rowV 3 1 (.slice p_6.1 l_6.length p_6.2) l_6.length (l_6.map e_i64)] rfl rfl ?_
         refine c_region ?_
         refine l_val rfl rfl rfl (r_field Tryz.runUnderlying26 rfl Tryz.sizeOf22 rfl rfl) ?_
         refine l_load1 (i := 1) (v := .slice p_6.1 l_6.length p_6.2) Tryz.isAgg22 rfl rfl rfl rfl rfl ?_
         refine l_val rfl rfl rfl (r_move (v := .int .i64 t61.1) rfl) ?_
         refine l_buildSlice (vs := [.int .i64 t61.1]) (cs := [.int .i64 t61.1]) Tryz.underlying22 Tryz.sizeOf3 Tryz.zeroValue3 rfl rfl rfl rfl rfl rfl rfl (fun b6 => ?_)
         obtain ⟨l72, h_l72, H108⟩ := bnd_some H107; clear H107
         refine l_turn (turns_appG (i := 3) (hn := rfl) (rds := [4]) (p := p_6) (sz := 1) (by_ := 8) (f := e_i64) (ys := l_6) (ls := ([t61.1] : List Int)) (V := .slice (some ⟨b6, 0, none⟩) 1 1) Tryz.underlying22 (info_of Tryz.typeInfo3) rfl rfl rfl rfl rfl rfl rfl rfl rfl rfl (fun w L' hF hS hi => row_box (i := 4) hS ((hi 4 (by simp)).trans rfl) rfl rfl) (fun _ => rfl) (fun _ => rfl) h_l72) rfl rfl rfl (fun p_7 => ?_)
         refine l_val rfl rfl rfl (r_field Tryz.runUnderlying26 rfl Tryz.sizeOf22 rfl rfl) ?_
         refine l_store (i := 1) (vs := [.slice p_7.1 l72.length p_7.2]) (cs' := [.int .i64 m, str [], .slice p_7.1 l72.length p_7.2, .slice none 0 0, .slice none 0 0]) Tryz.sizeOf22 rfl rfl rfl rfl rfl rfl rfl rfl rfl ?_
         refine l_nil ?_
         refine c_region ?_
         obtain ⟨t74, h_t74, H109⟩ := bnd_some H108; clear H108
         refine l_val rfl rfl rfl (r_addG rfl rfl h_t74) ?_
         refine l_val rfl rfl rfl (r_move (v := .int .i64 t74) rfl) ?_
         refine l_nil ?_
         refine c_close (x7_7, t74, l72) p_7 m6 [0, 1, 2, 3] (by exact ⟨rfl, rfl, rfl, rfl, rfl, trivial⟩) (by decide) rfl (by exact ⟨(by subst hn6; exact H109), trivial⟩) (Nat.lt_succ_self _)
       ·have H112 := cnd_f hb H103; clear H103
        refine c_exit ?_
        refine c_nilRow 42 2 ?_
        refine c_close (x7_6, [], l_6, ([] : List T_tag_Ratio)) (p_6, ((none, 0) : Option Addr × Nat)) 0 [0, 1, 3, 4] (by exact ⟨rfl, rfl, trivial⟩) (by decide) rfl (by exact ⟨H112, trivial⟩) (Nat.lt_succ_self _)
   ·rintro ⟨x7, m_2, l, l_2⟩ ⟨p_2, p_3⟩ gg H67 _
    replace H67 : R_ValueRead_j2 m x7 m_2 l l_2 = some r := H67
    refine c_tidyF [(2, .pointer (some ⟨b4, 0, none⟩)), (7, .bool x7)] [poolC noH noH, cellsC b4 [.int .i64 m, str m_2, .slice p_2.1 l.length p_2.2, .slice p_3.1 l_2.length p_3.2, .slice none 0 0] 26, rowV 3 1 (.slice p_2.1 l.length p_2.2) l.length (l.map e_i64), rowV 42 2 (.slice p_3.1 l_2.length p_3.2) l_2.length (l_2.map e_tag_Ratio)] rfl rfl ?_
    refine c_seq ?_
    refine c_seq ?_
    refine c_region ?_
    refine l_val rfl rfl rfl (r_move (v := .bool x7) rfl) ?_
    refine l_val rfl rfl rfl (r_not rfl) ?_
    refine l_nil ?_
    refine c_if (b := (!x7)) rfl (fun hb => ?_) (fun hb => ?_)
    ·have H68 := cnd_t hb H67; clear H67
     refine c_seq ?_
     refine c_region ?_
     refine l_val rfl rfl rfl (r_build (pl := #[(0, 1), (1, 1), (2, 1), (3, 1), (4, 1)]) (ps := []) (cells := #[.int .i64 0, str [], .slice none 0 0, .slice none 0 0, .slice none 0 0]) Tryz.zeroValue26 Tryz.runUnderlying26 (fun w => by kernel_rfl) rfl rfl) ?_
     refine l_store (i := 1) (vs := [.int .i64 0, str [], .slice none 0 0, .slice none 0 0, .slice none 0 0]) (cs' := [.int .i64 0, str [], .slice none 0 0, .slice none 0 0, .slice none 0 0]) Tryz.sizeOf26 rfl rfl rfl rfl rfl rfl rfl rfl rfl ?_
     refine l_val rfl rfl rfl (r_assign (v := .int .i64 8) rfl) ?_
     refine l_nil ?_
     refine c_ret ?_
     refine c_sel [0, 1] [poolC noH noH, cellsC b4 [.int .i64 0, str [], .slice none 0 0, .slice none 0 0, .slice none 0 0] 26] rfl (by decide) ?_
     refine c_nilRow 3 1 ?_
     refine c_nilRow 42 2 ?_
     refine c_nilRow 65 6 ?_
     refine c_sel [0, 1, 2, 3, 4] [poolC noH noH, cellsC b4 [.int .i64 0, str [], .slice none 0 0, .slice none 0 0, .slice none 0 0] 26, rowV 3 1 (.slice ((none, 0) : Option Addr × Nat).1 ([] : List Int).length ((none, 0) : Option Addr × Nat).2) ([] : List Int).length (([] : List Int).map e_i64), rowV 42 2 (.slice ((none, 0) : Option Addr × Nat).1 ([] : List T_tag_Ratio).length ((none, 0) : Option Addr × Nat).2) ([] : List T_tag_Ratio).length (([] : List T_tag_Ratio).map e_tag_Ratio), rowV 65 6 (.slice ((none, 0) : Option Addr × Nat).1 (([] : List (List Value)).length) ((none, 0) : Option Addr × Nat).2) (([] : List (List Value)).length) (([] : List (List Value)).map idC)] rfl (by decide) ?_
     obtain rfl := Option.some.inj H68
     refine c_both 0 4 rfl rfl (by decide) ?_
     refine c_imp 0 rfl (imp_rowD (p := ((none, 0) : Option Addr × Nat)) rfl (AllC.nil (G := g_tag_Entry) (h := noH) (sz := 6))) ?_
     refine c_both 3 0 rfl rfl (by decide) ?_
     refine c_both 2 3 rfl rfl (by decide) ?_
     refine retCt (i := 1) (vs := [.int .i64 0, str [], .slice ((none, 0) : Option Addr × Nat).1 ([] : List Int).length ((none, 0) : Option Addr × Nat).2, .slice ((none, 0) : Option Addr × Nat).1 ([] : List T_tag_Ratio).length ((none, 0) : Option Addr × Nat).2, .slice ((none, 0) : Option Addr × Nat).1 (([] : List (List Value)).length) ((none, 0) : Option Addr × Nat).2]) (v2 := .int .i64 8) Tryz.isAgg26 Tryz.sizeOf26 rfl rfl rfl rfl rfl (finX (((none, 0) : Option Addr × Nat), ((none, 0) : Option Addr × Nat), ((none, 0) : Option Addr × Nat)) (i := 2) rfl (by first | rfl | rw [(show (([] : List (List Value)).length) = ([] : List T_tag_Entry).length from (AllC.nil (G := g_tag_Entry) (h := noH) (sz := 6)).len)]) (by first | exact Imp.refl _ | exact Imp.of (by rw [(show (([] : List (List Value)).length) = ([] : List T_tag_Entry).length from (AllC.nil (G := g_tag_Entry) (h := noH) (sz := 6)).len)])))
    ·have H69 := cnd_f hb H67; clear H67
     refine c_skip ?_
     refine c_seq ?_
     refine c_seq ?_
     refine c_region ?_
     refine l_loadN (i := 1) (vs := [.int .i64 m, str m_2, .slice p_2.1 l.length p_2.2, .slice p_3.1 l_2.length p_3.2, .slice none 0 0]) Tryz.isAgg26 Tryz.sizeOf26 rfl rfl rfl rfl rfl ?_
     obtain ⟨t148, h_t148, H70⟩ := bnd_some H69; clear H69
     refine l_callG (fun w hF hS => k4 (know_all w) (frs_own (i := 2) rfl hS rfl) (frs_own (i := 3) rfl hS rfl) (FrN.nil _ _ _) h_t148) Tryz.call4 rfl rfl rfl ?_
     refine l_val rfl rfl rfl (r_assign (v := .int .i64 t148) rfl) ?_
     refine l_nil ?_
     refine c_seq ?_
     refine c_region ?_
     refine l_val rfl rfl rfl (r_move (v := .int .i64 t148) rfl) ?_
     refine l_val rfl rfl rfl (r_neq rfl rfl) ?_
     refine l_nil ?_
     refine c_if (b := (decide (t148 ≠ 0))) rfl (fun hb => ?_) (fun hb => ?_)
     ·have H71 := cnd_t hb H70; clear H70
      refine c_seq ?_
      refine c_region ?_
      refine l_val rfl rfl rfl (r_build (pl := #[(0, 1), (1, 1), (2, 1), (3, 1), (4, 1)]) (ps := []) (cells := #[.int .i64 0, str [], .slice none 0 0, .slice none 0 0, .slice none 0 0]) Tryz.zeroValue26 Tryz.runUnderlying26 (fun w => by kernel_rfl) rfl rfl) ?_
      refine l_val rfl rfl rfl (r_move (v := .int .i64 t148) rfl) ?_
      refine l_store (i := 1) (vs := [.int .i64 0, str [], .slice none 0 0, .slice none 0 0, .slice none 0 0]) (cs' := [.int .i64 0, str [], .slice none 0 0, .slice none 0 0, .slice none 0 0]) Tryz.sizeOf26 rfl rfl rfl rfl rfl rfl rfl rfl rfl ?_
      refine l_val rfl rfl rfl (r_assign (v := .int .i64 t148) rfl) ?_
      refine l_nil ?_
      refine c_ret ?_
      refine c_sel [0, 1] [poolC noH noH, cellsC b4 [.int .i64 0, str [], .slice none 0 0, .slice none 0 0, .slice none 0 0] 26] rfl (by decide) ?_
      refine c_nilRow 3 1 ?_
      refine c_nilRow 42 2 ?_
      refine c_nilRow 65 6 ?_
      refine c_sel [0, 1, 2, 3, 4] [poolC noH noH, cellsC b4 [.int .i64 0, str [], .slice none 0 0, .slice none 0 0, .slice none 0 0] 26, rowV 3 1 (.slice ((none, 0) : Option Addr × Nat).1 ([] : List Int).length ((none, 0) : Option Addr × Nat).2) ([] : List Int).length (([] : List Int).map e_i64), rowV 42 2 (.slice ((none, 0) : Option Addr × Nat).1 ([] : List T_tag_Ratio).length ((none, 0) : Option Addr × Nat).2) ([] : List T_tag_Ratio).length (([] : List T_tag_Ratio).map e_tag_Ratio), rowV 65 6 (.slice ((none, 0) : Option Addr × Nat).1 (([] : List (List Value)).length) ((none, 0) : Option Addr × Nat).2) (([] : List (List Value)).length) (([] : List (List Value)).map idC)] rfl (by decide) ?_
      obtain rfl := Option.some.inj H71
      refine c_both 0 4 rfl rfl (by decide) ?_
      refine c_imp 0 rfl (imp_rowD (p := ((none, 0) : Option Addr × Nat)) rfl (AllC.nil (G := g_tag_Entry) (h := noH) (sz := 6))) ?_
      refine c_both 3 0 rfl rfl (by decide) ?_
      refine c_both 2 3 rfl rfl (by decide) ?_
      refine retCt (i := 1) (vs := [.int .i64 0, str [], .slice ((none, 0) : Option Addr × Nat).1 ([] : List Int).length ((none, 0) : Option Addr × Nat).2, .slice ((none, 0) : Option Addr × Nat).1 ([] : List T_tag_Ratio).length ((none, 0) : Option Addr × Nat).2, .slice ((none, 0) : Option Addr × Nat).1 (([] : List (List Value)).length) ((none, 0) : Option Addr × Nat).2]) (v2 := .int .i64 t148) Tryz.isAgg26 Tryz.sizeOf26 rfl rfl rfl rfl rfl (finX (((none, 0) : Option Addr × Nat), ((none, 0) : Option Addr × Nat), ((none, 0) : Option Addr × Nat)) (i := 2) rfl (by first | rfl | rw [(show (([] : List (List Value)).length) = ([] : List T_tag_Entry).length from (AllC.nil (G := g_tag_Entry) (h := noH) (sz := 6)).len)]) (by first | exact Imp.refl _ | exact Imp.of (by rw [(show (([] : List (List Value)).length) = ([] : List T_tag_Entry).length from (AllC.nil (G := g_tag_Entry) (h := noH) (sz := 6)).len)])))
     ·have H72 := cnd_f hb H70; clear H70
      refine c_skip ?_
      refine c_seq ?_
      refine c_region ?_
      refine l_loadN (i := 1) (vs := [.int .i64 m, str m_2, .slice p_2.1 l.length p_2.2, .slice p_3.1 l_2.length p_3.2, .slice none 0 0]) Tryz.isAgg26 Tryz.sizeOf26 rfl rfl rfl rfl rfl ?_
      refine l_store (i := 1) (vs := [.int .i64 m, str m_2, .slice p_2.1 l.length p_2.2, .slice p_3.1 l_2.length p_3.2, .slice none 0 0]) (cs' := [.int .i64 m, str m_2, .slice p_2.1 l.length p_2.2, .slice p_3.1 l_2.length p_3.2, .slice none 0 0]) Tryz.sizeOf26 rfl rfl rfl rfl rfl rfl rfl rfl rfl ?_
      refine l_val rfl rfl rfl (r_assign (v := .int .i64 0) rfl) ?_
      refine l_nil ?_
      refine c_ret ?_
      refine c_sel [0, 1, 2, 3] [poolC noH noH, cellsC b4 [.int .i64 m, str m_2, .slice p_2.1 l.length p_2.2, .slice p_3.1 l_2.length p_3.2, .slice none 0 0] 26, rowV 3 1 (.slice p_2.1 l.length p_2.2) l.length (l.map e_i64), rowV 42 2 (.slice p_3.1 l_2.length p_3.2) l_2.length (l_2.map e_tag_Ratio)] rfl (by decide) ?_
      refine c_nilRow 65 6 ?_
      obtain rfl := Option.some.inj H72
      refine c_both 0 4 rfl rfl (by decide) ?_
      refine c_imp 0 rfl (imp_rowD (p := ((none, 0) : Option Addr × Nat)) rfl (AllC.nil (G := g_tag_Entry) (h := noH) (sz := 6))) ?_
      refine c_both 3 0 rfl rfl (by decide) ?_
      refine c_both 2 3 rfl rfl (by decide) ?_
      refine retCt (i := 1) (vs := [.int .i64 m, str m_2, .slice p_2.1 l.length p_2.2, .slice p_3.1 l_2.length p_3.2, .slice ((none, 0) : Option Addr × Nat).1 (([] : List (List Value)).length) ((none, 0) : Option Addr × Nat).2]) (v2 := .int .i64 0) Tryz.isAgg26 Tryz.sizeOf26 rfl rfl rfl rfl rfl (finX (p_2, p_3, ((none, 0) : Option Addr × Nat)) (i := 2) rfl (by first | rfl | rw [(show (([] : List (List Value)).length) = ([] : List T_tag_Entry).length from (AllC.nil (G := g_tag_Entry) (h := noH) (sz := 6)).len)]) (by first | exact Imp.refl _ | exact Imp.of (by rw [(show (([] : List (List Value)).length) = ([] : List T_tag_Entry).length from (AllC.nil (G := g_tag_Entry) (h := noH) (sz := 6)).len)])))
theorem k31 {a0 : (List Int)} {v0 : Value} {a1 : (List Int)} {v1 : Value} {r : Bool} {w : World} {h : Heap} (hw : Know h w noS) (f0 : FrS h 1 v0 (a0.map e_i64)) (f1 : FrS h 1 v1 (a1.map e_i64)) (H : slices_Equal_int a0 a1 = some r) : Does Tryz.prog 31 (List.toArray [v0, v1]) w (fun v w' => v = (.bool r) ∧ Grow w w') := by
 refine enter (n := 26) Tryz.func31 rfl rfl rfl noS [] (Sat.nil _ _) ?_
 refine c_seq ?_
 refine c_region ?_
 refine l_val rfl rfl rfl (r_assign (v := .bool false) rfl) ?_
 refine l_nil ?_
 refine c_seq ?_
 refine c_seq ?_
 refine c_region ?_
 refine l_val rfl rfl rfl (r_move (v := v0) rfl) ?_
 refine l_val rfl rfl rfl (r_lenF Tryz.underlying22 rfl f0 rfl) ?_
 refine l_val rfl rfl rfl (r_move (v := v1) rfl) ?_
 refine l_val rfl rfl rfl (r_lenF Tryz.underlying22 rfl f1 rfl) ?_
 refine l_val rfl rfl rfl (r_neq rfl rfl) ?_
 refine l_nil ?_
 refine c_if (b := (decide ((a0.length : Int) ≠ (a1.length : Int)))) rfl (fun hb => ?_) (fun hb => ?_)
 ·have H11 := cnd_t hb H; clear H
  refine c_seq ?_
  refine c_region ?_
  refine l_val rfl rfl rfl (r_assign (v := .bool false) rfl) ?_
  refine l_nil ?_
  refine c_ret ?_
  obtain rfl := Option.some.inj H11
  refine ret1 (v := .bool false) rfl rfl (fin rfl)
 ·have H12 := cnd_f hb H; clear H
  refine c_skip ?_
  refine c_seq ?_
  refine c_seq ?_
  refine c_region ?_
  refine l_val rfl rfl rfl (r_move (v := v0) rfl) ?_
  refine l_val rfl rfl rfl (r_lenF Tryz.underlying22 rfl f0 rfl) ?_
  refine l_val rfl rfl rfl (r_move (v := .int .i64 0) rfl) ?_
  refine l_nil ?_
  refine c_block ?_
  refine c_fix (σ := Int) (τ := Unit) (fun next1 s => slices_Equal_int_l1 a0 a1 next1 s) (fun s t => [(0, v0), (1, v1), (12, .int .i64 (a0.length : Int)), (13, .int .i64 s)]) (fun s t => []) (fun s t => True) 0 () [] H12 (by exact trivial) (by exact ⟨rfl, rfl, rfl, rfl, trivial⟩) (by decide) rfl ?_
  rintro x13_2 _ m1 gg H13 _
  clear H12
  replace H13 : slices_Equal_int_l1 a0 a1 (it (fun next1 s => slices_Equal_int_l1 a0 a1 next1 s) m1) x13_2 = some r := H13
  generalize hn1 : it (fun next1 s => slices_Equal_int_l1 a0 a1 next1 s) m1 = next1 at H13
  refine c_tidyF [(0, v0), (1, v1), (12, .int .i64 (a0.length : Int)), (13, .int .i64 x13_2)] [] rfl rfl ?_
  refine c_seq ?_
  refine c_region ?_
  refine l_val rfl rfl rfl (r_lss rfl rfl) ?_
  refine l_nil ?_
  refine c_seq ?_
  refine c_if (b := (decide (x13_2 < (a0.length : Int)))) rfl (fun hb => ?_) (fun hb => ?_)
  ·have H14 := cnd_t hb H13; clear H13
   refine c_skip ?_
   refine c_seq ?_
   refine c_block ?_
   refine c_seq ?_
   refine c_region ?_
   refine l_val rfl rfl rfl (r_move (v := .int .i64 x13_2) rfl) ?_
   refine l_val rfl rfl rfl (r_assign (v := .int .i64 x13_2) rfl) ?_
   refine l_nil ?_
   refine c_seq ?_
   exact c_regionD (Kd.p :: Kd.p :: Kd.p :: Kd.d [] _ :: Kd.p :: Kd.p :: Kd.p :: Kd.d [] _ :: Kd.p :: []) 0 mixed (by
    refine d_val rfl rfl (r_move (v := v0) rfl) ?_
    refine d_val rfl rfl (r_move (v := .int .i64 x13_2) rfl) ?_
    have h_t18 := bnd_val H14
    have H15 := bnd_rest H14
    refine d_val rfl rfl (r_indexF Tryz.underlying22 Tryz.sizeOf3 rfl rfl f0 h_t18) ?_
    refine d_read (fun w hF => run_loadG1 (f := e_i64) (i := x13_2) (sz := 1) (j := 0) (v := .int .i64 (val (gAt a0 x13_2))) Tryz.isAgg3 rfl rfl (f0.row (hw.now hF)) h_t18 rfl) rfl rfl ?_
    refine d_val rfl rfl (r_move (v := v1) rfl) ?_
    refine d_val rfl rfl (r_move (v := .int .i64 x13_2) rfl) ?_
    have h_t22 := bnd_val H15
    have H16 := bnd_rest H15
    refine d_val rfl rfl (r_indexF Tryz.underlying22 Tryz.sizeOf3 rfl rfl f1 h_t22) ?_
    refine d_read (fun w hF => run_loadG1 (f := e_i64) (i := x13_2) (sz := 1) (j := 0) (v := .int .i64 (val (gAt a1 x13_2))) Tryz.isAgg3 rfl rfl (f1.row (hw.now hF)) h_t22 rfl) rfl rfl ?_
    refine d_val rfl rfl (r_neq rfl rfl) ?_
    refine d_nil ?_
    refine c_if (b := (decide ((val (gAt a0 x13_2)) ≠ (val (gAt a1 x13_2))))) rfl (fun hb => ?_) (fun hb => ?_)
    ·have H17 := cnd_t hb H16; clear H16
     refine c_seq ?_
     refine c_region ?_
     refine l_val rfl rfl rfl (r_assign (v := .bool false) rfl) ?_
     refine l_nil ?_
     refine c_ret ?_
     obtain rfl := Option.some.inj H17
     refine ret1 (v := .bool false) rfl rfl (fin rfl)
    ·have H18 := cnd_f hb H16; clear H16
     refine c_skip ?_
     refine c_region ?_
     obtain ⟨t25, h_t25, H19⟩ := bnd_some H18; clear H18
     refine l_val rfl rfl rfl (r_addG rfl rfl h_t25) ?_
     refine l_val rfl rfl rfl (r_move (v := .int .i64 t25) rfl) ?_
     refine l_nil ?_
     refine c_close t25 () m1 [] (by exact ⟨rfl, rfl, rfl, rfl, trivial⟩) (by decide) rfl (by exact ⟨(by subst hn1; exact H19), trivial⟩) (Nat.lt_succ_self _)
    ) (by kernel_rfl)
  ·have H20 := cnd_f hb H13; clear H13
   refine c_exit ?_
   refine c_seq ?_
   refine c_region ?_
   refine l_val rfl rfl rfl (r_assign (v := .bool true) rfl) ?_
   refine l_nil ?_
   refine c_ret ?_
   obtain rfl := Option.some.inj H20
   refine ret1 (v := .bool true) rfl rfl (fin rfl)
theorem k32 {a0 : (List T_tag_Ratio)} {v0 : Value} {a1 : (List T_tag_Ratio)} {v1 : Value} {r : Bool} {w : World} {h : Heap} (hw : Know h w noS) (f0 : FrS h 2 v0 (a0.map e_tag_Ratio)) (f1 : FrS h 2 v1 (a1.map e_tag_Ratio)) (H : slices_Equal_tag_Ratio a0 a1 = some r) : Does Tryz.prog 32 (List.toArray [v0, v1]) w (fun v w' => v = (.bool r) ∧ Grow w w') := by
 refine enter (n := 26) Tryz.func32 rfl rfl rfl noS [] (Sat.nil _ _) ?_
 refine c_seq ?_
 refine c_region ?_
 refine l_val rfl rfl rfl (r_assign (v := .bool false) rfl) ?_
 refine l_nil ?_
 refine c_seq ?_
 refine c_seq ?_
 refine c_region ?_
 refine l_val rfl rfl rfl (r_move (v := v0) rfl) ?_
 refine l_val rfl rfl rfl (r_lenF Tryz.underlying23 rfl f0 rfl) ?_
 refine l_val rfl rfl rfl (r_move (v := v1) rfl) ?_
 refine l_val rfl rfl rfl (r_lenF Tryz.underlying23 rfl f1 rfl) ?_
 refine l_val rfl rfl rfl (r_neq rfl rfl) ?_
 refine l_nil ?_
 refine c_if (b := (decide ((a0.length : Int) ≠ (a1.length : Int)))) rfl (fun hb => ?_) (fun hb => ?_)
 ·have H11 := cnd_t hb H; clear H
  refine c_seq ?_
  refine c_region ?_
  refine l_val rfl rfl rfl (r_assign (v := .bool false) rfl) ?_
  refine l_nil ?_
  refine c_ret ?_
  obtain rfl := Option.some.inj H11
  refine ret1 (v := .bool false) rfl rfl (fin rfl)
 ·have H12 := cnd_f hb H; clear H
  refine c_skip ?_
  refine c_seq ?_
  refine c_seq ?_
  refine c_region ?_
  refine l_val rfl rfl rfl (r_move (v := v0) rfl) ?_
  refine l_val rfl rfl rfl (r_lenF Tryz.underlying23 rfl f0 rfl) ?_
  refine l_val rfl rfl rfl (r_move (v := .int .i64 0) rfl) ?_
  refine l_nil ?_
  refine c_block ?_
  refine c_fix (σ := Int) (τ := Unit) (fun next1 s => slices_Equal_tag_Ratio_l1 a0 a1 next1 s) (fun s t => [(0, v0), (1, v1), (12, .int .i64 (a0.length : Int)), (13, .int .i64 s)]) (fun s t => []) (fun s t => True) 0 () [] H12 (by exact trivial) (by exact ⟨rfl, rfl, rfl, rfl, trivial⟩) (by decide) rfl ?_
  rintro x13_2 _ m1 gg H13 _
  clear H12
  replace H13 : slices_Equal_tag_Ratio_l1 a0 a1 (it (fun next1 s => slices_Equal_tag_Ratio_l1 a0 a1 next1 s) m1) x13_2 = some r := H13
  generalize hn1 : it (fun next1 s => slices_Equal_tag_Ratio_l1 a0 a1 next1 s) m1 = next1 at H13
  refine c_tidyF [(0, v0), (1, v1), (12, .int .i64 (a0.length : Int)), (13, .int .i64 x13_2)] [] rfl rfl ?_
  refine c_seq ?_
  refine c_region ?_
  refine l_val rfl rfl rfl (r_lss rfl rfl) ?_
  refine l_nil ?_
  refine c_seq ?_
  refine c_if (b := (decide (x13_2 < (a0.length : Int)))) rfl (fun hb => ?_) (fun hb => ?_)
  ·have H14 := cnd_t hb H13; clear H13
   refine c_skip ?_
   refine c_seq ?_
   refine c_block ?_
   refine c_seq ?_
   refine c_region ?_
   refine l_val rfl rfl rfl (r_move (v := .int .i64 x13_2) rfl) ?_
   refine l_val rfl rfl rfl (r_assign (v := .int .i64 x13_2) rfl) ?_
   refine l_nil ?_
   refine c_seq ?_
   exact c_regionD (Kd.p :: Kd.p :: Kd.p :: Kd.d [] _ :: Kd.p :: Kd.p :: Kd.p :: Kd.d [] _ :: Kd.p :: []) 0 mixed (by
    refine d_val rfl rfl (r_move (v := v0) rfl) ?_
    refine d_val rfl rfl (r_move (v := .int .i64 x13_2) rfl) ?_
    have h_t18 := bnd_val H14
    have H15 := bnd_rest H14
    refine d_val rfl rfl (r_indexF Tryz.underlying23 Tryz.sizeOf42 rfl rfl f0 h_t18) ?_
    refine d_read (fun w hF => run_loadGN (f := e_tag_Ratio) (i := x13_2) (sz := 2) (j := 0) (vs := [.int .i64 (val (gAt a0 x13_2)).Num, .int .i64 (val (gAt a0 x13_2)).Den]) Tryz.isAgg42 Tryz.sizeOf42 rfl rfl (f0.row (hw.now hF)) h_t18 rfl) rfl rfl ?_
    refine d_val rfl rfl (r_move (v := v1) rfl) ?_
    refine d_val rfl rfl (r_move (v := .int .i64 x13_2) rfl) ?_
    have h_t22 := bnd_val H15
    have H16 := bnd_rest H15
    refine d_val rfl rfl (r_indexF Tryz.underlying23 Tryz.sizeOf42 rfl rfl f1 h_t22) ?_
    refine d_read (fun w hF => run_loadGN (f := e_tag_Ratio) (i := x13_2) (sz := 2) (j := 0) (vs := [.int .i64 (val (gAt a1 x13_2)).Num, .int .i64 (val (gAt a1 x13_2)).Den]) Tryz.isAgg42 Tryz.sizeOf42 rfl rfl (f1.row (hw.now hF)) h_t22 rfl) rfl rfl ?_
    refine d_val rfl rfl (r_neqA (xs := #[.int .i64 (val (gAt a0 x13_2)).Num, .int .i64 (val (gAt a0 x13_2)).Den]) (ys := #[.int .i64 (val (gAt a1 x13_2)).Num, .int .i64 (val (gAt a1 x13_2)).Den]) Tryz.eqGuardType42 (fun w => run_eq_tag_Ratio w (val (gAt a0 x13_2)) (val (gAt a1 x13_2))) rfl rfl) ?_
    refine d_nil ?_
    refine c_if (b := (!(eq_tag_Ratio (val (gAt a0 x13_2)) (val (gAt a1 x13_2))))) rfl (fun hb => ?_) (fun hb => ?_)
    ·have H17 := cnd_t hb H16; clear H16
     refine c_seq ?_
     refine c_region ?_
     refine l_val rfl rfl rfl (r_assign (v := .bool false) rfl) ?_
     refine l_nil ?_
     refine c_ret ?_
     obtain rfl := Option.some.inj H17
     refine ret1 (v := .bool false) rfl rfl (fin rfl)
    ·have H18 := cnd_f hb H16; clear H16
     refine c_skip ?_
     refine c_region ?_
     obtain ⟨t25, h_t25, H19⟩ := bnd_some H18; clear H18
     refine l_val rfl rfl rfl (r_addG rfl rfl h_t25) ?_
     refine l_val rfl rfl rfl (r_move (v := .int .i64 t25) rfl) ?_
     refine l_nil ?_
     refine c_close t25 () m1 [] (by exact ⟨rfl, rfl, rfl, rfl, trivial⟩) (by decide) rfl (by exact ⟨(by subst hn1; exact H19), trivial⟩) (Nat.lt_succ_self _)
    ) (by kernel_rfl)
  ·have H20 := cnd_f hb H13; clear H13
   refine c_exit ?_
   refine c_seq ?_
   refine c_region ?_
   refine l_val rfl rfl rfl (r_assign (v := .bool true) rfl) ?_
   refine l_nil ?_
   refine c_ret ?_
   obtain rfl := Option.some.inj H20
   refine ret1 (v := .bool true) rfl rfl (fin rfl)
theorem k59 {a0 : (List T_tag_Entry)} {v0 : Value} {a1 : (List T_tag_Entry)} {v1 : Value} {a2 : (T_tag_Entry → T_tag_Entry → Option (Bool))} {v2 : Value} {r : Bool} {w : World} {h : Heap} (hw : Know h w noS) (f0 : FrN h 6 v0 g_tag_Entry a0) (f1 : FrN h 6 v1 g_tag_Entry a1) (f2 : FnH Tryz.prog h v2 (fnR_func_tag_Entry_tag_Entry_bool a2)) (H : slices_EqualFunc_tag_Entry_tag_Entry_tag_Entry a0 a1 a2 = some r) : Does Tryz.prog 59 (List.toArray [v0, v1, v2]) w (fun v w' => v = (.bool r) ∧ Grow w w') := by
 refine enter (n := 32) Tryz.func59 rfl rfl rfl noS [] (Sat.nil _ _) ?_
 refine c_seq ?_
 refine c_region ?_
 refine l_val rfl rfl rfl (r_assign (v := .bool false) rfl) ?_
 refine l_nil ?_
 refine c_seq ?_
 refine c_seq ?_
 refine c_region ?_
 refine l_val rfl rfl rfl (r_move (v := v0) rfl) ?_
 refine l_val rfl rfl rfl (r_lenFN Tryz.underlying24 rfl f0) ?_
 refine l_val rfl rfl rfl (r_move (v := v1) rfl) ?_
 refine l_val rfl rfl rfl (r_lenFN Tryz.underlying24 rfl f1) ?_
 refine l_val rfl rfl rfl (r_neq rfl rfl) ?_
 refine l_nil ?_
 refine c_if (b := (decide ((a0.length : Int) ≠ (a1.length : Int)))) rfl (fun hb => ?_) (fun hb => ?_)
 ·have H12 := cnd_t hb H; clear H
  refine c_seq ?_
  refine c_region ?_
  refine l_val rfl rfl rfl (r_assign (v := .bool false) rfl) ?_
  refine l_nil ?_
  refine c_ret ?_
  obtain rfl := Option.some.inj H12
  refine ret1 (v := .bool false) rfl rfl (fin rfl)
 ·have H13 := cnd_f hb H; clear H
  refine c_skip ?_
  refine c_seq ?_
  refine c_seq ?_
  refine c_region ?_
  refine l_val rfl rfl rfl (r_move (v := v0) rfl) ?_
  refine l_val rfl rfl rfl (r_lenFN Tryz.underlying24 rfl f0) ?_
  refine l_val rfl rfl rfl (r_move (v := .int .i64 0) rfl) ?_
  refine l_nil ?_
  refine c_block ?_
  refine c_fix (σ := Int) (τ := Unit) (fun next1 s => slices_EqualFunc_tag_Entry_tag_Entry_tag_Entry_l1 a0 a1 a2 next1 s) (fun s t => [(1, v1), (2, v2), (15, v0), (16, .int .i64 (a0.length : Int)), (17, .int .i64 s)]) (fun s t => []) (fun s t => True) 0 () [] H13 (by exact trivial) (by exact ⟨rfl, rfl, rfl, rfl, rfl, trivial⟩) (by decide) rfl ?_
  rintro x17_2 _ m1 gg H14 _
  clear H13
  replace H14 : slices_EqualFunc_tag_Entry_tag_Entry_tag_Entry_l1 a0 a1 a2 (it (fun next1 s => slices_EqualFunc_tag_Entry_tag_Entry_tag_Entry_l1 a0 a1 a2 next1 s) m1) x17_2 = some r := H14
  generalize hn1 : it (fun next1 s => slices_EqualFunc_tag_Entry_tag_Entry_tag_Entry_l1 a0 a1 a2 next1 s) m1 = next1 at H14
  refine c_tidyF [(1, v1), (2, v2), (15, v0), (16, .int .i64 (a0.length : Int)), (17, .int .i64 x17_2)] [] rfl rfl ?_
  refine c_seq ?_
  refine c_region ?_
  refine l_val rfl rfl rfl (r_lss rfl rfl) ?_
  refine l_nil ?_
  refine c_seq ?_
  refine c_if (b := (decide (x17_2 < (a0.length : Int)))) rfl (fun hb => ?_) (fun hb => ?_)
  ·have H15 := cnd_t hb H14; clear H14
   refine c_skip ?_
   refine c_seq ?_
   refine c_block ?_
   refine c_seq ?_
   refine c_region ?_
   refine l_val rfl rfl rfl (r_move (v := .int .i64 x17_2) rfl) ?_
   obtain ⟨t20, h_t20, H16⟩ := bnd_some H15; clear H15
   refine l_val rfl rfl rfl (r_indexF Tryz.underlying24 Tryz.sizeOf65 rfl rfl f0.frs (f0.ix h_t20)) ?_
   refine l_read (fun w hF hS => run_loadGN (f := (elC h v0 6)) (i := x17_2) (sz := 6) (j := 0) (vs := [.int .i64 t20.Tag, .int .i64 t20.Value.Kind, str t20.Value.Text, (elH h v0 6 (Int.toNat x17_2) 3), (elH h v0 6 (Int.toNat x17_2) 4), (elH h v0 6 (Int.toNat x17_2) 5)]) Tryz.isAgg65 Tryz.sizeOf65 rfl rfl (f0.frs.row (hw.now hF)) (f0.ix h_t20) (rd_of (cg_tag_Entry (f0.at h_t20)) rfl)) rfl rfl rfl ?_
   refine l_alloc (cs := [.int .i64 0, .int .i64 0, str [], .slice none 0 0, .slice none 0 0, .slice none 0 0]) Tryz.zeroValue65 rfl rfl rfl (fun b2 => ?_)
   refine l_val rfl rfl rfl (r_assign (v := .int .i64 x17_2) rfl) ?_
   refine l_store (i := 0) (vs := [.int .i64 t20.Tag, .int .i64 t20.Value.Kind, str t20.Value.Text, (elH h v0 6 (Int.toNat x17_2) 3), (elH h v0 6 (Int.toNat x17_2) 4), (elH h v0 6 (Int.toNat x17_2) 5)]) (cs' := [.int .i64 t20.Tag, .int .i64 t20.Value.Kind, str t20.Value.Text, (elH h v0 6 (Int.toNat x17_2) 3), (elH h v0 6 (Int.toNat x17_2) 4), (elH h v0 6 (Int.toNat x17_2) 5)]) Tryz.sizeOf65 rfl rfl rfl rfl rfl rfl (by simp only [List.all_cons, List.all_nil, (show FrN h 6 (elH h v0 6 (Int.toNat x17_2) 5) g_tag_Entry t20.Value.Entries from (g_tag_Value_p4 (g_tag_Entry_p1 (f0.at h_t20)))).one, (show FrS h 1 (elH h v0 6 (Int.toNat x17_2) 3) (t20.Value.Ints.map e_i64) from (g_tag_Value_p2 (g_tag_Entry_p1 (f0.at h_t20)))).one, (show FrS h 2 (elH h v0 6 (Int.toNat x17_2) 4) (t20.Value.Ratios.map e_tag_Ratio) from (g_tag_Value_p3 (g_tag_Entry_p1 (f0.at h_t20)))).one] <;> rfl) rfl rfl ?_
   refine l_nil ?_
   refine c_seq ?_
   refine c_region ?_
   refine l_val rfl rfl rfl (r_move (v := v1) rfl) ?_
   refine l_val rfl rfl rfl (r_move (v := .int .i64 x17_2) rfl) ?_
   obtain ⟨t24, h_t24, H17⟩ := bnd_some H16; clear H16
   refine l_val rfl rfl rfl (r_indexF Tryz.underlying24 Tryz.sizeOf65 rfl rfl f1.frs (f1.ix h_t24)) ?_
   refine l_read (fun w hF hS => run_loadGN (f := (elC h v1 6)) (i := x17_2) (sz := 6) (j := 0) (vs := [.int .i64 t24.Tag, .int .i64 t24.Value.Kind, str t24.Value.Text, (elH h v1 6 (Int.toNat x17_2) 3), (elH h v1 6 (Int.toNat x17_2) 4), (elH h v1 6 (Int.toNat x17_2) 5)]) Tryz.isAgg65 Tryz.sizeOf65 rfl rfl (f1.frs.row (hw.now hF)) (f1.ix h_t24) (rd_of (cg_tag_Entry (f1.at h_t24)) rfl)) rfl rfl rfl ?_
   refine l_alloc (cs := [.int .i64 0, .int .i64 0, str [], .slice none 0 0, .slice none 0 0, .slice none 0 0]) Tryz.zeroValue65 rfl rfl rfl (fun b3 => ?_)
   refine l_store (i := 1) (vs := [.int .i64 t24.Tag, .int .i64 t24.Value.Kind, str t24.Value.Text, (elH h v1 6 (Int.toNat x17_2) 3), (elH h v1 6 (Int.toNat x17_2) 4), (elH h v1 6 (Int.toNat x17_2) 5)]) (cs' := [.int .i64 t24.Tag, .int .i64 t24.Value.Kind, str t24.Value.Text, (elH h v1 6 (Int.toNat x17_2) 3), (elH h v1 6 (Int.toNat x17_2) 4), (elH h v1 6 (Int.toNat x17_2) 5)]) Tryz.sizeOf65 rfl rfl rfl rfl rfl rfl (by simp only [List.all_cons, List.all_nil, (show FrN h 6 (elH h v1 6 (Int.toNat x17_2) 5) g_tag_Entry t24.Value.Entries from (g_tag_Value_p4 (g_tag_Entry_p1 (f1.at h_t24)))).one, (show FrS h 1 (elH h v1 6 (Int.toNat x17_2) 3) (t24.Value.Ints.map e_i64) from (g_tag_Value_p2 (g_tag_Entry_p1 (f1.at h_t24)))).one, (show FrS h 2 (elH h v1 6 (Int.toNat x17_2) 4) (t24.Value.Ratios.map e_tag_Ratio) from (g_tag_Value_p3 (g_tag_Entry_p1 (f1.at h_t24)))).one] <;> rfl) rfl rfl ?_
   refine l_nil ?_
   refine c_seq ?_
   refine c_region ?_
   refine l_val rfl rfl rfl (r_move (v := v2) rfl) ?_
   refine l_loadN (i := 0) (vs := [.int .i64 t20.Tag, .int .i64 t20.Value.Kind, str t20.Value.Text, (elH h v0 6 (Int.toNat x17_2) 3), (elH h v0 6 (Int.toNat x17_2) 4), (elH h v0 6 (Int.toNat x17_2) 5)]) Tryz.isAgg65 Tryz.sizeOf65 rfl rfl rfl rfl rfl ?_
   refine l_loadN (i := 1) (vs := [.int .i64 t24.Tag, .int .i64 t24.Value.Kind, str t24.Value.Text, (elH h v1 6 (Int.toNat x17_2) 3), (elH h v1 6 (Int.toNat x17_2) 4), (elH h v1 6 (Int.toNat x17_2) 5)]) Tryz.isAgg65 Tryz.sizeOf65 rfl rfl rfl rfl rfl ?_
   obtain ⟨t29, h_t29, H18⟩ := bnd_some H17; clear H17
   refine l_callV (R := fnR_func_tag_Entry_tag_Entry_bool a2) (r := .bool t29) (v := v2) (fun w hF hS => ⟨(f2.mono (hw.now hF)), ⟨t20, _, _, _, t24, _, _, _, _, ((show FrS h 1 (elH h v0 6 (Int.toNat x17_2) 3) (t20.Value.Ints.map e_i64) from (g_tag_Value_p2 (g_tag_Entry_p1 (f0.at h_t20)))).mono (hw.now hF)), ((show FrS h 2 (elH h v0 6 (Int.toNat x17_2) 4) (t20.Value.Ratios.map e_tag_Ratio) from (g_tag_Value_p3 (g_tag_Entry_p1 (f0.at h_t20)))).mono (hw.now hF)), ((show FrN h 6 (elH h v0 6 (Int.toNat x17_2) 5) g_tag_Entry t20.Value.Entries from (g_tag_Value_p4 (g_tag_Entry_p1 (f0.at h_t20)))).mono (hw.now hF)), ((show FrS h 1 (elH h v1 6 (Int.toNat x17_2) 3) (t24.Value.Ints.map e_i64) from (g_tag_Value_p2 (g_tag_Entry_p1 (f1.at h_t24)))).mono (hw.now hF)), ((show FrS h 2 (elH h v1 6 (Int.toNat x17_2) 4) (t24.Value.Ratios.map e_tag_Ratio) from (g_tag_Value_p3 (g_tag_Entry_p1 (f1.at h_t24)))).mono (hw.now hF)), ((show FrN h 6 (elH h v1 6 (Int.toNat x17_2) 5) g_tag_Entry t24.Value.Entries from (g_tag_Value_p4 (g_tag_Entry_p1 (f1.at h_t24)))).mono (hw.now hF)), rfl, h_t29, rfl⟩⟩) rfl rfl rfl rfl ?_
   refine l_val rfl rfl rfl (r_not rfl) ?_
   refine l_nil ?_
   refine c_if (b := (!t29)) rfl (fun hb => ?_) (fun hb => ?_)
   ·have H19 := cnd_t hb H18; clear H18
    refine c_seq ?_
    refine c_region ?_
    refine l_val rfl rfl rfl (r_assign (v := .bool false) rfl) ?_
    refine l_nil ?_
    refine c_ret ?_
    obtain rfl := Option.some.inj H19
    refine ret1 (v := .bool false) rfl rfl (fin rfl)
   ·have H20 := cnd_f hb H18; clear H18
    refine c_skip ?_
    refine c_region ?_
    obtain ⟨t31, h_t31, H21⟩ := bnd_some H20; clear H20
    refine l_val rfl rfl rfl (r_addG rfl rfl h_t31) ?_
    refine l_val rfl rfl rfl (r_move (v := .int .i64 t31) rfl) ?_
    refine l_nil ?_
    refine c_close t31 () m1 [] (by exact ⟨rfl, rfl, rfl, rfl, rfl, trivial⟩) (by decide) rfl (by exact ⟨(by subst hn1; exact H21), trivial⟩) (Nat.lt_succ_self _)
  ·have H22 := cnd_f hb H14; clear H14
   refine c_exit ?_
   refine c_seq ?_
   refine c_region ?_
   refine l_val rfl rfl rfl (r_assign (v := .bool true) rfl) ?_
   refine l_nil ?_
   refine c_ret ?_
   obtain rfl := Option.some.inj H22
   refine ret1 (v := .bool true) rfl rfl (fin rfl)
theorem k60 {a0 : T_tag_Entry} {v0_1_2 : Value} {v0_1_3 : Value} {v0_1_4 : Value} {a1 : T_tag_Entry} {v1_1_2 : Value} {v1_1_3 : Value} {v1_1_4 : Value} {r : Bool} {w : World} {h : Heap} (hw : Know h w noS) (f0_1_2 : FrS h 1 v0_1_2 (a0.Value.Ints.map e_i64)) (f0_1_3 : FrS h 2 v0_1_3 (a0.Value.Ratios.map e_tag_Ratio)) (f0_1_4 : FrN h 6 v0_1_4 g_tag_Entry a0.Value.Entries) (f1_1_2 : FrS h 1 v1_1_2 (a1.Value.Ints.map e_i64)) (f1_1_3 : FrS h 2 v1_1_3 (a1.Value.Ratios.map e_tag_Ratio)) (f1_1_4 : FrN h 6 v1_1_4 g_tag_Entry a1.Value.Entries) (H : R_SameDir_1 a0 a1 = some r) : Does Tryz.prog 60 (List.toArray [.agg #[.int .i64 a0.Tag, .int .i64 a0.Value.Kind, str a0.Value.Text, v0_1_2, v0_1_3, v0_1_4], .agg #[.int .i64 a1.Tag, .int .i64 a1.Value.Kind, str a1.Value.Text, v1_1_2, v1_1_3, v1_1_4]]) w (fun v w' => v = (.bool r) ∧ Grow w w') := by
 refine enter (n := 17) Tryz.func60 rfl rfl rfl noS [] (Sat.nil _ _) ?_
 refine c_seq ?_
 refine c_region ?_
 refine l_box (cs := [.int .i64 a0.Tag, .int .i64 a0.Value.Kind, str a0.Value.Text, v0_1_2, v0_1_3, v0_1_4]) rfl rfl rfl rfl (fun b2 => ?_)
 refine l_box (cs := [.int .i64 a1.Tag, .int .i64 a1.Value.Kind, str a1.Value.Text, v1_1_2, v1_1_3, v1_1_4]) rfl rfl rfl rfl (fun b3 => ?_)
 refine l_val rfl rfl rfl (r_assign (v := .bool false) rfl) ?_
 refine l_nil ?_
 refine c_seq ?_
 refine c_region ?_
 refine l_val rfl rfl rfl (r_field Tryz.runUnderlying65 rfl Tryz.sizeOf3 rfl rfl) ?_
 refine l_load1 (i := 0) (v := .int .i64 a0.Tag) Tryz.isAgg3 rfl rfl rfl rfl rfl ?_
 refine l_val rfl rfl rfl (r_field Tryz.runUnderlying65 rfl Tryz.sizeOf3 rfl rfl) ?_
 refine l_load1 (i := 1) (v := .int .i64 a1.Tag) Tryz.isAgg3 rfl rfl rfl rfl rfl ?_
 refine l_val rfl rfl rfl (r_eql rfl rfl) ?_
 refine l_val rfl rfl rfl (r_move (v := .bool (decide (a0.Tag = a1.Tag))) rfl) ?_
 refine split (fun hb => ?_) (fun hb => ?_)
 ·have H3 := cnd_t hb H; clear H
  exact absurd (show (none : Option (Bool)) = some r from H3) (fun h => by cases h)
 ·have H4 := cnd_f hb H; clear H
  refine l_passed rfl rfl rfl ?_
  refine l_passed rfl rfl rfl ?_
  refine l_passed rfl rfl rfl ?_
  refine l_passed rfl rfl rfl ?_
  refine l_passed rfl rfl rfl ?_
  refine l_val rfl rfl rfl (r_pickF (v := .bool false) rfl rfl) ?_
  refine l_val rfl rfl rfl (r_assign (v := .bool false) rfl) ?_
  refine l_nil ?_
  refine c_ret ?_
  obtain rfl := Option.some.inj H4
  refine ret1 (v := .bool false) rfl rfl (fin rfl)
theorem k33 {a0 : (List T_tag_Entry)} {v0 : Value} {a1 : (List T_tag_Entry)} {v1 : Value} {r : Bool} {w : World} {h : Heap} (hw : Know h w noS) (f0 : FrN h 6 v0 g_tag_Entry a0) (f1 : FrN h 6 v1 g_tag_Entry a1) (H : R_SameDir a0 a1 = some r) : Does Tryz.prog 33 (List.toArray [v0, v1]) w (fun v w' => v = (.bool r) ∧ Grow w w') := by
 refine enter (n := 8) Tryz.func33 rfl rfl rfl noS [] (Sat.nil _ _) ?_
 refine c_seq ?_
 refine c_region ?_
 refine l_val rfl rfl rfl (r_assign (v := .bool false) rfl) ?_
 refine l_nil ?_
 refine c_seq ?_
 refine c_region ?_
 refine l_val rfl rfl rfl (r_move (v := v0) rfl) ?_
 refine l_val rfl rfl rfl (r_move (v := v1) rfl) ?_
 obtain ⟨t7, h_t7, H2⟩ := bnd_some H; clear H
 refine l_callG (fun w hF hS => k59 (know_all w) (f0.mono (hw.now hF)) (f1.mono (hw.now hF)) (FnH.mk ⟨60, #[], #[], rfl, Tryz.call60, fun args2 post2 w2 hk2 hR2 => by obtain ⟨a0_, v0_1_2_, v0_1_3_, v0_1_4_, a1_, v1_1_2_, v1_1_3_, v1_1_4_, r_, fa0_1_2_, fa0_1_3_, fa0_1_4_, fa1_1_2_, fa1_1_3_, fa1_1_4_, rfl, H_, rfl⟩ := hR2; exact k60 (know_all w2) fa0_1_2_ fa0_1_3_ fa0_1_4_ fa1_1_2_ fa1_1_3_ fa1_1_4_ H_⟩) h_t7) Tryz.call59 rfl rfl rfl ?_
 refine l_val rfl rfl rfl (r_assign (v := .bool t7) rfl) ?_
 refine l_nil ?_
 refine c_ret ?_
 obtain rfl := Option.some.inj H2
 refine ret1 (v := .bool t7) rfl rfl (fin rfl)
theorem k11 {a0 : T_tag_Value} {v0_2 : Value} {v0_3 : Value} {v0_4 : Value} {a1 : T_tag_Value} {v1_2 : Value} {v1_3 : Value} {v1_4 : Value} {r : Bool} {w : World} {h : Heap} (hw : Know h w noS) (f0_2 : FrS h 1 v0_2 (a0.Ints.map e_i64)) (f0_3 : FrS h 2 v0_3 (a0.Ratios.map e_tag_Ratio)) (f0_4 : FrN h 6 v0_4 g_tag_Entry a0.Entries) (f1_2 : FrS h 1 v1_2 (a1.Ints.map e_i64)) (f1_3 : FrS h 2 v1_3 (a1.Ratios.map e_tag_Ratio)) (f1_4 : FrN h 6 v1_4 g_tag_Entry a1.Entries) (H : R_SameValue a0 a1 = some r) : Does Tryz.prog 11 (List.toArray [.agg #[.int .i64 a0.Kind, str a0.Text, v0_2, v0_3, v0_4], .agg #[.int .i64 a1.Kind, str a1.Text, v1_2, v1_3, v1_4]]) w (fun v w' => v = (.bool r) ∧ Grow w w') := by
 refine enter (n := 38) Tryz.func11 rfl rfl rfl noS [] (Sat.nil _ _) ?_
 refine c_seq ?_
 refine c_region ?_
 refine l_box (cs := [.int .i64 a0.Kind, str a0.Text, v0_2, v0_3, v0_4]) rfl rfl rfl rfl (fun b2 => ?_)
 refine l_box (cs := [.int .i64 a1.Kind, str a1.Text, v1_2, v1_3, v1_4]) rfl rfl rfl rfl (fun b3 => ?_)
 refine l_val rfl rfl rfl (r_assign (v := .bool false) rfl) ?_
 refine l_nil ?_
 refine c_seq ?_
 refine c_region ?_
 refine l_val rfl rfl rfl (r_field Tryz.runUnderlying26 rfl Tryz.sizeOf3 rfl rfl) ?_
 refine l_load1 (i := 0) (v := .int .i64 a0.Kind) Tryz.isAgg3 rfl rfl rfl rfl rfl ?_
 refine l_val rfl rfl rfl (r_field Tryz.runUnderlying26 rfl Tryz.sizeOf3 rfl rfl) ?_
 refine l_load1 (i := 1) (v := .int .i64 a1.Kind) Tryz.isAgg3 rfl rfl rfl rfl rfl ?_
 refine l_val rfl rfl rfl (r_eql rfl rfl) ?_
 refine l_val rfl rfl rfl (r_move (v := .bool (decide (a0.Kind = a1.Kind))) rfl) ?_
 refine split (fun hb => ?_) (fun hb => ?_)
 ·have H12 := cnd_t hb H; clear H
  refine l_val rfl rfl rfl (r_field Tryz.runUnderlying26 rfl Tryz.sizeOf9 rfl rfl) ?_
  refine l_load1 (i := 0) (v := str a0.Text) Tryz.isAgg9 rfl rfl rfl rfl rfl ?_
  refine l_val rfl rfl rfl (r_field Tryz.runUnderlying26 rfl Tryz.sizeOf9 rfl rfl) ?_
  refine l_load1 (i := 1) (v := str a1.Text) Tryz.isAgg9 rfl rfl rfl rfl rfl ?_
  refine l_val rfl rfl rfl (r_eqlT rfl rfl) ?_
  refine l_val rfl rfl rfl (r_pickT (v := .bool (decide (a0.Text = a1.Text))) rfl rfl) ?_
  refine l_val rfl rfl rfl (r_move (v := .bool (decide (a0.Text = a1.Text))) rfl) ?_
  refine split (fun hb => ?_) (fun hb => ?_)
  ·have H13 := cnd_t hb H12; clear H12
   refine l_val rfl rfl rfl (r_field Tryz.runUnderlying26 rfl Tryz.sizeOf22 rfl rfl) ?_
   refine l_load1 (i := 0) (v := v0_2) Tryz.isAgg22 rfl rfl rfl rfl rfl ?_
   refine l_val rfl rfl rfl (r_field Tryz.runUnderlying26 rfl Tryz.sizeOf22 rfl rfl) ?_
   refine l_load1 (i := 1) (v := v1_2) Tryz.isAgg22 rfl rfl rfl rfl rfl ?_
   obtain ⟨t22, h_t22, H14⟩ := bnd_some H13; clear H13
   refine l_callG (fun w hF hS => k31 (know_all w) (f0_2.mono (hw.now hF)) (f1_2.mono (hw.now hF)) h_t22) Tryz.call31 rfl rfl rfl ?_
   refine l_val rfl rfl rfl (r_pickT (v := .bool t22) rfl rfl) ?_
   refine l_val rfl rfl rfl (r_move (v := .bool t22) rfl) ?_
   refine split (fun hb => ?_) (fun hb => ?_)
   ·have H15 := cnd_t hb H14; clear H14
    refine l_val rfl rfl rfl (r_field Tryz.runUnderlying26 rfl Tryz.sizeOf23 rfl rfl) ?_
    refine l_load1 (i := 0) (v := v0_3) Tryz.isAgg23 rfl rfl rfl rfl rfl ?_
    refine l_val rfl rfl rfl (r_field Tryz.runUnderlying26 rfl Tryz.sizeOf23 rfl rfl) ?_
    refine l_load1 (i := 1) (v := v1_3) Tryz.isAgg23 rfl rfl rfl rfl rfl ?_
    obtain ⟨t29, h_t29, H16⟩ := bnd_some H15; clear H15
    refine l_callG (fun w hF hS => k32 (know_all w) (f0_3.mono (hw.now hF)) (f1_3.mono (hw.now hF)) h_t29) Tryz.call32 rfl rfl rfl ?_
    refine l_val rfl rfl rfl (r_pickT (v := .bool t29) rfl rfl) ?_
    refine l_val rfl rfl rfl (r_move (v := .bool t29) rfl) ?_
    refine split (fun hb => ?_) (fun hb => ?_)
    ·have H17 := cnd_t hb H16; clear H16
     refine l_val rfl rfl rfl (r_field Tryz.runUnderlying26 rfl Tryz.sizeOf24 rfl rfl) ?_
     refine l_load1 (i := 0) (v := v0_4) Tryz.isAgg24 rfl rfl rfl rfl rfl ?_
     refine l_val rfl rfl rfl (r_field Tryz.runUnderlying26 rfl Tryz.sizeOf24 rfl rfl) ?_
     refine l_load1 (i := 1) (v := v1_4) Tryz.isAgg24 rfl rfl rfl rfl rfl ?_
     obtain ⟨t36, h_t36, H18⟩ := bnd_some H17; clear H17
     refine l_callG (fun w hF hS => k33 (know_all w) (f0_4.mono (hw.now hF)) (f1_4.mono (hw.now hF)) h_t36) Tryz.call33 rfl rfl rfl ?_
     refine l_val rfl rfl rfl (r_pickT (v := .bool t36) rfl rfl) ?_
     refine l_val rfl rfl rfl (r_assign (v := .bool t36) rfl) ?_
     refine l_nil ?_
     refine c_ret ?_
     obtain rfl := Option.some.inj H18
     refine ret1 (v := .bool t36) rfl rfl (fin rfl)
    ·have H19 := cnd_f hb H16; clear H16
     refine l_passed rfl rfl rfl ?_
     refine l_passed rfl rfl rfl ?_
     refine l_passed rfl rfl rfl ?_
     refine l_passed rfl rfl rfl ?_
     refine l_passed rfl rfl rfl ?_
     refine l_val rfl rfl rfl (r_pickF (v := .bool false) rfl rfl) ?_
     refine l_val rfl rfl rfl (r_assign (v := .bool false) rfl) ?_
     refine l_nil ?_
     refine c_ret ?_
     obtain rfl := Option.some.inj H19
     refine ret1 (v := .bool false) rfl rfl (fin rfl)
   ·have H20 := cnd_f hb H14; clear H14
    refine l_passed rfl rfl rfl ?_
    refine l_passed rfl rfl rfl ?_
    refine l_passed rfl rfl rfl ?_
    refine l_passed rfl rfl rfl ?_
    refine l_passed rfl rfl rfl ?_
    refine l_val rfl rfl rfl (r_pickF (v := .bool false) rfl rfl) ?_
    refine l_val rfl rfl rfl (r_move (v := .bool false) rfl) ?_
    refine l_passed rfl rfl rfl ?_
    refine l_passed rfl rfl rfl ?_
    refine l_passed rfl rfl rfl ?_
    refine l_passed rfl rfl rfl ?_
    refine l_passed rfl rfl rfl ?_
    refine l_val rfl rfl rfl (r_pickF (v := .bool false) rfl rfl) ?_
    refine l_val rfl rfl rfl (r_assign (v := .bool false) rfl) ?_
    refine l_nil ?_
    refine c_ret ?_
    obtain rfl := Option.some.inj H20
    refine ret1 (v := .bool false) rfl rfl (fin rfl)
  ·have H21 := cnd_f hb H12; clear H12
   refine l_passed rfl rfl rfl ?_
   refine l_passed rfl rfl rfl ?_
   refine l_passed rfl rfl rfl ?_
   refine l_passed rfl rfl rfl ?_
   refine l_passed rfl rfl rfl ?_
   refine l_val rfl rfl rfl (r_pickF (v := .bool false) rfl rfl) ?_
   refine l_val rfl rfl rfl (r_move (v := .bool false) rfl) ?_
   refine l_passed rfl rfl rfl ?_
   refine l_passed rfl rfl rfl ?_
   refine l_passed rfl rfl rfl ?_
   refine l_passed rfl rfl rfl ?_
   refine l_passed rfl rfl rfl ?_
   refine l_val rfl rfl rfl (r_pickF (v := .bool false) rfl rfl) ?_
   refine l_val rfl rfl rfl (r_move (v := .bool false) rfl) ?_
   refine l_passed rfl rfl rfl ?_
   refine l_passed rfl rfl rfl ?_
   refine l_passed rfl rfl rfl ?_
   refine l_passed rfl rfl rfl ?_
   refine l_passed rfl rfl rfl ?_
   refine l_val rfl rfl rfl (r_pickF (v := .bool false) rfl rfl) ?_
   refine l_val rfl rfl rfl (r_assign (v := .bool false) rfl) ?_
   refine l_nil ?_
   refine c_ret ?_
   obtain rfl := Option.some.inj H21
   refine ret1 (v := .bool false) rfl rfl (fin rfl)
 ·have H22 := cnd_f hb H; clear H
  refine l_passed rfl rfl rfl ?_
  refine l_passed rfl rfl rfl ?_
  refine l_passed rfl rfl rfl ?_
  refine l_passed rfl rfl rfl ?_
  refine l_passed rfl rfl rfl ?_
  refine l_val rfl rfl rfl (r_pickF (v := .bool false) rfl rfl) ?_
  refine l_val rfl rfl rfl (r_move (v := .bool false) rfl) ?_
  refine l_passed rfl rfl rfl ?_
  refine l_passed rfl rfl rfl ?_
  refine l_passed rfl rfl rfl ?_
  refine l_passed rfl rfl rfl ?_
  refine l_passed rfl rfl rfl ?_
  refine l_val rfl rfl rfl (r_pickF (v := .bool false) rfl rfl) ?_
  refine l_val rfl rfl rfl (r_move (v := .bool false) rfl) ?_
  refine l_passed rfl rfl rfl ?_
  refine l_passed rfl rfl rfl ?_
  refine l_passed rfl rfl rfl ?_
  refine l_passed rfl rfl rfl ?_
  refine l_passed rfl rfl rfl ?_
  refine l_val rfl rfl rfl (r_pickF (v := .bool false) rfl rfl) ?_
  refine l_val rfl rfl rfl (r_move (v := .bool false) rfl) ?_
  refine l_passed rfl rfl rfl ?_
  refine l_passed rfl rfl rfl ?_
  refine l_passed rfl rfl rfl ?_
  refine l_passed rfl rfl rfl ?_
  refine l_passed rfl rfl rfl ?_
  refine l_val rfl rfl rfl (r_pickF (v := .bool false) rfl rfl) ?_
  refine l_val rfl rfl rfl (r_assign (v := .bool false) rfl) ?_
  refine l_nil ?_
  refine c_ret ?_
  obtain rfl := Option.some.inj H22
  refine ret1 (v := .bool false) rfl rfl (fin rfl)
theorem k3 {a0 : T_tag_Value} {v0_2 : Value} {v0_3 : Value} {v0_4 : Value} {a1 : (List UInt8)} {r : Bool} {w : World} {h : Heap} (hw : Know h w noS) (f0_2 : FrS h 1 v0_2 (a0.Ints.map e_i64)) (f0_3 : FrS h 2 v0_3 (a0.Ratios.map e_tag_Ratio)) (f0_4 : FrN h 6 v0_4 g_tag_Entry a0.Entries) (tb_pow10 : TabH Tryz.prog h "internal/strconv.uint64pow10" .u64 Lib.pow10Tab) (H : Law_TagValues a0 a1 = some r) : Does Tryz.prog 3 (List.toArray [.agg #[.int .i64 a0.Kind, str a0.Text, v0_2, v0_3, v0_4], str a1]) w (fun v w' => v = (.bool r) ∧ Grow w w') := by
 refine enter (n := 74) Tryz.func3 rfl rfl rfl noS [] (Sat.nil _ _) ?_
 refine c_poolNew noH ?_
 refine c_seq ?_
 refine c_region ?_
 refine l_box (cs := [.int .i64 a0.Kind, str a0.Text, v0_2, v0_3, v0_4]) rfl rfl rfl rfl (fun b4 => ?_)
 refine l_val rfl rfl rfl (r_assign (v := .bool false) rfl) ?_
 refine l_nil ?_
 refine c_seq ?_
 refine c_region ?_
 refine l_loadN (i := 1) (vs := [.int .i64 a0.Kind, str a0.Text, v0_2, v0_3, v0_4]) Tryz.isAgg26 Tryz.sizeOf26 rfl rfl rfl rfl rfl ?_
 obtain ⟨t16, h_t16, H32⟩ := bnd_some H; clear H
 refine l_callG (fun w hF hS => k4 (know_all w) (f0_2.mono (hw.now hF)) (f0_3.mono (hw.now hF)) (f0_4.mono (hw.now hF)) h_t16) Tryz.call4 rfl rfl rfl ?_
 refine l_val rfl rfl rfl (r_assign (v := .int .i64 t16) rfl) ?_
 refine l_nil ?_
 refine c_seq ?_
 refine c_seq ?_
 refine c_region ?_
 refine l_loadN (i := 1) (vs := [.int .i64 a0.Kind, str a0.Text, v0_2, v0_3, v0_4]) Tryz.isAgg26 Tryz.sizeOf26 rfl rfl rfl rfl rfl ?_
 obtain ⟨t18, h_t18, H33⟩ := bnd_some H32; clear H32
 refine l_callG (fun w hF hS => k5 (know_all w) (f0_2.mono (hw.now hF)) (f0_3.mono (hw.now hF)) (f0_4.mono (hw.now hF)) h_t18) Tryz.call5 rfl rfl rfl ?_
 refine l_val rfl rfl rfl (r_move (v := .int .i64 t16) rfl) ?_
 refine l_val rfl rfl rfl (r_neq rfl rfl) ?_
 refine l_nil ?_
 refine c_if (b := (decide (t18 ≠ t16))) rfl (fun hb => ?_) (fun hb => ?_)
 ·have H34 := cnd_t hb H33; clear H33
  refine c_seq ?_
  refine c_region ?_
  refine l_val rfl rfl rfl (r_assign (v := .bool false) rfl) ?_
  refine l_nil ?_
  refine c_ret ?_
  obtain rfl := Option.some.inj H34
  refine ret1 (v := .bool false) rfl rfl (fin rfl)
 ·have H35 := cnd_f hb H33; clear H33
  refine c_skip ?_
  refine c_seq ?_
  refine c_region ?_
  refine l_val rfl rfl rfl (r_assign (v := str []) rfl) ?_
  refine l_nil ?_
  refine c_meet (r := r) (σ := Int) (τ := Unit) (fun s => Law_TagValues_j1 a0 a1 s) (fun s t => [(1, str a1), (2, .pointer (some ⟨b4, 0, none⟩)), (5, .int .i64 s), (6, str [])]) (fun s t => [poolC noH noH, cellsC b4 [.int .i64 a0.Kind, str a0.Text, v0_2, v0_3, v0_4] 26]) (fun s t => True) ?_ ?_
  ·refine c_seq ?_
   refine c_region ?_
   refine l_val rfl rfl rfl (r_move (v := .int .i64 t16) rfl) ?_
   refine l_val rfl rfl rfl (r_eql rfl rfl) ?_
   refine l_val rfl rfl rfl (r_move (v := .bool (decide (t16 = 0))) rfl) ?_
   refine split (fun hb => ?_) (fun hb => ?_)
   ·have H59 := cnd_t hb H35; clear H35
    refine l_val rfl rfl rfl (r_field Tryz.runUnderlying26 rfl Tryz.sizeOf3 rfl rfl) ?_
    refine l_load1 (i := 1) (v := .int .i64 a0.Kind) Tryz.isAgg3 rfl rfl rfl rfl rfl ?_
    refine l_val rfl rfl rfl (r_eql rfl rfl) ?_
    refine l_val rfl rfl rfl (r_pickT (v := .bool (decide (a0.Kind = 13))) rfl rfl) ?_
    refine l_nil ?_
    refine c_if (b := (decide (a0.Kind = 13))) rfl (fun hb => ?_) (fun hb => ?_)
    ·have H60 := cnd_t hb H59; clear H59
     refine c_region ?_
     refine l_val rfl rfl rfl (r_assign (v := .int .i64 10) rfl) ?_
     refine l_nil ?_
     refine c_close 10 () 0 [0, 1] (by exact ⟨rfl, rfl, rfl, rfl, trivial⟩) (by decide) rfl (by exact ⟨H60, trivial⟩) (Nat.lt_succ_self _)
    ·have H61 := cnd_f hb H59; clear H59
     refine c_skip ?_
     refine c_close t16 () 0 [0, 1] (by exact ⟨rfl, rfl, rfl, rfl, trivial⟩) (by decide) rfl (by exact ⟨H61, trivial⟩) (Nat.lt_succ_self _)
   ·have H62 := cnd_f hb H35; clear H35
    refine l_passed rfl rfl rfl ?_
    refine l_passed rfl rfl rfl ?_
    refine l_passed rfl rfl rfl ?_
    refine l_val rfl rfl rfl (r_pickF (v := .bool false) rfl rfl) ?_
    refine l_nil ?_
    refine c_false rfl ?_
    refine c_skip ?_
    refine c_close t16 () 0 [0, 1] (by exact ⟨rfl, rfl, rfl, rfl, trivial⟩) (by decide) rfl (by exact ⟨H62, trivial⟩) (Nat.lt_succ_self _)
  ·rintro x5 _ gg H36 _
   replace H36 : Law_TagValues_j1 a0 a1 x5 = some r := H36
   refine c_tidyF [(1, str a1), (2, .pointer (some ⟨b4, 0, none⟩)), (5, .int .i64 x5), (6, str [])] [poolC noH noH, cellsC b4 [.int .i64 a0.Kind, str a0.Text, v0_2, v0_3, v0_4] 26] rfl rfl ?_
   refine c_meet (r := r) (σ := Int × (List UInt8)) (τ := Unit) (fun s => Law_TagValues_j2 a0 a1 s.1 s.2) (fun s t => [(1, str a1), (2, .pointer (some ⟨b4, 0, none⟩)), (5, .int .i64 s.1), (6, str s.2)]) (fun s t => [poolC noH noH, cellsC b4 [.int .i64 a0.Kind, str a0.Text, v0_2, v0_3, v0_4] 26]) (fun s t => True) ?_ ?_
   ·refine c_seq ?_
    refine c_region ?_
    refine l_val rfl rfl rfl (r_move (v := .int .i64 x5) rfl) ?_
    refine l_val rfl rfl rfl (r_eql rfl rfl) ?_
    refine l_nil ?_
    refine c_if (b := (decide (x5 = 0))) rfl (fun hb => ?_) (fun hb => ?_)
    ·have H54 := cnd_t hb H36; clear H36
     refine c_seq ?_
     refine c_region ?_
     refine l_loadN (i := 1) (vs := [.int .i64 a0.Kind, str a0.Text, v0_2, v0_3, v0_4]) Tryz.isAgg26 Tryz.sizeOf26 rfl rfl rfl rfl rfl ?_
     obtain ⟨t31, h_t31, H55⟩ := bnd_some H54; clear H54
     refine l_callG (fun w hF hS => k6 (know_all w) (f0_2.mono (hw.now hF)) (f0_3.mono (hw.now hF)) (f0_4.mono (hw.now hF)) (tb_pow10.mono (hw.now hF)) h_t31) Tryz.call6 rfl rfl rfl ?_
     refine l_val rfl rfl rfl (r_assign (v := str t31) rfl) ?_
     refine l_nil ?_
     refine c_seq ?_
     refine c_region ?_
     refine l_val rfl rfl rfl (r_move (v := str t31) rfl) ?_
     refine l_val rfl rfl rfl (r_lenT Tryz.underlying9 rfl) ?_
     refine l_val rfl rfl rfl (r_gtr rfl rfl) ?_
     refine l_nil ?_
     refine c_if (b := (decide (1000000 < (t31.length : Int)))) rfl (fun hb => ?_) (fun hb => ?_)
     ·have H56 := cnd_t hb H55; clear H55
      refine c_region ?_
      refine l_val rfl rfl rfl (r_assign (v := .int .i64 4) rfl) ?_
      refine l_nil ?_
      refine c_close (4, t31) () 0 [0, 1] (by exact ⟨rfl, rfl, rfl, rfl, trivial⟩) (by decide) rfl (by exact ⟨H56, trivial⟩) (Nat.lt_succ_self _)
     ·have H57 := cnd_f hb H55; clear H55
      refine c_skip ?_
      refine c_close (x5, t31) () 0 [0, 1] (by exact ⟨rfl, rfl, rfl, rfl, trivial⟩) (by decide) rfl (by exact ⟨H57, trivial⟩) (Nat.lt_succ_self _)
    ·have H58 := cnd_f hb H36; clear H36
     refine c_skip ?_
     refine c_close (x5, []) () 0 [0, 1] (by exact ⟨rfl, rfl, rfl, rfl, trivial⟩) (by decide) rfl (by exact ⟨H58, trivial⟩) (Nat.lt_succ_self _)
   ·rintro ⟨x5_2, x6⟩ _ gg H37 _
    replace H37 : Law_TagValues_j2 a0 a1 x5_2 x6 = some r := H37
    refine c_tidyF [(1, str a1), (2, .pointer (some ⟨b4, 0, none⟩)), (5, .int .i64 x5_2), (6, str x6)] [poolC noH noH, cellsC b4 [.int .i64 a0.Kind, str a0.Text, v0_2, v0_3, v0_4] 26] rfl rfl ?_
    refine c_seq ?_
    refine c_region ?_
    refine l_loadN (i := 1) (vs := [.int .i64 a0.Kind, str a0.Text, v0_2, v0_3, v0_4]) Tryz.isAgg26 Tryz.sizeOf26 rfl rfl rfl rfl rfl ?_
    obtain ⟨t37, h_t37, H38⟩ := bnd_some H37; clear H37
    refine l_callG (fun w hF hS => k7 (know_all w) (f0_2.mono (hw.now hF)) (f0_3.mono (hw.now hF)) (f0_4.mono (hw.now hF)) (tb_pow10.mono (hw.now hF)) h_t37) Tryz.call7 rfl rfl rfl ?_
    refine l_val rfl rfl rfl (r_move (v := .tuple #[str t37.1, .int .i64 t37.2]) rfl) ?_
    refine l_val rfl rfl rfl (r_extract (v := str t37.1) rfl rfl) ?_
    refine l_val rfl rfl rfl (r_extract (v := .int .i64 t37.2) rfl rfl) ?_
    refine l_val rfl rfl rfl (r_assign (v := str t37.1) rfl) ?_
    refine l_val rfl rfl rfl (r_assign (v := .int .i64 t37.2) rfl) ?_
    refine l_nil ?_
    refine c_seq ?_
    refine c_seq ?_
    refine c_region ?_
    refine l_val rfl rfl rfl (r_move (v := str t37.1) rfl) ?_
    refine l_val rfl rfl rfl (r_move (v := .int .i64 t37.2) rfl) ?_
    refine l_val rfl rfl rfl (r_move (v := str x6) rfl) ?_
    refine l_val rfl rfl rfl (r_move (v := .int .i64 x5_2) rfl) ?_
    obtain ⟨t44, h_t44, H39⟩ := bnd_some H38; clear H38
    refine l_call (k8 h_t44) Tryz.call8 rfl rfl rfl ?_
    refine l_val rfl rfl rfl (r_not rfl) ?_
    refine l_nil ?_
    refine c_if (b := (!t44)) rfl (fun hb => ?_) (fun hb => ?_)
    ·have H40 := cnd_t hb H39; clear H39
     refine c_seq ?_
     refine c_region ?_
     refine l_val rfl rfl rfl (r_assign (v := .bool false) rfl) ?_
     refine l_nil ?_
     refine c_ret ?_
     obtain rfl := Option.some.inj H40
     refine ret1 (v := .bool false) rfl rfl (fin rfl)
    ·have H41 := cnd_f hb H39; clear H39
     refine c_skip ?_
     refine c_seq ?_
     refine c_seq ?_
     refine c_region ?_
     refine l_val rfl rfl rfl (r_move (v := str a1) rfl) ?_
     refine l_val rfl rfl rfl (r_move (v := str x6) rfl) ?_
     refine l_buildSlice (vs := [str a1, str x6]) (cs := [str a1, str x6]) Tryz.underlying33 Tryz.sizeOf9 Tryz.zeroValue9 rfl rfl rfl rfl rfl rfl rfl (fun b5 => ?_)
     refine l_val rfl rfl rfl (r_len Tryz.underlying33 rfl) ?_
     refine l_val rfl rfl rfl (r_move (v := .int .i64 0) rfl) ?_
     refine l_nil ?_
     refine c_block ?_
     refine c_sel [0, 2] [poolC noH noH, cellsC b5 [str a1, str x6] 9] rfl (by decide) ?_
     refine c_fix (σ := Int) (τ := Heap) (fun next3 s => Law_TagValues_l3 a1 x6 next3 s) (fun s t => [(48, .slice (some ⟨b5, 0, none⟩) 2 2), (49, .int .i64 2), (50, .int .i64 s)]) (fun s t => [poolC noH t, cellsC b5 [str a1, str x6] 9]) (fun s t => True) 0 noH [0, 1] H41 (by exact trivial) (by exact ⟨rfl, rfl, rfl, trivial⟩) (by decide) rfl ?_
     rintro x50_2 hp m3 gg H42 _
     clear H41
     replace H42 : Law_TagValues_l3 a1 x6 (it (fun next3 s => Law_TagValues_l3 a1 x6 next3 s) m3) x50_2 = some r := H42
     generalize hn3 : it (fun next3 s => Law_TagValues_l3 a1 x6 next3 s) m3 = next3 at H42
     refine c_tidyF [(48, .slice (some ⟨b5, 0, none⟩) 2 2), (49, .int .i64 2), (50, .int .i64 x50_2)] [poolC noH hp, cellsC b5 [str a1, str x6] 9] rfl rfl ?_
     refine c_seq ?_
     refine c_region ?_
     refine l_val rfl rfl rfl (r_lss rfl rfl) ?_
     refine l_nil ?_
     refine c_seq ?_
     refine c_if (b := (decide (x50_2 < 2))) rfl (fun hb => ?_) (fun hb => ?_)
     ·have H43 := cnd_t hb H42; clear H42
      refine c_skip ?_
      refine c_seq ?_
      refine c_block ?_
      refine c_seq ?_
      refine c_region ?_
      obtain ⟨t52, h_t52, H44⟩ := bnd_some H43; clear H43
      refine l_val rfl rfl rfl (r_indexS Tryz.underlying33 Tryz.sizeOf9 rfl rfl h_t52 rfl) ?_
      refine l_read (fun w hF hS => run_loadG1 (f := e_string) (i := x50_2) (sz := 1) (j := 0) (v := str t52) Tryz.isAgg9 rfl rfl (row_box (sz := 1) (xs := ([a1, x6] : List (List UInt8)).map e_string) (i := 1) hS rfl rfl rfl) h_t52 rfl) rfl rfl rfl ?_
      refine l_val rfl rfl rfl (r_assign (v := str t52) rfl) ?_
      refine l_nil ?_
      refine c_seq ?_
      refine c_region ?_
      refine l_val rfl rfl rfl (r_move (v := str t52) rfl) ?_
      obtain ⟨t56, h_t56, H45⟩ := bnd_some H44; clear H44
      refine l_make (makes_call (rds := []) (G := fun x : (Option Addr × Nat) × (Option Addr × Nat) × (Option Addr × Nat) => .tuple #[.agg #[.int .i64 t56.1.Kind, str t56.1.Text, .slice x.1.1 t56.1.Ints.length x.1.2, .slice x.2.1.1 t56.1.Ratios.length x.2.1.2, .slice x.2.2.1 t56.1.Entries.length x.2.2.2], .int .i64 t56.2]) (C := fun x : (Option Addr × Nat) × (Option Addr × Nat) × (Option Addr × Nat) => bothC (roV 1 (.slice x.1.1 t56.1.Ints.length x.1.2) t56.1.Ints.length (t56.1.Ints.map e_i64)) (bothC (roV 2 (.slice x.2.1.1 t56.1.Ratios.length x.2.1.2) t56.1.Ratios.length (t56.1.Ratios.map e_tag_Ratio)) (rowD 65 6 g_tag_Entry (.slice x.2.2.1 t56.1.Entries.length x.2.2.2) t56.1.Entries.length t56.1.Entries))) (fun w L' hF hS hi => k9 (know_all w) (tb_pow10.mono (hw.now hF)) h_t56) Tryz.call9 rfl) rfl rfl rfl (fun ⟨p, p_2, p_3⟩ => ?_)
      refine c_split 2 rfl ?_
      refine c_split 3 rfl ?_
      refine c_rowD 4 rfl (fun hp_2 css hn pf => ?_)
      rw [hn]
      refine c_split 4 rfl ?_
      refine c_poolJoin 0 4 rfl rfl (by decide) (fun _ _ => noH_le) (fun hp_3 hle hle_2 => ?_)
      refine l_val rfl rfl rfl (r_move (v := .tuple #[.agg #[.int .i64 t56.1.Kind, str t56.1.Text, .slice p.1 t56.1.Ints.length p.2, .slice p_2.1 t56.1.Ratios.length p_2.2, .slice p_3.1 css.length p_3.2], .int .i64 t56.2]) rfl) ?_
      refine l_val rfl rfl rfl (r_extract (v := .agg #[.int .i64 t56.1.Kind, str t56.1.Text, .slice p.1 t56.1.Ints.length p.2, .slice p_2.1 t56.1.Ratios.length p_2.2, .slice p_3.1 css.length p_3.2]) rfl rfl) ?_
      refine l_val rfl rfl rfl (r_extract (v := .int .i64 t56.2) rfl rfl) ?_
      refine l_alloc (cs := [.int .i64 0, str [], .slice none 0 0, .slice none 0 0, .slice none 0 0]) Tryz.zeroValue26 rfl rfl rfl (fun b6 => ?_)
      refine l_store (i := 6) (vs := [.int .i64 t56.1.Kind, str t56.1.Text, .slice p.1 t56.1.Ints.length p.2, .slice p_2.1 t56.1.Ratios.length p_2.2, .slice p_3.1 css.length p_3.2]) (cs' := [.int .i64 t56.1.Kind, str t56.1.Text, .slice p.1 t56.1.Ints.length p.2, .slice p_2.1 t56.1.Ratios.length p_2.2, .slice p_3.1 css.length p_3.2]) Tryz.sizeOf26 rfl rfl rfl rfl rfl rfl rfl rfl rfl ?_
      refine l_val rfl rfl rfl (r_assign (v := .int .i64 t56.2) rfl) ?_
      refine l_nil ?_
      refine c_seq ?_
      refine c_sel [0, 1, 2, 3, 4, 5, 6] [poolC noH hp_3, cellsC b5 [str a1, str x6] 9, roV 1 (.slice p.1 t56.1.Ints.length p.2) t56.1.Ints.length (t56.1.Ints.map e_i64), roV 2 (.slice p_2.1 t56.1.Ratios.length p_2.2) t56.1.Ratios.length (t56.1.Ratios.map e_tag_Ratio), _, rowV 65 6 (.slice p_3.1 css.length p_3.2) css.length (css.map idC), cellsC b6 [.int .i64 t56.1.Kind, str t56.1.Text, .slice p.1 t56.1.Ints.length p.2, .slice p_2.1 t56.1.Ratios.length p_2.2, .slice p_3.1 css.length p_3.2] 26] rfl (by decide) ?_
      refine c_region ?_
      refine l_val rfl rfl rfl (r_move (v := str t52) rfl) ?_
      obtain ⟨t61, h_t61, H46⟩ := bnd_some H45; clear H45
      refine l_make (makes_call (rds := []) (G := fun x : (Option Addr × Nat) × (Option Addr × Nat) × (Option Addr × Nat) => .tuple #[.agg #[.int .i64 t61.1.Kind, str t61.1.Text, .slice x.1.1 t61.1.Ints.length x.1.2, .slice x.2.1.1 t61.1.Ratios.length x.2.1.2, .slice x.2.2.1 t61.1.Entries.length x.2.2.2], .int .i64 t61.2]) (C := fun x : (Option Addr × Nat) × (Option Addr × Nat) × (Option Addr × Nat) => bothC (rowV 3 1 (.slice x.1.1 t61.1.Ints.length x.1.2) t61.1.Ints.length (t61.1.Ints.map e_i64)) (bothC (rowV 42 2 (.slice x.2.1.1 t61.1.Ratios.length x.2.1.2) t61.1.Ratios.length (t61.1.Ratios.map e_tag_Ratio)) (rowD 65 6 g_tag_Entry (.slice x.2.2.1 t61.1.Entries.length x.2.2.2) t61.1.Entries.length t61.1.Entries))) (fun w L' hF hS hi => k10 (know_all w)  h_t61) Tryz.call10 rfl) rfl rfl rfl (fun ⟨p_4, p_5, p_6⟩ => ?_)
      refine c_split 7 rfl ?_
      refine c_split 8 rfl ?_
      refine c_rowD 9 rfl (fun hp_4 css_2 hn_2 pf_2 => ?_)
      rw [hn_2]
      refine c_split 9 rfl ?_
      refine c_poolJoin 0 9 rfl rfl (by decide) (fun _ _ => noH_le) (fun hp_5 hle_3 hle_4 => ?_)
      refine l_val rfl rfl rfl (r_move (v := .tuple #[.agg #[.int .i64 t61.1.Kind, str t61.1.Text, .slice p_4.1 t61.1.Ints.length p_4.2, .slice p_5.1 t61.1.Ratios.length p_5.2, .slice p_6.1 css_2.length p_6.2], .int .i64 t61.2]) rfl) ?_
      refine l_val rfl rfl rfl (r_extract (v := .agg #[.int .i64 t61.1.Kind, str t61.1.Text, .slice p_4.1 t61.1.Ints.length p_4.2, .slice p_5.1 t61.1.Ratios.length p_5.2, .slice p_6.1 css_2.length p_6.2]) rfl rfl) ?_
      refine l_val rfl rfl rfl (r_extract (v := .int .i64 t61.2) rfl rfl) ?_
      refine l_alloc (cs := [.int .i64 0, str [], .slice none 0 0, .slice none 0 0, .slice none 0 0]) Tryz.zeroValue26 rfl rfl rfl (fun b7 => ?_)
      refine l_store (i := 11) (vs := [.int .i64 t61.1.Kind, str t61.1.Text, .slice p_4.1 t61.1.Ints.length p_4.2, .slice p_5.1 t61.1.Ratios.length p_5.2, .slice p_6.1 css_2.length p_6.2]) (cs' := [.int .i64 t61.1.Kind, str t61.1.Text, .slice p_4.1 t61.1.Ints.length p_4.2, .slice p_5.1 t61.1.Ratios.length p_5.2, .slice p_6.1 css_2.length p_6.2]) Tryz.sizeOf26 rfl rfl rfl rfl rfl rfl rfl rfl rfl ?_
      refine l_val rfl rfl rfl (r_assign (v := .int .i64 t61.2) rfl) ?_
      refine l_nil ?_
      refine c_seq ?_
      refine c_sel [0, 1, 2, 3, 4, 5, 6, 7, 8, 9, 10, 11] [poolC noH hp_5, cellsC b5 [str a1, str x6] 9, roV 1 (.slice p.1 t56.1.Ints.length p.2) t56.1.Ints.length (t56.1.Ints.map e_i64), roV 2 (.slice p_2.1 t56.1.Ratios.length p_2.2) t56.1.Ratios.length (t56.1.Ratios.map e_tag_Ratio), _, rowV 65 6 (.slice p_3.1 css.length p_3.2) css.length (css.map idC), cellsC b6 [.int .i64 t56.1.Kind, str t56.1.Text, .slice p.1 t56.1.Ints.length p.2, .slice p_2.1 t56.1.Ratios.length p_2.2, .slice p_3.1 css.length p_3.2] 26, rowV 3 1 (.slice p_4.1 t61.1.Ints.length p_4.2) t61.1.Ints.length (t61.1.Ints.map e_i64), rowV 42 2 (.slice p_5.1 t61.1.Ratios.length p_5.2) t61.1.Ratios.length (t61.1.Ratios.map e_tag_Ratio), _, rowV 65 6 (.slice p_6.1 css_2.length p_6.2) css_2.length (css_2.map idC), cellsC b7 [.int .i64 t61.1.Kind, str t61.1.Text, .slice p_4.1 t61.1.Ints.length p_4.2, .slice p_5.1 t61.1.Ratios.length p_5.2, .slice p_6.1 css_2.length p_6.2] 26] rfl (by decide) ?_
      refine c_region ?_
      refine l_val rfl rfl rfl (r_move (v := .int .i64 t56.2) rfl) ?_
      refine l_val rfl rfl rfl (r_move (v := .int .i64 t61.2) rfl) ?_
      refine l_val rfl rfl rfl (r_neq rfl rfl) ?_
      refine l_val rfl rfl rfl (r_move (v := .bool (decide (t56.2 ≠ t61.2))) rfl) ?_
      refine split (fun hb => ?_) (fun hb => ?_)
      ·have H47 := cnd_t hb H46; clear H46
       refine l_passed rfl rfl rfl ?_
       refine l_passed rfl rfl rfl ?_
       refine l_passed rfl rfl rfl ?_
       refine l_passed rfl rfl rfl ?_
       refine l_val rfl rfl rfl (r_pickT (v := .bool true) rfl rfl) ?_
       refine l_nil ?_
       refine c_true rfl ?_
       refine c_seq ?_
       refine c_region ?_
       refine l_val rfl rfl rfl (r_assign (v := .bool false) rfl) ?_
       refine l_nil ?_
       refine c_ret ?_
       obtain rfl := Option.some.inj H47
       refine ret1 (v := .bool false) rfl rfl (fin rfl)
      ·have H48 := cnd_f hb H46; clear H46
       refine l_loadN (i := 6) (vs := [.int .i64 t56.1.Kind, str t56.1.Text, .slice p.1 t56.1.Ints.length p.2, .slice p_2.1 t56.1.Ratios.length p_2.2, .slice p_3.1 css.length p_3.2]) Tryz.isAgg26 Tryz.sizeOf26 rfl rfl rfl rfl rfl ?_
       refine l_loadN (i := 11) (vs := [.int .i64 t61.1.Kind, str t61.1.Text, .slice p_4.1 t61.1.Ints.length p_4.2, .slice p_5.1 t61.1.Ratios.length p_5.2, .slice p_6.1 css_2.length p_6.2]) Tryz.isAgg26 Tryz.sizeOf26 rfl rfl rfl rfl rfl ?_
       obtain ⟨t70, h_t70, H49⟩ := bnd_some H48; clear H48
       refine l_callG (fun w hF hS => k11 (know_all w) (frs_rd (i := 2) hS rfl) (frs_rd (i := 3) hS rfl) (frn_of (xs := t56.1.Entries) (frs_own (i := 5) rfl hS rfl) (((pf.mono hle_2).mono hle_3).mono (pool_now (i := 0) hS rfl noH_le))) (frs_own (i := 7) rfl hS rfl) (frs_own (i := 8) rfl hS rfl) (frn_of (xs := t61.1.Entries) (frs_own (i := 10) rfl hS rfl) ((pf_2.mono hle_4).mono (pool_now (i := 0) hS rfl noH_le))) h_t70) Tryz.call11 rfl rfl rfl ?_
       refine l_val rfl rfl rfl (r_not rfl) ?_
       refine l_val rfl rfl rfl (r_pickF (v := .bool (!t70)) rfl rfl) ?_
       refine l_nil ?_
       refine c_if (b := (!t70)) rfl (fun hb => ?_) (fun hb => ?_)
       ·have H50 := cnd_t hb H49; clear H49
        refine c_seq ?_
        refine c_region ?_
        refine l_val rfl rfl rfl (r_assign (v := .bool false) rfl) ?_
        refine l_nil ?_
        refine c_ret ?_
        obtain rfl := Option.some.inj H50
        refine ret1 (v := .bool false) rfl rfl (fin rfl)
       ·have H51 := cnd_f hb H49; clear H49
        refine c_skip ?_
        refine c_region ?_
        obtain ⟨t73, h_t73, H52⟩ := bnd_some H51; clear H51
        refine l_val rfl rfl rfl (r_addG rfl rfl h_t73) ?_
        refine l_val rfl rfl rfl (r_move (v := .int .i64 t73) rfl) ?_
        refine l_nil ?_
        refine c_close t73 hp_5 m3 [0, 1] (by exact ⟨rfl, rfl, rfl, trivial⟩) (by decide) rfl (by exact ⟨(by subst hn3; exact H52), trivial⟩) (Nat.lt_succ_self _)
     ·have H53 := cnd_f hb H42; clear H42
      refine c_exit ?_
      refine c_seq ?_
      refine c_region ?_
      refine l_val rfl rfl rfl (r_assign (v := .bool true) rfl) ?_
      refine l_nil ?_
      refine c_ret ?_
      obtain rfl := Option.some.inj H53
      refine ret1 (v := .bool true) rfl rfl (fin rfl)
end Go.Proofs.YtohdhdiaahiicaaGreatDoor
