/- WherePacks: the walks, printed by our generator; each follows its model. Conditions: the model yields a value. -/
import Derived.Test.YtohdhdiaahiicaaDoorMPk
import Derived.Test.YtohdhdiaahiicaaDoorProg
import Derived.Test.YtohdhdiaahiicaaDoorSrt
import Derived.Test.YtohdhdiaahiicaaDoorLx15
import Derived.Test.YtohdhdiaahiicaaDoorLx19
import Derived.Test.YtohdhdiaahiicaaDoorLx22
import Derived.Test.YtohdhdiaahiicaaDoorLx25
import Derived.Test.YtohdhdiaahiicaaDoorLx20
namespace Go.Proofs.YtohdhdiaahiicaaDoor
open Go Go.Vc Go.Md Go.M Go.Lx
set_option maxRecDepth 100000
set_option maxHeartbeats 4000000
set_option linter.unusedVariables false

theorem mixed : Tryd.prog.follows .mixedOrders = true := by kernel_rfl

abbrev e_api_Place (x : T_api_Place) : List Value := [.int .i64 x.Lat, .int .i64 x.Lon]
abbrev e_u8 (x : Int) : List Value := [.int .u8 x]
abbrev e_i64 (x : Int) : List Value := [.int .i64 x]
abbrev e_string (x : (List UInt8)) : List Value := [str x]


theorem run_eqT34 (d : Nat) (w : World) (a0 b0 : Int) (a1 b1 : Int) : (Op.equalIn (d + 2) 34 (.agg #[.int .i64 a0, .int .i64 a1]) (.agg #[.int .i64 b0, .int .i64 b1])).run Tryd.prog w = .ok (decide (a0 = b0 ∧ a1 = b1)) w := by
  rw [run_equalIn_struct w (d + 1) 34 _ _ (by simp only [Program.fieldsOf, Tryd.underlying34]) Tryd.stoodInHeld34]
  simp only [Program.fieldsOf, Tryd.underlying34, Op.eqFields]
  simp [part, run_equalIn_int, run_equalIn_strL, run_equalIn_bool', Tryd.underlying3]
  repeat' split
  all_goals simp_all

theorem run_eq_api_Place (w : World) (x y : T_api_Place) : (Op.equalIn Op.maxDepth 34 (.agg #[.int .i64 x.Lat, .int .i64 x.Lon]) (.agg #[.int .i64 y.Lat, .int .i64 y.Lon])).run Tryd.prog w = .ok (eq_api_Place x y) w :=
  run_eqT34 9998 w _ _ _ _

theorem k25 {a0 : Int} {a1 : Int} {a2 : Int} {r : Bool} (H : where_outside a0 a1 a2 = some r) : Ret Tryd.prog 25 [.int .i64 a0, .int .i64 a1, .int .i64 a2] (.bool r) := by
 refine enterRet (n := 15) Tryd.func25 rfl rfl rfl (fun wd => ?_)
 refine c_seq ?_
 refine c_region ?_
 refine l_val rfl rfl rfl (r_assign (v := .bool false) rfl) ?_
 refine l_nil ?_
 refine c_seq ?_
 refine c_region ?_
 refine l_val rfl rfl rfl (r_move (v := .int .i64 a0) rfl) ?_
 refine l_val rfl rfl rfl (r_move (v := .int .i64 a1) rfl) ?_
 refine l_val rfl rfl rfl (r_lss rfl rfl) ?_
 refine l_val rfl rfl rfl (r_move (v := .bool (decide (a0 < a1))) rfl) ?_
 refine split (fun hb => ?_) (fun hb => ?_)
 ·have H3 := cnd_t hb H; clear H
  refine l_passed rfl rfl rfl ?_
  refine l_passed rfl rfl rfl ?_
  refine l_passed rfl rfl rfl ?_
  refine l_val rfl rfl rfl (r_pickT (v := .bool true) rfl rfl) ?_
  refine l_val rfl rfl rfl (r_assign (v := .bool true) rfl) ?_
  refine l_nil ?_
  refine c_ret ?_
  obtain rfl := Option.some.inj H3
  refine ret1 (v := .bool true) rfl rfl (fin rfl)
 ·have H4 := cnd_f hb H; clear H
  refine l_val rfl rfl rfl (r_move (v := .int .i64 a0) rfl) ?_
  refine l_val rfl rfl rfl (r_move (v := .int .i64 a2) rfl) ?_
  refine l_val rfl rfl rfl (r_gtr rfl rfl) ?_
  refine l_val rfl rfl rfl (r_pickF (v := .bool (decide (a2 < a0))) rfl rfl) ?_
  refine l_val rfl rfl rfl (r_assign (v := .bool (decide (a2 < a0))) rfl) ?_
  refine l_nil ?_
  refine c_ret ?_
  obtain rfl := Option.some.inj H4
  refine ret1 (v := .bool (decide (a2 < a0))) rfl rfl (fin rfl)
theorem k30 {a0 : Int} {r : Bool} (H : where_isLat a0 = some r) : Ret Tryd.prog 30 [.int .i64 a0] (.bool r) := by
 refine enterRet (n := 6) Tryd.func30 rfl rfl rfl (fun wd => ?_)
 refine c_seq ?_
 refine c_region ?_
 refine l_val rfl rfl rfl (r_assign (v := .bool false) rfl) ?_
 refine l_nil ?_
 refine c_seq ?_
 refine c_region ?_
 refine l_val rfl rfl rfl (r_move (v := .int .i64 a0) rfl) ?_
 obtain ⟨t4, h_t4, H2⟩ := bnd_some H; clear H
 refine l_call (k25 h_t4) Tryd.call25 rfl rfl rfl ?_
 refine l_val rfl rfl rfl (r_not rfl) ?_
 refine l_val rfl rfl rfl (r_assign (v := .bool (!t4)) rfl) ?_
 refine l_nil ?_
 refine c_ret ?_
 obtain rfl := Option.some.inj H2
 refine ret1 (v := .bool (!t4)) rfl rfl (fin rfl)
theorem k31 {a0 : Int} {r : Bool} (H : where_isLon a0 = some r) : Ret Tryd.prog 31 [.int .i64 a0] (.bool r) := by
 refine enterRet (n := 6) Tryd.func31 rfl rfl rfl (fun wd => ?_)
 refine c_seq ?_
 refine c_region ?_
 refine l_val rfl rfl rfl (r_assign (v := .bool false) rfl) ?_
 refine l_nil ?_
 refine c_seq ?_
 refine c_region ?_
 refine l_val rfl rfl rfl (r_move (v := .int .i64 a0) rfl) ?_
 obtain ⟨t4, h_t4, H2⟩ := bnd_some H; clear H
 refine l_call (k25 h_t4) Tryd.call25 rfl rfl rfl ?_
 refine l_val rfl rfl rfl (r_not rfl) ?_
 refine l_val rfl rfl rfl (r_assign (v := .bool (!t4)) rfl) ?_
 refine l_nil ?_
 refine c_ret ?_
 obtain rfl := Option.some.inj H2
 refine ret1 (v := .bool (!t4)) rfl rfl (fin rfl)
theorem k26 {a0 : T_api_Place} {r : Int} (H : where_CheckPlace a0 = some r) : Ret Tryd.prog 26 [.agg #[.int .i64 a0.Lat, .int .i64 a0.Lon]] (.int .i64 r) := by
 refine enterRet (n := 13) Tryd.func26 rfl rfl rfl (fun wd => ?_)
 refine c_seq ?_
 refine c_region ?_
 refine l_box (cs := [.int .i64 a0.Lat, .int .i64 a0.Lon]) rfl rfl rfl rfl (fun b1 => ?_)
 refine l_val rfl rfl rfl (r_assign (v := .int .i64 0) rfl) ?_
 refine l_nil ?_
 refine c_seq ?_
 refine c_seq ?_
 refine c_region ?_
 refine l_val rfl rfl rfl (r_field Tryd.runUnderlying34 rfl Tryd.sizeOf3 rfl rfl) ?_
 refine l_load1 (i := 0) (v := .int .i64 a0.Lat) Tryd.isAgg3 rfl rfl rfl rfl rfl ?_
 obtain ⟨t5, h_t5, H7⟩ := bnd_some H; clear H
 refine l_call (k30 h_t5) Tryd.call30 rfl rfl rfl ?_
 refine l_val rfl rfl rfl (r_not rfl) ?_
 refine l_val rfl rfl rfl (r_move (v := .bool (!t5)) rfl) ?_
 refine split (fun hb => ?_) (fun hb => ?_)
 ·have H8 := cnd_t hb H7; clear H7
  refine l_passed rfl rfl rfl ?_
  refine l_passed rfl rfl rfl ?_
  refine l_passed rfl rfl rfl ?_
  refine l_passed rfl rfl rfl ?_
  refine l_val rfl rfl rfl (r_pickT (v := .bool true) rfl rfl) ?_
  refine l_nil ?_
  refine c_true rfl ?_
  refine c_seq ?_
  refine c_region ?_
  refine l_val rfl rfl rfl (r_assign (v := .int .i64 2) rfl) ?_
  refine l_nil ?_
  refine c_ret ?_
  obtain rfl := Option.some.inj H8
  refine ret1 (v := .int .i64 2) rfl rfl (fin rfl)
 ·have H9 := cnd_f hb H7; clear H7
  refine l_val rfl rfl rfl (r_field Tryd.runUnderlying34 rfl Tryd.sizeOf3 rfl rfl) ?_
  refine l_load1 (i := 0) (v := .int .i64 a0.Lon) Tryd.isAgg3 rfl rfl rfl rfl rfl ?_
  obtain ⟨t10, h_t10, H10⟩ := bnd_some H9; clear H9
  refine l_call (k31 h_t10) Tryd.call31 rfl rfl rfl ?_
  refine l_val rfl rfl rfl (r_not rfl) ?_
  refine l_val rfl rfl rfl (r_pickF (v := .bool (!t10)) rfl rfl) ?_
  refine l_nil ?_
  refine c_if (b := (!t10)) rfl (fun hb => ?_) (fun hb => ?_)
  ·have H11 := cnd_t hb H10; clear H10
   refine c_seq ?_
   refine c_region ?_
   refine l_val rfl rfl rfl (r_assign (v := .int .i64 2) rfl) ?_
   refine l_nil ?_
   refine c_ret ?_
   obtain rfl := Option.some.inj H11
   refine ret1 (v := .int .i64 2) rfl rfl (fin rfl)
  ·have H12 := cnd_f hb H10; clear H10
   refine c_skip ?_
   refine c_seq ?_
   refine c_region ?_
   refine l_val rfl rfl rfl (r_assign (v := .int .i64 0) rfl) ?_
   refine l_nil ?_
   refine c_ret ?_
   obtain rfl := Option.some.inj H12
   refine ret1 (v := .int .i64 0) rfl rfl (fin rfl)
theorem k22 {a0 : (List T_api_Place)} {v0 : Value} {r : Int} {w : World} {h : Heap} (hw : Know h w noS) (f0 : FrS h 2 v0 (a0.map e_api_Place)) (H : where_checkPlaces a0 = some r) : Does Tryd.prog 22 (List.toArray [v0]) w (fun v w' => v = (.int .i64 r) ∧ Grow w w') := by
 refine enter (n := 18) Tryd.func22 rfl rfl rfl noS [] (Sat.nil _ _) ?_
 refine c_seq ?_
 refine c_region ?_
 refine l_val rfl rfl rfl (r_assign (v := .int .i64 0) rfl) ?_
 refine l_nil ?_
 refine c_seq ?_
 refine c_seq ?_
 refine c_region ?_
 refine l_val rfl rfl rfl (r_move (v := v0) rfl) ?_
 refine l_val rfl rfl rfl (r_lenF Tryd.underlying22 rfl f0 rfl) ?_
 refine l_val rfl rfl rfl (r_move (v := .int .i64 0) rfl) ?_
 refine l_nil ?_
 refine c_block ?_
 refine c_fix (σ := Int) (τ := Unit) (fun next1 s => where_checkPlaces_l1 a0 next1 s) (fun s t => [(6, v0), (7, .int .i64 (a0.length : Int)), (8, .int .i64 s)]) (fun s t => []) (fun s t => True) 0 () [] H (by exact trivial) (by exact ⟨rfl, rfl, rfl, trivial⟩) (by decide) rfl ?_
 rintro x8_2 _ m1 gg H9 _
 clear H
 replace H9 : where_checkPlaces_l1 a0 (it (fun next1 s => where_checkPlaces_l1 a0 next1 s) m1) x8_2 = some r := H9
 generalize hn1 : it (fun next1 s => where_checkPlaces_l1 a0 next1 s) m1 = next1 at H9
 refine c_tidyF [(6, v0), (7, .int .i64 (a0.length : Int)), (8, .int .i64 x8_2)] [] rfl rfl ?_
 refine c_seq ?_
 refine c_region ?_
 refine l_val rfl rfl rfl (r_lss rfl rfl) ?_
 refine l_nil ?_
 refine c_seq ?_
 refine c_if (b := (decide (x8_2 < (a0.length : Int)))) rfl (fun hb => ?_) (fun hb => ?_)
 ·have H10 := cnd_t hb H9; clear H9
  refine c_skip ?_
  refine c_seq ?_
  refine c_block ?_
  refine c_seq ?_
  refine c_region ?_
  obtain ⟨t10, h_t10, H11⟩ := bnd_some H10; clear H10
  refine l_val rfl rfl rfl (r_indexF Tryd.underlying22 Tryd.sizeOf34 rfl rfl f0 h_t10) ?_
  refine l_read (fun w hF hS => run_loadGN (f := e_api_Place) (i := x8_2) (sz := 2) (j := 0) (vs := [.int .i64 t10.Lat, .int .i64 t10.Lon]) Tryd.isAgg34 Tryd.sizeOf34 rfl rfl (f0.row (hw.now hF)) h_t10 rfl) rfl rfl rfl ?_
  refine l_alloc (cs := [.int .i64 0, .int .i64 0]) Tryd.zeroValue34 rfl rfl rfl (fun b1 => ?_)
  refine l_store (i := 0) (vs := [.int .i64 t10.Lat, .int .i64 t10.Lon]) (cs' := [.int .i64 t10.Lat, .int .i64 t10.Lon]) Tryd.sizeOf34 rfl rfl rfl rfl rfl rfl rfl rfl rfl ?_
  refine l_nil ?_
  refine c_seq ?_
  refine c_region ?_
  refine l_loadN (i := 0) (vs := [.int .i64 t10.Lat, .int .i64 t10.Lon]) Tryd.isAgg34 Tryd.sizeOf34 rfl rfl rfl rfl rfl ?_
  obtain ⟨t13, h_t13, H12⟩ := bnd_some H11; clear H11
  refine l_call (k26 h_t13) Tryd.call26 rfl rfl rfl ?_
  refine l_val rfl rfl rfl (r_assign (v := .int .i64 t13) rfl) ?_
  refine l_nil ?_
  refine c_seq ?_
  refine c_region ?_
  refine l_val rfl rfl rfl (r_move (v := .int .i64 t13) rfl) ?_
  refine l_val rfl rfl rfl (r_neq rfl rfl) ?_
  refine l_nil ?_
  refine c_if (b := (decide (t13 ≠ 0))) rfl (fun hb => ?_) (fun hb => ?_)
  ·have H13 := cnd_t hb H12; clear H12
   refine c_seq ?_
   refine c_region ?_
   refine l_val rfl rfl rfl (r_move (v := .int .i64 t13) rfl) ?_
   refine l_val rfl rfl rfl (r_assign (v := .int .i64 t13) rfl) ?_
   refine l_nil ?_
   refine c_ret ?_
   obtain rfl := Option.some.inj H13
   refine ret1 (v := .int .i64 t13) rfl rfl (fin rfl)
  ·have H14 := cnd_f hb H12; clear H12
   refine c_skip ?_
   refine c_region ?_
   obtain ⟨t17, h_t17, H15⟩ := bnd_some H14; clear H14
   refine l_val rfl rfl rfl (r_addG rfl rfl h_t17) ?_
   refine l_val rfl rfl rfl (r_move (v := .int .i64 t17) rfl) ?_
   refine l_nil ?_
   refine c_close t17 () m1 [] (by exact ⟨rfl, rfl, rfl, trivial⟩) (by decide) rfl (by exact ⟨(by subst hn1; exact H15), trivial⟩) (Nat.lt_succ_self _)
 ·have H16 := cnd_f hb H9; clear H9
  refine c_exit ?_
  refine c_seq ?_
  refine c_region ?_
  refine l_val rfl rfl rfl (r_assign (v := .int .i64 0) rfl) ?_
  refine l_nil ?_
  refine c_ret ?_
  obtain rfl := Option.some.inj H16
  refine ret1 (v := .int .i64 0) rfl rfl (fin rfl)
theorem k11 {a0 : (List T_api_Place)} {v0 : Value} {r : Int} {w : World} {h : Heap} (hw : Know h w noS) (f0 : FrS h 2 v0 (a0.map e_api_Place)) (H : where_checkList a0 = some r) : Does Tryd.prog 11 (List.toArray [v0]) w (fun v w' => v = (.int .i64 r) ∧ Grow w w') := by
 refine enter (n := 8) Tryd.func11 rfl rfl rfl noS [] (Sat.nil _ _) ?_
 refine c_seq ?_
 refine c_region ?_
 refine l_val rfl rfl rfl (r_assign (v := .int .i64 0) rfl) ?_
 refine l_nil ?_
 refine c_seq ?_
 refine c_seq ?_
 refine c_region ?_
 refine l_val rfl rfl rfl (r_move (v := v0) rfl) ?_
 refine l_val rfl rfl rfl (r_lenF Tryd.underlying22 rfl f0 rfl) ?_
 refine l_val rfl rfl rfl (r_gtr rfl rfl) ?_
 refine l_nil ?_
 refine c_if (b := (decide (1000 < (a0.length : Int)))) rfl (fun hb => ?_) (fun hb => ?_)
 ·have H4 := cnd_t hb H; clear H
  refine c_seq ?_
  refine c_region ?_
  refine l_val rfl rfl rfl (r_assign (v := .int .i64 4) rfl) ?_
  refine l_nil ?_
  refine c_ret ?_
  obtain rfl := Option.some.inj H4
  refine ret1 (v := .int .i64 4) rfl rfl (fin rfl)
 ·have H5 := cnd_f hb H; clear H
  refine c_skip ?_
  refine c_seq ?_
  refine c_region ?_
  refine l_val rfl rfl rfl (r_move (v := v0) rfl) ?_
  obtain ⟨t7, h_t7, H6⟩ := bnd_some H5; clear H5
  refine l_callG (fun w hF hS => k22 (know_all w) (f0.mono (hw.now hF)) h_t7) Tryd.call22 rfl rfl rfl ?_
  refine l_val rfl rfl rfl (r_assign (v := .int .i64 t7) rfl) ?_
  refine l_nil ?_
  refine c_ret ?_
  obtain rfl := Option.some.inj H6
  refine ret1 (v := .int .i64 t7) rfl rfl (fin rfl)
theorem k12 {a0 : (List Int)} {p0 : Option Addr × Nat} {n0 : Nat} {a1 : Int} {r : (List Int)} {w : World} {h : Heap} {S : Nat → Prop} (hcs : (rowV 5 1 (.slice p0.1 n0 p0.2) n0 (a0.map e_u8)).P S w) (hlt : ∀ b, S b → b < w.heap.size) (hw : Know h w S) (hn0 : n0 = a0.length) (H : where_packed a0 a1 = some r) : Does Tryd.prog 12 (List.toArray [.slice p0.1 n0 p0.2, .int .i64 a1]) w (fun v w' => ∃ x : (Option Addr × Nat), v = (.slice x.1 r.length x.2) ∧ Turn w w' S (rowV 5 1 (.slice x.1 r.length x.2) r.length (r.map e_u8))) := by
 refine enter (n := 30) Tryd.func12 rfl rfl rfl S [rowV 5 1 (.slice p0.1 n0 p0.2) n0 (a0.map e_u8)] (Sat.one hcs hlt) ?_
 refine c_seq ?_
 refine c_region ?_
 refine l_val rfl rfl rfl (r_assign (v := .slice none 0 0) rfl) ?_
 refine l_nil ?_
 refine c_seq ?_
 refine c_region ?_
 refine l_val rfl rfl rfl (r_move (v := .int .i64 a1) rfl) ?_
 obtain ⟨t7, h_t7, H17⟩ := bnd_some H; clear H
 refine l_val rfl rfl rfl (r_mulG rfl rfl h_t7) ?_
 refine l_val rfl rfl rfl (r_assign (v := .int .i64 t7) rfl) ?_
 refine l_nil ?_
 refine c_meet (r := r) (σ := Int) (τ := Unit) (fun s => where_packed_j1 a0 s) (fun s t => [(0, .slice p0.1 n0 p0.2), (5, .int .i64 s)]) (fun s t => [rowV 5 1 (.slice p0.1 n0 p0.2) n0 (a0.map e_u8)]) (fun s t => True) ?_ ?_
 ·refine c_seq ?_
  refine c_region ?_
  refine l_val rfl rfl rfl (r_move (v := .int .i64 a1) rfl) ?_
  refine l_val rfl rfl rfl (r_lss rfl rfl) ?_
  refine l_nil ?_
  refine c_if (b := (decide (a1 < 0))) rfl (fun hb => ?_) (fun hb => ?_)
  ·have H29 := cnd_t hb H17; clear H17
   refine c_region ?_
   refine l_val rfl rfl rfl (r_move (v := .int .i64 a1) rfl) ?_
   obtain ⟨t11, h_t11, H30⟩ := bnd_some H29; clear H29
   refine l_val rfl rfl rfl (r_mulG rfl rfl h_t11) ?_
   obtain ⟨t12, h_t12, H31⟩ := bnd_some H30; clear H30
   refine l_val rfl rfl rfl (r_subG rfl rfl h_t12) ?_
   refine l_val rfl rfl rfl (r_assign (v := .int .i64 t12) rfl) ?_
   refine l_nil ?_
   refine c_close t12 () 0 [0] (by exact ⟨rfl, rfl, trivial⟩) (by decide) rfl (by exact ⟨H31, trivial⟩) (Nat.lt_succ_self _)
  ·have H32 := cnd_f hb H17; clear H17
   refine c_skip ?_
   refine c_close t7 () 0 [0] (by exact ⟨rfl, rfl, trivial⟩) (by decide) rfl (by exact ⟨H32, trivial⟩) (Nat.lt_succ_self _)
 ·rintro x5 _ gg H18 _
  replace H18 : where_packed_j1 a0 x5 = some r := H18
  refine c_tidyF [(0, .slice p0.1 n0 p0.2), (5, .int .i64 x5)] [rowV 5 1 (.slice p0.1 n0 p0.2) n0 (a0.map e_u8)] rfl rfl ?_
  refine c_meet (r := r) (σ := Int × (List Int)) (τ := (Option Addr × Nat) × Nat) (fun s => where_packed_j2 s.1 s.2) (fun s t => [(0, .slice t.1.1 t.2 t.1.2), (5, .int .i64 s.1)]) (fun s t => [rowV 5 1 (.slice t.1.1 t.2 t.1.2) t.2 (s.2.map e_u8)]) (fun s t => t.2 = s.2.length) ?_ ?_
  ·refine c_block ?_
   refine c_fix (σ := Int × (List Int)) (τ := (Option Addr × Nat) × Nat) (fun next3 s => where_packed_l3 next3 s.1 s.2) (fun s t => [(0, .slice t.1.1 t.2 t.1.2), (5, .int .i64 s.1)]) (fun s t => [rowV 5 1 (.slice t.1.1 t.2 t.1.2) t.2 (s.2.map e_u8)]) (fun s t => t.2 = s.2.length) (x5, a0) (p0, n0) [0] H18 (by exact hn0) (by exact ⟨rfl, rfl, trivial⟩) (by decide) rfl ?_
   rintro ⟨x5_4, l_3⟩ ⟨p_3, n_2⟩ m3 gg H22 hl_3
   clear H18
   replace H22 : where_packed_l3 (it (fun next3 s => where_packed_l3 next3 s.1 s.2) m3) x5_4 l_3 = some r := H22
   generalize hn3 : it (fun next3 s => where_packed_l3 next3 s.1 s.2) m3 = next3 at H22
   refine c_tidyF [(0, .slice p_3.1 n_2 p_3.2), (5, .int .i64 x5_4)] [rowV 5 1 (.slice p_3.1 n_2 p_3.2) n_2 (l_3.map e_u8)] rfl rfl ?_
   refine c_seq ?_
   refine c_seq ?_
   refine c_region ?_
   refine l_val rfl rfl rfl (r_move (v := .int .i64 x5_4) rfl) ?_
   refine l_val rfl rfl rfl (r_geq rfl rfl) ?_
   refine l_nil ?_
   refine c_if (b := (decide (32 ≤ x5_4))) rfl (fun hb => ?_) (fun hb => ?_)
   ·have H23 := cnd_t hb H22; clear H22
    refine c_skip ?_
    refine c_seq ?_
    refine c_block ?_
    refine c_region ?_
    refine l_val rfl rfl rfl (r_move (v := .slice p_3.1 n_2 p_3.2) rfl) ?_
    refine l_val rfl rfl rfl (r_move (v := .int .i64 x5_4) rfl) ?_
    obtain ⟨t19, h_t19, H24⟩ := bnd_some H23; clear H23
    refine l_val rfl rfl rfl (r_remG rfl rfl h_t19) ?_
    obtain ⟨t20, h_t20, H25⟩ := bnd_some H24; clear H24
    refine l_val rfl rfl rfl (r_addG rfl rfl h_t20) ?_
    refine l_val rfl rfl rfl (r_convG Tryd.runUnderlying3 Tryd.runUnderlying5 rfl (wr_u8 _)) ?_
    refine l_buildSlice (vs := [.int .u8 (wU8 t20)]) (cs := [.int .u8 (wU8 t20)]) Tryd.underlying37 Tryd.sizeOf5 Tryd.zeroValue5 rfl rfl rfl rfl rfl rfl rfl (fun b3 => ?_)
    obtain ⟨l23, h_l23, H26⟩ := bnd_some H25; clear H25
    refine l_turn (turns_appG (i := 0) (hn := hl_3) (rds := [1]) (p := p_3) (sz := 1) (by_ := 1) (f := e_u8) (ys := l_3) (ls := ([(wU8 t20)] : List Int)) (V := .slice (some ⟨b3, 0, none⟩) 1 1) Tryd.underlying37 (info_of Tryd.typeInfo5) rfl rfl rfl rfl rfl rfl rfl rfl rfl rfl (fun w L' hF hS hi => row_box (i := 1) hS ((hi 1 (by simp)).trans rfl) rfl rfl) (fun _ => rfl) (fun _ => rfl) h_l23) rfl rfl rfl (fun p_4 => ?_)
    refine l_val rfl rfl rfl (r_assign (v := .slice p_4.1 l23.length p_4.2) rfl) ?_
    refine l_nil ?_
    refine c_region ?_
    refine l_val rfl rfl rfl (r_move (v := .int .i64 x5_4) rfl) ?_
    obtain ⟨t16, h_t16, H27⟩ := bnd_some H26; clear H26
    refine l_val rfl rfl rfl (r_quoG rfl rfl h_t16) ?_
    refine l_val rfl rfl rfl (r_assign (v := .int .i64 t16) rfl) ?_
    refine l_nil ?_
    refine c_close (t16, l23) (p_4, l23.length) m3 [0] (by exact ⟨rfl, rfl, trivial⟩) (by decide) rfl (by exact ⟨(by subst hn3; exact H27), rfl⟩) (Nat.lt_succ_self _)
   ·have H28 := cnd_f hb H22; clear H22
    refine c_exit ?_
    refine c_close (x5_4, l_3) (p_3, n_2) 0 [0] (by exact ⟨rfl, rfl, trivial⟩) (by decide) rfl (by exact ⟨H28, hl_3⟩) (Nat.lt_succ_self _)
  ·rintro ⟨x5_2, l⟩ ⟨p, n⟩ gg H19 hl
   replace H19 : where_packed_j2 x5_2 l = some r := H19
   refine c_tidyF [(0, .slice p.1 n p.2), (5, .int .i64 x5_2)] [rowV 5 1 (.slice p.1 n p.2) n (l.map e_u8)] rfl rfl ?_
   refine c_seq ?_
   refine c_region ?_
   refine l_val rfl rfl rfl (r_move (v := .slice p.1 n p.2) rfl) ?_
   refine l_val rfl rfl rfl (r_move (v := .int .i64 x5_2) rfl) ?_
   obtain ⟨t26, h_t26, H20⟩ := bnd_some H19; clear H19
   refine l_val rfl rfl rfl (r_addG rfl rfl h_t26) ?_
   refine l_val rfl rfl rfl (r_convG Tryd.runUnderlying3 Tryd.runUnderlying5 rfl (wr_u8 _)) ?_
   refine l_buildSlice (vs := [.int .u8 (wU8 t26)]) (cs := [.int .u8 (wU8 t26)]) Tryd.underlying37 Tryd.sizeOf5 Tryd.zeroValue5 rfl rfl rfl rfl rfl rfl rfl (fun b2 => ?_)
   obtain ⟨l29, h_l29, H21⟩ := bnd_some H20; clear H20
   refine l_turn (turns_appG (i := 0) (hn := hl) (rds := [1]) (p := p) (sz := 1) (by_ := 1) (f := e_u8) (ys := l) (ls := ([(wU8 t26)] : List Int)) (V := .slice (some ⟨b2, 0, none⟩) 1 1) Tryd.underlying37 (info_of Tryd.typeInfo5) rfl rfl rfl rfl rfl rfl rfl rfl rfl rfl (fun w L' hF hS hi => row_box (i := 1) hS ((hi 1 (by simp)).trans rfl) rfl rfl) (fun _ => rfl) (fun _ => rfl) h_l29) rfl rfl rfl (fun p_2 => ?_)
   refine l_val rfl rfl rfl (r_assign (v := .slice p_2.1 l29.length p_2.2) rfl) ?_
   refine l_nil ?_
   refine c_ret ?_
   obtain rfl := Option.some.inj H21
   refine ret1 (v := .slice p_2.1 l29.length p_2.2) rfl rfl (finX p_2 (i := 0) rfl rfl (Imp.refl _))
theorem k4 {a0 : (List T_api_Place)} {v0 : Value} {r : (List UInt8) × Int} {w : World} {h : Heap} (hw : Know h w noS) (f0 : FrS h 2 v0 (a0.map e_api_Place)) (H : where_Pack a0 = some r) : Does Tryd.prog 4 (List.toArray [v0]) w (fun v w' => v = (.tuple #[str r.1, .int .i64 r.2]) ∧ Grow w w') := by
 refine enter (n := 38) Tryd.func4 rfl rfl rfl noS [] (Sat.nil _ _) ?_
 refine c_seq ?_
 refine c_region ?_
 refine l_val rfl rfl rfl (r_assign (v := str []) rfl) ?_
 refine l_val rfl rfl rfl (r_assign (v := .int .i64 0) rfl) ?_
 refine l_nil ?_
 refine c_seq ?_
 refine c_seq ?_
 refine c_region ?_
 refine l_val rfl rfl rfl (r_move (v := v0) rfl) ?_
 obtain ⟨t10, h_t10, H14⟩ := bnd_some H; clear H
 refine l_callG (fun w hF hS => k11 (know_all w) (f0.mono (hw.now hF)) h_t10) Tryd.call11 rfl rfl rfl ?_
 refine l_val rfl rfl rfl (r_assign (v := .int .i64 t10) rfl) ?_
 refine l_nil ?_
 refine c_seq ?_
 refine c_region ?_
 refine l_val rfl rfl rfl (r_move (v := .int .i64 t10) rfl) ?_
 refine l_val rfl rfl rfl (r_neq rfl rfl) ?_
 refine l_nil ?_
 refine c_if (b := (decide (t10 ≠ 0))) rfl (fun hb => ?_) (fun hb => ?_)
 ·have H15 := cnd_t hb H14; clear H14
  refine c_seq ?_
  refine c_region ?_
  refine l_val rfl rfl rfl (r_move (v := .int .i64 t10) rfl) ?_
  refine l_val rfl rfl rfl (r_assign (v := str []) rfl) ?_
  refine l_val rfl rfl rfl (r_assign (v := .int .i64 t10) rfl) ?_
  refine l_nil ?_
  refine c_ret ?_
  obtain rfl := Option.some.inj H15
  refine ret2 (v1 := str []) (v2 := .int .i64 t10) rfl rfl rfl (fin rfl)
 ·have H16 := cnd_f hb H14; clear H14
  refine c_skip ?_
  refine c_seq ?_
  refine c_region ?_
  refine l_val rfl rfl rfl (r_assign (v := .slice none 0 0) rfl) ?_
  refine l_nil ?_
  refine c_seq ?_
  refine c_region ?_
  refine l_val rfl rfl rfl (r_build (pl := #[(0, 1), (1, 1)]) (ps := []) (cells := #[.int .i64 0, .int .i64 0]) Tryd.zeroValue34 Tryd.runUnderlying34 (fun w => by kernel_rfl) rfl rfl) ?_
  refine l_alloc (cs := [.int .i64 0, .int .i64 0]) Tryd.zeroValue34 rfl rfl rfl (fun b2 => ?_)
  refine l_store (i := 0) (vs := [.int .i64 0, .int .i64 0]) (cs' := [.int .i64 0, .int .i64 0]) Tryd.sizeOf34 rfl rfl rfl rfl rfl rfl rfl rfl rfl ?_
  refine l_nil ?_
  refine c_meet (r := r) (σ := (List Int)) (τ := (Option Addr × Nat)) (fun s => where_Pack_j1 s) (fun s t => [(5, .slice t.1 s.length t.2)]) (fun s t => [rowV 5 1 (.slice t.1 s.length t.2) s.length (s.map e_u8)]) (fun s t => True) ?_ ?_
  ·refine c_seq ?_
   refine c_region ?_
   refine l_val rfl rfl rfl (r_move (v := v0) rfl) ?_
   refine l_val rfl rfl rfl (r_lenF Tryd.underlying22 rfl f0 rfl) ?_
   refine l_val rfl rfl rfl (r_move (v := .int .i64 0) rfl) ?_
   refine l_nil ?_
   refine c_block ?_
   refine c_nilRow 5 1 ?_
   refine c_fix (σ := Int × Int × Int × (List Int)) (τ := (Option Addr × Nat)) (fun next2 s => where_Pack_l2 a0 next2 s.1 s.2.1 s.2.2.1 s.2.2.2) (fun s t => [(5, .slice t.1 s.2.2.2.length t.2), (6, .pointer (some ⟨b2, 0, none⟩)), (15, v0), (16, .int .i64 (a0.length : Int)), (17, .int .i64 s.1)]) (fun s t => [cellsC b2 [.int .i64 s.2.1, .int .i64 s.2.2.1] 34, rowV 5 1 (.slice t.1 s.2.2.2.length t.2) s.2.2.2.length (s.2.2.2.map e_u8)]) (fun s t => True) (0, 0, 0, ([] : List Int)) ((none, 0) : Option Addr × Nat) [0, 1] H16 (by exact trivial) (by exact ⟨rfl, rfl, rfl, rfl, rfl, trivial⟩) (by decide) rfl ?_
   rintro ⟨x17_2, m_3, m_4, l_3⟩ p_2 m2 gg H18 _
   clear H16
   replace H18 : where_Pack_l2 a0 (it (fun next2 s => where_Pack_l2 a0 next2 s.1 s.2.1 s.2.2.1 s.2.2.2) m2) x17_2 m_3 m_4 l_3 = some r := H18
   generalize hn2 : it (fun next2 s => where_Pack_l2 a0 next2 s.1 s.2.1 s.2.2.1 s.2.2.2) m2 = next2 at H18
   refine c_tidyF [(5, .slice p_2.1 l_3.length p_2.2), (6, .pointer (some ⟨b2, 0, none⟩)), (15, v0), (16, .int .i64 (a0.length : Int)), (17, .int .i64 x17_2)] [cellsC b2 [.int .i64 m_3, .int .i64 m_4] 34, rowV 5 1 (.slice p_2.1 l_3.length p_2.2) l_3.length (l_3.map e_u8)] rfl rfl ?_
   refine c_seq ?_
   refine c_region ?_
   refine l_val rfl rfl rfl (r_lss rfl rfl) ?_
   refine l_nil ?_
   refine c_seq ?_
   refine c_if (b := (decide (x17_2 < (a0.length : Int)))) rfl (fun hb => ?_) (fun hb => ?_)
   ·have H19 := cnd_t hb H18; clear H18
    refine c_skip ?_
    refine c_seq ?_
    refine c_block ?_
    refine c_seq ?_
    refine c_region ?_
    obtain ⟨t19, h_t19, H20⟩ := bnd_some H19; clear H19
    refine l_val rfl rfl rfl (r_indexF Tryd.underlying22 Tryd.sizeOf34 rfl rfl f0 h_t19) ?_
    refine l_read (fun w hF hS => run_loadGN (f := e_api_Place) (i := x17_2) (sz := 2) (j := 0) (vs := [.int .i64 t19.Lat, .int .i64 t19.Lon]) Tryd.isAgg34 Tryd.sizeOf34 rfl rfl (f0.row (hw.now hF)) h_t19 rfl) rfl rfl rfl ?_
    refine l_alloc (cs := [.int .i64 0, .int .i64 0]) Tryd.zeroValue34 rfl rfl rfl (fun b3 => ?_)
    refine l_store (i := 2) (vs := [.int .i64 t19.Lat, .int .i64 t19.Lon]) (cs' := [.int .i64 t19.Lat, .int .i64 t19.Lon]) Tryd.sizeOf34 rfl rfl rfl rfl rfl rfl rfl rfl rfl ?_
    refine l_nil ?_
    refine c_seq ?_
    exact c_regionD (Kd.p :: Kd.p :: Kd.d [2] _ :: Kd.p :: Kd.d [0] _ :: Kd.p :: Kd.t 1 [] _ _ :: Kd.p :: Kd.d [2] _ :: Kd.p :: Kd.d [0] _ :: Kd.p :: Kd.t 1 [] _ _ :: Kd.p :: []) 0 mixed (by
     refine d_val rfl rfl (r_move (v := .slice p_2.1 l_3.length p_2.2) rfl) ?_
     refine d_val rfl rfl (r_field Tryd.runUnderlying34 rfl Tryd.sizeOf3 rfl rfl) ?_
     refine d_load1 (i := 2) (v := .int .i64 t19.Lat) Tryd.isAgg3 rfl rfl rfl rfl ?_
     refine d_val rfl rfl (r_field Tryd.runUnderlying34 rfl Tryd.sizeOf3 rfl rfl) ?_
     refine d_load1 (i := 0) (v := .int .i64 m_3) Tryd.isAgg3 rfl rfl rfl rfl ?_
     have h_t26 := bnd_val H20
     have H21 := bnd_rest H20
     refine d_val rfl rfl (r_subG rfl rfl h_t26) ?_
     have h_t27 := bnd_val H21
     have H22 := bnd_rest H21
     refine d_turn (Cv := fun v => rowV 5 1 v (val (where_packed l_3 (val (gI (t19.Lat - m_3))))).length ((val (where_packed l_3 (val (gI (t19.Lat - m_3))))).map e_u8)) (none, 0) (turns_callB (i := 1) (rds := _) (G := fun x : (Option Addr × Nat) => .slice x.1 (val (where_packed l_3 (val (gI (t19.Lat - m_3))))).length x.2) (C := fun x : (Option Addr × Nat) => rowV 5 1 (.slice x.1 (val (where_packed l_3 (val (gI (t19.Lat - m_3))))).length x.2) (val (where_packed l_3 (val (gI (t19.Lat - m_3))))).length ((val (where_packed l_3 (val (gI (t19.Lat - m_3))))).map e_u8)) rfl (fun w L' S hF hS hi hp hlt ho hA => k12 hp hlt (know_but w S) rfl h_t27) Tryd.call12 rfl) (fun _ => rfl) rfl rfl (fun p_3 => ?_)
     refine d_val rfl rfl (r_field Tryd.runUnderlying34 rfl Tryd.sizeOf3 rfl rfl) ?_
     refine d_load1 (i := 2) (v := .int .i64 t19.Lon) Tryd.isAgg3 rfl rfl rfl rfl ?_
     refine d_val rfl rfl (r_field Tryd.runUnderlying34 rfl Tryd.sizeOf3 rfl rfl) ?_
     refine d_load1 (i := 0) (v := .int .i64 m_4) Tryd.isAgg3 rfl rfl rfl rfl ?_
     have h_t32 := bnd_val H22
     have H23 := bnd_rest H22
     refine d_val rfl rfl (r_subG rfl rfl h_t32) ?_
     have h_t33 := bnd_val H23
     have H24 := bnd_rest H23
     refine d_turn (Cv := fun v => rowV 5 1 v (val (where_packed (val (where_packed l_3 (val (gI (t19.Lat - m_3))))) (val (gI (t19.Lon - m_4))))).length ((val (where_packed (val (where_packed l_3 (val (gI (t19.Lat - m_3))))) (val (gI (t19.Lon - m_4))))).map e_u8)) (none, 0) (turns_callB (i := 1) (rds := _) (G := fun x : (Option Addr × Nat) => .slice x.1 (val (where_packed (val (where_packed l_3 (val (gI (t19.Lat - m_3))))) (val (gI (t19.Lon - m_4))))).length x.2) (C := fun x : (Option Addr × Nat) => rowV 5 1 (.slice x.1 (val (where_packed (val (where_packed l_3 (val (gI (t19.Lat - m_3))))) (val (gI (t19.Lon - m_4))))).length x.2) (val (where_packed (val (where_packed l_3 (val (gI (t19.Lat - m_3))))) (val (gI (t19.Lon - m_4))))).length ((val (where_packed (val (where_packed l_3 (val (gI (t19.Lat - m_3))))) (val (gI (t19.Lon - m_4))))).map e_u8)) rfl (fun w L' S hF hS hi hp hlt ho hA => k12 hp hlt (know_but w S) rfl h_t33) Tryd.call12 rfl) (fun _ => rfl) rfl rfl (fun p_4 => ?_)
     refine d_val rfl rfl (r_assign (v := .slice p_4.1 (val (where_packed (val (where_packed l_3 (val (gI (t19.Lat - m_3))))) (val (gI (t19.Lon - m_4))))).length p_4.2) rfl) ?_
     refine d_nil ?_
     refine c_region ?_
     refine l_loadN (i := 2) (vs := [.int .i64 t19.Lat, .int .i64 t19.Lon]) Tryd.isAgg34 Tryd.sizeOf34 rfl rfl rfl rfl rfl ?_
     refine l_store (i := 0) (vs := [.int .i64 t19.Lat, .int .i64 t19.Lon]) (cs' := [.int .i64 t19.Lat, .int .i64 t19.Lon]) Tryd.sizeOf34 rfl rfl rfl rfl rfl rfl rfl rfl rfl ?_
     refine l_nil ?_
     refine c_sel [0, 1, 2] [cellsC b2 [.int .i64 t19.Lat, .int .i64 t19.Lon] 34, rowV 5 1 (.slice p_4.1 (val (where_packed (val (where_packed l_3 (val (gI (t19.Lat - m_3))))) (val (gI (t19.Lon - m_4))))).length p_4.2) (val (where_packed (val (where_packed l_3 (val (gI (t19.Lat - m_3))))) (val (gI (t19.Lon - m_4))))).length ((val (where_packed (val (where_packed l_3 (val (gI (t19.Lat - m_3))))) (val (gI (t19.Lon - m_4))))).map e_u8), cellsC b3 [.int .i64 t19.Lat, .int .i64 t19.Lon] 34] rfl (by decide) ?_
     refine c_region ?_
     obtain ⟨t35, h_t35, H25⟩ := bnd_some H24; clear H24
     refine l_val rfl rfl rfl (r_addG rfl rfl h_t35) ?_
     refine l_val rfl rfl rfl (r_move (v := .int .i64 t35) rfl) ?_
     refine l_nil ?_
     refine c_close (t35, t19.Lat, t19.Lon, (val (where_packed (val (where_packed l_3 (val (gI (t19.Lat - m_3))))) (val (gI (t19.Lon - m_4)))))) p_4 m2 [0, 1] (by exact ⟨rfl, rfl, rfl, rfl, rfl, trivial⟩) (by decide) rfl (by exact ⟨(by subst hn2; exact H25), trivial⟩) (Nat.lt_succ_self _)
     ) (by kernel_rfl)
   ·have H26 := cnd_f hb H18; clear H18
    refine c_exit ?_
    refine c_close l_3 p_2 0 [1] (by exact ⟨rfl, trivial⟩) (by decide) rfl (by exact ⟨H26, trivial⟩) (Nat.lt_succ_self _)
  ·rintro l p gg H17 _
   replace H17 : where_Pack_j1 l = some r := H17
   refine c_tidyF [(5, .slice p.1 l.length p.2)] [rowV 5 1 (.slice p.1 l.length p.2) l.length (l.map e_u8)] rfl rfl ?_
   refine c_seq ?_
   refine c_region ?_
   refine l_val rfl rfl rfl (r_move (v := .slice p.1 l.length p.2) rfl) ?_
   refine l_read (fun w hF hS => run_bytes (f := e_u8) (xs := l) rfl Tryd.underlying37 Tryd.underlying5 Tryd.underlying9 rfl (fun _ => rfl) (rowOf (i := 0) hS rfl)) rfl rfl rfl ?_
   refine l_val rfl rfl rfl (r_assign (v := str (toStr l)) rfl) ?_
   refine l_val rfl rfl rfl (r_assign (v := .int .i64 0) rfl) ?_
   refine l_nil ?_
   refine c_ret ?_
   obtain rfl := Option.some.inj H17
   refine ret2 (v1 := str (toStr l)) (v2 := .int .i64 0) rfl rfl rfl (fin rfl)
theorem k13 {a0 : (List Int)} {v0 : Value} {r : Int} {w : World} {h : Heap} (hw : Know h w noS) (f0 : FrS h 1 v0 (a0.map e_i64)) (H : Law_first a0 = some r) : Does Tryd.prog 13 (List.toArray [v0]) w (fun v w' => v = (.int .i64 r) ∧ Grow w w') := by
 refine enter (n := 15) Tryd.func13 rfl rfl rfl noS [] (Sat.nil _ _) ?_
 refine c_seq ?_
 refine c_region ?_
 refine l_val rfl rfl rfl (r_assign (v := .int .i64 0) rfl) ?_
 refine l_nil ?_
 refine c_seq ?_
 refine c_seq ?_
 refine c_region ?_
 refine l_val rfl rfl rfl (r_move (v := v0) rfl) ?_
 refine l_val rfl rfl rfl (r_lenF Tryd.underlying57 rfl f0 rfl) ?_
 refine l_val rfl rfl rfl (r_move (v := .int .i64 0) rfl) ?_
 refine l_nil ?_
 refine c_block ?_
 refine c_fix (σ := Int) (τ := Unit) (fun next1 s => Law_first_l1 a0 next1 s) (fun s t => [(5, v0), (6, .int .i64 (a0.length : Int)), (7, .int .i64 s)]) (fun s t => []) (fun s t => True) 0 () [] H (by exact trivial) (by exact ⟨rfl, rfl, rfl, trivial⟩) (by decide) rfl ?_
 rintro x7_2 _ m1 gg H8 _
 clear H
 replace H8 : Law_first_l1 a0 (it (fun next1 s => Law_first_l1 a0 next1 s) m1) x7_2 = some r := H8
 generalize hn1 : it (fun next1 s => Law_first_l1 a0 next1 s) m1 = next1 at H8
 refine c_tidyF [(5, v0), (6, .int .i64 (a0.length : Int)), (7, .int .i64 x7_2)] [] rfl rfl ?_
 refine c_seq ?_
 refine c_region ?_
 refine l_val rfl rfl rfl (r_lss rfl rfl) ?_
 refine l_nil ?_
 refine c_seq ?_
 refine c_if (b := (decide (x7_2 < (a0.length : Int)))) rfl (fun hb => ?_) (fun hb => ?_)
 ·have H9 := cnd_t hb H8; clear H8
  refine c_skip ?_
  refine c_seq ?_
  refine c_block ?_
  refine c_seq ?_
  refine c_region ?_
  obtain ⟨t9, h_t9, H10⟩ := bnd_some H9; clear H9
  refine l_val rfl rfl rfl (r_indexF Tryd.underlying57 Tryd.sizeOf23 rfl rfl f0 h_t9) ?_
  refine l_read (fun w hF hS => run_loadG1 (f := e_i64) (i := x7_2) (sz := 1) (j := 0) (v := .int .i64 t9) Tryd.isAgg23 rfl rfl (f0.row (hw.now hF)) h_t9 rfl) rfl rfl rfl ?_
  refine l_val rfl rfl rfl (r_assign (v := .int .i64 t9) rfl) ?_
  refine l_nil ?_
  refine c_seq ?_
  refine c_region ?_
  refine l_val rfl rfl rfl (r_move (v := .int .i64 t9) rfl) ?_
  refine l_val rfl rfl rfl (r_neq rfl rfl) ?_
  refine l_nil ?_
  refine c_if (b := (decide (t9 ≠ 0))) rfl (fun hb => ?_) (fun hb => ?_)
  ·have H11 := cnd_t hb H10; clear H10
   refine c_seq ?_
   refine c_region ?_
   refine l_val rfl rfl rfl (r_move (v := .int .i64 t9) rfl) ?_
   refine l_val rfl rfl rfl (r_assign (v := .int .i64 t9) rfl) ?_
   refine l_nil ?_
   refine c_ret ?_
   obtain rfl := Option.some.inj H11
   refine ret1 (v := .int .i64 t9) rfl rfl (fin rfl)
  ·have H12 := cnd_f hb H10; clear H10
   refine c_skip ?_
   refine c_region ?_
   obtain ⟨t14, h_t14, H13⟩ := bnd_some H12; clear H12
   refine l_val rfl rfl rfl (r_addG rfl rfl h_t14) ?_
   refine l_val rfl rfl rfl (r_move (v := .int .i64 t14) rfl) ?_
   refine l_nil ?_
   refine c_close t14 () m1 [] (by exact ⟨rfl, rfl, rfl, trivial⟩) (by decide) rfl (by exact ⟨(by subst hn1; exact H13), trivial⟩) (Nat.lt_succ_self _)
 ·have H14 := cnd_f hb H8; clear H8
  refine c_exit ?_
  refine c_seq ?_
  refine c_region ?_
  refine l_val rfl rfl rfl (r_assign (v := .int .i64 0) rfl) ?_
  refine l_nil ?_
  refine c_ret ?_
  obtain rfl := Option.some.inj H14
  refine ret1 (v := .int .i64 0) rfl rfl (fin rfl)
theorem k14 {a0 : Bool} {a1 : Int} {r : Int} (H : Law_unless a0 a1 = some r) : Ret Tryd.prog 14 [.bool a0, .int .i64 a1] (.int .i64 r) := by
 refine enterRet (n := 7) Tryd.func14 rfl rfl rfl (fun wd => ?_)
 refine c_seq ?_
 refine c_region ?_
 refine l_val rfl rfl rfl (r_assign (v := .int .i64 0) rfl) ?_
 refine l_nil ?_
 refine c_seq ?_
 refine c_seq ?_
 refine c_region ?_
 refine l_val rfl rfl rfl (r_move (v := .bool a0) rfl) ?_
 refine l_nil ?_
 refine c_if (b := a0) rfl (fun hb => ?_) (fun hb => ?_)
 ·have H3 := cnd_t hb H; clear H
  refine c_seq ?_
  refine c_region ?_
  refine l_val rfl rfl rfl (r_assign (v := .int .i64 0) rfl) ?_
  refine l_nil ?_
  refine c_ret ?_
  obtain rfl := Option.some.inj H3
  refine ret1 (v := .int .i64 0) rfl rfl (fin rfl)
 ·have H4 := cnd_f hb H; clear H
  refine c_skip ?_
  refine c_seq ?_
  refine c_region ?_
  refine l_val rfl rfl rfl (r_move (v := .int .i64 a1) rfl) ?_
  refine l_val rfl rfl rfl (r_assign (v := .int .i64 a1) rfl) ?_
  refine l_nil ?_
  refine c_ret ?_
  obtain rfl := Option.some.inj H4
  refine ret1 (v := .int .i64 a1) rfl rfl (fin rfl)
theorem k15 {a0 : T_api_Place} {r : Int} (H : R_PlaceFault a0 = some r) : Ret Tryd.prog 15 [.agg #[.int .i64 a0.Lat, .int .i64 a0.Lon]] (.int .i64 r) := by
 refine enterRet (n := 21) Tryd.func15 rfl rfl rfl (fun wd => ?_)
 refine c_seq ?_
 refine c_region ?_
 refine l_box (cs := [.int .i64 a0.Lat, .int .i64 a0.Lon]) rfl rfl rfl rfl (fun b1 => ?_)
 refine l_val rfl rfl rfl (r_assign (v := .int .i64 0) rfl) ?_
 refine l_nil ?_
 refine c_seq ?_
 refine c_seq ?_
 refine c_region ?_
 refine l_val rfl rfl rfl (r_field Tryd.runUnderlying34 rfl Tryd.sizeOf3 rfl rfl) ?_
 refine l_load1 (i := 0) (v := .int .i64 a0.Lat) Tryd.isAgg3 rfl rfl rfl rfl rfl ?_
 refine l_val rfl rfl rfl (r_lss rfl rfl) ?_
 refine l_val rfl rfl rfl (r_move (v := .bool (decide (a0.Lat < (-90000000)))) rfl) ?_
 refine split (fun hb => ?_) (fun hb => ?_)
 ·have H9 := cnd_t hb H; clear H
  refine l_passed rfl rfl rfl ?_
  refine l_passed rfl rfl rfl ?_
  refine l_passed rfl rfl rfl ?_
  refine l_val rfl rfl rfl (r_pickT (v := .bool true) rfl rfl) ?_
  refine l_val rfl rfl rfl (r_move (v := .bool true) rfl) ?_
  refine l_passed rfl rfl rfl ?_
  refine l_passed rfl rfl rfl ?_
  refine l_passed rfl rfl rfl ?_
  refine l_val rfl rfl rfl (r_pickT (v := .bool true) rfl rfl) ?_
  refine l_val rfl rfl rfl (r_move (v := .bool true) rfl) ?_
  refine l_passed rfl rfl rfl ?_
  refine l_passed rfl rfl rfl ?_
  refine l_passed rfl rfl rfl ?_
  refine l_val rfl rfl rfl (r_pickT (v := .bool true) rfl rfl) ?_
  refine l_nil ?_
  refine c_true rfl ?_
  refine c_seq ?_
  refine c_region ?_
  refine l_val rfl rfl rfl (r_assign (v := .int .i64 2) rfl) ?_
  refine l_nil ?_
  refine c_ret ?_
  obtain rfl := Option.some.inj H9
  refine ret1 (v := .int .i64 2) rfl rfl (fin rfl)
 ·have H10 := cnd_f hb H; clear H
  refine l_val rfl rfl rfl (r_field Tryd.runUnderlying34 rfl Tryd.sizeOf3 rfl rfl) ?_
  refine l_load1 (i := 0) (v := .int .i64 a0.Lat) Tryd.isAgg3 rfl rfl rfl rfl rfl ?_
  refine l_val rfl rfl rfl (r_gtr rfl rfl) ?_
  refine l_val rfl rfl rfl (r_pickF (v := .bool (decide (90000000 < a0.Lat))) rfl rfl) ?_
  refine l_val rfl rfl rfl (r_move (v := .bool (decide (90000000 < a0.Lat))) rfl) ?_
  refine split (fun hb => ?_) (fun hb => ?_)
  ·have H11 := cnd_t hb H10; clear H10
   refine l_passed rfl rfl rfl ?_
   refine l_passed rfl rfl rfl ?_
   refine l_passed rfl rfl rfl ?_
   refine l_val rfl rfl rfl (r_pickT (v := .bool true) rfl rfl) ?_
   refine l_val rfl rfl rfl (r_move (v := .bool true) rfl) ?_
   refine l_passed rfl rfl rfl ?_
   refine l_passed rfl rfl rfl ?_
   refine l_passed rfl rfl rfl ?_
   refine l_val rfl rfl rfl (r_pickT (v := .bool true) rfl rfl) ?_
   refine l_nil ?_
   refine c_true rfl ?_
   refine c_seq ?_
   refine c_region ?_
   refine l_val rfl rfl rfl (r_assign (v := .int .i64 2) rfl) ?_
   refine l_nil ?_
   refine c_ret ?_
   obtain rfl := Option.some.inj H11
   refine ret1 (v := .int .i64 2) rfl rfl (fin rfl)
  ·have H12 := cnd_f hb H10; clear H10
   refine l_val rfl rfl rfl (r_field Tryd.runUnderlying34 rfl Tryd.sizeOf3 rfl rfl) ?_
   refine l_load1 (i := 0) (v := .int .i64 a0.Lon) Tryd.isAgg3 rfl rfl rfl rfl rfl ?_
   refine l_val rfl rfl rfl (r_lss rfl rfl) ?_
   refine l_val rfl rfl rfl (r_pickF (v := .bool (decide (a0.Lon < (-180000000)))) rfl rfl) ?_
   refine l_val rfl rfl rfl (r_move (v := .bool (decide (a0.Lon < (-180000000)))) rfl) ?_
   refine split (fun hb => ?_) (fun hb => ?_)
   ·have H13 := cnd_t hb H12; clear H12
    refine l_passed rfl rfl rfl ?_
    refine l_passed rfl rfl rfl ?_
    refine l_passed rfl rfl rfl ?_
    refine l_val rfl rfl rfl (r_pickT (v := .bool true) rfl rfl) ?_
    refine l_nil ?_
    refine c_true rfl ?_
    refine c_seq ?_
    refine c_region ?_
    refine l_val rfl rfl rfl (r_assign (v := .int .i64 2) rfl) ?_
    refine l_nil ?_
    refine c_ret ?_
    obtain rfl := Option.some.inj H13
    refine ret1 (v := .int .i64 2) rfl rfl (fin rfl)
   ·have H14 := cnd_f hb H12; clear H12
    refine l_val rfl rfl rfl (r_field Tryd.runUnderlying34 rfl Tryd.sizeOf3 rfl rfl) ?_
    refine l_load1 (i := 0) (v := .int .i64 a0.Lon) Tryd.isAgg3 rfl rfl rfl rfl rfl ?_
    refine l_val rfl rfl rfl (r_gtr rfl rfl) ?_
    refine l_val rfl rfl rfl (r_pickF (v := .bool (decide (179999999 < a0.Lon))) rfl rfl) ?_
    refine l_nil ?_
    refine c_if (b := (decide (179999999 < a0.Lon))) rfl (fun hb => ?_) (fun hb => ?_)
    ·have H15 := cnd_t hb H14; clear H14
     refine c_seq ?_
     refine c_region ?_
     refine l_val rfl rfl rfl (r_assign (v := .int .i64 2) rfl) ?_
     refine l_nil ?_
     refine c_ret ?_
     obtain rfl := Option.some.inj H15
     refine ret1 (v := .int .i64 2) rfl rfl (fin rfl)
    ·have H16 := cnd_f hb H14; clear H14
     refine c_skip ?_
     refine c_seq ?_
     refine c_region ?_
     refine l_val rfl rfl rfl (r_assign (v := .int .i64 0) rfl) ?_
     refine l_nil ?_
     refine c_ret ?_
     obtain rfl := Option.some.inj H16
     refine ret1 (v := .int .i64 0) rfl rfl (fin rfl)
theorem k5 {a0 : (List T_api_Place)} {v0 : Value} {a1 : Bool} {r : Int} {w : World} {h : Heap} (hw : Know h w noS) (f0 : FrS h 2 v0 (a0.map e_api_Place)) (H : Law_listFault a0 a1 = some r) : Does Tryd.prog 5 (List.toArray [v0, .bool a1]) w (fun v w' => v = (.int .i64 r) ∧ Grow w w') := by
 refine enter (n := 35) Tryd.func5 rfl rfl rfl noS [] (Sat.nil _ _) ?_
 refine c_seq ?_
 refine c_region ?_
 refine l_val rfl rfl rfl (r_assign (v := .int .i64 0) rfl) ?_
 refine l_nil ?_
 refine c_meet (r := r) (σ := Int) (τ := Unit) (fun s => Law_listFault_j1 a0 s) (fun s t => [(0, v0), (5, .int .i64 s)]) (fun s t => []) (fun s t => True) ?_ ?_
 ·refine c_region ?_
  refine l_val rfl rfl rfl (r_move (v := v0) rfl) ?_
  refine l_val rfl rfl rfl (r_lenF Tryd.underlying22 rfl f0 rfl) ?_
  refine l_val rfl rfl rfl (r_gtr rfl rfl) ?_
  refine l_val rfl rfl rfl (r_move (v := .bool (decide (0 < (a0.length : Int)))) rfl) ?_
  refine split (fun hb => ?_) (fun hb => ?_)
  ·have H25 := cnd_t hb H; clear H
   refine l_passed rfl rfl rfl ?_
   refine l_passed rfl rfl rfl ?_
   refine l_val rfl rfl rfl (r_pickT (v := .bool true) rfl rfl) ?_
   obtain ⟨t15, h_t15, H26⟩ := bnd_some H25; clear H25
   refine l_call (k14 h_t15) Tryd.call14 rfl rfl rfl ?_
   refine l_val rfl rfl rfl (r_move (v := v0) rfl) ?_
   refine l_val rfl rfl rfl (r_lenF Tryd.underlying22 rfl f0 rfl) ?_
   refine l_val rfl rfl rfl (r_leq rfl rfl) ?_
   obtain ⟨t19, h_t19, H27⟩ := bnd_some H26; clear H26
   refine l_call (k14 h_t19) Tryd.call14 rfl rfl rfl ?_
   refine l_buildSlice (vs := [.int .i64 t15, .int .i64 t19]) (cs := [.int .i64 t15, .int .i64 t19]) Tryd.underlying57 Tryd.sizeOf23 Tryd.zeroValue23 rfl rfl rfl rfl rfl rfl rfl (fun b6 => ?_)
   obtain ⟨t21, h_t21, H28⟩ := bnd_some H27; clear H27
   refine l_callG (fun w hF hS => k13 (know_all w) (frs_box (i := 0) (xs := ([t15, t19] : List Int)) (f := e_i64) hS rfl rfl rfl rfl rfl) h_t21) Tryd.call13 rfl rfl rfl ?_
   refine l_val rfl rfl rfl (r_assign (v := .int .i64 t21) rfl) ?_
   refine l_nil ?_
   refine c_close t21 () 0 [] (by exact ⟨rfl, rfl, trivial⟩) (by decide) rfl (by exact ⟨H28, trivial⟩) (Nat.lt_succ_self _)
  ·have H29 := cnd_f hb H; clear H
   refine l_val rfl rfl rfl (r_move (v := .bool a1) rfl) ?_
   refine l_val rfl rfl rfl (r_not rfl) ?_
   refine l_val rfl rfl rfl (r_pickF (v := .bool (!a1)) rfl rfl) ?_
   obtain ⟨t15_2, h_t15_2, H30⟩ := bnd_some H29; clear H29
   refine l_call (k14 h_t15_2) Tryd.call14 rfl rfl rfl ?_
   refine l_val rfl rfl rfl (r_move (v := v0) rfl) ?_
   refine l_val rfl rfl rfl (r_lenF Tryd.underlying22 rfl f0 rfl) ?_
   refine l_val rfl rfl rfl (r_leq rfl rfl) ?_
   obtain ⟨t19_2, h_t19_2, H31⟩ := bnd_some H30; clear H30
   refine l_call (k14 h_t19_2) Tryd.call14 rfl rfl rfl ?_
   refine l_buildSlice (vs := [.int .i64 t15_2, .int .i64 t19_2]) (cs := [.int .i64 t15_2, .int .i64 t19_2]) Tryd.underlying57 Tryd.sizeOf23 Tryd.zeroValue23 rfl rfl rfl rfl rfl rfl rfl (fun b7 => ?_)
   obtain ⟨t21_2, h_t21_2, H32⟩ := bnd_some H31; clear H31
   refine l_callG (fun w hF hS => k13 (know_all w) (frs_box (i := 0) (xs := ([t15_2, t19_2] : List Int)) (f := e_i64) hS rfl rfl rfl rfl rfl) h_t21_2) Tryd.call13 rfl rfl rfl ?_
   refine l_val rfl rfl rfl (r_assign (v := .int .i64 t21_2) rfl) ?_
   refine l_nil ?_
   refine c_close t21_2 () 0 [] (by exact ⟨rfl, rfl, trivial⟩) (by decide) rfl (by exact ⟨H32, trivial⟩) (Nat.lt_succ_self _)
 ·rintro x5 _ gg H17 _
  replace H17 : Law_listFault_j1 a0 x5 = some r := H17
  refine c_tidyF [(0, v0), (5, .int .i64 x5)] [] rfl rfl ?_
  refine c_seq ?_
  refine c_seq ?_
  refine c_region ?_
  refine l_val rfl rfl rfl (r_move (v := v0) rfl) ?_
  refine l_val rfl rfl rfl (r_lenF Tryd.underlying22 rfl f0 rfl) ?_
  refine l_val rfl rfl rfl (r_move (v := .int .i64 0) rfl) ?_
  refine l_nil ?_
  refine c_block ?_
  refine c_fix (σ := Int × Int) (τ := Unit) (fun next2 s => Law_listFault_l2 a0 next2 s.1 s.2) (fun s t => [(5, .int .i64 s.1), (22, v0), (23, .int .i64 (a0.length : Int)), (24, .int .i64 s.2)]) (fun s t => []) (fun s t => True) (x5, 0) () [] H17 (by exact trivial) (by exact ⟨rfl, rfl, rfl, rfl, trivial⟩) (by decide) rfl ?_
  rintro ⟨x5_3, x24_2⟩ _ m2 gg H18 _
  clear H17
  replace H18 : Law_listFault_l2 a0 (it (fun next2 s => Law_listFault_l2 a0 next2 s.1 s.2) m2) x5_3 x24_2 = some r := H18
  generalize hn2 : it (fun next2 s => Law_listFault_l2 a0 next2 s.1 s.2) m2 = next2 at H18
  refine c_tidyF [(5, .int .i64 x5_3), (22, v0), (23, .int .i64 (a0.length : Int)), (24, .int .i64 x24_2)] [] rfl rfl ?_
  refine c_seq ?_
  refine c_region ?_
  refine l_val rfl rfl rfl (r_lss rfl rfl) ?_
  refine l_nil ?_
  refine c_seq ?_
  refine c_if (b := (decide (x24_2 < (a0.length : Int)))) rfl (fun hb => ?_) (fun hb => ?_)
  ·have H19 := cnd_t hb H18; clear H18
   refine c_skip ?_
   refine c_seq ?_
   refine c_block ?_
   refine c_seq ?_
   refine c_region ?_
   obtain ⟨t26, h_t26, H20⟩ := bnd_some H19; clear H19
   refine l_val rfl rfl rfl (r_indexF Tryd.underlying22 Tryd.sizeOf34 rfl rfl f0 h_t26) ?_
   refine l_read (fun w hF hS => run_loadGN (f := e_api_Place) (i := x24_2) (sz := 2) (j := 0) (vs := [.int .i64 t26.Lat, .int .i64 t26.Lon]) Tryd.isAgg34 Tryd.sizeOf34 rfl rfl (f0.row (hw.now hF)) h_t26 rfl) rfl rfl rfl ?_
   refine l_alloc (cs := [.int .i64 0, .int .i64 0]) Tryd.zeroValue34 rfl rfl rfl (fun b4 => ?_)
   refine l_store (i := 0) (vs := [.int .i64 t26.Lat, .int .i64 t26.Lon]) (cs' := [.int .i64 t26.Lat, .int .i64 t26.Lon]) Tryd.sizeOf34 rfl rfl rfl rfl rfl rfl rfl rfl rfl ?_
   refine l_nil ?_
   refine c_region ?_
   refine l_val rfl rfl rfl (r_move (v := .int .i64 x5_3) rfl) ?_
   refine l_loadN (i := 0) (vs := [.int .i64 t26.Lat, .int .i64 t26.Lon]) Tryd.isAgg34 Tryd.sizeOf34 rfl rfl rfl rfl rfl ?_
   obtain ⟨t30, h_t30, H21⟩ := bnd_some H20; clear H20
   refine l_call (k15 h_t30) Tryd.call15 rfl rfl rfl ?_
   refine l_buildSlice (vs := [.int .i64 x5_3, .int .i64 t30]) (cs := [.int .i64 x5_3, .int .i64 t30]) Tryd.underlying57 Tryd.sizeOf23 Tryd.zeroValue23 rfl rfl rfl rfl rfl rfl rfl (fun b5 => ?_)
   obtain ⟨t32, h_t32, H22⟩ := bnd_some H21; clear H21
   refine l_callG (fun w hF hS => k13 (know_all w) (frs_box (i := 1) (xs := ([x5_3, t30] : List Int)) (f := e_i64) hS rfl rfl rfl rfl rfl) h_t32) Tryd.call13 rfl rfl rfl ?_
   refine l_val rfl rfl rfl (r_assign (v := .int .i64 t32) rfl) ?_
   refine l_nil ?_
   refine c_region ?_
   obtain ⟨t33, h_t33, H23⟩ := bnd_some H22; clear H22
   refine l_val rfl rfl rfl (r_addG rfl rfl h_t33) ?_
   refine l_val rfl rfl rfl (r_move (v := .int .i64 t33) rfl) ?_
   refine l_nil ?_
   refine c_close (t32, t33) () m2 [] (by exact ⟨rfl, rfl, rfl, rfl, trivial⟩) (by decide) rfl (by exact ⟨(by subst hn2; exact H23), trivial⟩) (Nat.lt_succ_self _)
  ·have H24 := cnd_f hb H18; clear H18
   refine c_exit ?_
   refine c_seq ?_
   refine c_region ?_
   refine l_val rfl rfl rfl (r_move (v := .int .i64 x5_3) rfl) ?_
   refine l_val rfl rfl rfl (r_assign (v := .int .i64 x5_3) rfl) ?_
   refine l_nil ?_
   refine c_ret ?_
   obtain rfl := Option.some.inj H24
   refine ret1 (v := .int .i64 x5_3) rfl rfl (fin rfl)
theorem k23y {pb0 : Nat} {w : World} {S : Nat → Prop} {p : Option Addr × Nat} {m : Nat} {lr : Int} {xs : List (List Value)} (hm : m + 1 ≤ 140737488355328) (hr : m + 1 ≤ p.2) (hcs : (bufB pb0 45 5 m xs p lr).P S w) (hlt : ∀ b, S b → b < w.heap.size) : Does Tryd.prog 23 (List.toArray [.pointer (some ⟨pb0, 0, none⟩), .int .i64 1]) w (fun v w' => ∃ y : Value, v = .tuple #[.int .i64 (m : Int), .bool true] ∧ Turn w w' S (bufB pb0 45 5 (m + 1) (xs ++ [[y]]) p lr)) := by
 refine enter (n := 33) Tryd.func23 rfl rfl rfl S [bufB pb0 45 5 m xs p lr] (Sat.one hcs hlt) ?_
 refine c_split 0 rfl ?_
 refine c_know (fun w hF hS => capMax (i := 1) hS rfl) (fun hcap => ?_)
 refine c_know (fun w hF hS => capOf (i := 1) hS rfl) (fun hmc => ?_)
 have hsub : gI ((p.2 : Int) - (m : Int)) = some ((p.2 : Int) - (m : Int)) := gI_ok (by omega)
 refine c_seq ?_
 refine c_region ?_
 refine l_val rfl rfl rfl (r_assign (v := .int .i64 0) rfl) ?_
 refine l_val rfl rfl rfl (r_assign (v := .bool false) rfl) ?_
 refine l_nil ?_
 refine c_seq ?_
 refine c_seq ?_
 refine c_region ?_
 refine l_val rfl rfl rfl (r_move (v := .pointer (some ⟨pb0, 0, none⟩)) rfl) ?_
 refine l_val rfl rfl rfl (r_nilCheck rfl) ?_
 refine l_val rfl rfl rfl (r_field Tryd.runUnderlying45 rfl Tryd.sizeOf37 rfl rfl) ?_
 refine l_load1 (i := 0) (v := .slice p.1 m p.2) Tryd.isAgg37 rfl rfl rfl rfl rfl ?_
 refine l_val rfl rfl rfl (r_len Tryd.underlying37 rfl) ?_
 refine l_val rfl rfl rfl (r_assign (v := .int .i64 (m : Int)) rfl) ?_
 refine l_nil ?_
 refine c_seq ?_
 refine c_region ?_
 refine l_val rfl rfl rfl (r_move (v := .int .i64 1) rfl) ?_
 refine l_val rfl rfl rfl (r_move (v := .pointer (some ⟨pb0, 0, none⟩)) rfl) ?_
 refine l_val rfl rfl rfl (r_nilCheck rfl) ?_
 refine l_val rfl rfl rfl (r_field Tryd.runUnderlying45 rfl Tryd.sizeOf37 rfl rfl) ?_
 refine l_load1 (i := 0) (v := .slice p.1 m p.2) Tryd.isAgg37 rfl rfl rfl rfl rfl ?_
 refine l_val rfl rfl rfl (r_cap Tryd.underlying37 rfl) ?_
 refine l_val rfl rfl rfl (r_move (v := .int .i64 (m : Int)) rfl) ?_
 refine l_val rfl rfl rfl (r_subG rfl rfl hsub) ?_
 refine l_val rfl rfl rfl (r_leq rfl rfl) ?_
 refine l_nil ?_
 refine c_if (b := decide ((1 : Int) ≤ (p.2 : Int) - (m : Int))) rfl (fun hb => ?_) (fun hb => ?_)
 ·have hadd : gI ((m : Int) + 1) = some ((m : Int) + 1) := gI_ok (by omega)
  refine c_seq ?_
  refine c_region ?_
  refine l_val rfl rfl rfl (r_move (v := .pointer (some ⟨pb0, 0, none⟩)) rfl) ?_
  refine l_val rfl rfl rfl (r_move (v := .pointer (some ⟨pb0, 0, none⟩)) rfl) ?_
  refine l_val rfl rfl rfl (r_nilCheck rfl) ?_
  refine l_val rfl rfl rfl (r_field Tryd.runUnderlying45 rfl Tryd.sizeOf37 rfl rfl) ?_
  refine l_load1 (i := 0) (v := .slice p.1 m p.2) Tryd.isAgg37 rfl rfl rfl rfl rfl ?_
  refine l_val rfl rfl rfl (r_move (v := .int .i64 (m : Int)) rfl) ?_
  refine l_val rfl rfl rfl (r_move (v := .int .i64 1) rfl) ?_
  refine l_val rfl rfl rfl (r_addG rfl rfl hadd) ?_
  refine l_val rfl rfl rfl (r_sliceUp Tryd.underlying37 Tryd.sizeOf5 rfl rfl hr) ?_
  refine l_val rfl rfl rfl (r_nilCheck rfl) ?_
  refine l_val rfl rfl rfl (r_field Tryd.runUnderlying45 rfl Tryd.sizeOf37 rfl rfl) ?_
  refine l_store (i := 0) (vs := [.slice p.1 (m + 1) p.2]) (cs' := [.slice p.1 (m + 1) p.2, .int .i64 0, .int .i8 lr]) Tryd.sizeOf37 rfl rfl rfl rfl rfl rfl rfl rfl rfl ?_
  refine l_nil ?_
  refine c_seq ?_
  refine c_region ?_
  refine l_val rfl rfl rfl (r_move (v := .int .i64 (m : Int)) rfl) ?_
  refine l_val rfl rfl rfl (r_assign (v := .int .i64 (m : Int)) rfl) ?_
  refine l_val rfl rfl rfl (r_assign (v := .bool true) rfl) ?_
  refine l_nil ?_
  refine c_ret ?_
  refine c_more 1 rfl hr (fun y => ?_)
  refine c_both 0 1 rfl rfl (by decide) ?_
  exact ret2 (v1 := .int .i64 (m : Int)) (v2 := .bool true) rfl rfl rfl (finX y (i := 0) rfl rfl (Imp.refl _))
 ·exact (by have := of_decide_eq_false hb; omega : False).elim

theorem k23n {pb0 : Nat} {w : World} {S : Nat → Prop} {p : Option Addr × Nat} {m : Nat} {lr : Int} {xs : List (List Value)} (hm : m + 1 ≤ 140737488355328) (hr : ¬ m + 1 ≤ p.2) (hcs : (bufB pb0 45 5 m xs p lr).P S w) (hlt : ∀ b, S b → b < w.heap.size) : Does Tryd.prog 23 (List.toArray [.pointer (some ⟨pb0, 0, none⟩), .int .i64 1]) w (fun v w' => ∃ x : Unit, v = .tuple #[.int .i64 0, .bool false] ∧ Turn w w' S (bufB pb0 45 5 m xs p lr)) := by
 refine enter (n := 33) Tryd.func23 rfl rfl rfl S [bufB pb0 45 5 m xs p lr] (Sat.one hcs hlt) ?_
 refine c_split 0 rfl ?_
 refine c_know (fun w hF hS => capMax (i := 1) hS rfl) (fun hcap => ?_)
 refine c_know (fun w hF hS => capOf (i := 1) hS rfl) (fun hmc => ?_)
 have hsub : gI ((p.2 : Int) - (m : Int)) = some ((p.2 : Int) - (m : Int)) := gI_ok (by omega)
 refine c_seq ?_
 refine c_region ?_
 refine l_val rfl rfl rfl (r_assign (v := .int .i64 0) rfl) ?_
 refine l_val rfl rfl rfl (r_assign (v := .bool false) rfl) ?_
 refine l_nil ?_
 refine c_seq ?_
 refine c_seq ?_
 refine c_region ?_
 refine l_val rfl rfl rfl (r_move (v := .pointer (some ⟨pb0, 0, none⟩)) rfl) ?_
 refine l_val rfl rfl rfl (r_nilCheck rfl) ?_
 refine l_val rfl rfl rfl (r_field Tryd.runUnderlying45 rfl Tryd.sizeOf37 rfl rfl) ?_
 refine l_load1 (i := 0) (v := .slice p.1 m p.2) Tryd.isAgg37 rfl rfl rfl rfl rfl ?_
 refine l_val rfl rfl rfl (r_len Tryd.underlying37 rfl) ?_
 refine l_val rfl rfl rfl (r_assign (v := .int .i64 (m : Int)) rfl) ?_
 refine l_nil ?_
 refine c_seq ?_
 refine c_region ?_
 refine l_val rfl rfl rfl (r_move (v := .int .i64 1) rfl) ?_
 refine l_val rfl rfl rfl (r_move (v := .pointer (some ⟨pb0, 0, none⟩)) rfl) ?_
 refine l_val rfl rfl rfl (r_nilCheck rfl) ?_
 refine l_val rfl rfl rfl (r_field Tryd.runUnderlying45 rfl Tryd.sizeOf37 rfl rfl) ?_
 refine l_load1 (i := 0) (v := .slice p.1 m p.2) Tryd.isAgg37 rfl rfl rfl rfl rfl ?_
 refine l_val rfl rfl rfl (r_cap Tryd.underlying37 rfl) ?_
 refine l_val rfl rfl rfl (r_move (v := .int .i64 (m : Int)) rfl) ?_
 refine l_val rfl rfl rfl (r_subG rfl rfl hsub) ?_
 refine l_val rfl rfl rfl (r_leq rfl rfl) ?_
 refine l_nil ?_
 refine c_if (b := decide ((1 : Int) ≤ (p.2 : Int) - (m : Int))) rfl (fun hb => ?_) (fun hb => ?_)
 ·exact (by have := of_decide_eq_true hb; omega : False).elim
 ·refine c_skip ?_
  refine c_seq ?_
  refine c_region ?_
  refine l_val rfl rfl rfl (r_assign (v := .int .i64 0) rfl) ?_
  refine l_val rfl rfl rfl (r_assign (v := .bool false) rfl) ?_
  refine l_nil ?_
  refine c_ret ?_
  refine c_both 0 1 rfl rfl (by decide) ?_
  exact ret2 (v1 := .int .i64 0) (v2 := .bool false) rfl rfl rfl (finX () (i := 0) rfl rfl (Imp.refl _))

theorem k27 {pb0 : Nat} {w : World} {S : Nat → Prop} {a : Option Addr} {m c : Nat} {z : Value} (hm : m ≤ 140737488355328) (hcs : (cellsC pb0 [.slice a m c, .int .i64 0, z] 45).P S w) (hlt : ∀ b, S b → b < w.heap.size) : Does Tryd.prog 27 (List.toArray [.pointer (some ⟨pb0, 0, none⟩)]) w (fun v w' => ∃ x : Unit, v = .int .i64 (m : Int) ∧ Turn w w' S (cellsC pb0 [.slice a m c, .int .i64 0, z] 45)) := by
 have hsub : gI ((m : Int) - 0) = some (m : Int) := by rw [gI_ok (by omega), Int.sub_zero]
 refine enter (n := 13) Tryd.func27 rfl rfl rfl S [cellsC pb0 [.slice a m c, .int .i64 0, z] 45] (Sat.one hcs hlt) ?_
 refine c_seq ?_
 refine c_region ?_
 refine l_val rfl rfl rfl (r_assign (v := .int .i64 0) rfl) ?_
 refine l_nil ?_
 refine c_seq ?_
 exact c_regionD (Kd.p :: Kd.p :: Kd.p :: Kd.d [0] _ :: Kd.p :: Kd.p :: Kd.p :: Kd.p :: Kd.d [0] _ :: Kd.p :: Kd.p :: []) 0 mixed (by
  refine d_val rfl rfl (r_move (v := .pointer (some ⟨pb0, 0, none⟩)) rfl) ?_
  refine d_val rfl rfl (r_nilCheck rfl) ?_
  refine d_val rfl rfl (r_field Tryd.runUnderlying45 rfl Tryd.sizeOf37 rfl rfl) ?_
  refine d_load1 (i := 0) (v := .slice a m c) Tryd.isAgg37 rfl rfl rfl rfl ?_
  refine d_val rfl rfl (r_len Tryd.underlying37 rfl) ?_
  refine d_val rfl rfl (r_move (v := .pointer (some ⟨pb0, 0, none⟩)) rfl) ?_
  refine d_val rfl rfl (r_nilCheck rfl) ?_
  refine d_val rfl rfl (r_field Tryd.runUnderlying45 rfl Tryd.sizeOf3 rfl rfl) ?_
  refine d_load1 (i := 0) (v := .int .i64 0) Tryd.isAgg3 rfl rfl rfl rfl ?_
  refine d_val rfl rfl (r_subG rfl rfl hsub) ?_
  refine d_val rfl rfl (r_assign (v := .int .i64 (m : Int)) rfl) ?_
  refine d_nil ?_
  refine c_ret ?_
  exact ret1 (v := .int .i64 (m : Int)) rfl rfl (finX () (i := 0) rfl rfl (Imp.refl _))
 ) (by kernel_rfl)

theorem k24 {pb0 : Nat} {w : World} {S : Nat → Prop} {p : Option Addr × Nat} {m : Nat} {lr : Int} {xs : List (List Value)} (hm : m + 1 ≤ 140737488355328) (hr : ¬ m + 1 ≤ p.2) (h1 : ∀ v ∈ xs.flatten, v.oneCell' = true) (hcs : (bufB pb0 45 5 m xs p lr).P S w) (hlt : ∀ b, S b → b < w.heap.size) : Does Tryd.prog 24 (List.toArray [.pointer (some ⟨pb0, 0, none⟩), .int .i64 1]) w (fun v w' => ∃ q : (Option Addr × Nat) × Value, v = .int .i64 (m : Int) ∧ Turn w w' S (bufB pb0 45 5 (m + 1) (xs ++ [[q.2]]) q.1 lr)) := by
 refine enter (n := 110) Tryd.func24 rfl rfl rfl S [bufB pb0 45 5 m xs p lr] (Sat.one hcs hlt) ?_
 refine c_split 0 rfl ?_
 refine c_know (fun w hF hS => capMax (i := 1) hS rfl) (fun hcap => ?_)
 refine c_know (fun w hF hS => capOf (i := 1) hS rfl) (fun hmc => ?_)
 refine c_know (fun w hF hS => nilOr (i := 1) hS rfl) (fun hnil => ?_)
 refine c_know (fun w hF hS => lenOf (i := 1) hS rfl) (fun hlen => ?_)
 refine c_seq ?_
 refine c_region ?_
 refine l_val rfl rfl rfl (r_assign (v := .int .i64 0) rfl) ?_
 refine l_nil ?_
 refine c_seq ?_
 refine c_region ?_
 refine l_val rfl rfl rfl (r_move (v := .pointer (some ⟨pb0, 0, none⟩)) rfl) ?_
 refine l_turn (turns_callB (i := 0) (rds := []) (G := fun _ : Unit => .int .i64 (m : Int)) (C := fun _ => cellsC pb0 [.slice p.1 m p.2, .int .i64 0, .int .i8 lr] 45) rfl (fun w L' S hF hS hi hp' hlt' ho hA => k27 (by omega) hp' hlt') Tryd.call27 rfl) rfl rfl rfl (fun _ => ?_)
 refine l_val rfl rfl rfl (r_assign (v := .int .i64 (m : Int)) rfl) ?_
 refine l_nil ?_
 refine c_seq ?_
 refine c_seq ?_
 refine c_region ?_
 refine l_val rfl rfl rfl (r_move (v := .int .i64 (m : Int)) rfl) ?_
 refine l_val rfl rfl rfl (r_eql rfl rfl) ?_
 refine l_val rfl rfl rfl (r_move (v := .bool (decide ((m : Int) = 0))) rfl) ?_
 refine split (fun hz => ?_) (fun hz => ?_)
 ·skip
  refine l_val rfl rfl rfl (r_move (v := .pointer (some ⟨pb0, 0, none⟩)) rfl) ?_
  refine l_val rfl rfl rfl (r_nilCheck rfl) ?_
  refine l_val rfl rfl rfl (r_field Tryd.runUnderlying45 rfl Tryd.sizeOf3 rfl rfl) ?_
  refine l_load1 (i := 0) (v := .int .i64 0) Tryd.isAgg3 rfl rfl rfl rfl rfl ?_
  refine l_val rfl rfl rfl (r_neq rfl rfl) ?_
  refine l_val rfl rfl rfl (r_pickT (v := .bool (decide ((0 : Int) ≠ 0))) rfl rfl) ?_
  refine l_nil ?_
  refine c_if (b := decide ((0 : Int) ≠ 0)) rfl (fun hb => absurd hb (by decide)) (fun _ => ?_)
  refine c_skip ?_
  refine c_both 0 1 rfl rfl (by decide) ?_
  refine c_seq ?_
  refine c_seq ?_
  refine c_region ?_
  refine l_val rfl rfl rfl (r_move (v := .pointer (some ⟨pb0, 0, none⟩)) rfl) ?_
  refine l_val rfl rfl rfl (r_move (v := .int .i64 1) rfl) ?_
  refine l_turn (turns_callB (i := 0) (rds := []) (G := fun _ : Unit => .tuple #[.int .i64 0, .bool false]) (C := fun _ : Unit => bufB pb0 45 5 m xs p lr) rfl (fun w L' S hF hS hi hp' hlt' ho hA => k23n hm hr hp' hlt') Tryd.call23 rfl) rfl rfl rfl (fun _ => ?_)
  refine l_val rfl rfl rfl (r_move (v := .tuple #[.int .i64 0, .bool false]) rfl) ?_
  refine l_val rfl rfl rfl (r_extract (v := .int .i64 0) rfl rfl) ?_
  refine l_val rfl rfl rfl (r_extract (v := .bool false) rfl rfl) ?_
  refine l_val rfl rfl rfl (r_assign (v := .int .i64 0) rfl) ?_
  refine l_val rfl rfl rfl (r_assign (v := .bool false) rfl) ?_
  refine l_nil ?_
  refine c_splitAt 0 1 rfl rfl (by decide) ?_
  refine c_seq ?_
  refine c_region ?_
  refine l_val rfl rfl rfl (r_move (v := .bool false) rfl) ?_
  refine l_nil ?_
  refine c_false rfl ?_
  refine c_skip ?_
  refine c_seq ?_
  refine c_seq ?_
  refine c_region ?_
  refine l_val rfl rfl rfl (r_move (v := .pointer (some ⟨pb0, 0, none⟩)) rfl) ?_
  refine l_val rfl rfl rfl (r_nilCheck rfl) ?_
  refine l_val rfl rfl rfl (r_field Tryd.runUnderlying45 rfl Tryd.sizeOf37 rfl rfl) ?_
  refine l_load1 (i := 0) (v := .slice p.1 m p.2) Tryd.isAgg37 rfl rfl rfl rfl rfl ?_
  refine l_val rfl rfl rfl (r_eqlNilV Tryd.underlying37 rfl rfl) ?_
  refine l_val rfl rfl rfl (r_move (v := .bool (isNilV (.slice p.1 m p.2))) rfl) ?_
  refine split (fun hn => ?_) (fun hn => ?_)
  ·have hp1 : p.1 = none := by
     rcases hq : p.1 with _ | a
     · rfl
     · rw [hq] at hn; cases hn
   have hm0 : m = 0 := by rcases hnil with h | h; exact h.2.1; exact absurd hp1 h
   subst hm0
   obtain rfl : xs = [] := List.eq_nil_of_length_eq_zero hlen
   refine l_val rfl rfl rfl (r_move (v := .int .i64 1) rfl) ?_
   refine l_val rfl rfl rfl (r_leq rfl rfl) ?_
   refine l_val rfl rfl rfl (r_pickT (v := .bool (decide ((1 : Int) ≤ 64))) rfl rfl) ?_
   refine l_nil ?_
   refine c_if (b := decide ((1 : Int) ≤ 64)) rfl (fun _ => ?_) (fun hb => absurd hb (by decide))
   refine c_seq ?_
   refine c_region ?_
   refine l_val rfl rfl rfl (r_move (v := .pointer (some ⟨pb0, 0, none⟩)) rfl) ?_
   refine l_val rfl rfl rfl (r_move (v := .int .i64 1) rfl) ?_
   refine l_make (rds := []) (makes_make1 (E := 5) (c := 64) (z := .int .u8 0) Tryd.underlying37 (info_of Tryd.typeInfo5) rfl rfl rfl rfl rfl rfl (by decide) (by decide) (by decide)) rfl rfl rfl (fun p2 => ?_)
   refine l_val rfl rfl rfl (r_nilCheck rfl) ?_
   refine l_val rfl rfl rfl (r_field Tryd.runUnderlying45 rfl Tryd.sizeOf37 rfl rfl) ?_
   refine l_store (i := 0) (vs := [.slice p2.1 1 p2.2]) (cs' := [.slice p2.1 1 p2.2, .int .i64 0, .int .i8 lr]) Tryd.sizeOf37 rfl rfl rfl rfl rfl rfl rfl rfl rfl ?_
   refine l_nil ?_
   refine c_seq ?_
   refine c_region ?_
   refine l_val rfl rfl rfl (r_assign (v := .int .i64 0) rfl) ?_
   refine l_nil ?_
   refine c_ret ?_
   refine c_both 0 2 rfl rfl (by decide) ?_
   exact ret1 (v := .int .i64 0) rfl rfl (finX (p2, (.int .u8 0 : Value)) (i := 0) rfl rfl (Imp.refl _))
  ·have hp1 : p.1 ≠ none := fun h => by rw [h] at hn; cases hn
   refine l_passed rfl rfl rfl ?_
   refine l_passed rfl rfl rfl ?_
   refine l_val rfl rfl rfl (r_pickF (v := .bool false) rfl rfl) ?_
   refine l_nil ?_
   refine c_false rfl ?_
   refine c_skip ?_
   have hq : gQuo (p.2 : Int) 2 = some ((p.2 : Int) / 2) := gQuo_nn (by omega) (by omega)
   have hs1 : gI ((p.2 : Int) / 2 - (m : Int)) = some ((p.2 : Int) / 2 - (m : Int)) := gI_ok (by omega)
   have hs2 : gI (9223372036854775807 - (p.2 : Int)) = some (9223372036854775807 - (p.2 : Int)) := gI_ok (by omega)
   have hs3 : gI (9223372036854775807 - (p.2 : Int) - 1) = some (9223372036854775807 - (p.2 : Int) - 1) := gI_ok (by omega)
   have hs4 : gI ((0 : Int) + 1) = some 1 := rfl
   have hadd : gI ((m : Int) + 1) = some ((m : Int) + 1) := gI_ok (by omega)
   refine c_seq ?_
   refine c_region ?_
   refine l_val rfl rfl rfl (r_move (v := .pointer (some ⟨pb0, 0, none⟩)) rfl) ?_
   refine l_val rfl rfl rfl (r_nilCheck rfl) ?_
   refine l_val rfl rfl rfl (r_field Tryd.runUnderlying45 rfl Tryd.sizeOf37 rfl rfl) ?_
   refine l_load1 (i := 0) (v := .slice p.1 m p.2) Tryd.isAgg37 rfl rfl rfl rfl rfl ?_
   refine l_val rfl rfl rfl (r_cap Tryd.underlying37 rfl) ?_
   refine l_val rfl rfl rfl (r_assign (v := .int .i64 (p.2 : Int)) rfl) ?_
   refine l_nil ?_
   refine c_seq ?_
   refine c_seq ?_
   refine c_region ?_
   refine l_val rfl rfl rfl (r_move (v := .int .i64 1) rfl) ?_
   refine l_val rfl rfl rfl (r_move (v := .int .i64 (p.2 : Int)) rfl) ?_
   refine l_val rfl rfl rfl (r_quoG rfl rfl hq) ?_
   refine l_val rfl rfl rfl (r_move (v := .int .i64 (m : Int)) rfl) ?_
   refine l_val rfl rfl rfl (r_subG rfl rfl hs1) ?_
   refine l_val rfl rfl rfl (r_leq rfl rfl) ?_
   refine l_nil ?_
   refine c_if (b := decide ((1 : Int) ≤ (p.2 : Int) / 2 - (m : Int))) rfl (fun hb => (by have := of_decide_eq_true hb; omega : False).elim) (fun _ => ?_)
   refine c_seq ?_
   refine c_region ?_
   refine l_val rfl rfl rfl (r_move (v := .int .i64 (p.2 : Int)) rfl) ?_
   refine l_val rfl rfl rfl (r_move (v := .int .i64 (p.2 : Int)) rfl) ?_
   refine l_val rfl rfl rfl (r_subG rfl rfl hs2) ?_
   refine l_val rfl rfl rfl (r_move (v := .int .i64 1) rfl) ?_
   refine l_val rfl rfl rfl (r_subG rfl rfl hs3) ?_
   refine l_val rfl rfl rfl (r_gtr rfl rfl) ?_
   refine l_nil ?_
   refine c_if (b := decide (9223372036854775807 - (p.2 : Int) - 1 < (p.2 : Int))) rfl (fun hb => (by have := of_decide_eq_true hb; omega : False).elim) (fun _ => ?_)
   exact c_regionD (Kd.p :: Kd.p :: Kd.p :: Kd.p :: Kd.d [0] _ :: Kd.p :: Kd.p :: Kd.p :: Kd.d [0] _ :: Kd.p :: Kd.p :: Kd.p :: Kd.p :: Kd.d [0] _ :: Kd.p :: Kd.p :: Kd.t 2 [1] _ _ :: Kd.p :: Kd.p :: Kd.sv 94 92 0 _ 45 :: []) 1 mixed (by
    refine d_val rfl rfl (r_move (v := .pointer (some ⟨pb0, 0, none⟩)) rfl) ?_
    refine d_val rfl rfl (r_move (v := .pointer (some ⟨pb0, 0, none⟩)) rfl) ?_
    refine d_val rfl rfl (r_nilCheck rfl) ?_
    refine d_val rfl rfl (r_field Tryd.runUnderlying45 rfl Tryd.sizeOf37 rfl rfl) ?_
    refine d_load1 (i := 0) (v := .slice p.1 m p.2) Tryd.isAgg37 rfl rfl rfl rfl ?_
    refine d_val rfl rfl (r_move (v := .pointer (some ⟨pb0, 0, none⟩)) rfl) ?_
    refine d_val rfl rfl (r_nilCheck rfl) ?_
    refine d_val rfl rfl (r_field Tryd.runUnderlying45 rfl Tryd.sizeOf3 rfl rfl) ?_
    refine d_load1 (i := 0) (v := .int .i64 0) Tryd.isAgg3 rfl rfl rfl rfl ?_
    refine d_val rfl rfl (r_slice0 Tryd.underlying37 Tryd.sizeOf5 rfl rfl) ?_
    refine d_val rfl rfl (r_move (v := .pointer (some ⟨pb0, 0, none⟩)) rfl) ?_
    refine d_val rfl rfl (r_nilCheck rfl) ?_
    refine d_val rfl rfl (r_field Tryd.runUnderlying45 rfl Tryd.sizeOf3 rfl rfl) ?_
    refine d_load1 (i := 0) (v := .int .i64 0) Tryd.isAgg3 rfl rfl rfl rfl ?_
    refine d_val rfl rfl (r_move (v := .int .i64 1) rfl) ?_
    refine d_val rfl rfl (r_addG rfl rfl hs4) ?_
    refine d_make (Cv := fun v => rowC 5 1 v m xs (m + 1)) (none, 0) (makes_call (G := fun x : (Option Addr × Nat) => .slice x.1 m x.2) (C := fun x : (Option Addr × Nat) => rowC 5 1 (.slice x.1 m x.2) m xs (m + 1)) (fun w L' hF hS hi => growS_does (i := 1) (ρ := Go.Proofs.Tryd.laysM290_ren) Go.Proofs.Tryd.laysM290 hS ((hi 1 (by simp)).trans rfl) hp1 hr hm h1) Tryd.call29 rfl) (fun _ => rfl) rfl rfl rfl (fun p2 => ?_)
    refine d_val rfl rfl (r_nilCheck rfl) ?_
    refine d_val rfl rfl (r_field Tryd.runUnderlying45 rfl Tryd.sizeOf37 rfl rfl) ?_
    refine d_storeV (i := 0) (vs := [.slice p2.1 m p2.2]) (cs' := fun v_ => [v_, .int .i64 0, .int .i8 lr]) Tryd.sizeOf37 rfl rfl rfl rfl rfl rfl rfl rfl rfl ?_
    refine d_nil ?_
    refine c_know (fun w hF hS => roomOf (i := 2) hS rfl) (fun hroom => ?_)
    refine c_seq ?_
    refine c_region ?_
    refine l_val rfl rfl rfl (r_move (v := .pointer (some ⟨pb0, 0, none⟩)) rfl) ?_
    refine l_val rfl rfl rfl (r_nilCheck rfl) ?_
    refine l_val rfl rfl rfl (r_field Tryd.runUnderlying45 rfl Tryd.sizeOf3 rfl rfl) ?_
    refine l_store (i := 0) (vs := [.int .i64 0]) (cs' := [.slice p2.1 m p2.2, .int .i64 0, .int .i8 lr]) Tryd.sizeOf3 rfl rfl rfl rfl rfl rfl rfl rfl rfl ?_
    refine l_nil ?_
    refine c_seq ?_
    refine c_region ?_
    refine l_val rfl rfl rfl (r_move (v := .pointer (some ⟨pb0, 0, none⟩)) rfl) ?_
    refine l_val rfl rfl rfl (r_move (v := .pointer (some ⟨pb0, 0, none⟩)) rfl) ?_
    refine l_val rfl rfl rfl (r_nilCheck rfl) ?_
    refine l_val rfl rfl rfl (r_field Tryd.runUnderlying45 rfl Tryd.sizeOf37 rfl rfl) ?_
    refine l_load1 (i := 0) (v := .slice p2.1 m p2.2) Tryd.isAgg37 rfl rfl rfl rfl rfl ?_
    refine l_val rfl rfl rfl (r_move (v := .int .i64 (m : Int)) rfl) ?_
    refine l_val rfl rfl rfl (r_move (v := .int .i64 1) rfl) ?_
    refine l_val rfl rfl rfl (r_addG rfl rfl hadd) ?_
    refine l_val rfl rfl rfl (r_sliceUp Tryd.underlying37 Tryd.sizeOf5 rfl rfl hroom) ?_
    refine l_val rfl rfl rfl (r_nilCheck rfl) ?_
    refine l_val rfl rfl rfl (r_field Tryd.runUnderlying45 rfl Tryd.sizeOf37 rfl rfl) ?_
    refine l_store (i := 0) (vs := [.slice p2.1 (m + 1) p2.2]) (cs' := [.slice p2.1 (m + 1) p2.2, .int .i64 0, .int .i8 lr]) Tryd.sizeOf37 rfl rfl rfl rfl rfl rfl rfl rfl rfl ?_
    refine l_nil ?_
    refine c_seq ?_
    refine c_region ?_
    refine l_val rfl rfl rfl (r_move (v := .int .i64 (m : Int)) rfl) ?_
    refine l_val rfl rfl rfl (r_assign (v := .int .i64 (m : Int)) rfl) ?_
    refine l_nil ?_
    refine c_ret ?_
    refine c_imp 2 rfl (imp_rowC _ _ _ _ _ _) ?_
    refine c_more 2 rfl hroom (fun y => ?_)
    refine c_both 0 2 rfl rfl (by decide) ?_
    exact ret1 (v := .int .i64 (m : Int)) rfl rfl (finX (p2, y) (i := 0) rfl rfl (Imp.refl _))
   ) (by kernel_rfl)
 ·skip
  refine l_passed rfl rfl rfl ?_
  refine l_passed rfl rfl rfl ?_
  refine l_passed rfl rfl rfl ?_
  refine l_passed rfl rfl rfl ?_
  refine l_passed rfl rfl rfl ?_
  refine l_val rfl rfl rfl (r_pickF (v := .bool false) rfl rfl) ?_
  refine l_nil ?_
  refine c_false rfl ?_
  refine c_skip ?_
  refine c_both 0 1 rfl rfl (by decide) ?_
  refine c_seq ?_
  refine c_seq ?_
  refine c_region ?_
  refine l_val rfl rfl rfl (r_move (v := .pointer (some ⟨pb0, 0, none⟩)) rfl) ?_
  refine l_val rfl rfl rfl (r_move (v := .int .i64 1) rfl) ?_
  refine l_turn (turns_callB (i := 0) (rds := []) (G := fun _ : Unit => .tuple #[.int .i64 0, .bool false]) (C := fun _ : Unit => bufB pb0 45 5 m xs p lr) rfl (fun w L' S hF hS hi hp' hlt' ho hA => k23n hm hr hp' hlt') Tryd.call23 rfl) rfl rfl rfl (fun _ => ?_)
  refine l_val rfl rfl rfl (r_move (v := .tuple #[.int .i64 0, .bool false]) rfl) ?_
  refine l_val rfl rfl rfl (r_extract (v := .int .i64 0) rfl rfl) ?_
  refine l_val rfl rfl rfl (r_extract (v := .bool false) rfl rfl) ?_
  refine l_val rfl rfl rfl (r_assign (v := .int .i64 0) rfl) ?_
  refine l_val rfl rfl rfl (r_assign (v := .bool false) rfl) ?_
  refine l_nil ?_
  refine c_splitAt 0 1 rfl rfl (by decide) ?_
  refine c_seq ?_
  refine c_region ?_
  refine l_val rfl rfl rfl (r_move (v := .bool false) rfl) ?_
  refine l_nil ?_
  refine c_false rfl ?_
  refine c_skip ?_
  refine c_seq ?_
  refine c_seq ?_
  refine c_region ?_
  refine l_val rfl rfl rfl (r_move (v := .pointer (some ⟨pb0, 0, none⟩)) rfl) ?_
  refine l_val rfl rfl rfl (r_nilCheck rfl) ?_
  refine l_val rfl rfl rfl (r_field Tryd.runUnderlying45 rfl Tryd.sizeOf37 rfl rfl) ?_
  refine l_load1 (i := 0) (v := .slice p.1 m p.2) Tryd.isAgg37 rfl rfl rfl rfl rfl ?_
  refine l_val rfl rfl rfl (r_eqlNilV Tryd.underlying37 rfl rfl) ?_
  refine l_val rfl rfl rfl (r_move (v := .bool (isNilV (.slice p.1 m p.2))) rfl) ?_
  refine split (fun hn => ?_) (fun hn => ?_)
  ·have hp1 : p.1 = none := by
     rcases hq : p.1 with _ | a
     · rfl
     · rw [hq] at hn; cases hn
   have hm0 : m = 0 := by rcases hnil with h | h; exact h.2.1; exact absurd hp1 h
   subst hm0
   obtain rfl : xs = [] := List.eq_nil_of_length_eq_zero hlen
   refine l_val rfl rfl rfl (r_move (v := .int .i64 1) rfl) ?_
   refine l_val rfl rfl rfl (r_leq rfl rfl) ?_
   refine l_val rfl rfl rfl (r_pickT (v := .bool (decide ((1 : Int) ≤ 64))) rfl rfl) ?_
   refine l_nil ?_
   refine c_if (b := decide ((1 : Int) ≤ 64)) rfl (fun _ => ?_) (fun hb => absurd hb (by decide))
   refine c_seq ?_
   refine c_region ?_
   refine l_val rfl rfl rfl (r_move (v := .pointer (some ⟨pb0, 0, none⟩)) rfl) ?_
   refine l_val rfl rfl rfl (r_move (v := .int .i64 1) rfl) ?_
   refine l_make (rds := []) (makes_make1 (E := 5) (c := 64) (z := .int .u8 0) Tryd.underlying37 (info_of Tryd.typeInfo5) rfl rfl rfl rfl rfl rfl (by decide) (by decide) (by decide)) rfl rfl rfl (fun p2 => ?_)
   refine l_val rfl rfl rfl (r_nilCheck rfl) ?_
   refine l_val rfl rfl rfl (r_field Tryd.runUnderlying45 rfl Tryd.sizeOf37 rfl rfl) ?_
   refine l_store (i := 0) (vs := [.slice p2.1 1 p2.2]) (cs' := [.slice p2.1 1 p2.2, .int .i64 0, .int .i8 lr]) Tryd.sizeOf37 rfl rfl rfl rfl rfl rfl rfl rfl rfl ?_
   refine l_nil ?_
   refine c_seq ?_
   refine c_region ?_
   refine l_val rfl rfl rfl (r_assign (v := .int .i64 0) rfl) ?_
   refine l_nil ?_
   refine c_ret ?_
   refine c_both 0 2 rfl rfl (by decide) ?_
   exact ret1 (v := .int .i64 0) rfl rfl (finX (p2, (.int .u8 0 : Value)) (i := 0) rfl rfl (Imp.refl _))
  ·have hp1 : p.1 ≠ none := fun h => by rw [h] at hn; cases hn
   refine l_passed rfl rfl rfl ?_
   refine l_passed rfl rfl rfl ?_
   refine l_val rfl rfl rfl (r_pickF (v := .bool false) rfl rfl) ?_
   refine l_nil ?_
   refine c_false rfl ?_
   refine c_skip ?_
   have hq : gQuo (p.2 : Int) 2 = some ((p.2 : Int) / 2) := gQuo_nn (by omega) (by omega)
   have hs1 : gI ((p.2 : Int) / 2 - (m : Int)) = some ((p.2 : Int) / 2 - (m : Int)) := gI_ok (by omega)
   have hs2 : gI (9223372036854775807 - (p.2 : Int)) = some (9223372036854775807 - (p.2 : Int)) := gI_ok (by omega)
   have hs3 : gI (9223372036854775807 - (p.2 : Int) - 1) = some (9223372036854775807 - (p.2 : Int) - 1) := gI_ok (by omega)
   have hs4 : gI ((0 : Int) + 1) = some 1 := rfl
   have hadd : gI ((m : Int) + 1) = some ((m : Int) + 1) := gI_ok (by omega)
   refine c_seq ?_
   refine c_region ?_
   refine l_val rfl rfl rfl (r_move (v := .pointer (some ⟨pb0, 0, none⟩)) rfl) ?_
   refine l_val rfl rfl rfl (r_nilCheck rfl) ?_
   refine l_val rfl rfl rfl (r_field Tryd.runUnderlying45 rfl Tryd.sizeOf37 rfl rfl) ?_
   refine l_load1 (i := 0) (v := .slice p.1 m p.2) Tryd.isAgg37 rfl rfl rfl rfl rfl ?_
   refine l_val rfl rfl rfl (r_cap Tryd.underlying37 rfl) ?_
   refine l_val rfl rfl rfl (r_assign (v := .int .i64 (p.2 : Int)) rfl) ?_
   refine l_nil ?_
   refine c_seq ?_
   refine c_seq ?_
   refine c_region ?_
   refine l_val rfl rfl rfl (r_move (v := .int .i64 1) rfl) ?_
   refine l_val rfl rfl rfl (r_move (v := .int .i64 (p.2 : Int)) rfl) ?_
   refine l_val rfl rfl rfl (r_quoG rfl rfl hq) ?_
   refine l_val rfl rfl rfl (r_move (v := .int .i64 (m : Int)) rfl) ?_
   refine l_val rfl rfl rfl (r_subG rfl rfl hs1) ?_
   refine l_val rfl rfl rfl (r_leq rfl rfl) ?_
   refine l_nil ?_
   refine c_if (b := decide ((1 : Int) ≤ (p.2 : Int) / 2 - (m : Int))) rfl (fun hb => (by have := of_decide_eq_true hb; omega : False).elim) (fun _ => ?_)
   refine c_seq ?_
   refine c_region ?_
   refine l_val rfl rfl rfl (r_move (v := .int .i64 (p.2 : Int)) rfl) ?_
   refine l_val rfl rfl rfl (r_move (v := .int .i64 (p.2 : Int)) rfl) ?_
   refine l_val rfl rfl rfl (r_subG rfl rfl hs2) ?_
   refine l_val rfl rfl rfl (r_move (v := .int .i64 1) rfl) ?_
   refine l_val rfl rfl rfl (r_subG rfl rfl hs3) ?_
   refine l_val rfl rfl rfl (r_gtr rfl rfl) ?_
   refine l_nil ?_
   refine c_if (b := decide (9223372036854775807 - (p.2 : Int) - 1 < (p.2 : Int))) rfl (fun hb => (by have := of_decide_eq_true hb; omega : False).elim) (fun _ => ?_)
   exact c_regionD (Kd.p :: Kd.p :: Kd.p :: Kd.p :: Kd.d [0] _ :: Kd.p :: Kd.p :: Kd.p :: Kd.d [0] _ :: Kd.p :: Kd.p :: Kd.p :: Kd.p :: Kd.d [0] _ :: Kd.p :: Kd.p :: Kd.t 2 [1] _ _ :: Kd.p :: Kd.p :: Kd.sv 94 92 0 _ 45 :: []) 1 mixed (by
    refine d_val rfl rfl (r_move (v := .pointer (some ⟨pb0, 0, none⟩)) rfl) ?_
    refine d_val rfl rfl (r_move (v := .pointer (some ⟨pb0, 0, none⟩)) rfl) ?_
    refine d_val rfl rfl (r_nilCheck rfl) ?_
    refine d_val rfl rfl (r_field Tryd.runUnderlying45 rfl Tryd.sizeOf37 rfl rfl) ?_
    refine d_load1 (i := 0) (v := .slice p.1 m p.2) Tryd.isAgg37 rfl rfl rfl rfl ?_
    refine d_val rfl rfl (r_move (v := .pointer (some ⟨pb0, 0, none⟩)) rfl) ?_
    refine d_val rfl rfl (r_nilCheck rfl) ?_
    refine d_val rfl rfl (r_field Tryd.runUnderlying45 rfl Tryd.sizeOf3 rfl rfl) ?_
    refine d_load1 (i := 0) (v := .int .i64 0) Tryd.isAgg3 rfl rfl rfl rfl ?_
    refine d_val rfl rfl (r_slice0 Tryd.underlying37 Tryd.sizeOf5 rfl rfl) ?_
    refine d_val rfl rfl (r_move (v := .pointer (some ⟨pb0, 0, none⟩)) rfl) ?_
    refine d_val rfl rfl (r_nilCheck rfl) ?_
    refine d_val rfl rfl (r_field Tryd.runUnderlying45 rfl Tryd.sizeOf3 rfl rfl) ?_
    refine d_load1 (i := 0) (v := .int .i64 0) Tryd.isAgg3 rfl rfl rfl rfl ?_
    refine d_val rfl rfl (r_move (v := .int .i64 1) rfl) ?_
    refine d_val rfl rfl (r_addG rfl rfl hs4) ?_
    refine d_make (Cv := fun v => rowC 5 1 v m xs (m + 1)) (none, 0) (makes_call (G := fun x : (Option Addr × Nat) => .slice x.1 m x.2) (C := fun x : (Option Addr × Nat) => rowC 5 1 (.slice x.1 m x.2) m xs (m + 1)) (fun w L' hF hS hi => growS_does (i := 1) (ρ := Go.Proofs.Tryd.laysM290_ren) Go.Proofs.Tryd.laysM290 hS ((hi 1 (by simp)).trans rfl) hp1 hr hm h1) Tryd.call29 rfl) (fun _ => rfl) rfl rfl rfl (fun p2 => ?_)
    refine d_val rfl rfl (r_nilCheck rfl) ?_
    refine d_val rfl rfl (r_field Tryd.runUnderlying45 rfl Tryd.sizeOf37 rfl rfl) ?_
    refine d_storeV (i := 0) (vs := [.slice p2.1 m p2.2]) (cs' := fun v_ => [v_, .int .i64 0, .int .i8 lr]) Tryd.sizeOf37 rfl rfl rfl rfl rfl rfl rfl rfl rfl ?_
    refine d_nil ?_
    refine c_know (fun w hF hS => roomOf (i := 2) hS rfl) (fun hroom => ?_)
    refine c_seq ?_
    refine c_region ?_
    refine l_val rfl rfl rfl (r_move (v := .pointer (some ⟨pb0, 0, none⟩)) rfl) ?_
    refine l_val rfl rfl rfl (r_nilCheck rfl) ?_
    refine l_val rfl rfl rfl (r_field Tryd.runUnderlying45 rfl Tryd.sizeOf3 rfl rfl) ?_
    refine l_store (i := 0) (vs := [.int .i64 0]) (cs' := [.slice p2.1 m p2.2, .int .i64 0, .int .i8 lr]) Tryd.sizeOf3 rfl rfl rfl rfl rfl rfl rfl rfl rfl ?_
    refine l_nil ?_
    refine c_seq ?_
    refine c_region ?_
    refine l_val rfl rfl rfl (r_move (v := .pointer (some ⟨pb0, 0, none⟩)) rfl) ?_
    refine l_val rfl rfl rfl (r_move (v := .pointer (some ⟨pb0, 0, none⟩)) rfl) ?_
    refine l_val rfl rfl rfl (r_nilCheck rfl) ?_
    refine l_val rfl rfl rfl (r_field Tryd.runUnderlying45 rfl Tryd.sizeOf37 rfl rfl) ?_
    refine l_load1 (i := 0) (v := .slice p2.1 m p2.2) Tryd.isAgg37 rfl rfl rfl rfl rfl ?_
    refine l_val rfl rfl rfl (r_move (v := .int .i64 (m : Int)) rfl) ?_
    refine l_val rfl rfl rfl (r_move (v := .int .i64 1) rfl) ?_
    refine l_val rfl rfl rfl (r_addG rfl rfl hadd) ?_
    refine l_val rfl rfl rfl (r_sliceUp Tryd.underlying37 Tryd.sizeOf5 rfl rfl hroom) ?_
    refine l_val rfl rfl rfl (r_nilCheck rfl) ?_
    refine l_val rfl rfl rfl (r_field Tryd.runUnderlying45 rfl Tryd.sizeOf37 rfl rfl) ?_
    refine l_store (i := 0) (vs := [.slice p2.1 (m + 1) p2.2]) (cs' := [.slice p2.1 (m + 1) p2.2, .int .i64 0, .int .i8 lr]) Tryd.sizeOf37 rfl rfl rfl rfl rfl rfl rfl rfl rfl ?_
    refine l_nil ?_
    refine c_seq ?_
    refine c_region ?_
    refine l_val rfl rfl rfl (r_move (v := .int .i64 (m : Int)) rfl) ?_
    refine l_val rfl rfl rfl (r_assign (v := .int .i64 (m : Int)) rfl) ?_
    refine l_nil ?_
    refine c_ret ?_
    refine c_imp 2 rfl (imp_rowC _ _ _ _ _ _) ?_
    refine c_more 2 rfl hroom (fun y => ?_)
    refine c_both 0 2 rfl rfl (by decide) ?_
    exact ret1 (v := .int .i64 (m : Int)) rfl rfl (finX (p2, y) (i := 0) rfl rfl (Imp.refl _))
   ) (by kernel_rfl)

theorem k17 {a0 : List UInt8} {a1 : Int} {r : List UInt8} {pb0 : Nat} {w : World} {h : Heap} {S : Nat → Prop} (hcs : (bufC pb0 45 5 a0).P S w) (hlt : ∀ b, S b → b < w.heap.size) (hw : Know h w S) (H : gBldB a0 a1 = some r) : Does Tryd.prog 17 (List.toArray [.pointer (some ⟨pb0, 0, none⟩), .int .u8 a1]) w (fun v w' => ∃ x : Unit, v = .nilIface ∧ Turn w w' S (bufC pb0 45 5 r)) := by
 obtain ⟨rfl, h0, h1, hbl⟩ := gBldB_some H
 have ha : ofStr (a0 ++ [UInt8.ofNat a1.toNat]) = ofStr a0 ++ [a1] := ofStr_snoc a0 h0 h1
 refine enter (n := 26) Tryd.func17 rfl rfl rfl S [bufC pb0 45 5 a0] (Sat.one hcs hlt) ?_
 refine c_buf 0 rfl (fun p lr => ?_)
 have hone : ∀ v ∈ ((ofStr a0).map e8).flatten, v.oneCell' = true := by
  intro v hv
  rw [e8_flat] at hv
  obtain ⟨c, _, rfl⟩ := List.mem_map.1 hv
  rfl
 have hxl : ((ofStr a0).map e8).length = (ofStr a0).length := List.length_map _
 have hm : (ofStr a0).length + 1 ≤ 140737488355328 := by simpa [ofStr] using hbl
 generalize hM : (ofStr a0).length = m at hm hxl ⊢
 generalize hX : (ofStr a0).map e8 = xs at hone hxl ⊢
 refine c_split 0 rfl ?_
 refine c_seq ?_
 refine c_region ?_
 refine l_val rfl rfl rfl (r_assign (v := .nilIface) rfl) ?_
 refine l_nil ?_
 refine c_seq ?_
 refine c_region ?_
 refine l_val rfl rfl rfl (r_move (v := .pointer (some ⟨pb0, 0, none⟩)) rfl) ?_
 refine l_val rfl rfl rfl (r_nilCheck rfl) ?_
 refine l_val rfl rfl rfl (r_field Tryd.runUnderlying45 rfl Tryd.sizeOf43 rfl rfl) ?_
 refine l_store (i := 0) (vs := [.int .i8 0]) (cs' := [.slice p.1 m p.2, .int .i64 0, .int .i8 0]) Tryd.sizeOf43 rfl rfl rfl rfl rfl rfl rfl rfl rfl ?_
 refine l_nil ?_
 refine c_both 0 1 rfl rfl (by decide) ?_
 by_cases hr : m + 1 ≤ p.2
 ·skip
  refine c_seq ?_
  refine c_region ?_
  refine l_val rfl rfl rfl (r_move (v := .pointer (some ⟨pb0, 0, none⟩)) rfl) ?_
  refine l_turn (turns_callB (i := 0) (rds := []) (G := fun y : Value => .tuple #[.int .i64 (m : Int), .bool true]) (C := fun y : Value => bufB pb0 45 5 (m + 1) (xs ++ [[y]]) p 0) rfl (fun w L' S hF hS hi hp' hlt' ho hA => k23y hm hr hp' hlt') Tryd.call23 rfl) rfl rfl rfl (fun y => ?_)
  refine l_val rfl rfl rfl (r_move (v := .tuple #[.int .i64 (m : Int), .bool true]) rfl) ?_
  refine l_val rfl rfl rfl (r_extract (v := .int .i64 (m : Int)) rfl rfl) ?_
  refine l_val rfl rfl rfl (r_extract (v := .bool true) rfl rfl) ?_
  refine l_val rfl rfl rfl (r_assign (v := .int .i64 (m : Int)) rfl) ?_
  refine l_val rfl rfl rfl (r_assign (v := .bool true) rfl) ?_
  refine l_nil ?_
  refine c_seq ?_
  refine c_seq ?_
  refine c_region ?_
  refine l_val rfl rfl rfl (r_move (v := .bool true) rfl) ?_
  refine l_val rfl rfl rfl (r_notT rfl) ?_
  refine l_nil ?_
  refine c_false rfl ?_
  refine c_skip ?_
  refine c_splitAt 0 1 rfl rfl (by decide) ?_
  have hn : m + 1 = (xs ++ [[y]]).length := by rw [List.length_append, hxl]; rfl
  have hat : gAt (xs ++ [[y]]) (m : Int) = some [y] := by rw [gAt_nat (by rw [← hn]; omega)]; simp [← hxl]
  have hset : gSet (xs ++ [[y]]) (m : Int) [.int .u8 a1] = some (xs ++ [[.int .u8 a1]]) := by rw [gSet_ok (by omega) (by rw [← hn]; omega)]; simp [← hxl]
  refine c_imp 1 rfl (Imp.of (show rowV 5 1 (.slice p.1 (m + 1) p.2) (m + 1) (xs ++ [[y]]) = rowV 5 1 (.slice p.1 (m + 1) p.2) (m + 1) ((xs ++ [[y]]).map idC) from by rw [map_idC])) ?_
  refine c_seq ?_
  refine c_region ?_
  refine l_val rfl rfl rfl (r_move (v := .pointer (some ⟨pb0, 0, none⟩)) rfl) ?_
  refine l_val rfl rfl rfl (r_nilCheck rfl) ?_
  refine l_val rfl rfl rfl (r_field Tryd.runUnderlying45 rfl Tryd.sizeOf37 rfl rfl) ?_
  refine l_load1 (i := 0) (v := .slice p.1 (m + 1) p.2) Tryd.isAgg37 rfl rfl rfl rfl rfl ?_
  refine l_val rfl rfl rfl (r_move (v := .int .i64 (m : Int)) rfl) ?_
  refine l_val rfl rfl rfl (r_move (v := .int .u8 a1) rfl) ?_
  refine l_read (fun w hF hS => run_indexO (f := idC) (xs := xs ++ [[y]]) Tryd.underlying37 Tryd.sizeOf5 rfl rfl (rowOf (i := 1) hS rfl) hn hat) rfl rfl rfl ?_
  refine l_storeG (q := 1) (j := 0) (i := (m : Int)) (sz := 1) (hm := hn) (f := idC) (vs := [.int .u8 a1]) Tryd.sizeOf5 rfl rfl rfl rfl rfl rfl rfl rfl rfl (fun y_ hy_ => by cases hy_.symm.trans hat; rfl) hset ?_
  refine l_nil ?_
  refine c_seq ?_
  refine c_region ?_
  refine l_val rfl rfl rfl (r_assign (v := .nilIface) rfl) ?_
  refine l_nil ?_
  refine c_ret ?_
  refine c_both 0 1 rfl rfl (by decide) ?_
  exact ret1 (v := .nilIface) rfl rfl (finX () (i := 0) rfl rfl (imp_bufN (by rw [ha, List.length_append, hM]; rfl) (by rw [map_idC, ha, List.map_append, hX]; rfl)))
 ·skip
  refine c_seq ?_
  refine c_region ?_
  refine l_val rfl rfl rfl (r_move (v := .pointer (some ⟨pb0, 0, none⟩)) rfl) ?_
  refine l_turn (turns_callB (i := 0) (rds := []) (G := fun _ : Unit => .tuple #[.int .i64 0, .bool false]) (C := fun _ : Unit => bufB pb0 45 5 m xs p 0) rfl (fun w L' S hF hS hi hp' hlt' ho hA => k23n hm hr hp' hlt') Tryd.call23 rfl) rfl rfl rfl (fun _ => ?_)
  refine l_val rfl rfl rfl (r_move (v := .tuple #[.int .i64 0, .bool false]) rfl) ?_
  refine l_val rfl rfl rfl (r_extract (v := .int .i64 0) rfl rfl) ?_
  refine l_val rfl rfl rfl (r_extract (v := .bool false) rfl rfl) ?_
  refine l_val rfl rfl rfl (r_assign (v := .int .i64 0) rfl) ?_
  refine l_val rfl rfl rfl (r_assign (v := .bool false) rfl) ?_
  refine l_nil ?_
  refine c_seq ?_
  refine c_seq ?_
  refine c_region ?_
  refine l_val rfl rfl rfl (r_move (v := .bool false) rfl) ?_
  refine l_val rfl rfl rfl (r_notF rfl) ?_
  refine l_nil ?_
  refine c_true rfl ?_
  refine c_region ?_
  refine l_val rfl rfl rfl (r_move (v := .pointer (some ⟨pb0, 0, none⟩)) rfl) ?_
  refine l_turn (turns_callB (i := 0) (rds := []) (G := fun q : (Option Addr × Nat) × Value => .int .i64 (m : Int)) (C := fun q : (Option Addr × Nat) × Value => bufB pb0 45 5 (m + 1) (xs ++ [[q.2]]) q.1 0) rfl (fun w L' S hF hS hi hp' hlt' ho hA => k24 hm hr hone hp' hlt') Tryd.call24 rfl) rfl rfl rfl (fun q => ?_)
  refine l_val rfl rfl rfl (r_assign (v := .int .i64 (m : Int)) rfl) ?_
  refine l_nil ?_
  refine c_splitAt 0 1 rfl rfl (by decide) ?_
  have hn : m + 1 = (xs ++ [[q.2]]).length := by rw [List.length_append, hxl]; rfl
  have hat : gAt (xs ++ [[q.2]]) (m : Int) = some [q.2] := by rw [gAt_nat (by rw [← hn]; omega)]; simp [← hxl]
  have hset : gSet (xs ++ [[q.2]]) (m : Int) [.int .u8 a1] = some (xs ++ [[.int .u8 a1]]) := by rw [gSet_ok (by omega) (by rw [← hn]; omega)]; simp [← hxl]
  refine c_imp 1 rfl (Imp.of (show rowV 5 1 (.slice q.1.1 (m + 1) q.1.2) (m + 1) (xs ++ [[q.2]]) = rowV 5 1 (.slice q.1.1 (m + 1) q.1.2) (m + 1) ((xs ++ [[q.2]]).map idC) from by rw [map_idC])) ?_
  refine c_seq ?_
  refine c_region ?_
  refine l_val rfl rfl rfl (r_move (v := .pointer (some ⟨pb0, 0, none⟩)) rfl) ?_
  refine l_val rfl rfl rfl (r_nilCheck rfl) ?_
  refine l_val rfl rfl rfl (r_field Tryd.runUnderlying45 rfl Tryd.sizeOf37 rfl rfl) ?_
  refine l_load1 (i := 0) (v := .slice q.1.1 (m + 1) q.1.2) Tryd.isAgg37 rfl rfl rfl rfl rfl ?_
  refine l_val rfl rfl rfl (r_move (v := .int .i64 (m : Int)) rfl) ?_
  refine l_val rfl rfl rfl (r_move (v := .int .u8 a1) rfl) ?_
  refine l_read (fun w hF hS => run_indexO (f := idC) (xs := xs ++ [[q.2]]) Tryd.underlying37 Tryd.sizeOf5 rfl rfl (rowOf (i := 1) hS rfl) hn hat) rfl rfl rfl ?_
  refine l_storeG (q := 1) (j := 0) (i := (m : Int)) (sz := 1) (hm := hn) (f := idC) (vs := [.int .u8 a1]) Tryd.sizeOf5 rfl rfl rfl rfl rfl rfl rfl rfl rfl (fun y_ hy_ => by cases hy_.symm.trans hat; rfl) hset ?_
  refine l_nil ?_
  refine c_seq ?_
  refine c_region ?_
  refine l_val rfl rfl rfl (r_assign (v := .nilIface) rfl) ?_
  refine l_nil ?_
  refine c_ret ?_
  refine c_both 0 1 rfl rfl (by decide) ?_
  exact ret1 (v := .nilIface) rfl rfl (finX () (i := 0) rfl rfl (imp_bufN (by rw [ha, List.length_append, hM]; rfl) (by rw [map_idC, ha, List.map_append, hX]; rfl)))

theorem k16 {q0 : (List UInt8)} {pbq0 : Nat} {a0 : Int} {r : (List UInt8)} {w : World} {h : Heap} {S : Nat → Prop} (hcs : (bufC pbq0 45 5 q0).P S w) (hlt : ∀ b, S b → b < w.heap.size) (hw : Know h w S) (H : R_PackOf_1 q0 a0 = some r) : Does Tryd.prog 16 (List.toArray [.int .i64 a0, .pointer (some ⟨pbq0, 0, none⟩)]) w (fun v w' => ∃ x : Unit, v = (.tuple #[]) ∧ Turn w w' S (bufC pbq0 45 5 r)) := by
 refine enter (n := 25) Tryd.func16 rfl rfl rfl S [bufC pbq0 45 5 q0] (Sat.one hcs hlt) ?_
 refine c_seq ?_
 refine c_region ?_
 refine l_val rfl rfl rfl (r_move (v := .int .i64 a0) rfl) ?_
 obtain ⟨t5, h_t5, H18⟩ := bnd_some H; clear H
 refine l_val rfl rfl rfl (r_mulG rfl rfl h_t5) ?_
 refine l_val rfl rfl rfl (r_assign (v := .int .i64 t5) rfl) ?_
 refine l_nil ?_
 refine c_meet (r := r) (σ := Int) (τ := Unit) (fun s => R_PackOf_1_j1 q0 s) (fun s t => [(1, .pointer (some ⟨pbq0, 0, none⟩)), (3, .int .i64 s)]) (fun s t => [bufC pbq0 45 5 q0]) (fun s t => True) ?_ ?_
 ·refine c_seq ?_
  refine c_region ?_
  refine l_val rfl rfl rfl (r_move (v := .int .i64 a0) rfl) ?_
  refine l_val rfl rfl rfl (r_lss rfl rfl) ?_
  refine l_nil ?_
  refine c_if (b := (decide (a0 < 0))) rfl (fun hb => ?_) (fun hb => ?_)
  ·have H31 := cnd_t hb H18; clear H18
   refine c_region ?_
   refine l_val rfl rfl rfl (r_move (v := .int .i64 a0) rfl) ?_
   obtain ⟨t9, h_t9, H32⟩ := bnd_some H31; clear H31
   refine l_val rfl rfl rfl (r_mulG rfl rfl h_t9) ?_
   obtain ⟨t10, h_t10, H33⟩ := bnd_some H32; clear H32
   refine l_val rfl rfl rfl (r_subG rfl rfl h_t10) ?_
   refine l_val rfl rfl rfl (r_assign (v := .int .i64 t10) rfl) ?_
   refine l_nil ?_
   refine c_close t10 () 0 [0] (by exact ⟨rfl, rfl, trivial⟩) (by decide) rfl (by exact ⟨H33, trivial⟩) (Nat.lt_succ_self _)
  ·have H34 := cnd_f hb H18; clear H18
   refine c_skip ?_
   refine c_close t5 () 0 [0] (by exact ⟨rfl, rfl, trivial⟩) (by decide) rfl (by exact ⟨H34, trivial⟩) (Nat.lt_succ_self _)
 ·rintro x3 _ gg H19 _
  replace H19 : R_PackOf_1_j1 q0 x3 = some r := H19
  refine c_tidyF [(1, .pointer (some ⟨pbq0, 0, none⟩)), (3, .int .i64 x3)] [bufC pbq0 45 5 q0] rfl rfl ?_
  refine c_meet (r := r) (σ := Int × (List UInt8)) (τ := Unit) (fun s => R_PackOf_1_j2 s.1 s.2) (fun s t => [(1, .pointer (some ⟨pbq0, 0, none⟩)), (3, .int .i64 s.1)]) (fun s t => [bufC pbq0 45 5 s.2]) (fun s t => True) ?_ ?_
  ·refine c_block ?_
   refine c_fix (σ := Int × (List UInt8)) (τ := Unit) (fun next3 s => R_PackOf_1_l3 next3 s.1 s.2) (fun s t => [(1, .pointer (some ⟨pbq0, 0, none⟩)), (3, .int .i64 s.1)]) (fun s t => [bufC pbq0 45 5 s.2]) (fun s t => True) (x3, q0) () [0] H19 (by exact trivial) (by exact ⟨rfl, rfl, trivial⟩) (by decide) rfl ?_
   rintro ⟨x3_4, m_3⟩ _ m3 gg H23 _
   clear H19
   replace H23 : R_PackOf_1_l3 (it (fun next3 s => R_PackOf_1_l3 next3 s.1 s.2) m3) x3_4 m_3 = some r := H23
   generalize hn3 : it (fun next3 s => R_PackOf_1_l3 next3 s.1 s.2) m3 = next3 at H23
   refine c_tidyF [(1, .pointer (some ⟨pbq0, 0, none⟩)), (3, .int .i64 x3_4)] [bufC pbq0 45 5 m_3] rfl rfl ?_
   refine c_seq ?_
   refine c_seq ?_
   refine c_region ?_
   refine l_val rfl rfl rfl (r_move (v := .int .i64 x3_4) rfl) ?_
   refine l_val rfl rfl rfl (r_geq rfl rfl) ?_
   refine l_nil ?_
   refine c_if (b := (decide (32 ≤ x3_4))) rfl (fun hb => ?_) (fun hb => ?_)
   ·have H24 := cnd_t hb H23; clear H23
    refine c_skip ?_
    refine c_block ?_
    refine c_seq ?_
    refine c_region ?_
    refine l_val rfl rfl rfl (r_move (v := .int .i64 x3_4) rfl) ?_
    obtain ⟨t14, h_t14, H25⟩ := bnd_some H24; clear H24
    refine l_val rfl rfl rfl (r_remG rfl rfl h_t14) ?_
    obtain ⟨t15, h_t15, H26⟩ := bnd_some H25; clear H25
    refine l_val rfl rfl rfl (r_addG rfl rfl h_t15) ?_
    obtain ⟨t16, h_t16, H27⟩ := bnd_some H26; clear H26
    refine l_val rfl rfl rfl (r_addG rfl rfl h_t16) ?_
    refine l_val rfl rfl rfl (r_convG Tryd.runUnderlying3 Tryd.runUnderlying5 rfl (wr_u8 _)) ?_
    obtain ⟨t18, h_t18, H28⟩ := bnd_some H27; clear H27
    refine l_turn (turns_callB (i := 0) (rds := []) (G := fun _ : Unit => .nilIface) (C := fun _ => bufC pbq0 45 5 t18) rfl (fun w L' S hF hS hi hp hlt ho hA => k17 hp hlt (know_but w S) h_t18) Tryd.call17 rfl) rfl rfl rfl (fun _ => ?_)
    refine l_nil ?_
    refine c_region ?_
    refine l_val rfl rfl rfl (r_move (v := .int .i64 x3_4) rfl) ?_
    obtain ⟨t20, h_t20, H29⟩ := bnd_some H28; clear H28
    refine l_val rfl rfl rfl (r_quoG rfl rfl h_t20) ?_
    refine l_val rfl rfl rfl (r_assign (v := .int .i64 t20) rfl) ?_
    refine l_nil ?_
    refine c_close (t20, t18) () m3 [0] (by exact ⟨rfl, rfl, trivial⟩) (by decide) rfl (by exact ⟨(by subst hn3; exact H29), trivial⟩) (Nat.lt_succ_self _)
   ·have H30 := cnd_f hb H23; clear H23
    refine c_exit ?_
    refine c_close (x3_4, m_3) () 0 [0] (by exact ⟨rfl, rfl, trivial⟩) (by decide) rfl (by exact ⟨H30, trivial⟩) (Nat.lt_succ_self _)
  ·rintro ⟨x3_2, m⟩ _ gg H20 _
   replace H20 : R_PackOf_1_j2 x3_2 m = some r := H20
   refine c_tidyF [(1, .pointer (some ⟨pbq0, 0, none⟩)), (3, .int .i64 x3_2)] [bufC pbq0 45 5 m] rfl rfl ?_
   refine c_region ?_
   refine l_val rfl rfl rfl (r_move (v := .int .i64 x3_2) rfl) ?_
   obtain ⟨t22, h_t22, H21⟩ := bnd_some H20; clear H20
   refine l_val rfl rfl rfl (r_addG rfl rfl h_t22) ?_
   refine l_val rfl rfl rfl (r_convG Tryd.runUnderlying3 Tryd.runUnderlying5 rfl (wr_u8 _)) ?_
   obtain ⟨t24, h_t24, H22⟩ := bnd_some H21; clear H21
   refine l_turn (turns_callB (i := 0) (rds := []) (G := fun _ : Unit => .nilIface) (C := fun _ => bufC pbq0 45 5 t24) rfl (fun w L' S hF hS hi hp hlt ho hA => k17 hp hlt (know_but w S) h_t24) Tryd.call17 rfl) rfl rfl rfl (fun _ => ?_)
   refine l_nil ?_
   obtain rfl := Option.some.inj H22
   refine ret0n rfl (finX () (i := 0) rfl rfl (Imp.refl _))
theorem k18 {a0 : List UInt8} {pb0 : Nat} {w : World} {h : Heap} {S : Nat → Prop} (hcs : (bufC pb0 45 5 a0).P S w) (hlt : ∀ b, S b → b < w.heap.size) (hw : Know h w S) : Does Tryd.prog 18 (List.toArray [.pointer (some ⟨pb0, 0, none⟩)]) w (fun v w' => ∃ x : Unit, v = str a0 ∧ Turn w w' S empC) := by
 refine enter (n := 15) Tryd.func18 rfl rfl rfl S [bufC pb0 45 5 a0] (Sat.one hcs hlt) ?_
 refine c_buf 0 rfl (fun p lr => ?_)
 refine c_split 0 rfl ?_
 refine c_seq ?_
 refine c_region ?_
 refine l_val rfl rfl rfl (r_assign (v := str []) rfl) ?_
 refine l_nil ?_
 refine c_seq ?_
 refine c_seq ?_
 refine c_region ?_
 refine l_val rfl rfl rfl (r_move (v := .pointer (some ⟨pb0, 0, none⟩)) rfl) ?_
 refine l_val rfl rfl rfl (r_nilP (a := some ⟨pb0, 0, none⟩) Tryd.underlying58 rfl rfl) ?_
 refine l_nil ?_
 refine c_false rfl ?_
 refine c_skip ?_
 refine c_seq ?_
 exact c_regionD (Kd.p :: Kd.p :: Kd.p :: Kd.d [0] _ :: Kd.p :: Kd.p :: Kd.p :: Kd.d [0] _ :: Kd.p :: Kd.d [1] _ :: Kd.p :: []) 0 mixed (by
  refine d_val rfl rfl (r_move (v := .pointer (some ⟨pb0, 0, none⟩)) rfl) ?_
  refine d_val rfl rfl (r_nilCheck rfl) ?_
  refine d_val rfl rfl (r_field Tryd.runUnderlying45 rfl Tryd.sizeOf37 rfl rfl) ?_
  refine d_load1 (i := 0) (v := .slice p.1 (ofStr a0).length p.2) Tryd.isAgg37 rfl rfl rfl rfl ?_
  refine d_val rfl rfl (r_move (v := .pointer (some ⟨pb0, 0, none⟩)) rfl) ?_
  refine d_val rfl rfl (r_nilCheck rfl) ?_
  refine d_val rfl rfl (r_field Tryd.runUnderlying45 rfl Tryd.sizeOf3 rfl rfl) ?_
  refine d_load1 (i := 0) (v := .int .i64 0) Tryd.isAgg3 rfl rfl rfl rfl ?_
  refine d_val rfl rfl (r_slice0 Tryd.underlying37 Tryd.sizeOf5 rfl rfl) ?_
  refine d_readD (fun w L' hF hS hi => run_bytesS (bs := a0) rfl Tryd.underlying37 Tryd.underlying5 Tryd.underlying9 rfl (rowOf (i := 1) hS ((hi 1 (by simp)).trans rfl))) rfl rfl ?_
  refine d_val rfl rfl (r_assign (v := str a0) rfl) ?_
  refine d_nil ?_
  refine c_ret ?_
  refine c_emp ?_
  exact ret1 (v := str a0) rfl rfl (finX () (i := 2) rfl rfl (Imp.refl _))
 ) (by kernel_rfl)

theorem k6 {a0 : (List T_api_Place)} {v0 : Value} {r : (List UInt8)} {w : World} {h : Heap} (hw : Know h w noS) (f0 : FrS h 2 v0 (a0.map e_api_Place)) (H : R_PackOf a0 = some r) : Does Tryd.prog 6 (List.toArray [v0]) w (fun v w' => v = (str r) ∧ Grow w w') := by
 refine enter (n := 33) Tryd.func6 rfl rfl rfl noS [] (Sat.nil _ _) ?_
 refine c_seq ?_
 refine c_region ?_
 refine l_val rfl rfl rfl (r_assign (v := str []) rfl) ?_
 refine l_nil ?_
 refine c_seq ?_
 refine c_region ?_
 refine l_alloc (cs := [.slice none 0 0, .int .i64 0, .int .i8 0]) Tryd.zeroValue45 rfl rfl rfl (fun b3 => ?_)
 refine c_imp 0 rfl (imp_bufNew _ _ 5) ?_
 refine l_nil ?_
 refine c_seq ?_
 refine c_region ?_
 refine l_val rfl rfl rfl (r_makeFn (caps := #[.pointer (some ⟨b3, 0, none⟩)]) rfl) ?_
 refine l_val rfl rfl rfl (r_assign (v := .func (.func 16) #[] #[.pointer (some ⟨b3, 0, none⟩)]) rfl) ?_
 refine l_nil ?_
 refine c_seq ?_
 refine c_region ?_
 refine l_val rfl rfl rfl (r_build (pl := #[(0, 1), (1, 1)]) (ps := []) (cells := #[.int .i64 0, .int .i64 0]) Tryd.zeroValue34 Tryd.runUnderlying34 (fun w => by kernel_rfl) rfl rfl) ?_
 refine l_alloc (cs := [.int .i64 0, .int .i64 0]) Tryd.zeroValue34 rfl rfl rfl (fun b4 => ?_)
 refine l_store (i := 1) (vs := [.int .i64 0, .int .i64 0]) (cs' := [.int .i64 0, .int .i64 0]) Tryd.sizeOf34 rfl rfl rfl rfl rfl rfl rfl rfl rfl ?_
 refine l_nil ?_
 refine c_meet (r := r) (σ := (List UInt8)) (τ := Unit) (fun s => R_PackOf_j1 s) (fun s t => [(3, .pointer (some ⟨b3, 0, none⟩))]) (fun s t => [bufC b3 45 5 s]) (fun s t => True) ?_ ?_
 ·refine c_seq ?_
  refine c_region ?_
  refine l_val rfl rfl rfl (r_move (v := v0) rfl) ?_
  refine l_val rfl rfl rfl (r_lenF Tryd.underlying22 rfl f0 rfl) ?_
  refine l_val rfl rfl rfl (r_move (v := .int .i64 0) rfl) ?_
  refine l_nil ?_
  refine c_block ?_
  refine c_fix (σ := Int × (List UInt8) × Int × Int) (τ := Unit) (fun next2 s => R_PackOf_l2 a0 next2 s.1 s.2.1 s.2.2.1 s.2.2.2) (fun s t => [(3, .pointer (some ⟨b3, 0, none⟩)), (4, .func (.func 16) #[] #[.pointer (some ⟨b3, 0, none⟩)]), (5, .pointer (some ⟨b4, 0, none⟩)), (10, v0), (11, .int .i64 (a0.length : Int)), (12, .int .i64 s.1)]) (fun s t => [bufC b3 45 5 s.2.1, cellsC b4 [.int .i64 s.2.2.1, .int .i64 s.2.2.2] 34]) (fun s t => True) (0, [], 0, 0) () [0, 1] H (by exact trivial) (by exact ⟨rfl, rfl, rfl, rfl, rfl, rfl, trivial⟩) (by decide) rfl ?_
  rintro ⟨x12_2, m_5, m_6, m_7⟩ _ m2 gg H12 _
  clear H
  replace H12 : R_PackOf_l2 a0 (it (fun next2 s => R_PackOf_l2 a0 next2 s.1 s.2.1 s.2.2.1 s.2.2.2) m2) x12_2 m_5 m_6 m_7 = some r := H12
  generalize hn2 : it (fun next2 s => R_PackOf_l2 a0 next2 s.1 s.2.1 s.2.2.1 s.2.2.2) m2 = next2 at H12
  refine c_tidyF [(3, .pointer (some ⟨b3, 0, none⟩)), (4, .func (.func 16) #[] #[.pointer (some ⟨b3, 0, none⟩)]), (5, .pointer (some ⟨b4, 0, none⟩)), (10, v0), (11, .int .i64 (a0.length : Int)), (12, .int .i64 x12_2)] [bufC b3 45 5 m_5, cellsC b4 [.int .i64 m_6, .int .i64 m_7] 34] rfl rfl ?_
  refine c_seq ?_
  refine c_region ?_
  refine l_val rfl rfl rfl (r_lss rfl rfl) ?_
  refine l_nil ?_
  refine c_seq ?_
  refine c_if (b := (decide (x12_2 < (a0.length : Int)))) rfl (fun hb => ?_) (fun hb => ?_)
  ·have H13 := cnd_t hb H12; clear H12
   refine c_skip ?_
   refine c_seq ?_
   refine c_block ?_
   refine c_seq ?_
   refine c_region ?_
   obtain ⟨t14, h_t14, H14⟩ := bnd_some H13; clear H13
   refine l_val rfl rfl rfl (r_indexF Tryd.underlying22 Tryd.sizeOf34 rfl rfl f0 h_t14) ?_
   refine l_read (fun w hF hS => run_loadGN (f := e_api_Place) (i := x12_2) (sz := 2) (j := 0) (vs := [.int .i64 t14.Lat, .int .i64 t14.Lon]) Tryd.isAgg34 Tryd.sizeOf34 rfl rfl (f0.row (hw.now hF)) h_t14 rfl) rfl rfl rfl ?_
   refine l_alloc (cs := [.int .i64 0, .int .i64 0]) Tryd.zeroValue34 rfl rfl rfl (fun b5 => ?_)
   refine l_store (i := 2) (vs := [.int .i64 t14.Lat, .int .i64 t14.Lon]) (cs' := [.int .i64 t14.Lat, .int .i64 t14.Lon]) Tryd.sizeOf34 rfl rfl rfl rfl rfl rfl rfl rfl rfl ?_
   refine l_nil ?_
   refine c_seq ?_
   refine c_sel [0, 1, 2] [bufC b3 45 5 m_5, cellsC b4 [.int .i64 m_6, .int .i64 m_7] 34, cellsC b5 [.int .i64 t14.Lat, .int .i64 t14.Lon] 34] rfl (by decide) ?_
   refine c_region ?_
   refine l_val rfl rfl rfl (r_move (v := .func (.func 16) #[] #[.pointer (some ⟨b3, 0, none⟩)]) rfl) ?_
   refine l_val rfl rfl rfl (r_field Tryd.runUnderlying34 rfl Tryd.sizeOf3 rfl rfl) ?_
   refine l_load1 (i := 2) (v := .int .i64 t14.Lat) Tryd.isAgg3 rfl rfl rfl rfl rfl ?_
   refine l_val rfl rfl rfl (r_field Tryd.runUnderlying34 rfl Tryd.sizeOf3 rfl rfl) ?_
   refine l_load1 (i := 1) (v := .int .i64 m_6) Tryd.isAgg3 rfl rfl rfl rfl rfl ?_
   obtain ⟨t21, h_t21, H15⟩ := bnd_some H14; clear H14
   refine l_val rfl rfl rfl (r_subG rfl rfl h_t21) ?_
   obtain ⟨t22, h_t22, H16⟩ := bnd_some H15; clear H15
   refine l_turn (turns_callBV (caps := #[.pointer (some ⟨b3, 0, none⟩)]) (args := [.int .i64 t21]) (i := 0) (rds := []) (G := fun x : Unit => .tuple #[]) (C := fun x : Unit => bufC b3 45 5 t22) rfl (fun w L' S hF hS hi hp hlt ho hA => k16 hp hlt (know_but w S)  h_t22) Tryd.call16 rfl rfl) rfl rfl rfl (fun _ => ?_)
   refine l_nil ?_
   refine c_seq ?_
   refine c_region ?_
   refine l_val rfl rfl rfl (r_move (v := .func (.func 16) #[] #[.pointer (some ⟨b3, 0, none⟩)]) rfl) ?_
   refine l_val rfl rfl rfl (r_field Tryd.runUnderlying34 rfl Tryd.sizeOf3 rfl rfl) ?_
   refine l_load1 (i := 2) (v := .int .i64 t14.Lon) Tryd.isAgg3 rfl rfl rfl rfl rfl ?_
   refine l_val rfl rfl rfl (r_field Tryd.runUnderlying34 rfl Tryd.sizeOf3 rfl rfl) ?_
   refine l_load1 (i := 1) (v := .int .i64 m_7) Tryd.isAgg3 rfl rfl rfl rfl rfl ?_
   obtain ⟨t28, h_t28, H17⟩ := bnd_some H16; clear H16
   refine l_val rfl rfl rfl (r_subG rfl rfl h_t28) ?_
   obtain ⟨t29, h_t29, H18⟩ := bnd_some H17; clear H17
   refine l_turn (turns_callBV (caps := #[.pointer (some ⟨b3, 0, none⟩)]) (args := [.int .i64 t28]) (i := 0) (rds := []) (G := fun x : Unit => .tuple #[]) (C := fun x : Unit => bufC b3 45 5 t29) rfl (fun w L' S hF hS hi hp hlt ho hA => k16 hp hlt (know_but w S)  h_t29) Tryd.call16 rfl rfl) rfl rfl rfl (fun _ => ?_)
   refine l_nil ?_
   refine c_region ?_
   refine l_loadN (i := 2) (vs := [.int .i64 t14.Lat, .int .i64 t14.Lon]) Tryd.isAgg34 Tryd.sizeOf34 rfl rfl rfl rfl rfl ?_
   refine l_store (i := 1) (vs := [.int .i64 t14.Lat, .int .i64 t14.Lon]) (cs' := [.int .i64 t14.Lat, .int .i64 t14.Lon]) Tryd.sizeOf34 rfl rfl rfl rfl rfl rfl rfl rfl rfl ?_
   refine l_nil ?_
   refine c_region ?_
   obtain ⟨t31, h_t31, H19⟩ := bnd_some H18; clear H18
   refine l_val rfl rfl rfl (r_addG rfl rfl h_t31) ?_
   refine l_val rfl rfl rfl (r_move (v := .int .i64 t31) rfl) ?_
   refine l_nil ?_
   refine c_close (t31, t29, t14.Lat, t14.Lon) () m2 [0, 1] (by exact ⟨rfl, rfl, rfl, rfl, rfl, rfl, trivial⟩) (by decide) rfl (by exact ⟨(by subst hn2; exact H19), trivial⟩) (Nat.lt_succ_self _)
  ·have H20 := cnd_f hb H12; clear H12
   refine c_exit ?_
   refine c_close m_5 () 0 [0] (by exact ⟨rfl, trivial⟩) (by decide) rfl (by exact ⟨H20, trivial⟩) (Nat.lt_succ_self _)
 ·rintro m _ gg H11 _
  replace H11 : R_PackOf_j1 m = some r := H11
  refine c_tidyF [(3, .pointer (some ⟨b3, 0, none⟩))] [bufC b3 45 5 m] rfl rfl ?_
  refine c_seq ?_
  refine c_region ?_
  refine l_turn (turns_callB (i := 0) (rds := []) (G := fun _ : Unit => str m) (C := fun _ => empC) rfl (fun w L' S hF hS hi hp hlt ho hA => k18 hp hlt (know_but w S)) Tryd.call18 rfl) rfl rfl rfl (fun _ => ?_)
  refine l_val rfl rfl rfl (r_assign (v := str m) rfl) ?_
  refine l_nil ?_
  refine c_ret ?_
  obtain rfl := Option.some.inj H11
  refine ret1 (v := str m) rfl rfl (fin rfl)
theorem k7 {a0 : (List UInt8)} {a1 : Int} {a2 : (List UInt8)} {a3 : Int} {r : Bool} (H : Law_told_string a0 a1 a2 a3 = some r) : Ret Tryd.prog 7 [str a0, .int .i64 a1, str a2, .int .i64 a3] (.bool r) := by
 refine enterRet (n := 21) Tryd.func7 rfl rfl rfl (fun wd => ?_)
 refine c_seq ?_
 refine c_region ?_
 refine l_val rfl rfl rfl (r_assign (v := .bool false) rfl) ?_
 refine l_nil ?_
 refine c_seq ?_
 refine c_region ?_
 refine l_val rfl rfl rfl (r_assign (v := str []) rfl) ?_
 refine l_nil ?_
 refine c_meet (r := r) (σ := (List UInt8)) (τ := Unit) (fun s => Law_told_string_j1 a0 a1 a3 s) (fun s t => [(0, str a0), (1, .int .i64 a1), (2, str s), (3, .int .i64 a3)]) (fun s t => []) (fun s t => True) ?_ ?_
 ·refine c_seq ?_
  refine c_region ?_
  refine l_val rfl rfl rfl (r_move (v := .int .i64 a3) rfl) ?_
  refine l_val rfl rfl rfl (r_neq rfl rfl) ?_
  refine l_nil ?_
  refine c_if (b := (decide (a3 ≠ 0))) rfl (fun hb => ?_) (fun hb => ?_)
  ·have H9 := cnd_t hb H; clear H
   refine c_region ?_
   refine l_val rfl rfl rfl (r_move (v := str []) rfl) ?_
   refine l_val rfl rfl rfl (r_assign (v := str []) rfl) ?_
   refine l_nil ?_
   refine c_close [] () 0 [] (by exact ⟨rfl, rfl, rfl, rfl, trivial⟩) (by decide) rfl (by exact ⟨H9, trivial⟩) (Nat.lt_succ_self _)
  ·have H10 := cnd_f hb H; clear H
   refine c_skip ?_
   refine c_close a2 () 0 [] (by exact ⟨rfl, rfl, rfl, rfl, trivial⟩) (by decide) rfl (by exact ⟨H10, trivial⟩) (Nat.lt_succ_self _)
 ·rintro x2 _ gg H6 _
  replace H6 : Law_told_string_j1 a0 a1 a3 x2 = some r := H6
  refine c_tidyF [(0, str a0), (1, .int .i64 a1), (2, str x2), (3, .int .i64 a3)] [] rfl rfl ?_
  refine c_seq ?_
  refine c_region ?_
  refine l_val rfl rfl rfl (r_move (v := str a0) rfl) ?_
  refine l_val rfl rfl rfl (r_move (v := str x2) rfl) ?_
  refine l_val rfl rfl rfl (r_eqlT rfl rfl) ?_
  refine l_val rfl rfl rfl (r_move (v := .bool (decide (a0 = x2))) rfl) ?_
  refine split (fun hb => ?_) (fun hb => ?_)
  ·have H7 := cnd_t hb H6; clear H6
   refine l_val rfl rfl rfl (r_move (v := .int .i64 a1) rfl) ?_
   refine l_val rfl rfl rfl (r_move (v := .int .i64 a3) rfl) ?_
   refine l_val rfl rfl rfl (r_eql rfl rfl) ?_
   refine l_val rfl rfl rfl (r_pickT (v := .bool (decide (a1 = a3))) rfl rfl) ?_
   refine l_val rfl rfl rfl (r_assign (v := .bool (decide (a1 = a3))) rfl) ?_
   refine l_nil ?_
   refine c_ret ?_
   obtain rfl := Option.some.inj H7
   refine ret1 (v := .bool (decide (a1 = a3))) rfl rfl (fin rfl)
  ·have H8 := cnd_f hb H6; clear H6
   refine l_passed rfl rfl rfl ?_
   refine l_passed rfl rfl rfl ?_
   refine l_passed rfl rfl rfl ?_
   refine l_val rfl rfl rfl (r_pickF (v := .bool false) rfl rfl) ?_
   refine l_val rfl rfl rfl (r_assign (v := .bool false) rfl) ?_
   refine l_nil ?_
   refine c_ret ?_
   obtain rfl := Option.some.inj H8
   refine ret1 (v := .bool false) rfl rfl (fin rfl)
theorem k19 {a0 : (List UInt8)} {r : Int × (List UInt8) × Bool} (H : where_unpack a0 = some r) : Ret Tryd.prog 19 [str a0] (.tuple #[.int .i64 r.1, str r.2.1, .bool r.2.2]) := by
 refine enterRet (n := 57) Tryd.func19 rfl rfl rfl (fun wd => ?_)
 refine c_seq ?_
 refine c_region ?_
 refine l_val rfl rfl rfl (r_assign (v := .int .i64 0) rfl) ?_
 refine l_val rfl rfl rfl (r_assign (v := str []) rfl) ?_
 refine l_val rfl rfl rfl (r_assign (v := .bool false) rfl) ?_
 refine l_nil ?_
 refine c_seq ?_
 refine c_region ?_
 refine l_val rfl rfl rfl (r_assign (v := .int .i64 0) rfl) ?_
 refine l_nil ?_
 refine c_seq ?_
 refine c_seq ?_
 refine c_region ?_
 refine l_val rfl rfl rfl (r_assign (v := .int .i64 0) rfl) ?_
 refine l_nil ?_
 refine c_block ?_
 refine c_fix (σ := Int × Int) (τ := Unit) (fun next1 s => where_unpack_l1 a0 next1 s.1 s.2) (fun s t => [(0, str a0), (5, .int .i64 s.1), (6, .int .i64 s.2)]) (fun s t => []) (fun s t => True) (0, 0) () [] H (by exact trivial) (by exact ⟨rfl, rfl, rfl, trivial⟩) (by decide) rfl ?_
 rintro ⟨x5_2, x6_2⟩ _ m1 gg H35 _
 clear H
 replace H35 : where_unpack_l1 a0 (it (fun next1 s => where_unpack_l1 a0 next1 s.1 s.2) m1) x5_2 x6_2 = some r := H35
 generalize hn1 : it (fun next1 s => where_unpack_l1 a0 next1 s.1 s.2) m1 = next1 at H35
 refine c_tidyF [(0, str a0), (5, .int .i64 x5_2), (6, .int .i64 x6_2)] [] rfl rfl ?_
 refine c_seq ?_
 refine c_seq ?_
 refine c_region ?_
 refine l_val rfl rfl rfl (r_move (v := .int .i64 x6_2) rfl) ?_
 refine l_val rfl rfl rfl (r_move (v := str a0) rfl) ?_
 refine l_val rfl rfl rfl (r_lenT Tryd.underlying9 rfl) ?_
 refine l_val rfl rfl rfl (r_lss rfl rfl) ?_
 refine l_val rfl rfl rfl (r_move (v := .bool (decide (x6_2 < (a0.length : Int)))) rfl) ?_
 refine split (fun hb => ?_) (fun hb => ?_)
 ·have H36 := cnd_t hb H35; clear H35
  refine l_val rfl rfl rfl (r_move (v := .int .i64 x6_2) rfl) ?_
  refine l_val rfl rfl rfl (r_lss rfl rfl) ?_
  refine l_val rfl rfl rfl (r_pickT (v := .bool (decide (x6_2 < 6))) rfl rfl) ?_
  refine l_nil ?_
  refine c_if (b := (decide (x6_2 < 6))) rfl (fun hb => ?_) (fun hb => ?_)
  ·have H37 := cnd_t hb H36; clear H36
   refine c_skip ?_
   refine c_seq ?_
   refine c_block ?_
   refine c_seq ?_
   refine c_region ?_
   refine l_val rfl rfl rfl (r_move (v := str a0) rfl) ?_
   refine l_val rfl rfl rfl (r_move (v := .int .i64 x6_2) rfl) ?_
   obtain ⟨t20, h_t20, H38⟩ := bnd_some H37; clear H37
   refine l_val rfl rfl rfl (r_octG Tryd.underlying9 rfl rfl h_t20) ?_
   obtain ⟨t21, h_t21, H39⟩ := bnd_some H38; clear H38
   refine l_val rfl rfl rfl (r_convG Tryd.runUnderlying5 Tryd.runUnderlying3 rfl (gK_i64 h_t21)) ?_
   obtain ⟨t22, h_t22, H40⟩ := bnd_some H39; clear H39
   refine l_val rfl rfl rfl (r_subG rfl rfl h_t22) ?_
   refine l_val rfl rfl rfl (r_assign (v := .int .i64 t22) rfl) ?_
   refine l_nil ?_
   refine c_seq ?_
   refine c_seq ?_
   refine c_region ?_
   refine l_val rfl rfl rfl (r_move (v := .int .i64 t22) rfl) ?_
   obtain ⟨t24, h_t24, H41⟩ := bnd_some H40; clear H40
   refine l_call (k25 h_t24) Tryd.call25 rfl rfl rfl ?_
   refine l_nil ?_
   refine c_if (b := t24) rfl (fun hb => ?_) (fun hb => ?_)
   ·have H42 := cnd_t hb H41; clear H41
    refine c_seq ?_
    refine c_region ?_
    refine l_val rfl rfl rfl (r_assign (v := .int .i64 0) rfl) ?_
    refine l_val rfl rfl rfl (r_assign (v := str []) rfl) ?_
    refine l_val rfl rfl rfl (r_assign (v := .bool false) rfl) ?_
    refine l_nil ?_
    refine c_ret ?_
    obtain rfl := Option.some.inj H42
    refine ret3 (v1 := .int .i64 0) (v2 := str []) (v3 := .bool false) rfl rfl rfl rfl (fin rfl)
   ·have H43 := cnd_f hb H41; clear H41
    refine c_skip ?_
    refine c_seq ?_
    refine c_region ?_
    refine l_val rfl rfl rfl (r_move (v := .int .i64 x5_2) rfl) ?_
    refine l_val rfl rfl rfl (r_move (v := .int .i64 t22) rfl) ?_
    obtain ⟨t27, h_t27, H44⟩ := bnd_some H43; clear H43
    refine l_val rfl rfl rfl (r_remG rfl rfl h_t27) ?_
    refine l_val rfl rfl rfl (r_move (v := .int .i64 x6_2) rfl) ?_
    obtain ⟨t29, h_t29, H45⟩ := bnd_some H44; clear H44
    refine l_val rfl rfl rfl (r_mulG rfl rfl h_t29) ?_
    obtain ⟨t30, h_t30, H46⟩ := bnd_some H45; clear H45
    refine l_val rfl rfl rfl (r_shlG rfl rfl h_t30) ?_
    obtain ⟨t31, h_t31, H47⟩ := bnd_some H46; clear H46
    refine l_val rfl rfl rfl (r_addG rfl rfl h_t31) ?_
    refine l_val rfl rfl rfl (r_assign (v := .int .i64 t31) rfl) ?_
    refine l_nil ?_
    refine c_seq ?_
    refine c_seq ?_
    refine c_region ?_
    refine l_val rfl rfl rfl (r_move (v := .int .i64 t22) rfl) ?_
    refine l_val rfl rfl rfl (r_geq rfl rfl) ?_
    refine l_nil ?_
    refine c_if (b := (decide (32 ≤ t22))) rfl (fun hb => ?_) (fun hb => ?_)
    ·have H48 := cnd_t hb H47; clear H47
     refine c_exit ?_
     refine c_region ?_
     refine l_val rfl rfl rfl (r_move (v := .int .i64 x6_2) rfl) ?_
     obtain ⟨t17, h_t17, H49⟩ := bnd_some H48; clear H48
     refine l_val rfl rfl rfl (r_addG rfl rfl h_t17) ?_
     refine l_val rfl rfl rfl (r_assign (v := .int .i64 t17) rfl) ?_
     refine l_nil ?_
     refine c_close (t31, t17) () m1 [] (by exact ⟨rfl, rfl, rfl, trivial⟩) (by decide) rfl (by exact ⟨(by subst hn1; exact H49), trivial⟩) (Nat.lt_succ_self _)
    ·have H50 := cnd_f hb H47; clear H47
     refine c_skip ?_
     refine c_meet (r := r) (σ := Unit) (τ := Unit) (fun s => where_unpack_j2 a0 x6_2 t31) (fun s t => [(0, str a0), (5, .int .i64 t31), (6, .int .i64 x6_2), (13, .int .i64 x6_2), (14, .bool (decide (x6_2 < 6)))]) (fun s t => []) (fun s t => True) ?_ ?_
     ·refine c_seq ?_
      refine c_region ?_
      refine l_val rfl rfl rfl (r_move (v := .int .i64 t22) rfl) ?_
      refine l_val rfl rfl rfl (r_eql rfl rfl) ?_
      refine l_val rfl rfl rfl (r_move (v := .bool (decide (t22 = 0))) rfl) ?_
      refine split (fun hb => ?_) (fun hb => ?_)
      ·have H63 := cnd_t hb H50; clear H50
       refine l_val rfl rfl rfl (r_move (v := .int .i64 x6_2) rfl) ?_
       refine l_val rfl rfl rfl (r_gtr rfl rfl) ?_
       refine l_val rfl rfl rfl (r_pickT (v := .bool (decide (0 < x6_2))) rfl rfl) ?_
       refine l_nil ?_
       refine c_if (b := (decide (0 < x6_2))) rfl (fun hb => ?_) (fun hb => ?_)
       ·have H64 := cnd_t hb H63; clear H63
        refine c_seq ?_
        refine c_region ?_
        refine l_val rfl rfl rfl (r_assign (v := .int .i64 0) rfl) ?_
        refine l_val rfl rfl rfl (r_assign (v := str []) rfl) ?_
        refine l_val rfl rfl rfl (r_assign (v := .bool false) rfl) ?_
        refine l_nil ?_
        refine c_ret ?_
        obtain rfl := Option.some.inj H64
        refine ret3 (v1 := .int .i64 0) (v2 := str []) (v3 := .bool false) rfl rfl rfl rfl (fin rfl)
       ·have H65 := cnd_f hb H63; clear H63
        refine c_skip ?_
        refine c_close () () 0 [] (by exact ⟨rfl, rfl, rfl, rfl, rfl, trivial⟩) (by decide) rfl (by exact ⟨H65, trivial⟩) (Nat.lt_succ_self _)
      ·have H66 := cnd_f hb H50; clear H50
       refine l_passed rfl rfl rfl ?_
       refine l_passed rfl rfl rfl ?_
       refine l_val rfl rfl rfl (r_pickF (v := .bool false) rfl rfl) ?_
       refine l_nil ?_
       refine c_false rfl ?_
       refine c_skip ?_
       refine c_close () () 0 [] (by exact ⟨rfl, rfl, rfl, rfl, rfl, trivial⟩) (by decide) rfl (by exact ⟨H66, trivial⟩) (Nat.lt_succ_self _)
     ·rintro _ _ gg H51 _
      replace H51 : where_unpack_j2 a0 x6_2 t31 = some r := H51
      refine c_tidyF [(0, str a0), (5, .int .i64 t31), (6, .int .i64 x6_2), (13, .int .i64 x6_2), (14, .bool (decide (x6_2 < 6)))] [] rfl rfl ?_
      refine c_seq ?_
      refine c_seq ?_
      refine c_region ?_
      refine l_val rfl rfl rfl (r_move (v := .int .i64 t31) rfl) ?_
      obtain ⟨t41, h_t41, H52⟩ := bnd_some H51; clear H51
      refine l_val rfl rfl rfl (r_remG rfl rfl h_t41) ?_
      refine l_val rfl rfl rfl (r_eql rfl rfl) ?_
      refine l_nil ?_
      refine c_if (b := (decide (t41 = 1))) rfl (fun hb => ?_) (fun hb => ?_)
      ·have H53 := cnd_t hb H52; clear H52
       refine c_seq ?_
       exact c_regionD (Kd.p :: Kd.p :: Kd.p :: Kd.p :: Kd.p :: Kd.p :: Kd.p :: Kd.p :: Kd.p :: Kd.p :: Kd.p :: []) 0 mixed (by
        refine d_val rfl rfl (r_move (v := .int .i64 t31) rfl) ?_
        have h_t44 := bnd_val H53
        have H54 := bnd_rest H53
        refine d_val rfl rfl (r_addG rfl rfl h_t44) ?_
        have h_t45 := bnd_val H54
        have H55 := bnd_rest H54
        refine d_val rfl rfl (r_negG rfl h_t45) ?_
        have h_t46 := bnd_val H55
        have H56 := bnd_rest H55
        refine d_val rfl rfl (r_quoG rfl rfl h_t46) ?_
        refine d_val rfl rfl (r_move (v := str a0) rfl) ?_
        refine d_val rfl rfl (r_move (v := .int .i64 x6_2) rfl) ?_
        have h_t49 := bnd_val H56
        have H57 := bnd_rest H56
        refine d_val rfl rfl (r_addG rfl rfl h_t49) ?_
        have h_t50 := bnd_val H57
        have H58 := bnd_rest H57
        refine d_val rfl rfl (r_cutFromG Tryd.underlying9 rfl rfl h_t50) ?_
        refine d_val rfl rfl (r_assign (v := .int .i64 (val (gQuo (val (gI (-(val (gI (t31 + 1)))))) 2))) rfl) ?_
        refine d_val rfl rfl (r_assign (v := str (val (gCut a0 (val (gI (x6_2 + 1))) a0.length))) rfl) ?_
        refine d_val rfl rfl (r_assign (v := .bool true) rfl) ?_
        refine d_nil ?_
        refine c_ret ?_
        obtain rfl := Option.some.inj H58
        refine ret3 (v1 := .int .i64 (val (gQuo (val (gI (-(val (gI (t31 + 1)))))) 2))) (v2 := str (val (gCut a0 (val (gI (x6_2 + 1))) a0.length))) (v3 := .bool true) rfl rfl rfl rfl (fin rfl)
        ) (by kernel_rfl)
      ·have H59 := cnd_f hb H52; clear H52
       refine c_skip ?_
       refine c_seq ?_
       exact c_regionD (Kd.p :: Kd.p :: Kd.p :: Kd.p :: Kd.p :: Kd.p :: Kd.p :: Kd.p :: Kd.p :: []) 0 mixed (by
        refine d_val rfl rfl (r_move (v := .int .i64 t31) rfl) ?_
        have h_t52 := bnd_val H59
        have H60 := bnd_rest H59
        refine d_val rfl rfl (r_quoG rfl rfl h_t52) ?_
        refine d_val rfl rfl (r_move (v := str a0) rfl) ?_
        refine d_val rfl rfl (r_move (v := .int .i64 x6_2) rfl) ?_
        have h_t55 := bnd_val H60
        have H61 := bnd_rest H60
        refine d_val rfl rfl (r_addG rfl rfl h_t55) ?_
        have h_t56 := bnd_val H61
        have H62 := bnd_rest H61
        refine d_val rfl rfl (r_cutFromG Tryd.underlying9 rfl rfl h_t56) ?_
        refine d_val rfl rfl (r_assign (v := .int .i64 (val (gQuo t31 2))) rfl) ?_
        refine d_val rfl rfl (r_assign (v := str (val (gCut a0 (val (gI (x6_2 + 1))) a0.length))) rfl) ?_
        refine d_val rfl rfl (r_assign (v := .bool true) rfl) ?_
        refine d_nil ?_
        refine c_ret ?_
        obtain rfl := Option.some.inj H62
        refine ret3 (v1 := .int .i64 (val (gQuo t31 2))) (v2 := str (val (gCut a0 (val (gI (x6_2 + 1))) a0.length))) (v3 := .bool true) rfl rfl rfl rfl (fin rfl)
        ) (by kernel_rfl)
  ·have H67 := cnd_f hb H36; clear H36
   refine c_exit ?_
   refine c_seq ?_
   refine c_region ?_
   refine l_val rfl rfl rfl (r_assign (v := .int .i64 0) rfl) ?_
   refine l_val rfl rfl rfl (r_assign (v := str []) rfl) ?_
   refine l_val rfl rfl rfl (r_assign (v := .bool false) rfl) ?_
   refine l_nil ?_
   refine c_ret ?_
   obtain rfl := Option.some.inj H67
   refine ret3 (v1 := .int .i64 0) (v2 := str []) (v3 := .bool false) rfl rfl rfl rfl (fin rfl)
 ·have H68 := cnd_f hb H35; clear H35
  refine l_passed rfl rfl rfl ?_
  refine l_passed rfl rfl rfl ?_
  refine l_val rfl rfl rfl (r_pickF (v := .bool false) rfl rfl) ?_
  refine l_nil ?_
  refine c_false rfl ?_
  refine c_exit ?_
  refine c_seq ?_
  refine c_region ?_
  refine l_val rfl rfl rfl (r_assign (v := .int .i64 0) rfl) ?_
  refine l_val rfl rfl rfl (r_assign (v := str []) rfl) ?_
  refine l_val rfl rfl rfl (r_assign (v := .bool false) rfl) ?_
  refine l_nil ?_
  refine c_ret ?_
  obtain rfl := Option.some.inj H68
  refine ret3 (v1 := .int .i64 0) (v2 := str []) (v3 := .bool false) rfl rfl rfl rfl (fin rfl)
theorem k20 {a : Option Addr} {n c : Nat} (hc : n ≤ c) : Ret Tryd.prog 20 [.slice a n c] (.slice (cutA a 0 n 2) n n) := by
  refine enterRet (n := 9) Tryd.func20 rfl rfl rfl (fun wd => ?_)
  refine c_seq ?_
  refine c_region ?_
  refine l_val rfl rfl rfl (r_assign (v := .slice none 0 0) rfl) ?_
  refine l_nil ?_
  refine c_seq ?_
  refine c_region ?_
  refine l_val rfl rfl rfl (r_move (v := .slice a n c) rfl) ?_
  refine l_val rfl rfl rfl (r_move (v := .slice a n c) rfl) ?_
  refine l_val rfl rfl rfl (r_len Tryd.underlying22 rfl) ?_
  refine l_val rfl rfl rfl (r_move (v := .slice a n c) rfl) ?_
  refine l_val rfl rfl rfl (r_len Tryd.underlying22 rfl) ?_
  refine l_val rfl rfl rfl (r_sliceHM (a := a) (m := n) (c := c) (h := (n : Int)) (q := (n : Int)) Tryd.underlying22 Tryd.sizeOf34 rfl rfl rfl (Int.natCast_nonneg n) (Int.le_refl _) (Int.ofNat_le.2 hc)) ?_
  refine l_val rfl rfl rfl (r_assign (v := .slice (cutA a 0 n 2) n n) rfl) ?_
  refine l_nil ?_
  refine c_ret ?_
  exact ret1 (v := .slice (cutA a 0 n 2) n n) rfl rfl (fin rfl)

theorem k8 {a0 : (List UInt8)} {r : (List T_api_Place) × Int} {w : World} {h : Heap} (hw : Know h w noS) (H : where_Unpack a0 = some r) : Does Tryd.prog 8 (List.toArray [str a0]) w (fun v w' => ∃ x : (Option Addr × Nat), v = (.tuple #[.slice x.1 r.1.length x.2, .int .i64 r.2]) ∧ Turn w w' noS (roV 2 (.slice x.1 r.1.length x.2) r.1.length (r.1.map e_api_Place))) := by
 refine enter (n := 58) Tryd.func8 rfl rfl rfl noS [] (Sat.nil _ _) ?_
 refine c_seq ?_
 refine c_region ?_
 refine l_val rfl rfl rfl (r_assign (v := .slice none 0 0) rfl) ?_
 refine l_val rfl rfl rfl (r_assign (v := .int .i64 0) rfl) ?_
 refine l_nil ?_
 refine c_seq ?_
 refine c_seq ?_
 refine c_region ?_
 refine l_val rfl rfl rfl (r_move (v := str a0) rfl) ?_
 refine l_val rfl rfl rfl (r_lenT Tryd.underlying9 rfl) ?_
 refine l_val rfl rfl rfl (r_gtr rfl rfl) ?_
 refine l_nil ?_
 refine c_if (b := (decide (1000000 < (a0.length : Int)))) rfl (fun hb => ?_) (fun hb => ?_)
 ·have H37 := cnd_t hb H; clear H
  refine c_seq ?_
  refine c_region ?_
  refine l_val rfl rfl rfl (r_assign (v := .slice none 0 0) rfl) ?_
  refine l_val rfl rfl rfl (r_assign (v := .int .i64 4) rfl) ?_
  refine l_nil ?_
  refine c_ret ?_
  refine c_nilRow 34 2 ?_
  obtain rfl := Option.some.inj H37
  refine c_imp 0 rfl (row_ro _ _ _ _ _) ?_
  refine ret2 (v1 := .slice ((none, 0) : Option Addr × Nat).1 ([] : List T_api_Place).length ((none, 0) : Option Addr × Nat).2) (v2 := .int .i64 4) rfl rfl rfl (finX ((none, 0) : Option Addr × Nat) (i := 0) rfl rfl (Imp.refl _))
 ·have H38 := cnd_f hb H; clear H
  refine c_skip ?_
  refine c_seq ?_
  refine c_region ?_
  refine l_val rfl rfl rfl (r_assign (v := .slice none 0 0) rfl) ?_
  refine l_nil ?_
  refine c_seq ?_
  refine c_region ?_
  refine l_val rfl rfl rfl (r_build (pl := #[(0, 1), (1, 1)]) (ps := []) (cells := #[.int .i64 0, .int .i64 0]) Tryd.zeroValue34 Tryd.runUnderlying34 (fun w => by kernel_rfl) rfl rfl) ?_
  refine l_alloc (cs := [.int .i64 0, .int .i64 0]) Tryd.zeroValue34 rfl rfl rfl (fun b4 => ?_)
  refine l_store (i := 0) (vs := [.int .i64 0, .int .i64 0]) (cs' := [.int .i64 0, .int .i64 0]) Tryd.sizeOf34 rfl rfl rfl rfl rfl rfl rfl rfl rfl ?_
  refine l_nil ?_
  refine c_meet (r := r) (σ := (List T_api_Place)) (τ := (Option Addr × Nat)) (fun s => where_Unpack_j1 s) (fun s t => [(4, .slice t.1 s.length t.2)]) (fun s t => [rowV 34 2 (.slice t.1 s.length t.2) s.length (s.map e_api_Place)]) (fun s t => True) ?_ ?_
  ·refine c_block ?_
   refine c_nilRow 34 2 ?_
   refine c_fix (σ := (List UInt8) × Int × Int × (List T_api_Place)) (τ := (Option Addr × Nat)) (fun next2 s => where_Unpack_l2 next2 s.1 s.2.1 s.2.2.1 s.2.2.2) (fun s t => [(0, str s.1), (4, .slice t.1 s.2.2.2.length t.2), (5, .pointer (some ⟨b4, 0, none⟩))]) (fun s t => [cellsC b4 [.int .i64 s.2.1, .int .i64 s.2.2.1] 34, rowV 34 2 (.slice t.1 s.2.2.2.length t.2) s.2.2.2.length (s.2.2.2.map e_api_Place)]) (fun s t => True) (a0, 0, 0, ([] : List T_api_Place)) ((none, 0) : Option Addr × Nat) [0, 1] H38 (by exact trivial) (by exact ⟨rfl, rfl, rfl, trivial⟩) (by decide) rfl ?_
   rintro ⟨x0_2, m_3, m_4, l_3⟩ p_2 m2 gg H43 _
   clear H38
   replace H43 : where_Unpack_l2 (it (fun next2 s => where_Unpack_l2 next2 s.1 s.2.1 s.2.2.1 s.2.2.2) m2) x0_2 m_3 m_4 l_3 = some r := H43
   generalize hn2 : it (fun next2 s => where_Unpack_l2 next2 s.1 s.2.1 s.2.2.1 s.2.2.2) m2 = next2 at H43
   refine c_tidyF [(0, str x0_2), (4, .slice p_2.1 l_3.length p_2.2), (5, .pointer (some ⟨b4, 0, none⟩))] [cellsC b4 [.int .i64 m_3, .int .i64 m_4] 34, rowV 34 2 (.slice p_2.1 l_3.length p_2.2) l_3.length (l_3.map e_api_Place)] rfl rfl ?_
   refine c_seq ?_
   refine c_seq ?_
   refine c_region ?_
   refine l_val rfl rfl rfl (r_move (v := str x0_2) rfl) ?_
   refine l_val rfl rfl rfl (r_neqT rfl rfl) ?_
   refine l_nil ?_
   refine c_if (b := (decide (x0_2 ≠ []))) rfl (fun hb => ?_) (fun hb => ?_)
   ·have H44 := cnd_t hb H43; clear H43
    refine c_skip ?_
    refine c_block ?_
    refine c_seq ?_
    refine c_region ?_
    refine l_val rfl rfl rfl (r_move (v := str x0_2) rfl) ?_
    obtain ⟨t21, h_t21, H45⟩ := bnd_some H44; clear H44
    refine l_call (k19 h_t21) Tryd.call19 rfl rfl rfl ?_
    refine l_val rfl rfl rfl (r_move (v := .tuple #[.int .i64 t21.1, str t21.2.1, .bool t21.2.2]) rfl) ?_
    refine l_val rfl rfl rfl (r_extract (v := .int .i64 t21.1) rfl rfl) ?_
    refine l_val rfl rfl rfl (r_extract (v := str t21.2.1) rfl rfl) ?_
    refine l_val rfl rfl rfl (r_extract (v := .bool t21.2.2) rfl rfl) ?_
    refine l_val rfl rfl rfl (r_assign (v := .int .i64 t21.1) rfl) ?_
    refine l_val rfl rfl rfl (r_assign (v := str t21.2.1) rfl) ?_
    refine l_val rfl rfl rfl (r_assign (v := .bool t21.2.2) rfl) ?_
    refine l_nil ?_
    refine c_seq ?_
    refine c_region ?_
    refine l_val rfl rfl rfl (r_move (v := str t21.2.1) rfl) ?_
    obtain ⟨t27, h_t27, H46⟩ := bnd_some H45; clear H45
    refine l_call (k19 h_t27) Tryd.call19 rfl rfl rfl ?_
    refine l_val rfl rfl rfl (r_move (v := .tuple #[.int .i64 t27.1, str t27.2.1, .bool t27.2.2]) rfl) ?_
    refine l_val rfl rfl rfl (r_extract (v := .int .i64 t27.1) rfl rfl) ?_
    refine l_val rfl rfl rfl (r_extract (v := str t27.2.1) rfl rfl) ?_
    refine l_val rfl rfl rfl (r_extract (v := .bool t27.2.2) rfl rfl) ?_
    refine l_val rfl rfl rfl (r_assign (v := .int .i64 t27.1) rfl) ?_
    refine l_val rfl rfl rfl (r_assign (v := str t27.2.1) rfl) ?_
    refine l_val rfl rfl rfl (r_assign (v := .bool t27.2.2) rfl) ?_
    refine l_nil ?_
    refine c_seq ?_
    refine c_seq ?_
    refine c_region ?_
    refine l_val rfl rfl rfl (r_move (v := .bool t21.2.2) rfl) ?_
    refine l_val rfl rfl rfl (r_not rfl) ?_
    refine l_val rfl rfl rfl (r_move (v := .bool (!t21.2.2)) rfl) ?_
    refine split (fun hb => ?_) (fun hb => ?_)
    ·have H47 := cnd_t hb H46; clear H46
     refine l_passed rfl rfl rfl ?_
     refine l_passed rfl rfl rfl ?_
     refine l_val rfl rfl rfl (r_pickT (v := .bool true) rfl rfl) ?_
     refine l_nil ?_
     refine c_true rfl ?_
     refine c_seq ?_
     refine c_region ?_
     refine l_val rfl rfl rfl (r_assign (v := .slice none 0 0) rfl) ?_
     refine l_val rfl rfl rfl (r_assign (v := .int .i64 8) rfl) ?_
     refine l_nil ?_
     refine c_ret ?_
     refine c_nilRow 34 2 ?_
     obtain rfl := Option.some.inj H47
     refine c_imp 2 rfl (row_ro _ _ _ _ _) ?_
     refine ret2 (v1 := .slice ((none, 0) : Option Addr × Nat).1 ([] : List T_api_Place).length ((none, 0) : Option Addr × Nat).2) (v2 := .int .i64 8) rfl rfl rfl (finX ((none, 0) : Option Addr × Nat) (i := 2) rfl rfl (Imp.refl _))
    ·have H48 := cnd_f hb H46; clear H46
     refine l_val rfl rfl rfl (r_move (v := .bool t27.2.2) rfl) ?_
     refine l_val rfl rfl rfl (r_not rfl) ?_
     refine l_val rfl rfl rfl (r_pickF (v := .bool (!t27.2.2)) rfl rfl) ?_
     refine l_nil ?_
     refine c_if (b := (!t27.2.2)) rfl (fun hb => ?_) (fun hb => ?_)
     ·have H49 := cnd_t hb H48; clear H48
      refine c_seq ?_
      refine c_region ?_
      refine l_val rfl rfl rfl (r_assign (v := .slice none 0 0) rfl) ?_
      refine l_val rfl rfl rfl (r_assign (v := .int .i64 8) rfl) ?_
      refine l_nil ?_
      refine c_ret ?_
      refine c_nilRow 34 2 ?_
      obtain rfl := Option.some.inj H49
      refine c_imp 2 rfl (row_ro _ _ _ _ _) ?_
      refine ret2 (v1 := .slice ((none, 0) : Option Addr × Nat).1 ([] : List T_api_Place).length ((none, 0) : Option Addr × Nat).2) (v2 := .int .i64 8) rfl rfl rfl (finX ((none, 0) : Option Addr × Nat) (i := 2) rfl rfl (Imp.refl _))
     ·have H50 := cnd_f hb H48; clear H48
      refine c_skip ?_
      refine c_seq ?_
      refine c_region ?_
      refine l_val rfl rfl rfl (r_field Tryd.runUnderlying34 rfl Tryd.sizeOf3 rfl rfl) ?_
      refine l_load1 (i := 0) (v := .int .i64 m_3) Tryd.isAgg3 rfl rfl rfl rfl rfl ?_
      refine l_val rfl rfl rfl (r_move (v := .int .i64 t21.1) rfl) ?_
      obtain ⟨t40, h_t40, H51⟩ := bnd_some H50; clear H50
      refine l_val rfl rfl rfl (r_addG rfl rfl h_t40) ?_
      refine l_val rfl rfl rfl (r_field Tryd.runUnderlying34 rfl Tryd.sizeOf3 rfl rfl) ?_
      refine l_load1 (i := 0) (v := .int .i64 m_4) Tryd.isAgg3 rfl rfl rfl rfl rfl ?_
      refine l_val rfl rfl rfl (r_move (v := .int .i64 t27.1) rfl) ?_
      obtain ⟨t44, h_t44, H52⟩ := bnd_some H51; clear H51
      refine l_val rfl rfl rfl (r_addG rfl rfl h_t44) ?_
      refine l_val rfl rfl rfl (r_build (pl := #[(0, 1), (1, 1)]) (ps := [(0, .int .i64 t40), (1, .int .i64 t44)]) (cells := #[.int .i64 t40, .int .i64 t44]) Tryd.zeroValue34 Tryd.runUnderlying34 (fun w => by kernel_rfl) rfl rfl) ?_
      refine l_store (i := 0) (vs := [.int .i64 t40, .int .i64 t44]) (cs' := [.int .i64 t40, .int .i64 t44]) Tryd.sizeOf34 rfl rfl rfl rfl rfl rfl rfl rfl rfl ?_
      refine l_nil ?_
      refine c_seq ?_
      refine c_region ?_
      refine l_val rfl rfl rfl (r_move (v := .slice p_2.1 l_3.length p_2.2) rfl) ?_
      refine l_loadN (i := 0) (vs := [.int .i64 t40, .int .i64 t44]) Tryd.isAgg34 Tryd.sizeOf34 rfl rfl rfl rfl rfl ?_
      refine l_buildSlice (vs := [.agg #[.int .i64 t40, .int .i64 t44]]) (cs := [.int .i64 t40, .int .i64 t44]) Tryd.underlying22 Tryd.sizeOf34 Tryd.zeroValue34 rfl rfl rfl rfl rfl rfl rfl (fun b5 => ?_)
      obtain ⟨l49, h_l49, H53⟩ := bnd_some H52; clear H52
      refine l_turn (turns_appG (i := 1) (hn := rfl) (rds := [2]) (p := p_2) (sz := 2) (by_ := 16) (f := e_api_Place) (ys := l_3) (ls := ([(⟨t40, t44⟩ : T_api_Place)] : List T_api_Place)) (V := .slice (some ⟨b5, 0, none⟩) 1 1) Tryd.underlying22 (info_of Tryd.typeInfo34) rfl rfl rfl rfl rfl rfl rfl rfl rfl rfl (fun w L' hF hS hi => row_box (i := 2) hS ((hi 2 (by simp)).trans rfl) rfl rfl) (fun _ => rfl) (fun _ => rfl) h_l49) rfl rfl rfl (fun p_3 => ?_)
      refine l_val rfl rfl rfl (r_assign (v := .slice p_3.1 l49.length p_3.2) rfl) ?_
      refine l_nil ?_
      refine c_sel [0, 1, 2] [cellsC b4 [.int .i64 t40, .int .i64 t44] 34, rowV 34 2 (.slice p_3.1 l49.length p_3.2) l49.length (l49.map e_api_Place), cellsC b5 [.int .i64 t40, .int .i64 t44] 34] rfl (by decide) ?_
      refine c_region ?_
      refine l_val rfl rfl rfl (r_move (v := str t27.2.1) rfl) ?_
      refine l_val rfl rfl rfl (r_assign (v := str t27.2.1) rfl) ?_
      refine l_nil ?_
      refine c_close (t27.2.1, t40, t44, l49) p_3 m2 [0, 1] (by exact ⟨rfl, rfl, rfl, trivial⟩) (by decide) rfl (by exact ⟨(by subst hn2; exact H53), trivial⟩) (Nat.lt_succ_self _)
   ·have H54 := cnd_f hb H43; clear H43
    refine c_exit ?_
    refine c_close l_3 p_2 0 [1] (by exact ⟨rfl, trivial⟩) (by decide) rfl (by exact ⟨H54, trivial⟩) (Nat.lt_succ_self _)
  ·rintro l p gg H39 _
   replace H39 : where_Unpack_j1 l = some r := H39
   refine c_tidyF [(4, .slice p.1 l.length p.2)] [rowV 34 2 (.slice p.1 l.length p.2) l.length (l.map e_api_Place)] rfl rfl ?_
   refine c_seq ?_
   refine c_seq ?_
   refine c_region ?_
   refine l_val rfl rfl rfl (r_move (v := .slice p.1 l.length p.2) rfl) ?_
   obtain ⟨t52, h_t52, H40⟩ := bnd_some H39; clear H39
   refine l_callG (fun w hF hS => k11 (know_all w) (frs_own (i := 0) rfl hS rfl) h_t52) Tryd.call11 rfl rfl rfl ?_
   refine l_val rfl rfl rfl (r_assign (v := .int .i64 t52) rfl) ?_
   refine l_nil ?_
   refine c_seq ?_
   refine c_region ?_
   refine l_val rfl rfl rfl (r_move (v := .int .i64 t52) rfl) ?_
   refine l_val rfl rfl rfl (r_neq rfl rfl) ?_
   refine l_nil ?_
   refine c_if (b := (decide (t52 ≠ 0))) rfl (fun hb => ?_) (fun hb => ?_)
   ·have H41 := cnd_t hb H40; clear H40
    refine c_seq ?_
    refine c_region ?_
    refine l_val rfl rfl rfl (r_move (v := .int .i64 t52) rfl) ?_
    refine l_val rfl rfl rfl (r_assign (v := .slice none 0 0) rfl) ?_
    refine l_val rfl rfl rfl (r_assign (v := .int .i64 t52) rfl) ?_
    refine l_nil ?_
    refine c_ret ?_
    refine c_nilRow 34 2 ?_
    obtain rfl := Option.some.inj H41
    refine c_imp 1 rfl (row_ro _ _ _ _ _) ?_
    refine ret2 (v1 := .slice ((none, 0) : Option Addr × Nat).1 ([] : List T_api_Place).length ((none, 0) : Option Addr × Nat).2) (v2 := .int .i64 t52) rfl rfl rfl (finX ((none, 0) : Option Addr × Nat) (i := 1) rfl rfl (Imp.refl _))
   ·have H42 := cnd_f hb H40; clear H40
    refine c_skip ?_
    refine c_seq ?_
    refine c_region ?_
    refine l_val rfl rfl rfl (r_move (v := .slice p.1 l.length p.2) rfl) ?_
    refine l_callG (fun w hF hS => k20 (capOf (i := 0) hS rfl) w) Tryd.call20 rfl rfl rfl ?_
    refine l_val rfl rfl rfl (r_assign (v := .slice (cutA p.1 0 l.length 2) l.length l.length) rfl) ?_
    refine l_val rfl rfl rfl (r_assign (v := .int .i64 0) rfl) ?_
    refine l_nil ?_
    refine c_ret ?_
    obtain rfl := Option.some.inj H42
    refine c_imp 0 rfl (imp_clipO _ _ _ _ _ _) ?_
    refine ret2 (v1 := .slice (cutA p.1 0 l.length 2) l.length l.length) (v2 := .int .i64 0) rfl rfl rfl (finX (cutA p.1 0 l.length 2, l.length) (i := 0) rfl rfl (Imp.refl _))
theorem k9 {a0 : (List UInt8)} {r : (List T_api_Place) × Int} {w : World} {h : Heap} (hw : Know h w noS) (H : R_UnpackOf a0 = some r) : Does Tryd.prog 9 (List.toArray [str a0]) w (fun v w' => ∃ x : (Option Addr × Nat), v = (.tuple #[.slice x.1 r.1.length x.2, .int .i64 r.2]) ∧ Turn w w' noS (rowV 34 2 (.slice x.1 r.1.length x.2) r.1.length (r.1.map e_api_Place))) := by
 refine enter (n := 124) Tryd.func9 rfl rfl rfl noS [] (Sat.nil _ _) ?_
 refine c_seq ?_
 refine c_region ?_
 refine l_val rfl rfl rfl (r_assign (v := .slice none 0 0) rfl) ?_
 refine l_val rfl rfl rfl (r_assign (v := .int .i64 0) rfl) ?_
 refine l_nil ?_
 refine c_seq ?_
 refine c_seq ?_
 refine c_region ?_
 refine l_val rfl rfl rfl (r_move (v := str a0) rfl) ?_
 refine l_val rfl rfl rfl (r_lenT Tryd.underlying9 rfl) ?_
 refine l_val rfl rfl rfl (r_gtr rfl rfl) ?_
 refine l_nil ?_
 refine c_if (b := (decide (1000000 < (a0.length : Int)))) rfl (fun hb => ?_) (fun hb => ?_)
 ·have H65 := cnd_t hb H; clear H
  refine c_seq ?_
  refine c_region ?_
  refine l_val rfl rfl rfl (r_assign (v := .slice none 0 0) rfl) ?_
  refine l_val rfl rfl rfl (r_assign (v := .int .i64 4) rfl) ?_
  refine l_nil ?_
  refine c_ret ?_
  refine c_nilRow 34 2 ?_
  obtain rfl := Option.some.inj H65
  refine ret2 (v1 := .slice ((none, 0) : Option Addr × Nat).1 ([] : List T_api_Place).length ((none, 0) : Option Addr × Nat).2) (v2 := .int .i64 4) rfl rfl rfl (finX ((none, 0) : Option Addr × Nat) (i := 0) rfl rfl (Imp.refl _))
 ·have H66 := cnd_f hb H; clear H
  refine c_skip ?_
  refine c_seq ?_
  refine c_region ?_
  refine l_val rfl rfl rfl (r_assign (v := .slice none 0 0) rfl) ?_
  refine l_nil ?_
  refine c_meet (r := r) (σ := (List Int)) (τ := (Option Addr × Nat)) (fun s => R_UnpackOf_j1 s) (fun s t => [(4, .slice t.1 s.length t.2)]) (fun s t => [rowV 3 1 (.slice t.1 s.length t.2) s.length (s.map e_i64)]) (fun s t => True) ?_ ?_
  ·refine c_seq ?_
   refine c_region ?_
   refine l_val rfl rfl rfl (r_assign (v := .int .i64 0) rfl) ?_
   refine l_nil ?_
   refine c_block ?_
   refine c_nilRow 3 1 ?_
   refine c_fix (σ := Int × (List Int)) (τ := (Option Addr × Nat)) (fun next3 s => R_UnpackOf_l3 a0 next3 s.1 s.2) (fun s t => [(0, str a0), (4, .slice t.1 s.2.length t.2), (5, .int .i64 s.1)]) (fun s t => [rowV 3 1 (.slice t.1 s.2.length t.2) s.2.length (s.2.map e_i64)]) (fun s t => True) (0, ([] : List Int)) ((none, 0) : Option Addr × Nat) [0] H66 (by exact trivial) (by exact ⟨rfl, rfl, rfl, trivial⟩) (by decide) rfl ?_
   rintro ⟨x5_2, l_5⟩ p_4 m3 gg H87 _
   clear H66
   replace H87 : R_UnpackOf_l3 a0 (it (fun next3 s => R_UnpackOf_l3 a0 next3 s.1 s.2) m3) x5_2 l_5 = some r := H87
   generalize hn3 : it (fun next3 s => R_UnpackOf_l3 a0 next3 s.1 s.2) m3 = next3 at H87
   refine c_tidyF [(0, str a0), (4, .slice p_4.1 l_5.length p_4.2), (5, .int .i64 x5_2)] [rowV 3 1 (.slice p_4.1 l_5.length p_4.2) l_5.length (l_5.map e_i64)] rfl rfl ?_
   refine c_seq ?_
   refine c_seq ?_
   refine c_region ?_
   refine l_val rfl rfl rfl (r_move (v := .int .i64 x5_2) rfl) ?_
   refine l_val rfl rfl rfl (r_move (v := str a0) rfl) ?_
   refine l_val rfl rfl rfl (r_lenT Tryd.underlying9 rfl) ?_
   refine l_val rfl rfl rfl (r_lss rfl rfl) ?_
   refine l_nil ?_
   refine c_if (b := (decide (x5_2 < (a0.length : Int)))) rfl (fun hb => ?_) (fun hb => ?_)
   ·have H88 := cnd_t hb H87; clear H87
    refine c_skip ?_
    refine c_block ?_
    refine c_seq ?_
    refine c_region ?_
    refine l_val rfl rfl rfl (r_assign (v := .int .i64 0) rfl) ?_
    refine l_val rfl rfl rfl (r_assign (v := .int .i64 0) rfl) ?_
    refine l_val rfl rfl rfl (r_assign (v := .bool true) rfl) ?_
    refine l_nil ?_
    refine c_meet (r := r) (σ := Int × Int) (τ := Unit) (fun s => R_UnpackOf_j4 l_5 next3 s.1 s.2) (fun s t => [(0, str a0), (4, .slice p_4.1 l_5.length p_4.2), (5, .int .i64 s.1), (6, .int .i64 s.2)]) (fun s t => [rowV 3 1 (.slice p_4.1 l_5.length p_4.2) l_5.length (l_5.map e_i64)]) (fun s t => True) ?_ ?_
    ·refine c_block ?_
     refine c_fix (σ := Int × Int × Int × Bool) (τ := Unit) (fun next6 s => R_UnpackOf_l6 a0 l_5 next3 next6 s.1 s.2.1 s.2.2.1 s.2.2.2) (fun s t => [(0, str a0), (4, .slice p_4.1 l_5.length p_4.2), (5, .int .i64 s.1), (6, .int .i64 s.2.1), (7, .int .i64 s.2.2.1), (8, .bool s.2.2.2)]) (fun s t => [rowV 3 1 (.slice p_4.1 l_5.length p_4.2) l_5.length (l_5.map e_i64)]) (fun s t => True) (x5_2, 0, 0, true) () [0] H88 (by exact trivial) (by exact ⟨rfl, rfl, rfl, rfl, rfl, rfl, trivial⟩) (by decide) rfl ?_
     rintro ⟨x5_5, x6_4, x7_2, x8_2⟩ _ m6 gg H99 _
     clear H88
     replace H99 : R_UnpackOf_l6 a0 l_5 next3 (it (fun next6 s => R_UnpackOf_l6 a0 l_5 next3 next6 s.1 s.2.1 s.2.2.1 s.2.2.2) m6) x5_5 x6_4 x7_2 x8_2 = some r := H99
     generalize hn6 : it (fun next6 s => R_UnpackOf_l6 a0 l_5 next3 next6 s.1 s.2.1 s.2.2.1 s.2.2.2) m6 = next6 at H99
     refine c_tidyF [(0, str a0), (4, .slice p_4.1 l_5.length p_4.2), (5, .int .i64 x5_5), (6, .int .i64 x6_4), (7, .int .i64 x7_2), (8, .bool x8_2)] [rowV 3 1 (.slice p_4.1 l_5.length p_4.2) l_5.length (l_5.map e_i64)] rfl rfl ?_
     refine c_seq ?_
     refine c_seq ?_
     refine c_region ?_
     refine l_val rfl rfl rfl (r_move (v := .bool x8_2) rfl) ?_
     refine l_nil ?_
     refine c_if (b := x8_2) rfl (fun hb => ?_) (fun hb => ?_)
     ·have H100 := cnd_t hb H99; clear H99
      refine c_skip ?_
      refine c_block ?_
      refine c_seq ?_
      refine c_seq ?_
      refine c_region ?_
      refine l_val rfl rfl rfl (r_move (v := .int .i64 x5_5) rfl) ?_
      refine l_val rfl rfl rfl (r_move (v := str a0) rfl) ?_
      refine l_val rfl rfl rfl (r_lenT Tryd.underlying9 rfl) ?_
      refine l_val rfl rfl rfl (r_eql rfl rfl) ?_
      refine l_val rfl rfl rfl (r_move (v := .bool (decide (x5_5 = (a0.length : Int)))) rfl) ?_
      refine split (fun hb => ?_) (fun hb => ?_)
      ·have H101 := cnd_t hb H100; clear H100
       refine l_passed rfl rfl rfl ?_
       refine l_passed rfl rfl rfl ?_
       refine l_passed rfl rfl rfl ?_
       refine l_passed rfl rfl rfl ?_
       refine l_val rfl rfl rfl (r_pickT (v := .bool true) rfl rfl) ?_
       refine l_val rfl rfl rfl (r_move (v := .bool true) rfl) ?_
       refine l_passed rfl rfl rfl ?_
       refine l_passed rfl rfl rfl ?_
       refine l_passed rfl rfl rfl ?_
       refine l_passed rfl rfl rfl ?_
       refine l_val rfl rfl rfl (r_pickT (v := .bool true) rfl rfl) ?_
       refine l_val rfl rfl rfl (r_move (v := .bool true) rfl) ?_
       refine l_passed rfl rfl rfl ?_
       refine l_passed rfl rfl rfl ?_
       refine l_val rfl rfl rfl (r_pickT (v := .bool true) rfl rfl) ?_
       refine l_nil ?_
       refine c_true rfl ?_
       refine c_seq ?_
       refine c_region ?_
       refine l_val rfl rfl rfl (r_assign (v := .slice none 0 0) rfl) ?_
       refine l_val rfl rfl rfl (r_assign (v := .int .i64 8) rfl) ?_
       refine l_nil ?_
       refine c_ret ?_
       refine c_nilRow 34 2 ?_
       obtain rfl := Option.some.inj H101
       refine ret2 (v1 := .slice ((none, 0) : Option Addr × Nat).1 ([] : List T_api_Place).length ((none, 0) : Option Addr × Nat).2) (v2 := .int .i64 8) rfl rfl rfl (finX ((none, 0) : Option Addr × Nat) (i := 1) rfl rfl (Imp.refl _))
      ·have H102 := cnd_f hb H100; clear H100
       refine l_val rfl rfl rfl (r_move (v := str a0) rfl) ?_
       refine l_val rfl rfl rfl (r_move (v := .int .i64 x5_5) rfl) ?_
       obtain ⟨t29, h_t29, H103⟩ := bnd_some H102; clear H102
       refine l_val rfl rfl rfl (r_octG Tryd.underlying9 rfl rfl h_t29) ?_
       refine l_val rfl rfl rfl (r_lss rfl rfl) ?_
       refine l_val rfl rfl rfl (r_pickF (v := .bool (decide (t29 < 63))) rfl rfl) ?_
       refine l_val rfl rfl rfl (r_move (v := .bool (decide (t29 < 63))) rfl) ?_
       refine split (fun hb => ?_) (fun hb => ?_)
       ·have H104 := cnd_t hb H103; clear H103
        refine l_passed rfl rfl rfl ?_
        refine l_passed rfl rfl rfl ?_
        refine l_passed rfl rfl rfl ?_
        refine l_passed rfl rfl rfl ?_
        refine l_val rfl rfl rfl (r_pickT (v := .bool true) rfl rfl) ?_
        refine l_val rfl rfl rfl (r_move (v := .bool true) rfl) ?_
        refine l_passed rfl rfl rfl ?_
        refine l_passed rfl rfl rfl ?_
        refine l_val rfl rfl rfl (r_pickT (v := .bool true) rfl rfl) ?_
        refine l_nil ?_
        refine c_true rfl ?_
        refine c_seq ?_
        refine c_region ?_
        refine l_val rfl rfl rfl (r_assign (v := .slice none 0 0) rfl) ?_
        refine l_val rfl rfl rfl (r_assign (v := .int .i64 8) rfl) ?_
        refine l_nil ?_
        refine c_ret ?_
        refine c_nilRow 34 2 ?_
        obtain rfl := Option.some.inj H104
        refine ret2 (v1 := .slice ((none, 0) : Option Addr × Nat).1 ([] : List T_api_Place).length ((none, 0) : Option Addr × Nat).2) (v2 := .int .i64 8) rfl rfl rfl (finX ((none, 0) : Option Addr × Nat) (i := 1) rfl rfl (Imp.refl _))
       ·have H105 := cnd_f hb H103; clear H103
        refine l_val rfl rfl rfl (r_move (v := str a0) rfl) ?_
        refine l_val rfl rfl rfl (r_move (v := .int .i64 x5_5) rfl) ?_
        obtain ⟨t35, h_t35, H106⟩ := bnd_some H105; clear H105
        refine l_val rfl rfl rfl (r_octG Tryd.underlying9 rfl rfl h_t35) ?_
        refine l_val rfl rfl rfl (r_gtr rfl rfl) ?_
        refine l_val rfl rfl rfl (r_pickF (v := .bool (decide (126 < t35))) rfl rfl) ?_
        refine l_val rfl rfl rfl (r_move (v := .bool (decide (126 < t35))) rfl) ?_
        refine split (fun hb => ?_) (fun hb => ?_)
        ·have H107 := cnd_t hb H106; clear H106
         refine l_passed rfl rfl rfl ?_
         refine l_passed rfl rfl rfl ?_
         refine l_val rfl rfl rfl (r_pickT (v := .bool true) rfl rfl) ?_
         refine l_nil ?_
         refine c_true rfl ?_
         refine c_seq ?_
         refine c_region ?_
         refine l_val rfl rfl rfl (r_assign (v := .slice none 0 0) rfl) ?_
         refine l_val rfl rfl rfl (r_assign (v := .int .i64 8) rfl) ?_
         refine l_nil ?_
         refine c_ret ?_
         refine c_nilRow 34 2 ?_
         obtain rfl := Option.some.inj H107
         refine ret2 (v1 := .slice ((none, 0) : Option Addr × Nat).1 ([] : List T_api_Place).length ((none, 0) : Option Addr × Nat).2) (v2 := .int .i64 8) rfl rfl rfl (finX ((none, 0) : Option Addr × Nat) (i := 1) rfl rfl (Imp.refl _))
        ·have H108 := cnd_f hb H106; clear H106
         refine l_val rfl rfl rfl (r_move (v := .int .i64 x7_2) rfl) ?_
         refine l_val rfl rfl rfl (r_eql rfl rfl) ?_
         refine l_val rfl rfl rfl (r_pickF (v := .bool (decide (x7_2 = 6))) rfl rfl) ?_
         refine l_nil ?_
         refine c_if (b := (decide (x7_2 = 6))) rfl (fun hb => ?_) (fun hb => ?_)
         ·have H109 := cnd_t hb H108; clear H108
          refine c_seq ?_
          refine c_region ?_
          refine l_val rfl rfl rfl (r_assign (v := .slice none 0 0) rfl) ?_
          refine l_val rfl rfl rfl (r_assign (v := .int .i64 8) rfl) ?_
          refine l_nil ?_
          refine c_ret ?_
          refine c_nilRow 34 2 ?_
          obtain rfl := Option.some.inj H109
          refine ret2 (v1 := .slice ((none, 0) : Option Addr × Nat).1 ([] : List T_api_Place).length ((none, 0) : Option Addr × Nat).2) (v2 := .int .i64 8) rfl rfl rfl (finX ((none, 0) : Option Addr × Nat) (i := 1) rfl rfl (Imp.refl _))
         ·have H110 := cnd_f hb H108; clear H108
          refine c_skip ?_
          refine c_seq ?_
          refine c_region ?_
          refine l_val rfl rfl rfl (r_move (v := str a0) rfl) ?_
          refine l_val rfl rfl rfl (r_move (v := .int .i64 x5_5) rfl) ?_
          obtain ⟨t44, h_t44, H111⟩ := bnd_some H110; clear H110
          refine l_val rfl rfl rfl (r_octG Tryd.underlying9 rfl rfl h_t44) ?_
          obtain ⟨t45, h_t45, H112⟩ := bnd_some H111; clear H111
          refine l_val rfl rfl rfl (r_convG Tryd.runUnderlying5 Tryd.runUnderlying3 rfl (gK_i64 h_t45)) ?_
          obtain ⟨t46, h_t46, H113⟩ := bnd_some H112; clear H112
          refine l_val rfl rfl rfl (r_subG rfl rfl h_t46) ?_
          refine l_val rfl rfl rfl (r_assign (v := .int .i64 t46) rfl) ?_
          refine l_nil ?_
          refine c_seq ?_
          refine c_region ?_
          refine l_val rfl rfl rfl (r_move (v := .int .i64 t46) rfl) ?_
          refine l_val rfl rfl rfl (r_geq rfl rfl) ?_
          refine l_val rfl rfl rfl (r_assign (v := .bool (decide (32 ≤ t46))) rfl) ?_
          refine l_nil ?_
          refine c_seq ?_
          refine c_region ?_
          refine l_val rfl rfl rfl (r_move (v := .int .i64 x6_4) rfl) ?_
          refine l_val rfl rfl rfl (r_move (v := .int .i64 t46) rfl) ?_
          obtain ⟨t51, h_t51, H114⟩ := bnd_some H113; clear H113
          refine l_val rfl rfl rfl (r_remG rfl rfl h_t51) ?_
          refine l_val rfl rfl rfl (r_move (v := .int .i64 x7_2) rfl) ?_
          obtain ⟨t53, h_t53, H115⟩ := bnd_some H114; clear H114
          refine l_val rfl rfl rfl (r_mulG rfl rfl h_t53) ?_
          obtain ⟨t54, h_t54, H116⟩ := bnd_some H115; clear H115
          refine l_val rfl rfl rfl (r_shlG rfl rfl h_t54) ?_
          obtain ⟨t55, h_t55, H117⟩ := bnd_some H116; clear H116
          refine l_val rfl rfl rfl (r_addG rfl rfl h_t55) ?_
          refine l_val rfl rfl rfl (r_assign (v := .int .i64 t55) rfl) ?_
          refine l_nil ?_
          refine c_meet (r := r) (σ := Int) (τ := Unit) (fun s => R_UnpackOf_j7 x5_5 next6 t46 t55 s) (fun s t => [(0, str a0), (4, .slice p_4.1 l_5.length p_4.2), (5, .int .i64 x5_5), (6, .int .i64 t55), (7, .int .i64 s), (8, .bool (decide (32 ≤ t46))), (27, str a0), (28, .int .i64 x5_5), (29, .int .u8 t29), (30, .bool (decide (t29 < 63))), (33, str a0), (34, .int .i64 x5_5), (35, .int .u8 t35), (36, .bool (decide (126 < t35))), (39, .int .i64 x7_2), (40, .bool (decide (x7_2 = 6)))]) (fun s t => [rowV 3 1 (.slice p_4.1 l_5.length p_4.2) l_5.length (l_5.map e_i64)]) (fun s t => True) ?_ ?_
          ·refine c_seq ?_
           refine c_region ?_
           refine l_val rfl rfl rfl (r_move (v := .int .i64 x7_2) rfl) ?_
           obtain ⟨t57, h_t57, H120⟩ := bnd_some H117; clear H117
           refine l_val rfl rfl rfl (r_addG rfl rfl h_t57) ?_
           refine l_val rfl rfl rfl (r_assign (v := .int .i64 t57) rfl) ?_
           refine l_nil ?_
           refine c_seq ?_
           refine c_region ?_
           refine l_val rfl rfl rfl (r_move (v := .bool (decide (32 ≤ t46))) rfl) ?_
           refine l_val rfl rfl rfl (r_not rfl) ?_
           refine l_val rfl rfl rfl (r_move (v := .bool (!(decide (32 ≤ t46)))) rfl) ?_
           refine split (fun hb => ?_) (fun hb => ?_)
           ·have H121 := cnd_t hb H120; clear H120
            refine l_val rfl rfl rfl (r_move (v := .int .i64 t46) rfl) ?_
            refine l_val rfl rfl rfl (r_eql rfl rfl) ?_
            refine l_val rfl rfl rfl (r_pickT (v := .bool (decide (t46 = 0))) rfl rfl) ?_
            refine l_val rfl rfl rfl (r_move (v := .bool (decide (t46 = 0))) rfl) ?_
            refine split (fun hb => ?_) (fun hb => ?_)
            ·have H122 := cnd_t hb H121; clear H121
             refine l_val rfl rfl rfl (r_move (v := .int .i64 t57) rfl) ?_
             refine l_val rfl rfl rfl (r_gtr rfl rfl) ?_
             refine l_val rfl rfl rfl (r_pickT (v := .bool (decide (1 < t57))) rfl rfl) ?_
             refine l_nil ?_
             refine c_if (b := (decide (1 < t57))) rfl (fun hb => ?_) (fun hb => ?_)
             ·have H123 := cnd_t hb H122; clear H122
              refine c_seq ?_
              refine c_region ?_
              refine l_val rfl rfl rfl (r_assign (v := .slice none 0 0) rfl) ?_
              refine l_val rfl rfl rfl (r_assign (v := .int .i64 8) rfl) ?_
              refine l_nil ?_
              refine c_ret ?_
              refine c_nilRow 34 2 ?_
              obtain rfl := Option.some.inj H123
              refine ret2 (v1 := .slice ((none, 0) : Option Addr × Nat).1 ([] : List T_api_Place).length ((none, 0) : Option Addr × Nat).2) (v2 := .int .i64 8) rfl rfl rfl (finX ((none, 0) : Option Addr × Nat) (i := 1) rfl rfl (Imp.refl _))
             ·have H124 := cnd_f hb H122; clear H122
              refine c_skip ?_
              refine c_close t57 () 0 [0] (by exact ⟨rfl, rfl, rfl, rfl, rfl, rfl, rfl, rfl, rfl, rfl, rfl, rfl, rfl, rfl, rfl, rfl, trivial⟩) (by decide) rfl (by exact ⟨H124, trivial⟩) (Nat.lt_succ_self _)
            ·have H125 := cnd_f hb H121; clear H121
             refine l_passed rfl rfl rfl ?_
             refine l_passed rfl rfl rfl ?_
             refine l_val rfl rfl rfl (r_pickF (v := .bool false) rfl rfl) ?_
             refine l_nil ?_
             refine c_false rfl ?_
             refine c_skip ?_
             refine c_close t57 () 0 [0] (by exact ⟨rfl, rfl, rfl, rfl, rfl, rfl, rfl, rfl, rfl, rfl, rfl, rfl, rfl, rfl, rfl, rfl, trivial⟩) (by decide) rfl (by exact ⟨H125, trivial⟩) (Nat.lt_succ_self _)
           ·have H126 := cnd_f hb H120; clear H120
            refine l_passed rfl rfl rfl ?_
            refine l_passed rfl rfl rfl ?_
            refine l_val rfl rfl rfl (r_pickF (v := .bool false) rfl rfl) ?_
            refine l_val rfl rfl rfl (r_move (v := .bool false) rfl) ?_
            refine l_passed rfl rfl rfl ?_
            refine l_passed rfl rfl rfl ?_
            refine l_val rfl rfl rfl (r_pickF (v := .bool false) rfl rfl) ?_
            refine l_nil ?_
            refine c_false rfl ?_
            refine c_skip ?_
            refine c_close t57 () 0 [0] (by exact ⟨rfl, rfl, rfl, rfl, rfl, rfl, rfl, rfl, rfl, rfl, rfl, rfl, rfl, rfl, rfl, rfl, trivial⟩) (by decide) rfl (by exact ⟨H126, trivial⟩) (Nat.lt_succ_self _)
          ·rintro x7_3 _ gg H118 _
           replace H118 : R_UnpackOf_j7 x5_5 next6 t46 t55 x7_3 = some r := H118
           refine c_tidyF [(0, str a0), (4, .slice p_4.1 l_5.length p_4.2), (5, .int .i64 x5_5), (6, .int .i64 t55), (7, .int .i64 x7_3), (8, .bool (decide (32 ≤ t46))), (27, str a0), (28, .int .i64 x5_5), (29, .int .u8 t29), (30, .bool (decide (t29 < 63))), (33, str a0), (34, .int .i64 x5_5), (35, .int .u8 t35), (36, .bool (decide (126 < t35))), (39, .int .i64 x7_2), (40, .bool (decide (x7_2 = 6)))] [rowV 3 1 (.slice p_4.1 l_5.length p_4.2) l_5.length (l_5.map e_i64)] rfl rfl ?_
           refine c_region ?_
           refine l_val rfl rfl rfl (r_move (v := .int .i64 x5_5) rfl) ?_
           obtain ⟨t69, h_t69, H119⟩ := bnd_some H118; clear H118
           refine l_val rfl rfl rfl (r_addG rfl rfl h_t69) ?_
           refine l_val rfl rfl rfl (r_assign (v := .int .i64 t69) rfl) ?_
           refine l_nil ?_
           refine c_close (t69, t55, x7_3, (decide (32 ≤ t46))) () m6 [0] (by exact ⟨rfl, rfl, rfl, rfl, rfl, rfl, trivial⟩) (by decide) rfl (by exact ⟨(by subst hn6; exact H119), trivial⟩) (Nat.lt_succ_self _)
     ·have H127 := cnd_f hb H99; clear H99
      refine c_exit ?_
      refine c_close (x5_5, x6_4) () 0 [0] (by exact ⟨rfl, rfl, rfl, rfl, trivial⟩) (by decide) rfl (by exact ⟨H127, trivial⟩) (Nat.lt_succ_self _)
    ·rintro ⟨x5_3, x6⟩ _ gg H89 _
     replace H89 : R_UnpackOf_j4 l_5 next3 x5_3 x6 = some r := H89
     refine c_tidyF [(0, str a0), (4, .slice p_4.1 l_5.length p_4.2), (5, .int .i64 x5_3), (6, .int .i64 x6)] [rowV 3 1 (.slice p_4.1 l_5.length p_4.2) l_5.length (l_5.map e_i64)] rfl rfl ?_
     refine c_meet (r := r) (σ := Int) (τ := Unit) (fun s => R_UnpackOf_j5 l_5 next3 x5_3 s) (fun s t => [(0, str a0), (4, .slice p_4.1 l_5.length p_4.2), (5, .int .i64 x5_3), (6, .int .i64 s)]) (fun s t => [rowV 3 1 (.slice p_4.1 l_5.length p_4.2) l_5.length (l_5.map e_i64)]) (fun s t => True) ?_ ?_
     ·refine c_seq ?_
      refine c_region ?_
      refine l_val rfl rfl rfl (r_move (v := .int .i64 x6) rfl) ?_
      obtain ⟨t71, h_t71, H92⟩ := bnd_some H89; clear H89
      refine l_val rfl rfl rfl (r_remG rfl rfl h_t71) ?_
      refine l_val rfl rfl rfl (r_eql rfl rfl) ?_
      refine l_nil ?_
      refine c_if (b := (decide (t71 = 1))) rfl (fun hb => ?_) (fun hb => ?_)
      ·have H93 := cnd_t hb H92; clear H92
       refine c_region ?_
       refine l_val rfl rfl rfl (r_move (v := .int .i64 x6) rfl) ?_
       obtain ⟨t74, h_t74, H94⟩ := bnd_some H93; clear H93
       refine l_val rfl rfl rfl (r_addG rfl rfl h_t74) ?_
       obtain ⟨t75, h_t75, H95⟩ := bnd_some H94; clear H94
       refine l_val rfl rfl rfl (r_negG rfl h_t75) ?_
       obtain ⟨t76, h_t76, H96⟩ := bnd_some H95; clear H95
       refine l_val rfl rfl rfl (r_quoG rfl rfl h_t76) ?_
       refine l_val rfl rfl rfl (r_assign (v := .int .i64 t76) rfl) ?_
       refine l_nil ?_
       refine c_close t76 () 0 [0] (by exact ⟨rfl, rfl, rfl, rfl, trivial⟩) (by decide) rfl (by exact ⟨H96, trivial⟩) (Nat.lt_succ_self _)
      ·have H97 := cnd_f hb H92; clear H92
       refine c_region ?_
       refine l_val rfl rfl rfl (r_move (v := .int .i64 x6) rfl) ?_
       obtain ⟨t78, h_t78, H98⟩ := bnd_some H97; clear H97
       refine l_val rfl rfl rfl (r_quoG rfl rfl h_t78) ?_
       refine l_val rfl rfl rfl (r_assign (v := .int .i64 t78) rfl) ?_
       refine l_nil ?_
       refine c_close t78 () 0 [0] (by exact ⟨rfl, rfl, rfl, rfl, trivial⟩) (by decide) rfl (by exact ⟨H98, trivial⟩) (Nat.lt_succ_self _)
     ·rintro x6_2 _ gg H90 _
      replace H90 : R_UnpackOf_j5 l_5 next3 x5_3 x6_2 = some r := H90
      refine c_tidyF [(0, str a0), (4, .slice p_4.1 l_5.length p_4.2), (5, .int .i64 x5_3), (6, .int .i64 x6_2)] [rowV 3 1 (.slice p_4.1 l_5.length p_4.2) l_5.length (l_5.map e_i64)] rfl rfl ?_
      refine c_region ?_
      refine l_val rfl rfl rfl (r_move (v := .slice p_4.1 l_5.length p_4.2) rfl) ?_
      refine l_val rfl rfl rfl (r_move (v := .int .i64 x6_2) rfl) ?_
      refine l_buildSlice (vs := [.int .i64 x6_2]) (cs := [.int .i64 x6_2]) Tryd.underlying54 Tryd.sizeOf3 Tryd.zeroValue3 rfl rfl rfl rfl rfl rfl rfl (fun b5 => ?_)
      obtain ⟨l82, h_l82, H91⟩ := bnd_some H90; clear H90
      refine l_turn (turns_appG (i := 0) (hn := rfl) (rds := [1]) (p := p_4) (sz := 1) (by_ := 8) (f := e_i64) (ys := l_5) (ls := ([x6_2] : List Int)) (V := .slice (some ⟨b5, 0, none⟩) 1 1) Tryd.underlying54 (info_of Tryd.typeInfo3) rfl rfl rfl rfl rfl rfl rfl rfl rfl rfl (fun w L' hF hS hi => row_box (i := 1) hS ((hi 1 (by simp)).trans rfl) rfl rfl) (fun _ => rfl) (fun _ => rfl) h_l82) rfl rfl rfl (fun p_5 => ?_)
      refine l_val rfl rfl rfl (r_assign (v := .slice p_5.1 l82.length p_5.2) rfl) ?_
      refine l_nil ?_
      refine c_close (x5_3, l82) p_5 m3 [0] (by exact ⟨rfl, rfl, rfl, trivial⟩) (by decide) rfl (by exact ⟨(by subst hn3; exact H91), trivial⟩) (Nat.lt_succ_self _)
   ·have H128 := cnd_f hb H87; clear H87
    refine c_exit ?_
    refine c_close l_5 p_4 0 [0] (by exact ⟨rfl, trivial⟩) (by decide) rfl (by exact ⟨H128, trivial⟩) (Nat.lt_succ_self _)
  ·rintro l p gg H67 _
   replace H67 : R_UnpackOf_j1 l = some r := H67
   refine c_tidyF [(4, .slice p.1 l.length p.2)] [rowV 3 1 (.slice p.1 l.length p.2) l.length (l.map e_i64)] rfl rfl ?_
   refine c_seq ?_
   refine c_seq ?_
   refine c_region ?_
   refine l_val rfl rfl rfl (r_move (v := .slice p.1 l.length p.2) rfl) ?_
   refine l_val rfl rfl rfl (r_len Tryd.underlying54 rfl) ?_
   obtain ⟨t85, h_t85, H68⟩ := bnd_some H67; clear H67
   refine l_val rfl rfl rfl (r_remG rfl rfl h_t85) ?_
   refine l_val rfl rfl rfl (r_eql rfl rfl) ?_
   refine l_nil ?_
   refine c_if (b := (decide (t85 = 1))) rfl (fun hb => ?_) (fun hb => ?_)
   ·have H69 := cnd_t hb H68; clear H68
    refine c_seq ?_
    refine c_region ?_
    refine l_val rfl rfl rfl (r_assign (v := .slice none 0 0) rfl) ?_
    refine l_val rfl rfl rfl (r_assign (v := .int .i64 8) rfl) ?_
    refine l_nil ?_
    refine c_ret ?_
    refine c_nilRow 34 2 ?_
    obtain rfl := Option.some.inj H69
    refine ret2 (v1 := .slice ((none, 0) : Option Addr × Nat).1 ([] : List T_api_Place).length ((none, 0) : Option Addr × Nat).2) (v2 := .int .i64 8) rfl rfl rfl (finX ((none, 0) : Option Addr × Nat) (i := 1) rfl rfl (Imp.refl _))
   ·have H70 := cnd_f hb H68; clear H68
    refine c_skip ?_
    refine c_seq ?_
    refine c_seq ?_
    refine c_region ?_
    refine l_val rfl rfl rfl (r_move (v := .slice p.1 l.length p.2) rfl) ?_
    refine l_val rfl rfl rfl (r_len Tryd.underlying54 rfl) ?_
    obtain ⟨t89, h_t89, H71⟩ := bnd_some H70; clear H70
    refine l_val rfl rfl rfl (r_quoG rfl rfl h_t89) ?_
    refine l_val rfl rfl rfl (r_gtr rfl rfl) ?_
    refine l_nil ?_
    refine c_if (b := (decide (1000 < t89))) rfl (fun hb => ?_) (fun hb => ?_)
    ·have H72 := cnd_t hb H71; clear H71
     refine c_seq ?_
     refine c_region ?_
     refine l_val rfl rfl rfl (r_assign (v := .slice none 0 0) rfl) ?_
     refine l_val rfl rfl rfl (r_assign (v := .int .i64 4) rfl) ?_
     refine l_nil ?_
     refine c_ret ?_
     refine c_nilRow 34 2 ?_
     obtain rfl := Option.some.inj H72
     refine ret2 (v1 := .slice ((none, 0) : Option Addr × Nat).1 ([] : List T_api_Place).length ((none, 0) : Option Addr × Nat).2) (v2 := .int .i64 4) rfl rfl rfl (finX ((none, 0) : Option Addr × Nat) (i := 1) rfl rfl (Imp.refl _))
    ·have H73 := cnd_f hb H71; clear H71
     refine c_skip ?_
     refine c_seq ?_
     refine c_region ?_
     refine l_val rfl rfl rfl (r_assign (v := .slice none 0 0) rfl) ?_
     refine l_nil ?_
     refine c_seq ?_
     refine c_region ?_
     refine l_val rfl rfl rfl (r_build (pl := #[(0, 1), (1, 1)]) (ps := []) (cells := #[.int .i64 0, .int .i64 0]) Tryd.zeroValue34 Tryd.runUnderlying34 (fun w => by kernel_rfl) rfl rfl) ?_
     refine l_alloc (cs := [.int .i64 0, .int .i64 0]) Tryd.zeroValue34 rfl rfl rfl (fun b3 => ?_)
     refine l_store (i := 1) (vs := [.int .i64 0, .int .i64 0]) (cs' := [.int .i64 0, .int .i64 0]) Tryd.sizeOf34 rfl rfl rfl rfl rfl rfl rfl rfl rfl ?_
     refine l_nil ?_
     refine c_seq ?_
     refine c_seq ?_
     refine c_region ?_
     refine l_val rfl rfl rfl (r_assign (v := .int .i64 0) rfl) ?_
     refine l_nil ?_
     refine c_block ?_
     refine c_nilRow 34 2 ?_
     refine c_fix (σ := Int × Int × Int × (List T_api_Place)) (τ := (Option Addr × Nat)) (fun next2 s => R_UnpackOf_l2 l next2 s.1 s.2.1 s.2.2.1 s.2.2.2) (fun s t => [(4, .slice p.1 l.length p.2), (10, .slice t.1 s.2.2.2.length t.2), (11, .pointer (some ⟨b3, 0, none⟩)), (12, .int .i64 s.1)]) (fun s t => [rowV 3 1 (.slice p.1 l.length p.2) l.length (l.map e_i64), cellsC b3 [.int .i64 s.2.1, .int .i64 s.2.2.1] 34, rowV 34 2 (.slice t.1 s.2.2.2.length t.2) s.2.2.2.length (s.2.2.2.map e_api_Place)]) (fun s t => True) (0, 0, 0, ([] : List T_api_Place)) ((none, 0) : Option Addr × Nat) [0, 1, 2] H73 (by exact trivial) (by exact ⟨rfl, rfl, rfl, rfl, trivial⟩) (by decide) rfl ?_
     rintro ⟨x12_2, m_3, m_4, l_3⟩ p_2 m2 gg H74 _
     clear H73
     replace H74 : R_UnpackOf_l2 l (it (fun next2 s => R_UnpackOf_l2 l next2 s.1 s.2.1 s.2.2.1 s.2.2.2) m2) x12_2 m_3 m_4 l_3 = some r := H74
     generalize hn2 : it (fun next2 s => R_UnpackOf_l2 l next2 s.1 s.2.1 s.2.2.1 s.2.2.2) m2 = next2 at H74
     refine c_tidyF [(4, .slice p.1 l.length p.2), (10, .slice p_2.1 l_3.length p_2.2), (11, .pointer (some ⟨b3, 0, none⟩)), (12, .int .i64 x12_2)] [rowV 3 1 (.slice p.1 l.length p.2) l.length (l.map e_i64), cellsC b3 [.int .i64 m_3, .int .i64 m_4] 34, rowV 34 2 (.slice p_2.1 l_3.length p_2.2) l_3.length (l_3.map e_api_Place)] rfl rfl ?_
     refine c_seq ?_
     refine c_seq ?_
     refine c_sel [0, 1, 2] [rowV 3 1 (.slice p.1 l.length p.2) l.length (l.map e_i64), cellsC b3 [.int .i64 m_3, .int .i64 m_4] 34, rowV 34 2 (.slice p_2.1 l_3.length p_2.2) l_3.length (l_3.map e_api_Place)] rfl (by decide) ?_
     refine c_region ?_
     refine l_val rfl rfl rfl (r_move (v := .int .i64 x12_2) rfl) ?_
     refine l_val rfl rfl rfl (r_move (v := .slice p.1 l.length p.2) rfl) ?_
     refine l_val rfl rfl rfl (r_len Tryd.underlying54 rfl) ?_
     refine l_val rfl rfl rfl (r_lss rfl rfl) ?_
     refine l_nil ?_
     refine c_if (b := (decide (x12_2 < (l.length : Int)))) rfl (fun hb => ?_) (fun hb => ?_)
     ·have H75 := cnd_t hb H74; clear H74
      refine c_skip ?_
      refine c_seq ?_
      refine c_block ?_
      refine c_seq ?_
      exact c_regionD (Kd.p :: Kd.d [1] _ :: Kd.p :: Kd.p :: Kd.d [0] _ :: Kd.d [0] _ :: Kd.p :: Kd.p :: Kd.d [1] _ :: Kd.p :: Kd.p :: Kd.p :: Kd.d [0] _ :: Kd.d [0] _ :: Kd.p :: Kd.p :: Kd.st 11 1 [_, _] 34 :: []) 0 mixed (by
       refine d_val rfl rfl (r_field Tryd.runUnderlying34 rfl Tryd.sizeOf3 rfl rfl) ?_
       refine d_load1 (i := 1) (v := .int .i64 m_3) Tryd.isAgg3 rfl rfl rfl rfl ?_
       refine d_val rfl rfl (r_move (v := .slice p.1 l.length p.2) rfl) ?_
       refine d_val rfl rfl (r_move (v := .int .i64 x12_2) rfl) ?_
       have h_t102 := bnd_val H75
       have H76 := bnd_rest H75
       refine d_readD (fun w L' hF hS hi => run_indexO Tryd.underlying54 Tryd.sizeOf3 rfl rfl (rowOf (i := 0) (E := 3) (sz := 1) (n := l.length) (a := p.1) (c := p.2) hS ((hi 0 (by simp)).trans rfl)) rfl h_t102) rfl rfl ?_
       refine d_readD (fun w L' hF hS hi => run_loadG1 (f := e_i64) (i := x12_2) (sz := 1) (j := 0) (v := .int .i64 (val (gAt l x12_2))) Tryd.isAgg3 rfl rfl (rowOf (i := 0) (E := 3) (sz := 1) (n := l.length) (a := p.1) (c := p.2) hS ((hi 0 (by simp)).trans rfl)) h_t102 rfl) rfl rfl ?_
       have h_t104 := bnd_val H76
       have H77 := bnd_rest H76
       refine d_val rfl rfl (r_addG rfl rfl h_t104) ?_
       refine d_val rfl rfl (r_field Tryd.runUnderlying34 rfl Tryd.sizeOf3 rfl rfl) ?_
       refine d_load1 (i := 1) (v := .int .i64 m_4) Tryd.isAgg3 rfl rfl rfl rfl ?_
       refine d_val rfl rfl (r_move (v := .slice p.1 l.length p.2) rfl) ?_
       refine d_val rfl rfl (r_move (v := .int .i64 x12_2) rfl) ?_
       have h_t109 := bnd_val H77
       have H78 := bnd_rest H77
       refine d_val rfl rfl (r_addG rfl rfl h_t109) ?_
       have h_t110 := bnd_val H78
       have H79 := bnd_rest H78
       refine d_readD (fun w L' hF hS hi => run_indexO Tryd.underlying54 Tryd.sizeOf3 rfl rfl (rowOf (i := 0) (E := 3) (sz := 1) (n := l.length) (a := p.1) (c := p.2) hS ((hi 0 (by simp)).trans rfl)) rfl h_t110) rfl rfl ?_
       refine d_readD (fun w L' hF hS hi => run_loadG1 (f := e_i64) (i := (val (gI (x12_2 + 1)))) (sz := 1) (j := 0) (v := .int .i64 (val (gAt l (val (gI (x12_2 + 1)))))) Tryd.isAgg3 rfl rfl (rowOf (i := 0) (E := 3) (sz := 1) (n := l.length) (a := p.1) (c := p.2) hS ((hi 0 (by simp)).trans rfl)) h_t110 rfl) rfl rfl ?_
       have h_t112 := bnd_val H79
       have H80 := bnd_rest H79
       refine d_val rfl rfl (r_addG rfl rfl h_t112) ?_
       refine d_val rfl rfl (r_build (pl := #[(0, 1), (1, 1)]) (ps := [(0, .int .i64 (val (gI (m_3 + (val (gAt l x12_2)))))), (1, .int .i64 (val (gI (m_4 + (val (gAt l (val (gI (x12_2 + 1)))))))))]) (cells := #[.int .i64 (val (gI (m_3 + (val (gAt l x12_2))))), .int .i64 (val (gI (m_4 + (val (gAt l (val (gI (x12_2 + 1))))))))]) Tryd.zeroValue34 Tryd.runUnderlying34 (fun w => by kernel_rfl) rfl rfl) ?_
       refine d_store (i := 1) (vs := [.int .i64 (val (gI (m_3 + (val (gAt l x12_2))))), .int .i64 (val (gI (m_4 + (val (gAt l (val (gI (x12_2 + 1))))))))]) (cs' := [.int .i64 (val (gI (m_3 + (val (gAt l x12_2))))), .int .i64 (val (gI (m_4 + (val (gAt l (val (gI (x12_2 + 1))))))))]) Tryd.sizeOf34 rfl rfl rfl rfl rfl rfl rfl rfl rfl ?_
       refine d_nil ?_
       refine c_seq ?_
       refine c_seq ?_
       refine c_region ?_
       refine l_loadN (i := 1) (vs := [.int .i64 (val (gI (m_3 + (val (gAt l x12_2))))), .int .i64 (val (gI (m_4 + (val (gAt l (val (gI (x12_2 + 1))))))))]) Tryd.isAgg34 Tryd.sizeOf34 rfl rfl rfl rfl rfl ?_
       obtain ⟨t115, h_t115, H81⟩ := bnd_some H80; clear H80
       refine l_call (k15 h_t115) Tryd.call15 rfl rfl rfl ?_
       refine l_val rfl rfl rfl (r_assign (v := .int .i64 t115) rfl) ?_
       refine l_nil ?_
       refine c_seq ?_
       refine c_region ?_
       refine l_val rfl rfl rfl (r_move (v := .int .i64 t115) rfl) ?_
       refine l_val rfl rfl rfl (r_neq rfl rfl) ?_
       refine l_nil ?_
       refine c_if (b := (decide (t115 ≠ 0))) rfl (fun hb => ?_) (fun hb => ?_)
       ·have H82 := cnd_t hb H81; clear H81
        refine c_seq ?_
        refine c_region ?_
        refine l_val rfl rfl rfl (r_move (v := .int .i64 t115) rfl) ?_
        refine l_val rfl rfl rfl (r_assign (v := .slice none 0 0) rfl) ?_
        refine l_val rfl rfl rfl (r_assign (v := .int .i64 t115) rfl) ?_
        refine l_nil ?_
        refine c_ret ?_
        refine c_nilRow 34 2 ?_
        obtain rfl := Option.some.inj H82
        refine ret2 (v1 := .slice ((none, 0) : Option Addr × Nat).1 ([] : List T_api_Place).length ((none, 0) : Option Addr × Nat).2) (v2 := .int .i64 t115) rfl rfl rfl (finX ((none, 0) : Option Addr × Nat) (i := 3) rfl rfl (Imp.refl _))
       ·have H83 := cnd_f hb H81; clear H81
        refine c_skip ?_
        refine c_region ?_
        refine l_val rfl rfl rfl (r_move (v := .slice p_2.1 l_3.length p_2.2) rfl) ?_
        refine l_loadN (i := 1) (vs := [.int .i64 (val (gI (m_3 + (val (gAt l x12_2))))), .int .i64 (val (gI (m_4 + (val (gAt l (val (gI (x12_2 + 1))))))))]) Tryd.isAgg34 Tryd.sizeOf34 rfl rfl rfl rfl rfl ?_
        refine l_buildSlice (vs := [.agg #[.int .i64 (val (gI (m_3 + (val (gAt l x12_2))))), .int .i64 (val (gI (m_4 + (val (gAt l (val (gI (x12_2 + 1))))))))]]) (cs := [.int .i64 (val (gI (m_3 + (val (gAt l x12_2))))), .int .i64 (val (gI (m_4 + (val (gAt l (val (gI (x12_2 + 1))))))))]) Tryd.underlying22 Tryd.sizeOf34 Tryd.zeroValue34 rfl rfl rfl rfl rfl rfl rfl (fun b4 => ?_)
        obtain ⟨l122, h_l122, H84⟩ := bnd_some H83; clear H83
        refine l_turn (turns_appG (i := 2) (hn := rfl) (rds := [3]) (p := p_2) (sz := 2) (by_ := 16) (f := e_api_Place) (ys := l_3) (ls := ([(⟨(val (gI (m_3 + (val (gAt l x12_2))))), (val (gI (m_4 + (val (gAt l (val (gI (x12_2 + 1))))))))⟩ : T_api_Place)] : List T_api_Place)) (V := .slice (some ⟨b4, 0, none⟩) 1 1) Tryd.underlying22 (info_of Tryd.typeInfo34) rfl rfl rfl rfl rfl rfl rfl rfl rfl rfl (fun w L' hF hS hi => row_box (i := 3) hS ((hi 3 (by simp)).trans rfl) rfl rfl) (fun _ => rfl) (fun _ => rfl) h_l122) rfl rfl rfl (fun p_3 => ?_)
        refine l_val rfl rfl rfl (r_assign (v := .slice p_3.1 l122.length p_3.2) rfl) ?_
        refine l_nil ?_
        refine c_region ?_
        refine l_val rfl rfl rfl (r_move (v := .int .i64 x12_2) rfl) ?_
        obtain ⟨t97, h_t97, H85⟩ := bnd_some H84; clear H84
        refine l_val rfl rfl rfl (r_addG rfl rfl h_t97) ?_
        refine l_val rfl rfl rfl (r_assign (v := .int .i64 t97) rfl) ?_
        refine l_nil ?_
        refine c_close (t97, (val (gI (m_3 + (val (gAt l x12_2))))), (val (gI (m_4 + (val (gAt l (val (gI (x12_2 + 1)))))))), l122) p_3 m2 [0, 1, 2] (by exact ⟨rfl, rfl, rfl, rfl, trivial⟩) (by decide) rfl (by exact ⟨(by subst hn2; exact H85), trivial⟩) (Nat.lt_succ_self _)
       ) (by kernel_rfl)
     ·have H86 := cnd_f hb H74; clear H74
      refine c_exit ?_
      refine c_seq ?_
      refine c_region ?_
      refine l_val rfl rfl rfl (r_move (v := .slice p_2.1 l_3.length p_2.2) rfl) ?_
      refine l_val rfl rfl rfl (r_assign (v := .slice p_2.1 l_3.length p_2.2) rfl) ?_
      refine l_val rfl rfl rfl (r_assign (v := .int .i64 0) rfl) ?_
      refine l_nil ?_
      refine c_ret ?_
      obtain rfl := Option.some.inj H86
      refine ret2 (v1 := .slice p_2.1 l_3.length p_2.2) (v2 := .int .i64 0) rfl rfl rfl (finX p_2 (i := 2) rfl rfl (Imp.refl _))
theorem k21 {a0 : (List T_api_Place)} {v0 : Value} {a1 : (List T_api_Place)} {v1 : Value} {r : Bool} {w : World} {h : Heap} (hw : Know h w noS) (f0 : FrS h 2 v0 (a0.map e_api_Place)) (f1 : FrS h 2 v1 (a1.map e_api_Place)) (H : slices_Equal_api_Place a0 a1 = some r) : Does Tryd.prog 21 (List.toArray [v0, v1]) w (fun v w' => v = (.bool r) ∧ Grow w w') := by
 refine enter (n := 26) Tryd.func21 rfl rfl rfl noS [] (Sat.nil _ _) ?_
 refine c_seq ?_
 refine c_region ?_
 refine l_val rfl rfl rfl (r_assign (v := .bool false) rfl) ?_
 refine l_nil ?_
 refine c_seq ?_
 refine c_seq ?_
 refine c_region ?_
 refine l_val rfl rfl rfl (r_move (v := v0) rfl) ?_
 refine l_val rfl rfl rfl (r_lenF Tryd.underlying22 rfl f0 rfl) ?_
 refine l_val rfl rfl rfl (r_move (v := v1) rfl) ?_
 refine l_val rfl rfl rfl (r_lenF Tryd.underlying22 rfl f1 rfl) ?_
 refine l_val rfl rfl rfl (r_neq rfl rfl) ?_
 refine l_nil ?_
 refine c_if (b := (decide ((a0.length : Int) ≠ (a1.length : Int)))) rfl (fun hb => ?_) (fun hb => ?_)
 ·have H11 := cnd_t hb H; clear H
  refine c_seq ?_
  refine c_region ?_
  refine l_val rfl rfl rfl (r_assign (v := .bool false) rfl) ?_
  refine l_nil ?_
  refine c_ret ?_
  obtain rfl := Option.some.inj H11
  refine ret1 (v := .bool false) rfl rfl (fin rfl)
 ·have H12 := cnd_f hb H; clear H
  refine c_skip ?_
  refine c_seq ?_
  refine c_seq ?_
  refine c_region ?_
  refine l_val rfl rfl rfl (r_move (v := v0) rfl) ?_
  refine l_val rfl rfl rfl (r_lenF Tryd.underlying22 rfl f0 rfl) ?_
  refine l_val rfl rfl rfl (r_move (v := .int .i64 0) rfl) ?_
  refine l_nil ?_
  refine c_block ?_
  refine c_fix (σ := Int) (τ := Unit) (fun next1 s => slices_Equal_api_Place_l1 a0 a1 next1 s) (fun s t => [(0, v0), (1, v1), (12, .int .i64 (a0.length : Int)), (13, .int .i64 s)]) (fun s t => []) (fun s t => True) 0 () [] H12 (by exact trivial) (by exact ⟨rfl, rfl, rfl, rfl, trivial⟩) (by decide) rfl ?_
  rintro x13_2 _ m1 gg H13 _
  clear H12
  replace H13 : slices_Equal_api_Place_l1 a0 a1 (it (fun next1 s => slices_Equal_api_Place_l1 a0 a1 next1 s) m1) x13_2 = some r := H13
  generalize hn1 : it (fun next1 s => slices_Equal_api_Place_l1 a0 a1 next1 s) m1 = next1 at H13
  refine c_tidyF [(0, v0), (1, v1), (12, .int .i64 (a0.length : Int)), (13, .int .i64 x13_2)] [] rfl rfl ?_
  refine c_seq ?_
  refine c_region ?_
  refine l_val rfl rfl rfl (r_lss rfl rfl) ?_
  refine l_nil ?_
  refine c_seq ?_
  refine c_if (b := (decide (x13_2 < (a0.length : Int)))) rfl (fun hb => ?_) (fun hb => ?_)
  ·have H14 := cnd_t hb H13; clear H13
   refine c_skip ?_
   refine c_seq ?_
   refine c_block ?_
   refine c_seq ?_
   refine c_region ?_
   refine l_val rfl rfl rfl (r_move (v := .int .i64 x13_2) rfl) ?_
   refine l_val rfl rfl rfl (r_assign (v := .int .i64 x13_2) rfl) ?_
   refine l_nil ?_
   refine c_seq ?_
   exact c_regionD (Kd.p :: Kd.p :: Kd.p :: Kd.d [] _ :: Kd.p :: Kd.p :: Kd.p :: Kd.d [] _ :: Kd.p :: []) 0 mixed (by
    refine d_val rfl rfl (r_move (v := v0) rfl) ?_
    refine d_val rfl rfl (r_move (v := .int .i64 x13_2) rfl) ?_
    have h_t18 := bnd_val H14
    have H15 := bnd_rest H14
    refine d_val rfl rfl (r_indexF Tryd.underlying22 Tryd.sizeOf34 rfl rfl f0 h_t18) ?_
    refine d_read (fun w hF => run_loadGN (f := e_api_Place) (i := x13_2) (sz := 2) (j := 0) (vs := [.int .i64 (val (gAt a0 x13_2)).Lat, .int .i64 (val (gAt a0 x13_2)).Lon]) Tryd.isAgg34 Tryd.sizeOf34 rfl rfl (f0.row (hw.now hF)) h_t18 rfl) rfl rfl ?_
    refine d_val rfl rfl (r_move (v := v1) rfl) ?_
    refine d_val rfl rfl (r_move (v := .int .i64 x13_2) rfl) ?_
    have h_t22 := bnd_val H15
    have H16 := bnd_rest H15
    refine d_val rfl rfl (r_indexF Tryd.underlying22 Tryd.sizeOf34 rfl rfl f1 h_t22) ?_
    refine d_read (fun w hF => run_loadGN (f := e_api_Place) (i := x13_2) (sz := 2) (j := 0) (vs := [.int .i64 (val (gAt a1 x13_2)).Lat, .int .i64 (val (gAt a1 x13_2)).Lon]) Tryd.isAgg34 Tryd.sizeOf34 rfl rfl (f1.row (hw.now hF)) h_t22 rfl) rfl rfl ?_
    refine d_val rfl rfl (r_neqA (xs := #[.int .i64 (val (gAt a0 x13_2)).Lat, .int .i64 (val (gAt a0 x13_2)).Lon]) (ys := #[.int .i64 (val (gAt a1 x13_2)).Lat, .int .i64 (val (gAt a1 x13_2)).Lon]) Tryd.eqGuardType34 (fun w => run_eq_api_Place w (val (gAt a0 x13_2)) (val (gAt a1 x13_2))) rfl rfl) ?_
    refine d_nil ?_
    refine c_if (b := (!(eq_api_Place (val (gAt a0 x13_2)) (val (gAt a1 x13_2))))) rfl (fun hb => ?_) (fun hb => ?_)
    ·have H17 := cnd_t hb H16; clear H16
     refine c_seq ?_
     refine c_region ?_
     refine l_val rfl rfl rfl (r_assign (v := .bool false) rfl) ?_
     refine l_nil ?_
     refine c_ret ?_
     obtain rfl := Option.some.inj H17
     refine ret1 (v := .bool false) rfl rfl (fin rfl)
    ·have H18 := cnd_f hb H16; clear H16
     refine c_skip ?_
     refine c_region ?_
     obtain ⟨t25, h_t25, H19⟩ := bnd_some H18; clear H18
     refine l_val rfl rfl rfl (r_addG rfl rfl h_t25) ?_
     refine l_val rfl rfl rfl (r_move (v := .int .i64 t25) rfl) ?_
     refine l_nil ?_
     refine c_close t25 () m1 [] (by exact ⟨rfl, rfl, rfl, rfl, trivial⟩) (by decide) rfl (by exact ⟨(by subst hn1; exact H19), trivial⟩) (Nat.lt_succ_self _)
    ) (by kernel_rfl)
  ·have H20 := cnd_f hb H13; clear H13
   refine c_exit ?_
   refine c_seq ?_
   refine c_region ?_
   refine l_val rfl rfl rfl (r_assign (v := .bool true) rfl) ?_
   refine l_nil ?_
   refine c_ret ?_
   obtain rfl := Option.some.inj H20
   refine ret1 (v := .bool true) rfl rfl (fin rfl)
theorem k10 {a0 : (List T_api_Place)} {v0 : Value} {a1 : Int} {a2 : (List T_api_Place)} {v2 : Value} {a3 : Int} {r : Bool} {w : World} {h : Heap} (hw : Know h w noS) (f0 : FrS h 2 v0 (a0.map e_api_Place)) (f2 : FrS h 2 v2 (a2.map e_api_Place)) (H : Law_listed_api_Place a0 a1 a2 a3 = some r) : Does Tryd.prog 10 (List.toArray [v0, .int .i64 a1, v2, .int .i64 a3]) w (fun v w' => v = (.bool r) ∧ Grow w w') := by
 refine enter (n := 19) Tryd.func10 rfl rfl rfl noS [] (Sat.nil _ _) ?_
 refine c_seq ?_
 refine c_region ?_
 refine l_val rfl rfl rfl (r_assign (v := .bool false) rfl) ?_
 refine l_nil ?_
 refine c_meet (r := r) (σ := (List T_api_Place)) (τ := Value) (fun s => Law_listed_api_Place_j1 a0 a1 a3 s) (fun s t => [(0, v0), (1, .int .i64 a1), (2, t), (3, .int .i64 a3)]) (fun s t => []) (fun s t => FrS h 2 t (s.map e_api_Place)) ?_ ?_
 ·refine c_seq ?_
  refine c_region ?_
  refine l_val rfl rfl rfl (r_move (v := .int .i64 a3) rfl) ?_
  refine l_val rfl rfl rfl (r_neq rfl rfl) ?_
  refine l_nil ?_
  refine c_if (b := (decide (a3 ≠ 0))) rfl (fun hb => ?_) (fun hb => ?_)
  ·have H11 := cnd_t hb H; clear H
   refine c_region ?_
   refine l_val rfl rfl rfl (r_assign (v := .slice none 0 0) rfl) ?_
   refine l_nil ?_
   refine c_close ([] : (List T_api_Place)) (.slice none 0 0) 0 [] (by exact ⟨rfl, rfl, rfl, rfl, trivial⟩) (by decide) rfl (by exact ⟨H11, (FrS.nil _ _)⟩) (Nat.lt_succ_self _)
  ·have H12 := cnd_f hb H; clear H
   refine c_skip ?_
   refine c_close a2 v2 0 [] (by exact ⟨rfl, rfl, rfl, rfl, trivial⟩) (by decide) rfl (by exact ⟨H12, f2⟩) (Nat.lt_succ_self _)
 ·rintro x2 gv gg H7 gf
  replace H7 : Law_listed_api_Place_j1 a0 a1 a3 x2 = some r := H7
  refine c_tidyF [(0, v0), (1, .int .i64 a1), (2, gv), (3, .int .i64 a3)] [] rfl rfl ?_
  refine c_seq ?_
  refine c_region ?_
  refine l_val rfl rfl rfl (r_move (v := v0) rfl) ?_
  refine l_val rfl rfl rfl (r_move (v := gv) rfl) ?_
  obtain ⟨t13, h_t13, H8⟩ := bnd_some H7; clear H7
  refine l_callG (fun w hF hS => k21 (know_all w) (f0.mono (hw.now hF)) (gf.mono (hw.now hF)) h_t13) Tryd.call21 rfl rfl rfl ?_
  refine l_val rfl rfl rfl (r_move (v := .bool t13) rfl) ?_
  refine split (fun hb => ?_) (fun hb => ?_)
  ·have H9 := cnd_t hb H8; clear H8
   refine l_val rfl rfl rfl (r_move (v := .int .i64 a1) rfl) ?_
   refine l_val rfl rfl rfl (r_move (v := .int .i64 a3) rfl) ?_
   refine l_val rfl rfl rfl (r_eql rfl rfl) ?_
   refine l_val rfl rfl rfl (r_pickT (v := .bool (decide (a1 = a3))) rfl rfl) ?_
   refine l_val rfl rfl rfl (r_assign (v := .bool (decide (a1 = a3))) rfl) ?_
   refine l_nil ?_
   refine c_ret ?_
   obtain rfl := Option.some.inj H9
   refine ret1 (v := .bool (decide (a1 = a3))) rfl rfl (fin rfl)
  ·have H10 := cnd_f hb H8; clear H8
   refine l_passed rfl rfl rfl ?_
   refine l_passed rfl rfl rfl ?_
   refine l_passed rfl rfl rfl ?_
   refine l_val rfl rfl rfl (r_pickF (v := .bool false) rfl rfl) ?_
   refine l_val rfl rfl rfl (r_assign (v := .bool false) rfl) ?_
   refine l_nil ?_
   refine c_ret ?_
   obtain rfl := Option.some.inj H10
   refine ret1 (v := .bool false) rfl rfl (fin rfl)
theorem k3 {a0 : (List T_api_Place)} {v0 : Value} {a1 : (List UInt8)} {r : Bool} {w : World} {h : Heap} (hw : Know h w noS) (f0 : FrS h 2 v0 (a0.map e_api_Place)) (H : Law_WherePacks a0 a1 = some r) : Does Tryd.prog 3 (List.toArray [v0, str a1]) w (fun v w' => v = (.bool r) ∧ Grow w w') := by
 refine enter (n := 57) Tryd.func3 rfl rfl rfl noS [] (Sat.nil _ _) ?_
 refine c_seq ?_
 refine c_region ?_
 refine l_val rfl rfl rfl (r_assign (v := .bool false) rfl) ?_
 refine l_nil ?_
 refine c_seq ?_
 refine c_region ?_
 refine l_val rfl rfl rfl (r_move (v := v0) rfl) ?_
 obtain ⟨t17, h_t17, H20⟩ := bnd_some H; clear H
 refine l_callG (fun w hF hS => k4 (know_all w) (f0.mono (hw.now hF)) h_t17) Tryd.call4 rfl rfl rfl ?_
 refine l_val rfl rfl rfl (r_move (v := .tuple #[str t17.1, .int .i64 t17.2]) rfl) ?_
 refine l_val rfl rfl rfl (r_extract (v := str t17.1) rfl rfl) ?_
 refine l_val rfl rfl rfl (r_extract (v := .int .i64 t17.2) rfl rfl) ?_
 refine l_val rfl rfl rfl (r_assign (v := str t17.1) rfl) ?_
 refine l_val rfl rfl rfl (r_assign (v := .int .i64 t17.2) rfl) ?_
 refine l_nil ?_
 refine c_seq ?_
 refine c_region ?_
 refine l_val rfl rfl rfl (r_move (v := v0) rfl) ?_
 obtain ⟨t21, h_t21, H21⟩ := bnd_some H20; clear H20
 refine l_callG (fun w hF hS => k5 (know_all w) (f0.mono (hw.now hF)) h_t21) Tryd.call5 rfl rfl rfl ?_
 refine l_val rfl rfl rfl (r_assign (v := .int .i64 t21) rfl) ?_
 refine l_nil ?_
 refine c_seq ?_
 refine c_region ?_
 refine l_val rfl rfl rfl (r_assign (v := str []) rfl) ?_
 refine l_nil ?_
 refine c_meet (r := r) (σ := (List UInt8)) (τ := Unit) (fun s => Law_WherePacks_j1 a1 t17 t21 s) (fun s t => [(1, str a1), (5, str t17.1), (6, .int .i64 t17.2), (7, .int .i64 t21), (8, str s)]) (fun s t => []) (fun s t => True) ?_ ?_
 ·refine c_seq ?_
  refine c_region ?_
  refine l_val rfl rfl rfl (r_move (v := .int .i64 t21) rfl) ?_
  refine l_val rfl rfl rfl (r_eql rfl rfl) ?_
  refine l_nil ?_
  refine c_if (b := (decide (t21 = 0))) rfl (fun hb => ?_) (fun hb => ?_)
  ·have H36 := cnd_t hb H21; clear H21
   refine c_region ?_
   refine l_val rfl rfl rfl (r_move (v := v0) rfl) ?_
   obtain ⟨t25, h_t25, H37⟩ := bnd_some H36; clear H36
   refine l_callG (fun w hF hS => k6 (know_all w) (f0.mono (hw.now hF)) h_t25) Tryd.call6 rfl rfl rfl ?_
   refine l_val rfl rfl rfl (r_assign (v := str t25) rfl) ?_
   refine l_nil ?_
   refine c_close t25 () 0 [] (by exact ⟨rfl, rfl, rfl, rfl, rfl, trivial⟩) (by decide) rfl (by exact ⟨H37, trivial⟩) (Nat.lt_succ_self _)
  ·have H38 := cnd_f hb H21; clear H21
   refine c_skip ?_
   refine c_close [] () 0 [] (by exact ⟨rfl, rfl, rfl, rfl, rfl, trivial⟩) (by decide) rfl (by exact ⟨H38, trivial⟩) (Nat.lt_succ_self _)
 ·rintro x8 _ gg H22 _
  replace H22 : Law_WherePacks_j1 a1 t17 t21 x8 = some r := H22
  refine c_tidyF [(1, str a1), (5, str t17.1), (6, .int .i64 t17.2), (7, .int .i64 t21), (8, str x8)] [] rfl rfl ?_
  refine c_seq ?_
  refine c_seq ?_
  refine c_region ?_
  refine l_val rfl rfl rfl (r_move (v := str t17.1) rfl) ?_
  refine l_val rfl rfl rfl (r_move (v := .int .i64 t17.2) rfl) ?_
  refine l_val rfl rfl rfl (r_move (v := str x8) rfl) ?_
  refine l_val rfl rfl rfl (r_move (v := .int .i64 t21) rfl) ?_
  obtain ⟨t30, h_t30, H23⟩ := bnd_some H22; clear H22
  refine l_call (k7 h_t30) Tryd.call7 rfl rfl rfl ?_
  refine l_val rfl rfl rfl (r_not rfl) ?_
  refine l_nil ?_
  refine c_if (b := (!t30)) rfl (fun hb => ?_) (fun hb => ?_)
  ·have H24 := cnd_t hb H23; clear H23
   refine c_seq ?_
   refine c_region ?_
   refine l_val rfl rfl rfl (r_assign (v := .bool false) rfl) ?_
   refine l_nil ?_
   refine c_ret ?_
   obtain rfl := Option.some.inj H24
   refine ret1 (v := .bool false) rfl rfl (fin rfl)
  ·have H25 := cnd_f hb H23; clear H23
   refine c_skip ?_
   refine c_seq ?_
   refine c_seq ?_
   refine c_region ?_
   refine l_val rfl rfl rfl (r_move (v := str a1) rfl) ?_
   refine l_val rfl rfl rfl (r_move (v := str x8) rfl) ?_
   refine l_buildSlice (vs := [str a1, str x8]) (cs := [str a1, str x8]) Tryd.underlying29 Tryd.sizeOf9 Tryd.zeroValue9 rfl rfl rfl rfl rfl rfl rfl (fun b1 => ?_)
   refine l_val rfl rfl rfl (r_len Tryd.underlying29 rfl) ?_
   refine l_val rfl rfl rfl (r_move (v := .int .i64 0) rfl) ?_
   refine l_nil ?_
   refine c_block ?_
   refine c_fix (σ := Int) (τ := Unit) (fun next2 s => Law_WherePacks_l2 a1 x8 next2 s) (fun s t => [(34, .slice (some ⟨b1, 0, none⟩) 2 2), (35, .int .i64 2), (36, .int .i64 s)]) (fun s t => [cellsC b1 [str a1, str x8] 9]) (fun s t => True) 0 () [0] H25 (by exact trivial) (by exact ⟨rfl, rfl, rfl, trivial⟩) (by decide) rfl ?_
   rintro x36_2 _ m2 gg H26 _
   clear H25
   replace H26 : Law_WherePacks_l2 a1 x8 (it (fun next2 s => Law_WherePacks_l2 a1 x8 next2 s) m2) x36_2 = some r := H26
   generalize hn2 : it (fun next2 s => Law_WherePacks_l2 a1 x8 next2 s) m2 = next2 at H26
   refine c_tidyF [(34, .slice (some ⟨b1, 0, none⟩) 2 2), (35, .int .i64 2), (36, .int .i64 x36_2)] [cellsC b1 [str a1, str x8] 9] rfl rfl ?_
   refine c_seq ?_
   refine c_region ?_
   refine l_val rfl rfl rfl (r_lss rfl rfl) ?_
   refine l_nil ?_
   refine c_seq ?_
   refine c_if (b := (decide (x36_2 < 2))) rfl (fun hb => ?_) (fun hb => ?_)
   ·have H27 := cnd_t hb H26; clear H26
    refine c_skip ?_
    refine c_seq ?_
    refine c_block ?_
    refine c_seq ?_
    refine c_region ?_
    obtain ⟨t38, h_t38, H28⟩ := bnd_some H27; clear H27
    refine l_val rfl rfl rfl (r_indexS Tryd.underlying29 Tryd.sizeOf9 rfl rfl h_t38 rfl) ?_
    refine l_read (fun w hF hS => run_loadG1 (f := e_string) (i := x36_2) (sz := 1) (j := 0) (v := str t38) Tryd.isAgg9 rfl rfl (row_box (sz := 1) (xs := ([a1, x8] : List (List UInt8)).map e_string) (i := 0) hS rfl rfl rfl) h_t38 rfl) rfl rfl rfl ?_
    refine l_val rfl rfl rfl (r_assign (v := str t38) rfl) ?_
    refine l_nil ?_
    refine c_seq ?_
    refine c_region ?_
    refine l_val rfl rfl rfl (r_move (v := str t38) rfl) ?_
    obtain ⟨t42, h_t42, H29⟩ := bnd_some H28; clear H28
    refine l_make (makes_call (rds := []) (G := fun x : (Option Addr × Nat) => .tuple #[.slice x.1 t42.1.length x.2, .int .i64 t42.2]) (C := fun x : (Option Addr × Nat) => roV 2 (.slice x.1 t42.1.length x.2) t42.1.length (t42.1.map e_api_Place)) (fun w L' hF hS hi => k8 (know_all w)  h_t42) Tryd.call8 rfl) rfl rfl rfl (fun p => ?_)
    refine l_val rfl rfl rfl (r_move (v := .tuple #[.slice p.1 t42.1.length p.2, .int .i64 t42.2]) rfl) ?_
    refine l_val rfl rfl rfl (r_extract (v := .slice p.1 t42.1.length p.2) rfl rfl) ?_
    refine l_val rfl rfl rfl (r_extract (v := .int .i64 t42.2) rfl rfl) ?_
    refine l_val rfl rfl rfl (r_assign (v := .slice p.1 t42.1.length p.2) rfl) ?_
    refine l_val rfl rfl rfl (r_assign (v := .int .i64 t42.2) rfl) ?_
    refine l_nil ?_
    refine c_seq ?_
    refine c_region ?_
    refine l_val rfl rfl rfl (r_move (v := str t38) rfl) ?_
    obtain ⟨t47, h_t47, H30⟩ := bnd_some H29; clear H29
    refine l_make (makes_call (rds := []) (G := fun x : (Option Addr × Nat) => .tuple #[.slice x.1 t47.1.length x.2, .int .i64 t47.2]) (C := fun x : (Option Addr × Nat) => rowV 34 2 (.slice x.1 t47.1.length x.2) t47.1.length (t47.1.map e_api_Place)) (fun w L' hF hS hi => k9 (know_all w)  h_t47) Tryd.call9 rfl) rfl rfl rfl (fun p_2 => ?_)
    refine l_val rfl rfl rfl (r_move (v := .tuple #[.slice p_2.1 t47.1.length p_2.2, .int .i64 t47.2]) rfl) ?_
    refine l_val rfl rfl rfl (r_extract (v := .slice p_2.1 t47.1.length p_2.2) rfl rfl) ?_
    refine l_val rfl rfl rfl (r_extract (v := .int .i64 t47.2) rfl rfl) ?_
    refine l_val rfl rfl rfl (r_assign (v := .slice p_2.1 t47.1.length p_2.2) rfl) ?_
    refine l_val rfl rfl rfl (r_assign (v := .int .i64 t47.2) rfl) ?_
    refine l_nil ?_
    refine c_seq ?_
    refine c_region ?_
    refine l_val rfl rfl rfl (r_move (v := .slice p.1 t42.1.length p.2) rfl) ?_
    refine l_val rfl rfl rfl (r_move (v := .int .i64 t42.2) rfl) ?_
    refine l_val rfl rfl rfl (r_move (v := .slice p_2.1 t47.1.length p_2.2) rfl) ?_
    refine l_val rfl rfl rfl (r_move (v := .int .i64 t47.2) rfl) ?_
    obtain ⟨t54, h_t54, H31⟩ := bnd_some H30; clear H30
    refine l_callG (fun w hF hS => k10 (know_all w) (frs_rd (i := 1) hS rfl) (frs_own (i := 2) rfl hS rfl) h_t54) Tryd.call10 rfl rfl rfl ?_
    refine l_val rfl rfl rfl (r_not rfl) ?_
    refine l_nil ?_
    refine c_if (b := (!t54)) rfl (fun hb => ?_) (fun hb => ?_)
    ·have H32 := cnd_t hb H31; clear H31
     refine c_seq ?_
     refine c_region ?_
     refine l_val rfl rfl rfl (r_assign (v := .bool false) rfl) ?_
     refine l_nil ?_
     refine c_ret ?_
     obtain rfl := Option.some.inj H32
     refine ret1 (v := .bool false) rfl rfl (fin rfl)
    ·have H33 := cnd_f hb H31; clear H31
     refine c_skip ?_
     refine c_region ?_
     obtain ⟨t56, h_t56, H34⟩ := bnd_some H33; clear H33
     refine l_val rfl rfl rfl (r_addG rfl rfl h_t56) ?_
     refine l_val rfl rfl rfl (r_move (v := .int .i64 t56) rfl) ?_
     refine l_nil ?_
     refine c_close t56 () m2 [0] (by exact ⟨rfl, rfl, rfl, trivial⟩) (by decide) rfl (by exact ⟨(by subst hn2; exact H34), trivial⟩) (Nat.lt_succ_self _)
   ·have H35 := cnd_f hb H26; clear H26
    refine c_exit ?_
    refine c_seq ?_
    refine c_region ?_
    refine l_val rfl rfl rfl (r_assign (v := .bool true) rfl) ?_
    refine l_nil ?_
    refine c_ret ?_
    obtain rfl := Option.some.inj H35
    refine ret1 (v := .bool true) rfl rfl (fin rfl)
end Go.Proofs.YtohdhdiaahiicaaDoor
