/- strings.Trim: the walks, printed by our generator; each follows its model. Conditions: the model yields a value. -/
import Derived.Test.YtfgehlmdcllclaaDoorMC
import Derived.Test.YtfgehlmdcllclaaDoorProg
import Derived.Test.YtfgehlmdcllclaaDoorLx7
namespace Go.Proofs.YtfgehlmdcllclaaDoor
open Go Go.Vc Go.Md Go.M Go.Lx
set_option maxRecDepth 100000
set_option maxHeartbeats 4000000
set_option linter.unusedVariables false

theorem mixed : Tryd.prog.follows .mixedOrders = true := by kernel_rfl

abbrev e_u8 (x : Int) : List Value := [.int .u8 x]
abbrev e_i64 (x : Int) : List Value := [.int .i64 x]

theorem run_eqT42 (d : Nat) (w : World) (a0 b0 : Int) (a1 b1 : Int) (a2 b2 : Int) (a3 b3 : Int) : (Op.equalIn (d + 2) 42 (.agg #[.int .i64 a0, .int .i64 a1, .int .i64 a2, .int .i64 a3]) (.agg #[.int .i64 b0, .int .i64 b1, .int .i64 b2, .int .i64 b3])).run Tryd.prog w = .ok (decide (a0 = b0 ∧ a1 = b1 ∧ a2 = b2 ∧ a3 = b3)) w := by
  rw [run_equalIn_struct w (d + 1) 42 _ _ (by simp only [Program.fieldsOf, Tryd.underlying42]) Tryd.stoodInHeld42]
  simp only [Program.fieldsOf, Tryd.underlying42, Op.eqFields]
  simp [part, run_equalIn_int, run_equalIn_strL, run_equalIn_bool', Tryd.underlying3]
  repeat' split
  all_goals simp_all

theorem run_eq_where_Box (w : World) (x y : T_where_Box) : (Op.equalIn Op.maxDepth 42 (.agg #[.int .i64 x.South, .int .i64 x.West, .int .i64 x.North, .int .i64 x.East]) (.agg #[.int .i64 y.South, .int .i64 y.West, .int .i64 y.North, .int .i64 y.East])).run Tryd.prog w = .ok (eq_where_Box x y) w :=
  run_eqT42 9998 w _ _ _ _ _ _ _ _

theorem k55 {a0 : (List UInt8)} {a1 : Int} {r : (List UInt8)} (H : strings_trimLeftByte a0 a1 = some r) : Ret Tryd.prog 55 [str a0, .int .u8 a1] (str r) := by
  refine enterRet (n := 17) Tryd.func55 rfl rfl rfl (fun wd => ?_)
  refine c_seq ?_
  refine c_region ?_
  refine l_val rfl rfl rfl (r_assign (v := str []) rfl) ?_
  refine l_nil ?_
  refine c_seq ?_
  refine c_block ?_
  refine c_fix (σ := (List UInt8)) (τ := Unit) (fun next1 s => strings_trimLeftByte_l1 a1 next1 s) (fun s t => [(0, str s), (1, .int .u8 a1)]) (fun s t => []) (fun s t => True) a0 () [] H (by exact trivial) (by exact ⟨rfl, rfl, trivial⟩) (by decide) rfl ?_
  rintro x0_2 _ m1 gg H8 _
  clear H
  replace H8 : strings_trimLeftByte_l1 a1 (it (fun next1 s => strings_trimLeftByte_l1 a1 next1 s) m1) x0_2 = some r := H8
  generalize hn1 : it (fun next1 s => strings_trimLeftByte_l1 a1 next1 s) m1 = next1 at H8
  refine c_tidyF [(0, str x0_2), (1, .int .u8 a1)] [] rfl rfl ?_
  refine c_seq ?_
  refine c_seq ?_
  refine c_region ?_
  refine l_val rfl rfl rfl (r_move (v := str x0_2) rfl) ?_
  refine l_val rfl rfl rfl (r_lenT Tryd.underlying9 rfl) ?_
  refine l_val rfl rfl rfl (r_gtr rfl rfl) ?_
  refine l_val rfl rfl rfl (r_move (v := .bool (decide (0 < (x0_2.length : Int)))) rfl) ?_
  refine split (fun hb => ?_) (fun hb => ?_)
  · have H9 := cnd_t hb H8; clear H8
    refine l_val rfl rfl rfl (r_move (v := str x0_2) rfl) ?_
    obtain ⟨t10, h_t10, H10⟩ := bnd_some H9; clear H9
    refine l_val rfl rfl rfl (r_octG Tryd.underlying9 rfl rfl h_t10) ?_
    refine l_val rfl rfl rfl (r_move (v := .int .u8 a1) rfl) ?_
    refine l_val rfl rfl rfl (r_eql rfl rfl) ?_
    refine l_val rfl rfl rfl (r_pickT (v := .bool (decide (t10 = a1))) rfl rfl) ?_
    refine l_nil ?_
    refine c_if (b := (decide (t10 = a1))) rfl (fun hb => ?_) (fun hb => ?_)
    · have H11 := cnd_t hb H10; clear H10
      refine c_skip ?_
      refine c_block ?_
      refine c_region ?_
      refine l_val rfl rfl rfl (r_move (v := str x0_2) rfl) ?_
      obtain ⟨t15, h_t15, H12⟩ := bnd_some H11; clear H11
      refine l_val rfl rfl rfl (r_cutFromG Tryd.underlying9 rfl rfl h_t15) ?_
      refine l_val rfl rfl rfl (r_assign (v := str t15) rfl) ?_
      refine l_nil ?_
      refine c_close t15 () m1 [] (by exact ⟨rfl, rfl, trivial⟩) (by decide) rfl (by exact ⟨(by subst hn1; exact H12), trivial⟩) (Nat.lt_succ_self _)
    · have H13 := cnd_f hb H10; clear H10
      refine c_exit ?_
      refine c_seq ?_
      refine c_region ?_
      refine l_val rfl rfl rfl (r_move (v := str x0_2) rfl) ?_
      refine l_val rfl rfl rfl (r_assign (v := str x0_2) rfl) ?_
      refine l_nil ?_
      refine c_ret ?_
      obtain rfl := Option.some.inj H13
      refine ret1 (v := str x0_2) rfl rfl (fin rfl)
  · have H14 := cnd_f hb H8; clear H8
    refine l_passed rfl rfl rfl ?_
    refine l_passed rfl rfl rfl ?_
    refine l_passed rfl rfl rfl ?_
    refine l_passed rfl rfl rfl ?_
    refine l_val rfl rfl rfl (r_pickF (v := .bool false) rfl rfl) ?_
    refine l_nil ?_
    refine c_false rfl ?_
    refine c_exit ?_
    refine c_seq ?_
    refine c_region ?_
    refine l_val rfl rfl rfl (r_move (v := str x0_2) rfl) ?_
    refine l_val rfl rfl rfl (r_assign (v := str x0_2) rfl) ?_
    refine l_nil ?_
    refine c_ret ?_
    obtain rfl := Option.some.inj H14
    refine ret1 (v := str x0_2) rfl rfl (fin rfl)
theorem k56 {a0 : (List UInt8)} {a1 : Int} {r : (List UInt8)} (H : strings_trimRightByte a0 a1 = some r) : Ret Tryd.prog 56 [str a0, .int .u8 a1] (str r) := by
  refine enterRet (n := 23) Tryd.func56 rfl rfl rfl (fun wd => ?_)
  refine c_seq ?_
  refine c_region ?_
  refine l_val rfl rfl rfl (r_assign (v := str []) rfl) ?_
  refine l_nil ?_
  refine c_seq ?_
  refine c_block ?_
  refine c_fix (σ := (List UInt8)) (τ := Unit) (fun next1 s => strings_trimRightByte_l1 a1 next1 s) (fun s t => [(0, str s), (1, .int .u8 a1)]) (fun s t => []) (fun s t => True) a0 () [] H (by exact trivial) (by exact ⟨rfl, rfl, trivial⟩) (by decide) rfl ?_
  rintro x0_2 _ m1 gg H10 _
  clear H
  replace H10 : strings_trimRightByte_l1 a1 (it (fun next1 s => strings_trimRightByte_l1 a1 next1 s) m1) x0_2 = some r := H10
  generalize hn1 : it (fun next1 s => strings_trimRightByte_l1 a1 next1 s) m1 = next1 at H10
  refine c_tidyF [(0, str x0_2), (1, .int .u8 a1)] [] rfl rfl ?_
  refine c_seq ?_
  refine c_seq ?_
  refine c_region ?_
  refine l_val rfl rfl rfl (r_move (v := str x0_2) rfl) ?_
  refine l_val rfl rfl rfl (r_lenT Tryd.underlying9 rfl) ?_
  refine l_val rfl rfl rfl (r_gtr rfl rfl) ?_
  refine l_val rfl rfl rfl (r_move (v := .bool (decide (0 < (x0_2.length : Int)))) rfl) ?_
  refine split (fun hb => ?_) (fun hb => ?_)
  · have H11 := cnd_t hb H10; clear H10
    refine l_val rfl rfl rfl (r_move (v := str x0_2) rfl) ?_
    refine l_val rfl rfl rfl (r_move (v := str x0_2) rfl) ?_
    refine l_val rfl rfl rfl (r_lenT Tryd.underlying9 rfl) ?_
    obtain ⟨t12, h_t12, H12⟩ := bnd_some H11; clear H11
    refine l_val rfl rfl rfl (r_subG rfl rfl h_t12) ?_
    obtain ⟨t13, h_t13, H13⟩ := bnd_some H12; clear H12
    refine l_val rfl rfl rfl (r_octG Tryd.underlying9 rfl rfl h_t13) ?_
    refine l_val rfl rfl rfl (r_move (v := .int .u8 a1) rfl) ?_
    refine l_val rfl rfl rfl (r_eql rfl rfl) ?_
    refine l_val rfl rfl rfl (r_pickT (v := .bool (decide (t13 = a1))) rfl rfl) ?_
    refine l_nil ?_
    refine c_if (b := (decide (t13 = a1))) rfl (fun hb => ?_) (fun hb => ?_)
    · have H14 := cnd_t hb H13; clear H13
      refine c_skip ?_
      refine c_block ?_
      refine c_region ?_
      refine l_val rfl rfl rfl (r_move (v := str x0_2) rfl) ?_
      refine l_val rfl rfl rfl (r_move (v := str x0_2) rfl) ?_
      refine l_val rfl rfl rfl (r_lenT Tryd.underlying9 rfl) ?_
      obtain ⟨t20, h_t20, H15⟩ := bnd_some H14; clear H14
      refine l_val rfl rfl rfl (r_subG rfl rfl h_t20) ?_
      obtain ⟨t21, h_t21, H16⟩ := bnd_some H15; clear H15
      refine l_val rfl rfl rfl (r_cutToG Tryd.underlying9 rfl rfl h_t21) ?_
      refine l_val rfl rfl rfl (r_assign (v := str t21) rfl) ?_
      refine l_nil ?_
      refine c_close t21 () m1 [] (by exact ⟨rfl, rfl, trivial⟩) (by decide) rfl (by exact ⟨(by subst hn1; exact H16), trivial⟩) (Nat.lt_succ_self _)
    · have H17 := cnd_f hb H13; clear H13
      refine c_exit ?_
      refine c_seq ?_
      refine c_region ?_
      refine l_val rfl rfl rfl (r_move (v := str x0_2) rfl) ?_
      refine l_val rfl rfl rfl (r_assign (v := str x0_2) rfl) ?_
      refine l_nil ?_
      refine c_ret ?_
      obtain rfl := Option.some.inj H17
      refine ret1 (v := str x0_2) rfl rfl (fin rfl)
  · have H18 := cnd_f hb H10; clear H10
    refine l_passed rfl rfl rfl ?_
    refine l_passed rfl rfl rfl ?_
    refine l_passed rfl rfl rfl ?_
    refine l_passed rfl rfl rfl ?_
    refine l_passed rfl rfl rfl ?_
    refine l_passed rfl rfl rfl ?_
    refine l_passed rfl rfl rfl ?_
    refine l_val rfl rfl rfl (r_pickF (v := .bool false) rfl rfl) ?_
    refine l_nil ?_
    refine c_false rfl ?_
    refine c_exit ?_
    refine c_seq ?_
    refine c_region ?_
    refine l_val rfl rfl rfl (r_move (v := str x0_2) rfl) ?_
    refine l_val rfl rfl rfl (r_assign (v := str x0_2) rfl) ?_
    refine l_nil ?_
    refine c_ret ?_
    obtain rfl := Option.some.inj H18
    refine ret1 (v := str x0_2) rfl rfl (fin rfl)
theorem k57 {a0 : (List UInt8)} {r : (Nat → Bool) × Bool} (H : strings_makeASCIISet a0 = some r) : Ret Tryd.prog 57 [str a0] (.tuple #[.agg (List.toArray (arrC 256 (fun j_ => [.bool (r.1 j_)]))), .bool r.2]) := by
  refine enterRet (n := 21) Tryd.func57 rfl rfl rfl (fun wd => ?_)
  refine c_seq ?_
  refine c_region ?_
  refine l_alloc (cs := (arrC 256 (fun j_ => [.bool ((fun _ => false) j_)]))) Tryd.zeroValue95 (by kernel_rfl) rfl rfl (fun b1 => ?_)
  refine l_val rfl rfl rfl (r_assign (v := .bool false) rfl) ?_
  refine l_nil ?_
  refine c_meet (r := r) (σ := (Nat → Bool)) (τ := Unit) (fun s => strings_makeASCIISet_j1 s) (fun s t => [(2, .pointer (some ⟨b1, 0, none⟩))]) (fun s t => [cellsC b1 (arrC 256 (fun j_ => [.bool (s j_)])) 95]) (fun s t => True) ?_ ?_
  · refine c_seq ?_
    refine c_region ?_
    refine l_val rfl rfl rfl (r_assign (v := .int .i64 0) rfl) ?_
    refine l_nil ?_
    refine c_block ?_
    refine c_fix (σ := Int × (Nat → Bool)) (τ := Unit) (fun next2 s => strings_makeASCIISet_l2 a0 next2 s.1 s.2) (fun s t => [(0, str a0), (2, .pointer (some ⟨b1, 0, none⟩)), (4, .int .i64 s.1)]) (fun s t => [cellsC b1 (arrC 256 (fun j_ => [.bool (s.2 j_)])) 95]) (fun s t => True) (0, (fun _ => false)) () [0] H (by exact trivial) (by exact ⟨rfl, rfl, rfl, trivial⟩) (by decide) rfl ?_
    rintro ⟨x4_2, m_3⟩ _ m2 gg H11 _
    clear H
    replace H11 : strings_makeASCIISet_l2 a0 (it (fun next2 s => strings_makeASCIISet_l2 a0 next2 s.1 s.2) m2) x4_2 m_3 = some r := H11
    generalize hn2 : it (fun next2 s => strings_makeASCIISet_l2 a0 next2 s.1 s.2) m2 = next2 at H11
    refine c_tidyF [(0, str a0), (2, .pointer (some ⟨b1, 0, none⟩)), (4, .int .i64 x4_2)] [cellsC b1 (arrC 256 (fun j_ => [.bool (m_3 j_)])) 95] rfl rfl ?_
    refine c_seq ?_
    refine c_seq ?_
    refine c_region ?_
    refine l_val rfl rfl rfl (r_move (v := .int .i64 x4_2) rfl) ?_
    refine l_val rfl rfl rfl (r_move (v := str a0) rfl) ?_
    refine l_val rfl rfl rfl (r_lenT Tryd.underlying9 rfl) ?_
    refine l_val rfl rfl rfl (r_lss rfl rfl) ?_
    refine l_nil ?_
    refine c_if (b := (decide (x4_2 < (a0.length : Int)))) rfl (fun hb => ?_) (fun hb => ?_)
    · have H12 := cnd_t hb H11; clear H11
      refine c_skip ?_
      refine c_seq ?_
      refine c_block ?_
      refine c_seq ?_
      refine c_region ?_
      refine l_val rfl rfl rfl (r_move (v := str a0) rfl) ?_
      refine l_val rfl rfl rfl (r_move (v := .int .i64 x4_2) rfl) ?_
      obtain ⟨t14, h_t14, H13⟩ := bnd_some H12; clear H12
      refine l_val rfl rfl rfl (r_octG Tryd.underlying9 rfl rfl h_t14) ?_
      refine l_val rfl rfl rfl (r_assign (v := .int .u8 t14) rfl) ?_
      refine l_nil ?_
      refine c_seq ?_
      refine c_seq ?_
      refine c_region ?_
      refine l_val rfl rfl rfl (r_move (v := .int .u8 t14) rfl) ?_
      refine l_val rfl rfl rfl (r_geq rfl rfl) ?_
      refine l_nil ?_
      refine c_if (b := (decide (128 ≤ t14))) rfl (fun hb => ?_) (fun hb => ?_)
      · have H14 := cnd_t hb H13; clear H13
        refine c_seq ?_
        refine c_region ?_
        refine l_loadN (i := 0) (vs := (arrC 256 (fun j_ => [.bool (m_3 j_)]))) Tryd.isAgg95 Tryd.sizeOf95 rfl rfl rfl rfl (rd_whole (arrC_len (fun _ => rfl))) ?_
        refine l_store (i := 0) (vs := (arrC 256 (fun j_ => [.bool (m_3 j_)]))) (cs' := (arrC 256 (fun j_ => [.bool (m_3 j_)]))) Tryd.sizeOf95 rfl rfl rfl rfl (arrC_len (fun _ => rfl)) rfl (arrC_one (fun _ => rfl)) rfl (wr_whole ((arrC_len (fun _ => rfl)).trans (arrC_len (fun _ => rfl)).symm)) ?_
        refine l_val rfl rfl rfl (r_assign (v := .bool false) rfl) ?_
        refine l_nil ?_
        refine c_ret ?_
        obtain rfl := Option.some.inj H14
        refine retCt (i := 0) (vs := (arrC 256 (fun j_ => [.bool (m_3 j_)]))) (v2 := .bool false) Tryd.isAgg95 Tryd.sizeOf95 rfl rfl rfl (rd_whole (arrC_len (fun _ => rfl))) rfl (fin rfl)
      · have H15 := cnd_f hb H13; clear H13
        refine c_skip ?_
        refine c_region ?_
        refine l_val rfl rfl rfl (r_move (v := .int .u8 t14) rfl) ?_
        obtain ⟨k19, h_k19, H16⟩ := bnd_some H15; clear H15
        refine l_val rfl rfl rfl (r_indexPG Tryd.runUnderlying95 Tryd.sizeOf4 rfl rfl h_k19) ?_
        refine l_store (i := 0) (vs := [.bool true]) (cs' := (arrC 256 (fun j_ => [.bool ((setA m_3 k19 true) j_)]))) Tryd.sizeOf4 rfl rfl rfl rfl rfl rfl rfl rfl (wr_arr (pre := []) (post := []) (f := fun (j_ : Bool) => [.bool j_]) (n := 256) (sz := 1) (a := m_3) (x := true) (arr_whole _ _) rfl (fun _ => rfl) (gIx_lt h_k19) rfl (arr_whole _ _)) ?_
        refine l_nil ?_
        refine c_region ?_
        refine l_val rfl rfl rfl (r_move (v := .int .i64 x4_2) rfl) ?_
        obtain ⟨t11, h_t11, H17⟩ := bnd_some H16; clear H16
        refine l_val rfl rfl rfl (r_addG rfl rfl h_t11) ?_
        refine l_val rfl rfl rfl (r_assign (v := .int .i64 t11) rfl) ?_
        refine l_nil ?_
        refine c_close (t11, (setA m_3 k19 true)) () m2 [0] (by exact ⟨rfl, rfl, rfl, trivial⟩) (by decide) rfl (by exact ⟨(by subst hn2; exact H17), trivial⟩) (Nat.lt_succ_self _)
    · have H18 := cnd_f hb H11; clear H11
      refine c_exit ?_
      refine c_close m_3 () 0 [0] (by exact ⟨rfl, trivial⟩) (by decide) rfl (by exact ⟨H18, trivial⟩) (Nat.lt_succ_self _)
  · rintro m _ gg H10 _
    replace H10 : strings_makeASCIISet_j1 m = some r := H10
    refine c_tidyF [(2, .pointer (some ⟨b1, 0, none⟩))] [cellsC b1 (arrC 256 (fun j_ => [.bool (m j_)])) 95] rfl rfl ?_
    refine c_seq ?_
    refine c_region ?_
    refine l_loadN (i := 0) (vs := (arrC 256 (fun j_ => [.bool (m j_)]))) Tryd.isAgg95 Tryd.sizeOf95 rfl rfl rfl rfl (rd_whole (arrC_len (fun _ => rfl))) ?_
    refine l_store (i := 0) (vs := (arrC 256 (fun j_ => [.bool (m j_)]))) (cs' := (arrC 256 (fun j_ => [.bool (m j_)]))) Tryd.sizeOf95 rfl rfl rfl rfl (arrC_len (fun _ => rfl)) rfl (arrC_one (fun _ => rfl)) rfl (wr_whole ((arrC_len (fun _ => rfl)).trans (arrC_len (fun _ => rfl)).symm)) ?_
    refine l_val rfl rfl rfl (r_assign (v := .bool true) rfl) ?_
    refine l_nil ?_
    refine c_ret ?_
    obtain rfl := Option.some.inj H10
    refine retCt (i := 0) (vs := (arrC 256 (fun j_ => [.bool (m j_)]))) (v2 := .bool true) Tryd.isAgg95 Tryd.sizeOf95 rfl rfl rfl (rd_whole (arrC_len (fun _ => rfl))) rfl (fin rfl)
theorem k70 {a0 : (Nat → Bool)} {pb0 : Nat} {a1 : Int} {r : Bool × (Nat → Bool)} {w : World} {h : Heap} {S : Nat → Prop} (hcs : (cellsC pb0 (arrC 256 (fun j_ => [.bool (a0 j_)])) 95).P S w) (hlt : ∀ b, S b → b < w.heap.size) (hw : Know h w S) (H : strings_asciiSet_contains a0 a1 = some r) : Does Tryd.prog 70 (List.toArray [.pointer (some ⟨pb0, 0, none⟩), .int .u8 a1]) w (fun v w' => ∃ x : Unit, v = (.bool r.1) ∧ Turn w w' S (cellsC pb0 (arrC 256 (fun j_ => [.bool (r.2 j_)])) 95)) := by
  refine enter (n := 10) Tryd.func70 rfl rfl rfl S [cellsC pb0 (arrC 256 (fun j_ => [.bool (a0 j_)])) 95] (Sat.one hcs hlt) ?_
  refine c_seq ?_
  refine c_region ?_
  refine l_val rfl rfl rfl (r_assign (v := .bool false) rfl) ?_
  refine l_nil ?_
  refine c_seq ?_
  refine c_region ?_
  refine l_val rfl rfl rfl (r_move (v := .pointer (some ⟨pb0, 0, none⟩)) rfl) ?_
  refine l_val rfl rfl rfl (r_move (v := .int .u8 a1) rfl) ?_
  refine l_val rfl rfl rfl (r_nilCheck rfl) ?_
  obtain ⟨k8, h_k8, H2⟩ := bnd_some H; clear H
  refine l_val rfl rfl rfl (r_indexPG Tryd.runUnderlying95 Tryd.sizeOf4 rfl rfl h_k8) ?_
  refine l_load1 (i := 0) (v := .bool (a0 k8)) Tryd.isAgg4 rfl rfl rfl rfl (rg_arr (pre := []) (post := []) (f := fun j_ => [.bool (a0 j_)]) (n := 256) (sz := 1) (q := 0) (arr_whole _ _) rfl (fun _ => rfl) (gIx_lt h_k8) rfl) ?_
  refine l_val rfl rfl rfl (r_assign (v := .bool (a0 k8)) rfl) ?_
  refine l_nil ?_
  refine c_ret ?_
  obtain rfl := Option.some.inj H2
  refine ret1 (v := .bool (a0 k8)) rfl rfl (finX () (i := 0) rfl rfl (Imp.refl _))
theorem k58 {a0 : (List UInt8)} {a1 : (Nat → Bool)} {pb1 : Nat} {r : (List UInt8) × (Nat → Bool)} {w : World} {h : Heap} {S : Nat → Prop} (hcs : (cellsC pb1 (arrC 256 (fun j_ => [.bool (a1 j_)])) 95).P S w) (hlt : ∀ b, S b → b < w.heap.size) (hw : Know h w S) (H : strings_trimLeftASCII a0 a1 = some r) : Does Tryd.prog 58 (List.toArray [str a0, .pointer (some ⟨pb1, 0, none⟩)]) w (fun v w' => ∃ x : Unit, v = (str r.1) ∧ Turn w w' S (cellsC pb1 (arrC 256 (fun j_ => [.bool (r.2 j_)])) 95)) := by
  refine enter (n := 16) Tryd.func58 rfl rfl rfl S [cellsC pb1 (arrC 256 (fun j_ => [.bool (a1 j_)])) 95] (Sat.one hcs hlt) ?_
  refine c_seq ?_
  refine c_region ?_
  refine l_val rfl rfl rfl (r_assign (v := str []) rfl) ?_
  refine l_nil ?_
  refine c_seq ?_
  refine c_block ?_
  refine c_fix (σ := (List UInt8) × (Nat → Bool)) (τ := Unit) (fun next1 s => strings_trimLeftASCII_l1 next1 s.1 s.2) (fun s t => [(0, str s.1), (1, .pointer (some ⟨pb1, 0, none⟩))]) (fun s t => [cellsC pb1 (arrC 256 (fun j_ => [.bool (s.2 j_)])) 95]) (fun s t => True) (a0, a1) () [0] H (by exact trivial) (by exact ⟨rfl, rfl, trivial⟩) (by decide) rfl ?_
  rintro ⟨x0_2, m_2⟩ _ m1 gg H9 _
  clear H
  replace H9 : strings_trimLeftASCII_l1 (it (fun next1 s => strings_trimLeftASCII_l1 next1 s.1 s.2) m1) x0_2 m_2 = some r := H9
  generalize hn1 : it (fun next1 s => strings_trimLeftASCII_l1 next1 s.1 s.2) m1 = next1 at H9
  refine c_tidyF [(0, str x0_2), (1, .pointer (some ⟨pb1, 0, none⟩))] [cellsC pb1 (arrC 256 (fun j_ => [.bool (m_2 j_)])) 95] rfl rfl ?_
  refine c_seq ?_
  refine c_seq ?_
  refine c_region ?_
  refine l_val rfl rfl rfl (r_move (v := str x0_2) rfl) ?_
  refine l_val rfl rfl rfl (r_lenT Tryd.underlying9 rfl) ?_
  refine l_val rfl rfl rfl (r_gtr rfl rfl) ?_
  refine l_nil ?_
  refine c_if (b := (decide (0 < (x0_2.length : Int)))) rfl (fun hb => ?_) (fun hb => ?_)
  · have H10 := cnd_t hb H9; clear H9
    refine c_skip ?_
    refine c_block ?_
    refine c_seq ?_
    refine c_seq ?_
    refine c_region ?_
    refine l_val rfl rfl rfl (r_move (v := .pointer (some ⟨pb1, 0, none⟩)) rfl) ?_
    refine l_val rfl rfl rfl (r_move (v := str x0_2) rfl) ?_
    obtain ⟨t10, h_t10, H11⟩ := bnd_some H10; clear H10
    refine l_val rfl rfl rfl (r_octG Tryd.underlying9 rfl rfl h_t10) ?_
    obtain ⟨t11, h_t11, H12⟩ := bnd_some H11; clear H11
    refine l_turn (turns_callB (i := 0) (rds := []) (G := fun x : Unit => .bool t11.1) (C := fun x : Unit => cellsC pb1 (arrC 256 (fun j_ => [.bool (t11.2 j_)])) 95) rfl (fun w L' S hF hS hi hp hlt ho hA => k70 hp hlt (know_but w S)  h_t11) Tryd.call70 rfl) rfl rfl rfl (fun _ => ?_)
    refine l_val rfl rfl rfl (r_not rfl) ?_
    refine l_nil ?_
    refine c_if (b := (!t11.1)) rfl (fun hb => ?_) (fun hb => ?_)
    · have H13 := cnd_t hb H12; clear H12
      refine c_exit ?_
      refine c_seq ?_
      refine c_region ?_
      refine l_val rfl rfl rfl (r_move (v := str x0_2) rfl) ?_
      refine l_val rfl rfl rfl (r_assign (v := str x0_2) rfl) ?_
      refine l_nil ?_
      refine c_ret ?_
      obtain rfl := Option.some.inj H13
      refine ret1 (v := str x0_2) rfl rfl (finX () (i := 0) rfl rfl (Imp.refl _))
    · have H14 := cnd_f hb H12; clear H12
      refine c_skip ?_
      refine c_region ?_
      refine l_val rfl rfl rfl (r_move (v := str x0_2) rfl) ?_
      obtain ⟨t14, h_t14, H15⟩ := bnd_some H14; clear H14
      refine l_val rfl rfl rfl (r_cutFromG Tryd.underlying9 rfl rfl h_t14) ?_
      refine l_val rfl rfl rfl (r_assign (v := str t14) rfl) ?_
      refine l_nil ?_
      refine c_close (t14, t11.2) () m1 [0] (by exact ⟨rfl, rfl, trivial⟩) (by decide) rfl (by exact ⟨(by subst hn1; exact H15), trivial⟩) (Nat.lt_succ_self _)
  · have H16 := cnd_f hb H9; clear H9
    refine c_exit ?_
    refine c_seq ?_
    refine c_region ?_
    refine l_val rfl rfl rfl (r_move (v := str x0_2) rfl) ?_
    refine l_val rfl rfl rfl (r_assign (v := str x0_2) rfl) ?_
    refine l_nil ?_
    refine c_ret ?_
    obtain rfl := Option.some.inj H16
    refine ret1 (v := str x0_2) rfl rfl (finX () (i := 0) rfl rfl (Imp.refl _))
theorem k59 {a0 : (List UInt8)} {a1 : (Nat → Bool)} {pb1 : Nat} {r : (List UInt8) × (Nat → Bool)} {w : World} {h : Heap} {S : Nat → Prop} (hcs : (cellsC pb1 (arrC 256 (fun j_ => [.bool (a1 j_)])) 95).P S w) (hlt : ∀ b, S b → b < w.heap.size) (hw : Know h w S) (H : strings_trimRightASCII a0 a1 = some r) : Does Tryd.prog 59 (List.toArray [str a0, .pointer (some ⟨pb1, 0, none⟩)]) w (fun v w' => ∃ x : Unit, v = (str r.1) ∧ Turn w w' S (cellsC pb1 (arrC 256 (fun j_ => [.bool (r.2 j_)])) 95)) := by
  refine enter (n := 22) Tryd.func59 rfl rfl rfl S [cellsC pb1 (arrC 256 (fun j_ => [.bool (a1 j_)])) 95] (Sat.one hcs hlt) ?_
  refine c_seq ?_
  refine c_region ?_
  refine l_val rfl rfl rfl (r_assign (v := str []) rfl) ?_
  refine l_nil ?_
  refine c_seq ?_
  refine c_block ?_
  refine c_fix (σ := (List UInt8) × (Nat → Bool)) (τ := Unit) (fun next1 s => strings_trimRightASCII_l1 next1 s.1 s.2) (fun s t => [(0, str s.1), (1, .pointer (some ⟨pb1, 0, none⟩))]) (fun s t => [cellsC pb1 (arrC 256 (fun j_ => [.bool (s.2 j_)])) 95]) (fun s t => True) (a0, a1) () [0] H (by exact trivial) (by exact ⟨rfl, rfl, trivial⟩) (by decide) rfl ?_
  rintro ⟨x0_2, m_2⟩ _ m1 gg H11 _
  clear H
  replace H11 : strings_trimRightASCII_l1 (it (fun next1 s => strings_trimRightASCII_l1 next1 s.1 s.2) m1) x0_2 m_2 = some r := H11
  generalize hn1 : it (fun next1 s => strings_trimRightASCII_l1 next1 s.1 s.2) m1 = next1 at H11
  refine c_tidyF [(0, str x0_2), (1, .pointer (some ⟨pb1, 0, none⟩))] [cellsC pb1 (arrC 256 (fun j_ => [.bool (m_2 j_)])) 95] rfl rfl ?_
  refine c_seq ?_
  refine c_seq ?_
  refine c_region ?_
  refine l_val rfl rfl rfl (r_move (v := str x0_2) rfl) ?_
  refine l_val rfl rfl rfl (r_lenT Tryd.underlying9 rfl) ?_
  refine l_val rfl rfl rfl (r_gtr rfl rfl) ?_
  refine l_nil ?_
  refine c_if (b := (decide (0 < (x0_2.length : Int)))) rfl (fun hb => ?_) (fun hb => ?_)
  · have H12 := cnd_t hb H11; clear H11
    refine c_skip ?_
    refine c_block ?_
    refine c_seq ?_
    refine c_seq ?_
    refine c_region ?_
    refine l_val rfl rfl rfl (r_move (v := .pointer (some ⟨pb1, 0, none⟩)) rfl) ?_
    refine l_val rfl rfl rfl (r_move (v := str x0_2) rfl) ?_
    refine l_val rfl rfl rfl (r_move (v := str x0_2) rfl) ?_
    refine l_val rfl rfl rfl (r_lenT Tryd.underlying9 rfl) ?_
    obtain ⟨t12, h_t12, H13⟩ := bnd_some H12; clear H12
    refine l_val rfl rfl rfl (r_subG rfl rfl h_t12) ?_
    obtain ⟨t13, h_t13, H14⟩ := bnd_some H13; clear H13
    refine l_val rfl rfl rfl (r_octG Tryd.underlying9 rfl rfl h_t13) ?_
    obtain ⟨t14, h_t14, H15⟩ := bnd_some H14; clear H14
    refine l_turn (turns_callB (i := 0) (rds := []) (G := fun x : Unit => .bool t14.1) (C := fun x : Unit => cellsC pb1 (arrC 256 (fun j_ => [.bool (t14.2 j_)])) 95) rfl (fun w L' S hF hS hi hp hlt ho hA => k70 hp hlt (know_but w S)  h_t14) Tryd.call70 rfl) rfl rfl rfl (fun _ => ?_)
    refine l_val rfl rfl rfl (r_not rfl) ?_
    refine l_nil ?_
    refine c_if (b := (!t14.1)) rfl (fun hb => ?_) (fun hb => ?_)
    · have H16 := cnd_t hb H15; clear H15
      refine c_exit ?_
      refine c_seq ?_
      refine c_region ?_
      refine l_val rfl rfl rfl (r_move (v := str x0_2) rfl) ?_
      refine l_val rfl rfl rfl (r_assign (v := str x0_2) rfl) ?_
      refine l_nil ?_
      refine c_ret ?_
      obtain rfl := Option.some.inj H16
      refine ret1 (v := str x0_2) rfl rfl (finX () (i := 0) rfl rfl (Imp.refl _))
    · have H17 := cnd_f hb H15; clear H15
      refine c_skip ?_
      refine c_region ?_
      refine l_val rfl rfl rfl (r_move (v := str x0_2) rfl) ?_
      refine l_val rfl rfl rfl (r_move (v := str x0_2) rfl) ?_
      refine l_val rfl rfl rfl (r_lenT Tryd.underlying9 rfl) ?_
      obtain ⟨t19, h_t19, H18⟩ := bnd_some H17; clear H17
      refine l_val rfl rfl rfl (r_subG rfl rfl h_t19) ?_
      obtain ⟨t20, h_t20, H19⟩ := bnd_some H18; clear H18
      refine l_val rfl rfl rfl (r_cutToG Tryd.underlying9 rfl rfl h_t20) ?_
      refine l_val rfl rfl rfl (r_assign (v := str t20) rfl) ?_
      refine l_nil ?_
      refine c_close (t20, t14.2) () m1 [0] (by exact ⟨rfl, rfl, trivial⟩) (by decide) rfl (by exact ⟨(by subst hn1; exact H19), trivial⟩) (Nat.lt_succ_self _)
  · have H20 := cnd_f hb H11; clear H11
    refine c_exit ?_
    refine c_seq ?_
    refine c_region ?_
    refine l_val rfl rfl rfl (r_move (v := str x0_2) rfl) ?_
    refine l_val rfl rfl rfl (r_assign (v := str x0_2) rfl) ?_
    refine l_nil ?_
    refine c_ret ?_
    obtain rfl := Option.some.inj H20
    refine ret1 (v := str x0_2) rfl rfl (finX () (i := 0) rfl rfl (Imp.refl _))
theorem k78 {a0 : (List UInt8)} {r : Int × Int} (H : unicode_utf8_decodeRuneInStringSlow a0 = some r) : Ret Tryd.prog 78 [str a0] (.tuple #[.int .i32 r.1, .int .i64 r.2]) := by
  refine enterRet (n := 117) Tryd.func78 rfl rfl rfl (fun wd => ?_)
  refine c_seq ?_
  refine c_region ?_
  refine l_val rfl rfl rfl (r_assign (v := .int .i32 0) rfl) ?_
  refine l_val rfl rfl rfl (r_assign (v := .int .i64 0) rfl) ?_
  refine l_nil ?_
  refine c_seq ?_
  refine c_region ?_
  refine l_val rfl rfl rfl (r_move (v := str a0) rfl) ?_
  refine l_val rfl rfl rfl (r_lenT Tryd.underlying9 rfl) ?_
  refine l_val rfl rfl rfl (r_assign (v := .int .i64 (a0.length : Int)) rfl) ?_
  refine l_nil ?_
  refine c_seq ?_
  refine c_seq ?_
  refine c_region ?_
  refine l_val rfl rfl rfl (r_move (v := .int .i64 (a0.length : Int)) rfl) ?_
  refine l_val rfl rfl rfl (r_lss rfl rfl) ?_
  refine l_nil ?_
  refine c_if (b := (decide ((a0.length : Int) < 1))) rfl (fun hb => ?_) (fun hb => ?_)
  · have H3 := cnd_t hb H; clear H
    refine c_seq ?_
    refine c_region ?_
    refine l_val rfl rfl rfl (r_assign (v := .int .i32 65533) rfl) ?_
    refine l_val rfl rfl rfl (r_assign (v := .int .i64 0) rfl) ?_
    refine l_nil ?_
    refine c_ret ?_
    obtain rfl := Option.some.inj H3
    refine ret2 (v1 := .int .i32 65533) (v2 := .int .i64 0) rfl rfl rfl (fin rfl)
  · have H4 := cnd_f hb H; clear H
    exact absurd (show (none : Option (Int × Int)) = some r from H4) (fun h => by cases h)
theorem k71 {a0 : (List UInt8)} {r : Int × Int} (H : unicode_utf8_DecodeRuneInString a0 = some r) : Ret Tryd.prog 71 [str a0] (.tuple #[.int .i32 r.1, .int .i64 r.2]) := by
  refine enterRet (n := 19) Tryd.func71 rfl rfl rfl (fun wd => ?_)
  refine c_seq ?_
  refine c_region ?_
  refine l_val rfl rfl rfl (r_assign (v := .int .i32 0) rfl) ?_
  refine l_val rfl rfl rfl (r_assign (v := .int .i64 0) rfl) ?_
  refine l_nil ?_
  refine c_seq ?_
  refine c_meet (r := r) (σ := Bool) (τ := Unit) (fun s => unicode_utf8_DecodeRuneInString_j1 a0 s) (fun s t => [(0, str a0), (10, .bool s)]) (fun s t => []) (fun s t => True) ?_ ?_
  · refine c_region ?_
    refine l_val rfl rfl rfl (r_move (v := str a0) rfl) ?_
    refine l_val rfl rfl rfl (r_neqT rfl rfl) ?_
    refine l_val rfl rfl rfl (r_move (v := .bool (decide (a0 ≠ []))) rfl) ?_
    refine split (fun hb => ?_) (fun hb => ?_)
    · have H16 := cnd_t hb H; clear H
      refine l_val rfl rfl rfl (r_move (v := str a0) rfl) ?_
      obtain ⟨t8, h_t8, H17⟩ := bnd_some H16; clear H16
      refine l_val rfl rfl rfl (r_octG Tryd.underlying9 rfl rfl h_t8) ?_
      refine l_val rfl rfl rfl (r_lss rfl rfl) ?_
      refine l_val rfl rfl rfl (r_pickT (v := .bool (decide (t8 < 128))) rfl rfl) ?_
      refine l_nil ?_
      refine c_close (decide (t8 < 128)) () 0 [] (by exact ⟨rfl, rfl, trivial⟩) (by decide) rfl (by exact ⟨H17, trivial⟩) (Nat.lt_succ_self _)
    · have H18 := cnd_f hb H; clear H
      refine l_passed rfl rfl rfl ?_
      refine l_passed rfl rfl rfl ?_
      refine l_passed rfl rfl rfl ?_
      refine l_val rfl rfl rfl (r_pickF (v := .bool false) rfl rfl) ?_
      refine l_nil ?_
      refine c_close false () 0 [] (by exact ⟨rfl, rfl, trivial⟩) (by decide) rfl (by exact ⟨H18, trivial⟩) (Nat.lt_succ_self _)
  · rintro x10 _ gg H10 _
    replace H10 : unicode_utf8_DecodeRuneInString_j1 a0 x10 = some r := H10
    refine c_tidyF [(0, str a0), (10, .bool x10)] [] rfl rfl ?_
    refine c_if (b := x10) rfl (fun hb => ?_) (fun hb => ?_)
    · have H11 := cnd_t hb H10; clear H10
      refine c_seq ?_
      refine c_region ?_
      refine l_val rfl rfl rfl (r_move (v := str a0) rfl) ?_
      obtain ⟨t12, h_t12, H12⟩ := bnd_some H11; clear H11
      refine l_val rfl rfl rfl (r_octG Tryd.underlying9 rfl rfl h_t12) ?_
      obtain ⟨t13, h_t13, H13⟩ := bnd_some H12; clear H12
      refine l_val rfl rfl rfl (r_convG Tryd.runUnderlying5 Tryd.runUnderlying21 rfl (gK_i32 h_t13)) ?_
      refine l_val rfl rfl rfl (r_assign (v := .int .i32 t13) rfl) ?_
      refine l_val rfl rfl rfl (r_assign (v := .int .i64 1) rfl) ?_
      refine l_nil ?_
      refine c_ret ?_
      obtain rfl := Option.some.inj H13
      refine ret2 (v1 := .int .i32 t13) (v2 := .int .i64 1) rfl rfl rfl (fin rfl)
    · have H14 := cnd_f hb H10; clear H10
      refine c_region ?_
      refine l_val rfl rfl rfl (r_move (v := str a0) rfl) ?_
      obtain ⟨t16, h_t16, H15⟩ := bnd_some H14; clear H14
      refine l_call (k78 h_t16) Tryd.call78 rfl rfl rfl ?_
      refine l_val rfl rfl rfl (r_move (v := .tuple #[.int .i32 t16.1, .int .i64 t16.2]) rfl) ?_
      refine l_val rfl rfl rfl (r_extract (v := .int .i32 t16.1) rfl rfl) ?_
      refine l_val rfl rfl rfl (r_extract (v := .int .i64 t16.2) rfl rfl) ?_
      refine l_val rfl rfl rfl (r_assign (v := .int .i32 t16.1) rfl) ?_
      refine l_val rfl rfl rfl (r_assign (v := .int .i64 t16.2) rfl) ?_
      refine l_nil ?_
      refine c_ret ?_
      obtain rfl := Option.some.inj H15
      refine ret2 (v1 := .int .i32 t16.1) (v2 := .int .i64 t16.2) rfl rfl rfl (fin rfl)
theorem k90 {a0 : Int} {r : Bool} (H : unicode_utf8_ValidRune a0 = some r) : Ret Tryd.prog 90 [.int .i32 a0] (.bool r) := by
  refine enterRet (n := 17) Tryd.func90 rfl rfl rfl (fun wd => ?_)
  refine c_seq ?_
  refine c_region ?_
  refine l_val rfl rfl rfl (r_assign (v := .bool false) rfl) ?_
  refine l_nil ?_
  refine c_seq ?_
  refine c_block ?_
  refine c_meet (r := r) (σ := Bool) (τ := Unit) (fun s => unicode_utf8_ValidRune_j1 a0 s) (fun s t => [(0, .int .i32 a0), (3, .bool s)]) (fun s t => []) (fun s t => True) ?_ ?_
  · refine c_region ?_
    refine l_val rfl rfl rfl (r_move (v := .int .i32 a0) rfl) ?_
    refine l_val rfl rfl rfl (r_leq rfl rfl) ?_
    refine l_val rfl rfl rfl (r_move (v := .bool (decide (0 ≤ a0))) rfl) ?_
    refine split (fun hb => ?_) (fun hb => ?_)
    · have H17 := cnd_t hb H; clear H
      refine l_val rfl rfl rfl (r_move (v := .int .i32 a0) rfl) ?_
      refine l_val rfl rfl rfl (r_lss rfl rfl) ?_
      refine l_val rfl rfl rfl (r_pickT (v := .bool (decide (a0 < 55296))) rfl rfl) ?_
      refine l_val rfl rfl rfl (r_assign (v := .bool (decide (a0 < 55296))) rfl) ?_
      refine l_nil ?_
      refine c_close (decide (a0 < 55296)) () 0 [] (by exact ⟨rfl, rfl, trivial⟩) (by decide) rfl (by exact ⟨H17, trivial⟩) (Nat.lt_succ_self _)
    · have H18 := cnd_f hb H; clear H
      refine l_passed rfl rfl rfl ?_
      refine l_passed rfl rfl rfl ?_
      refine l_val rfl rfl rfl (r_pickF (v := .bool false) rfl rfl) ?_
      refine l_val rfl rfl rfl (r_assign (v := .bool false) rfl) ?_
      refine l_nil ?_
      refine c_close false () 0 [] (by exact ⟨rfl, rfl, trivial⟩) (by decide) rfl (by exact ⟨H18, trivial⟩) (Nat.lt_succ_self _)
  · rintro x3 _ gg H10 _
    replace H10 : unicode_utf8_ValidRune_j1 a0 x3 = some r := H10
    refine c_tidyF [(0, .int .i32 a0), (3, .bool x3)] [] rfl rfl ?_
    refine c_if (b := x3) rfl (fun hb => ?_) (fun hb => ?_)
    · have H11 := cnd_t hb H10; clear H10
      refine c_seq ?_
      refine c_region ?_
      refine l_val rfl rfl rfl (r_assign (v := .bool true) rfl) ?_
      refine l_nil ?_
      refine c_ret ?_
      obtain rfl := Option.some.inj H11
      refine ret1 (v := .bool true) rfl rfl (fin rfl)
    · have H12 := cnd_f hb H10; clear H10
      refine c_seq ?_
      refine c_region ?_
      refine l_val rfl rfl rfl (r_move (v := .int .i32 a0) rfl) ?_
      refine l_val rfl rfl rfl (r_lss rfl rfl) ?_
      refine l_val rfl rfl rfl (r_move (v := .bool (decide (57343 < a0))) rfl) ?_
      refine split (fun hb => ?_) (fun hb => ?_)
      · have H13 := cnd_t hb H12; clear H12
        refine l_val rfl rfl rfl (r_move (v := .int .i32 a0) rfl) ?_
        refine l_val rfl rfl rfl (r_leq rfl rfl) ?_
        refine l_val rfl rfl rfl (r_pickT (v := .bool (decide (a0 ≤ 1114111))) rfl rfl) ?_
        refine l_val rfl rfl rfl (r_assign (v := .bool (decide (a0 ≤ 1114111))) rfl) ?_
        refine l_nil ?_
        refine c_if (b := (decide (a0 ≤ 1114111))) rfl (fun hb => ?_) (fun hb => ?_)
        · have H14 := cnd_t hb H13; clear H13
          refine c_seq ?_
          refine c_region ?_
          refine l_val rfl rfl rfl (r_assign (v := .bool true) rfl) ?_
          refine l_nil ?_
          refine c_ret ?_
          obtain rfl := Option.some.inj H14
          refine ret1 (v := .bool true) rfl rfl (fin rfl)
        · have H15 := cnd_f hb H13; clear H13
          refine c_skip ?_
          refine c_seq ?_
          refine c_region ?_
          refine l_val rfl rfl rfl (r_assign (v := .bool false) rfl) ?_
          refine l_nil ?_
          refine c_ret ?_
          obtain rfl := Option.some.inj H15
          refine ret1 (v := .bool false) rfl rfl (fin rfl)
      · have H16 := cnd_f hb H12; clear H12
        refine l_passed rfl rfl rfl ?_
        refine l_passed rfl rfl rfl ?_
        refine l_val rfl rfl rfl (r_pickF (v := .bool false) rfl rfl) ?_
        refine l_val rfl rfl rfl (r_assign (v := .bool false) rfl) ?_
        refine l_nil ?_
        refine c_false rfl ?_
        refine c_skip ?_
        refine c_seq ?_
        refine c_region ?_
        refine l_val rfl rfl rfl (r_assign (v := .bool false) rfl) ?_
        refine l_nil ?_
        refine c_ret ?_
        obtain rfl := Option.some.inj H16
        refine ret1 (v := .bool false) rfl rfl (fin rfl)
theorem k91 {a0 : Int} {r : Int} (H : internal_bytealg_Cutover a0 = some r) : Ret Tryd.prog 91 [.int .i64 a0] (.int .i64 r) := by
  refine enterRet (n := 6) Tryd.func91 rfl rfl rfl (fun wd => ?_)
  refine c_seq ?_
  refine c_region ?_
  refine l_val rfl rfl rfl (r_assign (v := .int .i64 0) rfl) ?_
  refine l_nil ?_
  refine c_seq ?_
  refine c_region ?_
  refine l_val rfl rfl rfl (r_move (v := .int .i64 a0) rfl) ?_
  obtain ⟨t4, h_t4, H3⟩ := bnd_some H; clear H
  refine l_val rfl rfl rfl (r_addG rfl rfl h_t4) ?_
  obtain ⟨t5, h_t5, H4⟩ := bnd_some H3; clear H3
  refine l_val rfl rfl rfl (r_quoG rfl rfl h_t5) ?_
  refine l_val rfl rfl rfl (r_assign (v := .int .i64 t5) rfl) ?_
  refine l_nil ?_
  refine c_ret ?_
  obtain rfl := Option.some.inj H4
  refine ret1 (v := .int .i64 t5) rfl rfl (fin rfl)
theorem k79 {a0 : (List UInt8)} {a1 : Int} {r : Int} (H : strings_IndexRune a0 a1 = some r) : Ret Tryd.prog 79 [str a0, .int .i32 a1] (.int .i64 r) := by
  refine enterRet (n := 187) Tryd.func79 rfl rfl rfl (fun wd => ?_)
  refine c_seq ?_
  refine c_region ?_
  refine l_val rfl rfl rfl (r_assign (v := .int .i64 0) rfl) ?_
  refine l_nil ?_
  refine c_block ?_
  refine c_meet (r := r) (σ := Bool) (τ := Unit) (fun s => strings_IndexRune_j1 a0 a1 s) (fun s t => [(0, str a0), (1, .int .i32 a1), (160, .bool s)]) (fun s t => []) (fun s t => True) ?_ ?_
  · refine c_region ?_
    refine l_val rfl rfl rfl (r_move (v := .int .i32 a1) rfl) ?_
    refine l_val rfl rfl rfl (r_leq rfl rfl) ?_
    refine l_val rfl rfl rfl (r_move (v := .bool (decide (0 ≤ a1))) rfl) ?_
    refine split (fun hb => ?_) (fun hb => ?_)
    · have H31 := cnd_t hb H; clear H
      refine l_val rfl rfl rfl (r_move (v := .int .i32 a1) rfl) ?_
      refine l_val rfl rfl rfl (r_lss rfl rfl) ?_
      refine l_val rfl rfl rfl (r_pickT (v := .bool (decide (a1 < 128))) rfl rfl) ?_
      refine l_val rfl rfl rfl (r_assign (v := .bool (decide (a1 < 128))) rfl) ?_
      refine l_nil ?_
      refine c_close (decide (a1 < 128)) () 0 [] (by exact ⟨rfl, rfl, rfl, trivial⟩) (by decide) rfl (by exact ⟨H31, trivial⟩) (Nat.lt_succ_self _)
    · have H32 := cnd_f hb H; clear H
      refine l_passed rfl rfl rfl ?_
      refine l_passed rfl rfl rfl ?_
      refine l_val rfl rfl rfl (r_pickF (v := .bool false) rfl rfl) ?_
      refine l_val rfl rfl rfl (r_assign (v := .bool false) rfl) ?_
      refine l_nil ?_
      refine c_close false () 0 [] (by exact ⟨rfl, rfl, rfl, trivial⟩) (by decide) rfl (by exact ⟨H32, trivial⟩) (Nat.lt_succ_self _)
  · rintro x160 _ gg H17 _
    replace H17 : strings_IndexRune_j1 a0 a1 x160 = some r := H17
    refine c_tidyF [(0, str a0), (1, .int .i32 a1), (160, .bool x160)] [] rfl rfl ?_
    refine c_if (b := x160) rfl (fun hb => ?_) (fun hb => ?_)
    · have H18 := cnd_t hb H17; clear H17
      exact absurd (show (none : Option (Int)) = some r from H18) (fun h => by cases h)
    · have H19 := cnd_f hb H17; clear H17
      refine c_seq ?_
      refine c_region ?_
      refine l_val rfl rfl rfl (r_move (v := .int .i32 a1) rfl) ?_
      refine l_val rfl rfl rfl (r_eql rfl rfl) ?_
      refine l_val rfl rfl rfl (r_assign (v := .bool (decide (a1 = 65533))) rfl) ?_
      refine l_nil ?_
      refine c_if (b := (decide (a1 = 65533))) rfl (fun hb => ?_) (fun hb => ?_)
      · have H20 := cnd_t hb H19; clear H19
        refine c_seq ?_
        refine c_seq ?_
        refine c_region ?_
        refine l_val rfl rfl rfl (r_move (v := str a0) rfl) ?_
        refine l_make (rds := []) (makes_range (s := a0) Tryd.underlying9 rfl) rfl rfl rfl (fun b1 => ?_)
        refine l_nil ?_
        refine c_block ?_
        refine c_fix (σ := Nat) (τ := Unit) (fun next2 s => strings_IndexRune_l2 a0 next2 s) (fun s t => [(175, .pointer (some ⟨b1, 0, none⟩))]) (fun s t => [iterC b1 a0 s]) (fun s t => True) 0 () [0] H20 (by exact trivial) (by exact ⟨rfl, trivial⟩) (by decide) rfl ?_
        rintro k_2 _ m2 gg H21 _
        clear H20
        replace H21 : strings_IndexRune_l2 a0 (it (fun next2 s => strings_IndexRune_l2 a0 next2 s) m2) k_2 = some r := H21
        generalize hn2 : it (fun next2 s => strings_IndexRune_l2 a0 next2 s) m2 = next2 at H21
        refine c_tidyF [(175, .pointer (some ⟨b1, 0, none⟩))] [iterC b1 a0 k_2] rfl rfl ?_
        refine c_seq ?_
        refine c_region ?_
        refine caseB (decide (k_2 < a0.length)) (fun hb => ?_) (fun hb => ?_)
        · have H22 := cnd_t hb H21; clear H21
          obtain ⟨t176, h_t176, H23⟩ := bnd_some H22; clear H22
          refine l_turn (turns_next (i := 0) (rds := []) rfl rfl h_t176) rfl rfl rfl (fun _ => ?_)
          refine l_val rfl rfl rfl (r_extract (v := .bool true) rfl rfl) ?_
          refine l_nil ?_
          refine c_seq ?_
          refine c_true rfl ?_
          refine c_skip ?_
          refine c_block ?_
          refine c_seq ?_
          refine c_region ?_
          refine l_val rfl rfl rfl (r_extract (v := .int .i64 ((k_2 : Nat) : Int)) rfl rfl) ?_
          refine l_val rfl rfl rfl (r_extract (v := .int .i32 t176) rfl rfl) ?_
          refine l_val rfl rfl rfl (r_assign (v := .int .i64 ((k_2 : Nat) : Int)) rfl) ?_
          refine l_val rfl rfl rfl (r_assign (v := .int .i32 t176) rfl) ?_
          refine l_nil ?_
          refine c_seq ?_
          refine c_region ?_
          refine l_val rfl rfl rfl (r_move (v := .int .i32 t176) rfl) ?_
          refine l_val rfl rfl rfl (r_eql rfl rfl) ?_
          refine l_nil ?_
          refine c_if (b := (decide (t176 = 65533))) rfl (fun hb => ?_) (fun hb => ?_)
          · have H24 := cnd_t hb H23; clear H23
            refine c_seq ?_
            refine c_region ?_
            refine l_val rfl rfl rfl (r_move (v := .int .i64 ((k_2 : Nat) : Int)) rfl) ?_
            refine l_val rfl rfl rfl (r_assign (v := .int .i64 ((k_2 : Nat) : Int)) rfl) ?_
            refine l_nil ?_
            refine c_ret ?_
            obtain rfl := Option.some.inj H24
            refine ret1 (v := .int .i64 ((k_2 : Nat) : Int)) rfl rfl (fin rfl)
          · have H25 := cnd_f hb H23; clear H23
            refine c_skip ?_
            refine c_close (k_2 + 1) () m2 [0] (by exact ⟨rfl, trivial⟩) (by decide) rfl (by exact ⟨(by subst hn2; exact H25), trivial⟩) (Nat.lt_succ_self _)
        · have H26 := cnd_f hb H21; clear H21
          refine l_read (fun w hF hS => r_nextOver (i := 0) hS rfl rfl hb) rfl rfl rfl ?_
          refine l_val rfl rfl rfl (r_extract (v := .bool false) rfl rfl) ?_
          refine l_nil ?_
          refine c_seq ?_
          refine c_false rfl ?_
          refine c_exit ?_
          refine c_seq ?_
          refine c_region ?_
          refine l_val rfl rfl rfl (r_assign (v := .int .i64 (-1)) rfl) ?_
          refine l_nil ?_
          refine c_ret ?_
          obtain rfl := Option.some.inj H26
          refine ret1 (v := .int .i64 (-1)) rfl rfl (fin rfl)
      · have H27 := cnd_f hb H19; clear H19
        refine c_seq ?_
        refine c_region ?_
        refine l_val rfl rfl rfl (r_move (v := .int .i32 a1) rfl) ?_
        obtain ⟨t185, h_t185, H28⟩ := bnd_some H27; clear H27
        refine l_call (k90 h_t185) Tryd.call90 rfl rfl rfl ?_
        refine l_val rfl rfl rfl (r_not rfl) ?_
        refine l_val rfl rfl rfl (r_assign (v := .bool (!t185)) rfl) ?_
        refine l_nil ?_
        refine c_if (b := (!t185)) rfl (fun hb => ?_) (fun hb => ?_)
        · have H29 := cnd_t hb H28; clear H28
          refine c_seq ?_
          refine c_region ?_
          refine l_val rfl rfl rfl (r_assign (v := .int .i64 (-1)) rfl) ?_
          refine l_nil ?_
          refine c_ret ?_
          obtain rfl := Option.some.inj H29
          refine ret1 (v := .int .i64 (-1)) rfl rfl (fin rfl)
        · have H30 := cnd_f hb H28; clear H28
          exact absurd (show (none : Option (Int)) = some r from H30) (fun h => by cases h)
theorem k72 {a0 : (List UInt8)} {a1 : Int} {r : Bool} (H : strings_ContainsRune a0 a1 = some r) : Ret Tryd.prog 72 [str a0, .int .i32 a1] (.bool r) := by
  refine enterRet (n := 9) Tryd.func72 rfl rfl rfl (fun wd => ?_)
  refine c_seq ?_
  refine c_region ?_
  refine l_val rfl rfl rfl (r_assign (v := .bool false) rfl) ?_
  refine l_nil ?_
  refine c_seq ?_
  refine c_region ?_
  refine l_val rfl rfl rfl (r_move (v := str a0) rfl) ?_
  refine l_val rfl rfl rfl (r_move (v := .int .i32 a1) rfl) ?_
  obtain ⟨t7, h_t7, H2⟩ := bnd_some H; clear H
  refine l_call (k79 h_t7) Tryd.call79 rfl rfl rfl ?_
  refine l_val rfl rfl rfl (r_geq rfl rfl) ?_
  refine l_val rfl rfl rfl (r_assign (v := .bool (decide (0 ≤ t7))) rfl) ?_
  refine l_nil ?_
  refine c_ret ?_
  obtain rfl := Option.some.inj H2
  refine ret1 (v := .bool (decide (0 ≤ t7))) rfl rfl (fin rfl)
theorem k60 {a0 : (List UInt8)} {a1 : (List UInt8)} {r : (List UInt8)} (H : strings_trimLeftUnicode a0 a1 = some r) : Ret Tryd.prog 60 [str a0, str a1] (str r) := by
  refine enterRet (n := 23) Tryd.func60 rfl rfl rfl (fun wd => ?_)
  refine c_seq ?_
  refine c_region ?_
  refine l_val rfl rfl rfl (r_assign (v := str []) rfl) ?_
  refine l_nil ?_
  refine c_seq ?_
  refine c_block ?_
  refine c_fix (σ := (List UInt8)) (τ := Unit) (fun next1 s => strings_trimLeftUnicode_l1 a1 next1 s) (fun s t => [(0, str s), (1, str a1)]) (fun s t => []) (fun s t => True) a0 () [] H (by exact trivial) (by exact ⟨rfl, rfl, trivial⟩) (by decide) rfl ?_
  rintro x0_2 _ m1 gg H9 _
  clear H
  replace H9 : strings_trimLeftUnicode_l1 a1 (it (fun next1 s => strings_trimLeftUnicode_l1 a1 next1 s) m1) x0_2 = some r := H9
  generalize hn1 : it (fun next1 s => strings_trimLeftUnicode_l1 a1 next1 s) m1 = next1 at H9
  refine c_tidyF [(0, str x0_2), (1, str a1)] [] rfl rfl ?_
  refine c_seq ?_
  refine c_seq ?_
  refine c_region ?_
  refine l_val rfl rfl rfl (r_move (v := str x0_2) rfl) ?_
  refine l_val rfl rfl rfl (r_lenT Tryd.underlying9 rfl) ?_
  refine l_val rfl rfl rfl (r_gtr rfl rfl) ?_
  refine l_nil ?_
  refine c_if (b := (decide (0 < (x0_2.length : Int)))) rfl (fun hb => ?_) (fun hb => ?_)
  · have H10 := cnd_t hb H9; clear H9
    refine c_skip ?_
    refine c_block ?_
    refine c_seq ?_
    refine c_region ?_
    refine l_val rfl rfl rfl (r_move (v := str x0_2) rfl) ?_
    obtain ⟨t12, h_t12, H11⟩ := bnd_some H10; clear H10
    refine l_call (k71 h_t12) Tryd.call71 rfl rfl rfl ?_
    refine l_val rfl rfl rfl (r_move (v := .tuple #[.int .i32 t12.1, .int .i64 t12.2]) rfl) ?_
    refine l_val rfl rfl rfl (r_extract (v := .int .i32 t12.1) rfl rfl) ?_
    refine l_val rfl rfl rfl (r_extract (v := .int .i64 t12.2) rfl rfl) ?_
    refine l_val rfl rfl rfl (r_assign (v := .int .i32 t12.1) rfl) ?_
    refine l_val rfl rfl rfl (r_assign (v := .int .i64 t12.2) rfl) ?_
    refine l_nil ?_
    refine c_seq ?_
    refine c_seq ?_
    refine c_region ?_
    refine l_val rfl rfl rfl (r_move (v := str a1) rfl) ?_
    refine l_val rfl rfl rfl (r_move (v := .int .i32 t12.1) rfl) ?_
    obtain ⟨t17, h_t17, H12⟩ := bnd_some H11; clear H11
    refine l_call (k72 h_t17) Tryd.call72 rfl rfl rfl ?_
    refine l_val rfl rfl rfl (r_not rfl) ?_
    refine l_nil ?_
    refine c_if (b := (!t17)) rfl (fun hb => ?_) (fun hb => ?_)
    · have H13 := cnd_t hb H12; clear H12
      refine c_exit ?_
      refine c_seq ?_
      refine c_region ?_
      refine l_val rfl rfl rfl (r_move (v := str x0_2) rfl) ?_
      refine l_val rfl rfl rfl (r_assign (v := str x0_2) rfl) ?_
      refine l_nil ?_
      refine c_ret ?_
      obtain rfl := Option.some.inj H13
      refine ret1 (v := str x0_2) rfl rfl (fin rfl)
    · have H14 := cnd_f hb H12; clear H12
      refine c_skip ?_
      refine c_region ?_
      refine l_val rfl rfl rfl (r_move (v := str x0_2) rfl) ?_
      refine l_val rfl rfl rfl (r_move (v := .int .i64 t12.2) rfl) ?_
      obtain ⟨t21, h_t21, H15⟩ := bnd_some H14; clear H14
      refine l_val rfl rfl rfl (r_cutFromG Tryd.underlying9 rfl rfl h_t21) ?_
      refine l_val rfl rfl rfl (r_assign (v := str t21) rfl) ?_
      refine l_nil ?_
      refine c_close t21 () m1 [] (by exact ⟨rfl, rfl, trivial⟩) (by decide) rfl (by exact ⟨(by subst hn1; exact H15), trivial⟩) (Nat.lt_succ_self _)
  · have H16 := cnd_f hb H9; clear H9
    refine c_exit ?_
    refine c_seq ?_
    refine c_region ?_
    refine l_val rfl rfl rfl (r_move (v := str x0_2) rfl) ?_
    refine l_val rfl rfl rfl (r_assign (v := str x0_2) rfl) ?_
    refine l_nil ?_
    refine c_ret ?_
    obtain rfl := Option.some.inj H16
    refine ret1 (v := str x0_2) rfl rfl (fin rfl)
theorem k80 {a0 : Int} {r : Bool} (H : unicode_utf8_RuneStart a0 = some r) : Ret Tryd.prog 80 [.int .u8 a0] (.bool r) := by
  refine enterRet (n := 6) Tryd.func80 rfl rfl rfl (fun wd => ?_)
  refine c_seq ?_
  refine c_region ?_
  refine l_val rfl rfl rfl (r_assign (v := .bool false) rfl) ?_
  refine l_nil ?_
  refine c_seq ?_
  refine c_region ?_
  refine l_val rfl rfl rfl (r_move (v := .int .u8 a0) rfl) ?_
  refine l_val rfl rfl rfl (r_bitsAnd (bits := 8) rfl rfl rfl (wr_u8 _)) ?_
  refine l_val rfl rfl rfl (r_neq rfl rfl) ?_
  refine l_val rfl rfl rfl (r_assign (v := .bool (decide ((wU8 (bAnd 8 a0 192)) ≠ 128))) rfl) ?_
  refine l_nil ?_
  refine c_ret ?_
  obtain rfl := Option.some.inj H
  refine ret1 (v := .bool (decide ((wU8 (bAnd 8 a0 192)) ≠ 128))) rfl rfl (fin rfl)
theorem k73 {a0 : (List UInt8)} {r : Int × Int} (H : unicode_utf8_DecodeLastRuneInString a0 = some r) : Ret Tryd.prog 73 [str a0] (.tuple #[.int .i32 r.1, .int .i64 r.2]) := by
  refine enterRet (n := 51) Tryd.func73 rfl rfl rfl (fun wd => ?_)
  refine c_seq ?_
  refine c_region ?_
  refine l_val rfl rfl rfl (r_assign (v := .int .i32 0) rfl) ?_
  refine l_val rfl rfl rfl (r_assign (v := .int .i64 0) rfl) ?_
  refine l_nil ?_
  refine c_seq ?_
  refine c_region ?_
  refine l_val rfl rfl rfl (r_move (v := str a0) rfl) ?_
  refine l_val rfl rfl rfl (r_lenT Tryd.underlying9 rfl) ?_
  refine l_val rfl rfl rfl (r_assign (v := .int .i64 (a0.length : Int)) rfl) ?_
  refine l_nil ?_
  refine c_seq ?_
  refine c_seq ?_
  refine c_region ?_
  refine l_val rfl rfl rfl (r_move (v := .int .i64 (a0.length : Int)) rfl) ?_
  refine l_val rfl rfl rfl (r_eql rfl rfl) ?_
  refine l_nil ?_
  refine c_if (b := (decide ((a0.length : Int) = 0))) rfl (fun hb => ?_) (fun hb => ?_)
  · have H27 := cnd_t hb H; clear H
    refine c_seq ?_
    refine c_region ?_
    refine l_val rfl rfl rfl (r_assign (v := .int .i32 65533) rfl) ?_
    refine l_val rfl rfl rfl (r_assign (v := .int .i64 0) rfl) ?_
    refine l_nil ?_
    refine c_ret ?_
    obtain rfl := Option.some.inj H27
    refine ret2 (v1 := .int .i32 65533) (v2 := .int .i64 0) rfl rfl rfl (fin rfl)
  · have H28 := cnd_f hb H; clear H
    refine c_skip ?_
    refine c_seq ?_
    refine c_region ?_
    refine l_val rfl rfl rfl (r_move (v := .int .i64 (a0.length : Int)) rfl) ?_
    obtain ⟨t12, h_t12, H29⟩ := bnd_some H28; clear H28
    refine l_val rfl rfl rfl (r_subG rfl rfl h_t12) ?_
    refine l_val rfl rfl rfl (r_assign (v := .int .i64 t12) rfl) ?_
    refine l_nil ?_
    refine c_seq ?_
    refine c_region ?_
    refine l_val rfl rfl rfl (r_move (v := str a0) rfl) ?_
    refine l_val rfl rfl rfl (r_move (v := .int .i64 t12) rfl) ?_
    obtain ⟨t15, h_t15, H30⟩ := bnd_some H29; clear H29
    refine l_val rfl rfl rfl (r_octG Tryd.underlying9 rfl rfl h_t15) ?_
    obtain ⟨t16, h_t16, H31⟩ := bnd_some H30; clear H30
    refine l_val rfl rfl rfl (r_convG Tryd.runUnderlying5 Tryd.runUnderlying21 rfl (gK_i32 h_t16)) ?_
    refine l_val rfl rfl rfl (r_assign (v := .int .i32 t16) rfl) ?_
    refine l_nil ?_
    refine c_seq ?_
    refine c_seq ?_
    refine c_region ?_
    refine l_val rfl rfl rfl (r_move (v := .int .i32 t16) rfl) ?_
    refine l_val rfl rfl rfl (r_lss rfl rfl) ?_
    refine l_nil ?_
    refine c_if (b := (decide (t16 < 128))) rfl (fun hb => ?_) (fun hb => ?_)
    · have H32 := cnd_t hb H31; clear H31
      refine c_seq ?_
      refine c_region ?_
      refine l_val rfl rfl rfl (r_move (v := .int .i32 t16) rfl) ?_
      refine l_val rfl rfl rfl (r_assign (v := .int .i32 t16) rfl) ?_
      refine l_val rfl rfl rfl (r_assign (v := .int .i64 1) rfl) ?_
      refine l_nil ?_
      refine c_ret ?_
      obtain rfl := Option.some.inj H32
      refine ret2 (v1 := .int .i32 t16) (v2 := .int .i64 1) rfl rfl rfl (fin rfl)
    · have H33 := cnd_f hb H31; clear H31
      refine c_skip ?_
      refine c_seq ?_
      refine c_region ?_
      refine l_val rfl rfl rfl (r_move (v := .int .i64 (a0.length : Int)) rfl) ?_
      obtain ⟨t21, h_t21, H34⟩ := bnd_some H33; clear H33
      refine l_val rfl rfl rfl (r_subG rfl rfl h_t21) ?_
      refine l_val rfl rfl rfl (r_max rfl rfl) ?_
      refine l_val rfl rfl rfl (r_assign (v := .int .i64 (max t21 0)) rfl) ?_
      refine l_nil ?_
      refine c_meet (r := r) (σ := Int) (τ := Unit) (fun s => unicode_utf8_DecodeLastRuneInString_j1 a0 s) (fun s t => [(0, str a0), (4, .int .i64 (a0.length : Int)), (5, .int .i64 s)]) (fun s t => []) (fun s t => True) ?_ ?_
      · refine c_seq ?_
        refine c_region ?_
        refine l_val rfl rfl rfl (r_move (v := .int .i64 t12) rfl) ?_
        obtain ⟨t24, h_t24, H44⟩ := bnd_some H34; clear H34
        refine l_val rfl rfl rfl (r_subG rfl rfl h_t24) ?_
        refine l_val rfl rfl rfl (r_assign (v := .int .i64 t24) rfl) ?_
        refine l_nil ?_
        refine c_block ?_
        refine c_fix (σ := Int) (τ := Unit) (fun next3 s => unicode_utf8_DecodeLastRuneInString_l3 a0 t21 next3 s) (fun s t => [(0, str a0), (4, .int .i64 (a0.length : Int)), (5, .int .i64 s), (6, .int .i64 (max t21 0))]) (fun s t => []) (fun s t => True) t24 () [] H44 (by exact trivial) (by exact ⟨rfl, rfl, rfl, rfl, trivial⟩) (by decide) rfl ?_
        rintro x5_4 _ m3 gg H45 _
        clear H44
        replace H45 : unicode_utf8_DecodeLastRuneInString_l3 a0 t21 (it (fun next3 s => unicode_utf8_DecodeLastRuneInString_l3 a0 t21 next3 s) m3) x5_4 = some r := H45
        generalize hn3 : it (fun next3 s => unicode_utf8_DecodeLastRuneInString_l3 a0 t21 next3 s) m3 = next3 at H45
        refine c_tidyF [(0, str a0), (4, .int .i64 (a0.length : Int)), (5, .int .i64 x5_4), (6, .int .i64 (max t21 0))] [] rfl rfl ?_
        refine c_seq ?_
        refine c_seq ?_
        refine c_region ?_
        refine l_val rfl rfl rfl (r_move (v := .int .i64 x5_4) rfl) ?_
        refine l_val rfl rfl rfl (r_move (v := .int .i64 (max t21 0)) rfl) ?_
        refine l_val rfl rfl rfl (r_geq rfl rfl) ?_
        refine l_nil ?_
        refine c_if (b := (decide ((max t21 0) ≤ x5_4))) rfl (fun hb => ?_) (fun hb => ?_)
        · have H46 := cnd_t hb H45; clear H45
          refine c_skip ?_
          refine c_seq ?_
          refine c_block ?_
          refine c_seq ?_
          refine c_region ?_
          refine l_val rfl rfl rfl (r_move (v := str a0) rfl) ?_
          refine l_val rfl rfl rfl (r_move (v := .int .i64 x5_4) rfl) ?_
          obtain ⟨t32, h_t32, H47⟩ := bnd_some H46; clear H46
          refine l_val rfl rfl rfl (r_octG Tryd.underlying9 rfl rfl h_t32) ?_
          obtain ⟨t33, h_t33, H48⟩ := bnd_some H47; clear H47
          refine l_call (k80 h_t33) Tryd.call80 rfl rfl rfl ?_
          refine l_nil ?_
          refine c_if (b := t33) rfl (fun hb => ?_) (fun hb => ?_)
          · have H49 := cnd_t hb H48; clear H48
            refine c_exit ?_
            refine c_close x5_4 () 0 [] (by exact ⟨rfl, rfl, rfl, trivial⟩) (by decide) rfl (by exact ⟨H49, trivial⟩) (Nat.lt_succ_self _)
          · have H50 := cnd_f hb H48; clear H48
            refine c_skip ?_
            refine c_region ?_
            refine l_val rfl rfl rfl (r_move (v := .int .i64 x5_4) rfl) ?_
            obtain ⟨t29, h_t29, H51⟩ := bnd_some H50; clear H50
            refine l_val rfl rfl rfl (r_subG rfl rfl h_t29) ?_
            refine l_val rfl rfl rfl (r_assign (v := .int .i64 t29) rfl) ?_
            refine l_nil ?_
            refine c_close t29 () m3 [] (by exact ⟨rfl, rfl, rfl, rfl, trivial⟩) (by decide) rfl (by exact ⟨(by subst hn3; exact H51), trivial⟩) (Nat.lt_succ_self _)
        · have H52 := cnd_f hb H45; clear H45
          refine c_exit ?_
          refine c_close x5_4 () 0 [] (by exact ⟨rfl, rfl, rfl, trivial⟩) (by decide) rfl (by exact ⟨H52, trivial⟩) (Nat.lt_succ_self _)
      · rintro x5 _ gg H35 _
        replace H35 : unicode_utf8_DecodeLastRuneInString_j1 a0 x5 = some r := H35
        refine c_tidyF [(0, str a0), (4, .int .i64 (a0.length : Int)), (5, .int .i64 x5)] [] rfl rfl ?_
        refine c_meet (r := r) (σ := Int) (τ := Unit) (fun s => unicode_utf8_DecodeLastRuneInString_j2 a0 s) (fun s t => [(0, str a0), (4, .int .i64 (a0.length : Int)), (5, .int .i64 s)]) (fun s t => []) (fun s t => True) ?_ ?_
        · refine c_seq ?_
          refine c_region ?_
          refine l_val rfl rfl rfl (r_move (v := .int .i64 x5) rfl) ?_
          refine l_val rfl rfl rfl (r_lss rfl rfl) ?_
          refine l_nil ?_
          refine c_if (b := (decide (x5 < 0))) rfl (fun hb => ?_) (fun hb => ?_)
          · have H42 := cnd_t hb H35; clear H35
            refine c_region ?_
            refine l_val rfl rfl rfl (r_assign (v := .int .i64 0) rfl) ?_
            refine l_nil ?_
            refine c_close 0 () 0 [] (by exact ⟨rfl, rfl, rfl, trivial⟩) (by decide) rfl (by exact ⟨H42, trivial⟩) (Nat.lt_succ_self _)
          · have H43 := cnd_f hb H35; clear H35
            refine c_skip ?_
            refine c_close x5 () 0 [] (by exact ⟨rfl, rfl, rfl, trivial⟩) (by decide) rfl (by exact ⟨H43, trivial⟩) (Nat.lt_succ_self _)
        · rintro x5_2 _ gg H36 _
          replace H36 : unicode_utf8_DecodeLastRuneInString_j2 a0 x5_2 = some r := H36
          refine c_tidyF [(0, str a0), (4, .int .i64 (a0.length : Int)), (5, .int .i64 x5_2)] [] rfl rfl ?_
          refine c_seq ?_
          refine c_region ?_
          refine l_val rfl rfl rfl (r_move (v := str a0) rfl) ?_
          refine l_val rfl rfl rfl (r_move (v := .int .i64 x5_2) rfl) ?_
          refine l_val rfl rfl rfl (r_move (v := .int .i64 (a0.length : Int)) rfl) ?_
          obtain ⟨t40, h_t40, H37⟩ := bnd_some H36; clear H36
          refine l_val rfl rfl rfl (r_cutTG Tryd.underlying9 rfl rfl rfl h_t40) ?_
          obtain ⟨t41, h_t41, H38⟩ := bnd_some H37; clear H37
          refine l_call (k71 h_t41) Tryd.call71 rfl rfl rfl ?_
          refine l_val rfl rfl rfl (r_move (v := .tuple #[.int .i32 t41.1, .int .i64 t41.2]) rfl) ?_
          refine l_val rfl rfl rfl (r_extract (v := .int .i32 t41.1) rfl rfl) ?_
          refine l_val rfl rfl rfl (r_extract (v := .int .i64 t41.2) rfl rfl) ?_
          refine l_val rfl rfl rfl (r_assign (v := .int .i32 t41.1) rfl) ?_
          refine l_val rfl rfl rfl (r_assign (v := .int .i64 t41.2) rfl) ?_
          refine l_nil ?_
          refine c_seq ?_
          refine c_seq ?_
          refine c_region ?_
          refine l_val rfl rfl rfl (r_move (v := .int .i64 x5_2) rfl) ?_
          refine l_val rfl rfl rfl (r_move (v := .int .i64 t41.2) rfl) ?_
          obtain ⟨t46, h_t46, H39⟩ := bnd_some H38; clear H38
          refine l_val rfl rfl rfl (r_addG rfl rfl h_t46) ?_
          refine l_val rfl rfl rfl (r_move (v := .int .i64 (a0.length : Int)) rfl) ?_
          refine l_val rfl rfl rfl (r_neq rfl rfl) ?_
          refine l_nil ?_
          refine c_if (b := (decide (t46 ≠ (a0.length : Int)))) rfl (fun hb => ?_) (fun hb => ?_)
          · have H40 := cnd_t hb H39; clear H39
            refine c_seq ?_
            refine c_region ?_
            refine l_val rfl rfl rfl (r_assign (v := .int .i32 65533) rfl) ?_
            refine l_val rfl rfl rfl (r_assign (v := .int .i64 1) rfl) ?_
            refine l_nil ?_
            refine c_ret ?_
            obtain rfl := Option.some.inj H40
            refine ret2 (v1 := .int .i32 65533) (v2 := .int .i64 1) rfl rfl rfl (fin rfl)
          · have H41 := cnd_f hb H39; clear H39
            refine c_skip ?_
            refine c_seq ?_
            refine c_region ?_
            refine l_val rfl rfl rfl (r_move (v := .int .i32 t41.1) rfl) ?_
            refine l_val rfl rfl rfl (r_move (v := .int .i64 t41.2) rfl) ?_
            refine l_val rfl rfl rfl (r_assign (v := .int .i32 t41.1) rfl) ?_
            refine l_val rfl rfl rfl (r_assign (v := .int .i64 t41.2) rfl) ?_
            refine l_nil ?_
            refine c_ret ?_
            obtain rfl := Option.some.inj H41
            refine ret2 (v1 := .int .i32 t41.1) (v2 := .int .i64 t41.2) rfl rfl rfl (fin rfl)
theorem k61 {a0 : (List UInt8)} {a1 : (List UInt8)} {r : (List UInt8)} (H : strings_trimRightUnicode a0 a1 = some r) : Ret Tryd.prog 61 [str a0, str a1] (str r) := by
  refine enterRet (n := 34) Tryd.func61 rfl rfl rfl (fun wd => ?_)
  refine c_seq ?_
  refine c_region ?_
  refine l_val rfl rfl rfl (r_assign (v := str []) rfl) ?_
  refine l_nil ?_
  refine c_seq ?_
  refine c_block ?_
  refine c_fix (σ := (List UInt8)) (τ := Unit) (fun next1 s => strings_trimRightUnicode_l1 a1 next1 s) (fun s t => [(0, str s), (1, str a1)]) (fun s t => []) (fun s t => True) a0 () [] H (by exact trivial) (by exact ⟨rfl, rfl, trivial⟩) (by decide) rfl ?_
  rintro x0_2 _ m1 gg H16 _
  clear H
  replace H16 : strings_trimRightUnicode_l1 a1 (it (fun next1 s => strings_trimRightUnicode_l1 a1 next1 s) m1) x0_2 = some r := H16
  generalize hn1 : it (fun next1 s => strings_trimRightUnicode_l1 a1 next1 s) m1 = next1 at H16
  refine c_tidyF [(0, str x0_2), (1, str a1)] [] rfl rfl ?_
  refine c_seq ?_
  refine c_seq ?_
  refine c_region ?_
  refine l_val rfl rfl rfl (r_move (v := str x0_2) rfl) ?_
  refine l_val rfl rfl rfl (r_lenT Tryd.underlying9 rfl) ?_
  refine l_val rfl rfl rfl (r_gtr rfl rfl) ?_
  refine l_nil ?_
  refine c_if (b := (decide (0 < (x0_2.length : Int)))) rfl (fun hb => ?_) (fun hb => ?_)
  · have H17 := cnd_t hb H16; clear H16
    refine c_skip ?_
    refine c_block ?_
    refine c_seq ?_
    refine c_region ?_
    refine l_val rfl rfl rfl (r_move (v := str x0_2) rfl) ?_
    refine l_val rfl rfl rfl (r_move (v := str x0_2) rfl) ?_
    refine l_val rfl rfl rfl (r_lenT Tryd.underlying9 rfl) ?_
    obtain ⟨t13, h_t13, H18⟩ := bnd_some H17; clear H17
    refine l_val rfl rfl rfl (r_subG rfl rfl h_t13) ?_
    obtain ⟨t14, h_t14, H19⟩ := bnd_some H18; clear H18
    refine l_val rfl rfl rfl (r_octG Tryd.underlying9 rfl rfl h_t14) ?_
    obtain ⟨t15, h_t15, H20⟩ := bnd_some H19; clear H19
    refine l_val rfl rfl rfl (r_convG Tryd.runUnderlying5 Tryd.runUnderlying21 rfl (gK_i32 h_t15)) ?_
    refine l_val rfl rfl rfl (r_assign (v := .int .i32 t15) rfl) ?_
    refine l_val rfl rfl rfl (r_assign (v := .int .i64 1) rfl) ?_
    refine l_nil ?_
    refine c_meet (r := r) (σ := Int × Int) (τ := Unit) (fun s => strings_trimRightUnicode_j2 a1 x0_2 next1 s.1 s.2) (fun s t => [(0, str x0_2), (1, str a1), (5, .int .i32 s.1), (6, .int .i64 s.2)]) (fun s t => []) (fun s t => True) ?_ ?_
    · refine c_seq ?_
      refine c_region ?_
      refine l_val rfl rfl rfl (r_move (v := .int .i32 t15) rfl) ?_
      refine l_val rfl rfl rfl (r_geq rfl rfl) ?_
      refine l_nil ?_
      refine c_if (b := (decide (128 ≤ t15))) rfl (fun hb => ?_) (fun hb => ?_)
      · have H27 := cnd_t hb H20; clear H20
        refine c_region ?_
        refine l_val rfl rfl rfl (r_move (v := str x0_2) rfl) ?_
        obtain ⟨t20, h_t20, H28⟩ := bnd_some H27; clear H27
        refine l_call (k73 h_t20) Tryd.call73 rfl rfl rfl ?_
        refine l_val rfl rfl rfl (r_move (v := .tuple #[.int .i32 t20.1, .int .i64 t20.2]) rfl) ?_
        refine l_val rfl rfl rfl (r_extract (v := .int .i32 t20.1) rfl rfl) ?_
        refine l_val rfl rfl rfl (r_extract (v := .int .i64 t20.2) rfl rfl) ?_
        refine l_val rfl rfl rfl (r_assign (v := .int .i32 t20.1) rfl) ?_
        refine l_val rfl rfl rfl (r_assign (v := .int .i64 t20.2) rfl) ?_
        refine l_nil ?_
        refine c_close (t20.1, t20.2) () 0 [] (by exact ⟨rfl, rfl, rfl, rfl, trivial⟩) (by decide) rfl (by exact ⟨H28, trivial⟩) (Nat.lt_succ_self _)
      · have H29 := cnd_f hb H20; clear H20
        refine c_skip ?_
        refine c_close (t15, 1) () 0 [] (by exact ⟨rfl, rfl, rfl, rfl, trivial⟩) (by decide) rfl (by exact ⟨H29, trivial⟩) (Nat.lt_succ_self _)
    · rintro ⟨x5, x6⟩ _ gg H21 _
      replace H21 : strings_trimRightUnicode_j2 a1 x0_2 next1 x5 x6 = some r := H21
      refine c_tidyF [(0, str x0_2), (1, str a1), (5, .int .i32 x5), (6, .int .i64 x6)] [] rfl rfl ?_
      refine c_seq ?_
      refine c_seq ?_
      refine c_region ?_
      refine l_val rfl rfl rfl (r_move (v := str a1) rfl) ?_
      refine l_val rfl rfl rfl (r_move (v := .int .i32 x5) rfl) ?_
      obtain ⟨t25, h_t25, H22⟩ := bnd_some H21; clear H21
      refine l_call (k72 h_t25) Tryd.call72 rfl rfl rfl ?_
      refine l_val rfl rfl rfl (r_not rfl) ?_
      refine l_nil ?_
      refine c_if (b := (!t25)) rfl (fun hb => ?_) (fun hb => ?_)
      · have H23 := cnd_t hb H22; clear H22
        refine c_exit ?_
        refine c_seq ?_
        refine c_region ?_
        refine l_val rfl rfl rfl (r_move (v := str x0_2) rfl) ?_
        refine l_val rfl rfl rfl (r_assign (v := str x0_2) rfl) ?_
        refine l_nil ?_
        refine c_ret ?_
        obtain rfl := Option.some.inj H23
        refine ret1 (v := str x0_2) rfl rfl (fin rfl)
      · have H24 := cnd_f hb H22; clear H22
        refine c_skip ?_
        refine c_region ?_
        refine l_val rfl rfl rfl (r_move (v := str x0_2) rfl) ?_
        refine l_val rfl rfl rfl (r_move (v := str x0_2) rfl) ?_
        refine l_val rfl rfl rfl (r_lenT Tryd.underlying9 rfl) ?_
        refine l_val rfl rfl rfl (r_move (v := .int .i64 x6) rfl) ?_
        obtain ⟨t31, h_t31, H25⟩ := bnd_some H24; clear H24
        refine l_val rfl rfl rfl (r_subG rfl rfl h_t31) ?_
        obtain ⟨t32, h_t32, H26⟩ := bnd_some H25; clear H25
        refine l_val rfl rfl rfl (r_cutToG Tryd.underlying9 rfl rfl h_t32) ?_
        refine l_val rfl rfl rfl (r_assign (v := str t32) rfl) ?_
        refine l_nil ?_
        refine c_close t32 () m1 [] (by exact ⟨rfl, rfl, trivial⟩) (by decide) rfl (by exact ⟨(by subst hn1; exact H26), trivial⟩) (Nat.lt_succ_self _)
  · have H30 := cnd_f hb H16; clear H16
    refine c_exit ?_
    refine c_seq ?_
    refine c_region ?_
    refine l_val rfl rfl rfl (r_move (v := str x0_2) rfl) ?_
    refine l_val rfl rfl rfl (r_assign (v := str x0_2) rfl) ?_
    refine l_nil ?_
    refine c_ret ?_
    obtain rfl := Option.some.inj H30
    refine ret1 (v := str x0_2) rfl rfl (fin rfl)
theorem k43 {a0 : (List UInt8)} {a1 : (List UInt8)} {r : (List UInt8)} (H : strings_Trim a0 a1 = some r) : Ret Tryd.prog 43 [str a0, str a1] (str r) := by
  refine enterRet (n := 43) Tryd.func43 rfl rfl rfl (fun wd => ?_)
  refine c_seq ?_
  refine c_region ?_
  refine l_val rfl rfl rfl (r_assign (v := str []) rfl) ?_
  refine l_nil ?_
  refine c_seq ?_
  refine c_seq ?_
  refine c_region ?_
  refine l_val rfl rfl rfl (r_move (v := str a0) rfl) ?_
  refine l_val rfl rfl rfl (r_eqlT rfl rfl) ?_
  refine l_val rfl rfl rfl (r_move (v := .bool (decide (a0 = []))) rfl) ?_
  refine split (fun hb => ?_) (fun hb => ?_)
  · have H22 := cnd_t hb H; clear H
    refine l_passed rfl rfl rfl ?_
    refine l_passed rfl rfl rfl ?_
    refine l_val rfl rfl rfl (r_pickT (v := .bool true) rfl rfl) ?_
    refine l_nil ?_
    refine c_true rfl ?_
    refine c_seq ?_
    refine c_region ?_
    refine l_val rfl rfl rfl (r_move (v := str a0) rfl) ?_
    refine l_val rfl rfl rfl (r_assign (v := str a0) rfl) ?_
    refine l_nil ?_
    refine c_ret ?_
    obtain rfl := Option.some.inj H22
    refine ret1 (v := str a0) rfl rfl (fin rfl)
  · have H23 := cnd_f hb H; clear H
    refine l_val rfl rfl rfl (r_move (v := str a1) rfl) ?_
    refine l_val rfl rfl rfl (r_eqlT rfl rfl) ?_
    refine l_val rfl rfl rfl (r_pickF (v := .bool (decide (a1 = []))) rfl rfl) ?_
    refine l_nil ?_
    refine c_if (b := (decide (a1 = []))) rfl (fun hb => ?_) (fun hb => ?_)
    · have H24 := cnd_t hb H23; clear H23
      refine c_seq ?_
      refine c_region ?_
      refine l_val rfl rfl rfl (r_move (v := str a0) rfl) ?_
      refine l_val rfl rfl rfl (r_assign (v := str a0) rfl) ?_
      refine l_nil ?_
      refine c_ret ?_
      obtain rfl := Option.some.inj H24
      refine ret1 (v := str a0) rfl rfl (fin rfl)
    · have H25 := cnd_f hb H23; clear H23
      refine c_skip ?_
      refine c_meet (r := r) (σ := Unit) (τ := Unit) (fun s => strings_Trim_j1 a0 a1) (fun s t => [(0, str a0), (1, str a1)]) (fun s t => []) (fun s t => True) ?_ ?_
      · refine c_seq ?_
        refine c_region ?_
        refine l_val rfl rfl rfl (r_move (v := str a1) rfl) ?_
        refine l_val rfl rfl rfl (r_lenT Tryd.underlying9 rfl) ?_
        refine l_val rfl rfl rfl (r_eql rfl rfl) ?_
        refine l_val rfl rfl rfl (r_move (v := .bool (decide ((a1.length : Int) = 1))) rfl) ?_
        refine split (fun hb => ?_) (fun hb => ?_)
        · have H34 := cnd_t hb H25; clear H25
          refine l_val rfl rfl rfl (r_move (v := str a1) rfl) ?_
          obtain ⟨t19, h_t19, H35⟩ := bnd_some H34; clear H34
          refine l_val rfl rfl rfl (r_octG Tryd.underlying9 rfl rfl h_t19) ?_
          refine l_val rfl rfl rfl (r_lss rfl rfl) ?_
          refine l_val rfl rfl rfl (r_pickT (v := .bool (decide (t19 < 128))) rfl rfl) ?_
          refine l_nil ?_
          refine c_if (b := (decide (t19 < 128))) rfl (fun hb => ?_) (fun hb => ?_)
          · have H36 := cnd_t hb H35; clear H35
            refine c_seq ?_
            exact c_regionD (Kd.p :: Kd.p :: Kd.p :: Kd.d [] _ :: Kd.p :: Kd.p :: Kd.d [] _ :: Kd.p :: []) 0 mixed (by
              refine d_val rfl rfl (r_move (v := str a0) rfl) ?_
              refine d_val rfl rfl (r_move (v := str a1) rfl) ?_
              have h_t24 := bnd_val H36
              have H37 := bnd_rest H36
              refine d_val rfl rfl (r_octG Tryd.underlying9 rfl rfl h_t24) ?_
              have h_t25 := bnd_val H37
              have H38 := bnd_rest H37
              refine d_call (k56 h_t25) Tryd.call56 rfl rfl ?_
              refine d_val rfl rfl (r_move (v := str a1) rfl) ?_
              have h_t27 := bnd_val H38
              have H39 := bnd_rest H38
              refine d_val rfl rfl (r_octG Tryd.underlying9 rfl rfl h_t27) ?_
              have h_t28 := bnd_val H39
              have H40 := bnd_rest H39
              refine d_call (k55 h_t28) Tryd.call55 rfl rfl ?_
              refine d_val rfl rfl (r_assign (v := str (val (strings_trimLeftByte (val (strings_trimRightByte a0 (val (gOct a1 0)))) (val (gOct a1 0))))) rfl) ?_
              refine d_nil ?_
              refine c_ret ?_
              obtain rfl := Option.some.inj H40
              refine ret1 (v := str (val (strings_trimLeftByte (val (strings_trimRightByte a0 (val (gOct a1 0)))) (val (gOct a1 0))))) rfl rfl (fin rfl)
              ) (by kernel_rfl)
          · have H41 := cnd_f hb H35; clear H35
            refine c_skip ?_
            refine c_close () () 0 [] (by exact ⟨rfl, rfl, trivial⟩) (by decide) rfl (by exact ⟨H41, trivial⟩) (Nat.lt_succ_self _)
        · have H42 := cnd_f hb H25; clear H25
          refine l_passed rfl rfl rfl ?_
          refine l_passed rfl rfl rfl ?_
          refine l_passed rfl rfl rfl ?_
          refine l_val rfl rfl rfl (r_pickF (v := .bool false) rfl rfl) ?_
          refine l_nil ?_
          refine c_false rfl ?_
          refine c_skip ?_
          refine c_close () () 0 [] (by exact ⟨rfl, rfl, trivial⟩) (by decide) rfl (by exact ⟨H42, trivial⟩) (Nat.lt_succ_self _)
      · rintro _ _ gg H26 _
        replace H26 : strings_Trim_j1 a0 a1 = some r := H26
        refine c_tidyF [(0, str a0), (1, str a1)] [] rfl rfl ?_
        refine c_seq ?_
        refine c_seq ?_
        refine c_region ?_
        refine l_val rfl rfl rfl (r_move (v := str a1) rfl) ?_
        obtain ⟨t31, h_t31, H27⟩ := bnd_some H26; clear H26
        refine l_call (k57 h_t31) Tryd.call57 rfl rfl rfl ?_
        refine l_val rfl rfl rfl (r_move (v := .tuple #[.agg (List.toArray (arrC 256 (fun j_ => [.bool (t31.1 j_)]))), .bool t31.2]) rfl) ?_
        refine l_val rfl rfl rfl (r_extract (v := .agg (List.toArray (arrC 256 (fun j_ => [.bool (t31.1 j_)])))) rfl rfl) ?_
        refine l_val rfl rfl rfl (r_extract (v := .bool t31.2) rfl rfl) ?_
        refine l_alloc (cs := (arrC 256 (fun j_ => [.bool ((fun _ => false) j_)]))) Tryd.zeroValue95 (by kernel_rfl) rfl rfl (fun b1 => ?_)
        refine l_store (i := 0) (vs := (arrC 256 (fun j_ => [.bool (t31.1 j_)]))) (cs' := (arrC 256 (fun j_ => [.bool (t31.1 j_)]))) Tryd.sizeOf95 rfl rfl rfl rfl (arrC_len (fun _ => rfl)) rfl (arrC_one (fun _ => rfl)) rfl (wr_whole ((arrC_len (fun _ => rfl)).trans (arrC_len (fun _ => rfl)).symm)) ?_
        refine l_val rfl rfl rfl (r_assign (v := .bool t31.2) rfl) ?_
        refine l_nil ?_
        refine c_seq ?_
        refine c_region ?_
        refine l_val rfl rfl rfl (r_move (v := .bool t31.2) rfl) ?_
        refine l_nil ?_
        refine c_if (b := t31.2) rfl (fun hb => ?_) (fun hb => ?_)
        · have H28 := cnd_t hb H27; clear H27
          refine c_seq ?_
          refine c_region ?_
          refine l_val rfl rfl rfl (r_move (v := str a0) rfl) ?_
          obtain ⟨t36, h_t36, H29⟩ := bnd_some H28; clear H28
          refine l_turn (turns_callB (i := 0) (rds := []) (G := fun x : Unit => str t36.1) (C := fun x : Unit => cellsC b1 (arrC 256 (fun j_ => [.bool (t36.2 j_)])) 95) rfl (fun w L' S hF hS hi hp hlt ho hA => k59 hp hlt (know_but w S)  h_t36) Tryd.call59 rfl) rfl rfl rfl (fun _ => ?_)
          obtain ⟨t37, h_t37, H30⟩ := bnd_some H29; clear H29
          refine l_turn (turns_callB (i := 0) (rds := []) (G := fun x : Unit => str t37.1) (C := fun x : Unit => cellsC b1 (arrC 256 (fun j_ => [.bool (t37.2 j_)])) 95) rfl (fun w L' S hF hS hi hp hlt ho hA => k58 hp hlt (know_but w S)  h_t37) Tryd.call58 rfl) rfl rfl rfl (fun _ => ?_)
          refine l_val rfl rfl rfl (r_assign (v := str t37.1) rfl) ?_
          refine l_nil ?_
          refine c_ret ?_
          obtain rfl := Option.some.inj H30
          refine ret1 (v := str t37.1) rfl rfl (fin rfl)
        · have H31 := cnd_f hb H27; clear H27
          refine c_skip ?_
          refine c_seq ?_
          refine c_region ?_
          refine l_val rfl rfl rfl (r_move (v := str a0) rfl) ?_
          refine l_val rfl rfl rfl (r_move (v := str a1) rfl) ?_
          obtain ⟨t40, h_t40, H32⟩ := bnd_some H31; clear H31
          refine l_call (k61 h_t40) Tryd.call61 rfl rfl rfl ?_
          refine l_val rfl rfl rfl (r_move (v := str a1) rfl) ?_
          obtain ⟨t42, h_t42, H33⟩ := bnd_some H32; clear H32
          refine l_call (k60 h_t42) Tryd.call60 rfl rfl rfl ?_
          refine l_val rfl rfl rfl (r_assign (v := str t42) rfl) ?_
          refine l_nil ?_
          refine c_ret ?_
          obtain rfl := Option.some.inj H33
          refine ret1 (v := str t42) rfl rfl (fin rfl)
theorem k42 {a0 : (List UInt8)} {r : Int} (H : where_checkCell a0 = some r) : Ret Tryd.prog 42 [str a0] (.int .i64 r) := by
  refine enterRet (n := 11) Tryd.func42 rfl rfl rfl (fun wd => ?_)
  refine c_seq ?_
  refine c_region ?_
  refine l_val rfl rfl rfl (r_assign (v := .int .i64 0) rfl) ?_
  refine l_nil ?_
  refine c_seq ?_
  refine c_block ?_
  refine c_seq ?_
  refine c_region ?_
  refine l_val rfl rfl rfl (r_move (v := str a0) rfl) ?_
  refine l_val rfl rfl rfl (r_lenT Tryd.underlying9 rfl) ?_
  refine l_val rfl rfl rfl (r_gtr rfl rfl) ?_
  refine l_val rfl rfl rfl (r_assign (v := .bool (decide (24 < (a0.length : Int)))) rfl) ?_
  refine l_nil ?_
  refine c_if (b := (decide (24 < (a0.length : Int)))) rfl (fun hb => ?_) (fun hb => ?_)
  · have H6 := cnd_t hb H; clear H
    refine c_seq ?_
    refine c_region ?_
    refine l_val rfl rfl rfl (r_assign (v := .int .i64 4) rfl) ?_
    refine l_nil ?_
    refine c_ret ?_
    obtain rfl := Option.some.inj H6
    refine ret1 (v := .int .i64 4) rfl rfl (fin rfl)
  · have H7 := cnd_f hb H; clear H
    refine c_seq ?_
    refine c_region ?_
    refine l_val rfl rfl rfl (r_move (v := str a0) rfl) ?_
    obtain ⟨t9, h_t9, H8⟩ := bnd_some H7; clear H7
    refine l_call (k43 h_t9) Tryd.call43 rfl rfl rfl ?_
    refine l_val rfl rfl rfl (r_neqT rfl rfl) ?_
    refine l_val rfl rfl rfl (r_assign (v := .bool (decide (t9 ≠ []))) rfl) ?_
    refine l_nil ?_
    refine c_if (b := (decide (t9 ≠ []))) rfl (fun hb => ?_) (fun hb => ?_)
    · have H9 := cnd_t hb H8; clear H8
      refine c_seq ?_
      refine c_region ?_
      refine l_val rfl rfl rfl (r_assign (v := .int .i64 8) rfl) ?_
      refine l_nil ?_
      refine c_ret ?_
      obtain rfl := Option.some.inj H9
      refine ret1 (v := .int .i64 8) rfl rfl (fin rfl)
    · have H10 := cnd_f hb H8; clear H8
      refine c_skip ?_
      refine c_seq ?_
      refine c_region ?_
      refine l_val rfl rfl rfl (r_assign (v := .int .i64 0) rfl) ?_
      refine l_nil ?_
      refine c_ret ?_
      obtain rfl := Option.some.inj H10
      refine ret1 (v := .int .i64 0) rfl rfl (fin rfl)
end Go.Proofs.YtfgehlmdcllclaaDoor
