/- SyncFacts, first part: the walks, printed by our generator; each follows its model. Conditions: the model yields a value. -/
import Derived.Test.YtaonhnkojkkmbaaDoorMSf
import Derived.Test.YtaonhnkojkkmbaaDoorProg
import Derived.Test.YtaonhnkojkkmbaaDoorLx15
import Derived.Test.YtaonhnkojkkmbaaDoorLx17
import Derived.Test.YtaonhnkojkkmbaaDoorLx18
import Derived.Test.YtaonhnkojkkmbaaDoorLx19
import Derived.Test.YtaonhnkojkkmbaaDoorLx22
import Derived.Test.YtaonhnkojkkmbaaDoorLx20
import Derived.Test.YtaonhnkojkkmbaaDoorLx23
namespace Go.Proofs.YtaonhnkojkkmbaaDoor
open Go Go.Vc Go.Md Go.M Go.Lx
set_option maxRecDepth 100000
set_option maxHeartbeats 4000000
set_option linter.unusedVariables false

theorem mixed : Tryd.prog.follows .mixedOrders = true := by kernel_rfl

abbrev e_sync_Fact (x : T_sync_Fact) : List Value := [.int .i64 x.Dot.Device, .int .i64 x.Dot.N, .int .i64 x.Time, .int .i64 x.Kind, .int .i64 x.Id, str x.Name, .int .i64 x.Num, str x.Text]
abbrev e_u8 (x : Int) : List Value := [.int .u8 x]
def fnR_func_uint8_bool (m : (Int → Option (Bool))) (w : World) (args : List Value) (post : Value → World → Prop) : Prop :=
  ∃ (a0 : Int) (r : Bool), args = [.int .u8 a0] ∧ m a0 = some r ∧ post = fun v' w' => v' = (.bool r) ∧ Grow w w'
abbrev e_i64 (x : Int) : List Value := [.int .i64 x]
def fnR_func_int_bool (m : ((List Int) → Option (Bool))) (w : World) (args : List Value) (post : Value → World → Prop) : Prop :=
  ∃ (a0 : (List Int)) (v0 : Value) (r : Bool), FrS (fun b => w.heap[b]?) 1 v0 (a0.map e_i64) ∧ args = [v0] ∧ m a0 = some r ∧ post = fun v' w' => v' = (.bool r) ∧ Grow w w'


theorem run_eqT50 (d : Nat) (w : World) (a0 b0 : Int) (a1 b1 : Int) : (Op.equalIn (d + 2) 50 (.agg #[.int .i64 a0, .int .i64 a1]) (.agg #[.int .i64 b0, .int .i64 b1])).run Tryd.prog w = .ok (decide (a0 = b0 ∧ a1 = b1)) w := by
  rw [run_equalIn_struct w (d + 1) 50 _ _ (by simp only [Program.fieldsOf, Tryd.underlying50]) Tryd.stoodInHeld50]
  simp only [Program.fieldsOf, Tryd.underlying50, Op.eqFields]
  simp [part, run_equalIn_int, run_equalIn_strL, run_equalIn_bool', Tryd.underlying3]
  repeat' split
  all_goals simp_all

theorem run_eqT52 (d : Nat) (w : World) (a0 b0 : Int) (a1 b1 : Int) (a2 b2 : Int) (a3 b3 : Int) (a4 b4 : Int) (a5 b5 : (List UInt8)) (a6 b6 : Int) (a7 b7 : (List UInt8)) : (Op.equalIn (d + 3) 52 (.agg #[.int .i64 a0, .int .i64 a1, .int .i64 a2, .int .i64 a3, .int .i64 a4, str a5, .int .i64 a6, str a7]) (.agg #[.int .i64 b0, .int .i64 b1, .int .i64 b2, .int .i64 b3, .int .i64 b4, str b5, .int .i64 b6, str b7])).run Tryd.prog w = .ok (decide ((a0 = b0 ∧ a1 = b1) ∧ a2 = b2 ∧ a3 = b3 ∧ a4 = b4 ∧ a5 = b5 ∧ a6 = b6 ∧ a7 = b7)) w := by
  rw [run_equalIn_struct w (d + 2) 52 _ _ (by simp only [Program.fieldsOf, Tryd.underlying52]) Tryd.stoodInHeld52]
  simp only [Program.fieldsOf, Tryd.underlying52, Op.eqFields]
  simp [part, run_equalIn_int, run_equalIn_strL, run_equalIn_bool', Tryd.underlying3, Tryd.underlying9, Tryd.isAgg50, Tryd.sizeOf50, run_eqT50 _ w]
  repeat' split
  all_goals simp_all

theorem run_eq_sync_Fact (w : World) (x y : T_sync_Fact) : (Op.equalIn Op.maxDepth 52 (.agg #[.int .i64 x.Dot.Device, .int .i64 x.Dot.N, .int .i64 x.Time, .int .i64 x.Kind, .int .i64 x.Id, str x.Name, .int .i64 x.Num, str x.Text]) (.agg #[.int .i64 y.Dot.Device, .int .i64 y.Dot.N, .int .i64 y.Time, .int .i64 y.Kind, .int .i64 y.Id, str y.Name, .int .i64 y.Num, str y.Text])).run Tryd.prog w = .ok (eq_sync_Fact x y) w :=
  run_eqT52 9997 w _ _ _ _ _ _ _ _ _ _ _ _ _ _ _ _

theorem run_eq_sync_Knows (w : World) (x y : (Nat → Int)) : (Op.equalIn Op.maxDepth 60 (.agg #[.int .i64 (x 0), .int .i64 (x 1), .int .i64 (x 2), .int .i64 (x 3), .int .i64 (x 4), .int .i64 (x 5), .int .i64 (x 6), .int .i64 (x 7), .int .i64 (x 8), .int .i64 (x 9), .int .i64 (x 10), .int .i64 (x 11), .int .i64 (x 12), .int .i64 (x 13), .int .i64 (x 14), .int .i64 (x 15)]) (.agg #[.int .i64 (y 0), .int .i64 (y 1), .int .i64 (y 2), .int .i64 (y 3), .int .i64 (y 4), .int .i64 (y 5), .int .i64 (y 6), .int .i64 (y 7), .int .i64 (y 8), .int .i64 (y 9), .int .i64 (y 10), .int .i64 (y 11), .int .i64 (y 12), .int .i64 (y 13), .int .i64 (y 14), .int .i64 (y 15)])).run Tryd.prog w = .ok (eq_sync_Knows x y) w :=
  run_eqInts (d := 9998) (len := 16) (k := .i64) (k' := .i64) ((List.range 16).map x) ((List.range 16).map y) (by simp) (by simp) Tryd.underlying60 Tryd.underlying3 Tryd.isAgg3 Tryd.sizeOf3 w

theorem k62 {a0 : Int} {a1 : Int} {a2 : Int} {r : Bool} (H : sync_outside a0 a1 a2 = some r) : Ret Tryd.prog 62 [.int .i64 a0, .int .i64 a1, .int .i64 a2] (.bool r) := by
  refine enterRet (n := 15) Tryd.func62 rfl rfl rfl (fun wd => ?_)
  refine c_seq ?_
  refine c_region ?_
  refine l_val rfl rfl rfl (r_assign (v := .bool false) rfl) ?_
  refine l_nil ?_
  refine c_seq ?_
  refine c_region ?_
  refine l_val rfl rfl rfl (r_move (v := .int .i64 a0) rfl) ?_
  refine l_val rfl rfl rfl (r_move (v := .int .i64 a1) rfl) ?_
  refine l_val rfl rfl rfl (r_lss rfl rfl) ?_
  refine l_val rfl rfl rfl (r_move (v := .bool (decide (a0 < a1))) rfl) ?_
  refine split (fun hb => ?_) (fun hb => ?_)
  · have H3 := cnd_t hb H; clear H
    refine l_passed rfl rfl rfl ?_
    refine l_passed rfl rfl rfl ?_
    refine l_passed rfl rfl rfl ?_
    refine l_val rfl rfl rfl (r_pickT (v := .bool true) rfl rfl) ?_
    refine l_val rfl rfl rfl (r_assign (v := .bool true) rfl) ?_
    refine l_nil ?_
    refine c_ret ?_
    obtain rfl := Option.some.inj H3
    refine ret1 (v := .bool true) rfl rfl (fin rfl)
  · have H4 := cnd_f hb H; clear H
    refine l_val rfl rfl rfl (r_move (v := .int .i64 a0) rfl) ?_
    refine l_val rfl rfl rfl (r_move (v := .int .i64 a2) rfl) ?_
    refine l_val rfl rfl rfl (r_gtr rfl rfl) ?_
    refine l_val rfl rfl rfl (r_pickF (v := .bool (decide (a2 < a0))) rfl rfl) ?_
    refine l_val rfl rfl rfl (r_assign (v := .bool (decide (a2 < a0))) rfl) ?_
    refine l_nil ?_
    refine c_ret ?_
    obtain rfl := Option.some.inj H4
    refine ret1 (v := .bool (decide (a2 < a0))) rfl rfl (fin rfl)
theorem k87 {a0 : (List UInt8)} {a1 : Int} {r : (List UInt8)} (H : strings_trimLeftByte a0 a1 = some r) : Ret Tryd.prog 87 [str a0, .int .u8 a1] (str r) := by
  refine enterRet (n := 17) Tryd.func87 rfl rfl rfl (fun wd => ?_)
  refine c_seq ?_
  refine c_region ?_
  refine l_val rfl rfl rfl (r_assign (v := str []) rfl) ?_
  refine l_nil ?_
  refine c_seq ?_
  refine c_block ?_
  refine c_fix (σ := (List UInt8)) (τ := Unit) (fun next1 s => strings_trimLeftByte_l1 a1 next1 s) (fun s t => [(0, str s), (1, .int .u8 a1)]) (fun s t => []) (fun s t => True) a0 () [] H (by exact trivial) (by exact ⟨rfl, rfl, trivial⟩) (by decide) rfl ?_
  rintro x0_2 _ m1 gg H8 _
  clear H
  replace H8 : strings_trimLeftByte_l1 a1 (it (fun next1 s => strings_trimLeftByte_l1 a1 next1 s) m1) x0_2 = some r := H8
  generalize hn1 : it (fun next1 s => strings_trimLeftByte_l1 a1 next1 s) m1 = next1 at H8
  refine c_tidyF [(0, str x0_2), (1, .int .u8 a1)] [] rfl rfl ?_
  refine c_seq ?_
  refine c_seq ?_
  refine c_region ?_
  refine l_val rfl rfl rfl (r_move (v := str x0_2) rfl) ?_
  refine l_val rfl rfl rfl (r_lenT Tryd.underlying9 rfl) ?_
  refine l_val rfl rfl rfl (r_gtr rfl rfl) ?_
  refine l_val rfl rfl rfl (r_move (v := .bool (decide (0 < (x0_2.length : Int)))) rfl) ?_
  refine split (fun hb => ?_) (fun hb => ?_)
  · have H9 := cnd_t hb H8; clear H8
    refine l_val rfl rfl rfl (r_move (v := str x0_2) rfl) ?_
    obtain ⟨t10, h_t10, H10⟩ := bnd_some H9; clear H9
    refine l_val rfl rfl rfl (r_octG Tryd.underlying9 rfl rfl h_t10) ?_
    refine l_val rfl rfl rfl (r_move (v := .int .u8 a1) rfl) ?_
    refine l_val rfl rfl rfl (r_eql rfl rfl) ?_
    refine l_val rfl rfl rfl (r_pickT (v := .bool (decide (t10 = a1))) rfl rfl) ?_
    refine l_nil ?_
    refine c_if (b := (decide (t10 = a1))) rfl (fun hb => ?_) (fun hb => ?_)
    · have H11 := cnd_t hb H10; clear H10
      refine c_skip ?_
      refine c_block ?_
      refine c_region ?_
      refine l_val rfl rfl rfl (r_move (v := str x0_2) rfl) ?_
      obtain ⟨t15, h_t15, H12⟩ := bnd_some H11; clear H11
      refine l_val rfl rfl rfl (r_cutFromG Tryd.underlying9 rfl rfl h_t15) ?_
      refine l_val rfl rfl rfl (r_assign (v := str t15) rfl) ?_
      refine l_nil ?_
      refine c_close t15 () m1 [] (by exact ⟨rfl, rfl, trivial⟩) (by decide) rfl (by exact ⟨(by subst hn1; exact H12), trivial⟩) (Nat.lt_succ_self _)
    · have H13 := cnd_f hb H10; clear H10
      refine c_exit ?_
      refine c_seq ?_
      refine c_region ?_
      refine l_val rfl rfl rfl (r_move (v := str x0_2) rfl) ?_
      refine l_val rfl rfl rfl (r_assign (v := str x0_2) rfl) ?_
      refine l_nil ?_
      refine c_ret ?_
      obtain rfl := Option.some.inj H13
      refine ret1 (v := str x0_2) rfl rfl (fin rfl)
  · have H14 := cnd_f hb H8; clear H8
    refine l_passed rfl rfl rfl ?_
    refine l_passed rfl rfl rfl ?_
    refine l_passed rfl rfl rfl ?_
    refine l_passed rfl rfl rfl ?_
    refine l_val rfl rfl rfl (r_pickF (v := .bool false) rfl rfl) ?_
    refine l_nil ?_
    refine c_false rfl ?_
    refine c_exit ?_
    refine c_seq ?_
    refine c_region ?_
    refine l_val rfl rfl rfl (r_move (v := str x0_2) rfl) ?_
    refine l_val rfl rfl rfl (r_assign (v := str x0_2) rfl) ?_
    refine l_nil ?_
    refine c_ret ?_
    obtain rfl := Option.some.inj H14
    refine ret1 (v := str x0_2) rfl rfl (fin rfl)
theorem k88 {a0 : (List UInt8)} {a1 : Int} {r : (List UInt8)} (H : strings_trimRightByte a0 a1 = some r) : Ret Tryd.prog 88 [str a0, .int .u8 a1] (str r) := by
  refine enterRet (n := 23) Tryd.func88 rfl rfl rfl (fun wd => ?_)
  refine c_seq ?_
  refine c_region ?_
  refine l_val rfl rfl rfl (r_assign (v := str []) rfl) ?_
  refine l_nil ?_
  refine c_seq ?_
  refine c_block ?_
  refine c_fix (σ := (List UInt8)) (τ := Unit) (fun next1 s => strings_trimRightByte_l1 a1 next1 s) (fun s t => [(0, str s), (1, .int .u8 a1)]) (fun s t => []) (fun s t => True) a0 () [] H (by exact trivial) (by exact ⟨rfl, rfl, trivial⟩) (by decide) rfl ?_
  rintro x0_2 _ m1 gg H10 _
  clear H
  replace H10 : strings_trimRightByte_l1 a1 (it (fun next1 s => strings_trimRightByte_l1 a1 next1 s) m1) x0_2 = some r := H10
  generalize hn1 : it (fun next1 s => strings_trimRightByte_l1 a1 next1 s) m1 = next1 at H10
  refine c_tidyF [(0, str x0_2), (1, .int .u8 a1)] [] rfl rfl ?_
  refine c_seq ?_
  refine c_seq ?_
  refine c_region ?_
  refine l_val rfl rfl rfl (r_move (v := str x0_2) rfl) ?_
  refine l_val rfl rfl rfl (r_lenT Tryd.underlying9 rfl) ?_
  refine l_val rfl rfl rfl (r_gtr rfl rfl) ?_
  refine l_val rfl rfl rfl (r_move (v := .bool (decide (0 < (x0_2.length : Int)))) rfl) ?_
  refine split (fun hb => ?_) (fun hb => ?_)
  · have H11 := cnd_t hb H10; clear H10
    refine l_val rfl rfl rfl (r_move (v := str x0_2) rfl) ?_
    refine l_val rfl rfl rfl (r_move (v := str x0_2) rfl) ?_
    refine l_val rfl rfl rfl (r_lenT Tryd.underlying9 rfl) ?_
    obtain ⟨t12, h_t12, H12⟩ := bnd_some H11; clear H11
    refine l_val rfl rfl rfl (r_subG rfl rfl h_t12) ?_
    obtain ⟨t13, h_t13, H13⟩ := bnd_some H12; clear H12
    refine l_val rfl rfl rfl (r_octG Tryd.underlying9 rfl rfl h_t13) ?_
    refine l_val rfl rfl rfl (r_move (v := .int .u8 a1) rfl) ?_
    refine l_val rfl rfl rfl (r_eql rfl rfl) ?_
    refine l_val rfl rfl rfl (r_pickT (v := .bool (decide (t13 = a1))) rfl rfl) ?_
    refine l_nil ?_
    refine c_if (b := (decide (t13 = a1))) rfl (fun hb => ?_) (fun hb => ?_)
    · have H14 := cnd_t hb H13; clear H13
      refine c_skip ?_
      refine c_block ?_
      refine c_region ?_
      refine l_val rfl rfl rfl (r_move (v := str x0_2) rfl) ?_
      refine l_val rfl rfl rfl (r_move (v := str x0_2) rfl) ?_
      refine l_val rfl rfl rfl (r_lenT Tryd.underlying9 rfl) ?_
      obtain ⟨t20, h_t20, H15⟩ := bnd_some H14; clear H14
      refine l_val rfl rfl rfl (r_subG rfl rfl h_t20) ?_
      obtain ⟨t21, h_t21, H16⟩ := bnd_some H15; clear H15
      refine l_val rfl rfl rfl (r_cutToG Tryd.underlying9 rfl rfl h_t21) ?_
      refine l_val rfl rfl rfl (r_assign (v := str t21) rfl) ?_
      refine l_nil ?_
      refine c_close t21 () m1 [] (by exact ⟨rfl, rfl, trivial⟩) (by decide) rfl (by exact ⟨(by subst hn1; exact H16), trivial⟩) (Nat.lt_succ_self _)
    · have H17 := cnd_f hb H13; clear H13
      refine c_exit ?_
      refine c_seq ?_
      refine c_region ?_
      refine l_val rfl rfl rfl (r_move (v := str x0_2) rfl) ?_
      refine l_val rfl rfl rfl (r_assign (v := str x0_2) rfl) ?_
      refine l_nil ?_
      refine c_ret ?_
      obtain rfl := Option.some.inj H17
      refine ret1 (v := str x0_2) rfl rfl (fin rfl)
  · have H18 := cnd_f hb H10; clear H10
    refine l_passed rfl rfl rfl ?_
    refine l_passed rfl rfl rfl ?_
    refine l_passed rfl rfl rfl ?_
    refine l_passed rfl rfl rfl ?_
    refine l_passed rfl rfl rfl ?_
    refine l_passed rfl rfl rfl ?_
    refine l_passed rfl rfl rfl ?_
    refine l_val rfl rfl rfl (r_pickF (v := .bool false) rfl rfl) ?_
    refine l_nil ?_
    refine c_false rfl ?_
    refine c_exit ?_
    refine c_seq ?_
    refine c_region ?_
    refine l_val rfl rfl rfl (r_move (v := str x0_2) rfl) ?_
    refine l_val rfl rfl rfl (r_assign (v := str x0_2) rfl) ?_
    refine l_nil ?_
    refine c_ret ?_
    obtain rfl := Option.some.inj H18
    refine ret1 (v := str x0_2) rfl rfl (fin rfl)
theorem k89 {a0 : (List UInt8)} {r : (Nat → Bool) × Bool} (H : strings_makeASCIISet a0 = some r) : Ret Tryd.prog 89 [str a0] (.tuple #[.agg (List.toArray (arrC 256 (fun j_ => [.bool (r.1 j_)]))), .bool r.2]) := by
  refine enterRet (n := 21) Tryd.func89 rfl rfl rfl (fun wd => ?_)
  refine c_seq ?_
  refine c_region ?_
  refine l_alloc (cs := (arrC 256 (fun j_ => [.bool ((fun _ => false) j_)]))) Tryd.zeroValue133 (by kernel_rfl) rfl rfl (fun b1 => ?_)
  refine l_val rfl rfl rfl (r_assign (v := .bool false) rfl) ?_
  refine l_nil ?_
  refine c_meet (r := r) (σ := (Nat → Bool)) (τ := Unit) (fun s => strings_makeASCIISet_j1 s) (fun s t => [(2, .pointer (some ⟨b1, 0, none⟩))]) (fun s t => [cellsC b1 (arrC 256 (fun j_ => [.bool (s j_)])) 133]) (fun s t => True) ?_ ?_
  · refine c_seq ?_
    refine c_region ?_
    refine l_val rfl rfl rfl (r_assign (v := .int .i64 0) rfl) ?_
    refine l_nil ?_
    refine c_block ?_
    refine c_fix (σ := Int × (Nat → Bool)) (τ := Unit) (fun next2 s => strings_makeASCIISet_l2 a0 next2 s.1 s.2) (fun s t => [(0, str a0), (2, .pointer (some ⟨b1, 0, none⟩)), (4, .int .i64 s.1)]) (fun s t => [cellsC b1 (arrC 256 (fun j_ => [.bool (s.2 j_)])) 133]) (fun s t => True) (0, (fun _ => false)) () [0] H (by exact trivial) (by exact ⟨rfl, rfl, rfl, trivial⟩) (by decide) rfl ?_
    rintro ⟨x4_2, m_3⟩ _ m2 gg H11 _
    clear H
    replace H11 : strings_makeASCIISet_l2 a0 (it (fun next2 s => strings_makeASCIISet_l2 a0 next2 s.1 s.2) m2) x4_2 m_3 = some r := H11
    generalize hn2 : it (fun next2 s => strings_makeASCIISet_l2 a0 next2 s.1 s.2) m2 = next2 at H11
    refine c_tidyF [(0, str a0), (2, .pointer (some ⟨b1, 0, none⟩)), (4, .int .i64 x4_2)] [cellsC b1 (arrC 256 (fun j_ => [.bool (m_3 j_)])) 133] rfl rfl ?_
    refine c_seq ?_
    refine c_seq ?_
    refine c_region ?_
    refine l_val rfl rfl rfl (r_move (v := .int .i64 x4_2) rfl) ?_
    refine l_val rfl rfl rfl (r_move (v := str a0) rfl) ?_
    refine l_val rfl rfl rfl (r_lenT Tryd.underlying9 rfl) ?_
    refine l_val rfl rfl rfl (r_lss rfl rfl) ?_
    refine l_nil ?_
    refine c_if (b := (decide (x4_2 < (a0.length : Int)))) rfl (fun hb => ?_) (fun hb => ?_)
    · have H12 := cnd_t hb H11; clear H11
      refine c_skip ?_
      refine c_seq ?_
      refine c_block ?_
      refine c_seq ?_
      refine c_region ?_
      refine l_val rfl rfl rfl (r_move (v := str a0) rfl) ?_
      refine l_val rfl rfl rfl (r_move (v := .int .i64 x4_2) rfl) ?_
      obtain ⟨t14, h_t14, H13⟩ := bnd_some H12; clear H12
      refine l_val rfl rfl rfl (r_octG Tryd.underlying9 rfl rfl h_t14) ?_
      refine l_val rfl rfl rfl (r_assign (v := .int .u8 t14) rfl) ?_
      refine l_nil ?_
      refine c_seq ?_
      refine c_seq ?_
      refine c_region ?_
      refine l_val rfl rfl rfl (r_move (v := .int .u8 t14) rfl) ?_
      refine l_val rfl rfl rfl (r_geq rfl rfl) ?_
      refine l_nil ?_
      refine c_if (b := (decide (128 ≤ t14))) rfl (fun hb => ?_) (fun hb => ?_)
      · have H14 := cnd_t hb H13; clear H13
        refine c_seq ?_
        refine c_region ?_
        refine l_loadN (i := 0) (vs := (arrC 256 (fun j_ => [.bool (m_3 j_)]))) Tryd.isAgg133 Tryd.sizeOf133 rfl rfl rfl rfl (rd_whole (arrC_len (fun _ => rfl))) ?_
        refine l_store (i := 0) (vs := (arrC 256 (fun j_ => [.bool (m_3 j_)]))) (cs' := (arrC 256 (fun j_ => [.bool (m_3 j_)]))) Tryd.sizeOf133 rfl rfl rfl rfl (arrC_len (fun _ => rfl)) rfl (arrC_one (fun _ => rfl)) rfl (wr_whole ((arrC_len (fun _ => rfl)).trans (arrC_len (fun _ => rfl)).symm)) ?_
        refine l_val rfl rfl rfl (r_assign (v := .bool false) rfl) ?_
        refine l_nil ?_
        refine c_ret ?_
        obtain rfl := Option.some.inj H14
        refine retCt (i := 0) (vs := (arrC 256 (fun j_ => [.bool (m_3 j_)]))) (v2 := .bool false) Tryd.isAgg133 Tryd.sizeOf133 rfl rfl rfl (rd_whole (arrC_len (fun _ => rfl))) rfl (fin rfl)
      · have H15 := cnd_f hb H13; clear H13
        refine c_skip ?_
        refine c_region ?_
        refine l_val rfl rfl rfl (r_move (v := .int .u8 t14) rfl) ?_
        obtain ⟨k19, h_k19, H16⟩ := bnd_some H15; clear H15
        refine l_val rfl rfl rfl (r_indexPG Tryd.runUnderlying133 Tryd.sizeOf4 rfl rfl h_k19) ?_
        refine l_store (i := 0) (vs := [.bool true]) (cs' := (arrC 256 (fun j_ => [.bool ((setA m_3 k19 true) j_)]))) Tryd.sizeOf4 rfl rfl rfl rfl rfl rfl rfl rfl (wr_arr (pre := []) (post := []) (f := fun (j_ : Bool) => [.bool j_]) (n := 256) (sz := 1) (a := m_3) (x := true) (arr_whole _ _) rfl (fun _ => rfl) (gIx_lt h_k19) rfl (arr_whole _ _)) ?_
        refine l_nil ?_
        refine c_region ?_
        refine l_val rfl rfl rfl (r_move (v := .int .i64 x4_2) rfl) ?_
        obtain ⟨t11, h_t11, H17⟩ := bnd_some H16; clear H16
        refine l_val rfl rfl rfl (r_addG rfl rfl h_t11) ?_
        refine l_val rfl rfl rfl (r_assign (v := .int .i64 t11) rfl) ?_
        refine l_nil ?_
        refine c_close (t11, (setA m_3 k19 true)) () m2 [0] (by exact ⟨rfl, rfl, rfl, trivial⟩) (by decide) rfl (by exact ⟨(by subst hn2; exact H17), trivial⟩) (Nat.lt_succ_self _)
    · have H18 := cnd_f hb H11; clear H11
      refine c_exit ?_
      refine c_close m_3 () 0 [0] (by exact ⟨rfl, trivial⟩) (by decide) rfl (by exact ⟨H18, trivial⟩) (Nat.lt_succ_self _)
  · rintro m _ gg H10 _
    replace H10 : strings_makeASCIISet_j1 m = some r := H10
    refine c_tidyF [(2, .pointer (some ⟨b1, 0, none⟩))] [cellsC b1 (arrC 256 (fun j_ => [.bool (m j_)])) 133] rfl rfl ?_
    refine c_seq ?_
    refine c_region ?_
    refine l_loadN (i := 0) (vs := (arrC 256 (fun j_ => [.bool (m j_)]))) Tryd.isAgg133 Tryd.sizeOf133 rfl rfl rfl rfl (rd_whole (arrC_len (fun _ => rfl))) ?_
    refine l_store (i := 0) (vs := (arrC 256 (fun j_ => [.bool (m j_)]))) (cs' := (arrC 256 (fun j_ => [.bool (m j_)]))) Tryd.sizeOf133 rfl rfl rfl rfl (arrC_len (fun _ => rfl)) rfl (arrC_one (fun _ => rfl)) rfl (wr_whole ((arrC_len (fun _ => rfl)).trans (arrC_len (fun _ => rfl)).symm)) ?_
    refine l_val rfl rfl rfl (r_assign (v := .bool true) rfl) ?_
    refine l_nil ?_
    refine c_ret ?_
    obtain rfl := Option.some.inj H10
    refine retCt (i := 0) (vs := (arrC 256 (fun j_ => [.bool (m j_)]))) (v2 := .bool true) Tryd.isAgg133 Tryd.sizeOf133 rfl rfl rfl (rd_whole (arrC_len (fun _ => rfl))) rfl (fin rfl)
theorem k109 {a0 : (Nat → Bool)} {pb0 : Nat} {a1 : Int} {r : Bool × (Nat → Bool)} {w : World} {h : Heap} {S : Nat → Prop} (hcs : (cellsC pb0 (arrC 256 (fun j_ => [.bool (a0 j_)])) 133).P S w) (hlt : ∀ b, S b → b < w.heap.size) (hw : Know h w S) (H : strings_asciiSet_contains a0 a1 = some r) : Does Tryd.prog 109 (List.toArray [.pointer (some ⟨pb0, 0, none⟩), .int .u8 a1]) w (fun v w' => ∃ x : Unit, v = (.bool r.1) ∧ Turn w w' S (cellsC pb0 (arrC 256 (fun j_ => [.bool (r.2 j_)])) 133)) := by
  refine enter (n := 10) Tryd.func109 rfl rfl rfl S [cellsC pb0 (arrC 256 (fun j_ => [.bool (a0 j_)])) 133] (Sat.one hcs hlt) ?_
  refine c_seq ?_
  refine c_region ?_
  refine l_val rfl rfl rfl (r_assign (v := .bool false) rfl) ?_
  refine l_nil ?_
  refine c_seq ?_
  refine c_region ?_
  refine l_val rfl rfl rfl (r_move (v := .pointer (some ⟨pb0, 0, none⟩)) rfl) ?_
  refine l_val rfl rfl rfl (r_move (v := .int .u8 a1) rfl) ?_
  refine l_val rfl rfl rfl (r_nilCheck rfl) ?_
  obtain ⟨k8, h_k8, H2⟩ := bnd_some H; clear H
  refine l_val rfl rfl rfl (r_indexPG Tryd.runUnderlying133 Tryd.sizeOf4 rfl rfl h_k8) ?_
  refine l_load1 (i := 0) (v := .bool (a0 k8)) Tryd.isAgg4 rfl rfl rfl rfl (rg_arr (pre := []) (post := []) (f := fun j_ => [.bool (a0 j_)]) (n := 256) (sz := 1) (q := 0) (arr_whole _ _) rfl (fun _ => rfl) (gIx_lt h_k8) rfl) ?_
  refine l_val rfl rfl rfl (r_assign (v := .bool (a0 k8)) rfl) ?_
  refine l_nil ?_
  refine c_ret ?_
  obtain rfl := Option.some.inj H2
  refine ret1 (v := .bool (a0 k8)) rfl rfl (finX () (i := 0) rfl rfl (Imp.refl _))
theorem k90 {a0 : (List UInt8)} {a1 : (Nat → Bool)} {pb1 : Nat} {r : (List UInt8) × (Nat → Bool)} {w : World} {h : Heap} {S : Nat → Prop} (hcs : (cellsC pb1 (arrC 256 (fun j_ => [.bool (a1 j_)])) 133).P S w) (hlt : ∀ b, S b → b < w.heap.size) (hw : Know h w S) (H : strings_trimLeftASCII a0 a1 = some r) : Does Tryd.prog 90 (List.toArray [str a0, .pointer (some ⟨pb1, 0, none⟩)]) w (fun v w' => ∃ x : Unit, v = (str r.1) ∧ Turn w w' S (cellsC pb1 (arrC 256 (fun j_ => [.bool (r.2 j_)])) 133)) := by
  refine enter (n := 16) Tryd.func90 rfl rfl rfl S [cellsC pb1 (arrC 256 (fun j_ => [.bool (a1 j_)])) 133] (Sat.one hcs hlt) ?_
  refine c_seq ?_
  refine c_region ?_
  refine l_val rfl rfl rfl (r_assign (v := str []) rfl) ?_
  refine l_nil ?_
  refine c_seq ?_
  refine c_block ?_
  refine c_fix (σ := (List UInt8) × (Nat → Bool)) (τ := Unit) (fun next1 s => strings_trimLeftASCII_l1 next1 s.1 s.2) (fun s t => [(0, str s.1), (1, .pointer (some ⟨pb1, 0, none⟩))]) (fun s t => [cellsC pb1 (arrC 256 (fun j_ => [.bool (s.2 j_)])) 133]) (fun s t => True) (a0, a1) () [0] H (by exact trivial) (by exact ⟨rfl, rfl, trivial⟩) (by decide) rfl ?_
  rintro ⟨x0_2, m_2⟩ _ m1 gg H9 _
  clear H
  replace H9 : strings_trimLeftASCII_l1 (it (fun next1 s => strings_trimLeftASCII_l1 next1 s.1 s.2) m1) x0_2 m_2 = some r := H9
  generalize hn1 : it (fun next1 s => strings_trimLeftASCII_l1 next1 s.1 s.2) m1 = next1 at H9
  refine c_tidyF [(0, str x0_2), (1, .pointer (some ⟨pb1, 0, none⟩))] [cellsC pb1 (arrC 256 (fun j_ => [.bool (m_2 j_)])) 133] rfl rfl ?_
  refine c_seq ?_
  refine c_seq ?_
  refine c_region ?_
  refine l_val rfl rfl rfl (r_move (v := str x0_2) rfl) ?_
  refine l_val rfl rfl rfl (r_lenT Tryd.underlying9 rfl) ?_
  refine l_val rfl rfl rfl (r_gtr rfl rfl) ?_
  refine l_nil ?_
  refine c_if (b := (decide (0 < (x0_2.length : Int)))) rfl (fun hb => ?_) (fun hb => ?_)
  · have H10 := cnd_t hb H9; clear H9
    refine c_skip ?_
    refine c_block ?_
    refine c_seq ?_
    refine c_seq ?_
    refine c_region ?_
    refine l_val rfl rfl rfl (r_move (v := .pointer (some ⟨pb1, 0, none⟩)) rfl) ?_
    refine l_val rfl rfl rfl (r_move (v := str x0_2) rfl) ?_
    obtain ⟨t10, h_t10, H11⟩ := bnd_some H10; clear H10
    refine l_val rfl rfl rfl (r_octG Tryd.underlying9 rfl rfl h_t10) ?_
    obtain ⟨t11, h_t11, H12⟩ := bnd_some H11; clear H11
    refine l_turn (turns_callB (i := 0) (rds := []) (G := fun x : Unit => .bool t11.1) (C := fun x : Unit => cellsC pb1 (arrC 256 (fun j_ => [.bool (t11.2 j_)])) 133) rfl (fun w L' S hF hS hi hp hlt ho hA => k109 hp hlt (know_but w S)  h_t11) Tryd.call109 rfl) rfl rfl rfl (fun _ => ?_)
    refine l_val rfl rfl rfl (r_not rfl) ?_
    refine l_nil ?_
    refine c_if (b := (!t11.1)) rfl (fun hb => ?_) (fun hb => ?_)
    · have H13 := cnd_t hb H12; clear H12
      refine c_exit ?_
      refine c_seq ?_
      refine c_region ?_
      refine l_val rfl rfl rfl (r_move (v := str x0_2) rfl) ?_
      refine l_val rfl rfl rfl (r_assign (v := str x0_2) rfl) ?_
      refine l_nil ?_
      refine c_ret ?_
      obtain rfl := Option.some.inj H13
      refine ret1 (v := str x0_2) rfl rfl (finX () (i := 0) rfl rfl (Imp.refl _))
    · have H14 := cnd_f hb H12; clear H12
      refine c_skip ?_
      refine c_region ?_
      refine l_val rfl rfl rfl (r_move (v := str x0_2) rfl) ?_
      obtain ⟨t14, h_t14, H15⟩ := bnd_some H14; clear H14
      refine l_val rfl rfl rfl (r_cutFromG Tryd.underlying9 rfl rfl h_t14) ?_
      refine l_val rfl rfl rfl (r_assign (v := str t14) rfl) ?_
      refine l_nil ?_
      refine c_close (t14, t11.2) () m1 [0] (by exact ⟨rfl, rfl, trivial⟩) (by decide) rfl (by exact ⟨(by subst hn1; exact H15), trivial⟩) (Nat.lt_succ_self _)
  · have H16 := cnd_f hb H9; clear H9
    refine c_exit ?_
    refine c_seq ?_
    refine c_region ?_
    refine l_val rfl rfl rfl (r_move (v := str x0_2) rfl) ?_
    refine l_val rfl rfl rfl (r_assign (v := str x0_2) rfl) ?_
    refine l_nil ?_
    refine c_ret ?_
    obtain rfl := Option.some.inj H16
    refine ret1 (v := str x0_2) rfl rfl (finX () (i := 0) rfl rfl (Imp.refl _))
theorem k91 {a0 : (List UInt8)} {a1 : (Nat → Bool)} {pb1 : Nat} {r : (List UInt8) × (Nat → Bool)} {w : World} {h : Heap} {S : Nat → Prop} (hcs : (cellsC pb1 (arrC 256 (fun j_ => [.bool (a1 j_)])) 133).P S w) (hlt : ∀ b, S b → b < w.heap.size) (hw : Know h w S) (H : strings_trimRightASCII a0 a1 = some r) : Does Tryd.prog 91 (List.toArray [str a0, .pointer (some ⟨pb1, 0, none⟩)]) w (fun v w' => ∃ x : Unit, v = (str r.1) ∧ Turn w w' S (cellsC pb1 (arrC 256 (fun j_ => [.bool (r.2 j_)])) 133)) := by
  refine enter (n := 22) Tryd.func91 rfl rfl rfl S [cellsC pb1 (arrC 256 (fun j_ => [.bool (a1 j_)])) 133] (Sat.one hcs hlt) ?_
  refine c_seq ?_
  refine c_region ?_
  refine l_val rfl rfl rfl (r_assign (v := str []) rfl) ?_
  refine l_nil ?_
  refine c_seq ?_
  refine c_block ?_
  refine c_fix (σ := (List UInt8) × (Nat → Bool)) (τ := Unit) (fun next1 s => strings_trimRightASCII_l1 next1 s.1 s.2) (fun s t => [(0, str s.1), (1, .pointer (some ⟨pb1, 0, none⟩))]) (fun s t => [cellsC pb1 (arrC 256 (fun j_ => [.bool (s.2 j_)])) 133]) (fun s t => True) (a0, a1) () [0] H (by exact trivial) (by exact ⟨rfl, rfl, trivial⟩) (by decide) rfl ?_
  rintro ⟨x0_2, m_2⟩ _ m1 gg H11 _
  clear H
  replace H11 : strings_trimRightASCII_l1 (it (fun next1 s => strings_trimRightASCII_l1 next1 s.1 s.2) m1) x0_2 m_2 = some r := H11
  generalize hn1 : it (fun next1 s => strings_trimRightASCII_l1 next1 s.1 s.2) m1 = next1 at H11
  refine c_tidyF [(0, str x0_2), (1, .pointer (some ⟨pb1, 0, none⟩))] [cellsC pb1 (arrC 256 (fun j_ => [.bool (m_2 j_)])) 133] rfl rfl ?_
  refine c_seq ?_
  refine c_seq ?_
  refine c_region ?_
  refine l_val rfl rfl rfl (r_move (v := str x0_2) rfl) ?_
  refine l_val rfl rfl rfl (r_lenT Tryd.underlying9 rfl) ?_
  refine l_val rfl rfl rfl (r_gtr rfl rfl) ?_
  refine l_nil ?_
  refine c_if (b := (decide (0 < (x0_2.length : Int)))) rfl (fun hb => ?_) (fun hb => ?_)
  · have H12 := cnd_t hb H11; clear H11
    refine c_skip ?_
    refine c_block ?_
    refine c_seq ?_
    refine c_seq ?_
    refine c_region ?_
    refine l_val rfl rfl rfl (r_move (v := .pointer (some ⟨pb1, 0, none⟩)) rfl) ?_
    refine l_val rfl rfl rfl (r_move (v := str x0_2) rfl) ?_
    refine l_val rfl rfl rfl (r_move (v := str x0_2) rfl) ?_
    refine l_val rfl rfl rfl (r_lenT Tryd.underlying9 rfl) ?_
    obtain ⟨t12, h_t12, H13⟩ := bnd_some H12; clear H12
    refine l_val rfl rfl rfl (r_subG rfl rfl h_t12) ?_
    obtain ⟨t13, h_t13, H14⟩ := bnd_some H13; clear H13
    refine l_val rfl rfl rfl (r_octG Tryd.underlying9 rfl rfl h_t13) ?_
    obtain ⟨t14, h_t14, H15⟩ := bnd_some H14; clear H14
    refine l_turn (turns_callB (i := 0) (rds := []) (G := fun x : Unit => .bool t14.1) (C := fun x : Unit => cellsC pb1 (arrC 256 (fun j_ => [.bool (t14.2 j_)])) 133) rfl (fun w L' S hF hS hi hp hlt ho hA => k109 hp hlt (know_but w S)  h_t14) Tryd.call109 rfl) rfl rfl rfl (fun _ => ?_)
    refine l_val rfl rfl rfl (r_not rfl) ?_
    refine l_nil ?_
    refine c_if (b := (!t14.1)) rfl (fun hb => ?_) (fun hb => ?_)
    · have H16 := cnd_t hb H15; clear H15
      refine c_exit ?_
      refine c_seq ?_
      refine c_region ?_
      refine l_val rfl rfl rfl (r_move (v := str x0_2) rfl) ?_
      refine l_val rfl rfl rfl (r_assign (v := str x0_2) rfl) ?_
      refine l_nil ?_
      refine c_ret ?_
      obtain rfl := Option.some.inj H16
      refine ret1 (v := str x0_2) rfl rfl (finX () (i := 0) rfl rfl (Imp.refl _))
    · have H17 := cnd_f hb H15; clear H15
      refine c_skip ?_
      refine c_region ?_
      refine l_val rfl rfl rfl (r_move (v := str x0_2) rfl) ?_
      refine l_val rfl rfl rfl (r_move (v := str x0_2) rfl) ?_
      refine l_val rfl rfl rfl (r_lenT Tryd.underlying9 rfl) ?_
      obtain ⟨t19, h_t19, H18⟩ := bnd_some H17; clear H17
      refine l_val rfl rfl rfl (r_subG rfl rfl h_t19) ?_
      obtain ⟨t20, h_t20, H19⟩ := bnd_some H18; clear H18
      refine l_val rfl rfl rfl (r_cutToG Tryd.underlying9 rfl rfl h_t20) ?_
      refine l_val rfl rfl rfl (r_assign (v := str t20) rfl) ?_
      refine l_nil ?_
      refine c_close (t20, t14.2) () m1 [0] (by exact ⟨rfl, rfl, trivial⟩) (by decide) rfl (by exact ⟨(by subst hn1; exact H19), trivial⟩) (Nat.lt_succ_self _)
  · have H20 := cnd_f hb H11; clear H11
    refine c_exit ?_
    refine c_seq ?_
    refine c_region ?_
    refine l_val rfl rfl rfl (r_move (v := str x0_2) rfl) ?_
    refine l_val rfl rfl rfl (r_assign (v := str x0_2) rfl) ?_
    refine l_nil ?_
    refine c_ret ?_
    obtain rfl := Option.some.inj H20
    refine ret1 (v := str x0_2) rfl rfl (finX () (i := 0) rfl rfl (Imp.refl _))
theorem k130 {a0 : (List UInt8)} {r : Int × Int} (H : unicode_utf8_decodeRuneInStringSlow a0 = some r) : Ret Tryd.prog 130 [str a0] (.tuple #[.int .i32 r.1, .int .i64 r.2]) := by
  refine enterRet (n := 117) Tryd.func130 rfl rfl rfl (fun wd => ?_)
  refine c_seq ?_
  refine c_region ?_
  refine l_val rfl rfl rfl (r_assign (v := .int .i32 0) rfl) ?_
  refine l_val rfl rfl rfl (r_assign (v := .int .i64 0) rfl) ?_
  refine l_nil ?_
  refine c_seq ?_
  refine c_region ?_
  refine l_val rfl rfl rfl (r_move (v := str a0) rfl) ?_
  refine l_val rfl rfl rfl (r_lenT Tryd.underlying9 rfl) ?_
  refine l_val rfl rfl rfl (r_assign (v := .int .i64 (a0.length : Int)) rfl) ?_
  refine l_nil ?_
  refine c_seq ?_
  refine c_seq ?_
  refine c_region ?_
  refine l_val rfl rfl rfl (r_move (v := .int .i64 (a0.length : Int)) rfl) ?_
  refine l_val rfl rfl rfl (r_lss rfl rfl) ?_
  refine l_nil ?_
  refine c_if (b := (decide ((a0.length : Int) < 1))) rfl (fun hb => ?_) (fun hb => ?_)
  · have H3 := cnd_t hb H; clear H
    refine c_seq ?_
    refine c_region ?_
    refine l_val rfl rfl rfl (r_assign (v := .int .i32 65533) rfl) ?_
    refine l_val rfl rfl rfl (r_assign (v := .int .i64 0) rfl) ?_
    refine l_nil ?_
    refine c_ret ?_
    obtain rfl := Option.some.inj H3
    refine ret2 (v1 := .int .i32 65533) (v2 := .int .i64 0) rfl rfl rfl (fin rfl)
  · have H4 := cnd_f hb H; clear H
    exact absurd (show (none : Option (Int × Int)) = some r from H4) (fun h => by cases h)
theorem k110 {a0 : (List UInt8)} {r : Int × Int} (H : unicode_utf8_DecodeRuneInString a0 = some r) : Ret Tryd.prog 110 [str a0] (.tuple #[.int .i32 r.1, .int .i64 r.2]) := by
  refine enterRet (n := 19) Tryd.func110 rfl rfl rfl (fun wd => ?_)
  refine c_seq ?_
  refine c_region ?_
  refine l_val rfl rfl rfl (r_assign (v := .int .i32 0) rfl) ?_
  refine l_val rfl rfl rfl (r_assign (v := .int .i64 0) rfl) ?_
  refine l_nil ?_
  refine c_seq ?_
  refine c_meet (r := r) (σ := Bool) (τ := Unit) (fun s => unicode_utf8_DecodeRuneInString_j1 a0 s) (fun s t => [(0, str a0), (10, .bool s)]) (fun s t => []) (fun s t => True) ?_ ?_
  · refine c_region ?_
    refine l_val rfl rfl rfl (r_move (v := str a0) rfl) ?_
    refine l_val rfl rfl rfl (r_neqT rfl rfl) ?_
    refine l_val rfl rfl rfl (r_move (v := .bool (decide (a0 ≠ []))) rfl) ?_
    refine split (fun hb => ?_) (fun hb => ?_)
    · have H16 := cnd_t hb H; clear H
      refine l_val rfl rfl rfl (r_move (v := str a0) rfl) ?_
      obtain ⟨t8, h_t8, H17⟩ := bnd_some H16; clear H16
      refine l_val rfl rfl rfl (r_octG Tryd.underlying9 rfl rfl h_t8) ?_
      refine l_val rfl rfl rfl (r_lss rfl rfl) ?_
      refine l_val rfl rfl rfl (r_pickT (v := .bool (decide (t8 < 128))) rfl rfl) ?_
      refine l_nil ?_
      refine c_close (decide (t8 < 128)) () 0 [] (by exact ⟨rfl, rfl, trivial⟩) (by decide) rfl (by exact ⟨H17, trivial⟩) (Nat.lt_succ_self _)
    · have H18 := cnd_f hb H; clear H
      refine l_passed rfl rfl rfl ?_
      refine l_passed rfl rfl rfl ?_
      refine l_passed rfl rfl rfl ?_
      refine l_val rfl rfl rfl (r_pickF (v := .bool false) rfl rfl) ?_
      refine l_nil ?_
      refine c_close false () 0 [] (by exact ⟨rfl, rfl, trivial⟩) (by decide) rfl (by exact ⟨H18, trivial⟩) (Nat.lt_succ_self _)
  · rintro x10 _ gg H10 _
    replace H10 : unicode_utf8_DecodeRuneInString_j1 a0 x10 = some r := H10
    refine c_tidyF [(0, str a0), (10, .bool x10)] [] rfl rfl ?_
    refine c_if (b := x10) rfl (fun hb => ?_) (fun hb => ?_)
    · have H11 := cnd_t hb H10; clear H10
      refine c_seq ?_
      refine c_region ?_
      refine l_val rfl rfl rfl (r_move (v := str a0) rfl) ?_
      obtain ⟨t12, h_t12, H12⟩ := bnd_some H11; clear H11
      refine l_val rfl rfl rfl (r_octG Tryd.underlying9 rfl rfl h_t12) ?_
      obtain ⟨t13, h_t13, H13⟩ := bnd_some H12; clear H12
      refine l_val rfl rfl rfl (r_convG Tryd.runUnderlying5 Tryd.runUnderlying21 rfl (gK_i32 h_t13)) ?_
      refine l_val rfl rfl rfl (r_assign (v := .int .i32 t13) rfl) ?_
      refine l_val rfl rfl rfl (r_assign (v := .int .i64 1) rfl) ?_
      refine l_nil ?_
      refine c_ret ?_
      obtain rfl := Option.some.inj H13
      refine ret2 (v1 := .int .i32 t13) (v2 := .int .i64 1) rfl rfl rfl (fin rfl)
    · have H14 := cnd_f hb H10; clear H10
      refine c_region ?_
      refine l_val rfl rfl rfl (r_move (v := str a0) rfl) ?_
      obtain ⟨t16, h_t16, H15⟩ := bnd_some H14; clear H14
      refine l_call (k130 h_t16) Tryd.call130 rfl rfl rfl ?_
      refine l_val rfl rfl rfl (r_move (v := .tuple #[.int .i32 t16.1, .int .i64 t16.2]) rfl) ?_
      refine l_val rfl rfl rfl (r_extract (v := .int .i32 t16.1) rfl rfl) ?_
      refine l_val rfl rfl rfl (r_extract (v := .int .i64 t16.2) rfl rfl) ?_
      refine l_val rfl rfl rfl (r_assign (v := .int .i32 t16.1) rfl) ?_
      refine l_val rfl rfl rfl (r_assign (v := .int .i64 t16.2) rfl) ?_
      refine l_nil ?_
      refine c_ret ?_
      obtain rfl := Option.some.inj H15
      refine ret2 (v1 := .int .i32 t16.1) (v2 := .int .i64 t16.2) rfl rfl rfl (fin rfl)
theorem k116 {a0 : Int} {r : Int} (H : internal_bytealg_Cutover a0 = some r) : Ret Tryd.prog 116 [.int .i64 a0] (.int .i64 r) := by
  refine enterRet (n := 6) Tryd.func116 rfl rfl rfl (fun wd => ?_)
  refine c_seq ?_
  refine c_region ?_
  refine l_val rfl rfl rfl (r_assign (v := .int .i64 0) rfl) ?_
  refine l_nil ?_
  refine c_seq ?_
  refine c_region ?_
  refine l_val rfl rfl rfl (r_move (v := .int .i64 a0) rfl) ?_
  obtain ⟨t4, h_t4, H3⟩ := bnd_some H; clear H
  refine l_val rfl rfl rfl (r_addG rfl rfl h_t4) ?_
  obtain ⟨t5, h_t5, H4⟩ := bnd_some H3; clear H3
  refine l_val rfl rfl rfl (r_quoG rfl rfl h_t5) ?_
  refine l_val rfl rfl rfl (r_assign (v := .int .i64 t5) rfl) ?_
  refine l_nil ?_
  refine c_ret ?_
  obtain rfl := Option.some.inj H4
  refine ret1 (v := .int .i64 t5) rfl rfl (fin rfl)
theorem ext137 (s : List UInt8) (c r : Int) (h : gIxB s c = some r) (w : World) : (callFunc 137 (List.toArray [str s, .int .u8 c])).run Tryd.prog w = .ok (.value (.int .i64 r)) w := by
  have h0 : (callFunc 137 #[str s, .int .u8 c]).run Tryd.prog w = (do pure (.value (← Extern.BytealgIndexByte.indexByte #[str s, .int .u8 c])) : Sem Next).run Tryd.prog w := by kernel_rfl
  rw [h0]
  simp only [Sem.run_bind, Go.Lx.run_ixB h, Result.andThen_ok, Sem.run_pure]

theorem k114 {a0 : (List UInt8)} {a1 : Int} {r : Int} (H : internal_stringslite_IndexByte a0 a1 = some r) : Ret Tryd.prog 114 [str a0, .int .u8 a1] (.int .i64 r) := by
  refine enterRet (n := 8) Tryd.func114 rfl rfl rfl (fun wd => ?_)
  refine c_seq ?_
  refine c_region ?_
  refine l_val rfl rfl rfl (r_assign (v := .int .i64 0) rfl) ?_
  refine l_nil ?_
  refine c_seq ?_
  refine c_region ?_
  refine l_val rfl rfl rfl (r_move (v := str a0) rfl) ?_
  refine l_val rfl rfl rfl (r_move (v := .int .u8 a1) rfl) ?_
  obtain ⟨t7, h_t7, H2⟩ := bnd_some H; clear H
  refine l_val rfl rfl rfl (r_ext (args := [str a0, .int .u8 a1]) (ext137 _ _ _ h_t7) rfl) ?_
  refine l_val rfl rfl rfl (r_assign (v := .int .i64 t7) rfl) ?_
  refine l_nil ?_
  refine c_ret ?_
  obtain rfl := Option.some.inj H2
  refine ret1 (v := .int .i64 t7) rfl rfl (fin rfl)
theorem k142 {a0 : (List UInt8)} {a1 : Int} {r : Int} (H : strings_IndexByte a0 a1 = some r) : Ret Tryd.prog 142 [str a0, .int .u8 a1] (.int .i64 r) := by
  refine enterRet (n := 8) Tryd.func142 rfl rfl rfl (fun wd => ?_)
  refine c_seq ?_
  refine c_region ?_
  refine l_val rfl rfl rfl (r_assign (v := .int .i64 0) rfl) ?_
  refine l_nil ?_
  refine c_seq ?_
  refine c_region ?_
  refine l_val rfl rfl rfl (r_move (v := str a0) rfl) ?_
  refine l_val rfl rfl rfl (r_move (v := .int .u8 a1) rfl) ?_
  obtain ⟨t7, h_t7, H2⟩ := bnd_some H; clear H
  refine l_call (k114 h_t7) Tryd.call114 rfl rfl rfl ?_
  refine l_val rfl rfl rfl (r_assign (v := .int .i64 t7) rfl) ?_
  refine l_nil ?_
  refine c_ret ?_
  obtain rfl := Option.some.inj H2
  refine ret1 (v := .int .i64 t7) rfl rfl (fin rfl)
theorem k143 {a0 : Int} {r : Bool} (H : unicode_utf8_ValidRune a0 = some r) : Ret Tryd.prog 143 [.int .i32 a0] (.bool r) := by
  refine enterRet (n := 17) Tryd.func143 rfl rfl rfl (fun wd => ?_)
  refine c_seq ?_
  refine c_region ?_
  refine l_val rfl rfl rfl (r_assign (v := .bool false) rfl) ?_
  refine l_nil ?_
  refine c_seq ?_
  refine c_block ?_
  refine c_meet (r := r) (σ := Bool) (τ := Unit) (fun s => unicode_utf8_ValidRune_j1 a0 s) (fun s t => [(0, .int .i32 a0), (3, .bool s)]) (fun s t => []) (fun s t => True) ?_ ?_
  · refine c_region ?_
    refine l_val rfl rfl rfl (r_move (v := .int .i32 a0) rfl) ?_
    refine l_val rfl rfl rfl (r_leq rfl rfl) ?_
    refine l_val rfl rfl rfl (r_move (v := .bool (decide (0 ≤ a0))) rfl) ?_
    refine split (fun hb => ?_) (fun hb => ?_)
    · have H17 := cnd_t hb H; clear H
      refine l_val rfl rfl rfl (r_move (v := .int .i32 a0) rfl) ?_
      refine l_val rfl rfl rfl (r_lss rfl rfl) ?_
      refine l_val rfl rfl rfl (r_pickT (v := .bool (decide (a0 < 55296))) rfl rfl) ?_
      refine l_val rfl rfl rfl (r_assign (v := .bool (decide (a0 < 55296))) rfl) ?_
      refine l_nil ?_
      refine c_close (decide (a0 < 55296)) () 0 [] (by exact ⟨rfl, rfl, trivial⟩) (by decide) rfl (by exact ⟨H17, trivial⟩) (Nat.lt_succ_self _)
    · have H18 := cnd_f hb H; clear H
      refine l_passed rfl rfl rfl ?_
      refine l_passed rfl rfl rfl ?_
      refine l_val rfl rfl rfl (r_pickF (v := .bool false) rfl rfl) ?_
      refine l_val rfl rfl rfl (r_assign (v := .bool false) rfl) ?_
      refine l_nil ?_
      refine c_close false () 0 [] (by exact ⟨rfl, rfl, trivial⟩) (by decide) rfl (by exact ⟨H18, trivial⟩) (Nat.lt_succ_self _)
  · rintro x3 _ gg H10 _
    replace H10 : unicode_utf8_ValidRune_j1 a0 x3 = some r := H10
    refine c_tidyF [(0, .int .i32 a0), (3, .bool x3)] [] rfl rfl ?_
    refine c_if (b := x3) rfl (fun hb => ?_) (fun hb => ?_)
    · have H11 := cnd_t hb H10; clear H10
      refine c_seq ?_
      refine c_region ?_
      refine l_val rfl rfl rfl (r_assign (v := .bool true) rfl) ?_
      refine l_nil ?_
      refine c_ret ?_
      obtain rfl := Option.some.inj H11
      refine ret1 (v := .bool true) rfl rfl (fin rfl)
    · have H12 := cnd_f hb H10; clear H10
      refine c_seq ?_
      refine c_region ?_
      refine l_val rfl rfl rfl (r_move (v := .int .i32 a0) rfl) ?_
      refine l_val rfl rfl rfl (r_lss rfl rfl) ?_
      refine l_val rfl rfl rfl (r_move (v := .bool (decide (57343 < a0))) rfl) ?_
      refine split (fun hb => ?_) (fun hb => ?_)
      · have H13 := cnd_t hb H12; clear H12
        refine l_val rfl rfl rfl (r_move (v := .int .i32 a0) rfl) ?_
        refine l_val rfl rfl rfl (r_leq rfl rfl) ?_
        refine l_val rfl rfl rfl (r_pickT (v := .bool (decide (a0 ≤ 1114111))) rfl rfl) ?_
        refine l_val rfl rfl rfl (r_assign (v := .bool (decide (a0 ≤ 1114111))) rfl) ?_
        refine l_nil ?_
        refine c_if (b := (decide (a0 ≤ 1114111))) rfl (fun hb => ?_) (fun hb => ?_)
        · have H14 := cnd_t hb H13; clear H13
          refine c_seq ?_
          refine c_region ?_
          refine l_val rfl rfl rfl (r_assign (v := .bool true) rfl) ?_
          refine l_nil ?_
          refine c_ret ?_
          obtain rfl := Option.some.inj H14
          refine ret1 (v := .bool true) rfl rfl (fin rfl)
        · have H15 := cnd_f hb H13; clear H13
          refine c_skip ?_
          refine c_seq ?_
          refine c_region ?_
          refine l_val rfl rfl rfl (r_assign (v := .bool false) rfl) ?_
          refine l_nil ?_
          refine c_ret ?_
          obtain rfl := Option.some.inj H15
          refine ret1 (v := .bool false) rfl rfl (fin rfl)
      · have H16 := cnd_f hb H12; clear H12
        refine l_passed rfl rfl rfl ?_
        refine l_passed rfl rfl rfl ?_
        refine l_val rfl rfl rfl (r_pickF (v := .bool false) rfl rfl) ?_
        refine l_val rfl rfl rfl (r_assign (v := .bool false) rfl) ?_
        refine l_nil ?_
        refine c_false rfl ?_
        refine c_skip ?_
        refine c_seq ?_
        refine c_region ?_
        refine l_val rfl rfl rfl (r_assign (v := .bool false) rfl) ?_
        refine l_nil ?_
        refine c_ret ?_
        obtain rfl := Option.some.inj H16
        refine ret1 (v := .bool false) rfl rfl (fin rfl)
theorem k131 {a0 : (List UInt8)} {a1 : Int} {r : Int} (H : strings_IndexRune a0 a1 = some r) : Ret Tryd.prog 131 [str a0, .int .i32 a1] (.int .i64 r) := by
  refine enterRet (n := 187) Tryd.func131 rfl rfl rfl (fun wd => ?_)
  refine c_seq ?_
  refine c_region ?_
  refine l_val rfl rfl rfl (r_assign (v := .int .i64 0) rfl) ?_
  refine l_nil ?_
  refine c_block ?_
  refine c_meet (r := r) (σ := Bool) (τ := Unit) (fun s => strings_IndexRune_j1 a0 a1 s) (fun s t => [(0, str a0), (1, .int .i32 a1), (160, .bool s)]) (fun s t => []) (fun s t => True) ?_ ?_
  · refine c_region ?_
    refine l_val rfl rfl rfl (r_move (v := .int .i32 a1) rfl) ?_
    refine l_val rfl rfl rfl (r_leq rfl rfl) ?_
    refine l_val rfl rfl rfl (r_move (v := .bool (decide (0 ≤ a1))) rfl) ?_
    refine split (fun hb => ?_) (fun hb => ?_)
    · have H33 := cnd_t hb H; clear H
      refine l_val rfl rfl rfl (r_move (v := .int .i32 a1) rfl) ?_
      refine l_val rfl rfl rfl (r_lss rfl rfl) ?_
      refine l_val rfl rfl rfl (r_pickT (v := .bool (decide (a1 < 128))) rfl rfl) ?_
      refine l_val rfl rfl rfl (r_assign (v := .bool (decide (a1 < 128))) rfl) ?_
      refine l_nil ?_
      refine c_close (decide (a1 < 128)) () 0 [] (by exact ⟨rfl, rfl, rfl, trivial⟩) (by decide) rfl (by exact ⟨H33, trivial⟩) (Nat.lt_succ_self _)
    · have H34 := cnd_f hb H; clear H
      refine l_passed rfl rfl rfl ?_
      refine l_passed rfl rfl rfl ?_
      refine l_val rfl rfl rfl (r_pickF (v := .bool false) rfl rfl) ?_
      refine l_val rfl rfl rfl (r_assign (v := .bool false) rfl) ?_
      refine l_nil ?_
      refine c_close false () 0 [] (by exact ⟨rfl, rfl, rfl, trivial⟩) (by decide) rfl (by exact ⟨H34, trivial⟩) (Nat.lt_succ_self _)
  · rintro x160 _ gg H18 _
    replace H18 : strings_IndexRune_j1 a0 a1 x160 = some r := H18
    refine c_tidyF [(0, str a0), (1, .int .i32 a1), (160, .bool x160)] [] rfl rfl ?_
    refine c_if (b := x160) rfl (fun hb => ?_) (fun hb => ?_)
    · have H19 := cnd_t hb H18; clear H18
      refine c_seq ?_
      refine c_region ?_
      refine l_val rfl rfl rfl (r_move (v := str a0) rfl) ?_
      refine l_val rfl rfl rfl (r_move (v := .int .i32 a1) rfl) ?_
      refine l_val rfl rfl rfl (r_convG Tryd.runUnderlying21 Tryd.runUnderlying5 rfl (wr_u8 _)) ?_
      obtain ⟨t170, h_t170, H20⟩ := bnd_some H19; clear H19
      refine l_call (k142 h_t170) Tryd.call142 rfl rfl rfl ?_
      refine l_val rfl rfl rfl (r_assign (v := .int .i64 t170) rfl) ?_
      refine l_nil ?_
      refine c_ret ?_
      obtain rfl := Option.some.inj H20
      refine ret1 (v := .int .i64 t170) rfl rfl (fin rfl)
    · have H21 := cnd_f hb H18; clear H18
      refine c_seq ?_
      refine c_region ?_
      refine l_val rfl rfl rfl (r_move (v := .int .i32 a1) rfl) ?_
      refine l_val rfl rfl rfl (r_eql rfl rfl) ?_
      refine l_val rfl rfl rfl (r_assign (v := .bool (decide (a1 = 65533))) rfl) ?_
      refine l_nil ?_
      refine c_if (b := (decide (a1 = 65533))) rfl (fun hb => ?_) (fun hb => ?_)
      · have H22 := cnd_t hb H21; clear H21
        refine c_seq ?_
        refine c_seq ?_
        refine c_region ?_
        refine l_val rfl rfl rfl (r_move (v := str a0) rfl) ?_
        refine l_make (rds := []) (makes_range (s := a0) Tryd.underlying9 rfl) rfl rfl rfl (fun b1 => ?_)
        refine l_nil ?_
        refine c_block ?_
        refine c_fix (σ := Nat) (τ := Unit) (fun next2 s => strings_IndexRune_l2 a0 next2 s) (fun s t => [(175, .pointer (some ⟨b1, 0, none⟩))]) (fun s t => [iterC b1 a0 s]) (fun s t => True) 0 () [0] H22 (by exact trivial) (by exact ⟨rfl, trivial⟩) (by decide) rfl ?_
        rintro k_2 _ m2 gg H23 _
        clear H22
        replace H23 : strings_IndexRune_l2 a0 (it (fun next2 s => strings_IndexRune_l2 a0 next2 s) m2) k_2 = some r := H23
        generalize hn2 : it (fun next2 s => strings_IndexRune_l2 a0 next2 s) m2 = next2 at H23
        refine c_tidyF [(175, .pointer (some ⟨b1, 0, none⟩))] [iterC b1 a0 k_2] rfl rfl ?_
        refine c_seq ?_
        refine c_region ?_
        refine caseB (decide (k_2 < a0.length)) (fun hb => ?_) (fun hb => ?_)
        · have H24 := cnd_t hb H23; clear H23
          obtain ⟨t176, h_t176, H25⟩ := bnd_some H24; clear H24
          refine l_turn (turns_next (i := 0) (rds := []) rfl rfl h_t176) rfl rfl rfl (fun _ => ?_)
          refine l_val rfl rfl rfl (r_extract (v := .bool true) rfl rfl) ?_
          refine l_nil ?_
          refine c_seq ?_
          refine c_true rfl ?_
          refine c_skip ?_
          refine c_block ?_
          refine c_seq ?_
          refine c_region ?_
          refine l_val rfl rfl rfl (r_extract (v := .int .i64 ((k_2 : Nat) : Int)) rfl rfl) ?_
          refine l_val rfl rfl rfl (r_extract (v := .int .i32 t176) rfl rfl) ?_
          refine l_val rfl rfl rfl (r_assign (v := .int .i64 ((k_2 : Nat) : Int)) rfl) ?_
          refine l_val rfl rfl rfl (r_assign (v := .int .i32 t176) rfl) ?_
          refine l_nil ?_
          refine c_seq ?_
          refine c_region ?_
          refine l_val rfl rfl rfl (r_move (v := .int .i32 t176) rfl) ?_
          refine l_val rfl rfl rfl (r_eql rfl rfl) ?_
          refine l_nil ?_
          refine c_if (b := (decide (t176 = 65533))) rfl (fun hb => ?_) (fun hb => ?_)
          · have H26 := cnd_t hb H25; clear H25
            refine c_seq ?_
            refine c_region ?_
            refine l_val rfl rfl rfl (r_move (v := .int .i64 ((k_2 : Nat) : Int)) rfl) ?_
            refine l_val rfl rfl rfl (r_assign (v := .int .i64 ((k_2 : Nat) : Int)) rfl) ?_
            refine l_nil ?_
            refine c_ret ?_
            obtain rfl := Option.some.inj H26
            refine ret1 (v := .int .i64 ((k_2 : Nat) : Int)) rfl rfl (fin rfl)
          · have H27 := cnd_f hb H25; clear H25
            refine c_skip ?_
            refine c_close (k_2 + 1) () m2 [0] (by exact ⟨rfl, trivial⟩) (by decide) rfl (by exact ⟨(by subst hn2; exact H27), trivial⟩) (Nat.lt_succ_self _)
        · have H28 := cnd_f hb H23; clear H23
          refine l_read (fun w hF hS => r_nextOver (i := 0) hS rfl rfl hb) rfl rfl rfl ?_
          refine l_val rfl rfl rfl (r_extract (v := .bool false) rfl rfl) ?_
          refine l_nil ?_
          refine c_seq ?_
          refine c_false rfl ?_
          refine c_exit ?_
          refine c_seq ?_
          refine c_region ?_
          refine l_val rfl rfl rfl (r_assign (v := .int .i64 (-1)) rfl) ?_
          refine l_nil ?_
          refine c_ret ?_
          obtain rfl := Option.some.inj H28
          refine ret1 (v := .int .i64 (-1)) rfl rfl (fin rfl)
      · have H29 := cnd_f hb H21; clear H21
        refine c_seq ?_
        refine c_region ?_
        refine l_val rfl rfl rfl (r_move (v := .int .i32 a1) rfl) ?_
        obtain ⟨t185, h_t185, H30⟩ := bnd_some H29; clear H29
        refine l_call (k143 h_t185) Tryd.call143 rfl rfl rfl ?_
        refine l_val rfl rfl rfl (r_not rfl) ?_
        refine l_val rfl rfl rfl (r_assign (v := .bool (!t185)) rfl) ?_
        refine l_nil ?_
        refine c_if (b := (!t185)) rfl (fun hb => ?_) (fun hb => ?_)
        · have H31 := cnd_t hb H30; clear H30
          refine c_seq ?_
          refine c_region ?_
          refine l_val rfl rfl rfl (r_assign (v := .int .i64 (-1)) rfl) ?_
          refine l_nil ?_
          refine c_ret ?_
          obtain rfl := Option.some.inj H31
          refine ret1 (v := .int .i64 (-1)) rfl rfl (fin rfl)
        · have H32 := cnd_f hb H30; clear H30
          exact absurd (show (none : Option (Int)) = some r from H32) (fun h => by cases h)
theorem k111 {a0 : (List UInt8)} {a1 : Int} {r : Bool} (H : strings_ContainsRune a0 a1 = some r) : Ret Tryd.prog 111 [str a0, .int .i32 a1] (.bool r) := by
  refine enterRet (n := 9) Tryd.func111 rfl rfl rfl (fun wd => ?_)
  refine c_seq ?_
  refine c_region ?_
  refine l_val rfl rfl rfl (r_assign (v := .bool false) rfl) ?_
  refine l_nil ?_
  refine c_seq ?_
  refine c_region ?_
  refine l_val rfl rfl rfl (r_move (v := str a0) rfl) ?_
  refine l_val rfl rfl rfl (r_move (v := .int .i32 a1) rfl) ?_
  obtain ⟨t7, h_t7, H2⟩ := bnd_some H; clear H
  refine l_call (k131 h_t7) Tryd.call131 rfl rfl rfl ?_
  refine l_val rfl rfl rfl (r_geq rfl rfl) ?_
  refine l_val rfl rfl rfl (r_assign (v := .bool (decide (0 ≤ t7))) rfl) ?_
  refine l_nil ?_
  refine c_ret ?_
  obtain rfl := Option.some.inj H2
  refine ret1 (v := .bool (decide (0 ≤ t7))) rfl rfl (fin rfl)
theorem k92 {a0 : (List UInt8)} {a1 : (List UInt8)} {r : (List UInt8)} (H : strings_trimLeftUnicode a0 a1 = some r) : Ret Tryd.prog 92 [str a0, str a1] (str r) := by
  refine enterRet (n := 23) Tryd.func92 rfl rfl rfl (fun wd => ?_)
  refine c_seq ?_
  refine c_region ?_
  refine l_val rfl rfl rfl (r_assign (v := str []) rfl) ?_
  refine l_nil ?_
  refine c_seq ?_
  refine c_block ?_
  refine c_fix (σ := (List UInt8)) (τ := Unit) (fun next1 s => strings_trimLeftUnicode_l1 a1 next1 s) (fun s t => [(0, str s), (1, str a1)]) (fun s t => []) (fun s t => True) a0 () [] H (by exact trivial) (by exact ⟨rfl, rfl, trivial⟩) (by decide) rfl ?_
  rintro x0_2 _ m1 gg H9 _
  clear H
  replace H9 : strings_trimLeftUnicode_l1 a1 (it (fun next1 s => strings_trimLeftUnicode_l1 a1 next1 s) m1) x0_2 = some r := H9
  generalize hn1 : it (fun next1 s => strings_trimLeftUnicode_l1 a1 next1 s) m1 = next1 at H9
  refine c_tidyF [(0, str x0_2), (1, str a1)] [] rfl rfl ?_
  refine c_seq ?_
  refine c_seq ?_
  refine c_region ?_
  refine l_val rfl rfl rfl (r_move (v := str x0_2) rfl) ?_
  refine l_val rfl rfl rfl (r_lenT Tryd.underlying9 rfl) ?_
  refine l_val rfl rfl rfl (r_gtr rfl rfl) ?_
  refine l_nil ?_
  refine c_if (b := (decide (0 < (x0_2.length : Int)))) rfl (fun hb => ?_) (fun hb => ?_)
  · have H10 := cnd_t hb H9; clear H9
    refine c_skip ?_
    refine c_block ?_
    refine c_seq ?_
    refine c_region ?_
    refine l_val rfl rfl rfl (r_move (v := str x0_2) rfl) ?_
    obtain ⟨t12, h_t12, H11⟩ := bnd_some H10; clear H10
    refine l_call (k110 h_t12) Tryd.call110 rfl rfl rfl ?_
    refine l_val rfl rfl rfl (r_move (v := .tuple #[.int .i32 t12.1, .int .i64 t12.2]) rfl) ?_
    refine l_val rfl rfl rfl (r_extract (v := .int .i32 t12.1) rfl rfl) ?_
    refine l_val rfl rfl rfl (r_extract (v := .int .i64 t12.2) rfl rfl) ?_
    refine l_val rfl rfl rfl (r_assign (v := .int .i32 t12.1) rfl) ?_
    refine l_val rfl rfl rfl (r_assign (v := .int .i64 t12.2) rfl) ?_
    refine l_nil ?_
    refine c_seq ?_
    refine c_seq ?_
    refine c_region ?_
    refine l_val rfl rfl rfl (r_move (v := str a1) rfl) ?_
    refine l_val rfl rfl rfl (r_move (v := .int .i32 t12.1) rfl) ?_
    obtain ⟨t17, h_t17, H12⟩ := bnd_some H11; clear H11
    refine l_call (k111 h_t17) Tryd.call111 rfl rfl rfl ?_
    refine l_val rfl rfl rfl (r_not rfl) ?_
    refine l_nil ?_
    refine c_if (b := (!t17)) rfl (fun hb => ?_) (fun hb => ?_)
    · have H13 := cnd_t hb H12; clear H12
      refine c_exit ?_
      refine c_seq ?_
      refine c_region ?_
      refine l_val rfl rfl rfl (r_move (v := str x0_2) rfl) ?_
      refine l_val rfl rfl rfl (r_assign (v := str x0_2) rfl) ?_
      refine l_nil ?_
      refine c_ret ?_
      obtain rfl := Option.some.inj H13
      refine ret1 (v := str x0_2) rfl rfl (fin rfl)
    · have H14 := cnd_f hb H12; clear H12
      refine c_skip ?_
      refine c_region ?_
      refine l_val rfl rfl rfl (r_move (v := str x0_2) rfl) ?_
      refine l_val rfl rfl rfl (r_move (v := .int .i64 t12.2) rfl) ?_
      obtain ⟨t21, h_t21, H15⟩ := bnd_some H14; clear H14
      refine l_val rfl rfl rfl (r_cutFromG Tryd.underlying9 rfl rfl h_t21) ?_
      refine l_val rfl rfl rfl (r_assign (v := str t21) rfl) ?_
      refine l_nil ?_
      refine c_close t21 () m1 [] (by exact ⟨rfl, rfl, trivial⟩) (by decide) rfl (by exact ⟨(by subst hn1; exact H15), trivial⟩) (Nat.lt_succ_self _)
  · have H16 := cnd_f hb H9; clear H9
    refine c_exit ?_
    refine c_seq ?_
    refine c_region ?_
    refine l_val rfl rfl rfl (r_move (v := str x0_2) rfl) ?_
    refine l_val rfl rfl rfl (r_assign (v := str x0_2) rfl) ?_
    refine l_nil ?_
    refine c_ret ?_
    obtain rfl := Option.some.inj H16
    refine ret1 (v := str x0_2) rfl rfl (fin rfl)
theorem k132 {a0 : Int} {r : Bool} (H : unicode_utf8_RuneStart a0 = some r) : Ret Tryd.prog 132 [.int .u8 a0] (.bool r) := by
  refine enterRet (n := 6) Tryd.func132 rfl rfl rfl (fun wd => ?_)
  refine c_seq ?_
  refine c_region ?_
  refine l_val rfl rfl rfl (r_assign (v := .bool false) rfl) ?_
  refine l_nil ?_
  refine c_seq ?_
  refine c_region ?_
  refine l_val rfl rfl rfl (r_move (v := .int .u8 a0) rfl) ?_
  refine l_val rfl rfl rfl (r_bitsAnd (bits := 8) rfl rfl rfl (wr_u8 _)) ?_
  refine l_val rfl rfl rfl (r_neq rfl rfl) ?_
  refine l_val rfl rfl rfl (r_assign (v := .bool (decide ((wU8 (bAnd 8 a0 192)) ≠ 128))) rfl) ?_
  refine l_nil ?_
  refine c_ret ?_
  obtain rfl := Option.some.inj H
  refine ret1 (v := .bool (decide ((wU8 (bAnd 8 a0 192)) ≠ 128))) rfl rfl (fin rfl)
theorem k112 {a0 : (List UInt8)} {r : Int × Int} (H : unicode_utf8_DecodeLastRuneInString a0 = some r) : Ret Tryd.prog 112 [str a0] (.tuple #[.int .i32 r.1, .int .i64 r.2]) := by
  refine enterRet (n := 51) Tryd.func112 rfl rfl rfl (fun wd => ?_)
  refine c_seq ?_
  refine c_region ?_
  refine l_val rfl rfl rfl (r_assign (v := .int .i32 0) rfl) ?_
  refine l_val rfl rfl rfl (r_assign (v := .int .i64 0) rfl) ?_
  refine l_nil ?_
  refine c_seq ?_
  refine c_region ?_
  refine l_val rfl rfl rfl (r_move (v := str a0) rfl) ?_
  refine l_val rfl rfl rfl (r_lenT Tryd.underlying9 rfl) ?_
  refine l_val rfl rfl rfl (r_assign (v := .int .i64 (a0.length : Int)) rfl) ?_
  refine l_nil ?_
  refine c_seq ?_
  refine c_seq ?_
  refine c_region ?_
  refine l_val rfl rfl rfl (r_move (v := .int .i64 (a0.length : Int)) rfl) ?_
  refine l_val rfl rfl rfl (r_eql rfl rfl) ?_
  refine l_nil ?_
  refine c_if (b := (decide ((a0.length : Int) = 0))) rfl (fun hb => ?_) (fun hb => ?_)
  · have H27 := cnd_t hb H; clear H
    refine c_seq ?_
    refine c_region ?_
    refine l_val rfl rfl rfl (r_assign (v := .int .i32 65533) rfl) ?_
    refine l_val rfl rfl rfl (r_assign (v := .int .i64 0) rfl) ?_
    refine l_nil ?_
    refine c_ret ?_
    obtain rfl := Option.some.inj H27
    refine ret2 (v1 := .int .i32 65533) (v2 := .int .i64 0) rfl rfl rfl (fin rfl)
  · have H28 := cnd_f hb H; clear H
    refine c_skip ?_
    refine c_seq ?_
    refine c_region ?_
    refine l_val rfl rfl rfl (r_move (v := .int .i64 (a0.length : Int)) rfl) ?_
    obtain ⟨t12, h_t12, H29⟩ := bnd_some H28; clear H28
    refine l_val rfl rfl rfl (r_subG rfl rfl h_t12) ?_
    refine l_val rfl rfl rfl (r_assign (v := .int .i64 t12) rfl) ?_
    refine l_nil ?_
    refine c_seq ?_
    refine c_region ?_
    refine l_val rfl rfl rfl (r_move (v := str a0) rfl) ?_
    refine l_val rfl rfl rfl (r_move (v := .int .i64 t12) rfl) ?_
    obtain ⟨t15, h_t15, H30⟩ := bnd_some H29; clear H29
    refine l_val rfl rfl rfl (r_octG Tryd.underlying9 rfl rfl h_t15) ?_
    obtain ⟨t16, h_t16, H31⟩ := bnd_some H30; clear H30
    refine l_val rfl rfl rfl (r_convG Tryd.runUnderlying5 Tryd.runUnderlying21 rfl (gK_i32 h_t16)) ?_
    refine l_val rfl rfl rfl (r_assign (v := .int .i32 t16) rfl) ?_
    refine l_nil ?_
    refine c_seq ?_
    refine c_seq ?_
    refine c_region ?_
    refine l_val rfl rfl rfl (r_move (v := .int .i32 t16) rfl) ?_
    refine l_val rfl rfl rfl (r_lss rfl rfl) ?_
    refine l_nil ?_
    refine c_if (b := (decide (t16 < 128))) rfl (fun hb => ?_) (fun hb => ?_)
    · have H32 := cnd_t hb H31; clear H31
      refine c_seq ?_
      refine c_region ?_
      refine l_val rfl rfl rfl (r_move (v := .int .i32 t16) rfl) ?_
      refine l_val rfl rfl rfl (r_assign (v := .int .i32 t16) rfl) ?_
      refine l_val rfl rfl rfl (r_assign (v := .int .i64 1) rfl) ?_
      refine l_nil ?_
      refine c_ret ?_
      obtain rfl := Option.some.inj H32
      refine ret2 (v1 := .int .i32 t16) (v2 := .int .i64 1) rfl rfl rfl (fin rfl)
    · have H33 := cnd_f hb H31; clear H31
      refine c_skip ?_
      refine c_seq ?_
      refine c_region ?_
      refine l_val rfl rfl rfl (r_move (v := .int .i64 (a0.length : Int)) rfl) ?_
      obtain ⟨t21, h_t21, H34⟩ := bnd_some H33; clear H33
      refine l_val rfl rfl rfl (r_subG rfl rfl h_t21) ?_
      refine l_val rfl rfl rfl (r_max rfl rfl) ?_
      refine l_val rfl rfl rfl (r_assign (v := .int .i64 (max t21 0)) rfl) ?_
      refine l_nil ?_
      refine c_meet (r := r) (σ := Int) (τ := Unit) (fun s => unicode_utf8_DecodeLastRuneInString_j1 a0 s) (fun s t => [(0, str a0), (4, .int .i64 (a0.length : Int)), (5, .int .i64 s)]) (fun s t => []) (fun s t => True) ?_ ?_
      · refine c_seq ?_
        refine c_region ?_
        refine l_val rfl rfl rfl (r_move (v := .int .i64 t12) rfl) ?_
        obtain ⟨t24, h_t24, H44⟩ := bnd_some H34; clear H34
        refine l_val rfl rfl rfl (r_subG rfl rfl h_t24) ?_
        refine l_val rfl rfl rfl (r_assign (v := .int .i64 t24) rfl) ?_
        refine l_nil ?_
        refine c_block ?_
        refine c_fix (σ := Int) (τ := Unit) (fun next3 s => unicode_utf8_DecodeLastRuneInString_l3 a0 t21 next3 s) (fun s t => [(0, str a0), (4, .int .i64 (a0.length : Int)), (5, .int .i64 s), (6, .int .i64 (max t21 0))]) (fun s t => []) (fun s t => True) t24 () [] H44 (by exact trivial) (by exact ⟨rfl, rfl, rfl, rfl, trivial⟩) (by decide) rfl ?_
        rintro x5_4 _ m3 gg H45 _
        clear H44
        replace H45 : unicode_utf8_DecodeLastRuneInString_l3 a0 t21 (it (fun next3 s => unicode_utf8_DecodeLastRuneInString_l3 a0 t21 next3 s) m3) x5_4 = some r := H45
        generalize hn3 : it (fun next3 s => unicode_utf8_DecodeLastRuneInString_l3 a0 t21 next3 s) m3 = next3 at H45
        refine c_tidyF [(0, str a0), (4, .int .i64 (a0.length : Int)), (5, .int .i64 x5_4), (6, .int .i64 (max t21 0))] [] rfl rfl ?_
        refine c_seq ?_
        refine c_seq ?_
        refine c_region ?_
        refine l_val rfl rfl rfl (r_move (v := .int .i64 x5_4) rfl) ?_
        refine l_val rfl rfl rfl (r_move (v := .int .i64 (max t21 0)) rfl) ?_
        refine l_val rfl rfl rfl (r_geq rfl rfl) ?_
        refine l_nil ?_
        refine c_if (b := (decide ((max t21 0) ≤ x5_4))) rfl (fun hb => ?_) (fun hb => ?_)
        · have H46 := cnd_t hb H45; clear H45
          refine c_skip ?_
          refine c_seq ?_
          refine c_block ?_
          refine c_seq ?_
          refine c_region ?_
          refine l_val rfl rfl rfl (r_move (v := str a0) rfl) ?_
          refine l_val rfl rfl rfl (r_move (v := .int .i64 x5_4) rfl) ?_
          obtain ⟨t32, h_t32, H47⟩ := bnd_some H46; clear H46
          refine l_val rfl rfl rfl (r_octG Tryd.underlying9 rfl rfl h_t32) ?_
          obtain ⟨t33, h_t33, H48⟩ := bnd_some H47; clear H47
          refine l_call (k132 h_t33) Tryd.call132 rfl rfl rfl ?_
          refine l_nil ?_
          refine c_if (b := t33) rfl (fun hb => ?_) (fun hb => ?_)
          · have H49 := cnd_t hb H48; clear H48
            refine c_exit ?_
            refine c_close x5_4 () 0 [] (by exact ⟨rfl, rfl, rfl, trivial⟩) (by decide) rfl (by exact ⟨H49, trivial⟩) (Nat.lt_succ_self _)
          · have H50 := cnd_f hb H48; clear H48
            refine c_skip ?_
            refine c_region ?_
            refine l_val rfl rfl rfl (r_move (v := .int .i64 x5_4) rfl) ?_
            obtain ⟨t29, h_t29, H51⟩ := bnd_some H50; clear H50
            refine l_val rfl rfl rfl (r_subG rfl rfl h_t29) ?_
            refine l_val rfl rfl rfl (r_assign (v := .int .i64 t29) rfl) ?_
            refine l_nil ?_
            refine c_close t29 () m3 [] (by exact ⟨rfl, rfl, rfl, rfl, trivial⟩) (by decide) rfl (by exact ⟨(by subst hn3; exact H51), trivial⟩) (Nat.lt_succ_self _)
        · have H52 := cnd_f hb H45; clear H45
          refine c_exit ?_
          refine c_close x5_4 () 0 [] (by exact ⟨rfl, rfl, rfl, trivial⟩) (by decide) rfl (by exact ⟨H52, trivial⟩) (Nat.lt_succ_self _)
      · rintro x5 _ gg H35 _
        replace H35 : unicode_utf8_DecodeLastRuneInString_j1 a0 x5 = some r := H35
        refine c_tidyF [(0, str a0), (4, .int .i64 (a0.length : Int)), (5, .int .i64 x5)] [] rfl rfl ?_
        refine c_meet (r := r) (σ := Int) (τ := Unit) (fun s => unicode_utf8_DecodeLastRuneInString_j2 a0 s) (fun s t => [(0, str a0), (4, .int .i64 (a0.length : Int)), (5, .int .i64 s)]) (fun s t => []) (fun s t => True) ?_ ?_
        · refine c_seq ?_
          refine c_region ?_
          refine l_val rfl rfl rfl (r_move (v := .int .i64 x5) rfl) ?_
          refine l_val rfl rfl rfl (r_lss rfl rfl) ?_
          refine l_nil ?_
          refine c_if (b := (decide (x5 < 0))) rfl (fun hb => ?_) (fun hb => ?_)
          · have H42 := cnd_t hb H35; clear H35
            refine c_region ?_
            refine l_val rfl rfl rfl (r_assign (v := .int .i64 0) rfl) ?_
            refine l_nil ?_
            refine c_close 0 () 0 [] (by exact ⟨rfl, rfl, rfl, trivial⟩) (by decide) rfl (by exact ⟨H42, trivial⟩) (Nat.lt_succ_self _)
          · have H43 := cnd_f hb H35; clear H35
            refine c_skip ?_
            refine c_close x5 () 0 [] (by exact ⟨rfl, rfl, rfl, trivial⟩) (by decide) rfl (by exact ⟨H43, trivial⟩) (Nat.lt_succ_self _)
        · rintro x5_2 _ gg H36 _
          replace H36 : unicode_utf8_DecodeLastRuneInString_j2 a0 x5_2 = some r := H36
          refine c_tidyF [(0, str a0), (4, .int .i64 (a0.length : Int)), (5, .int .i64 x5_2)] [] rfl rfl ?_
          refine c_seq ?_
          refine c_region ?_
          refine l_val rfl rfl rfl (r_move (v := str a0) rfl) ?_
          refine l_val rfl rfl rfl (r_move (v := .int .i64 x5_2) rfl) ?_
          refine l_val rfl rfl rfl (r_move (v := .int .i64 (a0.length : Int)) rfl) ?_
          obtain ⟨t40, h_t40, H37⟩ := bnd_some H36; clear H36
          refine l_val rfl rfl rfl (r_cutTG Tryd.underlying9 rfl rfl rfl h_t40) ?_
          obtain ⟨t41, h_t41, H38⟩ := bnd_some H37; clear H37
          refine l_call (k110 h_t41) Tryd.call110 rfl rfl rfl ?_
          refine l_val rfl rfl rfl (r_move (v := .tuple #[.int .i32 t41.1, .int .i64 t41.2]) rfl) ?_
          refine l_val rfl rfl rfl (r_extract (v := .int .i32 t41.1) rfl rfl) ?_
          refine l_val rfl rfl rfl (r_extract (v := .int .i64 t41.2) rfl rfl) ?_
          refine l_val rfl rfl rfl (r_assign (v := .int .i32 t41.1) rfl) ?_
          refine l_val rfl rfl rfl (r_assign (v := .int .i64 t41.2) rfl) ?_
          refine l_nil ?_
          refine c_seq ?_
          refine c_seq ?_
          refine c_region ?_
          refine l_val rfl rfl rfl (r_move (v := .int .i64 x5_2) rfl) ?_
          refine l_val rfl rfl rfl (r_move (v := .int .i64 t41.2) rfl) ?_
          obtain ⟨t46, h_t46, H39⟩ := bnd_some H38; clear H38
          refine l_val rfl rfl rfl (r_addG rfl rfl h_t46) ?_
          refine l_val rfl rfl rfl (r_move (v := .int .i64 (a0.length : Int)) rfl) ?_
          refine l_val rfl rfl rfl (r_neq rfl rfl) ?_
          refine l_nil ?_
          refine c_if (b := (decide (t46 ≠ (a0.length : Int)))) rfl (fun hb => ?_) (fun hb => ?_)
          · have H40 := cnd_t hb H39; clear H39
            refine c_seq ?_
            refine c_region ?_
            refine l_val rfl rfl rfl (r_assign (v := .int .i32 65533) rfl) ?_
            refine l_val rfl rfl rfl (r_assign (v := .int .i64 1) rfl) ?_
            refine l_nil ?_
            refine c_ret ?_
            obtain rfl := Option.some.inj H40
            refine ret2 (v1 := .int .i32 65533) (v2 := .int .i64 1) rfl rfl rfl (fin rfl)
          · have H41 := cnd_f hb H39; clear H39
            refine c_skip ?_
            refine c_seq ?_
            refine c_region ?_
            refine l_val rfl rfl rfl (r_move (v := .int .i32 t41.1) rfl) ?_
            refine l_val rfl rfl rfl (r_move (v := .int .i64 t41.2) rfl) ?_
            refine l_val rfl rfl rfl (r_assign (v := .int .i32 t41.1) rfl) ?_
            refine l_val rfl rfl rfl (r_assign (v := .int .i64 t41.2) rfl) ?_
            refine l_nil ?_
            refine c_ret ?_
            obtain rfl := Option.some.inj H41
            refine ret2 (v1 := .int .i32 t41.1) (v2 := .int .i64 t41.2) rfl rfl rfl (fin rfl)
theorem k93 {a0 : (List UInt8)} {a1 : (List UInt8)} {r : (List UInt8)} (H : strings_trimRightUnicode a0 a1 = some r) : Ret Tryd.prog 93 [str a0, str a1] (str r) := by
  refine enterRet (n := 34) Tryd.func93 rfl rfl rfl (fun wd => ?_)
  refine c_seq ?_
  refine c_region ?_
  refine l_val rfl rfl rfl (r_assign (v := str []) rfl) ?_
  refine l_nil ?_
  refine c_seq ?_
  refine c_block ?_
  refine c_fix (σ := (List UInt8)) (τ := Unit) (fun next1 s => strings_trimRightUnicode_l1 a1 next1 s) (fun s t => [(0, str s), (1, str a1)]) (fun s t => []) (fun s t => True) a0 () [] H (by exact trivial) (by exact ⟨rfl, rfl, trivial⟩) (by decide) rfl ?_
  rintro x0_2 _ m1 gg H16 _
  clear H
  replace H16 : strings_trimRightUnicode_l1 a1 (it (fun next1 s => strings_trimRightUnicode_l1 a1 next1 s) m1) x0_2 = some r := H16
  generalize hn1 : it (fun next1 s => strings_trimRightUnicode_l1 a1 next1 s) m1 = next1 at H16
  refine c_tidyF [(0, str x0_2), (1, str a1)] [] rfl rfl ?_
  refine c_seq ?_
  refine c_seq ?_
  refine c_region ?_
  refine l_val rfl rfl rfl (r_move (v := str x0_2) rfl) ?_
  refine l_val rfl rfl rfl (r_lenT Tryd.underlying9 rfl) ?_
  refine l_val rfl rfl rfl (r_gtr rfl rfl) ?_
  refine l_nil ?_
  refine c_if (b := (decide (0 < (x0_2.length : Int)))) rfl (fun hb => ?_) (fun hb => ?_)
  · have H17 := cnd_t hb H16; clear H16
    refine c_skip ?_
    refine c_block ?_
    refine c_seq ?_
    refine c_region ?_
    refine l_val rfl rfl rfl (r_move (v := str x0_2) rfl) ?_
    refine l_val rfl rfl rfl (r_move (v := str x0_2) rfl) ?_
    refine l_val rfl rfl rfl (r_lenT Tryd.underlying9 rfl) ?_
    obtain ⟨t13, h_t13, H18⟩ := bnd_some H17; clear H17
    refine l_val rfl rfl rfl (r_subG rfl rfl h_t13) ?_
    obtain ⟨t14, h_t14, H19⟩ := bnd_some H18; clear H18
    refine l_val rfl rfl rfl (r_octG Tryd.underlying9 rfl rfl h_t14) ?_
    obtain ⟨t15, h_t15, H20⟩ := bnd_some H19; clear H19
    refine l_val rfl rfl rfl (r_convG Tryd.runUnderlying5 Tryd.runUnderlying21 rfl (gK_i32 h_t15)) ?_
    refine l_val rfl rfl rfl (r_assign (v := .int .i32 t15) rfl) ?_
    refine l_val rfl rfl rfl (r_assign (v := .int .i64 1) rfl) ?_
    refine l_nil ?_
    refine c_meet (r := r) (σ := Int × Int) (τ := Unit) (fun s => strings_trimRightUnicode_j2 a1 x0_2 next1 s.1 s.2) (fun s t => [(0, str x0_2), (1, str a1), (5, .int .i32 s.1), (6, .int .i64 s.2)]) (fun s t => []) (fun s t => True) ?_ ?_
    · refine c_seq ?_
      refine c_region ?_
      refine l_val rfl rfl rfl (r_move (v := .int .i32 t15) rfl) ?_
      refine l_val rfl rfl rfl (r_geq rfl rfl) ?_
      refine l_nil ?_
      refine c_if (b := (decide (128 ≤ t15))) rfl (fun hb => ?_) (fun hb => ?_)
      · have H27 := cnd_t hb H20; clear H20
        refine c_region ?_
        refine l_val rfl rfl rfl (r_move (v := str x0_2) rfl) ?_
        obtain ⟨t20, h_t20, H28⟩ := bnd_some H27; clear H27
        refine l_call (k112 h_t20) Tryd.call112 rfl rfl rfl ?_
        refine l_val rfl rfl rfl (r_move (v := .tuple #[.int .i32 t20.1, .int .i64 t20.2]) rfl) ?_
        refine l_val rfl rfl rfl (r_extract (v := .int .i32 t20.1) rfl rfl) ?_
        refine l_val rfl rfl rfl (r_extract (v := .int .i64 t20.2) rfl rfl) ?_
        refine l_val rfl rfl rfl (r_assign (v := .int .i32 t20.1) rfl) ?_
        refine l_val rfl rfl rfl (r_assign (v := .int .i64 t20.2) rfl) ?_
        refine l_nil ?_
        refine c_close (t20.1, t20.2) () 0 [] (by exact ⟨rfl, rfl, rfl, rfl, trivial⟩) (by decide) rfl (by exact ⟨H28, trivial⟩) (Nat.lt_succ_self _)
      · have H29 := cnd_f hb H20; clear H20
        refine c_skip ?_
        refine c_close (t15, 1) () 0 [] (by exact ⟨rfl, rfl, rfl, rfl, trivial⟩) (by decide) rfl (by exact ⟨H29, trivial⟩) (Nat.lt_succ_self _)
    · rintro ⟨x5, x6⟩ _ gg H21 _
      replace H21 : strings_trimRightUnicode_j2 a1 x0_2 next1 x5 x6 = some r := H21
      refine c_tidyF [(0, str x0_2), (1, str a1), (5, .int .i32 x5), (6, .int .i64 x6)] [] rfl rfl ?_
      refine c_seq ?_
      refine c_seq ?_
      refine c_region ?_
      refine l_val rfl rfl rfl (r_move (v := str a1) rfl) ?_
      refine l_val rfl rfl rfl (r_move (v := .int .i32 x5) rfl) ?_
      obtain ⟨t25, h_t25, H22⟩ := bnd_some H21; clear H21
      refine l_call (k111 h_t25) Tryd.call111 rfl rfl rfl ?_
      refine l_val rfl rfl rfl (r_not rfl) ?_
      refine l_nil ?_
      refine c_if (b := (!t25)) rfl (fun hb => ?_) (fun hb => ?_)
      · have H23 := cnd_t hb H22; clear H22
        refine c_exit ?_
        refine c_seq ?_
        refine c_region ?_
        refine l_val rfl rfl rfl (r_move (v := str x0_2) rfl) ?_
        refine l_val rfl rfl rfl (r_assign (v := str x0_2) rfl) ?_
        refine l_nil ?_
        refine c_ret ?_
        obtain rfl := Option.some.inj H23
        refine ret1 (v := str x0_2) rfl rfl (fin rfl)
      · have H24 := cnd_f hb H22; clear H22
        refine c_skip ?_
        refine c_region ?_
        refine l_val rfl rfl rfl (r_move (v := str x0_2) rfl) ?_
        refine l_val rfl rfl rfl (r_move (v := str x0_2) rfl) ?_
        refine l_val rfl rfl rfl (r_lenT Tryd.underlying9 rfl) ?_
        refine l_val rfl rfl rfl (r_move (v := .int .i64 x6) rfl) ?_
        obtain ⟨t31, h_t31, H25⟩ := bnd_some H24; clear H24
        refine l_val rfl rfl rfl (r_subG rfl rfl h_t31) ?_
        obtain ⟨t32, h_t32, H26⟩ := bnd_some H25; clear H25
        refine l_val rfl rfl rfl (r_cutToG Tryd.underlying9 rfl rfl h_t32) ?_
        refine l_val rfl rfl rfl (r_assign (v := str t32) rfl) ?_
        refine l_nil ?_
        refine c_close t32 () m1 [] (by exact ⟨rfl, rfl, trivial⟩) (by decide) rfl (by exact ⟨(by subst hn1; exact H26), trivial⟩) (Nat.lt_succ_self _)
  · have H30 := cnd_f hb H16; clear H16
    refine c_exit ?_
    refine c_seq ?_
    refine c_region ?_
    refine l_val rfl rfl rfl (r_move (v := str x0_2) rfl) ?_
    refine l_val rfl rfl rfl (r_assign (v := str x0_2) rfl) ?_
    refine l_nil ?_
    refine c_ret ?_
    obtain rfl := Option.some.inj H30
    refine ret1 (v := str x0_2) rfl rfl (fin rfl)
theorem k67 {a0 : (List UInt8)} {a1 : (List UInt8)} {r : (List UInt8)} (H : strings_Trim a0 a1 = some r) : Ret Tryd.prog 67 [str a0, str a1] (str r) := by
  refine enterRet (n := 43) Tryd.func67 rfl rfl rfl (fun wd => ?_)
  refine c_seq ?_
  refine c_region ?_
  refine l_val rfl rfl rfl (r_assign (v := str []) rfl) ?_
  refine l_nil ?_
  refine c_seq ?_
  refine c_seq ?_
  refine c_region ?_
  refine l_val rfl rfl rfl (r_move (v := str a0) rfl) ?_
  refine l_val rfl rfl rfl (r_eqlT rfl rfl) ?_
  refine l_val rfl rfl rfl (r_move (v := .bool (decide (a0 = []))) rfl) ?_
  refine split (fun hb => ?_) (fun hb => ?_)
  · have H22 := cnd_t hb H; clear H
    refine l_passed rfl rfl rfl ?_
    refine l_passed rfl rfl rfl ?_
    refine l_val rfl rfl rfl (r_pickT (v := .bool true) rfl rfl) ?_
    refine l_nil ?_
    refine c_true rfl ?_
    refine c_seq ?_
    refine c_region ?_
    refine l_val rfl rfl rfl (r_move (v := str a0) rfl) ?_
    refine l_val rfl rfl rfl (r_assign (v := str a0) rfl) ?_
    refine l_nil ?_
    refine c_ret ?_
    obtain rfl := Option.some.inj H22
    refine ret1 (v := str a0) rfl rfl (fin rfl)
  · have H23 := cnd_f hb H; clear H
    refine l_val rfl rfl rfl (r_move (v := str a1) rfl) ?_
    refine l_val rfl rfl rfl (r_eqlT rfl rfl) ?_
    refine l_val rfl rfl rfl (r_pickF (v := .bool (decide (a1 = []))) rfl rfl) ?_
    refine l_nil ?_
    refine c_if (b := (decide (a1 = []))) rfl (fun hb => ?_) (fun hb => ?_)
    · have H24 := cnd_t hb H23; clear H23
      refine c_seq ?_
      refine c_region ?_
      refine l_val rfl rfl rfl (r_move (v := str a0) rfl) ?_
      refine l_val rfl rfl rfl (r_assign (v := str a0) rfl) ?_
      refine l_nil ?_
      refine c_ret ?_
      obtain rfl := Option.some.inj H24
      refine ret1 (v := str a0) rfl rfl (fin rfl)
    · have H25 := cnd_f hb H23; clear H23
      refine c_skip ?_
      refine c_meet (r := r) (σ := Unit) (τ := Unit) (fun s => strings_Trim_j1 a0 a1) (fun s t => [(0, str a0), (1, str a1)]) (fun s t => []) (fun s t => True) ?_ ?_
      · refine c_seq ?_
        refine c_region ?_
        refine l_val rfl rfl rfl (r_move (v := str a1) rfl) ?_
        refine l_val rfl rfl rfl (r_lenT Tryd.underlying9 rfl) ?_
        refine l_val rfl rfl rfl (r_eql rfl rfl) ?_
        refine l_val rfl rfl rfl (r_move (v := .bool (decide ((a1.length : Int) = 1))) rfl) ?_
        refine split (fun hb => ?_) (fun hb => ?_)
        · have H34 := cnd_t hb H25; clear H25
          refine l_val rfl rfl rfl (r_move (v := str a1) rfl) ?_
          obtain ⟨t19, h_t19, H35⟩ := bnd_some H34; clear H34
          refine l_val rfl rfl rfl (r_octG Tryd.underlying9 rfl rfl h_t19) ?_
          refine l_val rfl rfl rfl (r_lss rfl rfl) ?_
          refine l_val rfl rfl rfl (r_pickT (v := .bool (decide (t19 < 128))) rfl rfl) ?_
          refine l_nil ?_
          refine c_if (b := (decide (t19 < 128))) rfl (fun hb => ?_) (fun hb => ?_)
          · have H36 := cnd_t hb H35; clear H35
            refine c_seq ?_
            exact c_regionD (Kd.p :: Kd.p :: Kd.p :: Kd.d [] _ :: Kd.p :: Kd.p :: Kd.d [] _ :: Kd.p :: []) 0 mixed (by
              refine d_val rfl rfl (r_move (v := str a0) rfl) ?_
              refine d_val rfl rfl (r_move (v := str a1) rfl) ?_
              have h_t24 := bnd_val H36
              have H37 := bnd_rest H36
              refine d_val rfl rfl (r_octG Tryd.underlying9 rfl rfl h_t24) ?_
              have h_t25 := bnd_val H37
              have H38 := bnd_rest H37
              refine d_call (k88 h_t25) Tryd.call88 rfl rfl ?_
              refine d_val rfl rfl (r_move (v := str a1) rfl) ?_
              have h_t27 := bnd_val H38
              have H39 := bnd_rest H38
              refine d_val rfl rfl (r_octG Tryd.underlying9 rfl rfl h_t27) ?_
              have h_t28 := bnd_val H39
              have H40 := bnd_rest H39
              refine d_call (k87 h_t28) Tryd.call87 rfl rfl ?_
              refine d_val rfl rfl (r_assign (v := str (val (strings_trimLeftByte (val (strings_trimRightByte a0 (val (gOct a1 0)))) (val (gOct a1 0))))) rfl) ?_
              refine d_nil ?_
              refine c_ret ?_
              obtain rfl := Option.some.inj H40
              refine ret1 (v := str (val (strings_trimLeftByte (val (strings_trimRightByte a0 (val (gOct a1 0)))) (val (gOct a1 0))))) rfl rfl (fin rfl)
              ) (by kernel_rfl)
          · have H41 := cnd_f hb H35; clear H35
            refine c_skip ?_
            refine c_close () () 0 [] (by exact ⟨rfl, rfl, trivial⟩) (by decide) rfl (by exact ⟨H41, trivial⟩) (Nat.lt_succ_self _)
        · have H42 := cnd_f hb H25; clear H25
          refine l_passed rfl rfl rfl ?_
          refine l_passed rfl rfl rfl ?_
          refine l_passed rfl rfl rfl ?_
          refine l_val rfl rfl rfl (r_pickF (v := .bool false) rfl rfl) ?_
          refine l_nil ?_
          refine c_false rfl ?_
          refine c_skip ?_
          refine c_close () () 0 [] (by exact ⟨rfl, rfl, trivial⟩) (by decide) rfl (by exact ⟨H42, trivial⟩) (Nat.lt_succ_self _)
      · rintro _ _ gg H26 _
        replace H26 : strings_Trim_j1 a0 a1 = some r := H26
        refine c_tidyF [(0, str a0), (1, str a1)] [] rfl rfl ?_
        refine c_seq ?_
        refine c_seq ?_
        refine c_region ?_
        refine l_val rfl rfl rfl (r_move (v := str a1) rfl) ?_
        obtain ⟨t31, h_t31, H27⟩ := bnd_some H26; clear H26
        refine l_call (k89 h_t31) Tryd.call89 rfl rfl rfl ?_
        refine l_val rfl rfl rfl (r_move (v := .tuple #[.agg (List.toArray (arrC 256 (fun j_ => [.bool (t31.1 j_)]))), .bool t31.2]) rfl) ?_
        refine l_val rfl rfl rfl (r_extract (v := .agg (List.toArray (arrC 256 (fun j_ => [.bool (t31.1 j_)])))) rfl rfl) ?_
        refine l_val rfl rfl rfl (r_extract (v := .bool t31.2) rfl rfl) ?_
        refine l_alloc (cs := (arrC 256 (fun j_ => [.bool ((fun _ => false) j_)]))) Tryd.zeroValue133 (by kernel_rfl) rfl rfl (fun b1 => ?_)
        refine l_store (i := 0) (vs := (arrC 256 (fun j_ => [.bool (t31.1 j_)]))) (cs' := (arrC 256 (fun j_ => [.bool (t31.1 j_)]))) Tryd.sizeOf133 rfl rfl rfl rfl (arrC_len (fun _ => rfl)) rfl (arrC_one (fun _ => rfl)) rfl (wr_whole ((arrC_len (fun _ => rfl)).trans (arrC_len (fun _ => rfl)).symm)) ?_
        refine l_val rfl rfl rfl (r_assign (v := .bool t31.2) rfl) ?_
        refine l_nil ?_
        refine c_seq ?_
        refine c_region ?_
        refine l_val rfl rfl rfl (r_move (v := .bool t31.2) rfl) ?_
        refine l_nil ?_
        refine c_if (b := t31.2) rfl (fun hb => ?_) (fun hb => ?_)
        · have H28 := cnd_t hb H27; clear H27
          refine c_seq ?_
          refine c_region ?_
          refine l_val rfl rfl rfl (r_move (v := str a0) rfl) ?_
          obtain ⟨t36, h_t36, H29⟩ := bnd_some H28; clear H28
          refine l_turn (turns_callB (i := 0) (rds := []) (G := fun x : Unit => str t36.1) (C := fun x : Unit => cellsC b1 (arrC 256 (fun j_ => [.bool (t36.2 j_)])) 133) rfl (fun w L' S hF hS hi hp hlt ho hA => k91 hp hlt (know_but w S)  h_t36) Tryd.call91 rfl) rfl rfl rfl (fun _ => ?_)
          obtain ⟨t37, h_t37, H30⟩ := bnd_some H29; clear H29
          refine l_turn (turns_callB (i := 0) (rds := []) (G := fun x : Unit => str t37.1) (C := fun x : Unit => cellsC b1 (arrC 256 (fun j_ => [.bool (t37.2 j_)])) 133) rfl (fun w L' S hF hS hi hp hlt ho hA => k90 hp hlt (know_but w S)  h_t37) Tryd.call90 rfl) rfl rfl rfl (fun _ => ?_)
          refine l_val rfl rfl rfl (r_assign (v := str t37.1) rfl) ?_
          refine l_nil ?_
          refine c_ret ?_
          obtain rfl := Option.some.inj H30
          refine ret1 (v := str t37.1) rfl rfl (fin rfl)
        · have H31 := cnd_f hb H27; clear H27
          refine c_skip ?_
          refine c_seq ?_
          refine c_region ?_
          refine l_val rfl rfl rfl (r_move (v := str a0) rfl) ?_
          refine l_val rfl rfl rfl (r_move (v := str a1) rfl) ?_
          obtain ⟨t40, h_t40, H32⟩ := bnd_some H31; clear H31
          refine l_call (k93 h_t40) Tryd.call93 rfl rfl rfl ?_
          refine l_val rfl rfl rfl (r_move (v := str a1) rfl) ?_
          obtain ⟨t42, h_t42, H33⟩ := bnd_some H32; clear H32
          refine l_call (k92 h_t42) Tryd.call92 rfl rfl rfl ?_
          refine l_val rfl rfl rfl (r_assign (v := str t42) rfl) ?_
          refine l_nil ?_
          refine c_ret ?_
          obtain rfl := Option.some.inj H33
          refine ret1 (v := str t42) rfl rfl (fin rfl)
theorem k83 {a0 : (List UInt8)} {r : Bool} (H : sync_isFile a0 = some r) : Ret Tryd.prog 83 [str a0] (.bool r) := by
  refine enterRet (n := 11) Tryd.func83 rfl rfl rfl (fun wd => ?_)
  refine c_seq ?_
  refine c_region ?_
  refine l_val rfl rfl rfl (r_assign (v := .bool false) rfl) ?_
  refine l_nil ?_
  refine c_seq ?_
  refine c_region ?_
  refine l_val rfl rfl rfl (r_move (v := str a0) rfl) ?_
  refine l_val rfl rfl rfl (r_lenT Tryd.underlying9 rfl) ?_
  refine l_val rfl rfl rfl (r_eql rfl rfl) ?_
  refine l_val rfl rfl rfl (r_move (v := .bool (decide ((a0.length : Int) = 16))) rfl) ?_
  refine split (fun hb => ?_) (fun hb => ?_)
  · have H4 := cnd_t hb H; clear H
    refine l_val rfl rfl rfl (r_move (v := str a0) rfl) ?_
    obtain ⟨t8, h_t8, H5⟩ := bnd_some H4; clear H4
    refine l_call (k67 h_t8) Tryd.call67 rfl rfl rfl ?_
    refine l_val rfl rfl rfl (r_eqlT rfl rfl) ?_
    refine l_val rfl rfl rfl (r_pickT (v := .bool (decide (t8 = []))) rfl rfl) ?_
    refine l_val rfl rfl rfl (r_assign (v := .bool (decide (t8 = []))) rfl) ?_
    refine l_nil ?_
    refine c_ret ?_
    obtain rfl := Option.some.inj H5
    refine ret1 (v := .bool (decide (t8 = []))) rfl rfl (fin rfl)
  · have H6 := cnd_f hb H; clear H
    refine l_passed rfl rfl rfl ?_
    refine l_passed rfl rfl rfl ?_
    refine l_passed rfl rfl rfl ?_
    refine l_val rfl rfl rfl (r_pickF (v := .bool false) rfl rfl) ?_
    refine l_val rfl rfl rfl (r_assign (v := .bool false) rfl) ?_
    refine l_nil ?_
    refine c_ret ?_
    obtain rfl := Option.some.inj H6
    refine ret1 (v := .bool false) rfl rfl (fin rfl)
theorem k129 {a0 : (List Int)} {v0 : Value} {a1 : (Int → Option (Bool))} {v1 : Value} {r : Int} {w : World} {h : Heap} (hw : Know h w noS) (f0 : FrS h 1 v0 (a0.map e_u8)) (f1 : FnH Tryd.prog h v1 (fnR_func_uint8_bool a1)) (H : slices_IndexFunc_byte a0 a1 = some r) : Does Tryd.prog 129 (List.toArray [v0, v1]) w (fun v w' => v = (.int .i64 r) ∧ Grow w w') := by
  refine enter (n := 19) Tryd.func129 rfl rfl rfl noS [] (Sat.nil _ _) ?_
  refine c_seq ?_
  refine c_region ?_
  refine l_val rfl rfl rfl (r_assign (v := .int .i64 0) rfl) ?_
  refine l_nil ?_
  refine c_seq ?_
  refine c_seq ?_
  refine c_region ?_
  refine l_val rfl rfl rfl (r_move (v := v0) rfl) ?_
  refine l_val rfl rfl rfl (r_lenF Tryd.underlying77 rfl f0 rfl) ?_
  refine l_val rfl rfl rfl (r_move (v := .int .i64 0) rfl) ?_
  refine l_nil ?_
  refine c_block ?_
  refine c_fix (σ := Int) (τ := Unit) (fun next1 s => slices_IndexFunc_byte_l1 a0 a1 next1 s) (fun s t => [(0, v0), (1, v1), (7, .int .i64 (a0.length : Int)), (8, .int .i64 s)]) (fun s t => []) (fun s t => True) 0 () [] H (by exact trivial) (by exact ⟨rfl, rfl, rfl, rfl, trivial⟩) (by decide) rfl ?_
  rintro x8_2 _ m1 gg H9 _
  clear H
  replace H9 : slices_IndexFunc_byte_l1 a0 a1 (it (fun next1 s => slices_IndexFunc_byte_l1 a0 a1 next1 s) m1) x8_2 = some r := H9
  generalize hn1 : it (fun next1 s => slices_IndexFunc_byte_l1 a0 a1 next1 s) m1 = next1 at H9
  refine c_tidyF [(0, v0), (1, v1), (7, .int .i64 (a0.length : Int)), (8, .int .i64 x8_2)] [] rfl rfl ?_
  refine c_seq ?_
  refine c_region ?_
  refine l_val rfl rfl rfl (r_lss rfl rfl) ?_
  refine l_nil ?_
  refine c_seq ?_
  refine c_if (b := (decide (x8_2 < (a0.length : Int)))) rfl (fun hb => ?_) (fun hb => ?_)
  · have H10 := cnd_t hb H9; clear H9
    refine c_skip ?_
    refine c_seq ?_
    refine c_block ?_
    refine c_seq ?_
    refine c_region ?_
    refine l_val rfl rfl rfl (r_move (v := .int .i64 x8_2) rfl) ?_
    refine l_val rfl rfl rfl (r_assign (v := .int .i64 x8_2) rfl) ?_
    refine l_nil ?_
    refine c_seq ?_
    refine c_region ?_
    refine l_val rfl rfl rfl (r_move (v := v1) rfl) ?_
    refine l_val rfl rfl rfl (r_move (v := v0) rfl) ?_
    refine l_val rfl rfl rfl (r_move (v := .int .i64 x8_2) rfl) ?_
    obtain ⟨t14, h_t14, H11⟩ := bnd_some H10; clear H10
    refine l_val rfl rfl rfl (r_indexF Tryd.underlying77 Tryd.sizeOf5 rfl rfl f0 h_t14) ?_
    refine l_read (fun w hF hS => run_loadG1 (f := e_u8) (i := x8_2) (sz := 1) (j := 0) (v := .int .u8 t14) Tryd.isAgg5 rfl rfl (f0.row (hw.now hF)) h_t14 rfl) rfl rfl rfl ?_
    obtain ⟨t16, h_t16, H12⟩ := bnd_some H11; clear H11
    refine l_callV (R := fnR_func_uint8_bool a1) (r := .bool t16) (v := v1) (fun w hF hS => ⟨(f1.mono (hw.now hF)), ⟨t14, _, rfl, h_t16, rfl⟩⟩) rfl rfl rfl rfl ?_
    refine l_nil ?_
    refine c_if (b := t16) rfl (fun hb => ?_) (fun hb => ?_)
    · have H13 := cnd_t hb H12; clear H12
      refine c_seq ?_
      refine c_region ?_
      refine l_val rfl rfl rfl (r_move (v := .int .i64 x8_2) rfl) ?_
      refine l_val rfl rfl rfl (r_assign (v := .int .i64 x8_2) rfl) ?_
      refine l_nil ?_
      refine c_ret ?_
      obtain rfl := Option.some.inj H13
      refine ret1 (v := .int .i64 x8_2) rfl rfl (fin rfl)
    · have H14 := cnd_f hb H12; clear H12
      refine c_skip ?_
      refine c_region ?_
      obtain ⟨t18, h_t18, H15⟩ := bnd_some H14; clear H14
      refine l_val rfl rfl rfl (r_addG rfl rfl h_t18) ?_
      refine l_val rfl rfl rfl (r_move (v := .int .i64 t18) rfl) ?_
      refine l_nil ?_
      refine c_close t18 () m1 [] (by exact ⟨rfl, rfl, rfl, rfl, trivial⟩) (by decide) rfl (by exact ⟨(by subst hn1; exact H15), trivial⟩) (Nat.lt_succ_self _)
  · have H16 := cnd_f hb H9; clear H9
    refine c_exit ?_
    refine c_seq ?_
    refine c_region ?_
    refine l_val rfl rfl rfl (r_assign (v := .int .i64 (-1)) rfl) ?_
    refine l_nil ?_
    refine c_ret ?_
    obtain rfl := Option.some.inj H16
    refine ret1 (v := .int .i64 (-1)) rfl rfl (fin rfl)
theorem k107 {a0 : (List Int)} {v0 : Value} {a1 : (Int → Option (Bool))} {v1 : Value} {r : Bool} {w : World} {h : Heap} (hw : Know h w noS) (f0 : FrS h 1 v0 (a0.map e_u8)) (f1 : FnH Tryd.prog h v1 (fnR_func_uint8_bool a1)) (H : slices_ContainsFunc_byte a0 a1 = some r) : Does Tryd.prog 107 (List.toArray [v0, v1]) w (fun v w' => v = (.bool r) ∧ Grow w w') := by
  refine enter (n := 9) Tryd.func107 rfl rfl rfl noS [] (Sat.nil _ _) ?_
  refine c_seq ?_
  refine c_region ?_
  refine l_val rfl rfl rfl (r_assign (v := .bool false) rfl) ?_
  refine l_nil ?_
  refine c_seq ?_
  refine c_region ?_
  refine l_val rfl rfl rfl (r_move (v := v0) rfl) ?_
  refine l_val rfl rfl rfl (r_move (v := v1) rfl) ?_
  obtain ⟨t7, h_t7, H2⟩ := bnd_some H; clear H
  refine l_callG (fun w hF hS => k129 (know_all w) (f0.mono (hw.now hF)) (f1.mono (hw.now hF)) h_t7) Tryd.call129 rfl rfl rfl ?_
  refine l_val rfl rfl rfl (r_geq rfl rfl) ?_
  refine l_val rfl rfl rfl (r_assign (v := .bool (decide (0 ≤ t7))) rfl) ?_
  refine l_nil ?_
  refine c_ret ?_
  obtain rfl := Option.some.inj H2
  refine ret1 (v := .bool (decide (0 ≤ t7))) rfl rfl (fin rfl)
theorem k108 {a0 : Int} {r : Bool} (H : sync_checkCaption_1 a0 = some r) : Ret Tryd.prog 108 [.int .u8 a0] (.bool r) := by
  refine enterRet (n := 5) Tryd.func108 rfl rfl rfl (fun wd => ?_)
  refine c_seq ?_
  refine c_region ?_
  refine l_val rfl rfl rfl (r_assign (v := .bool false) rfl) ?_
  refine l_nil ?_
  refine c_seq ?_
  refine c_region ?_
  refine l_val rfl rfl rfl (r_move (v := .int .u8 a0) rfl) ?_
  refine l_val rfl rfl rfl (r_lss rfl rfl) ?_
  refine l_val rfl rfl rfl (r_assign (v := .bool (decide (a0 < 32))) rfl) ?_
  refine l_nil ?_
  refine c_ret ?_
  obtain rfl := Option.some.inj H
  refine ret1 (v := .bool (decide (a0 < 32))) rfl rfl (fin rfl)
theorem k84 {a0 : (List UInt8)} {r : Int} (H : sync_checkCaption a0 = some r) : Ret Tryd.prog 84 [str a0] (.int .i64 r) := by
  refine enterRet (n := 11) Tryd.func84 rfl rfl rfl (fun wd => ?_)
  refine c_seq ?_
  refine c_region ?_
  refine l_val rfl rfl rfl (r_assign (v := .int .i64 0) rfl) ?_
  refine l_nil ?_
  refine c_seq ?_
  refine c_block ?_
  refine c_seq ?_
  refine c_region ?_
  refine l_val rfl rfl rfl (r_move (v := str a0) rfl) ?_
  refine l_val rfl rfl rfl (r_lenT Tryd.underlying9 rfl) ?_
  refine l_val rfl rfl rfl (r_gtr rfl rfl) ?_
  refine l_val rfl rfl rfl (r_assign (v := .bool (decide (200 < (a0.length : Int)))) rfl) ?_
  refine l_nil ?_
  refine c_if (b := (decide (200 < (a0.length : Int)))) rfl (fun hb => ?_) (fun hb => ?_)
  · have H7 := cnd_t hb H; clear H
    refine c_seq ?_
    refine c_region ?_
    refine l_val rfl rfl rfl (r_assign (v := .int .i64 4) rfl) ?_
    refine l_nil ?_
    refine c_ret ?_
    obtain rfl := Option.some.inj H7
    refine ret1 (v := .int .i64 4) rfl rfl (fin rfl)
  · have H8 := cnd_f hb H; clear H
    refine c_seq ?_
    refine c_region ?_
    refine l_val rfl rfl rfl (r_move (v := str a0) rfl) ?_
    obtain ⟨t9, h_t9, H9⟩ := bnd_some H8; clear H8
    refine l_make (rds := []) (makes_byt (f := e_u8) (s := a0) Tryd.underlying9 Tryd.underlying77 Tryd.underlying5 rfl (fun _ => rfl) h_t9) rfl rfl rfl (fun p => ?_)
    obtain ⟨t10, h_t10, H10⟩ := bnd_some H9; clear H9
    refine l_callG (fun w hF hS => k107 (know_all w) (frs_mk (i := 0) hS rfl) (FnH.mk ⟨108, #[], #[], rfl, Tryd.call108, fun args2 post2 w2 hk2 hR2 => by obtain ⟨a0_, r_, rfl, H_, rfl⟩ := hR2; exact k108 H_ w2⟩) h_t10) Tryd.call107 rfl rfl rfl ?_
    refine l_val rfl rfl rfl (r_assign (v := .bool t10) rfl) ?_
    refine l_nil ?_
    refine c_if (b := t10) rfl (fun hb => ?_) (fun hb => ?_)
    · have H11 := cnd_t hb H10; clear H10
      refine c_seq ?_
      refine c_region ?_
      refine l_val rfl rfl rfl (r_assign (v := .int .i64 9) rfl) ?_
      refine l_nil ?_
      refine c_ret ?_
      obtain rfl := Option.some.inj H11
      refine ret1 (v := .int .i64 9) rfl rfl (fin rfl)
    · have H12 := cnd_f hb H10; clear H10
      refine c_skip ?_
      refine c_seq ?_
      refine c_region ?_
      refine l_val rfl rfl rfl (r_assign (v := .int .i64 0) rfl) ?_
      refine l_nil ?_
      refine c_ret ?_
      obtain rfl := Option.some.inj H12
      refine ret1 (v := .int .i64 0) rfl rfl (fin rfl)
theorem k85 {a0 : (List UInt8)} {r : Bool} (H : where_IsName a0 = some r) : Ret Tryd.prog 85 [str a0] (.bool r) := by
  refine enterRet (n := 50) Tryd.func85 rfl rfl rfl (fun wd => ?_)
  refine c_seq ?_
  refine c_region ?_
  refine l_val rfl rfl rfl (r_assign (v := .bool false) rfl) ?_
  refine l_nil ?_
  refine c_seq ?_
  refine c_seq ?_
  refine c_region ?_
  refine l_val rfl rfl rfl (r_move (v := str a0) rfl) ?_
  refine l_val rfl rfl rfl (r_eqlT rfl rfl) ?_
  refine l_val rfl rfl rfl (r_move (v := .bool (decide (a0 = []))) rfl) ?_
  refine split (fun hb => ?_) (fun hb => ?_)
  · have H37 := cnd_t hb H; clear H
    refine l_passed rfl rfl rfl ?_
    refine l_passed rfl rfl rfl ?_
    refine l_passed rfl rfl rfl ?_
    refine l_val rfl rfl rfl (r_pickT (v := .bool true) rfl rfl) ?_
    refine l_val rfl rfl rfl (r_move (v := .bool true) rfl) ?_
    refine l_passed rfl rfl rfl ?_
    refine l_passed rfl rfl rfl ?_
    refine l_passed rfl rfl rfl ?_
    refine l_val rfl rfl rfl (r_pickT (v := .bool true) rfl rfl) ?_
    refine l_val rfl rfl rfl (r_move (v := .bool true) rfl) ?_
    refine l_passed rfl rfl rfl ?_
    refine l_passed rfl rfl rfl ?_
    refine l_passed rfl rfl rfl ?_
    refine l_val rfl rfl rfl (r_pickT (v := .bool true) rfl rfl) ?_
    refine l_nil ?_
    refine c_true rfl ?_
    refine c_seq ?_
    refine c_region ?_
    refine l_val rfl rfl rfl (r_assign (v := .bool false) rfl) ?_
    refine l_nil ?_
    refine c_ret ?_
    obtain rfl := Option.some.inj H37
    refine ret1 (v := .bool false) rfl rfl (fin rfl)
  · have H38 := cnd_f hb H; clear H
    refine l_val rfl rfl rfl (r_move (v := str a0) rfl) ?_
    refine l_val rfl rfl rfl (r_lenT Tryd.underlying9 rfl) ?_
    refine l_val rfl rfl rfl (r_gtr rfl rfl) ?_
    refine l_val rfl rfl rfl (r_pickF (v := .bool (decide (40 < (a0.length : Int)))) rfl rfl) ?_
    refine l_val rfl rfl rfl (r_move (v := .bool (decide (40 < (a0.length : Int)))) rfl) ?_
    refine split (fun hb => ?_) (fun hb => ?_)
    · have H39 := cnd_t hb H38; clear H38
      refine l_passed rfl rfl rfl ?_
      refine l_passed rfl rfl rfl ?_
      refine l_passed rfl rfl rfl ?_
      refine l_val rfl rfl rfl (r_pickT (v := .bool true) rfl rfl) ?_
      refine l_val rfl rfl rfl (r_move (v := .bool true) rfl) ?_
      refine l_passed rfl rfl rfl ?_
      refine l_passed rfl rfl rfl ?_
      refine l_passed rfl rfl rfl ?_
      refine l_val rfl rfl rfl (r_pickT (v := .bool true) rfl rfl) ?_
      refine l_nil ?_
      refine c_true rfl ?_
      refine c_seq ?_
      refine c_region ?_
      refine l_val rfl rfl rfl (r_assign (v := .bool false) rfl) ?_
      refine l_nil ?_
      refine c_ret ?_
      obtain rfl := Option.some.inj H39
      refine ret1 (v := .bool false) rfl rfl (fin rfl)
    · have H40 := cnd_f hb H38; clear H38
      refine l_val rfl rfl rfl (r_move (v := str a0) rfl) ?_
      obtain ⟨t14, h_t14, H41⟩ := bnd_some H40; clear H40
      refine l_val rfl rfl rfl (r_octG Tryd.underlying9 rfl rfl h_t14) ?_
      refine l_val rfl rfl rfl (r_lss rfl rfl) ?_
      refine l_val rfl rfl rfl (r_pickF (v := .bool (decide (t14 < 97))) rfl rfl) ?_
      refine l_val rfl rfl rfl (r_move (v := .bool (decide (t14 < 97))) rfl) ?_
      refine split (fun hb => ?_) (fun hb => ?_)
      · have H42 := cnd_t hb H41; clear H41
        refine l_passed rfl rfl rfl ?_
        refine l_passed rfl rfl rfl ?_
        refine l_passed rfl rfl rfl ?_
        refine l_val rfl rfl rfl (r_pickT (v := .bool true) rfl rfl) ?_
        refine l_nil ?_
        refine c_true rfl ?_
        refine c_seq ?_
        refine c_region ?_
        refine l_val rfl rfl rfl (r_assign (v := .bool false) rfl) ?_
        refine l_nil ?_
        refine c_ret ?_
        obtain rfl := Option.some.inj H42
        refine ret1 (v := .bool false) rfl rfl (fin rfl)
      · have H43 := cnd_f hb H41; clear H41
        refine l_val rfl rfl rfl (r_move (v := str a0) rfl) ?_
        obtain ⟨t19, h_t19, H44⟩ := bnd_some H43; clear H43
        refine l_val rfl rfl rfl (r_octG Tryd.underlying9 rfl rfl h_t19) ?_
        refine l_val rfl rfl rfl (r_gtr rfl rfl) ?_
        refine l_val rfl rfl rfl (r_pickF (v := .bool (decide (122 < t19))) rfl rfl) ?_
        refine l_nil ?_
        refine c_if (b := (decide (122 < t19))) rfl (fun hb => ?_) (fun hb => ?_)
        · have H45 := cnd_t hb H44; clear H44
          refine c_seq ?_
          refine c_region ?_
          refine l_val rfl rfl rfl (r_assign (v := .bool false) rfl) ?_
          refine l_nil ?_
          refine c_ret ?_
          obtain rfl := Option.some.inj H45
          refine ret1 (v := .bool false) rfl rfl (fin rfl)
        · have H46 := cnd_f hb H44; clear H44
          refine c_skip ?_
          refine c_seq ?_
          refine c_seq ?_
          refine c_region ?_
          refine l_val rfl rfl rfl (r_move (v := str a0) rfl) ?_
          refine l_val rfl rfl rfl (r_lenT Tryd.underlying9 rfl) ?_
          refine l_val rfl rfl rfl (r_move (v := .int .i64 0) rfl) ?_
          refine l_nil ?_
          refine c_block ?_
          refine c_fix (σ := Int) (τ := Unit) (fun next1 s => where_IsName_l1 a0 next1 s) (fun s t => [(0, str a0), (23, .int .i64 (a0.length : Int)), (24, .int .i64 s)]) (fun s t => []) (fun s t => True) 0 () [] H46 (by exact trivial) (by exact ⟨rfl, rfl, rfl, trivial⟩) (by decide) rfl ?_
          rintro x24_2 _ m1 gg H47 _
          clear H46
          replace H47 : where_IsName_l1 a0 (it (fun next1 s => where_IsName_l1 a0 next1 s) m1) x24_2 = some r := H47
          generalize hn1 : it (fun next1 s => where_IsName_l1 a0 next1 s) m1 = next1 at H47
          refine c_tidyF [(0, str a0), (23, .int .i64 (a0.length : Int)), (24, .int .i64 x24_2)] [] rfl rfl ?_
          refine c_seq ?_
          refine c_region ?_
          refine l_val rfl rfl rfl (r_lss rfl rfl) ?_
          refine l_nil ?_
          refine c_seq ?_
          refine c_if (b := (decide (x24_2 < (a0.length : Int)))) rfl (fun hb => ?_) (fun hb => ?_)
          · have H48 := cnd_t hb H47; clear H47
            refine c_skip ?_
            refine c_meet (r := r) (σ := Unit) (τ := Unit) (fun s => where_IsName_j2 x24_2 next1) (fun s t => [(0, str a0), (23, .int .i64 (a0.length : Int)), (24, .int .i64 x24_2)]) (fun s t => []) (fun s t => True) ?_ ?_
            · refine c_block ?_
              refine c_seq ?_
              refine c_region ?_
              refine l_val rfl rfl rfl (r_move (v := .int .i64 x24_2) rfl) ?_
              refine l_val rfl rfl rfl (r_assign (v := .int .i64 x24_2) rfl) ?_
              refine l_nil ?_
              refine c_seq ?_
              refine c_region ?_
              refine l_val rfl rfl rfl (r_move (v := str a0) rfl) ?_
              refine l_val rfl rfl rfl (r_move (v := .int .i64 x24_2) rfl) ?_
              obtain ⟨t29, h_t29, H51⟩ := bnd_some H48; clear H48
              refine l_val rfl rfl rfl (r_octG Tryd.underlying9 rfl rfl h_t29) ?_
              refine l_val rfl rfl rfl (r_assign (v := .int .u8 t29) rfl) ?_
              refine l_nil ?_
              refine c_seq ?_
              refine c_region ?_
              refine l_val rfl rfl rfl (r_move (v := .int .u8 t29) rfl) ?_
              refine l_val rfl rfl rfl (r_geq rfl rfl) ?_
              refine l_val rfl rfl rfl (r_move (v := .bool (decide (97 ≤ t29))) rfl) ?_
              refine split (fun hb => ?_) (fun hb => ?_)
              · have H52 := cnd_t hb H51; clear H51
                refine l_val rfl rfl rfl (r_move (v := .int .u8 t29) rfl) ?_
                refine l_val rfl rfl rfl (r_leq rfl rfl) ?_
                refine l_val rfl rfl rfl (r_pickT (v := .bool (decide (t29 ≤ 122))) rfl rfl) ?_
                refine l_val rfl rfl rfl (r_move (v := .bool (decide (t29 ≤ 122))) rfl) ?_
                refine split (fun hb => ?_) (fun hb => ?_)
                · have H53 := cnd_t hb H52; clear H52
                  refine l_passed rfl rfl rfl ?_
                  refine l_passed rfl rfl rfl ?_
                  refine l_passed rfl rfl rfl ?_
                  refine l_passed rfl rfl rfl ?_
                  refine l_passed rfl rfl rfl ?_
                  refine l_passed rfl rfl rfl ?_
                  refine l_val rfl rfl rfl (r_pickT (v := .bool true) rfl rfl) ?_
                  refine l_val rfl rfl rfl (r_move (v := .bool true) rfl) ?_
                  refine l_passed rfl rfl rfl ?_
                  refine l_passed rfl rfl rfl ?_
                  refine l_val rfl rfl rfl (r_pickT (v := .bool true) rfl rfl) ?_
                  refine l_val rfl rfl rfl (r_notT rfl) ?_
                  refine l_nil ?_
                  refine c_false rfl ?_
                  refine c_skip ?_
                  refine c_close () () 0 [] (by exact ⟨rfl, rfl, rfl, trivial⟩) (by decide) rfl (by exact ⟨H53, trivial⟩) (Nat.lt_succ_self _)
                · have H54 := cnd_f hb H52; clear H52
                  refine l_val rfl rfl rfl (r_move (v := .int .u8 t29) rfl) ?_
                  refine l_val rfl rfl rfl (r_geq rfl rfl) ?_
                  refine l_val rfl rfl rfl (r_move (v := .bool (decide (48 ≤ t29))) rfl) ?_
                  refine split (fun hb => ?_) (fun hb => ?_)
                  · have H55 := cnd_t hb H54; clear H54
                    refine l_val rfl rfl rfl (r_move (v := .int .u8 t29) rfl) ?_
                    refine l_val rfl rfl rfl (r_leq rfl rfl) ?_
                    refine l_val rfl rfl rfl (r_pickT (v := .bool (decide (t29 ≤ 57))) rfl rfl) ?_
                    refine l_val rfl rfl rfl (r_pickF (v := .bool (decide (t29 ≤ 57))) rfl rfl) ?_
                    refine l_val rfl rfl rfl (r_move (v := .bool (decide (t29 ≤ 57))) rfl) ?_
                    refine split (fun hb => ?_) (fun hb => ?_)
                    · have H56 := cnd_t hb H55; clear H55
                      refine l_passed rfl rfl rfl ?_
                      refine l_passed rfl rfl rfl ?_
                      refine l_val rfl rfl rfl (r_pickT (v := .bool true) rfl rfl) ?_
                      refine l_val rfl rfl rfl (r_notT rfl) ?_
                      refine l_nil ?_
                      refine c_false rfl ?_
                      refine c_skip ?_
                      refine c_close () () 0 [] (by exact ⟨rfl, rfl, rfl, trivial⟩) (by decide) rfl (by exact ⟨H56, trivial⟩) (Nat.lt_succ_self _)
                    · have H57 := cnd_f hb H55; clear H55
                      refine l_val rfl rfl rfl (r_move (v := .int .u8 t29) rfl) ?_
                      refine l_val rfl rfl rfl (r_eql rfl rfl) ?_
                      refine l_val rfl rfl rfl (r_pickF (v := .bool (decide (t29 = 45))) rfl rfl) ?_
                      refine l_val rfl rfl rfl (r_not rfl) ?_
                      refine l_nil ?_
                      refine c_if (b := (!(decide (t29 = 45)))) rfl (fun hb => ?_) (fun hb => ?_)
                      · have H58 := cnd_t hb H57; clear H57
                        refine c_seq ?_
                        refine c_region ?_
                        refine l_val rfl rfl rfl (r_assign (v := .bool false) rfl) ?_
                        refine l_nil ?_
                        refine c_ret ?_
                        obtain rfl := Option.some.inj H58
                        refine ret1 (v := .bool false) rfl rfl (fin rfl)
                      · have H59 := cnd_f hb H57; clear H57
                        refine c_skip ?_
                        refine c_close () () 0 [] (by exact ⟨rfl, rfl, rfl, trivial⟩) (by decide) rfl (by exact ⟨H59, trivial⟩) (Nat.lt_succ_self _)
                  · have H60 := cnd_f hb H54; clear H54
                    refine l_passed rfl rfl rfl ?_
                    refine l_passed rfl rfl rfl ?_
                    refine l_val rfl rfl rfl (r_pickF (v := .bool false) rfl rfl) ?_
                    refine l_val rfl rfl rfl (r_pickF (v := .bool false) rfl rfl) ?_
                    refine l_val rfl rfl rfl (r_move (v := .bool false) rfl) ?_
                    refine l_val rfl rfl rfl (r_move (v := .int .u8 t29) rfl) ?_
                    refine l_val rfl rfl rfl (r_eql rfl rfl) ?_
                    refine l_val rfl rfl rfl (r_pickF (v := .bool (decide (t29 = 45))) rfl rfl) ?_
                    refine l_val rfl rfl rfl (r_not rfl) ?_
                    refine l_nil ?_
                    refine c_if (b := (!(decide (t29 = 45)))) rfl (fun hb => ?_) (fun hb => ?_)
                    · have H61 := cnd_t hb H60; clear H60
                      refine c_seq ?_
                      refine c_region ?_
                      refine l_val rfl rfl rfl (r_assign (v := .bool false) rfl) ?_
                      refine l_nil ?_
                      refine c_ret ?_
                      obtain rfl := Option.some.inj H61
                      refine ret1 (v := .bool false) rfl rfl (fin rfl)
                    · have H62 := cnd_f hb H60; clear H60
                      refine c_skip ?_
                      refine c_close () () 0 [] (by exact ⟨rfl, rfl, rfl, trivial⟩) (by decide) rfl (by exact ⟨H62, trivial⟩) (Nat.lt_succ_self _)
              · have H63 := cnd_f hb H51; clear H51
                refine l_passed rfl rfl rfl ?_
                refine l_passed rfl rfl rfl ?_
                refine l_val rfl rfl rfl (r_pickF (v := .bool false) rfl rfl) ?_
                refine l_val rfl rfl rfl (r_move (v := .bool false) rfl) ?_
                refine l_val rfl rfl rfl (r_move (v := .int .u8 t29) rfl) ?_
                refine l_val rfl rfl rfl (r_geq rfl rfl) ?_
                refine l_val rfl rfl rfl (r_move (v := .bool (decide (48 ≤ t29))) rfl) ?_
                refine split (fun hb => ?_) (fun hb => ?_)
                · have H64 := cnd_t hb H63; clear H63
                  refine l_val rfl rfl rfl (r_move (v := .int .u8 t29) rfl) ?_
                  refine l_val rfl rfl rfl (r_leq rfl rfl) ?_
                  refine l_val rfl rfl rfl (r_pickT (v := .bool (decide (t29 ≤ 57))) rfl rfl) ?_
                  refine l_val rfl rfl rfl (r_pickF (v := .bool (decide (t29 ≤ 57))) rfl rfl) ?_
                  refine l_val rfl rfl rfl (r_move (v := .bool (decide (t29 ≤ 57))) rfl) ?_
                  refine split (fun hb => ?_) (fun hb => ?_)
                  · have H65 := cnd_t hb H64; clear H64
                    refine l_passed rfl rfl rfl ?_
                    refine l_passed rfl rfl rfl ?_
                    refine l_val rfl rfl rfl (r_pickT (v := .bool true) rfl rfl) ?_
                    refine l_val rfl rfl rfl (r_notT rfl) ?_
                    refine l_nil ?_
                    refine c_false rfl ?_
                    refine c_skip ?_
                    refine c_close () () 0 [] (by exact ⟨rfl, rfl, rfl, trivial⟩) (by decide) rfl (by exact ⟨H65, trivial⟩) (Nat.lt_succ_self _)
                  · have H66 := cnd_f hb H64; clear H64
                    refine l_val rfl rfl rfl (r_move (v := .int .u8 t29) rfl) ?_
                    refine l_val rfl rfl rfl (r_eql rfl rfl) ?_
                    refine l_val rfl rfl rfl (r_pickF (v := .bool (decide (t29 = 45))) rfl rfl) ?_
                    refine l_val rfl rfl rfl (r_not rfl) ?_
                    refine l_nil ?_
                    refine c_if (b := (!(decide (t29 = 45)))) rfl (fun hb => ?_) (fun hb => ?_)
                    · have H67 := cnd_t hb H66; clear H66
                      refine c_seq ?_
                      refine c_region ?_
                      refine l_val rfl rfl rfl (r_assign (v := .bool false) rfl) ?_
                      refine l_nil ?_
                      refine c_ret ?_
                      obtain rfl := Option.some.inj H67
                      refine ret1 (v := .bool false) rfl rfl (fin rfl)
                    · have H68 := cnd_f hb H66; clear H66
                      refine c_skip ?_
                      refine c_close () () 0 [] (by exact ⟨rfl, rfl, rfl, trivial⟩) (by decide) rfl (by exact ⟨H68, trivial⟩) (Nat.lt_succ_self _)
                · have H69 := cnd_f hb H63; clear H63
                  refine l_passed rfl rfl rfl ?_
                  refine l_passed rfl rfl rfl ?_
                  refine l_val rfl rfl rfl (r_pickF (v := .bool false) rfl rfl) ?_
                  refine l_val rfl rfl rfl (r_pickF (v := .bool false) rfl rfl) ?_
                  refine l_val rfl rfl rfl (r_move (v := .bool false) rfl) ?_
                  refine l_val rfl rfl rfl (r_move (v := .int .u8 t29) rfl) ?_
                  refine l_val rfl rfl rfl (r_eql rfl rfl) ?_
                  refine l_val rfl rfl rfl (r_pickF (v := .bool (decide (t29 = 45))) rfl rfl) ?_
                  refine l_val rfl rfl rfl (r_not rfl) ?_
                  refine l_nil ?_
                  refine c_if (b := (!(decide (t29 = 45)))) rfl (fun hb => ?_) (fun hb => ?_)
                  · have H70 := cnd_t hb H69; clear H69
                    refine c_seq ?_
                    refine c_region ?_
                    refine l_val rfl rfl rfl (r_assign (v := .bool false) rfl) ?_
                    refine l_nil ?_
                    refine c_ret ?_
                    obtain rfl := Option.some.inj H70
                    refine ret1 (v := .bool false) rfl rfl (fin rfl)
                  · have H71 := cnd_f hb H69; clear H69
                    refine c_skip ?_
                    refine c_close () () 0 [] (by exact ⟨rfl, rfl, rfl, trivial⟩) (by decide) rfl (by exact ⟨H71, trivial⟩) (Nat.lt_succ_self _)
            · rintro _ _ gg H49 _
              replace H49 : where_IsName_j2 x24_2 next1 = some r := H49
              refine c_tidyF [(0, str a0), (23, .int .i64 (a0.length : Int)), (24, .int .i64 x24_2)] [] rfl rfl ?_
              refine c_region ?_
              obtain ⟨t49, h_t49, H50⟩ := bnd_some H49; clear H49
              refine l_val rfl rfl rfl (r_addG rfl rfl h_t49) ?_
              refine l_val rfl rfl rfl (r_move (v := .int .i64 t49) rfl) ?_
              refine l_nil ?_
              refine c_close t49 () m1 [] (by exact ⟨rfl, rfl, rfl, trivial⟩) (by decide) rfl (by exact ⟨(by subst hn1; exact H50), trivial⟩) (Nat.lt_succ_self _)
          · have H72 := cnd_f hb H47; clear H47
            refine c_exit ?_
            refine c_seq ?_
            refine c_region ?_
            refine l_val rfl rfl rfl (r_assign (v := .bool true) rfl) ?_
            refine l_nil ?_
            refine c_ret ?_
            obtain rfl := Option.some.inj H72
            refine ret1 (v := .bool true) rfl rfl (fin rfl)
theorem k63 {a0 : T_sync_Fact} {r : Int} (H : sync_checkValue a0 = some r) : Ret Tryd.prog 63 [.agg #[.int .i64 a0.Dot.Device, .int .i64 a0.Dot.N, .int .i64 a0.Time, .int .i64 a0.Kind, .int .i64 a0.Id, str a0.Name, .int .i64 a0.Num, str a0.Text]] (.int .i64 r) := by
  refine enterRet (n := 121) Tryd.func63 rfl rfl rfl (fun wd => ?_)
  refine c_seq ?_
  refine c_region ?_
  refine l_box (cs := [.int .i64 a0.Dot.Device, .int .i64 a0.Dot.N, .int .i64 a0.Time, .int .i64 a0.Kind, .int .i64 a0.Id, str a0.Name, .int .i64 a0.Num, str a0.Text]) rfl rfl rfl rfl (fun b1 => ?_)
  refine l_val rfl rfl rfl (r_assign (v := .int .i64 0) rfl) ?_
  refine l_nil ?_
  refine c_meet (r := r) (σ := Bool) (τ := Unit) (fun s => sync_checkValue_j1 a0 s) (fun s t => [(1, .pointer (some ⟨b1, 0, none⟩)), (3, .bool s)]) (fun s t => [cellsC b1 [.int .i64 a0.Dot.Device, .int .i64 a0.Dot.N, .int .i64 a0.Time, .int .i64 a0.Kind, .int .i64 a0.Id, str a0.Name, .int .i64 a0.Num, str a0.Text] 52]) (fun s t => True) ?_ ?_
  · refine c_region ?_
    refine l_val rfl rfl rfl (r_field Tryd.runUnderlying52 rfl Tryd.sizeOf3 rfl rfl) ?_
    refine l_load1 (i := 0) (v := .int .i64 a0.Kind) Tryd.isAgg3 rfl rfl rfl rfl rfl ?_
    refine l_val rfl rfl rfl (r_eql rfl rfl) ?_
    refine l_val rfl rfl rfl (r_move (v := .bool (decide (a0.Kind = 2))) rfl) ?_
    refine split (fun hb => ?_) (fun hb => ?_)
    · have H141 := cnd_t hb H; clear H
      refine l_passed rfl rfl rfl ?_
      refine l_passed rfl rfl rfl ?_
      refine l_passed rfl rfl rfl ?_
      refine l_val rfl rfl rfl (r_pickT (v := .bool true) rfl rfl) ?_
      refine l_val rfl rfl rfl (r_move (v := .bool true) rfl) ?_
      refine l_passed rfl rfl rfl ?_
      refine l_passed rfl rfl rfl ?_
      refine l_passed rfl rfl rfl ?_
      refine l_val rfl rfl rfl (r_pickT (v := .bool true) rfl rfl) ?_
      refine l_val rfl rfl rfl (r_assign (v := .bool true) rfl) ?_
      refine l_nil ?_
      refine c_close true () 0 [0] (by exact ⟨rfl, rfl, trivial⟩) (by decide) rfl (by exact ⟨H141, trivial⟩) (Nat.lt_succ_self _)
    · have H142 := cnd_f hb H; clear H
      refine l_val rfl rfl rfl (r_field Tryd.runUnderlying52 rfl Tryd.sizeOf3 rfl rfl) ?_
      refine l_load1 (i := 0) (v := .int .i64 a0.Kind) Tryd.isAgg3 rfl rfl rfl rfl rfl ?_
      refine l_val rfl rfl rfl (r_eql rfl rfl) ?_
      refine l_val rfl rfl rfl (r_pickF (v := .bool (decide (a0.Kind = 4))) rfl rfl) ?_
      refine l_val rfl rfl rfl (r_move (v := .bool (decide (a0.Kind = 4))) rfl) ?_
      refine split (fun hb => ?_) (fun hb => ?_)
      · have H143 := cnd_t hb H142; clear H142
        refine l_passed rfl rfl rfl ?_
        refine l_passed rfl rfl rfl ?_
        refine l_passed rfl rfl rfl ?_
        refine l_val rfl rfl rfl (r_pickT (v := .bool true) rfl rfl) ?_
        refine l_val rfl rfl rfl (r_assign (v := .bool true) rfl) ?_
        refine l_nil ?_
        refine c_close true () 0 [0] (by exact ⟨rfl, rfl, trivial⟩) (by decide) rfl (by exact ⟨H143, trivial⟩) (Nat.lt_succ_self _)
      · have H144 := cnd_f hb H142; clear H142
        refine l_val rfl rfl rfl (r_field Tryd.runUnderlying52 rfl Tryd.sizeOf3 rfl rfl) ?_
        refine l_load1 (i := 0) (v := .int .i64 a0.Kind) Tryd.isAgg3 rfl rfl rfl rfl rfl ?_
        refine l_val rfl rfl rfl (r_eql rfl rfl) ?_
        refine l_val rfl rfl rfl (r_pickF (v := .bool (decide (a0.Kind = 6))) rfl rfl) ?_
        refine l_val rfl rfl rfl (r_assign (v := .bool (decide (a0.Kind = 6))) rfl) ?_
        refine l_nil ?_
        refine c_close (decide (a0.Kind = 6)) () 0 [0] (by exact ⟨rfl, rfl, trivial⟩) (by decide) rfl (by exact ⟨H144, trivial⟩) (Nat.lt_succ_self _)
  · rintro x3 _ gg H73 _
    replace H73 : sync_checkValue_j1 a0 x3 = some r := H73
    refine c_tidyF [(1, .pointer (some ⟨b1, 0, none⟩)), (3, .bool x3)] [cellsC b1 [.int .i64 a0.Dot.Device, .int .i64 a0.Dot.N, .int .i64 a0.Time, .int .i64 a0.Kind, .int .i64 a0.Id, str a0.Name, .int .i64 a0.Num, str a0.Text] 52] rfl rfl ?_
    refine c_meet (r := r) (σ := Bool) (τ := Unit) (fun s => sync_checkValue_j2 a0 x3 s) (fun s t => [(1, .pointer (some ⟨b1, 0, none⟩)), (3, .bool x3), (4, .bool s)]) (fun s t => [cellsC b1 [.int .i64 a0.Dot.Device, .int .i64 a0.Dot.N, .int .i64 a0.Time, .int .i64 a0.Kind, .int .i64 a0.Id, str a0.Name, .int .i64 a0.Num, str a0.Text] 52]) (fun s t => True) ?_ ?_
    · refine c_region ?_
      refine l_val rfl rfl rfl (r_field Tryd.runUnderlying52 rfl Tryd.sizeOf3 rfl rfl) ?_
      refine l_load1 (i := 0) (v := .int .i64 a0.Kind) Tryd.isAgg3 rfl rfl rfl rfl rfl ?_
      refine l_val rfl rfl rfl (r_eql rfl rfl) ?_
      refine l_val rfl rfl rfl (r_move (v := .bool (decide (a0.Kind = 5))) rfl) ?_
      refine split (fun hb => ?_) (fun hb => ?_)
      · have H139 := cnd_t hb H73; clear H73
        refine l_passed rfl rfl rfl ?_
        refine l_passed rfl rfl rfl ?_
        refine l_passed rfl rfl rfl ?_
        refine l_val rfl rfl rfl (r_pickT (v := .bool true) rfl rfl) ?_
        refine l_val rfl rfl rfl (r_assign (v := .bool true) rfl) ?_
        refine l_nil ?_
        refine c_close true () 0 [0] (by exact ⟨rfl, rfl, rfl, trivial⟩) (by decide) rfl (by exact ⟨H139, trivial⟩) (Nat.lt_succ_self _)
      · have H140 := cnd_f hb H73; clear H73
        refine l_val rfl rfl rfl (r_field Tryd.runUnderlying52 rfl Tryd.sizeOf3 rfl rfl) ?_
        refine l_load1 (i := 0) (v := .int .i64 a0.Kind) Tryd.isAgg3 rfl rfl rfl rfl rfl ?_
        refine l_val rfl rfl rfl (r_eql rfl rfl) ?_
        refine l_val rfl rfl rfl (r_pickF (v := .bool (decide (a0.Kind = 6))) rfl rfl) ?_
        refine l_val rfl rfl rfl (r_assign (v := .bool (decide (a0.Kind = 6))) rfl) ?_
        refine l_nil ?_
        refine c_close (decide (a0.Kind = 6)) () 0 [0] (by exact ⟨rfl, rfl, rfl, trivial⟩) (by decide) rfl (by exact ⟨H140, trivial⟩) (Nat.lt_succ_self _)
    · rintro x4 _ gg H74 _
      replace H74 : sync_checkValue_j2 a0 x3 x4 = some r := H74
      refine c_tidyF [(1, .pointer (some ⟨b1, 0, none⟩)), (3, .bool x3), (4, .bool x4)] [cellsC b1 [.int .i64 a0.Dot.Device, .int .i64 a0.Dot.N, .int .i64 a0.Time, .int .i64 a0.Kind, .int .i64 a0.Id, str a0.Name, .int .i64 a0.Num, str a0.Text] 52] rfl rfl ?_
      refine c_meet (r := r) (σ := Bool) (τ := Unit) (fun s => sync_checkValue_j3 a0 x3 x4 s) (fun s t => [(1, .pointer (some ⟨b1, 0, none⟩)), (3, .bool x3), (4, .bool x4), (5, .bool s)]) (fun s t => [cellsC b1 [.int .i64 a0.Dot.Device, .int .i64 a0.Dot.N, .int .i64 a0.Time, .int .i64 a0.Kind, .int .i64 a0.Id, str a0.Name, .int .i64 a0.Num, str a0.Text] 52]) (fun s t => True) ?_ ?_
      · refine c_region ?_
        refine l_val rfl rfl rfl (r_field Tryd.runUnderlying52 rfl Tryd.sizeOf3 rfl rfl) ?_
        refine l_load1 (i := 0) (v := .int .i64 a0.Kind) Tryd.isAgg3 rfl rfl rfl rfl rfl ?_
        refine l_val rfl rfl rfl (r_eql rfl rfl) ?_
        refine l_val rfl rfl rfl (r_move (v := .bool (decide (a0.Kind = 1))) rfl) ?_
        refine split (fun hb => ?_) (fun hb => ?_)
        · have H137 := cnd_t hb H74; clear H74
          refine l_passed rfl rfl rfl ?_
          refine l_passed rfl rfl rfl ?_
          refine l_passed rfl rfl rfl ?_
          refine l_val rfl rfl rfl (r_pickT (v := .bool true) rfl rfl) ?_
          refine l_val rfl rfl rfl (r_assign (v := .bool true) rfl) ?_
          refine l_nil ?_
          refine c_close true () 0 [0] (by exact ⟨rfl, rfl, rfl, rfl, trivial⟩) (by decide) rfl (by exact ⟨H137, trivial⟩) (Nat.lt_succ_self _)
        · have H138 := cnd_f hb H74; clear H74
          refine l_val rfl rfl rfl (r_field Tryd.runUnderlying52 rfl Tryd.sizeOf3 rfl rfl) ?_
          refine l_load1 (i := 0) (v := .int .i64 a0.Kind) Tryd.isAgg3 rfl rfl rfl rfl rfl ?_
          refine l_val rfl rfl rfl (r_eql rfl rfl) ?_
          refine l_val rfl rfl rfl (r_pickF (v := .bool (decide (a0.Kind = 3))) rfl rfl) ?_
          refine l_val rfl rfl rfl (r_assign (v := .bool (decide (a0.Kind = 3))) rfl) ?_
          refine l_nil ?_
          refine c_close (decide (a0.Kind = 3)) () 0 [0] (by exact ⟨rfl, rfl, rfl, rfl, trivial⟩) (by decide) rfl (by exact ⟨H138, trivial⟩) (Nat.lt_succ_self _)
      · rintro x5 _ gg H75 _
        replace H75 : sync_checkValue_j3 a0 x3 x4 x5 = some r := H75
        refine c_tidyF [(1, .pointer (some ⟨b1, 0, none⟩)), (3, .bool x3), (4, .bool x4), (5, .bool x5)] [cellsC b1 [.int .i64 a0.Dot.Device, .int .i64 a0.Dot.N, .int .i64 a0.Time, .int .i64 a0.Kind, .int .i64 a0.Id, str a0.Name, .int .i64 a0.Num, str a0.Text] 52] rfl rfl ?_
        refine c_seq ?_
        refine c_block ?_
        refine c_seq ?_
        refine c_region ?_
        refine l_val rfl rfl rfl (r_field Tryd.runUnderlying52 rfl Tryd.sizeOf3 rfl rfl) ?_
        refine l_load1 (i := 0) (v := .int .i64 a0.Kind) Tryd.isAgg3 rfl rfl rfl rfl rfl ?_
        obtain ⟨t38, h_t38, H76⟩ := bnd_some H75; clear H75
        refine l_call (k62 h_t38) Tryd.call62 rfl rfl rfl ?_
        refine l_val rfl rfl rfl (r_assign (v := .bool t38) rfl) ?_
        refine l_nil ?_
        refine c_if (b := t38) rfl (fun hb => ?_) (fun hb => ?_)
        · have H77 := cnd_t hb H76; clear H76
          refine c_seq ?_
          refine c_region ?_
          refine l_val rfl rfl rfl (r_assign (v := .int .i64 10) rfl) ?_
          refine l_nil ?_
          refine c_ret ?_
          obtain rfl := Option.some.inj H77
          refine ret1 (v := .int .i64 10) rfl rfl (fin rfl)
        · have H78 := cnd_f hb H76; clear H76
          refine c_meet (r := r) (σ := Bool) (τ := Unit) (fun s => sync_checkValue_j4 a0 x4 s) (fun s t => [(1, .pointer (some ⟨b1, 0, none⟩)), (4, .bool x4), (39, .bool s)]) (fun s t => [cellsC b1 [.int .i64 a0.Dot.Device, .int .i64 a0.Dot.N, .int .i64 a0.Time, .int .i64 a0.Kind, .int .i64 a0.Id, str a0.Name, .int .i64 a0.Num, str a0.Text] 52]) (fun s t => True) ?_ ?_
          · refine c_region ?_
            refine l_val rfl rfl rfl (r_move (v := .bool x3) rfl) ?_
            refine l_val rfl rfl rfl (r_not rfl) ?_
            refine l_val rfl rfl rfl (r_move (v := .bool (!x3)) rfl) ?_
            refine split (fun hb => ?_) (fun hb => ?_)
            · have H117 := cnd_t hb H78; clear H78
              refine l_val rfl rfl rfl (r_field Tryd.runUnderlying52 rfl Tryd.sizeOf3 rfl rfl) ?_
              refine l_load1 (i := 0) (v := .int .i64 a0.Num) Tryd.isAgg3 rfl rfl rfl rfl rfl ?_
              refine l_val rfl rfl rfl (r_neq rfl rfl) ?_
              refine l_val rfl rfl rfl (r_pickT (v := .bool (decide (a0.Num ≠ 0))) rfl rfl) ?_
              refine l_val rfl rfl rfl (r_move (v := .bool (decide (a0.Num ≠ 0))) rfl) ?_
              refine split (fun hb => ?_) (fun hb => ?_)
              · have H118 := cnd_t hb H117; clear H117
                refine l_passed rfl rfl rfl ?_
                refine l_passed rfl rfl rfl ?_
                refine l_passed rfl rfl rfl ?_
                refine l_passed rfl rfl rfl ?_
                refine l_passed rfl rfl rfl ?_
                refine l_passed rfl rfl rfl ?_
                refine l_passed rfl rfl rfl ?_
                refine l_val rfl rfl rfl (r_pickT (v := .bool true) rfl rfl) ?_
                refine l_val rfl rfl rfl (r_move (v := .bool true) rfl) ?_
                refine l_passed rfl rfl rfl ?_
                refine l_passed rfl rfl rfl ?_
                refine l_passed rfl rfl rfl ?_
                refine l_passed rfl rfl rfl ?_
                refine l_passed rfl rfl rfl ?_
                refine l_passed rfl rfl rfl ?_
                refine l_passed rfl rfl rfl ?_
                refine l_val rfl rfl rfl (r_pickT (v := .bool true) rfl rfl) ?_
                refine l_val rfl rfl rfl (r_assign (v := .bool true) rfl) ?_
                refine l_nil ?_
                refine c_close true () 0 [0] (by exact ⟨rfl, rfl, rfl, trivial⟩) (by decide) rfl (by exact ⟨H118, trivial⟩) (Nat.lt_succ_self _)
              · have H119 := cnd_f hb H117; clear H117
                refine l_val rfl rfl rfl (r_move (v := .bool x4) rfl) ?_
                refine l_val rfl rfl rfl (r_not rfl) ?_
                refine l_val rfl rfl rfl (r_move (v := .bool (!x4)) rfl) ?_
                refine split (fun hb => ?_) (fun hb => ?_)
                · have H120 := cnd_t hb H119; clear H119
                  refine l_val rfl rfl rfl (r_field Tryd.runUnderlying52 rfl Tryd.sizeOf9 rfl rfl) ?_
                  refine l_load1 (i := 0) (v := str a0.Name) Tryd.isAgg9 rfl rfl rfl rfl rfl ?_
                  refine l_val rfl rfl rfl (r_neqT rfl rfl) ?_
                  refine l_val rfl rfl rfl (r_pickT (v := .bool (decide (a0.Name ≠ []))) rfl rfl) ?_
                  refine l_val rfl rfl rfl (r_pickF (v := .bool (decide (a0.Name ≠ []))) rfl rfl) ?_
                  refine l_val rfl rfl rfl (r_move (v := .bool (decide (a0.Name ≠ []))) rfl) ?_
                  refine split (fun hb => ?_) (fun hb => ?_)
                  · have H121 := cnd_t hb H120; clear H120
                    refine l_passed rfl rfl rfl ?_
                    refine l_passed rfl rfl rfl ?_
                    refine l_passed rfl rfl rfl ?_
                    refine l_passed rfl rfl rfl ?_
                    refine l_passed rfl rfl rfl ?_
                    refine l_passed rfl rfl rfl ?_
                    refine l_passed rfl rfl rfl ?_
                    refine l_val rfl rfl rfl (r_pickT (v := .bool true) rfl rfl) ?_
                    refine l_val rfl rfl rfl (r_assign (v := .bool true) rfl) ?_
                    refine l_nil ?_
                    refine c_close true () 0 [0] (by exact ⟨rfl, rfl, rfl, trivial⟩) (by decide) rfl (by exact ⟨H121, trivial⟩) (Nat.lt_succ_self _)
                  · have H122 := cnd_f hb H120; clear H120
                    refine l_val rfl rfl rfl (r_move (v := .bool x5) rfl) ?_
                    refine l_val rfl rfl rfl (r_not rfl) ?_
                    refine l_val rfl rfl rfl (r_move (v := .bool (!x5)) rfl) ?_
                    refine split (fun hb => ?_) (fun hb => ?_)
                    · have H123 := cnd_t hb H122; clear H122
                      refine l_val rfl rfl rfl (r_field Tryd.runUnderlying52 rfl Tryd.sizeOf9 rfl rfl) ?_
                      refine l_load1 (i := 0) (v := str a0.Text) Tryd.isAgg9 rfl rfl rfl rfl rfl ?_
                      refine l_val rfl rfl rfl (r_neqT rfl rfl) ?_
                      refine l_val rfl rfl rfl (r_pickT (v := .bool (decide (a0.Text ≠ []))) rfl rfl) ?_
                      refine l_val rfl rfl rfl (r_pickF (v := .bool (decide (a0.Text ≠ []))) rfl rfl) ?_
                      refine l_val rfl rfl rfl (r_assign (v := .bool (decide (a0.Text ≠ []))) rfl) ?_
                      refine l_nil ?_
                      refine c_close (decide (a0.Text ≠ [])) () 0 [0] (by exact ⟨rfl, rfl, rfl, trivial⟩) (by decide) rfl (by exact ⟨H123, trivial⟩) (Nat.lt_succ_self _)
                    · have H124 := cnd_f hb H122; clear H122
                      refine l_passed rfl rfl rfl ?_
                      refine l_passed rfl rfl rfl ?_
                      refine l_passed rfl rfl rfl ?_
                      refine l_val rfl rfl rfl (r_pickF (v := .bool false) rfl rfl) ?_
                      refine l_val rfl rfl rfl (r_pickF (v := .bool false) rfl rfl) ?_
                      refine l_val rfl rfl rfl (r_assign (v := .bool false) rfl) ?_
                      refine l_nil ?_
                      refine c_close false () 0 [0] (by exact ⟨rfl, rfl, rfl, trivial⟩) (by decide) rfl (by exact ⟨H124, trivial⟩) (Nat.lt_succ_self _)
                · have H125 := cnd_f hb H119; clear H119
                  refine l_passed rfl rfl rfl ?_
                  refine l_passed rfl rfl rfl ?_
                  refine l_passed rfl rfl rfl ?_
                  refine l_val rfl rfl rfl (r_pickF (v := .bool false) rfl rfl) ?_
                  refine l_val rfl rfl rfl (r_pickF (v := .bool false) rfl rfl) ?_
                  refine l_val rfl rfl rfl (r_move (v := .bool false) rfl) ?_
                  refine l_val rfl rfl rfl (r_move (v := .bool x5) rfl) ?_
                  refine l_val rfl rfl rfl (r_not rfl) ?_
                  refine l_val rfl rfl rfl (r_move (v := .bool (!x5)) rfl) ?_
                  refine split (fun hb => ?_) (fun hb => ?_)
                  · have H126 := cnd_t hb H125; clear H125
                    refine l_val rfl rfl rfl (r_field Tryd.runUnderlying52 rfl Tryd.sizeOf9 rfl rfl) ?_
                    refine l_load1 (i := 0) (v := str a0.Text) Tryd.isAgg9 rfl rfl rfl rfl rfl ?_
                    refine l_val rfl rfl rfl (r_neqT rfl rfl) ?_
                    refine l_val rfl rfl rfl (r_pickT (v := .bool (decide (a0.Text ≠ []))) rfl rfl) ?_
                    refine l_val rfl rfl rfl (r_pickF (v := .bool (decide (a0.Text ≠ []))) rfl rfl) ?_
                    refine l_val rfl rfl rfl (r_assign (v := .bool (decide (a0.Text ≠ []))) rfl) ?_
                    refine l_nil ?_
                    refine c_close (decide (a0.Text ≠ [])) () 0 [0] (by exact ⟨rfl, rfl, rfl, trivial⟩) (by decide) rfl (by exact ⟨H126, trivial⟩) (Nat.lt_succ_self _)
                  · have H127 := cnd_f hb H125; clear H125
                    refine l_passed rfl rfl rfl ?_
                    refine l_passed rfl rfl rfl ?_
                    refine l_passed rfl rfl rfl ?_
                    refine l_val rfl rfl rfl (r_pickF (v := .bool false) rfl rfl) ?_
                    refine l_val rfl rfl rfl (r_pickF (v := .bool false) rfl rfl) ?_
                    refine l_val rfl rfl rfl (r_assign (v := .bool false) rfl) ?_
                    refine l_nil ?_
                    refine c_close false () 0 [0] (by exact ⟨rfl, rfl, rfl, trivial⟩) (by decide) rfl (by exact ⟨H127, trivial⟩) (Nat.lt_succ_self _)
            · have H128 := cnd_f hb H78; clear H78
              refine l_passed rfl rfl rfl ?_
              refine l_passed rfl rfl rfl ?_
              refine l_passed rfl rfl rfl ?_
              refine l_val rfl rfl rfl (r_pickF (v := .bool false) rfl rfl) ?_
              refine l_val rfl rfl rfl (r_move (v := .bool false) rfl) ?_
              refine l_val rfl rfl rfl (r_move (v := .bool x4) rfl) ?_
              refine l_val rfl rfl rfl (r_not rfl) ?_
              refine l_val rfl rfl rfl (r_move (v := .bool (!x4)) rfl) ?_
              refine split (fun hb => ?_) (fun hb => ?_)
              · have H129 := cnd_t hb H128; clear H128
                refine l_val rfl rfl rfl (r_field Tryd.runUnderlying52 rfl Tryd.sizeOf9 rfl rfl) ?_
                refine l_load1 (i := 0) (v := str a0.Name) Tryd.isAgg9 rfl rfl rfl rfl rfl ?_
                refine l_val rfl rfl rfl (r_neqT rfl rfl) ?_
                refine l_val rfl rfl rfl (r_pickT (v := .bool (decide (a0.Name ≠ []))) rfl rfl) ?_
                refine l_val rfl rfl rfl (r_pickF (v := .bool (decide (a0.Name ≠ []))) rfl rfl) ?_
                refine l_val rfl rfl rfl (r_move (v := .bool (decide (a0.Name ≠ []))) rfl) ?_
                refine split (fun hb => ?_) (fun hb => ?_)
                · have H130 := cnd_t hb H129; clear H129
                  refine l_passed rfl rfl rfl ?_
                  refine l_passed rfl rfl rfl ?_
                  refine l_passed rfl rfl rfl ?_
                  refine l_passed rfl rfl rfl ?_
                  refine l_passed rfl rfl rfl ?_
                  refine l_passed rfl rfl rfl ?_
                  refine l_passed rfl rfl rfl ?_
                  refine l_val rfl rfl rfl (r_pickT (v := .bool true) rfl rfl) ?_
                  refine l_val rfl rfl rfl (r_assign (v := .bool true) rfl) ?_
                  refine l_nil ?_
                  refine c_close true () 0 [0] (by exact ⟨rfl, rfl, rfl, trivial⟩) (by decide) rfl (by exact ⟨H130, trivial⟩) (Nat.lt_succ_self _)
                · have H131 := cnd_f hb H129; clear H129
                  refine l_val rfl rfl rfl (r_move (v := .bool x5) rfl) ?_
                  refine l_val rfl rfl rfl (r_not rfl) ?_
                  refine l_val rfl rfl rfl (r_move (v := .bool (!x5)) rfl) ?_
                  refine split (fun hb => ?_) (fun hb => ?_)
                  · have H132 := cnd_t hb H131; clear H131
                    refine l_val rfl rfl rfl (r_field Tryd.runUnderlying52 rfl Tryd.sizeOf9 rfl rfl) ?_
                    refine l_load1 (i := 0) (v := str a0.Text) Tryd.isAgg9 rfl rfl rfl rfl rfl ?_
                    refine l_val rfl rfl rfl (r_neqT rfl rfl) ?_
                    refine l_val rfl rfl rfl (r_pickT (v := .bool (decide (a0.Text ≠ []))) rfl rfl) ?_
                    refine l_val rfl rfl rfl (r_pickF (v := .bool (decide (a0.Text ≠ []))) rfl rfl) ?_
                    refine l_val rfl rfl rfl (r_assign (v := .bool (decide (a0.Text ≠ []))) rfl) ?_
                    refine l_nil ?_
                    refine c_close (decide (a0.Text ≠ [])) () 0 [0] (by exact ⟨rfl, rfl, rfl, trivial⟩) (by decide) rfl (by exact ⟨H132, trivial⟩) (Nat.lt_succ_self _)
                  · have H133 := cnd_f hb H131; clear H131
                    refine l_passed rfl rfl rfl ?_
                    refine l_passed rfl rfl rfl ?_
                    refine l_passed rfl rfl rfl ?_
                    refine l_val rfl rfl rfl (r_pickF (v := .bool false) rfl rfl) ?_
                    refine l_val rfl rfl rfl (r_pickF (v := .bool false) rfl rfl) ?_
                    refine l_val rfl rfl rfl (r_assign (v := .bool false) rfl) ?_
                    refine l_nil ?_
                    refine c_close false () 0 [0] (by exact ⟨rfl, rfl, rfl, trivial⟩) (by decide) rfl (by exact ⟨H133, trivial⟩) (Nat.lt_succ_self _)
              · have H134 := cnd_f hb H128; clear H128
                refine l_passed rfl rfl rfl ?_
                refine l_passed rfl rfl rfl ?_
                refine l_passed rfl rfl rfl ?_
                refine l_val rfl rfl rfl (r_pickF (v := .bool false) rfl rfl) ?_
                refine l_val rfl rfl rfl (r_pickF (v := .bool false) rfl rfl) ?_
                refine l_val rfl rfl rfl (r_move (v := .bool false) rfl) ?_
                refine l_val rfl rfl rfl (r_move (v := .bool x5) rfl) ?_
                refine l_val rfl rfl rfl (r_not rfl) ?_
                refine l_val rfl rfl rfl (r_move (v := .bool (!x5)) rfl) ?_
                refine split (fun hb => ?_) (fun hb => ?_)
                · have H135 := cnd_t hb H134; clear H134
                  refine l_val rfl rfl rfl (r_field Tryd.runUnderlying52 rfl Tryd.sizeOf9 rfl rfl) ?_
                  refine l_load1 (i := 0) (v := str a0.Text) Tryd.isAgg9 rfl rfl rfl rfl rfl ?_
                  refine l_val rfl rfl rfl (r_neqT rfl rfl) ?_
                  refine l_val rfl rfl rfl (r_pickT (v := .bool (decide (a0.Text ≠ []))) rfl rfl) ?_
                  refine l_val rfl rfl rfl (r_pickF (v := .bool (decide (a0.Text ≠ []))) rfl rfl) ?_
                  refine l_val rfl rfl rfl (r_assign (v := .bool (decide (a0.Text ≠ []))) rfl) ?_
                  refine l_nil ?_
                  refine c_close (decide (a0.Text ≠ [])) () 0 [0] (by exact ⟨rfl, rfl, rfl, trivial⟩) (by decide) rfl (by exact ⟨H135, trivial⟩) (Nat.lt_succ_self _)
                · have H136 := cnd_f hb H134; clear H134
                  refine l_passed rfl rfl rfl ?_
                  refine l_passed rfl rfl rfl ?_
                  refine l_passed rfl rfl rfl ?_
                  refine l_val rfl rfl rfl (r_pickF (v := .bool false) rfl rfl) ?_
                  refine l_val rfl rfl rfl (r_pickF (v := .bool false) rfl rfl) ?_
                  refine l_val rfl rfl rfl (r_assign (v := .bool false) rfl) ?_
                  refine l_nil ?_
                  refine c_close false () 0 [0] (by exact ⟨rfl, rfl, rfl, trivial⟩) (by decide) rfl (by exact ⟨H136, trivial⟩) (Nat.lt_succ_self _)
          · rintro x39 _ gg H79 _
            replace H79 : sync_checkValue_j4 a0 x4 x39 = some r := H79
            refine c_tidyF [(1, .pointer (some ⟨b1, 0, none⟩)), (4, .bool x4), (39, .bool x39)] [cellsC b1 [.int .i64 a0.Dot.Device, .int .i64 a0.Dot.N, .int .i64 a0.Time, .int .i64 a0.Kind, .int .i64 a0.Id, str a0.Name, .int .i64 a0.Num, str a0.Text] 52] rfl rfl ?_
            refine c_if (b := x39) rfl (fun hb => ?_) (fun hb => ?_)
            · have H80 := cnd_t hb H79; clear H79
              refine c_seq ?_
              refine c_region ?_
              refine l_val rfl rfl rfl (r_assign (v := .int .i64 1) rfl) ?_
              refine l_nil ?_
              refine c_ret ?_
              obtain rfl := Option.some.inj H80
              refine ret1 (v := .int .i64 1) rfl rfl (fin rfl)
            · have H81 := cnd_f hb H79; clear H79
              refine c_seq ?_
              refine c_region ?_
              refine l_val rfl rfl rfl (r_field Tryd.runUnderlying52 rfl Tryd.sizeOf3 rfl rfl) ?_
              refine l_load1 (i := 0) (v := .int .i64 a0.Id) Tryd.isAgg3 rfl rfl rfl rfl rfl ?_
              obtain ⟨t68, h_t68, H82⟩ := bnd_some H81; clear H81
              refine l_call (k62 h_t68) Tryd.call62 rfl rfl rfl ?_
              refine l_val rfl rfl rfl (r_assign (v := .bool t68) rfl) ?_
              refine l_nil ?_
              refine c_if (b := t68) rfl (fun hb => ?_) (fun hb => ?_)
              · have H83 := cnd_t hb H82; clear H82
                refine c_seq ?_
                refine c_region ?_
                refine l_val rfl rfl rfl (r_assign (v := .int .i64 2) rfl) ?_
                refine l_nil ?_
                refine c_ret ?_
                obtain rfl := Option.some.inj H83
                refine ret1 (v := .int .i64 2) rfl rfl (fin rfl)
              · have H84 := cnd_f hb H82; clear H82
                refine c_meet (r := r) (σ := Bool) (τ := Unit) (fun s => sync_checkValue_j5 a0 x4 s) (fun s t => [(1, .pointer (some ⟨b1, 0, none⟩)), (4, .bool x4), (69, .bool s)]) (fun s t => [cellsC b1 [.int .i64 a0.Dot.Device, .int .i64 a0.Dot.N, .int .i64 a0.Time, .int .i64 a0.Kind, .int .i64 a0.Id, str a0.Name, .int .i64 a0.Num, str a0.Text] 52]) (fun s t => True) ?_ ?_
                · refine c_region ?_
                  refine l_val rfl rfl rfl (r_field Tryd.runUnderlying52 rfl Tryd.sizeOf3 rfl rfl) ?_
                  refine l_load1 (i := 0) (v := .int .i64 a0.Kind) Tryd.isAgg3 rfl rfl rfl rfl rfl ?_
                  refine l_val rfl rfl rfl (r_eql rfl rfl) ?_
                  refine l_val rfl rfl rfl (r_move (v := .bool (decide (a0.Kind = 1))) rfl) ?_
                  refine split (fun hb => ?_) (fun hb => ?_)
                  · have H114 := cnd_t hb H84; clear H84
                    refine l_val rfl rfl rfl (r_field Tryd.runUnderlying52 rfl Tryd.sizeOf9 rfl rfl) ?_
                    refine l_load1 (i := 0) (v := str a0.Text) Tryd.isAgg9 rfl rfl rfl rfl rfl ?_
                    obtain ⟨t76, h_t76, H115⟩ := bnd_some H114; clear H114
                    refine l_call (k83 h_t76) Tryd.call83 rfl rfl rfl ?_
                    refine l_val rfl rfl rfl (r_not rfl) ?_
                    refine l_val rfl rfl rfl (r_pickT (v := .bool (!t76)) rfl rfl) ?_
                    refine l_val rfl rfl rfl (r_assign (v := .bool (!t76)) rfl) ?_
                    refine l_nil ?_
                    refine c_close (!t76) () 0 [0] (by exact ⟨rfl, rfl, rfl, trivial⟩) (by decide) rfl (by exact ⟨H115, trivial⟩) (Nat.lt_succ_self _)
                  · have H116 := cnd_f hb H84; clear H84
                    refine l_passed rfl rfl rfl ?_
                    refine l_passed rfl rfl rfl ?_
                    refine l_passed rfl rfl rfl ?_
                    refine l_passed rfl rfl rfl ?_
                    refine l_val rfl rfl rfl (r_pickF (v := .bool false) rfl rfl) ?_
                    refine l_val rfl rfl rfl (r_assign (v := .bool false) rfl) ?_
                    refine l_nil ?_
                    refine c_close false () 0 [0] (by exact ⟨rfl, rfl, rfl, trivial⟩) (by decide) rfl (by exact ⟨H116, trivial⟩) (Nat.lt_succ_self _)
                · rintro x69 _ gg H85 _
                  replace H85 : sync_checkValue_j5 a0 x4 x69 = some r := H85
                  refine c_tidyF [(1, .pointer (some ⟨b1, 0, none⟩)), (4, .bool x4), (69, .bool x69)] [cellsC b1 [.int .i64 a0.Dot.Device, .int .i64 a0.Dot.N, .int .i64 a0.Time, .int .i64 a0.Kind, .int .i64 a0.Id, str a0.Name, .int .i64 a0.Num, str a0.Text] 52] rfl rfl ?_
                  refine c_if (b := x69) rfl (fun hb => ?_) (fun hb => ?_)
                  · have H86 := cnd_t hb H85; clear H85
                    refine c_seq ?_
                    refine c_region ?_
                    refine l_val rfl rfl rfl (r_assign (v := .int .i64 1) rfl) ?_
                    refine l_nil ?_
                    refine c_ret ?_
                    obtain rfl := Option.some.inj H86
                    refine ret1 (v := .int .i64 1) rfl rfl (fin rfl)
                  · have H87 := cnd_f hb H85; clear H85
                    refine c_meet (r := r) (σ := Bool) (τ := Unit) (fun s => sync_checkValue_j6 a0 x4 s) (fun s t => [(1, .pointer (some ⟨b1, 0, none⟩)), (4, .bool x4), (79, .bool s)]) (fun s t => [cellsC b1 [.int .i64 a0.Dot.Device, .int .i64 a0.Dot.N, .int .i64 a0.Time, .int .i64 a0.Kind, .int .i64 a0.Id, str a0.Name, .int .i64 a0.Num, str a0.Text] 52]) (fun s t => True) ?_ ?_
                    · refine c_region ?_
                      refine l_val rfl rfl rfl (r_field Tryd.runUnderlying52 rfl Tryd.sizeOf3 rfl rfl) ?_
                      refine l_load1 (i := 0) (v := .int .i64 a0.Kind) Tryd.isAgg3 rfl rfl rfl rfl rfl ?_
                      refine l_val rfl rfl rfl (r_eql rfl rfl) ?_
                      refine l_val rfl rfl rfl (r_move (v := .bool (decide (a0.Kind = 2))) rfl) ?_
                      refine split (fun hb => ?_) (fun hb => ?_)
                      · have H111 := cnd_t hb H87; clear H87
                        refine l_val rfl rfl rfl (r_field Tryd.runUnderlying52 rfl Tryd.sizeOf3 rfl rfl) ?_
                        refine l_load1 (i := 0) (v := .int .i64 a0.Num) Tryd.isAgg3 rfl rfl rfl rfl rfl ?_
                        obtain ⟨t86, h_t86, H112⟩ := bnd_some H111; clear H111
                        refine l_call (k62 h_t86) Tryd.call62 rfl rfl rfl ?_
                        refine l_val rfl rfl rfl (r_pickT (v := .bool t86) rfl rfl) ?_
                        refine l_val rfl rfl rfl (r_assign (v := .bool t86) rfl) ?_
                        refine l_nil ?_
                        refine c_close t86 () 0 [0] (by exact ⟨rfl, rfl, rfl, trivial⟩) (by decide) rfl (by exact ⟨H112, trivial⟩) (Nat.lt_succ_self _)
                      · have H113 := cnd_f hb H87; clear H87
                        refine l_passed rfl rfl rfl ?_
                        refine l_passed rfl rfl rfl ?_
                        refine l_passed rfl rfl rfl ?_
                        refine l_val rfl rfl rfl (r_pickF (v := .bool false) rfl rfl) ?_
                        refine l_val rfl rfl rfl (r_assign (v := .bool false) rfl) ?_
                        refine l_nil ?_
                        refine c_close false () 0 [0] (by exact ⟨rfl, rfl, rfl, trivial⟩) (by decide) rfl (by exact ⟨H113, trivial⟩) (Nat.lt_succ_self _)
                    · rintro x79 _ gg H88 _
                      replace H88 : sync_checkValue_j6 a0 x4 x79 = some r := H88
                      refine c_tidyF [(1, .pointer (some ⟨b1, 0, none⟩)), (4, .bool x4), (79, .bool x79)] [cellsC b1 [.int .i64 a0.Dot.Device, .int .i64 a0.Dot.N, .int .i64 a0.Time, .int .i64 a0.Kind, .int .i64 a0.Id, str a0.Name, .int .i64 a0.Num, str a0.Text] 52] rfl rfl ?_
                      refine c_if (b := x79) rfl (fun hb => ?_) (fun hb => ?_)
                      · have H89 := cnd_t hb H88; clear H88
                        refine c_seq ?_
                        refine c_region ?_
                        refine l_val rfl rfl rfl (r_assign (v := .int .i64 2) rfl) ?_
                        refine l_nil ?_
                        refine c_ret ?_
                        obtain rfl := Option.some.inj H89
                        refine ret1 (v := .int .i64 2) rfl rfl (fin rfl)
                      · have H90 := cnd_f hb H88; clear H88
                        refine c_seq ?_
                        refine c_region ?_
                        refine l_val rfl rfl rfl (r_field Tryd.runUnderlying52 rfl Tryd.sizeOf3 rfl rfl) ?_
                        refine l_load1 (i := 0) (v := .int .i64 a0.Kind) Tryd.isAgg3 rfl rfl rfl rfl rfl ?_
                        refine l_val rfl rfl rfl (r_eql rfl rfl) ?_
                        refine l_val rfl rfl rfl (r_assign (v := .bool (decide (a0.Kind = 3))) rfl) ?_
                        refine l_nil ?_
                        refine c_if (b := (decide (a0.Kind = 3))) rfl (fun hb => ?_) (fun hb => ?_)
                        · have H91 := cnd_t hb H90; clear H90
                          refine c_seq ?_
                          refine c_region ?_
                          refine l_val rfl rfl rfl (r_field Tryd.runUnderlying52 rfl Tryd.sizeOf9 rfl rfl) ?_
                          refine l_load1 (i := 0) (v := str a0.Text) Tryd.isAgg9 rfl rfl rfl rfl rfl ?_
                          obtain ⟨t94, h_t94, H92⟩ := bnd_some H91; clear H91
                          refine l_call (k84 h_t94) Tryd.call84 rfl rfl rfl ?_
                          refine l_val rfl rfl rfl (r_assign (v := .int .i64 t94) rfl) ?_
                          refine l_nil ?_
                          refine c_ret ?_
                          obtain rfl := Option.some.inj H92
                          refine ret1 (v := .int .i64 t94) rfl rfl (fin rfl)
                        · have H93 := cnd_f hb H90; clear H90
                          refine c_meet (r := r) (σ := Bool) (τ := Unit) (fun s => sync_checkValue_j7 a0 x4 s) (fun s t => [(1, .pointer (some ⟨b1, 0, none⟩)), (4, .bool x4), (95, .bool s)]) (fun s t => [cellsC b1 [.int .i64 a0.Dot.Device, .int .i64 a0.Dot.N, .int .i64 a0.Time, .int .i64 a0.Kind, .int .i64 a0.Id, str a0.Name, .int .i64 a0.Num, str a0.Text] 52]) (fun s t => True) ?_ ?_
                          · refine c_region ?_
                            refine l_val rfl rfl rfl (r_field Tryd.runUnderlying52 rfl Tryd.sizeOf3 rfl rfl) ?_
                            refine l_load1 (i := 0) (v := .int .i64 a0.Kind) Tryd.isAgg3 rfl rfl rfl rfl rfl ?_
                            refine l_val rfl rfl rfl (r_eql rfl rfl) ?_
                            refine l_val rfl rfl rfl (r_move (v := .bool (decide (a0.Kind = 4))) rfl) ?_
                            refine split (fun hb => ?_) (fun hb => ?_)
                            · have H108 := cnd_t hb H93; clear H93
                              refine l_val rfl rfl rfl (r_field Tryd.runUnderlying52 rfl Tryd.sizeOf3 rfl rfl) ?_
                              refine l_load1 (i := 0) (v := .int .i64 a0.Num) Tryd.isAgg3 rfl rfl rfl rfl rfl ?_
                              obtain ⟨t102, h_t102, H109⟩ := bnd_some H108; clear H108
                              refine l_call (k62 h_t102) Tryd.call62 rfl rfl rfl ?_
                              refine l_val rfl rfl rfl (r_pickT (v := .bool t102) rfl rfl) ?_
                              refine l_val rfl rfl rfl (r_assign (v := .bool t102) rfl) ?_
                              refine l_nil ?_
                              refine c_close t102 () 0 [0] (by exact ⟨rfl, rfl, rfl, trivial⟩) (by decide) rfl (by exact ⟨H109, trivial⟩) (Nat.lt_succ_self _)
                            · have H110 := cnd_f hb H93; clear H93
                              refine l_passed rfl rfl rfl ?_
                              refine l_passed rfl rfl rfl ?_
                              refine l_passed rfl rfl rfl ?_
                              refine l_val rfl rfl rfl (r_pickF (v := .bool false) rfl rfl) ?_
                              refine l_val rfl rfl rfl (r_assign (v := .bool false) rfl) ?_
                              refine l_nil ?_
                              refine c_close false () 0 [0] (by exact ⟨rfl, rfl, rfl, trivial⟩) (by decide) rfl (by exact ⟨H110, trivial⟩) (Nat.lt_succ_self _)
                          · rintro x95 _ gg H94 _
                            replace H94 : sync_checkValue_j7 a0 x4 x95 = some r := H94
                            refine c_tidyF [(1, .pointer (some ⟨b1, 0, none⟩)), (4, .bool x4), (95, .bool x95)] [cellsC b1 [.int .i64 a0.Dot.Device, .int .i64 a0.Dot.N, .int .i64 a0.Time, .int .i64 a0.Kind, .int .i64 a0.Id, str a0.Name, .int .i64 a0.Num, str a0.Text] 52] rfl rfl ?_
                            refine c_if (b := x95) rfl (fun hb => ?_) (fun hb => ?_)
                            · have H95 := cnd_t hb H94; clear H94
                              refine c_seq ?_
                              refine c_region ?_
                              refine l_val rfl rfl rfl (r_assign (v := .int .i64 2) rfl) ?_
                              refine l_nil ?_
                              refine c_ret ?_
                              obtain rfl := Option.some.inj H95
                              refine ret1 (v := .int .i64 2) rfl rfl (fin rfl)
                            · have H96 := cnd_f hb H94; clear H94
                              refine c_meet (r := r) (σ := Bool) (τ := Unit) (fun s => sync_checkValue_j8 a0 s) (fun s t => [(1, .pointer (some ⟨b1, 0, none⟩)), (104, .bool s)]) (fun s t => [cellsC b1 [.int .i64 a0.Dot.Device, .int .i64 a0.Dot.N, .int .i64 a0.Time, .int .i64 a0.Kind, .int .i64 a0.Id, str a0.Name, .int .i64 a0.Num, str a0.Text] 52]) (fun s t => True) ?_ ?_
                              · refine c_region ?_
                                refine l_val rfl rfl rfl (r_move (v := .bool x4) rfl) ?_
                                refine l_val rfl rfl rfl (r_move (v := .bool x4) rfl) ?_
                                refine split (fun hb => ?_) (fun hb => ?_)
                                · have H105 := cnd_t hb H96; clear H96
                                  refine l_val rfl rfl rfl (r_field Tryd.runUnderlying52 rfl Tryd.sizeOf9 rfl rfl) ?_
                                  refine l_load1 (i := 0) (v := str a0.Name) Tryd.isAgg9 rfl rfl rfl rfl rfl ?_
                                  obtain ⟨t109, h_t109, H106⟩ := bnd_some H105; clear H105
                                  refine l_call (k85 h_t109) Tryd.call85 rfl rfl rfl ?_
                                  refine l_val rfl rfl rfl (r_not rfl) ?_
                                  refine l_val rfl rfl rfl (r_pickT (v := .bool (!t109)) rfl rfl) ?_
                                  refine l_val rfl rfl rfl (r_assign (v := .bool (!t109)) rfl) ?_
                                  refine l_nil ?_
                                  refine c_close (!t109) () 0 [0] (by exact ⟨rfl, rfl, trivial⟩) (by decide) rfl (by exact ⟨H106, trivial⟩) (Nat.lt_succ_self _)
                                · have H107 := cnd_f hb H96; clear H96
                                  refine l_passed rfl rfl rfl ?_
                                  refine l_passed rfl rfl rfl ?_
                                  refine l_passed rfl rfl rfl ?_
                                  refine l_passed rfl rfl rfl ?_
                                  refine l_val rfl rfl rfl (r_pickF (v := .bool false) rfl rfl) ?_
                                  refine l_val rfl rfl rfl (r_assign (v := .bool false) rfl) ?_
                                  refine l_nil ?_
                                  refine c_close false () 0 [0] (by exact ⟨rfl, rfl, trivial⟩) (by decide) rfl (by exact ⟨H107, trivial⟩) (Nat.lt_succ_self _)
                              · rintro x104 _ gg H97 _
                                replace H97 : sync_checkValue_j8 a0 x104 = some r := H97
                                refine c_tidyF [(1, .pointer (some ⟨b1, 0, none⟩)), (104, .bool x104)] [cellsC b1 [.int .i64 a0.Dot.Device, .int .i64 a0.Dot.N, .int .i64 a0.Time, .int .i64 a0.Kind, .int .i64 a0.Id, str a0.Name, .int .i64 a0.Num, str a0.Text] 52] rfl rfl ?_
                                refine c_if (b := x104) rfl (fun hb => ?_) (fun hb => ?_)
                                · have H98 := cnd_t hb H97; clear H97
                                  refine c_seq ?_
                                  refine c_region ?_
                                  refine l_val rfl rfl rfl (r_assign (v := .int .i64 3) rfl) ?_
                                  refine l_nil ?_
                                  refine c_ret ?_
                                  obtain rfl := Option.some.inj H98
                                  refine ret1 (v := .int .i64 3) rfl rfl (fin rfl)
                                · have H99 := cnd_f hb H97; clear H97
                                  refine c_seq ?_
                                  refine c_region ?_
                                  refine l_val rfl rfl rfl (r_field Tryd.runUnderlying52 rfl Tryd.sizeOf3 rfl rfl) ?_
                                  refine l_load1 (i := 0) (v := .int .i64 a0.Kind) Tryd.isAgg3 rfl rfl rfl rfl rfl ?_
                                  refine l_val rfl rfl rfl (r_eql rfl rfl) ?_
                                  refine l_val rfl rfl rfl (r_move (v := .bool (decide (a0.Kind = 6))) rfl) ?_
                                  refine split (fun hb => ?_) (fun hb => ?_)
                                  · have H100 := cnd_t hb H99; clear H99
                                    refine l_val rfl rfl rfl (r_field Tryd.runUnderlying52 rfl Tryd.sizeOf3 rfl rfl) ?_
                                    refine l_load1 (i := 0) (v := .int .i64 a0.Num) Tryd.isAgg3 rfl rfl rfl rfl rfl ?_
                                    obtain ⟨t119, h_t119, H101⟩ := bnd_some H100; clear H100
                                    refine l_call (k62 h_t119) Tryd.call62 rfl rfl rfl ?_
                                    refine l_val rfl rfl rfl (r_pickT (v := .bool t119) rfl rfl) ?_
                                    refine l_val rfl rfl rfl (r_assign (v := .bool t119) rfl) ?_
                                    refine l_nil ?_
                                    refine c_if (b := t119) rfl (fun hb => ?_) (fun hb => ?_)
                                    · have H102 := cnd_t hb H101; clear H101
                                      refine c_seq ?_
                                      refine c_region ?_
                                      refine l_val rfl rfl rfl (r_assign (v := .int .i64 2) rfl) ?_
                                      refine l_nil ?_
                                      refine c_ret ?_
                                      obtain rfl := Option.some.inj H102
                                      refine ret1 (v := .int .i64 2) rfl rfl (fin rfl)
                                    · have H103 := cnd_f hb H101; clear H101
                                      refine c_skip ?_
                                      refine c_seq ?_
                                      refine c_region ?_
                                      refine l_val rfl rfl rfl (r_assign (v := .int .i64 0) rfl) ?_
                                      refine l_nil ?_
                                      refine c_ret ?_
                                      obtain rfl := Option.some.inj H103
                                      refine ret1 (v := .int .i64 0) rfl rfl (fin rfl)
                                  · have H104 := cnd_f hb H99; clear H99
                                    refine l_passed rfl rfl rfl ?_
                                    refine l_passed rfl rfl rfl ?_
                                    refine l_passed rfl rfl rfl ?_
                                    refine l_val rfl rfl rfl (r_pickF (v := .bool false) rfl rfl) ?_
                                    refine l_val rfl rfl rfl (r_assign (v := .bool false) rfl) ?_
                                    refine l_nil ?_
                                    refine c_false rfl ?_
                                    refine c_skip ?_
                                    refine c_seq ?_
                                    refine c_region ?_
                                    refine l_val rfl rfl rfl (r_assign (v := .int .i64 0) rfl) ?_
                                    refine l_nil ?_
                                    refine c_ret ?_
                                    obtain rfl := Option.some.inj H104
                                    refine ret1 (v := .int .i64 0) rfl rfl (fin rfl)
theorem k28 {a0 : T_sync_Fact} {r : Int} (H : sync_CheckFact a0 = some r) : Ret Tryd.prog 28 [.agg #[.int .i64 a0.Dot.Device, .int .i64 a0.Dot.N, .int .i64 a0.Time, .int .i64 a0.Kind, .int .i64 a0.Id, str a0.Name, .int .i64 a0.Num, str a0.Text]] (.int .i64 r) := by
  refine enterRet (n := 20) Tryd.func28 rfl rfl rfl (fun wd => ?_)
  refine c_seq ?_
  refine c_region ?_
  refine l_box (cs := [.int .i64 a0.Dot.Device, .int .i64 a0.Dot.N, .int .i64 a0.Time, .int .i64 a0.Kind, .int .i64 a0.Id, str a0.Name, .int .i64 a0.Num, str a0.Text]) rfl rfl rfl rfl (fun b1 => ?_)
  refine l_val rfl rfl rfl (r_assign (v := .int .i64 0) rfl) ?_
  refine l_nil ?_
  refine c_seq ?_
  refine c_seq ?_
  refine c_region ?_
  refine l_val rfl rfl rfl (r_field Tryd.runUnderlying52 rfl Tryd.sizeOf50 rfl rfl) ?_
  refine l_val rfl rfl rfl (r_field Tryd.runUnderlying50 rfl Tryd.sizeOf3 rfl rfl) ?_
  refine l_load1 (i := 0) (v := .int .i64 a0.Dot.Device) Tryd.isAgg3 rfl rfl rfl rfl rfl ?_
  obtain ⟨t6, h_t6, H11⟩ := bnd_some H; clear H
  refine l_call (k62 h_t6) Tryd.call62 rfl rfl rfl ?_
  refine l_val rfl rfl rfl (r_move (v := .bool t6) rfl) ?_
  refine split (fun hb => ?_) (fun hb => ?_)
  · have H12 := cnd_t hb H11; clear H11
    refine l_passed rfl rfl rfl ?_
    refine l_passed rfl rfl rfl ?_
    refine l_passed rfl rfl rfl ?_
    refine l_passed rfl rfl rfl ?_
    refine l_val rfl rfl rfl (r_pickT (v := .bool true) rfl rfl) ?_
    refine l_val rfl rfl rfl (r_move (v := .bool true) rfl) ?_
    refine l_passed rfl rfl rfl ?_
    refine l_passed rfl rfl rfl ?_
    refine l_passed rfl rfl rfl ?_
    refine l_val rfl rfl rfl (r_pickT (v := .bool true) rfl rfl) ?_
    refine l_nil ?_
    refine c_true rfl ?_
    refine c_seq ?_
    refine c_region ?_
    refine l_val rfl rfl rfl (r_assign (v := .int .i64 2) rfl) ?_
    refine l_nil ?_
    refine c_ret ?_
    obtain rfl := Option.some.inj H12
    refine ret1 (v := .int .i64 2) rfl rfl (fin rfl)
  · have H13 := cnd_f hb H11; clear H11
    refine l_val rfl rfl rfl (r_field Tryd.runUnderlying52 rfl Tryd.sizeOf50 rfl rfl) ?_
    refine l_val rfl rfl rfl (r_field Tryd.runUnderlying50 rfl Tryd.sizeOf3 rfl rfl) ?_
    refine l_load1 (i := 0) (v := .int .i64 a0.Dot.N) Tryd.isAgg3 rfl rfl rfl rfl rfl ?_
    obtain ⟨t11, h_t11, H14⟩ := bnd_some H13; clear H13
    refine l_call (k62 h_t11) Tryd.call62 rfl rfl rfl ?_
    refine l_val rfl rfl rfl (r_pickF (v := .bool t11) rfl rfl) ?_
    refine l_val rfl rfl rfl (r_move (v := .bool t11) rfl) ?_
    refine split (fun hb => ?_) (fun hb => ?_)
    · have H15 := cnd_t hb H14; clear H14
      refine l_passed rfl rfl rfl ?_
      refine l_passed rfl rfl rfl ?_
      refine l_passed rfl rfl rfl ?_
      refine l_val rfl rfl rfl (r_pickT (v := .bool true) rfl rfl) ?_
      refine l_nil ?_
      refine c_true rfl ?_
      refine c_seq ?_
      refine c_region ?_
      refine l_val rfl rfl rfl (r_assign (v := .int .i64 2) rfl) ?_
      refine l_nil ?_
      refine c_ret ?_
      obtain rfl := Option.some.inj H15
      refine ret1 (v := .int .i64 2) rfl rfl (fin rfl)
    · have H16 := cnd_f hb H14; clear H14
      refine l_val rfl rfl rfl (r_field Tryd.runUnderlying52 rfl Tryd.sizeOf3 rfl rfl) ?_
      refine l_load1 (i := 0) (v := .int .i64 a0.Time) Tryd.isAgg3 rfl rfl rfl rfl rfl ?_
      obtain ⟨t16, h_t16, H17⟩ := bnd_some H16; clear H16
      refine l_call (k62 h_t16) Tryd.call62 rfl rfl rfl ?_
      refine l_val rfl rfl rfl (r_pickF (v := .bool t16) rfl rfl) ?_
      refine l_nil ?_
      refine c_if (b := t16) rfl (fun hb => ?_) (fun hb => ?_)
      · have H18 := cnd_t hb H17; clear H17
        refine c_seq ?_
        refine c_region ?_
        refine l_val rfl rfl rfl (r_assign (v := .int .i64 2) rfl) ?_
        refine l_nil ?_
        refine c_ret ?_
        obtain rfl := Option.some.inj H18
        refine ret1 (v := .int .i64 2) rfl rfl (fin rfl)
      · have H19 := cnd_f hb H17; clear H17
        refine c_skip ?_
        refine c_seq ?_
        refine c_region ?_
        refine l_loadN (i := 0) (vs := [.int .i64 a0.Dot.Device, .int .i64 a0.Dot.N, .int .i64 a0.Time, .int .i64 a0.Kind, .int .i64 a0.Id, str a0.Name, .int .i64 a0.Num, str a0.Text]) Tryd.isAgg52 Tryd.sizeOf52 rfl rfl rfl rfl rfl ?_
        obtain ⟨t19, h_t19, H20⟩ := bnd_some H19; clear H19
        refine l_call (k63 h_t19) Tryd.call63 rfl rfl rfl ?_
        refine l_val rfl rfl rfl (r_assign (v := .int .i64 t19) rfl) ?_
        refine l_nil ?_
        refine c_ret ?_
        obtain rfl := Option.some.inj H20
        refine ret1 (v := .int .i64 t19) rfl rfl (fin rfl)
theorem k86 {a0 : (List Int)} {v0 : Value} {a1 : Int} {r : Int} {w : World} {h : Heap} (hw : Know h w noS) (f0 : FrS h 1 v0 (a0.map e_i64)) (H : slices_Index_int a0 a1 = some r) : Does Tryd.prog 86 (List.toArray [v0, .int .i64 a1]) w (fun v w' => v = (.int .i64 r) ∧ Grow w w') := by
  refine enter (n := 19) Tryd.func86 rfl rfl rfl noS [] (Sat.nil _ _) ?_
  refine c_seq ?_
  refine c_region ?_
  refine l_val rfl rfl rfl (r_assign (v := .int .i64 0) rfl) ?_
  refine l_nil ?_
  refine c_seq ?_
  refine c_seq ?_
  refine c_region ?_
  refine l_val rfl rfl rfl (r_move (v := v0) rfl) ?_
  refine l_val rfl rfl rfl (r_lenF Tryd.underlying69 rfl f0 rfl) ?_
  refine l_val rfl rfl rfl (r_move (v := .int .i64 0) rfl) ?_
  refine l_nil ?_
  refine c_block ?_
  refine c_fix (σ := Int) (τ := Unit) (fun next1 s => slices_Index_int_l1 a0 a1 next1 s) (fun s t => [(0, v0), (1, .int .i64 a1), (7, .int .i64 (a0.length : Int)), (8, .int .i64 s)]) (fun s t => []) (fun s t => True) 0 () [] H (by exact trivial) (by exact ⟨rfl, rfl, rfl, rfl, trivial⟩) (by decide) rfl ?_
  rintro x8_2 _ m1 gg H8 _
  clear H
  replace H8 : slices_Index_int_l1 a0 a1 (it (fun next1 s => slices_Index_int_l1 a0 a1 next1 s) m1) x8_2 = some r := H8
  generalize hn1 : it (fun next1 s => slices_Index_int_l1 a0 a1 next1 s) m1 = next1 at H8
  refine c_tidyF [(0, v0), (1, .int .i64 a1), (7, .int .i64 (a0.length : Int)), (8, .int .i64 x8_2)] [] rfl rfl ?_
  refine c_seq ?_
  refine c_region ?_
  refine l_val rfl rfl rfl (r_lss rfl rfl) ?_
  refine l_nil ?_
  refine c_seq ?_
  refine c_if (b := (decide (x8_2 < (a0.length : Int)))) rfl (fun hb => ?_) (fun hb => ?_)
  · have H9 := cnd_t hb H8; clear H8
    refine c_skip ?_
    refine c_seq ?_
    refine c_block ?_
    refine c_seq ?_
    refine c_region ?_
    refine l_val rfl rfl rfl (r_move (v := .int .i64 x8_2) rfl) ?_
    refine l_val rfl rfl rfl (r_assign (v := .int .i64 x8_2) rfl) ?_
    refine l_nil ?_
    refine c_seq ?_
    refine c_region ?_
    refine l_val rfl rfl rfl (r_move (v := .int .i64 a1) rfl) ?_
    refine l_val rfl rfl rfl (r_move (v := v0) rfl) ?_
    refine l_val rfl rfl rfl (r_move (v := .int .i64 x8_2) rfl) ?_
    obtain ⟨t14, h_t14, H10⟩ := bnd_some H9; clear H9
    refine l_val rfl rfl rfl (r_indexF Tryd.underlying69 Tryd.sizeOf3 rfl rfl f0 h_t14) ?_
    refine l_read (fun w hF hS => run_loadG1 (f := e_i64) (i := x8_2) (sz := 1) (j := 0) (v := .int .i64 t14) Tryd.isAgg3 rfl rfl (f0.row (hw.now hF)) h_t14 rfl) rfl rfl rfl ?_
    refine l_val rfl rfl rfl (r_eql rfl rfl) ?_
    refine l_nil ?_
    refine c_if (b := (decide (a1 = t14))) rfl (fun hb => ?_) (fun hb => ?_)
    · have H11 := cnd_t hb H10; clear H10
      refine c_seq ?_
      refine c_region ?_
      refine l_val rfl rfl rfl (r_move (v := .int .i64 x8_2) rfl) ?_
      refine l_val rfl rfl rfl (r_assign (v := .int .i64 x8_2) rfl) ?_
      refine l_nil ?_
      refine c_ret ?_
      obtain rfl := Option.some.inj H11
      refine ret1 (v := .int .i64 x8_2) rfl rfl (fin rfl)
    · have H12 := cnd_f hb H10; clear H10
      refine c_skip ?_
      refine c_region ?_
      obtain ⟨t18, h_t18, H13⟩ := bnd_some H12; clear H12
      refine l_val rfl rfl rfl (r_addG rfl rfl h_t18) ?_
      refine l_val rfl rfl rfl (r_move (v := .int .i64 t18) rfl) ?_
      refine l_nil ?_
      refine c_close t18 () m1 [] (by exact ⟨rfl, rfl, rfl, rfl, trivial⟩) (by decide) rfl (by exact ⟨(by subst hn1; exact H13), trivial⟩) (Nat.lt_succ_self _)
  · have H14 := cnd_f hb H8; clear H8
    refine c_exit ?_
    refine c_seq ?_
    refine c_region ?_
    refine l_val rfl rfl rfl (r_assign (v := .int .i64 (-1)) rfl) ?_
    refine l_nil ?_
    refine c_ret ?_
    obtain rfl := Option.some.inj H14
    refine ret1 (v := .int .i64 (-1)) rfl rfl (fin rfl)
theorem k65 {a0 : (List Int)} {v0 : Value} {a1 : Int} {r : Bool} {w : World} {h : Heap} (hw : Know h w noS) (f0 : FrS h 1 v0 (a0.map e_i64)) (H : slices_Contains_int a0 a1 = some r) : Does Tryd.prog 65 (List.toArray [v0, .int .i64 a1]) w (fun v w' => v = (.bool r) ∧ Grow w w') := by
  refine enter (n := 9) Tryd.func65 rfl rfl rfl noS [] (Sat.nil _ _) ?_
  refine c_seq ?_
  refine c_region ?_
  refine l_val rfl rfl rfl (r_assign (v := .bool false) rfl) ?_
  refine l_nil ?_
  refine c_seq ?_
  refine c_region ?_
  refine l_val rfl rfl rfl (r_move (v := v0) rfl) ?_
  refine l_val rfl rfl rfl (r_move (v := .int .i64 a1) rfl) ?_
  obtain ⟨t7, h_t7, H2⟩ := bnd_some H; clear H
  refine l_callG (fun w hF hS => k86 (know_all w) (f0.mono (hw.now hF)) h_t7) Tryd.call86 rfl rfl rfl ?_
  refine l_val rfl rfl rfl (r_geq rfl rfl) ?_
  refine l_val rfl rfl rfl (r_assign (v := .bool (decide (0 ≤ t7))) rfl) ?_
  refine l_nil ?_
  refine c_ret ?_
  obtain rfl := Option.some.inj H2
  refine ret1 (v := .bool (decide (0 ≤ t7))) rfl rfl (fin rfl)
theorem k64 {q0 : T_sync_Fact} {c0 : Nat} {a0 : (List Int)} {v0 : Value} {r : Bool} {w : World} {h : Heap} (hw : Know h w noS) (hc0 : h c0 = some (.cells (List.toArray [.int .i64 q0.Dot.Device, .int .i64 q0.Dot.N, .int .i64 q0.Time, .int .i64 q0.Kind, .int .i64 q0.Id, str q0.Name, .int .i64 q0.Num, str q0.Text]) 52 (0, 0))) (f0 : FrS h 1 v0 (a0.map e_i64)) (H : R_FactFault_1 q0 a0 = some r) : Does Tryd.prog 64 (List.toArray [v0, .pointer (some ⟨c0, 0, none⟩)]) w (fun v w' => v = (.bool r) ∧ Grow w w') := by
  refine enter (n := 8) Tryd.func64 rfl rfl rfl noS [] (Sat.nil _ _) ?_
  refine c_seq ?_
  refine c_region ?_
  refine l_val rfl rfl rfl (r_assign (v := .bool false) rfl) ?_
  refine l_nil ?_
  refine c_seq ?_
  refine c_region ?_
  refine l_val rfl rfl rfl (r_move (v := v0) rfl) ?_
  refine l_val rfl rfl rfl (r_field Tryd.runUnderlying52 rfl Tryd.sizeOf3 rfl rfl) ?_
  refine l_read (fun w hF hS => run_loadK1 (v := .int .i64 q0.Kind) Tryd.isAgg3 rfl (hw.now hF _ _ hc0) rfl) rfl rfl rfl ?_
  obtain ⟨t7, h_t7, H2⟩ := bnd_some H; clear H
  refine l_callG (fun w hF hS => k65 (know_all w) (f0.mono (hw.now hF)) h_t7) Tryd.call65 rfl rfl rfl ?_
  refine l_val rfl rfl rfl (r_assign (v := .bool t7) rfl) ?_
  refine l_nil ?_
  refine c_ret ?_
  obtain rfl := Option.some.inj H2
  refine ret1 (v := .bool t7) rfl rfl (fin rfl)
theorem k66 {a0 : Int} {r : Bool} (H : R_idOk a0 = some r) : Ret Tryd.prog 66 [.int .i64 a0] (.bool r) := by
  refine enterRet (n := 9) Tryd.func66 rfl rfl rfl (fun wd => ?_)
  refine c_seq ?_
  refine c_region ?_
  refine l_val rfl rfl rfl (r_assign (v := .bool false) rfl) ?_
  refine l_nil ?_
  refine c_seq ?_
  refine c_region ?_
  refine l_val rfl rfl rfl (r_move (v := .int .i64 a0) rfl) ?_
  refine l_val rfl rfl rfl (r_geq rfl rfl) ?_
  refine l_val rfl rfl rfl (r_move (v := .bool (decide (1 ≤ a0))) rfl) ?_
  refine split (fun hb => ?_) (fun hb => ?_)
  · have H3 := cnd_t hb H; clear H
    refine l_val rfl rfl rfl (r_move (v := .int .i64 a0) rfl) ?_
    refine l_val rfl rfl rfl (r_leq rfl rfl) ?_
    refine l_val rfl rfl rfl (r_pickT (v := .bool (decide (a0 ≤ 1000000))) rfl rfl) ?_
    refine l_val rfl rfl rfl (r_assign (v := .bool (decide (a0 ≤ 1000000))) rfl) ?_
    refine l_nil ?_
    refine c_ret ?_
    obtain rfl := Option.some.inj H3
    refine ret1 (v := .bool (decide (a0 ≤ 1000000))) rfl rfl (fin rfl)
  · have H4 := cnd_f hb H; clear H
    refine l_passed rfl rfl rfl ?_
    refine l_passed rfl rfl rfl ?_
    refine l_val rfl rfl rfl (r_pickF (v := .bool false) rfl rfl) ?_
    refine l_val rfl rfl rfl (r_assign (v := .bool false) rfl) ?_
    refine l_nil ?_
    refine c_ret ?_
    obtain rfl := Option.some.inj H4
    refine ret1 (v := .bool false) rfl rfl (fin rfl)
theorem k68 {a0 : (List UInt8)} {r : Bool} (H : R_NameOk a0 = some r) : Ret Tryd.prog 68 [str a0] (.bool r) := by
  refine enterRet (n := 25) Tryd.func68 rfl rfl rfl (fun wd => ?_)
  refine c_seq ?_
  refine c_region ?_
  refine l_val rfl rfl rfl (r_assign (v := .bool false) rfl) ?_
  refine l_nil ?_
  refine c_seq ?_
  refine c_region ?_
  refine l_val rfl rfl rfl (r_move (v := str a0) rfl) ?_
  refine l_val rfl rfl rfl (r_neqT rfl rfl) ?_
  refine l_val rfl rfl rfl (r_move (v := .bool (decide (a0 ≠ []))) rfl) ?_
  refine split (fun hb => ?_) (fun hb => ?_)
  · have H12 := cnd_t hb H; clear H
    refine l_val rfl rfl rfl (r_move (v := str a0) rfl) ?_
    refine l_val rfl rfl rfl (r_lenT Tryd.underlying9 rfl) ?_
    refine l_val rfl rfl rfl (r_leq rfl rfl) ?_
    refine l_val rfl rfl rfl (r_pickT (v := .bool (decide ((a0.length : Int) ≤ 40))) rfl rfl) ?_
    refine l_val rfl rfl rfl (r_move (v := .bool (decide ((a0.length : Int) ≤ 40))) rfl) ?_
    refine split (fun hb => ?_) (fun hb => ?_)
    · have H13 := cnd_t hb H12; clear H12
      refine l_val rfl rfl rfl (r_move (v := str a0) rfl) ?_
      obtain ⟨t12, h_t12, H14⟩ := bnd_some H13; clear H13
      refine l_val rfl rfl rfl (r_octG Tryd.underlying9 rfl rfl h_t12) ?_
      refine l_val rfl rfl rfl (r_geq rfl rfl) ?_
      refine l_val rfl rfl rfl (r_pickT (v := .bool (decide (97 ≤ t12))) rfl rfl) ?_
      refine l_val rfl rfl rfl (r_move (v := .bool (decide (97 ≤ t12))) rfl) ?_
      refine split (fun hb => ?_) (fun hb => ?_)
      · have H15 := cnd_t hb H14; clear H14
        refine l_val rfl rfl rfl (r_move (v := str a0) rfl) ?_
        obtain ⟨t17, h_t17, H16⟩ := bnd_some H15; clear H15
        refine l_val rfl rfl rfl (r_octG Tryd.underlying9 rfl rfl h_t17) ?_
        refine l_val rfl rfl rfl (r_leq rfl rfl) ?_
        refine l_val rfl rfl rfl (r_pickT (v := .bool (decide (t17 ≤ 122))) rfl rfl) ?_
        refine l_val rfl rfl rfl (r_move (v := .bool (decide (t17 ≤ 122))) rfl) ?_
        refine split (fun hb => ?_) (fun hb => ?_)
        · have H17 := cnd_t hb H16; clear H16
          refine l_val rfl rfl rfl (r_move (v := str a0) rfl) ?_
          obtain ⟨t22, h_t22, H18⟩ := bnd_some H17; clear H17
          refine l_call (k67 h_t22) Tryd.call67 rfl rfl rfl ?_
          refine l_val rfl rfl rfl (r_eqlT rfl rfl) ?_
          refine l_val rfl rfl rfl (r_pickT (v := .bool (decide (t22 = []))) rfl rfl) ?_
          refine l_val rfl rfl rfl (r_assign (v := .bool (decide (t22 = []))) rfl) ?_
          refine l_nil ?_
          refine c_ret ?_
          obtain rfl := Option.some.inj H18
          refine ret1 (v := .bool (decide (t22 = []))) rfl rfl (fin rfl)
        · have H19 := cnd_f hb H16; clear H16
          refine l_passed rfl rfl rfl ?_
          refine l_passed rfl rfl rfl ?_
          refine l_passed rfl rfl rfl ?_
          refine l_val rfl rfl rfl (r_pickF (v := .bool false) rfl rfl) ?_
          refine l_val rfl rfl rfl (r_assign (v := .bool false) rfl) ?_
          refine l_nil ?_
          refine c_ret ?_
          obtain rfl := Option.some.inj H19
          refine ret1 (v := .bool false) rfl rfl (fin rfl)
      · have H20 := cnd_f hb H14; clear H14
        refine l_passed rfl rfl rfl ?_
        refine l_passed rfl rfl rfl ?_
        refine l_passed rfl rfl rfl ?_
        refine l_val rfl rfl rfl (r_pickF (v := .bool false) rfl rfl) ?_
        refine l_val rfl rfl rfl (r_move (v := .bool false) rfl) ?_
        refine l_passed rfl rfl rfl ?_
        refine l_passed rfl rfl rfl ?_
        refine l_passed rfl rfl rfl ?_
        refine l_val rfl rfl rfl (r_pickF (v := .bool false) rfl rfl) ?_
        refine l_val rfl rfl rfl (r_assign (v := .bool false) rfl) ?_
        refine l_nil ?_
        refine c_ret ?_
        obtain rfl := Option.some.inj H20
        refine ret1 (v := .bool false) rfl rfl (fin rfl)
    · have H21 := cnd_f hb H12; clear H12
      refine l_passed rfl rfl rfl ?_
      refine l_passed rfl rfl rfl ?_
      refine l_passed rfl rfl rfl ?_
      refine l_val rfl rfl rfl (r_pickF (v := .bool false) rfl rfl) ?_
      refine l_val rfl rfl rfl (r_move (v := .bool false) rfl) ?_
      refine l_passed rfl rfl rfl ?_
      refine l_passed rfl rfl rfl ?_
      refine l_passed rfl rfl rfl ?_
      refine l_val rfl rfl rfl (r_pickF (v := .bool false) rfl rfl) ?_
      refine l_val rfl rfl rfl (r_move (v := .bool false) rfl) ?_
      refine l_passed rfl rfl rfl ?_
      refine l_passed rfl rfl rfl ?_
      refine l_passed rfl rfl rfl ?_
      refine l_val rfl rfl rfl (r_pickF (v := .bool false) rfl rfl) ?_
      refine l_val rfl rfl rfl (r_assign (v := .bool false) rfl) ?_
      refine l_nil ?_
      refine c_ret ?_
      obtain rfl := Option.some.inj H21
      refine ret1 (v := .bool false) rfl rfl (fin rfl)
  · have H22 := cnd_f hb H; clear H
    refine l_passed rfl rfl rfl ?_
    refine l_passed rfl rfl rfl ?_
    refine l_passed rfl rfl rfl ?_
    refine l_val rfl rfl rfl (r_pickF (v := .bool false) rfl rfl) ?_
    refine l_val rfl rfl rfl (r_move (v := .bool false) rfl) ?_
    refine l_passed rfl rfl rfl ?_
    refine l_passed rfl rfl rfl ?_
    refine l_passed rfl rfl rfl ?_
    refine l_val rfl rfl rfl (r_pickF (v := .bool false) rfl rfl) ?_
    refine l_val rfl rfl rfl (r_move (v := .bool false) rfl) ?_
    refine l_passed rfl rfl rfl ?_
    refine l_passed rfl rfl rfl ?_
    refine l_passed rfl rfl rfl ?_
    refine l_val rfl rfl rfl (r_pickF (v := .bool false) rfl rfl) ?_
    refine l_val rfl rfl rfl (r_move (v := .bool false) rfl) ?_
    refine l_passed rfl rfl rfl ?_
    refine l_passed rfl rfl rfl ?_
    refine l_passed rfl rfl rfl ?_
    refine l_val rfl rfl rfl (r_pickF (v := .bool false) rfl rfl) ?_
    refine l_val rfl rfl rfl (r_assign (v := .bool false) rfl) ?_
    refine l_nil ?_
    refine c_ret ?_
    obtain rfl := Option.some.inj H22
    refine ret1 (v := .bool false) rfl rfl (fin rfl)
theorem k29 {a0 : T_sync_Fact} {r : Int} (H : R_FactFault a0 = some r) : Ret Tryd.prog 29 [.agg #[.int .i64 a0.Dot.Device, .int .i64 a0.Dot.N, .int .i64 a0.Time, .int .i64 a0.Kind, .int .i64 a0.Id, str a0.Name, .int .i64 a0.Num, str a0.Text]] (.int .i64 r) := by
  refine enterRet (n := 145) Tryd.func29 rfl rfl rfl (fun wd => ?_)
  refine c_seq ?_
  refine c_region ?_
  refine l_box (cs := [.int .i64 a0.Dot.Device, .int .i64 a0.Dot.N, .int .i64 a0.Time, .int .i64 a0.Kind, .int .i64 a0.Id, str a0.Name, .int .i64 a0.Num, str a0.Text]) rfl rfl rfl rfl (fun b4 => ?_)
  refine l_val rfl rfl rfl (r_assign (v := .int .i64 0) rfl) ?_
  refine l_nil ?_
  refine c_seq ?_
  refine c_region ?_
  refine l_val rfl rfl rfl (r_makeFn (caps := #[.pointer (some ⟨b4, 0, none⟩)]) rfl) ?_
  refine l_val rfl rfl rfl (r_assign (v := .func (.func 64) #[] #[.pointer (some ⟨b4, 0, none⟩)]) rfl) ?_
  refine l_nil ?_
  refine c_meet (r := r) (σ := Unit) (τ := Unit) (fun s => R_FactFault_j1 a0) (fun s t => [(1, .pointer (some ⟨b4, 0, none⟩))]) (fun s t => [cellsC b4 [.int .i64 a0.Dot.Device, .int .i64 a0.Dot.N, .int .i64 a0.Time, .int .i64 a0.Kind, .int .i64 a0.Id, str a0.Name, .int .i64 a0.Num, str a0.Text] 52]) (fun s t => True) ?_ ?_
  · refine c_block ?_
    refine c_seq ?_
    refine c_region ?_
    refine l_val rfl rfl rfl (r_field Tryd.runUnderlying52 rfl Tryd.sizeOf50 rfl rfl) ?_
    refine l_val rfl rfl rfl (r_field Tryd.runUnderlying50 rfl Tryd.sizeOf3 rfl rfl) ?_
    refine l_load1 (i := 0) (v := .int .i64 a0.Dot.Device) Tryd.isAgg3 rfl rfl rfl rfl rfl ?_
    refine l_val rfl rfl rfl (r_lss rfl rfl) ?_
    refine l_val rfl rfl rfl (r_move (v := .bool (decide (a0.Dot.Device < 0))) rfl) ?_
    refine split (fun hb => ?_) (fun hb => ?_)
    · have H126 := cnd_t hb H; clear H
      refine l_passed rfl rfl rfl ?_
      refine l_passed rfl rfl rfl ?_
      refine l_passed rfl rfl rfl ?_
      refine l_passed rfl rfl rfl ?_
      refine l_val rfl rfl rfl (r_pickT (v := .bool true) rfl rfl) ?_
      refine l_val rfl rfl rfl (r_move (v := .bool true) rfl) ?_
      refine l_passed rfl rfl rfl ?_
      refine l_passed rfl rfl rfl ?_
      refine l_passed rfl rfl rfl ?_
      refine l_passed rfl rfl rfl ?_
      refine l_val rfl rfl rfl (r_pickT (v := .bool true) rfl rfl) ?_
      refine l_val rfl rfl rfl (r_move (v := .bool true) rfl) ?_
      refine l_passed rfl rfl rfl ?_
      refine l_passed rfl rfl rfl ?_
      refine l_passed rfl rfl rfl ?_
      refine l_passed rfl rfl rfl ?_
      refine l_val rfl rfl rfl (r_pickT (v := .bool true) rfl rfl) ?_
      refine l_val rfl rfl rfl (r_move (v := .bool true) rfl) ?_
      refine l_passed rfl rfl rfl ?_
      refine l_passed rfl rfl rfl ?_
      refine l_passed rfl rfl rfl ?_
      refine l_val rfl rfl rfl (r_pickT (v := .bool true) rfl rfl) ?_
      refine l_val rfl rfl rfl (r_move (v := .bool true) rfl) ?_
      refine l_passed rfl rfl rfl ?_
      refine l_passed rfl rfl rfl ?_
      refine l_passed rfl rfl rfl ?_
      refine l_val rfl rfl rfl (r_pickT (v := .bool true) rfl rfl) ?_
      refine l_val rfl rfl rfl (r_assign (v := .bool true) rfl) ?_
      refine l_nil ?_
      refine c_true rfl ?_
      refine c_seq ?_
      refine c_region ?_
      refine l_val rfl rfl rfl (r_assign (v := .int .i64 2) rfl) ?_
      refine l_nil ?_
      refine c_ret ?_
      obtain rfl := Option.some.inj H126
      refine ret1 (v := .int .i64 2) rfl rfl (fin rfl)
    · have H127 := cnd_f hb H; clear H
      refine l_val rfl rfl rfl (r_field Tryd.runUnderlying52 rfl Tryd.sizeOf50 rfl rfl) ?_
      refine l_val rfl rfl rfl (r_field Tryd.runUnderlying50 rfl Tryd.sizeOf3 rfl rfl) ?_
      refine l_load1 (i := 0) (v := .int .i64 a0.Dot.Device) Tryd.isAgg3 rfl rfl rfl rfl rfl ?_
      refine l_val rfl rfl rfl (r_geq rfl rfl) ?_
      refine l_val rfl rfl rfl (r_pickF (v := .bool (decide (16 ≤ a0.Dot.Device))) rfl rfl) ?_
      refine l_val rfl rfl rfl (r_move (v := .bool (decide (16 ≤ a0.Dot.Device))) rfl) ?_
      refine split (fun hb => ?_) (fun hb => ?_)
      · have H128 := cnd_t hb H127; clear H127
        refine l_passed rfl rfl rfl ?_
        refine l_passed rfl rfl rfl ?_
        refine l_passed rfl rfl rfl ?_
        refine l_passed rfl rfl rfl ?_
        refine l_val rfl rfl rfl (r_pickT (v := .bool true) rfl rfl) ?_
        refine l_val rfl rfl rfl (r_move (v := .bool true) rfl) ?_
        refine l_passed rfl rfl rfl ?_
        refine l_passed rfl rfl rfl ?_
        refine l_passed rfl rfl rfl ?_
        refine l_passed rfl rfl rfl ?_
        refine l_val rfl rfl rfl (r_pickT (v := .bool true) rfl rfl) ?_
        refine l_val rfl rfl rfl (r_move (v := .bool true) rfl) ?_
        refine l_passed rfl rfl rfl ?_
        refine l_passed rfl rfl rfl ?_
        refine l_passed rfl rfl rfl ?_
        refine l_val rfl rfl rfl (r_pickT (v := .bool true) rfl rfl) ?_
        refine l_val rfl rfl rfl (r_move (v := .bool true) rfl) ?_
        refine l_passed rfl rfl rfl ?_
        refine l_passed rfl rfl rfl ?_
        refine l_passed rfl rfl rfl ?_
        refine l_val rfl rfl rfl (r_pickT (v := .bool true) rfl rfl) ?_
        refine l_val rfl rfl rfl (r_assign (v := .bool true) rfl) ?_
        refine l_nil ?_
        refine c_true rfl ?_
        refine c_seq ?_
        refine c_region ?_
        refine l_val rfl rfl rfl (r_assign (v := .int .i64 2) rfl) ?_
        refine l_nil ?_
        refine c_ret ?_
        obtain rfl := Option.some.inj H128
        refine ret1 (v := .int .i64 2) rfl rfl (fin rfl)
      · have H129 := cnd_f hb H127; clear H127
        refine l_val rfl rfl rfl (r_field Tryd.runUnderlying52 rfl Tryd.sizeOf50 rfl rfl) ?_
        refine l_val rfl rfl rfl (r_field Tryd.runUnderlying50 rfl Tryd.sizeOf3 rfl rfl) ?_
        refine l_load1 (i := 0) (v := .int .i64 a0.Dot.N) Tryd.isAgg3 rfl rfl rfl rfl rfl ?_
        refine l_val rfl rfl rfl (r_lss rfl rfl) ?_
        refine l_val rfl rfl rfl (r_pickF (v := .bool (decide (a0.Dot.N < 1))) rfl rfl) ?_
        refine l_val rfl rfl rfl (r_move (v := .bool (decide (a0.Dot.N < 1))) rfl) ?_
        refine split (fun hb => ?_) (fun hb => ?_)
        · have H130 := cnd_t hb H129; clear H129
          refine l_passed rfl rfl rfl ?_
          refine l_passed rfl rfl rfl ?_
          refine l_passed rfl rfl rfl ?_
          refine l_passed rfl rfl rfl ?_
          refine l_val rfl rfl rfl (r_pickT (v := .bool true) rfl rfl) ?_
          refine l_val rfl rfl rfl (r_move (v := .bool true) rfl) ?_
          refine l_passed rfl rfl rfl ?_
          refine l_passed rfl rfl rfl ?_
          refine l_passed rfl rfl rfl ?_
          refine l_val rfl rfl rfl (r_pickT (v := .bool true) rfl rfl) ?_
          refine l_val rfl rfl rfl (r_move (v := .bool true) rfl) ?_
          refine l_passed rfl rfl rfl ?_
          refine l_passed rfl rfl rfl ?_
          refine l_passed rfl rfl rfl ?_
          refine l_val rfl rfl rfl (r_pickT (v := .bool true) rfl rfl) ?_
          refine l_val rfl rfl rfl (r_assign (v := .bool true) rfl) ?_
          refine l_nil ?_
          refine c_true rfl ?_
          refine c_seq ?_
          refine c_region ?_
          refine l_val rfl rfl rfl (r_assign (v := .int .i64 2) rfl) ?_
          refine l_nil ?_
          refine c_ret ?_
          obtain rfl := Option.some.inj H130
          refine ret1 (v := .int .i64 2) rfl rfl (fin rfl)
        · have H131 := cnd_f hb H129; clear H129
          refine l_val rfl rfl rfl (r_field Tryd.runUnderlying52 rfl Tryd.sizeOf50 rfl rfl) ?_
          refine l_val rfl rfl rfl (r_field Tryd.runUnderlying50 rfl Tryd.sizeOf3 rfl rfl) ?_
          refine l_load1 (i := 0) (v := .int .i64 a0.Dot.N) Tryd.isAgg3 rfl rfl rfl rfl rfl ?_
          refine l_val rfl rfl rfl (r_gtr rfl rfl) ?_
          refine l_val rfl rfl rfl (r_pickF (v := .bool (decide (1000000 < a0.Dot.N))) rfl rfl) ?_
          refine l_val rfl rfl rfl (r_move (v := .bool (decide (1000000 < a0.Dot.N))) rfl) ?_
          refine split (fun hb => ?_) (fun hb => ?_)
          · have H132 := cnd_t hb H131; clear H131
            refine l_passed rfl rfl rfl ?_
            refine l_passed rfl rfl rfl ?_
            refine l_passed rfl rfl rfl ?_
            refine l_val rfl rfl rfl (r_pickT (v := .bool true) rfl rfl) ?_
            refine l_val rfl rfl rfl (r_move (v := .bool true) rfl) ?_
            refine l_passed rfl rfl rfl ?_
            refine l_passed rfl rfl rfl ?_
            refine l_passed rfl rfl rfl ?_
            refine l_val rfl rfl rfl (r_pickT (v := .bool true) rfl rfl) ?_
            refine l_val rfl rfl rfl (r_assign (v := .bool true) rfl) ?_
            refine l_nil ?_
            refine c_true rfl ?_
            refine c_seq ?_
            refine c_region ?_
            refine l_val rfl rfl rfl (r_assign (v := .int .i64 2) rfl) ?_
            refine l_nil ?_
            refine c_ret ?_
            obtain rfl := Option.some.inj H132
            refine ret1 (v := .int .i64 2) rfl rfl (fin rfl)
          · have H133 := cnd_f hb H131; clear H131
            refine l_val rfl rfl rfl (r_field Tryd.runUnderlying52 rfl Tryd.sizeOf3 rfl rfl) ?_
            refine l_load1 (i := 0) (v := .int .i64 a0.Time) Tryd.isAgg3 rfl rfl rfl rfl rfl ?_
            refine l_val rfl rfl rfl (r_lss rfl rfl) ?_
            refine l_val rfl rfl rfl (r_pickF (v := .bool (decide (a0.Time < 1))) rfl rfl) ?_
            refine l_val rfl rfl rfl (r_move (v := .bool (decide (a0.Time < 1))) rfl) ?_
            refine split (fun hb => ?_) (fun hb => ?_)
            · have H134 := cnd_t hb H133; clear H133
              refine l_passed rfl rfl rfl ?_
              refine l_passed rfl rfl rfl ?_
              refine l_passed rfl rfl rfl ?_
              refine l_val rfl rfl rfl (r_pickT (v := .bool true) rfl rfl) ?_
              refine l_val rfl rfl rfl (r_assign (v := .bool true) rfl) ?_
              refine l_nil ?_
              refine c_true rfl ?_
              refine c_seq ?_
              refine c_region ?_
              refine l_val rfl rfl rfl (r_assign (v := .int .i64 2) rfl) ?_
              refine l_nil ?_
              refine c_ret ?_
              obtain rfl := Option.some.inj H134
              refine ret1 (v := .int .i64 2) rfl rfl (fin rfl)
            · have H135 := cnd_f hb H133; clear H133
              refine l_val rfl rfl rfl (r_field Tryd.runUnderlying52 rfl Tryd.sizeOf3 rfl rfl) ?_
              refine l_load1 (i := 0) (v := .int .i64 a0.Time) Tryd.isAgg3 rfl rfl rfl rfl rfl ?_
              refine l_val rfl rfl rfl (r_gtr rfl rfl) ?_
              refine l_val rfl rfl rfl (r_pickF (v := .bool (decide (1000000 < a0.Time))) rfl rfl) ?_
              refine l_val rfl rfl rfl (r_assign (v := .bool (decide (1000000 < a0.Time))) rfl) ?_
              refine l_nil ?_
              refine c_if (b := (decide (1000000 < a0.Time))) rfl (fun hb => ?_) (fun hb => ?_)
              · have H136 := cnd_t hb H135; clear H135
                refine c_seq ?_
                refine c_region ?_
                refine l_val rfl rfl rfl (r_assign (v := .int .i64 2) rfl) ?_
                refine l_nil ?_
                refine c_ret ?_
                obtain rfl := Option.some.inj H136
                refine ret1 (v := .int .i64 2) rfl rfl (fin rfl)
              · have H137 := cnd_f hb H135; clear H135
                refine c_seq ?_
                refine c_region ?_
                refine l_val rfl rfl rfl (r_field Tryd.runUnderlying52 rfl Tryd.sizeOf3 rfl rfl) ?_
                refine l_load1 (i := 0) (v := .int .i64 a0.Kind) Tryd.isAgg3 rfl rfl rfl rfl rfl ?_
                refine l_val rfl rfl rfl (r_lss rfl rfl) ?_
                refine l_val rfl rfl rfl (r_move (v := .bool (decide (a0.Kind < 1))) rfl) ?_
                refine split (fun hb => ?_) (fun hb => ?_)
                · have H138 := cnd_t hb H137; clear H137
                  refine l_passed rfl rfl rfl ?_
                  refine l_passed rfl rfl rfl ?_
                  refine l_passed rfl rfl rfl ?_
                  refine l_val rfl rfl rfl (r_pickT (v := .bool true) rfl rfl) ?_
                  refine l_val rfl rfl rfl (r_assign (v := .bool true) rfl) ?_
                  refine l_nil ?_
                  refine c_true rfl ?_
                  refine c_seq ?_
                  refine c_region ?_
                  refine l_val rfl rfl rfl (r_assign (v := .int .i64 10) rfl) ?_
                  refine l_nil ?_
                  refine c_ret ?_
                  obtain rfl := Option.some.inj H138
                  refine ret1 (v := .int .i64 10) rfl rfl (fin rfl)
                · have H139 := cnd_f hb H137; clear H137
                  refine l_val rfl rfl rfl (r_field Tryd.runUnderlying52 rfl Tryd.sizeOf3 rfl rfl) ?_
                  refine l_load1 (i := 0) (v := .int .i64 a0.Kind) Tryd.isAgg3 rfl rfl rfl rfl rfl ?_
                  refine l_val rfl rfl rfl (r_gtr rfl rfl) ?_
                  refine l_val rfl rfl rfl (r_pickF (v := .bool (decide (6 < a0.Kind))) rfl rfl) ?_
                  refine l_val rfl rfl rfl (r_assign (v := .bool (decide (6 < a0.Kind))) rfl) ?_
                  refine l_nil ?_
                  refine c_if (b := (decide (6 < a0.Kind))) rfl (fun hb => ?_) (fun hb => ?_)
                  · have H140 := cnd_t hb H139; clear H139
                    refine c_seq ?_
                    refine c_region ?_
                    refine l_val rfl rfl rfl (r_assign (v := .int .i64 10) rfl) ?_
                    refine l_nil ?_
                    refine c_ret ?_
                    obtain rfl := Option.some.inj H140
                    refine ret1 (v := .int .i64 10) rfl rfl (fin rfl)
                  · have H141 := cnd_f hb H139; clear H139
                    refine c_seq ?_
                    refine c_meet (r := r) (σ := Bool) (τ := Unit) (fun s => R_FactFault_j3 a0 s) (fun s t => [(1, .pointer (some ⟨b4, 0, none⟩)), (3, .func (.func 64) #[] #[.pointer (some ⟨b4, 0, none⟩)]), (48, .bool s)]) (fun s t => [cellsC b4 [.int .i64 a0.Dot.Device, .int .i64 a0.Dot.N, .int .i64 a0.Time, .int .i64 a0.Kind, .int .i64 a0.Id, str a0.Name, .int .i64 a0.Num, str a0.Text] 52]) (fun s t => True) ?_ ?_
                    · refine c_region ?_
                      refine l_val rfl rfl rfl (r_field Tryd.runUnderlying52 rfl Tryd.sizeOf9 rfl rfl) ?_
                      refine l_load1 (i := 0) (v := str a0.Text) Tryd.isAgg9 rfl rfl rfl rfl rfl ?_
                      refine l_val rfl rfl rfl (r_neqT rfl rfl) ?_
                      refine l_val rfl rfl rfl (r_move (v := .bool (decide (a0.Text ≠ []))) rfl) ?_
                      refine split (fun hb => ?_) (fun hb => ?_)
                      · have H172 := cnd_t hb H141; clear H141
                        refine l_val rfl rfl rfl (r_move (v := .func (.func 64) #[] #[.pointer (some ⟨b4, 0, none⟩)]) rfl) ?_
                        refine l_buildSlice (vs := [.int .i64 1, .int .i64 3]) (cs := [.int .i64 1, .int .i64 3]) Tryd.underlying69 Tryd.sizeOf3 Tryd.zeroValue3 rfl rfl rfl rfl rfl rfl rfl (fun b7 => ?_)
                        obtain ⟨t55, h_t55, H173⟩ := bnd_some H172; clear H172
                        refine l_callV (R := fnR_func_int_bool (R_FactFault_1 a0)) (r := .bool t55) (v := .func (.func 64) #[] #[.pointer (some ⟨b4, 0, none⟩)]) (fun w hF hS => ⟨(FnH.mk ⟨64, #[], #[.pointer (some ⟨b4, 0, none⟩)], rfl, Tryd.call64, fun args2 post2 w2 hk2 hR2 => by obtain ⟨a0_, v0_, r_, fa0_, rfl, H_, rfl⟩ := hR2; exact k64 (know_all w2) (hk2.up _ _ (sat_cell (i := 0) hS rfl)) fa0_ H_⟩), ⟨([1, 3] : List Int), _, _, (frs_box (i := 1) (xs := ([1, 3] : List Int)) (f := e_i64) hS rfl rfl rfl rfl rfl), rfl, h_t55, rfl⟩⟩) rfl rfl rfl rfl ?_
                        refine l_val rfl rfl rfl (r_not rfl) ?_
                        refine l_val rfl rfl rfl (r_pickT (v := .bool (!t55)) rfl rfl) ?_
                        refine l_val rfl rfl rfl (r_assign (v := .bool (!t55)) rfl) ?_
                        refine l_nil ?_
                        refine c_close (!t55) () 0 [0] (by exact ⟨rfl, rfl, rfl, trivial⟩) (by decide) rfl (by exact ⟨H173, trivial⟩) (Nat.lt_succ_self _)
                      · have H174 := cnd_f hb H141; clear H141
                        refine l_passed rfl rfl rfl ?_
                        refine l_passed rfl rfl rfl ?_
                        refine l_passed rfl rfl rfl ?_
                        refine l_passed rfl rfl rfl ?_
                        refine l_val rfl rfl rfl (r_pickF (v := .bool false) rfl rfl) ?_
                        refine l_val rfl rfl rfl (r_assign (v := .bool false) rfl) ?_
                        refine l_nil ?_
                        refine c_close false () 0 [0] (by exact ⟨rfl, rfl, rfl, trivial⟩) (by decide) rfl (by exact ⟨H174, trivial⟩) (Nat.lt_succ_self _)
                    · rintro x48 _ gg H142 _
                      replace H142 : R_FactFault_j3 a0 x48 = some r := H142
                      refine c_tidyF [(1, .pointer (some ⟨b4, 0, none⟩)), (3, .func (.func 64) #[] #[.pointer (some ⟨b4, 0, none⟩)]), (48, .bool x48)] [cellsC b4 [.int .i64 a0.Dot.Device, .int .i64 a0.Dot.N, .int .i64 a0.Time, .int .i64 a0.Kind, .int .i64 a0.Id, str a0.Name, .int .i64 a0.Num, str a0.Text] 52] rfl rfl ?_
                      refine c_if (b := x48) rfl (fun hb => ?_) (fun hb => ?_)
                      · have H143 := cnd_t hb H142; clear H142
                        refine c_skip ?_
                        refine c_if (b := x48) rfl (fun hb => ?_) (fun hb => ?_)
                        · have H144 := cnd_t hb H143; clear H143
                          refine c_seq ?_
                          refine c_region ?_
                          refine l_val rfl rfl rfl (r_assign (v := .int .i64 1) rfl) ?_
                          refine l_nil ?_
                          refine c_ret ?_
                          obtain rfl := Option.some.inj H144
                          refine ret1 (v := .int .i64 1) rfl rfl (fin rfl)
                        · have H145 := cnd_f hb H143; clear H143
                          refine c_seq ?_
                          refine c_region ?_
                          refine l_val rfl rfl rfl (r_field Tryd.runUnderlying52 rfl Tryd.sizeOf3 rfl rfl) ?_
                          refine l_load1 (i := 0) (v := .int .i64 a0.Id) Tryd.isAgg3 rfl rfl rfl rfl rfl ?_
                          obtain ⟨t79, h_t79, H146⟩ := bnd_some H145; clear H145
                          refine l_call (k66 h_t79) Tryd.call66 rfl rfl rfl ?_
                          refine l_val rfl rfl rfl (r_not rfl) ?_
                          refine l_val rfl rfl rfl (r_assign (v := .bool (!t79)) rfl) ?_
                          refine l_nil ?_
                          refine c_if (b := (!t79)) rfl (fun hb => ?_) (fun hb => ?_)
                          · have H147 := cnd_t hb H146; clear H146
                            refine c_seq ?_
                            refine c_region ?_
                            refine l_val rfl rfl rfl (r_assign (v := .int .i64 2) rfl) ?_
                            refine l_nil ?_
                            refine c_ret ?_
                            obtain rfl := Option.some.inj H147
                            refine ret1 (v := .int .i64 2) rfl rfl (fin rfl)
                          · have H148 := cnd_f hb H146; clear H146
                            refine c_skip ?_
                            refine c_close () () 0 [0] (by exact ⟨rfl, trivial⟩) (by decide) rfl (by exact ⟨H148, trivial⟩) (Nat.lt_succ_self _)
                      · have H149 := cnd_f hb H142; clear H142
                        refine c_meet (r := r) (σ := Bool) (τ := Unit) (fun s => R_FactFault_j4 a0 s) (fun s t => [(1, .pointer (some ⟨b4, 0, none⟩)), (3, .func (.func 64) #[] #[.pointer (some ⟨b4, 0, none⟩)]), (48, .bool s)]) (fun s t => [cellsC b4 [.int .i64 a0.Dot.Device, .int .i64 a0.Dot.N, .int .i64 a0.Time, .int .i64 a0.Kind, .int .i64 a0.Id, str a0.Name, .int .i64 a0.Num, str a0.Text] 52]) (fun s t => True) ?_ ?_
                        · refine c_region ?_
                          refine l_val rfl rfl rfl (r_field Tryd.runUnderlying52 rfl Tryd.sizeOf3 rfl rfl) ?_
                          refine l_load1 (i := 0) (v := .int .i64 a0.Num) Tryd.isAgg3 rfl rfl rfl rfl rfl ?_
                          refine l_val rfl rfl rfl (r_neq rfl rfl) ?_
                          refine l_val rfl rfl rfl (r_move (v := .bool (decide (a0.Num ≠ 0))) rfl) ?_
                          refine split (fun hb => ?_) (fun hb => ?_)
                          · have H169 := cnd_t hb H149; clear H149
                            refine l_val rfl rfl rfl (r_move (v := .func (.func 64) #[] #[.pointer (some ⟨b4, 0, none⟩)]) rfl) ?_
                            refine l_buildSlice (vs := [.int .i64 2, .int .i64 4, .int .i64 6]) (cs := [.int .i64 2, .int .i64 4, .int .i64 6]) Tryd.underlying69 Tryd.sizeOf3 Tryd.zeroValue3 rfl rfl rfl rfl rfl rfl rfl (fun b6 => ?_)
                            obtain ⟨t64, h_t64, H170⟩ := bnd_some H169; clear H169
                            refine l_callV (R := fnR_func_int_bool (R_FactFault_1 a0)) (r := .bool t64) (v := .func (.func 64) #[] #[.pointer (some ⟨b4, 0, none⟩)]) (fun w hF hS => ⟨(FnH.mk ⟨64, #[], #[.pointer (some ⟨b4, 0, none⟩)], rfl, Tryd.call64, fun args2 post2 w2 hk2 hR2 => by obtain ⟨a0_, v0_, r_, fa0_, rfl, H_, rfl⟩ := hR2; exact k64 (know_all w2) (hk2.up _ _ (sat_cell (i := 0) hS rfl)) fa0_ H_⟩), ⟨([2, 4, 6] : List Int), _, _, (frs_box (i := 1) (xs := ([2, 4, 6] : List Int)) (f := e_i64) hS rfl rfl rfl rfl rfl), rfl, h_t64, rfl⟩⟩) rfl rfl rfl rfl ?_
                            refine l_val rfl rfl rfl (r_not rfl) ?_
                            refine l_val rfl rfl rfl (r_pickT (v := .bool (!t64)) rfl rfl) ?_
                            refine l_val rfl rfl rfl (r_assign (v := .bool (!t64)) rfl) ?_
                            refine l_nil ?_
                            refine c_close (!t64) () 0 [0] (by exact ⟨rfl, rfl, rfl, trivial⟩) (by decide) rfl (by exact ⟨H170, trivial⟩) (Nat.lt_succ_self _)
                          · have H171 := cnd_f hb H149; clear H149
                            refine l_passed rfl rfl rfl ?_
                            refine l_passed rfl rfl rfl ?_
                            refine l_passed rfl rfl rfl ?_
                            refine l_passed rfl rfl rfl ?_
                            refine l_val rfl rfl rfl (r_pickF (v := .bool false) rfl rfl) ?_
                            refine l_val rfl rfl rfl (r_assign (v := .bool false) rfl) ?_
                            refine l_nil ?_
                            refine c_close false () 0 [0] (by exact ⟨rfl, rfl, rfl, trivial⟩) (by decide) rfl (by exact ⟨H171, trivial⟩) (Nat.lt_succ_self _)
                        · rintro x48_2 _ gg H150 _
                          replace H150 : R_FactFault_j4 a0 x48_2 = some r := H150
                          refine c_tidyF [(1, .pointer (some ⟨b4, 0, none⟩)), (3, .func (.func 64) #[] #[.pointer (some ⟨b4, 0, none⟩)]), (48, .bool x48_2)] [cellsC b4 [.int .i64 a0.Dot.Device, .int .i64 a0.Dot.N, .int .i64 a0.Time, .int .i64 a0.Kind, .int .i64 a0.Id, str a0.Name, .int .i64 a0.Num, str a0.Text] 52] rfl rfl ?_
                          refine c_if (b := x48_2) rfl (fun hb => ?_) (fun hb => ?_)
                          · have H151 := cnd_t hb H150; clear H150
                            refine c_skip ?_
                            refine c_if (b := x48_2) rfl (fun hb => ?_) (fun hb => ?_)
                            · have H152 := cnd_t hb H151; clear H151
                              refine c_seq ?_
                              refine c_region ?_
                              refine l_val rfl rfl rfl (r_assign (v := .int .i64 1) rfl) ?_
                              refine l_nil ?_
                              refine c_ret ?_
                              obtain rfl := Option.some.inj H152
                              refine ret1 (v := .int .i64 1) rfl rfl (fin rfl)
                            · have H153 := cnd_f hb H151; clear H151
                              refine c_seq ?_
                              refine c_region ?_
                              refine l_val rfl rfl rfl (r_field Tryd.runUnderlying52 rfl Tryd.sizeOf3 rfl rfl) ?_
                              refine l_load1 (i := 0) (v := .int .i64 a0.Id) Tryd.isAgg3 rfl rfl rfl rfl rfl ?_
                              obtain ⟨t79_2, h_t79_2, H154⟩ := bnd_some H153; clear H153
                              refine l_call (k66 h_t79_2) Tryd.call66 rfl rfl rfl ?_
                              refine l_val rfl rfl rfl (r_not rfl) ?_
                              refine l_val rfl rfl rfl (r_assign (v := .bool (!t79_2)) rfl) ?_
                              refine l_nil ?_
                              refine c_if (b := (!t79_2)) rfl (fun hb => ?_) (fun hb => ?_)
                              · have H155 := cnd_t hb H154; clear H154
                                refine c_seq ?_
                                refine c_region ?_
                                refine l_val rfl rfl rfl (r_assign (v := .int .i64 2) rfl) ?_
                                refine l_nil ?_
                                refine c_ret ?_
                                obtain rfl := Option.some.inj H155
                                refine ret1 (v := .int .i64 2) rfl rfl (fin rfl)
                              · have H156 := cnd_f hb H154; clear H154
                                refine c_skip ?_
                                refine c_close () () 0 [0] (by exact ⟨rfl, trivial⟩) (by decide) rfl (by exact ⟨H156, trivial⟩) (Nat.lt_succ_self _)
                          · have H157 := cnd_f hb H150; clear H150
                            refine c_region ?_
                            refine l_val rfl rfl rfl (r_field Tryd.runUnderlying52 rfl Tryd.sizeOf9 rfl rfl) ?_
                            refine l_load1 (i := 0) (v := str a0.Name) Tryd.isAgg9 rfl rfl rfl rfl rfl ?_
                            refine l_val rfl rfl rfl (r_neqT rfl rfl) ?_
                            refine l_val rfl rfl rfl (r_move (v := .bool (decide (a0.Name ≠ []))) rfl) ?_
                            refine split (fun hb => ?_) (fun hb => ?_)
                            · have H158 := cnd_t hb H157; clear H157
                              refine l_val rfl rfl rfl (r_move (v := .func (.func 64) #[] #[.pointer (some ⟨b4, 0, none⟩)]) rfl) ?_
                              refine l_buildSlice (vs := [.int .i64 5, .int .i64 6]) (cs := [.int .i64 5, .int .i64 6]) Tryd.underlying69 Tryd.sizeOf3 Tryd.zeroValue3 rfl rfl rfl rfl rfl rfl rfl (fun b5 => ?_)
                              obtain ⟨t73, h_t73, H159⟩ := bnd_some H158; clear H158
                              refine l_callV (R := fnR_func_int_bool (R_FactFault_1 a0)) (r := .bool t73) (v := .func (.func 64) #[] #[.pointer (some ⟨b4, 0, none⟩)]) (fun w hF hS => ⟨(FnH.mk ⟨64, #[], #[.pointer (some ⟨b4, 0, none⟩)], rfl, Tryd.call64, fun args2 post2 w2 hk2 hR2 => by obtain ⟨a0_, v0_, r_, fa0_, rfl, H_, rfl⟩ := hR2; exact k64 (know_all w2) (hk2.up _ _ (sat_cell (i := 0) hS rfl)) fa0_ H_⟩), ⟨([5, 6] : List Int), _, _, (frs_box (i := 1) (xs := ([5, 6] : List Int)) (f := e_i64) hS rfl rfl rfl rfl rfl), rfl, h_t73, rfl⟩⟩) rfl rfl rfl rfl ?_
                              refine l_val rfl rfl rfl (r_not rfl) ?_
                              refine l_val rfl rfl rfl (r_pickT (v := .bool (!t73)) rfl rfl) ?_
                              refine l_val rfl rfl rfl (r_assign (v := .bool (!t73)) rfl) ?_
                              refine l_nil ?_
                              refine c_if (b := (!t73)) rfl (fun hb => ?_) (fun hb => ?_)
                              · have H160 := cnd_t hb H159; clear H159
                                refine c_seq ?_
                                refine c_region ?_
                                refine l_val rfl rfl rfl (r_assign (v := .int .i64 1) rfl) ?_
                                refine l_nil ?_
                                refine c_ret ?_
                                obtain rfl := Option.some.inj H160
                                refine ret1 (v := .int .i64 1) rfl rfl (fin rfl)
                              · have H161 := cnd_f hb H159; clear H159
                                refine c_seq ?_
                                refine c_region ?_
                                refine l_val rfl rfl rfl (r_field Tryd.runUnderlying52 rfl Tryd.sizeOf3 rfl rfl) ?_
                                refine l_load1 (i := 0) (v := .int .i64 a0.Id) Tryd.isAgg3 rfl rfl rfl rfl rfl ?_
                                obtain ⟨t79_3, h_t79_3, H162⟩ := bnd_some H161; clear H161
                                refine l_call (k66 h_t79_3) Tryd.call66 rfl rfl rfl ?_
                                refine l_val rfl rfl rfl (r_not rfl) ?_
                                refine l_val rfl rfl rfl (r_assign (v := .bool (!t79_3)) rfl) ?_
                                refine l_nil ?_
                                refine c_if (b := (!t79_3)) rfl (fun hb => ?_) (fun hb => ?_)
                                · have H163 := cnd_t hb H162; clear H162
                                  refine c_seq ?_
                                  refine c_region ?_
                                  refine l_val rfl rfl rfl (r_assign (v := .int .i64 2) rfl) ?_
                                  refine l_nil ?_
                                  refine c_ret ?_
                                  obtain rfl := Option.some.inj H163
                                  refine ret1 (v := .int .i64 2) rfl rfl (fin rfl)
                                · have H164 := cnd_f hb H162; clear H162
                                  refine c_skip ?_
                                  refine c_close () () 0 [0] (by exact ⟨rfl, trivial⟩) (by decide) rfl (by exact ⟨H164, trivial⟩) (Nat.lt_succ_self _)
                            · have H165 := cnd_f hb H157; clear H157
                              refine l_passed rfl rfl rfl ?_
                              refine l_passed rfl rfl rfl ?_
                              refine l_passed rfl rfl rfl ?_
                              refine l_passed rfl rfl rfl ?_
                              refine l_val rfl rfl rfl (r_pickF (v := .bool false) rfl rfl) ?_
                              refine l_val rfl rfl rfl (r_assign (v := .bool false) rfl) ?_
                              refine l_nil ?_
                              refine c_false rfl ?_
                              refine c_seq ?_
                              refine c_region ?_
                              refine l_val rfl rfl rfl (r_field Tryd.runUnderlying52 rfl Tryd.sizeOf3 rfl rfl) ?_
                              refine l_load1 (i := 0) (v := .int .i64 a0.Id) Tryd.isAgg3 rfl rfl rfl rfl rfl ?_
                              obtain ⟨t79_4, h_t79_4, H166⟩ := bnd_some H165; clear H165
                              refine l_call (k66 h_t79_4) Tryd.call66 rfl rfl rfl ?_
                              refine l_val rfl rfl rfl (r_not rfl) ?_
                              refine l_val rfl rfl rfl (r_assign (v := .bool (!t79_4)) rfl) ?_
                              refine l_nil ?_
                              refine c_if (b := (!t79_4)) rfl (fun hb => ?_) (fun hb => ?_)
                              · have H167 := cnd_t hb H166; clear H166
                                refine c_seq ?_
                                refine c_region ?_
                                refine l_val rfl rfl rfl (r_assign (v := .int .i64 2) rfl) ?_
                                refine l_nil ?_
                                refine c_ret ?_
                                obtain rfl := Option.some.inj H167
                                refine ret1 (v := .int .i64 2) rfl rfl (fin rfl)
                              · have H168 := cnd_f hb H166; clear H166
                                refine c_skip ?_
                                refine c_close () () 0 [0] (by exact ⟨rfl, trivial⟩) (by decide) rfl (by exact ⟨H168, trivial⟩) (Nat.lt_succ_self _)
  · rintro _ _ gg H88 _
    replace H88 : R_FactFault_j1 a0 = some r := H88
    refine c_tidyF [(1, .pointer (some ⟨b4, 0, none⟩))] [cellsC b4 [.int .i64 a0.Dot.Device, .int .i64 a0.Dot.N, .int .i64 a0.Time, .int .i64 a0.Kind, .int .i64 a0.Id, str a0.Name, .int .i64 a0.Num, str a0.Text] 52] rfl rfl ?_
    refine c_seq ?_
    refine c_seq ?_
    refine c_region ?_
    refine l_val rfl rfl rfl (r_field Tryd.runUnderlying52 rfl Tryd.sizeOf3 rfl rfl) ?_
    refine l_load1 (i := 0) (v := .int .i64 a0.Kind) Tryd.isAgg3 rfl rfl rfl rfl rfl ?_
    refine l_nil ?_
    refine c_block ?_
    refine c_seq ?_
    refine c_region ?_
    refine l_val rfl rfl rfl (r_eql rfl rfl) ?_
    refine l_val rfl rfl rfl (r_assign (v := .bool (decide (a0.Kind = 1))) rfl) ?_
    refine l_nil ?_
    refine c_if (b := (decide (a0.Kind = 1))) rfl (fun hb => ?_) (fun hb => ?_)
    · have H89 := cnd_t hb H88; clear H88
      refine c_seq ?_
      refine c_region ?_
      refine l_val rfl rfl rfl (r_field Tryd.runUnderlying52 rfl Tryd.sizeOf9 rfl rfl) ?_
      refine l_load1 (i := 0) (v := str a0.Text) Tryd.isAgg9 rfl rfl rfl rfl rfl ?_
      refine l_val rfl rfl rfl (r_lenT Tryd.underlying9 rfl) ?_
      refine l_val rfl rfl rfl (r_neq rfl rfl) ?_
      refine l_val rfl rfl rfl (r_move (v := .bool (decide ((a0.Text.length : Int) ≠ 16))) rfl) ?_
      refine split (fun hb => ?_) (fun hb => ?_)
      · have H90 := cnd_t hb H89; clear H89
        refine l_passed rfl rfl rfl ?_
        refine l_passed rfl rfl rfl ?_
        refine l_passed rfl rfl rfl ?_
        refine l_passed rfl rfl rfl ?_
        refine l_val rfl rfl rfl (r_pickT (v := .bool true) rfl rfl) ?_
        refine l_nil ?_
        refine c_true rfl ?_
        refine c_seq ?_
        refine c_region ?_
        refine l_val rfl rfl rfl (r_assign (v := .int .i64 1) rfl) ?_
        refine l_nil ?_
        refine c_ret ?_
        obtain rfl := Option.some.inj H90
        refine ret1 (v := .int .i64 1) rfl rfl (fin rfl)
      · have H91 := cnd_f hb H89; clear H89
        refine l_val rfl rfl rfl (r_field Tryd.runUnderlying52 rfl Tryd.sizeOf9 rfl rfl) ?_
        refine l_load1 (i := 0) (v := str a0.Text) Tryd.isAgg9 rfl rfl rfl rfl rfl ?_
        obtain ⟨t104, h_t104, H92⟩ := bnd_some H91; clear H91
        refine l_call (k67 h_t104) Tryd.call67 rfl rfl rfl ?_
        refine l_val rfl rfl rfl (r_neqT rfl rfl) ?_
        refine l_val rfl rfl rfl (r_pickF (v := .bool (decide (t104 ≠ []))) rfl rfl) ?_
        refine l_nil ?_
        refine c_if (b := (decide (t104 ≠ []))) rfl (fun hb => ?_) (fun hb => ?_)
        · have H93 := cnd_t hb H92; clear H92
          refine c_seq ?_
          refine c_region ?_
          refine l_val rfl rfl rfl (r_assign (v := .int .i64 1) rfl) ?_
          refine l_nil ?_
          refine c_ret ?_
          obtain rfl := Option.some.inj H93
          refine ret1 (v := .int .i64 1) rfl rfl (fin rfl)
        · have H94 := cnd_f hb H92; clear H92
          refine c_skip ?_
          refine c_seq ?_
          refine c_region ?_
          refine l_val rfl rfl rfl (r_assign (v := .int .i64 0) rfl) ?_
          refine l_nil ?_
          refine c_ret ?_
          obtain rfl := Option.some.inj H94
          refine ret1 (v := .int .i64 0) rfl rfl (fin rfl)
    · have H95 := cnd_f hb H88; clear H88
      refine c_seq ?_
      refine c_region ?_
      refine l_val rfl rfl rfl (r_eql rfl rfl) ?_
      refine l_val rfl rfl rfl (r_assign (v := .bool (decide (a0.Kind = 2))) rfl) ?_
      refine l_nil ?_
      refine c_if (b := (decide (a0.Kind = 2))) rfl (fun hb => ?_) (fun hb => ?_)
      · have H96 := cnd_t hb H95; clear H95
        refine c_seq ?_
        refine c_region ?_
        refine l_val rfl rfl rfl (r_field Tryd.runUnderlying52 rfl Tryd.sizeOf3 rfl rfl) ?_
        refine l_load1 (i := 0) (v := .int .i64 a0.Num) Tryd.isAgg3 rfl rfl rfl rfl rfl ?_
        refine l_val rfl rfl rfl (r_lss rfl rfl) ?_
        refine l_val rfl rfl rfl (r_move (v := .bool (decide (a0.Num < 0))) rfl) ?_
        refine split (fun hb => ?_) (fun hb => ?_)
        · have H97 := cnd_t hb H96; clear H96
          refine l_passed rfl rfl rfl ?_
          refine l_passed rfl rfl rfl ?_
          refine l_passed rfl rfl rfl ?_
          refine l_val rfl rfl rfl (r_pickT (v := .bool true) rfl rfl) ?_
          refine l_nil ?_
          refine c_true rfl ?_
          refine c_seq ?_
          refine c_region ?_
          refine l_val rfl rfl rfl (r_assign (v := .int .i64 2) rfl) ?_
          refine l_nil ?_
          refine c_ret ?_
          obtain rfl := Option.some.inj H97
          refine ret1 (v := .int .i64 2) rfl rfl (fin rfl)
        · have H98 := cnd_f hb H96; clear H96
          refine l_val rfl rfl rfl (r_field Tryd.runUnderlying52 rfl Tryd.sizeOf3 rfl rfl) ?_
          refine l_load1 (i := 0) (v := .int .i64 a0.Num) Tryd.isAgg3 rfl rfl rfl rfl rfl ?_
          refine l_val rfl rfl rfl (r_gtr rfl rfl) ?_
          refine l_val rfl rfl rfl (r_pickF (v := .bool (decide (5 < a0.Num))) rfl rfl) ?_
          refine l_nil ?_
          refine c_if (b := (decide (5 < a0.Num))) rfl (fun hb => ?_) (fun hb => ?_)
          · have H99 := cnd_t hb H98; clear H98
            refine c_seq ?_
            refine c_region ?_
            refine l_val rfl rfl rfl (r_assign (v := .int .i64 2) rfl) ?_
            refine l_nil ?_
            refine c_ret ?_
            obtain rfl := Option.some.inj H99
            refine ret1 (v := .int .i64 2) rfl rfl (fin rfl)
          · have H100 := cnd_f hb H98; clear H98
            refine c_skip ?_
            refine c_seq ?_
            refine c_region ?_
            refine l_val rfl rfl rfl (r_assign (v := .int .i64 0) rfl) ?_
            refine l_nil ?_
            refine c_ret ?_
            obtain rfl := Option.some.inj H100
            refine ret1 (v := .int .i64 0) rfl rfl (fin rfl)
      · have H101 := cnd_f hb H95; clear H95
        refine c_seq ?_
        refine c_region ?_
        refine l_val rfl rfl rfl (r_eql rfl rfl) ?_
        refine l_val rfl rfl rfl (r_assign (v := .bool (decide (a0.Kind = 3))) rfl) ?_
        refine l_nil ?_
        refine c_if (b := (decide (a0.Kind = 3))) rfl (fun hb => ?_) (fun hb => ?_)
        · have H102 := cnd_t hb H101; clear H101
          refine c_seq ?_
          refine c_seq ?_
          refine c_region ?_
          refine l_val rfl rfl rfl (r_field Tryd.runUnderlying52 rfl Tryd.sizeOf9 rfl rfl) ?_
          refine l_load1 (i := 0) (v := str a0.Text) Tryd.isAgg9 rfl rfl rfl rfl rfl ?_
          refine l_val rfl rfl rfl (r_lenT Tryd.underlying9 rfl) ?_
          refine l_val rfl rfl rfl (r_gtr rfl rfl) ?_
          refine l_nil ?_
          refine c_if (b := (decide (200 < (a0.Text.length : Int)))) rfl (fun hb => ?_) (fun hb => ?_)
          · have H103 := cnd_t hb H102; clear H102
            refine c_seq ?_
            refine c_region ?_
            refine l_val rfl rfl rfl (r_assign (v := .int .i64 4) rfl) ?_
            refine l_nil ?_
            refine c_ret ?_
            obtain rfl := Option.some.inj H103
            refine ret1 (v := .int .i64 4) rfl rfl (fin rfl)
          · have H104 := cnd_f hb H102; clear H102
            refine c_skip ?_
            refine c_seq ?_
            refine c_region ?_
            refine l_val rfl rfl rfl (r_field Tryd.runUnderlying52 rfl Tryd.sizeOf9 rfl rfl) ?_
            refine l_load1 (i := 0) (v := str a0.Text) Tryd.isAgg9 rfl rfl rfl rfl rfl ?_
            refine l_val rfl rfl rfl (r_lenT Tryd.underlying9 rfl) ?_
            refine l_val rfl rfl rfl (r_move (v := .int .i64 0) rfl) ?_
            refine l_nil ?_
            refine c_block ?_
            refine c_fix (σ := Int) (τ := Unit) (fun next2 s => R_FactFault_l2 a0 next2 s) (fun s t => [(1, .pointer (some ⟨b4, 0, none⟩)), (125, .int .i64 (a0.Text.length : Int)), (126, .int .i64 s)]) (fun s t => [cellsC b4 [.int .i64 a0.Dot.Device, .int .i64 a0.Dot.N, .int .i64 a0.Time, .int .i64 a0.Kind, .int .i64 a0.Id, str a0.Name, .int .i64 a0.Num, str a0.Text] 52]) (fun s t => True) 0 () [0] H104 (by exact trivial) (by exact ⟨rfl, rfl, rfl, trivial⟩) (by decide) rfl ?_
            rintro x126_2 _ m2 gg H105 _
            clear H104
            replace H105 : R_FactFault_l2 a0 (it (fun next2 s => R_FactFault_l2 a0 next2 s) m2) x126_2 = some r := H105
            generalize hn2 : it (fun next2 s => R_FactFault_l2 a0 next2 s) m2 = next2 at H105
            refine c_tidyF [(1, .pointer (some ⟨b4, 0, none⟩)), (125, .int .i64 (a0.Text.length : Int)), (126, .int .i64 x126_2)] [cellsC b4 [.int .i64 a0.Dot.Device, .int .i64 a0.Dot.N, .int .i64 a0.Time, .int .i64 a0.Kind, .int .i64 a0.Id, str a0.Name, .int .i64 a0.Num, str a0.Text] 52] rfl rfl ?_
            refine c_seq ?_
            refine c_region ?_
            refine l_val rfl rfl rfl (r_lss rfl rfl) ?_
            refine l_nil ?_
            refine c_seq ?_
            refine c_if (b := (decide (x126_2 < (a0.Text.length : Int)))) rfl (fun hb => ?_) (fun hb => ?_)
            · have H106 := cnd_t hb H105; clear H105
              refine c_skip ?_
              refine c_seq ?_
              refine c_block ?_
              refine c_seq ?_
              refine c_region ?_
              refine l_val rfl rfl rfl (r_move (v := .int .i64 x126_2) rfl) ?_
              refine l_val rfl rfl rfl (r_assign (v := .int .i64 x126_2) rfl) ?_
              refine l_nil ?_
              refine c_seq ?_
              refine c_region ?_
              refine l_val rfl rfl rfl (r_field Tryd.runUnderlying52 rfl Tryd.sizeOf9 rfl rfl) ?_
              refine l_load1 (i := 0) (v := str a0.Text) Tryd.isAgg9 rfl rfl rfl rfl rfl ?_
              refine l_val rfl rfl rfl (r_move (v := .int .i64 x126_2) rfl) ?_
              obtain ⟨t132, h_t132, H107⟩ := bnd_some H106; clear H106
              refine l_val rfl rfl rfl (r_octG Tryd.underlying9 rfl rfl h_t132) ?_
              refine l_val rfl rfl rfl (r_lss rfl rfl) ?_
              refine l_nil ?_
              refine c_if (b := (decide (t132 < 32))) rfl (fun hb => ?_) (fun hb => ?_)
              · have H108 := cnd_t hb H107; clear H107
                refine c_seq ?_
                refine c_region ?_
                refine l_val rfl rfl rfl (r_assign (v := .int .i64 9) rfl) ?_
                refine l_nil ?_
                refine c_ret ?_
                obtain rfl := Option.some.inj H108
                refine ret1 (v := .int .i64 9) rfl rfl (fin rfl)
              · have H109 := cnd_f hb H107; clear H107
                refine c_skip ?_
                refine c_region ?_
                obtain ⟨t134, h_t134, H110⟩ := bnd_some H109; clear H109
                refine l_val rfl rfl rfl (r_addG rfl rfl h_t134) ?_
                refine l_val rfl rfl rfl (r_move (v := .int .i64 t134) rfl) ?_
                refine l_nil ?_
                refine c_close t134 () m2 [0] (by exact ⟨rfl, rfl, rfl, trivial⟩) (by decide) rfl (by exact ⟨(by subst hn2; exact H110), trivial⟩) (Nat.lt_succ_self _)
            · have H111 := cnd_f hb H105; clear H105
              refine c_exit ?_
              refine c_seq ?_
              refine c_region ?_
              refine l_val rfl rfl rfl (r_assign (v := .int .i64 0) rfl) ?_
              refine l_nil ?_
              refine c_ret ?_
              obtain rfl := Option.some.inj H111
              refine ret1 (v := .int .i64 0) rfl rfl (fin rfl)
        · have H112 := cnd_f hb H101; clear H101
          refine c_seq ?_
          refine c_region ?_
          refine l_val rfl rfl rfl (r_eql rfl rfl) ?_
          refine l_val rfl rfl rfl (r_assign (v := .bool (decide (a0.Kind = 4))) rfl) ?_
          refine l_nil ?_
          refine c_if (b := (decide (a0.Kind = 4))) rfl (fun hb => ?_) (fun hb => ?_)
          · have H113 := cnd_t hb H112; clear H112
            refine c_seq ?_
            refine c_region ?_
            refine l_val rfl rfl rfl (r_field Tryd.runUnderlying52 rfl Tryd.sizeOf3 rfl rfl) ?_
            refine l_load1 (i := 0) (v := .int .i64 a0.Num) Tryd.isAgg3 rfl rfl rfl rfl rfl ?_
            refine l_val rfl rfl rfl (r_neq rfl rfl) ?_
            refine l_val rfl rfl rfl (r_move (v := .bool (decide (a0.Num ≠ 0))) rfl) ?_
            refine split (fun hb => ?_) (fun hb => ?_)
            · have H114 := cnd_t hb H113; clear H113
              refine l_val rfl rfl rfl (r_field Tryd.runUnderlying52 rfl Tryd.sizeOf3 rfl rfl) ?_
              refine l_load1 (i := 0) (v := .int .i64 a0.Num) Tryd.isAgg3 rfl rfl rfl rfl rfl ?_
              refine l_val rfl rfl rfl (r_neq rfl rfl) ?_
              refine l_val rfl rfl rfl (r_pickT (v := .bool (decide (a0.Num ≠ 1))) rfl rfl) ?_
              refine l_nil ?_
              refine c_if (b := (decide (a0.Num ≠ 1))) rfl (fun hb => ?_) (fun hb => ?_)
              · have H115 := cnd_t hb H114; clear H114
                refine c_seq ?_
                refine c_region ?_
                refine l_val rfl rfl rfl (r_assign (v := .int .i64 2) rfl) ?_
                refine l_nil ?_
                refine c_ret ?_
                obtain rfl := Option.some.inj H115
                refine ret1 (v := .int .i64 2) rfl rfl (fin rfl)
              · have H116 := cnd_f hb H114; clear H114
                refine c_skip ?_
                refine c_seq ?_
                refine c_region ?_
                refine l_val rfl rfl rfl (r_assign (v := .int .i64 0) rfl) ?_
                refine l_nil ?_
                refine c_ret ?_
                obtain rfl := Option.some.inj H116
                refine ret1 (v := .int .i64 0) rfl rfl (fin rfl)
            · have H117 := cnd_f hb H113; clear H113
              refine l_passed rfl rfl rfl ?_
              refine l_passed rfl rfl rfl ?_
              refine l_passed rfl rfl rfl ?_
              refine l_val rfl rfl rfl (r_pickF (v := .bool false) rfl rfl) ?_
              refine l_nil ?_
              refine c_false rfl ?_
              refine c_skip ?_
              refine c_seq ?_
              refine c_region ?_
              refine l_val rfl rfl rfl (r_assign (v := .int .i64 0) rfl) ?_
              refine l_nil ?_
              refine c_ret ?_
              obtain rfl := Option.some.inj H117
              refine ret1 (v := .int .i64 0) rfl rfl (fin rfl)
          · have H118 := cnd_f hb H112; clear H112
            refine c_seq ?_
            refine c_seq ?_
            refine c_region ?_
            refine l_val rfl rfl rfl (r_field Tryd.runUnderlying52 rfl Tryd.sizeOf9 rfl rfl) ?_
            refine l_load1 (i := 0) (v := str a0.Name) Tryd.isAgg9 rfl rfl rfl rfl rfl ?_
            obtain ⟨t85, h_t85, H119⟩ := bnd_some H118; clear H118
            refine l_call (k68 h_t85) Tryd.call68 rfl rfl rfl ?_
            refine l_val rfl rfl rfl (r_not rfl) ?_
            refine l_nil ?_
            refine c_if (b := (!t85)) rfl (fun hb => ?_) (fun hb => ?_)
            · have H120 := cnd_t hb H119; clear H119
              refine c_seq ?_
              refine c_region ?_
              refine l_val rfl rfl rfl (r_assign (v := .int .i64 3) rfl) ?_
              refine l_nil ?_
              refine c_ret ?_
              obtain rfl := Option.some.inj H120
              refine ret1 (v := .int .i64 3) rfl rfl (fin rfl)
            · have H121 := cnd_f hb H119; clear H119
              refine c_skip ?_
              refine c_seq ?_
              refine c_region ?_
              refine l_val rfl rfl rfl (r_field Tryd.runUnderlying52 rfl Tryd.sizeOf3 rfl rfl) ?_
              refine l_load1 (i := 0) (v := .int .i64 a0.Num) Tryd.isAgg3 rfl rfl rfl rfl rfl ?_
              refine l_val rfl rfl rfl (r_lss rfl rfl) ?_
              refine l_val rfl rfl rfl (r_move (v := .bool (decide (a0.Num < 0))) rfl) ?_
              refine split (fun hb => ?_) (fun hb => ?_)
              · have H122 := cnd_t hb H121; clear H121
                refine l_passed rfl rfl rfl ?_
                refine l_passed rfl rfl rfl ?_
                refine l_passed rfl rfl rfl ?_
                refine l_val rfl rfl rfl (r_pickT (v := .bool true) rfl rfl) ?_
                refine l_nil ?_
                refine c_true rfl ?_
                refine c_seq ?_
                refine c_region ?_
                refine l_val rfl rfl rfl (r_assign (v := .int .i64 2) rfl) ?_
                refine l_nil ?_
                refine c_ret ?_
                obtain rfl := Option.some.inj H122
                refine ret1 (v := .int .i64 2) rfl rfl (fin rfl)
              · have H123 := cnd_f hb H121; clear H121
                refine l_val rfl rfl rfl (r_field Tryd.runUnderlying52 rfl Tryd.sizeOf3 rfl rfl) ?_
                refine l_load1 (i := 0) (v := .int .i64 a0.Num) Tryd.isAgg3 rfl rfl rfl rfl rfl ?_
                refine l_val rfl rfl rfl (r_gtr rfl rfl) ?_
                refine l_val rfl rfl rfl (r_pickF (v := .bool (decide (6311433599 < a0.Num))) rfl rfl) ?_
                refine l_nil ?_
                refine c_if (b := (decide (6311433599 < a0.Num))) rfl (fun hb => ?_) (fun hb => ?_)
                · have H124 := cnd_t hb H123; clear H123
                  refine c_seq ?_
                  refine c_region ?_
                  refine l_val rfl rfl rfl (r_assign (v := .int .i64 2) rfl) ?_
                  refine l_nil ?_
                  refine c_ret ?_
                  obtain rfl := Option.some.inj H124
                  refine ret1 (v := .int .i64 2) rfl rfl (fin rfl)
                · have H125 := cnd_f hb H123; clear H123
                  refine c_skip ?_
                  refine c_seq ?_
                  refine c_region ?_
                  refine l_val rfl rfl rfl (r_assign (v := .int .i64 0) rfl) ?_
                  refine l_nil ?_
                  refine c_ret ?_
                  obtain rfl := Option.some.inj H125
                  refine ret1 (v := .int .i64 0) rfl rfl (fin rfl)
end Go.Proofs.YtaonhnkojkkmbaaDoor
