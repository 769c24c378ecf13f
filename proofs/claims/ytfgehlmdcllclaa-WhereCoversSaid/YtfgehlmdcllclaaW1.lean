/- Contracts of the small functions of package where and of its reference. Conditions: those that each contract names. -/
import Derived.Test.YtfgehlmdcllclaaProg
import Derived.Test.YtfgehlmdcllclaaVc6
import Derived.Test.YtfgehlmdcllclaaWherePlain
namespace Go.Proofs.Ytfgehlmdcllclaa
open Go Go.Vc Go.Vc.Where
set_option maxRecDepth 100000

theorem mixed : Try.prog.follows .mixedOrders = true := by kernel_rfl

theorem eqd23 (d : Nat) (w : World) (a0 a1 a2 a3 b0 b1 b2 b3 : Int) : (Op.equalIn (d + 2) 23 (.agg #[.int .i64 a0, .int .i64 a1, .int .i64 a2, .int .i64 a3]) (.agg #[.int .i64 b0, .int .i64 b1, .int .i64 b2, .int .i64 b3])).run Try.prog w = .ok (decide (a0 = b0 ∧ a1 = b1 ∧ a2 = b2 ∧ a3 = b3)) w := by
  rw [run_equalIn_struct w (d + 1) 23 _ _ (by simp only [Program.fieldsOf, Try.underlying23]) Try.stoodInHeld23]
  simp only [Program.fieldsOf, Try.underlying23, Op.eqFields]
  simp [part, run_equalIn_int, Try.underlying3]
  repeat' split
  all_goals simp_all
theorem eqv23 (w : World) (a0 a1 a2 a3 b0 b1 b2 b3 : Int) : (Op.equalIn Op.maxDepth 23 (.agg #[.int .i64 a0, .int .i64 a1, .int .i64 a2, .int .i64 a3]) (.agg #[.int .i64 b0, .int .i64 b1, .int .i64 b2, .int .i64 b3])).run Try.prog w = .ok (decide (a0 = b0 ∧ a1 = b1 ∧ a2 = b2 ∧ a3 = b3)) w := eqd23 9998 w a0 a1 a2 a3 b0 b1 b2 b3

theorem eqd25 (d : Nat) (w : World) (a0 a1 b0 b1 : Int) : (Op.equalIn (d + 2) 25 (.agg #[.int .i64 a0, .int .i64 a1]) (.agg #[.int .i64 b0, .int .i64 b1])).run Try.prog w = .ok (decide (a0 = b0 ∧ a1 = b1)) w := by
  rw [run_equalIn_struct w (d + 1) 25 _ _ (by simp only [Program.fieldsOf, Try.underlying25]) Try.stoodInHeld25]
  simp only [Program.fieldsOf, Try.underlying25, Op.eqFields]
  simp [part, run_equalIn_int, Try.underlying3]
  repeat' split
  all_goals simp_all
theorem eqv25 (w : World) (a0 a1 b0 b1 : Int) : (Op.equalIn Op.maxDepth 25 (.agg #[.int .i64 a0, .int .i64 a1]) (.agg #[.int .i64 b0, .int .i64 b1])).run Try.prog w = .ok (decide (a0 = b0 ∧ a1 = b1)) w := eqd25 9998 w a0 a1 b0 b1

theorem f61 (n lo hi : Int) : Ret Try.prog 61 [.int .i64 n, .int .i64 lo, .int .i64 hi] (.bool (outsideS n lo hi)) := by
  refine enterRet (n := 15) Try.func61 rfl rfl rfl (fun wd => ?_)
  refine c_seq ?_
  refine c_region ?_
  refine l_val rfl rfl rfl (r_assign (v := .bool _) rfl) ?_
  refine l_nil ?_
  refine c_seq ?_
  refine c_region ?_
  refine l_val rfl rfl rfl (r_move (v := .int _ _) rfl) ?_
  refine l_val rfl rfl rfl (r_move (v := .int _ _) rfl) ?_
  refine l_val rfl rfl rfl (r_lss rfl rfl) ?_
  refine splitD (fun h1 => ?_) (fun h1 => ?_)
  · refine l_val rfl rfl rfl (r_move (v := .bool _) rfl) ?_
    refine l_passed rfl rfl rfl ?_
    refine l_passed rfl rfl rfl ?_
    refine l_passed rfl rfl rfl ?_
    refine l_val rfl rfl rfl (r_pickT (v := .bool _) rfl rfl) ?_
    refine l_val rfl rfl rfl (r_assign (v := .bool _) rfl) ?_
    refine l_nil ?_
    refine c_ret ?_
    refine ret1 (v := .bool _) rfl rfl (fin ?_)
    simp [outsideS, h1]
  · refine l_val rfl rfl rfl (r_move (v := .bool _) rfl) ?_
    refine l_val rfl rfl rfl (r_move (v := .int _ _) rfl) ?_
    refine l_val rfl rfl rfl (r_move (v := .int _ _) rfl) ?_
    refine l_val rfl rfl rfl (r_gtr rfl rfl) ?_
    refine l_val rfl rfl rfl (r_pickF (v := .bool _) rfl rfl) ?_
    refine l_val rfl rfl rfl (r_assign (v := .bool _) rfl) ?_
    refine l_nil ?_
    refine c_ret ?_
    refine ret1 (v := .bool _) rfl rfl (fin ?_)
    simp [outsideS, h1]

theorem f68 (n : Int) : Ret Try.prog 68 [.int .i64 n] (.bool (isLatS n)) := by
  refine enterRet (n := 6) Try.func68 rfl rfl rfl (fun wd => ?_)
  refine c_seq ?_
  refine c_region ?_
  refine l_val rfl rfl rfl (r_assign (v := .bool _) rfl) ?_
  refine l_nil ?_
  refine c_seq ?_
  refine c_region ?_
  refine l_val rfl rfl rfl (r_move (v := .int _ _) rfl) ?_
  refine l_call (f61 _ _ _) Try.call61 rfl rfl rfl ?_
  refine l_val rfl rfl rfl (r_not rfl) ?_
  refine l_val rfl rfl rfl (r_assign (v := .bool _) rfl) ?_
  refine l_nil ?_
  refine c_ret ?_
  refine ret1 (v := .bool _) rfl rfl (fin ?_)
  simp only [isLatS, outsideS]
  refine vB ?_
  rw [Bool.eq_iff_iff]
  simp

theorem f69 (n : Int) : Ret Try.prog 69 [.int .i64 n] (.bool (isLonS n)) := by
  refine enterRet (n := 6) Try.func69 rfl rfl rfl (fun wd => ?_)
  refine c_seq ?_
  refine c_region ?_
  refine l_val rfl rfl rfl (r_assign (v := .bool _) rfl) ?_
  refine l_nil ?_
  refine c_seq ?_
  refine c_region ?_
  refine l_val rfl rfl rfl (r_move (v := .int _ _) rfl) ?_
  refine l_call (f61 _ _ _) Try.call61 rfl rfl rfl ?_
  refine l_val rfl rfl rfl (r_not rfl) ?_
  refine l_val rfl rfl rfl (r_assign (v := .bool _) rfl) ?_
  refine l_nil ?_
  refine c_ret ?_
  refine ret1 (v := .bool _) rfl rfl (fin ?_)
  simp only [isLonS, outsideS]
  refine vB ?_
  rw [Bool.eq_iff_iff]
  simp

theorem f60 (a b : Int) : Ret Try.prog 60 [.agg #[.int .i64 a, .int .i64 b]] (.int .i64 (placeS a b)) := by
  refine enterRet (n := 13) Try.func60 rfl rfl rfl (fun wd => ?_)
  refine c_seq ?_
  refine c_region ?_
  refine l_box (cs := [_, _]) rfl rfl rfl rfl (fun b0 => ?_)
  refine l_val rfl rfl rfl (r_assign (v := .int _ _) rfl) ?_
  refine l_nil ?_
  refine c_seq ?_
  refine c_seq ?_
  refine c_region ?_
  refine l_val rfl rfl rfl (r_field Try.runUnderlying25 rfl Try.sizeOf3 rfl rfl) ?_
  refine l_load1 (i := 0) (v := .int _ _) Try.isAgg3 rfl rfl rfl rfl rfl ?_
  refine l_call (f68 _) Try.call68 rfl rfl rfl ?_
  refine split (fun h1 => ?_) (fun h1 => ?_)
  · refine l_val rfl rfl rfl (r_notT rfl) ?_
    refine l_val rfl rfl rfl (r_move (v := .bool _) rfl) ?_
    refine l_val rfl rfl rfl (r_field Try.runUnderlying25 rfl Try.sizeOf3 rfl rfl) ?_
    refine l_load1 (i := 0) (v := .int _ _) Try.isAgg3 rfl rfl rfl rfl rfl ?_
    refine l_call (f69 _) Try.call69 rfl rfl rfl ?_
    refine split (fun h2 => ?_) (fun h2 => ?_)
    · refine l_val rfl rfl rfl (r_notT rfl) ?_
      refine l_val rfl rfl rfl (r_pickF (v := .bool _) rfl rfl) ?_
      refine l_nil ?_
      refine c_false rfl ?_
      refine c_skip ?_
      refine c_seq ?_
      refine c_region ?_
      refine l_val rfl rfl rfl (r_assign (v := .int _ _) rfl) ?_
      refine l_nil ?_
      refine c_ret ?_
      refine ret1 (v := .int _ _) rfl rfl (fin ?_)
      refine vI ?_
      simp only [placeS, isLatS, isLonS, decide_eq_true_eq, decide_eq_false_iff_not] at *
      split <;> omega
    · refine l_val rfl rfl rfl (r_notF rfl) ?_
      refine l_val rfl rfl rfl (r_pickF (v := .bool _) rfl rfl) ?_
      refine l_nil ?_
      refine c_true rfl ?_
      refine c_seq ?_
      refine c_region ?_
      refine l_val rfl rfl rfl (r_assign (v := .int _ _) rfl) ?_
      refine l_nil ?_
      refine c_ret ?_
      refine ret1 (v := .int _ _) rfl rfl (fin ?_)
      refine vI ?_
      simp only [placeS, isLatS, isLonS, decide_eq_true_eq, decide_eq_false_iff_not] at *
      split <;> omega
  · refine l_val rfl rfl rfl (r_notF rfl) ?_
    refine l_val rfl rfl rfl (r_move (v := .bool _) rfl) ?_
    refine l_passed rfl rfl rfl ?_
    refine l_passed rfl rfl rfl ?_
    refine l_passed rfl rfl rfl ?_
    refine l_passed rfl rfl rfl ?_
    refine l_val rfl rfl rfl (r_pickT (v := .bool _) rfl rfl) ?_
    refine l_nil ?_
    refine c_true rfl ?_
    refine c_seq ?_
    refine c_region ?_
    refine l_val rfl rfl rfl (r_assign (v := .int _ _) rfl) ?_
    refine l_nil ?_
    refine c_ret ?_
    refine ret1 (v := .int _ _) rfl rfl (fin ?_)
    refine vI ?_
    simp only [placeS, isLatS, isLonS, decide_eq_true_eq, decide_eq_false_iff_not] at *
    split <;> omega

theorem f16 (a b : Int) : Ret Try.prog 16 [.agg #[.int .i64 a, .int .i64 b]] (.int .i64 (placeS a b)) := by
  refine enterRet (n := 21) Try.func16 rfl rfl rfl (fun wd => ?_)
  refine c_seq ?_
  refine c_region ?_
  refine l_box (cs := [_, _]) rfl rfl rfl rfl (fun b0 => ?_)
  refine l_val rfl rfl rfl (r_assign (v := .int _ _) rfl) ?_
  refine l_nil ?_
  refine c_seq ?_
  refine c_seq ?_
  refine c_region ?_
  refine l_val rfl rfl rfl (r_field Try.runUnderlying25 rfl Try.sizeOf3 rfl rfl) ?_
  refine l_load1 (i := 0) (v := .int _ _) Try.isAgg3 rfl rfl rfl rfl rfl ?_
  refine l_val rfl rfl rfl (r_lss rfl rfl) ?_
  refine splitD (fun h1 => ?_) (fun h1 => ?_)
  · refine l_val rfl rfl rfl (r_move (v := .bool _) rfl) ?_
    refine l_passed rfl rfl rfl ?_
    refine l_passed rfl rfl rfl ?_
    refine l_passed rfl rfl rfl ?_
    refine l_val rfl rfl rfl (r_pickT (v := .bool _) rfl rfl) ?_
    refine l_val rfl rfl rfl (r_move (v := .bool _) rfl) ?_
    refine l_passed rfl rfl rfl ?_
    refine l_passed rfl rfl rfl ?_
    refine l_passed rfl rfl rfl ?_
    refine l_val rfl rfl rfl (r_pickT (v := .bool _) rfl rfl) ?_
    refine l_val rfl rfl rfl (r_move (v := .bool _) rfl) ?_
    refine l_passed rfl rfl rfl ?_
    refine l_passed rfl rfl rfl ?_
    refine l_passed rfl rfl rfl ?_
    refine l_val rfl rfl rfl (r_pickT (v := .bool _) rfl rfl) ?_
    refine l_nil ?_
    refine c_true rfl ?_
    refine c_seq ?_
    refine c_region ?_
    refine l_val rfl rfl rfl (r_assign (v := .int _ _) rfl) ?_
    refine l_nil ?_
    refine c_ret ?_
    refine ret1 (v := .int _ _) rfl rfl (fin ?_)
    refine vI ?_
    simp only [placeS, isLatS, isLonS, decide_eq_true_eq, decide_eq_false_iff_not] at *
    split <;> omega
  · refine l_val rfl rfl rfl (r_move (v := .bool _) rfl) ?_
    refine l_val rfl rfl rfl (r_field Try.runUnderlying25 rfl Try.sizeOf3 rfl rfl) ?_
    refine l_load1 (i := 0) (v := .int _ _) Try.isAgg3 rfl rfl rfl rfl rfl ?_
    refine l_val rfl rfl rfl (r_gtr rfl rfl) ?_
    refine splitD (fun h2 => ?_) (fun h2 => ?_)
    · refine l_val rfl rfl rfl (r_pickF (v := .bool _) rfl rfl) ?_
      refine l_val rfl rfl rfl (r_move (v := .bool _) rfl) ?_
      refine l_passed rfl rfl rfl ?_
      refine l_passed rfl rfl rfl ?_
      refine l_passed rfl rfl rfl ?_
      refine l_val rfl rfl rfl (r_pickT (v := .bool _) rfl rfl) ?_
      refine l_val rfl rfl rfl (r_move (v := .bool _) rfl) ?_
      refine l_passed rfl rfl rfl ?_
      refine l_passed rfl rfl rfl ?_
      refine l_passed rfl rfl rfl ?_
      refine l_val rfl rfl rfl (r_pickT (v := .bool _) rfl rfl) ?_
      refine l_nil ?_
      refine c_true rfl ?_
      refine c_seq ?_
      refine c_region ?_
      refine l_val rfl rfl rfl (r_assign (v := .int _ _) rfl) ?_
      refine l_nil ?_
      refine c_ret ?_
      refine ret1 (v := .int _ _) rfl rfl (fin ?_)
      refine vI ?_
      simp only [placeS, isLatS, isLonS, decide_eq_true_eq, decide_eq_false_iff_not] at *
      split <;> omega
    · refine l_val rfl rfl rfl (r_pickF (v := .bool _) rfl rfl) ?_
      refine l_val rfl rfl rfl (r_move (v := .bool _) rfl) ?_
      refine l_val rfl rfl rfl (r_field Try.runUnderlying25 rfl Try.sizeOf3 rfl rfl) ?_
      refine l_load1 (i := 0) (v := .int _ _) Try.isAgg3 rfl rfl rfl rfl rfl ?_
      refine l_val rfl rfl rfl (r_lss rfl rfl) ?_
      refine splitD (fun h3 => ?_) (fun h3 => ?_)
      · refine l_val rfl rfl rfl (r_pickF (v := .bool _) rfl rfl) ?_
        refine l_val rfl rfl rfl (r_move (v := .bool _) rfl) ?_
        refine l_passed rfl rfl rfl ?_
        refine l_passed rfl rfl rfl ?_
        refine l_passed rfl rfl rfl ?_
        refine l_val rfl rfl rfl (r_pickT (v := .bool _) rfl rfl) ?_
        refine l_nil ?_
        refine c_true rfl ?_
        refine c_seq ?_
        refine c_region ?_
        refine l_val rfl rfl rfl (r_assign (v := .int _ _) rfl) ?_
        refine l_nil ?_
        refine c_ret ?_
        refine ret1 (v := .int _ _) rfl rfl (fin ?_)
        refine vI ?_
        simp only [placeS, isLatS, isLonS, decide_eq_true_eq, decide_eq_false_iff_not] at *
        split <;> omega
      · refine l_val rfl rfl rfl (r_pickF (v := .bool _) rfl rfl) ?_
        refine l_val rfl rfl rfl (r_move (v := .bool _) rfl) ?_
        refine l_val rfl rfl rfl (r_field Try.runUnderlying25 rfl Try.sizeOf3 rfl rfl) ?_
        refine l_load1 (i := 0) (v := .int _ _) Try.isAgg3 rfl rfl rfl rfl rfl ?_
        refine l_val rfl rfl rfl (r_gtr rfl rfl) ?_
        refine splitD (fun h4 => ?_) (fun h4 => ?_)
        · refine l_val rfl rfl rfl (r_pickF (v := .bool _) rfl rfl) ?_
          refine l_nil ?_
          refine c_true rfl ?_
          refine c_seq ?_
          refine c_region ?_
          refine l_val rfl rfl rfl (r_assign (v := .int _ _) rfl) ?_
          refine l_nil ?_
          refine c_ret ?_
          refine ret1 (v := .int _ _) rfl rfl (fin ?_)
          refine vI ?_
          simp only [placeS, isLatS, isLonS, decide_eq_true_eq, decide_eq_false_iff_not] at *
          split <;> omega
        · refine l_val rfl rfl rfl (r_pickF (v := .bool _) rfl rfl) ?_
          refine l_nil ?_
          refine c_false rfl ?_
          refine c_skip ?_
          refine c_seq ?_
          refine c_region ?_
          refine l_val rfl rfl rfl (r_assign (v := .int _ _) rfl) ?_
          refine l_nil ?_
          refine c_ret ?_
          refine ret1 (v := .int _ _) rfl rfl (fin ?_)
          refine vI ?_
          simp only [placeS, isLatS, isLonS, decide_eq_true_eq, decide_eq_false_iff_not] at *
          split <;> omega

theorem f19 (s w n e : Int) : Ret Try.prog 19 [.agg #[.int .i64 s, .int .i64 w, .int .i64 n, .int .i64 e]] (.int .i64 (boxS s w n e)) := by
  refine enterRet (n := 32) Try.func19 rfl rfl rfl (fun wd => ?_)
  refine c_seq ?_
  refine c_region ?_
  refine l_box (cs := [_, _, _, _]) rfl rfl rfl rfl (fun b0 => ?_)
  refine l_val rfl rfl rfl (r_assign (v := .int _ _) rfl) ?_
  refine l_nil ?_
  refine c_seq ?_
  refine c_block ?_
  refine c_seq ?_
  refine c_region ?_
  refine l_val rfl rfl rfl (r_field Try.runUnderlying23 rfl Try.sizeOf3 rfl rfl) ?_
  refine l_load1 (i := 0) (v := .int _ _) Try.isAgg3 rfl rfl rfl rfl rfl ?_
  refine l_call (f68 _) Try.call68 rfl rfl rfl ?_
  refine split (fun h1 => ?_) (fun h1 => ?_)
  · refine l_val rfl rfl rfl (r_notT rfl) ?_
    refine l_val rfl rfl rfl (r_move (v := .bool _) rfl) ?_
    refine l_val rfl rfl rfl (r_field Try.runUnderlying23 rfl Try.sizeOf3 rfl rfl) ?_
    refine l_load1 (i := 0) (v := .int _ _) Try.isAgg3 rfl rfl rfl rfl rfl ?_
    refine l_call (f68 _) Try.call68 rfl rfl rfl ?_
    refine split (fun h2 => ?_) (fun h2 => ?_)
    · refine l_val rfl rfl rfl (r_notT rfl) ?_
      refine l_val rfl rfl rfl (r_pickF (v := .bool _) rfl rfl) ?_
      refine l_val rfl rfl rfl (r_move (v := .bool _) rfl) ?_
      refine l_val rfl rfl rfl (r_field Try.runUnderlying23 rfl Try.sizeOf3 rfl rfl) ?_
      refine l_load1 (i := 0) (v := .int _ _) Try.isAgg3 rfl rfl rfl rfl rfl ?_
      refine l_call (f69 _) Try.call69 rfl rfl rfl ?_
      refine split (fun h3 => ?_) (fun h3 => ?_)
      · refine l_val rfl rfl rfl (r_notT rfl) ?_
        refine l_val rfl rfl rfl (r_pickF (v := .bool _) rfl rfl) ?_
        refine l_val rfl rfl rfl (r_move (v := .bool _) rfl) ?_
        refine l_val rfl rfl rfl (r_field Try.runUnderlying23 rfl Try.sizeOf3 rfl rfl) ?_
        refine l_load1 (i := 0) (v := .int _ _) Try.isAgg3 rfl rfl rfl rfl rfl ?_
        refine l_call (f69 _) Try.call69 rfl rfl rfl ?_
        refine split (fun h4 => ?_) (fun h4 => ?_)
        · refine l_val rfl rfl rfl (r_notT rfl) ?_
          refine l_val rfl rfl rfl (r_pickF (v := .bool _) rfl rfl) ?_
          refine l_val rfl rfl rfl (r_assign (v := .bool _) rfl) ?_
          refine l_nil ?_
          refine c_false rfl ?_
          refine c_seq ?_
          refine c_region ?_
          refine l_val rfl rfl rfl (r_field Try.runUnderlying23 rfl Try.sizeOf3 rfl rfl) ?_
          refine l_load1 (i := 0) (v := .int _ _) Try.isAgg3 rfl rfl rfl rfl rfl ?_
          refine l_val rfl rfl rfl (r_field Try.runUnderlying23 rfl Try.sizeOf3 rfl rfl) ?_
          refine l_load1 (i := 0) (v := .int _ _) Try.isAgg3 rfl rfl rfl rfl rfl ?_
          refine l_val rfl rfl rfl (r_lss rfl rfl) ?_
          refine splitD (fun h5 => ?_) (fun h5 => ?_)
          · refine l_val rfl rfl rfl (r_assign (v := .bool _) rfl) ?_
            refine l_nil ?_
            refine c_true rfl ?_
            refine c_seq ?_
            refine c_region ?_
            refine l_val rfl rfl rfl (r_assign (v := .int _ _) rfl) ?_
            refine l_nil ?_
            refine c_ret ?_
            refine ret1 (v := .int _ _) rfl rfl (fin ?_)
            refine vI ?_
            simp only [boxS, placeS, isLatS, isLonS, decide_eq_true_eq, decide_eq_false_iff_not] at *
            repeat' split
            all_goals omega
          · refine l_val rfl rfl rfl (r_assign (v := .bool _) rfl) ?_
            refine l_nil ?_
            refine c_false rfl ?_
            refine c_skip ?_
            refine c_seq ?_
            refine c_region ?_
            refine l_val rfl rfl rfl (r_assign (v := .int _ _) rfl) ?_
            refine l_nil ?_
            refine c_ret ?_
            refine ret1 (v := .int _ _) rfl rfl (fin ?_)
            refine vI ?_
            simp only [boxS, placeS, isLatS, isLonS, decide_eq_true_eq, decide_eq_false_iff_not] at *
            repeat' split
            all_goals omega
        · refine l_val rfl rfl rfl (r_notF rfl) ?_
          refine l_val rfl rfl rfl (r_pickF (v := .bool _) rfl rfl) ?_
          refine l_val rfl rfl rfl (r_assign (v := .bool _) rfl) ?_
          refine l_nil ?_
          refine c_true rfl ?_
          refine c_seq ?_
          refine c_region ?_
          refine l_val rfl rfl rfl (r_assign (v := .int _ _) rfl) ?_
          refine l_nil ?_
          refine c_ret ?_
          refine ret1 (v := .int _ _) rfl rfl (fin ?_)
          refine vI ?_
          simp only [boxS, placeS, isLatS, isLonS, decide_eq_true_eq, decide_eq_false_iff_not] at *
          repeat' split
          all_goals omega
      · refine l_val rfl rfl rfl (r_notF rfl) ?_
        refine l_val rfl rfl rfl (r_pickF (v := .bool _) rfl rfl) ?_
        refine l_val rfl rfl rfl (r_move (v := .bool _) rfl) ?_
        refine l_passed rfl rfl rfl ?_
        refine l_passed rfl rfl rfl ?_
        refine l_passed rfl rfl rfl ?_
        refine l_passed rfl rfl rfl ?_
        refine l_val rfl rfl rfl (r_pickT (v := .bool _) rfl rfl) ?_
        refine l_val rfl rfl rfl (r_assign (v := .bool _) rfl) ?_
        refine l_nil ?_
        refine c_true rfl ?_
        refine c_seq ?_
        refine c_region ?_
        refine l_val rfl rfl rfl (r_assign (v := .int _ _) rfl) ?_
        refine l_nil ?_
        refine c_ret ?_
        refine ret1 (v := .int _ _) rfl rfl (fin ?_)
        refine vI ?_
        simp only [boxS, placeS, isLatS, isLonS, decide_eq_true_eq, decide_eq_false_iff_not] at *
        repeat' split
        all_goals omega
    · refine l_val rfl rfl rfl (r_notF rfl) ?_
      refine l_val rfl rfl rfl (r_pickF (v := .bool _) rfl rfl) ?_
      refine l_val rfl rfl rfl (r_move (v := .bool _) rfl) ?_
      refine l_passed rfl rfl rfl ?_
      refine l_passed rfl rfl rfl ?_
      refine l_passed rfl rfl rfl ?_
      refine l_passed rfl rfl rfl ?_
      refine l_val rfl rfl rfl (r_pickT (v := .bool _) rfl rfl) ?_
      refine l_val rfl rfl rfl (r_move (v := .bool _) rfl) ?_
      refine l_passed rfl rfl rfl ?_
      refine l_passed rfl rfl rfl ?_
      refine l_passed rfl rfl rfl ?_
      refine l_passed rfl rfl rfl ?_
      refine l_val rfl rfl rfl (r_pickT (v := .bool _) rfl rfl) ?_
      refine l_val rfl rfl rfl (r_assign (v := .bool _) rfl) ?_
      refine l_nil ?_
      refine c_true rfl ?_
      refine c_seq ?_
      refine c_region ?_
      refine l_val rfl rfl rfl (r_assign (v := .int _ _) rfl) ?_
      refine l_nil ?_
      refine c_ret ?_
      refine ret1 (v := .int _ _) rfl rfl (fin ?_)
      refine vI ?_
      simp only [boxS, placeS, isLatS, isLonS, decide_eq_true_eq, decide_eq_false_iff_not] at *
      repeat' split
      all_goals omega
  · refine l_val rfl rfl rfl (r_notF rfl) ?_
    refine l_val rfl rfl rfl (r_move (v := .bool _) rfl) ?_
    refine l_passed rfl rfl rfl ?_
    refine l_passed rfl rfl rfl ?_
    refine l_passed rfl rfl rfl ?_
    refine l_passed rfl rfl rfl ?_
    refine l_val rfl rfl rfl (r_pickT (v := .bool _) rfl rfl) ?_
    refine l_val rfl rfl rfl (r_move (v := .bool _) rfl) ?_
    refine l_passed rfl rfl rfl ?_
    refine l_passed rfl rfl rfl ?_
    refine l_passed rfl rfl rfl ?_
    refine l_passed rfl rfl rfl ?_
    refine l_val rfl rfl rfl (r_pickT (v := .bool _) rfl rfl) ?_
    refine l_val rfl rfl rfl (r_move (v := .bool _) rfl) ?_
    refine l_passed rfl rfl rfl ?_
    refine l_passed rfl rfl rfl ?_
    refine l_passed rfl rfl rfl ?_
    refine l_passed rfl rfl rfl ?_
    refine l_val rfl rfl rfl (r_pickT (v := .bool _) rfl rfl) ?_
    refine l_val rfl rfl rfl (r_assign (v := .bool _) rfl) ?_
    refine l_nil ?_
    refine c_true rfl ?_
    refine c_seq ?_
    refine c_region ?_
    refine l_val rfl rfl rfl (r_assign (v := .int _ _) rfl) ?_
    refine l_nil ?_
    refine c_ret ?_
    refine ret1 (v := .int _ _) rfl rfl (fin ?_)
    refine vI ?_
    simp only [boxS, placeS, isLatS, isLonS, decide_eq_true_eq, decide_eq_false_iff_not] at *
    repeat' split
    all_goals omega

theorem f11 (s w n e : Int) : Ret Try.prog 11 [.agg #[.int .i64 s, .int .i64 w, .int .i64 n, .int .i64 e]] (.int .i64 (boxS s w n e)) := by
  refine enterRet (n := 33) Try.func11 rfl rfl rfl (fun wd => ?_)
  refine c_seq ?_
  refine c_region ?_
  refine l_box (cs := [_, _, _, _]) rfl rfl rfl rfl (fun b0 => ?_)
  refine l_val rfl rfl rfl (r_assign (v := .int _ _) rfl) ?_
  refine l_nil ?_
  refine c_seq ?_
  refine c_seq ?_
  refine c_region ?_
  refine l_val rfl rfl rfl (r_field Try.runUnderlying23 rfl Try.sizeOf3 rfl rfl) ?_
  refine l_load1 (i := 0) (v := .int _ _) Try.isAgg3 rfl rfl rfl rfl rfl ?_
  refine l_val rfl rfl rfl (r_field Try.runUnderlying23 rfl Try.sizeOf3 rfl rfl) ?_
  refine l_load1 (i := 0) (v := .int _ _) Try.isAgg3 rfl rfl rfl rfl rfl ?_
  refine l_val rfl rfl rfl (r_build (pl := #[(0, 1), (1, 1)]) (ps := [(0, .int _ _), (1, .int _ _)]) (cells := #[_, _]) Try.zeroValue25 Try.runUnderlying25 (fun w => by kernel_rfl) rfl rfl) ?_
  refine l_val rfl rfl rfl (r_field Try.runUnderlying23 rfl Try.sizeOf3 rfl rfl) ?_
  refine l_load1 (i := 0) (v := .int _ _) Try.isAgg3 rfl rfl rfl rfl rfl ?_
  refine l_val rfl rfl rfl (r_field Try.runUnderlying23 rfl Try.sizeOf3 rfl rfl) ?_
  refine l_load1 (i := 0) (v := .int _ _) Try.isAgg3 rfl rfl rfl rfl rfl ?_
  refine l_val rfl rfl rfl (r_build (pl := #[(0, 1), (1, 1)]) (ps := [(0, .int _ _), (1, .int _ _)]) (cells := #[_, _]) Try.zeroValue25 Try.runUnderlying25 (fun w => by kernel_rfl) rfl rfl) ?_
  refine l_buildSlice (vs := [.agg #[_, _], .agg #[_, _]]) (cs := [_, _, _, _]) Try.underlying54 Try.sizeOf25 Try.zeroValue25 rfl rfl rfl rfl rfl rfl rfl (fun b1 => ?_)
  refine l_val rfl rfl rfl (r_len Try.underlying54 rfl) ?_
  refine l_val rfl rfl rfl (r_move (v := .int _ _) rfl) ?_
  refine l_nil ?_
  refine c_block ?_
  refine c_unroll 3 ?_
  refine c_once ?_
  refine c_seq ?_
  refine c_region ?_
  refine l_val rfl rfl rfl (r_decT (r_lss rfl rfl) (by decide)) ?_
  refine l_nil ?_
  refine c_seq ?_
  refine c_true rfl ?_
  refine c_skip ?_
  refine c_seq ?_
  refine c_block ?_
  refine c_seq ?_
  refine c_region ?_
  refine l_val rfl rfl rfl (r_index Try.underlying54 Try.sizeOf25 rfl rfl ⟨_, _, rfl⟩ (by decide) (by decide)) ?_
  refine l_loadN (i := 1) (vs := [_, _]) Try.isAgg25 Try.sizeOf25 rfl rfl rfl rfl rfl ?_
  refine l_alloc (cs := [_, _]) Try.zeroValue25 rfl rfl rfl (fun b2 => ?_)
  refine l_store (i := 2) (vs := [_, _]) (cs' := [_, _]) Try.sizeOf25 rfl rfl rfl rfl rfl rfl rfl rfl rfl ?_
  refine l_nil ?_
  refine c_seq ?_
  refine c_region ?_
  refine l_loadN (i := 2) (vs := [_, _]) Try.isAgg25 Try.sizeOf25 rfl rfl rfl rfl rfl ?_
  refine l_call (f16 _ _) Try.call16 rfl rfl rfl ?_
  refine l_val rfl rfl rfl (r_assign (v := .int _ _) rfl) ?_
  refine l_nil ?_
  refine c_seq ?_
  refine c_region ?_
  refine l_val rfl rfl rfl (r_move (v := .int _ _) rfl) ?_
  refine l_val rfl rfl rfl (r_neq rfl rfl) ?_
  refine splitD (fun h1 => ?_) (fun h1 => ?_)
  · refine l_nil ?_
    refine c_true rfl ?_
    refine c_seq ?_
    refine c_region ?_
    refine l_val rfl rfl rfl (r_move (v := .int _ _) rfl) ?_
    refine l_val rfl rfl rfl (r_assign (v := .int _ _) rfl) ?_
    refine l_nil ?_
    refine c_ret ?_
    refine ret1 (v := .int _ _) rfl rfl (fin ?_)
    refine vI ?_
    simp only [boxS, placeS, isLatS, isLonS, decide_eq_true_eq, decide_eq_false_iff_not] at *
    repeat' split
    all_goals omega
  · refine l_nil ?_
    refine c_false rfl ?_
    refine c_skip ?_
    refine c_region ?_
    refine l_val rfl rfl rfl (r_add rfl rfl (by omega)) ?_
    refine l_val rfl rfl rfl (r_move (v := .int _ _) rfl) ?_
    refine l_nil ?_
    refine c_once ?_
    refine c_seq ?_
    refine c_region ?_
    refine l_val rfl rfl rfl (r_decT (r_lss rfl rfl) (by decide)) ?_
    refine l_nil ?_
    refine c_seq ?_
    refine c_true rfl ?_
    refine c_skip ?_
    refine c_seq ?_
    refine c_block ?_
    refine c_seq ?_
    refine c_region ?_
    refine l_val rfl rfl rfl (r_index Try.underlying54 Try.sizeOf25 rfl rfl ⟨_, _, rfl⟩ (by decide) (by decide)) ?_
    refine l_loadN (i := 1) (vs := [_, _]) Try.isAgg25 Try.sizeOf25 rfl rfl rfl rfl rfl ?_
    refine l_alloc (cs := [_, _]) Try.zeroValue25 rfl rfl rfl (fun b3 => ?_)
    refine l_store (i := 3) (vs := [_, _]) (cs' := [_, _]) Try.sizeOf25 rfl rfl rfl rfl rfl rfl rfl rfl rfl ?_
    refine l_nil ?_
    refine c_seq ?_
    refine c_region ?_
    refine l_loadN (i := 3) (vs := [_, _]) Try.isAgg25 Try.sizeOf25 rfl rfl rfl rfl rfl ?_
    refine l_call (f16 _ _) Try.call16 rfl rfl rfl ?_
    refine l_val rfl rfl rfl (r_assign (v := .int _ _) rfl) ?_
    refine l_nil ?_
    refine c_seq ?_
    refine c_region ?_
    refine l_val rfl rfl rfl (r_move (v := .int _ _) rfl) ?_
    refine l_val rfl rfl rfl (r_neq rfl rfl) ?_
    refine splitD (fun h2 => ?_) (fun h2 => ?_)
    · refine l_nil ?_
      refine c_true rfl ?_
      refine c_seq ?_
      refine c_region ?_
      refine l_val rfl rfl rfl (r_move (v := .int _ _) rfl) ?_
      refine l_val rfl rfl rfl (r_assign (v := .int _ _) rfl) ?_
      refine l_nil ?_
      refine c_ret ?_
      refine ret1 (v := .int _ _) rfl rfl (fin ?_)
      refine vI ?_
      simp only [boxS, placeS, isLatS, isLonS, decide_eq_true_eq, decide_eq_false_iff_not] at *
      repeat' split
      all_goals omega
    · refine l_nil ?_
      refine c_false rfl ?_
      refine c_skip ?_
      refine c_region ?_
      refine l_val rfl rfl rfl (r_add rfl rfl (by omega)) ?_
      refine l_val rfl rfl rfl (r_move (v := .int _ _) rfl) ?_
      refine l_nil ?_
      refine c_once ?_
      refine c_seq ?_
      refine c_region ?_
      refine l_val rfl rfl rfl (r_decF (r_lss rfl rfl) (by decide)) ?_
      refine l_nil ?_
      refine c_seq ?_
      refine c_false rfl ?_
      refine c_exit ?_
      refine c_seq ?_
      refine c_seq ?_
      refine c_region ?_
      refine l_val rfl rfl rfl (r_field Try.runUnderlying23 rfl Try.sizeOf3 rfl rfl) ?_
      refine l_load1 (i := 0) (v := .int _ _) Try.isAgg3 rfl rfl rfl rfl rfl ?_
      refine l_val rfl rfl rfl (r_field Try.runUnderlying23 rfl Try.sizeOf3 rfl rfl) ?_
      refine l_load1 (i := 0) (v := .int _ _) Try.isAgg3 rfl rfl rfl rfl rfl ?_
      refine l_val rfl rfl rfl (r_lss rfl rfl) ?_
      refine splitD (fun h3 => ?_) (fun h3 => ?_)
      · refine l_nil ?_
        refine c_true rfl ?_
        refine c_seq ?_
        refine c_region ?_
        refine l_val rfl rfl rfl (r_assign (v := .int _ _) rfl) ?_
        refine l_nil ?_
        refine c_ret ?_
        refine ret1 (v := .int _ _) rfl rfl (fin ?_)
        refine vI ?_
        simp only [boxS, placeS, isLatS, isLonS, decide_eq_true_eq, decide_eq_false_iff_not] at *
        repeat' split
        all_goals omega
      · refine l_nil ?_
        refine c_false rfl ?_
        refine c_skip ?_
        refine c_seq ?_
        refine c_region ?_
        refine l_val rfl rfl rfl (r_assign (v := .int _ _) rfl) ?_
        refine l_nil ?_
        refine c_ret ?_
        refine ret1 (v := .int _ _) rfl rfl (fin ?_)
        refine vI ?_
        simp only [boxS, placeS, isLatS, isLonS, decide_eq_true_eq, decide_eq_false_iff_not] at *
        repeat' split
        all_goals omega

theorem f108 (f t : Int) (b1 : -180000000 ≤ f ∧ f ≤ 180000000) (b2 : -1000000000 ≤ t ∧ t ≤ 1000000000) : Ret Try.prog 108 [.int .i64 f, .int .i64 t] (.int .i64 (eastS f t)) := by
  refine enterRet (n := 11) Try.func108 rfl rfl rfl (fun wd => ?_)
  refine c_seq ?_
  refine c_region ?_
  refine l_val rfl rfl rfl (r_assign (v := .int _ _) rfl) ?_
  refine l_nil ?_
  refine c_seq ?_
  refine c_region ?_
  refine l_val rfl rfl rfl (r_move (v := .int _ _) rfl) ?_
  refine l_val rfl rfl rfl (r_move (v := .int _ _) rfl) ?_
  refine l_val rfl rfl rfl (r_sub rfl rfl (by omega)) ?_
  refine l_val rfl rfl rfl (r_rem rfl rfl (by omega)) ?_
  have hm := tmod_bd (t - f)
  refine l_val rfl rfl rfl (r_add rfl rfl (by omega)) ?_
  refine l_val rfl rfl rfl (r_rem rfl rfl (by omega)) ?_
  refine l_val rfl rfl rfl (r_assign (v := .int _ _) rfl) ?_
  refine l_nil ?_
  refine c_ret ?_
  refine ret1 (v := .int _ _) rfl rfl (fin ?_)
  exact vI (east_rem _)

theorem f70 (f t : Int) (b1 : -180000000 ≤ f ∧ f ≤ 180000000) (b2 : -180000000 ≤ t ∧ t ≤ 180000000) (b3 : t - f < 360000000 ∧ -360000000 ≤ t - f) : Ret Try.prog 70 [.int .i64 f, .int .i64 t] (.int .i64 (eastS f t)) := by
  refine enterRet (n := 14) Try.func70 rfl rfl rfl (fun wd => ?_)
  refine c_seq ?_
  refine c_region ?_
  refine l_val rfl rfl rfl (r_assign (v := .int _ _) rfl) ?_
  refine l_nil ?_
  refine c_seq ?_
  refine c_region ?_
  refine l_val rfl rfl rfl (r_move (v := .int _ _) rfl) ?_
  refine l_val rfl rfl rfl (r_move (v := .int _ _) rfl) ?_
  refine l_val rfl rfl rfl (r_sub rfl rfl (by omega)) ?_
  refine l_val rfl rfl rfl (r_assign (v := .int _ _) rfl) ?_
  refine l_nil ?_
  refine c_seq ?_
  refine c_seq ?_
  refine c_region ?_
  refine l_val rfl rfl rfl (r_move (v := .int _ _) rfl) ?_
  refine l_val rfl rfl rfl (r_lss rfl rfl) ?_
  refine splitD (fun h1 => ?_) (fun h1 => ?_)
  · refine l_nil ?_
    refine c_true rfl ?_
    refine c_region ?_
    refine l_val rfl rfl rfl (r_move (v := .int _ _) rfl) ?_
    refine l_val rfl rfl rfl (r_add rfl rfl (by omega)) ?_
    refine l_val rfl rfl rfl (r_assign (v := .int _ _) rfl) ?_
    refine l_nil ?_
    refine c_seq ?_
    refine c_region ?_
    refine l_val rfl rfl rfl (r_move (v := .int _ _) rfl) ?_
    refine l_val rfl rfl rfl (r_assign (v := .int _ _) rfl) ?_
    refine l_nil ?_
    refine c_ret ?_
    refine ret1 (v := .int _ _) rfl rfl (fin ?_)
    refine vI ?_
    unfold eastS
    omega
  · refine l_nil ?_
    refine c_false rfl ?_
    refine c_skip ?_
    refine c_seq ?_
    refine c_region ?_
    refine l_val rfl rfl rfl (r_move (v := .int _ _) rfl) ?_
    refine l_val rfl rfl rfl (r_assign (v := .int _ _) rfl) ?_
    refine l_nil ?_
    refine c_ret ?_
    refine ret1 (v := .int _ _) rfl rfl (fin ?_)
    refine vI ?_
    unfold eastS
    omega

theorem f65 (n : Int) (b : -1000000000 ≤ n ∧ n ≤ 1000000000) : Ret Try.prog 65 [.int .i64 n] (.int .i64 (wrapS n)) := by
  refine enterRet (n := 6) Try.func65 rfl rfl rfl (fun wd => ?_)
  refine c_seq ?_
  refine c_region ?_
  refine l_val rfl rfl rfl (r_assign (v := .int _ _) rfl) ?_
  refine l_nil ?_
  refine c_seq ?_
  refine c_region ?_
  refine l_val rfl rfl rfl (r_move (v := .int _ _) rfl) ?_
  refine l_call (f108 _ _ (by first | omega | assumption) (by first | omega | assumption)) Try.call108 rfl rfl rfl ?_
  have he : 0 ≤ eastS (-180000000) n ∧ eastS (-180000000) n < 360000000 := by unfold eastS; omega
  refine l_val rfl rfl rfl (r_sub rfl rfl (by omega)) ?_
  refine l_val rfl rfl rfl (r_assign (v := .int _ _) rfl) ?_
  refine l_nil ?_
  refine c_ret ?_
  refine ret1 (v := .int _ _) rfl rfl (fin ?_)
  refine vI ?_
  unfold wrapS eastS
  omega

theorem f67 (n : Int) (b : -1000000000000 ≤ n ∧ n ≤ 1000000000000) : Ret Try.prog 67 [.int .i64 n] (.int .i64 (wrapS n)) := by
  refine enterRet (n := 12) Try.func67 rfl rfl rfl (fun wd => ?_)
  refine c_seq ?_
  refine c_region ?_
  refine l_val rfl rfl rfl (r_assign (v := .int _ _) rfl) ?_
  refine l_nil ?_
  refine c_seq ?_
  refine c_block ?_
  refine c_loopK (σ := Int) [0, 3, 4, 5, 6] (fun k : Int => [(0, .int .i64 k)]) (fun _ => []) (fun k => wrapS k = wrapS n ∧ -1000000000000 ≤ k ∧ k ≤ 1000000000000) (fun k => (1000000000000 - k).toNat) (n) ⟨rfl, b⟩ (by exact ⟨rfl, trivial⟩) rfl (fun k gg hI => ?_)
  obtain ⟨hw, hk⟩ := hI
  refine c_seq ?_
  refine c_seq ?_
  refine c_region ?_
  refine l_val rfl rfl rfl (r_move (v := .int _ _) rfl) ?_
  refine l_val rfl rfl rfl (r_lss rfl rfl) ?_
  refine splitD (fun h1 => ?_) (fun h1 => ?_)
  · refine l_nil ?_
    refine c_true rfl ?_
    refine c_skip ?_
    refine c_block ?_
    refine c_region ?_
    refine l_val rfl rfl rfl (r_move (v := .int _ _) rfl) ?_
    refine l_val rfl rfl rfl (r_add rfl rfl (by omega)) ?_
    refine l_val rfl rfl rfl (r_assign (v := .int _ _) rfl) ?_
    refine l_nil ?_
    refine c_roundK (k + 360000000) [] (by exact ⟨rfl, trivial⟩) (by repeat (first | exact Keeps.refl _ _ | exact Keeps.mix | refine Keeps.upd ?_ rfl | refine Keeps.mkE ?_ _ rfl | refine Keeps.mix2 ?_ rfl)) (by decide) rfl ⟨by unfold wrapS at *; omega, by omega⟩ (by omega)
  · refine l_nil ?_
    refine c_false rfl ?_
    refine c_exit ?_
    refine c_seq ?_
    refine c_block ?_
    refine c_loopK (σ := Int) [0, 7, 8, 9, 10] (fun k : Int => [(0, .int .i64 k)]) (fun _ => []) (fun k => wrapS k = wrapS n ∧ -1000000000000 ≤ k ∧ k ≤ 1000000000000 ∧ -180000000 ≤ k) (fun k => (k + 1000000000000).toNat) (k) ⟨hw, by omega, by omega, by omega⟩ (by exact ⟨rfl, trivial⟩) rfl (fun k2 gg hI2 => ?_)
    obtain ⟨hw2, hk2⟩ := hI2
    refine c_seq ?_
    refine c_seq ?_
    refine c_region ?_
    refine l_val rfl rfl rfl (r_move (v := .int _ _) rfl) ?_
    refine l_val rfl rfl rfl (r_geq rfl rfl) ?_
    refine splitD (fun h2 => ?_) (fun h2 => ?_)
    · refine l_nil ?_
      refine c_true rfl ?_
      refine c_skip ?_
      refine c_block ?_
      refine c_region ?_
      refine l_val rfl rfl rfl (r_move (v := .int _ _) rfl) ?_
      refine l_val rfl rfl rfl (r_sub rfl rfl (by omega)) ?_
      refine l_val rfl rfl rfl (r_assign (v := .int _ _) rfl) ?_
      refine l_nil ?_
      refine c_roundK (k2 - 360000000) [] (by exact ⟨rfl, trivial⟩) (by repeat (first | exact Keeps.refl _ _ | exact Keeps.mix | refine Keeps.upd ?_ rfl | refine Keeps.mkE ?_ _ rfl | refine Keeps.mix2 ?_ rfl)) (by decide) rfl ⟨by unfold wrapS at *; omega, by omega⟩ (by omega)
    · refine l_nil ?_
      refine c_false rfl ?_
      refine c_exit ?_
      refine c_seq ?_
      refine c_region ?_
      refine l_val rfl rfl rfl (r_move (v := .int _ _) rfl) ?_
      refine l_val rfl rfl rfl (r_assign (v := .int _ _) rfl) ?_
      refine l_nil ?_
      refine c_ret ?_
      refine ret1 (v := .int _ _) rfl rfl (fin ?_)
      refine vI ?_
      unfold wrapS at *
      omega

theorem f64 (lat : Int) (b : -90000000 ≤ lat ∧ lat ≤ 90000000) : Ret Try.prog 64 [.int .i64 lat] (.int .i64 (cosS lat)) := by
  refine enterRet (n := 17) Try.func64 rfl rfl rfl (fun wd => ?_)
  refine c_seq ?_
  refine c_region ?_
  refine l_val rfl rfl rfl (r_assign (v := .int _ _) rfl) ?_
  refine l_nil ?_
  refine c_seq ?_
  refine c_region ?_
  have hl := tdiv100 b
  have hq := sq_bd hl
  have h4 := four (lat.tdiv 100)
  refine l_val rfl rfl rfl (r_move (v := .int _ _) rfl) ?_
  refine l_val rfl rfl rfl (r_quo rfl rfl (by omega) (by omega)) ?_
  refine l_val rfl rfl rfl (r_assign (v := .int _ _) rfl) ?_
  refine l_nil ?_
  refine c_seq ?_
  refine c_region ?_
  refine l_val rfl rfl rfl (r_move (v := .int _ _) rfl) ?_
  refine l_val rfl rfl rfl (r_mul rfl rfl (by omega)) ?_
  refine l_val rfl rfl rfl (r_move (v := .int _ _) rfl) ?_
  refine l_val rfl rfl rfl (r_mul rfl rfl (by omega)) ?_
  refine l_val rfl rfl rfl (r_sub rfl rfl (by omega)) ?_
  refine l_val rfl rfl rfl (r_mul rfl rfl (by omega)) ?_
  refine l_val rfl rfl rfl (r_move (v := .int _ _) rfl) ?_
  refine l_val rfl rfl rfl (r_move (v := .int _ _) rfl) ?_
  refine l_val rfl rfl rfl (r_mul rfl rfl (by omega)) ?_
  refine l_val rfl rfl rfl (r_add rfl rfl (by omega)) ?_
  refine l_val rfl rfl rfl (r_quo rfl rfl (by omega) (by omega)) ?_
  refine l_val rfl rfl rfl (r_assign (v := .int _ _) rfl) ?_
  refine l_nil ?_
  refine c_ret ?_
  refine ret1 (v := .int _ _) rfl rfl (fin ?_)
  rfl

theorem f66 (lat : Int) (b : -90000000 ≤ lat ∧ lat ≤ 90000000) : Ret Try.prog 66 [.int .i64 lat] (.int .i64 (cosS lat)) := by
  refine enterRet (n := 17) Try.func66 rfl rfl rfl (fun wd => ?_)
  refine c_seq ?_
  refine c_region ?_
  refine l_val rfl rfl rfl (r_assign (v := .int _ _) rfl) ?_
  refine l_nil ?_
  refine c_seq ?_
  refine c_region ?_
  have hl := tdiv100 b
  have hq := sq_bd hl
  have h4 := four (lat.tdiv 100)
  refine l_val rfl rfl rfl (r_move (v := .int _ _) rfl) ?_
  refine l_val rfl rfl rfl (r_quo rfl rfl (by omega) (by omega)) ?_
  refine l_val rfl rfl rfl (r_assign (v := .int _ _) rfl) ?_
  refine l_nil ?_
  refine c_seq ?_
  refine c_region ?_
  refine l_val rfl rfl rfl (r_move (v := .int _ _) rfl) ?_
  refine l_val rfl rfl rfl (r_mul rfl rfl (by omega)) ?_
  refine l_val rfl rfl rfl (r_move (v := .int _ _) rfl) ?_
  refine l_val rfl rfl rfl (r_mul rfl rfl (by omega)) ?_
  refine l_val rfl rfl rfl (r_sub rfl rfl (by omega)) ?_
  refine l_val rfl rfl rfl (r_mul rfl rfl (by omega)) ?_
  refine l_val rfl rfl rfl (r_move (v := .int _ _) rfl) ?_
  refine l_val rfl rfl rfl (r_move (v := .int _ _) rfl) ?_
  refine l_val rfl rfl rfl (r_mul rfl rfl (by omega)) ?_
  refine l_val rfl rfl rfl (r_add rfl rfl (by omega)) ?_
  refine l_val rfl rfl rfl (r_quo rfl rfl (by omega) (by omega)) ?_
  refine l_val rfl rfl rfl (r_assign (v := .int _ _) rfl) ?_
  refine l_nil ?_
  refine c_ret ?_
  refine ret1 (v := .int _ _) rfl rfl (fin ?_)
  rfl

end Go.Proofs.Ytfgehlmdcllclaa
