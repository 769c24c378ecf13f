/- The law WhereDistances, walked. Conditions: none. -/
import Derived.Test.YtfgehlmdcllclaaW3
namespace Go.Proofs.Ytfgehlmdcllclaa
open Go Go.Vc Go.Vc.Where
set_option maxRecDepth 100000

theorem f6 (la1 lo1 la2 lo2 p q : Int) : Ret Try.prog 6 [.agg #[.int .i64 la1, .int .i64 lo1], .agg #[.int .i64 la2, .int .i64 lo2], .int .i64 p, .int .i64 q] (.bool true) := by
  refine enterRet (n := 89) Try.func6 rfl rfl rfl (fun wd => ?_)
  refine c_seq ?_
  refine c_region ?_
  refine l_box (cs := [_, _]) rfl rfl rfl rfl (fun b0 => ?_)
  refine l_box (cs := [_, _]) rfl rfl rfl rfl (fun b1 => ?_)
  refine l_val rfl rfl rfl (r_assign (v := .bool _) rfl) ?_
  refine l_nil ?_
  refine c_seq ?_
  refine c_region ?_
  refine l_loadN (i := 0) (vs := [_, _]) Try.isAgg25 Try.sizeOf25 rfl rfl rfl rfl rfl ?_
  refine l_loadN (i := 1) (vs := [_, _]) Try.isAgg25 Try.sizeOf25 rfl rfl rfl rfl rfl ?_
  refine l_call (f34 _ _ _ _) Try.call34 rfl rfl rfl ?_
  refine l_val rfl rfl rfl (r_move (v := .tuple _) rfl) ?_
  refine l_val rfl rfl rfl (r_extract (v := .int _ _) rfl rfl) ?_
  refine l_val rfl rfl rfl (r_extract (v := .int _ _) rfl rfl) ?_
  refine l_val rfl rfl rfl (r_assign (v := .int _ _) rfl) ?_
  refine l_val rfl rfl rfl (r_assign (v := .int _ _) rfl) ?_
  refine l_nil ?_
  refine c_seq ?_
  refine c_region ?_
  refine l_loadN (i := 0) (vs := [_, _]) Try.isAgg25 Try.sizeOf25 rfl rfl rfl rfl rfl ?_
  refine l_loadN (i := 1) (vs := [_, _]) Try.isAgg25 Try.sizeOf25 rfl rfl rfl rfl rfl ?_
  refine l_val rfl rfl rfl (r_move (v := .int _ _) rfl) ?_
  refine l_val rfl rfl rfl (r_move (v := .int _ _) rfl) ?_
  refine l_call (f35 _ _ _ _ _ _) Try.call35 rfl rfl rfl ?_
  refine l_val rfl rfl rfl (r_move (v := .tuple _) rfl) ?_
  refine l_val rfl rfl rfl (r_extract (v := .agg #[_, _]) rfl rfl) ?_
  refine l_val rfl rfl rfl (r_extract (v := .int _ _) rfl rfl) ?_
  refine l_alloc (cs := [_, _]) Try.zeroValue25 rfl rfl rfl (fun b2 => ?_)
  refine l_store (i := 2) (vs := [_, _]) (cs' := [_, _]) Try.sizeOf25 rfl rfl rfl rfl rfl rfl rfl rfl rfl ?_
  refine l_val rfl rfl rfl (r_assign (v := .int _ _) rfl) ?_
  refine l_nil ?_
  refine c_seq ?_
  exact c_regionD (Kd.d [0] _ :: Kd.d [] _ :: Kd.d [1] _ :: Kd.d [] _ :: Kd.ns 3 [_, _] 26 2 :: Kd.d [3] _ :: Kd.p :: []) 1 mixed (by
    refine d_loadN (i := 0) (vs := [_, _]) Try.isAgg25 Try.sizeOf25 rfl rfl rfl rfl ?_
    refine d_call (f16 _ _) Try.call16 rfl rfl ?_
    refine d_loadN (i := 1) (vs := [_, _]) Try.isAgg25 Try.sizeOf25 rfl rfl rfl rfl ?_
    refine d_call (f16 _ _) Try.call16 rfl rfl ?_
    refine d_newS rfl rfl (run_buildSlice (vs := [.int _ _, .int _ _]) (cs := [_, _]) Try.underlying106 Try.sizeOf26 Try.zeroValue26 rfl rfl rfl rfl rfl) rfl (fun b4_4 => ?_)
    refine d_callD (fun w L' hF hS hi => f15 _ _ [_, _] (by simp) w (row_box (i := 3) hS ((hi 3 (by simp)).trans rfl) rfl rfl)) Try.call15 rfl rfl ?_
    refine d_val rfl rfl (r_assign (v := .int _ _) rfl) ?_
    refine d_nil ?_
    refine c_seq ?_
    refine c_region ?_
    refine l_val rfl rfl rfl (r_move (v := .int _ _) rfl) ?_
    refine l_val rfl rfl rfl (r_move (v := .int _ _) rfl) ?_
    refine l_val rfl rfl rfl (r_geq rfl rfl) ?_
    refine splitD (fun h1 => ?_) (fun h1 => ?_)
    · refine l_val rfl rfl rfl (r_move (v := .bool _) rfl) ?_
      refine l_val rfl rfl rfl (r_move (v := .int _ _) rfl) ?_
      refine l_val rfl rfl rfl (r_leq rfl rfl) ?_
      refine splitD (fun h2 => ?_) (fun h2 => ?_)
      · refine l_val rfl rfl rfl (r_pickT (v := .bool _) rfl rfl) ?_
        refine l_val rfl rfl rfl (r_move (v := .bool _) rfl) ?_
        refine l_val rfl rfl rfl (r_move (v := .int _ _) rfl) ?_
        refine l_val rfl rfl rfl (r_geq rfl rfl) ?_
        refine splitD (fun h3 => ?_) (fun h3 => ?_)
        · refine l_val rfl rfl rfl (r_pickT (v := .bool _) rfl rfl) ?_
          refine l_val rfl rfl rfl (r_move (v := .bool _) rfl) ?_
          refine l_val rfl rfl rfl (r_move (v := .int _ _) rfl) ?_
          refine l_val rfl rfl rfl (r_move (v := .int _ _) rfl) ?_
          refine l_val rfl rfl rfl (r_leq rfl rfl) ?_
          refine l_val rfl rfl rfl (r_pickT (v := .bool _) rfl rfl) ?_
          refine l_call (f25 _ _) Try.call25 rfl rfl rfl ?_
          refine l_buildSlice (vs := [.int _ _, .int _ _]) (cs := [_, _]) Try.underlying106 Try.sizeOf26 Try.zeroValue26 rfl rfl rfl rfl rfl rfl rfl (fun b4 => ?_)
          refine l_callG (fun w hF hS => f15 _ _ [_, _] (by simp) w (row_box (i := 4) hS rfl rfl rfl)) Try.call15 rfl rfl rfl ?_
          refine l_val rfl rfl rfl (r_assign (v := .int _ _) rfl) ?_
          refine l_nil ?_
          refine c_seq ?_
          refine c_seq ?_
          refine c_region ?_
          refine l_val rfl rfl rfl (r_move (v := .int _ _) rfl) ?_
          refine l_val rfl rfl rfl (r_neq rfl rfl) ?_
          refine splitD (fun h4 => ?_) (fun h4 => ?_)
          · refine l_nil ?_
            refine c_true rfl ?_
            refine c_seq ?_
            refine c_region ?_
            refine l_val rfl rfl rfl (r_move (v := .int _ _) rfl) ?_
            refine l_val rfl rfl rfl (r_move (v := .int _ _) rfl) ?_
            refine l_val rfl rfl rfl (r_move (v := .int _ _) rfl) ?_
            refine l_call (f36 _ _ _ _) Try.call36 rfl rfl rfl ?_
            refine knownT (by first | exact told_dist | exact told_dist' ‹_›) ?_
            refine l_val rfl rfl rfl (r_move (v := .bool _) rfl) ?_
            refine l_loadN (i := 2) (vs := [_, _]) Try.isAgg25 Try.sizeOf25 rfl rfl rfl rfl rfl ?_
            refine l_val rfl rfl rfl (r_move (v := .int _ _) rfl) ?_
            refine l_loadN (i := 2) (vs := [_, _]) Try.isAgg25 Try.sizeOf25 rfl rfl rfl rfl rfl ?_
            refine l_val rfl rfl rfl (r_move (v := .int _ _) rfl) ?_
            refine l_call (f37 _ _ _ _ _ _) Try.call37 rfl rfl rfl ?_
            refine knownT (told_betw' (y := (_, _)) (by first | (rw [if_pos (by omega), if_pos (by first | rfl | (simp; omega))]) | (rw [if_neg (by omega), if_neg (by first | decide | (simp; omega))]) | exact cond_pq ‹_› ‹_› ‹_›) (first_ne ‹_›)) ?_
            refine l_val rfl rfl rfl (r_pickT (v := .bool _) rfl rfl) ?_
            refine l_val rfl rfl rfl (r_assign (v := .bool _) rfl) ?_
            refine l_nil ?_
            refine c_ret ?_
            refine ret1 (v := .bool _) rfl rfl (fin ?_)
            rfl
          · refine l_nil ?_
            refine c_false rfl ?_
            refine c_skip ?_
            refine c_seq ?_
            refine c_region ?_
            refine l_alloc (cs := [_, _]) Try.zeroValue25 rfl rfl rfl (fun b5 => ?_)
            refine l_nil ?_
            refine c_seq ?_
            refine c_seq ?_
            refine c_region ?_
            refine l_val rfl rfl rfl (r_move (v := .int _ _) rfl) ?_
            refine l_val rfl rfl rfl (r_eql rfl rfl) ?_
            refine splitD (fun h5 => ?_) (fun h5 => ?_)
            · refine l_nil ?_
              refine c_true rfl ?_
              refine c_region ?_
              obtain ⟨q1, q2⟩ := first2 (Classical.not_not.1 ‹¬ firstS [placeS la1 lo1, placeS la2 lo2] ≠ 0›)
              obtain ⟨_, q3⟩ := first2 h5
              have hpq : (1 ≤ q ∧ q ≤ 6311433599) ∧ 0 ≤ p ∧ p ≤ q := by simp_all
              refine l_loadN (i := 0) (vs := [_, _]) Try.isAgg25 Try.sizeOf25 rfl rfl rfl rfl rfl ?_
              refine l_loadN (i := 1) (vs := [_, _]) Try.isAgg25 Try.sizeOf25 rfl rfl rfl rfl rfl ?_
              refine l_val rfl rfl rfl (r_move (v := .int _ _) rfl) ?_
              refine l_val rfl rfl rfl (r_move (v := .int _ _) rfl) ?_
              refine l_call (f38 _ _ _ _ _ _ (by first | omega | assumption) (by first | omega | assumption) (by first | omega | assumption) (by first | omega | assumption)) Try.call38 rfl rfl rfl ?_
              refine l_store (i := 5) (vs := [_, _]) (cs' := [_, _]) Try.sizeOf25 rfl rfl rfl rfl rfl rfl rfl rfl rfl ?_
              refine l_nil ?_
              refine c_seq ?_
              refine c_region ?_
              refine l_val rfl rfl rfl (r_move (v := .int _ _) rfl) ?_
              refine l_val rfl rfl rfl (r_move (v := .int _ _) rfl) ?_
              obtain ⟨q1, q2⟩ := first2 (Classical.not_not.1 ‹¬ firstS [placeS la1 lo1, placeS la2 lo2] ≠ 0›)
              refine l_loadN (i := 0) (vs := [_, _]) Try.isAgg25 Try.sizeOf25 rfl rfl rfl rfl rfl ?_
              refine l_loadN (i := 1) (vs := [_, _]) Try.isAgg25 Try.sizeOf25 rfl rfl rfl rfl rfl ?_
              refine l_call (f39 _ _ _ _ (by first | omega | assumption) (by first | omega | assumption)) Try.call39 rfl rfl rfl ?_
              refine l_val rfl rfl rfl (r_move (v := .int _ _) rfl) ?_
              refine l_call (f36 _ _ _ _) Try.call36 rfl rfl rfl ?_
              refine knownT (by first | exact told_dist | exact told_dist' ‹_›) ?_
              refine l_val rfl rfl rfl (r_move (v := .bool _) rfl) ?_
              refine l_loadN (i := 2) (vs := [_, _]) Try.isAgg25 Try.sizeOf25 rfl rfl rfl rfl rfl ?_
              refine l_val rfl rfl rfl (r_move (v := .int _ _) rfl) ?_
              refine l_loadN (i := 5) (vs := [_, _]) Try.isAgg25 Try.sizeOf25 rfl rfl rfl rfl rfl ?_
              refine l_val rfl rfl rfl (r_move (v := .int _ _) rfl) ?_
              refine l_call (f37 _ _ _ _ _ _) Try.call37 rfl rfl rfl ?_
              refine knownT (by first | exact told_betw (by first | (rw [if_pos (by omega), if_pos (by first | rfl | (simp; omega))]) | (rw [if_neg (by omega), if_neg (by first | decide | (simp; omega))]) | exact cond_pq ‹_› ‹_› ‹_›) | exact told_betw' (y := (_, _)) (by first | (rw [if_pos (by omega), if_pos (by first | rfl | (simp; omega))]) | (rw [if_neg (by omega), if_neg (by first | decide | (simp; omega))]) | exact cond_pq ‹_› ‹_› ‹_›) ‹_›) ?_
              refine l_val rfl rfl rfl (r_pickT (v := .bool _) rfl rfl) ?_
              refine l_val rfl rfl rfl (r_assign (v := .bool _) rfl) ?_
              refine l_nil ?_
              refine c_ret ?_
              refine ret1 (v := .bool _) rfl rfl (fin ?_)
              rfl
            · refine l_nil ?_
              refine c_false rfl ?_
              refine c_skip ?_
              refine c_seq ?_
              refine c_region ?_
              refine l_val rfl rfl rfl (r_move (v := .int _ _) rfl) ?_
              refine l_val rfl rfl rfl (r_move (v := .int _ _) rfl) ?_
              obtain ⟨q1, q2⟩ := first2 (Classical.not_not.1 ‹¬ firstS [placeS la1 lo1, placeS la2 lo2] ≠ 0›)
              refine l_loadN (i := 0) (vs := [_, _]) Try.isAgg25 Try.sizeOf25 rfl rfl rfl rfl rfl ?_
              refine l_loadN (i := 1) (vs := [_, _]) Try.isAgg25 Try.sizeOf25 rfl rfl rfl rfl rfl ?_
              refine l_call (f39 _ _ _ _ (by first | omega | assumption) (by first | omega | assumption)) Try.call39 rfl rfl rfl ?_
              refine l_val rfl rfl rfl (r_move (v := .int _ _) rfl) ?_
              refine l_call (f36 _ _ _ _) Try.call36 rfl rfl rfl ?_
              refine knownT (by first | exact told_dist | exact told_dist' ‹_›) ?_
              refine l_val rfl rfl rfl (r_move (v := .bool _) rfl) ?_
              refine l_loadN (i := 2) (vs := [_, _]) Try.isAgg25 Try.sizeOf25 rfl rfl rfl rfl rfl ?_
              refine l_val rfl rfl rfl (r_move (v := .int _ _) rfl) ?_
              refine l_loadN (i := 5) (vs := [_, _]) Try.isAgg25 Try.sizeOf25 rfl rfl rfl rfl rfl ?_
              refine l_val rfl rfl rfl (r_move (v := .int _ _) rfl) ?_
              refine l_call (f37 _ _ _ _ _ _) Try.call37 rfl rfl rfl ?_
              refine knownT (by first | exact told_betw (by first | (rw [if_pos (by omega), if_pos (by first | rfl | (simp; omega))]) | (rw [if_neg (by omega), if_neg (by first | decide | (simp; omega))]) | exact cond_pq ‹_› ‹_› ‹_›) | exact told_betw' (y := (_, _)) (by first | (rw [if_pos (by omega), if_pos (by first | rfl | (simp; omega))]) | (rw [if_neg (by omega), if_neg (by first | decide | (simp; omega))]) | exact cond_pq ‹_› ‹_› ‹_›) ‹_›) ?_
              refine l_val rfl rfl rfl (r_pickT (v := .bool _) rfl rfl) ?_
              refine l_val rfl rfl rfl (r_assign (v := .bool _) rfl) ?_
              refine l_nil ?_
              refine c_ret ?_
              refine ret1 (v := .bool _) rfl rfl (fin ?_)
              rfl
        · refine l_val rfl rfl rfl (r_pickT (v := .bool _) rfl rfl) ?_
          refine l_val rfl rfl rfl (r_move (v := .bool _) rfl) ?_
          refine l_passed rfl rfl rfl ?_
          refine l_passed rfl rfl rfl ?_
          refine l_passed rfl rfl rfl ?_
          refine l_val rfl rfl rfl (r_pickF (v := .bool _) rfl rfl) ?_
          refine l_call (f25 _ _) Try.call25 rfl rfl rfl ?_
          refine l_buildSlice (vs := [.int _ _, .int _ _]) (cs := [_, _]) Try.underlying106 Try.sizeOf26 Try.zeroValue26 rfl rfl rfl rfl rfl rfl rfl (fun b4 => ?_)
          refine l_callG (fun w hF hS => f15 _ _ [_, _] (by simp) w (row_box (i := 4) hS rfl rfl rfl)) Try.call15 rfl rfl rfl ?_
          refine l_val rfl rfl rfl (r_assign (v := .int _ _) rfl) ?_
          refine l_nil ?_
          refine c_seq ?_
          refine c_seq ?_
          refine c_region ?_
          refine l_val rfl rfl rfl (r_move (v := .int _ _) rfl) ?_
          refine l_val rfl rfl rfl (r_neq rfl rfl) ?_
          refine splitD (fun h6 => ?_) (fun h6 => ?_)
          · refine l_nil ?_
            refine c_true rfl ?_
            refine c_seq ?_
            refine c_region ?_
            refine l_val rfl rfl rfl (r_move (v := .int _ _) rfl) ?_
            refine l_val rfl rfl rfl (r_move (v := .int _ _) rfl) ?_
            refine l_val rfl rfl rfl (r_move (v := .int _ _) rfl) ?_
            refine l_call (f36 _ _ _ _) Try.call36 rfl rfl rfl ?_
            refine knownT (by first | exact told_dist | exact told_dist' ‹_›) ?_
            refine l_val rfl rfl rfl (r_move (v := .bool _) rfl) ?_
            refine l_loadN (i := 2) (vs := [_, _]) Try.isAgg25 Try.sizeOf25 rfl rfl rfl rfl rfl ?_
            refine l_val rfl rfl rfl (r_move (v := .int _ _) rfl) ?_
            refine l_loadN (i := 2) (vs := [_, _]) Try.isAgg25 Try.sizeOf25 rfl rfl rfl rfl rfl ?_
            refine l_val rfl rfl rfl (r_move (v := .int _ _) rfl) ?_
            refine l_call (f37 _ _ _ _ _ _) Try.call37 rfl rfl rfl ?_
            refine knownT (told_betw' (y := (_, _)) (by first | (rw [if_pos (by omega), if_pos (by first | rfl | (simp; omega))]) | (rw [if_neg (by omega), if_neg (by first | decide | (simp; omega))]) | exact cond_pq ‹_› ‹_› ‹_›) (first_ne ‹_›)) ?_
            refine l_val rfl rfl rfl (r_pickT (v := .bool _) rfl rfl) ?_
            refine l_val rfl rfl rfl (r_assign (v := .bool _) rfl) ?_
            refine l_nil ?_
            refine c_ret ?_
            refine ret1 (v := .bool _) rfl rfl (fin ?_)
            rfl
          · refine l_nil ?_
            refine c_false rfl ?_
            refine c_skip ?_
            refine c_seq ?_
            refine c_region ?_
            refine l_alloc (cs := [_, _]) Try.zeroValue25 rfl rfl rfl (fun b5 => ?_)
            refine l_nil ?_
            refine c_seq ?_
            refine c_seq ?_
            refine c_region ?_
            refine l_val rfl rfl rfl (r_move (v := .int _ _) rfl) ?_
            refine l_val rfl rfl rfl (r_eql rfl rfl) ?_
            refine splitD (fun h7 => ?_) (fun h7 => ?_)
            · refine l_nil ?_
              refine c_true rfl ?_
              refine c_region ?_
              obtain ⟨q1, q2⟩ := first2 (Classical.not_not.1 ‹¬ firstS [placeS la1 lo1, placeS la2 lo2] ≠ 0›)
              obtain ⟨_, q3⟩ := first2 h7
              have hpq : (1 ≤ q ∧ q ≤ 6311433599) ∧ 0 ≤ p ∧ p ≤ q := by simp_all
              refine l_loadN (i := 0) (vs := [_, _]) Try.isAgg25 Try.sizeOf25 rfl rfl rfl rfl rfl ?_
              refine l_loadN (i := 1) (vs := [_, _]) Try.isAgg25 Try.sizeOf25 rfl rfl rfl rfl rfl ?_
              refine l_val rfl rfl rfl (r_move (v := .int _ _) rfl) ?_
              refine l_val rfl rfl rfl (r_move (v := .int _ _) rfl) ?_
              refine l_call (f38 _ _ _ _ _ _ (by first | omega | assumption) (by first | omega | assumption) (by first | omega | assumption) (by first | omega | assumption)) Try.call38 rfl rfl rfl ?_
              refine l_store (i := 5) (vs := [_, _]) (cs' := [_, _]) Try.sizeOf25 rfl rfl rfl rfl rfl rfl rfl rfl rfl ?_
              refine l_nil ?_
              refine c_seq ?_
              refine c_region ?_
              refine l_val rfl rfl rfl (r_move (v := .int _ _) rfl) ?_
              refine l_val rfl rfl rfl (r_move (v := .int _ _) rfl) ?_
              obtain ⟨q1, q2⟩ := first2 (Classical.not_not.1 ‹¬ firstS [placeS la1 lo1, placeS la2 lo2] ≠ 0›)
              refine l_loadN (i := 0) (vs := [_, _]) Try.isAgg25 Try.sizeOf25 rfl rfl rfl rfl rfl ?_
              refine l_loadN (i := 1) (vs := [_, _]) Try.isAgg25 Try.sizeOf25 rfl rfl rfl rfl rfl ?_
              refine l_call (f39 _ _ _ _ (by first | omega | assumption) (by first | omega | assumption)) Try.call39 rfl rfl rfl ?_
              refine l_val rfl rfl rfl (r_move (v := .int _ _) rfl) ?_
              refine l_call (f36 _ _ _ _) Try.call36 rfl rfl rfl ?_
              refine knownT (by first | exact told_dist | exact told_dist' ‹_›) ?_
              refine l_val rfl rfl rfl (r_move (v := .bool _) rfl) ?_
              refine l_loadN (i := 2) (vs := [_, _]) Try.isAgg25 Try.sizeOf25 rfl rfl rfl rfl rfl ?_
              refine l_val rfl rfl rfl (r_move (v := .int _ _) rfl) ?_
              refine l_loadN (i := 5) (vs := [_, _]) Try.isAgg25 Try.sizeOf25 rfl rfl rfl rfl rfl ?_
              refine l_val rfl rfl rfl (r_move (v := .int _ _) rfl) ?_
              refine l_call (f37 _ _ _ _ _ _) Try.call37 rfl rfl rfl ?_
              refine knownT (by first | exact told_betw (by first | (rw [if_pos (by omega), if_pos (by first | rfl | (simp; omega))]) | (rw [if_neg (by omega), if_neg (by first | decide | (simp; omega))]) | exact cond_pq ‹_› ‹_› ‹_›) | exact told_betw' (y := (_, _)) (by first | (rw [if_pos (by omega), if_pos (by first | rfl | (simp; omega))]) | (rw [if_neg (by omega), if_neg (by first | decide | (simp; omega))]) | exact cond_pq ‹_› ‹_› ‹_›) ‹_›) ?_
              refine l_val rfl rfl rfl (r_pickT (v := .bool _) rfl rfl) ?_
              refine l_val rfl rfl rfl (r_assign (v := .bool _) rfl) ?_
              refine l_nil ?_
              refine c_ret ?_
              refine ret1 (v := .bool _) rfl rfl (fin ?_)
              rfl
            · refine l_nil ?_
              refine c_false rfl ?_
              refine c_skip ?_
              refine c_seq ?_
              refine c_region ?_
              refine l_val rfl rfl rfl (r_move (v := .int _ _) rfl) ?_
              refine l_val rfl rfl rfl (r_move (v := .int _ _) rfl) ?_
              obtain ⟨q1, q2⟩ := first2 (Classical.not_not.1 ‹¬ firstS [placeS la1 lo1, placeS la2 lo2] ≠ 0›)
              refine l_loadN (i := 0) (vs := [_, _]) Try.isAgg25 Try.sizeOf25 rfl rfl rfl rfl rfl ?_
              refine l_loadN (i := 1) (vs := [_, _]) Try.isAgg25 Try.sizeOf25 rfl rfl rfl rfl rfl ?_
              refine l_call (f39 _ _ _ _ (by first | omega | assumption) (by first | omega | assumption)) Try.call39 rfl rfl rfl ?_
              refine l_val rfl rfl rfl (r_move (v := .int _ _) rfl) ?_
              refine l_call (f36 _ _ _ _) Try.call36 rfl rfl rfl ?_
              refine knownT (by first | exact told_dist | exact told_dist' ‹_›) ?_
              refine l_val rfl rfl rfl (r_move (v := .bool _) rfl) ?_
              refine l_loadN (i := 2) (vs := [_, _]) Try.isAgg25 Try.sizeOf25 rfl rfl rfl rfl rfl ?_
              refine l_val rfl rfl rfl (r_move (v := .int _ _) rfl) ?_
              refine l_loadN (i := 5) (vs := [_, _]) Try.isAgg25 Try.sizeOf25 rfl rfl rfl rfl rfl ?_
              refine l_val rfl rfl rfl (r_move (v := .int _ _) rfl) ?_
              refine l_call (f37 _ _ _ _ _ _) Try.call37 rfl rfl rfl ?_
              refine knownT (by first | exact told_betw (by first | (rw [if_pos (by omega), if_pos (by first | rfl | (simp; omega))]) | (rw [if_neg (by omega), if_neg (by first | decide | (simp; omega))]) | exact cond_pq ‹_› ‹_› ‹_›) | exact told_betw' (y := (_, _)) (by first | (rw [if_pos (by omega), if_pos (by first | rfl | (simp; omega))]) | (rw [if_neg (by omega), if_neg (by first | decide | (simp; omega))]) | exact cond_pq ‹_› ‹_› ‹_›) ‹_›) ?_
              refine l_val rfl rfl rfl (r_pickT (v := .bool _) rfl rfl) ?_
              refine l_val rfl rfl rfl (r_assign (v := .bool _) rfl) ?_
              refine l_nil ?_
              refine c_ret ?_
              refine ret1 (v := .bool _) rfl rfl (fin ?_)
              rfl
      · refine l_val rfl rfl rfl (r_pickT (v := .bool _) rfl rfl) ?_
        refine l_val rfl rfl rfl (r_move (v := .bool _) rfl) ?_
        refine l_passed rfl rfl rfl ?_
        refine l_passed rfl rfl rfl ?_
        refine l_val rfl rfl rfl (r_pickF (v := .bool _) rfl rfl) ?_
        refine l_val rfl rfl rfl (r_move (v := .bool _) rfl) ?_
        refine l_passed rfl rfl rfl ?_
        refine l_passed rfl rfl rfl ?_
        refine l_passed rfl rfl rfl ?_
        refine l_val rfl rfl rfl (r_pickF (v := .bool _) rfl rfl) ?_
        refine l_call (f25 _ _) Try.call25 rfl rfl rfl ?_
        refine l_buildSlice (vs := [.int _ _, .int _ _]) (cs := [_, _]) Try.underlying106 Try.sizeOf26 Try.zeroValue26 rfl rfl rfl rfl rfl rfl rfl (fun b4 => ?_)
        refine l_callG (fun w hF hS => f15 _ _ [_, _] (by simp) w (row_box (i := 4) hS rfl rfl rfl)) Try.call15 rfl rfl rfl ?_
        refine l_val rfl rfl rfl (r_assign (v := .int _ _) rfl) ?_
        refine l_nil ?_
        refine c_seq ?_
        refine c_seq ?_
        refine c_region ?_
        refine l_val rfl rfl rfl (r_move (v := .int _ _) rfl) ?_
        refine l_val rfl rfl rfl (r_neq rfl rfl) ?_
        refine splitD (fun h8 => ?_) (fun h8 => ?_)
        · refine l_nil ?_
          refine c_true rfl ?_
          refine c_seq ?_
          refine c_region ?_
          refine l_val rfl rfl rfl (r_move (v := .int _ _) rfl) ?_
          refine l_val rfl rfl rfl (r_move (v := .int _ _) rfl) ?_
          refine l_val rfl rfl rfl (r_move (v := .int _ _) rfl) ?_
          refine l_call (f36 _ _ _ _) Try.call36 rfl rfl rfl ?_
          refine knownT (by first | exact told_dist | exact told_dist' ‹_›) ?_
          refine l_val rfl rfl rfl (r_move (v := .bool _) rfl) ?_
          refine l_loadN (i := 2) (vs := [_, _]) Try.isAgg25 Try.sizeOf25 rfl rfl rfl rfl rfl ?_
          refine l_val rfl rfl rfl (r_move (v := .int _ _) rfl) ?_
          refine l_loadN (i := 2) (vs := [_, _]) Try.isAgg25 Try.sizeOf25 rfl rfl rfl rfl rfl ?_
          refine l_val rfl rfl rfl (r_move (v := .int _ _) rfl) ?_
          refine l_call (f37 _ _ _ _ _ _) Try.call37 rfl rfl rfl ?_
          refine knownT (told_betw' (y := (_, _)) (by first | (rw [if_pos (by omega), if_pos (by first | rfl | (simp; omega))]) | (rw [if_neg (by omega), if_neg (by first | decide | (simp; omega))]) | exact cond_pq ‹_› ‹_› ‹_›) (first_ne ‹_›)) ?_
          refine l_val rfl rfl rfl (r_pickT (v := .bool _) rfl rfl) ?_
          refine l_val rfl rfl rfl (r_assign (v := .bool _) rfl) ?_
          refine l_nil ?_
          refine c_ret ?_
          refine ret1 (v := .bool _) rfl rfl (fin ?_)
          rfl
        · refine l_nil ?_
          refine c_false rfl ?_
          refine c_skip ?_
          refine c_seq ?_
          refine c_region ?_
          refine l_alloc (cs := [_, _]) Try.zeroValue25 rfl rfl rfl (fun b5 => ?_)
          refine l_nil ?_
          refine c_seq ?_
          refine c_seq ?_
          refine c_region ?_
          refine l_val rfl rfl rfl (r_move (v := .int _ _) rfl) ?_
          refine l_val rfl rfl rfl (r_eql rfl rfl) ?_
          refine splitD (fun h9 => ?_) (fun h9 => ?_)
          · refine l_nil ?_
            refine c_true rfl ?_
            refine c_region ?_
            obtain ⟨q1, q2⟩ := first2 (Classical.not_not.1 ‹¬ firstS [placeS la1 lo1, placeS la2 lo2] ≠ 0›)
            obtain ⟨_, q3⟩ := first2 h9
            have hpq : (1 ≤ q ∧ q ≤ 6311433599) ∧ 0 ≤ p ∧ p ≤ q := by simp_all
            refine l_loadN (i := 0) (vs := [_, _]) Try.isAgg25 Try.sizeOf25 rfl rfl rfl rfl rfl ?_
            refine l_loadN (i := 1) (vs := [_, _]) Try.isAgg25 Try.sizeOf25 rfl rfl rfl rfl rfl ?_
            refine l_val rfl rfl rfl (r_move (v := .int _ _) rfl) ?_
            refine l_val rfl rfl rfl (r_move (v := .int _ _) rfl) ?_
            refine l_call (f38 _ _ _ _ _ _ (by first | omega | assumption) (by first | omega | assumption) (by first | omega | assumption) (by first | omega | assumption)) Try.call38 rfl rfl rfl ?_
            refine l_store (i := 5) (vs := [_, _]) (cs' := [_, _]) Try.sizeOf25 rfl rfl rfl rfl rfl rfl rfl rfl rfl ?_
            refine l_nil ?_
            refine c_seq ?_
            refine c_region ?_
            refine l_val rfl rfl rfl (r_move (v := .int _ _) rfl) ?_
            refine l_val rfl rfl rfl (r_move (v := .int _ _) rfl) ?_
            obtain ⟨q1, q2⟩ := first2 (Classical.not_not.1 ‹¬ firstS [placeS la1 lo1, placeS la2 lo2] ≠ 0›)
            refine l_loadN (i := 0) (vs := [_, _]) Try.isAgg25 Try.sizeOf25 rfl rfl rfl rfl rfl ?_
            refine l_loadN (i := 1) (vs := [_, _]) Try.isAgg25 Try.sizeOf25 rfl rfl rfl rfl rfl ?_
            refine l_call (f39 _ _ _ _ (by first | omega | assumption) (by first | omega | assumption)) Try.call39 rfl rfl rfl ?_
            refine l_val rfl rfl rfl (r_move (v := .int _ _) rfl) ?_
            refine l_call (f36 _ _ _ _) Try.call36 rfl rfl rfl ?_
            refine knownT (by first | exact told_dist | exact told_dist' ‹_›) ?_
            refine l_val rfl rfl rfl (r_move (v := .bool _) rfl) ?_
            refine l_loadN (i := 2) (vs := [_, _]) Try.isAgg25 Try.sizeOf25 rfl rfl rfl rfl rfl ?_
            refine l_val rfl rfl rfl (r_move (v := .int _ _) rfl) ?_
            refine l_loadN (i := 5) (vs := [_, _]) Try.isAgg25 Try.sizeOf25 rfl rfl rfl rfl rfl ?_
            refine l_val rfl rfl rfl (r_move (v := .int _ _) rfl) ?_
            refine l_call (f37 _ _ _ _ _ _) Try.call37 rfl rfl rfl ?_
            refine knownT (by first | exact told_betw (by first | (rw [if_pos (by omega), if_pos (by first | rfl | (simp; omega))]) | (rw [if_neg (by omega), if_neg (by first | decide | (simp; omega))]) | exact cond_pq ‹_› ‹_› ‹_›) | exact told_betw' (y := (_, _)) (by first | (rw [if_pos (by omega), if_pos (by first | rfl | (simp; omega))]) | (rw [if_neg (by omega), if_neg (by first | decide | (simp; omega))]) | exact cond_pq ‹_› ‹_› ‹_›) ‹_›) ?_
            refine l_val rfl rfl rfl (r_pickT (v := .bool _) rfl rfl) ?_
            refine l_val rfl rfl rfl (r_assign (v := .bool _) rfl) ?_
            refine l_nil ?_
            refine c_ret ?_
            refine ret1 (v := .bool _) rfl rfl (fin ?_)
            rfl
          · refine l_nil ?_
            refine c_false rfl ?_
            refine c_skip ?_
            refine c_seq ?_
            refine c_region ?_
            refine l_val rfl rfl rfl (r_move (v := .int _ _) rfl) ?_
            refine l_val rfl rfl rfl (r_move (v := .int _ _) rfl) ?_
            obtain ⟨q1, q2⟩ := first2 (Classical.not_not.1 ‹¬ firstS [placeS la1 lo1, placeS la2 lo2] ≠ 0›)
            refine l_loadN (i := 0) (vs := [_, _]) Try.isAgg25 Try.sizeOf25 rfl rfl rfl rfl rfl ?_
            refine l_loadN (i := 1) (vs := [_, _]) Try.isAgg25 Try.sizeOf25 rfl rfl rfl rfl rfl ?_
            refine l_call (f39 _ _ _ _ (by first | omega | assumption) (by first | omega | assumption)) Try.call39 rfl rfl rfl ?_
            refine l_val rfl rfl rfl (r_move (v := .int _ _) rfl) ?_
            refine l_call (f36 _ _ _ _) Try.call36 rfl rfl rfl ?_
            refine knownT (by first | exact told_dist | exact told_dist' ‹_›) ?_
            refine l_val rfl rfl rfl (r_move (v := .bool _) rfl) ?_
            refine l_loadN (i := 2) (vs := [_, _]) Try.isAgg25 Try.sizeOf25 rfl rfl rfl rfl rfl ?_
            refine l_val rfl rfl rfl (r_move (v := .int _ _) rfl) ?_
            refine l_loadN (i := 5) (vs := [_, _]) Try.isAgg25 Try.sizeOf25 rfl rfl rfl rfl rfl ?_
            refine l_val rfl rfl rfl (r_move (v := .int _ _) rfl) ?_
            refine l_call (f37 _ _ _ _ _ _) Try.call37 rfl rfl rfl ?_
            refine knownT (by first | exact told_betw (by first | (rw [if_pos (by omega), if_pos (by first | rfl | (simp; omega))]) | (rw [if_neg (by omega), if_neg (by first | decide | (simp; omega))]) | exact cond_pq ‹_› ‹_› ‹_›) | exact told_betw' (y := (_, _)) (by first | (rw [if_pos (by omega), if_pos (by first | rfl | (simp; omega))]) | (rw [if_neg (by omega), if_neg (by first | decide | (simp; omega))]) | exact cond_pq ‹_› ‹_› ‹_›) ‹_›) ?_
            refine l_val rfl rfl rfl (r_pickT (v := .bool _) rfl rfl) ?_
            refine l_val rfl rfl rfl (r_assign (v := .bool _) rfl) ?_
            refine l_nil ?_
            refine c_ret ?_
            refine ret1 (v := .bool _) rfl rfl (fin ?_)
            rfl
    · refine l_val rfl rfl rfl (r_move (v := .bool _) rfl) ?_
      refine l_passed rfl rfl rfl ?_
      refine l_passed rfl rfl rfl ?_
      refine l_val rfl rfl rfl (r_pickF (v := .bool _) rfl rfl) ?_
      refine l_val rfl rfl rfl (r_move (v := .bool _) rfl) ?_
      refine l_passed rfl rfl rfl ?_
      refine l_passed rfl rfl rfl ?_
      refine l_val rfl rfl rfl (r_pickF (v := .bool _) rfl rfl) ?_
      refine l_val rfl rfl rfl (r_move (v := .bool _) rfl) ?_
      refine l_passed rfl rfl rfl ?_
      refine l_passed rfl rfl rfl ?_
      refine l_passed rfl rfl rfl ?_
      refine l_val rfl rfl rfl (r_pickF (v := .bool _) rfl rfl) ?_
      refine l_call (f25 _ _) Try.call25 rfl rfl rfl ?_
      refine l_buildSlice (vs := [.int _ _, .int _ _]) (cs := [_, _]) Try.underlying106 Try.sizeOf26 Try.zeroValue26 rfl rfl rfl rfl rfl rfl rfl (fun b4 => ?_)
      refine l_callG (fun w hF hS => f15 _ _ [_, _] (by simp) w (row_box (i := 4) hS rfl rfl rfl)) Try.call15 rfl rfl rfl ?_
      refine l_val rfl rfl rfl (r_assign (v := .int _ _) rfl) ?_
      refine l_nil ?_
      refine c_seq ?_
      refine c_seq ?_
      refine c_region ?_
      refine l_val rfl rfl rfl (r_move (v := .int _ _) rfl) ?_
      refine l_val rfl rfl rfl (r_neq rfl rfl) ?_
      refine splitD (fun h10 => ?_) (fun h10 => ?_)
      · refine l_nil ?_
        refine c_true rfl ?_
        refine c_seq ?_
        refine c_region ?_
        refine l_val rfl rfl rfl (r_move (v := .int _ _) rfl) ?_
        refine l_val rfl rfl rfl (r_move (v := .int _ _) rfl) ?_
        refine l_val rfl rfl rfl (r_move (v := .int _ _) rfl) ?_
        refine l_call (f36 _ _ _ _) Try.call36 rfl rfl rfl ?_
        refine knownT (by first | exact told_dist | exact told_dist' ‹_›) ?_
        refine l_val rfl rfl rfl (r_move (v := .bool _) rfl) ?_
        refine l_loadN (i := 2) (vs := [_, _]) Try.isAgg25 Try.sizeOf25 rfl rfl rfl rfl rfl ?_
        refine l_val rfl rfl rfl (r_move (v := .int _ _) rfl) ?_
        refine l_loadN (i := 2) (vs := [_, _]) Try.isAgg25 Try.sizeOf25 rfl rfl rfl rfl rfl ?_
        refine l_val rfl rfl rfl (r_move (v := .int _ _) rfl) ?_
        refine l_call (f37 _ _ _ _ _ _) Try.call37 rfl rfl rfl ?_
        refine knownT (told_betw' (y := (_, _)) (by first | (rw [if_pos (by omega), if_pos (by first | rfl | (simp; omega))]) | (rw [if_neg (by omega), if_neg (by first | decide | (simp; omega))]) | exact cond_pq ‹_› ‹_› ‹_›) (first_ne ‹_›)) ?_
        refine l_val rfl rfl rfl (r_pickT (v := .bool _) rfl rfl) ?_
        refine l_val rfl rfl rfl (r_assign (v := .bool _) rfl) ?_
        refine l_nil ?_
        refine c_ret ?_
        refine ret1 (v := .bool _) rfl rfl (fin ?_)
        rfl
      · refine l_nil ?_
        refine c_false rfl ?_
        refine c_skip ?_
        refine c_seq ?_
        refine c_region ?_
        refine l_alloc (cs := [_, _]) Try.zeroValue25 rfl rfl rfl (fun b5 => ?_)
        refine l_nil ?_
        refine c_seq ?_
        refine c_seq ?_
        refine c_region ?_
        refine l_val rfl rfl rfl (r_move (v := .int _ _) rfl) ?_
        refine l_val rfl rfl rfl (r_eql rfl rfl) ?_
        refine splitD (fun h11 => ?_) (fun h11 => ?_)
        · refine l_nil ?_
          refine c_true rfl ?_
          refine c_region ?_
          obtain ⟨q1, q2⟩ := first2 (Classical.not_not.1 ‹¬ firstS [placeS la1 lo1, placeS la2 lo2] ≠ 0›)
          obtain ⟨_, q3⟩ := first2 h11
          have hpq : (1 ≤ q ∧ q ≤ 6311433599) ∧ 0 ≤ p ∧ p ≤ q := by simp_all
          refine l_loadN (i := 0) (vs := [_, _]) Try.isAgg25 Try.sizeOf25 rfl rfl rfl rfl rfl ?_
          refine l_loadN (i := 1) (vs := [_, _]) Try.isAgg25 Try.sizeOf25 rfl rfl rfl rfl rfl ?_
          refine l_val rfl rfl rfl (r_move (v := .int _ _) rfl) ?_
          refine l_val rfl rfl rfl (r_move (v := .int _ _) rfl) ?_
          refine l_call (f38 _ _ _ _ _ _ (by first | omega | assumption) (by first | omega | assumption) (by first | omega | assumption) (by first | omega | assumption)) Try.call38 rfl rfl rfl ?_
          refine l_store (i := 5) (vs := [_, _]) (cs' := [_, _]) Try.sizeOf25 rfl rfl rfl rfl rfl rfl rfl rfl rfl ?_
          refine l_nil ?_
          refine c_seq ?_
          refine c_region ?_
          refine l_val rfl rfl rfl (r_move (v := .int _ _) rfl) ?_
          refine l_val rfl rfl rfl (r_move (v := .int _ _) rfl) ?_
          obtain ⟨q1, q2⟩ := first2 (Classical.not_not.1 ‹¬ firstS [placeS la1 lo1, placeS la2 lo2] ≠ 0›)
          refine l_loadN (i := 0) (vs := [_, _]) Try.isAgg25 Try.sizeOf25 rfl rfl rfl rfl rfl ?_
          refine l_loadN (i := 1) (vs := [_, _]) Try.isAgg25 Try.sizeOf25 rfl rfl rfl rfl rfl ?_
          refine l_call (f39 _ _ _ _ (by first | omega | assumption) (by first | omega | assumption)) Try.call39 rfl rfl rfl ?_
          refine l_val rfl rfl rfl (r_move (v := .int _ _) rfl) ?_
          refine l_call (f36 _ _ _ _) Try.call36 rfl rfl rfl ?_
          refine knownT (by first | exact told_dist | exact told_dist' ‹_›) ?_
          refine l_val rfl rfl rfl (r_move (v := .bool _) rfl) ?_
          refine l_loadN (i := 2) (vs := [_, _]) Try.isAgg25 Try.sizeOf25 rfl rfl rfl rfl rfl ?_
          refine l_val rfl rfl rfl (r_move (v := .int _ _) rfl) ?_
          refine l_loadN (i := 5) (vs := [_, _]) Try.isAgg25 Try.sizeOf25 rfl rfl rfl rfl rfl ?_
          refine l_val rfl rfl rfl (r_move (v := .int _ _) rfl) ?_
          refine l_call (f37 _ _ _ _ _ _) Try.call37 rfl rfl rfl ?_
          refine knownT (by first | exact told_betw (by first | (rw [if_pos (by omega), if_pos (by first | rfl | (simp; omega))]) | (rw [if_neg (by omega), if_neg (by first | decide | (simp; omega))]) | exact cond_pq ‹_› ‹_› ‹_›) | exact told_betw' (y := (_, _)) (by first | (rw [if_pos (by omega), if_pos (by first | rfl | (simp; omega))]) | (rw [if_neg (by omega), if_neg (by first | decide | (simp; omega))]) | exact cond_pq ‹_› ‹_› ‹_›) ‹_›) ?_
          refine l_val rfl rfl rfl (r_pickT (v := .bool _) rfl rfl) ?_
          refine l_val rfl rfl rfl (r_assign (v := .bool _) rfl) ?_
          refine l_nil ?_
          refine c_ret ?_
          refine ret1 (v := .bool _) rfl rfl (fin ?_)
          rfl
        · refine l_nil ?_
          refine c_false rfl ?_
          refine c_skip ?_
          refine c_seq ?_
          refine c_region ?_
          refine l_val rfl rfl rfl (r_move (v := .int _ _) rfl) ?_
          refine l_val rfl rfl rfl (r_move (v := .int _ _) rfl) ?_
          obtain ⟨q1, q2⟩ := first2 (Classical.not_not.1 ‹¬ firstS [placeS la1 lo1, placeS la2 lo2] ≠ 0›)
          refine l_loadN (i := 0) (vs := [_, _]) Try.isAgg25 Try.sizeOf25 rfl rfl rfl rfl rfl ?_
          refine l_loadN (i := 1) (vs := [_, _]) Try.isAgg25 Try.sizeOf25 rfl rfl rfl rfl rfl ?_
          refine l_call (f39 _ _ _ _ (by first | omega | assumption) (by first | omega | assumption)) Try.call39 rfl rfl rfl ?_
          refine l_val rfl rfl rfl (r_move (v := .int _ _) rfl) ?_
          refine l_call (f36 _ _ _ _) Try.call36 rfl rfl rfl ?_
          refine knownT (by first | exact told_dist | exact told_dist' ‹_›) ?_
          refine l_val rfl rfl rfl (r_move (v := .bool _) rfl) ?_
          refine l_loadN (i := 2) (vs := [_, _]) Try.isAgg25 Try.sizeOf25 rfl rfl rfl rfl rfl ?_
          refine l_val rfl rfl rfl (r_move (v := .int _ _) rfl) ?_
          refine l_loadN (i := 5) (vs := [_, _]) Try.isAgg25 Try.sizeOf25 rfl rfl rfl rfl rfl ?_
          refine l_val rfl rfl rfl (r_move (v := .int _ _) rfl) ?_
          refine l_call (f37 _ _ _ _ _ _) Try.call37 rfl rfl rfl ?_
          refine knownT (by first | exact told_betw (by first | (rw [if_pos (by omega), if_pos (by first | rfl | (simp; omega))]) | (rw [if_neg (by omega), if_neg (by first | decide | (simp; omega))]) | exact cond_pq ‹_› ‹_› ‹_›) | exact told_betw' (y := (_, _)) (by first | (rw [if_pos (by omega), if_pos (by first | rfl | (simp; omega))]) | (rw [if_neg (by omega), if_neg (by first | decide | (simp; omega))]) | exact cond_pq ‹_› ‹_› ‹_›) ‹_›) ?_
          refine l_val rfl rfl rfl (r_pickT (v := .bool _) rfl rfl) ?_
          refine l_val rfl rfl rfl (r_assign (v := .bool _) rfl) ?_
          refine l_nil ?_
          refine c_ret ?_
          refine ret1 (v := .bool _) rfl rfl (fin ?_)
          rfl
    ) (by kernel_rfl)

end Go.Proofs.Ytfgehlmdcllclaa
