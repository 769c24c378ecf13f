/- The law WhereBoxes, walked. Conditions: none. -/
import Derived.Test.YtfgehlmdcllclaaW2
namespace Go.Proofs.Ytfgehlmdcllclaa
open Go Go.Vc Go.Vc.Where
set_option maxRecDepth 100000

theorem f3 (s1 w1 n1 e1 s2 w2 n2 e2 la lo m : Int) : Ret Try.prog 3 [.agg #[.int .i64 s1, .int .i64 w1, .int .i64 n1, .int .i64 e1], .agg #[.int .i64 s2, .int .i64 w2, .int .i64 n2, .int .i64 e2], .agg #[.int .i64 la, .int .i64 lo], .int .i64 m] (.bool true) := by
  refine enterRet (n := 100) Try.func3 rfl rfl rfl (fun wd => ?_)
  refine c_seq ?_
  refine c_region ?_
  refine l_box (cs := [_, _, _, _]) rfl rfl rfl rfl (fun b0 => ?_)
  refine l_box (cs := [_, _, _, _]) rfl rfl rfl rfl (fun b1 => ?_)
  refine l_box (cs := [_, _]) rfl rfl rfl rfl (fun b2 => ?_)
  refine l_val rfl rfl rfl (r_assign (v := .bool _) rfl) ?_
  refine l_nil ?_
  refine c_seq ?_
  exact c_regionD (Kd.d [0] _ :: Kd.d [] _ :: Kd.d [1] _ :: Kd.d [] _ :: Kd.p :: Kd.p :: []) 0 mixed (by
    refine d_loadN (i := 0) (vs := [_, _, _, _]) Try.isAgg23 Try.sizeOf23 rfl rfl rfl rfl ?_
    refine d_call (f11 _ _ _ _) Try.call11 rfl rfl ?_
    refine d_loadN (i := 1) (vs := [_, _, _, _]) Try.isAgg23 Try.sizeOf23 rfl rfl rfl rfl ?_
    refine d_call (f11 _ _ _ _) Try.call11 rfl rfl ?_
    refine d_val rfl rfl (r_assign (v := .int _ _) rfl) ?_
    refine d_val rfl rfl (r_assign (v := .int _ _) rfl) ?_
    refine d_nil ?_
    refine c_seq ?_
    refine c_region ?_
    refine l_loadN (i := 0) (vs := [_, _, _, _]) Try.isAgg23 Try.sizeOf23 rfl rfl rfl rfl rfl ?_
    refine l_loadN (i := 2) (vs := [_, _]) Try.isAgg25 Try.sizeOf25 rfl rfl rfl rfl rfl ?_
    refine l_call (f12 _ _ _ _ _ _) Try.call12 rfl rfl rfl ?_
    refine l_val rfl rfl rfl (r_move (v := .tuple _) rfl) ?_
    refine l_val rfl rfl rfl (r_extract (v := .bool _) rfl rfl) ?_
    refine l_val rfl rfl rfl (r_extract (v := .int _ _) rfl rfl) ?_
    refine l_val rfl rfl rfl (r_assign (v := .bool _) rfl) ?_
    refine l_val rfl rfl rfl (r_assign (v := .int _ _) rfl) ?_
    refine l_nil ?_
    refine c_seq ?_
    refine c_region ?_
    refine l_loadN (i := 0) (vs := [_, _, _, _]) Try.isAgg23 Try.sizeOf23 rfl rfl rfl rfl rfl ?_
    refine l_loadN (i := 1) (vs := [_, _, _, _]) Try.isAgg23 Try.sizeOf23 rfl rfl rfl rfl rfl ?_
    refine l_call (f13 _ _ _ _ _ _ _ _) Try.call13 rfl rfl rfl ?_
    refine l_val rfl rfl rfl (r_move (v := .tuple _) rfl) ?_
    refine l_val rfl rfl rfl (r_extract (v := .bool _) rfl rfl) ?_
    refine l_val rfl rfl rfl (r_extract (v := .int _ _) rfl rfl) ?_
    refine l_val rfl rfl rfl (r_assign (v := .bool _) rfl) ?_
    refine l_val rfl rfl rfl (r_assign (v := .int _ _) rfl) ?_
    refine l_nil ?_
    refine c_seq ?_
    refine c_region ?_
    refine l_loadN (i := 2) (vs := [_, _]) Try.isAgg25 Try.sizeOf25 rfl rfl rfl rfl rfl ?_
    refine l_val rfl rfl rfl (r_move (v := .int _ _) rfl) ?_
    refine l_call (f14 _ _ _) Try.call14 rfl rfl rfl ?_
    refine l_val rfl rfl rfl (r_move (v := .tuple _) rfl) ?_
    refine l_val rfl rfl rfl (r_extract (v := .agg #[_, _, _, _]) rfl rfl) ?_
    refine l_val rfl rfl rfl (r_extract (v := .int _ _) rfl rfl) ?_
    refine l_alloc (cs := [_, _, _, _]) Try.zeroValue23 rfl rfl rfl (fun b3 => ?_)
    refine l_store (i := 3) (vs := [_, _, _, _]) (cs' := [_, _, _, _]) Try.sizeOf23 rfl rfl rfl rfl rfl rfl rfl rfl rfl ?_
    refine l_val rfl rfl rfl (r_assign (v := .int _ _) rfl) ?_
    refine l_nil ?_
    refine c_seq ?_
    refine c_region ?_
    refine l_val rfl rfl rfl (r_move (v := .int _ _) rfl) ?_
    refine l_loadN (i := 2) (vs := [_, _]) Try.isAgg25 Try.sizeOf25 rfl rfl rfl rfl rfl ?_
    refine l_call (f16 _ _) Try.call16 rfl rfl rfl ?_
    refine l_buildSlice (vs := [.int _ _, .int _ _]) (cs := [_, _]) Try.underlying106 Try.sizeOf26 Try.zeroValue26 rfl rfl rfl rfl rfl rfl rfl (fun b4 => ?_)
    refine l_callG (fun w hF hS => f15 _ _ [_, _] (by simp) w (row_box (i := 4) hS rfl rfl rfl)) Try.call15 rfl rfl rfl ?_
    refine l_val rfl rfl rfl (r_assign (v := .int _ _) rfl) ?_
    refine l_nil ?_
    refine c_seq ?_
    refine c_region ?_
    refine l_val rfl rfl rfl (r_move (v := .int _ _) rfl) ?_
    refine l_val rfl rfl rfl (r_move (v := .int _ _) rfl) ?_
    refine l_buildSlice (vs := [.int _ _, .int _ _]) (cs := [_, _]) Try.underlying106 Try.sizeOf26 Try.zeroValue26 rfl rfl rfl rfl rfl rfl rfl (fun b5 => ?_)
    refine l_callG (fun w hF hS => f15 _ _ [_, _] (by simp) w (row_box (i := 5) hS rfl rfl rfl)) Try.call15 rfl rfl rfl ?_
    refine l_val rfl rfl rfl (r_assign (v := .int _ _) rfl) ?_
    refine l_nil ?_
    refine c_seq ?_
    refine c_region ?_
    refine l_loadN (i := 2) (vs := [_, _]) Try.isAgg25 Try.sizeOf25 rfl rfl rfl rfl rfl ?_
    refine l_call (f16 _ _) Try.call16 rfl rfl rfl ?_
    refine l_val rfl rfl rfl (r_move (v := .int _ _) rfl) ?_
    refine l_call (f17 _) Try.call17 rfl rfl rfl ?_
    refine l_buildSlice (vs := [.int _ _, .int _ _]) (cs := [_, _]) Try.underlying106 Try.sizeOf26 Try.zeroValue26 rfl rfl rfl rfl rfl rfl rfl (fun b6 => ?_)
    refine l_callG (fun w hF hS => f15 _ _ [_, _] (by simp) w (row_box (i := 6) hS rfl rfl rfl)) Try.call15 rfl rfl rfl ?_
    refine l_val rfl rfl rfl (r_assign (v := .int _ _) rfl) ?_
    refine l_nil ?_
    refine c_seq ?_
    refine c_region ?_
    refine l_alloc (cs := [_, _, _, _]) Try.zeroValue23 rfl rfl rfl (fun b7 => ?_)
    refine l_nil ?_
    refine c_seq ?_
    refine c_seq ?_
    refine c_region ?_
    refine l_val rfl rfl rfl (r_move (v := .int _ _) rfl) ?_
    refine l_val rfl rfl rfl (r_eql rfl rfl) ?_
    refine splitD (fun h1 => ?_) (fun h1 => ?_)
    · refine l_nil ?_
      refine c_true rfl ?_
      refine c_region ?_
      obtain ⟨ka1, ka2⟩ := first2 h1
      have ka3 := metres_ok ka2
      refine l_loadN (i := 2) (vs := [_, _]) Try.isAgg25 Try.sizeOf25 rfl rfl rfl rfl rfl ?_
      refine l_val rfl rfl rfl (r_move (v := .int _ _) rfl) ?_
      refine l_call (f18 _ _ _ (by first | omega | assumption) (by first | omega | assumption)) Try.call18 rfl rfl rfl ?_
      refine l_store (i := 7) (vs := [_, _, _, _]) (cs' := [_, _, _, _]) Try.sizeOf23 rfl rfl rfl rfl rfl rfl rfl rfl rfl ?_
      refine l_nil ?_
      refine c_seq ?_
      refine c_region ?_
      refine l_loadN (i := 0) (vs := [_, _, _, _]) Try.isAgg23 Try.sizeOf23 rfl rfl rfl rfl rfl ?_
      refine l_call (f19 _ _ _ _) Try.call19 rfl rfl rfl ?_
      refine l_val rfl rfl rfl (r_move (v := .int _ _) rfl) ?_
      refine l_val rfl rfl rfl (r_decT (r_eql rfl rfl) rfl) ?_
      refine l_val rfl rfl rfl (r_move (v := .bool _) rfl) ?_
      refine l_val rfl rfl rfl (r_move (v := .bool _) rfl) ?_
      refine l_val rfl rfl rfl (r_move (v := .int _ _) rfl) ?_
      refine l_val rfl rfl rfl (r_move (v := .int _ _) rfl) ?_
      refine l_val rfl rfl rfl (r_eql rfl rfl) ?_
      refine splitD (fun h2 => ?_) (fun h2 => ?_)
      · refine l_val rfl rfl rfl (r_move (v := .bool _) rfl) ?_
        obtain ⟨kb1, kb2⟩ := first2 h2
        refine l_loadN (i := 0) (vs := [_, _, _, _]) Try.isAgg23 Try.sizeOf23 rfl rfl rfl rfl rfl ?_
        refine l_loadN (i := 2) (vs := [_, _]) Try.isAgg25 Try.sizeOf25 rfl rfl rfl rfl rfl ?_
        refine l_call (f21 _ _ _ _ _ _ (by first | omega | assumption) (by first | omega | assumption)) Try.call21 rfl rfl rfl ?_
        refine l_val rfl rfl rfl (r_pickT (v := .bool _) rfl rfl) ?_
        refine l_val rfl rfl rfl (r_move (v := .int _ _) rfl) ?_
        refine l_call (f20 _ _ _ _) Try.call20 rfl rfl rfl ?_
        refine knownT (by first | exact told_and ‹_› | exact told_and' ‹_›) ?_
        refine l_val rfl rfl rfl (r_pickT (v := .bool _) rfl rfl) ?_
        refine l_val rfl rfl rfl (r_move (v := .bool _) rfl) ?_
        refine l_val rfl rfl rfl (r_move (v := .bool _) rfl) ?_
        refine l_val rfl rfl rfl (r_move (v := .int _ _) rfl) ?_
        refine l_val rfl rfl rfl (r_move (v := .int _ _) rfl) ?_
        refine l_val rfl rfl rfl (r_eql rfl rfl) ?_
        refine splitD (fun h3 => ?_) (fun h3 => ?_)
        · refine l_val rfl rfl rfl (r_move (v := .bool _) rfl) ?_
          obtain ⟨kc1, kc2⟩ := first2 h3
          refine l_loadN (i := 0) (vs := [_, _, _, _]) Try.isAgg23 Try.sizeOf23 rfl rfl rfl rfl rfl ?_
          refine l_loadN (i := 1) (vs := [_, _, _, _]) Try.isAgg23 Try.sizeOf23 rfl rfl rfl rfl rfl ?_
          refine l_call (f22 _ _ _ _ _ _ _ _ (by first | omega | assumption) (by first | omega | assumption)) Try.call22 rfl rfl rfl ?_
          refine l_val rfl rfl rfl (r_pickT (v := .bool _) rfl rfl) ?_
          refine l_val rfl rfl rfl (r_move (v := .int _ _) rfl) ?_
          refine l_call (f20 _ _ _ _) Try.call20 rfl rfl rfl ?_
          refine knownT (by first | exact told_and ‹_› | exact told_and' ‹_›) ?_
          refine l_val rfl rfl rfl (r_pickT (v := .bool _) rfl rfl) ?_
          refine l_val rfl rfl rfl (r_move (v := .bool _) rfl) ?_
          refine l_loadN (i := 3) (vs := [_, _, _, _]) Try.isAgg23 Try.sizeOf23 rfl rfl rfl rfl rfl ?_
          refine l_val rfl rfl rfl (r_move (v := .int _ _) rfl) ?_
          refine l_loadN (i := 7) (vs := [_, _, _, _]) Try.isAgg23 Try.sizeOf23 rfl rfl rfl rfl rfl ?_
          refine l_val rfl rfl rfl (r_move (v := .int _ _) rfl) ?_
          refine l_call (f23 _ _ _ _ _ _ _ _ _ _) Try.call23 rfl rfl rfl ?_
          refine knownT (by first | exact told_around ‹_› | exact told_around' ‹_›) ?_
          refine l_val rfl rfl rfl (r_pickT (v := .bool _) rfl rfl) ?_
          refine l_val rfl rfl rfl (r_assign (v := .bool _) rfl) ?_
          refine l_nil ?_
          refine c_ret ?_
          refine ret1 (v := .bool _) rfl rfl (fin ?_)
          rfl
        · refine l_val rfl rfl rfl (r_move (v := .bool _) rfl) ?_
          refine l_passed rfl rfl rfl ?_
          refine l_passed rfl rfl rfl ?_
          refine l_passed rfl rfl rfl ?_
          refine l_val rfl rfl rfl (r_pickF (v := .bool _) rfl rfl) ?_
          refine l_val rfl rfl rfl (r_move (v := .int _ _) rfl) ?_
          refine l_call (f20 _ _ _ _) Try.call20 rfl rfl rfl ?_
          refine knownT (by first | exact told_and ‹_› | exact told_and' ‹_›) ?_
          refine l_val rfl rfl rfl (r_pickT (v := .bool _) rfl rfl) ?_
          refine l_val rfl rfl rfl (r_move (v := .bool _) rfl) ?_
          refine l_loadN (i := 3) (vs := [_, _, _, _]) Try.isAgg23 Try.sizeOf23 rfl rfl rfl rfl rfl ?_
          refine l_val rfl rfl rfl (r_move (v := .int _ _) rfl) ?_
          refine l_loadN (i := 7) (vs := [_, _, _, _]) Try.isAgg23 Try.sizeOf23 rfl rfl rfl rfl rfl ?_
          refine l_val rfl rfl rfl (r_move (v := .int _ _) rfl) ?_
          refine l_call (f23 _ _ _ _ _ _ _ _ _ _) Try.call23 rfl rfl rfl ?_
          refine knownT (by first | exact told_around ‹_› | exact told_around' ‹_›) ?_
          refine l_val rfl rfl rfl (r_pickT (v := .bool _) rfl rfl) ?_
          refine l_val rfl rfl rfl (r_assign (v := .bool _) rfl) ?_
          refine l_nil ?_
          refine c_ret ?_
          refine ret1 (v := .bool _) rfl rfl (fin ?_)
          rfl
      · refine l_val rfl rfl rfl (r_move (v := .bool _) rfl) ?_
        refine l_passed rfl rfl rfl ?_
        refine l_passed rfl rfl rfl ?_
        refine l_passed rfl rfl rfl ?_
        refine l_val rfl rfl rfl (r_pickF (v := .bool _) rfl rfl) ?_
        refine l_val rfl rfl rfl (r_move (v := .int _ _) rfl) ?_
        refine l_call (f20 _ _ _ _) Try.call20 rfl rfl rfl ?_
        refine knownT (by first | exact told_and ‹_› | exact told_and' ‹_›) ?_
        refine l_val rfl rfl rfl (r_pickT (v := .bool _) rfl rfl) ?_
        refine l_val rfl rfl rfl (r_move (v := .bool _) rfl) ?_
        refine l_val rfl rfl rfl (r_move (v := .bool _) rfl) ?_
        refine l_val rfl rfl rfl (r_move (v := .int _ _) rfl) ?_
        refine l_val rfl rfl rfl (r_move (v := .int _ _) rfl) ?_
        refine l_val rfl rfl rfl (r_eql rfl rfl) ?_
        refine splitD (fun h4 => ?_) (fun h4 => ?_)
        · refine l_val rfl rfl rfl (r_move (v := .bool _) rfl) ?_
          obtain ⟨kc1, kc2⟩ := first2 h4
          refine l_loadN (i := 0) (vs := [_, _, _, _]) Try.isAgg23 Try.sizeOf23 rfl rfl rfl rfl rfl ?_
          refine l_loadN (i := 1) (vs := [_, _, _, _]) Try.isAgg23 Try.sizeOf23 rfl rfl rfl rfl rfl ?_
          refine l_call (f22 _ _ _ _ _ _ _ _ (by first | omega | assumption) (by first | omega | assumption)) Try.call22 rfl rfl rfl ?_
          refine l_val rfl rfl rfl (r_pickT (v := .bool _) rfl rfl) ?_
          refine l_val rfl rfl rfl (r_move (v := .int _ _) rfl) ?_
          refine l_call (f20 _ _ _ _) Try.call20 rfl rfl rfl ?_
          refine knownT (by first | exact told_and ‹_› | exact told_and' ‹_›) ?_
          refine l_val rfl rfl rfl (r_pickT (v := .bool _) rfl rfl) ?_
          refine l_val rfl rfl rfl (r_move (v := .bool _) rfl) ?_
          refine l_loadN (i := 3) (vs := [_, _, _, _]) Try.isAgg23 Try.sizeOf23 rfl rfl rfl rfl rfl ?_
          refine l_val rfl rfl rfl (r_move (v := .int _ _) rfl) ?_
          refine l_loadN (i := 7) (vs := [_, _, _, _]) Try.isAgg23 Try.sizeOf23 rfl rfl rfl rfl rfl ?_
          refine l_val rfl rfl rfl (r_move (v := .int _ _) rfl) ?_
          refine l_call (f23 _ _ _ _ _ _ _ _ _ _) Try.call23 rfl rfl rfl ?_
          refine knownT (by first | exact told_around ‹_› | exact told_around' ‹_›) ?_
          refine l_val rfl rfl rfl (r_pickT (v := .bool _) rfl rfl) ?_
          refine l_val rfl rfl rfl (r_assign (v := .bool _) rfl) ?_
          refine l_nil ?_
          refine c_ret ?_
          refine ret1 (v := .bool _) rfl rfl (fin ?_)
          rfl
        · refine l_val rfl rfl rfl (r_move (v := .bool _) rfl) ?_
          refine l_passed rfl rfl rfl ?_
          refine l_passed rfl rfl rfl ?_
          refine l_passed rfl rfl rfl ?_
          refine l_val rfl rfl rfl (r_pickF (v := .bool _) rfl rfl) ?_
          refine l_val rfl rfl rfl (r_move (v := .int _ _) rfl) ?_
          refine l_call (f20 _ _ _ _) Try.call20 rfl rfl rfl ?_
          refine knownT (by first | exact told_and ‹_› | exact told_and' ‹_›) ?_
          refine l_val rfl rfl rfl (r_pickT (v := .bool _) rfl rfl) ?_
          refine l_val rfl rfl rfl (r_move (v := .bool _) rfl) ?_
          refine l_loadN (i := 3) (vs := [_, _, _, _]) Try.isAgg23 Try.sizeOf23 rfl rfl rfl rfl rfl ?_
          refine l_val rfl rfl rfl (r_move (v := .int _ _) rfl) ?_
          refine l_loadN (i := 7) (vs := [_, _, _, _]) Try.isAgg23 Try.sizeOf23 rfl rfl rfl rfl rfl ?_
          refine l_val rfl rfl rfl (r_move (v := .int _ _) rfl) ?_
          refine l_call (f23 _ _ _ _ _ _ _ _ _ _) Try.call23 rfl rfl rfl ?_
          refine knownT (by first | exact told_around ‹_› | exact told_around' ‹_›) ?_
          refine l_val rfl rfl rfl (r_pickT (v := .bool _) rfl rfl) ?_
          refine l_val rfl rfl rfl (r_assign (v := .bool _) rfl) ?_
          refine l_nil ?_
          refine c_ret ?_
          refine ret1 (v := .bool _) rfl rfl (fin ?_)
          rfl
    · refine l_nil ?_
      refine c_false rfl ?_
      refine c_skip ?_
      refine c_seq ?_
      refine c_region ?_
      refine l_loadN (i := 0) (vs := [_, _, _, _]) Try.isAgg23 Try.sizeOf23 rfl rfl rfl rfl rfl ?_
      refine l_call (f19 _ _ _ _) Try.call19 rfl rfl rfl ?_
      refine l_val rfl rfl rfl (r_move (v := .int _ _) rfl) ?_
      refine l_val rfl rfl rfl (r_decT (r_eql rfl rfl) rfl) ?_
      refine l_val rfl rfl rfl (r_move (v := .bool _) rfl) ?_
      refine l_val rfl rfl rfl (r_move (v := .bool _) rfl) ?_
      refine l_val rfl rfl rfl (r_move (v := .int _ _) rfl) ?_
      refine l_val rfl rfl rfl (r_move (v := .int _ _) rfl) ?_
      refine l_val rfl rfl rfl (r_eql rfl rfl) ?_
      refine splitD (fun h5 => ?_) (fun h5 => ?_)
      · refine l_val rfl rfl rfl (r_move (v := .bool _) rfl) ?_
        obtain ⟨kb1, kb2⟩ := first2 h5
        refine l_loadN (i := 0) (vs := [_, _, _, _]) Try.isAgg23 Try.sizeOf23 rfl rfl rfl rfl rfl ?_
        refine l_loadN (i := 2) (vs := [_, _]) Try.isAgg25 Try.sizeOf25 rfl rfl rfl rfl rfl ?_
        refine l_call (f21 _ _ _ _ _ _ (by first | omega | assumption) (by first | omega | assumption)) Try.call21 rfl rfl rfl ?_
        refine l_val rfl rfl rfl (r_pickT (v := .bool _) rfl rfl) ?_
        refine l_val rfl rfl rfl (r_move (v := .int _ _) rfl) ?_
        refine l_call (f20 _ _ _ _) Try.call20 rfl rfl rfl ?_
        refine knownT (by first | exact told_and ‹_› | exact told_and' ‹_›) ?_
        refine l_val rfl rfl rfl (r_pickT (v := .bool _) rfl rfl) ?_
        refine l_val rfl rfl rfl (r_move (v := .bool _) rfl) ?_
        refine l_val rfl rfl rfl (r_move (v := .bool _) rfl) ?_
        refine l_val rfl rfl rfl (r_move (v := .int _ _) rfl) ?_
        refine l_val rfl rfl rfl (r_move (v := .int _ _) rfl) ?_
        refine l_val rfl rfl rfl (r_eql rfl rfl) ?_
        refine splitD (fun h6 => ?_) (fun h6 => ?_)
        · refine l_val rfl rfl rfl (r_move (v := .bool _) rfl) ?_
          obtain ⟨kc1, kc2⟩ := first2 h6
          refine l_loadN (i := 0) (vs := [_, _, _, _]) Try.isAgg23 Try.sizeOf23 rfl rfl rfl rfl rfl ?_
          refine l_loadN (i := 1) (vs := [_, _, _, _]) Try.isAgg23 Try.sizeOf23 rfl rfl rfl rfl rfl ?_
          refine l_call (f22 _ _ _ _ _ _ _ _ (by first | omega | assumption) (by first | omega | assumption)) Try.call22 rfl rfl rfl ?_
          refine l_val rfl rfl rfl (r_pickT (v := .bool _) rfl rfl) ?_
          refine l_val rfl rfl rfl (r_move (v := .int _ _) rfl) ?_
          refine l_call (f20 _ _ _ _) Try.call20 rfl rfl rfl ?_
          refine knownT (by first | exact told_and ‹_› | exact told_and' ‹_›) ?_
          refine l_val rfl rfl rfl (r_pickT (v := .bool _) rfl rfl) ?_
          refine l_val rfl rfl rfl (r_move (v := .bool _) rfl) ?_
          refine l_loadN (i := 3) (vs := [_, _, _, _]) Try.isAgg23 Try.sizeOf23 rfl rfl rfl rfl rfl ?_
          refine l_val rfl rfl rfl (r_move (v := .int _ _) rfl) ?_
          refine l_loadN (i := 7) (vs := [_, _, _, _]) Try.isAgg23 Try.sizeOf23 rfl rfl rfl rfl rfl ?_
          refine l_val rfl rfl rfl (r_move (v := .int _ _) rfl) ?_
          refine l_call (f23 _ _ _ _ _ _ _ _ _ _) Try.call23 rfl rfl rfl ?_
          refine knownT (by first | exact told_around ‹_› | exact told_around' ‹_›) ?_
          refine l_val rfl rfl rfl (r_pickT (v := .bool _) rfl rfl) ?_
          refine l_val rfl rfl rfl (r_assign (v := .bool _) rfl) ?_
          refine l_nil ?_
          refine c_ret ?_
          refine ret1 (v := .bool _) rfl rfl (fin ?_)
          rfl
        · refine l_val rfl rfl rfl (r_move (v := .bool _) rfl) ?_
          refine l_passed rfl rfl rfl ?_
          refine l_passed rfl rfl rfl ?_
          refine l_passed rfl rfl rfl ?_
          refine l_val rfl rfl rfl (r_pickF (v := .bool _) rfl rfl) ?_
          refine l_val rfl rfl rfl (r_move (v := .int _ _) rfl) ?_
          refine l_call (f20 _ _ _ _) Try.call20 rfl rfl rfl ?_
          refine knownT (by first | exact told_and ‹_› | exact told_and' ‹_›) ?_
          refine l_val rfl rfl rfl (r_pickT (v := .bool _) rfl rfl) ?_
          refine l_val rfl rfl rfl (r_move (v := .bool _) rfl) ?_
          refine l_loadN (i := 3) (vs := [_, _, _, _]) Try.isAgg23 Try.sizeOf23 rfl rfl rfl rfl rfl ?_
          refine l_val rfl rfl rfl (r_move (v := .int _ _) rfl) ?_
          refine l_loadN (i := 7) (vs := [_, _, _, _]) Try.isAgg23 Try.sizeOf23 rfl rfl rfl rfl rfl ?_
          refine l_val rfl rfl rfl (r_move (v := .int _ _) rfl) ?_
          refine l_call (f23 _ _ _ _ _ _ _ _ _ _) Try.call23 rfl rfl rfl ?_
          refine knownT (by first | exact told_around ‹_› | exact told_around' ‹_›) ?_
          refine l_val rfl rfl rfl (r_pickT (v := .bool _) rfl rfl) ?_
          refine l_val rfl rfl rfl (r_assign (v := .bool _) rfl) ?_
          refine l_nil ?_
          refine c_ret ?_
          refine ret1 (v := .bool _) rfl rfl (fin ?_)
          rfl
      · refine l_val rfl rfl rfl (r_move (v := .bool _) rfl) ?_
        refine l_passed rfl rfl rfl ?_
        refine l_passed rfl rfl rfl ?_
        refine l_passed rfl rfl rfl ?_
        refine l_val rfl rfl rfl (r_pickF (v := .bool _) rfl rfl) ?_
        refine l_val rfl rfl rfl (r_move (v := .int _ _) rfl) ?_
        refine l_call (f20 _ _ _ _) Try.call20 rfl rfl rfl ?_
        refine knownT (by first | exact told_and ‹_› | exact told_and' ‹_›) ?_
        refine l_val rfl rfl rfl (r_pickT (v := .bool _) rfl rfl) ?_
        refine l_val rfl rfl rfl (r_move (v := .bool _) rfl) ?_
        refine l_val rfl rfl rfl (r_move (v := .bool _) rfl) ?_
        refine l_val rfl rfl rfl (r_move (v := .int _ _) rfl) ?_
        refine l_val rfl rfl rfl (r_move (v := .int _ _) rfl) ?_
        refine l_val rfl rfl rfl (r_eql rfl rfl) ?_
        refine splitD (fun h7 => ?_) (fun h7 => ?_)
        · refine l_val rfl rfl rfl (r_move (v := .bool _) rfl) ?_
          obtain ⟨kc1, kc2⟩ := first2 h7
          refine l_loadN (i := 0) (vs := [_, _, _, _]) Try.isAgg23 Try.sizeOf23 rfl rfl rfl rfl rfl ?_
          refine l_loadN (i := 1) (vs := [_, _, _, _]) Try.isAgg23 Try.sizeOf23 rfl rfl rfl rfl rfl ?_
          refine l_call (f22 _ _ _ _ _ _ _ _ (by first | omega | assumption) (by first | omega | assumption)) Try.call22 rfl rfl rfl ?_
          refine l_val rfl rfl rfl (r_pickT (v := .bool _) rfl rfl) ?_
          refine l_val rfl rfl rfl (r_move (v := .int _ _) rfl) ?_
          refine l_call (f20 _ _ _ _) Try.call20 rfl rfl rfl ?_
          refine knownT (by first | exact told_and ‹_› | exact told_and' ‹_›) ?_
          refine l_val rfl rfl rfl (r_pickT (v := .bool _) rfl rfl) ?_
          refine l_val rfl rfl rfl (r_move (v := .bool _) rfl) ?_
          refine l_loadN (i := 3) (vs := [_, _, _, _]) Try.isAgg23 Try.sizeOf23 rfl rfl rfl rfl rfl ?_
          refine l_val rfl rfl rfl (r_move (v := .int _ _) rfl) ?_
          refine l_loadN (i := 7) (vs := [_, _, _, _]) Try.isAgg23 Try.sizeOf23 rfl rfl rfl rfl rfl ?_
          refine l_val rfl rfl rfl (r_move (v := .int _ _) rfl) ?_
          refine l_call (f23 _ _ _ _ _ _ _ _ _ _) Try.call23 rfl rfl rfl ?_
          refine knownT (by first | exact told_around ‹_› | exact told_around' ‹_›) ?_
          refine l_val rfl rfl rfl (r_pickT (v := .bool _) rfl rfl) ?_
          refine l_val rfl rfl rfl (r_assign (v := .bool _) rfl) ?_
          refine l_nil ?_
          refine c_ret ?_
          refine ret1 (v := .bool _) rfl rfl (fin ?_)
          rfl
        · refine l_val rfl rfl rfl (r_move (v := .bool _) rfl) ?_
          refine l_passed rfl rfl rfl ?_
          refine l_passed rfl rfl rfl ?_
          refine l_passed rfl rfl rfl ?_
          refine l_val rfl rfl rfl (r_pickF (v := .bool _) rfl rfl) ?_
          refine l_val rfl rfl rfl (r_move (v := .int _ _) rfl) ?_
          refine l_call (f20 _ _ _ _) Try.call20 rfl rfl rfl ?_
          refine knownT (by first | exact told_and ‹_› | exact told_and' ‹_›) ?_
          refine l_val rfl rfl rfl (r_pickT (v := .bool _) rfl rfl) ?_
          refine l_val rfl rfl rfl (r_move (v := .bool _) rfl) ?_
          refine l_loadN (i := 3) (vs := [_, _, _, _]) Try.isAgg23 Try.sizeOf23 rfl rfl rfl rfl rfl ?_
          refine l_val rfl rfl rfl (r_move (v := .int _ _) rfl) ?_
          refine l_loadN (i := 7) (vs := [_, _, _, _]) Try.isAgg23 Try.sizeOf23 rfl rfl rfl rfl rfl ?_
          refine l_val rfl rfl rfl (r_move (v := .int _ _) rfl) ?_
          refine l_call (f23 _ _ _ _ _ _ _ _ _ _) Try.call23 rfl rfl rfl ?_
          refine knownT (by first | exact told_around ‹_› | exact told_around' ‹_›) ?_
          refine l_val rfl rfl rfl (r_pickT (v := .bool _) rfl rfl) ?_
          refine l_val rfl rfl rfl (r_assign (v := .bool _) rfl) ?_
          refine l_nil ?_
          refine c_ret ?_
          refine ret1 (v := .bool _) rfl rfl (fin ?_)
          rfl
    ) (by kernel_rfl)

end Go.Proofs.Ytfgehlmdcllclaa
