/- The law WhereCovers, walked. Conditions: none. -/
import Derived.Test.YtfgehlmdcllclaaW5
namespace Go.Proofs.Ytfgehlmdcllclaa
open Go Go.Vc Go.Vc.Where
set_option maxRecDepth 100000

theorem f4 (s w0 n e m : Int) : Ret Try.prog 4 [.agg #[.int .i64 s, .int .i64 w0, .int .i64 n, .int .i64 e], .int .i64 m] (.bool true) := by
  refine enterRet (n := 40) Try.func4 rfl rfl rfl (fun wd => ?_)
  refine c_seq ?_
  refine c_region ?_
  refine l_box (cs := [_, _, _, _]) rfl rfl rfl rfl (fun b0 => ?_)
  refine l_val rfl rfl rfl (r_assign (v := .bool _) rfl) ?_
  refine l_nil ?_
  refine c_seq ?_
  refine c_region ?_
  refine l_loadN (i := 0) (vs := [_, _, _, _]) Try.isAgg23 Try.sizeOf23 rfl rfl rfl rfl rfl ?_
  refine l_val rfl rfl rfl (r_move (v := .int _ _) rfl) ?_
  refine l_make (makes_call (rds := []) (G := _) (C := _) (fun w L' hF hS hi => f24 _ _ _ _ _ w) Try.call24 rfl) rfl rfl rfl (fun pC => ?_)
  refine l_val rfl rfl rfl (r_move (v := .tuple _) rfl) ?_
  refine l_val rfl rfl rfl (r_extract (v := .slice _ _ _) rfl rfl) ?_
  refine l_val rfl rfl rfl (r_extract (v := .int _ _) rfl rfl) ?_
  refine l_val rfl rfl rfl (r_assign (v := .slice _ _ _) rfl) ?_
  refine l_val rfl rfl rfl (r_assign (v := .int _ _) rfl) ?_
  refine l_nil ?_
  refine c_seq ?_
  refine c_region ?_
  refine l_loadN (i := 0) (vs := [_, _, _, _]) Try.isAgg23 Try.sizeOf23 rfl rfl rfl rfl rfl ?_
  refine l_call (f11 _ _ _ _) Try.call11 rfl rfl rfl ?_
  refine l_val rfl rfl rfl (r_move (v := .int _ _) rfl) ?_
  refine l_val rfl rfl rfl (r_geq rfl rfl) ?_
  refine splitD (fun h1 => ?_) (fun h1 => ?_)
  · refine l_val rfl rfl rfl (r_move (v := .bool _) rfl) ?_
    refine l_val rfl rfl rfl (r_move (v := .int _ _) rfl) ?_
    refine l_val rfl rfl rfl (r_leq rfl rfl) ?_
    refine l_val rfl rfl rfl (r_pickT (v := .bool _) rfl rfl) ?_
    refine l_call (f25 _ _) Try.call25 rfl rfl rfl ?_
    refine l_buildSlice (vs := [.int _ _, .int _ _]) (cs := [_, _]) Try.underlying106 Try.sizeOf26 Try.zeroValue26 rfl rfl rfl rfl rfl rfl rfl (fun b2 => ?_)
    refine l_callG (fun w hF hS => f15 _ _ [_, _] (by simp) w (row_box (i := 2) hS rfl rfl rfl)) Try.call15 rfl rfl rfl ?_
    refine l_val rfl rfl rfl (r_assign (v := .int _ _) rfl) ?_
    refine l_nil ?_
    refine c_seq ?_
    refine c_region ?_
    refine l_val rfl rfl rfl (r_assign (v := .slice _ _ _) rfl) ?_
    refine l_nil ?_
    refine c_seq ?_
    refine c_seq ?_
    refine c_region ?_
    refine l_val rfl rfl rfl (r_move (v := .int _ _) rfl) ?_
    refine l_val rfl rfl rfl (r_eql rfl rfl) ?_
    refine splitD (fun h2 => ?_) (fun h2 => ?_)
    · refine l_nil ?_
      refine c_true rfl ?_
      refine c_seq ?_
      obtain ⟨hb0, hc0⟩ := first2 h2
      have hm24 : 0 ≤ m ∧ m ≤ 24 := by simp at hc0 <;> omega
      refine c_region ?_
      refine l_loadN (i := 0) (vs := [_, _, _, _]) Try.isAgg23 Try.sizeOf23 rfl rfl rfl rfl rfl ?_
      refine l_val rfl rfl rfl (r_move (v := .int _ _) rfl) ?_
      refine l_make (makes_call (rds := []) (G := _) (C := _) (fun w L' hF hS hi => f26 s w0 n e m hm24 hb0 w) Try.call26 rfl) rfl rfl rfl (fun pW => ?_)
      refine l_val rfl rfl rfl (r_assign (v := .slice _ _ _) rfl) ?_
      refine l_nil ?_
      refine c_region ?_
      refine l_val rfl rfl rfl (r_move (v := .slice _ _ _) rfl) ?_
      refine l_val rfl rfl rfl (r_len Try.underlying42 rfl) ?_
      refine l_val rfl rfl rfl (r_leq rfl rfl) ?_
      refine l_call (f25 _ _) Try.call25 rfl rfl rfl ?_
      refine l_val rfl rfl rfl (r_assign (v := .int _ _) rfl) ?_
      refine l_nil ?_
      refine c_seq ?_
      have hcl := coverR_le (s, w0, n, e) m
      refine c_region ?_
      refine l_val rfl rfl rfl (r_move (v := .slice _ _ _) rfl) ?_
      refine l_val rfl rfl rfl (r_move (v := .int _ _) rfl) ?_
      refine l_val rfl rfl rfl (r_move (v := .slice _ _ _) rfl) ?_
      refine l_val rfl rfl rfl (r_move (v := .int _ _) rfl) ?_
      refine l_callG (fun w hF hS => f27 _ _ (coverR (s, w0, n, e) m) _ _ _ (coverW (s, w0, n, e) m.toNat) _ (by omega) w (rdOf (i := 1) hS rfl) (rowOf (i := 3) hS rfl)) Try.call27 rfl rfl rfl ?_
      refine knownT (by first | exact told_cover2 (b := (s, w0, n, e)) hb0 hm24 | exact told_cover1 (b := (s, w0, n, e)) (by first | (rw [if_pos (by omega), if_pos (by simp; omega)]) | (rw [if_neg (by simp), if_neg (by omega)]) | exact cond24 ‹_›) ‹_›) ?_
      refine l_val rfl rfl rfl (r_assign (v := .bool _) rfl) ?_
      refine l_nil ?_
      refine c_ret ?_
      refine ret1 (v := .bool _) rfl rfl (fin ?_)
      rfl
    · refine l_nil ?_
      refine c_false rfl ?_
      refine c_skip ?_
      refine c_seq ?_
      have hcl := coverR_le (s, w0, n, e) m
      refine c_region ?_
      refine l_val rfl rfl rfl (r_move (v := .slice _ _ _) rfl) ?_
      refine l_val rfl rfl rfl (r_move (v := .int _ _) rfl) ?_
      refine l_val rfl rfl rfl (r_move (v := .slice _ _ _) rfl) ?_
      refine l_val rfl rfl rfl (r_move (v := .int _ _) rfl) ?_
      refine l_callG (fun w hF hS => f27 _ _ (coverR (s, w0, n, e) m) _ _ _ [] _ (by omega) w (rdOf (i := 1) hS rfl) (.inl rfl)) Try.call27 rfl rfl rfl ?_
      refine knownT (by first | exact told_cover2 (b := (s, w0, n, e)) hb0 hm24 | exact told_cover1 (b := (s, w0, n, e)) (by first | (rw [if_pos (by omega), if_pos (by simp; omega)]) | (rw [if_neg (by simp), if_neg (by omega)]) | exact cond24 ‹_›) ‹_›) ?_
      refine l_val rfl rfl rfl (r_assign (v := .bool _) rfl) ?_
      refine l_nil ?_
      refine c_ret ?_
      refine ret1 (v := .bool _) rfl rfl (fin ?_)
      rfl
  · refine l_val rfl rfl rfl (r_move (v := .bool _) rfl) ?_
    refine l_passed rfl rfl rfl ?_
    refine l_passed rfl rfl rfl ?_
    refine l_val rfl rfl rfl (r_pickF (v := .bool _) rfl rfl) ?_
    refine l_call (f25 _ _) Try.call25 rfl rfl rfl ?_
    refine l_buildSlice (vs := [.int _ _, .int _ _]) (cs := [_, _]) Try.underlying106 Try.sizeOf26 Try.zeroValue26 rfl rfl rfl rfl rfl rfl rfl (fun b2 => ?_)
    refine l_callG (fun w hF hS => f15 _ _ [_, _] (by simp) w (row_box (i := 2) hS rfl rfl rfl)) Try.call15 rfl rfl rfl ?_
    refine l_val rfl rfl rfl (r_assign (v := .int _ _) rfl) ?_
    refine l_nil ?_
    refine c_seq ?_
    refine c_region ?_
    refine l_val rfl rfl rfl (r_assign (v := .slice _ _ _) rfl) ?_
    refine l_nil ?_
    refine c_seq ?_
    refine c_seq ?_
    refine c_region ?_
    refine l_val rfl rfl rfl (r_move (v := .int _ _) rfl) ?_
    refine l_val rfl rfl rfl (r_eql rfl rfl) ?_
    refine splitD (fun h3 => ?_) (fun h3 => ?_)
    · refine l_nil ?_
      refine c_true rfl ?_
      refine c_seq ?_
      obtain ⟨hb0, hc0⟩ := first2 h3
      have hm24 : 0 ≤ m ∧ m ≤ 24 := by simp at hc0 <;> omega
      refine c_region ?_
      refine l_loadN (i := 0) (vs := [_, _, _, _]) Try.isAgg23 Try.sizeOf23 rfl rfl rfl rfl rfl ?_
      refine l_val rfl rfl rfl (r_move (v := .int _ _) rfl) ?_
      refine l_make (makes_call (rds := []) (G := _) (C := _) (fun w L' hF hS hi => f26 s w0 n e m hm24 hb0 w) Try.call26 rfl) rfl rfl rfl (fun pW => ?_)
      refine l_val rfl rfl rfl (r_assign (v := .slice _ _ _) rfl) ?_
      refine l_nil ?_
      refine c_region ?_
      refine l_val rfl rfl rfl (r_move (v := .slice _ _ _) rfl) ?_
      refine l_val rfl rfl rfl (r_len Try.underlying42 rfl) ?_
      refine l_val rfl rfl rfl (r_leq rfl rfl) ?_
      refine l_call (f25 _ _) Try.call25 rfl rfl rfl ?_
      refine l_val rfl rfl rfl (r_assign (v := .int _ _) rfl) ?_
      refine l_nil ?_
      refine c_seq ?_
      have hcl := coverR_le (s, w0, n, e) m
      refine c_region ?_
      refine l_val rfl rfl rfl (r_move (v := .slice _ _ _) rfl) ?_
      refine l_val rfl rfl rfl (r_move (v := .int _ _) rfl) ?_
      refine l_val rfl rfl rfl (r_move (v := .slice _ _ _) rfl) ?_
      refine l_val rfl rfl rfl (r_move (v := .int _ _) rfl) ?_
      refine l_callG (fun w hF hS => f27 _ _ (coverR (s, w0, n, e) m) _ _ _ (coverW (s, w0, n, e) m.toNat) _ (by omega) w (rdOf (i := 1) hS rfl) (rowOf (i := 3) hS rfl)) Try.call27 rfl rfl rfl ?_
      refine knownT (by first | exact told_cover2 (b := (s, w0, n, e)) hb0 hm24 | exact told_cover1 (b := (s, w0, n, e)) (by first | (rw [if_pos (by omega), if_pos (by simp; omega)]) | (rw [if_neg (by simp), if_neg (by omega)]) | exact cond24 ‹_›) ‹_›) ?_
      refine l_val rfl rfl rfl (r_assign (v := .bool _) rfl) ?_
      refine l_nil ?_
      refine c_ret ?_
      refine ret1 (v := .bool _) rfl rfl (fin ?_)
      rfl
    · refine l_nil ?_
      refine c_false rfl ?_
      refine c_skip ?_
      refine c_seq ?_
      have hcl := coverR_le (s, w0, n, e) m
      refine c_region ?_
      refine l_val rfl rfl rfl (r_move (v := .slice _ _ _) rfl) ?_
      refine l_val rfl rfl rfl (r_move (v := .int _ _) rfl) ?_
      refine l_val rfl rfl rfl (r_move (v := .slice _ _ _) rfl) ?_
      refine l_val rfl rfl rfl (r_move (v := .int _ _) rfl) ?_
      refine l_callG (fun w hF hS => f27 _ _ (coverR (s, w0, n, e) m) _ _ _ [] _ (by omega) w (rdOf (i := 1) hS rfl) (.inl rfl)) Try.call27 rfl rfl rfl ?_
      refine knownT (by first | exact told_cover2 (b := (s, w0, n, e)) hb0 hm24 | exact told_cover1 (b := (s, w0, n, e)) (by first | (rw [if_pos (by omega), if_pos (by simp; omega)]) | (rw [if_neg (by simp), if_neg (by omega)]) | exact cond24 ‹_›) ‹_›) ?_
      refine l_val rfl rfl rfl (r_assign (v := .bool _) rfl) ?_
      refine l_nil ?_
      refine c_ret ?_
      refine ret1 (v := .bool _) rfl rfl (fin ?_)
      rfl

end Go.Proofs.Ytfgehlmdcllclaa
