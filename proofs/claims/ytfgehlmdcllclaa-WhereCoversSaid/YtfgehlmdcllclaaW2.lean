/- Contracts of the functions on boxes. Conditions: those that each contract names. -/
import Derived.Test.YtfgehlmdcllclaaW1
namespace Go.Proofs.Ytfgehlmdcllclaa
open Go Go.Vc Go.Vc.Where
set_option maxRecDepth 100000

theorem f62 (s w n e lo : Int) (b1 : -180000000 ≤ w ∧ w ≤ 180000000) (b2 : -180000000 ≤ e ∧ e ≤ 180000000) (b3 : -180000000 ≤ lo ∧ lo ≤ 180000000) : Ret Try.prog 62 [.agg #[.int .i64 s, .int .i64 w, .int .i64 n, .int .i64 e], .int .i64 lo] (.bool (decide (eastS w lo ≤ eastS w e))) := by
  refine enterRet (n := 15) Try.func62 rfl rfl rfl (fun wd => ?_)
  refine c_seq ?_
  refine c_region ?_
  refine l_box (cs := [_, _, _, _]) rfl rfl rfl rfl (fun b0 => ?_)
  refine l_val rfl rfl rfl (r_assign (v := .bool _) rfl) ?_
  refine l_nil ?_
  refine c_seq ?_
  exact c_regionD (Kd.p :: Kd.d [0] _ :: Kd.p :: Kd.d [] _ :: Kd.p :: Kd.d [0] _ :: Kd.p :: Kd.d [0] _ :: Kd.d [] _ :: Kd.p :: Kd.p :: []) 0 mixed (by
    refine d_val rfl rfl (r_field Try.runUnderlying23 rfl Try.sizeOf3 rfl rfl) ?_
    refine d_load1 (i := 0) (v := .int _ _) Try.isAgg3 rfl rfl rfl rfl ?_
    refine d_val rfl rfl (r_move (v := .int _ _) rfl) ?_
    refine d_call (f108 _ _ (by first | omega | assumption) (by first | omega | assumption)) Try.call108 rfl rfl ?_
    refine d_val rfl rfl (r_field Try.runUnderlying23 rfl Try.sizeOf3 rfl rfl) ?_
    refine d_load1 (i := 0) (v := .int _ _) Try.isAgg3 rfl rfl rfl rfl ?_
    refine d_val rfl rfl (r_field Try.runUnderlying23 rfl Try.sizeOf3 rfl rfl) ?_
    refine d_load1 (i := 0) (v := .int _ _) Try.isAgg3 rfl rfl rfl rfl ?_
    refine d_call (f108 _ _ (by first | omega | assumption) (by first | omega | assumption)) Try.call108 rfl rfl ?_
    refine d_val rfl rfl (r_leq rfl rfl) ?_
    refine d_val rfl rfl (r_assign (v := .bool _) rfl) ?_
    refine d_nil ?_
    refine c_ret ?_
    refine ret1 (v := .bool _) rfl rfl (fin ?_)
    rfl
    ) (by kernel_rfl)

theorem f12 (s w n e la lo : Int) : Ret Try.prog 12 [.agg #[.int .i64 s, .int .i64 w, .int .i64 n, .int .i64 e], .agg #[.int .i64 la, .int .i64 lo]] (.tuple #[.bool (decide (boxS s w n e = 0) && decide (placeS la lo = 0) && insideS s w n e la lo), .int .i64 (firstS [boxS s w n e, placeS la lo])]) := by
  refine enterRet (n := 32) Try.func12 rfl rfl rfl (fun wd => ?_)
  refine c_seq ?_
  refine c_region ?_
  refine l_box (cs := [_, _, _, _]) rfl rfl rfl rfl (fun b0 => ?_)
  refine l_box (cs := [_, _]) rfl rfl rfl rfl (fun b1 => ?_)
  refine l_val rfl rfl rfl (r_assign (v := .bool _) rfl) ?_
  refine l_val rfl rfl rfl (r_assign (v := .int _ _) rfl) ?_
  refine l_nil ?_
  refine c_seq ?_
  refine c_seq ?_
  refine c_region ?_
  refine l_loadN (i := 0) (vs := [_, _, _, _]) Try.isAgg23 Try.sizeOf23 rfl rfl rfl rfl rfl ?_
  refine l_call (f19 _ _ _ _) Try.call19 rfl rfl rfl ?_
  refine l_val rfl rfl rfl (r_assign (v := .int _ _) rfl) ?_
  refine l_nil ?_
  refine c_seq ?_
  refine c_region ?_
  refine l_val rfl rfl rfl (r_move (v := .int _ _) rfl) ?_
  refine l_val rfl rfl rfl (r_neq rfl rfl) ?_
  refine splitD (fun h1 => ?_) (fun h1 => ?_)
  · refine l_nil ?_
    refine c_true rfl ?_
    refine c_seq ?_
    refine c_region ?_
    refine l_val rfl rfl rfl (r_move (v := .int _ _) rfl) ?_
    refine l_val rfl rfl rfl (r_assign (v := .bool _) rfl) ?_
    refine l_val rfl rfl rfl (r_assign (v := .int _ _) rfl) ?_
    refine l_nil ?_
    refine c_ret ?_
    refine ret2 (v1 := .bool _) (v2 := .int _ _) rfl rfl rfl (fin ?_)
    simp_all [firstS, insideS, outsideS]
    try (intros; omega)
  · refine l_nil ?_
    refine c_false rfl ?_
    refine c_skip ?_
    refine c_seq ?_
    refine c_seq ?_
    refine c_region ?_
    refine l_loadN (i := 1) (vs := [_, _]) Try.isAgg25 Try.sizeOf25 rfl rfl rfl rfl rfl ?_
    refine l_call (f60 _ _) Try.call60 rfl rfl rfl ?_
    refine l_val rfl rfl rfl (r_assign (v := .int _ _) rfl) ?_
    refine l_nil ?_
    refine c_seq ?_
    refine c_region ?_
    refine l_val rfl rfl rfl (r_move (v := .int _ _) rfl) ?_
    refine l_val rfl rfl rfl (r_neq rfl rfl) ?_
    refine splitD (fun h2 => ?_) (fun h2 => ?_)
    · refine l_nil ?_
      refine c_true rfl ?_
      refine c_seq ?_
      refine c_region ?_
      refine l_val rfl rfl rfl (r_move (v := .int _ _) rfl) ?_
      refine l_val rfl rfl rfl (r_assign (v := .bool _) rfl) ?_
      refine l_val rfl rfl rfl (r_assign (v := .int _ _) rfl) ?_
      refine l_nil ?_
      refine c_ret ?_
      refine ret2 (v1 := .bool _) (v2 := .int _ _) rfl rfl rfl (fin ?_)
      simp_all [firstS, insideS, outsideS]
      try (intros; omega)
    · refine l_nil ?_
      refine c_false rfl ?_
      refine c_skip ?_
      refine c_seq ?_
      refine c_region ?_
      have hb := box_ok (by omega : boxS s w n e = 0)
      have hp := place_ok (by omega : placeS la lo = 0)
      refine l_val rfl rfl rfl (r_field Try.runUnderlying25 rfl Try.sizeOf3 rfl rfl) ?_
      refine l_load1 (i := 1) (v := .int _ _) Try.isAgg3 rfl rfl rfl rfl rfl ?_
      refine l_val rfl rfl rfl (r_field Try.runUnderlying23 rfl Try.sizeOf3 rfl rfl) ?_
      refine l_load1 (i := 0) (v := .int _ _) Try.isAgg3 rfl rfl rfl rfl rfl ?_
      refine l_val rfl rfl rfl (r_field Try.runUnderlying23 rfl Try.sizeOf3 rfl rfl) ?_
      refine l_load1 (i := 0) (v := .int _ _) Try.isAgg3 rfl rfl rfl rfl rfl ?_
      refine l_call (f61 _ _ _) Try.call61 rfl rfl rfl ?_
      refine split (fun h3 => ?_) (fun h3 => ?_)
      · refine l_val rfl rfl rfl (r_notT rfl) ?_
        refine l_val rfl rfl rfl (r_move (v := .bool _) rfl) ?_
        refine l_passed rfl rfl rfl ?_
        refine l_passed rfl rfl rfl ?_
        refine l_passed rfl rfl rfl ?_
        refine l_passed rfl rfl rfl ?_
        refine l_val rfl rfl rfl (r_pickF (v := .bool _) rfl rfl) ?_
        refine l_val rfl rfl rfl (r_assign (v := .bool _) rfl) ?_
        refine l_val rfl rfl rfl (r_assign (v := .int _ _) rfl) ?_
        refine l_nil ?_
        refine c_ret ?_
        refine ret2 (v1 := .bool _) (v2 := .int _ _) rfl rfl rfl (fin ?_)
        simp_all [firstS, insideS, outsideS]
        try (intros; omega)
      · refine l_val rfl rfl rfl (r_notF rfl) ?_
        refine l_val rfl rfl rfl (r_move (v := .bool _) rfl) ?_
        refine l_loadN (i := 0) (vs := [_, _, _, _]) Try.isAgg23 Try.sizeOf23 rfl rfl rfl rfl rfl ?_
        refine l_val rfl rfl rfl (r_field Try.runUnderlying25 rfl Try.sizeOf3 rfl rfl) ?_
        refine l_load1 (i := 1) (v := .int _ _) Try.isAgg3 rfl rfl rfl rfl rfl ?_
        refine l_call (f62 _ _ _ _ _ (by first | omega | assumption) (by first | omega | assumption) (by first | omega | assumption)) Try.call62 rfl rfl rfl ?_
        refine l_val rfl rfl rfl (r_pickT (v := .bool _) rfl rfl) ?_
        refine l_val rfl rfl rfl (r_assign (v := .bool _) rfl) ?_
        refine l_val rfl rfl rfl (r_assign (v := .int _ _) rfl) ?_
        refine l_nil ?_
        refine c_ret ?_
        refine ret2 (v1 := .bool _) (v2 := .int _ _) rfl rfl rfl (fin ?_)
        simp_all [firstS, insideS, outsideS]
        try (intros; omega)

theorem f63 (s1 w1 n1 e1 s2 w2 n2 e2 : Int) (h1 : boxS s1 w1 n1 e1 = 0) (h2 : boxS s2 w2 n2 e2 = 0) : Ret Try.prog 63 [.agg #[.int .i64 s1, .int .i64 w1, .int .i64 n1, .int .i64 e1], .agg #[.int .i64 s2, .int .i64 w2, .int .i64 n2, .int .i64 e2]] (.bool (meetsS s1 w1 n1 e1 s2 w2 n2 e2)) := by
  have k1 := box_ok h1
  have k2 := box_ok h2
  clear h1 h2
  refine enterRet (n := 29) Try.func63 rfl rfl rfl (fun wd => ?_)
  refine c_seq ?_
  refine c_region ?_
  refine l_box (cs := [_, _, _, _]) rfl rfl rfl rfl (fun b0 => ?_)
  refine l_box (cs := [_, _, _, _]) rfl rfl rfl rfl (fun b1 => ?_)
  refine l_val rfl rfl rfl (r_assign (v := .bool _) rfl) ?_
  refine l_nil ?_
  refine c_seq ?_
  refine c_region ?_
  refine l_val rfl rfl rfl (r_field Try.runUnderlying23 rfl Try.sizeOf3 rfl rfl) ?_
  refine l_load1 (i := 0) (v := .int _ _) Try.isAgg3 rfl rfl rfl rfl rfl ?_
  refine l_val rfl rfl rfl (r_field Try.runUnderlying23 rfl Try.sizeOf3 rfl rfl) ?_
  refine l_load1 (i := 1) (v := .int _ _) Try.isAgg3 rfl rfl rfl rfl rfl ?_
  refine l_val rfl rfl rfl (r_leq rfl rfl) ?_
  refine splitD (fun h1 => ?_) (fun h1 => ?_)
  · refine l_val rfl rfl rfl (r_move (v := .bool _) rfl) ?_
    refine l_val rfl rfl rfl (r_field Try.runUnderlying23 rfl Try.sizeOf3 rfl rfl) ?_
    refine l_load1 (i := 1) (v := .int _ _) Try.isAgg3 rfl rfl rfl rfl rfl ?_
    refine l_val rfl rfl rfl (r_field Try.runUnderlying23 rfl Try.sizeOf3 rfl rfl) ?_
    refine l_load1 (i := 0) (v := .int _ _) Try.isAgg3 rfl rfl rfl rfl rfl ?_
    refine l_val rfl rfl rfl (r_leq rfl rfl) ?_
    refine splitD (fun h2 => ?_) (fun h2 => ?_)
    · refine l_val rfl rfl rfl (r_pickT (v := .bool _) rfl rfl) ?_
      refine l_val rfl rfl rfl (r_move (v := .bool _) rfl) ?_
      refine l_loadN (i := 0) (vs := [_, _, _, _]) Try.isAgg23 Try.sizeOf23 rfl rfl rfl rfl rfl ?_
      refine l_val rfl rfl rfl (r_field Try.runUnderlying23 rfl Try.sizeOf3 rfl rfl) ?_
      refine l_load1 (i := 1) (v := .int _ _) Try.isAgg3 rfl rfl rfl rfl rfl ?_
      refine l_call (f62 _ _ _ _ _ (by first | omega | assumption) (by first | omega | assumption) (by first | omega | assumption)) Try.call62 rfl rfl rfl ?_
      refine split (fun h3 => ?_) (fun h3 => ?_)
      · refine l_val rfl rfl rfl (r_move (v := .bool _) rfl) ?_
        refine l_passed rfl rfl rfl ?_
        refine l_passed rfl rfl rfl ?_
        refine l_passed rfl rfl rfl ?_
        refine l_passed rfl rfl rfl ?_
        refine l_val rfl rfl rfl (r_pickT (v := .bool _) rfl rfl) ?_
        refine l_val rfl rfl rfl (r_pickT (v := .bool _) rfl rfl) ?_
        refine l_val rfl rfl rfl (r_assign (v := .bool _) rfl) ?_
        refine l_nil ?_
        refine c_ret ?_
        refine ret1 (v := .bool _) rfl rfl (fin ?_)
        simp_all [meetsS]
        try (intros; omega)
      · refine l_val rfl rfl rfl (r_move (v := .bool _) rfl) ?_
        refine l_loadN (i := 1) (vs := [_, _, _, _]) Try.isAgg23 Try.sizeOf23 rfl rfl rfl rfl rfl ?_
        refine l_val rfl rfl rfl (r_field Try.runUnderlying23 rfl Try.sizeOf3 rfl rfl) ?_
        refine l_load1 (i := 0) (v := .int _ _) Try.isAgg3 rfl rfl rfl rfl rfl ?_
        refine l_call (f62 _ _ _ _ _ (by first | omega | assumption) (by first | omega | assumption) (by first | omega | assumption)) Try.call62 rfl rfl rfl ?_
        refine l_val rfl rfl rfl (r_pickF (v := .bool _) rfl rfl) ?_
        refine l_val rfl rfl rfl (r_pickT (v := .bool _) rfl rfl) ?_
        refine l_val rfl rfl rfl (r_assign (v := .bool _) rfl) ?_
        refine l_nil ?_
        refine c_ret ?_
        refine ret1 (v := .bool _) rfl rfl (fin ?_)
        simp_all [meetsS]
        try (intros; omega)
    · refine l_val rfl rfl rfl (r_pickT (v := .bool _) rfl rfl) ?_
      refine l_val rfl rfl rfl (r_move (v := .bool _) rfl) ?_
      refine l_passed rfl rfl rfl ?_
      refine l_passed rfl rfl rfl ?_
      refine l_passed rfl rfl rfl ?_
      refine l_passed rfl rfl rfl ?_
      refine l_passed rfl rfl rfl ?_
      refine l_passed rfl rfl rfl ?_
      refine l_passed rfl rfl rfl ?_
      refine l_passed rfl rfl rfl ?_
      refine l_passed rfl rfl rfl ?_
      refine l_passed rfl rfl rfl ?_
      refine l_val rfl rfl rfl (r_pickF (v := .bool _) rfl rfl) ?_
      refine l_val rfl rfl rfl (r_assign (v := .bool _) rfl) ?_
      refine l_nil ?_
      refine c_ret ?_
      refine ret1 (v := .bool _) rfl rfl (fin ?_)
      simp_all [meetsS]
      try (intros; omega)
  · refine l_val rfl rfl rfl (r_move (v := .bool _) rfl) ?_
    refine l_passed rfl rfl rfl ?_
    refine l_passed rfl rfl rfl ?_
    refine l_passed rfl rfl rfl ?_
    refine l_passed rfl rfl rfl ?_
    refine l_passed rfl rfl rfl ?_
    refine l_val rfl rfl rfl (r_pickF (v := .bool _) rfl rfl) ?_
    refine l_val rfl rfl rfl (r_move (v := .bool _) rfl) ?_
    refine l_passed rfl rfl rfl ?_
    refine l_passed rfl rfl rfl ?_
    refine l_passed rfl rfl rfl ?_
    refine l_passed rfl rfl rfl ?_
    refine l_passed rfl rfl rfl ?_
    refine l_passed rfl rfl rfl ?_
    refine l_passed rfl rfl rfl ?_
    refine l_passed rfl rfl rfl ?_
    refine l_passed rfl rfl rfl ?_
    refine l_passed rfl rfl rfl ?_
    refine l_val rfl rfl rfl (r_pickF (v := .bool _) rfl rfl) ?_
    refine l_val rfl rfl rfl (r_assign (v := .bool _) rfl) ?_
    refine l_nil ?_
    refine c_ret ?_
    refine ret1 (v := .bool _) rfl rfl (fin ?_)
    simp_all [meetsS]
    try (intros; omega)

theorem f22 (s1 w1 n1 e1 s2 w2 n2 e2 : Int) (h1 : boxS s1 w1 n1 e1 = 0) (h2 : boxS s2 w2 n2 e2 = 0) : Ret Try.prog 22 [.agg #[.int .i64 s1, .int .i64 w1, .int .i64 n1, .int .i64 e1], .agg #[.int .i64 s2, .int .i64 w2, .int .i64 n2, .int .i64 e2]] (.bool (meetsS s1 w1 n1 e1 s2 w2 n2 e2)) := by
  have k1 := box_ok h1
  have k2 := box_ok h2
  clear h1 h2
  refine enterRet (n := 42) Try.func22 rfl rfl rfl (fun wd => ?_)
  refine c_seq ?_
  refine c_region ?_
  refine l_box (cs := [_, _, _, _]) rfl rfl rfl rfl (fun b0 => ?_)
  refine l_box (cs := [_, _, _, _]) rfl rfl rfl rfl (fun b1 => ?_)
  refine l_val rfl rfl rfl (r_assign (v := .bool _) rfl) ?_
  refine l_nil ?_
  refine c_seq ?_
  exact c_regionD (Kd.p :: Kd.d [0] _ :: Kd.p :: Kd.d [1] _ :: Kd.p :: Kd.p :: Kd.d [0] _ :: Kd.p :: Kd.d [1] _ :: Kd.p :: Kd.p :: Kd.p :: Kd.p :: Kd.d [0] _ :: Kd.p :: Kd.d [1] _ :: Kd.d [] _ :: Kd.p :: Kd.d [0] _ :: Kd.p :: Kd.d [0] _ :: Kd.d [] _ :: Kd.p :: Kd.p :: Kd.p :: Kd.d [1] _ :: Kd.p :: Kd.d [0] _ :: Kd.d [] _ :: Kd.p :: Kd.d [1] _ :: Kd.p :: Kd.d [1] _ :: Kd.d [] _ :: Kd.p :: Kd.p :: Kd.p :: Kd.p :: []) 0 mixed (by
    refine d_val rfl rfl (r_field Try.runUnderlying23 rfl Try.sizeOf3 rfl rfl) ?_
    refine d_load1 (i := 0) (v := .int _ _) Try.isAgg3 rfl rfl rfl rfl ?_
    refine d_val rfl rfl (r_field Try.runUnderlying23 rfl Try.sizeOf3 rfl rfl) ?_
    refine d_load1 (i := 1) (v := .int _ _) Try.isAgg3 rfl rfl rfl rfl ?_
    refine d_val rfl rfl (r_max rfl rfl) ?_
    refine d_val rfl rfl (r_field Try.runUnderlying23 rfl Try.sizeOf3 rfl rfl) ?_
    refine d_load1 (i := 0) (v := .int _ _) Try.isAgg3 rfl rfl rfl rfl ?_
    refine d_val rfl rfl (r_field Try.runUnderlying23 rfl Try.sizeOf3 rfl rfl) ?_
    refine d_load1 (i := 1) (v := .int _ _) Try.isAgg3 rfl rfl rfl rfl ?_
    refine d_val rfl rfl (r_min rfl rfl) ?_
    refine d_val rfl rfl (r_leq rfl rfl) ?_
    refine splitSD (fun h1 => ?_) (fun h1 => ?_)
    · refine d_val rfl rfl (r_move (v := .bool _) rfl) ?_
      refine d_val rfl rfl (r_field Try.runUnderlying23 rfl Try.sizeOf3 rfl rfl) ?_
      refine d_load1 (i := 0) (v := .int _ _) Try.isAgg3 rfl rfl rfl rfl ?_
      refine d_val rfl rfl (r_field Try.runUnderlying23 rfl Try.sizeOf3 rfl rfl) ?_
      refine d_load1 (i := 1) (v := .int _ _) Try.isAgg3 rfl rfl rfl rfl ?_
      refine d_call (f70 _ _ (by first | omega | assumption) (by first | omega | assumption) (by first | omega | assumption)) Try.call70 rfl rfl ?_
      refine d_val rfl rfl (r_field Try.runUnderlying23 rfl Try.sizeOf3 rfl rfl) ?_
      refine d_load1 (i := 0) (v := .int _ _) Try.isAgg3 rfl rfl rfl rfl ?_
      refine d_val rfl rfl (r_field Try.runUnderlying23 rfl Try.sizeOf3 rfl rfl) ?_
      refine d_load1 (i := 0) (v := .int _ _) Try.isAgg3 rfl rfl rfl rfl ?_
      refine d_call (f70 _ _ (by first | omega | assumption) (by first | omega | assumption) (by first | omega | assumption)) Try.call70 rfl rfl ?_
      refine d_val rfl rfl (r_leq rfl rfl) ?_
      refine splitSD (fun h2 => ?_) (fun h2 => ?_)
      · refine d_val rfl rfl (r_move (v := .bool _) rfl) ?_
        refine d_pass rfl rfl ?_
        refine d_pass rfl rfl ?_
        refine d_pass rfl rfl ?_
        refine d_pass rfl rfl ?_
        refine d_pass rfl rfl ?_
        refine d_pass rfl rfl ?_
        refine d_pass rfl rfl ?_
        refine d_pass rfl rfl ?_
        refine d_pass rfl rfl ?_
        refine d_pass rfl rfl ?_
        refine d_pass rfl rfl ?_
        refine d_val rfl rfl (r_pickT (v := .bool _) rfl rfl) ?_
        refine d_val rfl rfl (r_pickT (v := .bool _) rfl rfl) ?_
        refine d_val rfl rfl (r_assign (v := .bool _) rfl) ?_
        refine d_nil ?_
        refine c_ret ?_
        refine ret1 (v := .bool _) rfl rfl (fin ?_)
        refine vB ?_
        simp only [meetsS]
        rw [Bool.eq_iff_iff]
        simp_all
        try (intros; omega)
      · refine d_val rfl rfl (r_move (v := .bool _) rfl) ?_
        refine d_val rfl rfl (r_field Try.runUnderlying23 rfl Try.sizeOf3 rfl rfl) ?_
        refine d_load1 (i := 1) (v := .int _ _) Try.isAgg3 rfl rfl rfl rfl ?_
        refine d_val rfl rfl (r_field Try.runUnderlying23 rfl Try.sizeOf3 rfl rfl) ?_
        refine d_load1 (i := 0) (v := .int _ _) Try.isAgg3 rfl rfl rfl rfl ?_
        refine d_call (f70 _ _ (by first | omega | assumption) (by first | omega | assumption) (by first | omega | assumption)) Try.call70 rfl rfl ?_
        refine d_val rfl rfl (r_field Try.runUnderlying23 rfl Try.sizeOf3 rfl rfl) ?_
        refine d_load1 (i := 1) (v := .int _ _) Try.isAgg3 rfl rfl rfl rfl ?_
        refine d_val rfl rfl (r_field Try.runUnderlying23 rfl Try.sizeOf3 rfl rfl) ?_
        refine d_load1 (i := 1) (v := .int _ _) Try.isAgg3 rfl rfl rfl rfl ?_
        refine d_call (f70 _ _ (by first | omega | assumption) (by first | omega | assumption) (by first | omega | assumption)) Try.call70 rfl rfl ?_
        refine d_val rfl rfl (r_leq rfl rfl) ?_
        refine d_val rfl rfl (r_pickF (v := .bool _) rfl rfl) ?_
        refine d_val rfl rfl (r_pickT (v := .bool _) rfl rfl) ?_
        refine d_val rfl rfl (r_assign (v := .bool _) rfl) ?_
        refine d_nil ?_
        refine c_ret ?_
        refine ret1 (v := .bool _) rfl rfl (fin ?_)
        refine vB ?_
        simp only [meetsS]
        rw [Bool.eq_iff_iff]
        simp_all
        try (intros; omega)
    · refine d_val rfl rfl (r_move (v := .bool _) rfl) ?_
      refine d_pass rfl rfl ?_
      refine d_pass rfl rfl ?_
      refine d_pass rfl rfl ?_
      refine d_pass rfl rfl ?_
      refine d_pass rfl rfl ?_
      refine d_pass rfl rfl ?_
      refine d_pass rfl rfl ?_
      refine d_pass rfl rfl ?_
      refine d_pass rfl rfl ?_
      refine d_pass rfl rfl ?_
      refine d_pass rfl rfl ?_
      refine d_pass rfl rfl ?_
      refine d_pass rfl rfl ?_
      refine d_pass rfl rfl ?_
      refine d_pass rfl rfl ?_
      refine d_pass rfl rfl ?_
      refine d_pass rfl rfl ?_
      refine d_pass rfl rfl ?_
      refine d_pass rfl rfl ?_
      refine d_pass rfl rfl ?_
      refine d_pass rfl rfl ?_
      refine d_pass rfl rfl ?_
      refine d_pass rfl rfl ?_
      refine d_pass rfl rfl ?_
      refine d_val rfl rfl (r_pickF (v := .bool _) rfl rfl) ?_
      refine d_val rfl rfl (r_assign (v := .bool _) rfl) ?_
      refine d_nil ?_
      refine c_ret ?_
      refine ret1 (v := .bool _) rfl rfl (fin ?_)
      refine vB ?_
      simp only [meetsS]
      rw [Bool.eq_iff_iff]
      simp_all
      try (intros; omega)
    ) (by kernel_rfl)

theorem f13 (s1 w1 n1 e1 s2 w2 n2 e2 : Int) : Ret Try.prog 13 [.agg #[.int .i64 s1, .int .i64 w1, .int .i64 n1, .int .i64 e1], .agg #[.int .i64 s2, .int .i64 w2, .int .i64 n2, .int .i64 e2]] (.tuple #[.bool (decide (boxS s1 w1 n1 e1 = 0) && decide (boxS s2 w2 n2 e2 = 0) && meetsS s1 w1 n1 e1 s2 w2 n2 e2), .int .i64 (firstS [boxS s1 w1 n1 e1, boxS s2 w2 n2 e2])]) := by
  refine enterRet (n := 26) Try.func13 rfl rfl rfl (fun wd => ?_)
  refine c_seq ?_
  refine c_region ?_
  refine l_box (cs := [_, _, _, _]) rfl rfl rfl rfl (fun b0 => ?_)
  refine l_box (cs := [_, _, _, _]) rfl rfl rfl rfl (fun b1 => ?_)
  refine l_val rfl rfl rfl (r_assign (v := .bool _) rfl) ?_
  refine l_val rfl rfl rfl (r_assign (v := .int _ _) rfl) ?_
  refine l_nil ?_
  refine c_seq ?_
  refine c_seq ?_
  refine c_region ?_
  refine l_loadN (i := 0) (vs := [_, _, _, _]) Try.isAgg23 Try.sizeOf23 rfl rfl rfl rfl rfl ?_
  refine l_loadN (i := 1) (vs := [_, _, _, _]) Try.isAgg23 Try.sizeOf23 rfl rfl rfl rfl rfl ?_
  refine l_buildSlice (vs := [.agg #[_, _, _, _], .agg #[_, _, _, _]]) (cs := [_, _, _, _, _, _, _, _]) Try.underlying104 Try.sizeOf23 Try.zeroValue23 rfl rfl rfl rfl rfl rfl rfl (fun b2 => ?_)
  refine l_val rfl rfl rfl (r_len Try.underlying104 rfl) ?_
  refine l_val rfl rfl rfl (r_move (v := .int _ _) rfl) ?_
  refine l_nil ?_
  refine c_block ?_
  refine c_unroll 3 ?_
  refine c_once ?_
  refine c_seq ?_
  refine c_region ?_
  refine l_val rfl rfl rfl (r_decT (r_lss rfl rfl) (by decide)) ?_
  refine l_nil ?_
  refine c_seq ?_
  refine c_true rfl ?_
  refine c_skip ?_
  refine c_seq ?_
  refine c_block ?_
  refine c_seq ?_
  refine c_region ?_
  refine l_val rfl rfl rfl (r_index Try.underlying104 Try.sizeOf23 rfl rfl ⟨_, _, rfl⟩ (by decide) (by decide)) ?_
  refine l_loadN (i := 2) (vs := [_, _, _, _]) Try.isAgg23 Try.sizeOf23 rfl rfl rfl rfl rfl ?_
  refine l_alloc (cs := [_, _, _, _]) Try.zeroValue23 rfl rfl rfl (fun b3 => ?_)
  refine l_store (i := 3) (vs := [_, _, _, _]) (cs' := [_, _, _, _]) Try.sizeOf23 rfl rfl rfl rfl rfl rfl rfl rfl rfl ?_
  refine l_nil ?_
  refine c_seq ?_
  refine c_region ?_
  refine l_loadN (i := 3) (vs := [_, _, _, _]) Try.isAgg23 Try.sizeOf23 rfl rfl rfl rfl rfl ?_
  refine l_call (f19 _ _ _ _) Try.call19 rfl rfl rfl ?_
  refine l_val rfl rfl rfl (r_assign (v := .int _ _) rfl) ?_
  refine l_nil ?_
  refine c_seq ?_
  refine c_region ?_
  refine l_val rfl rfl rfl (r_move (v := .int _ _) rfl) ?_
  refine l_val rfl rfl rfl (r_neq rfl rfl) ?_
  refine splitD (fun h1 => ?_) (fun h1 => ?_)
  · refine l_nil ?_
    refine c_true rfl ?_
    refine c_seq ?_
    refine c_region ?_
    refine l_val rfl rfl rfl (r_move (v := .int _ _) rfl) ?_
    refine l_val rfl rfl rfl (r_assign (v := .bool _) rfl) ?_
    refine l_val rfl rfl rfl (r_assign (v := .int _ _) rfl) ?_
    refine l_nil ?_
    refine c_ret ?_
    refine ret2 (v1 := .bool _) (v2 := .int _ _) rfl rfl rfl (fin ?_)
    simp_all [firstS]
  · refine l_nil ?_
    refine c_false rfl ?_
    refine c_skip ?_
    refine c_region ?_
    refine l_val rfl rfl rfl (r_add rfl rfl (by omega)) ?_
    refine l_val rfl rfl rfl (r_move (v := .int _ _) rfl) ?_
    refine l_nil ?_
    refine c_once ?_
    refine c_seq ?_
    refine c_region ?_
    refine l_val rfl rfl rfl (r_decT (r_lss rfl rfl) (by decide)) ?_
    refine l_nil ?_
    refine c_seq ?_
    refine c_true rfl ?_
    refine c_skip ?_
    refine c_seq ?_
    refine c_block ?_
    refine c_seq ?_
    refine c_region ?_
    refine l_val rfl rfl rfl (r_index Try.underlying104 Try.sizeOf23 rfl rfl ⟨_, _, rfl⟩ (by decide) (by decide)) ?_
    refine l_loadN (i := 2) (vs := [_, _, _, _]) Try.isAgg23 Try.sizeOf23 rfl rfl rfl rfl rfl ?_
    refine l_alloc (cs := [_, _, _, _]) Try.zeroValue23 rfl rfl rfl (fun b4 => ?_)
    refine l_store (i := 4) (vs := [_, _, _, _]) (cs' := [_, _, _, _]) Try.sizeOf23 rfl rfl rfl rfl rfl rfl rfl rfl rfl ?_
    refine l_nil ?_
    refine c_seq ?_
    refine c_region ?_
    refine l_loadN (i := 4) (vs := [_, _, _, _]) Try.isAgg23 Try.sizeOf23 rfl rfl rfl rfl rfl ?_
    refine l_call (f19 _ _ _ _) Try.call19 rfl rfl rfl ?_
    refine l_val rfl rfl rfl (r_assign (v := .int _ _) rfl) ?_
    refine l_nil ?_
    refine c_seq ?_
    refine c_region ?_
    refine l_val rfl rfl rfl (r_move (v := .int _ _) rfl) ?_
    refine l_val rfl rfl rfl (r_neq rfl rfl) ?_
    refine splitD (fun h2 => ?_) (fun h2 => ?_)
    · refine l_nil ?_
      refine c_true rfl ?_
      refine c_seq ?_
      refine c_region ?_
      refine l_val rfl rfl rfl (r_move (v := .int _ _) rfl) ?_
      refine l_val rfl rfl rfl (r_assign (v := .bool _) rfl) ?_
      refine l_val rfl rfl rfl (r_assign (v := .int _ _) rfl) ?_
      refine l_nil ?_
      refine c_ret ?_
      refine ret2 (v1 := .bool _) (v2 := .int _ _) rfl rfl rfl (fin ?_)
      simp_all [firstS]
    · refine l_nil ?_
      refine c_false rfl ?_
      refine c_skip ?_
      refine c_region ?_
      refine l_val rfl rfl rfl (r_add rfl rfl (by omega)) ?_
      refine l_val rfl rfl rfl (r_move (v := .int _ _) rfl) ?_
      refine l_nil ?_
      refine c_once ?_
      refine c_seq ?_
      refine c_region ?_
      refine l_val rfl rfl rfl (r_decF (r_lss rfl rfl) (by decide)) ?_
      refine l_nil ?_
      refine c_seq ?_
      refine c_false rfl ?_
      refine c_exit ?_
      refine c_seq ?_
      refine c_region ?_
      refine l_loadN (i := 0) (vs := [_, _, _, _]) Try.isAgg23 Try.sizeOf23 rfl rfl rfl rfl rfl ?_
      refine l_loadN (i := 1) (vs := [_, _, _, _]) Try.isAgg23 Try.sizeOf23 rfl rfl rfl rfl rfl ?_
      refine l_call (f63 _ _ _ _ _ _ _ _ (by first | omega | assumption) (by first | omega | assumption)) Try.call63 rfl rfl rfl ?_
      refine l_val rfl rfl rfl (r_assign (v := .bool _) rfl) ?_
      refine l_val rfl rfl rfl (r_assign (v := .int _ _) rfl) ?_
      refine l_nil ?_
      refine c_ret ?_
      refine ret2 (v1 := .bool _) (v2 := .int _ _) rfl rfl rfl (fin ?_)
      simp_all [firstS]

theorem f21 (s w n e la lo : Int) (h1 : boxS s w n e = 0) (h2 : placeS la lo = 0) : Ret Try.prog 21 [.agg #[.int .i64 s, .int .i64 w, .int .i64 n, .int .i64 e], .agg #[.int .i64 la, .int .i64 lo]] (.bool (insideS s w n e la lo)) := by
  have k1 := box_ok h1
  have k2 := place_ok h2
  clear h1 h2
  refine enterRet (n := 30) Try.func21 rfl rfl rfl (fun wd => ?_)
  refine c_seq ?_
  refine c_region ?_
  refine l_box (cs := [_, _, _, _]) rfl rfl rfl rfl (fun b0 => ?_)
  refine l_box (cs := [_, _]) rfl rfl rfl rfl (fun b1 => ?_)
  refine l_val rfl rfl rfl (r_assign (v := .bool _) rfl) ?_
  refine l_nil ?_
  refine c_seq ?_
  exact c_regionD (Kd.p :: Kd.d [1] _ :: Kd.p :: Kd.d [0] _ :: Kd.p :: Kd.p :: Kd.p :: Kd.d [1] _ :: Kd.p :: Kd.d [0] _ :: Kd.p :: Kd.p :: Kd.p :: Kd.p :: Kd.d [0] _ :: Kd.p :: Kd.d [1] _ :: Kd.d [] _ :: Kd.p :: Kd.d [0] _ :: Kd.p :: Kd.d [0] _ :: Kd.d [] _ :: Kd.p :: Kd.p :: Kd.p :: []) 0 mixed (by
    refine d_val rfl rfl (r_field Try.runUnderlying25 rfl Try.sizeOf3 rfl rfl) ?_
    refine d_load1 (i := 1) (v := .int _ _) Try.isAgg3 rfl rfl rfl rfl ?_
    refine d_val rfl rfl (r_field Try.runUnderlying23 rfl Try.sizeOf3 rfl rfl) ?_
    refine d_load1 (i := 0) (v := .int _ _) Try.isAgg3 rfl rfl rfl rfl ?_
    refine d_val rfl rfl (r_geq rfl rfl) ?_
    refine splitSD (fun h1 => ?_) (fun h1 => ?_)
    · refine d_val rfl rfl (r_move (v := .bool _) rfl) ?_
      refine d_val rfl rfl (r_field Try.runUnderlying25 rfl Try.sizeOf3 rfl rfl) ?_
      refine d_load1 (i := 1) (v := .int _ _) Try.isAgg3 rfl rfl rfl rfl ?_
      refine d_val rfl rfl (r_field Try.runUnderlying23 rfl Try.sizeOf3 rfl rfl) ?_
      refine d_load1 (i := 0) (v := .int _ _) Try.isAgg3 rfl rfl rfl rfl ?_
      refine d_val rfl rfl (r_leq rfl rfl) ?_
      refine splitSD (fun h2 => ?_) (fun h2 => ?_)
      · refine d_val rfl rfl (r_pickT (v := .bool _) rfl rfl) ?_
        refine d_val rfl rfl (r_move (v := .bool _) rfl) ?_
        refine d_val rfl rfl (r_field Try.runUnderlying23 rfl Try.sizeOf3 rfl rfl) ?_
        refine d_load1 (i := 0) (v := .int _ _) Try.isAgg3 rfl rfl rfl rfl ?_
        refine d_val rfl rfl (r_field Try.runUnderlying25 rfl Try.sizeOf3 rfl rfl) ?_
        refine d_load1 (i := 1) (v := .int _ _) Try.isAgg3 rfl rfl rfl rfl ?_
        refine d_call (f70 _ _ (by first | omega | assumption) (by first | omega | assumption) (by first | omega | assumption)) Try.call70 rfl rfl ?_
        refine d_val rfl rfl (r_field Try.runUnderlying23 rfl Try.sizeOf3 rfl rfl) ?_
        refine d_load1 (i := 0) (v := .int _ _) Try.isAgg3 rfl rfl rfl rfl ?_
        refine d_val rfl rfl (r_field Try.runUnderlying23 rfl Try.sizeOf3 rfl rfl) ?_
        refine d_load1 (i := 0) (v := .int _ _) Try.isAgg3 rfl rfl rfl rfl ?_
        refine d_call (f70 _ _ (by first | omega | assumption) (by first | omega | assumption) (by first | omega | assumption)) Try.call70 rfl rfl ?_
        refine d_val rfl rfl (r_leq rfl rfl) ?_
        refine d_val rfl rfl (r_pickT (v := .bool _) rfl rfl) ?_
        refine d_val rfl rfl (r_assign (v := .bool _) rfl) ?_
        refine d_nil ?_
        refine c_ret ?_
        refine ret1 (v := .bool _) rfl rfl (fin ?_)
        simp_all [insideS]
        try (intros; omega)
      · refine d_val rfl rfl (r_pickT (v := .bool _) rfl rfl) ?_
        refine d_val rfl rfl (r_move (v := .bool _) rfl) ?_
        refine d_pass rfl rfl ?_
        refine d_pass rfl rfl ?_
        refine d_pass rfl rfl ?_
        refine d_pass rfl rfl ?_
        refine d_pass rfl rfl ?_
        refine d_pass rfl rfl ?_
        refine d_pass rfl rfl ?_
        refine d_pass rfl rfl ?_
        refine d_pass rfl rfl ?_
        refine d_pass rfl rfl ?_
        refine d_pass rfl rfl ?_
        refine d_val rfl rfl (r_pickF (v := .bool _) rfl rfl) ?_
        refine d_val rfl rfl (r_assign (v := .bool _) rfl) ?_
        refine d_nil ?_
        refine c_ret ?_
        refine ret1 (v := .bool _) rfl rfl (fin ?_)
        simp_all [insideS]
        try (intros; omega)
    · refine d_val rfl rfl (r_move (v := .bool _) rfl) ?_
      refine d_pass rfl rfl ?_
      refine d_pass rfl rfl ?_
      refine d_pass rfl rfl ?_
      refine d_pass rfl rfl ?_
      refine d_pass rfl rfl ?_
      refine d_val rfl rfl (r_pickF (v := .bool _) rfl rfl) ?_
      refine d_val rfl rfl (r_move (v := .bool _) rfl) ?_
      refine d_pass rfl rfl ?_
      refine d_pass rfl rfl ?_
      refine d_pass rfl rfl ?_
      refine d_pass rfl rfl ?_
      refine d_pass rfl rfl ?_
      refine d_pass rfl rfl ?_
      refine d_pass rfl rfl ?_
      refine d_pass rfl rfl ?_
      refine d_pass rfl rfl ?_
      refine d_pass rfl rfl ?_
      refine d_pass rfl rfl ?_
      refine d_val rfl rfl (r_pickF (v := .bool _) rfl rfl) ?_
      refine d_val rfl rfl (r_assign (v := .bool _) rfl) ?_
      refine d_nil ?_
      refine c_ret ?_
      refine ret1 (v := .bool _) rfl rfl (fin ?_)
      simp_all [insideS]
      try (intros; omega)
    ) (by kernel_rfl)

theorem f25 (b : Bool) (e : Int) : Ret Try.prog 25 [.bool b, .int .i64 e] (.int .i64 (if b = true then 0 else e)) := by
  refine enterRet (n := 7) Try.func25 rfl rfl rfl (fun wd => ?_)
  refine c_seq ?_
  refine c_region ?_
  refine l_val rfl rfl rfl (r_assign (v := .int _ _) rfl) ?_
  refine l_nil ?_
  refine c_seq ?_
  refine c_seq ?_
  refine c_region ?_
  refine l_val rfl rfl rfl (r_move (v := .bool _) rfl) ?_
  refine split (fun h1 => ?_) (fun h1 => ?_)
  · refine l_nil ?_
    refine c_true rfl ?_
    refine c_seq ?_
    refine c_region ?_
    refine l_val rfl rfl rfl (r_assign (v := .int _ _) rfl) ?_
    refine l_nil ?_
    refine c_ret ?_
    refine ret1 (v := .int _ _) rfl rfl (fin ?_)
    simp_all
  · refine l_nil ?_
    refine c_false rfl ?_
    refine c_skip ?_
    refine c_seq ?_
    refine c_region ?_
    refine l_val rfl rfl rfl (r_move (v := .int _ _) rfl) ?_
    refine l_val rfl rfl rfl (r_assign (v := .int _ _) rfl) ?_
    refine l_nil ?_
    refine c_ret ?_
    refine ret1 (v := .int _ _) rfl rfl (fin ?_)
    simp_all

theorem f17 (n : Int) : Ret Try.prog 17 [.int .i64 n] (.int .i64 (metresS n)) := by
  refine enterRet (n := 10) Try.func17 rfl rfl rfl (fun wd => ?_)
  refine c_seq ?_
  refine c_region ?_
  refine l_val rfl rfl rfl (r_assign (v := .int _ _) rfl) ?_
  refine l_nil ?_
  refine c_seq ?_
  refine c_region ?_
  refine l_val rfl rfl rfl (r_move (v := .int _ _) rfl) ?_
  refine l_val rfl rfl rfl (r_geq rfl rfl) ?_
  refine splitD (fun h1 => ?_) (fun h1 => ?_)
  · refine l_val rfl rfl rfl (r_move (v := .bool _) rfl) ?_
    refine l_val rfl rfl rfl (r_move (v := .int _ _) rfl) ?_
    refine l_val rfl rfl rfl (r_leq rfl rfl) ?_
    refine l_val rfl rfl rfl (r_pickT (v := .bool _) rfl rfl) ?_
    refine l_call (f25 _ _) Try.call25 rfl rfl rfl ?_
    refine l_val rfl rfl rfl (r_assign (v := .int _ _) rfl) ?_
    refine l_nil ?_
    refine c_ret ?_
    refine ret1 (v := .int _ _) rfl rfl (fin ?_)
    refine vI ?_
    simp_all [metresS]
    try omega
  · refine l_val rfl rfl rfl (r_move (v := .bool _) rfl) ?_
    refine l_passed rfl rfl rfl ?_
    refine l_passed rfl rfl rfl ?_
    refine l_val rfl rfl rfl (r_pickF (v := .bool _) rfl rfl) ?_
    refine l_call (f25 _ _) Try.call25 rfl rfl rfl ?_
    refine l_val rfl rfl rfl (r_assign (v := .int _ _) rfl) ?_
    refine l_nil ?_
    refine c_ret ?_
    refine ret1 (v := .int _ _) rfl rfl (fin ?_)
    refine vI ?_
    simp_all [metresS]
    try omega

theorem f15 (a : Option Addr) (c : Nat) (xs : List Int) (hn : xs.length ≤ 9223372036854775807) (w : World) (h : Row w a 1 (xs.map fun x => [Value.int .i64 x])) : Does Try.prog 15 (List.toArray [.slice a xs.length c]) w fun v w' => v = (.int .i64 (firstS xs)) ∧ Grow w w' := by
  refine enter (n := 15) Try.func15 rfl rfl rfl (fun _ => False) [] (Sat.nil _ _) ?_
  refine c_seq ?_
  refine c_region ?_
  refine l_val rfl rfl rfl (r_assign (v := .int _ _) rfl) ?_
  refine l_nil ?_
  refine c_seq ?_
  refine c_seq ?_
  refine c_region ?_
  refine l_val rfl rfl rfl (r_move (v := .slice _ _ _) rfl) ?_
  refine l_val rfl rfl rfl (r_len Try.underlying106 rfl) ?_
  refine l_val rfl rfl rfl (r_move (v := .int _ _) rfl) ?_
  refine l_nil ?_
  refine c_block ?_
  refine c_loopK (σ := Nat) [2, 4, 7, 8, 9, 10, 11, 12, 13, 14] (fun k : Nat => [(7, .int .i64 (k : Int))]) (fun _ => []) (fun k => k ≤ xs.length ∧ firstS (xs.drop k) = firstS xs) (fun k => xs.length - k) (0) ⟨Nat.zero_le _, rfl⟩ (by exact ⟨rfl, trivial⟩) rfl (fun k gg hI => ?_)
  obtain ⟨hk, hd⟩ := hI
  refine c_seq ?_
  refine c_region ?_
  refine l_val rfl rfl rfl (r_lss rfl rfl) ?_
  refine splitD (fun h1 => ?_) (fun h1 => ?_)
  · refine l_nil ?_
    refine c_seq ?_
    refine c_true rfl ?_
    refine c_skip ?_
    refine c_seq ?_
    refine c_block ?_
    refine c_seq ?_
    refine c_region ?_
    have hlt : k < xs.length := by omega
    refine l_val rfl rfl rfl (r_index Try.underlying106 Try.sizeOf26 rfl rfl (Row.at h hlt) (by omega) (by omega)) ?_
    refine l_read (fun w hF hS => run_loadP1 (i := k) (j := 0) (v := .int _ _) Try.isAgg26 rfl (by omega) (Row.arg h hF) (el_map hlt) rfl) rfl rfl rfl ?_
    refine l_val rfl rfl rfl (r_assign (v := .int _ _) rfl) ?_
    refine l_nil ?_
    refine c_seq ?_
    refine c_region ?_
    refine l_val rfl rfl rfl (r_move (v := .int _ _) rfl) ?_
    refine l_val rfl rfl rfl (r_neq rfl rfl) ?_
    refine splitD (fun h2 => ?_) (fun h2 => ?_)
    · refine l_nil ?_
      refine c_true rfl ?_
      refine c_seq ?_
      refine c_region ?_
      refine l_val rfl rfl rfl (r_move (v := .int _ _) rfl) ?_
      refine l_val rfl rfl rfl (r_assign (v := .int _ _) rfl) ?_
      refine l_nil ?_
      refine c_ret ?_
      refine ret1 (v := .int _ _) rfl rfl (fin ?_)
      refine vI ?_
      rw [← hd]
      rw [first_drop xs k (by omega), if_neg (by omega)]
    · refine l_nil ?_
      refine c_false rfl ?_
      refine c_skip ?_
      refine c_region ?_
      refine l_val rfl rfl rfl (r_add rfl rfl (by omega)) ?_
      refine l_val rfl rfl rfl (r_move (v := .int _ _) rfl) ?_
      refine l_nil ?_
      refine c_roundK (k + 1) [] (by exact ⟨rfl, trivial⟩) (by repeat (first | exact Keeps.refl _ _ | exact Keeps.mix | refine Keeps.upd ?_ rfl | refine Keeps.mkE ?_ _ rfl | refine Keeps.mix2 ?_ rfl)) (by decide) rfl ⟨by omega, by rw [first_drop xs k (by omega), if_pos (by omega)] at hd; exact hd⟩ (by omega)
  · refine l_nil ?_
    refine c_seq ?_
    refine c_false rfl ?_
    refine c_exit ?_
    refine c_seq ?_
    refine c_region ?_
    refine l_val rfl rfl rfl (r_assign (v := .int _ _) rfl) ?_
    refine l_nil ?_
    refine c_ret ?_
    refine ret1 (v := .int _ _) rfl rfl (fin ?_)
    refine vI ?_
    rw [← hd]
    rw [List.drop_of_length_le (by omega)]; rfl

theorem f18 (la lo m : Int) (h1 : placeS la lo = 0) (hm : 0 ≤ m ∧ m ≤ 30000000) : Ret Try.prog 18 [.agg #[.int .i64 la, .int .i64 lo], .int .i64 m] (.agg #[.int .i64 (aroundS la lo m).1, .int .i64 (aroundS la lo m).2.1, .int .i64 (aroundS la lo m).2.2.1, .int .i64 (aroundS la lo m).2.2.2]) := by
  have hp := place_ok h1
  clear h1
  have hr := reach_bd hm
  unfold reachS at hr
  refine enterRet (n := 63) Try.func18 rfl rfl rfl (fun wd => ?_)
  refine c_seq ?_
  refine c_region ?_
  refine l_box (cs := [_, _]) rfl rfl rfl rfl (fun b0 => ?_)
  refine l_alloc (cs := [_, _, _, _]) Try.zeroValue23 rfl rfl rfl (fun b1 => ?_)
  refine l_nil ?_
  refine c_seq ?_
  refine c_region ?_
  refine l_val rfl rfl rfl (r_move (v := .int _ _) rfl) ?_
  refine l_val rfl rfl rfl (r_add rfl rfl (by omega)) ?_
  refine l_val rfl rfl rfl (r_mul rfl rfl (by omega)) ?_
  refine l_val rfl rfl rfl (r_quo rfl rfl (by omega) (by omega)) ?_
  refine l_val rfl rfl rfl (r_add rfl rfl (by omega)) ?_
  refine l_val rfl rfl rfl (r_assign (v := .int _ _) rfl) ?_
  refine l_nil ?_
  refine c_seq ?_
  refine c_region ?_
  refine l_val rfl rfl rfl (r_field Try.runUnderlying25 rfl Try.sizeOf3 rfl rfl) ?_
  refine l_load1 (i := 0) (v := .int _ _) Try.isAgg3 rfl rfl rfl rfl rfl ?_
  refine l_val rfl rfl rfl (r_move (v := .int _ _) rfl) ?_
  refine l_val rfl rfl rfl (r_sub rfl rfl (by omega)) ?_
  refine l_val rfl rfl rfl (r_max rfl rfl) ?_
  refine l_val rfl rfl rfl (r_field Try.runUnderlying25 rfl Try.sizeOf3 rfl rfl) ?_
  refine l_load1 (i := 0) (v := .int _ _) Try.isAgg3 rfl rfl rfl rfl rfl ?_
  refine l_val rfl rfl rfl (r_move (v := .int _ _) rfl) ?_
  refine l_val rfl rfl rfl (r_add rfl rfl (by omega)) ?_
  refine l_val rfl rfl rfl (r_min rfl rfl) ?_
  refine l_val rfl rfl rfl (r_build (pl := #[(0, 1), (1, 1), (2, 1), (3, 1)]) (ps := [(0, .int _ _), (2, .int _ _)]) (cells := #[_, _, _, _]) Try.zeroValue23 Try.runUnderlying23 (fun w => by kernel_rfl) rfl rfl) ?_
  refine l_alloc (cs := [_, _, _, _]) Try.zeroValue23 rfl rfl rfl (fun b2 => ?_)
  refine l_store (i := 2) (vs := [_, _, _, _]) (cs' := [_, _, _, _]) Try.sizeOf23 rfl rfl rfl rfl rfl rfl rfl rfl rfl ?_
  refine l_nil ?_
  refine c_seq ?_
  exact c_regionD (Kd.p :: Kd.d [2] _ :: Kd.d [] _ :: Kd.p :: Kd.d [2] _ :: Kd.d [] _ :: Kd.p :: Kd.p :: []) 0 mixed (by
    refine d_val rfl rfl (r_field Try.runUnderlying23 rfl Try.sizeOf3 rfl rfl) ?_
    refine d_load1 (i := 2) (v := .int _ _) Try.isAgg3 rfl rfl rfl rfl ?_
    refine d_call (f66 _ (by first | omega | assumption)) Try.call66 rfl rfl ?_
    refine d_val rfl rfl (r_field Try.runUnderlying23 rfl Try.sizeOf3 rfl rfl) ?_
    refine d_load1 (i := 2) (v := .int _ _) Try.isAgg3 rfl rfl rfl rfl ?_
    refine d_call (f66 _ (by first | omega | assumption)) Try.call66 rfl rfl ?_
    refine d_val rfl rfl (r_min rfl rfl) ?_
    refine d_val rfl rfl (r_assign (v := .int _ _) rfl) ?_
    refine d_nil ?_
    refine c_seq ?_
    refine c_seq ?_
    refine c_region ?_
    have hc1 := cosS_bd (x := max (la - (((m + 1) * 1000000).tdiv 111195 + 1)) (-90000000)) (by omega)
    have hc2 := cosS_bd (x := min (la + (((m + 1) * 1000000).tdiv 111195 + 1)) 90000000) (by omega)
    have hx := x_bd (c := min (cosS (max (la - (((m + 1) * 1000000).tdiv 111195 + 1)) (-90000000))) (cosS (min (la + (((m + 1) * 1000000).tdiv 111195 + 1)) 90000000))) hr (by omega)
    refine l_val rfl rfl rfl (r_move (v := .int _ _) rfl) ?_
    refine l_val rfl rfl rfl (r_eql rfl rfl) ?_
    refine splitD (fun h1 => ?_) (fun h1 => ?_)
    · refine l_val rfl rfl rfl (r_move (v := .bool _) rfl) ?_
      refine l_passed rfl rfl rfl ?_
      refine l_passed rfl rfl rfl ?_
      refine l_passed rfl rfl rfl ?_
      refine l_passed rfl rfl rfl ?_
      refine l_passed rfl rfl rfl ?_
      refine l_passed rfl rfl rfl ?_
      refine l_val rfl rfl rfl (r_pickT (v := .bool _) rfl rfl) ?_
      refine l_nil ?_
      refine c_true rfl ?_
      refine c_seq ?_
      refine c_region ?_
      refine l_val rfl rfl rfl (r_field Try.runUnderlying23 rfl Try.sizeOf3 rfl rfl) ?_
      refine l_store (i := 2) (vs := [_]) (cs' := [_, _, _, _]) Try.sizeOf3 rfl rfl rfl rfl rfl rfl rfl rfl rfl ?_
      refine l_val rfl rfl rfl (r_field Try.runUnderlying23 rfl Try.sizeOf3 rfl rfl) ?_
      refine l_store (i := 2) (vs := [_]) (cs' := [_, _, _, _]) Try.sizeOf3 rfl rfl rfl rfl rfl rfl rfl rfl rfl ?_
      refine l_nil ?_
      refine c_seq ?_
      refine c_region ?_
      refine l_loadN (i := 2) (vs := [_, _, _, _]) Try.isAgg23 Try.sizeOf23 rfl rfl rfl rfl rfl ?_
      refine l_store (i := 1) (vs := [_, _, _, _]) (cs' := [_, _, _, _]) Try.sizeOf23 rfl rfl rfl rfl rfl rfl rfl rfl rfl ?_
      refine l_nil ?_
      refine c_ret ?_
      refine retC (i := 1) (vs := [_, _, _, _]) Try.isAgg23 Try.sizeOf23 rfl rfl rfl rfl (fin ?_)
      first
        | exact box4 (around_full rfl rfl (.inl ‹_›))
        | exact box4 (around_full rfl rfl (.inr (by show ¬ _ < _; unfold reachS; omega)))
        | exact box4 (around_part rfl rfl ‹_› (by unfold reachS; omega))
    · refine l_val rfl rfl rfl (r_move (v := .bool _) rfl) ?_
      refine l_val rfl rfl rfl (r_move (v := .int _ _) rfl) ?_
      refine l_val rfl rfl rfl (r_mul rfl rfl (by omega)) ?_
      refine l_val rfl rfl rfl (r_move (v := .int _ _) rfl) ?_
      refine l_val rfl rfl rfl (r_quo rfl rfl (by omega) (by omega)) ?_
      refine l_val rfl rfl rfl (r_add rfl rfl (by omega)) ?_
      refine l_val rfl rfl rfl (r_geq rfl rfl) ?_
      refine splitD (fun h2 => ?_) (fun h2 => ?_)
      · refine l_val rfl rfl rfl (r_pickF (v := .bool _) rfl rfl) ?_
        refine l_nil ?_
        refine c_true rfl ?_
        refine c_seq ?_
        refine c_region ?_
        refine l_val rfl rfl rfl (r_field Try.runUnderlying23 rfl Try.sizeOf3 rfl rfl) ?_
        refine l_store (i := 2) (vs := [_]) (cs' := [_, _, _, _]) Try.sizeOf3 rfl rfl rfl rfl rfl rfl rfl rfl rfl ?_
        refine l_val rfl rfl rfl (r_field Try.runUnderlying23 rfl Try.sizeOf3 rfl rfl) ?_
        refine l_store (i := 2) (vs := [_]) (cs' := [_, _, _, _]) Try.sizeOf3 rfl rfl rfl rfl rfl rfl rfl rfl rfl ?_
        refine l_nil ?_
        refine c_seq ?_
        refine c_region ?_
        refine l_loadN (i := 2) (vs := [_, _, _, _]) Try.isAgg23 Try.sizeOf23 rfl rfl rfl rfl rfl ?_
        refine l_store (i := 1) (vs := [_, _, _, _]) (cs' := [_, _, _, _]) Try.sizeOf23 rfl rfl rfl rfl rfl rfl rfl rfl rfl ?_
        refine l_nil ?_
        refine c_ret ?_
        refine retC (i := 1) (vs := [_, _, _, _]) Try.isAgg23 Try.sizeOf23 rfl rfl rfl rfl (fin ?_)
        first
          | exact box4 (around_full rfl rfl (.inl ‹_›))
          | exact box4 (around_full rfl rfl (.inr (by show ¬ _ < _; unfold reachS; omega)))
          | exact box4 (around_part rfl rfl ‹_› (by unfold reachS; omega))
      · refine l_val rfl rfl rfl (r_pickF (v := .bool _) rfl rfl) ?_
        refine l_nil ?_
        refine c_false rfl ?_
        refine c_skip ?_
        refine c_seq ?_
        refine c_region ?_
        refine l_val rfl rfl rfl (r_move (v := .int _ _) rfl) ?_
        refine l_val rfl rfl rfl (r_mul rfl rfl (by omega)) ?_
        refine l_val rfl rfl rfl (r_move (v := .int _ _) rfl) ?_
        refine l_val rfl rfl rfl (r_quo rfl rfl (by omega) (by omega)) ?_
        refine l_val rfl rfl rfl (r_add rfl rfl (by omega)) ?_
        refine l_val rfl rfl rfl (r_assign (v := .int _ _) rfl) ?_
        refine l_nil ?_
        refine c_seq ?_
        exact c_regionD (Kd.p :: Kd.d [0] _ :: Kd.p :: Kd.p :: Kd.d [] _ :: Kd.p :: Kd.d [0] _ :: Kd.p :: Kd.p :: Kd.d [] _ :: Kd.p :: Kd.st 60 2 [_, _, _, _] 23 :: Kd.p :: Kd.st 61 2 [_, _, _, _] 23 :: []) 0 mixed (by
          refine d_val rfl rfl (r_field Try.runUnderlying25 rfl Try.sizeOf3 rfl rfl) ?_
          refine d_load1 (i := 0) (v := .int _ _) Try.isAgg3 rfl rfl rfl rfl ?_
          refine d_val rfl rfl (r_move (v := .int _ _) rfl) ?_
          refine d_val rfl rfl (r_sub rfl rfl (by omega)) ?_
          refine d_call (f67 _ (by first | omega | assumption)) Try.call67 rfl rfl ?_
          refine d_val rfl rfl (r_field Try.runUnderlying25 rfl Try.sizeOf3 rfl rfl) ?_
          refine d_load1 (i := 0) (v := .int _ _) Try.isAgg3 rfl rfl rfl rfl ?_
          refine d_val rfl rfl (r_move (v := .int _ _) rfl) ?_
          refine d_val rfl rfl (r_add rfl rfl (by omega)) ?_
          refine d_call (f67 _ (by first | omega | assumption)) Try.call67 rfl rfl ?_
          refine d_val rfl rfl (r_field Try.runUnderlying23 rfl Try.sizeOf3 rfl rfl) ?_
          refine d_store (i := 2) (vs := [_]) Try.sizeOf3 rfl rfl rfl rfl rfl rfl rfl rfl rfl ?_
          refine d_val rfl rfl (r_field Try.runUnderlying23 rfl Try.sizeOf3 rfl rfl) ?_
          refine d_store (i := 2) (vs := [_]) Try.sizeOf3 rfl rfl rfl rfl rfl rfl rfl rfl rfl ?_
          refine d_nil ?_
          refine c_seq ?_
          refine c_region ?_
          refine l_loadN (i := 2) (vs := [_, _, _, _]) Try.isAgg23 Try.sizeOf23 rfl rfl rfl rfl rfl ?_
          refine l_store (i := 1) (vs := [_, _, _, _]) (cs' := [_, _, _, _]) Try.sizeOf23 rfl rfl rfl rfl rfl rfl rfl rfl rfl ?_
          refine l_nil ?_
          refine c_ret ?_
          refine retC (i := 1) (vs := [_, _, _, _]) Try.isAgg23 Try.sizeOf23 rfl rfl rfl rfl (fin ?_)
          first
            | exact box4 (around_full rfl rfl (.inl ‹_›))
            | exact box4 (around_full rfl rfl (.inr (by show ¬ _ < _; unfold reachS; omega)))
            | exact box4 (around_part rfl rfl ‹_› (by unfold reachS; omega))
          ) (by kernel_rfl)
    ) (by kernel_rfl)

theorem f14 (la lo m : Int) : Ret Try.prog 14 [.agg #[.int .i64 la, .int .i64 lo], .int .i64 m] (.tuple #[.agg #[.int .i64 (aroundT la lo m).1, .int .i64 (aroundT la lo m).2.1, .int .i64 (aroundT la lo m).2.2.1, .int .i64 (aroundT la lo m).2.2.2], .int .i64 (firstS [placeS la lo, metresS m])]) := by
  refine enterRet (n := 66) Try.func14 rfl rfl rfl (fun wd => ?_)
  refine c_seq ?_
  refine c_region ?_
  refine l_box (cs := [_, _]) rfl rfl rfl rfl (fun b0 => ?_)
  refine l_alloc (cs := [_, _, _, _]) Try.zeroValue23 rfl rfl rfl (fun b1 => ?_)
  refine l_val rfl rfl rfl (r_assign (v := .int _ _) rfl) ?_
  refine l_nil ?_
  refine c_seq ?_
  refine c_seq ?_
  refine c_region ?_
  refine l_loadN (i := 0) (vs := [_, _]) Try.isAgg25 Try.sizeOf25 rfl rfl rfl rfl rfl ?_
  refine l_call (f60 _ _) Try.call60 rfl rfl rfl ?_
  refine l_val rfl rfl rfl (r_assign (v := .int _ _) rfl) ?_
  refine l_nil ?_
  refine c_seq ?_
  refine c_region ?_
  refine l_val rfl rfl rfl (r_move (v := .int _ _) rfl) ?_
  refine l_val rfl rfl rfl (r_neq rfl rfl) ?_
  refine splitD (fun h1 => ?_) (fun h1 => ?_)
  · refine l_nil ?_
    refine c_true rfl ?_
    refine c_seq ?_
    refine c_region ?_
    refine l_val rfl rfl rfl (r_build (pl := #[(0, 1), (1, 1), (2, 1), (3, 1)]) (ps := []) (cells := #[_, _, _, _]) Try.zeroValue23 Try.runUnderlying23 (fun w => by kernel_rfl) rfl rfl) ?_
    refine l_val rfl rfl rfl (r_move (v := .int _ _) rfl) ?_
    refine l_store (i := 1) (vs := [_, _, _, _]) (cs' := [_, _, _, _]) Try.sizeOf23 rfl rfl rfl rfl rfl rfl rfl rfl rfl ?_
    refine l_val rfl rfl rfl (r_assign (v := .int _ _) rfl) ?_
    refine l_nil ?_
    refine c_ret ?_
    refine retCt (i := 1) (vs := [_, _, _, _]) (v2 := .int _ _) Try.isAgg23 Try.sizeOf23 rfl rfl rfl rfl rfl (fin ?_)
    refine box4t (q := aroundT la lo m) ?_ ?_
    · unfold aroundT; rw [if_neg (by omega)]
    · simp only [firstS]; rw [if_neg (by omega)]
  · refine l_nil ?_
    refine c_false rfl ?_
    refine c_skip ?_
    refine c_seq ?_
    refine c_seq ?_
    refine c_region ?_
    refine l_val rfl rfl rfl (r_move (v := .int _ _) rfl) ?_
    refine l_call (f61 _ _ _) Try.call61 rfl rfl rfl ?_
    refine split (fun h2 => ?_) (fun h2 => ?_)
    · refine l_nil ?_
      refine c_true rfl ?_
      refine c_seq ?_
      refine c_region ?_
      have hmf := outside_m (m := m) ‹_›
      refine l_val rfl rfl rfl (r_build (pl := #[(0, 1), (1, 1), (2, 1), (3, 1)]) (ps := []) (cells := #[_, _, _, _]) Try.zeroValue23 Try.runUnderlying23 (fun w => by kernel_rfl) rfl rfl) ?_
      refine l_store (i := 1) (vs := [_, _, _, _]) (cs' := [_, _, _, _]) Try.sizeOf23 rfl rfl rfl rfl rfl rfl rfl rfl rfl ?_
      refine l_val rfl rfl rfl (r_assign (v := .int _ _) rfl) ?_
      refine l_nil ?_
      refine c_ret ?_
      refine retCt (i := 1) (vs := [_, _, _, _]) (v2 := .int _ _) Try.isAgg23 Try.sizeOf23 rfl rfl rfl rfl rfl (fin ?_)
      refine box4t (q := aroundT la lo m) ?_ ?_
      · unfold aroundT; rw [if_neg (by omega)]
      · simp only [firstS]; rw [if_pos (by omega), if_neg (by omega)]; exact (metres_no (by omega)).symm
    · refine l_nil ?_
      refine c_false rfl ?_
      refine c_skip ?_
      refine c_seq ?_
      refine c_region ?_
      have hmf := inside_m (m := m) ‹_›
      have hm := metres_ok hmf
      have hp := place_ok (by omega : placeS la lo = 0)
      have hr := reach_bd hm
      unfold reachS at hr
      refine l_val rfl rfl rfl (r_move (v := .int _ _) rfl) ?_
      refine l_val rfl rfl rfl (r_add rfl rfl (by omega)) ?_
      refine l_val rfl rfl rfl (r_mul rfl rfl (by omega)) ?_
      refine l_val rfl rfl rfl (r_quo rfl rfl (by omega) (by omega)) ?_
      refine l_val rfl rfl rfl (r_add rfl rfl (by omega)) ?_
      refine l_val rfl rfl rfl (r_assign (v := .int _ _) rfl) ?_
      refine l_nil ?_
      refine c_seq ?_
      refine c_region ?_
      refine l_val rfl rfl rfl (r_field Try.runUnderlying25 rfl Try.sizeOf3 rfl rfl) ?_
      refine l_load1 (i := 0) (v := .int _ _) Try.isAgg3 rfl rfl rfl rfl rfl ?_
      refine l_val rfl rfl rfl (r_move (v := .int _ _) rfl) ?_
      refine l_val rfl rfl rfl (r_sub rfl rfl (by omega)) ?_
      refine l_val rfl rfl rfl (r_max rfl rfl) ?_
      refine l_val rfl rfl rfl (r_field Try.runUnderlying25 rfl Try.sizeOf3 rfl rfl) ?_
      refine l_load1 (i := 0) (v := .int _ _) Try.isAgg3 rfl rfl rfl rfl rfl ?_
      refine l_val rfl rfl rfl (r_move (v := .int _ _) rfl) ?_
      refine l_val rfl rfl rfl (r_add rfl rfl (by omega)) ?_
      refine l_val rfl rfl rfl (r_min rfl rfl) ?_
      refine l_val rfl rfl rfl (r_build (pl := #[(0, 1), (1, 1), (2, 1), (3, 1)]) (ps := [(0, .int _ _), (2, .int _ _), (1, .int _ _), (3, .int _ _)]) (cells := #[_, _, _, _]) Try.zeroValue23 Try.runUnderlying23 (fun w => by kernel_rfl) rfl rfl) ?_
      refine l_alloc (cs := [_, _, _, _]) Try.zeroValue23 rfl rfl rfl (fun b2 => ?_)
      refine l_store (i := 2) (vs := [_, _, _, _]) (cs' := [_, _, _, _]) Try.sizeOf23 rfl rfl rfl rfl rfl rfl rfl rfl rfl ?_
      refine l_nil ?_
      refine c_seq ?_
      exact c_regionD (Kd.p :: Kd.d [2] _ :: Kd.d [] _ :: Kd.p :: Kd.d [2] _ :: Kd.d [] _ :: Kd.p :: Kd.p :: []) 0 mixed (by
        refine d_val rfl rfl (r_field Try.runUnderlying23 rfl Try.sizeOf3 rfl rfl) ?_
        refine d_load1 (i := 2) (v := .int _ _) Try.isAgg3 rfl rfl rfl rfl ?_
        refine d_call (f64 _ (by first | omega | assumption)) Try.call64 rfl rfl ?_
        refine d_val rfl rfl (r_field Try.runUnderlying23 rfl Try.sizeOf3 rfl rfl) ?_
        refine d_load1 (i := 2) (v := .int _ _) Try.isAgg3 rfl rfl rfl rfl ?_
        refine d_call (f64 _ (by first | omega | assumption)) Try.call64 rfl rfl ?_
        refine d_val rfl rfl (r_min rfl rfl) ?_
        refine d_val rfl rfl (r_assign (v := .int _ _) rfl) ?_
        refine d_nil ?_
        refine c_seq ?_
        refine c_seq ?_
        refine c_region ?_
        have hc1 := cosS_bd (x := max (la - (((m + 1) * 1000000).tdiv 111195 + 1)) (-90000000)) (by omega)
        have hc2 := cosS_bd (x := min (la + (((m + 1) * 1000000).tdiv 111195 + 1)) 90000000) (by omega)
        have hx := x_bd (c := min (cosS (max (la - (((m + 1) * 1000000).tdiv 111195 + 1)) (-90000000))) (cosS (min (la + (((m + 1) * 1000000).tdiv 111195 + 1)) 90000000))) hr (by omega)
        refine l_val rfl rfl rfl (r_move (v := .int _ _) rfl) ?_
        refine l_val rfl rfl rfl (r_eql rfl rfl) ?_
        refine splitD (fun h3 => ?_) (fun h3 => ?_)
        · refine l_nil ?_
          refine c_true rfl ?_
          refine c_seq ?_
          refine c_region ?_
          refine l_loadN (i := 2) (vs := [_, _, _, _]) Try.isAgg23 Try.sizeOf23 rfl rfl rfl rfl rfl ?_
          refine l_store (i := 1) (vs := [_, _, _, _]) (cs' := [_, _, _, _]) Try.sizeOf23 rfl rfl rfl rfl rfl rfl rfl rfl rfl ?_
          refine l_val rfl rfl rfl (r_assign (v := .int _ _) rfl) ?_
          refine l_nil ?_
          refine c_ret ?_
          refine retCt (i := 1) (vs := [_, _, _, _]) (v2 := .int _ _) Try.isAgg23 Try.sizeOf23 rfl rfl rfl rfl rfl (fin ?_)
          refine box4t (q := aroundT la lo m) ?_ ?_
          · unfold aroundT; rw [if_pos (by omega)]
            first
              | exact around_full rfl rfl (.inl ‹_›)
              | exact around_full rfl rfl (.inr (by show ¬ _ < _; unfold reachS; omega))
              | exact around_part rfl rfl ‹_› (by unfold reachS; omega)
          · simp only [firstS]; rw [if_pos (by omega), if_pos (by omega)]
        · refine l_nil ?_
          refine c_false rfl ?_
          refine c_skip ?_
          refine c_seq ?_
          refine c_seq ?_
          refine c_region ?_
          refine l_val rfl rfl rfl (r_move (v := .int _ _) rfl) ?_
          refine l_val rfl rfl rfl (r_mul rfl rfl (by omega)) ?_
          refine l_val rfl rfl rfl (r_move (v := .int _ _) rfl) ?_
          refine l_val rfl rfl rfl (r_quo rfl rfl (by omega) (by omega)) ?_
          refine l_val rfl rfl rfl (r_add rfl rfl (by omega)) ?_
          refine l_val rfl rfl rfl (r_assign (v := .int _ _) rfl) ?_
          refine l_nil ?_
          refine c_seq ?_
          refine c_region ?_
          refine l_val rfl rfl rfl (r_move (v := .int _ _) rfl) ?_
          refine l_val rfl rfl rfl (r_lss rfl rfl) ?_
          refine splitD (fun h4 => ?_) (fun h4 => ?_)
          · refine l_nil ?_
            refine c_true rfl ?_
            exact c_regionD (Kd.p :: Kd.d [0] _ :: Kd.p :: Kd.p :: Kd.d [] _ :: Kd.p :: Kd.d [0] _ :: Kd.p :: Kd.p :: Kd.d [] _ :: Kd.p :: Kd.st 63 2 [_, _, _, _] 23 :: Kd.p :: Kd.st 64 2 [_, _, _, _] 23 :: []) 0 mixed (by
              refine d_val rfl rfl (r_field Try.runUnderlying25 rfl Try.sizeOf3 rfl rfl) ?_
              refine d_load1 (i := 0) (v := .int _ _) Try.isAgg3 rfl rfl rfl rfl ?_
              refine d_val rfl rfl (r_move (v := .int _ _) rfl) ?_
              refine d_val rfl rfl (r_sub rfl rfl (by omega)) ?_
              refine d_call (f65 _ (by first | omega | assumption)) Try.call65 rfl rfl ?_
              refine d_val rfl rfl (r_field Try.runUnderlying25 rfl Try.sizeOf3 rfl rfl) ?_
              refine d_load1 (i := 0) (v := .int _ _) Try.isAgg3 rfl rfl rfl rfl ?_
              refine d_val rfl rfl (r_move (v := .int _ _) rfl) ?_
              refine d_val rfl rfl (r_add rfl rfl (by omega)) ?_
              refine d_call (f65 _ (by first | omega | assumption)) Try.call65 rfl rfl ?_
              refine d_val rfl rfl (r_field Try.runUnderlying23 rfl Try.sizeOf3 rfl rfl) ?_
              refine d_store (i := 2) (vs := [_]) Try.sizeOf3 rfl rfl rfl rfl rfl rfl rfl rfl rfl ?_
              refine d_val rfl rfl (r_field Try.runUnderlying23 rfl Try.sizeOf3 rfl rfl) ?_
              refine d_store (i := 2) (vs := [_]) Try.sizeOf3 rfl rfl rfl rfl rfl rfl rfl rfl rfl ?_
              refine d_nil ?_
              refine c_seq ?_
              refine c_region ?_
              refine l_loadN (i := 2) (vs := [_, _, _, _]) Try.isAgg23 Try.sizeOf23 rfl rfl rfl rfl rfl ?_
              refine l_store (i := 1) (vs := [_, _, _, _]) (cs' := [_, _, _, _]) Try.sizeOf23 rfl rfl rfl rfl rfl rfl rfl rfl rfl ?_
              refine l_val rfl rfl rfl (r_assign (v := .int _ _) rfl) ?_
              refine l_nil ?_
              refine c_ret ?_
              refine retCt (i := 1) (vs := [_, _, _, _]) (v2 := .int _ _) Try.isAgg23 Try.sizeOf23 rfl rfl rfl rfl rfl (fin ?_)
              refine box4t (q := aroundT la lo m) ?_ ?_
              · unfold aroundT; rw [if_pos (by omega)]
                first
                  | exact around_full rfl rfl (.inl ‹_›)
                  | exact around_full rfl rfl (.inr (by show ¬ _ < _; unfold reachS; omega))
                  | exact around_part rfl rfl ‹_› (by unfold reachS; omega)
              · simp only [firstS]; rw [if_pos (by omega), if_pos (by omega)]
              ) (by kernel_rfl)
          · refine l_nil ?_
            refine c_false rfl ?_
            refine c_skip ?_
            refine c_seq ?_
            refine c_region ?_
            refine l_loadN (i := 2) (vs := [_, _, _, _]) Try.isAgg23 Try.sizeOf23 rfl rfl rfl rfl rfl ?_
            refine l_store (i := 1) (vs := [_, _, _, _]) (cs' := [_, _, _, _]) Try.sizeOf23 rfl rfl rfl rfl rfl rfl rfl rfl rfl ?_
            refine l_val rfl rfl rfl (r_assign (v := .int _ _) rfl) ?_
            refine l_nil ?_
            refine c_ret ?_
            refine retCt (i := 1) (vs := [_, _, _, _]) (v2 := .int _ _) Try.isAgg23 Try.sizeOf23 rfl rfl rfl rfl rfl (fin ?_)
            refine box4t (q := aroundT la lo m) ?_ ?_
            · unfold aroundT; rw [if_pos (by omega)]
              first
                | exact around_full rfl rfl (.inl ‹_›)
                | exact around_full rfl rfl (.inr (by show ¬ _ < _; unfold reachS; omega))
                | exact around_part rfl rfl ‹_› (by unfold reachS; omega)
            · simp only [firstS]; rw [if_pos (by omega), if_pos (by omega)]
        ) (by kernel_rfl)

theorem f20 (v : Bool) (e : Int) (want : Bool) (fault : Int) : Ret Try.prog 20 [.bool v, .int .i64 e, .bool want, .int .i64 fault] (.bool (decide (v = (if fault = 0 then want else false) ∧ e = fault))) := by
  refine enterRet (n := 21) Try.func20 rfl rfl rfl (fun wd => ?_)
  refine c_seq ?_
  refine c_region ?_
  refine l_val rfl rfl rfl (r_assign (v := .bool _) rfl) ?_
  refine l_nil ?_
  refine c_seq ?_
  refine c_region ?_
  refine l_val rfl rfl rfl (r_assign (v := .bool _) rfl) ?_
  refine l_nil ?_
  refine c_seq ?_
  refine c_seq ?_
  refine c_region ?_
  refine l_val rfl rfl rfl (r_move (v := .int _ _) rfl) ?_
  refine l_val rfl rfl rfl (r_neq rfl rfl) ?_
  refine splitD (fun h1 => ?_) (fun h1 => ?_)
  · refine l_nil ?_
    refine c_true rfl ?_
    refine c_region ?_
    refine l_val rfl rfl rfl (r_move (v := .bool _) rfl) ?_
    refine l_val rfl rfl rfl (r_assign (v := .bool _) rfl) ?_
    refine l_nil ?_
    refine c_seq ?_
    refine c_region ?_
    refine l_val rfl rfl rfl (r_move (v := .bool _) rfl) ?_
    refine l_val rfl rfl rfl (r_move (v := .bool _) rfl) ?_
    refine l_val rfl rfl rfl (r_eqlB Try.underlying4 rfl rfl) ?_
    refine splitD (fun h2 => ?_) (fun h2 => ?_)
    · refine l_val rfl rfl rfl (r_move (v := .bool _) rfl) ?_
      refine l_val rfl rfl rfl (r_move (v := .int _ _) rfl) ?_
      refine l_val rfl rfl rfl (r_move (v := .int _ _) rfl) ?_
      refine l_val rfl rfl rfl (r_eql rfl rfl) ?_
      refine l_val rfl rfl rfl (r_pickT (v := .bool _) rfl rfl) ?_
      refine l_val rfl rfl rfl (r_assign (v := .bool _) rfl) ?_
      refine l_nil ?_
      refine c_ret ?_
      refine ret1 (v := .bool _) rfl rfl (fin ?_)
      simp_all
    · refine l_val rfl rfl rfl (r_move (v := .bool _) rfl) ?_
      refine l_passed rfl rfl rfl ?_
      refine l_passed rfl rfl rfl ?_
      refine l_passed rfl rfl rfl ?_
      refine l_val rfl rfl rfl (r_pickF (v := .bool _) rfl rfl) ?_
      refine l_val rfl rfl rfl (r_assign (v := .bool _) rfl) ?_
      refine l_nil ?_
      refine c_ret ?_
      refine ret1 (v := .bool _) rfl rfl (fin ?_)
      simp_all
  · refine l_nil ?_
    refine c_false rfl ?_
    refine c_skip ?_
    refine c_seq ?_
    refine c_region ?_
    refine l_val rfl rfl rfl (r_move (v := .bool _) rfl) ?_
    refine l_val rfl rfl rfl (r_move (v := .bool _) rfl) ?_
    refine l_val rfl rfl rfl (r_eqlB Try.underlying4 rfl rfl) ?_
    refine splitD (fun h3 => ?_) (fun h3 => ?_)
    · refine l_val rfl rfl rfl (r_move (v := .bool _) rfl) ?_
      refine l_val rfl rfl rfl (r_move (v := .int _ _) rfl) ?_
      refine l_val rfl rfl rfl (r_move (v := .int _ _) rfl) ?_
      refine l_val rfl rfl rfl (r_eql rfl rfl) ?_
      refine l_val rfl rfl rfl (r_pickT (v := .bool _) rfl rfl) ?_
      refine l_val rfl rfl rfl (r_assign (v := .bool _) rfl) ?_
      refine l_nil ?_
      refine c_ret ?_
      refine ret1 (v := .bool _) rfl rfl (fin ?_)
      simp_all
    · refine l_val rfl rfl rfl (r_move (v := .bool _) rfl) ?_
      refine l_passed rfl rfl rfl ?_
      refine l_passed rfl rfl rfl ?_
      refine l_passed rfl rfl rfl ?_
      refine l_val rfl rfl rfl (r_pickF (v := .bool _) rfl rfl) ?_
      refine l_val rfl rfl rfl (r_assign (v := .bool _) rfl) ?_
      refine l_nil ?_
      refine c_ret ?_
      refine ret1 (v := .bool _) rfl rfl (fin ?_)
      simp_all

theorem f23 (a b c d e a2 b2 c2 d2 fault : Int) : Ret Try.prog 23 [.agg #[.int .i64 a, .int .i64 b, .int .i64 c, .int .i64 d], .int .i64 e, .agg #[.int .i64 a2, .int .i64 b2, .int .i64 c2, .int .i64 d2], .int .i64 fault] (.bool (decide (((a, b, c, d) : Int × Int × Int × Int) = (if fault = 0 then (a2, b2, c2, d2) else (0, 0, 0, 0)) ∧ e = fault))) := by
  refine enterRet (n := 21) Try.func23 rfl rfl rfl (fun wd => ?_)
  refine c_seq ?_
  refine c_region ?_
  refine l_box (cs := [_, _, _, _]) rfl rfl rfl rfl (fun b0 => ?_)
  refine l_box (cs := [_, _, _, _]) rfl rfl rfl rfl (fun b1 => ?_)
  refine l_val rfl rfl rfl (r_assign (v := .bool _) rfl) ?_
  refine l_nil ?_
  refine c_seq ?_
  refine c_region ?_
  refine l_alloc (cs := [_, _, _, _]) Try.zeroValue23 rfl rfl rfl (fun b2 => ?_)
  refine l_nil ?_
  refine c_seq ?_
  refine c_seq ?_
  refine c_region ?_
  refine l_val rfl rfl rfl (r_move (v := .int _ _) rfl) ?_
  refine l_val rfl rfl rfl (r_neq rfl rfl) ?_
  refine splitD (fun h1 => ?_) (fun h1 => ?_)
  · refine l_nil ?_
    refine c_true rfl ?_
    refine c_region ?_
    refine l_loadN (i := 2) (vs := [_, _, _, _]) Try.isAgg23 Try.sizeOf23 rfl rfl rfl rfl rfl ?_
    refine l_store (i := 1) (vs := [_, _, _, _]) (cs' := [_, _, _, _]) Try.sizeOf23 rfl rfl rfl rfl rfl rfl rfl rfl rfl ?_
    refine l_nil ?_
    refine c_seq ?_
    refine c_region ?_
    refine l_loadN (i := 0) (vs := [_, _, _, _]) Try.isAgg23 Try.sizeOf23 rfl rfl rfl rfl rfl ?_
    refine l_loadN (i := 1) (vs := [_, _, _, _]) Try.isAgg23 Try.sizeOf23 rfl rfl rfl rfl rfl ?_
    refine l_val rfl rfl rfl (r_eqlA (xs := #[_, _, _, _]) (ys := #[_, _, _, _]) Try.eqGuardType23 (fun w => eqv23 w _ _ _ _ _ _ _ _) rfl rfl) ?_
    refine splitD (fun h2 => ?_) (fun h2 => ?_)
    · refine l_val rfl rfl rfl (r_move (v := .bool _) rfl) ?_
      refine l_val rfl rfl rfl (r_move (v := .int _ _) rfl) ?_
      refine l_val rfl rfl rfl (r_move (v := .int _ _) rfl) ?_
      refine l_val rfl rfl rfl (r_eql rfl rfl) ?_
      refine l_val rfl rfl rfl (r_pickT (v := .bool _) rfl rfl) ?_
      refine l_val rfl rfl rfl (r_assign (v := .bool _) rfl) ?_
      refine l_nil ?_
      refine c_ret ?_
      refine ret1 (v := .bool _) rfl rfl (fin ?_)
      simp_all
    · refine l_val rfl rfl rfl (r_move (v := .bool _) rfl) ?_
      refine l_passed rfl rfl rfl ?_
      refine l_passed rfl rfl rfl ?_
      refine l_passed rfl rfl rfl ?_
      refine l_val rfl rfl rfl (r_pickF (v := .bool _) rfl rfl) ?_
      refine l_val rfl rfl rfl (r_assign (v := .bool _) rfl) ?_
      refine l_nil ?_
      refine c_ret ?_
      refine ret1 (v := .bool _) rfl rfl (fin ?_)
      simp_all
  · refine l_nil ?_
    refine c_false rfl ?_
    refine c_skip ?_
    refine c_seq ?_
    refine c_region ?_
    refine l_loadN (i := 0) (vs := [_, _, _, _]) Try.isAgg23 Try.sizeOf23 rfl rfl rfl rfl rfl ?_
    refine l_loadN (i := 1) (vs := [_, _, _, _]) Try.isAgg23 Try.sizeOf23 rfl rfl rfl rfl rfl ?_
    refine l_val rfl rfl rfl (r_eqlA (xs := #[_, _, _, _]) (ys := #[_, _, _, _]) Try.eqGuardType23 (fun w => eqv23 w _ _ _ _ _ _ _ _) rfl rfl) ?_
    refine splitD (fun h3 => ?_) (fun h3 => ?_)
    · refine l_val rfl rfl rfl (r_move (v := .bool _) rfl) ?_
      refine l_val rfl rfl rfl (r_move (v := .int _ _) rfl) ?_
      refine l_val rfl rfl rfl (r_move (v := .int _ _) rfl) ?_
      refine l_val rfl rfl rfl (r_eql rfl rfl) ?_
      refine l_val rfl rfl rfl (r_pickT (v := .bool _) rfl rfl) ?_
      refine l_val rfl rfl rfl (r_assign (v := .bool _) rfl) ?_
      refine l_nil ?_
      refine c_ret ?_
      refine ret1 (v := .bool _) rfl rfl (fin ?_)
      simp_all
    · refine l_val rfl rfl rfl (r_move (v := .bool _) rfl) ?_
      refine l_passed rfl rfl rfl ?_
      refine l_passed rfl rfl rfl ?_
      refine l_passed rfl rfl rfl ?_
      refine l_val rfl rfl rfl (r_pickF (v := .bool _) rfl rfl) ?_
      refine l_val rfl rfl rfl (r_assign (v := .bool _) rfl) ?_
      refine l_nil ?_
      refine c_ret ?_
      refine ret1 (v := .bool _) rfl rfl (fin ?_)
      simp_all

end Go.Proofs.Ytfgehlmdcllclaa
