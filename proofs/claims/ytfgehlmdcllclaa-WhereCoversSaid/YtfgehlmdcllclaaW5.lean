/- The reference on covers. Conditions: those that each contract names. -/
import Derived.Test.YtfgehlmdcllclaaW4
namespace Go.Proofs.Ytfgehlmdcllclaa
open Go Go.Vc Go.Vc.Where
set_option maxRecDepth 100000

theorem f26 (s1 w1 n1 e1 m : Int) (hm : 0 ≤ m ∧ m ≤ 24) (hb : boxS s1 w1 n1 e1 = 0) (w : World) : Does Try.prog 26 (List.toArray [.agg #[.int .i64 s1, .int .i64 w1, .int .i64 n1, .int .i64 e1], .int .i64 m]) w fun v w' => ∃ x : Option Addr × Nat, v = (.slice x.1 (coverW (s1, w1, n1, e1) m.toNat).length x.2) ∧ Turn w w' noS (rowV 9 1 (.slice x.1 (coverW (s1, w1, n1, e1) m.toNat).length x.2) (coverW (s1, w1, n1, e1) m.toNat).length ((coverW (s1, w1, n1, e1) m.toNat).map encS)) := by
  obtain ⟨n, rfl⟩ := Int.eq_ofNat_of_zero_le hm.1
  rw [show ((n : Int)).toNat = n from rfl]
  have hn : n ≤ 24 := by omega
  refine enter (n := 48) Try.func26 rfl rfl rfl noS [] (Sat.nil _ _) ?_
  refine c_seq ?_
  refine c_region ?_
  refine l_box (cs := [_, _, _, _]) rfl rfl rfl rfl (fun b0 => ?_)
  refine l_val rfl rfl rfl (r_assign (v := .slice _ _ _) rfl) ?_
  refine l_nil ?_
  refine c_seq ?_
  refine c_region ?_
  refine l_buildSlice (vs := [str _]) (cs := [_]) Try.underlying42 Try.sizeOf9 Try.zeroValue9 rfl rfl rfl rfl rfl rfl rfl (fun b1 => ?_)
  refine c_imp 1 rfl (imp_box (m := 1) (E := 9) (sz := 1) (xs := ([[]]).map encS) rfl rfl rfl (by decide)) ?_
  refine l_val rfl rfl rfl (r_assign (v := .slice _ _ _) rfl) ?_
  refine l_nil ?_
  refine c_seq ?_
  refine c_seq ?_
  refine c_region ?_
  refine l_val rfl rfl rfl (r_move (v := .int _ _) rfl) ?_
  refine l_val rfl rfl rfl (r_move (v := .int _ _) rfl) ?_
  refine l_nil ?_
  refine c_block ?_
  refine c_loopK (σ := Nat × (Option Addr × Nat)) [4, 5, 6, 8, 10, 13, 14, 15, 16, 17, 18, 19, 20, 21, 22, 23, 24, 25, 26, 27, 28, 29, 30, 31, 32, 33, 34, 35, 36, 37, 38, 39, 40, 41, 42, 43, 44, 45, 46] (fun ⟨i, q1⟩ => [(13, .int .i64 (i : Int)), (5, .slice q1.1 (level (s1, w1, n1, e1) i).length q1.2)]) (fun ⟨i, q1⟩ => [(1, rowV 9 1 (.slice q1.1 (level (s1, w1, n1, e1) i).length q1.2) (level (s1, w1, n1, e1) i).length ((level (s1, w1, n1, e1) i).map encS))]) (fun ⟨i, _⟩ => i ≤ n ∧ (level (s1, w1, n1, e1) i).length ≤ 4000 ∧ lvW (s1, w1, n1, e1) (n - i) (level (s1, w1, n1, e1) i) = coverW (s1, w1, n1, e1) n) (fun s => n - s.1) ((0, (some ⟨b1, 0, none⟩, 1))) ⟨Nat.zero_le _, by simp [level], rfl⟩ (by exact ⟨rfl, rfl, trivial⟩) rfl (fun ⟨i, q1⟩ gg hI => ?_)
  refine c_tidyS (l' := [(13, .int .i64 (i : Int)), (5, .slice q1.1 (level (s1, w1, n1, e1) i).length q1.2)]) (m' := [(1, rowV 9 1 (.slice q1.1 (level (s1, w1, n1, e1) i).length q1.2) (level (s1, w1, n1, e1) i).length ((level (s1, w1, n1, e1) i).map encS))]) rfl rfl ?_
  obtain ⟨hi1, hi2, hi3⟩ := hI
  refine c_seq ?_
  refine c_region ?_
  refine l_val rfl rfl rfl (r_lss rfl rfl) ?_
  refine splitD (fun h1 => ?_) (fun h1 => ?_)
  · refine l_nil ?_
    refine c_seq ?_
    refine c_true rfl ?_
    refine c_skip ?_
    refine c_seq ?_
    refine c_block ?_
    refine c_seq ?_
    refine c_region ?_
    refine l_val rfl rfl rfl (r_assign (v := .slice _ _ _) rfl) ?_
    refine l_nil ?_
    refine c_seq ?_
    refine c_seq ?_
    refine c_region ?_
    refine l_val rfl rfl rfl (r_move (v := .slice _ _ _) rfl) ?_
    refine l_val rfl rfl rfl (r_len Try.underlying42 rfl) ?_
    refine l_val rfl rfl rfl (r_move (v := .int _ _) rfl) ?_
    refine l_nil ?_
    refine c_block ?_
    refine c_nilRow 9 1 ?_
    refine c_loopK (σ := Nat × (Option Addr × Nat)) [4, 6, 8, 10, 17, 18, 19, 20, 21, 22, 23, 24, 25, 26, 27, 28, 29, 30, 31, 32, 33, 34, 35, 36, 37, 38, 39, 40, 41, 42, 43, 44] (fun ⟨j, q2⟩ => [(17, .int .i64 (j : Int)), (6, .slice q2.1 (((level (s1, w1, n1, e1) i).take j).flatMap (kids (s1, w1, n1, e1))).length q2.2)]) (fun ⟨j, q2⟩ => [(2, rowV 9 1 (.slice q2.1 (((level (s1, w1, n1, e1) i).take j).flatMap (kids (s1, w1, n1, e1))).length q2.2) (((level (s1, w1, n1, e1) i).take j).flatMap (kids (s1, w1, n1, e1))).length ((((level (s1, w1, n1, e1) i).take j).flatMap (kids (s1, w1, n1, e1))).map encS))]) (fun ⟨j, _⟩ => j ≤ (level (s1, w1, n1, e1) i).length ∧ (((level (s1, w1, n1, e1) i).take j).flatMap (kids (s1, w1, n1, e1))).length ≤ 4000 ∧ truncW (s1, w1, n1, e1) ((level (s1, w1, n1, e1) i).drop j) (((level (s1, w1, n1, e1) i).take j).flatMap (kids (s1, w1, n1, e1))) = truncW (s1, w1, n1, e1) (level (s1, w1, n1, e1) i) []) (fun s => (level (s1, w1, n1, e1) i).length - s.1) ((0, (none, 0))) ⟨Nat.zero_le _, by simp, by simp⟩ (by exact ⟨rfl, rfl, trivial⟩) rfl (fun ⟨j, q2⟩ gg hI2 => ?_)
    refine c_tidyS (l' := [(17, .int .i64 (j : Int)), (6, .slice q2.1 (((level (s1, w1, n1, e1) i).take j).flatMap (kids (s1, w1, n1, e1))).length q2.2)]) (m' := [(2, rowV 9 1 (.slice q2.1 (((level (s1, w1, n1, e1) i).take j).flatMap (kids (s1, w1, n1, e1))).length q2.2) (((level (s1, w1, n1, e1) i).take j).flatMap (kids (s1, w1, n1, e1))).length ((((level (s1, w1, n1, e1) i).take j).flatMap (kids (s1, w1, n1, e1))).map encS))]) rfl rfl ?_
    obtain ⟨hj1, hj2, hj3⟩ := hI2
    refine c_seq ?_
    refine c_region ?_
    refine l_val rfl rfl rfl (r_lss rfl rfl) ?_
    refine splitD (fun h2 => ?_) (fun h2 => ?_)
    · refine l_nil ?_
      refine c_seq ?_
      refine c_true rfl ?_
      refine c_skip ?_
      refine c_seq ?_
      refine c_block ?_
      refine c_seq ?_
      have hlt : j < (level (s1, w1, n1, e1) i).length := by omega
      refine c_region ?_
      refine l_read (fun w hF hS => run_indexR Try.underlying42 Try.sizeOf9 rfl rfl (rowOf (i := 1) hS rfl) (by simp; omega) (by omega) (by omega)) rfl rfl rfl ?_
      refine l_read (fun w hF hS => run_loadP1 (i := j) (j := 0) (v := str _) Try.isAgg9 rfl (by omega) (rowOf (i := 1) hS rfl) (el_map hlt) rfl) rfl rfl rfl ?_
      refine l_val rfl rfl rfl (r_assign (v := str _) rfl) ?_
      refine l_nil ?_
      refine c_seq ?_
      refine c_seq ?_
      refine c_region ?_
      refine l_buildSlice (vs := [str _, str _, str _, str _]) (cs := [_, _, _, _]) Try.underlying42 Try.sizeOf9 Try.zeroValue9 rfl rfl rfl rfl rfl rfl rfl (fun b3 => ?_)
      refine l_val rfl rfl rfl (r_len Try.underlying42 rfl) ?_
      refine l_val rfl rfl rfl (r_move (v := .int _ _) rfl) ?_
      refine l_nil ?_
      refine c_block ?_
      rw [show ((level (s1, w1, n1, e1) i).take j).flatMap (kids (s1, w1, n1, e1)) = kidsQ (s1, w1, n1, e1) (((level (s1, w1, n1, e1) i).take j).flatMap (kids (s1, w1, n1, e1))) (level (s1, w1, n1, e1) i)[j] 0 from kidsQ_0 _ _ _]
      refine c_loopK (σ := Nat × (Option Addr × Nat)) [6, 10, 23, 24, 25, 26, 27, 28, 29, 30, 31, 32, 33, 34, 35, 36, 37, 38, 39] (fun ⟨q, q3⟩ => [(23, .int .i64 (q : Int)), (6, .slice q3.1 (kidsQ (s1, w1, n1, e1) (((level (s1, w1, n1, e1) i).take j).flatMap (kids (s1, w1, n1, e1))) (level (s1, w1, n1, e1) i)[j] q).length q3.2)]) (fun ⟨q, q3⟩ => [(2, rowV 9 1 (.slice q3.1 (kidsQ (s1, w1, n1, e1) (((level (s1, w1, n1, e1) i).take j).flatMap (kids (s1, w1, n1, e1))) (level (s1, w1, n1, e1) i)[j] q).length q3.2) (kidsQ (s1, w1, n1, e1) (((level (s1, w1, n1, e1) i).take j).flatMap (kids (s1, w1, n1, e1))) (level (s1, w1, n1, e1) i)[j] q).length ((kidsQ (s1, w1, n1, e1) (((level (s1, w1, n1, e1) i).take j).flatMap (kids (s1, w1, n1, e1))) (level (s1, w1, n1, e1) i)[j] q).map encS))]) (fun ⟨q, _⟩ => q ≤ 4) (fun s => 4 - s.1) ((0, q2)) (Nat.zero_le _) (by exact ⟨rfl, rfl, trivial⟩) rfl (fun ⟨q, q3⟩ gg hI3 => ?_)
      refine c_tidyS (l' := [(23, .int .i64 (q : Int)), (6, .slice q3.1 (kidsQ (s1, w1, n1, e1) (((level (s1, w1, n1, e1) i).take j).flatMap (kids (s1, w1, n1, e1))) (level (s1, w1, n1, e1) i)[j] q).length q3.2)]) (m' := [(2, rowV 9 1 (.slice q3.1 (kidsQ (s1, w1, n1, e1) (((level (s1, w1, n1, e1) i).take j).flatMap (kids (s1, w1, n1, e1))) (level (s1, w1, n1, e1) i)[j] q).length q3.2) (kidsQ (s1, w1, n1, e1) (((level (s1, w1, n1, e1) i).take j).flatMap (kids (s1, w1, n1, e1))) (level (s1, w1, n1, e1) i)[j] q).length ((kidsQ (s1, w1, n1, e1) (((level (s1, w1, n1, e1) i).take j).flatMap (kids (s1, w1, n1, e1))) (level (s1, w1, n1, e1) i)[j] q).map encS))]) rfl rfl ?_
      have hI3 : q ≤ 4 := hI3
      refine c_seq ?_
      refine c_region ?_
      refine l_val rfl rfl rfl (r_lss rfl rfl) ?_
      refine splitD (fun h3 => ?_) (fun h3 => ?_)
      · refine l_nil ?_
        refine c_seq ?_
        refine c_true rfl ?_
        refine c_skip ?_
        refine c_seq ?_
        refine c_block ?_
        refine c_seq ?_
        have hq4 : q < digits.length := by show q < 4; omega
        refine c_region ?_
        refine l_read (fun w hF hS => run_indexR Try.underlying42 Try.sizeOf9 rfl rfl (row_box (sz := 1) (xs := (digits).map encS) (i := 3) hS rfl rfl rfl) (by simp [digits]; omega) (by omega) (by omega)) rfl rfl rfl ?_
        refine l_read (fun w hF hS => run_loadP1 (i := q) (j := 0) (v := str _) Try.isAgg9 rfl (by omega) (row_box (sz := 1) (xs := (digits).map encS) (i := 3) hS rfl rfl rfl) (el_map hq4) rfl) rfl rfl rfl ?_
        refine l_val rfl rfl rfl (r_assign (v := str _) rfl) ?_
        refine l_nil ?_
        refine c_seq ?_
        have hc24 : ((level (s1, w1, n1, e1) i)[j] ++ digits[q]).length ≤ 24 := by rw [List.length_append, level_len (s1, w1, n1, e1) i _ (List.getElem_mem hlt)]; have : (digits[q]).length = 1 := by { rcases q with _ | _ | _ | _ | q <;> first | rfl | (exfalso; have : q + 4 < 4 := hq4; omega) }; omega
        have hbc := wide_box (cell_wide hc24)
        exact c_regionD (Kd.p :: Kd.p :: Kd.p :: Kd.d [] _ :: Kd.d [0] _ :: Kd.d [] _ :: []) 0 mixed (by
          refine d_val rfl rfl (r_move (v := str _) rfl) ?_
          refine d_val rfl rfl (r_move (v := str _) rfl) ?_
          refine d_val rfl rfl (r_concat rfl rfl (by rw [← List.length_append]; omega)) ?_
          refine d_call (f74 _ (by first | omega | assumption)) Try.call74 rfl rfl ?_
          refine d_loadN (i := 0) (vs := [_, _, _, _]) Try.isAgg23 Try.sizeOf23 rfl rfl rfl rfl ?_
          refine d_call (f22 _ _ _ _ _ _ _ _ (by first | omega | assumption) (by first | omega | assumption)) Try.call22 rfl rfl ?_
          refine splitS (fun h4 => ?_) (fun h4 => ?_)
          · refine d_nil ?_
            refine c_true rfl ?_
            refine c_region ?_
            refine l_val rfl rfl rfl (r_move (v := .slice _ _ _) rfl) ?_
            refine l_val rfl rfl rfl (r_move (v := str _) rfl) ?_
            refine l_val rfl rfl rfl (r_move (v := str _) rfl) ?_
            refine l_val rfl rfl rfl (r_concat rfl rfl (by rw [← List.length_append]; omega)) ?_
            refine l_buildSlice (vs := [str _]) (cs := [_]) Try.underlying42 Try.sizeOf9 Try.zeroValue9 rfl rfl rfl rfl rfl rfl rfl (fun b4 => ?_)
            refine l_turn (turns_appendM (i := 2) (k := 4) (p := q3) (sz := 1) (by_ := 16) (f := encS) (ys := kidsQ (s1, w1, n1, e1) (((level (s1, w1, n1, e1) i).take j).flatMap (kids (s1, w1, n1, e1))) (level (s1, w1, n1, e1) i)[j] q) (ls := [_]) (z := str []) Try.underlying42 (info_of Try.typeInfo9) rfl rfl rfl rfl rfl rfl rfl rfl rfl rfl rfl rfl rfl rfl rfl (by have := kidsQ_le (s1, w1, n1, e1) (((level (s1, w1, n1, e1) i).take j).flatMap (kids (s1, w1, n1, e1))) (level (s1, w1, n1, e1) i)[j] q; simp only [List.length_append, List.length_cons, List.length_nil] at *; omega) rfl) rfl rfl rfl (fun p38 => ?_)
            refine l_val rfl rfl rfl (r_assign (v := .slice _ _ _) rfl) ?_
            refine l_nil ?_
            refine c_region ?_
            refine l_val rfl rfl rfl (r_add rfl rfl (by omega)) ?_
            refine l_val rfl rfl rfl (r_move (v := .int _ _) rfl) ?_
            refine l_nil ?_
            rw [show kidsQ (s1, w1, n1, e1) (((level (s1, w1, n1, e1) i).take j).flatMap (kids (s1, w1, n1, e1))) (level (s1, w1, n1, e1) i)[j] q ++ [(level (s1, w1, n1, e1) i)[j] ++ digits[q]] = kidsQ (s1, w1, n1, e1) (((level (s1, w1, n1, e1) i).take j).flatMap (kids (s1, w1, n1, e1))) (level (s1, w1, n1, e1) i)[j] (q + 1) from kidsQ_yes hq4 h4]
            refine c_roundK ((q + 1, p38)) [0, 1, 2, 3] (by exact ⟨rfl, rfl, trivial⟩) (by repeat (first | exact Keeps.refl _ _ | exact Keeps.mix | refine Keeps.upd ?_ rfl | refine Keeps.mkE ?_ _ rfl | refine Keeps.mix2 ?_ rfl)) (by decide) rfl (by show q + 1 ≤ 4; omega) (by show 4 - (q + 1) < 4 - q; omega)
          · refine d_nil ?_
            refine c_false rfl ?_
            refine c_skip ?_
            refine c_region ?_
            refine l_val rfl rfl rfl (r_add rfl rfl (by omega)) ?_
            refine l_val rfl rfl rfl (r_move (v := .int _ _) rfl) ?_
            refine l_nil ?_
            rw [show kidsQ (s1, w1, n1, e1) (((level (s1, w1, n1, e1) i).take j).flatMap (kids (s1, w1, n1, e1))) (level (s1, w1, n1, e1) i)[j] q = kidsQ (s1, w1, n1, e1) (((level (s1, w1, n1, e1) i).take j).flatMap (kids (s1, w1, n1, e1))) (level (s1, w1, n1, e1) i)[j] (q + 1) from kidsQ_no hq4 h4]
            refine c_roundK ((q + 1, q3)) [0, 1, 2, 3] (by exact ⟨rfl, rfl, trivial⟩) (by repeat (first | exact Keeps.refl _ _ | exact Keeps.mix | refine Keeps.upd ?_ rfl | refine Keeps.mkE ?_ _ rfl | refine Keeps.mix2 ?_ rfl)) (by decide) rfl (by show q + 1 ≤ 4; omega) (by show 4 - (q + 1) < 4 - q; omega)
          ) (by kernel_rfl)
      · refine l_nil ?_
        refine c_seq ?_
        refine c_false rfl ?_
        refine c_exit ?_
        refine c_seq ?_
        rw [show kidsQ (s1, w1, n1, e1) (((level (s1, w1, n1, e1) i).take j).flatMap (kids (s1, w1, n1, e1))) (level (s1, w1, n1, e1) i)[j] q = ((level (s1, w1, n1, e1) i).take (j + 1)).flatMap (kids (s1, w1, n1, e1)) from kidsQ_all hlt (by omega)]
        refine c_region ?_
        refine l_val rfl rfl rfl (r_move (v := .slice _ _ _) rfl) ?_
        refine l_val rfl rfl rfl (r_len Try.underlying42 rfl) ?_
        refine l_val rfl rfl rfl (r_gtr rfl rfl) ?_
        refine splitD (fun h5 => ?_) (fun h5 => ?_)
        · refine l_nil ?_
          refine c_true rfl ?_
          refine c_seq ?_
          refine c_region ?_
          refine l_val rfl rfl rfl (r_move (v := .slice _ _ _) rfl) ?_
          refine l_val rfl rfl rfl (r_assign (v := .slice _ _ _) rfl) ?_
          refine l_nil ?_
          refine c_ret ?_
          have hcw : coverW (s1, w1, n1, e1) n = ((level (s1, w1, n1, e1) i).take (j + 1)).flatMap (kids (s1, w1, n1, e1)) := (lvW_end (by omega) hi3 (trunc_end hlt hj3 (by omega)))
          refine ret1 (v := .slice _ _ _) rfl rfl (finX q3 (i := 2) rfl (by rw [hcw]) (Imp.of (by rw [hcw])))
        · refine l_nil ?_
          refine c_false rfl ?_
          refine c_skip ?_
          refine c_region ?_
          refine l_val rfl rfl rfl (r_add rfl rfl (by omega)) ?_
          refine l_val rfl rfl rfl (r_move (v := .int _ _) rfl) ?_
          refine l_nil ?_
          refine c_roundK ((j + 1, q3)) [0, 1, 2] (by exact ⟨rfl, rfl, trivial⟩) (by repeat (first | exact Keeps.refl _ _ | exact Keeps.mix | refine Keeps.upd ?_ rfl | refine Keeps.mkE ?_ _ rfl | refine Keeps.mix2 ?_ rfl)) (by decide) rfl ⟨by show j + 1 ≤ _; omega, by show _ ≤ 4000; omega, trunc_more hlt hj3 (by omega)⟩ (by show _ - (j + 1) < _ - j; omega)
    · refine l_nil ?_
      refine c_seq ?_
      refine c_false rfl ?_
      refine c_exit ?_
      rw [show ((level (s1, w1, n1, e1) i).take j).flatMap (kids (s1, w1, n1, e1)) = level (s1, w1, n1, e1) (i + 1) from level_end (by omega)]
      refine c_region ?_
      refine l_val rfl rfl rfl (r_move (v := .slice _ _ _) rfl) ?_
      refine l_val rfl rfl rfl (r_assign (v := .slice _ _ _) rfl) ?_
      refine l_nil ?_
      refine c_region ?_
      refine l_val rfl rfl rfl (r_add rfl rfl (by omega)) ?_
      refine l_val rfl rfl rfl (r_move (v := .int _ _) rfl) ?_
      refine l_nil ?_
      refine c_roundK ((i + 1, q2)) [0, 2] (by exact ⟨rfl, rfl, trivial⟩) (by repeat (first | exact Keeps.refl _ _ | exact Keeps.mix | refine Keeps.upd ?_ rfl | refine Keeps.mkE ?_ _ rfl | refine Keeps.mix2 ?_ rfl)) (by decide) rfl ⟨by show i + 1 ≤ n; omega, by show (level _ (i + 1)).length ≤ 4000; rw [← level_end (j := j) (by omega)]; exact hj2, lvW_next (by omega) hi3 (trunc_all (by omega) hj3)⟩ (by show n - (i + 1) < n - i; omega)
  · refine l_nil ?_
    refine c_seq ?_
    refine c_false rfl ?_
    refine c_exit ?_
    refine c_seq ?_
    refine c_region ?_
    refine l_val rfl rfl rfl (r_move (v := .slice _ _ _) rfl) ?_
    refine l_val rfl rfl rfl (r_assign (v := .slice _ _ _) rfl) ?_
    refine l_nil ?_
    refine c_ret ?_
    have hcw : coverW (s1, w1, n1, e1) n = level (s1, w1, n1, e1) i := (lvW_zero (by omega) hi3)
    refine ret1 (v := .slice _ _ _) rfl rfl (finX q1 (i := 1) rfl (by rw [hcw]) (Imp.of (by rw [hcw])))

theorem f24 (s w0 n e m : Int) (w : World) : Does Try.prog 24 (List.toArray [.agg #[.int .i64 s, .int .i64 w0, .int .i64 n, .int .i64 e], .int .i64 m]) w fun v w' => ∃ x : Option Addr × Nat, v = (.tuple #[.slice x.1 (coverR (s, w0, n, e) m).length x.2, .int .i64 (coverF (s, w0, n, e) m)]) ∧ Turn w w' noS (rdV 1 (.slice x.1 (coverR (s, w0, n, e) m).length x.2) (coverR (s, w0, n, e) m).length ((coverR (s, w0, n, e) m).map encS)) := by
  refine enter (n := 24) Try.func24 rfl rfl rfl noS [] (Sat.nil _ _) ?_
  refine c_seq ?_
  refine c_region ?_
  refine l_box (cs := [_, _, _, _]) rfl rfl rfl rfl (fun b0 => ?_)
  refine l_val rfl rfl rfl (r_assign (v := .slice _ _ _) rfl) ?_
  refine l_val rfl rfl rfl (r_assign (v := .int _ _) rfl) ?_
  refine l_nil ?_
  refine c_seq ?_
  refine c_seq ?_
  refine c_region ?_
  refine l_loadN (i := 0) (vs := [_, _, _, _]) Try.isAgg23 Try.sizeOf23 rfl rfl rfl rfl rfl ?_
  refine l_call (f19 _ _ _ _) Try.call19 rfl rfl rfl ?_
  refine l_val rfl rfl rfl (r_assign (v := .int _ _) rfl) ?_
  refine l_nil ?_
  refine c_seq ?_
  refine c_region ?_
  refine l_val rfl rfl rfl (r_move (v := .int _ _) rfl) ?_
  refine l_val rfl rfl rfl (r_neq rfl rfl) ?_
  refine splitD (fun h1 => ?_) (fun h1 => ?_)
  · refine l_nil ?_
    refine c_true rfl ?_
    refine c_seq ?_
    refine c_region ?_
    refine l_val rfl rfl rfl (r_move (v := .int _ _) rfl) ?_
    refine l_val rfl rfl rfl (r_assign (v := .slice _ _ _) rfl) ?_
    refine l_val rfl rfl rfl (r_assign (v := .int _ _) rfl) ?_
    refine l_nil ?_
    refine c_ret ?_
    have hcf : coverF (s, w0, n, e) m = boxS s w0 n e := by simp [coverF, firstS, h1]
    have hcr : coverR (s, w0, n, e) m = [] := by unfold coverR; rw [hcf]; exact if_neg (by first | assumption | decide)
    refine c_nilRow 9 1 ?_
    refine ret2 (v1 := .slice _ _ _) (v2 := .int _ _) rfl rfl rfl (finX (none, 0) (i := 1) rfl (by rw [hcr, hcf]; rfl) (by rw [hcr]; exact row_rd _ _ _ _ _))
  · refine l_nil ?_
    refine c_false rfl ?_
    refine c_skip ?_
    refine c_seq ?_
    refine c_seq ?_
    refine c_region ?_
    refine l_val rfl rfl rfl (r_move (v := .int _ _) rfl) ?_
    refine l_call (f61 _ _ _) Try.call61 rfl rfl rfl ?_
    refine split (fun h2 => ?_) (fun h2 => ?_)
    · refine l_nil ?_
      refine c_true rfl ?_
      refine c_seq ?_
      refine c_region ?_
      refine l_val rfl rfl rfl (r_assign (v := .slice _ _ _) rfl) ?_
      refine l_val rfl rfl rfl (r_assign (v := .int _ _) rfl) ?_
      refine l_nil ?_
      refine c_ret ?_
      have hcf : coverF (s, w0, n, e) m = 2 := by have hno : ¬ (0 ≤ m ∧ m ≤ 24) := (by simp [outsideS] at h2; omega); simp [coverF, firstS, Classical.not_not.1 h1, hno]
      have hcr : coverR (s, w0, n, e) m = [] := by unfold coverR; rw [hcf]; exact if_neg (by first | assumption | decide)
      refine c_nilRow 9 1 ?_
      refine ret2 (v1 := .slice _ _ _) (v2 := .int _ _) rfl rfl rfl (finX (none, 0) (i := 1) rfl (by rw [hcr, hcf]; rfl) (by rw [hcr]; exact row_rd _ _ _ _ _))
    · refine l_nil ?_
      refine c_false rfl ?_
      refine c_skip ?_
      refine c_seq ?_
      have hb0 : boxS s w0 n e = 0 := Classical.not_not.1 h1
      have hm24 := outsideF h2
      have hcl := coverG_le (s, w0, n, e) m.toNat [] wholeB [] (by simp)
      refine c_nilRow 9 1 ?_
      exact c_regionD (Kd.d [0] _ :: Kd.d [] _ :: Kd.p :: Kd.t 1 [] _ _ :: Kd.p :: []) 0 mixed (by
        refine d_loadN (i := 0) (vs := [_, _, _, _]) Try.isAgg23 Try.sizeOf23 rfl rfl rfl rfl ?_
        refine d_call f72 Try.call72 rfl rfl ?_
        refine d_val rfl rfl (r_move (v := .int _ _) rfl) ?_
        refine d_turn (Cv := fun v => rowV 9 1 v (coverG (s, w0, n, e) m.toNat [] wholeB []).length ((coverG (s, w0, n, e) m.toNat [] wholeB []).map encS)) (none, 0) (turns_call (i := 1) (G := fun x : Option Addr × Nat => .slice x.1 (coverG (s, w0, n, e) m.toNat [] wholeB []).length x.2) (C := fun x => rowV 9 1 (.slice x.1 (coverG (s, w0, n, e) m.toNat [] wholeB []).length x.2) (coverG (s, w0, n, e) m.toNat [] wholeB []).length ((coverG (s, w0, n, e) m.toNat [] wholeB []).map encS)) rfl (fun w L' S hF hS hi hP hB => f71 m.toNat s w0 n e wholeB.1 wholeB.2.1 wholeB.2.2.1 wholeB.2.2.2 m [] (none, 0) [] (by simp; omega) (by omega) hb0 (wide_mono wide_whole (by omega)) (by simp) w S hP hB) Try.call71 rfl) (fun _ => rfl) rfl rfl (fun pG => ?_)
        refine d_val rfl rfl (r_assign (v := .slice _ _ _) rfl) ?_
        refine d_nil ?_
        refine c_seq ?_
        refine c_seq ?_
        refine c_region ?_
        refine l_val rfl rfl rfl (r_move (v := .slice _ _ _) rfl) ?_
        refine l_val rfl rfl rfl (r_len Try.underlying42 rfl) ?_
        refine l_val rfl rfl rfl (r_gtr rfl rfl) ?_
        refine splitD (fun h3 => ?_) (fun h3 => ?_)
        · refine l_nil ?_
          refine c_true rfl ?_
          refine c_seq ?_
          refine c_region ?_
          refine l_val rfl rfl rfl (r_assign (v := .slice _ _ _) rfl) ?_
          refine l_val rfl rfl rfl (r_assign (v := .int _ _) rfl) ?_
          refine l_nil ?_
          refine c_ret ?_
          have hcf : coverF (s, w0, n, e) m = 4 := by have hcc : ¬ (coverG (s, w0, n, e) m.toNat [] wholeB []).length ≤ 1000 := (by omega); simp [coverF, firstS, hb0, hm24.1, hm24.2, hcc]
          have hcr : coverR (s, w0, n, e) m = [] := by unfold coverR; rw [hcf]; exact if_neg (by first | assumption | decide)
          refine c_nilRow 9 1 ?_
          refine ret2 (v1 := .slice _ _ _) (v2 := .int _ _) rfl rfl rfl (finX (none, 0) (i := 2) rfl (by rw [hcr, hcf]; rfl) (by rw [hcr]; exact row_rd _ _ _ _ _))
        · refine l_nil ?_
          refine c_false rfl ?_
          refine c_skip ?_
          refine c_seq ?_
          refine c_region ?_
          refine l_val rfl rfl rfl (r_move (v := .slice _ _ _) rfl) ?_
          refine c_know (fun w hF hS => capOf (i := 1) hS rfl) (fun hcap => ?_)
          refine l_call (f73 _ _ _ hcap) Try.call73 rfl rfl rfl ?_
          refine l_val rfl rfl rfl (r_assign (v := .slice _ _ _) rfl) ?_
          refine l_val rfl rfl rfl (r_assign (v := .int _ _) rfl) ?_
          refine l_nil ?_
          refine c_ret ?_
          have hcf : coverF (s, w0, n, e) m = 0 := by have hcc : (coverG (s, w0, n, e) m.toNat [] wholeB []).length ≤ 1000 := (by omega); simp [coverF, firstS, hb0, hm24.1, hm24.2, hcc]
          have hcr : coverR (s, w0, n, e) m = coverG (s, w0, n, e) m.toNat [] wholeB [] := by unfold coverR; rw [hcf]; rfl
          refine ret2 (v1 := .slice _ _ _) (v2 := .int _ _) rfl rfl rfl (finX (cutA pG.1 0 (coverG (s, w0, n, e) m.toNat [] wholeB []).length 1, (coverG (s, w0, n, e) m.toNat [] wholeB []).length) (i := 1) rfl (by rw [hcr, hcf]) (by rw [hcr]; exact imp_clip _ _ _ _ _ _))
        ) (by kernel_rfl)

end Go.Proofs.Ytfgehlmdcllclaa
