/- Lists of strings. Conditions: those that each contract names. -/
import Derived.Test.YtfgehlmdcllclaaW2
import Derived.Test.YtfgehlmdcllclaaVc8
import Derived.Test.YtfgehlmdcllclaaCoverPlain
namespace Go.Proofs.Ytfgehlmdcllclaa
open Go Go.Vc Go.Vc.Where
set_option maxRecDepth 100000

theorem f32 (a1 : Option Addr) (c1 : Nat) (xs : List (List UInt8)) (a2 : Option Addr) (c2 : Nat) (ys : List (List UInt8)) (hn : xs.length ≤ 9223372036854775807) (w : World) (r1 : Row w a1 1 (xs.map encS)) (r2 : Row w a2 1 (ys.map encS)) : Does Try.prog 32 (List.toArray [.slice a1 xs.length c1, .slice a2 ys.length c2]) w fun v w' => v = (.bool (decide (xs = ys))) ∧ Grow w w' := by
  refine enter (n := 26) Try.func32 rfl rfl rfl (fun _ => False) [] (Sat.nil _ _) ?_
  refine c_seq ?_
  refine c_region ?_
  refine l_val rfl rfl rfl (r_assign (v := .bool _) rfl) ?_
  refine l_nil ?_
  refine c_seq ?_
  refine c_seq ?_
  refine c_region ?_
  refine l_val rfl rfl rfl (r_move (v := .slice _ _ _) rfl) ?_
  refine l_val rfl rfl rfl (r_len Try.underlying42 rfl) ?_
  refine l_val rfl rfl rfl (r_move (v := .slice _ _ _) rfl) ?_
  refine l_val rfl rfl rfl (r_len Try.underlying42 rfl) ?_
  refine l_val rfl rfl rfl (r_neq rfl rfl) ?_
  refine splitD (fun h1 => ?_) (fun h1 => ?_)
  · refine l_nil ?_
    refine c_true rfl ?_
    refine c_seq ?_
    refine c_region ?_
    refine l_val rfl rfl rfl (r_assign (v := .bool _) rfl) ?_
    refine l_nil ?_
    refine c_ret ?_
    refine ret1 (v := .bool _) rfl rfl (fin ?_)
    refine vB ?_
    symm
    exact decide_eq_false (fun h => by subst h; simp at *)
  · refine l_nil ?_
    refine c_false rfl ?_
    refine c_skip ?_
    refine c_seq ?_
    refine c_seq ?_
    refine c_region ?_
    refine l_val rfl rfl rfl (r_move (v := .slice _ _ _) rfl) ?_
    refine l_val rfl rfl rfl (r_len Try.underlying42 rfl) ?_
    refine l_val rfl rfl rfl (r_move (v := .int _ _) rfl) ?_
    refine l_nil ?_
    refine c_block ?_
    refine c_loopK (σ := Nat) [4, 5, 13, 14, 15, 16, 17, 18, 19, 20, 21, 22, 23, 24, 25] (fun k : Nat => [(13, .int .i64 (k : Int))]) (fun _ => []) (fun k => k ≤ xs.length ∧ xs.take k = ys.take k) (fun k => xs.length - k) (0) ⟨Nat.zero_le _, by simp⟩ (by exact ⟨rfl, trivial⟩) rfl (fun k gg hI => ?_)
    obtain ⟨hk, hd⟩ := hI
    refine c_seq ?_
    refine c_region ?_
    refine l_val rfl rfl rfl (r_lss rfl rfl) ?_
    refine splitD (fun h2 => ?_) (fun h2 => ?_)
    · refine l_nil ?_
      refine c_seq ?_
      refine c_true rfl ?_
      refine c_skip ?_
      refine c_seq ?_
      refine c_block ?_
      refine c_seq ?_
      refine c_region ?_
      refine l_val rfl rfl rfl (r_move (v := .int _ _) rfl) ?_
      refine l_val rfl rfl rfl (r_assign (v := .int _ _) rfl) ?_
      refine l_nil ?_
      refine c_seq ?_
      have hk1 : k < xs.length := by omega
      have hk2 : k < ys.length := by omega
      exact c_regionD (Kd.p :: Kd.p :: Kd.p :: Kd.d [] _ :: Kd.p :: Kd.p :: Kd.p :: Kd.d [] _ :: Kd.p :: []) 0 mixed (by
        refine d_val rfl rfl (r_move (v := .slice _ _ _) rfl) ?_
        refine d_val rfl rfl (r_move (v := .int _ _) rfl) ?_
        refine d_val rfl rfl (r_index Try.underlying42 Try.sizeOf9 rfl rfl (Row.at r1 hk1) (by omega) (by omega)) ?_
        refine d_read (fun w hF => run_loadP1 (i := k) (j := 0) (v := str _) Try.isAgg9 rfl (by omega) (Row.arg r1 hF) (el_map hk1) rfl) rfl rfl ?_
        refine d_val rfl rfl (r_move (v := .slice _ _ _) rfl) ?_
        refine d_val rfl rfl (r_move (v := .int _ _) rfl) ?_
        refine d_val rfl rfl (r_index Try.underlying42 Try.sizeOf9 rfl rfl (Row.at r2 hk2) (by omega) (by omega)) ?_
        refine d_read (fun w hF => run_loadP1 (i := k) (j := 0) (v := str _) Try.isAgg9 rfl (by omega) (Row.arg r2 hF) (el_map hk2) rfl) rfl rfl ?_
        refine d_val rfl rfl (r_neqT rfl rfl) ?_
        refine splitSD (fun h3 => ?_) (fun h3 => ?_)
        · refine d_nil ?_
          refine c_true rfl ?_
          refine c_seq ?_
          refine c_region ?_
          refine l_val rfl rfl rfl (r_assign (v := .bool _) rfl) ?_
          refine l_nil ?_
          refine c_ret ?_
          refine ret1 (v := .bool _) rfl rfl (fin ?_)
          refine vB ?_
          symm
          exact decide_eq_false (fun h => by subst h; simp at *)
        · refine d_nil ?_
          refine c_false rfl ?_
          refine c_skip ?_
          refine c_region ?_
          refine l_val rfl rfl rfl (r_add rfl rfl (by omega)) ?_
          refine l_val rfl rfl rfl (r_move (v := .int _ _) rfl) ?_
          refine l_nil ?_
          refine c_roundK (k + 1) [] (by exact ⟨rfl, trivial⟩) (by repeat (first | exact Keeps.refl _ _ | exact Keeps.mix | refine Keeps.upd ?_ rfl | refine Keeps.mkE ?_ _ rfl | refine Keeps.mix2 ?_ rfl)) (by decide) rfl ⟨by omega, take_more hk1 hk2 hd (Classical.not_not.1 ‹_›)⟩ (by omega)
        ) (by kernel_rfl)
    · refine l_nil ?_
      refine c_seq ?_
      refine c_false rfl ?_
      refine c_exit ?_
      refine c_seq ?_
      refine c_region ?_
      refine l_val rfl rfl rfl (r_assign (v := .bool _) rfl) ?_
      refine l_nil ?_
      refine c_ret ?_
      refine ret1 (v := .bool _) rfl rfl (fin ?_)
      refine vB ?_
      symm
      exact decide_eq_true (take_all hd (by omega) (by omega))

theorem f27 (a1 : Option Addr) (c1 : Nat) (xs : List (List UInt8)) (err : Int) (a2 : Option Addr) (c2 : Nat) (ys : List (List UInt8)) (fault : Int) (hn : xs.length ≤ 9223372036854775807) (w : World) (r1 : Row w a1 1 (xs.map encS)) (r2 : Row w a2 1 (ys.map encS)) : Does Try.prog 27 (List.toArray [.slice a1 xs.length c1, .int .i64 err, .slice a2 ys.length c2, .int .i64 fault]) w fun v w' => v = (.bool (decide (xs = (if fault = 0 then ys else []) ∧ err = fault))) ∧ Grow w w' := by
  refine enter (n := 19) Try.func27 rfl rfl rfl (fun _ => False) [] (Sat.nil _ _) ?_
  refine c_seq ?_
  refine c_region ?_
  refine l_val rfl rfl rfl (r_assign (v := .bool _) rfl) ?_
  refine l_nil ?_
  refine c_seq ?_
  refine c_seq ?_
  refine c_region ?_
  refine l_val rfl rfl rfl (r_move (v := .int _ _) rfl) ?_
  refine l_val rfl rfl rfl (r_neq rfl rfl) ?_
  refine splitD (fun h1 => ?_) (fun h1 => ?_)
  · refine l_nil ?_
    refine c_true rfl ?_
    refine c_region ?_
    refine l_val rfl rfl rfl (r_assign (v := .slice _ _ _) rfl) ?_
    refine l_nil ?_
    refine c_seq ?_
    refine c_region ?_
    refine l_val rfl rfl rfl (r_move (v := .slice _ _ _) rfl) ?_
    refine l_val rfl rfl rfl (r_move (v := .slice _ _ _) rfl) ?_
    refine l_callG (fun w hF hS => f32 _ _ _ _ _ [] (by omega) w (Row.arg r1 hF) (.inl rfl)) Try.call32 rfl rfl rfl ?_
    refine split (fun h2 => ?_) (fun h2 => ?_)
    · refine l_val rfl rfl rfl (r_move (v := .bool _) rfl) ?_
      refine l_val rfl rfl rfl (r_move (v := .int _ _) rfl) ?_
      refine l_val rfl rfl rfl (r_move (v := .int _ _) rfl) ?_
      refine l_val rfl rfl rfl (r_eql rfl rfl) ?_
      refine l_val rfl rfl rfl (r_pickT (v := .bool _) rfl rfl) ?_
      refine l_val rfl rfl rfl (r_assign (v := .bool _) rfl) ?_
      refine l_nil ?_
      refine c_ret ?_
      refine ret1 (v := .bool _) rfl rfl (fin ?_)
      simp_all
    · refine l_val rfl rfl rfl (r_move (v := .bool _) rfl) ?_
      refine l_passed rfl rfl rfl ?_
      refine l_passed rfl rfl rfl ?_
      refine l_passed rfl rfl rfl ?_
      refine l_val rfl rfl rfl (r_pickF (v := .bool _) rfl rfl) ?_
      refine l_val rfl rfl rfl (r_assign (v := .bool _) rfl) ?_
      refine l_nil ?_
      refine c_ret ?_
      refine ret1 (v := .bool _) rfl rfl (fin ?_)
      simp_all
  · refine l_nil ?_
    refine c_false rfl ?_
    refine c_skip ?_
    refine c_seq ?_
    refine c_region ?_
    refine l_val rfl rfl rfl (r_move (v := .slice _ _ _) rfl) ?_
    refine l_val rfl rfl rfl (r_move (v := .slice _ _ _) rfl) ?_
    refine l_callG (fun w hF hS => f32 _ _ _ _ _ _ (by omega) w (Row.arg r1 hF) (Row.arg r2 hF)) Try.call32 rfl rfl rfl ?_
    refine split (fun h3 => ?_) (fun h3 => ?_)
    · refine l_val rfl rfl rfl (r_move (v := .bool _) rfl) ?_
      refine l_val rfl rfl rfl (r_move (v := .int _ _) rfl) ?_
      refine l_val rfl rfl rfl (r_move (v := .int _ _) rfl) ?_
      refine l_val rfl rfl rfl (r_eql rfl rfl) ?_
      refine l_val rfl rfl rfl (r_pickT (v := .bool _) rfl rfl) ?_
      refine l_val rfl rfl rfl (r_assign (v := .bool _) rfl) ?_
      refine l_nil ?_
      refine c_ret ?_
      refine ret1 (v := .bool _) rfl rfl (fin ?_)
      simp_all
    · refine l_val rfl rfl rfl (r_move (v := .bool _) rfl) ?_
      refine l_passed rfl rfl rfl ?_
      refine l_passed rfl rfl rfl ?_
      refine l_passed rfl rfl rfl ?_
      refine l_val rfl rfl rfl (r_pickF (v := .bool _) rfl rfl) ?_
      refine l_val rfl rfl rfl (r_assign (v := .bool _) rfl) ?_
      refine l_nil ?_
      refine c_ret ?_
      refine ret1 (v := .bool _) rfl rfl (fin ?_)
      simp_all

theorem f73 (a : Option Addr) (m c : Nat) (hc : m ≤ c) : Ret Try.prog 73 [.slice a m c] (.slice (cutA a 0 m 1) m m) := by
  refine enterRet (n := 9) Try.func73 rfl rfl rfl (fun wd => ?_)
  refine c_seq ?_
  refine c_region ?_
  refine l_val rfl rfl rfl (r_assign (v := .slice _ _ _) rfl) ?_
  refine l_nil ?_
  refine c_seq ?_
  refine c_region ?_
  refine l_val rfl rfl rfl (r_move (v := .slice _ _ _) rfl) ?_
  refine l_val rfl rfl rfl (r_move (v := .slice _ _ _) rfl) ?_
  refine l_val rfl rfl rfl (r_len Try.underlying42 rfl) ?_
  refine l_val rfl rfl rfl (r_move (v := .slice _ _ _) rfl) ?_
  refine l_val rfl rfl rfl (r_len Try.underlying42 rfl) ?_
  refine l_val rfl rfl rfl (r_sliceHM Try.underlying42 Try.sizeOf9 rfl rfl rfl (by omega) (by omega) (by omega)) ?_
  refine l_val rfl rfl rfl (r_assign (v := .slice _ _ _) rfl) ?_
  refine l_nil ?_
  refine c_ret ?_
  refine ret1 (v := .slice _ _ _) rfl rfl (fin ?_)
  rfl

theorem f72  : Ret Try.prog 72 [] (.agg #[.int .i64 (wholeB).1, .int .i64 (wholeB).2.1, .int .i64 (wholeB).2.2.1, .int .i64 (wholeB).2.2.2]) := by
  refine enterRet (n := 2) Try.func72 rfl rfl rfl (fun wd => ?_)
  refine c_seq ?_
  refine c_region ?_
  refine l_alloc (cs := [_, _, _, _]) Try.zeroValue23 rfl rfl rfl (fun b0 => ?_)
  refine l_nil ?_
  refine c_seq ?_
  refine c_region ?_
  refine l_val rfl rfl rfl (r_build (pl := #[(0, 1), (1, 1), (2, 1), (3, 1)]) (ps := [(0, .int _ _), (1, .int _ _), (2, .int _ _), (3, .int _ _)]) (cells := #[_, _, _, _]) Try.zeroValue23 Try.runUnderlying23 (fun w => by kernel_rfl) rfl rfl) ?_
  refine l_store (i := 0) (vs := [_, _, _, _]) (cs' := [_, _, _, _]) Try.sizeOf23 rfl rfl rfl rfl rfl rfl rfl rfl rfl ?_
  refine l_nil ?_
  refine c_ret ?_
  refine retC (i := 0) (vs := [_, _, _, _]) Try.isAgg23 Try.sizeOf23 rfl rfl rfl rfl (fin ?_)
  rfl

theorem f109 (s w n e q : Int) (hq : Wide 0 (s, w, n, e)) (g0 : 0 ≤ q ∧ q ≤ 3) : Ret Try.prog 109 [.agg #[.int .i64 s, .int .i64 w, .int .i64 n, .int .i64 e], .int .i64 q] (.agg #[.int .i64 (quarterB (s, w, n, e) q).1, .int .i64 (quarterB (s, w, n, e) q).2.1, .int .i64 (quarterB (s, w, n, e) q).2.2.1, .int .i64 (quarterB (s, w, n, e) q).2.2.2]) := by
  have hp := wide_pos hq
  simp only at hp
  have hd1 := Int.tdiv_eq_ediv_of_nonneg (a := n - s + 1) (b := 2) (by omega)
  have hd2 := Int.tdiv_eq_ediv_of_nonneg (a := e - w + 1) (b := 2) (by omega)
  have hm := Int.tmod_eq_emod_of_nonneg g0.1 (b := 2)
  refine enterRet (n := 43) Try.func109 rfl rfl rfl (fun wd => ?_)
  refine c_seq ?_
  refine c_region ?_
  refine l_box (cs := [_, _, _, _]) rfl rfl rfl rfl (fun b0 => ?_)
  refine l_alloc (cs := [_, _, _, _]) Try.zeroValue23 rfl rfl rfl (fun b1 => ?_)
  refine l_nil ?_
  refine c_seq ?_
  exact c_regionD (Kd.p :: Kd.d [0] _ :: Kd.p :: Kd.d [0] _ :: Kd.p :: Kd.d [0] _ :: Kd.p :: Kd.p :: Kd.p :: Kd.p :: Kd.p :: Kd.d [0] _ :: Kd.p :: Kd.d [0] _ :: Kd.p :: Kd.d [0] _ :: Kd.p :: Kd.p :: Kd.p :: Kd.p :: Kd.p :: Kd.p :: []) 0 mixed (by
    refine d_val rfl rfl (r_field Try.runUnderlying23 rfl Try.sizeOf3 rfl rfl) ?_
    refine d_load1 (i := 0) (v := .int _ _) Try.isAgg3 rfl rfl rfl rfl ?_
    refine d_val rfl rfl (r_field Try.runUnderlying23 rfl Try.sizeOf3 rfl rfl) ?_
    refine d_load1 (i := 0) (v := .int _ _) Try.isAgg3 rfl rfl rfl rfl ?_
    refine d_val rfl rfl (r_field Try.runUnderlying23 rfl Try.sizeOf3 rfl rfl) ?_
    refine d_load1 (i := 0) (v := .int _ _) Try.isAgg3 rfl rfl rfl rfl ?_
    refine d_val rfl rfl (r_sub rfl rfl (by omega)) ?_
    refine d_val rfl rfl (r_add rfl rfl (by omega)) ?_
    refine d_val rfl rfl (r_quo rfl rfl (by omega) (by omega)) ?_
    refine d_val rfl rfl (r_add rfl rfl (by omega)) ?_
    refine d_val rfl rfl (r_field Try.runUnderlying23 rfl Try.sizeOf3 rfl rfl) ?_
    refine d_load1 (i := 0) (v := .int _ _) Try.isAgg3 rfl rfl rfl rfl ?_
    refine d_val rfl rfl (r_field Try.runUnderlying23 rfl Try.sizeOf3 rfl rfl) ?_
    refine d_load1 (i := 0) (v := .int _ _) Try.isAgg3 rfl rfl rfl rfl ?_
    refine d_val rfl rfl (r_field Try.runUnderlying23 rfl Try.sizeOf3 rfl rfl) ?_
    refine d_load1 (i := 0) (v := .int _ _) Try.isAgg3 rfl rfl rfl rfl ?_
    refine d_val rfl rfl (r_sub rfl rfl (by omega)) ?_
    refine d_val rfl rfl (r_add rfl rfl (by omega)) ?_
    refine d_val rfl rfl (r_quo rfl rfl (by omega) (by omega)) ?_
    refine d_val rfl rfl (r_add rfl rfl (by omega)) ?_
    refine d_val rfl rfl (r_assign (v := .int _ _) rfl) ?_
    refine d_val rfl rfl (r_assign (v := .int _ _) rfl) ?_
    refine d_nil ?_
    refine c_seq ?_
    refine c_seq ?_
    refine c_region ?_
    refine l_val rfl rfl rfl (r_move (v := .int _ _) rfl) ?_
    refine l_val rfl rfl rfl (r_geq rfl rfl) ?_
    refine splitD (fun h1 => ?_) (fun h1 => ?_)
    · refine l_nil ?_
      refine c_true rfl ?_
      refine c_region ?_
      refine l_val rfl rfl rfl (r_move (v := .int _ _) rfl) ?_
      refine l_val rfl rfl rfl (r_field Try.runUnderlying23 rfl Try.sizeOf3 rfl rfl) ?_
      refine l_store (i := 0) (vs := [_]) (cs' := [_, _, _, _]) Try.sizeOf3 rfl rfl rfl rfl rfl rfl rfl rfl rfl ?_
      refine l_nil ?_
      refine c_seq ?_
      refine c_seq ?_
      refine c_region ?_
      refine l_val rfl rfl rfl (r_move (v := .int _ _) rfl) ?_
      refine l_val rfl rfl rfl (r_rem rfl rfl (by omega)) ?_
      refine l_val rfl rfl rfl (r_eql rfl rfl) ?_
      refine splitD (fun h2 => ?_) (fun h2 => ?_)
      · refine l_nil ?_
        refine c_true rfl ?_
        refine c_region ?_
        refine l_val rfl rfl rfl (r_move (v := .int _ _) rfl) ?_
        refine l_val rfl rfl rfl (r_field Try.runUnderlying23 rfl Try.sizeOf3 rfl rfl) ?_
        refine l_store (i := 0) (vs := [_]) (cs' := [_, _, _, _]) Try.sizeOf3 rfl rfl rfl rfl rfl rfl rfl rfl rfl ?_
        refine l_nil ?_
        refine c_seq ?_
        refine c_region ?_
        refine l_loadN (i := 0) (vs := [_, _, _, _]) Try.isAgg23 Try.sizeOf23 rfl rfl rfl rfl rfl ?_
        refine l_store (i := 1) (vs := [_, _, _, _]) (cs' := [_, _, _, _]) Try.sizeOf23 rfl rfl rfl rfl rfl rfl rfl rfl rfl ?_
        refine l_nil ?_
        refine c_ret ?_
        refine retC (i := 1) (vs := [_, _, _, _]) Try.isAgg23 Try.sizeOf23 rfl rfl rfl rfl (fin ?_)
        refine box4 ?_
        unfold quarterB
        simp only [Prod.mk.injEq]
        refine ⟨?_, ?_, ?_, ?_⟩ <;> (split <;> first | omega | simp_all)
      · refine l_nil ?_
        refine c_false rfl ?_
        refine c_region ?_
        refine l_val rfl rfl rfl (r_move (v := .int _ _) rfl) ?_
        refine l_val rfl rfl rfl (r_sub rfl rfl (by omega)) ?_
        refine l_val rfl rfl rfl (r_field Try.runUnderlying23 rfl Try.sizeOf3 rfl rfl) ?_
        refine l_store (i := 0) (vs := [_]) (cs' := [_, _, _, _]) Try.sizeOf3 rfl rfl rfl rfl rfl rfl rfl rfl rfl ?_
        refine l_nil ?_
        refine c_seq ?_
        refine c_region ?_
        refine l_loadN (i := 0) (vs := [_, _, _, _]) Try.isAgg23 Try.sizeOf23 rfl rfl rfl rfl rfl ?_
        refine l_store (i := 1) (vs := [_, _, _, _]) (cs' := [_, _, _, _]) Try.sizeOf23 rfl rfl rfl rfl rfl rfl rfl rfl rfl ?_
        refine l_nil ?_
        refine c_ret ?_
        refine retC (i := 1) (vs := [_, _, _, _]) Try.isAgg23 Try.sizeOf23 rfl rfl rfl rfl (fin ?_)
        refine box4 ?_
        unfold quarterB
        simp only [Prod.mk.injEq]
        refine ⟨?_, ?_, ?_, ?_⟩ <;> (split <;> first | omega | simp_all)
    · refine l_nil ?_
      refine c_false rfl ?_
      refine c_region ?_
      refine l_val rfl rfl rfl (r_move (v := .int _ _) rfl) ?_
      refine l_val rfl rfl rfl (r_sub rfl rfl (by omega)) ?_
      refine l_val rfl rfl rfl (r_field Try.runUnderlying23 rfl Try.sizeOf3 rfl rfl) ?_
      refine l_store (i := 0) (vs := [_]) (cs' := [_, _, _, _]) Try.sizeOf3 rfl rfl rfl rfl rfl rfl rfl rfl rfl ?_
      refine l_nil ?_
      refine c_seq ?_
      refine c_seq ?_
      refine c_region ?_
      refine l_val rfl rfl rfl (r_move (v := .int _ _) rfl) ?_
      refine l_val rfl rfl rfl (r_rem rfl rfl (by omega)) ?_
      refine l_val rfl rfl rfl (r_eql rfl rfl) ?_
      refine splitD (fun h3 => ?_) (fun h3 => ?_)
      · refine l_nil ?_
        refine c_true rfl ?_
        refine c_region ?_
        refine l_val rfl rfl rfl (r_move (v := .int _ _) rfl) ?_
        refine l_val rfl rfl rfl (r_field Try.runUnderlying23 rfl Try.sizeOf3 rfl rfl) ?_
        refine l_store (i := 0) (vs := [_]) (cs' := [_, _, _, _]) Try.sizeOf3 rfl rfl rfl rfl rfl rfl rfl rfl rfl ?_
        refine l_nil ?_
        refine c_seq ?_
        refine c_region ?_
        refine l_loadN (i := 0) (vs := [_, _, _, _]) Try.isAgg23 Try.sizeOf23 rfl rfl rfl rfl rfl ?_
        refine l_store (i := 1) (vs := [_, _, _, _]) (cs' := [_, _, _, _]) Try.sizeOf23 rfl rfl rfl rfl rfl rfl rfl rfl rfl ?_
        refine l_nil ?_
        refine c_ret ?_
        refine retC (i := 1) (vs := [_, _, _, _]) Try.isAgg23 Try.sizeOf23 rfl rfl rfl rfl (fin ?_)
        refine box4 ?_
        unfold quarterB
        simp only [Prod.mk.injEq]
        refine ⟨?_, ?_, ?_, ?_⟩ <;> (split <;> first | omega | simp_all)
      · refine l_nil ?_
        refine c_false rfl ?_
        refine c_region ?_
        refine l_val rfl rfl rfl (r_move (v := .int _ _) rfl) ?_
        refine l_val rfl rfl rfl (r_sub rfl rfl (by omega)) ?_
        refine l_val rfl rfl rfl (r_field Try.runUnderlying23 rfl Try.sizeOf3 rfl rfl) ?_
        refine l_store (i := 0) (vs := [_]) (cs' := [_, _, _, _]) Try.sizeOf3 rfl rfl rfl rfl rfl rfl rfl rfl rfl ?_
        refine l_nil ?_
        refine c_seq ?_
        refine c_region ?_
        refine l_loadN (i := 0) (vs := [_, _, _, _]) Try.isAgg23 Try.sizeOf23 rfl rfl rfl rfl rfl ?_
        refine l_store (i := 1) (vs := [_, _, _, _]) (cs' := [_, _, _, _]) Try.sizeOf23 rfl rfl rfl rfl rfl rfl rfl rfl rfl ?_
        refine l_nil ?_
        refine c_ret ?_
        refine retC (i := 1) (vs := [_, _, _, _]) Try.isAgg23 Try.sizeOf23 rfl rfl rfl rfl (fin ?_)
        refine box4 ?_
        unfold quarterB
        simp only [Prod.mk.injEq]
        refine ⟨?_, ?_, ?_, ?_⟩ <;> (split <;> first | omega | simp_all)
    ) (by kernel_rfl)

theorem f110 (s w n e : Int) (d : UInt8) (hq : Wide 0 (s, w, n, e)) : Ret Try.prog 110 [.agg #[.int .i64 s, .int .i64 w, .int .i64 n, .int .i64 e], .int .u8 (d.toNat : Nat)] (.agg #[.int .i64 (partB (s, w, n, e) d).1, .int .i64 (partB (s, w, n, e) d).2.1, .int .i64 (partB (s, w, n, e) d).2.2.1, .int .i64 (partB (s, w, n, e) d).2.2.2]) := by
  have hp := wide_pos hq
  simp only at hp
  have hd1 := Int.tdiv_eq_ediv_of_nonneg (a := n - s + 1) (b := 2) (by omega)
  have hd2 := Int.tdiv_eq_ediv_of_nonneg (a := e - w + 1) (b := 2) (by omega)
  obtain ⟨ho1, ho2, ho3⟩ := octet_eq d
  refine enterRet (n := 50) Try.func110 rfl rfl rfl (fun wd => ?_)
  refine c_seq ?_
  refine c_region ?_
  refine l_box (cs := [_, _, _, _]) rfl rfl rfl rfl (fun b0 => ?_)
  refine l_alloc (cs := [_, _, _, _]) Try.zeroValue23 rfl rfl rfl (fun b1 => ?_)
  refine l_nil ?_
  refine c_seq ?_
  exact c_regionD (Kd.p :: Kd.d [0] _ :: Kd.p :: Kd.d [0] _ :: Kd.p :: Kd.d [0] _ :: Kd.p :: Kd.p :: Kd.p :: Kd.p :: Kd.p :: Kd.d [0] _ :: Kd.p :: Kd.d [0] _ :: Kd.p :: Kd.d [0] _ :: Kd.p :: Kd.p :: Kd.p :: Kd.p :: Kd.p :: Kd.p :: []) 0 mixed (by
    refine d_val rfl rfl (r_field Try.runUnderlying23 rfl Try.sizeOf3 rfl rfl) ?_
    refine d_load1 (i := 0) (v := .int _ _) Try.isAgg3 rfl rfl rfl rfl ?_
    refine d_val rfl rfl (r_field Try.runUnderlying23 rfl Try.sizeOf3 rfl rfl) ?_
    refine d_load1 (i := 0) (v := .int _ _) Try.isAgg3 rfl rfl rfl rfl ?_
    refine d_val rfl rfl (r_field Try.runUnderlying23 rfl Try.sizeOf3 rfl rfl) ?_
    refine d_load1 (i := 0) (v := .int _ _) Try.isAgg3 rfl rfl rfl rfl ?_
    refine d_val rfl rfl (r_sub rfl rfl (by omega)) ?_
    refine d_val rfl rfl (r_add rfl rfl (by omega)) ?_
    refine d_val rfl rfl (r_quo rfl rfl (by omega) (by omega)) ?_
    refine d_val rfl rfl (r_add rfl rfl (by omega)) ?_
    refine d_val rfl rfl (r_field Try.runUnderlying23 rfl Try.sizeOf3 rfl rfl) ?_
    refine d_load1 (i := 0) (v := .int _ _) Try.isAgg3 rfl rfl rfl rfl ?_
    refine d_val rfl rfl (r_field Try.runUnderlying23 rfl Try.sizeOf3 rfl rfl) ?_
    refine d_load1 (i := 0) (v := .int _ _) Try.isAgg3 rfl rfl rfl rfl ?_
    refine d_val rfl rfl (r_field Try.runUnderlying23 rfl Try.sizeOf3 rfl rfl) ?_
    refine d_load1 (i := 0) (v := .int _ _) Try.isAgg3 rfl rfl rfl rfl ?_
    refine d_val rfl rfl (r_sub rfl rfl (by omega)) ?_
    refine d_val rfl rfl (r_add rfl rfl (by omega)) ?_
    refine d_val rfl rfl (r_quo rfl rfl (by omega) (by omega)) ?_
    refine d_val rfl rfl (r_add rfl rfl (by omega)) ?_
    refine d_val rfl rfl (r_assign (v := .int _ _) rfl) ?_
    refine d_val rfl rfl (r_assign (v := .int _ _) rfl) ?_
    refine d_nil ?_
    refine c_seq ?_
    refine c_seq ?_
    refine c_region ?_
    refine l_val rfl rfl rfl (r_move (v := .int _ _) rfl) ?_
    refine l_val rfl rfl rfl (r_eql rfl rfl) ?_
    refine splitD (fun h1 => ?_) (fun h1 => ?_)
    · refine l_val rfl rfl rfl (r_move (v := .bool _) rfl) ?_
      refine l_passed rfl rfl rfl ?_
      refine l_passed rfl rfl rfl ?_
      refine l_val rfl rfl rfl (r_pickT (v := .bool _) rfl rfl) ?_
      refine l_nil ?_
      refine c_true rfl ?_
      refine c_region ?_
      refine l_val rfl rfl rfl (r_move (v := .int _ _) rfl) ?_
      refine l_val rfl rfl rfl (r_sub rfl rfl (by omega)) ?_
      refine l_val rfl rfl rfl (r_field Try.runUnderlying23 rfl Try.sizeOf3 rfl rfl) ?_
      refine l_store (i := 0) (vs := [_]) (cs' := [_, _, _, _]) Try.sizeOf3 rfl rfl rfl rfl rfl rfl rfl rfl rfl ?_
      refine l_nil ?_
      refine c_seq ?_
      refine c_seq ?_
      refine c_region ?_
      refine l_val rfl rfl rfl (r_move (v := .int _ _) rfl) ?_
      refine l_val rfl rfl rfl (r_eql rfl rfl) ?_
      refine splitD (fun h2 => ?_) (fun h2 => ?_)
      · refine l_val rfl rfl rfl (r_move (v := .bool _) rfl) ?_
        refine l_passed rfl rfl rfl ?_
        refine l_passed rfl rfl rfl ?_
        refine l_val rfl rfl rfl (r_pickT (v := .bool _) rfl rfl) ?_
        refine l_nil ?_
        refine c_true rfl ?_
        refine c_region ?_
        refine l_val rfl rfl rfl (r_move (v := .int _ _) rfl) ?_
        refine l_val rfl rfl rfl (r_sub rfl rfl (by omega)) ?_
        refine l_val rfl rfl rfl (r_field Try.runUnderlying23 rfl Try.sizeOf3 rfl rfl) ?_
        refine l_store (i := 0) (vs := [_]) (cs' := [_, _, _, _]) Try.sizeOf3 rfl rfl rfl rfl rfl rfl rfl rfl rfl ?_
        refine l_nil ?_
        refine c_seq ?_
        refine c_region ?_
        refine l_loadN (i := 0) (vs := [_, _, _, _]) Try.isAgg23 Try.sizeOf23 rfl rfl rfl rfl rfl ?_
        refine l_store (i := 1) (vs := [_, _, _, _]) (cs' := [_, _, _, _]) Try.sizeOf23 rfl rfl rfl rfl rfl rfl rfl rfl rfl ?_
        refine l_nil ?_
        refine c_ret ?_
        refine retC (i := 1) (vs := [_, _, _, _]) Try.isAgg23 Try.sizeOf23 rfl rfl rfl rfl (fin ?_)
        refine box4 ?_
        unfold partB
        simp only [Prod.mk.injEq]
        simp only [ho1, ho2, ho3] at *
        refine ⟨?_, ?_, ?_, ?_⟩ <;> first | (simp [*]; done) | simp_all
      · refine l_val rfl rfl rfl (r_move (v := .bool _) rfl) ?_
        refine l_val rfl rfl rfl (r_move (v := .int _ _) rfl) ?_
        refine l_val rfl rfl rfl (r_eql rfl rfl) ?_
        refine splitD (fun h3 => ?_) (fun h3 => ?_)
        · refine l_val rfl rfl rfl (r_pickF (v := .bool _) rfl rfl) ?_
          refine l_nil ?_
          refine c_true rfl ?_
          refine c_region ?_
          refine l_val rfl rfl rfl (r_move (v := .int _ _) rfl) ?_
          refine l_val rfl rfl rfl (r_sub rfl rfl (by omega)) ?_
          refine l_val rfl rfl rfl (r_field Try.runUnderlying23 rfl Try.sizeOf3 rfl rfl) ?_
          refine l_store (i := 0) (vs := [_]) (cs' := [_, _, _, _]) Try.sizeOf3 rfl rfl rfl rfl rfl rfl rfl rfl rfl ?_
          refine l_nil ?_
          refine c_seq ?_
          refine c_region ?_
          refine l_loadN (i := 0) (vs := [_, _, _, _]) Try.isAgg23 Try.sizeOf23 rfl rfl rfl rfl rfl ?_
          refine l_store (i := 1) (vs := [_, _, _, _]) (cs' := [_, _, _, _]) Try.sizeOf23 rfl rfl rfl rfl rfl rfl rfl rfl rfl ?_
          refine l_nil ?_
          refine c_ret ?_
          refine retC (i := 1) (vs := [_, _, _, _]) Try.isAgg23 Try.sizeOf23 rfl rfl rfl rfl (fin ?_)
          refine box4 ?_
          unfold partB
          simp only [Prod.mk.injEq]
          simp only [ho1, ho2, ho3] at *
          refine ⟨?_, ?_, ?_, ?_⟩ <;> first | (simp [*]; done) | simp_all
        · refine l_val rfl rfl rfl (r_pickF (v := .bool _) rfl rfl) ?_
          refine l_nil ?_
          refine c_false rfl ?_
          refine c_region ?_
          refine l_val rfl rfl rfl (r_move (v := .int _ _) rfl) ?_
          refine l_val rfl rfl rfl (r_field Try.runUnderlying23 rfl Try.sizeOf3 rfl rfl) ?_
          refine l_store (i := 0) (vs := [_]) (cs' := [_, _, _, _]) Try.sizeOf3 rfl rfl rfl rfl rfl rfl rfl rfl rfl ?_
          refine l_nil ?_
          refine c_seq ?_
          refine c_region ?_
          refine l_loadN (i := 0) (vs := [_, _, _, _]) Try.isAgg23 Try.sizeOf23 rfl rfl rfl rfl rfl ?_
          refine l_store (i := 1) (vs := [_, _, _, _]) (cs' := [_, _, _, _]) Try.sizeOf23 rfl rfl rfl rfl rfl rfl rfl rfl rfl ?_
          refine l_nil ?_
          refine c_ret ?_
          refine retC (i := 1) (vs := [_, _, _, _]) Try.isAgg23 Try.sizeOf23 rfl rfl rfl rfl (fin ?_)
          refine box4 ?_
          unfold partB
          simp only [Prod.mk.injEq]
          simp only [ho1, ho2, ho3] at *
          refine ⟨?_, ?_, ?_, ?_⟩ <;> first | (simp [*]; done) | simp_all
    · refine l_val rfl rfl rfl (r_move (v := .bool _) rfl) ?_
      refine l_val rfl rfl rfl (r_move (v := .int _ _) rfl) ?_
      refine l_val rfl rfl rfl (r_eql rfl rfl) ?_
      refine splitD (fun h4 => ?_) (fun h4 => ?_)
      · refine l_val rfl rfl rfl (r_pickF (v := .bool _) rfl rfl) ?_
        refine l_nil ?_
        refine c_true rfl ?_
        refine c_region ?_
        refine l_val rfl rfl rfl (r_move (v := .int _ _) rfl) ?_
        refine l_val rfl rfl rfl (r_sub rfl rfl (by omega)) ?_
        refine l_val rfl rfl rfl (r_field Try.runUnderlying23 rfl Try.sizeOf3 rfl rfl) ?_
        refine l_store (i := 0) (vs := [_]) (cs' := [_, _, _, _]) Try.sizeOf3 rfl rfl rfl rfl rfl rfl rfl rfl rfl ?_
        refine l_nil ?_
        refine c_seq ?_
        refine c_seq ?_
        refine c_region ?_
        refine l_val rfl rfl rfl (r_move (v := .int _ _) rfl) ?_
        refine l_val rfl rfl rfl (r_eql rfl rfl) ?_
        refine splitD (fun h5 => ?_) (fun h5 => ?_)
        · refine l_val rfl rfl rfl (r_move (v := .bool _) rfl) ?_
          refine l_passed rfl rfl rfl ?_
          refine l_passed rfl rfl rfl ?_
          refine l_val rfl rfl rfl (r_pickT (v := .bool _) rfl rfl) ?_
          refine l_nil ?_
          refine c_true rfl ?_
          refine c_region ?_
          refine l_val rfl rfl rfl (r_move (v := .int _ _) rfl) ?_
          refine l_val rfl rfl rfl (r_sub rfl rfl (by omega)) ?_
          refine l_val rfl rfl rfl (r_field Try.runUnderlying23 rfl Try.sizeOf3 rfl rfl) ?_
          refine l_store (i := 0) (vs := [_]) (cs' := [_, _, _, _]) Try.sizeOf3 rfl rfl rfl rfl rfl rfl rfl rfl rfl ?_
          refine l_nil ?_
          refine c_seq ?_
          refine c_region ?_
          refine l_loadN (i := 0) (vs := [_, _, _, _]) Try.isAgg23 Try.sizeOf23 rfl rfl rfl rfl rfl ?_
          refine l_store (i := 1) (vs := [_, _, _, _]) (cs' := [_, _, _, _]) Try.sizeOf23 rfl rfl rfl rfl rfl rfl rfl rfl rfl ?_
          refine l_nil ?_
          refine c_ret ?_
          refine retC (i := 1) (vs := [_, _, _, _]) Try.isAgg23 Try.sizeOf23 rfl rfl rfl rfl (fin ?_)
          refine box4 ?_
          unfold partB
          simp only [Prod.mk.injEq]
          simp only [ho1, ho2, ho3] at *
          refine ⟨?_, ?_, ?_, ?_⟩ <;> first | (simp [*]; done) | simp_all
        · refine l_val rfl rfl rfl (r_move (v := .bool _) rfl) ?_
          refine l_val rfl rfl rfl (r_move (v := .int _ _) rfl) ?_
          refine l_val rfl rfl rfl (r_eql rfl rfl) ?_
          refine splitD (fun h6 => ?_) (fun h6 => ?_)
          · refine l_val rfl rfl rfl (r_pickF (v := .bool _) rfl rfl) ?_
            refine l_nil ?_
            refine c_true rfl ?_
            refine c_region ?_
            refine l_val rfl rfl rfl (r_move (v := .int _ _) rfl) ?_
            refine l_val rfl rfl rfl (r_sub rfl rfl (by omega)) ?_
            refine l_val rfl rfl rfl (r_field Try.runUnderlying23 rfl Try.sizeOf3 rfl rfl) ?_
            refine l_store (i := 0) (vs := [_]) (cs' := [_, _, _, _]) Try.sizeOf3 rfl rfl rfl rfl rfl rfl rfl rfl rfl ?_
            refine l_nil ?_
            refine c_seq ?_
            refine c_region ?_
            refine l_loadN (i := 0) (vs := [_, _, _, _]) Try.isAgg23 Try.sizeOf23 rfl rfl rfl rfl rfl ?_
            refine l_store (i := 1) (vs := [_, _, _, _]) (cs' := [_, _, _, _]) Try.sizeOf23 rfl rfl rfl rfl rfl rfl rfl rfl rfl ?_
            refine l_nil ?_
            refine c_ret ?_
            refine retC (i := 1) (vs := [_, _, _, _]) Try.isAgg23 Try.sizeOf23 rfl rfl rfl rfl (fin ?_)
            refine box4 ?_
            unfold partB
            simp only [Prod.mk.injEq]
            simp only [ho1, ho2, ho3] at *
            refine ⟨?_, ?_, ?_, ?_⟩ <;> first | (simp [*]; done) | simp_all
          · refine l_val rfl rfl rfl (r_pickF (v := .bool _) rfl rfl) ?_
            refine l_nil ?_
            refine c_false rfl ?_
            refine c_region ?_
            refine l_val rfl rfl rfl (r_move (v := .int _ _) rfl) ?_
            refine l_val rfl rfl rfl (r_field Try.runUnderlying23 rfl Try.sizeOf3 rfl rfl) ?_
            refine l_store (i := 0) (vs := [_]) (cs' := [_, _, _, _]) Try.sizeOf3 rfl rfl rfl rfl rfl rfl rfl rfl rfl ?_
            refine l_nil ?_
            refine c_seq ?_
            refine c_region ?_
            refine l_loadN (i := 0) (vs := [_, _, _, _]) Try.isAgg23 Try.sizeOf23 rfl rfl rfl rfl rfl ?_
            refine l_store (i := 1) (vs := [_, _, _, _]) (cs' := [_, _, _, _]) Try.sizeOf23 rfl rfl rfl rfl rfl rfl rfl rfl rfl ?_
            refine l_nil ?_
            refine c_ret ?_
            refine retC (i := 1) (vs := [_, _, _, _]) Try.isAgg23 Try.sizeOf23 rfl rfl rfl rfl (fin ?_)
            refine box4 ?_
            unfold partB
            simp only [Prod.mk.injEq]
            simp only [ho1, ho2, ho3] at *
            refine ⟨?_, ?_, ?_, ?_⟩ <;> first | (simp [*]; done) | simp_all
      · refine l_val rfl rfl rfl (r_pickF (v := .bool _) rfl rfl) ?_
        refine l_nil ?_
        refine c_false rfl ?_
        refine c_region ?_
        refine l_val rfl rfl rfl (r_move (v := .int _ _) rfl) ?_
        refine l_val rfl rfl rfl (r_field Try.runUnderlying23 rfl Try.sizeOf3 rfl rfl) ?_
        refine l_store (i := 0) (vs := [_]) (cs' := [_, _, _, _]) Try.sizeOf3 rfl rfl rfl rfl rfl rfl rfl rfl rfl ?_
        refine l_nil ?_
        refine c_seq ?_
        refine c_seq ?_
        refine c_region ?_
        refine l_val rfl rfl rfl (r_move (v := .int _ _) rfl) ?_
        refine l_val rfl rfl rfl (r_eql rfl rfl) ?_
        refine splitD (fun h7 => ?_) (fun h7 => ?_)
        · refine l_val rfl rfl rfl (r_move (v := .bool _) rfl) ?_
          refine l_passed rfl rfl rfl ?_
          refine l_passed rfl rfl rfl ?_
          refine l_val rfl rfl rfl (r_pickT (v := .bool _) rfl rfl) ?_
          refine l_nil ?_
          refine c_true rfl ?_
          refine c_region ?_
          refine l_val rfl rfl rfl (r_move (v := .int _ _) rfl) ?_
          refine l_val rfl rfl rfl (r_sub rfl rfl (by omega)) ?_
          refine l_val rfl rfl rfl (r_field Try.runUnderlying23 rfl Try.sizeOf3 rfl rfl) ?_
          refine l_store (i := 0) (vs := [_]) (cs' := [_, _, _, _]) Try.sizeOf3 rfl rfl rfl rfl rfl rfl rfl rfl rfl ?_
          refine l_nil ?_
          refine c_seq ?_
          refine c_region ?_
          refine l_loadN (i := 0) (vs := [_, _, _, _]) Try.isAgg23 Try.sizeOf23 rfl rfl rfl rfl rfl ?_
          refine l_store (i := 1) (vs := [_, _, _, _]) (cs' := [_, _, _, _]) Try.sizeOf23 rfl rfl rfl rfl rfl rfl rfl rfl rfl ?_
          refine l_nil ?_
          refine c_ret ?_
          refine retC (i := 1) (vs := [_, _, _, _]) Try.isAgg23 Try.sizeOf23 rfl rfl rfl rfl (fin ?_)
          refine box4 ?_
          unfold partB
          simp only [Prod.mk.injEq]
          simp only [ho1, ho2, ho3] at *
          refine ⟨?_, ?_, ?_, ?_⟩ <;> first | (simp [*]; done) | simp_all
        · refine l_val rfl rfl rfl (r_move (v := .bool _) rfl) ?_
          refine l_val rfl rfl rfl (r_move (v := .int _ _) rfl) ?_
          refine l_val rfl rfl rfl (r_eql rfl rfl) ?_
          refine splitD (fun h8 => ?_) (fun h8 => ?_)
          · refine l_val rfl rfl rfl (r_pickF (v := .bool _) rfl rfl) ?_
            refine l_nil ?_
            refine c_true rfl ?_
            refine c_region ?_
            refine l_val rfl rfl rfl (r_move (v := .int _ _) rfl) ?_
            refine l_val rfl rfl rfl (r_sub rfl rfl (by omega)) ?_
            refine l_val rfl rfl rfl (r_field Try.runUnderlying23 rfl Try.sizeOf3 rfl rfl) ?_
            refine l_store (i := 0) (vs := [_]) (cs' := [_, _, _, _]) Try.sizeOf3 rfl rfl rfl rfl rfl rfl rfl rfl rfl ?_
            refine l_nil ?_
            refine c_seq ?_
            refine c_region ?_
            refine l_loadN (i := 0) (vs := [_, _, _, _]) Try.isAgg23 Try.sizeOf23 rfl rfl rfl rfl rfl ?_
            refine l_store (i := 1) (vs := [_, _, _, _]) (cs' := [_, _, _, _]) Try.sizeOf23 rfl rfl rfl rfl rfl rfl rfl rfl rfl ?_
            refine l_nil ?_
            refine c_ret ?_
            refine retC (i := 1) (vs := [_, _, _, _]) Try.isAgg23 Try.sizeOf23 rfl rfl rfl rfl (fin ?_)
            refine box4 ?_
            unfold partB
            simp only [Prod.mk.injEq]
            simp only [ho1, ho2, ho3] at *
            refine ⟨?_, ?_, ?_, ?_⟩ <;> first | (simp [*]; done) | simp_all
          · refine l_val rfl rfl rfl (r_pickF (v := .bool _) rfl rfl) ?_
            refine l_nil ?_
            refine c_false rfl ?_
            refine c_region ?_
            refine l_val rfl rfl rfl (r_move (v := .int _ _) rfl) ?_
            refine l_val rfl rfl rfl (r_field Try.runUnderlying23 rfl Try.sizeOf3 rfl rfl) ?_
            refine l_store (i := 0) (vs := [_]) (cs' := [_, _, _, _]) Try.sizeOf3 rfl rfl rfl rfl rfl rfl rfl rfl rfl ?_
            refine l_nil ?_
            refine c_seq ?_
            refine c_region ?_
            refine l_loadN (i := 0) (vs := [_, _, _, _]) Try.isAgg23 Try.sizeOf23 rfl rfl rfl rfl rfl ?_
            refine l_store (i := 1) (vs := [_, _, _, _]) (cs' := [_, _, _, _]) Try.sizeOf23 rfl rfl rfl rfl rfl rfl rfl rfl rfl ?_
            refine l_nil ?_
            refine c_ret ?_
            refine retC (i := 1) (vs := [_, _, _, _]) Try.isAgg23 Try.sizeOf23 rfl rfl rfl rfl (fin ?_)
            refine box4 ?_
            unfold partB
            simp only [Prod.mk.injEq]
            simp only [ho1, ho2, ho3] at *
            refine ⟨?_, ?_, ?_, ?_⟩ <;> first | (simp [*]; done) | simp_all
    ) (by kernel_rfl)

theorem f74 (s : List UInt8) (g0 : s.length ≤ 24) : Ret Try.prog 74 [str s] (.agg #[.int .i64 (cellB s).1, .int .i64 (cellB s).2.1, .int .i64 (cellB s).2.2.1, .int .i64 (cellB s).2.2.2]) := by
  refine enterRet (n := 18) Try.func74 rfl rfl rfl (fun wd => ?_)
  refine c_seq ?_
  refine c_region ?_
  refine l_alloc (cs := [_, _, _, _]) Try.zeroValue23 rfl rfl rfl (fun b0 => ?_)
  refine l_nil ?_
  refine c_seq ?_
  refine c_region ?_
  refine l_val rfl rfl rfl (r_build (pl := #[(0, 1), (1, 1), (2, 1), (3, 1)]) (ps := [(0, .int _ _), (2, .int _ _), (1, .int _ _), (3, .int _ _)]) (cells := #[_, _, _, _]) Try.zeroValue23 Try.runUnderlying23 (fun w => by kernel_rfl) rfl rfl) ?_
  refine l_alloc (cs := [_, _, _, _]) Try.zeroValue23 rfl rfl rfl (fun b1 => ?_)
  refine l_store (i := 1) (vs := [_, _, _, _]) (cs' := [_, _, _, _]) Try.sizeOf23 rfl rfl rfl rfl rfl rfl rfl rfl rfl ?_
  refine l_nil ?_
  refine c_seq ?_
  refine c_seq ?_
  refine c_region ?_
  refine l_val rfl rfl rfl (r_move (v := str _) rfl) ?_
  refine l_val rfl rfl rfl (r_lenT Try.underlying9 rfl) ?_
  refine l_val rfl rfl rfl (r_move (v := .int _ _) rfl) ?_
  refine l_nil ?_
  refine c_block ?_
  refine c_loopK (σ := Nat) [4, 8, 9, 10, 11, 12, 13, 14, 15, 16] (fun k : Nat => [(8, .int .i64 (k : Int))]) (fun k => [(1, cellsC b1 [.int .i64 (cellB (s.take k)).1, .int .i64 (cellB (s.take k)).2.1, .int .i64 (cellB (s.take k)).2.2.1, .int .i64 (cellB (s.take k)).2.2.2] 23)]) (fun k => k ≤ s.length) (fun k => s.length - k) (0) (Nat.zero_le _) (by exact ⟨rfl, trivial⟩) rfl (fun k gg hI => ?_)
  refine c_seq ?_
  refine c_region ?_
  refine l_val rfl rfl rfl (r_lss rfl rfl) ?_
  refine splitD (fun h1 => ?_) (fun h1 => ?_)
  · refine l_nil ?_
    refine c_seq ?_
    refine c_true rfl ?_
    refine c_skip ?_
    refine c_seq ?_
    refine c_block ?_
    refine c_seq ?_
    refine c_region ?_
    refine l_val rfl rfl rfl (r_move (v := .int _ _) rfl) ?_
    refine l_val rfl rfl rfl (r_assign (v := .int _ _) rfl) ?_
    refine l_nil ?_
    have hw := wide_mono (cell_wide (s := s.take k) (by simp; omega)) (Nat.zero_le _)
    exact c_regionD (Kd.d [1] _ :: Kd.p :: Kd.p :: Kd.p :: Kd.d [] _ :: Kd.st 3 1 [_, _, _, _] 23 :: []) 0 mixed (by
      refine d_loadN (i := 1) (vs := [_, _, _, _]) Try.isAgg23 Try.sizeOf23 rfl rfl rfl rfl ?_
      refine d_val rfl rfl (r_move (v := str _) rfl) ?_
      refine d_val rfl rfl (r_move (v := .int _ _) rfl) ?_
      refine d_val rfl rfl (r_indexT Try.underlying9 rfl rfl (by omega) (by omega)) ?_
      refine d_call (f110 _ _ _ _ _ (by first | omega | assumption)) Try.call110 rfl rfl ?_
      refine d_store (i := 1) (vs := [_, _, _, _]) Try.sizeOf23 rfl rfl rfl rfl rfl rfl rfl rfl rfl ?_
      refine d_nil ?_
      refine c_region ?_
      refine l_val rfl rfl rfl (r_add rfl rfl (by omega)) ?_
      refine l_val rfl rfl rfl (r_move (v := .int _ _) rfl) ?_
      refine l_nil ?_
      rw [show partB (cellB (s.take k)) (s.getD ((k : Int)).toNat 0) = cellB (s.take (k + 1)) from (cell_take (by omega)).symm]
      refine c_roundK (k + 1) [0, 1] (by exact ⟨rfl, trivial⟩) (by repeat (first | exact Keeps.refl _ _ | exact Keeps.mix | refine Keeps.upd ?_ rfl | refine Keeps.mkE ?_ _ rfl | refine Keeps.mix2 ?_ rfl)) (by decide) rfl (by show k + 1 ≤ s.length; omega) (by omega)
      ) (by kernel_rfl)
  · refine l_nil ?_
    refine c_seq ?_
    refine c_false rfl ?_
    refine c_exit ?_
    refine c_seq ?_
    refine c_region ?_
    refine l_loadN (i := 1) (vs := [_, _, _, _]) Try.isAgg23 Try.sizeOf23 rfl rfl rfl rfl rfl ?_
    refine l_store (i := 0) (vs := [_, _, _, _]) (cs' := [_, _, _, _]) Try.sizeOf23 rfl rfl rfl rfl rfl rfl rfl rfl rfl ?_
    refine l_nil ?_
    refine c_ret ?_
    refine retC (i := 0) (vs := [_, _, _, _]) Try.isAgg23 Try.sizeOf23 rfl rfl rfl rfl (fin ?_)
    rw [List.take_of_length_le (by omega)]

theorem f71 (k : Nat) : ∀ (s1 w1 n1 e1 s2 w2 n2 e2 m : Int) (pre : List UInt8) (p : Option Addr × Nat) (ys : List (List UInt8)) (hk : (pre.length : Int) + k = m) (hm : m ≤ 24) (hb : boxS s1 w1 n1 e1 = 0) (hq : Wide k (s2, w2, n2, e2)) (hl : ys.length ≤ 1001) (w : World) (S : Nat → Prop) (hP : (rowV 9 1 (.slice p.1 ys.length p.2) ys.length (ys.map encS)).P S w) (hB : ∀ b, S b → b < w.heap.size), Does Try.prog 71 (List.toArray [.agg #[.int .i64 s1, .int .i64 w1, .int .i64 n1, .int .i64 e1], str pre, .agg #[.int .i64 s2, .int .i64 w2, .int .i64 n2, .int .i64 e2], .int .i64 m, .slice p.1 ys.length p.2]) w fun v w' => ∃ x : Option Addr × Nat, v = (.slice x.1 (coverG (s1, w1, n1, e1) k pre (s2, w2, n2, e2) ys).length x.2) ∧ Turn w w' S (rowV 9 1 (.slice x.1 (coverG (s1, w1, n1, e1) k pre (s2, w2, n2, e2) ys).length x.2) (coverG (s1, w1, n1, e1) k pre (s2, w2, n2, e2) ys).length ((coverG (s1, w1, n1, e1) k pre (s2, w2, n2, e2) ys).map encS)) := by
  induction k using Nat.strongRecOn with | _ k ih => ?_
  intro s1 w1 n1 e1 s2 w2 n2 e2 m pre p ys hk hm hb hq hl w S hP hB
  have hbq := wide_box hq
  refine enter (n := 48) Try.func71 rfl rfl rfl S [rowV 9 1 (.slice p.1 ys.length p.2) ys.length (ys.map encS)] (Sat.one hP hB) ?_
  refine c_seq ?_
  refine c_region ?_
  refine l_box (cs := [_, _, _, _]) rfl rfl rfl rfl (fun b1 => ?_)
  refine l_box (cs := [_, _, _, _]) rfl rfl rfl rfl (fun b2 => ?_)
  refine l_val rfl rfl rfl (r_assign (v := .slice _ _ _) rfl) ?_
  refine l_nil ?_
  refine c_seq ?_
  refine c_seq ?_
  refine c_region ?_
  refine l_val rfl rfl rfl (r_move (v := .slice _ _ _) rfl) ?_
  refine l_val rfl rfl rfl (r_len Try.underlying42 rfl) ?_
  refine l_val rfl rfl rfl (r_gtr rfl rfl) ?_
  refine splitD (fun h1 => ?_) (fun h1 => ?_)
  · refine l_val rfl rfl rfl (r_move (v := .bool _) rfl) ?_
    refine l_passed rfl rfl rfl ?_
    refine l_passed rfl rfl rfl ?_
    refine l_passed rfl rfl rfl ?_
    refine l_passed rfl rfl rfl ?_
    refine l_val rfl rfl rfl (r_pickT (v := .bool _) rfl rfl) ?_
    refine l_nil ?_
    refine c_true rfl ?_
    refine c_seq ?_
    refine c_region ?_
    refine l_val rfl rfl rfl (r_move (v := .slice _ _ _) rfl) ?_
    refine l_val rfl rfl rfl (r_assign (v := .slice _ _ _) rfl) ?_
    refine l_nil ?_
    refine c_ret ?_
    refine ret1 (v := .slice _ _ _) rfl rfl (finX p (i := 0) rfl ?_ ?_)
    · rw [show coverG (s1, w1, n1, e1) _ pre (s2, w2, n2, e2) ys = _ from (coverG_full (by omega))]; try rfl
    · exact Imp.of (by rw [show coverG (s1, w1, n1, e1) _ pre (s2, w2, n2, e2) ys = _ from (coverG_full (by omega))]; try rfl)
  · refine l_val rfl rfl rfl (r_move (v := .bool _) rfl) ?_
    refine l_loadN (i := 2) (vs := [_, _, _, _]) Try.isAgg23 Try.sizeOf23 rfl rfl rfl rfl rfl ?_
    refine l_loadN (i := 1) (vs := [_, _, _, _]) Try.isAgg23 Try.sizeOf23 rfl rfl rfl rfl rfl ?_
    refine l_call (f63 _ _ _ _ _ _ _ _ (by first | omega | assumption) (by first | omega | assumption)) Try.call63 rfl rfl rfl ?_
    refine split (fun h2 => ?_) (fun h2 => ?_)
    · refine l_val rfl rfl rfl (r_notT rfl) ?_
      refine l_val rfl rfl rfl (r_pickF (v := .bool _) rfl rfl) ?_
      refine l_nil ?_
      refine c_false rfl ?_
      refine c_skip ?_
      refine c_seq ?_
      refine c_seq ?_
      refine c_region ?_
      refine l_val rfl rfl rfl (r_move (v := str _) rfl) ?_
      refine l_val rfl rfl rfl (r_lenT Try.underlying9 rfl) ?_
      refine l_val rfl rfl rfl (r_move (v := .int _ _) rfl) ?_
      refine l_val rfl rfl rfl (r_eql rfl rfl) ?_
      refine splitD (fun h3 => ?_) (fun h3 => ?_)
      · refine l_nil ?_
        refine c_true rfl ?_
        refine c_seq ?_
        refine c_region ?_
        refine l_val rfl rfl rfl (r_move (v := .slice _ _ _) rfl) ?_
        refine l_val rfl rfl rfl (r_move (v := str _) rfl) ?_
        refine l_buildSlice (vs := [str _]) (cs := [_]) Try.underlying42 Try.sizeOf9 Try.zeroValue9 rfl rfl rfl rfl rfl rfl rfl (fun b3 => ?_)
        refine l_turn (turns_appendM (i := 0) (k := 3) (p := p) (sz := 1) (by_ := 16) (f := encS) (ys := ys) (ls := [_]) (z := str []) Try.underlying42 (info_of Try.typeInfo9) rfl rfl rfl rfl rfl rfl rfl rfl rfl rfl rfl rfl rfl rfl rfl (by simp only [List.length_append, List.length_cons, List.length_nil]; omega) rfl) rfl rfl rfl (fun p29 => ?_)
        refine l_val rfl rfl rfl (r_assign (v := .slice _ _ _) rfl) ?_
        refine l_nil ?_
        refine c_ret ?_
        refine ret1 (v := .slice _ _ _) rfl rfl (finX p29 (i := 0) rfl ?_ ?_)
        · rw [show coverG (s1, w1, n1, e1) _ pre (s2, w2, n2, e2) ys = _ from (coverG_leaf (by omega) (by omega) (by simpa [meetsB] using h2))]; try rfl
        · exact Imp.of (by rw [show coverG (s1, w1, n1, e1) _ pre (s2, w2, n2, e2) ys = _ from (coverG_leaf (by omega) (by omega) (by simpa [meetsB] using h2))]; try rfl)
      · refine l_nil ?_
        refine c_false rfl ?_
        refine c_skip ?_
        refine c_seq ?_
        refine c_seq ?_
        obtain ⟨k, rfl⟩ : ∃ j, k = j + 1 := ⟨k - 1, by omega⟩
        refine c_region ?_
        refine l_val rfl rfl rfl (r_move (v := .int _ _) rfl) ?_
        refine l_nil ?_
        refine c_block ?_
        refine c_unroll 5 ?_
        refine c_once ?_
        refine c_seq ?_
        refine c_region ?_
        refine l_val rfl rfl rfl (r_decT (r_lss rfl rfl) (by decide)) ?_
        refine l_nil ?_
        refine c_seq ?_
        refine c_true rfl ?_
        refine c_skip ?_
        refine c_seq ?_
        refine c_block ?_
        refine c_seq ?_
        refine c_region ?_
        refine l_val rfl rfl rfl (r_move (v := .int _ _) rfl) ?_
        refine l_val rfl rfl rfl (r_assign (v := .int _ _) rfl) ?_
        refine l_nil ?_
        have hq0 := wide_mono hq (Nat.zero_le _)
        exact c_regionD (Kd.d [1] _ :: Kd.p :: Kd.p :: Kd.p :: Kd.p :: Kd.p :: Kd.p :: Kd.d [2] _ :: Kd.p :: Kd.d [] _ :: Kd.p :: Kd.p :: Kd.t 0 [] _ _ :: Kd.p :: []) 0 mixed (by
          refine d_loadN (i := 1) (vs := [_, _, _, _]) Try.isAgg23 Try.sizeOf23 rfl rfl rfl rfl ?_
          refine d_val rfl rfl (r_move (v := str _) rfl) ?_
          refine d_val rfl rfl (r_move (v := .int _ _) rfl) ?_
          refine d_val rfl rfl (r_add rfl rfl (by omega)) ?_
          refine d_val rfl rfl (r_convInt Try.runUnderlying3 Try.runUnderlying21 rfl (win_i32 (by omega))) ?_
          refine d_val rfl rfl (r_convRune Try.runUnderlying21 Try.runUnderlying9 rfl (by omega) (by omega) (c := 48) (by rfl)) ?_
          refine d_val rfl rfl (r_concat rfl rfl (by simp; omega)) ?_
          refine d_loadN (i := 2) (vs := [_, _, _, _]) Try.isAgg23 Try.sizeOf23 rfl rfl rfl rfl ?_
          refine d_val rfl rfl (r_move (v := .int _ _) rfl) ?_
          refine d_call (f109 _ _ _ _ _ (by first | omega | assumption) (by first | omega | assumption)) Try.call109 rfl rfl ?_
          refine d_val rfl rfl (r_move (v := .int _ _) rfl) ?_
          refine d_val rfl rfl (r_move (v := .slice _ _ _) rfl) ?_
          refine d_turn (Cv := fun v => rowV 9 1 v ((coverG (s1, w1, n1, e1) k (pre ++ [48]) (quarterB (s2, w2, n2, e2) 0) ys)).length (((coverG (s1, w1, n1, e1) k (pre ++ [48]) (quarterB (s2, w2, n2, e2) 0) ys)).map encS)) (none, 0) (turns_call (i := 0) (G := _) (C := _) rfl (fun w L' S hF hS hi hP hB => ih k (by omega) s1 w1 n1 e1 (quarterB (s2, w2, n2, e2) 0).1 (quarterB (s2, w2, n2, e2) 0).2.1 (quarterB (s2, w2, n2, e2) 0).2.2.1 (quarterB (s2, w2, n2, e2) 0).2.2.2 m (pre ++ [48]) _ ys (by simp only [List.length_append, List.length_cons, List.length_nil]; omega) hm hb (wide_quarter hq 0) (by repeat (first | exact hl | apply coverG_le)) w S hP hB) Try.call71 rfl) (fun _ => rfl) rfl rfl (fun p45 => ?_)
          refine d_val rfl rfl (r_assign (v := .slice _ _ _) rfl) ?_
          refine d_nil ?_
          refine c_region ?_
          refine l_val rfl rfl rfl (r_add rfl rfl (by omega)) ?_
          refine l_val rfl rfl rfl (r_move (v := .int _ _) rfl) ?_
          refine l_nil ?_
          refine c_once ?_
          refine c_seq ?_
          refine c_region ?_
          refine l_val rfl rfl rfl (r_decT (r_lss rfl rfl) (by decide)) ?_
          refine l_nil ?_
          refine c_seq ?_
          refine c_true rfl ?_
          refine c_skip ?_
          refine c_seq ?_
          refine c_block ?_
          refine c_seq ?_
          refine c_region ?_
          refine l_val rfl rfl rfl (r_move (v := .int _ _) rfl) ?_
          refine l_val rfl rfl rfl (r_assign (v := .int _ _) rfl) ?_
          refine l_nil ?_
          have hq0 := wide_mono hq (Nat.zero_le _)
          exact c_regionD (Kd.d [1] _ :: Kd.p :: Kd.p :: Kd.p :: Kd.p :: Kd.p :: Kd.p :: Kd.d [2] _ :: Kd.p :: Kd.d [] _ :: Kd.p :: Kd.p :: Kd.t 0 [] _ _ :: Kd.p :: []) 0 mixed (by
            refine d_loadN (i := 1) (vs := [_, _, _, _]) Try.isAgg23 Try.sizeOf23 rfl rfl rfl rfl ?_
            refine d_val rfl rfl (r_move (v := str _) rfl) ?_
            refine d_val rfl rfl (r_move (v := .int _ _) rfl) ?_
            refine d_val rfl rfl (r_add rfl rfl (by omega)) ?_
            refine d_val rfl rfl (r_convInt Try.runUnderlying3 Try.runUnderlying21 rfl (win_i32 (by omega))) ?_
            refine d_val rfl rfl (r_convRune Try.runUnderlying21 Try.runUnderlying9 rfl (by omega) (by omega) (c := 49) (by rfl)) ?_
            refine d_val rfl rfl (r_concat rfl rfl (by simp; omega)) ?_
            refine d_loadN (i := 2) (vs := [_, _, _, _]) Try.isAgg23 Try.sizeOf23 rfl rfl rfl rfl ?_
            refine d_val rfl rfl (r_move (v := .int _ _) rfl) ?_
            refine d_call (f109 _ _ _ _ _ (by first | omega | assumption) (by first | omega | assumption)) Try.call109 rfl rfl ?_
            refine d_val rfl rfl (r_move (v := .int _ _) rfl) ?_
            refine d_val rfl rfl (r_move (v := .slice _ _ _) rfl) ?_
            refine d_turn (Cv := fun v => rowV 9 1 v ((coverG (s1, w1, n1, e1) k (pre ++ [49]) (quarterB (s2, w2, n2, e2) 1) (coverG (s1, w1, n1, e1) k (pre ++ [48]) (quarterB (s2, w2, n2, e2) 0) ys))).length (((coverG (s1, w1, n1, e1) k (pre ++ [49]) (quarterB (s2, w2, n2, e2) 1) (coverG (s1, w1, n1, e1) k (pre ++ [48]) (quarterB (s2, w2, n2, e2) 0) ys))).map encS)) (none, 0) (turns_call (i := 0) (G := _) (C := _) rfl (fun w L' S hF hS hi hP hB => ih k (by omega) s1 w1 n1 e1 (quarterB (s2, w2, n2, e2) 1).1 (quarterB (s2, w2, n2, e2) 1).2.1 (quarterB (s2, w2, n2, e2) 1).2.2.1 (quarterB (s2, w2, n2, e2) 1).2.2.2 m (pre ++ [49]) _ (coverG (s1, w1, n1, e1) k (pre ++ [48]) (quarterB (s2, w2, n2, e2) 0) ys) (by simp only [List.length_append, List.length_cons, List.length_nil]; omega) hm hb (wide_quarter hq 1) (by repeat (first | exact hl | apply coverG_le)) w S hP hB) Try.call71 rfl) (fun _ => rfl) rfl rfl (fun p45 => ?_)
            refine d_val rfl rfl (r_assign (v := .slice _ _ _) rfl) ?_
            refine d_nil ?_
            refine c_region ?_
            refine l_val rfl rfl rfl (r_add rfl rfl (by omega)) ?_
            refine l_val rfl rfl rfl (r_move (v := .int _ _) rfl) ?_
            refine l_nil ?_
            refine c_once ?_
            refine c_seq ?_
            refine c_region ?_
            refine l_val rfl rfl rfl (r_decT (r_lss rfl rfl) (by decide)) ?_
            refine l_nil ?_
            refine c_seq ?_
            refine c_true rfl ?_
            refine c_skip ?_
            refine c_seq ?_
            refine c_block ?_
            refine c_seq ?_
            refine c_region ?_
            refine l_val rfl rfl rfl (r_move (v := .int _ _) rfl) ?_
            refine l_val rfl rfl rfl (r_assign (v := .int _ _) rfl) ?_
            refine l_nil ?_
            have hq0 := wide_mono hq (Nat.zero_le _)
            exact c_regionD (Kd.d [1] _ :: Kd.p :: Kd.p :: Kd.p :: Kd.p :: Kd.p :: Kd.p :: Kd.d [2] _ :: Kd.p :: Kd.d [] _ :: Kd.p :: Kd.p :: Kd.t 0 [] _ _ :: Kd.p :: []) 0 mixed (by
              refine d_loadN (i := 1) (vs := [_, _, _, _]) Try.isAgg23 Try.sizeOf23 rfl rfl rfl rfl ?_
              refine d_val rfl rfl (r_move (v := str _) rfl) ?_
              refine d_val rfl rfl (r_move (v := .int _ _) rfl) ?_
              refine d_val rfl rfl (r_add rfl rfl (by omega)) ?_
              refine d_val rfl rfl (r_convInt Try.runUnderlying3 Try.runUnderlying21 rfl (win_i32 (by omega))) ?_
              refine d_val rfl rfl (r_convRune Try.runUnderlying21 Try.runUnderlying9 rfl (by omega) (by omega) (c := 50) (by rfl)) ?_
              refine d_val rfl rfl (r_concat rfl rfl (by simp; omega)) ?_
              refine d_loadN (i := 2) (vs := [_, _, _, _]) Try.isAgg23 Try.sizeOf23 rfl rfl rfl rfl ?_
              refine d_val rfl rfl (r_move (v := .int _ _) rfl) ?_
              refine d_call (f109 _ _ _ _ _ (by first | omega | assumption) (by first | omega | assumption)) Try.call109 rfl rfl ?_
              refine d_val rfl rfl (r_move (v := .int _ _) rfl) ?_
              refine d_val rfl rfl (r_move (v := .slice _ _ _) rfl) ?_
              refine d_turn (Cv := fun v => rowV 9 1 v ((coverG (s1, w1, n1, e1) k (pre ++ [50]) (quarterB (s2, w2, n2, e2) 2) (coverG (s1, w1, n1, e1) k (pre ++ [49]) (quarterB (s2, w2, n2, e2) 1) (coverG (s1, w1, n1, e1) k (pre ++ [48]) (quarterB (s2, w2, n2, e2) 0) ys)))).length (((coverG (s1, w1, n1, e1) k (pre ++ [50]) (quarterB (s2, w2, n2, e2) 2) (coverG (s1, w1, n1, e1) k (pre ++ [49]) (quarterB (s2, w2, n2, e2) 1) (coverG (s1, w1, n1, e1) k (pre ++ [48]) (quarterB (s2, w2, n2, e2) 0) ys)))).map encS)) (none, 0) (turns_call (i := 0) (G := _) (C := _) rfl (fun w L' S hF hS hi hP hB => ih k (by omega) s1 w1 n1 e1 (quarterB (s2, w2, n2, e2) 2).1 (quarterB (s2, w2, n2, e2) 2).2.1 (quarterB (s2, w2, n2, e2) 2).2.2.1 (quarterB (s2, w2, n2, e2) 2).2.2.2 m (pre ++ [50]) _ (coverG (s1, w1, n1, e1) k (pre ++ [49]) (quarterB (s2, w2, n2, e2) 1) (coverG (s1, w1, n1, e1) k (pre ++ [48]) (quarterB (s2, w2, n2, e2) 0) ys)) (by simp only [List.length_append, List.length_cons, List.length_nil]; omega) hm hb (wide_quarter hq 2) (by repeat (first | exact hl | apply coverG_le)) w S hP hB) Try.call71 rfl) (fun _ => rfl) rfl rfl (fun p45 => ?_)
              refine d_val rfl rfl (r_assign (v := .slice _ _ _) rfl) ?_
              refine d_nil ?_
              refine c_region ?_
              refine l_val rfl rfl rfl (r_add rfl rfl (by omega)) ?_
              refine l_val rfl rfl rfl (r_move (v := .int _ _) rfl) ?_
              refine l_nil ?_
              refine c_once ?_
              refine c_seq ?_
              refine c_region ?_
              refine l_val rfl rfl rfl (r_decT (r_lss rfl rfl) (by decide)) ?_
              refine l_nil ?_
              refine c_seq ?_
              refine c_true rfl ?_
              refine c_skip ?_
              refine c_seq ?_
              refine c_block ?_
              refine c_seq ?_
              refine c_region ?_
              refine l_val rfl rfl rfl (r_move (v := .int _ _) rfl) ?_
              refine l_val rfl rfl rfl (r_assign (v := .int _ _) rfl) ?_
              refine l_nil ?_
              have hq0 := wide_mono hq (Nat.zero_le _)
              exact c_regionD (Kd.d [1] _ :: Kd.p :: Kd.p :: Kd.p :: Kd.p :: Kd.p :: Kd.p :: Kd.d [2] _ :: Kd.p :: Kd.d [] _ :: Kd.p :: Kd.p :: Kd.t 0 [] _ _ :: Kd.p :: []) 0 mixed (by
                refine d_loadN (i := 1) (vs := [_, _, _, _]) Try.isAgg23 Try.sizeOf23 rfl rfl rfl rfl ?_
                refine d_val rfl rfl (r_move (v := str _) rfl) ?_
                refine d_val rfl rfl (r_move (v := .int _ _) rfl) ?_
                refine d_val rfl rfl (r_add rfl rfl (by omega)) ?_
                refine d_val rfl rfl (r_convInt Try.runUnderlying3 Try.runUnderlying21 rfl (win_i32 (by omega))) ?_
                refine d_val rfl rfl (r_convRune Try.runUnderlying21 Try.runUnderlying9 rfl (by omega) (by omega) (c := 51) (by rfl)) ?_
                refine d_val rfl rfl (r_concat rfl rfl (by simp; omega)) ?_
                refine d_loadN (i := 2) (vs := [_, _, _, _]) Try.isAgg23 Try.sizeOf23 rfl rfl rfl rfl ?_
                refine d_val rfl rfl (r_move (v := .int _ _) rfl) ?_
                refine d_call (f109 _ _ _ _ _ (by first | omega | assumption) (by first | omega | assumption)) Try.call109 rfl rfl ?_
                refine d_val rfl rfl (r_move (v := .int _ _) rfl) ?_
                refine d_val rfl rfl (r_move (v := .slice _ _ _) rfl) ?_
                refine d_turn (Cv := fun v => rowV 9 1 v ((coverG (s1, w1, n1, e1) k (pre ++ [51]) (quarterB (s2, w2, n2, e2) 3) (coverG (s1, w1, n1, e1) k (pre ++ [50]) (quarterB (s2, w2, n2, e2) 2) (coverG (s1, w1, n1, e1) k (pre ++ [49]) (quarterB (s2, w2, n2, e2) 1) (coverG (s1, w1, n1, e1) k (pre ++ [48]) (quarterB (s2, w2, n2, e2) 0) ys))))).length (((coverG (s1, w1, n1, e1) k (pre ++ [51]) (quarterB (s2, w2, n2, e2) 3) (coverG (s1, w1, n1, e1) k (pre ++ [50]) (quarterB (s2, w2, n2, e2) 2) (coverG (s1, w1, n1, e1) k (pre ++ [49]) (quarterB (s2, w2, n2, e2) 1) (coverG (s1, w1, n1, e1) k (pre ++ [48]) (quarterB (s2, w2, n2, e2) 0) ys))))).map encS)) (none, 0) (turns_call (i := 0) (G := _) (C := _) rfl (fun w L' S hF hS hi hP hB => ih k (by omega) s1 w1 n1 e1 (quarterB (s2, w2, n2, e2) 3).1 (quarterB (s2, w2, n2, e2) 3).2.1 (quarterB (s2, w2, n2, e2) 3).2.2.1 (quarterB (s2, w2, n2, e2) 3).2.2.2 m (pre ++ [51]) _ (coverG (s1, w1, n1, e1) k (pre ++ [50]) (quarterB (s2, w2, n2, e2) 2) (coverG (s1, w1, n1, e1) k (pre ++ [49]) (quarterB (s2, w2, n2, e2) 1) (coverG (s1, w1, n1, e1) k (pre ++ [48]) (quarterB (s2, w2, n2, e2) 0) ys))) (by simp only [List.length_append, List.length_cons, List.length_nil]; omega) hm hb (wide_quarter hq 3) (by repeat (first | exact hl | apply coverG_le)) w S hP hB) Try.call71 rfl) (fun _ => rfl) rfl rfl (fun p45 => ?_)
                refine d_val rfl rfl (r_assign (v := .slice _ _ _) rfl) ?_
                refine d_nil ?_
                refine c_region ?_
                refine l_val rfl rfl rfl (r_add rfl rfl (by omega)) ?_
                refine l_val rfl rfl rfl (r_move (v := .int _ _) rfl) ?_
                refine l_nil ?_
                refine c_once ?_
                refine c_seq ?_
                refine c_region ?_
                refine l_val rfl rfl rfl (r_decF (r_lss rfl rfl) (by decide)) ?_
                refine l_nil ?_
                refine c_seq ?_
                refine c_false rfl ?_
                refine c_exit ?_
                refine c_seq ?_
                refine c_region ?_
                refine l_val rfl rfl rfl (r_move (v := .slice _ _ _) rfl) ?_
                refine l_val rfl rfl rfl (r_assign (v := .slice _ _ _) rfl) ?_
                refine l_nil ?_
                refine c_ret ?_
                refine ret1 (v := .slice _ _ _) rfl rfl (finX p45 (i := 0) rfl ?_ ?_)
                · rw [show coverG (s1, w1, n1, e1) _ pre (s2, w2, n2, e2) ys = _ from (coverG_node (by omega) (by simpa [meetsB] using h2))]; try rfl
                · exact Imp.of (by rw [show coverG (s1, w1, n1, e1) _ pre (s2, w2, n2, e2) ys = _ from (coverG_node (by omega) (by simpa [meetsB] using h2))]; try rfl)
                ) (by kernel_rfl)
              ) (by kernel_rfl)
            ) (by kernel_rfl)
          ) (by kernel_rfl)
    · refine l_val rfl rfl rfl (r_notF rfl) ?_
      refine l_val rfl rfl rfl (r_pickF (v := .bool _) rfl rfl) ?_
      refine l_nil ?_
      refine c_true rfl ?_
      refine c_seq ?_
      refine c_region ?_
      refine l_val rfl rfl rfl (r_move (v := .slice _ _ _) rfl) ?_
      refine l_val rfl rfl rfl (r_assign (v := .slice _ _ _) rfl) ?_
      refine l_nil ?_
      refine c_ret ?_
      refine ret1 (v := .slice _ _ _) rfl rfl (finX p (i := 0) rfl ?_ ?_)
      · rw [show coverG (s1, w1, n1, e1) _ pre (s2, w2, n2, e2) ys = _ from (coverG_miss (by simpa [meetsB] using h2))]; try rfl
      · exact Imp.of (by rw [show coverG (s1, w1, n1, e1) _ pre (s2, w2, n2, e2) ys = _ from (coverG_miss (by simpa [meetsB] using h2))]; try rfl)

end Go.Proofs.Ytfgehlmdcllclaa
