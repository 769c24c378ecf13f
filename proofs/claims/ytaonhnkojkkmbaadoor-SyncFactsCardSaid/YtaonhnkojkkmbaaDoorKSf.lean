/- SyncFacts: the walks, printed by our generator; each follows its model. Conditions: the model yields a value. -/
import Derived.Test.YtaonhnkojkkmbaaDoorKSa
namespace Go.Proofs.YtaonhnkojkkmbaaDoor
open Go Go.Vc Go.Md Go.M Go.Lx
set_option maxRecDepth 100000
set_option maxHeartbeats 4000000
set_option linter.unusedVariables false

theorem k26 {a0 : Int} {r : (Option T_sync_Replica) × Int} {w : World} {h : Heap} (hw : Know h w noS) (H : sync_New a0 = some r) : Does Tryd.prog 26 (List.toArray [.int .i64 a0]) w (fun v w' => ∃ x : Nat × (Option Addr × Nat), v = (.tuple #[optP r.1 x.1, .int .i64 r.2]) ∧ Turn w w' noS (obxC (optP r.1 x.1) r.1 x.1 (fun z : T_sync_Replica => bothC (cellsC x.1 [.int .i64 z.device_, .int .i64 (z.knows_ 0), .int .i64 (z.knows_ 1), .int .i64 (z.knows_ 2), .int .i64 (z.knows_ 3), .int .i64 (z.knows_ 4), .int .i64 (z.knows_ 5), .int .i64 (z.knows_ 6), .int .i64 (z.knows_ 7), .int .i64 (z.knows_ 8), .int .i64 (z.knows_ 9), .int .i64 (z.knows_ 10), .int .i64 (z.knows_ 11), .int .i64 (z.knows_ 12), .int .i64 (z.knows_ 13), .int .i64 (z.knows_ 14), .int .i64 (z.knows_ 15), .slice x.2.1 z.facts_.length x.2.2] 111) (roV 8 (.slice x.2.1 z.facts_.length x.2.2) z.facts_.length (z.facts_.map e_sync_Fact))))) := by
  refine enter (n := 9) Tryd.func26 rfl rfl rfl noS [] (Sat.nil _ _) ?_
  refine c_seq ?_
  refine c_region ?_
  refine l_val rfl rfl rfl (r_assign (v := .pointer none) rfl) ?_
  refine l_val rfl rfl rfl (r_assign (v := .int .i64 0) rfl) ?_
  refine l_nil ?_
  refine c_seq ?_
  refine c_seq ?_
  refine c_region ?_
  refine l_val rfl rfl rfl (r_move (v := .int .i64 a0) rfl) ?_
  obtain ⟨t5, h_t5, H4⟩ := bnd_some H; clear H
  refine l_call (k62 h_t5) Tryd.call62 rfl rfl rfl ?_
  refine l_nil ?_
  refine c_if (b := t5) rfl (fun hb => ?_) (fun hb => ?_)
  · have H5 := cnd_t hb H4; clear H4
    refine c_seq ?_
    refine c_region ?_
    refine l_val rfl rfl rfl (r_assign (v := .pointer none) rfl) ?_
    refine l_val rfl rfl rfl (r_assign (v := .int .i64 2) rfl) ?_
    refine l_nil ?_
    refine c_ret ?_
    refine c_emp ?_
    refine c_imp 0 rfl (imp_obxNil (b := 0) (fun z : T_sync_Replica => bothC (cellsC 0 [.int .i64 z.device_, .int .i64 (z.knows_ 0), .int .i64 (z.knows_ 1), .int .i64 (z.knows_ 2), .int .i64 (z.knows_ 3), .int .i64 (z.knows_ 4), .int .i64 (z.knows_ 5), .int .i64 (z.knows_ 6), .int .i64 (z.knows_ 7), .int .i64 (z.knows_ 8), .int .i64 (z.knows_ 9), .int .i64 (z.knows_ 10), .int .i64 (z.knows_ 11), .int .i64 (z.knows_ 12), .int .i64 (z.knows_ 13), .int .i64 (z.knows_ 14), .int .i64 (z.knows_ 15), .slice ((none, 0) : Option Addr × Nat).1 z.facts_.length ((none, 0) : Option Addr × Nat).2] 111) (roV 8 (.slice ((none, 0) : Option Addr × Nat).1 z.facts_.length ((none, 0) : Option Addr × Nat).2) z.facts_.length (z.facts_.map e_sync_Fact)))) ?_
    obtain rfl := Option.some.inj H5
    refine ret2 (v1 := optP (none : Option T_sync_Replica) 0) (v2 := .int .i64 2) rfl rfl rfl (finX (0, ((none, 0) : Option Addr × Nat)) (i := 0) rfl rfl (Imp.refl _))
  · have H6 := cnd_f hb H4; clear H4
    refine c_skip ?_
    refine c_seq ?_
    refine c_region ?_
    refine l_val rfl rfl rfl (r_move (v := .int .i64 a0) rfl) ?_
    refine l_val rfl rfl rfl (r_build (pl := #[(0, 1), (1, 16), (17, 1)]) (ps := [(0, .int .i64 a0)]) (cells := #[.int .i64 a0, .int .i64 0, .int .i64 0, .int .i64 0, .int .i64 0, .int .i64 0, .int .i64 0, .int .i64 0, .int .i64 0, .int .i64 0, .int .i64 0, .int .i64 0, .int .i64 0, .int .i64 0, .int .i64 0, .int .i64 0, .int .i64 0, .slice none 0 0]) Tryd.zeroValue111 Tryd.runUnderlying111 (fun w => by kernel_rfl) rfl (by kernel_rfl)) ?_
    refine l_box (cs := [.int .i64 a0, .int .i64 0, .int .i64 0, .int .i64 0, .int .i64 0, .int .i64 0, .int .i64 0, .int .i64 0, .int .i64 0, .int .i64 0, .int .i64 0, .int .i64 0, .int .i64 0, .int .i64 0, .int .i64 0, .int .i64 0, .int .i64 0, .slice none 0 0]) rfl rfl rfl rfl (fun b1 => ?_)
    refine l_val rfl rfl rfl (r_assign (v := .pointer (some ⟨b1, 0, none⟩)) rfl) ?_
    refine l_val rfl rfl rfl (r_assign (v := .int .i64 0) rfl) ?_
    refine l_nil ?_
    refine c_ret ?_
    refine c_nilRow 52 8 ?_
    refine c_imp 1 rfl (row_ro _ _ _ _ _) ?_
    refine c_both 0 1 rfl rfl (by decide) ?_
    refine c_imp 0 rfl (imp_obx (b := b1) (z := (⟨a0, (fun _ => 0), ([] : List T_sync_Fact)⟩ : T_sync_Replica)) (fun z : T_sync_Replica => bothC (cellsC b1 [.int .i64 z.device_, .int .i64 (z.knows_ 0), .int .i64 (z.knows_ 1), .int .i64 (z.knows_ 2), .int .i64 (z.knows_ 3), .int .i64 (z.knows_ 4), .int .i64 (z.knows_ 5), .int .i64 (z.knows_ 6), .int .i64 (z.knows_ 7), .int .i64 (z.knows_ 8), .int .i64 (z.knows_ 9), .int .i64 (z.knows_ 10), .int .i64 (z.knows_ 11), .int .i64 (z.knows_ 12), .int .i64 (z.knows_ 13), .int .i64 (z.knows_ 14), .int .i64 (z.knows_ 15), .slice ((none, 0) : Option Addr × Nat).1 z.facts_.length ((none, 0) : Option Addr × Nat).2] 111) (roV 8 (.slice ((none, 0) : Option Addr × Nat).1 z.facts_.length ((none, 0) : Option Addr × Nat).2) z.facts_.length (z.facts_.map e_sync_Fact)))) ?_
    obtain rfl := Option.some.inj H6
    refine ret2 (v1 := optP (some (⟨a0, (fun _ => 0), ([] : List T_sync_Fact)⟩ : T_sync_Replica)) b1) (v2 := .int .i64 0) rfl rfl rfl (finX (b1, ((none, 0) : Option Addr × Nat)) (i := 0) rfl rfl (Imp.refl _))
theorem k27 {a0 : Bool} {a1 : Int} {r : Int} (H : Law_unless a0 a1 = some r) : Ret Tryd.prog 27 [.bool a0, .int .i64 a1] (.int .i64 r) := by
  refine enterRet (n := 7) Tryd.func27 rfl rfl rfl (fun wd => ?_)
  refine c_seq ?_
  refine c_region ?_
  refine l_val rfl rfl rfl (r_assign (v := .int .i64 0) rfl) ?_
  refine l_nil ?_
  refine c_seq ?_
  refine c_seq ?_
  refine c_region ?_
  refine l_val rfl rfl rfl (r_move (v := .bool a0) rfl) ?_
  refine l_nil ?_
  refine c_if (b := a0) rfl (fun hb => ?_) (fun hb => ?_)
  · have H3 := cnd_t hb H; clear H
    refine c_seq ?_
    refine c_region ?_
    refine l_val rfl rfl rfl (r_assign (v := .int .i64 0) rfl) ?_
    refine l_nil ?_
    refine c_ret ?_
    obtain rfl := Option.some.inj H3
    refine ret1 (v := .int .i64 0) rfl rfl (fin rfl)
  · have H4 := cnd_f hb H; clear H
    refine c_skip ?_
    refine c_seq ?_
    refine c_region ?_
    refine l_val rfl rfl rfl (r_move (v := .int .i64 a1) rfl) ?_
    refine l_val rfl rfl rfl (r_assign (v := .int .i64 a1) rfl) ?_
    refine l_nil ?_
    refine c_ret ?_
    obtain rfl := Option.some.inj H4
    refine ret1 (v := .int .i64 a1) rfl rfl (fin rfl)
theorem k69 {a : Option Addr} {n c : Nat} (hc : n ≤ c) : Ret Tryd.prog 69 [.slice a n c] (.slice (cutA a 0 n 8) n n) := by
  refine enterRet (n := 9) Tryd.func69 rfl rfl rfl (fun wd => ?_)
  refine c_seq ?_
  refine c_region ?_
  refine l_val rfl rfl rfl (r_assign (v := .slice none 0 0) rfl) ?_
  refine l_nil ?_
  refine c_seq ?_
  refine c_region ?_
  refine l_val rfl rfl rfl (r_move (v := .slice a n c) rfl) ?_
  refine l_val rfl rfl rfl (r_move (v := .slice a n c) rfl) ?_
  refine l_val rfl rfl rfl (r_len Tryd.underlying62 rfl) ?_
  refine l_val rfl rfl rfl (r_move (v := .slice a n c) rfl) ?_
  refine l_val rfl rfl rfl (r_len Tryd.underlying62 rfl) ?_
  refine l_val rfl rfl rfl (r_sliceHM (a := a) (m := n) (c := c) (h := (n : Int)) (q := (n : Int)) Tryd.underlying62 Tryd.sizeOf52 rfl rfl rfl (Int.natCast_nonneg n) (Int.le_refl _) (Int.ofNat_le.2 hc)) ?_
  refine l_val rfl rfl rfl (r_assign (v := .slice (cutA a 0 n 8) n n) rfl) ?_
  refine l_nil ?_
  refine c_ret ?_
  exact ret1 (v := .slice (cutA a 0 n 8) n n) rfl rfl (fin rfl)

theorem k70 {a0 : (List T_sync_Fact)} {v0 : Value} {r : (List T_sync_Fact)} {w : World} {h : Heap} (hw : Know h w noS) (f0 : FrS h 8 v0 (a0.map e_sync_Fact)) (H : slices_Clone_sync_Fact a0 = some r) : Does Tryd.prog 70 (List.toArray [v0]) w (fun v w' => ∃ x : (Option Addr × Nat), v = (.slice x.1 r.length x.2) ∧ Turn w w' noS (rowV 52 8 (.slice x.1 r.length x.2) r.length (r.map e_sync_Fact))) := by
  refine enter (n := 8) Tryd.func70 rfl rfl rfl noS [] (Sat.nil _ _) ?_
  refine c_seq ?_
  refine c_region ?_
  refine l_val rfl rfl rfl (r_assign (v := .slice none 0 0) rfl) ?_
  refine l_nil ?_
  refine c_seq ?_
  refine c_seq ?_
  refine c_region ?_
  refine l_val rfl rfl rfl (r_move (v := v0) rfl) ?_
  refine l_val rfl rfl rfl (r_eqlNilS Tryd.underlying62 f0 rfl rfl) ?_
  refine l_nil ?_
  refine c_if (b := isNilV v0) rfl (fun hb => ?_) (fun hb => ?_)
  · have hn_ : a0 = [] := f0.nilV hb
    have H3 : some ([] : List T_sync_Fact) = some r := by have h_ := H; rw [hn_] at h_; exact h_
    refine c_seq ?_
    refine c_region ?_
    refine l_val rfl rfl rfl (r_assign (v := .slice none 0 0) rfl) ?_
    refine l_nil ?_
    refine c_ret ?_
    refine c_nilRow 52 8 ?_
    obtain rfl := Option.some.inj H3
    refine ret1 (v := .slice ((none, 0) : Option Addr × Nat).1 ([] : List T_sync_Fact).length ((none, 0) : Option Addr × Nat).2) rfl rfl (finX ((none, 0) : Option Addr × Nat) (i := 0) rfl rfl (Imp.refl _))
  · skip
    refine c_skip ?_
    refine c_seq ?_
    refine c_region ?_
    refine l_buildSlice (vs := []) (cs := []) Tryd.underlying62 Tryd.sizeOf52 Tryd.zeroValue52 rfl rfl rfl rfl rfl rfl rfl (fun b1 => ?_)
    refine l_val rfl rfl rfl (r_move (v := v0) rfl) ?_
    refine c_imp 0 rfl (imp_box (m := 0) (E := 52) (sz := 8) (xs := (([] : List T_sync_Fact)).map e_sync_Fact) rfl rfl rfl ⟨rfl, by decide⟩) ?_
    obtain ⟨l7, h_l7, H4⟩ := bnd_some H; clear H
    refine l_turn (turns_appG (i := 0) (hn := rfl) (rds := []) (p := ((some ⟨b1, 0, none⟩, 0) : Option Addr × Nat)) (sz := 8) (by_ := 80) (f := e_sync_Fact) (ys := ([] : List T_sync_Fact)) (ls := a0) (V := v0) Tryd.underlying62 (info_of Tryd.typeInfo52) rfl rfl rfl rfl rfl rfl rfl rfl f0.eq (List.length_map _) (fun w L' hF hS hi => (f0).row (hw.now hF)) (fun _ => rfl) (fun _ => rfl) h_l7) rfl rfl rfl (fun p => ?_)
    refine l_val rfl rfl rfl (r_assign (v := .slice p.1 l7.length p.2) rfl) ?_
    refine l_nil ?_
    refine c_ret ?_
    obtain rfl := Option.some.inj H4
    refine ret1 (v := .slice p.1 l7.length p.2) rfl rfl (finX p (i := 0) rfl rfl (Imp.refl _))
theorem k33 {a0 : T_sync_Replica} {v0_2 : Value} {pb0 : Nat} {r : (List T_sync_Fact)} {w : World} {h : Heap} (hw : Know h w noS) (f0_2 : FrS h 8 v0_2 (a0.facts_.map e_sync_Fact)) (hb0 : h pb0 = some (.cells (List.toArray [.int .i64 a0.device_, .int .i64 (a0.knows_ 0), .int .i64 (a0.knows_ 1), .int .i64 (a0.knows_ 2), .int .i64 (a0.knows_ 3), .int .i64 (a0.knows_ 4), .int .i64 (a0.knows_ 5), .int .i64 (a0.knows_ 6), .int .i64 (a0.knows_ 7), .int .i64 (a0.knows_ 8), .int .i64 (a0.knows_ 9), .int .i64 (a0.knows_ 10), .int .i64 (a0.knows_ 11), .int .i64 (a0.knows_ 12), .int .i64 (a0.knows_ 13), .int .i64 (a0.knows_ 14), .int .i64 (a0.knows_ 15), v0_2]) 111 (0, 0))) (H : sync_Replica_Facts a0 = some r) : Does Tryd.prog 33 (List.toArray [.pointer (some ⟨pb0, 0, none⟩)]) w (fun v w' => ∃ x : (Option Addr × Nat), v = (.slice x.1 r.length x.2) ∧ Turn w w' noS (roV 8 (.slice x.1 r.length x.2) r.length (r.map e_sync_Fact))) := by
  refine enter (n := 9) Tryd.func33 rfl rfl rfl noS [] (Sat.nil _ _) ?_
  refine c_seq ?_
  refine c_region ?_
  refine l_val rfl rfl rfl (r_assign (v := .slice none 0 0) rfl) ?_
  refine l_nil ?_
  refine c_seq ?_
  refine c_region ?_
  refine l_val rfl rfl rfl (r_move (v := .pointer (some ⟨pb0, 0, none⟩)) rfl) ?_
  refine l_val rfl rfl rfl (r_nilCheck rfl) ?_
  refine l_val rfl rfl rfl (r_field Tryd.runUnderlying111 rfl Tryd.sizeOf62 rfl rfl) ?_
  refine l_read (fun w hF hS => run_loadK1 (v := v0_2) Tryd.isAgg62 rfl (hw.now hF _ _ hb0) rfl) rfl rfl rfl ?_
  obtain ⟨t7, h_t7, H3⟩ := bnd_some H; clear H
  refine l_make (makes_call (rds := []) (G := fun x : (Option Addr × Nat) => .slice x.1 t7.length x.2) (C := fun x : (Option Addr × Nat) => rowV 52 8 (.slice x.1 t7.length x.2) t7.length (t7.map e_sync_Fact)) (fun w L' hF hS hi => k70 (know_all w) (f0_2.mono (hw.now hF)) h_t7) Tryd.call70 rfl) rfl rfl rfl (fun p => ?_)
  refine l_callG (fun w hF hS => k69 (capOf (i := 0) hS rfl) w) Tryd.call69 rfl rfl rfl ?_
  refine l_val rfl rfl rfl (r_assign (v := .slice (cutA p.1 0 t7.length 8) t7.length t7.length) rfl) ?_
  refine l_nil ?_
  refine c_ret ?_
  obtain rfl := Option.some.inj H3
  refine c_imp 0 rfl (imp_clipO _ _ _ _ _ _) ?_
  refine ret1 (v := .slice (cutA p.1 0 t7.length 8) t7.length t7.length) rfl rfl (finX (cutA p.1 0 t7.length 8, t7.length) (i := 0) rfl rfl (Imp.refl _))
theorem k30 {a0 : T_sync_Replica} {v0_2 : Value} {pb0 : Nat} {a1 : Int} {r : (Option T_sync_Replica) × Int} {w : World} {h : Heap} (hw : Know h w noS) (f0_2 : FrS h 8 v0_2 (a0.facts_.map e_sync_Fact)) (hb0 : h pb0 = some (.cells (List.toArray [.int .i64 a0.device_, .int .i64 (a0.knows_ 0), .int .i64 (a0.knows_ 1), .int .i64 (a0.knows_ 2), .int .i64 (a0.knows_ 3), .int .i64 (a0.knows_ 4), .int .i64 (a0.knows_ 5), .int .i64 (a0.knows_ 6), .int .i64 (a0.knows_ 7), .int .i64 (a0.knows_ 8), .int .i64 (a0.knows_ 9), .int .i64 (a0.knows_ 10), .int .i64 (a0.knows_ 11), .int .i64 (a0.knows_ 12), .int .i64 (a0.knows_ 13), .int .i64 (a0.knows_ 14), .int .i64 (a0.knows_ 15), v0_2]) 111 (0, 0))) (H : sync_Replica_Copy a0 a1 = some r) : Does Tryd.prog 30 (List.toArray [.pointer (some ⟨pb0, 0, none⟩), .int .i64 a1]) w (fun v w' => ∃ x : Nat × (Option Addr × Nat), v = (.tuple #[optP r.1 x.1, .int .i64 r.2]) ∧ Turn w w' noS (obxC (optP r.1 x.1) r.1 x.1 (fun z : T_sync_Replica => bothC (cellsC x.1 [.int .i64 z.device_, .int .i64 (z.knows_ 0), .int .i64 (z.knows_ 1), .int .i64 (z.knows_ 2), .int .i64 (z.knows_ 3), .int .i64 (z.knows_ 4), .int .i64 (z.knows_ 5), .int .i64 (z.knows_ 6), .int .i64 (z.knows_ 7), .int .i64 (z.knows_ 8), .int .i64 (z.knows_ 9), .int .i64 (z.knows_ 10), .int .i64 (z.knows_ 11), .int .i64 (z.knows_ 12), .int .i64 (z.knows_ 13), .int .i64 (z.knows_ 14), .int .i64 (z.knows_ 15), .slice x.2.1 z.facts_.length x.2.2] 111) (roV 8 (.slice x.2.1 z.facts_.length x.2.2) z.facts_.length (z.facts_.map e_sync_Fact))))) := by
  refine enter (n := 17) Tryd.func30 rfl rfl rfl noS [] (Sat.nil _ _) ?_
  refine c_seq ?_
  refine c_region ?_
  refine l_val rfl rfl rfl (r_assign (v := .pointer none) rfl) ?_
  refine l_val rfl rfl rfl (r_assign (v := .int .i64 0) rfl) ?_
  refine l_nil ?_
  refine c_seq ?_
  refine c_seq ?_
  refine c_region ?_
  refine l_val rfl rfl rfl (r_move (v := .int .i64 a1) rfl) ?_
  obtain ⟨t7, h_t7, H5⟩ := bnd_some H; clear H
  refine l_call (k62 h_t7) Tryd.call62 rfl rfl rfl ?_
  refine l_nil ?_
  refine c_if (b := t7) rfl (fun hb => ?_) (fun hb => ?_)
  · have H6 := cnd_t hb H5; clear H5
    refine c_seq ?_
    refine c_region ?_
    refine l_val rfl rfl rfl (r_assign (v := .pointer none) rfl) ?_
    refine l_val rfl rfl rfl (r_assign (v := .int .i64 2) rfl) ?_
    refine l_nil ?_
    refine c_ret ?_
    refine c_emp ?_
    refine c_imp 0 rfl (imp_obxNil (b := 0) (fun z : T_sync_Replica => bothC (cellsC 0 [.int .i64 z.device_, .int .i64 (z.knows_ 0), .int .i64 (z.knows_ 1), .int .i64 (z.knows_ 2), .int .i64 (z.knows_ 3), .int .i64 (z.knows_ 4), .int .i64 (z.knows_ 5), .int .i64 (z.knows_ 6), .int .i64 (z.knows_ 7), .int .i64 (z.knows_ 8), .int .i64 (z.knows_ 9), .int .i64 (z.knows_ 10), .int .i64 (z.knows_ 11), .int .i64 (z.knows_ 12), .int .i64 (z.knows_ 13), .int .i64 (z.knows_ 14), .int .i64 (z.knows_ 15), .slice ((none, 0) : Option Addr × Nat).1 z.facts_.length ((none, 0) : Option Addr × Nat).2] 111) (roV 8 (.slice ((none, 0) : Option Addr × Nat).1 z.facts_.length ((none, 0) : Option Addr × Nat).2) z.facts_.length (z.facts_.map e_sync_Fact)))) ?_
    obtain rfl := Option.some.inj H6
    refine ret2 (v1 := optP (none : Option T_sync_Replica) 0) (v2 := .int .i64 2) rfl rfl rfl (finX (0, ((none, 0) : Option Addr × Nat)) (i := 0) rfl rfl (Imp.refl _))
  · have H7 := cnd_f hb H5; clear H5
    refine c_skip ?_
    refine c_seq ?_
    exact c_regionD (Kd.p :: Kd.p :: Kd.p :: Kd.p :: Kd.d [] _ :: Kd.p :: Kd.t 0 [] _ _ :: Kd.p :: Kd.nv 15 1 _ 111 :: Kd.p :: Kd.p :: []) 2 mixed (by
      refine d_val rfl rfl (r_move (v := .int .i64 a1) rfl) ?_
      refine d_val rfl rfl (r_move (v := .pointer (some ⟨pb0, 0, none⟩)) rfl) ?_
      refine d_val rfl rfl (r_nilCheck rfl) ?_
      refine d_val rfl rfl (r_field Tryd.runUnderlying111 rfl Tryd.sizeOf60 rfl rfl) ?_
      refine d_read (fun w hF => run_loadKN (vs := [.int .i64 (a0.knows_ 0), .int .i64 (a0.knows_ 1), .int .i64 (a0.knows_ 2), .int .i64 (a0.knows_ 3), .int .i64 (a0.knows_ 4), .int .i64 (a0.knows_ 5), .int .i64 (a0.knows_ 6), .int .i64 (a0.knows_ 7), .int .i64 (a0.knows_ 8), .int .i64 (a0.knows_ 9), .int .i64 (a0.knows_ 10), .int .i64 (a0.knows_ 11), .int .i64 (a0.knows_ 12), .int .i64 (a0.knows_ 13), .int .i64 (a0.knows_ 14), .int .i64 (a0.knows_ 15)]) Tryd.isAgg60 Tryd.sizeOf60 rfl (hw.now hF _ _ hb0) rfl) rfl rfl ?_
      refine d_val rfl rfl (r_move (v := .pointer (some ⟨pb0, 0, none⟩)) rfl) ?_
      have h_t14 := bnd_val H7
      have H8 := bnd_rest H7
      refine d_make (Cv := fun v => roV 8 v (val (sync_Replica_Facts a0)).length ((val (sync_Replica_Facts a0)).map e_sync_Fact)) (none, 0) (makes_call (G := fun x : (Option Addr × Nat) => .slice x.1 (val (sync_Replica_Facts a0)).length x.2) (C := fun x : (Option Addr × Nat) => roV 8 (.slice x.1 (val (sync_Replica_Facts a0)).length x.2) (val (sync_Replica_Facts a0)).length ((val (sync_Replica_Facts a0)).map e_sync_Fact)) (fun w L' hF hS hi => k33 (know_all w) (f0_2.mono (hw.now hF)) (hw.now hF _ _ hb0) h_t14) Tryd.call33 rfl) (fun _ => rfl) rfl rfl rfl (fun p => ?_)
      refine d_val rfl rfl (r_build (pl := #[(0, 1), (1, 16), (17, 1)]) (ps := [(0, .int .i64 a1), (1, .agg #[.int .i64 (a0.knows_ 0), .int .i64 (a0.knows_ 1), .int .i64 (a0.knows_ 2), .int .i64 (a0.knows_ 3), .int .i64 (a0.knows_ 4), .int .i64 (a0.knows_ 5), .int .i64 (a0.knows_ 6), .int .i64 (a0.knows_ 7), .int .i64 (a0.knows_ 8), .int .i64 (a0.knows_ 9), .int .i64 (a0.knows_ 10), .int .i64 (a0.knows_ 11), .int .i64 (a0.knows_ 12), .int .i64 (a0.knows_ 13), .int .i64 (a0.knows_ 14), .int .i64 (a0.knows_ 15)]), (2, .slice p.1 (val (sync_Replica_Facts a0)).length p.2)]) (cells := #[.int .i64 a1, .int .i64 (a0.knows_ 0), .int .i64 (a0.knows_ 1), .int .i64 (a0.knows_ 2), .int .i64 (a0.knows_ 3), .int .i64 (a0.knows_ 4), .int .i64 (a0.knows_ 5), .int .i64 (a0.knows_ 6), .int .i64 (a0.knows_ 7), .int .i64 (a0.knows_ 8), .int .i64 (a0.knows_ 9), .int .i64 (a0.knows_ 10), .int .i64 (a0.knows_ 11), .int .i64 (a0.knows_ 12), .int .i64 (a0.knows_ 13), .int .i64 (a0.knows_ 14), .int .i64 (a0.knows_ 15), .slice p.1 (val (sync_Replica_Facts a0)).length p.2]) Tryd.zeroValue111 Tryd.runUnderlying111 (fun w => by kernel_rfl) rfl (by kernel_rfl)) ?_
      refine d_newV (q := 15) (cs := fun v_ => [(vcell v_ 0), (vcell v_ 1), (vcell v_ 2), (vcell v_ 3), (vcell v_ 4), (vcell v_ 5), (vcell v_ 6), (vcell v_ 7), (vcell v_ 8), (vcell v_ 9), (vcell v_ 10), (vcell v_ 11), (vcell v_ 12), (vcell v_ 13), (vcell v_ 14), (vcell v_ 15), (vcell v_ 16), (vcell v_ 17)]) (cs0 := [.int .i64 a1, .int .i64 (a0.knows_ 0), .int .i64 (a0.knows_ 1), .int .i64 (a0.knows_ 2), .int .i64 (a0.knows_ 3), .int .i64 (a0.knows_ 4), .int .i64 (a0.knows_ 5), .int .i64 (a0.knows_ 6), .int .i64 (a0.knows_ 7), .int .i64 (a0.knows_ 8), .int .i64 (a0.knows_ 9), .int .i64 (a0.knows_ 10), .int .i64 (a0.knows_ 11), .int .i64 (a0.knows_ 12), .int .i64 (a0.knows_ 13), .int .i64 (a0.knows_ 14), .int .i64 (a0.knows_ 15), .slice p.1 (val (sync_Replica_Facts a0)).length p.2]) rfl rfl rfl rfl (run_box (cs := [.int .i64 a1, .int .i64 (a0.knows_ 0), .int .i64 (a0.knows_ 1), .int .i64 (a0.knows_ 2), .int .i64 (a0.knows_ 3), .int .i64 (a0.knows_ 4), .int .i64 (a0.knows_ 5), .int .i64 (a0.knows_ 6), .int .i64 (a0.knows_ 7), .int .i64 (a0.knows_ 8), .int .i64 (a0.knows_ 9), .int .i64 (a0.knows_ 10), .int .i64 (a0.knows_ 11), .int .i64 (a0.knows_ 12), .int .i64 (a0.knows_ 13), .int .i64 (a0.knows_ 14), .int .i64 (a0.knows_ 15), .slice p.1 (val (sync_Replica_Facts a0)).length p.2]) rfl rfl) rfl (fun b1 => ?_)
      refine d_val rfl rfl (r_assign (v := .pointer (some ⟨b1, 0, none⟩)) rfl) ?_
      refine d_val rfl rfl (r_assign (v := .int .i64 0) rfl) ?_
      refine d_nil ?_
      refine c_ret ?_
      refine c_both 1 0 rfl rfl (by decide) ?_
      refine c_imp 1 rfl (imp_obx (b := b1) (z := (⟨a1, a0.knows_, (val (sync_Replica_Facts a0))⟩ : T_sync_Replica)) (fun z : T_sync_Replica => bothC (cellsC b1 [.int .i64 z.device_, .int .i64 (z.knows_ 0), .int .i64 (z.knows_ 1), .int .i64 (z.knows_ 2), .int .i64 (z.knows_ 3), .int .i64 (z.knows_ 4), .int .i64 (z.knows_ 5), .int .i64 (z.knows_ 6), .int .i64 (z.knows_ 7), .int .i64 (z.knows_ 8), .int .i64 (z.knows_ 9), .int .i64 (z.knows_ 10), .int .i64 (z.knows_ 11), .int .i64 (z.knows_ 12), .int .i64 (z.knows_ 13), .int .i64 (z.knows_ 14), .int .i64 (z.knows_ 15), .slice p.1 z.facts_.length p.2] 111) (roV 8 (.slice p.1 z.facts_.length p.2) z.facts_.length (z.facts_.map e_sync_Fact)))) ?_
      obtain rfl := Option.some.inj H8
      refine ret2 (v1 := optP (some (⟨a1, a0.knows_, (val (sync_Replica_Facts a0))⟩ : T_sync_Replica)) b1) (v2 := .int .i64 0) rfl rfl rfl (finX (b1, p) (i := 1) rfl rfl (Imp.refl _))
      ) (by kernel_rfl)
theorem k31 {a0 : T_sync_Replica} {v0_2 : Value} {pb0 : Nat} {r : Int} {w : World} {h : Heap} (hw : Know h w noS) (f0_2 : FrS h 8 v0_2 (a0.facts_.map e_sync_Fact)) (hb0 : h pb0 = some (.cells (List.toArray [.int .i64 a0.device_, .int .i64 (a0.knows_ 0), .int .i64 (a0.knows_ 1), .int .i64 (a0.knows_ 2), .int .i64 (a0.knows_ 3), .int .i64 (a0.knows_ 4), .int .i64 (a0.knows_ 5), .int .i64 (a0.knows_ 6), .int .i64 (a0.knows_ 7), .int .i64 (a0.knows_ 8), .int .i64 (a0.knows_ 9), .int .i64 (a0.knows_ 10), .int .i64 (a0.knows_ 11), .int .i64 (a0.knows_ 12), .int .i64 (a0.knows_ 13), .int .i64 (a0.knows_ 14), .int .i64 (a0.knows_ 15), v0_2]) 111 (0, 0))) (H : sync_Replica_Device a0 = some r) : Does Tryd.prog 31 (List.toArray [.pointer (some ⟨pb0, 0, none⟩)]) w (fun v w' => v = (.int .i64 r) ∧ Grow w w') := by
  refine enter (n := 7) Tryd.func31 rfl rfl rfl noS [] (Sat.nil _ _) ?_
  refine c_seq ?_
  refine c_region ?_
  refine l_val rfl rfl rfl (r_assign (v := .int .i64 0) rfl) ?_
  refine l_nil ?_
  refine c_seq ?_
  refine c_region ?_
  refine l_val rfl rfl rfl (r_move (v := .pointer (some ⟨pb0, 0, none⟩)) rfl) ?_
  refine l_val rfl rfl rfl (r_nilCheck rfl) ?_
  refine l_val rfl rfl rfl (r_field Tryd.runUnderlying111 rfl Tryd.sizeOf3 rfl rfl) ?_
  refine l_read (fun w hF hS => run_loadK1 (v := .int .i64 a0.device_) Tryd.isAgg3 rfl (hw.now hF _ _ hb0) rfl) rfl rfl rfl ?_
  refine l_val rfl rfl rfl (r_assign (v := .int .i64 a0.device_) rfl) ?_
  refine l_nil ?_
  refine c_ret ?_
  obtain rfl := Option.some.inj H
  refine ret1 (v := .int .i64 a0.device_) rfl rfl (fin rfl)
theorem k32 {a0 : T_sync_Replica} {v0_2 : Value} {pb0 : Nat} {r : (Nat → Int)} {w : World} {h : Heap} (hw : Know h w noS) (f0_2 : FrS h 8 v0_2 (a0.facts_.map e_sync_Fact)) (hb0 : h pb0 = some (.cells (List.toArray [.int .i64 a0.device_, .int .i64 (a0.knows_ 0), .int .i64 (a0.knows_ 1), .int .i64 (a0.knows_ 2), .int .i64 (a0.knows_ 3), .int .i64 (a0.knows_ 4), .int .i64 (a0.knows_ 5), .int .i64 (a0.knows_ 6), .int .i64 (a0.knows_ 7), .int .i64 (a0.knows_ 8), .int .i64 (a0.knows_ 9), .int .i64 (a0.knows_ 10), .int .i64 (a0.knows_ 11), .int .i64 (a0.knows_ 12), .int .i64 (a0.knows_ 13), .int .i64 (a0.knows_ 14), .int .i64 (a0.knows_ 15), v0_2]) 111 (0, 0))) (H : sync_Replica_Knows a0 = some r) : Does Tryd.prog 32 (List.toArray [.pointer (some ⟨pb0, 0, none⟩)]) w (fun v w' => v = (.agg #[.int .i64 (r 0), .int .i64 (r 1), .int .i64 (r 2), .int .i64 (r 3), .int .i64 (r 4), .int .i64 (r 5), .int .i64 (r 6), .int .i64 (r 7), .int .i64 (r 8), .int .i64 (r 9), .int .i64 (r 10), .int .i64 (r 11), .int .i64 (r 12), .int .i64 (r 13), .int .i64 (r 14), .int .i64 (r 15)]) ∧ Grow w w') := by
  refine enter (n := 7) Tryd.func32 rfl rfl rfl noS [] (Sat.nil _ _) ?_
  refine c_seq ?_
  refine c_region ?_
  refine l_alloc (cs := [.int .i64 0, .int .i64 0, .int .i64 0, .int .i64 0, .int .i64 0, .int .i64 0, .int .i64 0, .int .i64 0, .int .i64 0, .int .i64 0, .int .i64 0, .int .i64 0, .int .i64 0, .int .i64 0, .int .i64 0, .int .i64 0]) Tryd.zeroValue60 rfl rfl rfl (fun b1 => ?_)
  refine l_nil ?_
  refine c_seq ?_
  refine c_region ?_
  refine l_val rfl rfl rfl (r_move (v := .pointer (some ⟨pb0, 0, none⟩)) rfl) ?_
  refine l_val rfl rfl rfl (r_nilCheck rfl) ?_
  refine l_val rfl rfl rfl (r_field Tryd.runUnderlying111 rfl Tryd.sizeOf60 rfl rfl) ?_
  refine l_read (fun w hF hS => run_loadKN (vs := [.int .i64 (a0.knows_ 0), .int .i64 (a0.knows_ 1), .int .i64 (a0.knows_ 2), .int .i64 (a0.knows_ 3), .int .i64 (a0.knows_ 4), .int .i64 (a0.knows_ 5), .int .i64 (a0.knows_ 6), .int .i64 (a0.knows_ 7), .int .i64 (a0.knows_ 8), .int .i64 (a0.knows_ 9), .int .i64 (a0.knows_ 10), .int .i64 (a0.knows_ 11), .int .i64 (a0.knows_ 12), .int .i64 (a0.knows_ 13), .int .i64 (a0.knows_ 14), .int .i64 (a0.knows_ 15)]) Tryd.isAgg60 Tryd.sizeOf60 rfl (hw.now hF _ _ hb0) rfl) rfl rfl rfl ?_
  refine l_store (i := 0) (vs := [.int .i64 (a0.knows_ 0), .int .i64 (a0.knows_ 1), .int .i64 (a0.knows_ 2), .int .i64 (a0.knows_ 3), .int .i64 (a0.knows_ 4), .int .i64 (a0.knows_ 5), .int .i64 (a0.knows_ 6), .int .i64 (a0.knows_ 7), .int .i64 (a0.knows_ 8), .int .i64 (a0.knows_ 9), .int .i64 (a0.knows_ 10), .int .i64 (a0.knows_ 11), .int .i64 (a0.knows_ 12), .int .i64 (a0.knows_ 13), .int .i64 (a0.knows_ 14), .int .i64 (a0.knows_ 15)]) (cs' := [.int .i64 (a0.knows_ 0), .int .i64 (a0.knows_ 1), .int .i64 (a0.knows_ 2), .int .i64 (a0.knows_ 3), .int .i64 (a0.knows_ 4), .int .i64 (a0.knows_ 5), .int .i64 (a0.knows_ 6), .int .i64 (a0.knows_ 7), .int .i64 (a0.knows_ 8), .int .i64 (a0.knows_ 9), .int .i64 (a0.knows_ 10), .int .i64 (a0.knows_ 11), .int .i64 (a0.knows_ 12), .int .i64 (a0.knows_ 13), .int .i64 (a0.knows_ 14), .int .i64 (a0.knows_ 15)]) Tryd.sizeOf60 rfl rfl rfl rfl rfl rfl rfl rfl rfl ?_
  refine l_nil ?_
  refine c_ret ?_
  obtain rfl := Option.some.inj H
  refine retC (i := 0) (vs := [.int .i64 (a0.knows_ 0), .int .i64 (a0.knows_ 1), .int .i64 (a0.knows_ 2), .int .i64 (a0.knows_ 3), .int .i64 (a0.knows_ 4), .int .i64 (a0.knows_ 5), .int .i64 (a0.knows_ 6), .int .i64 (a0.knows_ 7), .int .i64 (a0.knows_ 8), .int .i64 (a0.knows_ 9), .int .i64 (a0.knows_ 10), .int .i64 (a0.knows_ 11), .int .i64 (a0.knows_ 12), .int .i64 (a0.knows_ 13), .int .i64 (a0.knows_ 14), .int .i64 (a0.knows_ 15)]) Tryd.isAgg60 Tryd.sizeOf60 rfl rfl rfl rfl (fin rfl)
theorem k71 {a0 : (List T_sync_Fact)} {v0 : Value} {a1 : (List T_sync_Fact)} {v1 : Value} {r : Bool} {w : World} {h : Heap} (hw : Know h w noS) (f0 : FrS h 8 v0 (a0.map e_sync_Fact)) (f1 : FrS h 8 v1 (a1.map e_sync_Fact)) (H : slices_Equal_sync_Fact a0 a1 = some r) : Does Tryd.prog 71 (List.toArray [v0, v1]) w (fun v w' => v = (.bool r) ∧ Grow w w') := by
  refine enter (n := 26) Tryd.func71 rfl rfl rfl noS [] (Sat.nil _ _) ?_
  refine c_seq ?_
  refine c_region ?_
  refine l_val rfl rfl rfl (r_assign (v := .bool false) rfl) ?_
  refine l_nil ?_
  refine c_seq ?_
  refine c_seq ?_
  refine c_region ?_
  refine l_val rfl rfl rfl (r_move (v := v0) rfl) ?_
  refine l_val rfl rfl rfl (r_lenF Tryd.underlying62 rfl f0 rfl) ?_
  refine l_val rfl rfl rfl (r_move (v := v1) rfl) ?_
  refine l_val rfl rfl rfl (r_lenF Tryd.underlying62 rfl f1 rfl) ?_
  refine l_val rfl rfl rfl (r_neq rfl rfl) ?_
  refine l_nil ?_
  refine c_if (b := (decide ((a0.length : Int) ≠ (a1.length : Int)))) rfl (fun hb => ?_) (fun hb => ?_)
  · have H11 := cnd_t hb H; clear H
    refine c_seq ?_
    refine c_region ?_
    refine l_val rfl rfl rfl (r_assign (v := .bool false) rfl) ?_
    refine l_nil ?_
    refine c_ret ?_
    obtain rfl := Option.some.inj H11
    refine ret1 (v := .bool false) rfl rfl (fin rfl)
  · have H12 := cnd_f hb H; clear H
    refine c_skip ?_
    refine c_seq ?_
    refine c_seq ?_
    refine c_region ?_
    refine l_val rfl rfl rfl (r_move (v := v0) rfl) ?_
    refine l_val rfl rfl rfl (r_lenF Tryd.underlying62 rfl f0 rfl) ?_
    refine l_val rfl rfl rfl (r_move (v := .int .i64 0) rfl) ?_
    refine l_nil ?_
    refine c_block ?_
    refine c_fix (σ := Int) (τ := Unit) (fun next1 s => slices_Equal_sync_Fact_l1 a0 a1 next1 s) (fun s t => [(0, v0), (1, v1), (12, .int .i64 (a0.length : Int)), (13, .int .i64 s)]) (fun s t => []) (fun s t => True) 0 () [] H12 (by exact trivial) (by exact ⟨rfl, rfl, rfl, rfl, trivial⟩) (by decide) rfl ?_
    rintro x13_2 _ m1 gg H13 _
    clear H12
    replace H13 : slices_Equal_sync_Fact_l1 a0 a1 (it (fun next1 s => slices_Equal_sync_Fact_l1 a0 a1 next1 s) m1) x13_2 = some r := H13
    generalize hn1 : it (fun next1 s => slices_Equal_sync_Fact_l1 a0 a1 next1 s) m1 = next1 at H13
    refine c_tidyF [(0, v0), (1, v1), (12, .int .i64 (a0.length : Int)), (13, .int .i64 x13_2)] [] rfl rfl ?_
    refine c_seq ?_
    refine c_region ?_
    refine l_val rfl rfl rfl (r_lss rfl rfl) ?_
    refine l_nil ?_
    refine c_seq ?_
    refine c_if (b := (decide (x13_2 < (a0.length : Int)))) rfl (fun hb => ?_) (fun hb => ?_)
    · have H14 := cnd_t hb H13; clear H13
      refine c_skip ?_
      refine c_seq ?_
      refine c_block ?_
      refine c_seq ?_
      refine c_region ?_
      refine l_val rfl rfl rfl (r_move (v := .int .i64 x13_2) rfl) ?_
      refine l_val rfl rfl rfl (r_assign (v := .int .i64 x13_2) rfl) ?_
      refine l_nil ?_
      refine c_seq ?_
      exact c_regionD (Kd.p :: Kd.p :: Kd.p :: Kd.d [] _ :: Kd.p :: Kd.p :: Kd.p :: Kd.d [] _ :: Kd.p :: []) 0 mixed (by
        refine d_val rfl rfl (r_move (v := v0) rfl) ?_
        refine d_val rfl rfl (r_move (v := .int .i64 x13_2) rfl) ?_
        have h_t18 := bnd_val H14
        have H15 := bnd_rest H14
        refine d_val rfl rfl (r_indexF Tryd.underlying62 Tryd.sizeOf52 rfl rfl f0 h_t18) ?_
        refine d_read (fun w hF => run_loadGN (f := e_sync_Fact) (i := x13_2) (sz := 8) (j := 0) (vs := [.int .i64 (val (gAt a0 x13_2)).Dot.Device, .int .i64 (val (gAt a0 x13_2)).Dot.N, .int .i64 (val (gAt a0 x13_2)).Time, .int .i64 (val (gAt a0 x13_2)).Kind, .int .i64 (val (gAt a0 x13_2)).Id, str (val (gAt a0 x13_2)).Name, .int .i64 (val (gAt a0 x13_2)).Num, str (val (gAt a0 x13_2)).Text]) Tryd.isAgg52 Tryd.sizeOf52 rfl rfl (f0.row (hw.now hF)) h_t18 rfl) rfl rfl ?_
        refine d_val rfl rfl (r_move (v := v1) rfl) ?_
        refine d_val rfl rfl (r_move (v := .int .i64 x13_2) rfl) ?_
        have h_t22 := bnd_val H15
        have H16 := bnd_rest H15
        refine d_val rfl rfl (r_indexF Tryd.underlying62 Tryd.sizeOf52 rfl rfl f1 h_t22) ?_
        refine d_read (fun w hF => run_loadGN (f := e_sync_Fact) (i := x13_2) (sz := 8) (j := 0) (vs := [.int .i64 (val (gAt a1 x13_2)).Dot.Device, .int .i64 (val (gAt a1 x13_2)).Dot.N, .int .i64 (val (gAt a1 x13_2)).Time, .int .i64 (val (gAt a1 x13_2)).Kind, .int .i64 (val (gAt a1 x13_2)).Id, str (val (gAt a1 x13_2)).Name, .int .i64 (val (gAt a1 x13_2)).Num, str (val (gAt a1 x13_2)).Text]) Tryd.isAgg52 Tryd.sizeOf52 rfl rfl (f1.row (hw.now hF)) h_t22 rfl) rfl rfl ?_
        refine d_val rfl rfl (r_neqA (xs := #[.int .i64 (val (gAt a0 x13_2)).Dot.Device, .int .i64 (val (gAt a0 x13_2)).Dot.N, .int .i64 (val (gAt a0 x13_2)).Time, .int .i64 (val (gAt a0 x13_2)).Kind, .int .i64 (val (gAt a0 x13_2)).Id, str (val (gAt a0 x13_2)).Name, .int .i64 (val (gAt a0 x13_2)).Num, str (val (gAt a0 x13_2)).Text]) (ys := #[.int .i64 (val (gAt a1 x13_2)).Dot.Device, .int .i64 (val (gAt a1 x13_2)).Dot.N, .int .i64 (val (gAt a1 x13_2)).Time, .int .i64 (val (gAt a1 x13_2)).Kind, .int .i64 (val (gAt a1 x13_2)).Id, str (val (gAt a1 x13_2)).Name, .int .i64 (val (gAt a1 x13_2)).Num, str (val (gAt a1 x13_2)).Text]) Tryd.eqGuardType52 (fun w => run_eq_sync_Fact w (val (gAt a0 x13_2)) (val (gAt a1 x13_2))) rfl rfl) ?_
        refine d_nil ?_
        refine c_if (b := (!(eq_sync_Fact (val (gAt a0 x13_2)) (val (gAt a1 x13_2))))) rfl (fun hb => ?_) (fun hb => ?_)
        · have H17 := cnd_t hb H16; clear H16
          refine c_seq ?_
          refine c_region ?_
          refine l_val rfl rfl rfl (r_assign (v := .bool false) rfl) ?_
          refine l_nil ?_
          refine c_ret ?_
          obtain rfl := Option.some.inj H17
          refine ret1 (v := .bool false) rfl rfl (fin rfl)
        · have H18 := cnd_f hb H16; clear H16
          refine c_skip ?_
          refine c_region ?_
          obtain ⟨t25, h_t25, H19⟩ := bnd_some H18; clear H18
          refine l_val rfl rfl rfl (r_addG rfl rfl h_t25) ?_
          refine l_val rfl rfl rfl (r_move (v := .int .i64 t25) rfl) ?_
          refine l_nil ?_
          refine c_close t25 () m1 [] (by exact ⟨rfl, rfl, rfl, rfl, trivial⟩) (by decide) rfl (by exact ⟨(by subst hn1; exact H19), trivial⟩) (Nat.lt_succ_self _)
        ) (by kernel_rfl)
    · have H20 := cnd_f hb H13; clear H13
      refine c_exit ?_
      refine c_seq ?_
      refine c_region ?_
      refine l_val rfl rfl rfl (r_assign (v := .bool true) rfl) ?_
      refine l_nil ?_
      refine c_ret ?_
      obtain rfl := Option.some.inj H20
      refine ret1 (v := .bool true) rfl rfl (fin rfl)
theorem k34 {a0 : T_sync_Replica} {v0_2 : Value} {pb0 : Nat} {a1 : T_sync_Replica} {v1_2 : Value} {pb1 : Nat} {r : Bool} {w : World} {h : Heap} (hw : Know h w noS) (f0_2 : FrS h 8 v0_2 (a0.facts_.map e_sync_Fact)) (hb0 : h pb0 = some (.cells (List.toArray [.int .i64 a0.device_, .int .i64 (a0.knows_ 0), .int .i64 (a0.knows_ 1), .int .i64 (a0.knows_ 2), .int .i64 (a0.knows_ 3), .int .i64 (a0.knows_ 4), .int .i64 (a0.knows_ 5), .int .i64 (a0.knows_ 6), .int .i64 (a0.knows_ 7), .int .i64 (a0.knows_ 8), .int .i64 (a0.knows_ 9), .int .i64 (a0.knows_ 10), .int .i64 (a0.knows_ 11), .int .i64 (a0.knows_ 12), .int .i64 (a0.knows_ 13), .int .i64 (a0.knows_ 14), .int .i64 (a0.knows_ 15), v0_2]) 111 (0, 0))) (f1_2 : FrS h 8 v1_2 (a1.facts_.map e_sync_Fact)) (hb1 : h pb1 = some (.cells (List.toArray [.int .i64 a1.device_, .int .i64 (a1.knows_ 0), .int .i64 (a1.knows_ 1), .int .i64 (a1.knows_ 2), .int .i64 (a1.knows_ 3), .int .i64 (a1.knows_ 4), .int .i64 (a1.knows_ 5), .int .i64 (a1.knows_ 6), .int .i64 (a1.knows_ 7), .int .i64 (a1.knows_ 8), .int .i64 (a1.knows_ 9), .int .i64 (a1.knows_ 10), .int .i64 (a1.knows_ 11), .int .i64 (a1.knows_ 12), .int .i64 (a1.knows_ 13), .int .i64 (a1.knows_ 14), .int .i64 (a1.knows_ 15), v1_2]) 111 (0, 0))) (H : sync_Alike a0 a1 = some r) : Does Tryd.prog 34 (List.toArray [.pointer (some ⟨pb0, 0, none⟩), .pointer (some ⟨pb1, 0, none⟩)]) w (fun v w' => v = (.bool r) ∧ Grow w w') := by
  refine enter (n := 25) Tryd.func34 rfl rfl rfl noS [] (Sat.nil _ _) ?_
  refine c_seq ?_
  refine c_region ?_
  refine l_val rfl rfl rfl (r_assign (v := .bool false) rfl) ?_
  refine l_nil ?_
  refine c_seq ?_
  exact c_regionD (Kd.p :: Kd.p :: Kd.p :: Kd.d [] _ :: Kd.p :: Kd.p :: Kd.p :: Kd.d [] _ :: Kd.p :: Kd.p :: Kd.p :: Kd.p :: Kd.p :: Kd.d [] _ :: Kd.p :: Kd.p :: Kd.p :: Kd.d [] _ :: Kd.d [] _ :: Kd.p :: Kd.p :: []) 0 mixed (by
    refine d_val rfl rfl (r_move (v := .pointer (some ⟨pb0, 0, none⟩)) rfl) ?_
    refine d_val rfl rfl (r_nilCheck rfl) ?_
    refine d_val rfl rfl (r_field Tryd.runUnderlying111 rfl Tryd.sizeOf60 rfl rfl) ?_
    refine d_read (fun w hF => run_loadKN (vs := [.int .i64 (a0.knows_ 0), .int .i64 (a0.knows_ 1), .int .i64 (a0.knows_ 2), .int .i64 (a0.knows_ 3), .int .i64 (a0.knows_ 4), .int .i64 (a0.knows_ 5), .int .i64 (a0.knows_ 6), .int .i64 (a0.knows_ 7), .int .i64 (a0.knows_ 8), .int .i64 (a0.knows_ 9), .int .i64 (a0.knows_ 10), .int .i64 (a0.knows_ 11), .int .i64 (a0.knows_ 12), .int .i64 (a0.knows_ 13), .int .i64 (a0.knows_ 14), .int .i64 (a0.knows_ 15)]) Tryd.isAgg60 Tryd.sizeOf60 rfl (hw.now hF _ _ hb0) rfl) rfl rfl ?_
    refine d_val rfl rfl (r_move (v := .pointer (some ⟨pb1, 0, none⟩)) rfl) ?_
    refine d_val rfl rfl (r_nilCheck rfl) ?_
    refine d_val rfl rfl (r_field Tryd.runUnderlying111 rfl Tryd.sizeOf60 rfl rfl) ?_
    refine d_read (fun w hF => run_loadKN (vs := [.int .i64 (a1.knows_ 0), .int .i64 (a1.knows_ 1), .int .i64 (a1.knows_ 2), .int .i64 (a1.knows_ 3), .int .i64 (a1.knows_ 4), .int .i64 (a1.knows_ 5), .int .i64 (a1.knows_ 6), .int .i64 (a1.knows_ 7), .int .i64 (a1.knows_ 8), .int .i64 (a1.knows_ 9), .int .i64 (a1.knows_ 10), .int .i64 (a1.knows_ 11), .int .i64 (a1.knows_ 12), .int .i64 (a1.knows_ 13), .int .i64 (a1.knows_ 14), .int .i64 (a1.knows_ 15)]) Tryd.isAgg60 Tryd.sizeOf60 rfl (hw.now hF _ _ hb1) rfl) rfl rfl ?_
    refine d_val rfl rfl (r_eqlA (xs := #[.int .i64 (a0.knows_ 0), .int .i64 (a0.knows_ 1), .int .i64 (a0.knows_ 2), .int .i64 (a0.knows_ 3), .int .i64 (a0.knows_ 4), .int .i64 (a0.knows_ 5), .int .i64 (a0.knows_ 6), .int .i64 (a0.knows_ 7), .int .i64 (a0.knows_ 8), .int .i64 (a0.knows_ 9), .int .i64 (a0.knows_ 10), .int .i64 (a0.knows_ 11), .int .i64 (a0.knows_ 12), .int .i64 (a0.knows_ 13), .int .i64 (a0.knows_ 14), .int .i64 (a0.knows_ 15)]) (ys := #[.int .i64 (a1.knows_ 0), .int .i64 (a1.knows_ 1), .int .i64 (a1.knows_ 2), .int .i64 (a1.knows_ 3), .int .i64 (a1.knows_ 4), .int .i64 (a1.knows_ 5), .int .i64 (a1.knows_ 6), .int .i64 (a1.knows_ 7), .int .i64 (a1.knows_ 8), .int .i64 (a1.knows_ 9), .int .i64 (a1.knows_ 10), .int .i64 (a1.knows_ 11), .int .i64 (a1.knows_ 12), .int .i64 (a1.knows_ 13), .int .i64 (a1.knows_ 14), .int .i64 (a1.knows_ 15)]) Tryd.eqGuardType60 (fun w => run_eq_sync_Knows w a0.knows_ a1.knows_) rfl rfl) ?_
    refine d_val rfl rfl (r_move (v := .bool (eq_sync_Knows a0.knows_ a1.knows_)) rfl) ?_
    refine splitS (fun hb => ?_) (fun hb => ?_)
    · have H4 := cnd_t hb H
      refine d_val rfl rfl (r_move (v := .pointer (some ⟨pb0, 0, none⟩)) rfl) ?_
      refine d_val rfl rfl (r_nilCheck rfl) ?_
      refine d_val rfl rfl (r_field Tryd.runUnderlying111 rfl Tryd.sizeOf62 rfl rfl) ?_
      refine d_read (fun w hF => run_loadK1 (v := v0_2) Tryd.isAgg62 rfl (hw.now hF _ _ hb0) rfl) rfl rfl ?_
      refine d_val rfl rfl (r_move (v := .pointer (some ⟨pb1, 0, none⟩)) rfl) ?_
      refine d_val rfl rfl (r_nilCheck rfl) ?_
      refine d_val rfl rfl (r_field Tryd.runUnderlying111 rfl Tryd.sizeOf62 rfl rfl) ?_
      refine d_read (fun w hF => run_loadK1 (v := v1_2) Tryd.isAgg62 rfl (hw.now hF _ _ hb1) rfl) rfl rfl ?_
      have h_t23 := bnd_val H4
      have H5 := bnd_rest H4
      refine d_callD (fun w L' hF hS hi => k71 (know_all w) (f0_2.mono (hw.now hF)) (f1_2.mono (hw.now hF)) h_t23) Tryd.call71 rfl rfl ?_
      refine d_val rfl rfl (r_pickT (v := .bool (val (slices_Equal_sync_Fact a0.facts_ a1.facts_))) rfl rfl) ?_
      refine d_val rfl rfl (r_assign (v := .bool (val (slices_Equal_sync_Fact a0.facts_ a1.facts_))) rfl) ?_
      refine d_nil ?_
      refine c_ret ?_
      obtain rfl := Option.some.inj H5
      refine ret1 (v := .bool (val (slices_Equal_sync_Fact a0.facts_ a1.facts_))) rfl rfl (fin rfl)
    · have H6 := cnd_f hb H
      refine d_pass rfl rfl ?_
      refine d_pass rfl rfl ?_
      refine d_pass rfl rfl ?_
      refine d_pass rfl rfl ?_
      refine d_pass rfl rfl ?_
      refine d_pass rfl rfl ?_
      refine d_pass rfl rfl ?_
      refine d_pass rfl rfl ?_
      refine d_pass rfl rfl ?_
      refine d_val rfl rfl (r_pickF (v := .bool false) rfl rfl) ?_
      refine d_val rfl rfl (r_assign (v := .bool false) rfl) ?_
      refine d_nil ?_
      refine c_ret ?_
      obtain rfl := Option.some.inj H6
      refine ret1 (v := .bool false) rfl rfl (fin rfl)
    ) (by kernel_rfl)
theorem k5 {a0 : T_sync_Fact} {a1 : Int} {a2 : Int} {r : Bool} (H : Law_SyncFacts a0 a1 a2 = some r) : Ret Tryd.prog 5 [.agg #[.int .i64 a0.Dot.Device, .int .i64 a0.Dot.N, .int .i64 a0.Time, .int .i64 a0.Kind, .int .i64 a0.Id, str a0.Name, .int .i64 a0.Num, str a0.Text], .int .i64 a1, .int .i64 a2] (.bool r) := by
  refine enterRet (n := 95) Tryd.func5 rfl rfl rfl (fun wd => ?_)
  refine c_seq ?_
  refine c_region ?_
  refine l_box (cs := [.int .i64 a0.Dot.Device, .int .i64 a0.Dot.N, .int .i64 a0.Time, .int .i64 a0.Kind, .int .i64 a0.Id, str a0.Name, .int .i64 a0.Num, str a0.Text]) rfl rfl rfl rfl (fun b1 => ?_)
  refine l_val rfl rfl rfl (r_assign (v := .bool false) rfl) ?_
  refine l_nil ?_
  refine c_seq ?_
  refine c_region ?_
  refine l_val rfl rfl rfl (r_move (v := .int .i64 a1) rfl) ?_
  obtain ⟨t14, h_t14, H42⟩ := bnd_some H; clear H
  refine l_make (makes_call (rds := []) (G := fun x : Nat × (Option Addr × Nat) => .tuple #[optP t14.1 x.1, .int .i64 t14.2]) (C := fun x : Nat × (Option Addr × Nat) => obxC (optP t14.1 x.1) t14.1 x.1 (fun z : T_sync_Replica => bothC (cellsC x.1 [.int .i64 z.device_, .int .i64 (z.knows_ 0), .int .i64 (z.knows_ 1), .int .i64 (z.knows_ 2), .int .i64 (z.knows_ 3), .int .i64 (z.knows_ 4), .int .i64 (z.knows_ 5), .int .i64 (z.knows_ 6), .int .i64 (z.knows_ 7), .int .i64 (z.knows_ 8), .int .i64 (z.knows_ 9), .int .i64 (z.knows_ 10), .int .i64 (z.knows_ 11), .int .i64 (z.knows_ 12), .int .i64 (z.knows_ 13), .int .i64 (z.knows_ 14), .int .i64 (z.knows_ 15), .slice x.2.1 z.facts_.length x.2.2] 111) (roV 8 (.slice x.2.1 z.facts_.length x.2.2) z.facts_.length (z.facts_.map e_sync_Fact)))) (fun w L' hF hS hi => k26 (know_all w)  h_t14) Tryd.call26 rfl) rfl rfl rfl (fun ⟨p, p_2⟩ => ?_)
  refine l_val rfl rfl rfl (r_move (v := .tuple #[optP t14.1 p, .int .i64 t14.2]) rfl) ?_
  refine l_val rfl rfl rfl (r_extract (v := optP t14.1 p) rfl rfl) ?_
  refine l_val rfl rfl rfl (r_extract (v := .int .i64 t14.2) rfl rfl) ?_
  refine l_val rfl rfl rfl (r_assign (v := optP t14.1 p) rfl) ?_
  refine l_val rfl rfl rfl (r_assign (v := .int .i64 t14.2) rfl) ?_
  refine l_nil ?_
  refine c_meet (r := r) (σ := Bool) (τ := Unit) (fun s => Law_SyncFacts_j1 a0 a1 a2 t14 s) (fun s t => [(1, .int .i64 a1), (2, .int .i64 a2), (3, .pointer (some ⟨b1, 0, none⟩)), (7, optP t14.1 p), (8, .int .i64 t14.2), (9, .bool s)]) (fun s t => [cellsC b1 [.int .i64 a0.Dot.Device, .int .i64 a0.Dot.N, .int .i64 a0.Time, .int .i64 a0.Kind, .int .i64 a0.Id, str a0.Name, .int .i64 a0.Num, str a0.Text] 52, obxC (optP t14.1 p) t14.1 p (fun z : T_sync_Replica => bothC (cellsC p [.int .i64 z.device_, .int .i64 (z.knows_ 0), .int .i64 (z.knows_ 1), .int .i64 (z.knows_ 2), .int .i64 (z.knows_ 3), .int .i64 (z.knows_ 4), .int .i64 (z.knows_ 5), .int .i64 (z.knows_ 6), .int .i64 (z.knows_ 7), .int .i64 (z.knows_ 8), .int .i64 (z.knows_ 9), .int .i64 (z.knows_ 10), .int .i64 (z.knows_ 11), .int .i64 (z.knows_ 12), .int .i64 (z.knows_ 13), .int .i64 (z.knows_ 14), .int .i64 (z.knows_ 15), .slice p_2.1 z.facts_.length p_2.2] 111) (roV 8 (.slice p_2.1 z.facts_.length p_2.2) z.facts_.length (z.facts_.map e_sync_Fact)))]) (fun s t => True) ?_ ?_
  · refine c_region ?_
    refine l_val rfl rfl rfl (r_move (v := .int .i64 a1) rfl) ?_
    refine l_val rfl rfl rfl (r_geq rfl rfl) ?_
    refine l_val rfl rfl rfl (r_move (v := .bool (decide (0 ≤ a1))) rfl) ?_
    refine split (fun hb => ?_) (fun hb => ?_)
    · have H81 := cnd_t hb H42; clear H42
      refine l_val rfl rfl rfl (r_move (v := .int .i64 a1) rfl) ?_
      refine l_val rfl rfl rfl (r_lss rfl rfl) ?_
      refine l_val rfl rfl rfl (r_pickT (v := .bool (decide (a1 < 16))) rfl rfl) ?_
      refine l_val rfl rfl rfl (r_assign (v := .bool (decide (a1 < 16))) rfl) ?_
      refine l_nil ?_
      refine c_close (decide (a1 < 16)) () 0 [0, 1] (by exact ⟨rfl, rfl, rfl, rfl, rfl, rfl, trivial⟩) (by decide) rfl (by exact ⟨H81, trivial⟩) (Nat.lt_succ_self _)
    · have H82 := cnd_f hb H42; clear H42
      refine l_passed rfl rfl rfl ?_
      refine l_passed rfl rfl rfl ?_
      refine l_val rfl rfl rfl (r_pickF (v := .bool false) rfl rfl) ?_
      refine l_val rfl rfl rfl (r_assign (v := .bool false) rfl) ?_
      refine l_nil ?_
      refine c_close false () 0 [0, 1] (by exact ⟨rfl, rfl, rfl, rfl, rfl, rfl, trivial⟩) (by decide) rfl (by exact ⟨H82, trivial⟩) (Nat.lt_succ_self _)
  · rintro x9 _ gg H43 _
    replace H43 : Law_SyncFacts_j1 a0 a1 a2 t14 x9 = some r := H43
    refine c_tidyF [(1, .int .i64 a1), (2, .int .i64 a2), (3, .pointer (some ⟨b1, 0, none⟩)), (7, optP t14.1 p), (8, .int .i64 t14.2), (9, .bool x9)] [cellsC b1 [.int .i64 a0.Dot.Device, .int .i64 a0.Dot.N, .int .i64 a0.Time, .int .i64 a0.Kind, .int .i64 a0.Id, str a0.Name, .int .i64 a0.Num, str a0.Text] 52, obxC (optP t14.1 p) t14.1 p (fun z : T_sync_Replica => bothC (cellsC p [.int .i64 z.device_, .int .i64 (z.knows_ 0), .int .i64 (z.knows_ 1), .int .i64 (z.knows_ 2), .int .i64 (z.knows_ 3), .int .i64 (z.knows_ 4), .int .i64 (z.knows_ 5), .int .i64 (z.knows_ 6), .int .i64 (z.knows_ 7), .int .i64 (z.knows_ 8), .int .i64 (z.knows_ 9), .int .i64 (z.knows_ 10), .int .i64 (z.knows_ 11), .int .i64 (z.knows_ 12), .int .i64 (z.knows_ 13), .int .i64 (z.knows_ 14), .int .i64 (z.knows_ 15), .slice p_2.1 z.facts_.length p_2.2] 111) (roV 8 (.slice p_2.1 z.facts_.length p_2.2) z.facts_.length (z.facts_.map e_sync_Fact)))] rfl rfl ?_
    refine c_seq ?_
    refine c_seq ?_
    exact c_regionD (Kd.p :: Kd.p :: Kd.d [] _ :: Kd.p :: Kd.p :: Kd.p :: Kd.d [1] _ :: Kd.p :: Kd.p :: Kd.p :: Kd.p :: Kd.d [0] _ :: Kd.d [] _ :: Kd.d [0] _ :: Kd.d [] _ :: Kd.p :: Kd.p :: []) 0 mixed (by
      refine d_val rfl rfl (r_move (v := .int .i64 t14.2) rfl) ?_
      refine d_val rfl rfl (r_move (v := .bool x9) rfl) ?_
      have h_t25 := bnd_val H43
      have H44 := bnd_rest H43
      refine d_call (k27 h_t25) Tryd.call27 rfl rfl ?_
      refine d_val rfl rfl (r_neq rfl rfl) ?_
      refine d_val rfl rfl (r_move (v := .bool (decide (t14.2 ≠ (val (Law_unless x9 2))))) rfl) ?_
      refine splitS (fun hb => ?_) (fun hb => ?_)
      · have H45 := cnd_t hb H44
        refine d_pass rfl rfl ?_
        refine d_pass rfl rfl ?_
        refine d_pass rfl rfl ?_
        refine d_pass rfl rfl ?_
        refine d_val rfl rfl (r_pickT (v := .bool true) rfl rfl) ?_
        refine d_val rfl rfl (r_move (v := .bool true) rfl) ?_
        refine d_pass rfl rfl ?_
        refine d_pass rfl rfl ?_
        refine d_pass rfl rfl ?_
        refine d_pass rfl rfl ?_
        refine d_pass rfl rfl ?_
        refine d_val rfl rfl (r_pickT (v := .bool true) rfl rfl) ?_
        refine d_nil ?_
        refine c_true rfl ?_
        refine c_seq ?_
        refine c_region ?_
        refine l_val rfl rfl rfl (r_assign (v := .bool false) rfl) ?_
        refine l_nil ?_
        refine c_ret ?_
        obtain rfl := Option.some.inj H45
        refine ret1 (v := .bool false) rfl rfl (fin rfl)
      · have H46 := cnd_f hb H44
        refine d_val rfl rfl (r_move (v := optP t14.1 p) rfl) ?_
        refine d_readD (fun w L' hF hS hi => run_neqOpt (i := 1) Tryd.underlying53 rfl rfl hS ((hi 1 (by simp)).trans rfl)) rfl rfl ?_
        refine d_val rfl rfl (r_move (v := .bool x9) rfl) ?_
        refine d_val rfl rfl (r_neqB Tryd.underlying4 rfl rfl) ?_
        refine d_val rfl rfl (r_pickF (v := .bool (decide ((Option.isSome t14.1) ≠ x9))) rfl rfl) ?_
        refine d_val rfl rfl (r_move (v := .bool (decide ((Option.isSome t14.1) ≠ x9))) rfl) ?_
        refine splitS (fun hb => ?_) (fun hb => ?_)
        · have H47 := cnd_t hb H46
          refine d_pass rfl rfl ?_
          refine d_pass rfl rfl ?_
          refine d_pass rfl rfl ?_
          refine d_pass rfl rfl ?_
          refine d_pass rfl rfl ?_
          refine d_val rfl rfl (r_pickT (v := .bool true) rfl rfl) ?_
          refine d_nil ?_
          refine c_true rfl ?_
          refine c_seq ?_
          refine c_region ?_
          refine l_val rfl rfl rfl (r_assign (v := .bool false) rfl) ?_
          refine l_nil ?_
          refine c_ret ?_
          obtain rfl := Option.some.inj H47
          refine ret1 (v := .bool false) rfl rfl (fin rfl)
        · have H48 := cnd_f hb H46
          refine d_loadN (i := 0) (vs := [.int .i64 a0.Dot.Device, .int .i64 a0.Dot.N, .int .i64 a0.Time, .int .i64 a0.Kind, .int .i64 a0.Id, str a0.Name, .int .i64 a0.Num, str a0.Text]) Tryd.isAgg52 Tryd.sizeOf52 rfl rfl rfl rfl ?_
          have h_t35 := bnd_val H48
          have H49 := bnd_rest H48
          refine d_call (k28 h_t35) Tryd.call28 rfl rfl ?_
          refine d_loadN (i := 0) (vs := [.int .i64 a0.Dot.Device, .int .i64 a0.Dot.N, .int .i64 a0.Time, .int .i64 a0.Kind, .int .i64 a0.Id, str a0.Name, .int .i64 a0.Num, str a0.Text]) Tryd.isAgg52 Tryd.sizeOf52 rfl rfl rfl rfl ?_
          have h_t37 := bnd_val H49
          have H50 := bnd_rest H49
          refine d_call (k29 h_t37) Tryd.call29 rfl rfl ?_
          refine d_val rfl rfl (r_neq rfl rfl) ?_
          refine d_val rfl rfl (r_pickF (v := .bool (decide ((val (sync_CheckFact a0)) ≠ (val (R_FactFault a0))))) rfl rfl) ?_
          refine d_nil ?_
          refine c_if (b := (decide ((val (sync_CheckFact a0)) ≠ (val (R_FactFault a0))))) rfl (fun hb => ?_) (fun hb => ?_)
          · have H51 := cnd_t hb H50; clear H50
            refine c_seq ?_
            refine c_region ?_
            refine l_val rfl rfl rfl (r_assign (v := .bool false) rfl) ?_
            refine l_nil ?_
            refine c_ret ?_
            obtain rfl := Option.some.inj H51
            refine ret1 (v := .bool false) rfl rfl (fin rfl)
          · have H52 := cnd_f hb H50; clear H50
            refine c_skip ?_
            refine c_seq ?_
            refine c_seq ?_
            refine c_region ?_
            refine l_val rfl rfl rfl (r_move (v := .bool x9) rfl) ?_
            refine l_val rfl rfl rfl (r_not rfl) ?_
            refine l_nil ?_
            refine c_if (b := (!x9)) rfl (fun hb => ?_) (fun hb => ?_)
            · have H53 := cnd_t hb H52; clear H52
              refine c_seq ?_
              refine c_region ?_
              refine l_val rfl rfl rfl (r_assign (v := .bool true) rfl) ?_
              refine l_nil ?_
              refine c_ret ?_
              obtain rfl := Option.some.inj H53
              refine ret1 (v := .bool true) rfl rfl (fin rfl)
            · have H54 := cnd_f hb H52; clear H52
              refine c_skip ?_
              refine c_seq ?_
              refine c_region ?_
              refine l_val rfl rfl rfl (r_move (v := optP t14.1 p) rfl) ?_
              refine l_val rfl rfl rfl (r_move (v := .int .i64 a2) rfl) ?_
              obtain ⟨z, h_z, H55⟩ := bnd_some H54; clear H54
              refine c_obx 1 rfl h_z (fun hpv_ => ?_)
              rw [hpv_]; clear hpv_
              refine c_split 1 rfl ?_
              obtain ⟨t45, h_t45, H56⟩ := bnd_some H55; clear H55
              refine l_make (makes_call (rds := [1, 2]) (G := fun x : Nat × (Option Addr × Nat) => .tuple #[optP t45.1 x.1, .int .i64 t45.2]) (C := fun x : Nat × (Option Addr × Nat) => obxC (optP t45.1 x.1) t45.1 x.1 (fun z : T_sync_Replica => bothC (cellsC x.1 [.int .i64 z.device_, .int .i64 (z.knows_ 0), .int .i64 (z.knows_ 1), .int .i64 (z.knows_ 2), .int .i64 (z.knows_ 3), .int .i64 (z.knows_ 4), .int .i64 (z.knows_ 5), .int .i64 (z.knows_ 6), .int .i64 (z.knows_ 7), .int .i64 (z.knows_ 8), .int .i64 (z.knows_ 9), .int .i64 (z.knows_ 10), .int .i64 (z.knows_ 11), .int .i64 (z.knows_ 12), .int .i64 (z.knows_ 13), .int .i64 (z.knows_ 14), .int .i64 (z.knows_ 15), .slice x.2.1 z.facts_.length x.2.2] 111) (roV 8 (.slice x.2.1 z.facts_.length x.2.2) z.facts_.length (z.facts_.map e_sync_Fact)))) (fun w L' hF hS hi => k30 (know_all w) (frs_rd (i := 2) hS ((hi 2 (by simp)).trans rfl)) (sat_cell (i := 1) hS ((hi 1 (by simp)).trans rfl)) h_t45) Tryd.call30 rfl) rfl rfl rfl (fun ⟨p_3, p_4⟩ => ?_)
              refine l_val rfl rfl rfl (r_move (v := .tuple #[optP t45.1 p_3, .int .i64 t45.2]) rfl) ?_
              refine l_val rfl rfl rfl (r_extract (v := optP t45.1 p_3) rfl rfl) ?_
              refine l_val rfl rfl rfl (r_extract (v := .int .i64 t45.2) rfl rfl) ?_
              refine l_val rfl rfl rfl (r_assign (v := optP t45.1 p_3) rfl) ?_
              refine l_val rfl rfl rfl (r_assign (v := .int .i64 t45.2) rfl) ?_
              refine l_nil ?_
              refine c_meet (r := r) (σ := Bool) (τ := Unit) (fun s => Law_SyncFacts_j2 a1 a2 z t45 s) (fun s t => [(1, .int .i64 a1), (2, .int .i64 a2), (7, .pointer (some ⟨p, 0, none⟩)), (8, .int .i64 t45.2), (10, optP t45.1 p_3), (11, .bool s)]) (fun s t => [cellsC p [.int .i64 z.device_, .int .i64 (z.knows_ 0), .int .i64 (z.knows_ 1), .int .i64 (z.knows_ 2), .int .i64 (z.knows_ 3), .int .i64 (z.knows_ 4), .int .i64 (z.knows_ 5), .int .i64 (z.knows_ 6), .int .i64 (z.knows_ 7), .int .i64 (z.knows_ 8), .int .i64 (z.knows_ 9), .int .i64 (z.knows_ 10), .int .i64 (z.knows_ 11), .int .i64 (z.knows_ 12), .int .i64 (z.knows_ 13), .int .i64 (z.knows_ 14), .int .i64 (z.knows_ 15), .slice p_2.1 z.facts_.length p_2.2] 111, roV 8 (.slice p_2.1 z.facts_.length p_2.2) z.facts_.length (z.facts_.map e_sync_Fact), obxC (optP t45.1 p_3) t45.1 p_3 (fun z : T_sync_Replica => bothC (cellsC p_3 [.int .i64 z.device_, .int .i64 (z.knows_ 0), .int .i64 (z.knows_ 1), .int .i64 (z.knows_ 2), .int .i64 (z.knows_ 3), .int .i64 (z.knows_ 4), .int .i64 (z.knows_ 5), .int .i64 (z.knows_ 6), .int .i64 (z.knows_ 7), .int .i64 (z.knows_ 8), .int .i64 (z.knows_ 9), .int .i64 (z.knows_ 10), .int .i64 (z.knows_ 11), .int .i64 (z.knows_ 12), .int .i64 (z.knows_ 13), .int .i64 (z.knows_ 14), .int .i64 (z.knows_ 15), .slice p_4.1 z.facts_.length p_4.2] 111) (roV 8 (.slice p_4.1 z.facts_.length p_4.2) z.facts_.length (z.facts_.map e_sync_Fact)))]) (fun s t => True) ?_ ?_
              · refine c_region ?_
                refine l_val rfl rfl rfl (r_move (v := .int .i64 a2) rfl) ?_
                refine l_val rfl rfl rfl (r_geq rfl rfl) ?_
                refine l_val rfl rfl rfl (r_move (v := .bool (decide (0 ≤ a2))) rfl) ?_
                refine split (fun hb => ?_) (fun hb => ?_)
                · have H79 := cnd_t hb H56; clear H56
                  refine l_val rfl rfl rfl (r_move (v := .int .i64 a2) rfl) ?_
                  refine l_val rfl rfl rfl (r_lss rfl rfl) ?_
                  refine l_val rfl rfl rfl (r_pickT (v := .bool (decide (a2 < 16))) rfl rfl) ?_
                  refine l_val rfl rfl rfl (r_assign (v := .bool (decide (a2 < 16))) rfl) ?_
                  refine l_nil ?_
                  refine c_close (decide (a2 < 16)) () 0 [1, 2, 3] (by exact ⟨rfl, rfl, rfl, rfl, rfl, rfl, trivial⟩) (by decide) rfl (by exact ⟨H79, trivial⟩) (Nat.lt_succ_self _)
                · have H80 := cnd_f hb H56; clear H56
                  refine l_passed rfl rfl rfl ?_
                  refine l_passed rfl rfl rfl ?_
                  refine l_val rfl rfl rfl (r_pickF (v := .bool false) rfl rfl) ?_
                  refine l_val rfl rfl rfl (r_assign (v := .bool false) rfl) ?_
                  refine l_nil ?_
                  refine c_close false () 0 [1, 2, 3] (by exact ⟨rfl, rfl, rfl, rfl, rfl, rfl, trivial⟩) (by decide) rfl (by exact ⟨H80, trivial⟩) (Nat.lt_succ_self _)
              · rintro x11 _ gg H57 _
                replace H57 : Law_SyncFacts_j2 a1 a2 z t45 x11 = some r := H57
                refine c_tidyF [(1, .int .i64 a1), (2, .int .i64 a2), (7, .pointer (some ⟨p, 0, none⟩)), (8, .int .i64 t45.2), (10, optP t45.1 p_3), (11, .bool x11)] [cellsC p [.int .i64 z.device_, .int .i64 (z.knows_ 0), .int .i64 (z.knows_ 1), .int .i64 (z.knows_ 2), .int .i64 (z.knows_ 3), .int .i64 (z.knows_ 4), .int .i64 (z.knows_ 5), .int .i64 (z.knows_ 6), .int .i64 (z.knows_ 7), .int .i64 (z.knows_ 8), .int .i64 (z.knows_ 9), .int .i64 (z.knows_ 10), .int .i64 (z.knows_ 11), .int .i64 (z.knows_ 12), .int .i64 (z.knows_ 13), .int .i64 (z.knows_ 14), .int .i64 (z.knows_ 15), .slice p_2.1 z.facts_.length p_2.2] 111, roV 8 (.slice p_2.1 z.facts_.length p_2.2) z.facts_.length (z.facts_.map e_sync_Fact), obxC (optP t45.1 p_3) t45.1 p_3 (fun z : T_sync_Replica => bothC (cellsC p_3 [.int .i64 z.device_, .int .i64 (z.knows_ 0), .int .i64 (z.knows_ 1), .int .i64 (z.knows_ 2), .int .i64 (z.knows_ 3), .int .i64 (z.knows_ 4), .int .i64 (z.knows_ 5), .int .i64 (z.knows_ 6), .int .i64 (z.knows_ 7), .int .i64 (z.knows_ 8), .int .i64 (z.knows_ 9), .int .i64 (z.knows_ 10), .int .i64 (z.knows_ 11), .int .i64 (z.knows_ 12), .int .i64 (z.knows_ 13), .int .i64 (z.knows_ 14), .int .i64 (z.knows_ 15), .slice p_4.1 z.facts_.length p_4.2] 111) (roV 8 (.slice p_4.1 z.facts_.length p_4.2) z.facts_.length (z.facts_.map e_sync_Fact)))] rfl rfl ?_
                refine c_seq ?_
                refine c_seq ?_
                refine c_region ?_
                refine l_val rfl rfl rfl (r_move (v := .int .i64 t45.2) rfl) ?_
                refine l_val rfl rfl rfl (r_move (v := .bool x11) rfl) ?_
                obtain ⟨t56, h_t56, H58⟩ := bnd_some H57; clear H57
                refine l_call (k27 h_t56) Tryd.call27 rfl rfl rfl ?_
                refine l_val rfl rfl rfl (r_neq rfl rfl) ?_
                refine l_val rfl rfl rfl (r_move (v := .bool (decide (t45.2 ≠ t56))) rfl) ?_
                refine split (fun hb => ?_) (fun hb => ?_)
                · have H59 := cnd_t hb H58; clear H58
                  refine l_passed rfl rfl rfl ?_
                  refine l_passed rfl rfl rfl ?_
                  refine l_passed rfl rfl rfl ?_
                  refine l_passed rfl rfl rfl ?_
                  refine l_val rfl rfl rfl (r_pickT (v := .bool true) rfl rfl) ?_
                  refine l_nil ?_
                  refine c_true rfl ?_
                  refine c_seq ?_
                  refine c_region ?_
                  refine l_val rfl rfl rfl (r_assign (v := .bool false) rfl) ?_
                  refine l_nil ?_
                  refine c_ret ?_
                  obtain rfl := Option.some.inj H59
                  refine ret1 (v := .bool false) rfl rfl (fin rfl)
                · have H60 := cnd_f hb H58; clear H58
                  refine l_val rfl rfl rfl (r_move (v := optP t45.1 p_3) rfl) ?_
                  refine l_read (fun w hF hS => run_neqOpt (i := 2) Tryd.underlying53 rfl rfl hS rfl) rfl rfl rfl ?_
                  refine l_val rfl rfl rfl (r_move (v := .bool x11) rfl) ?_
                  refine l_val rfl rfl rfl (r_neqB Tryd.underlying4 rfl rfl) ?_
                  refine l_val rfl rfl rfl (r_pickF (v := .bool (decide ((Option.isSome t45.1) ≠ x11))) rfl rfl) ?_
                  refine l_nil ?_
                  refine c_if (b := (decide ((Option.isSome t45.1) ≠ x11))) rfl (fun hb => ?_) (fun hb => ?_)
                  · have H61 := cnd_t hb H60; clear H60
                    refine c_seq ?_
                    refine c_region ?_
                    refine l_val rfl rfl rfl (r_assign (v := .bool false) rfl) ?_
                    refine l_nil ?_
                    refine c_ret ?_
                    obtain rfl := Option.some.inj H61
                    refine ret1 (v := .bool false) rfl rfl (fin rfl)
                  · have H62 := cnd_f hb H60; clear H60
                    refine c_skip ?_
                    refine c_seq ?_
                    refine c_region ?_
                    refine l_val rfl rfl rfl (r_move (v := .pointer (some ⟨p, 0, none⟩)) rfl) ?_
                    obtain ⟨t65, h_t65, H63⟩ := bnd_some H62; clear H62
                    refine l_callG (fun w hF hS => k31 (know_all w) (frs_rd (i := 1) hS rfl) (sat_cell (i := 0) hS rfl) h_t65) Tryd.call31 rfl rfl rfl ?_
                    refine l_val rfl rfl rfl (r_move (v := .int .i64 a1) rfl) ?_
                    refine l_val rfl rfl rfl (r_eql rfl rfl) ?_
                    refine l_val rfl rfl rfl (r_move (v := .bool (decide (t65 = a1))) rfl) ?_
                    refine split (fun hb => ?_) (fun hb => ?_)
                    · have H64 := cnd_t hb H63; clear H63
                      refine l_val rfl rfl rfl (r_move (v := .pointer (some ⟨p, 0, none⟩)) rfl) ?_
                      obtain ⟨t70, h_t70, H65⟩ := bnd_some H64; clear H64
                      refine l_callG (fun w hF hS => k32 (know_all w) (frs_rd (i := 1) hS rfl) (sat_cell (i := 0) hS rfl) h_t70) Tryd.call32 rfl rfl rfl ?_
                      refine l_val rfl rfl rfl (r_buildA (ps := []) (cells := #[.int .i64 0, .int .i64 0, .int .i64 0, .int .i64 0, .int .i64 0, .int .i64 0, .int .i64 0, .int .i64 0, .int .i64 0, .int .i64 0, .int .i64 0, .int .i64 0, .int .i64 0, .int .i64 0, .int .i64 0, .int .i64 0]) Tryd.zeroValue60 Tryd.runUnderlying60 Tryd.sizeOf3 rfl rfl) ?_
                      refine l_val rfl rfl rfl (r_eqlA (xs := #[.int .i64 (t70 0), .int .i64 (t70 1), .int .i64 (t70 2), .int .i64 (t70 3), .int .i64 (t70 4), .int .i64 (t70 5), .int .i64 (t70 6), .int .i64 (t70 7), .int .i64 (t70 8), .int .i64 (t70 9), .int .i64 (t70 10), .int .i64 (t70 11), .int .i64 (t70 12), .int .i64 (t70 13), .int .i64 (t70 14), .int .i64 (t70 15)]) (ys := #[.int .i64 0, .int .i64 0, .int .i64 0, .int .i64 0, .int .i64 0, .int .i64 0, .int .i64 0, .int .i64 0, .int .i64 0, .int .i64 0, .int .i64 0, .int .i64 0, .int .i64 0, .int .i64 0, .int .i64 0, .int .i64 0]) Tryd.eqGuardType60 (fun w => run_eq_sync_Knows w t70 (fun _ => 0)) rfl rfl) ?_
                      refine l_val rfl rfl rfl (r_pickT (v := .bool (eq_sync_Knows t70 (fun _ => 0))) rfl rfl) ?_
                      refine l_val rfl rfl rfl (r_move (v := .bool (eq_sync_Knows t70 (fun _ => 0))) rfl) ?_
                      refine split (fun hb => ?_) (fun hb => ?_)
                      · have H66 := cnd_t hb H65; clear H65
                        refine l_val rfl rfl rfl (r_move (v := .pointer (some ⟨p, 0, none⟩)) rfl) ?_
                        obtain ⟨t76, h_t76, H67⟩ := bnd_some H66; clear H66
                        refine l_make (makes_call (rds := [0, 1]) (G := fun x : (Option Addr × Nat) => .slice x.1 t76.length x.2) (C := fun x : (Option Addr × Nat) => roV 8 (.slice x.1 t76.length x.2) t76.length (t76.map e_sync_Fact)) (fun w L' hF hS hi => k33 (know_all w) (frs_rd (i := 1) hS ((hi 1 (by simp)).trans rfl)) (sat_cell (i := 0) hS ((hi 0 (by simp)).trans rfl)) h_t76) Tryd.call33 rfl) rfl rfl rfl (fun p_5 => ?_)
                        refine l_val rfl rfl rfl (r_len Tryd.underlying62 rfl) ?_
                        refine l_val rfl rfl rfl (r_eql rfl rfl) ?_
                        refine l_val rfl rfl rfl (r_pickT (v := .bool (decide ((t76.length : Int) = 0))) rfl rfl) ?_
                        refine l_val rfl rfl rfl (r_move (v := .bool (decide ((t76.length : Int) = 0))) rfl) ?_
                        refine split (fun hb => ?_) (fun hb => ?_)
                        · have H68 := cnd_t hb H67; clear H67
                          refine l_val rfl rfl rfl (r_move (v := .bool x11) rfl) ?_
                          refine l_val rfl rfl rfl (r_not rfl) ?_
                          refine l_val rfl rfl rfl (r_move (v := .bool (!x11)) rfl) ?_
                          refine split (fun hb => ?_) (fun hb => ?_)
                          · have H69 := cnd_t hb H68; clear H68
                            refine l_passed rfl rfl rfl ?_
                            refine l_passed rfl rfl rfl ?_
                            refine l_passed rfl rfl rfl ?_
                            refine l_passed rfl rfl rfl ?_
                            refine l_passed rfl rfl rfl ?_
                            refine l_passed rfl rfl rfl ?_
                            refine l_passed rfl rfl rfl ?_
                            refine l_passed rfl rfl rfl ?_
                            refine l_passed rfl rfl rfl ?_
                            refine l_val rfl rfl rfl (r_pickT (v := .bool true) rfl rfl) ?_
                            refine l_val rfl rfl rfl (r_pickT (v := .bool true) rfl rfl) ?_
                            refine l_val rfl rfl rfl (r_assign (v := .bool true) rfl) ?_
                            refine l_nil ?_
                            refine c_ret ?_
                            obtain rfl := Option.some.inj H69
                            refine ret1 (v := .bool true) rfl rfl (fin rfl)
                          · have H70 := cnd_f hb H68; clear H68
                            refine l_val rfl rfl rfl (r_move (v := optP t45.1 p_3) rfl) ?_
                            obtain ⟨z_2, h_z_2, H71⟩ := bnd_some H70; clear H70
                            refine c_obx 2 rfl h_z_2 (fun hpv_ => ?_)
                            rw [hpv_]; clear hpv_
                            refine c_split 2 rfl ?_
                            obtain ⟨t85, h_t85, H72⟩ := bnd_some H71; clear H71
                            refine l_callG (fun w hF hS => k31 (know_all w) (frs_rd (i := 4) hS rfl) (sat_cell (i := 2) hS rfl) h_t85) Tryd.call31 rfl rfl rfl ?_
                            refine l_val rfl rfl rfl (r_move (v := .int .i64 a2) rfl) ?_
                            refine l_val rfl rfl rfl (r_eql rfl rfl) ?_
                            refine l_val rfl rfl rfl (r_move (v := .bool (decide (t85 = a2))) rfl) ?_
                            refine split (fun hb => ?_) (fun hb => ?_)
                            · have H73 := cnd_t hb H72; clear H72
                              refine l_val rfl rfl rfl (r_move (v := .pointer (some ⟨p, 0, none⟩)) rfl) ?_
                              refine l_val rfl rfl rfl (r_move (v := .pointer (some ⟨p_3, 0, none⟩)) rfl) ?_
                              obtain ⟨t91, h_t91, H74⟩ := bnd_some H73; clear H73
                              refine l_callG (fun w hF hS => k34 (know_all w) (frs_rd (i := 1) hS rfl) (sat_cell (i := 0) hS rfl) (frs_rd (i := 4) hS rfl) (sat_cell (i := 2) hS rfl) h_t91) Tryd.call34 rfl rfl rfl ?_
                              refine l_val rfl rfl rfl (r_pickT (v := .bool t91) rfl rfl) ?_
                              refine l_val rfl rfl rfl (r_pickF (v := .bool t91) rfl rfl) ?_
                              refine l_val rfl rfl rfl (r_pickT (v := .bool t91) rfl rfl) ?_
                              refine l_val rfl rfl rfl (r_assign (v := .bool t91) rfl) ?_
                              refine l_nil ?_
                              refine c_ret ?_
                              obtain rfl := Option.some.inj H74
                              refine ret1 (v := .bool t91) rfl rfl (fin rfl)
                            · have H75 := cnd_f hb H72; clear H72
                              refine l_passed rfl rfl rfl ?_
                              refine l_passed rfl rfl rfl ?_
                              refine l_passed rfl rfl rfl ?_
                              refine l_val rfl rfl rfl (r_pickF (v := .bool false) rfl rfl) ?_
                              refine l_val rfl rfl rfl (r_pickF (v := .bool false) rfl rfl) ?_
                              refine l_val rfl rfl rfl (r_pickT (v := .bool false) rfl rfl) ?_
                              refine l_val rfl rfl rfl (r_assign (v := .bool false) rfl) ?_
                              refine l_nil ?_
                              refine c_ret ?_
                              obtain rfl := Option.some.inj H75
                              refine ret1 (v := .bool false) rfl rfl (fin rfl)
                        · have H76 := cnd_f hb H67; clear H67
                          refine l_passed rfl rfl rfl ?_
                          refine l_passed rfl rfl rfl ?_
                          refine l_passed rfl rfl rfl ?_
                          refine l_passed rfl rfl rfl ?_
                          refine l_passed rfl rfl rfl ?_
                          refine l_passed rfl rfl rfl ?_
                          refine l_passed rfl rfl rfl ?_
                          refine l_passed rfl rfl rfl ?_
                          refine l_passed rfl rfl rfl ?_
                          refine l_passed rfl rfl rfl ?_
                          refine l_passed rfl rfl rfl ?_
                          refine l_passed rfl rfl rfl ?_
                          refine l_passed rfl rfl rfl ?_
                          refine l_val rfl rfl rfl (r_pickF (v := .bool false) rfl rfl) ?_
                          refine l_val rfl rfl rfl (r_assign (v := .bool false) rfl) ?_
                          refine l_nil ?_
                          refine c_ret ?_
                          obtain rfl := Option.some.inj H76
                          refine ret1 (v := .bool false) rfl rfl (fin rfl)
                      · have H77 := cnd_f hb H65; clear H65
                        refine l_passed rfl rfl rfl ?_
                        refine l_passed rfl rfl rfl ?_
                        refine l_passed rfl rfl rfl ?_
                        refine l_passed rfl rfl rfl ?_
                        refine l_val rfl rfl rfl (r_pickF (v := .bool false) rfl rfl) ?_
                        refine l_val rfl rfl rfl (r_move (v := .bool false) rfl) ?_
                        refine l_passed rfl rfl rfl ?_
                        refine l_passed rfl rfl rfl ?_
                        refine l_passed rfl rfl rfl ?_
                        refine l_passed rfl rfl rfl ?_
                        refine l_passed rfl rfl rfl ?_
                        refine l_passed rfl rfl rfl ?_
                        refine l_passed rfl rfl rfl ?_
                        refine l_passed rfl rfl rfl ?_
                        refine l_passed rfl rfl rfl ?_
                        refine l_passed rfl rfl rfl ?_
                        refine l_passed rfl rfl rfl ?_
                        refine l_passed rfl rfl rfl ?_
                        refine l_passed rfl rfl rfl ?_
                        refine l_val rfl rfl rfl (r_pickF (v := .bool false) rfl rfl) ?_
                        refine l_val rfl rfl rfl (r_assign (v := .bool false) rfl) ?_
                        refine l_nil ?_
                        refine c_ret ?_
                        obtain rfl := Option.some.inj H77
                        refine ret1 (v := .bool false) rfl rfl (fin rfl)
                    · have H78 := cnd_f hb H63; clear H63
                      refine l_passed rfl rfl rfl ?_
                      refine l_passed rfl rfl rfl ?_
                      refine l_passed rfl rfl rfl ?_
                      refine l_passed rfl rfl rfl ?_
                      refine l_val rfl rfl rfl (r_pickF (v := .bool false) rfl rfl) ?_
                      refine l_val rfl rfl rfl (r_move (v := .bool false) rfl) ?_
                      refine l_passed rfl rfl rfl ?_
                      refine l_passed rfl rfl rfl ?_
                      refine l_passed rfl rfl rfl ?_
                      refine l_passed rfl rfl rfl ?_
                      refine l_val rfl rfl rfl (r_pickF (v := .bool false) rfl rfl) ?_
                      refine l_val rfl rfl rfl (r_move (v := .bool false) rfl) ?_
                      refine l_passed rfl rfl rfl ?_
                      refine l_passed rfl rfl rfl ?_
                      refine l_passed rfl rfl rfl ?_
                      refine l_passed rfl rfl rfl ?_
                      refine l_passed rfl rfl rfl ?_
                      refine l_passed rfl rfl rfl ?_
                      refine l_passed rfl rfl rfl ?_
                      refine l_passed rfl rfl rfl ?_
                      refine l_passed rfl rfl rfl ?_
                      refine l_passed rfl rfl rfl ?_
                      refine l_passed rfl rfl rfl ?_
                      refine l_passed rfl rfl rfl ?_
                      refine l_passed rfl rfl rfl ?_
                      refine l_val rfl rfl rfl (r_pickF (v := .bool false) rfl rfl) ?_
                      refine l_val rfl rfl rfl (r_assign (v := .bool false) rfl) ?_
                      refine l_nil ?_
                      refine c_ret ?_
                      obtain rfl := Option.some.inj H78
                      refine ret1 (v := .bool false) rfl rfl (fin rfl)
      ) (by kernel_rfl)
end Go.Proofs.YtaonhnkojkkmbaaDoor
