/- TagWrites: the walks, printed by our generator; each follows its model. Conditions: the model yields a value. -/
import Derived.Test.YtaonhnkojkkmbaaKWa
namespace Go.Proofs.Ytaonhnkojkkmbaa
open Go Go.Vc Go.Md Go.M Go.Lx
set_option maxRecDepth 100000
set_option maxHeartbeats 4000000
set_option linter.unusedVariables false

theorem k9 {a0 : T_tag_File} {v0_1 : Value} {r : Int × Int} {w : World} {h : Heap} (hw : Know h w noS) (f0_1 : FrN h 1 v0_1 gs_tag_Entry a0.Dirs) (H : tag_Size a0 = some r) : Does Try.prog 9 (List.toArray [.agg #[.bool a0.Big, v0_1]]) w (fun v w' => v = (.tuple #[.int .i64 r.1, .int .i64 r.2]) ∧ Grow w w') := by
  refine enter (n := 12) Try.func9 rfl rfl rfl noS [] (Sat.nil _ _) ?_
  refine c_seq ?_
  refine c_region ?_
  refine l_box (cs := [.bool a0.Big, v0_1]) rfl rfl rfl rfl (fun b1 => ?_)
  refine l_val rfl rfl rfl (r_assign (v := .int .i64 0) rfl) ?_
  refine l_val rfl rfl rfl (r_assign (v := .int .i64 0) rfl) ?_
  refine l_nil ?_
  refine c_seq ?_
  refine c_seq ?_
  refine c_region ?_
  refine l_loadN (i := 0) (vs := [.bool a0.Big, v0_1]) Try.isAgg24 Try.sizeOf24 rfl rfl rfl rfl rfl ?_
  obtain ⟨t6, h_t6, H5⟩ := bnd_some H; clear H
  refine l_callG (fun w hF hS => k11 (know_all w) (f0_1.mono (hw.now hF)) h_t6) Try.call11 rfl rfl rfl ?_
  refine l_val rfl rfl rfl (r_assign (v := .int .i64 t6) rfl) ?_
  refine l_nil ?_
  refine c_seq ?_
  refine c_region ?_
  refine l_val rfl rfl rfl (r_move (v := .int .i64 t6) rfl) ?_
  refine l_val rfl rfl rfl (r_neq rfl rfl) ?_
  refine l_nil ?_
  refine c_if (b := (decide (t6 ≠ 0))) rfl (fun hb => ?_) (fun hb => ?_)
  · have H6 := cnd_t hb H5; clear H5
    refine c_seq ?_
    refine c_region ?_
    refine l_val rfl rfl rfl (r_move (v := .int .i64 t6) rfl) ?_
    refine l_val rfl rfl rfl (r_assign (v := .int .i64 0) rfl) ?_
    refine l_val rfl rfl rfl (r_assign (v := .int .i64 t6) rfl) ?_
    refine l_nil ?_
    refine c_ret ?_
    obtain rfl := Option.some.inj H6
    refine ret2 (v1 := .int .i64 0) (v2 := .int .i64 t6) rfl rfl rfl (fin rfl)
  · have H7 := cnd_f hb H5; clear H5
    refine c_skip ?_
    refine c_seq ?_
    refine c_region ?_
    refine l_loadN (i := 0) (vs := [.bool a0.Big, v0_1]) Try.isAgg24 Try.sizeOf24 rfl rfl rfl rfl rfl ?_
    obtain ⟨t11, h_t11, H8⟩ := bnd_some H7; clear H7
    refine l_callG (fun w hF hS => k46 (know_all w) (f0_1.mono (hw.now hF)) h_t11) Try.call46 rfl rfl rfl ?_
    refine l_val rfl rfl rfl (r_assign (v := .int .i64 t11) rfl) ?_
    refine l_val rfl rfl rfl (r_assign (v := .int .i64 0) rfl) ?_
    refine l_nil ?_
    refine c_ret ?_
    obtain rfl := Option.some.inj H8
    refine ret2 (v1 := .int .i64 t11) (v2 := .int .i64 0) rfl rfl rfl (fin rfl)
theorem k90 {a0 : Bool} {a1 : Int} {a2 : Int} {r : (List Int)} {w : World} {h : Heap} (hw : Know h w noS) (H : tag_number a0 a1 a2 = some r) : Does Try.prog 90 (List.toArray [.bool a0, .int .i64 a1, .int .i64 a2]) w (fun v w' => ∃ x : (Option Addr × Nat), v = (.slice x.1 r.length x.2) ∧ Turn w w' noS (rowV 5 1 (.slice x.1 r.length x.2) r.length (r.map e_u8))) := by
  refine enter (n := 33) Try.func90 rfl rfl rfl noS [] (Sat.nil _ _) ?_
  refine c_seq ?_
  refine c_region ?_
  refine l_val rfl rfl rfl (r_assign (v := .slice none 0 0) rfl) ?_
  refine l_nil ?_
  refine c_seq ?_
  refine c_region ?_
  refine l_val rfl rfl rfl (r_move (v := .int .i64 a2) rfl) ?_
  obtain ⟨t11, h_t11, H15⟩ := bnd_some H; clear H
  refine l_make (rds := []) (makes_makeG (E := 5) (sz := 1) (f := e_u8) (xs := t11) Try.underlying133 (info_of Try.typeInfo5) rfl rfl rfl rfl rfl rfl ⟨rfl, rfl⟩ h_t11) rfl rfl rfl (fun p => ?_)
  refine l_val rfl rfl rfl (r_assign (v := .slice p.1 t11.length p.2) rfl) ?_
  refine l_nil ?_
  refine c_seq ?_
  refine c_seq ?_
  refine c_region ?_
  refine l_val rfl rfl rfl (r_move (v := .slice p.1 t11.length p.2) rfl) ?_
  refine l_val rfl rfl rfl (r_len Try.underlying133 rfl) ?_
  refine l_val rfl rfl rfl (r_move (v := .int .i64 0) rfl) ?_
  refine l_nil ?_
  refine c_block ?_
  refine c_fix (σ := Int × (List Int)) (τ := Unit) (fun next1 s => tag_number_l1 a0 a1 a2 t11 next1 s.1 s.2) (fun s t => [(0, .bool a0), (1, .int .i64 a1), (2, .int .i64 a2), (7, .slice p.1 t11.length p.2), (13, .int .i64 (t11.length : Int)), (14, .int .i64 s.1)]) (fun s t => [rowV 5 1 (.slice p.1 t11.length p.2) t11.length (s.2.map e_u8)]) (fun s t => t11.length = s.2.length) (0, t11) () [0] H15 (by exact rfl) (by exact ⟨rfl, rfl, rfl, rfl, rfl, rfl, trivial⟩) (by decide) rfl ?_
  rintro ⟨x14_2, l_2⟩ _ m1 gg H16 hl_2
  clear H15
  replace H16 : tag_number_l1 a0 a1 a2 t11 (it (fun next1 s => tag_number_l1 a0 a1 a2 t11 next1 s.1 s.2) m1) x14_2 l_2 = some r := H16
  generalize hn1 : it (fun next1 s => tag_number_l1 a0 a1 a2 t11 next1 s.1 s.2) m1 = next1 at H16
  refine c_tidyF [(0, .bool a0), (1, .int .i64 a1), (2, .int .i64 a2), (7, .slice p.1 t11.length p.2), (13, .int .i64 (t11.length : Int)), (14, .int .i64 x14_2)] [rowV 5 1 (.slice p.1 t11.length p.2) t11.length (l_2.map e_u8)] rfl rfl ?_
  refine c_seq ?_
  refine c_region ?_
  refine l_val rfl rfl rfl (r_lss rfl rfl) ?_
  refine l_nil ?_
  refine c_seq ?_
  refine c_if (b := (decide (x14_2 < (t11.length : Int)))) rfl (fun hb => ?_) (fun hb => ?_)
  · have H17 := cnd_t hb H16; clear H16
    refine c_skip ?_
    refine c_seq ?_
    refine c_block ?_
    refine c_seq ?_
    refine c_region ?_
    refine l_val rfl rfl rfl (r_move (v := .int .i64 x14_2) rfl) ?_
    refine l_val rfl rfl rfl (r_assign (v := .int .i64 x14_2) rfl) ?_
    refine l_nil ?_
    refine c_seq ?_
    refine c_region ?_
    refine l_val rfl rfl rfl (r_move (v := .int .i64 x14_2) rfl) ?_
    refine l_val rfl rfl rfl (r_assign (v := .int .i64 x14_2) rfl) ?_
    refine l_nil ?_
    refine c_meet (r := r) (σ := Int) (τ := Unit) (fun s => tag_number_j2 a1 x14_2 l_2 next1 s) (fun s t => [(0, .bool a0), (1, .int .i64 a1), (2, .int .i64 a2), (7, .slice p.1 t11.length p.2), (8, .int .i64 x14_2), (9, .int .i64 s), (13, .int .i64 (t11.length : Int)), (14, .int .i64 x14_2)]) (fun s t => [rowV 5 1 (.slice p.1 t11.length p.2) t11.length (l_2.map e_u8)]) (fun s t => True) ?_ ?_
    · refine c_seq ?_
      refine c_region ?_
      refine l_val rfl rfl rfl (r_move (v := .bool a0) rfl) ?_
      refine l_nil ?_
      refine c_if (b := a0) rfl (fun hb => ?_) (fun hb => ?_)
      · have H24 := cnd_t hb H17; clear H17
        refine c_region ?_
        refine l_val rfl rfl rfl (r_move (v := .int .i64 a2) rfl) ?_
        obtain ⟨t20, h_t20, H25⟩ := bnd_some H24; clear H24
        refine l_val rfl rfl rfl (r_subG rfl rfl h_t20) ?_
        refine l_val rfl rfl rfl (r_move (v := .int .i64 x14_2) rfl) ?_
        obtain ⟨t22, h_t22, H26⟩ := bnd_some H25; clear H25
        refine l_val rfl rfl rfl (r_subG rfl rfl h_t22) ?_
        refine l_val rfl rfl rfl (r_assign (v := .int .i64 t22) rfl) ?_
        refine l_nil ?_
        refine c_close t22 () 0 [0] (by exact ⟨rfl, rfl, rfl, rfl, rfl, rfl, rfl, rfl, trivial⟩) (by decide) rfl (by exact ⟨H26, trivial⟩) (Nat.lt_succ_self _)
      · have H27 := cnd_f hb H17; clear H17
        refine c_skip ?_
        refine c_close x14_2 () 0 [0] (by exact ⟨rfl, rfl, rfl, rfl, rfl, rfl, rfl, rfl, trivial⟩) (by decide) rfl (by exact ⟨H27, trivial⟩) (Nat.lt_succ_self _)
    · rintro x9 _ gg H18 _
      replace H18 : tag_number_j2 a1 x14_2 l_2 next1 x9 = some r := H18
      refine c_tidyF [(0, .bool a0), (1, .int .i64 a1), (2, .int .i64 a2), (7, .slice p.1 t11.length p.2), (8, .int .i64 x14_2), (9, .int .i64 x9), (13, .int .i64 (t11.length : Int)), (14, .int .i64 x14_2)] [rowV 5 1 (.slice p.1 t11.length p.2) t11.length (l_2.map e_u8)] rfl rfl ?_
      refine c_region ?_
      refine l_val rfl rfl rfl (r_move (v := .slice p.1 t11.length p.2) rfl) ?_
      refine l_val rfl rfl rfl (r_move (v := .int .i64 x9) rfl) ?_
      refine l_val rfl rfl rfl (r_move (v := .int .i64 a1) rfl) ?_
      refine l_val rfl rfl rfl (r_move (v := .int .i64 x14_2) rfl) ?_
      obtain ⟨t27, h_t27, H19⟩ := bnd_some H18; clear H18
      refine l_val rfl rfl rfl (r_mulG rfl rfl h_t27) ?_
      obtain ⟨t28, h_t28, H20⟩ := bnd_some H19; clear H19
      refine l_val rfl rfl rfl (r_shrG rfl rfl rfl h_t28) ?_
      refine l_val rfl rfl rfl (r_convG Try.runUnderlying3 Try.runUnderlying5 rfl (wr_u8 _)) ?_
      obtain ⟨t30, h_t30, H21⟩ := bnd_some H20; clear H20
      refine l_read (fun w hF hS => run_indexO Try.underlying133 Try.sizeOf5 rfl rfl (rowOf (i := 0) hS rfl) hl_2 h_t30) rfl rfl rfl ?_
      obtain ⟨l0, h_l0, H22⟩ := bnd_some H21; clear H21
      refine l_storeG (q := 0) (j := 0) (i := x9) (sz := 1) (hm := hl_2) (f := e_u8) (vs := [.int .u8 (wU8 t28)]) Try.sizeOf5 rfl rfl rfl rfl rfl rfl rfl rfl rfl (fun y_ hy_ => by first | rfl | (cases hy_.symm.trans h_t30; rfl)) h_l0 ?_
      refine l_nil ?_
      refine c_region ?_
      obtain ⟨t31, h_t31, H23⟩ := bnd_some H22; clear H22
      refine l_val rfl rfl rfl (r_addG rfl rfl h_t31) ?_
      refine l_val rfl rfl rfl (r_move (v := .int .i64 t31) rfl) ?_
      refine l_nil ?_
      refine c_close (t31, l0) () m1 [0] (by exact ⟨rfl, rfl, rfl, rfl, rfl, rfl, trivial⟩) (by decide) rfl (by exact ⟨(by subst hn1; exact H23), (gSet_n hl_2 h_l0)⟩) (Nat.lt_succ_self _)
  · have H28 := cnd_f hb H16; clear H16
    refine c_exit ?_
    refine c_seq ?_
    refine c_region ?_
    refine l_val rfl rfl rfl (r_move (v := .slice p.1 t11.length p.2) rfl) ?_
    refine l_val rfl rfl rfl (r_assign (v := .slice p.1 t11.length p.2) rfl) ?_
    refine l_nil ?_
    refine c_ret ?_
    obtain rfl := Option.some.inj H28
    refine ret1 (v := .slice p.1 t11.length p.2) rfl rfl (finX p (i := 0) rfl (by first | rfl | rw [(show t11.length = l_2.length from hl_2)]) (by first | exact Imp.refl _ | exact Imp.of (by rw [(show t11.length = l_2.length from hl_2)])))
theorem k92 {a0 : T_tag_writer} {pb0 : Nat} {p0_1 : Option Addr × Nat} {n0_1 : Nat} {a1 : Int} {a2 : Int} {r : T_tag_writer} {w : World} {h : Heap} {S : Nat → Prop} (hcs : (bothC (cellsC pb0 [.bool a0.big_, .slice p0_1.1 n0_1 p0_1.2] 141) (rowV 5 1 (.slice p0_1.1 n0_1 p0_1.2) n0_1 (a0.out_.map e_u8))).P S w) (hlt : ∀ b, S b → b < w.heap.size) (hw : Know h w S) (hn0_1 : n0_1 = a0.out_.length) (H : tag_writer_set a0 a1 a2 = some r) : Does Try.prog 92 (List.toArray [.pointer (some ⟨pb0, 0, none⟩), .int .i64 a1, .int .i64 a2]) w (fun v w' => ∃ x : (Option Addr × Nat), v = (.tuple #[]) ∧ Turn w w' S (bothC (cellsC pb0 [.bool r.big_, .slice x.1 r.out_.length x.2] 141) (rowV 5 1 (.slice x.1 r.out_.length x.2) r.out_.length (r.out_.map e_u8)))) := by
  refine enter (n := 19) Try.func92 rfl rfl rfl S [bothC (cellsC pb0 [.bool a0.big_, .slice p0_1.1 n0_1 p0_1.2] 141) (rowV 5 1 (.slice p0_1.1 n0_1 p0_1.2) n0_1 (a0.out_.map e_u8))] (Sat.one hcs hlt) ?_
  refine c_split 0 rfl ?_
  exact c_regionD (Kd.p :: Kd.p :: Kd.p :: Kd.d [0] _ :: Kd.p :: Kd.d [1] _ :: Kd.p :: Kd.p :: Kd.p :: Kd.d [0] _ :: Kd.p :: Kd.t 2 [] _ _ :: Kd.t 1 [2] _ _ :: []) 1 mixed (by
    refine d_val rfl rfl (r_move (v := .pointer (some ⟨pb0, 0, none⟩)) rfl) ?_
    refine d_val rfl rfl (r_nilCheck rfl) ?_
    refine d_val rfl rfl (r_field Try.runUnderlying141 rfl Try.sizeOf133 rfl rfl) ?_
    refine d_load1 (i := 0) (v := .slice p0_1.1 n0_1 p0_1.2) Try.isAgg133 rfl rfl rfl rfl ?_
    refine d_val rfl rfl (r_move (v := .int .i64 a1) rfl) ?_
    have h_t11 := bnd_val H
    have H3 := bnd_rest H
    refine d_readD (v := .slice (cutA p0_1.1 (Int.toNat a1) p0_1.2 1) (val (gCut a0.out_ a1 a0.out_.length)).length (p0_1.2 - Int.toNat a1)) (fun w L' hF hS hi => run_sliceLO (xs := a0.out_) Try.underlying133 Try.sizeOf5 rfl rfl hn0_1 (capOf (i := 1) hS ((hi 1 (by simp)).trans rfl)) h_t11) rfl rfl ?_
    refine d_val rfl rfl (r_move (v := .pointer (some ⟨pb0, 0, none⟩)) rfl) ?_
    refine d_val rfl rfl (r_nilCheck rfl) ?_
    refine d_val rfl rfl (r_field Try.runUnderlying141 rfl Try.sizeOf4 rfl rfl) ?_
    refine d_load1 (i := 0) (v := .bool a0.big_) Try.isAgg4 rfl rfl rfl rfl ?_
    refine d_val rfl rfl (r_move (v := .int .i64 a2) rfl) ?_
    have h_t17 := bnd_val H3
    have H4 := bnd_rest H3
    refine d_make (Cv := fun v => rowV 5 1 v (val (tag_number a0.big_ a2 4)).length ((val (tag_number a0.big_ a2 4)).map e_u8)) (none, 0) (makes_call (G := fun x : (Option Addr × Nat) => .slice x.1 (val (tag_number a0.big_ a2 4)).length x.2) (C := fun x : (Option Addr × Nat) => rowV 5 1 (.slice x.1 (val (tag_number a0.big_ a2 4)).length x.2) (val (tag_number a0.big_ a2 4)).length ((val (tag_number a0.big_ a2 4)).map e_u8)) (fun w L' hF hS hi => k90 (know_all w)  h_t17) Try.call90 rfl) (fun _ => rfl) rfl rfl rfl (fun p => ?_)
    refine d_turn (Cv := fun _ => rowV 5 1 (.slice p0_1.1 n0_1 p0_1.2) n0_1 ((cpyL a0.out_ a1 (val (gCut a0.out_ a1 a0.out_.length)).length (val (tag_number a0.big_ a2 4))).map e_u8)) () (turns_copyG (i := 1) (rds := _) (p := p0_1) (f := e_u8) (xs := a0.out_) (ts := (val (gCut a0.out_ a1 a0.out_.length))) (ys := (val (tag_number a0.big_ a2 4))) hn0_1 Try.underlying133 (by rw [info_of Try.typeInfo5]; rfl) rfl rfl h_t11 rfl rfl (fun w L' hF hS hi => rowOf (i := 2) hS ((hi 2 (by simp)).trans rfl)) (fun _ => rfl) (fun _ => rfl)) (fun _ => rfl) rfl rfl (fun _ => ?_)
    refine d_nil ?_
    obtain rfl := Option.some.inj H4
    refine c_both 0 1 rfl rfl (by decide) ?_
    refine ret0n rfl (finX p0_1 (i := 0) rfl (by first | rfl | rw [(show n0_1 = (cpyL a0.out_ a1 (val (gCut a0.out_ a1 a0.out_.length)).length (val (tag_number a0.big_ a2 4))).length from (cpyL_n hn0_1 h_t11))]) (by first | exact Imp.refl _ | exact Imp.of (by rw [(show n0_1 = (cpyL a0.out_ a1 (val (gCut a0.out_ a1 a0.out_.length)).length (val (tag_number a0.big_ a2 4))).length from (cpyL_n hn0_1 h_t11))])))
    ) (by kernel_rfl)
theorem k125 {a0 : T_tag_writer} {pb0 : Nat} {p0_1 : Option Addr × Nat} {n0_1 : Nat} {r : Int × T_tag_writer} {w : World} {h : Heap} {S : Nat → Prop} (hcs : (bothC (cellsC pb0 [.bool a0.big_, .slice p0_1.1 n0_1 p0_1.2] 141) (rowV 5 1 (.slice p0_1.1 n0_1 p0_1.2) n0_1 (a0.out_.map e_u8))).P S w) (hlt : ∀ b, S b → b < w.heap.size) (hw : Know h w S) (hn0_1 : n0_1 = a0.out_.length) (H : tag_writer_begin a0 = some r) : Does Try.prog 125 (List.toArray [.pointer (some ⟨pb0, 0, none⟩)]) w (fun v w' => ∃ x : (Option Addr × Nat), v = (.int .i64 r.1) ∧ Turn w w' S (bothC (cellsC pb0 [.bool r.2.big_, .slice x.1 r.2.out_.length x.2] 141) (rowV 5 1 (.slice x.1 r.2.out_.length x.2) r.2.out_.length (r.2.out_.map e_u8)))) := by
  refine enter (n := 24) Try.func125 rfl rfl rfl S [bothC (cellsC pb0 [.bool a0.big_, .slice p0_1.1 n0_1 p0_1.2] 141) (rowV 5 1 (.slice p0_1.1 n0_1 p0_1.2) n0_1 (a0.out_.map e_u8))] (Sat.one hcs hlt) ?_
  refine c_split 0 rfl ?_
  refine c_seq ?_
  refine c_region ?_
  refine l_val rfl rfl rfl (r_assign (v := .int .i64 0) rfl) ?_
  refine l_nil ?_
  refine c_meet (r := r) (σ := (List Int)) (τ := (Option Addr × Nat) × Nat) (fun s => tag_writer_begin_j1 a0 s) (fun s t => [(0, .pointer (some ⟨pb0, 0, none⟩))]) (fun s t => [cellsC pb0 [.bool a0.big_, .slice t.1.1 t.2 t.1.2] 141, rowV 5 1 (.slice t.1.1 t.2 t.1.2) t.2 (s.map e_u8)]) (fun s t => t.2 = s.length) ?_ ?_
  · refine c_seq ?_
    refine c_region ?_
    refine l_val rfl rfl rfl (r_move (v := .pointer (some ⟨pb0, 0, none⟩)) rfl) ?_
    refine l_val rfl rfl rfl (r_nilCheck rfl) ?_
    refine l_val rfl rfl rfl (r_field Try.runUnderlying141 rfl Try.sizeOf133 rfl rfl) ?_
    refine l_load1 (i := 0) (v := .slice p0_1.1 n0_1 p0_1.2) Try.isAgg133 rfl rfl rfl rfl rfl ?_
    refine l_val rfl rfl rfl (r_lenN Try.underlying133 rfl hn0_1) ?_
    obtain ⟨t8, h_t8, H7⟩ := bnd_some H; clear H
    refine l_val rfl rfl rfl (r_remG rfl rfl h_t8) ?_
    refine l_val rfl rfl rfl (r_neq rfl rfl) ?_
    refine l_nil ?_
    refine c_if (b := (decide (t8 ≠ 0))) rfl (fun hb => ?_) (fun hb => ?_)
    · have H8 := cnd_t hb H7; clear H7
      refine c_region ?_
      refine l_val rfl rfl rfl (r_move (v := .pointer (some ⟨pb0, 0, none⟩)) rfl) ?_
      refine l_val rfl rfl rfl (r_move (v := .pointer (some ⟨pb0, 0, none⟩)) rfl) ?_
      refine l_val rfl rfl rfl (r_nilCheck rfl) ?_
      refine l_val rfl rfl rfl (r_field Try.runUnderlying141 rfl Try.sizeOf133 rfl rfl) ?_
      refine l_load1 (i := 0) (v := .slice p0_1.1 n0_1 p0_1.2) Try.isAgg133 rfl rfl rfl rfl rfl ?_
      refine l_buildSlice (vs := [.int .u8 0]) (cs := [.int .u8 0]) Try.underlying133 Try.sizeOf5 Try.zeroValue5 rfl rfl rfl rfl rfl rfl rfl (fun b1 => ?_)
      obtain ⟨l16, h_l16, H9⟩ := bnd_some H8; clear H8
      refine l_turn (turns_appG (i := 1) (hn := hn0_1) (rds := [2]) (p := p0_1) (sz := 1) (by_ := 1) (f := e_u8) (ys := a0.out_) (ls := ([0] : List Int)) (V := .slice (some ⟨b1, 0, none⟩) 1 1) Try.underlying133 (info_of Try.typeInfo5) rfl rfl rfl rfl rfl rfl rfl rfl rfl rfl (fun w L' hF hS hi => row_box (i := 2) hS ((hi 2 (by simp)).trans rfl) rfl rfl) (fun _ => rfl) (fun _ => rfl) h_l16) rfl rfl rfl (fun p_2 => ?_)
      refine l_val rfl rfl rfl (r_nilCheck rfl) ?_
      refine l_val rfl rfl rfl (r_field Try.runUnderlying141 rfl Try.sizeOf133 rfl rfl) ?_
      refine l_store (i := 0) (vs := [.slice p_2.1 l16.length p_2.2]) (cs' := [.bool a0.big_, .slice p_2.1 l16.length p_2.2]) Try.sizeOf133 rfl rfl rfl rfl rfl rfl rfl rfl rfl ?_
      refine l_nil ?_
      refine c_close l16 (p_2, l16.length) 0 [0, 1] (by exact ⟨rfl, trivial⟩) (by decide) rfl (by exact ⟨H9, rfl⟩) (Nat.lt_succ_self _)
    · have H10 := cnd_f hb H7; clear H7
      refine c_skip ?_
      refine c_close a0.out_ (p0_1, n0_1) 0 [0, 1] (by exact ⟨rfl, trivial⟩) (by decide) rfl (by exact ⟨H10, hn0_1⟩) (Nat.lt_succ_self _)
  · rintro l ⟨p, n⟩ gg H6 hl
    replace H6 : tag_writer_begin_j1 a0 l = some r := H6
    refine c_tidyF [(0, .pointer (some ⟨pb0, 0, none⟩))] [cellsC pb0 [.bool a0.big_, .slice p.1 n p.2] 141, rowV 5 1 (.slice p.1 n p.2) n (l.map e_u8)] rfl rfl ?_
    refine c_seq ?_
    refine c_region ?_
    refine l_val rfl rfl rfl (r_move (v := .pointer (some ⟨pb0, 0, none⟩)) rfl) ?_
    refine l_val rfl rfl rfl (r_nilCheck rfl) ?_
    refine l_val rfl rfl rfl (r_field Try.runUnderlying141 rfl Try.sizeOf133 rfl rfl) ?_
    refine l_load1 (i := 0) (v := .slice p.1 n p.2) Try.isAgg133 rfl rfl rfl rfl rfl ?_
    refine l_val rfl rfl rfl (r_lenN Try.underlying133 rfl hl) ?_
    refine l_val rfl rfl rfl (r_assign (v := .int .i64 (l.length : Int)) rfl) ?_
    refine l_nil ?_
    refine c_ret ?_
    obtain rfl := Option.some.inj H6
    refine c_both 0 1 rfl rfl (by decide) ?_
    refine ret1 (v := .int .i64 (l.length : Int)) rfl rfl (finX p (i := 0) rfl (by first | rfl | rw [(show n = l.length from hl)]) (by first | exact Imp.refl _ | exact Imp.of (by rw [(show n = l.length from hl)])))
theorem k127 {a0 : Bool} {a1 : T_tag_Value} {v1_2 : Value} {v1_3 : Value} {v1_4 : Value} {r : (List Int)} {w : World} {h : Heap} (hw : Know h w noS) (f1_2 : FrS h 1 v1_2 (a1.Ints.map e_i64)) (f1_3 : FrS h 2 v1_3 (a1.Ratios.map e_tag_Ratio)) (f1_4 : FrN h 6 v1_4 g_tag_Entry a1.Entries) (H : tag_octets a0 a1 = some r) : Does Try.prog 127 (List.toArray [.bool a0, .agg #[.int .i64 a1.Kind, str a1.Text, v1_2, v1_3, v1_4]]) w (fun v w' => ∃ x : (Option Addr × Nat), v = (.slice x.1 r.length x.2) ∧ Turn w w' noS (roV 1 (.slice x.1 r.length x.2) r.length (r.map e_u8))) := by
  refine enter (n := 61) Try.func127 rfl rfl rfl noS [] (Sat.nil _ _) ?_
  refine c_seq ?_
  refine c_region ?_
  refine l_box (cs := [.int .i64 a1.Kind, str a1.Text, v1_2, v1_3, v1_4]) rfl rfl rfl rfl (fun b6 => ?_)
  refine l_val rfl rfl rfl (r_assign (v := .slice none 0 0) rfl) ?_
  refine l_nil ?_
  refine c_seq ?_
  refine c_seq ?_
  refine c_region ?_
  refine l_val rfl rfl rfl (r_field Try.runUnderlying61 rfl Try.sizeOf3 rfl rfl) ?_
  refine l_load1 (i := 0) (v := .int .i64 a1.Kind) Try.isAgg3 rfl rfl rfl rfl rfl ?_
  refine l_nil ?_
  refine c_block ?_
  refine c_seq ?_
  refine c_region ?_
  refine l_val rfl rfl rfl (r_eql rfl rfl) ?_
  refine l_val rfl rfl rfl (r_assign (v := .bool (decide (a1.Kind = 2))) rfl) ?_
  refine l_nil ?_
  refine c_if (b := (decide (a1.Kind = 2))) rfl (fun hb => ?_) (fun hb => ?_)
  · have H51 := cnd_t hb H; clear H
    refine c_seq ?_
    refine c_region ?_
    refine l_val rfl rfl rfl (r_field Try.runUnderlying61 rfl Try.sizeOf9 rfl rfl) ?_
    refine l_load1 (i := 0) (v := str a1.Text) Try.isAgg9 rfl rfl rfl rfl rfl ?_
    obtain ⟨t16, h_t16, H52⟩ := bnd_some H51; clear H51
    refine l_make (rds := []) (makes_byt (f := e_u8) (s := a1.Text) Try.underlying9 Try.underlying133 Try.underlying5 rfl (fun _ => rfl) h_t16) rfl rfl rfl (fun p => ?_)
    refine l_buildSlice (vs := [.int .u8 0]) (cs := [.int .u8 0]) Try.underlying133 Try.sizeOf5 Try.zeroValue5 rfl rfl rfl rfl rfl rfl rfl (fun b7 => ?_)
    obtain ⟨l18, h_l18, H53⟩ := bnd_some H52; clear H52
    refine l_turn (turns_appM (i := 1) (hn := rfl) (rds := [2]) (p := p) (sz := 1) (by_ := 1) (f := e_u8) (ys := t16) (ls := ([0] : List Int)) (V := .slice (some ⟨b7, 0, none⟩) 1 1) Try.underlying133 (info_of Try.typeInfo5) rfl rfl rfl rfl rfl rfl rfl rfl rfl rfl (fun w L' hF hS hi => row_box (i := 2) hS ((hi 2 (by simp)).trans rfl) rfl rfl) (fun _ => rfl) (fun _ => rfl) h_l18) rfl rfl rfl (fun p_2 => ?_)
    refine l_val rfl rfl rfl (r_assign (v := .slice p_2.1 l18.length p_2.2) rfl) ?_
    refine l_nil ?_
    refine c_ret ?_
    obtain rfl := Option.some.inj H53
    refine c_imp 1 rfl (imp_mkro _ _ _ _ _) ?_
    refine ret1 (v := .slice p_2.1 l18.length p_2.2) rfl rfl (finX p_2 (i := 1) rfl rfl (Imp.refl _))
  · have H54 := cnd_f hb H; clear H
    refine c_seq ?_
    refine c_region ?_
    refine l_val rfl rfl rfl (r_eql rfl rfl) ?_
    refine l_val rfl rfl rfl (r_assign (v := .bool (decide (a1.Kind = 7))) rfl) ?_
    refine l_nil ?_
    refine c_if (b := (decide (a1.Kind = 7))) rfl (fun hb => ?_) (fun hb => ?_)
    · have H55 := cnd_t hb H54; clear H54
      refine c_seq ?_
      refine c_region ?_
      refine l_val rfl rfl rfl (r_field Try.runUnderlying61 rfl Try.sizeOf9 rfl rfl) ?_
      refine l_load1 (i := 0) (v := str a1.Text) Try.isAgg9 rfl rfl rfl rfl rfl ?_
      obtain ⟨t23, h_t23, H56⟩ := bnd_some H55; clear H55
      refine l_make (rds := []) (makes_byt (f := e_u8) (s := a1.Text) Try.underlying9 Try.underlying133 Try.underlying5 rfl (fun _ => rfl) h_t23) rfl rfl rfl (fun p_3 => ?_)
      refine l_val rfl rfl rfl (r_assign (v := .slice p_3.1 t23.length p_3.2) rfl) ?_
      refine l_nil ?_
      refine c_ret ?_
      obtain rfl := Option.some.inj H56
      refine c_imp 1 rfl (imp_mkro _ _ _ _ _) ?_
      refine ret1 (v := .slice p_3.1 t23.length p_3.2) rfl rfl (finX p_3 (i := 1) rfl rfl (Imp.refl _))
    · have H57 := cnd_f hb H54; clear H54
      refine c_skip ?_
      refine c_seq ?_
      refine c_region ?_
      refine l_val rfl rfl rfl (r_assign (v := .slice none 0 0) rfl) ?_
      refine l_nil ?_
      refine c_meet (r := r) (σ := (List Int)) (τ := (Option Addr × Nat)) (fun s => tag_octets_j1 a0 a1 s) (fun s t => [(0, .bool a0), (3, .pointer (some ⟨b6, 0, none⟩)), (5, .slice t.1 s.length t.2)]) (fun s t => [cellsC b6 [.int .i64 a1.Kind, str a1.Text, v1_2, v1_3, v1_4] 61, rowV 5 1 (.slice t.1 s.length t.2) s.length (s.map e_u8)]) (fun s t => True) ?_ ?_
      · refine c_seq ?_
        refine c_region ?_
        refine l_val rfl rfl rfl (r_field Try.runUnderlying61 rfl Try.sizeOf57 rfl rfl) ?_
        refine l_load1 (i := 0) (v := v1_2) Try.isAgg57 rfl rfl rfl rfl rfl ?_
        refine l_val rfl rfl rfl (r_lenF Try.underlying57 rfl f1_2 rfl) ?_
        refine l_val rfl rfl rfl (r_move (v := .int .i64 0) rfl) ?_
        refine l_nil ?_
        refine c_block ?_
        refine c_nilRow 5 1 ?_
        refine c_fix (σ := Int × (List Int)) (τ := (Option Addr × Nat)) (fun next3 s => tag_octets_l3 a0 a1 next3 s.1 s.2) (fun s t => [(0, .bool a0), (3, .pointer (some ⟨b6, 0, none⟩)), (5, .slice t.1 s.2.length t.2), (25, v1_2), (26, .int .i64 (a1.Ints.length : Int)), (27, .int .i64 s.1)]) (fun s t => [cellsC b6 [.int .i64 a1.Kind, str a1.Text, v1_2, v1_3, v1_4] 61, rowV 5 1 (.slice t.1 s.2.length t.2) s.2.length (s.2.map e_u8)]) (fun s t => True) (0, ([] : List Int)) ((none, 0) : Option Addr × Nat) [0, 1] H57 (by exact trivial) (by exact ⟨rfl, rfl, rfl, rfl, rfl, rfl, trivial⟩) (by decide) rfl ?_
        rintro ⟨x27_2, l_5⟩ p_10 m3 gg H68 _
        clear H57
        replace H68 : tag_octets_l3 a0 a1 (it (fun next3 s => tag_octets_l3 a0 a1 next3 s.1 s.2) m3) x27_2 l_5 = some r := H68
        generalize hn3 : it (fun next3 s => tag_octets_l3 a0 a1 next3 s.1 s.2) m3 = next3 at H68
        refine c_tidyF [(0, .bool a0), (3, .pointer (some ⟨b6, 0, none⟩)), (5, .slice p_10.1 l_5.length p_10.2), (25, v1_2), (26, .int .i64 (a1.Ints.length : Int)), (27, .int .i64 x27_2)] [cellsC b6 [.int .i64 a1.Kind, str a1.Text, v1_2, v1_3, v1_4] 61, rowV 5 1 (.slice p_10.1 l_5.length p_10.2) l_5.length (l_5.map e_u8)] rfl rfl ?_
        refine c_seq ?_
        refine c_region ?_
        refine l_val rfl rfl rfl (r_lss rfl rfl) ?_
        refine l_nil ?_
        refine c_seq ?_
        refine c_if (b := (decide (x27_2 < (a1.Ints.length : Int)))) rfl (fun hb => ?_) (fun hb => ?_)
        · have H69 := cnd_t hb H68; clear H68
          refine c_skip ?_
          refine c_seq ?_
          refine c_block ?_
          refine c_seq ?_
          refine c_region ?_
          obtain ⟨t29, h_t29, H70⟩ := bnd_some H69; clear H69
          refine l_val rfl rfl rfl (r_indexF Try.underlying57 Try.sizeOf3 rfl rfl f1_2 h_t29) ?_
          refine l_read (fun w hF hS => run_loadG1 (f := e_i64) (i := x27_2) (sz := 1) (j := 0) (v := .int .i64 t29) Try.isAgg3 rfl rfl (f1_2.row (hw.now hF)) h_t29 rfl) rfl rfl rfl ?_
          refine l_val rfl rfl rfl (r_assign (v := .int .i64 t29) rfl) ?_
          refine l_nil ?_
          refine c_region ?_
          refine l_val rfl rfl rfl (r_move (v := .slice p_10.1 l_5.length p_10.2) rfl) ?_
          refine l_val rfl rfl rfl (r_move (v := .bool a0) rfl) ?_
          refine l_val rfl rfl rfl (r_move (v := .int .i64 t29) rfl) ?_
          refine l_val rfl rfl rfl (r_field Try.runUnderlying61 rfl Try.sizeOf3 rfl rfl) ?_
          refine l_load1 (i := 0) (v := .int .i64 a1.Kind) Try.isAgg3 rfl rfl rfl rfl rfl ?_
          obtain ⟨t36, h_t36, H71⟩ := bnd_some H70; clear H70
          refine l_call (k129 h_t36) Try.call129 rfl rfl rfl ?_
          obtain ⟨t37, h_t37, H72⟩ := bnd_some H71; clear H71
          refine l_make (makes_call (rds := []) (G := fun x : (Option Addr × Nat) => .slice x.1 t37.length x.2) (C := fun x : (Option Addr × Nat) => rowV 5 1 (.slice x.1 t37.length x.2) t37.length (t37.map e_u8)) (fun w L' hF hS hi => k90 (know_all w)  h_t37) Try.call90 rfl) rfl rfl rfl (fun p_11 => ?_)
          obtain ⟨l38, h_l38, H73⟩ := bnd_some H72; clear H72
          refine l_turn (turns_appG (i := 1) (hn := rfl) (rds := [2]) (p := p_10) (sz := 1) (by_ := 1) (f := e_u8) (ys := l_5) (ls := t37) (V := .slice p_11.1 t37.length p_11.2) Try.underlying133 (info_of Try.typeInfo5) rfl rfl rfl rfl rfl rfl rfl rfl rfl rfl (fun w L' hF hS hi => rowOf (i := 2) hS ((hi 2 (by simp)).trans rfl)) (fun _ => rfl) (fun _ => rfl) h_l38) rfl rfl rfl (fun p_12 => ?_)
          refine l_val rfl rfl rfl (r_assign (v := .slice p_12.1 l38.length p_12.2) rfl) ?_
          refine l_nil ?_
          refine c_region ?_
          obtain ⟨t39, h_t39, H74⟩ := bnd_some H73; clear H73
          refine l_val rfl rfl rfl (r_addG rfl rfl h_t39) ?_
          refine l_val rfl rfl rfl (r_move (v := .int .i64 t39) rfl) ?_
          refine l_nil ?_
          refine c_close (t39, l38) p_12 m3 [0, 1] (by exact ⟨rfl, rfl, rfl, rfl, rfl, rfl, trivial⟩) (by decide) rfl (by exact ⟨(by subst hn3; exact H74), trivial⟩) (Nat.lt_succ_self _)
        · have H75 := cnd_f hb H68; clear H68
          refine c_exit ?_
          refine c_close l_5 p_10 0 [0, 1] (by exact ⟨rfl, rfl, rfl, trivial⟩) (by decide) rfl (by exact ⟨H75, trivial⟩) (Nat.lt_succ_self _)
      · rintro l p_4 gg H58 _
        replace H58 : tag_octets_j1 a0 a1 l = some r := H58
        refine c_tidyF [(0, .bool a0), (3, .pointer (some ⟨b6, 0, none⟩)), (5, .slice p_4.1 l.length p_4.2)] [cellsC b6 [.int .i64 a1.Kind, str a1.Text, v1_2, v1_3, v1_4] 61, rowV 5 1 (.slice p_4.1 l.length p_4.2) l.length (l.map e_u8)] rfl rfl ?_
        refine c_seq ?_
        refine c_seq ?_
        refine c_region ?_
        refine l_val rfl rfl rfl (r_field Try.runUnderlying61 rfl Try.sizeOf58 rfl rfl) ?_
        refine l_load1 (i := 0) (v := v1_3) Try.isAgg58 rfl rfl rfl rfl rfl ?_
        refine l_val rfl rfl rfl (r_lenF Try.underlying58 rfl f1_3 rfl) ?_
        refine l_val rfl rfl rfl (r_move (v := .int .i64 0) rfl) ?_
        refine l_nil ?_
        refine c_block ?_
        refine c_sel [1] [rowV 5 1 (.slice p_4.1 l.length p_4.2) l.length (l.map e_u8)] rfl (by decide) ?_
        refine c_fix (σ := Int × (List Int)) (τ := (Option Addr × Nat)) (fun next2 s => tag_octets_l2 a0 a1 next2 s.1 s.2) (fun s t => [(0, .bool a0), (5, .slice t.1 s.2.length t.2), (41, v1_3), (42, .int .i64 (a1.Ratios.length : Int)), (43, .int .i64 s.1)]) (fun s t => [rowV 5 1 (.slice t.1 s.2.length t.2) s.2.length (s.2.map e_u8)]) (fun s t => True) (0, l) p_4 [0] H58 (by exact trivial) (by exact ⟨rfl, rfl, rfl, rfl, rfl, trivial⟩) (by decide) rfl ?_
        rintro ⟨x43_2, l_3⟩ p_5 m2 gg H59 _
        clear H58
        replace H59 : tag_octets_l2 a0 a1 (it (fun next2 s => tag_octets_l2 a0 a1 next2 s.1 s.2) m2) x43_2 l_3 = some r := H59
        generalize hn2 : it (fun next2 s => tag_octets_l2 a0 a1 next2 s.1 s.2) m2 = next2 at H59
        refine c_tidyF [(0, .bool a0), (5, .slice p_5.1 l_3.length p_5.2), (41, v1_3), (42, .int .i64 (a1.Ratios.length : Int)), (43, .int .i64 x43_2)] [rowV 5 1 (.slice p_5.1 l_3.length p_5.2) l_3.length (l_3.map e_u8)] rfl rfl ?_
        refine c_seq ?_
        refine c_region ?_
        refine l_val rfl rfl rfl (r_lss rfl rfl) ?_
        refine l_nil ?_
        refine c_seq ?_
        refine c_if (b := (decide (x43_2 < (a1.Ratios.length : Int)))) rfl (fun hb => ?_) (fun hb => ?_)
        · have H60 := cnd_t hb H59; clear H59
          refine c_skip ?_
          refine c_seq ?_
          refine c_block ?_
          refine c_seq ?_
          refine c_region ?_
          obtain ⟨t45, h_t45, H61⟩ := bnd_some H60; clear H60
          refine l_val rfl rfl rfl (r_indexF Try.underlying58 Try.sizeOf120 rfl rfl f1_3 h_t45) ?_
          refine l_read (fun w hF hS => run_loadGN (f := e_tag_Ratio) (i := x43_2) (sz := 2) (j := 0) (vs := [.int .i64 t45.Num, .int .i64 t45.Den]) Try.isAgg120 Try.sizeOf120 rfl rfl (f1_3.row (hw.now hF)) h_t45 rfl) rfl rfl rfl ?_
          refine l_alloc (cs := [.int .i64 0, .int .i64 0]) Try.zeroValue120 rfl rfl rfl (fun b8 => ?_)
          refine l_store (i := 1) (vs := [.int .i64 t45.Num, .int .i64 t45.Den]) (cs' := [.int .i64 t45.Num, .int .i64 t45.Den]) Try.sizeOf120 rfl rfl rfl rfl rfl rfl rfl rfl rfl ?_
          refine l_nil ?_
          refine c_seq ?_
          refine c_region ?_
          refine l_val rfl rfl rfl (r_move (v := .slice p_5.1 l_3.length p_5.2) rfl) ?_
          refine l_val rfl rfl rfl (r_move (v := .bool a0) rfl) ?_
          refine l_val rfl rfl rfl (r_field Try.runUnderlying120 rfl Try.sizeOf3 rfl rfl) ?_
          refine l_load1 (i := 1) (v := .int .i64 t45.Num) Try.isAgg3 rfl rfl rfl rfl rfl ?_
          obtain ⟨t51, h_t51, H62⟩ := bnd_some H61; clear H61
          refine l_make (makes_call (rds := []) (G := fun x : (Option Addr × Nat) => .slice x.1 t51.length x.2) (C := fun x : (Option Addr × Nat) => rowV 5 1 (.slice x.1 t51.length x.2) t51.length (t51.map e_u8)) (fun w L' hF hS hi => k90 (know_all w)  h_t51) Try.call90 rfl) rfl rfl rfl (fun p_6 => ?_)
          obtain ⟨l52, h_l52, H63⟩ := bnd_some H62; clear H62
          refine l_turn (turns_appG (i := 0) (hn := rfl) (rds := [2]) (p := p_5) (sz := 1) (by_ := 1) (f := e_u8) (ys := l_3) (ls := t51) (V := .slice p_6.1 t51.length p_6.2) Try.underlying133 (info_of Try.typeInfo5) rfl rfl rfl rfl rfl rfl rfl rfl rfl rfl (fun w L' hF hS hi => rowOf (i := 2) hS ((hi 2 (by simp)).trans rfl)) (fun _ => rfl) (fun _ => rfl) h_l52) rfl rfl rfl (fun p_7 => ?_)
          refine l_val rfl rfl rfl (r_assign (v := .slice p_7.1 l52.length p_7.2) rfl) ?_
          refine l_nil ?_
          refine c_region ?_
          refine l_val rfl rfl rfl (r_move (v := .slice p_7.1 l52.length p_7.2) rfl) ?_
          refine l_val rfl rfl rfl (r_move (v := .bool a0) rfl) ?_
          refine l_val rfl rfl rfl (r_field Try.runUnderlying120 rfl Try.sizeOf3 rfl rfl) ?_
          refine l_load1 (i := 1) (v := .int .i64 t45.Den) Try.isAgg3 rfl rfl rfl rfl rfl ?_
          obtain ⟨t57, h_t57, H64⟩ := bnd_some H63; clear H63
          refine l_make (makes_call (rds := []) (G := fun x : (Option Addr × Nat) => .slice x.1 t57.length x.2) (C := fun x : (Option Addr × Nat) => rowV 5 1 (.slice x.1 t57.length x.2) t57.length (t57.map e_u8)) (fun w L' hF hS hi => k90 (know_all w)  h_t57) Try.call90 rfl) rfl rfl rfl (fun p_8 => ?_)
          obtain ⟨l58, h_l58, H65⟩ := bnd_some H64; clear H64
          refine l_turn (turns_appG (i := 0) (hn := rfl) (rds := [3]) (p := p_7) (sz := 1) (by_ := 1) (f := e_u8) (ys := l52) (ls := t57) (V := .slice p_8.1 t57.length p_8.2) Try.underlying133 (info_of Try.typeInfo5) rfl rfl rfl rfl rfl rfl rfl rfl rfl rfl (fun w L' hF hS hi => rowOf (i := 3) hS ((hi 3 (by simp)).trans rfl)) (fun _ => rfl) (fun _ => rfl) h_l58) rfl rfl rfl (fun p_9 => ?_)
          refine l_val rfl rfl rfl (r_assign (v := .slice p_9.1 l58.length p_9.2) rfl) ?_
          refine l_nil ?_
          refine c_region ?_
          obtain ⟨t59, h_t59, H66⟩ := bnd_some H65; clear H65
          refine l_val rfl rfl rfl (r_addG rfl rfl h_t59) ?_
          refine l_val rfl rfl rfl (r_move (v := .int .i64 t59) rfl) ?_
          refine l_nil ?_
          refine c_close (t59, l58) p_9 m2 [0] (by exact ⟨rfl, rfl, rfl, rfl, rfl, trivial⟩) (by decide) rfl (by exact ⟨(by subst hn2; exact H66), trivial⟩) (Nat.lt_succ_self _)
        · have H67 := cnd_f hb H59; clear H59
          refine c_exit ?_
          refine c_seq ?_
          refine c_region ?_
          refine l_val rfl rfl rfl (r_move (v := .slice p_5.1 l_3.length p_5.2) rfl) ?_
          refine l_val rfl rfl rfl (r_assign (v := .slice p_5.1 l_3.length p_5.2) rfl) ?_
          refine l_nil ?_
          refine c_ret ?_
          obtain rfl := Option.some.inj H67
          refine c_imp 0 rfl (row_ro _ _ _ _ _) ?_
          refine ret1 (v := .slice p_5.1 l_3.length p_5.2) rfl rfl (finX p_5 (i := 0) rfl rfl (Imp.refl _))
theorem k91_it (mm : Nat) : ∀ {a0 : T_tag_writer} {pb0 : Nat} {p0_1 : Option Addr × Nat} {n0_1 : Nat} {a1 : (List T_tag_Entry)} {v1 : Value} {r : Int × Int × T_tag_writer} {w : World} {h : Heap} {S : Nat → Prop} (hcs : (bothC (cellsC pb0 [.bool a0.big_, .slice p0_1.1 n0_1 p0_1.2] 141) (rowV 5 1 (.slice p0_1.1 n0_1 p0_1.2) n0_1 (a0.out_.map e_u8))).P S w) (hlt : ∀ b, S b → b < w.heap.size) (hw : Know h w S) (hn0_1 : n0_1 = a0.out_.length) (f1 : FrN h 6 v1 g_tag_Entry a1) (H : it (fun (self : (T_tag_writer × (List T_tag_Entry)) → Option (Int × Int × T_tag_writer)) (s : T_tag_writer × (List T_tag_Entry)) => tag_writer_dir_body self s.1 s.2) mm (a0, a1) = some r), Does Try.prog 91 (List.toArray [.pointer (some ⟨pb0, 0, none⟩), v1]) w (fun v w' => ∃ x : (Option Addr × Nat), v = (.tuple #[.int .i64 r.1, .int .i64 r.2.1]) ∧ Turn w w' S (bothC (cellsC pb0 [.bool r.2.2.big_, .slice x.1 r.2.2.out_.length x.2] 141) (rowV 5 1 (.slice x.1 r.2.2.out_.length x.2) r.2.2.out_.length (r.2.2.out_.map e_u8)))) := by
  induction mm with
  | zero => intros; rename_i H; exact absurd H (by simp [it])
  | succ mm ih =>
    intro a0 pb0 p0_1 n0_1 a1 v1 r w h S hcs hlt hw hn0_1 f1 H
    replace H : tag_writer_dir_body (it (fun (self : (T_tag_writer × (List T_tag_Entry)) → Option (Int × Int × T_tag_writer)) (s : T_tag_writer × (List T_tag_Entry)) => tag_writer_dir_body self s.1 s.2) mm) a0 a1 = some r := H
    generalize it (fun (self : (T_tag_writer × (List T_tag_Entry)) → Option (Int × Int × T_tag_writer)) (s : T_tag_writer × (List T_tag_Entry)) => tag_writer_dir_body self s.1 s.2) mm = self at H ih
    refine enter (n := 172) Try.func91 rfl rfl rfl S [bothC (cellsC pb0 [.bool a0.big_, .slice p0_1.1 n0_1 p0_1.2] 141) (rowV 5 1 (.slice p0_1.1 n0_1 p0_1.2) n0_1 (a0.out_.map e_u8))] (Sat.one hcs hlt) ?_
    refine c_split 0 rfl ?_
    refine c_seq ?_
    refine c_region ?_
    refine l_val rfl rfl rfl (r_assign (v := .int .i64 0) rfl) ?_
    refine l_val rfl rfl rfl (r_assign (v := .int .i64 0) rfl) ?_
    refine l_nil ?_
    refine c_seq ?_
    refine c_region ?_
    refine l_val rfl rfl rfl (r_move (v := .pointer (some ⟨pb0, 0, none⟩)) rfl) ?_
    obtain ⟨t15, h_t15, H41⟩ := bnd_some H; clear H
    refine c_both 0 1 rfl rfl (by decide) ?_
    refine l_turn (turns_callB (i := 0) (rds := []) (G := fun x : (Option Addr × Nat) => .int .i64 t15.1) (C := fun x : (Option Addr × Nat) => bothC (cellsC pb0 [.bool t15.2.big_, .slice x.1 t15.2.out_.length x.2] 141) (rowV 5 1 (.slice x.1 t15.2.out_.length x.2) t15.2.out_.length (t15.2.out_.map e_u8))) rfl (fun w L' S hF hS hi hp hlt ho hA => k125 hp hlt (know_but w S) hn0_1 h_t15) Try.call125 rfl) rfl rfl rfl (fun p => ?_)
    refine c_splitAt 0 1 rfl rfl (by decide) ?_
    refine l_val rfl rfl rfl (r_assign (v := .int .i64 t15.1) rfl) ?_
    refine l_nil ?_
    refine c_seq ?_
    exact c_regionD (Kd.p :: Kd.p :: Kd.p :: Kd.p :: Kd.d [0] _ :: Kd.p :: Kd.p :: Kd.p :: Kd.d [0] _ :: Kd.p :: Kd.p :: Kd.t 2 [] _ _ :: Kd.t 1 [2] _ _ :: Kd.p :: Kd.p :: Kd.sv 30 28 0 _ 141 :: []) 1 mixed (by
      refine d_val rfl rfl (r_move (v := .pointer (some ⟨pb0, 0, none⟩)) rfl) ?_
      refine d_val rfl rfl (r_move (v := .pointer (some ⟨pb0, 0, none⟩)) rfl) ?_
      refine d_val rfl rfl (r_nilCheck rfl) ?_
      refine d_val rfl rfl (r_field Try.runUnderlying141 rfl Try.sizeOf133 rfl rfl) ?_
      refine d_load1 (i := 0) (v := .slice p.1 t15.2.out_.length p.2) Try.isAgg133 rfl rfl rfl rfl ?_
      refine d_val rfl rfl (r_move (v := .pointer (some ⟨pb0, 0, none⟩)) rfl) ?_
      refine d_val rfl rfl (r_nilCheck rfl) ?_
      refine d_val rfl rfl (r_field Try.runUnderlying141 rfl Try.sizeOf4 rfl rfl) ?_
      refine d_load1 (i := 0) (v := .bool t15.2.big_) Try.isAgg4 rfl rfl rfl rfl ?_
      refine d_val rfl rfl (r_move (v := v1) rfl) ?_
      refine d_val rfl rfl (r_lenFN Try.underlying59 rfl f1) ?_
      have h_t27 := bnd_val H41
      have H42 := bnd_rest H41
      refine d_make (Cv := fun v => rowV 5 1 v (val (tag_number t15.2.big_ (a1.length : Int) 2)).length ((val (tag_number t15.2.big_ (a1.length : Int) 2)).map e_u8)) (none, 0) (makes_call (G := fun x : (Option Addr × Nat) => .slice x.1 (val (tag_number t15.2.big_ (a1.length : Int) 2)).length x.2) (C := fun x : (Option Addr × Nat) => rowV 5 1 (.slice x.1 (val (tag_number t15.2.big_ (a1.length : Int) 2)).length x.2) (val (tag_number t15.2.big_ (a1.length : Int) 2)).length ((val (tag_number t15.2.big_ (a1.length : Int) 2)).map e_u8)) (fun w L' hF hS hi => k90 (know_all w)  h_t27) Try.call90 rfl) (fun _ => rfl) rfl rfl rfl (fun p_2 => ?_)
      have h_l28 := bnd_val H42
      have H43 := bnd_rest H42
      refine d_turn (Cv := fun v => rowV 5 1 v (val (gApp 1 t15.2.out_ (val (tag_number t15.2.big_ (a1.length : Int) 2)))).length ((val (gApp 1 t15.2.out_ (val (tag_number t15.2.big_ (a1.length : Int) 2)))).map e_u8)) (none, 0) (turns_appG (i := 1) (hn := rfl) (rds := [2]) (p := p) (sz := 1) (by_ := 1) (f := e_u8) (ys := t15.2.out_) (ls := (val (tag_number t15.2.big_ (a1.length : Int) 2))) (V := .slice p_2.1 (val (tag_number t15.2.big_ (a1.length : Int) 2)).length p_2.2) Try.underlying133 (info_of Try.typeInfo5) rfl rfl rfl rfl rfl rfl rfl rfl rfl rfl (fun w L' hF hS hi => rowOf (i := 2) hS ((hi 2 (by simp)).trans rfl)) (fun _ => rfl) (fun _ => rfl) h_l28) (fun _ => rfl) rfl rfl (fun p_3 => ?_)
      refine d_val rfl rfl (r_nilCheck rfl) ?_
      refine d_val rfl rfl (r_field Try.runUnderlying141 rfl Try.sizeOf133 rfl rfl) ?_
      refine d_storeV (i := 0) (vs := [.slice p_3.1 (val (gApp 1 t15.2.out_ (val (tag_number t15.2.big_ (a1.length : Int) 2)))).length p_3.2]) (cs' := fun v_ => [.bool t15.2.big_, v_]) Try.sizeOf133 rfl rfl rfl rfl rfl rfl rfl rfl rfl ?_
      refine d_nil ?_
      refine c_meet (r := r) (σ := (List Int)) (τ := (Option Addr × Nat)) (fun s => tag_writer_dir_j1 a1 self t15 s) (fun s t => [(0, .pointer (some ⟨pb0, 0, none⟩)), (1, v1), (4, .int .i64 t15.1)]) (fun s t => [cellsC pb0 [.bool t15.2.big_, .slice t.1 s.length t.2] 141, rowV 5 1 (.slice t.1 s.length t.2) s.length (s.map e_u8)]) (fun s t => True) ?_ ?_
      · refine c_seq ?_
        refine c_region ?_
        refine l_val rfl rfl rfl (r_move (v := v1) rfl) ?_
        refine l_val rfl rfl rfl (r_lenFN Try.underlying59 rfl f1) ?_
        refine l_val rfl rfl rfl (r_move (v := .int .i64 0) rfl) ?_
        refine l_nil ?_
        refine c_block ?_
        refine c_sel [0, 1] [cellsC pb0 [.bool t15.2.big_, .slice p_3.1 (val (gApp 1 t15.2.out_ (val (tag_number t15.2.big_ (a1.length : Int) 2)))).length p_3.2] 141, rowV 5 1 (.slice p_3.1 (val (gApp 1 t15.2.out_ (val (tag_number t15.2.big_ (a1.length : Int) 2)))).length p_3.2) (val (gApp 1 t15.2.out_ (val (tag_number t15.2.big_ (a1.length : Int) 2)))).length ((val (gApp 1 t15.2.out_ (val (tag_number t15.2.big_ (a1.length : Int) 2)))).map e_u8)] rfl (by decide) ?_
        refine c_fix (σ := Int × (List Int)) (τ := (Option Addr × Nat)) (fun next5 s => tag_writer_dir_l5 a1 self t15 next5 s.1 s.2) (fun s t => [(0, .pointer (some ⟨pb0, 0, none⟩)), (1, v1), (4, .int .i64 t15.1), (31, v1), (32, .int .i64 (a1.length : Int)), (33, .int .i64 s.1)]) (fun s t => [cellsC pb0 [.bool t15.2.big_, .slice t.1 s.2.length t.2] 141, rowV 5 1 (.slice t.1 s.2.length t.2) s.2.length (s.2.map e_u8)]) (fun s t => True) (0, (val (gApp 1 t15.2.out_ (val (tag_number t15.2.big_ (a1.length : Int) 2))))) p_3 [0, 1] H43 (by exact trivial) (by exact ⟨rfl, rfl, rfl, rfl, rfl, rfl, trivial⟩) (by decide) rfl ?_
        rintro ⟨x33_2, l_7⟩ p_15 m5 gg H68 _
        clear H43
        replace H68 : tag_writer_dir_l5 a1 self t15 (it (fun next5 s => tag_writer_dir_l5 a1 self t15 next5 s.1 s.2) m5) x33_2 l_7 = some r := H68
        generalize hn5 : it (fun next5 s => tag_writer_dir_l5 a1 self t15 next5 s.1 s.2) m5 = next5 at H68
        refine c_tidyF [(0, .pointer (some ⟨pb0, 0, none⟩)), (1, v1), (4, .int .i64 t15.1), (31, v1), (32, .int .i64 (a1.length : Int)), (33, .int .i64 x33_2)] [cellsC pb0 [.bool t15.2.big_, .slice p_15.1 l_7.length p_15.2] 141, rowV 5 1 (.slice p_15.1 l_7.length p_15.2) l_7.length (l_7.map e_u8)] rfl rfl ?_
        refine c_seq ?_
        refine c_region ?_
        refine l_val rfl rfl rfl (r_lss rfl rfl) ?_
        refine l_nil ?_
        refine c_seq ?_
        refine c_if (b := (decide (x33_2 < (a1.length : Int)))) rfl (fun hb => ?_) (fun hb => ?_)
        · have H69 := cnd_t hb H68; clear H68
          refine c_skip ?_
          refine c_seq ?_
          refine c_block ?_
          refine c_seq ?_
          refine c_region ?_
          obtain ⟨t35, h_t35, H70⟩ := bnd_some H69; clear H69
          refine l_val rfl rfl rfl (r_indexF Try.underlying59 Try.sizeOf113 rfl rfl f1.frs (f1.ix h_t35)) ?_
          refine l_read (fun w hF hS => run_loadGN (f := (elC h v1 6)) (i := x33_2) (sz := 6) (j := 0) (vs := [.int .i64 t35.Tag, .int .i64 t35.Value.Kind, str t35.Value.Text, (elH h v1 6 (Int.toNat x33_2) 3), (elH h v1 6 (Int.toNat x33_2) 4), (elH h v1 6 (Int.toNat x33_2) 5)]) Try.isAgg113 Try.sizeOf113 rfl rfl (f1.frs.row (hw.now hF)) (f1.ix h_t35) (rd_of (cg_tag_Entry (f1.at h_t35)) rfl)) rfl rfl rfl ?_
          refine l_alloc (cs := [.int .i64 0, .int .i64 0, str [], .slice none 0 0, .slice none 0 0, .slice none 0 0]) Try.zeroValue113 rfl rfl rfl (fun b6 => ?_)
          refine l_store (i := 2) (vs := [.int .i64 t35.Tag, .int .i64 t35.Value.Kind, str t35.Value.Text, (elH h v1 6 (Int.toNat x33_2) 3), (elH h v1 6 (Int.toNat x33_2) 4), (elH h v1 6 (Int.toNat x33_2) 5)]) (cs' := [.int .i64 t35.Tag, .int .i64 t35.Value.Kind, str t35.Value.Text, (elH h v1 6 (Int.toNat x33_2) 3), (elH h v1 6 (Int.toNat x33_2) 4), (elH h v1 6 (Int.toNat x33_2) 5)]) Try.sizeOf113 rfl rfl rfl rfl rfl rfl (by simp only [List.all_cons, List.all_nil, (show FrN h 6 (elH h v1 6 (Int.toNat x33_2) 5) g_tag_Entry t35.Value.Entries from (g_tag_Value_p4 (g_tag_Entry_p1 (f1.at h_t35)))).one, (show FrS h 1 (elH h v1 6 (Int.toNat x33_2) 3) (t35.Value.Ints.map e_i64) from (g_tag_Value_p2 (g_tag_Entry_p1 (f1.at h_t35)))).one, (show FrS h 2 (elH h v1 6 (Int.toNat x33_2) 4) (t35.Value.Ratios.map e_tag_Ratio) from (g_tag_Value_p3 (g_tag_Entry_p1 (f1.at h_t35)))).one] <;> rfl) rfl rfl ?_
          refine l_nil ?_
          refine c_seq ?_
          exact c_regionD (Kd.p :: Kd.p :: Kd.p :: Kd.p :: Kd.d [0] _ :: Kd.p :: Kd.p :: Kd.p :: Kd.d [0] _ :: Kd.p :: Kd.d [2] _ :: Kd.t 3 [] _ _ :: Kd.t 1 [3] _ _ :: Kd.p :: Kd.p :: Kd.sv 51 49 0 _ 141 :: []) 1 mixed (by
            refine d_val rfl rfl (r_move (v := .pointer (some ⟨pb0, 0, none⟩)) rfl) ?_
            refine d_val rfl rfl (r_move (v := .pointer (some ⟨pb0, 0, none⟩)) rfl) ?_
            refine d_val rfl rfl (r_nilCheck rfl) ?_
            refine d_val rfl rfl (r_field Try.runUnderlying141 rfl Try.sizeOf133 rfl rfl) ?_
            refine d_load1 (i := 0) (v := .slice p_15.1 l_7.length p_15.2) Try.isAgg133 rfl rfl rfl rfl ?_
            refine d_val rfl rfl (r_move (v := .pointer (some ⟨pb0, 0, none⟩)) rfl) ?_
            refine d_val rfl rfl (r_nilCheck rfl) ?_
            refine d_val rfl rfl (r_field Try.runUnderlying141 rfl Try.sizeOf4 rfl rfl) ?_
            refine d_load1 (i := 0) (v := .bool t15.2.big_) Try.isAgg4 rfl rfl rfl rfl ?_
            refine d_val rfl rfl (r_field Try.runUnderlying113 rfl Try.sizeOf3 rfl rfl) ?_
            refine d_load1 (i := 2) (v := .int .i64 t35.Tag) Try.isAgg3 rfl rfl rfl rfl ?_
            have h_t48 := bnd_val H70
            have H71 := bnd_rest H70
            refine d_make (Cv := fun v => rowV 5 1 v (val (tag_number t15.2.big_ t35.Tag 2)).length ((val (tag_number t15.2.big_ t35.Tag 2)).map e_u8)) (none, 0) (makes_call (G := fun x : (Option Addr × Nat) => .slice x.1 (val (tag_number t15.2.big_ t35.Tag 2)).length x.2) (C := fun x : (Option Addr × Nat) => rowV 5 1 (.slice x.1 (val (tag_number t15.2.big_ t35.Tag 2)).length x.2) (val (tag_number t15.2.big_ t35.Tag 2)).length ((val (tag_number t15.2.big_ t35.Tag 2)).map e_u8)) (fun w L' hF hS hi => k90 (know_all w)  h_t48) Try.call90 rfl) (fun _ => rfl) rfl rfl rfl (fun p_16 => ?_)
            have h_l49 := bnd_val H71
            have H72 := bnd_rest H71
            refine d_turn (Cv := fun v => rowV 5 1 v (val (gApp 1 l_7 (val (tag_number t15.2.big_ t35.Tag 2)))).length ((val (gApp 1 l_7 (val (tag_number t15.2.big_ t35.Tag 2)))).map e_u8)) (none, 0) (turns_appG (i := 1) (hn := rfl) (rds := [3]) (p := p_15) (sz := 1) (by_ := 1) (f := e_u8) (ys := l_7) (ls := (val (tag_number t15.2.big_ t35.Tag 2))) (V := .slice p_16.1 (val (tag_number t15.2.big_ t35.Tag 2)).length p_16.2) Try.underlying133 (info_of Try.typeInfo5) rfl rfl rfl rfl rfl rfl rfl rfl rfl rfl (fun w L' hF hS hi => rowOf (i := 3) hS ((hi 3 (by simp)).trans rfl)) (fun _ => rfl) (fun _ => rfl) h_l49) (fun _ => rfl) rfl rfl (fun p_17 => ?_)
            refine d_val rfl rfl (r_nilCheck rfl) ?_
            refine d_val rfl rfl (r_field Try.runUnderlying141 rfl Try.sizeOf133 rfl rfl) ?_
            refine d_storeV (i := 0) (vs := [.slice p_17.1 (val (gApp 1 l_7 (val (tag_number t15.2.big_ t35.Tag 2)))).length p_17.2]) (cs' := fun v_ => [.bool t15.2.big_, v_]) Try.sizeOf133 rfl rfl rfl rfl rfl rfl rfl rfl rfl ?_
            refine d_nil ?_
            refine c_seq ?_
            exact c_regionD (Kd.p :: Kd.p :: Kd.p :: Kd.p :: Kd.d [0] _ :: Kd.p :: Kd.p :: Kd.p :: Kd.d [0] _ :: Kd.p :: Kd.p :: Kd.d [2] _ :: Kd.t 4 [] _ _ :: Kd.t 1 [4] _ _ :: Kd.p :: Kd.p :: Kd.sv 67 65 0 _ 141 :: []) 1 mixed (by
              refine d_val rfl rfl (r_move (v := .pointer (some ⟨pb0, 0, none⟩)) rfl) ?_
              refine d_val rfl rfl (r_move (v := .pointer (some ⟨pb0, 0, none⟩)) rfl) ?_
              refine d_val rfl rfl (r_nilCheck rfl) ?_
              refine d_val rfl rfl (r_field Try.runUnderlying141 rfl Try.sizeOf133 rfl rfl) ?_
              refine d_load1 (i := 0) (v := .slice p_17.1 (val (gApp 1 l_7 (val (tag_number t15.2.big_ t35.Tag 2)))).length p_17.2) Try.isAgg133 rfl rfl rfl rfl ?_
              refine d_val rfl rfl (r_move (v := .pointer (some ⟨pb0, 0, none⟩)) rfl) ?_
              refine d_val rfl rfl (r_nilCheck rfl) ?_
              refine d_val rfl rfl (r_field Try.runUnderlying141 rfl Try.sizeOf4 rfl rfl) ?_
              refine d_load1 (i := 0) (v := .bool t15.2.big_) Try.isAgg4 rfl rfl rfl rfl ?_
              refine d_val rfl rfl (r_field Try.runUnderlying113 rfl Try.sizeOf61 rfl rfl) ?_
              refine d_val rfl rfl (r_field Try.runUnderlying61 rfl Try.sizeOf3 rfl rfl) ?_
              refine d_load1 (i := 2) (v := .int .i64 t35.Value.Kind) Try.isAgg3 rfl rfl rfl rfl ?_
              have h_t64 := bnd_val H72
              have H73 := bnd_rest H72
              refine d_make (Cv := fun v => rowV 5 1 v (val (tag_number t15.2.big_ t35.Value.Kind 2)).length ((val (tag_number t15.2.big_ t35.Value.Kind 2)).map e_u8)) (none, 0) (makes_call (G := fun x : (Option Addr × Nat) => .slice x.1 (val (tag_number t15.2.big_ t35.Value.Kind 2)).length x.2) (C := fun x : (Option Addr × Nat) => rowV 5 1 (.slice x.1 (val (tag_number t15.2.big_ t35.Value.Kind 2)).length x.2) (val (tag_number t15.2.big_ t35.Value.Kind 2)).length ((val (tag_number t15.2.big_ t35.Value.Kind 2)).map e_u8)) (fun w L' hF hS hi => k90 (know_all w)  h_t64) Try.call90 rfl) (fun _ => rfl) rfl rfl rfl (fun p_18 => ?_)
              have h_l65 := bnd_val H73
              have H74 := bnd_rest H73
              refine d_turn (Cv := fun v => rowV 5 1 v (val (gApp 1 (val (gApp 1 l_7 (val (tag_number t15.2.big_ t35.Tag 2)))) (val (tag_number t15.2.big_ t35.Value.Kind 2)))).length ((val (gApp 1 (val (gApp 1 l_7 (val (tag_number t15.2.big_ t35.Tag 2)))) (val (tag_number t15.2.big_ t35.Value.Kind 2)))).map e_u8)) (none, 0) (turns_appG (i := 1) (hn := rfl) (rds := [4]) (p := p_17) (sz := 1) (by_ := 1) (f := e_u8) (ys := (val (gApp 1 l_7 (val (tag_number t15.2.big_ t35.Tag 2))))) (ls := (val (tag_number t15.2.big_ t35.Value.Kind 2))) (V := .slice p_18.1 (val (tag_number t15.2.big_ t35.Value.Kind 2)).length p_18.2) Try.underlying133 (info_of Try.typeInfo5) rfl rfl rfl rfl rfl rfl rfl rfl rfl rfl (fun w L' hF hS hi => rowOf (i := 4) hS ((hi 4 (by simp)).trans rfl)) (fun _ => rfl) (fun _ => rfl) h_l65) (fun _ => rfl) rfl rfl (fun p_19 => ?_)
              refine d_val rfl rfl (r_nilCheck rfl) ?_
              refine d_val rfl rfl (r_field Try.runUnderlying141 rfl Try.sizeOf133 rfl rfl) ?_
              refine d_storeV (i := 0) (vs := [.slice p_19.1 (val (gApp 1 (val (gApp 1 l_7 (val (tag_number t15.2.big_ t35.Tag 2)))) (val (tag_number t15.2.big_ t35.Value.Kind 2)))).length p_19.2]) (cs' := fun v_ => [.bool t15.2.big_, v_]) Try.sizeOf133 rfl rfl rfl rfl rfl rfl rfl rfl rfl ?_
              refine d_nil ?_
              refine c_seq ?_
              exact c_regionD (Kd.p :: Kd.p :: Kd.p :: Kd.p :: Kd.d [0] _ :: Kd.p :: Kd.p :: Kd.p :: Kd.d [0] _ :: Kd.p :: Kd.d [2] _ :: Kd.d [] _ :: Kd.t 5 [] _ _ :: Kd.t 1 [5] _ _ :: Kd.p :: Kd.p :: Kd.sv 83 81 0 _ 141 :: []) 1 mixed (by
                refine d_val rfl rfl (r_move (v := .pointer (some ⟨pb0, 0, none⟩)) rfl) ?_
                refine d_val rfl rfl (r_move (v := .pointer (some ⟨pb0, 0, none⟩)) rfl) ?_
                refine d_val rfl rfl (r_nilCheck rfl) ?_
                refine d_val rfl rfl (r_field Try.runUnderlying141 rfl Try.sizeOf133 rfl rfl) ?_
                refine d_load1 (i := 0) (v := .slice p_19.1 (val (gApp 1 (val (gApp 1 l_7 (val (tag_number t15.2.big_ t35.Tag 2)))) (val (tag_number t15.2.big_ t35.Value.Kind 2)))).length p_19.2) Try.isAgg133 rfl rfl rfl rfl ?_
                refine d_val rfl rfl (r_move (v := .pointer (some ⟨pb0, 0, none⟩)) rfl) ?_
                refine d_val rfl rfl (r_nilCheck rfl) ?_
                refine d_val rfl rfl (r_field Try.runUnderlying141 rfl Try.sizeOf4 rfl rfl) ?_
                refine d_load1 (i := 0) (v := .bool t15.2.big_) Try.isAgg4 rfl rfl rfl rfl ?_
                refine d_val rfl rfl (r_field Try.runUnderlying113 rfl Try.sizeOf61 rfl rfl) ?_
                refine d_loadN (i := 2) (vs := [.int .i64 t35.Value.Kind, str t35.Value.Text, (elH h v1 6 (Int.toNat x33_2) 3), (elH h v1 6 (Int.toNat x33_2) 4), (elH h v1 6 (Int.toNat x33_2) 5)]) Try.isAgg61 Try.sizeOf61 rfl rfl rfl rfl ?_
                have h_t79 := bnd_val H74
                have H75 := bnd_rest H74
                refine d_callD (fun w L' hF hS hi => k126 (know_all w) ((show FrS h 1 (elH h v1 6 (Int.toNat x33_2) 3) (t35.Value.Ints.map e_i64) from (g_tag_Value_p2 (g_tag_Entry_p1 (f1.at h_t35)))).mono (hw.now hF)) ((show FrS h 2 (elH h v1 6 (Int.toNat x33_2) 4) (t35.Value.Ratios.map e_tag_Ratio) from (g_tag_Value_p3 (g_tag_Entry_p1 (f1.at h_t35)))).mono (hw.now hF)) ((show FrN h 6 (elH h v1 6 (Int.toNat x33_2) 5) g_tag_Entry t35.Value.Entries from (g_tag_Value_p4 (g_tag_Entry_p1 (f1.at h_t35)))).mono (hw.now hF)) h_t79) Try.call126 rfl rfl ?_
                have h_t80 := bnd_val H75
                have H76 := bnd_rest H75
                refine d_make (Cv := fun v => rowV 5 1 v (val (tag_number t15.2.big_ (val (tag_count t35.Value)) 4)).length ((val (tag_number t15.2.big_ (val (tag_count t35.Value)) 4)).map e_u8)) (none, 0) (makes_call (G := fun x : (Option Addr × Nat) => .slice x.1 (val (tag_number t15.2.big_ (val (tag_count t35.Value)) 4)).length x.2) (C := fun x : (Option Addr × Nat) => rowV 5 1 (.slice x.1 (val (tag_number t15.2.big_ (val (tag_count t35.Value)) 4)).length x.2) (val (tag_number t15.2.big_ (val (tag_count t35.Value)) 4)).length ((val (tag_number t15.2.big_ (val (tag_count t35.Value)) 4)).map e_u8)) (fun w L' hF hS hi => k90 (know_all w)  h_t80) Try.call90 rfl) (fun _ => rfl) rfl rfl rfl (fun p_20 => ?_)
                have h_l81 := bnd_val H76
                have H77 := bnd_rest H76
                refine d_turn (Cv := fun v => rowV 5 1 v (val (gApp 1 (val (gApp 1 (val (gApp 1 l_7 (val (tag_number t15.2.big_ t35.Tag 2)))) (val (tag_number t15.2.big_ t35.Value.Kind 2)))) (val (tag_number t15.2.big_ (val (tag_count t35.Value)) 4)))).length ((val (gApp 1 (val (gApp 1 (val (gApp 1 l_7 (val (tag_number t15.2.big_ t35.Tag 2)))) (val (tag_number t15.2.big_ t35.Value.Kind 2)))) (val (tag_number t15.2.big_ (val (tag_count t35.Value)) 4)))).map e_u8)) (none, 0) (turns_appG (i := 1) (hn := rfl) (rds := [5]) (p := p_19) (sz := 1) (by_ := 1) (f := e_u8) (ys := (val (gApp 1 (val (gApp 1 l_7 (val (tag_number t15.2.big_ t35.Tag 2)))) (val (tag_number t15.2.big_ t35.Value.Kind 2))))) (ls := (val (tag_number t15.2.big_ (val (tag_count t35.Value)) 4))) (V := .slice p_20.1 (val (tag_number t15.2.big_ (val (tag_count t35.Value)) 4)).length p_20.2) Try.underlying133 (info_of Try.typeInfo5) rfl rfl rfl rfl rfl rfl rfl rfl rfl rfl (fun w L' hF hS hi => rowOf (i := 5) hS ((hi 5 (by simp)).trans rfl)) (fun _ => rfl) (fun _ => rfl) h_l81) (fun _ => rfl) rfl rfl (fun p_21 => ?_)
                refine d_val rfl rfl (r_nilCheck rfl) ?_
                refine d_val rfl rfl (r_field Try.runUnderlying141 rfl Try.sizeOf133 rfl rfl) ?_
                refine d_storeV (i := 0) (vs := [.slice p_21.1 (val (gApp 1 (val (gApp 1 (val (gApp 1 l_7 (val (tag_number t15.2.big_ t35.Tag 2)))) (val (tag_number t15.2.big_ t35.Value.Kind 2)))) (val (tag_number t15.2.big_ (val (tag_count t35.Value)) 4)))).length p_21.2]) (cs' := fun v_ => [.bool t15.2.big_, v_]) Try.sizeOf133 rfl rfl rfl rfl rfl rfl rfl rfl rfl ?_
                refine d_nil ?_
                refine c_region ?_
                refine l_val rfl rfl rfl (r_move (v := .pointer (some ⟨pb0, 0, none⟩)) rfl) ?_
                refine l_val rfl rfl rfl (r_move (v := .pointer (some ⟨pb0, 0, none⟩)) rfl) ?_
                refine l_val rfl rfl rfl (r_nilCheck rfl) ?_
                refine l_val rfl rfl rfl (r_field Try.runUnderlying141 rfl Try.sizeOf133 rfl rfl) ?_
                refine l_load1 (i := 0) (v := .slice p_21.1 (val (gApp 1 (val (gApp 1 (val (gApp 1 l_7 (val (tag_number t15.2.big_ t35.Tag 2)))) (val (tag_number t15.2.big_ t35.Value.Kind 2)))) (val (tag_number t15.2.big_ (val (tag_count t35.Value)) 4)))).length p_21.2) Try.isAgg133 rfl rfl rfl rfl rfl ?_
                refine l_buildSlice (vs := [.int .u8 0, .int .u8 0, .int .u8 0, .int .u8 0]) (cs := [.int .u8 0, .int .u8 0, .int .u8 0, .int .u8 0]) Try.underlying133 Try.sizeOf5 Try.zeroValue5 rfl rfl rfl rfl rfl rfl rfl (fun b7 => ?_)
                obtain ⟨l90, h_l90, H78⟩ := bnd_some H77; clear H77
                refine l_turn (turns_appG (i := 1) (hn := rfl) (rds := [6]) (p := p_21) (sz := 1) (by_ := 1) (f := e_u8) (ys := (val (gApp 1 (val (gApp 1 (val (gApp 1 l_7 (val (tag_number t15.2.big_ t35.Tag 2)))) (val (tag_number t15.2.big_ t35.Value.Kind 2)))) (val (tag_number t15.2.big_ (val (tag_count t35.Value)) 4))))) (ls := ([0, 0, 0, 0] : List Int)) (V := .slice (some ⟨b7, 0, none⟩) 4 4) Try.underlying133 (info_of Try.typeInfo5) rfl rfl rfl rfl rfl rfl rfl rfl rfl rfl (fun w L' hF hS hi => row_box (i := 6) hS ((hi 6 (by simp)).trans rfl) rfl rfl) (fun _ => rfl) (fun _ => rfl) h_l90) rfl rfl rfl (fun p_22 => ?_)
                refine l_val rfl rfl rfl (r_nilCheck rfl) ?_
                refine l_val rfl rfl rfl (r_field Try.runUnderlying141 rfl Try.sizeOf133 rfl rfl) ?_
                refine l_store (i := 0) (vs := [.slice p_22.1 l90.length p_22.2]) (cs' := [.bool t15.2.big_, .slice p_22.1 l90.length p_22.2]) Try.sizeOf133 rfl rfl rfl rfl rfl rfl rfl rfl rfl ?_
                refine l_nil ?_
                refine c_region ?_
                obtain ⟨t93, h_t93, H79⟩ := bnd_some H78; clear H78
                refine l_val rfl rfl rfl (r_addG rfl rfl h_t93) ?_
                refine l_val rfl rfl rfl (r_move (v := .int .i64 t93) rfl) ?_
                refine l_nil ?_
                refine c_close (t93, l90) p_22 m5 [0, 1] (by exact ⟨rfl, rfl, rfl, rfl, rfl, rfl, trivial⟩) (by decide) rfl (by exact ⟨(by subst hn5; exact H79), trivial⟩) (Nat.lt_succ_self _)
                ) (by kernel_rfl)
              ) (by kernel_rfl)
            ) (by kernel_rfl)
        · have H80 := cnd_f hb H68; clear H68
          refine c_exit ?_
          refine c_close l_7 p_15 0 [0, 1] (by exact ⟨rfl, rfl, rfl, trivial⟩) (by decide) rfl (by exact ⟨H80, trivial⟩) (Nat.lt_succ_self _)
      · rintro l p_4 gg H44 _
        replace H44 : tag_writer_dir_j1 a1 self t15 l = some r := H44
        refine c_tidyF [(0, .pointer (some ⟨pb0, 0, none⟩)), (1, v1), (4, .int .i64 t15.1)] [cellsC pb0 [.bool t15.2.big_, .slice p_4.1 l.length p_4.2] 141, rowV 5 1 (.slice p_4.1 l.length p_4.2) l.length (l.map e_u8)] rfl rfl ?_
        refine c_seq ?_
        refine c_region ?_
        refine l_val rfl rfl rfl (r_move (v := .pointer (some ⟨pb0, 0, none⟩)) rfl) ?_
        refine l_val rfl rfl rfl (r_nilCheck rfl) ?_
        refine l_val rfl rfl rfl (r_field Try.runUnderlying141 rfl Try.sizeOf133 rfl rfl) ?_
        refine l_load1 (i := 0) (v := .slice p_4.1 l.length p_4.2) Try.isAgg133 rfl rfl rfl rfl rfl ?_
        refine l_val rfl rfl rfl (r_len Try.underlying133 rfl) ?_
        refine l_val rfl rfl rfl (r_assign (v := .int .i64 (l.length : Int)) rfl) ?_
        refine l_nil ?_
        refine c_seq ?_
        refine c_region ?_
        refine l_val rfl rfl rfl (r_move (v := .pointer (some ⟨pb0, 0, none⟩)) rfl) ?_
        refine l_val rfl rfl rfl (r_move (v := .pointer (some ⟨pb0, 0, none⟩)) rfl) ?_
        refine l_val rfl rfl rfl (r_nilCheck rfl) ?_
        refine l_val rfl rfl rfl (r_field Try.runUnderlying141 rfl Try.sizeOf133 rfl rfl) ?_
        refine l_load1 (i := 0) (v := .slice p_4.1 l.length p_4.2) Try.isAgg133 rfl rfl rfl rfl rfl ?_
        refine l_buildSlice (vs := [.int .u8 0, .int .u8 0, .int .u8 0, .int .u8 0]) (cs := [.int .u8 0, .int .u8 0, .int .u8 0, .int .u8 0]) Try.underlying133 Try.sizeOf5 Try.zeroValue5 rfl rfl rfl rfl rfl rfl rfl (fun b4 => ?_)
        obtain ⟨l105, h_l105, H45⟩ := bnd_some H44; clear H44
        refine l_turn (turns_appG (i := 1) (hn := rfl) (rds := [2]) (p := p_4) (sz := 1) (by_ := 1) (f := e_u8) (ys := l) (ls := ([0, 0, 0, 0] : List Int)) (V := .slice (some ⟨b4, 0, none⟩) 4 4) Try.underlying133 (info_of Try.typeInfo5) rfl rfl rfl rfl rfl rfl rfl rfl rfl rfl (fun w L' hF hS hi => row_box (i := 2) hS ((hi 2 (by simp)).trans rfl) rfl rfl) (fun _ => rfl) (fun _ => rfl) h_l105) rfl rfl rfl (fun p_5 => ?_)
        refine l_val rfl rfl rfl (r_nilCheck rfl) ?_
        refine l_val rfl rfl rfl (r_field Try.runUnderlying141 rfl Try.sizeOf133 rfl rfl) ?_
        refine l_store (i := 0) (vs := [.slice p_5.1 l105.length p_5.2]) (cs' := [.bool t15.2.big_, .slice p_5.1 l105.length p_5.2]) Try.sizeOf133 rfl rfl rfl rfl rfl rfl rfl rfl rfl ?_
        refine l_nil ?_
        refine c_meet (r := r) (σ := Bool × (List Int)) (τ := (Option Addr × Nat) × Nat) (fun s => tag_writer_dir_j2 t15 l s.1 s.2) (fun s t => [(4, .int .i64 t15.1), (5, .int .i64 (l.length : Int))]) (fun s t => [cellsC pb0 [.bool s.1, .slice t.1.1 t.2 t.1.2] 141, rowV 5 1 (.slice t.1.1 t.2 t.1.2) t.2 (s.2.map e_u8)]) (fun s t => t.2 = s.2.length) ?_ ?_
        · refine c_seq ?_
          refine c_region ?_
          refine l_val rfl rfl rfl (r_move (v := v1) rfl) ?_
          refine l_val rfl rfl rfl (r_lenFN Try.underlying59 rfl f1) ?_
          refine l_val rfl rfl rfl (r_move (v := .int .i64 0) rfl) ?_
          refine l_nil ?_
          refine c_block ?_
          refine c_sel [0, 1] [cellsC pb0 [.bool t15.2.big_, .slice p_5.1 l105.length p_5.2] 141, rowV 5 1 (.slice p_5.1 l105.length p_5.2) l105.length (l105.map e_u8)] rfl (by decide) ?_
          refine c_fix (σ := Int × Bool × (List Int)) (τ := (Option Addr × Nat) × Nat) (fun next3 s => tag_writer_dir_l3 a1 self t15 l next3 s.1 s.2.1 s.2.2) (fun s t => [(0, .pointer (some ⟨pb0, 0, none⟩)), (4, .int .i64 t15.1), (5, .int .i64 (l.length : Int)), (108, v1), (109, .int .i64 (a1.length : Int)), (110, .int .i64 s.1)]) (fun s t => [cellsC pb0 [.bool s.2.1, .slice t.1.1 t.2 t.1.2] 141, rowV 5 1 (.slice t.1.1 t.2 t.1.2) t.2 (s.2.2.map e_u8)]) (fun s t => t.2 = s.2.2.length) (0, t15.2.big_, l105) (p_5, l105.length) [0, 1] H45 (by exact rfl) (by exact ⟨rfl, rfl, rfl, rfl, rfl, rfl, trivial⟩) (by decide) rfl ?_
          rintro ⟨x110_2, m_3, l_4⟩ ⟨p_7, n_2⟩ m3 gg H47 hl_3
          clear H45
          replace H47 : tag_writer_dir_l3 a1 self t15 l (it (fun next3 s => tag_writer_dir_l3 a1 self t15 l next3 s.1 s.2.1 s.2.2) m3) x110_2 m_3 l_4 = some r := H47
          generalize hn3 : it (fun next3 s => tag_writer_dir_l3 a1 self t15 l next3 s.1 s.2.1 s.2.2) m3 = next3 at H47
          refine c_tidyF [(0, .pointer (some ⟨pb0, 0, none⟩)), (4, .int .i64 t15.1), (5, .int .i64 (l.length : Int)), (108, v1), (109, .int .i64 (a1.length : Int)), (110, .int .i64 x110_2)] [cellsC pb0 [.bool m_3, .slice p_7.1 n_2 p_7.2] 141, rowV 5 1 (.slice p_7.1 n_2 p_7.2) n_2 (l_4.map e_u8)] rfl rfl ?_
          refine c_seq ?_
          refine c_region ?_
          refine l_val rfl rfl rfl (r_lss rfl rfl) ?_
          refine l_nil ?_
          refine c_seq ?_
          refine c_if (b := (decide (x110_2 < (a1.length : Int)))) rfl (fun hb => ?_) (fun hb => ?_)
          · have H48 := cnd_t hb H47; clear H47
            refine c_skip ?_
            refine c_meet (r := r) (σ := Bool × (List Int)) (τ := (Option Addr × Nat) × Nat) (fun s => tag_writer_dir_j4 x110_2 next3 s.1 s.2) (fun s t => [(0, .pointer (some ⟨pb0, 0, none⟩)), (4, .int .i64 t15.1), (5, .int .i64 (l.length : Int)), (108, v1), (109, .int .i64 (a1.length : Int)), (110, .int .i64 x110_2)]) (fun s t => [cellsC pb0 [.bool s.1, .slice t.1.1 t.2 t.1.2] 141, rowV 5 1 (.slice t.1.1 t.2 t.1.2) t.2 (s.2.map e_u8)]) (fun s t => t.2 = s.2.length) ?_ ?_
            · refine c_block ?_
              refine c_seq ?_
              refine c_region ?_
              refine l_val rfl rfl rfl (r_move (v := .int .i64 x110_2) rfl) ?_
              obtain ⟨t113, h_t113, H51⟩ := bnd_some H48; clear H48
              refine l_val rfl rfl rfl (r_indexF Try.underlying59 Try.sizeOf113 rfl rfl f1.frs (f1.ix h_t113)) ?_
              refine l_read (fun w hF hS => run_loadGN (f := (elC h v1 6)) (i := x110_2) (sz := 6) (j := 0) (vs := [.int .i64 t113.Tag, .int .i64 t113.Value.Kind, str t113.Value.Text, (elH h v1 6 (Int.toNat x110_2) 3), (elH h v1 6 (Int.toNat x110_2) 4), (elH h v1 6 (Int.toNat x110_2) 5)]) Try.isAgg113 Try.sizeOf113 rfl rfl (f1.frs.row (hw.now hF)) (f1.ix h_t113) (rd_of (cg_tag_Entry (f1.at h_t113)) rfl)) rfl rfl rfl ?_
              refine l_alloc (cs := [.int .i64 0, .int .i64 0, str [], .slice none 0 0, .slice none 0 0, .slice none 0 0]) Try.zeroValue113 rfl rfl rfl (fun b5 => ?_)
              refine l_val rfl rfl rfl (r_assign (v := .int .i64 x110_2) rfl) ?_
              refine l_store (i := 2) (vs := [.int .i64 t113.Tag, .int .i64 t113.Value.Kind, str t113.Value.Text, (elH h v1 6 (Int.toNat x110_2) 3), (elH h v1 6 (Int.toNat x110_2) 4), (elH h v1 6 (Int.toNat x110_2) 5)]) (cs' := [.int .i64 t113.Tag, .int .i64 t113.Value.Kind, str t113.Value.Text, (elH h v1 6 (Int.toNat x110_2) 3), (elH h v1 6 (Int.toNat x110_2) 4), (elH h v1 6 (Int.toNat x110_2) 5)]) Try.sizeOf113 rfl rfl rfl rfl rfl rfl (by simp only [List.all_cons, List.all_nil, (show FrN h 6 (elH h v1 6 (Int.toNat x110_2) 5) g_tag_Entry t113.Value.Entries from (g_tag_Value_p4 (g_tag_Entry_p1 (f1.at h_t113)))).one, (show FrS h 1 (elH h v1 6 (Int.toNat x110_2) 3) (t113.Value.Ints.map e_i64) from (g_tag_Value_p2 (g_tag_Entry_p1 (f1.at h_t113)))).one, (show FrS h 2 (elH h v1 6 (Int.toNat x110_2) 4) (t113.Value.Ratios.map e_tag_Ratio) from (g_tag_Value_p3 (g_tag_Entry_p1 (f1.at h_t113)))).one] <;> rfl) rfl rfl ?_
              refine l_nil ?_
              refine c_seq ?_
              refine c_region ?_
              refine l_val rfl rfl rfl (r_move (v := .int .i64 t15.1) rfl) ?_
              obtain ⟨t116, h_t116, H52⟩ := bnd_some H51; clear H51
              refine l_val rfl rfl rfl (r_addG rfl rfl h_t116) ?_
              refine l_val rfl rfl rfl (r_move (v := .int .i64 x110_2) rfl) ?_
              obtain ⟨t118, h_t118, H53⟩ := bnd_some H52; clear H52
              refine l_val rfl rfl rfl (r_mulG rfl rfl h_t118) ?_
              obtain ⟨t119, h_t119, H54⟩ := bnd_some H53; clear H53
              refine l_val rfl rfl rfl (r_addG rfl rfl h_t119) ?_
              obtain ⟨t120, h_t120, H55⟩ := bnd_some H54; clear H54
              refine l_val rfl rfl rfl (r_addG rfl rfl h_t120) ?_
              refine l_val rfl rfl rfl (r_assign (v := .int .i64 t120) rfl) ?_
              refine l_nil ?_
              refine c_seq ?_
              refine c_seq ?_
              refine c_region ?_
              refine l_val rfl rfl rfl (r_field Try.runUnderlying113 rfl Try.sizeOf61 rfl rfl) ?_
              refine l_val rfl rfl rfl (r_field Try.runUnderlying61 rfl Try.sizeOf3 rfl rfl) ?_
              refine l_load1 (i := 2) (v := .int .i64 t113.Value.Kind) Try.isAgg3 rfl rfl rfl rfl rfl ?_
              refine l_val rfl rfl rfl (r_eql rfl rfl) ?_
              refine l_nil ?_
              refine c_if (b := (decide (t113.Value.Kind = 13))) rfl (fun hb => ?_) (fun hb => ?_)
              · have H56 := cnd_t hb H55; clear H55
                refine c_seq ?_
                refine c_region ?_
                refine l_val rfl rfl rfl (r_move (v := .pointer (some ⟨pb0, 0, none⟩)) rfl) ?_
                refine l_val rfl rfl rfl (r_field Try.runUnderlying113 rfl Try.sizeOf61 rfl rfl) ?_
                refine l_val rfl rfl rfl (r_field Try.runUnderlying61 rfl Try.sizeOf59 rfl rfl) ?_
                refine l_load1 (i := 2) (v := (elH h v1 6 (Int.toNat x110_2) 5)) Try.isAgg59 rfl rfl rfl rfl rfl ?_
                obtain ⟨t130, h_t130, H57⟩ := bnd_some H56; clear H56
                refine c_both 0 1 rfl rfl (by decide) ?_
                refine l_turn (turns_callB (i := 0) (rds := []) (G := fun x : (Option Addr × Nat) => .tuple #[.int .i64 t130.1, .int .i64 t130.2.1]) (C := fun x : (Option Addr × Nat) => bothC (cellsC pb0 [.bool t130.2.2.big_, .slice x.1 t130.2.2.out_.length x.2] 141) (rowV 5 1 (.slice x.1 t130.2.2.out_.length x.2) t130.2.2.out_.length (t130.2.2.out_.map e_u8))) rfl (fun w L' S hF hS hi hp hlt ho hA => ih hp hlt (know_but w S) hl_3 ((show FrN h 6 (elH h v1 6 (Int.toNat x110_2) 5) g_tag_Entry t113.Value.Entries from (g_tag_Value_p4 (g_tag_Entry_p1 (f1.at h_t113)))).mono (hw.but hF ho)) h_t130) Try.call91 rfl) rfl rfl rfl (fun p_9 => ?_)
                refine c_splitAt 0 1 rfl rfl (by decide) ?_
                refine l_val rfl rfl rfl (r_move (v := .tuple #[.int .i64 t130.1, .int .i64 t130.2.1]) rfl) ?_
                refine l_val rfl rfl rfl (r_extract (v := .int .i64 t130.1) rfl rfl) ?_
                refine l_val rfl rfl rfl (r_extract (v := .int .i64 t130.2.1) rfl rfl) ?_
                refine l_val rfl rfl rfl (r_assign (v := .int .i64 t130.1) rfl) ?_
                refine l_val rfl rfl rfl (r_assign (v := .int .i64 t130.2.1) rfl) ?_
                refine l_nil ?_
                refine c_seq ?_
                refine c_region ?_
                refine l_val rfl rfl rfl (r_move (v := .pointer (some ⟨pb0, 0, none⟩)) rfl) ?_
                refine l_val rfl rfl rfl (r_move (v := .int .i64 t120) rfl) ?_
                refine l_val rfl rfl rfl (r_move (v := .int .i64 t130.1) rfl) ?_
                obtain ⟨t136, h_t136, H58⟩ := bnd_some H57; clear H57
                refine c_both 0 1 rfl rfl (by decide) ?_
                refine l_turn (turns_callB (i := 0) (rds := []) (G := fun x : (Option Addr × Nat) => .tuple #[]) (C := fun x : (Option Addr × Nat) => bothC (cellsC pb0 [.bool t136.big_, .slice x.1 t136.out_.length x.2] 141) (rowV 5 1 (.slice x.1 t136.out_.length x.2) t136.out_.length (t136.out_.map e_u8))) rfl (fun w L' S hF hS hi hp hlt ho hA => k92 hp hlt (know_but w S) rfl h_t136) Try.call92 rfl) rfl rfl rfl (fun p_10 => ?_)
                refine c_splitAt 0 1 rfl rfl (by decide) ?_
                refine l_nil ?_
                refine c_exit ?_
                refine c_close (t136.big_, t136.out_) (p_10, t136.out_.length) 0 [0, 1] (by exact ⟨rfl, rfl, rfl, rfl, rfl, rfl, trivial⟩) (by decide) rfl (by exact ⟨H58, rfl⟩) (Nat.lt_succ_self _)
              · have H59 := cnd_f hb H55; clear H55
                refine c_skip ?_
                refine c_seq ?_
                exact c_regionD (Kd.p :: Kd.p :: Kd.p :: Kd.d [0] _ :: Kd.p :: Kd.d [2] _ :: Kd.t 3 [] _ _ :: Kd.p :: []) 1 mixed (by
                  refine d_val rfl rfl (r_move (v := .pointer (some ⟨pb0, 0, none⟩)) rfl) ?_
                  refine d_val rfl rfl (r_nilCheck rfl) ?_
                  refine d_val rfl rfl (r_field Try.runUnderlying141 rfl Try.sizeOf4 rfl rfl) ?_
                  refine d_load1 (i := 0) (v := .bool m_3) Try.isAgg4 rfl rfl rfl rfl ?_
                  refine d_val rfl rfl (r_field Try.runUnderlying113 rfl Try.sizeOf61 rfl rfl) ?_
                  refine d_loadN (i := 2) (vs := [.int .i64 t113.Value.Kind, str t113.Value.Text, (elH h v1 6 (Int.toNat x110_2) 3), (elH h v1 6 (Int.toNat x110_2) 4), (elH h v1 6 (Int.toNat x110_2) 5)]) Try.isAgg61 Try.sizeOf61 rfl rfl rfl rfl ?_
                  have h_t143 := bnd_val H59
                  have H60 := bnd_rest H59
                  refine d_make (Cv := fun v => roV 1 v (val (tag_octets m_3 t113.Value)).length ((val (tag_octets m_3 t113.Value)).map e_u8)) (none, 0) (makes_call (G := fun x : (Option Addr × Nat) => .slice x.1 (val (tag_octets m_3 t113.Value)).length x.2) (C := fun x : (Option Addr × Nat) => roV 1 (.slice x.1 (val (tag_octets m_3 t113.Value)).length x.2) (val (tag_octets m_3 t113.Value)).length ((val (tag_octets m_3 t113.Value)).map e_u8)) (fun w L' hF hS hi => k127 (know_all w) ((show FrS h 1 (elH h v1 6 (Int.toNat x110_2) 3) (t113.Value.Ints.map e_i64) from (g_tag_Value_p2 (g_tag_Entry_p1 (f1.at h_t113)))).mono (hw.now hF)) ((show FrS h 2 (elH h v1 6 (Int.toNat x110_2) 4) (t113.Value.Ratios.map e_tag_Ratio) from (g_tag_Value_p3 (g_tag_Entry_p1 (f1.at h_t113)))).mono (hw.now hF)) ((show FrN h 6 (elH h v1 6 (Int.toNat x110_2) 5) g_tag_Entry t113.Value.Entries from (g_tag_Value_p4 (g_tag_Entry_p1 (f1.at h_t113)))).mono (hw.now hF)) h_t143) Try.call127 rfl) (fun _ => rfl) rfl rfl rfl (fun p_11 => ?_)
                  refine d_val rfl rfl (r_assign (v := .slice p_11.1 (val (tag_octets m_3 t113.Value)).length p_11.2) rfl) ?_
                  refine d_nil ?_
                  refine c_seq ?_
                  refine c_seq ?_
                  refine c_region ?_
                  refine l_val rfl rfl rfl (r_move (v := .slice p_11.1 (val (tag_octets m_3 t113.Value)).length p_11.2) rfl) ?_
                  refine l_val rfl rfl rfl (r_len Try.underlying133 rfl) ?_
                  refine l_val rfl rfl rfl (r_leq rfl rfl) ?_
                  refine l_nil ?_
                  refine c_if (b := (decide (((val (tag_octets m_3 t113.Value)).length : Int) ≤ 4))) rfl (fun hb => ?_) (fun hb => ?_)
                  · have H61 := cnd_t hb H60; clear H60
                    refine c_seq ?_
                    refine c_region ?_
                    refine l_val rfl rfl rfl (r_move (v := .pointer (some ⟨pb0, 0, none⟩)) rfl) ?_
                    refine l_val rfl rfl rfl (r_nilCheck rfl) ?_
                    refine l_val rfl rfl rfl (r_field Try.runUnderlying141 rfl Try.sizeOf133 rfl rfl) ?_
                    refine l_load1 (i := 0) (v := .slice p_7.1 n_2 p_7.2) Try.isAgg133 rfl rfl rfl rfl rfl ?_
                    refine l_val rfl rfl rfl (r_move (v := .int .i64 t120) rfl) ?_
                    obtain ⟨t152, h_t152, H62⟩ := bnd_some H61; clear H61
                    refine l_read (v := .slice (cutA p_7.1 (Int.toNat t120) p_7.2 1) t152.length (p_7.2 - Int.toNat t120)) (fun w hF hS => run_sliceLO (xs := l_4) Try.underlying133 Try.sizeOf5 rfl rfl hl_3 (capOf (i := 1) hS rfl) h_t152) rfl rfl rfl ?_
                    refine l_val rfl rfl rfl (r_move (v := .slice p_11.1 (val (tag_octets m_3 t113.Value)).length p_11.2) rfl) ?_
                    refine l_turn (turns_copyG (i := 1) (rds := [3]) (p := p_7) (f := e_u8) (xs := l_4) (ts := t152) (ys := (val (tag_octets m_3 t113.Value))) hl_3 Try.underlying133 (by rw [info_of Try.typeInfo5]; rfl) rfl rfl h_t152 rfl rfl (fun w L' hF hS hi => roOf (i := 3) hS ((hi 3 (by simp)).trans rfl)) (fun _ => rfl) (fun _ => rfl)) rfl rfl rfl (fun _ => ?_)
                    refine l_nil ?_
                    refine c_exit ?_
                    refine c_close (m_3, (cpyL l_4 t120 t152.length (val (tag_octets m_3 t113.Value)))) (p_7, n_2) 0 [0, 1] (by exact ⟨rfl, rfl, rfl, rfl, rfl, rfl, trivial⟩) (by decide) rfl (by exact ⟨H62, (cpyL_n hl_3 h_t152)⟩) (Nat.lt_succ_self _)
                  · have H63 := cnd_f hb H60; clear H60
                    refine c_skip ?_
                    refine c_seq ?_
                    refine c_region ?_
                    refine l_val rfl rfl rfl (r_move (v := .pointer (some ⟨pb0, 0, none⟩)) rfl) ?_
                    refine l_val rfl rfl rfl (r_move (v := .int .i64 t120) rfl) ?_
                    refine l_val rfl rfl rfl (r_move (v := .pointer (some ⟨pb0, 0, none⟩)) rfl) ?_
                    obtain ⟨t158, h_t158, H64⟩ := bnd_some H63; clear H63
                    refine c_both 0 1 rfl rfl (by decide) ?_
                    refine l_turn (turns_callB (i := 0) (rds := []) (G := fun x : (Option Addr × Nat) => .int .i64 t158.1) (C := fun x : (Option Addr × Nat) => bothC (cellsC pb0 [.bool t158.2.big_, .slice x.1 t158.2.out_.length x.2] 141) (rowV 5 1 (.slice x.1 t158.2.out_.length x.2) t158.2.out_.length (t158.2.out_.map e_u8))) rfl (fun w L' S hF hS hi hp hlt ho hA => k125 hp hlt (know_but w S) hl_3 h_t158) Try.call125 rfl) rfl rfl rfl (fun p_12 => ?_)
                    refine c_splitAt 0 1 rfl rfl (by decide) ?_
                    obtain ⟨t159, h_t159, H65⟩ := bnd_some H64; clear H64
                    refine c_both 0 1 rfl rfl (by decide) ?_
                    refine l_turn (turns_callB (i := 0) (rds := []) (G := fun x : (Option Addr × Nat) => .tuple #[]) (C := fun x : (Option Addr × Nat) => bothC (cellsC pb0 [.bool t159.big_, .slice x.1 t159.out_.length x.2] 141) (rowV 5 1 (.slice x.1 t159.out_.length x.2) t159.out_.length (t159.out_.map e_u8))) rfl (fun w L' S hF hS hi hp hlt ho hA => k92 hp hlt (know_but w S) rfl h_t159) Try.call92 rfl) rfl rfl rfl (fun p_13 => ?_)
                    refine c_splitAt 0 1 rfl rfl (by decide) ?_
                    refine l_nil ?_
                    refine c_region ?_
                    refine l_val rfl rfl rfl (r_move (v := .pointer (some ⟨pb0, 0, none⟩)) rfl) ?_
                    refine l_val rfl rfl rfl (r_move (v := .pointer (some ⟨pb0, 0, none⟩)) rfl) ?_
                    refine l_val rfl rfl rfl (r_nilCheck rfl) ?_
                    refine l_val rfl rfl rfl (r_field Try.runUnderlying141 rfl Try.sizeOf133 rfl rfl) ?_
                    refine l_load1 (i := 0) (v := .slice p_13.1 t159.out_.length p_13.2) Try.isAgg133 rfl rfl rfl rfl rfl ?_
                    refine l_val rfl rfl rfl (r_move (v := .slice p_11.1 (val (tag_octets m_3 t113.Value)).length p_11.2) rfl) ?_
                    obtain ⟨l166, h_l166, H66⟩ := bnd_some H65; clear H65
                    refine l_turn (turns_appG (i := 1) (hn := rfl) (rds := [3]) (p := p_13) (sz := 1) (by_ := 1) (f := e_u8) (ys := t159.out_) (ls := (val (tag_octets m_3 t113.Value))) (V := .slice p_11.1 (val (tag_octets m_3 t113.Value)).length p_11.2) Try.underlying133 (info_of Try.typeInfo5) rfl rfl rfl rfl rfl rfl rfl rfl rfl rfl (fun w L' hF hS hi => roOf (i := 3) hS ((hi 3 (by simp)).trans rfl)) (fun _ => rfl) (fun _ => rfl) h_l166) rfl rfl rfl (fun p_14 => ?_)
                    refine l_val rfl rfl rfl (r_nilCheck rfl) ?_
                    refine l_val rfl rfl rfl (r_field Try.runUnderlying141 rfl Try.sizeOf133 rfl rfl) ?_
                    refine l_store (i := 0) (vs := [.slice p_14.1 l166.length p_14.2]) (cs' := [.bool t159.big_, .slice p_14.1 l166.length p_14.2]) Try.sizeOf133 rfl rfl rfl rfl rfl rfl rfl rfl rfl ?_
                    refine l_nil ?_
                    refine c_close (t159.big_, l166) (p_14, l166.length) 0 [0, 1] (by exact ⟨rfl, rfl, rfl, rfl, rfl, rfl, trivial⟩) (by decide) rfl (by exact ⟨H66, rfl⟩) (Nat.lt_succ_self _)
                  ) (by kernel_rfl)
            · rintro ⟨m_4, l_5⟩ ⟨p_8, n_3⟩ gg H49 hl_4
              replace H49 : tag_writer_dir_j4 x110_2 next3 m_4 l_5 = some r := H49
              refine c_tidyF [(0, .pointer (some ⟨pb0, 0, none⟩)), (4, .int .i64 t15.1), (5, .int .i64 (l.length : Int)), (108, v1), (109, .int .i64 (a1.length : Int)), (110, .int .i64 x110_2)] [cellsC pb0 [.bool m_4, .slice p_8.1 n_3 p_8.2] 141, rowV 5 1 (.slice p_8.1 n_3 p_8.2) n_3 (l_5.map e_u8)] rfl rfl ?_
              refine c_region ?_
              obtain ⟨t169, h_t169, H50⟩ := bnd_some H49; clear H49
              refine l_val rfl rfl rfl (r_addG rfl rfl h_t169) ?_
              refine l_val rfl rfl rfl (r_move (v := .int .i64 t169) rfl) ?_
              refine l_nil ?_
              refine c_close (t169, m_4, l_5) (p_8, n_3) m3 [0, 1] (by exact ⟨rfl, rfl, rfl, rfl, rfl, rfl, trivial⟩) (by decide) rfl (by exact ⟨(by subst hn3; exact H50), hl_4⟩) (Nat.lt_succ_self _)
          · have H67 := cnd_f hb H47; clear H47
            refine c_exit ?_
            refine c_close (m_3, l_4) (p_7, n_2) 0 [0, 1] (by exact ⟨rfl, rfl, trivial⟩) (by decide) rfl (by exact ⟨H67, hl_3⟩) (Nat.lt_succ_self _)
        · rintro ⟨m, l_2⟩ ⟨p_6, n⟩ gg H46 hl
          replace H46 : tag_writer_dir_j2 t15 l m l_2 = some r := H46
          refine c_tidyF [(4, .int .i64 t15.1), (5, .int .i64 (l.length : Int))] [cellsC pb0 [.bool m, .slice p_6.1 n p_6.2] 141, rowV 5 1 (.slice p_6.1 n p_6.2) n (l_2.map e_u8)] rfl rfl ?_
          refine c_seq ?_
          refine c_region ?_
          refine l_val rfl rfl rfl (r_move (v := .int .i64 t15.1) rfl) ?_
          refine l_val rfl rfl rfl (r_move (v := .int .i64 (l.length : Int)) rfl) ?_
          refine l_val rfl rfl rfl (r_assign (v := .int .i64 t15.1) rfl) ?_
          refine l_val rfl rfl rfl (r_assign (v := .int .i64 (l.length : Int)) rfl) ?_
          refine l_nil ?_
          refine c_ret ?_
          obtain rfl := Option.some.inj H46
          refine c_both 0 1 rfl rfl (by decide) ?_
          refine ret2 (v1 := .int .i64 t15.1) (v2 := .int .i64 (l.length : Int)) rfl rfl rfl (finX p_6 (i := 0) rfl (by first | rfl | rw [(show n = l_2.length from hl)]) (by first | exact Imp.refl _ | exact Imp.of (by rw [(show n = l_2.length from hl)])))
      ) (by kernel_rfl)
theorem k91 {a0 : T_tag_writer} {pb0 : Nat} {p0_1 : Option Addr × Nat} {n0_1 : Nat} {a1 : (List T_tag_Entry)} {v1 : Value} {r : Int × Int × T_tag_writer} {w : World} {h : Heap} {S : Nat → Prop} (hcs : (bothC (cellsC pb0 [.bool a0.big_, .slice p0_1.1 n0_1 p0_1.2] 141) (rowV 5 1 (.slice p0_1.1 n0_1 p0_1.2) n0_1 (a0.out_.map e_u8))).P S w) (hlt : ∀ b, S b → b < w.heap.size) (hw : Know h w S) (hn0_1 : n0_1 = a0.out_.length) (f1 : FrN h 6 v1 g_tag_Entry a1) (H : tag_writer_dir a0 a1 = some r) : Does Try.prog 91 (List.toArray [.pointer (some ⟨pb0, 0, none⟩), v1]) w (fun v w' => ∃ x : (Option Addr × Nat), v = (.tuple #[.int .i64 r.1, .int .i64 r.2.1]) ∧ Turn w w' S (bothC (cellsC pb0 [.bool r.2.2.big_, .slice x.1 r.2.2.out_.length x.2] 141) (rowV 5 1 (.slice x.1 r.2.2.out_.length x.2) r.2.2.out_.length (r.2.2.out_.map e_u8)))) := by
  obtain ⟨mm, hm⟩ := fix_it (show fix (fun (self : (T_tag_writer × (List T_tag_Entry)) → Option (Int × Int × T_tag_writer)) (s : T_tag_writer × (List T_tag_Entry)) => tag_writer_dir_body self s.1 s.2) (a0, a1) = some r from H)
  exact k91_it mm hcs hlt hw hn0_1 f1 hm
theorem k47 {a0 : T_tag_File} {v0_1 : Value} {r : (List UInt8)} {w : World} {h : Heap} (hw : Know h w noS) (f0_1 : FrN h 1 v0_1 gs_tag_Entry a0.Dirs) (H : tag_written a0 = some r) : Does Try.prog 47 (List.toArray [.agg #[.bool a0.Big, v0_1]]) w (fun v w' => v = (str r) ∧ Grow w w') := by
  refine enter (n := 71) Try.func47 rfl rfl rfl noS [] (Sat.nil _ _) ?_
  refine c_seq ?_
  refine c_region ?_
  refine l_box (cs := [.bool a0.Big, v0_1]) rfl rfl rfl rfl (fun b5 => ?_)
  refine l_val rfl rfl rfl (r_assign (v := str []) rfl) ?_
  refine l_nil ?_
  refine c_seq ?_
  refine c_region ?_
  refine l_val rfl rfl rfl (r_field Try.runUnderlying24 rfl Try.sizeOf4 rfl rfl) ?_
  refine l_load1 (i := 0) (v := .bool a0.Big) Try.isAgg4 rfl rfl rfl rfl rfl ?_
  refine l_buildSlice (vs := [.int .u8 73, .int .u8 73]) (cs := [.int .u8 73, .int .u8 73]) Try.underlying133 Try.sizeOf5 Try.zeroValue5 rfl rfl rfl rfl rfl rfl rfl (fun b6 => ?_)
  refine l_turn (turns_mark (i := 1) (rds := []) (f := e_u8) (xs := ([73, 73] : List Int)) (m := 2) (sz := 1) rfl Try.underlying133 Try.underlying5 rfl rfl rfl rfl rfl rfl) rfl rfl rfl (fun _ => ?_)
  refine l_val rfl rfl rfl (r_build (pl := #[(0, 1), (1, 1)]) (ps := [(0, .bool a0.Big), (1, .slice ((some ⟨b6, 0, none⟩, 2) : Option Addr × Nat).1 2 ((some ⟨b6, 0, none⟩, 2) : Option Addr × Nat).2)]) (cells := #[.bool a0.Big, .slice ((some ⟨b6, 0, none⟩, 2) : Option Addr × Nat).1 2 ((some ⟨b6, 0, none⟩, 2) : Option Addr × Nat).2]) Try.zeroValue141 Try.runUnderlying141 (fun w => by kernel_rfl) rfl rfl) ?_
  refine l_box (cs := [.bool a0.Big, .slice ((some ⟨b6, 0, none⟩, 2) : Option Addr × Nat).1 2 ((some ⟨b6, 0, none⟩, 2) : Option Addr × Nat).2]) rfl rfl rfl rfl (fun b7 => ?_)
  refine l_val rfl rfl rfl (r_assign (v := .pointer (some ⟨b7, 0, none⟩)) rfl) ?_
  refine l_nil ?_
  refine c_meet (r := r) (σ := (List Int)) (τ := (Option Addr × Nat) × Nat) (fun s => tag_written_j1 a0 s) (fun s t => [(1, .pointer (some ⟨b5, 0, none⟩)), (3, .pointer (some ⟨b7, 0, none⟩))]) (fun s t => [cellsC b5 [.bool a0.Big, v0_1] 24, cellsC b7 [.bool a0.Big, .slice t.1.1 t.2 t.1.2] 141, apV 5 1 (.slice t.1.1 t.2 t.1.2) t.2 (s.map e_u8)]) (fun s t => t.2 = s.length) ?_ ?_
  · refine c_seq ?_
    refine c_region ?_
    refine l_val rfl rfl rfl (r_field Try.runUnderlying24 rfl Try.sizeOf4 rfl rfl) ?_
    refine l_load1 (i := 0) (v := .bool a0.Big) Try.isAgg4 rfl rfl rfl rfl rfl ?_
    refine l_nil ?_
    refine c_if (b := a0.Big) rfl (fun hb => ?_) (fun hb => ?_)
    · have H27 := cnd_t hb H; clear H
      refine c_region ?_
      refine l_val rfl rfl rfl (r_move (v := .pointer (some ⟨b7, 0, none⟩)) rfl) ?_
      refine l_buildSlice (vs := [.int .u8 77, .int .u8 77]) (cs := [.int .u8 77, .int .u8 77]) Try.underlying133 Try.sizeOf5 Try.zeroValue5 rfl rfl rfl rfl rfl rfl rfl (fun b9 => ?_)
      refine l_turn (turns_mark (i := 3) (rds := []) (f := e_u8) (xs := ([77, 77] : List Int)) (m := 2) (sz := 1) rfl Try.underlying133 Try.underlying5 rfl rfl rfl rfl rfl rfl) rfl rfl rfl (fun _ => ?_)
      refine l_val rfl rfl rfl (r_nilCheck rfl) ?_
      refine l_val rfl rfl rfl (r_field Try.runUnderlying141 rfl Try.sizeOf133 rfl rfl) ?_
      refine l_store (i := 2) (vs := [.slice ((some ⟨b9, 0, none⟩, 2) : Option Addr × Nat).1 2 ((some ⟨b9, 0, none⟩, 2) : Option Addr × Nat).2]) (cs' := [.bool a0.Big, .slice ((some ⟨b9, 0, none⟩, 2) : Option Addr × Nat).1 2 ((some ⟨b9, 0, none⟩, 2) : Option Addr × Nat).2]) Try.sizeOf133 rfl rfl rfl rfl rfl rfl rfl rfl rfl ?_
      refine l_nil ?_
      refine c_close ([77, 77] : List Int) (((some ⟨b9, 0, none⟩, 2) : Option Addr × Nat), 2) 0 [0, 2, 3] (by exact ⟨rfl, rfl, trivial⟩) (by decide) rfl (by exact ⟨H27, rfl⟩) (Nat.lt_succ_self _)
    · have H28 := cnd_f hb H; clear H
      refine c_skip ?_
      refine c_close ([73, 73] : List Int) (((some ⟨b6, 0, none⟩, 2) : Option Addr × Nat), 2) 0 [0, 2, 1] (by exact ⟨rfl, rfl, trivial⟩) (by decide) rfl (by exact ⟨H28, rfl⟩) (Nat.lt_succ_self _)
  · rintro l ⟨p, n⟩ gg H15 hl
    replace H15 : tag_written_j1 a0 l = some r := H15
    refine c_tidyF [(1, .pointer (some ⟨b5, 0, none⟩)), (3, .pointer (some ⟨b7, 0, none⟩))] [cellsC b5 [.bool a0.Big, v0_1] 24, cellsC b7 [.bool a0.Big, .slice p.1 n p.2] 141, apV 5 1 (.slice p.1 n p.2) n (l.map e_u8)] rfl rfl ?_
    refine c_seq ?_
    exact c_regionD (Kd.p :: Kd.p :: Kd.p :: Kd.p :: Kd.d [1] _ :: Kd.p :: Kd.d [0] _ :: Kd.t 3 [] _ _ :: Kd.t 2 [3] _ _ :: Kd.p :: Kd.p :: Kd.sv 32 30 1 _ 141 :: []) 1 mixed (by
      refine d_val rfl rfl (r_move (v := .pointer (some ⟨b7, 0, none⟩)) rfl) ?_
      refine d_val rfl rfl (r_move (v := .pointer (some ⟨b7, 0, none⟩)) rfl) ?_
      refine d_val rfl rfl (r_nilCheck rfl) ?_
      refine d_val rfl rfl (r_field Try.runUnderlying141 rfl Try.sizeOf133 rfl rfl) ?_
      refine d_load1 (i := 1) (v := .slice p.1 n p.2) Try.isAgg133 rfl rfl rfl rfl ?_
      refine d_val rfl rfl (r_field Try.runUnderlying24 rfl Try.sizeOf4 rfl rfl) ?_
      refine d_load1 (i := 0) (v := .bool a0.Big) Try.isAgg4 rfl rfl rfl rfl ?_
      have h_t29 := bnd_val H15
      have H16 := bnd_rest H15
      refine d_make (Cv := fun v => rowV 5 1 v (val (tag_number a0.Big 42 2)).length ((val (tag_number a0.Big 42 2)).map e_u8)) (none, 0) (makes_call (G := fun x : (Option Addr × Nat) => .slice x.1 (val (tag_number a0.Big 42 2)).length x.2) (C := fun x : (Option Addr × Nat) => rowV 5 1 (.slice x.1 (val (tag_number a0.Big 42 2)).length x.2) (val (tag_number a0.Big 42 2)).length ((val (tag_number a0.Big 42 2)).map e_u8)) (fun w L' hF hS hi => k90 (know_all w)  h_t29) Try.call90 rfl) (fun _ => rfl) rfl rfl rfl (fun p_2 => ?_)
      have h_l30 := bnd_val H16
      have H17 := bnd_rest H16
      refine d_turn (Cv := fun v => rowV 5 1 v (val (gApN 1 l (val (tag_number a0.Big 42 2)))).length ((val (gApN 1 l (val (tag_number a0.Big 42 2)))).map e_u8)) (none, 0) (turns_appN (i := 2) (hn := hl) (rds := [3]) (p := p) (sz := 1) (by_ := 1) (f := e_u8) (ys := l) (ls := (val (tag_number a0.Big 42 2))) (V := .slice p_2.1 (val (tag_number a0.Big 42 2)).length p_2.2) Try.underlying133 (info_of Try.typeInfo5) rfl rfl rfl rfl rfl rfl rfl rfl rfl rfl (fun w L' hF hS hi => rowOf (i := 3) hS ((hi 3 (by simp)).trans rfl)) (fun _ => rfl) (fun _ => rfl) h_l30) (fun _ => rfl) rfl rfl (fun p_3 => ?_)
      refine d_val rfl rfl (r_nilCheck rfl) ?_
      refine d_val rfl rfl (r_field Try.runUnderlying141 rfl Try.sizeOf133 rfl rfl) ?_
      refine d_storeV (i := 1) (vs := [.slice p_3.1 (val (gApN 1 l (val (tag_number a0.Big 42 2)))).length p_3.2]) (cs' := fun v_ => [.bool a0.Big, v_]) Try.sizeOf133 rfl rfl rfl rfl rfl rfl rfl rfl rfl ?_
      refine d_nil ?_
      refine c_seq ?_
      refine c_region ?_
      refine l_val rfl rfl rfl (r_move (v := .pointer (some ⟨b7, 0, none⟩)) rfl) ?_
      refine l_val rfl rfl rfl (r_nilCheck rfl) ?_
      refine l_val rfl rfl rfl (r_field Try.runUnderlying141 rfl Try.sizeOf133 rfl rfl) ?_
      refine l_load1 (i := 1) (v := .slice p_3.1 (val (gApN 1 l (val (tag_number a0.Big 42 2)))).length p_3.2) Try.isAgg133 rfl rfl rfl rfl rfl ?_
      refine l_val rfl rfl rfl (r_len Try.underlying133 rfl) ?_
      refine l_val rfl rfl rfl (r_assign (v := .int .i64 ((val (gApN 1 l (val (tag_number a0.Big 42 2)))).length : Int)) rfl) ?_
      refine l_nil ?_
      refine c_seq ?_
      refine c_region ?_
      refine l_val rfl rfl rfl (r_move (v := .pointer (some ⟨b7, 0, none⟩)) rfl) ?_
      refine l_val rfl rfl rfl (r_move (v := .pointer (some ⟨b7, 0, none⟩)) rfl) ?_
      refine l_val rfl rfl rfl (r_nilCheck rfl) ?_
      refine l_val rfl rfl rfl (r_field Try.runUnderlying141 rfl Try.sizeOf133 rfl rfl) ?_
      refine l_load1 (i := 1) (v := .slice p_3.1 (val (gApN 1 l (val (tag_number a0.Big 42 2)))).length p_3.2) Try.isAgg133 rfl rfl rfl rfl rfl ?_
      refine l_buildSlice (vs := [.int .u8 0, .int .u8 0, .int .u8 0, .int .u8 0]) (cs := [.int .u8 0, .int .u8 0, .int .u8 0, .int .u8 0]) Try.underlying133 Try.sizeOf5 Try.zeroValue5 rfl rfl rfl rfl rfl rfl rfl (fun b8 => ?_)
      obtain ⟨l44, h_l44, H18⟩ := bnd_some H17; clear H17
      refine l_turn (turns_appG (i := 2) (hn := rfl) (rds := [4]) (p := p_3) (sz := 1) (by_ := 1) (f := e_u8) (ys := (val (gApN 1 l (val (tag_number a0.Big 42 2))))) (ls := ([0, 0, 0, 0] : List Int)) (V := .slice (some ⟨b8, 0, none⟩) 4 4) Try.underlying133 (info_of Try.typeInfo5) rfl rfl rfl rfl rfl rfl rfl rfl rfl rfl (fun w L' hF hS hi => row_box (i := 4) hS ((hi 4 (by simp)).trans rfl) rfl rfl) (fun _ => rfl) (fun _ => rfl) h_l44) rfl rfl rfl (fun p_4 => ?_)
      refine l_val rfl rfl rfl (r_nilCheck rfl) ?_
      refine l_val rfl rfl rfl (r_field Try.runUnderlying141 rfl Try.sizeOf133 rfl rfl) ?_
      refine l_store (i := 1) (vs := [.slice p_4.1 l44.length p_4.2]) (cs' := [.bool a0.Big, .slice p_4.1 l44.length p_4.2]) Try.sizeOf133 rfl rfl rfl rfl rfl rfl rfl rfl rfl ?_
      refine l_nil ?_
      refine c_meet (r := r) (σ := Bool × (List Int)) (τ := (Option Addr × Nat)) (fun s => tag_written_j2 s.1 s.2) (fun s t => [(3, .pointer (some ⟨b7, 0, none⟩))]) (fun s t => [cellsC b7 [.bool s.1, .slice t.1 s.2.length t.2] 141, rowV 5 1 (.slice t.1 s.2.length t.2) s.2.length (s.2.map e_u8)]) (fun s t => True) ?_ ?_
      · refine c_seq ?_
        refine c_region ?_
        refine l_val rfl rfl rfl (r_field Try.runUnderlying24 rfl Try.sizeOf22 rfl rfl) ?_
        refine l_load1 (i := 0) (v := v0_1) Try.isAgg22 rfl rfl rfl rfl rfl ?_
        refine l_val rfl rfl rfl (r_lenFN Try.underlying22 rfl f0_1) ?_
        refine l_val rfl rfl rfl (r_move (v := .int .i64 0) rfl) ?_
        refine l_nil ?_
        refine c_block ?_
        refine c_sel [1, 2] [cellsC b7 [.bool a0.Big, .slice p_4.1 l44.length p_4.2] 141, rowV 5 1 (.slice p_4.1 l44.length p_4.2) l44.length (l44.map e_u8)] rfl (by decide) ?_
        refine c_fix (σ := Int × Int × Bool × (List Int)) (τ := (Option Addr × Nat)) (fun next3 s => tag_written_l3 a0 next3 s.1 s.2.1 s.2.2.1 s.2.2.2) (fun s t => [(3, .pointer (some ⟨b7, 0, none⟩)), (4, .int .i64 s.1), (48, v0_1), (49, .int .i64 (a0.Dirs.length : Int)), (50, .int .i64 s.2.1)]) (fun s t => [cellsC b7 [.bool s.2.2.1, .slice t.1 s.2.2.2.length t.2] 141, rowV 5 1 (.slice t.1 s.2.2.2.length t.2) s.2.2.2.length (s.2.2.2.map e_u8)]) (fun s t => True) (((val (gApN 1 l (val (tag_number a0.Big 42 2)))).length : Int), 0, a0.Big, l44) p_4 [0, 1] H18 (by exact trivial) (by exact ⟨rfl, rfl, rfl, rfl, rfl, trivial⟩) (by decide) rfl ?_
        rintro ⟨x4_2, x50_2, m_3, l_4⟩ p_6 m3 gg H20 _
        clear H18
        replace H20 : tag_written_l3 a0 (it (fun next3 s => tag_written_l3 a0 next3 s.1 s.2.1 s.2.2.1 s.2.2.2) m3) x4_2 x50_2 m_3 l_4 = some r := H20
        generalize hn3 : it (fun next3 s => tag_written_l3 a0 next3 s.1 s.2.1 s.2.2.1 s.2.2.2) m3 = next3 at H20
        refine c_tidyF [(3, .pointer (some ⟨b7, 0, none⟩)), (4, .int .i64 x4_2), (48, v0_1), (49, .int .i64 (a0.Dirs.length : Int)), (50, .int .i64 x50_2)] [cellsC b7 [.bool m_3, .slice p_6.1 l_4.length p_6.2] 141, rowV 5 1 (.slice p_6.1 l_4.length p_6.2) l_4.length (l_4.map e_u8)] rfl rfl ?_
        refine c_seq ?_
        refine c_region ?_
        refine l_val rfl rfl rfl (r_lss rfl rfl) ?_
        refine l_nil ?_
        refine c_seq ?_
        refine c_if (b := (decide (x50_2 < (a0.Dirs.length : Int)))) rfl (fun hb => ?_) (fun hb => ?_)
        · have H21 := cnd_t hb H20; clear H20
          refine c_skip ?_
          refine c_seq ?_
          refine c_block ?_
          refine c_seq ?_
          refine c_region ?_
          obtain ⟨t52, h_t52, H22⟩ := bnd_some H21; clear H21
          refine l_val rfl rfl rfl (r_indexF Try.underlying22 Try.sizeOf59 rfl rfl f0_1.frs (f0_1.ix h_t52)) ?_
          refine l_read (fun w hF hS => run_loadG1 (f := (elC h v0_1 1)) (i := x50_2) (sz := 1) (j := 0) (v := (elH h v0_1 1 (Int.toNat x50_2) 0)) Try.isAgg59 rfl rfl (f0_1.frs.row (hw.now hF)) (f0_1.ix h_t52) (rg_of (cgs_tag_Entry (f0_1.at h_t52)) rfl)) rfl rfl rfl ?_
          refine l_val rfl rfl rfl (r_assign (v := (elH h v0_1 1 (Int.toNat x50_2) 0)) rfl) ?_
          refine l_nil ?_
          refine c_seq ?_
          refine c_region ?_
          refine l_val rfl rfl rfl (r_move (v := .pointer (some ⟨b7, 0, none⟩)) rfl) ?_
          refine l_val rfl rfl rfl (r_move (v := (elH h v0_1 1 (Int.toNat x50_2) 0)) rfl) ?_
          obtain ⟨t57, h_t57, H23⟩ := bnd_some H22; clear H22
          refine c_both 0 1 rfl rfl (by decide) ?_
          refine l_turn (turns_callB (i := 0) (rds := []) (G := fun x : (Option Addr × Nat) => .tuple #[.int .i64 t57.1, .int .i64 t57.2.1]) (C := fun x : (Option Addr × Nat) => bothC (cellsC b7 [.bool t57.2.2.big_, .slice x.1 t57.2.2.out_.length x.2] 141) (rowV 5 1 (.slice x.1 t57.2.2.out_.length x.2) t57.2.2.out_.length (t57.2.2.out_.map e_u8))) rfl (fun w L' S hF hS hi hp hlt ho hA => k91 hp hlt (know_but w S) rfl ((show FrN h 6 (elH h v0_1 1 (Int.toNat x50_2) 0) g_tag_Entry t52 from (f0_1.at h_t52)).mono (hw.but hF ho)) h_t57) Try.call91 rfl) rfl rfl rfl (fun p_7 => ?_)
          refine c_splitAt 0 1 rfl rfl (by decide) ?_
          refine l_val rfl rfl rfl (r_move (v := .tuple #[.int .i64 t57.1, .int .i64 t57.2.1]) rfl) ?_
          refine l_val rfl rfl rfl (r_extract (v := .int .i64 t57.1) rfl rfl) ?_
          refine l_val rfl rfl rfl (r_extract (v := .int .i64 t57.2.1) rfl rfl) ?_
          refine l_val rfl rfl rfl (r_assign (v := .int .i64 t57.1) rfl) ?_
          refine l_val rfl rfl rfl (r_assign (v := .int .i64 t57.2.1) rfl) ?_
          refine l_nil ?_
          refine c_seq ?_
          refine c_region ?_
          refine l_val rfl rfl rfl (r_move (v := .pointer (some ⟨b7, 0, none⟩)) rfl) ?_
          refine l_val rfl rfl rfl (r_move (v := .int .i64 x4_2) rfl) ?_
          refine l_val rfl rfl rfl (r_move (v := .int .i64 t57.1) rfl) ?_
          obtain ⟨t63, h_t63, H24⟩ := bnd_some H23; clear H23
          refine c_both 0 1 rfl rfl (by decide) ?_
          refine l_turn (turns_callB (i := 0) (rds := []) (G := fun x : (Option Addr × Nat) => .tuple #[]) (C := fun x : (Option Addr × Nat) => bothC (cellsC b7 [.bool t63.big_, .slice x.1 t63.out_.length x.2] 141) (rowV 5 1 (.slice x.1 t63.out_.length x.2) t63.out_.length (t63.out_.map e_u8))) rfl (fun w L' S hF hS hi hp hlt ho hA => k92 hp hlt (know_but w S) rfl h_t63) Try.call92 rfl) rfl rfl rfl (fun p_8 => ?_)
          refine c_splitAt 0 1 rfl rfl (by decide) ?_
          refine l_nil ?_
          refine c_region ?_
          refine l_val rfl rfl rfl (r_move (v := .int .i64 t57.2.1) rfl) ?_
          refine l_val rfl rfl rfl (r_assign (v := .int .i64 t57.2.1) rfl) ?_
          refine l_nil ?_
          refine c_region ?_
          obtain ⟨t65, h_t65, H25⟩ := bnd_some H24; clear H24
          refine l_val rfl rfl rfl (r_addG rfl rfl h_t65) ?_
          refine l_val rfl rfl rfl (r_move (v := .int .i64 t65) rfl) ?_
          refine l_nil ?_
          refine c_close (t57.2.1, t65, t63.big_, t63.out_) p_8 m3 [0, 1] (by exact ⟨rfl, rfl, rfl, rfl, rfl, trivial⟩) (by decide) rfl (by exact ⟨(by subst hn3; exact H25), trivial⟩) (Nat.lt_succ_self _)
        · have H26 := cnd_f hb H20; clear H20
          refine c_exit ?_
          refine c_close (m_3, l_4) p_6 0 [0, 1] (by exact ⟨rfl, trivial⟩) (by decide) rfl (by exact ⟨H26, trivial⟩) (Nat.lt_succ_self _)
      · rintro ⟨m, l_2⟩ p_5 gg H19 _
        replace H19 : tag_written_j2 m l_2 = some r := H19
        refine c_tidyF [(3, .pointer (some ⟨b7, 0, none⟩))] [cellsC b7 [.bool m, .slice p_5.1 l_2.length p_5.2] 141, rowV 5 1 (.slice p_5.1 l_2.length p_5.2) l_2.length (l_2.map e_u8)] rfl rfl ?_
        refine c_seq ?_
        refine c_region ?_
        refine l_val rfl rfl rfl (r_move (v := .pointer (some ⟨b7, 0, none⟩)) rfl) ?_
        refine l_val rfl rfl rfl (r_nilCheck rfl) ?_
        refine l_val rfl rfl rfl (r_field Try.runUnderlying141 rfl Try.sizeOf133 rfl rfl) ?_
        refine l_load1 (i := 0) (v := .slice p_5.1 l_2.length p_5.2) Try.isAgg133 rfl rfl rfl rfl rfl ?_
        refine l_read (fun w hF hS => run_bytes (f := e_u8) (xs := l_2) rfl Try.underlying133 Try.underlying5 Try.underlying9 rfl (fun _ => rfl) (rowOf (i := 1) hS rfl)) rfl rfl rfl ?_
        refine l_val rfl rfl rfl (r_assign (v := str (toStr l_2)) rfl) ?_
        refine l_nil ?_
        refine c_ret ?_
        obtain rfl := Option.some.inj H19
        refine ret1 (v := str (toStr l_2)) rfl rfl (fin rfl)
      ) (by kernel_rfl)
theorem k10 {a0 : T_tag_File} {v0_1 : Value} {r : (List UInt8) × Int} {w : World} {h : Heap} (hw : Know h w noS) (f0_1 : FrN h 1 v0_1 gs_tag_Entry a0.Dirs) (H : tag_Write a0 = some r) : Does Try.prog 10 (List.toArray [.agg #[.bool a0.Big, v0_1]]) w (fun v w' => v = (.tuple #[str r.1, .int .i64 r.2]) ∧ Grow w w') := by
  refine enter (n := 12) Try.func10 rfl rfl rfl noS [] (Sat.nil _ _) ?_
  refine c_seq ?_
  refine c_region ?_
  refine l_box (cs := [.bool a0.Big, v0_1]) rfl rfl rfl rfl (fun b1 => ?_)
  refine l_val rfl rfl rfl (r_assign (v := str []) rfl) ?_
  refine l_val rfl rfl rfl (r_assign (v := .int .i64 0) rfl) ?_
  refine l_nil ?_
  refine c_seq ?_
  refine c_seq ?_
  refine c_region ?_
  refine l_loadN (i := 0) (vs := [.bool a0.Big, v0_1]) Try.isAgg24 Try.sizeOf24 rfl rfl rfl rfl rfl ?_
  obtain ⟨t6, h_t6, H5⟩ := bnd_some H; clear H
  refine l_callG (fun w hF hS => k11 (know_all w) (f0_1.mono (hw.now hF)) h_t6) Try.call11 rfl rfl rfl ?_
  refine l_val rfl rfl rfl (r_assign (v := .int .i64 t6) rfl) ?_
  refine l_nil ?_
  refine c_seq ?_
  refine c_region ?_
  refine l_val rfl rfl rfl (r_move (v := .int .i64 t6) rfl) ?_
  refine l_val rfl rfl rfl (r_neq rfl rfl) ?_
  refine l_nil ?_
  refine c_if (b := (decide (t6 ≠ 0))) rfl (fun hb => ?_) (fun hb => ?_)
  · have H6 := cnd_t hb H5; clear H5
    refine c_seq ?_
    refine c_region ?_
    refine l_val rfl rfl rfl (r_move (v := .int .i64 t6) rfl) ?_
    refine l_val rfl rfl rfl (r_assign (v := str []) rfl) ?_
    refine l_val rfl rfl rfl (r_assign (v := .int .i64 t6) rfl) ?_
    refine l_nil ?_
    refine c_ret ?_
    obtain rfl := Option.some.inj H6
    refine ret2 (v1 := str []) (v2 := .int .i64 t6) rfl rfl rfl (fin rfl)
  · have H7 := cnd_f hb H5; clear H5
    refine c_skip ?_
    refine c_seq ?_
    refine c_region ?_
    refine l_loadN (i := 0) (vs := [.bool a0.Big, v0_1]) Try.isAgg24 Try.sizeOf24 rfl rfl rfl rfl rfl ?_
    obtain ⟨t11, h_t11, H8⟩ := bnd_some H7; clear H7
    refine l_callG (fun w hF hS => k47 (know_all w) (f0_1.mono (hw.now hF)) h_t11) Try.call47 rfl rfl rfl ?_
    refine l_val rfl rfl rfl (r_assign (v := str t11) rfl) ?_
    refine l_val rfl rfl rfl (r_assign (v := .int .i64 0) rfl) ?_
    refine l_nil ?_
    refine c_ret ?_
    obtain rfl := Option.some.inj H8
    refine ret2 (v1 := str t11) (v2 := .int .i64 0) rfl rfl rfl (fin rfl)
theorem k12 {a0 : Int} {a1 : Int} {a2 : Int} {a3 : Int} {r : Bool} (H : Law_told_int a0 a1 a2 a3 = some r) : Ret Try.prog 12 [.int .i64 a0, .int .i64 a1, .int .i64 a2, .int .i64 a3] (.bool r) := by
  refine enterRet (n := 21) Try.func12 rfl rfl rfl (fun wd => ?_)
  refine c_seq ?_
  refine c_region ?_
  refine l_val rfl rfl rfl (r_assign (v := .bool false) rfl) ?_
  refine l_nil ?_
  refine c_seq ?_
  refine c_region ?_
  refine l_val rfl rfl rfl (r_assign (v := .int .i64 0) rfl) ?_
  refine l_nil ?_
  refine c_meet (r := r) (σ := Int) (τ := Unit) (fun s => Law_told_int_j1 a0 a1 a3 s) (fun s t => [(0, .int .i64 a0), (1, .int .i64 a1), (2, .int .i64 s), (3, .int .i64 a3)]) (fun s t => []) (fun s t => True) ?_ ?_
  · refine c_seq ?_
    refine c_region ?_
    refine l_val rfl rfl rfl (r_move (v := .int .i64 a3) rfl) ?_
    refine l_val rfl rfl rfl (r_neq rfl rfl) ?_
    refine l_nil ?_
    refine c_if (b := (decide (a3 ≠ 0))) rfl (fun hb => ?_) (fun hb => ?_)
    · have H9 := cnd_t hb H; clear H
      refine c_region ?_
      refine l_val rfl rfl rfl (r_move (v := .int .i64 0) rfl) ?_
      refine l_val rfl rfl rfl (r_assign (v := .int .i64 0) rfl) ?_
      refine l_nil ?_
      refine c_close 0 () 0 [] (by exact ⟨rfl, rfl, rfl, rfl, trivial⟩) (by decide) rfl (by exact ⟨H9, trivial⟩) (Nat.lt_succ_self _)
    · have H10 := cnd_f hb H; clear H
      refine c_skip ?_
      refine c_close a2 () 0 [] (by exact ⟨rfl, rfl, rfl, rfl, trivial⟩) (by decide) rfl (by exact ⟨H10, trivial⟩) (Nat.lt_succ_self _)
  · rintro x2 _ gg H6 _
    replace H6 : Law_told_int_j1 a0 a1 a3 x2 = some r := H6
    refine c_tidyF [(0, .int .i64 a0), (1, .int .i64 a1), (2, .int .i64 x2), (3, .int .i64 a3)] [] rfl rfl ?_
    refine c_seq ?_
    refine c_region ?_
    refine l_val rfl rfl rfl (r_move (v := .int .i64 a0) rfl) ?_
    refine l_val rfl rfl rfl (r_move (v := .int .i64 x2) rfl) ?_
    refine l_val rfl rfl rfl (r_eql rfl rfl) ?_
    refine l_val rfl rfl rfl (r_move (v := .bool (decide (a0 = x2))) rfl) ?_
    refine split (fun hb => ?_) (fun hb => ?_)
    · have H7 := cnd_t hb H6; clear H6
      refine l_val rfl rfl rfl (r_move (v := .int .i64 a1) rfl) ?_
      refine l_val rfl rfl rfl (r_move (v := .int .i64 a3) rfl) ?_
      refine l_val rfl rfl rfl (r_eql rfl rfl) ?_
      refine l_val rfl rfl rfl (r_pickT (v := .bool (decide (a1 = a3))) rfl rfl) ?_
      refine l_val rfl rfl rfl (r_assign (v := .bool (decide (a1 = a3))) rfl) ?_
      refine l_nil ?_
      refine c_ret ?_
      obtain rfl := Option.some.inj H7
      refine ret1 (v := .bool (decide (a1 = a3))) rfl rfl (fin rfl)
    · have H8 := cnd_f hb H6; clear H6
      refine l_passed rfl rfl rfl ?_
      refine l_passed rfl rfl rfl ?_
      refine l_passed rfl rfl rfl ?_
      refine l_val rfl rfl rfl (r_pickF (v := .bool false) rfl rfl) ?_
      refine l_val rfl rfl rfl (r_assign (v := .bool false) rfl) ?_
      refine l_nil ?_
      refine c_ret ?_
      obtain rfl := Option.some.inj H8
      refine ret1 (v := .bool false) rfl rfl (fin rfl)
theorem k13 {a0 : (List UInt8)} {a1 : Int} {a2 : (List UInt8)} {a3 : Int} {r : Bool} (H : Law_told_string a0 a1 a2 a3 = some r) : Ret Try.prog 13 [str a0, .int .i64 a1, str a2, .int .i64 a3] (.bool r) := by
  refine enterRet (n := 21) Try.func13 rfl rfl rfl (fun wd => ?_)
  refine c_seq ?_
  refine c_region ?_
  refine l_val rfl rfl rfl (r_assign (v := .bool false) rfl) ?_
  refine l_nil ?_
  refine c_seq ?_
  refine c_region ?_
  refine l_val rfl rfl rfl (r_assign (v := str []) rfl) ?_
  refine l_nil ?_
  refine c_meet (r := r) (σ := (List UInt8)) (τ := Unit) (fun s => Law_told_string_j1 a0 a1 a3 s) (fun s t => [(0, str a0), (1, .int .i64 a1), (2, str s), (3, .int .i64 a3)]) (fun s t => []) (fun s t => True) ?_ ?_
  · refine c_seq ?_
    refine c_region ?_
    refine l_val rfl rfl rfl (r_move (v := .int .i64 a3) rfl) ?_
    refine l_val rfl rfl rfl (r_neq rfl rfl) ?_
    refine l_nil ?_
    refine c_if (b := (decide (a3 ≠ 0))) rfl (fun hb => ?_) (fun hb => ?_)
    · have H9 := cnd_t hb H; clear H
      refine c_region ?_
      refine l_val rfl rfl rfl (r_move (v := str []) rfl) ?_
      refine l_val rfl rfl rfl (r_assign (v := str []) rfl) ?_
      refine l_nil ?_
      refine c_close [] () 0 [] (by exact ⟨rfl, rfl, rfl, rfl, trivial⟩) (by decide) rfl (by exact ⟨H9, trivial⟩) (Nat.lt_succ_self _)
    · have H10 := cnd_f hb H; clear H
      refine c_skip ?_
      refine c_close a2 () 0 [] (by exact ⟨rfl, rfl, rfl, rfl, trivial⟩) (by decide) rfl (by exact ⟨H10, trivial⟩) (Nat.lt_succ_self _)
  · rintro x2 _ gg H6 _
    replace H6 : Law_told_string_j1 a0 a1 a3 x2 = some r := H6
    refine c_tidyF [(0, str a0), (1, .int .i64 a1), (2, str x2), (3, .int .i64 a3)] [] rfl rfl ?_
    refine c_seq ?_
    refine c_region ?_
    refine l_val rfl rfl rfl (r_move (v := str a0) rfl) ?_
    refine l_val rfl rfl rfl (r_move (v := str x2) rfl) ?_
    refine l_val rfl rfl rfl (r_eqlT rfl rfl) ?_
    refine l_val rfl rfl rfl (r_move (v := .bool (decide (a0 = x2))) rfl) ?_
    refine split (fun hb => ?_) (fun hb => ?_)
    · have H7 := cnd_t hb H6; clear H6
      refine l_val rfl rfl rfl (r_move (v := .int .i64 a1) rfl) ?_
      refine l_val rfl rfl rfl (r_move (v := .int .i64 a3) rfl) ?_
      refine l_val rfl rfl rfl (r_eql rfl rfl) ?_
      refine l_val rfl rfl rfl (r_pickT (v := .bool (decide (a1 = a3))) rfl rfl) ?_
      refine l_val rfl rfl rfl (r_assign (v := .bool (decide (a1 = a3))) rfl) ?_
      refine l_nil ?_
      refine c_ret ?_
      obtain rfl := Option.some.inj H7
      refine ret1 (v := .bool (decide (a1 = a3))) rfl rfl (fin rfl)
    · have H8 := cnd_f hb H6; clear H6
      refine l_passed rfl rfl rfl ?_
      refine l_passed rfl rfl rfl ?_
      refine l_passed rfl rfl rfl ?_
      refine l_val rfl rfl rfl (r_pickF (v := .bool false) rfl rfl) ?_
      refine l_val rfl rfl rfl (r_assign (v := .bool false) rfl) ?_
      refine l_nil ?_
      refine c_ret ?_
      obtain rfl := Option.some.inj H8
      refine ret1 (v := .bool false) rfl rfl (fin rfl)
theorem k3 {a0 : T_tag_File} {v0_1 : Value} {r : Bool} {w : World} {h : Heap} (hw : Know h w noS) (f0_1 : FrN h 1 v0_1 gs_tag_Entry a0.Dirs) (H : Law_TagWrites a0 = some r) : Does Try.prog 3 (List.toArray [.agg #[.bool a0.Big, v0_1]]) w (fun v w' => v = (.bool r) ∧ Grow w w') := by
  refine enter (n := 44) Try.func3 rfl rfl rfl noS [] (Sat.nil _ _) ?_
  refine c_seq ?_
  refine c_region ?_
  refine l_box (cs := [.bool a0.Big, v0_1]) rfl rfl rfl rfl (fun b1 => ?_)
  refine l_val rfl rfl rfl (r_assign (v := .bool false) rfl) ?_
  refine l_nil ?_
  refine c_seq ?_
  refine c_region ?_
  refine l_loadN (i := 0) (vs := [.bool a0.Big, v0_1]) Try.isAgg24 Try.sizeOf24 rfl rfl rfl rfl rfl ?_
  obtain ⟨t10, h_t10, H15⟩ := bnd_some H; clear H
  refine l_callG (fun w hF hS => k7 (know_all w) (f0_1.mono (hw.now hF)) h_t10) Try.call7 rfl rfl rfl ?_
  refine l_val rfl rfl rfl (r_assign (v := .int .i64 t10) rfl) ?_
  refine l_nil ?_
  refine c_seq ?_
  refine c_region ?_
  refine l_val rfl rfl rfl (r_assign (v := str []) rfl) ?_
  refine l_nil ?_
  refine c_meet (r := r) (σ := (List UInt8)) (τ := Unit) (fun s => Law_TagWrites_j1 a0 t10 s) (fun s t => [(1, .pointer (some ⟨b1, 0, none⟩)), (3, .int .i64 t10), (4, str s)]) (fun s t => [cellsC b1 [.bool a0.Big, v0_1] 24]) (fun s t => True) ?_ ?_
  · refine c_seq ?_
    refine c_region ?_
    refine l_val rfl rfl rfl (r_move (v := .int .i64 t10) rfl) ?_
    refine l_val rfl rfl rfl (r_eql rfl rfl) ?_
    refine l_nil ?_
    refine c_if (b := (decide (t10 = 0))) rfl (fun hb => ?_) (fun hb => ?_)
    · have H26 := cnd_t hb H15; clear H15
      refine c_region ?_
      refine l_loadN (i := 0) (vs := [.bool a0.Big, v0_1]) Try.isAgg24 Try.sizeOf24 rfl rfl rfl rfl rfl ?_
      obtain ⟨t14, h_t14, H27⟩ := bnd_some H26; clear H26
      refine l_callG (fun w hF hS => k8 (know_all w) (f0_1.mono (hw.now hF)) h_t14) Try.call8 rfl rfl rfl ?_
      refine l_val rfl rfl rfl (r_assign (v := str t14) rfl) ?_
      refine l_nil ?_
      refine c_close t14 () 0 [0] (by exact ⟨rfl, rfl, rfl, trivial⟩) (by decide) rfl (by exact ⟨H27, trivial⟩) (Nat.lt_succ_self _)
    · have H28 := cnd_f hb H15; clear H15
      refine c_skip ?_
      refine c_close [] () 0 [0] (by exact ⟨rfl, rfl, rfl, trivial⟩) (by decide) rfl (by exact ⟨H28, trivial⟩) (Nat.lt_succ_self _)
  · rintro x4 _ gg H16 _
    replace H16 : Law_TagWrites_j1 a0 t10 x4 = some r := H16
    refine c_tidyF [(1, .pointer (some ⟨b1, 0, none⟩)), (3, .int .i64 t10), (4, str x4)] [cellsC b1 [.bool a0.Big, v0_1] 24] rfl rfl ?_
    refine c_seq ?_
    refine c_region ?_
    refine l_loadN (i := 0) (vs := [.bool a0.Big, v0_1]) Try.isAgg24 Try.sizeOf24 rfl rfl rfl rfl rfl ?_
    obtain ⟨t17, h_t17, H17⟩ := bnd_some H16; clear H16
    refine l_callG (fun w hF hS => k9 (know_all w) (f0_1.mono (hw.now hF)) h_t17) Try.call9 rfl rfl rfl ?_
    refine l_val rfl rfl rfl (r_move (v := .tuple #[.int .i64 t17.1, .int .i64 t17.2]) rfl) ?_
    refine l_val rfl rfl rfl (r_extract (v := .int .i64 t17.1) rfl rfl) ?_
    refine l_val rfl rfl rfl (r_extract (v := .int .i64 t17.2) rfl rfl) ?_
    refine l_val rfl rfl rfl (r_assign (v := .int .i64 t17.1) rfl) ?_
    refine l_val rfl rfl rfl (r_assign (v := .int .i64 t17.2) rfl) ?_
    refine l_nil ?_
    refine c_seq ?_
    refine c_region ?_
    refine l_loadN (i := 0) (vs := [.bool a0.Big, v0_1]) Try.isAgg24 Try.sizeOf24 rfl rfl rfl rfl rfl ?_
    obtain ⟨t22, h_t22, H18⟩ := bnd_some H17; clear H17
    refine l_callG (fun w hF hS => k10 (know_all w) (f0_1.mono (hw.now hF)) h_t22) Try.call10 rfl rfl rfl ?_
    refine l_val rfl rfl rfl (r_move (v := .tuple #[str t22.1, .int .i64 t22.2]) rfl) ?_
    refine l_val rfl rfl rfl (r_extract (v := str t22.1) rfl rfl) ?_
    refine l_val rfl rfl rfl (r_extract (v := .int .i64 t22.2) rfl rfl) ?_
    refine l_val rfl rfl rfl (r_assign (v := str t22.1) rfl) ?_
    refine l_val rfl rfl rfl (r_assign (v := .int .i64 t22.2) rfl) ?_
    refine l_nil ?_
    refine c_seq ?_
    refine c_region ?_
    refine l_loadN (i := 0) (vs := [.bool a0.Big, v0_1]) Try.isAgg24 Try.sizeOf24 rfl rfl rfl rfl rfl ?_
    obtain ⟨t26, h_t26, H19⟩ := bnd_some H18; clear H18
    refine l_callG (fun w hF hS => k11 (know_all w) (f0_1.mono (hw.now hF)) h_t26) Try.call11 rfl rfl rfl ?_
    refine l_val rfl rfl rfl (r_move (v := .int .i64 t10) rfl) ?_
    refine l_val rfl rfl rfl (r_eql rfl rfl) ?_
    refine l_val rfl rfl rfl (r_move (v := .bool (decide (t26 = t10))) rfl) ?_
    refine split (fun hb => ?_) (fun hb => ?_)
    · have H20 := cnd_t hb H19; clear H19
      refine l_val rfl rfl rfl (r_move (v := .int .i64 t17.1) rfl) ?_
      refine l_val rfl rfl rfl (r_move (v := .int .i64 t17.2) rfl) ?_
      refine l_val rfl rfl rfl (r_move (v := str x4) rfl) ?_
      refine l_val rfl rfl rfl (r_lenT Try.underlying9 rfl) ?_
      refine l_val rfl rfl rfl (r_move (v := .int .i64 t10) rfl) ?_
      obtain ⟨t35, h_t35, H21⟩ := bnd_some H20; clear H20
      refine l_call (k12 h_t35) Try.call12 rfl rfl rfl ?_
      refine l_val rfl rfl rfl (r_pickT (v := .bool t35) rfl rfl) ?_
      refine l_val rfl rfl rfl (r_move (v := .bool t35) rfl) ?_
      refine split (fun hb => ?_) (fun hb => ?_)
      · have H22 := cnd_t hb H21; clear H21
        refine l_val rfl rfl rfl (r_move (v := str t22.1) rfl) ?_
        refine l_val rfl rfl rfl (r_move (v := .int .i64 t22.2) rfl) ?_
        refine l_val rfl rfl rfl (r_move (v := str x4) rfl) ?_
        refine l_val rfl rfl rfl (r_move (v := .int .i64 t10) rfl) ?_
        obtain ⟨t42, h_t42, H23⟩ := bnd_some H22; clear H22
        refine l_call (k13 h_t42) Try.call13 rfl rfl rfl ?_
        refine l_val rfl rfl rfl (r_pickT (v := .bool t42) rfl rfl) ?_
        refine l_val rfl rfl rfl (r_assign (v := .bool t42) rfl) ?_
        refine l_nil ?_
        refine c_ret ?_
        obtain rfl := Option.some.inj H23
        refine ret1 (v := .bool t42) rfl rfl (fin rfl)
      · have H24 := cnd_f hb H21; clear H21
        refine l_passed rfl rfl rfl ?_
        refine l_passed rfl rfl rfl ?_
        refine l_passed rfl rfl rfl ?_
        refine l_passed rfl rfl rfl ?_
        refine l_passed rfl rfl rfl ?_
        refine l_val rfl rfl rfl (r_pickF (v := .bool false) rfl rfl) ?_
        refine l_val rfl rfl rfl (r_assign (v := .bool false) rfl) ?_
        refine l_nil ?_
        refine c_ret ?_
        obtain rfl := Option.some.inj H24
        refine ret1 (v := .bool false) rfl rfl (fin rfl)
    · have H25 := cnd_f hb H19; clear H19
      refine l_passed rfl rfl rfl ?_
      refine l_passed rfl rfl rfl ?_
      refine l_passed rfl rfl rfl ?_
      refine l_passed rfl rfl rfl ?_
      refine l_passed rfl rfl rfl ?_
      refine l_passed rfl rfl rfl ?_
      refine l_val rfl rfl rfl (r_pickF (v := .bool false) rfl rfl) ?_
      refine l_val rfl rfl rfl (r_move (v := .bool false) rfl) ?_
      refine l_passed rfl rfl rfl ?_
      refine l_passed rfl rfl rfl ?_
      refine l_passed rfl rfl rfl ?_
      refine l_passed rfl rfl rfl ?_
      refine l_passed rfl rfl rfl ?_
      refine l_val rfl rfl rfl (r_pickF (v := .bool false) rfl rfl) ?_
      refine l_val rfl rfl rfl (r_assign (v := .bool false) rfl) ?_
      refine l_nil ?_
      refine c_ret ?_
      obtain rfl := Option.some.inj H25
      refine ret1 (v := .bool false) rfl rfl (fin rfl)
end Go.Proofs.Ytaonhnkojkkmbaa
