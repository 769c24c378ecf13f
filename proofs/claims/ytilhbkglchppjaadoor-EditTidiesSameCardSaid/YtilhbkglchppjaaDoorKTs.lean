/- EditTidiesSame: the walks, printed by our generator; each follows its model. Conditions: the model yields a value. -/
import Derived.Test.YtilhbkglchppjaaDoorKSb
namespace Go.Proofs.YtilhbkglchppjaaDoor
open Go Go.Vc Go.Md Go.M Go.Lx
set_option maxRecDepth 100000
set_option maxHeartbeats 4000000
set_option linter.unusedVariables false

theorem k111 {a0 : Int} {r : (List UInt8)} {w : World} {h : Heap} (hw : Know h w noS) (tb_pow10 : TabH Tryd.prog h "internal/strconv.uint64pow10" .u64 Lib.pow10Tab) (H : gItoa a0 = some r) : Does Tryd.prog 111 (List.toArray [.int .i64 a0]) w (fun v w' => v = (str r) ∧ Grow w w') :=
  itoa_does (ρ := Go.Proofs.Tryd.laysM171_ren) Go.Proofs.Tryd.laysM171 hw tb_pow10 H

theorem k57 {a0 : T_edit_Step} {r : (List UInt8)} {w : World} {h : Heap} (hw : Know h w noS) (tb_pow10 : TabH Tryd.prog h "internal/strconv.uint64pow10" .u64 Lib.pow10Tab) (H : edit_Step_line a0 = some r) : Does Tryd.prog 57 (List.toArray [.agg #[.int .i64 a0.Kind, .int .i64 a0.A, .int .i64 a0.B, .int .i64 a0.C, .int .i64 a0.D]]) w (fun v w' => v = (str r) ∧ Grow w w') := by
  refine enter (n := 29) Tryd.func57 rfl rfl rfl noS [] (Sat.nil _ _) ?_
  refine c_seq ?_
  refine c_region ?_
  refine l_box (cs := [.int .i64 a0.Kind, .int .i64 a0.A, .int .i64 a0.B, .int .i64 a0.C, .int .i64 a0.D]) rfl rfl rfl rfl (fun b1 => ?_)
  refine l_val rfl rfl rfl (r_assign (v := str []) rfl) ?_
  refine l_nil ?_
  refine c_seq ?_
  refine c_region ?_
  refine l_val rfl rfl rfl (r_field Tryd.runUnderlying35 rfl Tryd.sizeOf3 rfl rfl) ?_
  refine l_load1 (i := 0) (v := .int .i64 a0.Kind) Tryd.isAgg3 rfl rfl rfl rfl rfl ?_
  obtain ⟨t10, h_t10, H12⟩ := bnd_some H; clear H
  refine l_call (k109 h_t10) Tryd.call109 rfl rfl rfl ?_
  refine l_val rfl rfl rfl (r_move (v := .tuple #[str t10.1, .int .i64 t10.2]) rfl) ?_
  refine l_val rfl rfl rfl (r_extract (v := str t10.1) rfl rfl) ?_
  refine l_val rfl rfl rfl (r_extract (v := .int .i64 t10.2) rfl rfl) ?_
  refine l_val rfl rfl rfl (r_assign (v := str t10.1) rfl) ?_
  refine l_val rfl rfl rfl (r_assign (v := .int .i64 t10.2) rfl) ?_
  refine l_nil ?_
  refine c_seq ?_
  refine c_seq ?_
  refine c_region ?_
  refine l_loadN (i := 0) (vs := [.int .i64 a0.Kind, .int .i64 a0.A, .int .i64 a0.B, .int .i64 a0.C, .int .i64 a0.D]) Tryd.isAgg35 Tryd.sizeOf35 rfl rfl rfl rfl rfl ?_
  obtain ⟨t14, h_t14, H13⟩ := bnd_some H12; clear H12
  refine l_make (makes_call (rds := []) (G := fun x : (Option Addr × Nat) => .slice x.1 t14.length x.2) (C := fun x : (Option Addr × Nat) => rowV 3 1 (.slice x.1 t14.length x.2) t14.length (t14.map e_i64)) (fun w L' hF hS hi => k110 (know_all w)  h_t14) Tryd.call110 rfl) rfl rfl rfl (fun p => ?_)
  refine l_val rfl rfl rfl (r_move (v := .int .i64 t10.2) rfl) ?_
  obtain ⟨t16, h_t16, H14⟩ := bnd_some H13; clear H13
  refine l_read (v := .slice (cutA p.1 (Int.toNat (0 : Int)) p.2 1) t16.length (p.2 - Int.toNat (0 : Int))) (fun w hF hS => run_sliceHO (xs := t14) Tryd.underlying132 Tryd.sizeOf3 rfl rfl rfl (capOf (i := 1) hS rfl) h_t16) rfl rfl rfl ?_
  refine l_val rfl rfl rfl (r_len Tryd.underlying132 rfl) ?_
  refine l_val rfl rfl rfl (r_move (v := .int .i64 0) rfl) ?_
  refine l_nil ?_
  refine c_block ?_
  refine c_sel [1] [rowV 3 1 (.slice p.1 t14.length p.2) t14.length (t14.map e_i64)] rfl (by decide) ?_
  refine c_fix (σ := (List UInt8) × Int) (τ := Unit) (fun next1 s => edit_Step_line_l1 t16 next1 s.1 s.2) (fun s t => [(3, str s.1), (16, .slice (cutA p.1 (Int.toNat (0 : Int)) p.2 1) t16.length (p.2 - Int.toNat (0 : Int))), (17, .int .i64 (t16.length : Int)), (18, .int .i64 s.2)]) (fun s t => [rowV 3 1 (.slice p.1 t14.length p.2) t14.length (t14.map e_i64)]) (fun s t => True) (t10.1, 0) () [0] H14 (by exact trivial) (by exact ⟨rfl, rfl, rfl, rfl, trivial⟩) (by decide) rfl ?_
  rintro ⟨x3_2, x18_2⟩ _ m1 gg H15 _
  clear H14
  replace H15 : edit_Step_line_l1 t16 (it (fun next1 s => edit_Step_line_l1 t16 next1 s.1 s.2) m1) x3_2 x18_2 = some r := H15
  generalize hn1 : it (fun next1 s => edit_Step_line_l1 t16 next1 s.1 s.2) m1 = next1 at H15
  refine c_tidyF [(3, str x3_2), (16, .slice (cutA p.1 (Int.toNat (0 : Int)) p.2 1) t16.length (p.2 - Int.toNat (0 : Int))), (17, .int .i64 (t16.length : Int)), (18, .int .i64 x18_2)] [rowV 3 1 (.slice p.1 t14.length p.2) t14.length (t14.map e_i64)] rfl rfl ?_
  refine c_seq ?_
  refine c_region ?_
  refine l_val rfl rfl rfl (r_lss rfl rfl) ?_
  refine l_nil ?_
  refine c_seq ?_
  refine c_if (b := (decide (x18_2 < (t16.length : Int)))) rfl (fun hb => ?_) (fun hb => ?_)
  · have H16 := cnd_t hb H15; clear H15
    refine c_skip ?_
    refine c_seq ?_
    refine c_block ?_
    refine c_seq ?_
    refine c_region ?_
    obtain ⟨t20, h_t20, H17⟩ := bnd_some H16; clear H16
    refine l_read (fun w hF hS => run_indexO Tryd.underlying132 Tryd.sizeOf3 rfl rfl (Row.cutG (rowOf (i := 0) hS rfl) rfl (capOf (i := 0) hS rfl) h_t16) rfl h_t20) rfl rfl rfl ?_
    refine l_read (fun w hF hS => run_loadG1 (f := e_i64) (i := x18_2) (sz := 1) (j := 0) (v := .int .i64 t20) Tryd.isAgg3 rfl rfl (Row.cutG (rowOf (i := 0) hS rfl) rfl (capOf (i := 0) hS rfl) h_t16) h_t20 rfl) rfl rfl rfl ?_
    refine l_val rfl rfl rfl (r_assign (v := .int .i64 t20) rfl) ?_
    refine l_nil ?_
    refine c_region ?_
    refine l_val rfl rfl rfl (r_move (v := str x3_2) rfl) ?_
    refine l_val rfl rfl rfl (r_move (v := .int .i64 t20) rfl) ?_
    obtain ⟨t24, h_t24, H18⟩ := bnd_some H17; clear H17
    refine l_callG (fun w hF hS => k111 (know_all w) (tb_pow10.mono (hw.now hF)) h_t24) Tryd.call111 rfl rfl rfl ?_
    obtain ⟨t25, h_t25, H19⟩ := bnd_some H18; clear H18
    refine l_val rfl rfl rfl (r_concatG rfl rfl h_t25) ?_
    obtain ⟨t26, h_t26, H20⟩ := bnd_some H19; clear H19
    refine l_val rfl rfl rfl (r_concatG rfl rfl h_t26) ?_
    refine l_val rfl rfl rfl (r_assign (v := str t26) rfl) ?_
    refine l_nil ?_
    refine c_region ?_
    obtain ⟨t27, h_t27, H21⟩ := bnd_some H20; clear H20
    refine l_val rfl rfl rfl (r_addG rfl rfl h_t27) ?_
    refine l_val rfl rfl rfl (r_move (v := .int .i64 t27) rfl) ?_
    refine l_nil ?_
    refine c_close (t26, t27) () m1 [0] (by exact ⟨rfl, rfl, rfl, rfl, trivial⟩) (by decide) rfl (by exact ⟨(by subst hn1; exact H21), trivial⟩) (Nat.lt_succ_self _)
  · have H22 := cnd_f hb H15; clear H15
    refine c_exit ?_
    refine c_seq ?_
    refine c_region ?_
    refine l_val rfl rfl rfl (r_move (v := str x3_2) rfl) ?_
    refine l_val rfl rfl rfl (r_assign (v := str x3_2) rfl) ?_
    refine l_nil ?_
    refine c_ret ?_
    obtain rfl := Option.some.inj H22
    refine ret1 (v := str x3_2) rfl rfl (fin rfl)
theorem ext189 (x : Value) (w : World) : (callFunc 189 (List.toArray [x])).run Tryd.prog w = .ok (.value x) w := by
  have h0 : (callFunc 189 #[x]).run Tryd.prog w = (do pure (.value (← Extern.AbiNoEscape.same #[x])) : Sem Next).run Tryd.prog w := by kernel_rfl
  rw [h0]; rfl

theorem k159 {pb0 : Nat} {q sl : Value} {w : World} {S : Nat → Prop} (hcs : (cellsC pb0 [q, sl] 158).P S w) (hlt : ∀ b, S b → b < w.heap.size) (hq : q = .pointer none ∨ q = .pointer (some ⟨pb0, 0, none⟩)) : Does Tryd.prog 159 (List.toArray [.pointer (some ⟨pb0, 0, none⟩)]) w (fun v w' => ∃ x : Unit, v = .tuple #[] ∧ Turn w w' S (cellsC pb0 [.pointer (some ⟨pb0, 0, none⟩), sl] 158)) := by
  refine enter (n := 20) Tryd.func159 rfl rfl rfl S [cellsC pb0 [q, sl] 158] (Sat.one hcs hlt) ?_
  refine c_seq ?_
  refine c_region ?_
  refine l_val rfl rfl rfl (r_move (v := .pointer (some ⟨pb0, 0, none⟩)) rfl) ?_
  refine l_val rfl rfl rfl (r_nilCheck rfl) ?_
  refine l_val rfl rfl rfl (r_field Tryd.runUnderlying158 rfl Tryd.sizeOf156 rfl rfl) ?_
  refine l_load1 (i := 0) (v := q) Tryd.isAgg156 rfl rfl rfl rfl rfl ?_
  rcases hq with rfl | rfl
  · refine l_val rfl rfl rfl (r_nilP (a := none) Tryd.underlying156 rfl rfl) ?_
    refine l_nil ?_
    refine c_true rfl ?_
    refine c_region ?_
    refine l_val rfl rfl rfl (r_move (v := .pointer (some ⟨pb0, 0, none⟩)) rfl) ?_
    refine l_val rfl rfl rfl (r_move (v := .pointer (some ⟨pb0, 0, none⟩)) rfl) ?_
    refine l_read (fun w hF hS => run_toU (cs := [.pointer none, sl]) (T := 158) Tryd.underlying156 Tryd.underlying233 (info_of Tryd.typeInfo158) (by decide) (sat_cell (i := 0) hS rfl) rfl rfl) rfl rfl rfl ?_
    refine l_val rfl rfl rfl (r_ext (args := [.pointer (some ⟨pb0, 0, none⟩)]) (ext189 _) rfl) ?_
    refine l_read (fun w hF hS => run_fromU (cs := [.pointer none, sl]) (T := 158) Tryd.underlying233 Tryd.underlying156 (info_of Tryd.typeInfo158) (sat_cell (i := 0) hS rfl) (by kernel_rfl) rfl) rfl rfl rfl ?_
    refine l_val rfl rfl rfl (r_nilCheck rfl) ?_
    refine l_val rfl rfl rfl (r_field Tryd.runUnderlying158 rfl Tryd.sizeOf156 rfl rfl) ?_
    refine l_store (i := 0) (vs := [.pointer (some ⟨pb0, 0, none⟩)]) (cs' := [.pointer (some ⟨pb0, 0, none⟩), sl]) Tryd.sizeOf156 rfl rfl rfl rfl rfl rfl rfl rfl rfl ?_
    refine l_nil ?_
    exact ret0n rfl (finX () (i := 0) rfl rfl (Imp.refl _))
  · refine l_val rfl rfl rfl (r_nilP (a := some ⟨pb0, 0, none⟩) Tryd.underlying156 rfl rfl) ?_
    refine l_nil ?_
    refine c_false rfl ?_
    refine c_seq ?_
    refine c_region ?_
    refine l_val rfl rfl rfl (r_move (v := .pointer (some ⟨pb0, 0, none⟩)) rfl) ?_
    refine l_val rfl rfl rfl (r_nilCheck rfl) ?_
    refine l_val rfl rfl rfl (r_field Tryd.runUnderlying158 rfl Tryd.sizeOf156 rfl rfl) ?_
    refine l_load1 (i := 0) (v := .pointer (some ⟨pb0, 0, none⟩)) Tryd.isAgg156 rfl rfl rfl rfl rfl ?_
    refine l_val rfl rfl rfl (r_move (v := .pointer (some ⟨pb0, 0, none⟩)) rfl) ?_
    refine l_val rfl rfl rfl (r_sameP Tryd.underlying156 (info_of Tryd.typeInfo158) rfl rfl) ?_
    refine l_nil ?_
    refine c_false rfl ?_
    refine c_skip ?_
    exact ret0n rfl (finX () (i := 0) rfl rfl (Imp.refl _))

theorem k114 {a0 : List UInt8} {pb0 : Nat} {a1 r : List UInt8} {w : World} {h : Heap} {S : Nat → Prop} (hcs : (bldC pb0 158 5 a0).P S w) (hlt : ∀ b, S b → b < w.heap.size) (hw : Know h w S) (H : gBld a0 a1 = some r) : Does Tryd.prog 114 (List.toArray [.pointer (some ⟨pb0, 0, none⟩), str a1]) w (fun v w' => ∃ x : Unit, v = .tuple #[.int .i64 (a1.length : Int), .nilIface] ∧ Turn w w' S (bldC pb0 158 5 r)) := by
  obtain ⟨rfl, hne, hbl⟩ := gBld_some H
  have hg : gApL 1 (ofStr a0) (ofStr a1) = some (ofStr (a0 ++ a1)) := by rw [gApL_ok (by simp [ofStr]; omega)]; simp [ofStr]
  refine enter (n := 19) Tryd.func114 rfl rfl rfl S [bldC pb0 158 5 a0] (Sat.one hcs hlt) ?_
  refine c_bld 0 rfl (fun q p hq hp => ?_)
  refine c_split 0 rfl ?_
  refine c_seq ?_
  refine c_region ?_
  refine l_val rfl rfl rfl (r_assign (v := .int .i64 0) rfl) ?_
  refine l_val rfl rfl rfl (r_assign (v := .nilIface) rfl) ?_
  refine l_nil ?_
  refine c_seq ?_
  refine c_region ?_
  refine l_val rfl rfl rfl (r_move (v := .pointer (some ⟨pb0, 0, none⟩)) rfl) ?_
  refine l_turn (turns_callB (i := 0) (rds := []) (G := fun _ : Unit => .tuple #[]) (C := fun _ => cellsC pb0 [.pointer (some ⟨pb0, 0, none⟩), .slice p.1 (ofStr a0).length p.2] 158) rfl (fun w L' S hF hS hi hp' hlt ho hA => k159 hp' hlt hq) Tryd.call159 rfl) rfl rfl rfl (fun _ => ?_)
  refine l_nil ?_
  refine c_seq ?_
  refine c_region ?_
  refine l_val rfl rfl rfl (r_move (v := .pointer (some ⟨pb0, 0, none⟩)) rfl) ?_
  refine l_val rfl rfl rfl (r_move (v := .pointer (some ⟨pb0, 0, none⟩)) rfl) ?_
  refine l_val rfl rfl rfl (r_nilCheck rfl) ?_
  refine l_val rfl rfl rfl (r_field Tryd.runUnderlying158 rfl Tryd.sizeOf46 rfl rfl) ?_
  refine l_load1 (i := 0) (v := .slice p.1 (ofStr a0).length p.2) Tryd.isAgg46 rfl rfl rfl rfl rfl ?_
  refine l_val rfl rfl rfl (r_move (v := str a1) rfl) ?_
  refine l_turn (turns_strG (i := 1) (rds := []) (f := e8) rfl Tryd.underlying46 Tryd.underlying9 (info_of Tryd.typeInfo5) rfl rfl rfl rfl rfl rfl (fun _ => rfl) hg) rfl rfl rfl (fun p2 => ?_)
  refine l_val rfl rfl rfl (r_nilCheck rfl) ?_
  refine l_val rfl rfl rfl (r_field Tryd.runUnderlying158 rfl Tryd.sizeOf46 rfl rfl) ?_
  refine l_store (i := 0) (vs := [.slice p2.1 (ofStr (a0 ++ a1)).length p2.2]) (cs' := [.pointer (some ⟨pb0, 0, none⟩), .slice p2.1 (ofStr (a0 ++ a1)).length p2.2]) Tryd.sizeOf46 rfl rfl rfl rfl rfl rfl rfl rfl rfl ?_
  refine l_nil ?_
  refine c_seq ?_
  refine c_region ?_
  refine l_val rfl rfl rfl (r_move (v := str a1) rfl) ?_
  refine l_val rfl rfl rfl (r_lenT Tryd.underlying9 rfl) ?_
  refine l_val rfl rfl rfl (r_assign (v := .int .i64 (a1.length : Int)) rfl) ?_
  refine l_val rfl rfl rfl (r_assign (v := .nilIface) rfl) ?_
  refine l_nil ?_
  refine c_ret ?_
  refine c_both 0 1 rfl rfl (by decide) ?_
  exact ret2 rfl rfl rfl (finX () (i := 0) rfl rfl (imp_bld (by simp [hne])))

theorem k115 {a0 : List UInt8} {pb0 : Nat}  {w : World} {h : Heap} {S : Nat → Prop} (hcs : (bldC pb0 158 5 a0).P S w) (hlt : ∀ b, S b → b < w.heap.size) (hw : Know h w S)  : Does Tryd.prog 115 (List.toArray [.pointer (some ⟨pb0, 0, none⟩)]) w (fun v w' => ∃ x : Unit, v = str a0 ∧ Turn w w' S empC) := by
  refine enter (n := 14) Tryd.func115 rfl rfl rfl S [bldC pb0 158 5 a0] (Sat.one hcs hlt) ?_
  refine c_bld 0 rfl (fun q p hq hp => ?_)
  refine c_split 0 rfl ?_
  refine c_seq ?_
  refine c_region ?_
  refine l_val rfl rfl rfl (r_assign (v := str []) rfl) ?_
  refine l_nil ?_
  refine c_seq ?_
  exact c_regionD (Kd.p :: Kd.p :: Kd.p :: Kd.d [0] _ :: Kd.p :: Kd.p :: Kd.p :: Kd.p :: Kd.d [0] _ :: Kd.p :: Kd.t 1 [] _ _ :: Kd.p :: []) 0 mixed (by
    refine d_val rfl rfl (r_move (v := .pointer (some ⟨pb0, 0, none⟩)) rfl) ?_
    refine d_val rfl rfl (r_nilCheck rfl) ?_
    refine d_val rfl rfl (r_field Tryd.runUnderlying158 rfl Tryd.sizeOf46 rfl rfl) ?_
    refine d_load1 (i := 0) (v := .slice p.1 (ofStr a0).length p.2) Tryd.isAgg46 rfl rfl rfl rfl ?_
    refine d_val rfl rfl (r_ssd hp rfl) ?_
    refine d_val rfl rfl (r_move (v := .pointer (some ⟨pb0, 0, none⟩)) rfl) ?_
    refine d_val rfl rfl (r_nilCheck rfl) ?_
    refine d_val rfl rfl (r_field Tryd.runUnderlying158 rfl Tryd.sizeOf46 rfl rfl) ?_
    refine d_load1 (i := 0) (v := .slice p.1 (ofStr a0).length p.2) Tryd.isAgg46 rfl rfl rfl rfl ?_
    refine d_val rfl rfl (r_len Tryd.underlying46 rfl) ?_
    refine d_turn (Cv := fun _ => empC) () (turns_ustr (i := 1) (bs := a0) (p := p) Tryd.underlying199 (by kernel_rfl) rfl rfl rfl) (fun _ => rfl) rfl rfl (fun _ => ?_)
    refine d_val rfl rfl (r_assign (v := str a0) rfl) ?_
    refine d_nil ?_
    refine c_ret ?_
    exact ret1 rfl rfl (finX () (i := 1) rfl rfl (Imp.refl _))
  ) (by kernel_rfl)

theorem k68 {a0 : (List T_edit_Step)} {v0 : Value} {r : (List UInt8) × Int} {w : World} {h : Heap} (hw : Know h w noS) (f0 : FrS h 5 v0 (a0.map e_edit_Step)) (tb_pow10 : TabH Tryd.prog h "internal/strconv.uint64pow10" .u64 Lib.pow10Tab) (H : edit_Text a0 = some r) : Does Tryd.prog 68 (List.toArray [v0]) w (fun v w' => v = (.tuple #[str r.1, .int .i64 r.2]) ∧ Grow w w') := by
  refine enter (n := 25) Tryd.func68 rfl rfl rfl noS [] (Sat.nil _ _) ?_
  refine c_seq ?_
  refine c_region ?_
  refine l_val rfl rfl rfl (r_assign (v := str []) rfl) ?_
  refine l_val rfl rfl rfl (r_assign (v := .int .i64 0) rfl) ?_
  refine l_nil ?_
  refine c_seq ?_
  refine c_seq ?_
  refine c_region ?_
  refine l_val rfl rfl rfl (r_move (v := v0) rfl) ?_
  obtain ⟨t9, h_t9, H13⟩ := bnd_some H; clear H
  refine l_callG (fun w hF hS => k69 (know_all w) (f0.mono (hw.now hF)) h_t9) Tryd.call69 rfl rfl rfl ?_
  refine l_val rfl rfl rfl (r_assign (v := .int .i64 t9) rfl) ?_
  refine l_nil ?_
  refine c_seq ?_
  refine c_region ?_
  refine l_val rfl rfl rfl (r_move (v := .int .i64 t9) rfl) ?_
  refine l_val rfl rfl rfl (r_neq rfl rfl) ?_
  refine l_nil ?_
  refine c_if (b := (decide (t9 ≠ 0))) rfl (fun hb => ?_) (fun hb => ?_)
  · have H14 := cnd_t hb H13; clear H13
    refine c_seq ?_
    refine c_region ?_
    refine l_val rfl rfl rfl (r_move (v := .int .i64 t9) rfl) ?_
    refine l_val rfl rfl rfl (r_assign (v := str []) rfl) ?_
    refine l_val rfl rfl rfl (r_assign (v := .int .i64 t9) rfl) ?_
    refine l_nil ?_
    refine c_ret ?_
    obtain rfl := Option.some.inj H14
    refine ret2 (v1 := str []) (v2 := .int .i64 t9) rfl rfl rfl (fin rfl)
  · have H15 := cnd_f hb H13; clear H13
    refine c_skip ?_
    refine c_seq ?_
    refine c_region ?_
    refine l_alloc (cs := [.pointer none, .slice none 0 0]) Tryd.zeroValue158 rfl rfl rfl (fun b2 => ?_)
    refine c_imp 0 rfl (imp_bldNew _ _ 5) ?_
    refine l_nil ?_
    refine c_meet (r := r) (σ := (List UInt8)) (τ := Unit) (fun s => edit_Text_j1 s) (fun s t => [(5, .pointer (some ⟨b2, 0, none⟩))]) (fun s t => [bldC b2 158 5 s]) (fun s t => True) ?_ ?_
    · refine c_seq ?_
      refine c_region ?_
      refine l_val rfl rfl rfl (r_move (v := v0) rfl) ?_
      refine l_val rfl rfl rfl (r_lenF Tryd.underlying22 rfl f0 rfl) ?_
      refine l_val rfl rfl rfl (r_move (v := .int .i64 0) rfl) ?_
      refine l_nil ?_
      refine c_block ?_
      refine c_fix (σ := Int × (List UInt8)) (τ := Unit) (fun next2 s => edit_Text_l2 a0 next2 s.1 s.2) (fun s t => [(5, .pointer (some ⟨b2, 0, none⟩)), (13, v0), (14, .int .i64 (a0.length : Int)), (15, .int .i64 s.1)]) (fun s t => [bldC b2 158 5 s.2]) (fun s t => True) (0, []) () [0] H15 (by exact trivial) (by exact ⟨rfl, rfl, rfl, rfl, trivial⟩) (by decide) rfl ?_
      rintro ⟨x15_2, m_3⟩ _ m2 gg H17 _
      clear H15
      replace H17 : edit_Text_l2 a0 (it (fun next2 s => edit_Text_l2 a0 next2 s.1 s.2) m2) x15_2 m_3 = some r := H17
      generalize hn2 : it (fun next2 s => edit_Text_l2 a0 next2 s.1 s.2) m2 = next2 at H17
      refine c_tidyF [(5, .pointer (some ⟨b2, 0, none⟩)), (13, v0), (14, .int .i64 (a0.length : Int)), (15, .int .i64 x15_2)] [bldC b2 158 5 m_3] rfl rfl ?_
      refine c_seq ?_
      refine c_region ?_
      refine l_val rfl rfl rfl (r_lss rfl rfl) ?_
      refine l_nil ?_
      refine c_seq ?_
      refine c_if (b := (decide (x15_2 < (a0.length : Int)))) rfl (fun hb => ?_) (fun hb => ?_)
      · have H18 := cnd_t hb H17; clear H17
        refine c_skip ?_
        refine c_seq ?_
        refine c_block ?_
        refine c_seq ?_
        refine c_region ?_
        obtain ⟨t17, h_t17, H19⟩ := bnd_some H18; clear H18
        refine l_val rfl rfl rfl (r_indexF Tryd.underlying22 Tryd.sizeOf35 rfl rfl f0 h_t17) ?_
        refine l_read (fun w hF hS => run_loadGN (f := e_edit_Step) (i := x15_2) (sz := 5) (j := 0) (vs := [.int .i64 t17.Kind, .int .i64 t17.A, .int .i64 t17.B, .int .i64 t17.C, .int .i64 t17.D]) Tryd.isAgg35 Tryd.sizeOf35 rfl rfl (f0.row (hw.now hF)) h_t17 rfl) rfl rfl rfl ?_
        refine l_alloc (cs := [.int .i64 0, .int .i64 0, .int .i64 0, .int .i64 0, .int .i64 0]) Tryd.zeroValue35 rfl rfl rfl (fun b3 => ?_)
        refine l_store (i := 1) (vs := [.int .i64 t17.Kind, .int .i64 t17.A, .int .i64 t17.B, .int .i64 t17.C, .int .i64 t17.D]) (cs' := [.int .i64 t17.Kind, .int .i64 t17.A, .int .i64 t17.B, .int .i64 t17.C, .int .i64 t17.D]) Tryd.sizeOf35 rfl rfl rfl rfl rfl rfl rfl rfl rfl ?_
        refine l_nil ?_
        refine c_region ?_
        refine l_loadN (i := 1) (vs := [.int .i64 t17.Kind, .int .i64 t17.A, .int .i64 t17.B, .int .i64 t17.C, .int .i64 t17.D]) Tryd.isAgg35 Tryd.sizeOf35 rfl rfl rfl rfl rfl ?_
        obtain ⟨t20, h_t20, H20⟩ := bnd_some H19; clear H19
        refine l_callG (fun w hF hS => k57 (know_all w) (tb_pow10.mono (hw.now hF)) h_t20) Tryd.call57 rfl rfl rfl ?_
        obtain ⟨t21, h_t21, H21⟩ := bnd_some H20; clear H20
        refine l_val rfl rfl rfl (r_concatG rfl rfl h_t21) ?_
        obtain ⟨t22, h_t22, H22⟩ := bnd_some H21; clear H21
        refine l_turn (turns_callB (i := 0) (rds := []) (G := fun _ : Unit => .tuple #[.int .i64 (t21.length : Int), .nilIface]) (C := fun _ => bldC b2 158 5 t22) rfl (fun w L' S hF hS hi hp hlt ho hA => k114 hp hlt (know_but w S) h_t22) Tryd.call114 rfl) rfl rfl rfl (fun _ => ?_)
        refine l_nil ?_
        refine c_region ?_
        obtain ⟨t23, h_t23, H23⟩ := bnd_some H22; clear H22
        refine l_val rfl rfl rfl (r_addG rfl rfl h_t23) ?_
        refine l_val rfl rfl rfl (r_move (v := .int .i64 t23) rfl) ?_
        refine l_nil ?_
        refine c_close (t23, t22) () m2 [0] (by exact ⟨rfl, rfl, rfl, rfl, trivial⟩) (by decide) rfl (by exact ⟨(by subst hn2; exact H23), trivial⟩) (Nat.lt_succ_self _)
      · have H24 := cnd_f hb H17; clear H17
        refine c_exit ?_
        refine c_close m_3 () 0 [0] (by exact ⟨rfl, trivial⟩) (by decide) rfl (by exact ⟨H24, trivial⟩) (Nat.lt_succ_self _)
    · rintro m _ gg H16 _
      replace H16 : edit_Text_j1 m = some r := H16
      refine c_tidyF [(5, .pointer (some ⟨b2, 0, none⟩))] [bldC b2 158 5 m] rfl rfl ?_
      refine c_seq ?_
      refine c_region ?_
      refine l_turn (turns_callB (i := 0) (rds := []) (G := fun _ : Unit => str m) (C := fun _ => empC) rfl (fun w L' S hF hS hi hp hlt ho hA => k115 hp hlt (know_but w S)) Tryd.call115 rfl) rfl rfl rfl (fun _ => ?_)
      refine l_val rfl rfl rfl (r_assign (v := str m) rfl) ?_
      refine l_val rfl rfl rfl (r_assign (v := .int .i64 0) rfl) ?_
      refine l_nil ?_
      refine c_ret ?_
      obtain rfl := Option.some.inj H16
      refine ret2 (v1 := str m) (v2 := .int .i64 0) rfl rfl rfl (fin rfl)
theorem k22 {r : Bool} {w : World} {h : Heap} (hw : Know h w noS) (tb_pow10 : TabH Tryd.prog h "internal/strconv.uint64pow10" .u64 Lib.pow10Tab) (H : Keep_awakeEdit = some r) : Does Tryd.prog 22 (List.toArray []) w (fun v w' => v = (.bool r) ∧ Grow w w') := by
  refine enter (n := 15) Tryd.func22 rfl rfl rfl noS [] (Sat.nil _ _) ?_
  refine c_seq ?_
  refine c_region ?_
  refine l_val rfl rfl rfl (r_assign (v := .bool false) rfl) ?_
  refine l_nil ?_
  refine c_seq ?_
  refine c_region ?_
  refine l_val rfl rfl rfl (r_build (pl := #[(0, 1), (1, 1), (2, 1), (3, 1), (4, 1)]) (ps := [(0, .int .i64 9)]) (cells := #[.int .i64 9, .int .i64 0, .int .i64 0, .int .i64 0, .int .i64 0]) Tryd.zeroValue35 Tryd.runUnderlying35 (fun w => by kernel_rfl) rfl rfl) ?_
  refine l_buildSlice (vs := [.agg #[.int .i64 9, .int .i64 0, .int .i64 0, .int .i64 0, .int .i64 0]]) (cs := [.int .i64 9, .int .i64 0, .int .i64 0, .int .i64 0, .int .i64 0]) Tryd.underlying22 Tryd.sizeOf35 Tryd.zeroValue35 rfl rfl rfl rfl rfl rfl rfl (fun b1 => ?_)
  obtain ⟨t6, h_t6, H4⟩ := bnd_some H; clear H
  refine l_callG (fun w hF hS => k68 (know_all w) (frs_box (i := 0) (xs := ([(⟨9, 0, 0, 0, 0⟩ : T_edit_Step)] : List T_edit_Step)) (f := e_edit_Step) hS rfl rfl rfl rfl rfl) (tb_pow10.mono (hw.now hF)) h_t6) Tryd.call68 rfl rfl rfl ?_
  refine l_val rfl rfl rfl (r_move (v := .tuple #[str t6.1, .int .i64 t6.2]) rfl) ?_
  refine l_val rfl rfl rfl (r_extract (v := str t6.1) rfl rfl) ?_
  refine l_val rfl rfl rfl (r_extract (v := .int .i64 t6.2) rfl rfl) ?_
  refine l_val rfl rfl rfl (r_assign (v := str t6.1) rfl) ?_
  refine l_val rfl rfl rfl (r_assign (v := .int .i64 t6.2) rfl) ?_
  refine l_nil ?_
  refine c_seq ?_
  refine c_region ?_
  refine l_val rfl rfl rfl (r_move (v := .int .i64 t6.2) rfl) ?_
  refine l_val rfl rfl rfl (r_eql rfl rfl) ?_
  refine l_val rfl rfl rfl (r_move (v := .bool (decide (t6.2 = 0))) rfl) ?_
  refine split (fun hb => ?_) (fun hb => ?_)
  · have H5 := cnd_t hb H4; clear H4
    refine l_val rfl rfl rfl (r_move (v := str t6.1) rfl) ?_
    refine l_val rfl rfl rfl (r_eqlT rfl rfl) ?_
    refine l_val rfl rfl rfl (r_pickT (v := .bool (decide (t6.1 = [105, 110, 118, 101, 114, 116, 10]))) rfl rfl) ?_
    refine l_val rfl rfl rfl (r_assign (v := .bool (decide (t6.1 = [105, 110, 118, 101, 114, 116, 10]))) rfl) ?_
    refine l_nil ?_
    refine c_ret ?_
    obtain rfl := Option.some.inj H5
    refine ret1 (v := .bool (decide (t6.1 = [105, 110, 118, 101, 114, 116, 10]))) rfl rfl (fin rfl)
  · have H6 := cnd_f hb H4; clear H4
    refine l_passed rfl rfl rfl ?_
    refine l_passed rfl rfl rfl ?_
    refine l_val rfl rfl rfl (r_pickF (v := .bool false) rfl rfl) ?_
    refine l_val rfl rfl rfl (r_assign (v := .bool false) rfl) ?_
    refine l_nil ?_
    refine c_ret ?_
    obtain rfl := Option.some.inj H6
    refine ret1 (v := .bool false) rfl rfl (fin rfl)
theorem k56 {a : Option Addr} {n c : Nat} (hc : n ≤ c) : Ret Tryd.prog 56 [.slice a n c] (.slice (cutA a 0 n 5) n n) := by
  refine enterRet (n := 9) Tryd.func56 rfl rfl rfl (fun wd => ?_)
  refine c_seq ?_
  refine c_region ?_
  refine l_val rfl rfl rfl (r_assign (v := .slice none 0 0) rfl) ?_
  refine l_nil ?_
  refine c_seq ?_
  refine c_region ?_
  refine l_val rfl rfl rfl (r_move (v := .slice a n c) rfl) ?_
  refine l_val rfl rfl rfl (r_move (v := .slice a n c) rfl) ?_
  refine l_val rfl rfl rfl (r_len Tryd.underlying22 rfl) ?_
  refine l_val rfl rfl rfl (r_move (v := .slice a n c) rfl) ?_
  refine l_val rfl rfl rfl (r_len Tryd.underlying22 rfl) ?_
  refine l_val rfl rfl rfl (r_sliceHM (a := a) (m := n) (c := c) (h := (n : Int)) (q := (n : Int)) Tryd.underlying22 Tryd.sizeOf35 rfl rfl rfl (Int.natCast_nonneg n) (Int.le_refl _) (Int.ofNat_le.2 hc)) ?_
  refine l_val rfl rfl rfl (r_assign (v := .slice (cutA a 0 n 5) n n) rfl) ?_
  refine l_nil ?_
  refine c_ret ?_
  exact ret1 (v := .slice (cutA a 0 n 5) n n) rfl rfl (fin rfl)

theorem k65 {a0 : (List T_edit_Step)} {v0 : Value} {r : (List T_edit_Step)} {w : World} {h : Heap} (hw : Know h w noS) (f0 : FrS h 5 v0 (a0.map e_edit_Step)) (H : slices_Clone_edit_Step a0 = some r) : Does Tryd.prog 65 (List.toArray [v0]) w (fun v w' => ∃ x : (Option Addr × Nat), v = (.slice x.1 r.length x.2) ∧ Turn w w' noS (rowV 35 5 (.slice x.1 r.length x.2) r.length (r.map e_edit_Step))) := by
  refine enter (n := 8) Tryd.func65 rfl rfl rfl noS [] (Sat.nil _ _) ?_
  refine c_seq ?_
  refine c_region ?_
  refine l_val rfl rfl rfl (r_assign (v := .slice none 0 0) rfl) ?_
  refine l_nil ?_
  refine c_seq ?_
  refine c_seq ?_
  refine c_region ?_
  refine l_val rfl rfl rfl (r_move (v := v0) rfl) ?_
  refine l_val rfl rfl rfl (r_eqlNilS Tryd.underlying22 f0 rfl rfl) ?_
  refine l_nil ?_
  refine c_if (b := isNilV v0) rfl (fun hb => ?_) (fun hb => ?_)
  · have hn_ : a0 = [] := f0.nilV hb
    have H3 : some ([] : List T_edit_Step) = some r := by have h_ := H; rw [hn_] at h_; exact h_
    refine c_seq ?_
    refine c_region ?_
    refine l_val rfl rfl rfl (r_assign (v := .slice none 0 0) rfl) ?_
    refine l_nil ?_
    refine c_ret ?_
    refine c_nilRow 35 5 ?_
    obtain rfl := Option.some.inj H3
    refine ret1 (v := .slice ((none, 0) : Option Addr × Nat).1 ([] : List T_edit_Step).length ((none, 0) : Option Addr × Nat).2) rfl rfl (finX ((none, 0) : Option Addr × Nat) (i := 0) rfl rfl (Imp.refl _))
  · skip
    refine c_skip ?_
    refine c_seq ?_
    refine c_region ?_
    refine l_buildSlice (vs := []) (cs := []) Tryd.underlying22 Tryd.sizeOf35 Tryd.zeroValue35 rfl rfl rfl rfl rfl rfl rfl (fun b1 => ?_)
    refine l_val rfl rfl rfl (r_move (v := v0) rfl) ?_
    refine c_imp 0 rfl (imp_box (m := 0) (E := 35) (sz := 5) (xs := (([] : List T_edit_Step)).map e_edit_Step) rfl rfl rfl ⟨rfl, by decide⟩) ?_
    obtain ⟨l7, h_l7, H4⟩ := bnd_some H; clear H
    refine l_turn (turns_appG (i := 0) (hn := rfl) (rds := []) (p := ((some ⟨b1, 0, none⟩, 0) : Option Addr × Nat)) (sz := 5) (by_ := 40) (f := e_edit_Step) (ys := ([] : List T_edit_Step)) (ls := a0) (V := v0) Tryd.underlying22 (info_of Tryd.typeInfo35) rfl rfl rfl rfl rfl rfl rfl rfl f0.eq (List.length_map _) (fun w L' hF hS hi => (f0).row (hw.now hF)) (fun _ => rfl) (fun _ => rfl) h_l7) rfl rfl rfl (fun p => ?_)
    refine l_val rfl rfl rfl (r_assign (v := .slice p.1 l7.length p.2) rfl) ?_
    refine l_nil ?_
    refine c_ret ?_
    obtain rfl := Option.some.inj H4
    refine ret1 (v := .slice p.1 l7.length p.2) rfl rfl (finX p (i := 0) rfl rfl (Imp.refl _))
theorem k24 {a0 : (List T_edit_Step)} {v0 : Value} {a1 : Int} {a2 : Int} {r : (List T_edit_Step) × Int} {w : World} {h : Heap} (hw : Know h w noS) (f0 : FrS h 5 v0 (a0.map e_edit_Step)) (H : edit_Tidy a0 a1 a2 = some r) : Does Tryd.prog 24 (List.toArray [v0, .int .i64 a1, .int .i64 a2]) w (fun v w' => ∃ x : (Option Addr × Nat), v = (.tuple #[.slice x.1 r.1.length x.2, .int .i64 r.2]) ∧ Turn w w' noS (roV 5 (.slice x.1 r.1.length x.2) r.1.length (r.1.map e_edit_Step))) := by
  refine enter (n := 41) Tryd.func24 rfl rfl rfl noS [] (Sat.nil _ _) ?_
  refine c_seq ?_
  refine c_region ?_
  refine l_val rfl rfl rfl (r_assign (v := .slice none 0 0) rfl) ?_
  refine l_val rfl rfl rfl (r_assign (v := .int .i64 0) rfl) ?_
  refine l_nil ?_
  refine c_seq ?_
  refine c_seq ?_
  refine c_region ?_
  refine l_val rfl rfl rfl (r_move (v := v0) rfl) ?_
  obtain ⟨t14, h_t14, H25⟩ := bnd_some H; clear H
  refine l_callG (fun w hF hS => k69 (know_all w) (f0.mono (hw.now hF)) h_t14) Tryd.call69 rfl rfl rfl ?_
  refine l_val rfl rfl rfl (r_assign (v := .int .i64 t14) rfl) ?_
  refine l_nil ?_
  refine c_seq ?_
  refine c_region ?_
  refine l_val rfl rfl rfl (r_move (v := .int .i64 t14) rfl) ?_
  refine l_val rfl rfl rfl (r_neq rfl rfl) ?_
  refine l_nil ?_
  refine c_if (b := (decide (t14 ≠ 0))) rfl (fun hb => ?_) (fun hb => ?_)
  · have H26 := cnd_t hb H25; clear H25
    refine c_seq ?_
    refine c_region ?_
    refine l_val rfl rfl rfl (r_move (v := .int .i64 t14) rfl) ?_
    refine l_val rfl rfl rfl (r_assign (v := .slice none 0 0) rfl) ?_
    refine l_val rfl rfl rfl (r_assign (v := .int .i64 t14) rfl) ?_
    refine l_nil ?_
    refine c_ret ?_
    refine c_nilRow 35 5 ?_
    obtain rfl := Option.some.inj H26
    refine c_imp 0 rfl (row_ro _ _ _ _ _) ?_
    refine ret2 (v1 := .slice ((none, 0) : Option Addr × Nat).1 ([] : List T_edit_Step).length ((none, 0) : Option Addr × Nat).2) (v2 := .int .i64 t14) rfl rfl rfl (finX ((none, 0) : Option Addr × Nat) (i := 0) rfl rfl (Imp.refl _))
  · have H27 := cnd_f hb H25; clear H25
    refine c_skip ?_
    refine c_seq ?_
    refine c_seq ?_
    refine c_region ?_
    refine l_val rfl rfl rfl (r_move (v := v0) rfl) ?_
    refine l_val rfl rfl rfl (r_move (v := .int .i64 a1) rfl) ?_
    refine l_val rfl rfl rfl (r_move (v := .int .i64 a2) rfl) ?_
    obtain ⟨t22, h_t22, H28⟩ := bnd_some H27; clear H27
    refine l_callG (fun w hF hS => k71 (know_all w) (f0.mono (hw.now hF)) h_t22) Tryd.call71 rfl rfl rfl ?_
    refine l_val rfl rfl rfl (r_move (v := .tuple #[.int .i64 t22.1, .int .i64 t22.2.1, .int .i64 t22.2.2]) rfl) ?_
    refine l_val rfl rfl rfl (r_extract (v := .int .i64 t22.1) rfl rfl) ?_
    refine l_val rfl rfl rfl (r_extract (v := .int .i64 t22.2.1) rfl rfl) ?_
    refine l_val rfl rfl rfl (r_extract (v := .int .i64 t22.2.2) rfl rfl) ?_
    refine l_val rfl rfl rfl (r_assign (v := .int .i64 t22.1) rfl) ?_
    refine l_val rfl rfl rfl (r_assign (v := .int .i64 t22.2.1) rfl) ?_
    refine l_val rfl rfl rfl (r_assign (v := .int .i64 t22.2.2) rfl) ?_
    refine l_nil ?_
    refine c_seq ?_
    refine c_region ?_
    refine l_val rfl rfl rfl (r_move (v := .int .i64 t22.2.2) rfl) ?_
    refine l_val rfl rfl rfl (r_neq rfl rfl) ?_
    refine l_nil ?_
    refine c_if (b := (decide (t22.2.2 ≠ 0))) rfl (fun hb => ?_) (fun hb => ?_)
    · have H29 := cnd_t hb H28; clear H28
      refine c_seq ?_
      refine c_region ?_
      refine l_val rfl rfl rfl (r_move (v := .int .i64 t22.2.2) rfl) ?_
      refine l_val rfl rfl rfl (r_assign (v := .slice none 0 0) rfl) ?_
      refine l_val rfl rfl rfl (r_assign (v := .int .i64 t22.2.2) rfl) ?_
      refine l_nil ?_
      refine c_ret ?_
      refine c_nilRow 35 5 ?_
      obtain rfl := Option.some.inj H29
      refine c_imp 0 rfl (row_ro _ _ _ _ _) ?_
      refine ret2 (v1 := .slice ((none, 0) : Option Addr × Nat).1 ([] : List T_edit_Step).length ((none, 0) : Option Addr × Nat).2) (v2 := .int .i64 t22.2.2) rfl rfl rfl (finX ((none, 0) : Option Addr × Nat) (i := 0) rfl rfl (Imp.refl _))
    · have H30 := cnd_f hb H28; clear H28
      refine c_skip ?_
      refine c_seq ?_
      refine c_region ?_
      refine l_val rfl rfl rfl (r_move (v := v0) rfl) ?_
      obtain ⟨t30, h_t30, H31⟩ := bnd_some H30; clear H30
      refine l_make (makes_call (rds := []) (G := fun x : (Option Addr × Nat) => .slice x.1 t30.length x.2) (C := fun x : (Option Addr × Nat) => rowV 35 5 (.slice x.1 t30.length x.2) t30.length (t30.map e_edit_Step)) (fun w L' hF hS hi => k65 (know_all w) (f0.mono (hw.now hF)) h_t30) Tryd.call65 rfl) rfl rfl rfl (fun p => ?_)
      refine l_val rfl rfl rfl (r_assign (v := .slice p.1 t30.length p.2) rfl) ?_
      refine l_nil ?_
      refine c_meet (r := r) (σ := (List T_edit_Step)) (τ := (Option Addr × Nat)) (fun s => edit_Tidy_j1 s) (fun s t => [(0, .slice t.1 s.length t.2)]) (fun s t => [rowV 35 5 (.slice t.1 s.length t.2) s.length (s.map e_edit_Step)]) (fun s t => True) ?_ ?_
      · refine c_seq ?_
        refine c_region ?_
        refine l_val rfl rfl rfl (r_assign (v := .bool true) rfl) ?_
        refine l_nil ?_
        refine c_block ?_
        refine c_fix (σ := Bool × (List T_edit_Step)) (τ := (Option Addr × Nat)) (fun next2 s => edit_Tidy_l2 a1 a2 next2 s.1 s.2) (fun s t => [(0, .slice t.1 s.2.length t.2), (1, .int .i64 a1), (2, .int .i64 a2), (12, .bool s.1)]) (fun s t => [rowV 35 5 (.slice t.1 s.2.length t.2) s.2.length (s.2.map e_edit_Step)]) (fun s t => True) (true, t30) p [0] H31 (by exact trivial) (by exact ⟨rfl, rfl, rfl, rfl, trivial⟩) (by decide) rfl ?_
        rintro ⟨x12_2, l_3⟩ p_3 m2 gg H33 _
        clear H31
        replace H33 : edit_Tidy_l2 a1 a2 (it (fun next2 s => edit_Tidy_l2 a1 a2 next2 s.1 s.2) m2) x12_2 l_3 = some r := H33
        generalize hn2 : it (fun next2 s => edit_Tidy_l2 a1 a2 next2 s.1 s.2) m2 = next2 at H33
        refine c_tidyF [(0, .slice p_3.1 l_3.length p_3.2), (1, .int .i64 a1), (2, .int .i64 a2), (12, .bool x12_2)] [rowV 35 5 (.slice p_3.1 l_3.length p_3.2) l_3.length (l_3.map e_edit_Step)] rfl rfl ?_
        refine c_seq ?_
        refine c_seq ?_
        refine c_region ?_
        refine l_val rfl rfl rfl (r_move (v := .bool x12_2) rfl) ?_
        refine l_nil ?_
        refine c_if (b := x12_2) rfl (fun hb => ?_) (fun hb => ?_)
        · have H34 := cnd_t hb H33; clear H33
          refine c_skip ?_
          refine c_block ?_
          refine c_region ?_
          refine l_val rfl rfl rfl (r_move (v := .slice p_3.1 l_3.length p_3.2) rfl) ?_
          refine l_val rfl rfl rfl (r_move (v := .int .i64 a1) rfl) ?_
          refine l_val rfl rfl rfl (r_move (v := .int .i64 a2) rfl) ?_
          obtain ⟨t36, h_t36, H35⟩ := bnd_some H34; clear H34
          refine l_turn (turns_callB (i := 0) (rds := []) (G := fun x : (Option Addr × Nat) => .tuple #[.slice x.1 t36.1.length x.2, .bool t36.2]) (C := fun x : (Option Addr × Nat) => rowV 35 5 (.slice x.1 t36.1.length x.2) t36.1.length (t36.1.map e_edit_Step)) rfl (fun w L' S hF hS hi hp hlt ho hA => k76 hp hlt (know_but w S) rfl h_t36) Tryd.call76 rfl) rfl rfl rfl (fun p_4 => ?_)
          refine l_val rfl rfl rfl (r_move (v := .tuple #[.slice p_4.1 t36.1.length p_4.2, .bool t36.2]) rfl) ?_
          refine l_val rfl rfl rfl (r_extract (v := .slice p_4.1 t36.1.length p_4.2) rfl rfl) ?_
          refine l_val rfl rfl rfl (r_extract (v := .bool t36.2) rfl rfl) ?_
          refine l_val rfl rfl rfl (r_assign (v := .slice p_4.1 t36.1.length p_4.2) rfl) ?_
          refine l_val rfl rfl rfl (r_assign (v := .bool t36.2) rfl) ?_
          refine l_nil ?_
          refine c_close (t36.2, t36.1) p_4 m2 [0] (by exact ⟨rfl, rfl, rfl, rfl, trivial⟩) (by decide) rfl (by exact ⟨(by subst hn2; exact H35), trivial⟩) (Nat.lt_succ_self _)
        · have H36 := cnd_f hb H33; clear H33
          refine c_exit ?_
          refine c_close l_3 p_3 0 [0] (by exact ⟨rfl, trivial⟩) (by decide) rfl (by exact ⟨H36, trivial⟩) (Nat.lt_succ_self _)
      · rintro l p_2 gg H32 _
        replace H32 : edit_Tidy_j1 l = some r := H32
        refine c_tidyF [(0, .slice p_2.1 l.length p_2.2)] [rowV 35 5 (.slice p_2.1 l.length p_2.2) l.length (l.map e_edit_Step)] rfl rfl ?_
        refine c_seq ?_
        refine c_region ?_
        refine l_val rfl rfl rfl (r_move (v := .slice p_2.1 l.length p_2.2) rfl) ?_
        refine l_callG (fun w hF hS => k56 (capOf (i := 0) hS rfl) w) Tryd.call56 rfl rfl rfl ?_
        refine l_val rfl rfl rfl (r_assign (v := .slice (cutA p_2.1 0 l.length 5) l.length l.length) rfl) ?_
        refine l_val rfl rfl rfl (r_assign (v := .int .i64 0) rfl) ?_
        refine l_nil ?_
        refine c_ret ?_
        obtain rfl := Option.some.inj H32
        refine c_imp 0 rfl (imp_clipO _ _ _ _ _ _) ?_
        refine ret2 (v1 := .slice (cutA p_2.1 0 l.length 5) l.length l.length) (v2 := .int .i64 0) rfl rfl rfl (finX (cutA p_2.1 0 l.length 5, l.length) (i := 0) rfl rfl (Imp.refl _))
theorem k77 {a0 : (List Int)} {v0 : Value} {a1 : (List Int)} {v1 : Value} {r : Bool} {w : World} {h : Heap} (hw : Know h w noS) (f0 : FrS h 1 v0 (a0.map e_u8)) (f1 : FrS h 1 v1 (a1.map e_u8)) (H : bytes_Equal a0 a1 = some r) : Does Tryd.prog 77 (List.toArray [v0, v1]) w (fun v w' => v = (.bool r) ∧ Grow w w') := by
  refine enter (n := 10) Tryd.func77 rfl rfl rfl noS [] (Sat.nil _ _) ?_
  refine c_seq ?_
  refine c_region ?_
  refine l_val rfl rfl rfl (r_assign (v := .bool false) rfl) ?_
  refine l_nil ?_
  refine c_seq ?_
  refine c_region ?_
  refine l_val rfl rfl rfl (r_move (v := v0) rfl) ?_
  refine l_read (fun w hF hS => run_bytes (f := e_u8) (xs := a0) (List.length_map _) Tryd.underlying46 Tryd.underlying5 Tryd.underlying9 f0.eq (fun _ => rfl) (f0.row (hw.now hF))) rfl rfl rfl ?_
  refine l_val rfl rfl rfl (r_move (v := v1) rfl) ?_
  refine l_read (fun w hF hS => run_bytes (f := e_u8) (xs := a1) (List.length_map _) Tryd.underlying46 Tryd.underlying5 Tryd.underlying9 f1.eq (fun _ => rfl) (f1.row (hw.now hF))) rfl rfl rfl ?_
  refine l_val rfl rfl rfl (r_eqlT rfl rfl) ?_
  refine l_val rfl rfl rfl (r_assign (v := .bool (decide ((toStr a0) = (toStr a1)))) rfl) ?_
  refine l_nil ?_
  refine c_ret ?_
  obtain rfl := Option.some.inj H
  refine ret1 (v := .bool (decide ((toStr a0) = (toStr a1)))) rfl rfl (fin rfl)
theorem k25 {a0 : T_api_Image} {v0_2 : Value} {a1 : T_api_Image} {v1_2 : Value} {r : Bool} {w : World} {h : Heap} (hw : Know h w noS) (f0_2 : FrS h 1 v0_2 (a0.Pixels.map e_u8)) (f1_2 : FrS h 1 v1_2 (a1.Pixels.map e_u8)) (H : Keep_same a0 a1 = some r) : Does Tryd.prog 25 (List.toArray [.agg #[.int .i64 a0.W, .int .i64 a0.H, v0_2], .agg #[.int .i64 a1.W, .int .i64 a1.H, v1_2]]) w (fun v w' => v = (.bool r) ∧ Grow w w') := by
  refine enter (n := 24) Tryd.func25 rfl rfl rfl noS [] (Sat.nil _ _) ?_
  refine c_seq ?_
  refine c_region ?_
  refine l_box (cs := [.int .i64 a0.W, .int .i64 a0.H, v0_2]) rfl rfl rfl rfl (fun b2 => ?_)
  refine l_box (cs := [.int .i64 a1.W, .int .i64 a1.H, v1_2]) rfl rfl rfl rfl (fun b3 => ?_)
  refine l_val rfl rfl rfl (r_assign (v := .bool false) rfl) ?_
  refine l_nil ?_
  refine c_seq ?_
  refine c_region ?_
  refine l_val rfl rfl rfl (r_field Tryd.runUnderlying48 rfl Tryd.sizeOf3 rfl rfl) ?_
  refine l_load1 (i := 0) (v := .int .i64 a0.W) Tryd.isAgg3 rfl rfl rfl rfl rfl ?_
  refine l_val rfl rfl rfl (r_field Tryd.runUnderlying48 rfl Tryd.sizeOf3 rfl rfl) ?_
  refine l_load1 (i := 1) (v := .int .i64 a1.W) Tryd.isAgg3 rfl rfl rfl rfl rfl ?_
  refine l_val rfl rfl rfl (r_eql rfl rfl) ?_
  refine l_val rfl rfl rfl (r_move (v := .bool (decide (a0.W = a1.W))) rfl) ?_
  refine split (fun hb => ?_) (fun hb => ?_)
  · have H6 := cnd_t hb H; clear H
    refine l_val rfl rfl rfl (r_field Tryd.runUnderlying48 rfl Tryd.sizeOf3 rfl rfl) ?_
    refine l_load1 (i := 0) (v := .int .i64 a0.H) Tryd.isAgg3 rfl rfl rfl rfl rfl ?_
    refine l_val rfl rfl rfl (r_field Tryd.runUnderlying48 rfl Tryd.sizeOf3 rfl rfl) ?_
    refine l_load1 (i := 1) (v := .int .i64 a1.H) Tryd.isAgg3 rfl rfl rfl rfl rfl ?_
    refine l_val rfl rfl rfl (r_eql rfl rfl) ?_
    refine l_val rfl rfl rfl (r_pickT (v := .bool (decide (a0.H = a1.H))) rfl rfl) ?_
    refine l_val rfl rfl rfl (r_move (v := .bool (decide (a0.H = a1.H))) rfl) ?_
    refine split (fun hb => ?_) (fun hb => ?_)
    · have H7 := cnd_t hb H6; clear H6
      refine l_val rfl rfl rfl (r_field Tryd.runUnderlying48 rfl Tryd.sizeOf46 rfl rfl) ?_
      refine l_load1 (i := 0) (v := v0_2) Tryd.isAgg46 rfl rfl rfl rfl rfl ?_
      refine l_val rfl rfl rfl (r_field Tryd.runUnderlying48 rfl Tryd.sizeOf46 rfl rfl) ?_
      refine l_load1 (i := 1) (v := v1_2) Tryd.isAgg46 rfl rfl rfl rfl rfl ?_
      obtain ⟨t22, h_t22, H8⟩ := bnd_some H7; clear H7
      refine l_callG (fun w hF hS => k77 (know_all w) (f0_2.mono (hw.now hF)) (f1_2.mono (hw.now hF)) h_t22) Tryd.call77 rfl rfl rfl ?_
      refine l_val rfl rfl rfl (r_pickT (v := .bool t22) rfl rfl) ?_
      refine l_val rfl rfl rfl (r_assign (v := .bool t22) rfl) ?_
      refine l_nil ?_
      refine c_ret ?_
      obtain rfl := Option.some.inj H8
      refine ret1 (v := .bool t22) rfl rfl (fin rfl)
    · have H9 := cnd_f hb H6; clear H6
      refine l_passed rfl rfl rfl ?_
      refine l_passed rfl rfl rfl ?_
      refine l_passed rfl rfl rfl ?_
      refine l_passed rfl rfl rfl ?_
      refine l_passed rfl rfl rfl ?_
      refine l_val rfl rfl rfl (r_pickF (v := .bool false) rfl rfl) ?_
      refine l_val rfl rfl rfl (r_assign (v := .bool false) rfl) ?_
      refine l_nil ?_
      refine c_ret ?_
      obtain rfl := Option.some.inj H9
      refine ret1 (v := .bool false) rfl rfl (fin rfl)
  · have H10 := cnd_f hb H; clear H
    refine l_passed rfl rfl rfl ?_
    refine l_passed rfl rfl rfl ?_
    refine l_passed rfl rfl rfl ?_
    refine l_passed rfl rfl rfl ?_
    refine l_passed rfl rfl rfl ?_
    refine l_val rfl rfl rfl (r_pickF (v := .bool false) rfl rfl) ?_
    refine l_val rfl rfl rfl (r_move (v := .bool false) rfl) ?_
    refine l_passed rfl rfl rfl ?_
    refine l_passed rfl rfl rfl ?_
    refine l_passed rfl rfl rfl ?_
    refine l_passed rfl rfl rfl ?_
    refine l_passed rfl rfl rfl ?_
    refine l_val rfl rfl rfl (r_pickF (v := .bool false) rfl rfl) ?_
    refine l_val rfl rfl rfl (r_assign (v := .bool false) rfl) ?_
    refine l_nil ?_
    refine c_ret ?_
    obtain rfl := Option.some.inj H10
    refine ret1 (v := .bool false) rfl rfl (fin rfl)
theorem k62 {a0 : (List T_edit_Step)} {v0 : Value} {a1 : (List T_edit_Step)} {v1 : Value} {r : Bool} {w : World} {h : Heap} (hw : Know h w noS) (f0 : FrS h 5 v0 (a0.map e_edit_Step)) (f1 : FrS h 5 v1 (a1.map e_edit_Step)) (H : slices_Equal_edit_Step a0 a1 = some r) : Does Tryd.prog 62 (List.toArray [v0, v1]) w (fun v w' => v = (.bool r) ∧ Grow w w') := by
  refine enter (n := 26) Tryd.func62 rfl rfl rfl noS [] (Sat.nil _ _) ?_
  refine c_seq ?_
  refine c_region ?_
  refine l_val rfl rfl rfl (r_assign (v := .bool false) rfl) ?_
  refine l_nil ?_
  refine c_seq ?_
  refine c_seq ?_
  refine c_region ?_
  refine l_val rfl rfl rfl (r_move (v := v0) rfl) ?_
  refine l_val rfl rfl rfl (r_lenF Tryd.underlying22 rfl f0 rfl) ?_
  refine l_val rfl rfl rfl (r_move (v := v1) rfl) ?_
  refine l_val rfl rfl rfl (r_lenF Tryd.underlying22 rfl f1 rfl) ?_
  refine l_val rfl rfl rfl (r_neq rfl rfl) ?_
  refine l_nil ?_
  refine c_if (b := (decide ((a0.length : Int) ≠ (a1.length : Int)))) rfl (fun hb => ?_) (fun hb => ?_)
  · have H11 := cnd_t hb H; clear H
    refine c_seq ?_
    refine c_region ?_
    refine l_val rfl rfl rfl (r_assign (v := .bool false) rfl) ?_
    refine l_nil ?_
    refine c_ret ?_
    obtain rfl := Option.some.inj H11
    refine ret1 (v := .bool false) rfl rfl (fin rfl)
  · have H12 := cnd_f hb H; clear H
    refine c_skip ?_
    refine c_seq ?_
    refine c_seq ?_
    refine c_region ?_
    refine l_val rfl rfl rfl (r_move (v := v0) rfl) ?_
    refine l_val rfl rfl rfl (r_lenF Tryd.underlying22 rfl f0 rfl) ?_
    refine l_val rfl rfl rfl (r_move (v := .int .i64 0) rfl) ?_
    refine l_nil ?_
    refine c_block ?_
    refine c_fix (σ := Int) (τ := Unit) (fun next1 s => slices_Equal_edit_Step_l1 a0 a1 next1 s) (fun s t => [(0, v0), (1, v1), (12, .int .i64 (a0.length : Int)), (13, .int .i64 s)]) (fun s t => []) (fun s t => True) 0 () [] H12 (by exact trivial) (by exact ⟨rfl, rfl, rfl, rfl, trivial⟩) (by decide) rfl ?_
    rintro x13_2 _ m1 gg H13 _
    clear H12
    replace H13 : slices_Equal_edit_Step_l1 a0 a1 (it (fun next1 s => slices_Equal_edit_Step_l1 a0 a1 next1 s) m1) x13_2 = some r := H13
    generalize hn1 : it (fun next1 s => slices_Equal_edit_Step_l1 a0 a1 next1 s) m1 = next1 at H13
    refine c_tidyF [(0, v0), (1, v1), (12, .int .i64 (a0.length : Int)), (13, .int .i64 x13_2)] [] rfl rfl ?_
    refine c_seq ?_
    refine c_region ?_
    refine l_val rfl rfl rfl (r_lss rfl rfl) ?_
    refine l_nil ?_
    refine c_seq ?_
    refine c_if (b := (decide (x13_2 < (a0.length : Int)))) rfl (fun hb => ?_) (fun hb => ?_)
    · have H14 := cnd_t hb H13; clear H13
      refine c_skip ?_
      refine c_seq ?_
      refine c_block ?_
      refine c_seq ?_
      refine c_region ?_
      refine l_val rfl rfl rfl (r_move (v := .int .i64 x13_2) rfl) ?_
      refine l_val rfl rfl rfl (r_assign (v := .int .i64 x13_2) rfl) ?_
      refine l_nil ?_
      refine c_seq ?_
      exact c_regionD (Kd.p :: Kd.p :: Kd.p :: Kd.d [] _ :: Kd.p :: Kd.p :: Kd.p :: Kd.d [] _ :: Kd.p :: []) 0 mixed (by
        refine d_val rfl rfl (r_move (v := v0) rfl) ?_
        refine d_val rfl rfl (r_move (v := .int .i64 x13_2) rfl) ?_
        have h_t18 := bnd_val H14
        have H15 := bnd_rest H14
        refine d_val rfl rfl (r_indexF Tryd.underlying22 Tryd.sizeOf35 rfl rfl f0 h_t18) ?_
        refine d_read (fun w hF => run_loadGN (f := e_edit_Step) (i := x13_2) (sz := 5) (j := 0) (vs := [.int .i64 (val (gAt a0 x13_2)).Kind, .int .i64 (val (gAt a0 x13_2)).A, .int .i64 (val (gAt a0 x13_2)).B, .int .i64 (val (gAt a0 x13_2)).C, .int .i64 (val (gAt a0 x13_2)).D]) Tryd.isAgg35 Tryd.sizeOf35 rfl rfl (f0.row (hw.now hF)) h_t18 rfl) rfl rfl ?_
        refine d_val rfl rfl (r_move (v := v1) rfl) ?_
        refine d_val rfl rfl (r_move (v := .int .i64 x13_2) rfl) ?_
        have h_t22 := bnd_val H15
        have H16 := bnd_rest H15
        refine d_val rfl rfl (r_indexF Tryd.underlying22 Tryd.sizeOf35 rfl rfl f1 h_t22) ?_
        refine d_read (fun w hF => run_loadGN (f := e_edit_Step) (i := x13_2) (sz := 5) (j := 0) (vs := [.int .i64 (val (gAt a1 x13_2)).Kind, .int .i64 (val (gAt a1 x13_2)).A, .int .i64 (val (gAt a1 x13_2)).B, .int .i64 (val (gAt a1 x13_2)).C, .int .i64 (val (gAt a1 x13_2)).D]) Tryd.isAgg35 Tryd.sizeOf35 rfl rfl (f1.row (hw.now hF)) h_t22 rfl) rfl rfl ?_
        refine d_val rfl rfl (r_neqA (xs := #[.int .i64 (val (gAt a0 x13_2)).Kind, .int .i64 (val (gAt a0 x13_2)).A, .int .i64 (val (gAt a0 x13_2)).B, .int .i64 (val (gAt a0 x13_2)).C, .int .i64 (val (gAt a0 x13_2)).D]) (ys := #[.int .i64 (val (gAt a1 x13_2)).Kind, .int .i64 (val (gAt a1 x13_2)).A, .int .i64 (val (gAt a1 x13_2)).B, .int .i64 (val (gAt a1 x13_2)).C, .int .i64 (val (gAt a1 x13_2)).D]) Tryd.eqGuardType35 (fun w => run_eq_edit_Step w (val (gAt a0 x13_2)) (val (gAt a1 x13_2))) rfl rfl) ?_
        refine d_nil ?_
        refine c_if (b := (!(eq_edit_Step (val (gAt a0 x13_2)) (val (gAt a1 x13_2))))) rfl (fun hb => ?_) (fun hb => ?_)
        · have H17 := cnd_t hb H16; clear H16
          refine c_seq ?_
          refine c_region ?_
          refine l_val rfl rfl rfl (r_assign (v := .bool false) rfl) ?_
          refine l_nil ?_
          refine c_ret ?_
          obtain rfl := Option.some.inj H17
          refine ret1 (v := .bool false) rfl rfl (fin rfl)
        · have H18 := cnd_f hb H16; clear H16
          refine c_skip ?_
          refine c_region ?_
          obtain ⟨t25, h_t25, H19⟩ := bnd_some H18; clear H18
          refine l_val rfl rfl rfl (r_addG rfl rfl h_t25) ?_
          refine l_val rfl rfl rfl (r_move (v := .int .i64 t25) rfl) ?_
          refine l_nil ?_
          refine c_close t25 () m1 [] (by exact ⟨rfl, rfl, rfl, rfl, trivial⟩) (by decide) rfl (by exact ⟨(by subst hn1; exact H19), trivial⟩) (Nat.lt_succ_self _)
        ) (by kernel_rfl)
    · have H20 := cnd_f hb H13; clear H13
      refine c_exit ?_
      refine c_seq ?_
      refine c_region ?_
      refine l_val rfl rfl rfl (r_assign (v := .bool true) rfl) ?_
      refine l_nil ?_
      refine c_ret ?_
      obtain rfl := Option.some.inj H20
      refine ret1 (v := .bool true) rfl rfl (fin rfl)
theorem k26 {a0 : (List T_edit_Step)} {v0 : Value} {a1 : (List T_edit_Step)} {v1 : Value} {r : Bool} {w : World} {h : Heap} (hw : Know h w noS) (f0 : FrS h 5 v0 (a0.map e_edit_Step)) (f1 : FrS h 5 v1 (a1.map e_edit_Step)) (H : edit_Same a0 a1 = some r) : Does Tryd.prog 26 (List.toArray [v0, v1]) w (fun v w' => v = (.bool r) ∧ Grow w w') := by
  refine enter (n := 8) Tryd.func26 rfl rfl rfl noS [] (Sat.nil _ _) ?_
  refine c_seq ?_
  refine c_region ?_
  refine l_val rfl rfl rfl (r_assign (v := .bool false) rfl) ?_
  refine l_nil ?_
  refine c_seq ?_
  refine c_region ?_
  refine l_val rfl rfl rfl (r_move (v := v0) rfl) ?_
  refine l_val rfl rfl rfl (r_move (v := v1) rfl) ?_
  obtain ⟨t7, h_t7, H2⟩ := bnd_some H; clear H
  refine l_callG (fun w hF hS => k62 (know_all w) (f0.mono (hw.now hF)) (f1.mono (hw.now hF)) h_t7) Tryd.call62 rfl rfl rfl ?_
  refine l_val rfl rfl rfl (r_assign (v := .bool t7) rfl) ?_
  refine l_nil ?_
  refine c_ret ?_
  obtain rfl := Option.some.inj H2
  refine ret1 (v := .bool t7) rfl rfl (fin rfl)
theorem k78 {a0 : (List T_edit_Step)} {v0 : Value} {a1 : (T_edit_Step → Option (Bool))} {v1 : Value} {r : Int} {w : World} {h : Heap} (hw : Know h w noS) (f0 : FrS h 5 v0 (a0.map e_edit_Step)) (f1 : FnH Tryd.prog h v1 (fnR_func_edit_Step_bool a1)) (H : slices_IndexFunc_edit_Step a0 a1 = some r) : Does Tryd.prog 78 (List.toArray [v0, v1]) w (fun v w' => v = (.int .i64 r) ∧ Grow w w') := by
  refine enter (n := 19) Tryd.func78 rfl rfl rfl noS [] (Sat.nil _ _) ?_
  refine c_seq ?_
  refine c_region ?_
  refine l_val rfl rfl rfl (r_assign (v := .int .i64 0) rfl) ?_
  refine l_nil ?_
  refine c_seq ?_
  refine c_seq ?_
  refine c_region ?_
  refine l_val rfl rfl rfl (r_move (v := v0) rfl) ?_
  refine l_val rfl rfl rfl (r_lenF Tryd.underlying22 rfl f0 rfl) ?_
  refine l_val rfl rfl rfl (r_move (v := .int .i64 0) rfl) ?_
  refine l_nil ?_
  refine c_block ?_
  refine c_fix (σ := Int) (τ := Unit) (fun next1 s => slices_IndexFunc_edit_Step_l1 a0 a1 next1 s) (fun s t => [(0, v0), (1, v1), (7, .int .i64 (a0.length : Int)), (8, .int .i64 s)]) (fun s t => []) (fun s t => True) 0 () [] H (by exact trivial) (by exact ⟨rfl, rfl, rfl, rfl, trivial⟩) (by decide) rfl ?_
  rintro x8_2 _ m1 gg H9 _
  clear H
  replace H9 : slices_IndexFunc_edit_Step_l1 a0 a1 (it (fun next1 s => slices_IndexFunc_edit_Step_l1 a0 a1 next1 s) m1) x8_2 = some r := H9
  generalize hn1 : it (fun next1 s => slices_IndexFunc_edit_Step_l1 a0 a1 next1 s) m1 = next1 at H9
  refine c_tidyF [(0, v0), (1, v1), (7, .int .i64 (a0.length : Int)), (8, .int .i64 x8_2)] [] rfl rfl ?_
  refine c_seq ?_
  refine c_region ?_
  refine l_val rfl rfl rfl (r_lss rfl rfl) ?_
  refine l_nil ?_
  refine c_seq ?_
  refine c_if (b := (decide (x8_2 < (a0.length : Int)))) rfl (fun hb => ?_) (fun hb => ?_)
  · have H10 := cnd_t hb H9; clear H9
    refine c_skip ?_
    refine c_seq ?_
    refine c_block ?_
    refine c_seq ?_
    refine c_region ?_
    refine l_val rfl rfl rfl (r_move (v := .int .i64 x8_2) rfl) ?_
    refine l_val rfl rfl rfl (r_assign (v := .int .i64 x8_2) rfl) ?_
    refine l_nil ?_
    refine c_seq ?_
    refine c_region ?_
    refine l_val rfl rfl rfl (r_move (v := v1) rfl) ?_
    refine l_val rfl rfl rfl (r_move (v := v0) rfl) ?_
    refine l_val rfl rfl rfl (r_move (v := .int .i64 x8_2) rfl) ?_
    obtain ⟨t14, h_t14, H11⟩ := bnd_some H10; clear H10
    refine l_val rfl rfl rfl (r_indexF Tryd.underlying22 Tryd.sizeOf35 rfl rfl f0 h_t14) ?_
    refine l_read (fun w hF hS => run_loadGN (f := e_edit_Step) (i := x8_2) (sz := 5) (j := 0) (vs := [.int .i64 t14.Kind, .int .i64 t14.A, .int .i64 t14.B, .int .i64 t14.C, .int .i64 t14.D]) Tryd.isAgg35 Tryd.sizeOf35 rfl rfl (f0.row (hw.now hF)) h_t14 rfl) rfl rfl rfl ?_
    obtain ⟨t16, h_t16, H12⟩ := bnd_some H11; clear H11
    refine l_callV (R := fnR_func_edit_Step_bool a1) (r := .bool t16) (v := v1) (fun w hF hS => ⟨(f1.mono (hw.now hF)), ⟨t14, _, rfl, h_t16, rfl⟩⟩) rfl rfl rfl rfl ?_
    refine l_nil ?_
    refine c_if (b := t16) rfl (fun hb => ?_) (fun hb => ?_)
    · have H13 := cnd_t hb H12; clear H12
      refine c_seq ?_
      refine c_region ?_
      refine l_val rfl rfl rfl (r_move (v := .int .i64 x8_2) rfl) ?_
      refine l_val rfl rfl rfl (r_assign (v := .int .i64 x8_2) rfl) ?_
      refine l_nil ?_
      refine c_ret ?_
      obtain rfl := Option.some.inj H13
      refine ret1 (v := .int .i64 x8_2) rfl rfl (fin rfl)
    · have H14 := cnd_f hb H12; clear H12
      refine c_skip ?_
      refine c_region ?_
      obtain ⟨t18, h_t18, H15⟩ := bnd_some H14; clear H14
      refine l_val rfl rfl rfl (r_addG rfl rfl h_t18) ?_
      refine l_val rfl rfl rfl (r_move (v := .int .i64 t18) rfl) ?_
      refine l_nil ?_
      refine c_close t18 () m1 [] (by exact ⟨rfl, rfl, rfl, rfl, trivial⟩) (by decide) rfl (by exact ⟨(by subst hn1; exact H15), trivial⟩) (Nat.lt_succ_self _)
  · have H16 := cnd_f hb H9; clear H9
    refine c_exit ?_
    refine c_seq ?_
    refine c_region ?_
    refine l_val rfl rfl rfl (r_assign (v := .int .i64 (-1)) rfl) ?_
    refine l_nil ?_
    refine c_ret ?_
    obtain rfl := Option.some.inj H16
    refine ret1 (v := .int .i64 (-1)) rfl rfl (fin rfl)
theorem k27 {a0 : (List T_edit_Step)} {v0 : Value} {a1 : (T_edit_Step → Option (Bool))} {v1 : Value} {r : Bool} {w : World} {h : Heap} (hw : Know h w noS) (f0 : FrS h 5 v0 (a0.map e_edit_Step)) (f1 : FnH Tryd.prog h v1 (fnR_func_edit_Step_bool a1)) (H : slices_ContainsFunc_edit_Step a0 a1 = some r) : Does Tryd.prog 27 (List.toArray [v0, v1]) w (fun v w' => v = (.bool r) ∧ Grow w w') := by
  refine enter (n := 9) Tryd.func27 rfl rfl rfl noS [] (Sat.nil _ _) ?_
  refine c_seq ?_
  refine c_region ?_
  refine l_val rfl rfl rfl (r_assign (v := .bool false) rfl) ?_
  refine l_nil ?_
  refine c_seq ?_
  refine c_region ?_
  refine l_val rfl rfl rfl (r_move (v := v0) rfl) ?_
  refine l_val rfl rfl rfl (r_move (v := v1) rfl) ?_
  obtain ⟨t7, h_t7, H2⟩ := bnd_some H; clear H
  refine l_callG (fun w hF hS => k78 (know_all w) (f0.mono (hw.now hF)) (f1.mono (hw.now hF)) h_t7) Tryd.call78 rfl rfl rfl ?_
  refine l_val rfl rfl rfl (r_geq rfl rfl) ?_
  refine l_val rfl rfl rfl (r_assign (v := .bool (decide (0 ≤ t7))) rfl) ?_
  refine l_nil ?_
  refine c_ret ?_
  obtain rfl := Option.some.inj H2
  refine ret1 (v := .bool (decide (0 ≤ t7))) rfl rfl (fin rfl)
theorem k28 {a0 : T_edit_Step} {r : Bool} (H : Keep_EditTidiesSame_1 a0 = some r) : Ret Tryd.prog 28 [.agg #[.int .i64 a0.Kind, .int .i64 a0.A, .int .i64 a0.B, .int .i64 a0.C, .int .i64 a0.D]] (.bool r) := by
  refine enterRet (n := 6) Tryd.func28 rfl rfl rfl (fun wd => ?_)
  refine c_seq ?_
  refine c_region ?_
  refine l_box (cs := [.int .i64 a0.Kind, .int .i64 a0.A, .int .i64 a0.B, .int .i64 a0.C, .int .i64 a0.D]) rfl rfl rfl rfl (fun b1 => ?_)
  refine l_val rfl rfl rfl (r_assign (v := .bool false) rfl) ?_
  refine l_nil ?_
  refine c_seq ?_
  refine c_region ?_
  refine l_val rfl rfl rfl (r_field Tryd.runUnderlying35 rfl Tryd.sizeOf3 rfl rfl) ?_
  refine l_load1 (i := 0) (v := .int .i64 a0.Kind) Tryd.isAgg3 rfl rfl rfl rfl rfl ?_
  refine l_val rfl rfl rfl (r_eql rfl rfl) ?_
  refine l_val rfl rfl rfl (r_assign (v := .bool (decide (a0.Kind = 3))) rfl) ?_
  refine l_nil ?_
  refine c_ret ?_
  obtain rfl := Option.some.inj H
  refine ret1 (v := .bool (decide (a0.Kind = 3))) rfl rfl (fin rfl)
theorem k4 {a0 : T_api_Image} {v0_2 : Value} {a1 : (List T_edit_Step)} {v1 : Value} {r : Bool} {w : World} {h : Heap} (hw : Know h w noS) (f0_2 : FrS h 1 v0_2 (a0.Pixels.map e_u8)) (f1 : FrS h 5 v1 (a1.map e_edit_Step)) (tb_pow10 : TabH Tryd.prog h "internal/strconv.uint64pow10" .u64 Lib.pow10Tab) (H : Keep_EditTidiesSame a0 a1 = some r) : Does Tryd.prog 4 (List.toArray [.agg #[.int .i64 a0.W, .int .i64 a0.H, v0_2], v1]) w (fun v w' => v = (.bool r) ∧ Grow w w') := by
  refine enter (n := 104) Tryd.func4 rfl rfl rfl noS [] (Sat.nil _ _) ?_
  refine c_seq ?_
  refine c_region ?_
  refine l_box (cs := [.int .i64 a0.W, .int .i64 a0.H, v0_2]) rfl rfl rfl rfl (fun b4 => ?_)
  refine l_val rfl rfl rfl (r_assign (v := .bool false) rfl) ?_
  refine l_nil ?_
  refine c_seq ?_
  refine c_seq ?_
  refine c_region ?_
  obtain ⟨t15, h_t15, H44⟩ := bnd_some H; clear H
  refine l_callG (fun w hF hS => k22 (know_all w) (tb_pow10.mono (hw.now hF)) h_t15) Tryd.call22 rfl rfl rfl ?_
  refine l_val rfl rfl rfl (r_not rfl) ?_
  refine l_nil ?_
  refine c_if (b := (!t15)) rfl (fun hb => ?_) (fun hb => ?_)
  · have H45 := cnd_t hb H44; clear H44
    refine c_seq ?_
    refine c_region ?_
    refine l_val rfl rfl rfl (r_assign (v := .bool false) rfl) ?_
    refine l_nil ?_
    refine c_ret ?_
    obtain rfl := Option.some.inj H45
    refine ret1 (v := .bool false) rfl rfl (fin rfl)
  · have H46 := cnd_f hb H44; clear H44
    refine c_skip ?_
    refine c_seq ?_
    refine c_region ?_
    refine l_loadN (i := 0) (vs := [.int .i64 a0.W, .int .i64 a0.H, v0_2]) Tryd.isAgg48 Tryd.sizeOf48 rfl rfl rfl rfl rfl ?_
    refine l_val rfl rfl rfl (r_move (v := v1) rfl) ?_
    obtain ⟨t20, h_t20, H47⟩ := bnd_some H46; clear H46
    refine l_make (makes_call (rds := []) (G := fun x : (Option Addr × Nat) => .tuple #[.agg #[.int .i64 t20.1.W, .int .i64 t20.1.H, .slice x.1 t20.1.Pixels.length x.2], .int .i64 t20.2]) (C := fun x : (Option Addr × Nat) => rowV 5 1 (.slice x.1 t20.1.Pixels.length x.2) t20.1.Pixels.length (t20.1.Pixels.map e_u8)) (fun w L' hF hS hi => k23 (know_all w) (f0_2.mono (hw.now hF)) (f1.mono (hw.now hF)) h_t20) Tryd.call23 rfl) rfl rfl rfl (fun p => ?_)
    refine l_val rfl rfl rfl (r_move (v := .tuple #[.agg #[.int .i64 t20.1.W, .int .i64 t20.1.H, .slice p.1 t20.1.Pixels.length p.2], .int .i64 t20.2]) rfl) ?_
    refine l_val rfl rfl rfl (r_extract (v := .agg #[.int .i64 t20.1.W, .int .i64 t20.1.H, .slice p.1 t20.1.Pixels.length p.2]) rfl rfl) ?_
    refine l_val rfl rfl rfl (r_extract (v := .int .i64 t20.2) rfl rfl) ?_
    refine l_alloc (cs := [.int .i64 0, .int .i64 0, .slice none 0 0]) Tryd.zeroValue48 rfl rfl rfl (fun b5 => ?_)
    refine l_store (i := 2) (vs := [.int .i64 t20.1.W, .int .i64 t20.1.H, .slice p.1 t20.1.Pixels.length p.2]) (cs' := [.int .i64 t20.1.W, .int .i64 t20.1.H, .slice p.1 t20.1.Pixels.length p.2]) Tryd.sizeOf48 rfl rfl rfl rfl rfl rfl rfl rfl rfl ?_
    refine l_val rfl rfl rfl (r_assign (v := .int .i64 t20.2) rfl) ?_
    refine l_nil ?_
    refine c_seq ?_
    refine c_seq ?_
    refine c_region ?_
    refine l_val rfl rfl rfl (r_move (v := .int .i64 t20.2) rfl) ?_
    refine l_val rfl rfl rfl (r_neq rfl rfl) ?_
    refine l_nil ?_
    refine c_if (b := (decide (t20.2 ≠ 0))) rfl (fun hb => ?_) (fun hb => ?_)
    · have H48 := cnd_t hb H47; clear H47
      refine c_seq ?_
      refine c_region ?_
      refine l_val rfl rfl rfl (r_assign (v := .bool true) rfl) ?_
      refine l_nil ?_
      refine c_ret ?_
      obtain rfl := Option.some.inj H48
      refine ret1 (v := .bool true) rfl rfl (fin rfl)
    · have H49 := cnd_f hb H47; clear H47
      refine c_skip ?_
      refine c_seq ?_
      refine c_region ?_
      refine l_val rfl rfl rfl (r_move (v := v1) rfl) ?_
      refine l_val rfl rfl rfl (r_field Tryd.runUnderlying48 rfl Tryd.sizeOf3 rfl rfl) ?_
      refine l_load1 (i := 0) (v := .int .i64 a0.W) Tryd.isAgg3 rfl rfl rfl rfl rfl ?_
      refine l_val rfl rfl rfl (r_field Tryd.runUnderlying48 rfl Tryd.sizeOf3 rfl rfl) ?_
      refine l_load1 (i := 0) (v := .int .i64 a0.H) Tryd.isAgg3 rfl rfl rfl rfl rfl ?_
      obtain ⟨t31, h_t31, H50⟩ := bnd_some H49; clear H49
      refine l_make (makes_call (rds := []) (G := fun x : (Option Addr × Nat) => .tuple #[.slice x.1 t31.1.length x.2, .int .i64 t31.2]) (C := fun x : (Option Addr × Nat) => roV 5 (.slice x.1 t31.1.length x.2) t31.1.length (t31.1.map e_edit_Step)) (fun w L' hF hS hi => k24 (know_all w) (f1.mono (hw.now hF)) h_t31) Tryd.call24 rfl) rfl rfl rfl (fun p_2 => ?_)
      refine l_val rfl rfl rfl (r_move (v := .tuple #[.slice p_2.1 t31.1.length p_2.2, .int .i64 t31.2]) rfl) ?_
      refine l_val rfl rfl rfl (r_extract (v := .slice p_2.1 t31.1.length p_2.2) rfl rfl) ?_
      refine l_val rfl rfl rfl (r_extract (v := .int .i64 t31.2) rfl rfl) ?_
      refine l_val rfl rfl rfl (r_assign (v := .slice p_2.1 t31.1.length p_2.2) rfl) ?_
      refine l_val rfl rfl rfl (r_assign (v := .int .i64 t31.2) rfl) ?_
      refine l_nil ?_
      refine c_seq ?_
      refine c_seq ?_
      refine c_region ?_
      refine l_val rfl rfl rfl (r_move (v := .int .i64 t31.2) rfl) ?_
      refine l_val rfl rfl rfl (r_neq rfl rfl) ?_
      refine l_val rfl rfl rfl (r_move (v := .bool (decide (t31.2 ≠ 0))) rfl) ?_
      refine split (fun hb => ?_) (fun hb => ?_)
      · have H51 := cnd_t hb H50; clear H50
        refine l_passed rfl rfl rfl ?_
        refine l_passed rfl rfl rfl ?_
        refine l_passed rfl rfl rfl ?_
        refine l_passed rfl rfl rfl ?_
        refine l_passed rfl rfl rfl ?_
        refine l_val rfl rfl rfl (r_pickT (v := .bool true) rfl rfl) ?_
        refine l_nil ?_
        refine c_true rfl ?_
        refine c_seq ?_
        refine c_region ?_
        refine l_val rfl rfl rfl (r_assign (v := .bool false) rfl) ?_
        refine l_nil ?_
        refine c_ret ?_
        obtain rfl := Option.some.inj H51
        refine ret1 (v := .bool false) rfl rfl (fin rfl)
      · have H52 := cnd_f hb H50; clear H50
        refine l_val rfl rfl rfl (r_move (v := .slice p_2.1 t31.1.length p_2.2) rfl) ?_
        refine l_val rfl rfl rfl (r_len Tryd.underlying22 rfl) ?_
        refine l_val rfl rfl rfl (r_move (v := v1) rfl) ?_
        refine l_val rfl rfl rfl (r_lenF Tryd.underlying22 rfl f1 rfl) ?_
        refine l_val rfl rfl rfl (r_gtr rfl rfl) ?_
        refine l_val rfl rfl rfl (r_pickF (v := .bool (decide ((a1.length : Int) < (t31.1.length : Int)))) rfl rfl) ?_
        refine l_nil ?_
        refine c_if (b := (decide ((a1.length : Int) < (t31.1.length : Int)))) rfl (fun hb => ?_) (fun hb => ?_)
        · have H53 := cnd_t hb H52; clear H52
          refine c_seq ?_
          refine c_region ?_
          refine l_val rfl rfl rfl (r_assign (v := .bool false) rfl) ?_
          refine l_nil ?_
          refine c_ret ?_
          obtain rfl := Option.some.inj H53
          refine ret1 (v := .bool false) rfl rfl (fin rfl)
        · have H54 := cnd_f hb H52; clear H52
          refine c_skip ?_
          refine c_seq ?_
          refine c_region ?_
          refine l_loadN (i := 0) (vs := [.int .i64 a0.W, .int .i64 a0.H, v0_2]) Tryd.isAgg48 Tryd.sizeOf48 rfl rfl rfl rfl rfl ?_
          refine l_val rfl rfl rfl (r_move (v := .slice p_2.1 t31.1.length p_2.2) rfl) ?_
          obtain ⟨t46, h_t46, H55⟩ := bnd_some H54; clear H54
          refine l_make (makes_call (rds := [3]) (G := fun x : (Option Addr × Nat) => .tuple #[.agg #[.int .i64 t46.1.W, .int .i64 t46.1.H, .slice x.1 t46.1.Pixels.length x.2], .int .i64 t46.2]) (C := fun x : (Option Addr × Nat) => rowV 5 1 (.slice x.1 t46.1.Pixels.length x.2) t46.1.Pixels.length (t46.1.Pixels.map e_u8)) (fun w L' hF hS hi => k23 (know_all w) (f0_2.mono (hw.now hF)) (frs_rd (i := 3) hS ((hi 3 (by simp)).trans rfl)) h_t46) Tryd.call23 rfl) rfl rfl rfl (fun p_3 => ?_)
          refine l_val rfl rfl rfl (r_move (v := .tuple #[.agg #[.int .i64 t46.1.W, .int .i64 t46.1.H, .slice p_3.1 t46.1.Pixels.length p_3.2], .int .i64 t46.2]) rfl) ?_
          refine l_val rfl rfl rfl (r_extract (v := .agg #[.int .i64 t46.1.W, .int .i64 t46.1.H, .slice p_3.1 t46.1.Pixels.length p_3.2]) rfl rfl) ?_
          refine l_val rfl rfl rfl (r_extract (v := .int .i64 t46.2) rfl rfl) ?_
          refine l_alloc (cs := [.int .i64 0, .int .i64 0, .slice none 0 0]) Tryd.zeroValue48 rfl rfl rfl (fun b6 => ?_)
          refine l_store (i := 5) (vs := [.int .i64 t46.1.W, .int .i64 t46.1.H, .slice p_3.1 t46.1.Pixels.length p_3.2]) (cs' := [.int .i64 t46.1.W, .int .i64 t46.1.H, .slice p_3.1 t46.1.Pixels.length p_3.2]) Tryd.sizeOf48 rfl rfl rfl rfl rfl rfl rfl rfl rfl ?_
          refine l_val rfl rfl rfl (r_assign (v := .int .i64 t46.2) rfl) ?_
          refine l_nil ?_
          refine c_seq ?_
          refine c_region ?_
          refine l_val rfl rfl rfl (r_move (v := .slice p_2.1 t31.1.length p_2.2) rfl) ?_
          refine l_val rfl rfl rfl (r_field Tryd.runUnderlying48 rfl Tryd.sizeOf3 rfl rfl) ?_
          refine l_load1 (i := 0) (v := .int .i64 a0.W) Tryd.isAgg3 rfl rfl rfl rfl rfl ?_
          refine l_val rfl rfl rfl (r_field Tryd.runUnderlying48 rfl Tryd.sizeOf3 rfl rfl) ?_
          refine l_load1 (i := 0) (v := .int .i64 a0.H) Tryd.isAgg3 rfl rfl rfl rfl rfl ?_
          obtain ⟨t55, h_t55, H56⟩ := bnd_some H55; clear H55
          refine l_make (makes_call (rds := [3]) (G := fun x : (Option Addr × Nat) => .tuple #[.slice x.1 t55.1.length x.2, .int .i64 t55.2]) (C := fun x : (Option Addr × Nat) => roV 5 (.slice x.1 t55.1.length x.2) t55.1.length (t55.1.map e_edit_Step)) (fun w L' hF hS hi => k24 (know_all w) (frs_rd (i := 3) hS ((hi 3 (by simp)).trans rfl)) h_t55) Tryd.call24 rfl) rfl rfl rfl (fun p_4 => ?_)
          refine l_val rfl rfl rfl (r_move (v := .tuple #[.slice p_4.1 t55.1.length p_4.2, .int .i64 t55.2]) rfl) ?_
          refine l_val rfl rfl rfl (r_extract (v := .slice p_4.1 t55.1.length p_4.2) rfl rfl) ?_
          refine l_val rfl rfl rfl (r_extract (v := .int .i64 t55.2) rfl rfl) ?_
          refine l_val rfl rfl rfl (r_assign (v := .slice p_4.1 t55.1.length p_4.2) rfl) ?_
          refine l_val rfl rfl rfl (r_assign (v := .int .i64 t55.2) rfl) ?_
          refine l_nil ?_
          refine c_seq ?_
          refine c_seq ?_
          refine c_region ?_
          refine l_val rfl rfl rfl (r_move (v := .int .i64 t46.2) rfl) ?_
          refine l_val rfl rfl rfl (r_neq rfl rfl) ?_
          refine l_val rfl rfl rfl (r_move (v := .bool (decide (t46.2 ≠ 0))) rfl) ?_
          refine split (fun hb => ?_) (fun hb => ?_)
          · have H57 := cnd_t hb H56; clear H56
            refine l_passed rfl rfl rfl ?_
            refine l_passed rfl rfl rfl ?_
            refine l_val rfl rfl rfl (r_pickT (v := .bool true) rfl rfl) ?_
            refine l_val rfl rfl rfl (r_move (v := .bool true) rfl) ?_
            refine l_passed rfl rfl rfl ?_
            refine l_passed rfl rfl rfl ?_
            refine l_passed rfl rfl rfl ?_
            refine l_passed rfl rfl rfl ?_
            refine l_val rfl rfl rfl (r_pickT (v := .bool true) rfl rfl) ?_
            refine l_val rfl rfl rfl (r_move (v := .bool true) rfl) ?_
            refine l_passed rfl rfl rfl ?_
            refine l_passed rfl rfl rfl ?_
            refine l_passed rfl rfl rfl ?_
            refine l_passed rfl rfl rfl ?_
            refine l_val rfl rfl rfl (r_pickT (v := .bool true) rfl rfl) ?_
            refine l_nil ?_
            refine c_true rfl ?_
            refine c_seq ?_
            refine c_region ?_
            refine l_val rfl rfl rfl (r_assign (v := .bool false) rfl) ?_
            refine l_nil ?_
            refine c_ret ?_
            obtain rfl := Option.some.inj H57
            refine ret1 (v := .bool false) rfl rfl (fin rfl)
          · have H58 := cnd_f hb H56; clear H56
            refine l_val rfl rfl rfl (r_move (v := .int .i64 t55.2) rfl) ?_
            refine l_val rfl rfl rfl (r_neq rfl rfl) ?_
            refine l_val rfl rfl rfl (r_pickF (v := .bool (decide (t55.2 ≠ 0))) rfl rfl) ?_
            refine l_val rfl rfl rfl (r_move (v := .bool (decide (t55.2 ≠ 0))) rfl) ?_
            refine split (fun hb => ?_) (fun hb => ?_)
            · have H59 := cnd_t hb H58; clear H58
              refine l_passed rfl rfl rfl ?_
              refine l_passed rfl rfl rfl ?_
              refine l_passed rfl rfl rfl ?_
              refine l_passed rfl rfl rfl ?_
              refine l_val rfl rfl rfl (r_pickT (v := .bool true) rfl rfl) ?_
              refine l_val rfl rfl rfl (r_move (v := .bool true) rfl) ?_
              refine l_passed rfl rfl rfl ?_
              refine l_passed rfl rfl rfl ?_
              refine l_passed rfl rfl rfl ?_
              refine l_passed rfl rfl rfl ?_
              refine l_val rfl rfl rfl (r_pickT (v := .bool true) rfl rfl) ?_
              refine l_nil ?_
              refine c_true rfl ?_
              refine c_seq ?_
              refine c_region ?_
              refine l_val rfl rfl rfl (r_assign (v := .bool false) rfl) ?_
              refine l_nil ?_
              refine c_ret ?_
              obtain rfl := Option.some.inj H59
              refine ret1 (v := .bool false) rfl rfl (fin rfl)
            · have H60 := cnd_f hb H58; clear H58
              refine l_loadN (i := 2) (vs := [.int .i64 t20.1.W, .int .i64 t20.1.H, .slice p.1 t20.1.Pixels.length p.2]) Tryd.isAgg48 Tryd.sizeOf48 rfl rfl rfl rfl rfl ?_
              refine l_loadN (i := 5) (vs := [.int .i64 t46.1.W, .int .i64 t46.1.H, .slice p_3.1 t46.1.Pixels.length p_3.2]) Tryd.isAgg48 Tryd.sizeOf48 rfl rfl rfl rfl rfl ?_
              obtain ⟨t67, h_t67, H61⟩ := bnd_some H60; clear H60
              refine l_callG (fun w hF hS => k25 (know_all w) (frs_own (i := 1) rfl hS rfl) (frs_own (i := 4) rfl hS rfl) h_t67) Tryd.call25 rfl rfl rfl ?_
              refine l_val rfl rfl rfl (r_not rfl) ?_
              refine l_val rfl rfl rfl (r_pickF (v := .bool (!t67)) rfl rfl) ?_
              refine l_val rfl rfl rfl (r_move (v := .bool (!t67)) rfl) ?_
              refine split (fun hb => ?_) (fun hb => ?_)
              · have H62 := cnd_t hb H61; clear H61
                refine l_passed rfl rfl rfl ?_
                refine l_passed rfl rfl rfl ?_
                refine l_passed rfl rfl rfl ?_
                refine l_passed rfl rfl rfl ?_
                refine l_val rfl rfl rfl (r_pickT (v := .bool true) rfl rfl) ?_
                refine l_nil ?_
                refine c_true rfl ?_
                refine c_seq ?_
                refine c_region ?_
                refine l_val rfl rfl rfl (r_assign (v := .bool false) rfl) ?_
                refine l_nil ?_
                refine c_ret ?_
                obtain rfl := Option.some.inj H62
                refine ret1 (v := .bool false) rfl rfl (fin rfl)
              · have H63 := cnd_f hb H61; clear H61
                refine l_val rfl rfl rfl (r_move (v := .slice p_2.1 t31.1.length p_2.2) rfl) ?_
                refine l_val rfl rfl rfl (r_move (v := .slice p_4.1 t55.1.length p_4.2) rfl) ?_
                obtain ⟨t73, h_t73, H64⟩ := bnd_some H63; clear H63
                refine l_callG (fun w hF hS => k26 (know_all w) (frs_rd (i := 3) hS rfl) (frs_rd (i := 6) hS rfl) h_t73) Tryd.call26 rfl rfl rfl ?_
                refine l_val rfl rfl rfl (r_not rfl) ?_
                refine l_val rfl rfl rfl (r_pickF (v := .bool (!t73)) rfl rfl) ?_
                refine l_nil ?_
                refine c_if (b := (!t73)) rfl (fun hb => ?_) (fun hb => ?_)
                · have H65 := cnd_t hb H64; clear H64
                  refine c_seq ?_
                  refine c_region ?_
                  refine l_val rfl rfl rfl (r_assign (v := .bool false) rfl) ?_
                  refine l_nil ?_
                  refine c_ret ?_
                  obtain rfl := Option.some.inj H65
                  refine ret1 (v := .bool false) rfl rfl (fin rfl)
                · have H66 := cnd_f hb H64; clear H64
                  refine c_skip ?_
                  refine c_seq ?_
                  refine c_seq ?_
                  refine c_region ?_
                  refine l_val rfl rfl rfl (r_move (v := v1) rfl) ?_
                  obtain ⟨t77, h_t77, H67⟩ := bnd_some H66; clear H66
                  refine l_callG (fun w hF hS => k27 (know_all w) (f1.mono (hw.now hF)) (FnH.mk ⟨28, #[], #[], rfl, Tryd.call28, fun args2 post2 w2 hk2 hR2 => by obtain ⟨a0_, r_, rfl, H_, rfl⟩ := hR2; exact k28 H_ w2⟩) h_t77) Tryd.call27 rfl rfl rfl ?_
                  refine l_nil ?_
                  refine c_if (b := t77) rfl (fun hb => ?_) (fun hb => ?_)
                  · have H68 := cnd_t hb H67; clear H67
                    refine c_seq ?_
                    refine c_region ?_
                    refine l_val rfl rfl rfl (r_assign (v := .bool true) rfl) ?_
                    refine l_nil ?_
                    refine c_ret ?_
                    obtain rfl := Option.some.inj H68
                    refine ret1 (v := .bool true) rfl rfl (fin rfl)
                  · have H69 := cnd_f hb H67; clear H67
                    refine c_skip ?_
                    refine c_seq ?_
                    refine c_region ?_
                    refine l_val rfl rfl rfl (r_assign (v := .int .i64 0) rfl) ?_
                    refine l_nil ?_
                    refine c_seq ?_
                    refine c_seq ?_
                    refine c_region ?_
                    refine l_val rfl rfl rfl (r_move (v := .slice p_2.1 t31.1.length p_2.2) rfl) ?_
                    refine l_val rfl rfl rfl (r_len Tryd.underlying22 rfl) ?_
                    refine l_val rfl rfl rfl (r_move (v := .int .i64 0) rfl) ?_
                    refine l_nil ?_
                    refine c_block ?_
                    refine c_sel [3] [roV 5 (.slice p_2.1 t31.1.length p_2.2) t31.1.length (t31.1.map e_edit_Step)] rfl (by decide) ?_
                    refine c_fix (σ := Int × Int) (τ := Unit) (fun next1 s => Keep_EditTidiesSame_l1 t31 next1 s.1 s.2) (fun s t => [(11, .int .i64 s.1), (78, .slice p_2.1 t31.1.length p_2.2), (79, .int .i64 (t31.1.length : Int)), (80, .int .i64 s.2)]) (fun s t => [roV 5 (.slice p_2.1 t31.1.length p_2.2) t31.1.length (t31.1.map e_edit_Step)]) (fun s t => True) (0, 0) () [0] H69 (by exact trivial) (by exact ⟨rfl, rfl, rfl, rfl, trivial⟩) (by decide) rfl ?_
                    rintro ⟨x11_2, x80_2⟩ _ m1 gg H70 _
                    clear H69
                    replace H70 : Keep_EditTidiesSame_l1 t31 (it (fun next1 s => Keep_EditTidiesSame_l1 t31 next1 s.1 s.2) m1) x11_2 x80_2 = some r := H70
                    generalize hn1 : it (fun next1 s => Keep_EditTidiesSame_l1 t31 next1 s.1 s.2) m1 = next1 at H70
                    refine c_tidyF [(11, .int .i64 x11_2), (78, .slice p_2.1 t31.1.length p_2.2), (79, .int .i64 (t31.1.length : Int)), (80, .int .i64 x80_2)] [roV 5 (.slice p_2.1 t31.1.length p_2.2) t31.1.length (t31.1.map e_edit_Step)] rfl rfl ?_
                    refine c_seq ?_
                    refine c_region ?_
                    refine l_val rfl rfl rfl (r_lss rfl rfl) ?_
                    refine l_nil ?_
                    refine c_seq ?_
                    refine c_if (b := (decide (x80_2 < (t31.1.length : Int)))) rfl (fun hb => ?_) (fun hb => ?_)
                    · have H71 := cnd_t hb H70; clear H70
                      refine c_skip ?_
                      refine c_meet (r := r) (σ := Int × Int × Bool × Bool × Bool) (τ := Unit) (fun s => Keep_EditTidiesSame_j2 x80_2 next1 s.1 s.2.1 s.2.2.1 s.2.2.2.1 s.2.2.2.2) (fun s t => [(11, .int .i64 s.1), (78, .slice p_2.1 t31.1.length p_2.2), (79, .int .i64 (t31.1.length : Int)), (80, .int .i64 x80_2), (94, .int .i64 s.2.1), (95, .int .i64 x11_2), (96, .bool s.2.2.1), (97, .bool s.2.2.2.1), (100, .bool s.2.2.2.2)]) (fun s t => [roV 5 (.slice p_2.1 t31.1.length p_2.2) t31.1.length (t31.1.map e_edit_Step)]) (fun s t => True) ?_ ?_
                      · refine c_block ?_
                        refine c_seq ?_
                        refine c_region ?_
                        obtain ⟨t82, h_t82, H74⟩ := bnd_some H71; clear H71
                        refine l_read (fun w hF hS => run_indexO Tryd.underlying22 Tryd.sizeOf35 rfl rfl (roOf (i := 0) hS rfl) rfl h_t82) rfl rfl rfl ?_
                        refine l_read (fun w hF hS => run_loadGN (f := e_edit_Step) (i := x80_2) (sz := 5) (j := 0) (vs := [.int .i64 t82.Kind, .int .i64 t82.A, .int .i64 t82.B, .int .i64 t82.C, .int .i64 t82.D]) Tryd.isAgg35 Tryd.sizeOf35 rfl rfl (roOf (i := 0) hS rfl) h_t82 rfl) rfl rfl rfl ?_
                        refine l_alloc (cs := [.int .i64 0, .int .i64 0, .int .i64 0, .int .i64 0, .int .i64 0]) Tryd.zeroValue35 rfl rfl rfl (fun b7 => ?_)
                        refine l_store (i := 1) (vs := [.int .i64 t82.Kind, .int .i64 t82.A, .int .i64 t82.B, .int .i64 t82.C, .int .i64 t82.D]) (cs' := [.int .i64 t82.Kind, .int .i64 t82.A, .int .i64 t82.B, .int .i64 t82.C, .int .i64 t82.D]) Tryd.sizeOf35 rfl rfl rfl rfl rfl rfl rfl rfl rfl ?_
                        refine l_nil ?_
                        refine c_seq ?_
                        refine c_region ?_
                        refine l_val rfl rfl rfl (r_assign (v := .int .i64 3) rfl) ?_
                        refine l_nil ?_
                        refine c_meet (r := r) (σ := Int) (τ := Unit) (fun s => Keep_EditTidiesSame_j3 x11_2 x80_2 next1 s) (fun s t => [(11, .int .i64 x11_2), (14, .int .i64 s), (78, .slice p_2.1 t31.1.length p_2.2), (79, .int .i64 (t31.1.length : Int)), (80, .int .i64 x80_2)]) (fun s t => [roV 5 (.slice p_2.1 t31.1.length p_2.2) t31.1.length (t31.1.map e_edit_Step)]) (fun s t => True) ?_ ?_
                        · refine c_seq ?_
                          refine c_region ?_
                          refine l_val rfl rfl rfl (r_field Tryd.runUnderlying35 rfl Tryd.sizeOf3 rfl rfl) ?_
                          refine l_load1 (i := 1) (v := .int .i64 t82.Kind) Tryd.isAgg3 rfl rfl rfl rfl rfl ?_
                          refine l_val rfl rfl rfl (r_eql rfl rfl) ?_
                          refine l_nil ?_
                          refine c_if (b := (decide (t82.Kind = 1))) rfl (fun hb => ?_) (fun hb => ?_)
                          · have H82 := cnd_t hb H74; clear H74
                            refine c_region ?_
                            refine l_val rfl rfl rfl (r_assign (v := .int .i64 1) rfl) ?_
                            refine l_nil ?_
                            refine c_close 1 () 0 [0] (by exact ⟨rfl, rfl, rfl, rfl, rfl, trivial⟩) (by decide) rfl (by exact ⟨H82, trivial⟩) (Nat.lt_succ_self _)
                          · have H83 := cnd_f hb H74; clear H74
                            refine c_seq ?_
                            refine c_region ?_
                            refine l_val rfl rfl rfl (r_field Tryd.runUnderlying35 rfl Tryd.sizeOf3 rfl rfl) ?_
                            refine l_load1 (i := 1) (v := .int .i64 t82.Kind) Tryd.isAgg3 rfl rfl rfl rfl rfl ?_
                            refine l_val rfl rfl rfl (r_eql rfl rfl) ?_
                            refine l_nil ?_
                            refine c_if (b := (decide (t82.Kind = 2))) rfl (fun hb => ?_) (fun hb => ?_)
                            · have H84 := cnd_t hb H83; clear H83
                              refine c_region ?_
                              refine l_val rfl rfl rfl (r_assign (v := .int .i64 2) rfl) ?_
                              refine l_nil ?_
                              refine c_close 2 () 0 [0] (by exact ⟨rfl, rfl, rfl, rfl, rfl, trivial⟩) (by decide) rfl (by exact ⟨H84, trivial⟩) (Nat.lt_succ_self _)
                            · have H85 := cnd_f hb H83; clear H83
                              refine c_skip ?_
                              refine c_close 3 () 0 [0] (by exact ⟨rfl, rfl, rfl, rfl, rfl, trivial⟩) (by decide) rfl (by exact ⟨H85, trivial⟩) (Nat.lt_succ_self _)
                        · rintro x14 _ gg H75 _
                          replace H75 : Keep_EditTidiesSame_j3 x11_2 x80_2 next1 x14 = some r := H75
                          refine c_tidyF [(11, .int .i64 x11_2), (14, .int .i64 x14), (78, .slice p_2.1 t31.1.length p_2.2), (79, .int .i64 (t31.1.length : Int)), (80, .int .i64 x80_2)] [roV 5 (.slice p_2.1 t31.1.length p_2.2) t31.1.length (t31.1.map e_edit_Step)] rfl rfl ?_
                          refine c_seq ?_
                          refine c_seq ?_
                          refine c_region ?_
                          refine l_val rfl rfl rfl (r_move (v := .int .i64 x14) rfl) ?_
                          refine l_val rfl rfl rfl (r_move (v := .int .i64 x11_2) rfl) ?_
                          refine l_val rfl rfl rfl (r_lss rfl rfl) ?_
                          refine l_val rfl rfl rfl (r_move (v := .bool (decide (x14 < x11_2))) rfl) ?_
                          refine split (fun hb => ?_) (fun hb => ?_)
                          · have H76 := cnd_t hb H75; clear H75
                            refine l_passed rfl rfl rfl ?_
                            refine l_passed rfl rfl rfl ?_
                            refine l_passed rfl rfl rfl ?_
                            refine l_passed rfl rfl rfl ?_
                            refine l_passed rfl rfl rfl ?_
                            refine l_passed rfl rfl rfl ?_
                            refine l_passed rfl rfl rfl ?_
                            refine l_val rfl rfl rfl (r_pickT (v := .bool true) rfl rfl) ?_
                            refine l_nil ?_
                            refine c_true rfl ?_
                            refine c_seq ?_
                            refine c_region ?_
                            refine l_val rfl rfl rfl (r_assign (v := .bool false) rfl) ?_
                            refine l_nil ?_
                            refine c_ret ?_
                            obtain rfl := Option.some.inj H76
                            refine ret1 (v := .bool false) rfl rfl (fin rfl)
                          · have H77 := cnd_f hb H75; clear H75
                            refine l_val rfl rfl rfl (r_move (v := .int .i64 x14) rfl) ?_
                            refine l_val rfl rfl rfl (r_move (v := .int .i64 x11_2) rfl) ?_
                            refine l_val rfl rfl rfl (r_eql rfl rfl) ?_
                            refine l_val rfl rfl rfl (r_move (v := .bool (decide (x14 = x11_2))) rfl) ?_
                            refine split (fun hb => ?_) (fun hb => ?_)
                            · have H78 := cnd_t hb H77; clear H77
                              refine l_val rfl rfl rfl (r_move (v := .int .i64 x14) rfl) ?_
                              refine l_val rfl rfl rfl (r_lss rfl rfl) ?_
                              refine l_val rfl rfl rfl (r_pickT (v := .bool (decide (x14 < 3))) rfl rfl) ?_
                              refine l_val rfl rfl rfl (r_pickF (v := .bool (decide (x14 < 3))) rfl rfl) ?_
                              refine l_nil ?_
                              refine c_if (b := (decide (x14 < 3))) rfl (fun hb => ?_) (fun hb => ?_)
                              · have H79 := cnd_t hb H78; clear H78
                                refine c_seq ?_
                                refine c_region ?_
                                refine l_val rfl rfl rfl (r_assign (v := .bool false) rfl) ?_
                                refine l_nil ?_
                                refine c_ret ?_
                                obtain rfl := Option.some.inj H79
                                refine ret1 (v := .bool false) rfl rfl (fin rfl)
                              · have H80 := cnd_f hb H78; clear H78
                                refine c_skip ?_
                                refine c_region ?_
                                refine l_val rfl rfl rfl (r_move (v := .int .i64 x14) rfl) ?_
                                refine l_val rfl rfl rfl (r_assign (v := .int .i64 x14) rfl) ?_
                                refine l_nil ?_
                                refine c_close (x14, x14, (decide (x14 = x11_2)), true, (decide (x14 < 3))) () 0 [0] (by exact ⟨rfl, rfl, rfl, rfl, rfl, rfl, rfl, rfl, rfl, trivial⟩) (by decide) rfl (by exact ⟨H80, trivial⟩) (Nat.lt_succ_self _)
                            · have H81 := cnd_f hb H77; clear H77
                              refine l_passed rfl rfl rfl ?_
                              refine l_passed rfl rfl rfl ?_
                              refine l_val rfl rfl rfl (r_pickF (v := .bool false) rfl rfl) ?_
                              refine l_val rfl rfl rfl (r_pickF (v := .bool false) rfl rfl) ?_
                              refine l_nil ?_
                              refine c_false rfl ?_
                              refine c_skip ?_
                              refine c_region ?_
                              refine l_val rfl rfl rfl (r_move (v := .int .i64 x14) rfl) ?_
                              refine l_val rfl rfl rfl (r_assign (v := .int .i64 x14) rfl) ?_
                              refine l_nil ?_
                              refine c_close (x14, x14, (decide (x14 = x11_2)), false, false) () 0 [0] (by exact ⟨rfl, rfl, rfl, rfl, rfl, rfl, rfl, rfl, rfl, trivial⟩) (by decide) rfl (by exact ⟨H81, trivial⟩) (Nat.lt_succ_self _)
                      · rintro ⟨x11_3, x94, x96, x97, x100⟩ _ gg H72 _
                        replace H72 : Keep_EditTidiesSame_j2 x80_2 next1 x11_3 x94 x96 x97 x100 = some r := H72
                        refine c_tidyF [(11, .int .i64 x11_3), (78, .slice p_2.1 t31.1.length p_2.2), (79, .int .i64 (t31.1.length : Int)), (80, .int .i64 x80_2), (94, .int .i64 x94), (95, .int .i64 x11_2), (96, .bool x96), (97, .bool x97), (100, .bool x100)] [roV 5 (.slice p_2.1 t31.1.length p_2.2) t31.1.length (t31.1.map e_edit_Step)] rfl rfl ?_
                        refine c_region ?_
                        obtain ⟨t103, h_t103, H73⟩ := bnd_some H72; clear H72
                        refine l_val rfl rfl rfl (r_addG rfl rfl h_t103) ?_
                        refine l_val rfl rfl rfl (r_move (v := .int .i64 t103) rfl) ?_
                        refine l_nil ?_
                        refine c_close (x11_3, t103) () m1 [0] (by exact ⟨rfl, rfl, rfl, rfl, trivial⟩) (by decide) rfl (by exact ⟨(by subst hn1; exact H73), trivial⟩) (Nat.lt_succ_self _)
                    · have H86 := cnd_f hb H70; clear H70
                      refine c_exit ?_
                      refine c_seq ?_
                      refine c_region ?_
                      refine l_val rfl rfl rfl (r_assign (v := .bool true) rfl) ?_
                      refine l_nil ?_
                      refine c_ret ?_
                      obtain rfl := Option.some.inj H86
                      refine ret1 (v := .bool true) rfl rfl (fin rfl)
end Go.Proofs.YtilhbkglchppjaaDoor
