/- TagWrites, first part: the walks, printed by our generator; each follows its model. Conditions: the model yields a value. -/
import Derived.Test.YtaonhnkojkkmbaaMTw
import Derived.Test.YtaonhnkojkkmbaaProg
import Derived.Test.YtaonhnkojkkmbaaLx15
import Derived.Test.YtaonhnkojkkmbaaSrt
import Derived.Test.YtaonhnkojkkmbaaLx17
import Derived.Test.YtaonhnkojkkmbaaLx18
import Derived.Test.YtaonhnkojkkmbaaLx19
import Derived.Test.YtaonhnkojkkmbaaLx22
import Derived.Test.YtaonhnkojkkmbaaLx23
namespace Go.Proofs.Ytaonhnkojkkmbaa
open Go Go.Vc Go.Md Go.M Go.Lx
set_option maxRecDepth 100000
set_option maxHeartbeats 4000000
set_option linter.unusedVariables false

theorem mixed : Try.prog.follows .mixedOrders = true := by kernel_rfl

abbrev e_u8 (x : Int) : List Value := [.int .u8 x]
abbrev e_i64 (x : Int) : List Value := [.int .i64 x]
abbrev e_tag_Ratio (x : T_tag_Ratio) : List Value := [.int .i64 x.Num, .int .i64 x.Den]

inductive g_tag_Entry (h : Heap) : (Nat → Value) → T_tag_Entry → Prop
  | mk {c : Nat → Value} {x : T_tag_Entry} (h0 : c 0 = .int .i64 x.Tag) (h1 : c 1 = .int .i64 x.Value.Kind) (h2 : c 2 = str x.Value.Text) (h3 : FrS h 1 (c 3) (x.Value.Ints.map e_i64)) (h4 : FrS h 2 (c 4) (x.Value.Ratios.map e_tag_Ratio)) (h5 : FrS h 6 (c 5) ((List.range x.Value.Entries.length).map (elC h (c 5) 6))) (h6 : ∀ (i : Nat) (y : T_tag_Entry), x.Value.Entries[i]? = some y → g_tag_Entry h (elH h (c 5) 6 i) y) : g_tag_Entry h c x
instance : Mon g_tag_Entry := ⟨fun k c x f => by
  induction f with
  | mk h0 h1 h2 h3 h4 h5 h6 ih => exact .mk h0 h1 h2 (h3.mono k) (h4.mono k) (frsMono h5 k) (fun i y hy => by have e_ := elMonoE h5 k hy; rw [← e_]; exact ih i y hy)⟩
def gs_int (h : Heap) (c : Nat → Value) (x : (List Int)) : Prop := FrS h 1 (c 0) (x.map e_i64)
instance : Mon gs_int := ⟨fun k _ _ f => FrS.mono f k⟩
theorem cgs_int {h : Heap} {c : Nat → Value} {x : (List Int)} (_ : gs_int h c x) : (List.range 1).map c = [c 0] := rfl
def gs_tag_Ratio (h : Heap) (c : Nat → Value) (x : (List T_tag_Ratio)) : Prop := FrS h 2 (c 0) (x.map e_tag_Ratio)
instance : Mon gs_tag_Ratio := ⟨fun k _ _ f => FrS.mono f k⟩
theorem cgs_tag_Ratio {h : Heap} {c : Nat → Value} {x : (List T_tag_Ratio)} (_ : gs_tag_Ratio h c x) : (List.range 1).map c = [c 0] := rfl
def gs_tag_Entry (h : Heap) (c : Nat → Value) (x : (List T_tag_Entry)) : Prop := FrN h 6 (c 0) g_tag_Entry x
instance : Mon gs_tag_Entry := ⟨fun k _ _ f => FrN.mono f k⟩
theorem cgs_tag_Entry {h : Heap} {c : Nat → Value} {x : (List T_tag_Entry)} (_ : gs_tag_Entry h c x) : (List.range 1).map c = [c 0] := rfl
def g_tag_Value (h : Heap) (c : Nat → Value) (x : T_tag_Value) : Prop := c 0 = .int .i64 x.Kind ∧ c 1 = str x.Text ∧ gs_int h (fun j => c (2 + j)) x.Ints ∧ gs_tag_Ratio h (fun j => c (3 + j)) x.Ratios ∧ gs_tag_Entry h (fun j => c (4 + j)) x.Entries
instance : Mon g_tag_Value := ⟨fun k _ _ f => by obtain ⟨h0, h1, h2, h3, h4⟩ := f; exact ⟨h0, h1, Mon.mono k _ _ h2, Mon.mono k _ _ h3, Mon.mono k _ _ h4⟩⟩
theorem cg_tag_Value {h : Heap} {c : Nat → Value} {x : T_tag_Value} (f : g_tag_Value h c x) : (List.range 5).map c = [.int .i64 x.Kind, str x.Text, c 2, c 3, c 4] := by
  obtain ⟨h0, h1, h2, h3, h4⟩ := f
  show [c 0, c 1, c 2, c 3, c 4] = _
  simp only [h0, h1]
theorem g_tag_Value_p2 {h : Heap} {c : Nat → Value} {x : T_tag_Value} (f : g_tag_Value h c x) : gs_int h (fun j => c (2 + j)) x.Ints := by
  obtain ⟨h0, h1, h2, h3, h4⟩ := f; exact h2
theorem g_tag_Value_p3 {h : Heap} {c : Nat → Value} {x : T_tag_Value} (f : g_tag_Value h c x) : gs_tag_Ratio h (fun j => c (3 + j)) x.Ratios := by
  obtain ⟨h0, h1, h2, h3, h4⟩ := f; exact h3
theorem g_tag_Value_p4 {h : Heap} {c : Nat → Value} {x : T_tag_Value} (f : g_tag_Value h c x) : gs_tag_Entry h (fun j => c (4 + j)) x.Entries := by
  obtain ⟨h0, h1, h2, h3, h4⟩ := f; exact h4

theorem g_tag_Entry_iff {h : Heap} {c : Nat → Value} {x : T_tag_Entry} : g_tag_Entry h c x ↔ (c 0 = .int .i64 x.Tag ∧ g_tag_Value h (fun j => c (1 + j)) x.Value) :=
  ⟨fun f => by cases f with | mk h0 h1 h2 h3 h4 h5 h6 => exact ⟨h0, ⟨h1, h2, h3, h4, ⟨h5, h6⟩⟩⟩, fun ⟨h0, ⟨h1, h2, h3, h4, ⟨h5, h6⟩⟩⟩ => .mk h0 h1 h2 h3 h4 h5 h6⟩
theorem cg_tag_Entry {h : Heap} {c : Nat → Value} {x : T_tag_Entry} (f : g_tag_Entry h c x) : (List.range 6).map c = [.int .i64 x.Tag, .int .i64 x.Value.Kind, str x.Value.Text, c 3, c 4, c 5] := by
  obtain ⟨h0, h1⟩ := g_tag_Entry_iff.1 f
  have hc1 := cg_tag_Value h1
  simp only [List.range, List.range.loop, List.map_cons, List.map_nil, Nat.reduceAdd, List.cons.injEq, and_true] at hc1
  show [c 0, c 1, c 2, c 3, c 4, c 5] = _
  simp only [h0, hc1]
theorem g_tag_Entry_p1 {h : Heap} {c : Nat → Value} {x : T_tag_Entry} (f : g_tag_Entry h c x) : g_tag_Value h (fun j => c (1 + j)) x.Value := by
  obtain ⟨h0, h1⟩ := g_tag_Entry_iff.1 f; exact h1


theorem k43 {a0 : Bool} {a1 : Int} {a2 : Int} {r : (List UInt8)} (H : R_number a0 a1 a2 = some r) : Ret Try.prog 43 [.bool a0, .int .i64 a1, .int .i64 a2] (str r) := by
  refine enterRet (n := 34) Try.func43 rfl rfl rfl (fun wd => ?_)
  refine c_seq ?_
  refine c_region ?_
  refine l_val rfl rfl rfl (r_assign (v := str []) rfl) ?_
  refine l_nil ?_
  refine c_seq ?_
  refine c_region ?_
  refine l_val rfl rfl rfl (r_move (v := .int .i64 a2) rfl) ?_
  obtain ⟨t11, h_t11, H16⟩ := bnd_some H; clear H
  refine l_make (rds := []) (makes_makeG (E := 5) (sz := 1) (f := e_u8) (xs := t11) Try.underlying133 (info_of Try.typeInfo5) rfl rfl rfl rfl rfl rfl ⟨rfl, rfl⟩ h_t11) rfl rfl rfl (fun p => ?_)
  refine l_val rfl rfl rfl (r_assign (v := .slice p.1 t11.length p.2) rfl) ?_
  refine l_nil ?_
  refine c_meet (r := r) (σ := (List Int)) (τ := Unit) (fun s => R_number_j1 s) (fun s t => [(7, .slice p.1 t11.length p.2)]) (fun s t => [rowV 5 1 (.slice p.1 t11.length p.2) t11.length (s.map e_u8)]) (fun s t => t11.length = s.length) ?_ ?_
  · refine c_seq ?_
    refine c_region ?_
    refine l_val rfl rfl rfl (r_move (v := .slice p.1 t11.length p.2) rfl) ?_
    refine l_val rfl rfl rfl (r_len Try.underlying133 rfl) ?_
    refine l_val rfl rfl rfl (r_move (v := .int .i64 0) rfl) ?_
    refine l_nil ?_
    refine c_block ?_
    refine c_fix (σ := Int × (List Int)) (τ := Unit) (fun next2 s => R_number_l2 a0 a1 a2 t11 next2 s.1 s.2) (fun s t => [(0, .bool a0), (1, .int .i64 a1), (2, .int .i64 a2), (7, .slice p.1 t11.length p.2), (13, .int .i64 (t11.length : Int)), (14, .int .i64 s.1)]) (fun s t => [rowV 5 1 (.slice p.1 t11.length p.2) t11.length (s.2.map e_u8)]) (fun s t => t11.length = s.2.length) (0, t11) () [0] H16 (by exact rfl) (by exact ⟨rfl, rfl, rfl, rfl, rfl, rfl, trivial⟩) (by decide) rfl ?_
    rintro ⟨x14_2, l_3⟩ _ m2 gg H18 hl_3
    clear H16
    replace H18 : R_number_l2 a0 a1 a2 t11 (it (fun next2 s => R_number_l2 a0 a1 a2 t11 next2 s.1 s.2) m2) x14_2 l_3 = some r := H18
    generalize hn2 : it (fun next2 s => R_number_l2 a0 a1 a2 t11 next2 s.1 s.2) m2 = next2 at H18
    refine c_tidyF [(0, .bool a0), (1, .int .i64 a1), (2, .int .i64 a2), (7, .slice p.1 t11.length p.2), (13, .int .i64 (t11.length : Int)), (14, .int .i64 x14_2)] [rowV 5 1 (.slice p.1 t11.length p.2) t11.length (l_3.map e_u8)] rfl rfl ?_
    refine c_seq ?_
    refine c_region ?_
    refine l_val rfl rfl rfl (r_lss rfl rfl) ?_
    refine l_nil ?_
    refine c_seq ?_
    refine c_if (b := (decide (x14_2 < (t11.length : Int)))) rfl (fun hb => ?_) (fun hb => ?_)
    · have H19 := cnd_t hb H18; clear H18
      refine c_skip ?_
      refine c_seq ?_
      refine c_block ?_
      refine c_seq ?_
      refine c_region ?_
      refine l_val rfl rfl rfl (r_move (v := .int .i64 x14_2) rfl) ?_
      refine l_val rfl rfl rfl (r_assign (v := .int .i64 x14_2) rfl) ?_
      refine l_nil ?_
      refine c_seq ?_
      refine c_region ?_
      refine l_val rfl rfl rfl (r_move (v := .int .i64 x14_2) rfl) ?_
      refine l_val rfl rfl rfl (r_assign (v := .int .i64 x14_2) rfl) ?_
      refine l_nil ?_
      refine c_meet (r := r) (σ := Int) (τ := Unit) (fun s => R_number_j3 a1 x14_2 l_3 next2 s) (fun s t => [(0, .bool a0), (1, .int .i64 a1), (2, .int .i64 a2), (7, .slice p.1 t11.length p.2), (8, .int .i64 x14_2), (9, .int .i64 s), (13, .int .i64 (t11.length : Int)), (14, .int .i64 x14_2)]) (fun s t => [rowV 5 1 (.slice p.1 t11.length p.2) t11.length (l_3.map e_u8)]) (fun s t => True) ?_ ?_
      · refine c_seq ?_
        refine c_region ?_
        refine l_val rfl rfl rfl (r_move (v := .bool a0) rfl) ?_
        refine l_nil ?_
        refine c_if (b := a0) rfl (fun hb => ?_) (fun hb => ?_)
        · have H26 := cnd_t hb H19; clear H19
          refine c_region ?_
          refine l_val rfl rfl rfl (r_move (v := .int .i64 a2) rfl) ?_
          obtain ⟨t20, h_t20, H27⟩ := bnd_some H26; clear H26
          refine l_val rfl rfl rfl (r_subG rfl rfl h_t20) ?_
          refine l_val rfl rfl rfl (r_move (v := .int .i64 x14_2) rfl) ?_
          obtain ⟨t22, h_t22, H28⟩ := bnd_some H27; clear H27
          refine l_val rfl rfl rfl (r_subG rfl rfl h_t22) ?_
          refine l_val rfl rfl rfl (r_assign (v := .int .i64 t22) rfl) ?_
          refine l_nil ?_
          refine c_close t22 () 0 [0] (by exact ⟨rfl, rfl, rfl, rfl, rfl, rfl, rfl, rfl, trivial⟩) (by decide) rfl (by exact ⟨H28, trivial⟩) (Nat.lt_succ_self _)
        · have H29 := cnd_f hb H19; clear H19
          refine c_skip ?_
          refine c_close x14_2 () 0 [0] (by exact ⟨rfl, rfl, rfl, rfl, rfl, rfl, rfl, rfl, trivial⟩) (by decide) rfl (by exact ⟨H29, trivial⟩) (Nat.lt_succ_self _)
      · rintro x9 _ gg H20 _
        replace H20 : R_number_j3 a1 x14_2 l_3 next2 x9 = some r := H20
        refine c_tidyF [(0, .bool a0), (1, .int .i64 a1), (2, .int .i64 a2), (7, .slice p.1 t11.length p.2), (8, .int .i64 x14_2), (9, .int .i64 x9), (13, .int .i64 (t11.length : Int)), (14, .int .i64 x14_2)] [rowV 5 1 (.slice p.1 t11.length p.2) t11.length (l_3.map e_u8)] rfl rfl ?_
        refine c_region ?_
        refine l_val rfl rfl rfl (r_move (v := .slice p.1 t11.length p.2) rfl) ?_
        refine l_val rfl rfl rfl (r_move (v := .int .i64 x9) rfl) ?_
        refine l_val rfl rfl rfl (r_move (v := .int .i64 a1) rfl) ?_
        refine l_val rfl rfl rfl (r_move (v := .int .i64 x14_2) rfl) ?_
        obtain ⟨t27, h_t27, H21⟩ := bnd_some H20; clear H20
        refine l_val rfl rfl rfl (r_mulG rfl rfl h_t27) ?_
        obtain ⟨t28, h_t28, H22⟩ := bnd_some H21; clear H21
        refine l_val rfl rfl rfl (r_shrG rfl rfl rfl h_t28) ?_
        refine l_val rfl rfl rfl (r_convG Try.runUnderlying3 Try.runUnderlying5 rfl (wr_u8 _)) ?_
        obtain ⟨t30, h_t30, H23⟩ := bnd_some H22; clear H22
        refine l_read (fun w hF hS => run_indexO Try.underlying133 Try.sizeOf5 rfl rfl (rowOf (i := 0) hS rfl) hl_3 h_t30) rfl rfl rfl ?_
        obtain ⟨l0, h_l0, H24⟩ := bnd_some H23; clear H23
        refine l_storeG (q := 0) (j := 0) (i := x9) (sz := 1) (hm := hl_3) (f := e_u8) (vs := [.int .u8 (wU8 t28)]) Try.sizeOf5 rfl rfl rfl rfl rfl rfl rfl rfl rfl (fun y_ hy_ => by first | rfl | (cases hy_.symm.trans h_t30; rfl)) h_l0 ?_
        refine l_nil ?_
        refine c_region ?_
        obtain ⟨t31, h_t31, H25⟩ := bnd_some H24; clear H24
        refine l_val rfl rfl rfl (r_addG rfl rfl h_t31) ?_
        refine l_val rfl rfl rfl (r_move (v := .int .i64 t31) rfl) ?_
        refine l_nil ?_
        refine c_close (t31, l0) () m2 [0] (by exact ⟨rfl, rfl, rfl, rfl, rfl, rfl, trivial⟩) (by decide) rfl (by exact ⟨(by subst hn2; exact H25), (gSet_n hl_3 h_l0)⟩) (Nat.lt_succ_self _)
    · have H30 := cnd_f hb H18; clear H18
      refine c_exit ?_
      refine c_close l_3 () 0 [0] (by exact ⟨rfl, trivial⟩) (by decide) rfl (by exact ⟨H30, hl_3⟩) (Nat.lt_succ_self _)
  · rintro l _ gg H17 hl
    replace H17 : R_number_j1 l = some r := H17
    refine c_tidyF [(7, .slice p.1 t11.length p.2)] [rowV 5 1 (.slice p.1 t11.length p.2) t11.length (l.map e_u8)] rfl rfl ?_
    refine c_seq ?_
    refine c_region ?_
    refine l_val rfl rfl rfl (r_move (v := .slice p.1 t11.length p.2) rfl) ?_
    refine l_read (fun w hF hS => run_bytes (f := e_u8) (xs := l) hl Try.underlying133 Try.underlying5 Try.underlying9 rfl (fun _ => rfl) (rowOf (i := 0) hS rfl)) rfl rfl rfl ?_
    refine l_val rfl rfl rfl (r_assign (v := str (toStr l)) rfl) ?_
    refine l_nil ?_
    refine c_ret ?_
    obtain rfl := Option.some.inj H17
    refine ret1 (v := str (toStr l)) rfl rfl (fin rfl)
theorem k45 {a0 : T_tintref2_written} {pb0 : Nat} {a1 : Int} {a2 : Int} {a3 : Int} {r : T_tintref2_written} {w : World} {h : Heap} {S : Nat → Prop} (hcs : (cellsC pb0 [str a0.s_, .bool a0.big_] 86).P S w) (hlt : ∀ b, S b → b < w.heap.size) (hw : Know h w S) (H : R_written_set a0 a1 a2 a3 = some r) : Does Try.prog 45 (List.toArray [.pointer (some ⟨pb0, 0, none⟩), .int .i64 a1, .int .i64 a2, .int .i64 a3]) w (fun v w' => ∃ x : Unit, v = (.tuple #[]) ∧ Turn w w' S (cellsC pb0 [str r.s_, .bool r.big_] 86)) := by
  refine enter (n := 34) Try.func45 rfl rfl rfl S [cellsC pb0 [str a0.s_, .bool a0.big_] 86] (Sat.one hcs hlt) ?_
  exact c_regionD (Kd.p :: Kd.p :: Kd.p :: Kd.p :: Kd.d [0] _ :: Kd.p :: Kd.p :: Kd.p :: Kd.p :: Kd.p :: Kd.d [0] _ :: Kd.p :: Kd.p :: Kd.d [] _ :: Kd.p :: Kd.p :: Kd.p :: Kd.p :: Kd.d [0] _ :: Kd.p :: Kd.p :: Kd.p :: Kd.p :: Kd.p :: Kd.p :: Kd.p :: Kd.st 33 0 [_, _] 86 :: []) 0 mixed (by
    refine d_val rfl rfl (r_move (v := .pointer (some ⟨pb0, 0, none⟩)) rfl) ?_
    refine d_val rfl rfl (r_move (v := .pointer (some ⟨pb0, 0, none⟩)) rfl) ?_
    refine d_val rfl rfl (r_nilCheck rfl) ?_
    refine d_val rfl rfl (r_field Try.runUnderlying86 rfl Try.sizeOf9 rfl rfl) ?_
    refine d_load1 (i := 0) (v := str a0.s_) Try.isAgg9 rfl rfl rfl rfl ?_
    refine d_val rfl rfl (r_move (v := .int .i64 a1) rfl) ?_
    have h_t14 := bnd_val H
    have H7 := bnd_rest H
    refine d_val rfl rfl (r_cutToG Try.underlying9 rfl rfl h_t14) ?_
    refine d_val rfl rfl (r_move (v := .pointer (some ⟨pb0, 0, none⟩)) rfl) ?_
    refine d_val rfl rfl (r_nilCheck rfl) ?_
    refine d_val rfl rfl (r_field Try.runUnderlying86 rfl Try.sizeOf4 rfl rfl) ?_
    refine d_load1 (i := 0) (v := .bool a0.big_) Try.isAgg4 rfl rfl rfl rfl ?_
    refine d_val rfl rfl (r_move (v := .int .i64 a2) rfl) ?_
    refine d_val rfl rfl (r_move (v := .int .i64 a3) rfl) ?_
    have h_t21 := bnd_val H7
    have H8 := bnd_rest H7
    refine d_call (k43 h_t21) Try.call43 rfl rfl ?_
    have h_t22 := bnd_val H8
    have H9 := bnd_rest H8
    refine d_val rfl rfl (r_concatG rfl rfl h_t22) ?_
    refine d_val rfl rfl (r_move (v := .pointer (some ⟨pb0, 0, none⟩)) rfl) ?_
    refine d_val rfl rfl (r_nilCheck rfl) ?_
    refine d_val rfl rfl (r_field Try.runUnderlying86 rfl Try.sizeOf9 rfl rfl) ?_
    refine d_load1 (i := 0) (v := str a0.s_) Try.isAgg9 rfl rfl rfl rfl ?_
    refine d_val rfl rfl (r_move (v := .int .i64 a1) rfl) ?_
    refine d_val rfl rfl (r_move (v := .int .i64 a3) rfl) ?_
    have h_t29 := bnd_val H9
    have H10 := bnd_rest H9
    refine d_val rfl rfl (r_addG rfl rfl h_t29) ?_
    have h_t30 := bnd_val H10
    have H11 := bnd_rest H10
    refine d_val rfl rfl (r_cutFromG Try.underlying9 rfl rfl h_t30) ?_
    have h_t31 := bnd_val H11
    have H12 := bnd_rest H11
    refine d_val rfl rfl (r_concatG rfl rfl h_t31) ?_
    refine d_val rfl rfl (r_nilCheck rfl) ?_
    refine d_val rfl rfl (r_field Try.runUnderlying86 rfl Try.sizeOf9 rfl rfl) ?_
    refine d_store (i := 0) (vs := [str (val (gCat (val (gCat (val (gCut a0.s_ 0 a1)) (val (R_number a0.big_ a2 a3)))) (val (gCut a0.s_ (val (gI (a1 + a3))) a0.s_.length))))]) (cs' := [str (val (gCat (val (gCat (val (gCut a0.s_ 0 a1)) (val (R_number a0.big_ a2 a3)))) (val (gCut a0.s_ (val (gI (a1 + a3))) a0.s_.length)))), .bool a0.big_]) Try.sizeOf9 rfl rfl rfl rfl rfl rfl rfl rfl rfl ?_
    refine d_nil ?_
    obtain rfl := Option.some.inj H12
    refine ret0n rfl (finX () (i := 0) rfl rfl (Imp.refl _))
    ) (by kernel_rfl)
theorem k85 {a0 : T_tintref2_written} {pb0 : Nat} {a1 : (List UInt8)} {r : Int × T_tintref2_written} {w : World} {h : Heap} {S : Nat → Prop} (hcs : (cellsC pb0 [str a0.s_, .bool a0.big_] 86).P S w) (hlt : ∀ b, S b → b < w.heap.size) (hw : Know h w S) (H : R_written_add a0 a1 = some r) : Does Try.prog 85 (List.toArray [.pointer (some ⟨pb0, 0, none⟩), str a1]) w (fun v w' => ∃ x : Unit, v = (.int .i64 r.1) ∧ Turn w w' S (cellsC pb0 [str r.2.s_, .bool r.2.big_] 86)) := by
  refine enter (n := 34) Try.func85 rfl rfl rfl S [cellsC pb0 [str a0.s_, .bool a0.big_] 86] (Sat.one hcs hlt) ?_
  refine c_seq ?_
  refine c_region ?_
  refine l_val rfl rfl rfl (r_assign (v := .int .i64 0) rfl) ?_
  refine l_nil ?_
  refine c_meet (r := r) (σ := (List UInt8)) (τ := Unit) (fun s => R_written_add_j1 a0 a1 s) (fun s t => [(0, .pointer (some ⟨pb0, 0, none⟩)), (1, str a1)]) (fun s t => [cellsC pb0 [str s, .bool a0.big_] 86]) (fun s t => True) ?_ ?_
  · refine c_seq ?_
    refine c_region ?_
    refine l_val rfl rfl rfl (r_move (v := .pointer (some ⟨pb0, 0, none⟩)) rfl) ?_
    refine l_val rfl rfl rfl (r_nilCheck rfl) ?_
    refine l_val rfl rfl rfl (r_field Try.runUnderlying86 rfl Try.sizeOf9 rfl rfl) ?_
    refine l_load1 (i := 0) (v := str a0.s_) Try.isAgg9 rfl rfl rfl rfl rfl ?_
    refine l_val rfl rfl rfl (r_lenT Try.underlying9 rfl) ?_
    obtain ⟨t11, h_t11, H9⟩ := bnd_some H; clear H
    refine l_val rfl rfl rfl (r_remG rfl rfl h_t11) ?_
    refine l_val rfl rfl rfl (r_eql rfl rfl) ?_
    refine l_nil ?_
    refine c_if (b := (decide (t11 = 1))) rfl (fun hb => ?_) (fun hb => ?_)
    · have H10 := cnd_t hb H9; clear H9
      refine c_region ?_
      refine l_val rfl rfl rfl (r_move (v := .pointer (some ⟨pb0, 0, none⟩)) rfl) ?_
      refine l_val rfl rfl rfl (r_nilCheck rfl) ?_
      refine l_val rfl rfl rfl (r_field Try.runUnderlying86 rfl Try.sizeOf9 rfl rfl) ?_
      refine l_load1 (i := 0) (v := str a0.s_) Try.isAgg9 rfl rfl rfl rfl rfl ?_
      obtain ⟨t17, h_t17, H11⟩ := bnd_some H10; clear H10
      refine l_val rfl rfl rfl (r_concatG rfl rfl h_t17) ?_
      refine l_val rfl rfl rfl (r_nilCheck rfl) ?_
      refine l_val rfl rfl rfl (r_field Try.runUnderlying86 rfl Try.sizeOf9 rfl rfl) ?_
      refine l_store (i := 0) (vs := [str t17]) (cs' := [str t17, .bool a0.big_]) Try.sizeOf9 rfl rfl rfl rfl rfl rfl rfl rfl rfl ?_
      refine l_nil ?_
      refine c_close t17 () 0 [0] (by exact ⟨rfl, rfl, trivial⟩) (by decide) rfl (by exact ⟨H11, trivial⟩) (Nat.lt_succ_self _)
    · have H12 := cnd_f hb H9; clear H9
      refine c_skip ?_
      refine c_close a0.s_ () 0 [0] (by exact ⟨rfl, rfl, trivial⟩) (by decide) rfl (by exact ⟨H12, trivial⟩) (Nat.lt_succ_self _)
  · rintro m _ gg H7 _
    replace H7 : R_written_add_j1 a0 a1 m = some r := H7
    refine c_tidyF [(0, .pointer (some ⟨pb0, 0, none⟩)), (1, str a1)] [cellsC pb0 [str m, .bool a0.big_] 86] rfl rfl ?_
    refine c_seq ?_
    refine c_region ?_
    refine l_val rfl rfl rfl (r_move (v := .pointer (some ⟨pb0, 0, none⟩)) rfl) ?_
    refine l_val rfl rfl rfl (r_nilCheck rfl) ?_
    refine l_val rfl rfl rfl (r_field Try.runUnderlying86 rfl Try.sizeOf9 rfl rfl) ?_
    refine l_load1 (i := 0) (v := str m) Try.isAgg9 rfl rfl rfl rfl rfl ?_
    refine l_val rfl rfl rfl (r_lenT Try.underlying9 rfl) ?_
    refine l_val rfl rfl rfl (r_assign (v := .int .i64 (m.length : Int)) rfl) ?_
    refine l_nil ?_
    refine c_seq ?_
    refine c_region ?_
    refine l_val rfl rfl rfl (r_move (v := .pointer (some ⟨pb0, 0, none⟩)) rfl) ?_
    refine l_val rfl rfl rfl (r_nilCheck rfl) ?_
    refine l_val rfl rfl rfl (r_field Try.runUnderlying86 rfl Try.sizeOf9 rfl rfl) ?_
    refine l_load1 (i := 0) (v := str m) Try.isAgg9 rfl rfl rfl rfl rfl ?_
    refine l_val rfl rfl rfl (r_move (v := str a1) rfl) ?_
    obtain ⟨t30, h_t30, H8⟩ := bnd_some H7; clear H7
    refine l_val rfl rfl rfl (r_concatG rfl rfl h_t30) ?_
    refine l_val rfl rfl rfl (r_nilCheck rfl) ?_
    refine l_val rfl rfl rfl (r_field Try.runUnderlying86 rfl Try.sizeOf9 rfl rfl) ?_
    refine l_store (i := 0) (vs := [str t30]) (cs' := [str t30, .bool a0.big_]) Try.sizeOf9 rfl rfl rfl rfl rfl rfl rfl rfl rfl ?_
    refine l_nil ?_
    refine c_seq ?_
    refine c_region ?_
    refine l_val rfl rfl rfl (r_move (v := .int .i64 (m.length : Int)) rfl) ?_
    refine l_val rfl rfl rfl (r_assign (v := .int .i64 (m.length : Int)) rfl) ?_
    refine l_nil ?_
    refine c_ret ?_
    obtain rfl := Option.some.inj H8
    refine ret1 (v := .int .i64 (m.length : Int)) rfl rfl (finX () (i := 0) rfl rfl (Imp.refl _))
theorem k86 {a0 : (List UInt8)} {a1 : Int} {r : (List UInt8)} (H : gRep a0 a1 = some r) : Ret Try.prog 86 [str a0, .int .i64 a1] (str r) :=
  rep_ret (ρ := Go.Proofs.Try.lays105_ren) Go.Proofs.Try.lays105 Go.Proofs.Try.Builder_Extra_105 H

theorem k79 {a0 : Int} {r : Int} (H : R_wide a0 = some r) : Ret Try.prog 79 [.int .i64 a0] (.int .i64 r) := by
  refine enterRet (n := 16) Try.func79 rfl rfl rfl (fun wd => ?_)
  refine c_seq ?_
  refine c_region ?_
  refine l_val rfl rfl rfl (r_assign (v := .int .i64 0) rfl) ?_
  refine l_nil ?_
  refine c_seq ?_
  refine c_seq ?_
  refine c_region ?_
  refine l_val rfl rfl rfl (r_move (v := .int .i64 a0) rfl) ?_
  refine l_nil ?_
  refine c_block ?_
  refine c_meet (r := r) (σ := Bool) (τ := Unit) (fun s => R_wide_j1 a0 s) (fun s t => [(3, .int .i64 a0), (4, .bool s)]) (fun s t => []) (fun s t => True) ?_ ?_
  · refine c_seq ?_
    refine c_region ?_
    refine l_val rfl rfl rfl (r_eql rfl rfl) ?_
    refine l_val rfl rfl rfl (r_assign (v := .bool (decide (a0 = 1))) rfl) ?_
    refine l_nil ?_
    refine c_if (b := (decide (a0 = 1))) rfl (fun hb => ?_) (fun hb => ?_)
    · have H47 := cnd_t hb H; clear H
      refine c_skip ?_
      refine c_close (decide (a0 = 1)) () 0 [] (by exact ⟨rfl, rfl, trivial⟩) (by decide) rfl (by exact ⟨H47, trivial⟩) (Nat.lt_succ_self _)
    · have H48 := cnd_f hb H; clear H
      refine c_seq ?_
      refine c_region ?_
      refine l_val rfl rfl rfl (r_eql rfl rfl) ?_
      refine l_val rfl rfl rfl (r_assign (v := .bool (decide (a0 = 2))) rfl) ?_
      refine l_nil ?_
      refine c_if (b := (decide (a0 = 2))) rfl (fun hb => ?_) (fun hb => ?_)
      · have H49 := cnd_t hb H48; clear H48
        refine c_skip ?_
        refine c_close (decide (a0 = 2)) () 0 [] (by exact ⟨rfl, rfl, trivial⟩) (by decide) rfl (by exact ⟨H49, trivial⟩) (Nat.lt_succ_self _)
      · have H50 := cnd_f hb H48; clear H48
        refine c_region ?_
        refine l_val rfl rfl rfl (r_eql rfl rfl) ?_
        refine l_val rfl rfl rfl (r_assign (v := .bool (decide (a0 = 7))) rfl) ?_
        refine l_nil ?_
        refine c_close (decide (a0 = 7)) () 0 [] (by exact ⟨rfl, rfl, trivial⟩) (by decide) rfl (by exact ⟨H50, trivial⟩) (Nat.lt_succ_self _)
  · rintro x4 _ gg H26 _
    replace H26 : R_wide_j1 a0 x4 = some r := H26
    refine c_tidyF [(3, .int .i64 a0), (4, .bool x4)] [] rfl rfl ?_
    refine c_if (b := x4) rfl (fun hb => ?_) (fun hb => ?_)
    · have H27 := cnd_t hb H26; clear H26
      refine c_seq ?_
      refine c_region ?_
      refine l_val rfl rfl rfl (r_assign (v := .int .i64 1) rfl) ?_
      refine l_nil ?_
      refine c_ret ?_
      obtain rfl := Option.some.inj H27
      refine ret1 (v := .int .i64 1) rfl rfl (fin rfl)
    · have H28 := cnd_f hb H26; clear H26
      refine c_seq ?_
      refine c_region ?_
      refine l_val rfl rfl rfl (r_eql rfl rfl) ?_
      refine l_val rfl rfl rfl (r_assign (v := .bool (decide (a0 = 3))) rfl) ?_
      refine l_nil ?_
      refine c_if (b := (decide (a0 = 3))) rfl (fun hb => ?_) (fun hb => ?_)
      · have H29 := cnd_t hb H28; clear H28
        refine c_seq ?_
        refine c_region ?_
        refine l_val rfl rfl rfl (r_assign (v := .int .i64 2) rfl) ?_
        refine l_nil ?_
        refine c_ret ?_
        obtain rfl := Option.some.inj H29
        refine ret1 (v := .int .i64 2) rfl rfl (fin rfl)
      · have H30 := cnd_f hb H28; clear H28
        refine c_seq ?_
        refine c_seq ?_
        refine c_region ?_
        refine l_val rfl rfl rfl (r_eql rfl rfl) ?_
        refine l_val rfl rfl rfl (r_assign (v := .bool (decide (a0 = 4))) rfl) ?_
        refine l_nil ?_
        refine c_if (b := (decide (a0 = 4))) rfl (fun hb => ?_) (fun hb => ?_)
        · have H31 := cnd_t hb H30; clear H30
          refine c_skip ?_
          refine c_if (b := (decide (a0 = 4))) rfl (fun hb => ?_) (fun hb => ?_)
          · have H32 := cnd_t hb H31; clear H31
            refine c_seq ?_
            refine c_region ?_
            refine l_val rfl rfl rfl (r_assign (v := .int .i64 4) rfl) ?_
            refine l_nil ?_
            refine c_ret ?_
            obtain rfl := Option.some.inj H32
            refine ret1 (v := .int .i64 4) rfl rfl (fin rfl)
          · have H33 := cnd_f hb H31; clear H31
            refine c_seq ?_
            refine c_region ?_
            refine l_val rfl rfl rfl (r_eql rfl rfl) ?_
            refine l_val rfl rfl rfl (r_assign (v := .bool (decide (a0 = 5))) rfl) ?_
            refine l_nil ?_
            refine c_if (b := (decide (a0 = 5))) rfl (fun hb => ?_) (fun hb => ?_)
            · have H34 := cnd_t hb H33; clear H33
              refine c_seq ?_
              refine c_region ?_
              refine l_val rfl rfl rfl (r_assign (v := .int .i64 8) rfl) ?_
              refine l_nil ?_
              refine c_ret ?_
              obtain rfl := Option.some.inj H34
              refine ret1 (v := .int .i64 8) rfl rfl (fin rfl)
            · have H35 := cnd_f hb H33; clear H33
              refine c_skip ?_
              refine c_seq ?_
              refine c_region ?_
              refine l_val rfl rfl rfl (r_assign (v := .int .i64 0) rfl) ?_
              refine l_nil ?_
              refine c_ret ?_
              obtain rfl := Option.some.inj H35
              refine ret1 (v := .int .i64 0) rfl rfl (fin rfl)
        · have H36 := cnd_f hb H30; clear H30
          refine c_seq ?_
          refine c_region ?_
          refine l_val rfl rfl rfl (r_eql rfl rfl) ?_
          refine l_val rfl rfl rfl (r_assign (v := .bool (decide (a0 = 9))) rfl) ?_
          refine l_nil ?_
          refine c_if (b := (decide (a0 = 9))) rfl (fun hb => ?_) (fun hb => ?_)
          · have H37 := cnd_t hb H36; clear H36
            refine c_skip ?_
            refine c_if (b := (decide (a0 = 9))) rfl (fun hb => ?_) (fun hb => ?_)
            · have H38 := cnd_t hb H37; clear H37
              refine c_seq ?_
              refine c_region ?_
              refine l_val rfl rfl rfl (r_assign (v := .int .i64 4) rfl) ?_
              refine l_nil ?_
              refine c_ret ?_
              obtain rfl := Option.some.inj H38
              refine ret1 (v := .int .i64 4) rfl rfl (fin rfl)
            · have H39 := cnd_f hb H37; clear H37
              refine c_seq ?_
              refine c_region ?_
              refine l_val rfl rfl rfl (r_eql rfl rfl) ?_
              refine l_val rfl rfl rfl (r_assign (v := .bool (decide (a0 = 5))) rfl) ?_
              refine l_nil ?_
              refine c_if (b := (decide (a0 = 5))) rfl (fun hb => ?_) (fun hb => ?_)
              · have H40 := cnd_t hb H39; clear H39
                refine c_seq ?_
                refine c_region ?_
                refine l_val rfl rfl rfl (r_assign (v := .int .i64 8) rfl) ?_
                refine l_nil ?_
                refine c_ret ?_
                obtain rfl := Option.some.inj H40
                refine ret1 (v := .int .i64 8) rfl rfl (fin rfl)
              · have H41 := cnd_f hb H39; clear H39
                refine c_skip ?_
                refine c_seq ?_
                refine c_region ?_
                refine l_val rfl rfl rfl (r_assign (v := .int .i64 0) rfl) ?_
                refine l_nil ?_
                refine c_ret ?_
                obtain rfl := Option.some.inj H41
                refine ret1 (v := .int .i64 0) rfl rfl (fin rfl)
          · have H42 := cnd_f hb H36; clear H36
            refine c_region ?_
            refine l_val rfl rfl rfl (r_eql rfl rfl) ?_
            refine l_val rfl rfl rfl (r_assign (v := .bool (decide (a0 = 13))) rfl) ?_
            refine l_nil ?_
            refine c_if (b := (decide (a0 = 13))) rfl (fun hb => ?_) (fun hb => ?_)
            · have H43 := cnd_t hb H42; clear H42
              refine c_seq ?_
              refine c_region ?_
              refine l_val rfl rfl rfl (r_assign (v := .int .i64 4) rfl) ?_
              refine l_nil ?_
              refine c_ret ?_
              obtain rfl := Option.some.inj H43
              refine ret1 (v := .int .i64 4) rfl rfl (fin rfl)
            · have H44 := cnd_f hb H42; clear H42
              refine c_seq ?_
              refine c_region ?_
              refine l_val rfl rfl rfl (r_eql rfl rfl) ?_
              refine l_val rfl rfl rfl (r_assign (v := .bool (decide (a0 = 5))) rfl) ?_
              refine l_nil ?_
              refine c_if (b := (decide (a0 = 5))) rfl (fun hb => ?_) (fun hb => ?_)
              · have H45 := cnd_t hb H44; clear H44
                refine c_seq ?_
                refine c_region ?_
                refine l_val rfl rfl rfl (r_assign (v := .int .i64 8) rfl) ?_
                refine l_nil ?_
                refine c_ret ?_
                obtain rfl := Option.some.inj H45
                refine ret1 (v := .int .i64 8) rfl rfl (fin rfl)
              · have H46 := cnd_f hb H44; clear H44
                refine c_skip ?_
                refine c_seq ?_
                refine c_region ?_
                refine l_val rfl rfl rfl (r_assign (v := .int .i64 0) rfl) ?_
                refine l_nil ?_
                refine c_ret ?_
                obtain rfl := Option.some.inj H46
                refine ret1 (v := .int .i64 0) rfl rfl (fin rfl)
theorem k88 {a0 : Bool} {a1 : T_tag_Value} {v1_2 : Value} {v1_3 : Value} {v1_4 : Value} {r : (List UInt8)} {w : World} {h : Heap} (hw : Know h w noS) (f1_2 : FrS h 1 v1_2 (a1.Ints.map e_i64)) (f1_3 : FrS h 2 v1_3 (a1.Ratios.map e_tag_Ratio)) (f1_4 : FrN h 6 v1_4 g_tag_Entry a1.Entries) (H : R_octets a0 a1 = some r) : Does Try.prog 88 (List.toArray [.bool a0, .agg #[.int .i64 a1.Kind, str a1.Text, v1_2, v1_3, v1_4]]) w (fun v w' => v = (str r) ∧ Grow w w') := by
  refine enter (n := 53) Try.func88 rfl rfl rfl noS [] (Sat.nil _ _) ?_
  refine c_seq ?_
  refine c_region ?_
  refine l_box (cs := [.int .i64 a1.Kind, str a1.Text, v1_2, v1_3, v1_4]) rfl rfl rfl rfl (fun b2 => ?_)
  refine l_val rfl rfl rfl (r_assign (v := str []) rfl) ?_
  refine l_nil ?_
  refine c_seq ?_
  refine c_region ?_
  refine l_val rfl rfl rfl (r_field Try.runUnderlying61 rfl Try.sizeOf9 rfl rfl) ?_
  refine l_load1 (i := 0) (v := str a1.Text) Try.isAgg9 rfl rfl rfl rfl rfl ?_
  refine l_val rfl rfl rfl (r_assign (v := str a1.Text) rfl) ?_
  refine l_nil ?_
  refine c_meet (r := r) (σ := (List UInt8)) (τ := Unit) (fun s => R_octets_j1 a0 a1 s) (fun s t => [(0, .bool a0), (3, .pointer (some ⟨b2, 0, none⟩)), (5, str s)]) (fun s t => [cellsC b2 [.int .i64 a1.Kind, str a1.Text, v1_2, v1_3, v1_4] 61]) (fun s t => True) ?_ ?_
  · refine c_seq ?_
    refine c_region ?_
    refine l_val rfl rfl rfl (r_field Try.runUnderlying61 rfl Try.sizeOf3 rfl rfl) ?_
    refine l_load1 (i := 0) (v := .int .i64 a1.Kind) Try.isAgg3 rfl rfl rfl rfl rfl ?_
    refine l_val rfl rfl rfl (r_eql rfl rfl) ?_
    refine l_nil ?_
    refine c_if (b := (decide (a1.Kind = 2))) rfl (fun hb => ?_) (fun hb => ?_)
    · have H42 := cnd_t hb H; clear H
      refine c_region ?_
      refine l_val rfl rfl rfl (r_move (v := str a1.Text) rfl) ?_
      obtain ⟨t16, h_t16, H43⟩ := bnd_some H42; clear H42
      refine l_val rfl rfl rfl (r_concatG rfl rfl h_t16) ?_
      refine l_val rfl rfl rfl (r_assign (v := str t16) rfl) ?_
      refine l_nil ?_
      refine c_close t16 () 0 [0] (by exact ⟨rfl, rfl, rfl, trivial⟩) (by decide) rfl (by exact ⟨H43, trivial⟩) (Nat.lt_succ_self _)
    · have H44 := cnd_f hb H; clear H
      refine c_skip ?_
      refine c_close a1.Text () 0 [0] (by exact ⟨rfl, rfl, rfl, trivial⟩) (by decide) rfl (by exact ⟨H44, trivial⟩) (Nat.lt_succ_self _)
  · rintro x5 _ gg H23 _
    replace H23 : R_octets_j1 a0 a1 x5 = some r := H23
    refine c_tidyF [(0, .bool a0), (3, .pointer (some ⟨b2, 0, none⟩)), (5, str x5)] [cellsC b2 [.int .i64 a1.Kind, str a1.Text, v1_2, v1_3, v1_4] 61] rfl rfl ?_
    refine c_meet (r := r) (σ := (List UInt8)) (τ := Unit) (fun s => R_octets_j2 a0 a1 s) (fun s t => [(0, .bool a0), (3, .pointer (some ⟨b2, 0, none⟩)), (5, str s)]) (fun s t => [cellsC b2 [.int .i64 a1.Kind, str a1.Text, v1_2, v1_3, v1_4] 61]) (fun s t => True) ?_ ?_
    · refine c_seq ?_
      refine c_region ?_
      refine l_val rfl rfl rfl (r_field Try.runUnderlying61 rfl Try.sizeOf57 rfl rfl) ?_
      refine l_load1 (i := 0) (v := v1_2) Try.isAgg57 rfl rfl rfl rfl rfl ?_
      refine l_val rfl rfl rfl (r_lenF Try.underlying57 rfl f1_2 rfl) ?_
      refine l_val rfl rfl rfl (r_move (v := .int .i64 0) rfl) ?_
      refine l_nil ?_
      refine c_block ?_
      refine c_fix (σ := (List UInt8) × Int) (τ := Unit) (fun next4 s => R_octets_l4 a0 a1 next4 s.1 s.2) (fun s t => [(0, .bool a0), (3, .pointer (some ⟨b2, 0, none⟩)), (5, str s.1), (18, v1_2), (19, .int .i64 (a1.Ints.length : Int)), (20, .int .i64 s.2)]) (fun s t => [cellsC b2 [.int .i64 a1.Kind, str a1.Text, v1_2, v1_3, v1_4] 61]) (fun s t => True) (x5, 0) () [0] H23 (by exact trivial) (by exact ⟨rfl, rfl, rfl, rfl, rfl, rfl, trivial⟩) (by decide) rfl ?_
      rintro ⟨x5_6, x20_2⟩ _ m4 gg H34 _
      clear H23
      replace H34 : R_octets_l4 a0 a1 (it (fun next4 s => R_octets_l4 a0 a1 next4 s.1 s.2) m4) x5_6 x20_2 = some r := H34
      generalize hn4 : it (fun next4 s => R_octets_l4 a0 a1 next4 s.1 s.2) m4 = next4 at H34
      refine c_tidyF [(0, .bool a0), (3, .pointer (some ⟨b2, 0, none⟩)), (5, str x5_6), (18, v1_2), (19, .int .i64 (a1.Ints.length : Int)), (20, .int .i64 x20_2)] [cellsC b2 [.int .i64 a1.Kind, str a1.Text, v1_2, v1_3, v1_4] 61] rfl rfl ?_
      refine c_seq ?_
      refine c_region ?_
      refine l_val rfl rfl rfl (r_lss rfl rfl) ?_
      refine l_nil ?_
      refine c_seq ?_
      refine c_if (b := (decide (x20_2 < (a1.Ints.length : Int)))) rfl (fun hb => ?_) (fun hb => ?_)
      · have H35 := cnd_t hb H34; clear H34
        refine c_skip ?_
        refine c_seq ?_
        refine c_block ?_
        refine c_seq ?_
        refine c_region ?_
        obtain ⟨t22, h_t22, H36⟩ := bnd_some H35; clear H35
        refine l_val rfl rfl rfl (r_indexF Try.underlying57 Try.sizeOf3 rfl rfl f1_2 h_t22) ?_
        refine l_read (fun w hF hS => run_loadG1 (f := e_i64) (i := x20_2) (sz := 1) (j := 0) (v := .int .i64 t22) Try.isAgg3 rfl rfl (f1_2.row (hw.now hF)) h_t22 rfl) rfl rfl rfl ?_
        refine l_val rfl rfl rfl (r_assign (v := .int .i64 t22) rfl) ?_
        refine l_nil ?_
        refine c_region ?_
        refine l_val rfl rfl rfl (r_move (v := str x5_6) rfl) ?_
        refine l_val rfl rfl rfl (r_move (v := .bool a0) rfl) ?_
        refine l_val rfl rfl rfl (r_move (v := .int .i64 t22) rfl) ?_
        refine l_val rfl rfl rfl (r_field Try.runUnderlying61 rfl Try.sizeOf3 rfl rfl) ?_
        refine l_load1 (i := 0) (v := .int .i64 a1.Kind) Try.isAgg3 rfl rfl rfl rfl rfl ?_
        obtain ⟨t29, h_t29, H37⟩ := bnd_some H36; clear H36
        refine l_call (k79 h_t29) Try.call79 rfl rfl rfl ?_
        obtain ⟨t30, h_t30, H38⟩ := bnd_some H37; clear H37
        refine l_call (k43 h_t30) Try.call43 rfl rfl rfl ?_
        obtain ⟨t31, h_t31, H39⟩ := bnd_some H38; clear H38
        refine l_val rfl rfl rfl (r_concatG rfl rfl h_t31) ?_
        refine l_val rfl rfl rfl (r_assign (v := str t31) rfl) ?_
        refine l_nil ?_
        refine c_region ?_
        obtain ⟨t32, h_t32, H40⟩ := bnd_some H39; clear H39
        refine l_val rfl rfl rfl (r_addG rfl rfl h_t32) ?_
        refine l_val rfl rfl rfl (r_move (v := .int .i64 t32) rfl) ?_
        refine l_nil ?_
        refine c_close (t31, t32) () m4 [0] (by exact ⟨rfl, rfl, rfl, rfl, rfl, rfl, trivial⟩) (by decide) rfl (by exact ⟨(by subst hn4; exact H40), trivial⟩) (Nat.lt_succ_self _)
      · have H41 := cnd_f hb H34; clear H34
        refine c_exit ?_
        refine c_close x5_6 () 0 [0] (by exact ⟨rfl, rfl, rfl, trivial⟩) (by decide) rfl (by exact ⟨H41, trivial⟩) (Nat.lt_succ_self _)
    · rintro x5_2 _ gg H24 _
      replace H24 : R_octets_j2 a0 a1 x5_2 = some r := H24
      refine c_tidyF [(0, .bool a0), (3, .pointer (some ⟨b2, 0, none⟩)), (5, str x5_2)] [cellsC b2 [.int .i64 a1.Kind, str a1.Text, v1_2, v1_3, v1_4] 61] rfl rfl ?_
      refine c_seq ?_
      refine c_seq ?_
      refine c_region ?_
      refine l_val rfl rfl rfl (r_field Try.runUnderlying61 rfl Try.sizeOf58 rfl rfl) ?_
      refine l_load1 (i := 0) (v := v1_3) Try.isAgg58 rfl rfl rfl rfl rfl ?_
      refine l_val rfl rfl rfl (r_lenF Try.underlying58 rfl f1_3 rfl) ?_
      refine l_val rfl rfl rfl (r_move (v := .int .i64 0) rfl) ?_
      refine l_nil ?_
      refine c_block ?_
      refine c_sel [] [] rfl (by decide) ?_
      refine c_fix (σ := (List UInt8) × Int) (τ := Unit) (fun next3 s => R_octets_l3 a0 a1 next3 s.1 s.2) (fun s t => [(0, .bool a0), (5, str s.1), (34, v1_3), (35, .int .i64 (a1.Ratios.length : Int)), (36, .int .i64 s.2)]) (fun s t => []) (fun s t => True) (x5_2, 0) () [] H24 (by exact trivial) (by exact ⟨rfl, rfl, rfl, rfl, rfl, trivial⟩) (by decide) rfl ?_
      rintro ⟨x5_4, x36_2⟩ _ m3 gg H25 _
      clear H24
      replace H25 : R_octets_l3 a0 a1 (it (fun next3 s => R_octets_l3 a0 a1 next3 s.1 s.2) m3) x5_4 x36_2 = some r := H25
      generalize hn3 : it (fun next3 s => R_octets_l3 a0 a1 next3 s.1 s.2) m3 = next3 at H25
      refine c_tidyF [(0, .bool a0), (5, str x5_4), (34, v1_3), (35, .int .i64 (a1.Ratios.length : Int)), (36, .int .i64 x36_2)] [] rfl rfl ?_
      refine c_seq ?_
      refine c_region ?_
      refine l_val rfl rfl rfl (r_lss rfl rfl) ?_
      refine l_nil ?_
      refine c_seq ?_
      refine c_if (b := (decide (x36_2 < (a1.Ratios.length : Int)))) rfl (fun hb => ?_) (fun hb => ?_)
      · have H26 := cnd_t hb H25; clear H25
        refine c_skip ?_
        refine c_seq ?_
        refine c_block ?_
        refine c_seq ?_
        refine c_region ?_
        obtain ⟨t38, h_t38, H27⟩ := bnd_some H26; clear H26
        refine l_val rfl rfl rfl (r_indexF Try.underlying58 Try.sizeOf120 rfl rfl f1_3 h_t38) ?_
        refine l_read (fun w hF hS => run_loadGN (f := e_tag_Ratio) (i := x36_2) (sz := 2) (j := 0) (vs := [.int .i64 t38.Num, .int .i64 t38.Den]) Try.isAgg120 Try.sizeOf120 rfl rfl (f1_3.row (hw.now hF)) h_t38 rfl) rfl rfl rfl ?_
        refine l_alloc (cs := [.int .i64 0, .int .i64 0]) Try.zeroValue120 rfl rfl rfl (fun b3 => ?_)
        refine l_store (i := 0) (vs := [.int .i64 t38.Num, .int .i64 t38.Den]) (cs' := [.int .i64 t38.Num, .int .i64 t38.Den]) Try.sizeOf120 rfl rfl rfl rfl rfl rfl rfl rfl rfl ?_
        refine l_nil ?_
        exact c_regionD (Kd.p :: Kd.p :: Kd.p :: Kd.d [0] _ :: Kd.d [] _ :: Kd.p :: Kd.p :: Kd.d [0] _ :: Kd.d [] _ :: Kd.p :: Kd.p :: Kd.p :: []) 0 mixed (by
          refine d_val rfl rfl (r_move (v := str x5_4) rfl) ?_
          refine d_val rfl rfl (r_move (v := .bool a0) rfl) ?_
          refine d_val rfl rfl (r_field Try.runUnderlying120 rfl Try.sizeOf3 rfl rfl) ?_
          refine d_load1 (i := 0) (v := .int .i64 t38.Num) Try.isAgg3 rfl rfl rfl rfl ?_
          have h_t44 := bnd_val H27
          have H28 := bnd_rest H27
          refine d_call (k43 h_t44) Try.call43 rfl rfl ?_
          refine d_val rfl rfl (r_move (v := .bool a0) rfl) ?_
          refine d_val rfl rfl (r_field Try.runUnderlying120 rfl Try.sizeOf3 rfl rfl) ?_
          refine d_load1 (i := 0) (v := .int .i64 t38.Den) Try.isAgg3 rfl rfl rfl rfl ?_
          have h_t48 := bnd_val H28
          have H29 := bnd_rest H28
          refine d_call (k43 h_t48) Try.call43 rfl rfl ?_
          have h_t49 := bnd_val H29
          have H30 := bnd_rest H29
          refine d_val rfl rfl (r_concatG rfl rfl h_t49) ?_
          have h_t50 := bnd_val H30
          have H31 := bnd_rest H30
          refine d_val rfl rfl (r_concatG rfl rfl h_t50) ?_
          refine d_val rfl rfl (r_assign (v := str (val (gCat x5_4 (val (gCat (val (R_number a0 t38.Num 4)) (val (R_number a0 t38.Den 4))))))) rfl) ?_
          refine d_nil ?_
          refine c_region ?_
          obtain ⟨t51, h_t51, H32⟩ := bnd_some H31; clear H31
          refine l_val rfl rfl rfl (r_addG rfl rfl h_t51) ?_
          refine l_val rfl rfl rfl (r_move (v := .int .i64 t51) rfl) ?_
          refine l_nil ?_
          refine c_close ((val (gCat x5_4 (val (gCat (val (R_number a0 t38.Num 4)) (val (R_number a0 t38.Den 4)))))), t51) () m3 [] (by exact ⟨rfl, rfl, rfl, rfl, rfl, trivial⟩) (by decide) rfl (by exact ⟨(by subst hn3; exact H32), trivial⟩) (Nat.lt_succ_self _)
          ) (by kernel_rfl)
      · have H33 := cnd_f hb H25; clear H25
        refine c_exit ?_
        refine c_seq ?_
        refine c_region ?_
        refine l_val rfl rfl rfl (r_move (v := str x5_4) rfl) ?_
        refine l_val rfl rfl rfl (r_assign (v := str x5_4) rfl) ?_
        refine l_nil ?_
        refine c_ret ?_
        obtain rfl := Option.some.inj H33
        refine ret1 (v := str x5_4) rfl rfl (fin rfl)
theorem k87 {a0 : T_tag_Value} {v0_2 : Value} {v0_3 : Value} {v0_4 : Value} {r : Int} {w : World} {h : Heap} (hw : Know h w noS) (f0_2 : FrS h 1 v0_2 (a0.Ints.map e_i64)) (f0_3 : FrS h 2 v0_3 (a0.Ratios.map e_tag_Ratio)) (f0_4 : FrN h 6 v0_4 g_tag_Entry a0.Entries) (H : R_count a0 = some r) : Does Try.prog 87 (List.toArray [.agg #[.int .i64 a0.Kind, str a0.Text, v0_2, v0_3, v0_4]]) w (fun v w' => v = (.int .i64 r) ∧ Grow w w') := by
  refine enter (n := 13) Try.func87 rfl rfl rfl noS [] (Sat.nil _ _) ?_
  refine c_seq ?_
  refine c_region ?_
  refine l_box (cs := [.int .i64 a0.Kind, str a0.Text, v0_2, v0_3, v0_4]) rfl rfl rfl rfl (fun b1 => ?_)
  refine l_val rfl rfl rfl (r_assign (v := .int .i64 0) rfl) ?_
  refine l_nil ?_
  refine c_seq ?_
  refine c_seq ?_
  refine c_region ?_
  refine l_val rfl rfl rfl (r_field Try.runUnderlying61 rfl Try.sizeOf3 rfl rfl) ?_
  refine l_load1 (i := 0) (v := .int .i64 a0.Kind) Try.isAgg3 rfl rfl rfl rfl rfl ?_
  refine l_val rfl rfl rfl (r_eql rfl rfl) ?_
  refine l_nil ?_
  refine c_if (b := (decide (a0.Kind = 13))) rfl (fun hb => ?_) (fun hb => ?_)
  · have H6 := cnd_t hb H; clear H
    refine c_seq ?_
    refine c_region ?_
    refine l_val rfl rfl rfl (r_assign (v := .int .i64 1) rfl) ?_
    refine l_nil ?_
    refine c_ret ?_
    obtain rfl := Option.some.inj H6
    refine ret1 (v := .int .i64 1) rfl rfl (fin rfl)
  · have H7 := cnd_f hb H; clear H
    refine c_skip ?_
    refine c_seq ?_
    exact c_regionD (Kd.d [0] _ :: Kd.d [] _ :: Kd.p :: Kd.p :: Kd.d [0] _ :: Kd.d [] _ :: Kd.p :: Kd.p :: []) 0 mixed (by
      refine d_loadN (i := 0) (vs := [.int .i64 a0.Kind, str a0.Text, v0_2, v0_3, v0_4]) Try.isAgg61 Try.sizeOf61 rfl rfl rfl rfl ?_
      have h_t7 := bnd_val H7
      have H8 := bnd_rest H7
      refine d_callD (fun w L' hF hS hi => k88 (know_all w) (f0_2.mono (hw.now hF)) (f0_3.mono (hw.now hF)) (f0_4.mono (hw.now hF)) h_t7) Try.call88 rfl rfl ?_
      refine d_val rfl rfl (r_lenT Try.underlying9 rfl) ?_
      refine d_val rfl rfl (r_field Try.runUnderlying61 rfl Try.sizeOf3 rfl rfl) ?_
      refine d_load1 (i := 0) (v := .int .i64 a0.Kind) Try.isAgg3 rfl rfl rfl rfl ?_
      have h_t11 := bnd_val H8
      have H9 := bnd_rest H8
      refine d_call (k79 h_t11) Try.call79 rfl rfl ?_
      have h_t12 := bnd_val H9
      have H10 := bnd_rest H9
      refine d_val rfl rfl (r_quoG rfl rfl h_t12) ?_
      refine d_val rfl rfl (r_assign (v := .int .i64 (val (gQuo ((val (R_octets false a0)).length : Int) (val (R_wide a0.Kind))))) rfl) ?_
      refine d_nil ?_
      refine c_ret ?_
      obtain rfl := Option.some.inj H10
      refine ret1 (v := .int .i64 (val (gQuo ((val (R_octets false a0)).length : Int) (val (R_wide a0.Kind))))) rfl rfl (fin rfl)
      ) (by kernel_rfl)
theorem k44_it (mm : Nat) : ∀ {a0 : T_tintref2_written} {pb0 : Nat} {a1 : (List T_tag_Entry)} {v1 : Value} {r : Int × T_tintref2_written} {w : World} {h : Heap} {S : Nat → Prop} (hcs : (cellsC pb0 [str a0.s_, .bool a0.big_] 86).P S w) (hlt : ∀ b, S b → b < w.heap.size) (hw : Know h w S) (f1 : FrN h 6 v1 g_tag_Entry a1) (H : it (fun (self : (T_tintref2_written × (List T_tag_Entry)) → Option (Int × T_tintref2_written)) (s : T_tintref2_written × (List T_tag_Entry)) => R_written_dir_body self s.1 s.2) mm (a0, a1) = some r), Does Try.prog 44 (List.toArray [.pointer (some ⟨pb0, 0, none⟩), v1]) w (fun v w' => ∃ x : Unit, v = (.int .i64 r.1) ∧ Turn w w' S (cellsC pb0 [str r.2.s_, .bool r.2.big_] 86)) := by
  induction mm with
  | zero => intros; rename_i H; exact absurd H (by simp [it])
  | succ mm ih =>
    intro a0 pb0 a1 v1 r w h S hcs hlt hw f1 H
    replace H : R_written_dir_body (it (fun (self : (T_tintref2_written × (List T_tag_Entry)) → Option (Int × T_tintref2_written)) (s : T_tintref2_written × (List T_tag_Entry)) => R_written_dir_body self s.1 s.2) mm) a0 a1 = some r := H
    generalize it (fun (self : (T_tintref2_written × (List T_tag_Entry)) → Option (Int × T_tintref2_written)) (s : T_tintref2_written × (List T_tag_Entry)) => R_written_dir_body self s.1 s.2) mm = self at H ih
    refine enter (n := 109) Try.func44 rfl rfl rfl S [cellsC pb0 [str a0.s_, .bool a0.big_] 86] (Sat.one hcs hlt) ?_
    refine c_seq ?_
    refine c_region ?_
    refine l_val rfl rfl rfl (r_assign (v := .int .i64 0) rfl) ?_
    refine l_nil ?_
    refine c_seq ?_
    refine c_region ?_
    refine l_val rfl rfl rfl (r_move (v := .pointer (some ⟨pb0, 0, none⟩)) rfl) ?_
    refine l_val rfl rfl rfl (r_move (v := v1) rfl) ?_
    refine l_val rfl rfl rfl (r_lenFN Try.underlying59 rfl f1) ?_
    obtain ⟨t13, h_t13, H40⟩ := bnd_some H; clear H
    refine l_val rfl rfl rfl (r_mulG rfl rfl h_t13) ?_
    obtain ⟨t14, h_t14, H41⟩ := bnd_some H40; clear H40
    refine l_val rfl rfl rfl (r_addG rfl rfl h_t14) ?_
    obtain ⟨t15, h_t15, H42⟩ := bnd_some H41; clear H41
    refine l_val rfl rfl rfl (r_addG rfl rfl h_t15) ?_
    obtain ⟨t16, h_t16, H43⟩ := bnd_some H42; clear H42
    refine l_call (k86 h_t16) Try.call86 rfl rfl rfl ?_
    obtain ⟨t17, h_t17, H44⟩ := bnd_some H43; clear H43
    refine l_turn (turns_callB (i := 0) (rds := []) (G := fun x : Unit => .int .i64 t17.1) (C := fun x : Unit => cellsC pb0 [str t17.2.s_, .bool t17.2.big_] 86) rfl (fun w L' S hF hS hi hp hlt ho hA => k85 hp hlt (know_but w S)  h_t17) Try.call85 rfl) rfl rfl rfl (fun _ => ?_)
    refine l_val rfl rfl rfl (r_assign (v := .int .i64 t17.1) rfl) ?_
    refine l_nil ?_
    refine c_seq ?_
    refine c_region ?_
    refine l_val rfl rfl rfl (r_move (v := .pointer (some ⟨pb0, 0, none⟩)) rfl) ?_
    refine l_val rfl rfl rfl (r_move (v := .int .i64 t17.1) rfl) ?_
    refine l_val rfl rfl rfl (r_move (v := v1) rfl) ?_
    refine l_val rfl rfl rfl (r_lenFN Try.underlying59 rfl f1) ?_
    obtain ⟨t22, h_t22, H45⟩ := bnd_some H44; clear H44
    refine l_turn (turns_callB (i := 0) (rds := []) (G := fun x : Unit => .tuple #[]) (C := fun x : Unit => cellsC pb0 [str t22.s_, .bool t22.big_] 86) rfl (fun w L' S hF hS hi hp hlt ho hA => k45 hp hlt (know_but w S)  h_t22) Try.call45 rfl) rfl rfl rfl (fun _ => ?_)
    refine l_nil ?_
    refine c_seq ?_
    refine c_seq ?_
    refine c_region ?_
    refine l_val rfl rfl rfl (r_move (v := v1) rfl) ?_
    refine l_val rfl rfl rfl (r_lenFN Try.underlying59 rfl f1) ?_
    refine l_val rfl rfl rfl (r_move (v := .int .i64 0) rfl) ?_
    refine l_nil ?_
    refine c_block ?_
    refine c_fix (σ := Int × (List UInt8) × Bool) (τ := Unit) (fun next1 s => R_written_dir_l1 a1 self t17 next1 s.1 s.2.1 s.2.2) (fun s t => [(0, .pointer (some ⟨pb0, 0, none⟩)), (5, .int .i64 t17.1), (23, v1), (24, .int .i64 (a1.length : Int)), (25, .int .i64 s.1)]) (fun s t => [cellsC pb0 [str s.2.1, .bool s.2.2] 86]) (fun s t => True) (0, t22.s_, t22.big_) () [0] H45 (by exact trivial) (by exact ⟨rfl, rfl, rfl, rfl, rfl, trivial⟩) (by decide) rfl ?_
    rintro ⟨x25_2, m_3, m_4⟩ _ m1 gg H46 _
    clear H45
    replace H46 : R_written_dir_l1 a1 self t17 (it (fun next1 s => R_written_dir_l1 a1 self t17 next1 s.1 s.2.1 s.2.2) m1) x25_2 m_3 m_4 = some r := H46
    generalize hn1 : it (fun next1 s => R_written_dir_l1 a1 self t17 next1 s.1 s.2.1 s.2.2) m1 = next1 at H46
    refine c_tidyF [(0, .pointer (some ⟨pb0, 0, none⟩)), (5, .int .i64 t17.1), (23, v1), (24, .int .i64 (a1.length : Int)), (25, .int .i64 x25_2)] [cellsC pb0 [str m_3, .bool m_4] 86] rfl rfl ?_
    refine c_seq ?_
    refine c_region ?_
    refine l_val rfl rfl rfl (r_lss rfl rfl) ?_
    refine l_nil ?_
    refine c_seq ?_
    refine c_if (b := (decide (x25_2 < (a1.length : Int)))) rfl (fun hb => ?_) (fun hb => ?_)
    · have H47 := cnd_t hb H46; clear H46
      refine c_skip ?_
      refine c_meet (r := r) (σ := (List UInt8) × Bool) (τ := Unit) (fun s => R_written_dir_j2 x25_2 next1 s.1 s.2) (fun s t => [(0, .pointer (some ⟨pb0, 0, none⟩)), (5, .int .i64 t17.1), (23, v1), (24, .int .i64 (a1.length : Int)), (25, .int .i64 x25_2)]) (fun s t => [cellsC pb0 [str s.1, .bool s.2] 86]) (fun s t => True) ?_ ?_
      · refine c_block ?_
        refine c_seq ?_
        refine c_region ?_
        refine l_val rfl rfl rfl (r_move (v := .int .i64 x25_2) rfl) ?_
        obtain ⟨t28, h_t28, H50⟩ := bnd_some H47; clear H47
        refine l_val rfl rfl rfl (r_indexF Try.underlying59 Try.sizeOf113 rfl rfl f1.frs (f1.ix h_t28)) ?_
        refine l_read (fun w hF hS => run_loadGN (f := (elC h v1 6)) (i := x25_2) (sz := 6) (j := 0) (vs := [.int .i64 t28.Tag, .int .i64 t28.Value.Kind, str t28.Value.Text, (elH h v1 6 (Int.toNat x25_2) 3), (elH h v1 6 (Int.toNat x25_2) 4), (elH h v1 6 (Int.toNat x25_2) 5)]) Try.isAgg113 Try.sizeOf113 rfl rfl (f1.frs.row (hw.now hF)) (f1.ix h_t28) (rd_of (cg_tag_Entry (f1.at h_t28)) rfl)) rfl rfl rfl ?_
        refine l_alloc (cs := [.int .i64 0, .int .i64 0, str [], .slice none 0 0, .slice none 0 0, .slice none 0 0]) Try.zeroValue113 rfl rfl rfl (fun b1 => ?_)
        refine l_val rfl rfl rfl (r_assign (v := .int .i64 x25_2) rfl) ?_
        refine l_store (i := 1) (vs := [.int .i64 t28.Tag, .int .i64 t28.Value.Kind, str t28.Value.Text, (elH h v1 6 (Int.toNat x25_2) 3), (elH h v1 6 (Int.toNat x25_2) 4), (elH h v1 6 (Int.toNat x25_2) 5)]) (cs' := [.int .i64 t28.Tag, .int .i64 t28.Value.Kind, str t28.Value.Text, (elH h v1 6 (Int.toNat x25_2) 3), (elH h v1 6 (Int.toNat x25_2) 4), (elH h v1 6 (Int.toNat x25_2) 5)]) Try.sizeOf113 rfl rfl rfl rfl rfl rfl (by simp only [List.all_cons, List.all_nil, (show FrN h 6 (elH h v1 6 (Int.toNat x25_2) 5) g_tag_Entry t28.Value.Entries from (g_tag_Value_p4 (g_tag_Entry_p1 (f1.at h_t28)))).one, (show FrS h 1 (elH h v1 6 (Int.toNat x25_2) 3) (t28.Value.Ints.map e_i64) from (g_tag_Value_p2 (g_tag_Entry_p1 (f1.at h_t28)))).one, (show FrS h 2 (elH h v1 6 (Int.toNat x25_2) 4) (t28.Value.Ratios.map e_tag_Ratio) from (g_tag_Value_p3 (g_tag_Entry_p1 (f1.at h_t28)))).one] <;> rfl) rfl rfl ?_
        refine l_nil ?_
        refine c_seq ?_
        refine c_region ?_
        refine l_val rfl rfl rfl (r_move (v := .int .i64 t17.1) rfl) ?_
        obtain ⟨t31, h_t31, H51⟩ := bnd_some H50; clear H50
        refine l_val rfl rfl rfl (r_addG rfl rfl h_t31) ?_
        refine l_val rfl rfl rfl (r_move (v := .int .i64 x25_2) rfl) ?_
        obtain ⟨t33, h_t33, H52⟩ := bnd_some H51; clear H51
        refine l_val rfl rfl rfl (r_mulG rfl rfl h_t33) ?_
        obtain ⟨t34, h_t34, H53⟩ := bnd_some H52; clear H52
        refine l_val rfl rfl rfl (r_addG rfl rfl h_t34) ?_
        refine l_val rfl rfl rfl (r_assign (v := .int .i64 t34) rfl) ?_
        refine l_nil ?_
        refine c_seq ?_
        refine c_region ?_
        refine l_val rfl rfl rfl (r_move (v := .pointer (some ⟨pb0, 0, none⟩)) rfl) ?_
        refine l_val rfl rfl rfl (r_move (v := .int .i64 t34) rfl) ?_
        refine l_val rfl rfl rfl (r_field Try.runUnderlying113 rfl Try.sizeOf3 rfl rfl) ?_
        refine l_load1 (i := 1) (v := .int .i64 t28.Tag) Try.isAgg3 rfl rfl rfl rfl rfl ?_
        obtain ⟨t39, h_t39, H54⟩ := bnd_some H53; clear H53
        refine l_turn (turns_callB (i := 0) (rds := []) (G := fun x : Unit => .tuple #[]) (C := fun x : Unit => cellsC pb0 [str t39.s_, .bool t39.big_] 86) rfl (fun w L' S hF hS hi hp hlt ho hA => k45 hp hlt (know_but w S)  h_t39) Try.call45 rfl) rfl rfl rfl (fun _ => ?_)
        refine l_nil ?_
        refine c_seq ?_
        refine c_region ?_
        refine l_val rfl rfl rfl (r_move (v := .pointer (some ⟨pb0, 0, none⟩)) rfl) ?_
        refine l_val rfl rfl rfl (r_move (v := .int .i64 t34) rfl) ?_
        obtain ⟨t42, h_t42, H55⟩ := bnd_some H54; clear H54
        refine l_val rfl rfl rfl (r_addG rfl rfl h_t42) ?_
        refine l_val rfl rfl rfl (r_field Try.runUnderlying113 rfl Try.sizeOf61 rfl rfl) ?_
        refine l_val rfl rfl rfl (r_field Try.runUnderlying61 rfl Try.sizeOf3 rfl rfl) ?_
        refine l_load1 (i := 1) (v := .int .i64 t28.Value.Kind) Try.isAgg3 rfl rfl rfl rfl rfl ?_
        obtain ⟨t46, h_t46, H56⟩ := bnd_some H55; clear H55
        refine l_turn (turns_callB (i := 0) (rds := []) (G := fun x : Unit => .tuple #[]) (C := fun x : Unit => cellsC pb0 [str t46.s_, .bool t46.big_] 86) rfl (fun w L' S hF hS hi hp hlt ho hA => k45 hp hlt (know_but w S)  h_t46) Try.call45 rfl) rfl rfl rfl (fun _ => ?_)
        refine l_nil ?_
        refine c_seq ?_
        refine c_region ?_
        refine l_val rfl rfl rfl (r_move (v := .pointer (some ⟨pb0, 0, none⟩)) rfl) ?_
        refine l_val rfl rfl rfl (r_move (v := .int .i64 t34) rfl) ?_
        obtain ⟨t49, h_t49, H57⟩ := bnd_some H56; clear H56
        refine l_val rfl rfl rfl (r_addG rfl rfl h_t49) ?_
        refine l_val rfl rfl rfl (r_field Try.runUnderlying113 rfl Try.sizeOf61 rfl rfl) ?_
        refine l_loadN (i := 1) (vs := [.int .i64 t28.Value.Kind, str t28.Value.Text, (elH h v1 6 (Int.toNat x25_2) 3), (elH h v1 6 (Int.toNat x25_2) 4), (elH h v1 6 (Int.toNat x25_2) 5)]) Try.isAgg61 Try.sizeOf61 rfl rfl rfl rfl rfl ?_
        obtain ⟨t52, h_t52, H58⟩ := bnd_some H57; clear H57
        refine l_callG (fun w hF hS => k87 (know_all w) ((show FrS h 1 (elH h v1 6 (Int.toNat x25_2) 3) (t28.Value.Ints.map e_i64) from (g_tag_Value_p2 (g_tag_Entry_p1 (f1.at h_t28)))).mono (hw.now hF)) ((show FrS h 2 (elH h v1 6 (Int.toNat x25_2) 4) (t28.Value.Ratios.map e_tag_Ratio) from (g_tag_Value_p3 (g_tag_Entry_p1 (f1.at h_t28)))).mono (hw.now hF)) ((show FrN h 6 (elH h v1 6 (Int.toNat x25_2) 5) g_tag_Entry t28.Value.Entries from (g_tag_Value_p4 (g_tag_Entry_p1 (f1.at h_t28)))).mono (hw.now hF)) h_t52) Try.call87 rfl rfl rfl ?_
        obtain ⟨t53, h_t53, H59⟩ := bnd_some H58; clear H58
        refine l_turn (turns_callB (i := 0) (rds := []) (G := fun x : Unit => .tuple #[]) (C := fun x : Unit => cellsC pb0 [str t53.s_, .bool t53.big_] 86) rfl (fun w L' S hF hS hi hp hlt ho hA => k45 hp hlt (know_but w S)  h_t53) Try.call45 rfl) rfl rfl rfl (fun _ => ?_)
        refine l_nil ?_
        refine c_seq ?_
        refine c_seq ?_
        refine c_region ?_
        refine l_val rfl rfl rfl (r_field Try.runUnderlying113 rfl Try.sizeOf61 rfl rfl) ?_
        refine l_val rfl rfl rfl (r_field Try.runUnderlying61 rfl Try.sizeOf3 rfl rfl) ?_
        refine l_load1 (i := 1) (v := .int .i64 t28.Value.Kind) Try.isAgg3 rfl rfl rfl rfl rfl ?_
        refine l_val rfl rfl rfl (r_eql rfl rfl) ?_
        refine l_nil ?_
        refine c_if (b := (decide (t28.Value.Kind = 13))) rfl (fun hb => ?_) (fun hb => ?_)
        · have H60 := cnd_t hb H59; clear H59
          refine c_seq ?_
          refine c_region ?_
          refine l_val rfl rfl rfl (r_move (v := .pointer (some ⟨pb0, 0, none⟩)) rfl) ?_
          refine l_val rfl rfl rfl (r_move (v := .int .i64 t34) rfl) ?_
          obtain ⟨t60, h_t60, H61⟩ := bnd_some H60; clear H60
          refine l_val rfl rfl rfl (r_addG rfl rfl h_t60) ?_
          refine l_val rfl rfl rfl (r_move (v := .pointer (some ⟨pb0, 0, none⟩)) rfl) ?_
          refine l_val rfl rfl rfl (r_field Try.runUnderlying113 rfl Try.sizeOf61 rfl rfl) ?_
          refine l_val rfl rfl rfl (r_field Try.runUnderlying61 rfl Try.sizeOf59 rfl rfl) ?_
          refine l_load1 (i := 1) (v := (elH h v1 6 (Int.toNat x25_2) 5)) Try.isAgg59 rfl rfl rfl rfl rfl ?_
          obtain ⟨t65, h_t65, H62⟩ := bnd_some H61; clear H61
          refine l_turn (turns_callB (i := 0) (rds := []) (G := fun x : Unit => .int .i64 t65.1) (C := fun x : Unit => cellsC pb0 [str t65.2.s_, .bool t65.2.big_] 86) rfl (fun w L' S hF hS hi hp hlt ho hA => ih hp hlt (know_but w S) ((show FrN h 6 (elH h v1 6 (Int.toNat x25_2) 5) g_tag_Entry t28.Value.Entries from (g_tag_Value_p4 (g_tag_Entry_p1 (f1.at h_t28)))).mono (hw.but hF ho)) h_t65) Try.call44 rfl) rfl rfl rfl (fun _ => ?_)
          obtain ⟨t66, h_t66, H63⟩ := bnd_some H62; clear H62
          refine l_turn (turns_callB (i := 0) (rds := []) (G := fun x : Unit => .tuple #[]) (C := fun x : Unit => cellsC pb0 [str t66.s_, .bool t66.big_] 86) rfl (fun w L' S hF hS hi hp hlt ho hA => k45 hp hlt (know_but w S)  h_t66) Try.call45 rfl) rfl rfl rfl (fun _ => ?_)
          refine l_nil ?_
          refine c_exit ?_
          refine c_close (t66.s_, t66.big_) () 0 [0] (by exact ⟨rfl, rfl, rfl, rfl, rfl, trivial⟩) (by decide) rfl (by exact ⟨H63, trivial⟩) (Nat.lt_succ_self _)
        · have H64 := cnd_f hb H59; clear H59
          refine c_skip ?_
          refine c_seq ?_
          exact c_regionD (Kd.p :: Kd.p :: Kd.p :: Kd.d [0] _ :: Kd.p :: Kd.d [1] _ :: Kd.d [] _ :: Kd.p :: []) 0 mixed (by
            refine d_val rfl rfl (r_move (v := .pointer (some ⟨pb0, 0, none⟩)) rfl) ?_
            refine d_val rfl rfl (r_nilCheck rfl) ?_
            refine d_val rfl rfl (r_field Try.runUnderlying86 rfl Try.sizeOf4 rfl rfl) ?_
            refine d_load1 (i := 0) (v := .bool t53.big_) Try.isAgg4 rfl rfl rfl rfl ?_
            refine d_val rfl rfl (r_field Try.runUnderlying113 rfl Try.sizeOf61 rfl rfl) ?_
            refine d_loadN (i := 1) (vs := [.int .i64 t28.Value.Kind, str t28.Value.Text, (elH h v1 6 (Int.toNat x25_2) 3), (elH h v1 6 (Int.toNat x25_2) 4), (elH h v1 6 (Int.toNat x25_2) 5)]) Try.isAgg61 Try.sizeOf61 rfl rfl rfl rfl ?_
            have h_t73 := bnd_val H64
            have H65 := bnd_rest H64
            refine d_callD (fun w L' hF hS hi => k88 (know_all w) ((show FrS h 1 (elH h v1 6 (Int.toNat x25_2) 3) (t28.Value.Ints.map e_i64) from (g_tag_Value_p2 (g_tag_Entry_p1 (f1.at h_t28)))).mono (hw.now hF)) ((show FrS h 2 (elH h v1 6 (Int.toNat x25_2) 4) (t28.Value.Ratios.map e_tag_Ratio) from (g_tag_Value_p3 (g_tag_Entry_p1 (f1.at h_t28)))).mono (hw.now hF)) ((show FrN h 6 (elH h v1 6 (Int.toNat x25_2) 5) g_tag_Entry t28.Value.Entries from (g_tag_Value_p4 (g_tag_Entry_p1 (f1.at h_t28)))).mono (hw.now hF)) h_t73) Try.call88 rfl rfl ?_
            refine d_val rfl rfl (r_assign (v := str (val (R_octets t53.big_ t28.Value))) rfl) ?_
            refine d_nil ?_
            refine c_seq ?_
            refine c_seq ?_
            refine c_region ?_
            refine l_val rfl rfl rfl (r_move (v := str (val (R_octets t53.big_ t28.Value))) rfl) ?_
            refine l_val rfl rfl rfl (r_lenT Try.underlying9 rfl) ?_
            refine l_val rfl rfl rfl (r_gtr rfl rfl) ?_
            refine l_nil ?_
            refine c_if (b := (decide (4 < ((val (R_octets t53.big_ t28.Value)).length : Int)))) rfl (fun hb => ?_) (fun hb => ?_)
            · have H66 := cnd_t hb H65; clear H65
              refine c_seq ?_
              refine c_region ?_
              refine l_val rfl rfl rfl (r_move (v := .pointer (some ⟨pb0, 0, none⟩)) rfl) ?_
              refine l_val rfl rfl rfl (r_move (v := .int .i64 t34) rfl) ?_
              obtain ⟨t79, h_t79, H67⟩ := bnd_some H66; clear H66
              refine l_val rfl rfl rfl (r_addG rfl rfl h_t79) ?_
              refine l_val rfl rfl rfl (r_move (v := .pointer (some ⟨pb0, 0, none⟩)) rfl) ?_
              refine l_val rfl rfl rfl (r_move (v := str (val (R_octets t53.big_ t28.Value))) rfl) ?_
              obtain ⟨t82, h_t82, H68⟩ := bnd_some H67; clear H67
              refine l_turn (turns_callB (i := 0) (rds := []) (G := fun x : Unit => .int .i64 t82.1) (C := fun x : Unit => cellsC pb0 [str t82.2.s_, .bool t82.2.big_] 86) rfl (fun w L' S hF hS hi hp hlt ho hA => k85 hp hlt (know_but w S)  h_t82) Try.call85 rfl) rfl rfl rfl (fun _ => ?_)
              obtain ⟨t83, h_t83, H69⟩ := bnd_some H68; clear H68
              refine l_turn (turns_callB (i := 0) (rds := []) (G := fun x : Unit => .tuple #[]) (C := fun x : Unit => cellsC pb0 [str t83.s_, .bool t83.big_] 86) rfl (fun w L' S hF hS hi hp hlt ho hA => k45 hp hlt (know_but w S)  h_t83) Try.call45 rfl) rfl rfl rfl (fun _ => ?_)
              refine l_nil ?_
              refine c_exit ?_
              refine c_close (t83.s_, t83.big_) () 0 [0] (by exact ⟨rfl, rfl, rfl, rfl, rfl, trivial⟩) (by decide) rfl (by exact ⟨H69, trivial⟩) (Nat.lt_succ_self _)
            · have H70 := cnd_f hb H65; clear H65
              refine c_skip ?_
              exact c_regionD (Kd.p :: Kd.p :: Kd.p :: Kd.p :: Kd.d [0] _ :: Kd.p :: Kd.p :: Kd.p :: Kd.p :: Kd.p :: Kd.p :: Kd.p :: Kd.p :: Kd.d [0] _ :: Kd.p :: Kd.p :: Kd.p :: Kd.p :: Kd.p :: Kd.p :: Kd.p :: Kd.p :: Kd.p :: Kd.st 106 0 [_, _] 86 :: []) 0 mixed (by
                refine d_val rfl rfl (r_move (v := .pointer (some ⟨pb0, 0, none⟩)) rfl) ?_
                refine d_val rfl rfl (r_move (v := .pointer (some ⟨pb0, 0, none⟩)) rfl) ?_
                refine d_val rfl rfl (r_nilCheck rfl) ?_
                refine d_val rfl rfl (r_field Try.runUnderlying86 rfl Try.sizeOf9 rfl rfl) ?_
                refine d_load1 (i := 0) (v := str t53.s_) Try.isAgg9 rfl rfl rfl rfl ?_
                refine d_val rfl rfl (r_move (v := .int .i64 t34) rfl) ?_
                have h_t90 := bnd_val H70
                have H71 := bnd_rest H70
                refine d_val rfl rfl (r_addG rfl rfl h_t90) ?_
                have h_t91 := bnd_val H71
                have H72 := bnd_rest H71
                refine d_val rfl rfl (r_cutToG Try.underlying9 rfl rfl h_t91) ?_
                refine d_val rfl rfl (r_move (v := str (val (R_octets t53.big_ t28.Value))) rfl) ?_
                have h_t93 := bnd_val H72
                have H73 := bnd_rest H72
                refine d_val rfl rfl (r_concatG rfl rfl h_t93) ?_
                refine d_val rfl rfl (r_move (v := .pointer (some ⟨pb0, 0, none⟩)) rfl) ?_
                refine d_val rfl rfl (r_nilCheck rfl) ?_
                refine d_val rfl rfl (r_field Try.runUnderlying86 rfl Try.sizeOf9 rfl rfl) ?_
                refine d_load1 (i := 0) (v := str t53.s_) Try.isAgg9 rfl rfl rfl rfl ?_
                refine d_val rfl rfl (r_move (v := .int .i64 t34) rfl) ?_
                have h_t99 := bnd_val H73
                have H74 := bnd_rest H73
                refine d_val rfl rfl (r_addG rfl rfl h_t99) ?_
                refine d_val rfl rfl (r_move (v := str (val (R_octets t53.big_ t28.Value))) rfl) ?_
                refine d_val rfl rfl (r_lenT Try.underlying9 rfl) ?_
                have h_t102 := bnd_val H74
                have H75 := bnd_rest H74
                refine d_val rfl rfl (r_addG rfl rfl h_t102) ?_
                have h_t103 := bnd_val H75
                have H76 := bnd_rest H75
                refine d_val rfl rfl (r_cutFromG Try.underlying9 rfl rfl h_t103) ?_
                have h_t104 := bnd_val H76
                have H77 := bnd_rest H76
                refine d_val rfl rfl (r_concatG rfl rfl h_t104) ?_
                refine d_val rfl rfl (r_nilCheck rfl) ?_
                refine d_val rfl rfl (r_field Try.runUnderlying86 rfl Try.sizeOf9 rfl rfl) ?_
                refine d_store (i := 0) (vs := [str (val (gCat (val (gCat (val (gCut t53.s_ 0 (val (gI (t34 + 8))))) (val (R_octets t53.big_ t28.Value)))) (val (gCut t53.s_ (val (gI ((val (gI (t34 + 8))) + ((val (R_octets t53.big_ t28.Value)).length : Int)))) t53.s_.length))))]) (cs' := [str (val (gCat (val (gCat (val (gCut t53.s_ 0 (val (gI (t34 + 8))))) (val (R_octets t53.big_ t28.Value)))) (val (gCut t53.s_ (val (gI ((val (gI (t34 + 8))) + ((val (R_octets t53.big_ t28.Value)).length : Int)))) t53.s_.length)))), .bool t53.big_]) Try.sizeOf9 rfl rfl rfl rfl rfl rfl rfl rfl rfl ?_
                refine d_nil ?_
                refine c_close ((val (gCat (val (gCat (val (gCut t53.s_ 0 (val (gI (t34 + 8))))) (val (R_octets t53.big_ t28.Value)))) (val (gCut t53.s_ (val (gI ((val (gI (t34 + 8))) + ((val (R_octets t53.big_ t28.Value)).length : Int)))) t53.s_.length)))), t53.big_) () 0 [0] (by exact ⟨rfl, rfl, rfl, rfl, rfl, trivial⟩) (by decide) rfl (by exact ⟨H77, trivial⟩) (Nat.lt_succ_self _)
                ) (by kernel_rfl)
            ) (by kernel_rfl)
      · rintro ⟨m_5, m_6⟩ _ gg H48 _
        replace H48 : R_written_dir_j2 x25_2 next1 m_5 m_6 = some r := H48
        refine c_tidyF [(0, .pointer (some ⟨pb0, 0, none⟩)), (5, .int .i64 t17.1), (23, v1), (24, .int .i64 (a1.length : Int)), (25, .int .i64 x25_2)] [cellsC pb0 [str m_5, .bool m_6] 86] rfl rfl ?_
        refine c_region ?_
        obtain ⟨t107, h_t107, H49⟩ := bnd_some H48; clear H48
        refine l_val rfl rfl rfl (r_addG rfl rfl h_t107) ?_
        refine l_val rfl rfl rfl (r_move (v := .int .i64 t107) rfl) ?_
        refine l_nil ?_
        refine c_close (t107, m_5, m_6) () m1 [0] (by exact ⟨rfl, rfl, rfl, rfl, rfl, trivial⟩) (by decide) rfl (by exact ⟨(by subst hn1; exact H49), trivial⟩) (Nat.lt_succ_self _)
    · have H78 := cnd_f hb H46; clear H46
      refine c_exit ?_
      refine c_seq ?_
      refine c_region ?_
      refine l_val rfl rfl rfl (r_move (v := .int .i64 t17.1) rfl) ?_
      refine l_val rfl rfl rfl (r_assign (v := .int .i64 t17.1) rfl) ?_
      refine l_nil ?_
      refine c_ret ?_
      obtain rfl := Option.some.inj H78
      refine ret1 (v := .int .i64 t17.1) rfl rfl (finX () (i := 0) rfl rfl (Imp.refl _))
theorem k44 {a0 : T_tintref2_written} {pb0 : Nat} {a1 : (List T_tag_Entry)} {v1 : Value} {r : Int × T_tintref2_written} {w : World} {h : Heap} {S : Nat → Prop} (hcs : (cellsC pb0 [str a0.s_, .bool a0.big_] 86).P S w) (hlt : ∀ b, S b → b < w.heap.size) (hw : Know h w S) (f1 : FrN h 6 v1 g_tag_Entry a1) (H : R_written_dir a0 a1 = some r) : Does Try.prog 44 (List.toArray [.pointer (some ⟨pb0, 0, none⟩), v1]) w (fun v w' => ∃ x : Unit, v = (.int .i64 r.1) ∧ Turn w w' S (cellsC pb0 [str r.2.s_, .bool r.2.big_] 86)) := by
  obtain ⟨mm, hm⟩ := fix_it (show fix (fun (self : (T_tintref2_written × (List T_tag_Entry)) → Option (Int × T_tintref2_written)) (s : T_tintref2_written × (List T_tag_Entry)) => R_written_dir_body self s.1 s.2) (a0, a1) = some r from H)
  exact k44_it mm hcs hlt hw f1 hm
theorem k8 {a0 : T_tag_File} {v0_1 : Value} {r : (List UInt8)} {w : World} {h : Heap} (hw : Know h w noS) (f0_1 : FrN h 1 v0_1 gs_tag_Entry a0.Dirs) (H : R_Octets a0 = some r) : Does Try.prog 8 (List.toArray [.agg #[.bool a0.Big, v0_1]]) w (fun v w' => v = (str r) ∧ Grow w w') := by
  refine enter (n := 59) Try.func8 rfl rfl rfl noS [] (Sat.nil _ _) ?_
  refine c_seq ?_
  refine c_region ?_
  refine l_box (cs := [.bool a0.Big, v0_1]) rfl rfl rfl rfl (fun b2 => ?_)
  refine l_val rfl rfl rfl (r_assign (v := str []) rfl) ?_
  refine l_nil ?_
  refine c_seq ?_
  refine c_region ?_
  refine l_val rfl rfl rfl (r_field Try.runUnderlying24 rfl Try.sizeOf4 rfl rfl) ?_
  refine l_load1 (i := 0) (v := .bool a0.Big) Try.isAgg4 rfl rfl rfl rfl rfl ?_
  refine l_val rfl rfl rfl (r_build (pl := #[(0, 1), (1, 1)]) (ps := [(1, .bool a0.Big)]) (cells := #[str [], .bool a0.Big]) Try.zeroValue86 Try.runUnderlying86 (fun w => by kernel_rfl) rfl rfl) ?_
  refine l_box (cs := [str [], .bool a0.Big]) rfl rfl rfl rfl (fun b3 => ?_)
  refine l_val rfl rfl rfl (r_assign (v := .pointer (some ⟨b3, 0, none⟩)) rfl) ?_
  refine l_nil ?_
  refine c_seq ?_
  refine c_region ?_
  refine l_val rfl rfl rfl (r_move (v := .pointer (some ⟨b3, 0, none⟩)) rfl) ?_
  refine l_val rfl rfl rfl (r_nilCheck rfl) ?_
  refine l_val rfl rfl rfl (r_field Try.runUnderlying86 rfl Try.sizeOf9 rfl rfl) ?_
  refine l_store (i := 1) (vs := [str [73, 73]]) (cs' := [str [73, 73], .bool a0.Big]) Try.sizeOf9 rfl rfl rfl rfl rfl rfl rfl rfl rfl ?_
  refine l_nil ?_
  refine c_meet (r := r) (σ := (List UInt8)) (τ := Unit) (fun s => R_Octets_j1 a0 s) (fun s t => [(1, .pointer (some ⟨b2, 0, none⟩)), (3, .pointer (some ⟨b3, 0, none⟩))]) (fun s t => [cellsC b2 [.bool a0.Big, v0_1] 24, cellsC b3 [str s, .bool a0.Big] 86]) (fun s t => True) ?_ ?_
  · refine c_seq ?_
    refine c_region ?_
    refine l_val rfl rfl rfl (r_field Try.runUnderlying24 rfl Try.sizeOf4 rfl rfl) ?_
    refine l_load1 (i := 0) (v := .bool a0.Big) Try.isAgg4 rfl rfl rfl rfl rfl ?_
    refine l_nil ?_
    refine c_if (b := a0.Big) rfl (fun hb => ?_) (fun hb => ?_)
    · have H35 := cnd_t hb H; clear H
      refine c_region ?_
      refine l_val rfl rfl rfl (r_move (v := .pointer (some ⟨b3, 0, none⟩)) rfl) ?_
      refine l_val rfl rfl rfl (r_nilCheck rfl) ?_
      refine l_val rfl rfl rfl (r_field Try.runUnderlying86 rfl Try.sizeOf9 rfl rfl) ?_
      refine l_store (i := 1) (vs := [str [77, 77]]) (cs' := [str [77, 77], .bool a0.Big]) Try.sizeOf9 rfl rfl rfl rfl rfl rfl rfl rfl rfl ?_
      refine l_nil ?_
      refine c_close [77, 77] () 0 [0, 1] (by exact ⟨rfl, rfl, trivial⟩) (by decide) rfl (by exact ⟨H35, trivial⟩) (Nat.lt_succ_self _)
    · have H36 := cnd_f hb H; clear H
      refine c_skip ?_
      refine c_close [73, 73] () 0 [0, 1] (by exact ⟨rfl, rfl, trivial⟩) (by decide) rfl (by exact ⟨H36, trivial⟩) (Nat.lt_succ_self _)
  · rintro m _ gg H19 _
    replace H19 : R_Octets_j1 a0 m = some r := H19
    refine c_tidyF [(1, .pointer (some ⟨b2, 0, none⟩)), (3, .pointer (some ⟨b3, 0, none⟩))] [cellsC b2 [.bool a0.Big, v0_1] 24, cellsC b3 [str m, .bool a0.Big] 86] rfl rfl ?_
    refine c_seq ?_
    exact c_regionD (Kd.p :: Kd.p :: Kd.p :: Kd.d [1] _ :: Kd.p :: Kd.d [0] _ :: Kd.d [] _ :: Kd.p :: Kd.d [0] _ :: Kd.d [] _ :: Kd.p :: Kd.p :: Kd.p :: Kd.p :: Kd.st 33 1 [_, _] 86 :: []) 0 mixed (by
      refine d_val rfl rfl (r_move (v := .pointer (some ⟨b3, 0, none⟩)) rfl) ?_
      refine d_val rfl rfl (r_nilCheck rfl) ?_
      refine d_val rfl rfl (r_field Try.runUnderlying86 rfl Try.sizeOf9 rfl rfl) ?_
      refine d_load1 (i := 1) (v := str m) Try.isAgg9 rfl rfl rfl rfl ?_
      refine d_val rfl rfl (r_field Try.runUnderlying24 rfl Try.sizeOf4 rfl rfl) ?_
      refine d_load1 (i := 0) (v := .bool a0.Big) Try.isAgg4 rfl rfl rfl rfl ?_
      have h_t26 := bnd_val H19
      have H20 := bnd_rest H19
      refine d_call (k43 h_t26) Try.call43 rfl rfl ?_
      refine d_val rfl rfl (r_field Try.runUnderlying24 rfl Try.sizeOf4 rfl rfl) ?_
      refine d_load1 (i := 0) (v := .bool a0.Big) Try.isAgg4 rfl rfl rfl rfl ?_
      have h_t29 := bnd_val H20
      have H21 := bnd_rest H20
      refine d_call (k43 h_t29) Try.call43 rfl rfl ?_
      have h_t30 := bnd_val H21
      have H22 := bnd_rest H21
      refine d_val rfl rfl (r_concatG rfl rfl h_t30) ?_
      have h_t31 := bnd_val H22
      have H23 := bnd_rest H22
      refine d_val rfl rfl (r_concatG rfl rfl h_t31) ?_
      refine d_val rfl rfl (r_nilCheck rfl) ?_
      refine d_val rfl rfl (r_field Try.runUnderlying86 rfl Try.sizeOf9 rfl rfl) ?_
      refine d_store (i := 1) (vs := [str (val (gCat m (val (gCat (val (R_number a0.Big 42 2)) (val (R_number a0.Big 0 4))))))]) (cs' := [str (val (gCat m (val (gCat (val (R_number a0.Big 42 2)) (val (R_number a0.Big 0 4)))))), .bool a0.Big]) Try.sizeOf9 rfl rfl rfl rfl rfl rfl rfl rfl rfl ?_
      refine d_nil ?_
      refine c_seq ?_
      refine c_region ?_
      refine l_val rfl rfl rfl (r_assign (v := .int .i64 4) rfl) ?_
      refine l_nil ?_
      refine c_meet (r := r) (σ := (List UInt8) × Bool) (τ := Unit) (fun s => R_Octets_j2 s.1 s.2) (fun s t => [(3, .pointer (some ⟨b3, 0, none⟩))]) (fun s t => [cellsC b3 [str s.1, .bool s.2] 86]) (fun s t => True) ?_ ?_
      · refine c_seq ?_
        refine c_region ?_
        refine l_val rfl rfl rfl (r_field Try.runUnderlying24 rfl Try.sizeOf22 rfl rfl) ?_
        refine l_load1 (i := 0) (v := v0_1) Try.isAgg22 rfl rfl rfl rfl rfl ?_
        refine l_val rfl rfl rfl (r_lenFN Try.underlying22 rfl f0_1) ?_
        refine l_val rfl rfl rfl (r_move (v := .int .i64 0) rfl) ?_
        refine l_nil ?_
        refine c_block ?_
        refine c_sel [1] [cellsC b3 [str (val (gCat m (val (gCat (val (R_number a0.Big 42 2)) (val (R_number a0.Big 0 4)))))), .bool a0.Big] 86] rfl (by decide) ?_
        refine c_fix (σ := Int × Int × (List UInt8) × Bool) (τ := Unit) (fun next3 s => R_Octets_l3 a0 next3 s.1 s.2.1 s.2.2.1 s.2.2.2) (fun s t => [(3, .pointer (some ⟨b3, 0, none⟩)), (4, .int .i64 s.1), (35, v0_1), (36, .int .i64 (a0.Dirs.length : Int)), (37, .int .i64 s.2.1)]) (fun s t => [cellsC b3 [str s.2.2.1, .bool s.2.2.2] 86]) (fun s t => True) (4, 0, (val (gCat m (val (gCat (val (R_number a0.Big 42 2)) (val (R_number a0.Big 0 4)))))), a0.Big) () [0] H23 (by exact trivial) (by exact ⟨rfl, rfl, rfl, rfl, rfl, trivial⟩) (by decide) rfl ?_
        rintro ⟨x4_2, x37_2, m_6, m_7⟩ _ m3 gg H25 _
        clear H23
        replace H25 : R_Octets_l3 a0 (it (fun next3 s => R_Octets_l3 a0 next3 s.1 s.2.1 s.2.2.1 s.2.2.2) m3) x4_2 x37_2 m_6 m_7 = some r := H25
        generalize hn3 : it (fun next3 s => R_Octets_l3 a0 next3 s.1 s.2.1 s.2.2.1 s.2.2.2) m3 = next3 at H25
        refine c_tidyF [(3, .pointer (some ⟨b3, 0, none⟩)), (4, .int .i64 x4_2), (35, v0_1), (36, .int .i64 (a0.Dirs.length : Int)), (37, .int .i64 x37_2)] [cellsC b3 [str m_6, .bool m_7] 86] rfl rfl ?_
        refine c_seq ?_
        refine c_region ?_
        refine l_val rfl rfl rfl (r_lss rfl rfl) ?_
        refine l_nil ?_
        refine c_seq ?_
        refine c_if (b := (decide (x37_2 < (a0.Dirs.length : Int)))) rfl (fun hb => ?_) (fun hb => ?_)
        · have H26 := cnd_t hb H25; clear H25
          refine c_skip ?_
          refine c_seq ?_
          refine c_block ?_
          refine c_seq ?_
          refine c_region ?_
          obtain ⟨t39, h_t39, H27⟩ := bnd_some H26; clear H26
          refine l_val rfl rfl rfl (r_indexF Try.underlying22 Try.sizeOf59 rfl rfl f0_1.frs (f0_1.ix h_t39)) ?_
          refine l_read (fun w hF hS => run_loadG1 (f := (elC h v0_1 1)) (i := x37_2) (sz := 1) (j := 0) (v := (elH h v0_1 1 (Int.toNat x37_2) 0)) Try.isAgg59 rfl rfl (f0_1.frs.row (hw.now hF)) (f0_1.ix h_t39) (rg_of (cgs_tag_Entry (f0_1.at h_t39)) rfl)) rfl rfl rfl ?_
          refine l_val rfl rfl rfl (r_assign (v := (elH h v0_1 1 (Int.toNat x37_2) 0)) rfl) ?_
          refine l_nil ?_
          refine c_seq ?_
          refine c_region ?_
          refine l_val rfl rfl rfl (r_move (v := .pointer (some ⟨b3, 0, none⟩)) rfl) ?_
          refine l_val rfl rfl rfl (r_move (v := (elH h v0_1 1 (Int.toNat x37_2) 0)) rfl) ?_
          obtain ⟨t43, h_t43, H28⟩ := bnd_some H27; clear H27
          refine l_turn (turns_callB (i := 0) (rds := []) (G := fun x : Unit => .int .i64 t43.1) (C := fun x : Unit => cellsC b3 [str t43.2.s_, .bool t43.2.big_] 86) rfl (fun w L' S hF hS hi hp hlt ho hA => k44 hp hlt (know_but w S) ((show FrN h 6 (elH h v0_1 1 (Int.toNat x37_2) 0) g_tag_Entry t39 from (f0_1.at h_t39)).mono (hw.but hF ho)) h_t43) Try.call44 rfl) rfl rfl rfl (fun _ => ?_)
          refine l_val rfl rfl rfl (r_assign (v := .int .i64 t43.1) rfl) ?_
          refine l_nil ?_
          refine c_seq ?_
          refine c_region ?_
          refine l_val rfl rfl rfl (r_move (v := .pointer (some ⟨b3, 0, none⟩)) rfl) ?_
          refine l_val rfl rfl rfl (r_move (v := .int .i64 x4_2) rfl) ?_
          refine l_val rfl rfl rfl (r_move (v := .int .i64 t43.1) rfl) ?_
          obtain ⟨t47, h_t47, H29⟩ := bnd_some H28; clear H28
          refine l_turn (turns_callB (i := 0) (rds := []) (G := fun x : Unit => .tuple #[]) (C := fun x : Unit => cellsC b3 [str t47.s_, .bool t47.big_] 86) rfl (fun w L' S hF hS hi hp hlt ho hA => k45 hp hlt (know_but w S)  h_t47) Try.call45 rfl) rfl rfl rfl (fun _ => ?_)
          refine l_nil ?_
          refine c_region ?_
          refine l_val rfl rfl rfl (r_move (v := .int .i64 t43.1) rfl) ?_
          obtain ⟨t49, h_t49, H30⟩ := bnd_some H29; clear H29
          refine l_val rfl rfl rfl (r_addG rfl rfl h_t49) ?_
          refine l_val rfl rfl rfl (r_move (v := (elH h v0_1 1 (Int.toNat x37_2) 0)) rfl) ?_
          refine l_val rfl rfl rfl (r_lenFN Try.underlying59 rfl (show FrN h 6 (elH h v0_1 1 (Int.toNat x37_2) 0) g_tag_Entry t39 from (f0_1.at h_t39))) ?_
          obtain ⟨t52, h_t52, H31⟩ := bnd_some H30; clear H30
          refine l_val rfl rfl rfl (r_mulG rfl rfl h_t52) ?_
          obtain ⟨t53, h_t53, H32⟩ := bnd_some H31; clear H31
          refine l_val rfl rfl rfl (r_addG rfl rfl h_t53) ?_
          refine l_val rfl rfl rfl (r_assign (v := .int .i64 t53) rfl) ?_
          refine l_nil ?_
          refine c_region ?_
          obtain ⟨t54, h_t54, H33⟩ := bnd_some H32; clear H32
          refine l_val rfl rfl rfl (r_addG rfl rfl h_t54) ?_
          refine l_val rfl rfl rfl (r_move (v := .int .i64 t54) rfl) ?_
          refine l_nil ?_
          refine c_close (t53, t54, t47.s_, t47.big_) () m3 [0] (by exact ⟨rfl, rfl, rfl, rfl, rfl, trivial⟩) (by decide) rfl (by exact ⟨(by subst hn3; exact H33), trivial⟩) (Nat.lt_succ_self _)
        · have H34 := cnd_f hb H25; clear H25
          refine c_exit ?_
          refine c_close (m_6, m_7) () 0 [0] (by exact ⟨rfl, trivial⟩) (by decide) rfl (by exact ⟨H34, trivial⟩) (Nat.lt_succ_self _)
      · rintro ⟨m_2, m_3⟩ _ gg H24 _
        replace H24 : R_Octets_j2 m_2 m_3 = some r := H24
        refine c_tidyF [(3, .pointer (some ⟨b3, 0, none⟩))] [cellsC b3 [str m_2, .bool m_3] 86] rfl rfl ?_
        refine c_seq ?_
        refine c_region ?_
        refine l_val rfl rfl rfl (r_move (v := .pointer (some ⟨b3, 0, none⟩)) rfl) ?_
        refine l_val rfl rfl rfl (r_nilCheck rfl) ?_
        refine l_val rfl rfl rfl (r_field Try.runUnderlying86 rfl Try.sizeOf9 rfl rfl) ?_
        refine l_load1 (i := 0) (v := str m_2) Try.isAgg9 rfl rfl rfl rfl rfl ?_
        refine l_val rfl rfl rfl (r_assign (v := str m_2) rfl) ?_
        refine l_nil ?_
        refine c_ret ?_
        obtain rfl := Option.some.inj H24
        refine ret1 (v := str m_2) rfl rfl (fin rfl)
      ) (by kernel_rfl)
theorem k80 {a0 : Int} {r : Int × Int} (H : R_limits a0 = some r) : Ret Try.prog 80 [.int .i64 a0] (.tuple #[.int .i64 r.1, .int .i64 r.2]) := by
  refine enterRet (n := 11) Try.func80 rfl rfl rfl (fun wd => ?_)
  refine c_seq ?_
  refine c_region ?_
  refine l_val rfl rfl rfl (r_assign (v := .int .i64 0) rfl) ?_
  refine l_val rfl rfl rfl (r_assign (v := .int .i64 0) rfl) ?_
  refine l_nil ?_
  refine c_seq ?_
  refine c_seq ?_
  refine c_region ?_
  refine l_val rfl rfl rfl (r_move (v := .int .i64 a0) rfl) ?_
  refine l_nil ?_
  refine c_block ?_
  refine c_seq ?_
  refine c_region ?_
  refine l_val rfl rfl rfl (r_eql rfl rfl) ?_
  refine l_val rfl rfl rfl (r_assign (v := .bool (decide (a0 = 1))) rfl) ?_
  refine l_nil ?_
  refine c_if (b := (decide (a0 = 1))) rfl (fun hb => ?_) (fun hb => ?_)
  · have H7 := cnd_t hb H; clear H
    refine c_seq ?_
    refine c_region ?_
    refine l_val rfl rfl rfl (r_assign (v := .int .i64 0) rfl) ?_
    refine l_val rfl rfl rfl (r_assign (v := .int .i64 255) rfl) ?_
    refine l_nil ?_
    refine c_ret ?_
    obtain rfl := Option.some.inj H7
    refine ret2 (v1 := .int .i64 0) (v2 := .int .i64 255) rfl rfl rfl (fin rfl)
  · have H8 := cnd_f hb H; clear H
    refine c_seq ?_
    refine c_region ?_
    refine l_val rfl rfl rfl (r_eql rfl rfl) ?_
    refine l_val rfl rfl rfl (r_assign (v := .bool (decide (a0 = 3))) rfl) ?_
    refine l_nil ?_
    refine c_if (b := (decide (a0 = 3))) rfl (fun hb => ?_) (fun hb => ?_)
    · have H9 := cnd_t hb H8; clear H8
      refine c_seq ?_
      refine c_region ?_
      refine l_val rfl rfl rfl (r_assign (v := .int .i64 0) rfl) ?_
      refine l_val rfl rfl rfl (r_assign (v := .int .i64 65535) rfl) ?_
      refine l_nil ?_
      refine c_ret ?_
      obtain rfl := Option.some.inj H9
      refine ret2 (v1 := .int .i64 0) (v2 := .int .i64 65535) rfl rfl rfl (fin rfl)
    · have H10 := cnd_f hb H8; clear H8
      refine c_seq ?_
      refine c_region ?_
      refine l_val rfl rfl rfl (r_eql rfl rfl) ?_
      refine l_val rfl rfl rfl (r_assign (v := .bool (decide (a0 = 9))) rfl) ?_
      refine l_nil ?_
      refine c_if (b := (decide (a0 = 9))) rfl (fun hb => ?_) (fun hb => ?_)
      · have H11 := cnd_t hb H10; clear H10
        refine c_seq ?_
        refine c_region ?_
        refine l_val rfl rfl rfl (r_assign (v := .int .i64 (-2147483648)) rfl) ?_
        refine l_val rfl rfl rfl (r_assign (v := .int .i64 2147483647) rfl) ?_
        refine l_nil ?_
        refine c_ret ?_
        obtain rfl := Option.some.inj H11
        refine ret2 (v1 := .int .i64 (-2147483648)) (v2 := .int .i64 2147483647) rfl rfl rfl (fin rfl)
      · have H12 := cnd_f hb H10; clear H10
        refine c_skip ?_
        refine c_seq ?_
        refine c_region ?_
        refine l_val rfl rfl rfl (r_assign (v := .int .i64 0) rfl) ?_
        refine l_val rfl rfl rfl (r_assign (v := .int .i64 4294967295) rfl) ?_
        refine l_nil ?_
        refine c_ret ?_
        obtain rfl := Option.some.inj H12
        refine ret2 (v1 := .int .i64 0) (v2 := .int .i64 4294967295) rfl rfl rfl (fin rfl)
theorem ext134 (s : List UInt8) (c r : Int) (h : gIxB s c = some r) (w : World) : (callFunc 134 (List.toArray [str s, .int .u8 c])).run Try.prog w = .ok (.value (.int .i64 r)) w := by
  have h0 : (callFunc 134 #[str s, .int .u8 c]).run Try.prog w = (do pure (.value (← Extern.BytealgIndexByte.indexByte #[str s, .int .u8 c])) : Sem Next).run Try.prog w := by kernel_rfl
  rw [h0]
  simp only [Sem.run_bind, Go.Lx.run_ixB h, Result.andThen_ok, Sem.run_pure]

theorem k113 {a0 : (List UInt8)} {a1 : Int} {r : Int} (H : internal_stringslite_IndexByte a0 a1 = some r) : Ret Try.prog 113 [str a0, .int .u8 a1] (.int .i64 r) := by
  refine enterRet (n := 8) Try.func113 rfl rfl rfl (fun wd => ?_)
  refine c_seq ?_
  refine c_region ?_
  refine l_val rfl rfl rfl (r_assign (v := .int .i64 0) rfl) ?_
  refine l_nil ?_
  refine c_seq ?_
  refine c_region ?_
  refine l_val rfl rfl rfl (r_move (v := str a0) rfl) ?_
  refine l_val rfl rfl rfl (r_move (v := .int .u8 a1) rfl) ?_
  obtain ⟨t7, h_t7, H2⟩ := bnd_some H; clear H
  refine l_val rfl rfl rfl (r_ext (args := [str a0, .int .u8 a1]) (ext134 _ _ _ h_t7) rfl) ?_
  refine l_val rfl rfl rfl (r_assign (v := .int .i64 t7) rfl) ?_
  refine l_nil ?_
  refine c_ret ?_
  obtain rfl := Option.some.inj H2
  refine ret1 (v := .int .i64 t7) rfl rfl (fin rfl)
theorem k81 {a0 : (List UInt8)} {a1 : Int} {r : Int} (H : strings_IndexByte a0 a1 = some r) : Ret Try.prog 81 [str a0, .int .u8 a1] (.int .i64 r) := by
  refine enterRet (n := 8) Try.func81 rfl rfl rfl (fun wd => ?_)
  refine c_seq ?_
  refine c_region ?_
  refine l_val rfl rfl rfl (r_assign (v := .int .i64 0) rfl) ?_
  refine l_nil ?_
  refine c_seq ?_
  refine c_region ?_
  refine l_val rfl rfl rfl (r_move (v := str a0) rfl) ?_
  refine l_val rfl rfl rfl (r_move (v := .int .u8 a1) rfl) ?_
  obtain ⟨t7, h_t7, H2⟩ := bnd_some H; clear H
  refine l_call (k113 h_t7) Try.call113 rfl rfl rfl ?_
  refine l_val rfl rfl rfl (r_assign (v := .int .i64 t7) rfl) ?_
  refine l_nil ?_
  refine c_ret ?_
  obtain rfl := Option.some.inj H2
  refine ret1 (v := .int .i64 t7) rfl rfl (fin rfl)
theorem k39 {a0 : T_tag_Value} {v0_2 : Value} {v0_3 : Value} {v0_4 : Value} {r : Int} {w : World} {h : Heap} (hw : Know h w noS) (f0_2 : FrS h 1 v0_2 (a0.Ints.map e_i64)) (f0_3 : FrS h 2 v0_3 (a0.Ratios.map e_tag_Ratio)) (f0_4 : FrN h 6 v0_4 g_tag_Entry a0.Entries) (H : R_ValueFault a0 = some r) : Does Try.prog 39 (List.toArray [.agg #[.int .i64 a0.Kind, str a0.Text, v0_2, v0_3, v0_4]]) w (fun v w' => v = (.int .i64 r) ∧ Grow w w') := by
  refine enter (n := 139) Try.func39 rfl rfl rfl noS [] (Sat.nil _ _) ?_
  refine c_seq ?_
  refine c_region ?_
  refine l_box (cs := [.int .i64 a0.Kind, str a0.Text, v0_2, v0_3, v0_4]) rfl rfl rfl rfl (fun b2 => ?_)
  refine l_val rfl rfl rfl (r_assign (v := .int .i64 0) rfl) ?_
  refine l_nil ?_
  refine c_meet (r := r) (σ := Bool × Bool) (τ := Unit) (fun s => R_ValueFault_j1 a0 s.1 s.2) (fun s t => [(1, .pointer (some ⟨b2, 0, none⟩)), (3, .bool s.1), (4, .bool s.2)]) (fun s t => [cellsC b2 [.int .i64 a0.Kind, str a0.Text, v0_2, v0_3, v0_4] 61]) (fun s t => True) ?_ ?_
  · exact c_regionD (Kd.p :: Kd.d [0] _ :: Kd.p :: Kd.p :: Kd.p :: Kd.d [0] _ :: Kd.p :: Kd.p :: Kd.p :: Kd.d [0] _ :: Kd.p :: Kd.p :: Kd.p :: Kd.d [0] _ :: Kd.p :: Kd.p :: Kd.p :: Kd.p :: Kd.d [0] _ :: Kd.p :: Kd.p :: Kd.p :: Kd.p :: Kd.d [0] _ :: Kd.p :: Kd.p :: Kd.p :: Kd.p :: []) 0 mixed (by
      refine d_val rfl rfl (r_field Try.runUnderlying61 rfl Try.sizeOf3 rfl rfl) ?_
      refine d_load1 (i := 0) (v := .int .i64 a0.Kind) Try.isAgg3 rfl rfl rfl rfl ?_
      refine d_val rfl rfl (r_eql rfl rfl) ?_
      refine d_val rfl rfl (r_move (v := .bool (decide (a0.Kind = 2))) rfl) ?_
      refine splitS (fun hb => ?_) (fun hb => ?_)
      · have H141 := cnd_t hb H
        refine d_pass rfl rfl ?_
        refine d_pass rfl rfl ?_
        refine d_pass rfl rfl ?_
        refine d_val rfl rfl (r_pickT (v := .bool true) rfl rfl) ?_
        refine d_val rfl rfl (r_field Try.runUnderlying61 rfl Try.sizeOf3 rfl rfl) ?_
        refine d_load1 (i := 0) (v := .int .i64 a0.Kind) Try.isAgg3 rfl rfl rfl rfl ?_
        refine d_val rfl rfl (r_eql rfl rfl) ?_
        refine d_val rfl rfl (r_move (v := .bool (decide (a0.Kind = 1))) rfl) ?_
        refine splitS (fun hb => ?_) (fun hb => ?_)
        · have H142 := cnd_t hb H141
          refine d_pass rfl rfl ?_
          refine d_pass rfl rfl ?_
          refine d_pass rfl rfl ?_
          refine d_val rfl rfl (r_pickT (v := .bool true) rfl rfl) ?_
          refine d_val rfl rfl (r_move (v := .bool true) rfl) ?_
          refine d_pass rfl rfl ?_
          refine d_pass rfl rfl ?_
          refine d_pass rfl rfl ?_
          refine d_val rfl rfl (r_pickT (v := .bool true) rfl rfl) ?_
          refine d_val rfl rfl (r_move (v := .bool true) rfl) ?_
          refine d_pass rfl rfl ?_
          refine d_pass rfl rfl ?_
          refine d_pass rfl rfl ?_
          refine d_val rfl rfl (r_pickT (v := .bool true) rfl rfl) ?_
          refine d_val rfl rfl (r_assign (v := .bool true) rfl) ?_
          refine d_val rfl rfl (r_assign (v := .bool true) rfl) ?_
          refine d_nil ?_
          refine c_close (true, true) () 0 [0] (by exact ⟨rfl, rfl, rfl, trivial⟩) (by decide) rfl (by exact ⟨H142, trivial⟩) (Nat.lt_succ_self _)
        · have H143 := cnd_f hb H141
          refine d_val rfl rfl (r_field Try.runUnderlying61 rfl Try.sizeOf3 rfl rfl) ?_
          refine d_load1 (i := 0) (v := .int .i64 a0.Kind) Try.isAgg3 rfl rfl rfl rfl ?_
          refine d_val rfl rfl (r_eql rfl rfl) ?_
          refine d_val rfl rfl (r_pickF (v := .bool (decide (a0.Kind = 3))) rfl rfl) ?_
          refine d_val rfl rfl (r_move (v := .bool (decide (a0.Kind = 3))) rfl) ?_
          refine splitS (fun hb => ?_) (fun hb => ?_)
          · have H144 := cnd_t hb H143
            refine d_pass rfl rfl ?_
            refine d_pass rfl rfl ?_
            refine d_pass rfl rfl ?_
            refine d_val rfl rfl (r_pickT (v := .bool true) rfl rfl) ?_
            refine d_val rfl rfl (r_move (v := .bool true) rfl) ?_
            refine d_pass rfl rfl ?_
            refine d_pass rfl rfl ?_
            refine d_pass rfl rfl ?_
            refine d_val rfl rfl (r_pickT (v := .bool true) rfl rfl) ?_
            refine d_val rfl rfl (r_assign (v := .bool true) rfl) ?_
            refine d_val rfl rfl (r_assign (v := .bool true) rfl) ?_
            refine d_nil ?_
            refine c_close (true, true) () 0 [0] (by exact ⟨rfl, rfl, rfl, trivial⟩) (by decide) rfl (by exact ⟨H144, trivial⟩) (Nat.lt_succ_self _)
          · have H145 := cnd_f hb H143
            refine d_val rfl rfl (r_field Try.runUnderlying61 rfl Try.sizeOf3 rfl rfl) ?_
            refine d_load1 (i := 0) (v := .int .i64 a0.Kind) Try.isAgg3 rfl rfl rfl rfl ?_
            refine d_val rfl rfl (r_eql rfl rfl) ?_
            refine d_val rfl rfl (r_pickF (v := .bool (decide (a0.Kind = 4))) rfl rfl) ?_
            refine d_val rfl rfl (r_move (v := .bool (decide (a0.Kind = 4))) rfl) ?_
            refine splitS (fun hb => ?_) (fun hb => ?_)
            · have H146 := cnd_t hb H145
              refine d_pass rfl rfl ?_
              refine d_pass rfl rfl ?_
              refine d_pass rfl rfl ?_
              refine d_val rfl rfl (r_pickT (v := .bool true) rfl rfl) ?_
              refine d_val rfl rfl (r_assign (v := .bool true) rfl) ?_
              refine d_val rfl rfl (r_assign (v := .bool true) rfl) ?_
              refine d_nil ?_
              refine c_close (true, true) () 0 [0] (by exact ⟨rfl, rfl, rfl, trivial⟩) (by decide) rfl (by exact ⟨H146, trivial⟩) (Nat.lt_succ_self _)
            · have H147 := cnd_f hb H145
              refine d_val rfl rfl (r_field Try.runUnderlying61 rfl Try.sizeOf3 rfl rfl) ?_
              refine d_load1 (i := 0) (v := .int .i64 a0.Kind) Try.isAgg3 rfl rfl rfl rfl ?_
              refine d_val rfl rfl (r_eql rfl rfl) ?_
              refine d_val rfl rfl (r_pickF (v := .bool (decide (a0.Kind = 9))) rfl rfl) ?_
              refine d_val rfl rfl (r_assign (v := .bool true) rfl) ?_
              refine d_val rfl rfl (r_assign (v := .bool (decide (a0.Kind = 9))) rfl) ?_
              refine d_nil ?_
              refine c_close (true, (decide (a0.Kind = 9))) () 0 [0] (by exact ⟨rfl, rfl, rfl, trivial⟩) (by decide) rfl (by exact ⟨H147, trivial⟩) (Nat.lt_succ_self _)
      · have H148 := cnd_f hb H
        refine d_val rfl rfl (r_field Try.runUnderlying61 rfl Try.sizeOf3 rfl rfl) ?_
        refine d_load1 (i := 0) (v := .int .i64 a0.Kind) Try.isAgg3 rfl rfl rfl rfl ?_
        refine d_val rfl rfl (r_eql rfl rfl) ?_
        refine d_val rfl rfl (r_pickF (v := .bool (decide (a0.Kind = 7))) rfl rfl) ?_
        refine d_val rfl rfl (r_field Try.runUnderlying61 rfl Try.sizeOf3 rfl rfl) ?_
        refine d_load1 (i := 0) (v := .int .i64 a0.Kind) Try.isAgg3 rfl rfl rfl rfl ?_
        refine d_val rfl rfl (r_eql rfl rfl) ?_
        refine d_val rfl rfl (r_move (v := .bool (decide (a0.Kind = 1))) rfl) ?_
        refine splitS (fun hb => ?_) (fun hb => ?_)
        · have H149 := cnd_t hb H148
          refine d_pass rfl rfl ?_
          refine d_pass rfl rfl ?_
          refine d_pass rfl rfl ?_
          refine d_val rfl rfl (r_pickT (v := .bool true) rfl rfl) ?_
          refine d_val rfl rfl (r_move (v := .bool true) rfl) ?_
          refine d_pass rfl rfl ?_
          refine d_pass rfl rfl ?_
          refine d_pass rfl rfl ?_
          refine d_val rfl rfl (r_pickT (v := .bool true) rfl rfl) ?_
          refine d_val rfl rfl (r_move (v := .bool true) rfl) ?_
          refine d_pass rfl rfl ?_
          refine d_pass rfl rfl ?_
          refine d_pass rfl rfl ?_
          refine d_val rfl rfl (r_pickT (v := .bool true) rfl rfl) ?_
          refine d_val rfl rfl (r_assign (v := .bool (decide (a0.Kind = 7))) rfl) ?_
          refine d_val rfl rfl (r_assign (v := .bool true) rfl) ?_
          refine d_nil ?_
          refine c_close ((decide (a0.Kind = 7)), true) () 0 [0] (by exact ⟨rfl, rfl, rfl, trivial⟩) (by decide) rfl (by exact ⟨H149, trivial⟩) (Nat.lt_succ_self _)
        · have H150 := cnd_f hb H148
          refine d_val rfl rfl (r_field Try.runUnderlying61 rfl Try.sizeOf3 rfl rfl) ?_
          refine d_load1 (i := 0) (v := .int .i64 a0.Kind) Try.isAgg3 rfl rfl rfl rfl ?_
          refine d_val rfl rfl (r_eql rfl rfl) ?_
          refine d_val rfl rfl (r_pickF (v := .bool (decide (a0.Kind = 3))) rfl rfl) ?_
          refine d_val rfl rfl (r_move (v := .bool (decide (a0.Kind = 3))) rfl) ?_
          refine splitS (fun hb => ?_) (fun hb => ?_)
          · have H151 := cnd_t hb H150
            refine d_pass rfl rfl ?_
            refine d_pass rfl rfl ?_
            refine d_pass rfl rfl ?_
            refine d_val rfl rfl (r_pickT (v := .bool true) rfl rfl) ?_
            refine d_val rfl rfl (r_move (v := .bool true) rfl) ?_
            refine d_pass rfl rfl ?_
            refine d_pass rfl rfl ?_
            refine d_pass rfl rfl ?_
            refine d_val rfl rfl (r_pickT (v := .bool true) rfl rfl) ?_
            refine d_val rfl rfl (r_assign (v := .bool (decide (a0.Kind = 7))) rfl) ?_
            refine d_val rfl rfl (r_assign (v := .bool true) rfl) ?_
            refine d_nil ?_
            refine c_close ((decide (a0.Kind = 7)), true) () 0 [0] (by exact ⟨rfl, rfl, rfl, trivial⟩) (by decide) rfl (by exact ⟨H151, trivial⟩) (Nat.lt_succ_self _)
          · have H152 := cnd_f hb H150
            refine d_val rfl rfl (r_field Try.runUnderlying61 rfl Try.sizeOf3 rfl rfl) ?_
            refine d_load1 (i := 0) (v := .int .i64 a0.Kind) Try.isAgg3 rfl rfl rfl rfl ?_
            refine d_val rfl rfl (r_eql rfl rfl) ?_
            refine d_val rfl rfl (r_pickF (v := .bool (decide (a0.Kind = 4))) rfl rfl) ?_
            refine d_val rfl rfl (r_move (v := .bool (decide (a0.Kind = 4))) rfl) ?_
            refine splitS (fun hb => ?_) (fun hb => ?_)
            · have H153 := cnd_t hb H152
              refine d_pass rfl rfl ?_
              refine d_pass rfl rfl ?_
              refine d_pass rfl rfl ?_
              refine d_val rfl rfl (r_pickT (v := .bool true) rfl rfl) ?_
              refine d_val rfl rfl (r_assign (v := .bool (decide (a0.Kind = 7))) rfl) ?_
              refine d_val rfl rfl (r_assign (v := .bool true) rfl) ?_
              refine d_nil ?_
              refine c_close ((decide (a0.Kind = 7)), true) () 0 [0] (by exact ⟨rfl, rfl, rfl, trivial⟩) (by decide) rfl (by exact ⟨H153, trivial⟩) (Nat.lt_succ_self _)
            · have H154 := cnd_f hb H152
              refine d_val rfl rfl (r_field Try.runUnderlying61 rfl Try.sizeOf3 rfl rfl) ?_
              refine d_load1 (i := 0) (v := .int .i64 a0.Kind) Try.isAgg3 rfl rfl rfl rfl ?_
              refine d_val rfl rfl (r_eql rfl rfl) ?_
              refine d_val rfl rfl (r_pickF (v := .bool (decide (a0.Kind = 9))) rfl rfl) ?_
              refine d_val rfl rfl (r_assign (v := .bool (decide (a0.Kind = 7))) rfl) ?_
              refine d_val rfl rfl (r_assign (v := .bool (decide (a0.Kind = 9))) rfl) ?_
              refine d_nil ?_
              refine c_close ((decide (a0.Kind = 7)), (decide (a0.Kind = 9))) () 0 [0] (by exact ⟨rfl, rfl, rfl, trivial⟩) (by decide) rfl (by exact ⟨H154, trivial⟩) (Nat.lt_succ_self _)
      ) (by kernel_rfl)
  · rintro ⟨x3, x4⟩ _ gg H78 _
    replace H78 : R_ValueFault_j1 a0 x3 x4 = some r := H78
    refine c_tidyF [(1, .pointer (some ⟨b2, 0, none⟩)), (3, .bool x3), (4, .bool x4)] [cellsC b2 [.int .i64 a0.Kind, str a0.Text, v0_2, v0_3, v0_4] 61] rfl rfl ?_
    refine c_meet (r := r) (σ := Unit) (τ := Unit) (fun s => R_ValueFault_j2 a0) (fun s t => [(1, .pointer (some ⟨b2, 0, none⟩))]) (fun s t => [cellsC b2 [.int .i64 a0.Kind, str a0.Text, v0_2, v0_3, v0_4] 61]) (fun s t => True) ?_ ?_
    · refine c_block ?_
      refine c_seq ?_
      refine c_region ?_
      refine l_val rfl rfl rfl (r_field Try.runUnderlying61 rfl Try.sizeOf3 rfl rfl) ?_
      refine l_load1 (i := 0) (v := .int .i64 a0.Kind) Try.isAgg3 rfl rfl rfl rfl rfl ?_
      obtain ⟨t40, h_t40, H113⟩ := bnd_some H78; clear H78
      refine l_call (k79 h_t40) Try.call79 rfl rfl rfl ?_
      refine l_val rfl rfl rfl (r_eql rfl rfl) ?_
      refine l_val rfl rfl rfl (r_assign (v := .bool (decide (t40 = 0))) rfl) ?_
      refine l_nil ?_
      refine c_if (b := (decide (t40 = 0))) rfl (fun hb => ?_) (fun hb => ?_)
      · have H114 := cnd_t hb H113; clear H113
        refine c_seq ?_
        refine c_region ?_
        refine l_val rfl rfl rfl (r_assign (v := .int .i64 10) rfl) ?_
        refine l_nil ?_
        refine c_ret ?_
        obtain rfl := Option.some.inj H114
        refine ret1 (v := .int .i64 10) rfl rfl (fin rfl)
      · have H115 := cnd_f hb H113; clear H113
        refine c_seq ?_
        refine c_meet (r := r) (σ := Bool) (τ := Unit) (fun s => R_ValueFault_j8 a0 x4 s) (fun s t => [(1, .pointer (some ⟨b2, 0, none⟩)), (4, .bool x4), (42, .bool s)]) (fun s t => [cellsC b2 [.int .i64 a0.Kind, str a0.Text, v0_2, v0_3, v0_4] 61]) (fun s t => True) ?_ ?_
        · refine c_region ?_
          refine l_val rfl rfl rfl (r_field Try.runUnderlying61 rfl Try.sizeOf9 rfl rfl) ?_
          refine l_load1 (i := 0) (v := str a0.Text) Try.isAgg9 rfl rfl rfl rfl rfl ?_
          refine l_val rfl rfl rfl (r_neqT rfl rfl) ?_
          refine l_val rfl rfl rfl (r_move (v := .bool (decide (a0.Text ≠ []))) rfl) ?_
          refine split (fun hb => ?_) (fun hb => ?_)
          · have H139 := cnd_t hb H115; clear H115
            refine l_val rfl rfl rfl (r_move (v := .bool x3) rfl) ?_
            refine l_val rfl rfl rfl (r_not rfl) ?_
            refine l_val rfl rfl rfl (r_pickT (v := .bool (!x3)) rfl rfl) ?_
            refine l_val rfl rfl rfl (r_assign (v := .bool (!x3)) rfl) ?_
            refine l_nil ?_
            refine c_close (!x3) () 0 [0] (by exact ⟨rfl, rfl, rfl, trivial⟩) (by decide) rfl (by exact ⟨H139, trivial⟩) (Nat.lt_succ_self _)
          · have H140 := cnd_f hb H115; clear H115
            refine l_passed rfl rfl rfl ?_
            refine l_passed rfl rfl rfl ?_
            refine l_val rfl rfl rfl (r_pickF (v := .bool false) rfl rfl) ?_
            refine l_val rfl rfl rfl (r_assign (v := .bool false) rfl) ?_
            refine l_nil ?_
            refine c_close false () 0 [0] (by exact ⟨rfl, rfl, rfl, trivial⟩) (by decide) rfl (by exact ⟨H140, trivial⟩) (Nat.lt_succ_self _)
        · rintro x42 _ gg H116 _
          replace H116 : R_ValueFault_j8 a0 x4 x42 = some r := H116
          refine c_tidyF [(1, .pointer (some ⟨b2, 0, none⟩)), (4, .bool x4), (42, .bool x42)] [cellsC b2 [.int .i64 a0.Kind, str a0.Text, v0_2, v0_3, v0_4] 61] rfl rfl ?_
          refine c_if (b := x42) rfl (fun hb => ?_) (fun hb => ?_)
          · have H117 := cnd_t hb H116; clear H116
            refine c_skip ?_
            refine c_if (b := x42) rfl (fun hb => ?_) (fun hb => ?_)
            · have H118 := cnd_t hb H117; clear H117
              refine c_seq ?_
              refine c_region ?_
              refine l_val rfl rfl rfl (r_assign (v := .int .i64 1) rfl) ?_
              refine l_nil ?_
              refine c_ret ?_
              obtain rfl := Option.some.inj H118
              refine ret1 (v := .int .i64 1) rfl rfl (fin rfl)
            · have H119 := cnd_f hb H117; clear H117
              refine c_skip ?_
              refine c_close () () 0 [0] (by exact ⟨rfl, trivial⟩) (by decide) rfl (by exact ⟨H119, trivial⟩) (Nat.lt_succ_self _)
          · have H120 := cnd_f hb H116; clear H116
            refine c_meet (r := r) (σ := Bool) (τ := Unit) (fun s => R_ValueFault_j9 a0 s) (fun s t => [(1, .pointer (some ⟨b2, 0, none⟩)), (42, .bool s)]) (fun s t => [cellsC b2 [.int .i64 a0.Kind, str a0.Text, v0_2, v0_3, v0_4] 61]) (fun s t => True) ?_ ?_
            · refine c_region ?_
              refine l_val rfl rfl rfl (r_field Try.runUnderlying61 rfl Try.sizeOf57 rfl rfl) ?_
              refine l_load1 (i := 0) (v := v0_2) Try.isAgg57 rfl rfl rfl rfl rfl ?_
              refine l_val rfl rfl rfl (r_lenF Try.underlying57 rfl f0_2 rfl) ?_
              refine l_val rfl rfl rfl (r_gtr rfl rfl) ?_
              refine l_val rfl rfl rfl (r_move (v := .bool (decide (0 < (a0.Ints.length : Int)))) rfl) ?_
              refine split (fun hb => ?_) (fun hb => ?_)
              · have H137 := cnd_t hb H120; clear H120
                refine l_val rfl rfl rfl (r_move (v := .bool x4) rfl) ?_
                refine l_val rfl rfl rfl (r_not rfl) ?_
                refine l_val rfl rfl rfl (r_pickT (v := .bool (!x4)) rfl rfl) ?_
                refine l_val rfl rfl rfl (r_assign (v := .bool (!x4)) rfl) ?_
                refine l_nil ?_
                refine c_close (!x4) () 0 [0] (by exact ⟨rfl, rfl, trivial⟩) (by decide) rfl (by exact ⟨H137, trivial⟩) (Nat.lt_succ_self _)
              · have H138 := cnd_f hb H120; clear H120
                refine l_passed rfl rfl rfl ?_
                refine l_passed rfl rfl rfl ?_
                refine l_val rfl rfl rfl (r_pickF (v := .bool false) rfl rfl) ?_
                refine l_val rfl rfl rfl (r_assign (v := .bool false) rfl) ?_
                refine l_nil ?_
                refine c_close false () 0 [0] (by exact ⟨rfl, rfl, trivial⟩) (by decide) rfl (by exact ⟨H138, trivial⟩) (Nat.lt_succ_self _)
            · rintro x42_2 _ gg H121 _
              replace H121 : R_ValueFault_j9 a0 x42_2 = some r := H121
              refine c_tidyF [(1, .pointer (some ⟨b2, 0, none⟩)), (42, .bool x42_2)] [cellsC b2 [.int .i64 a0.Kind, str a0.Text, v0_2, v0_3, v0_4] 61] rfl rfl ?_
              refine c_if (b := x42_2) rfl (fun hb => ?_) (fun hb => ?_)
              · have H122 := cnd_t hb H121; clear H121
                refine c_skip ?_
                refine c_if (b := x42_2) rfl (fun hb => ?_) (fun hb => ?_)
                · have H123 := cnd_t hb H122; clear H122
                  refine c_seq ?_
                  refine c_region ?_
                  refine l_val rfl rfl rfl (r_assign (v := .int .i64 1) rfl) ?_
                  refine l_nil ?_
                  refine c_ret ?_
                  obtain rfl := Option.some.inj H123
                  refine ret1 (v := .int .i64 1) rfl rfl (fin rfl)
                · have H124 := cnd_f hb H122; clear H122
                  refine c_skip ?_
                  refine c_close () () 0 [0] (by exact ⟨rfl, trivial⟩) (by decide) rfl (by exact ⟨H124, trivial⟩) (Nat.lt_succ_self _)
              · have H125 := cnd_f hb H121; clear H121
                refine c_meet (r := r) (σ := Bool) (τ := Unit) (fun s => R_ValueFault_j10 a0 s) (fun s t => [(1, .pointer (some ⟨b2, 0, none⟩)), (42, .bool s)]) (fun s t => [cellsC b2 [.int .i64 a0.Kind, str a0.Text, v0_2, v0_3, v0_4] 61]) (fun s t => True) ?_ ?_
                · refine c_region ?_
                  refine l_val rfl rfl rfl (r_field Try.runUnderlying61 rfl Try.sizeOf58 rfl rfl) ?_
                  refine l_load1 (i := 0) (v := v0_3) Try.isAgg58 rfl rfl rfl rfl rfl ?_
                  refine l_val rfl rfl rfl (r_lenF Try.underlying58 rfl f0_3 rfl) ?_
                  refine l_val rfl rfl rfl (r_gtr rfl rfl) ?_
                  refine l_val rfl rfl rfl (r_move (v := .bool (decide (0 < (a0.Ratios.length : Int)))) rfl) ?_
                  refine split (fun hb => ?_) (fun hb => ?_)
                  · have H135 := cnd_t hb H125; clear H125
                    refine l_val rfl rfl rfl (r_field Try.runUnderlying61 rfl Try.sizeOf3 rfl rfl) ?_
                    refine l_load1 (i := 0) (v := .int .i64 a0.Kind) Try.isAgg3 rfl rfl rfl rfl rfl ?_
                    refine l_val rfl rfl rfl (r_neq rfl rfl) ?_
                    refine l_val rfl rfl rfl (r_pickT (v := .bool (decide (a0.Kind ≠ 5))) rfl rfl) ?_
                    refine l_val rfl rfl rfl (r_assign (v := .bool (decide (a0.Kind ≠ 5))) rfl) ?_
                    refine l_nil ?_
                    refine c_close (decide (a0.Kind ≠ 5)) () 0 [0] (by exact ⟨rfl, rfl, trivial⟩) (by decide) rfl (by exact ⟨H135, trivial⟩) (Nat.lt_succ_self _)
                  · have H136 := cnd_f hb H125; clear H125
                    refine l_passed rfl rfl rfl ?_
                    refine l_passed rfl rfl rfl ?_
                    refine l_passed rfl rfl rfl ?_
                    refine l_val rfl rfl rfl (r_pickF (v := .bool false) rfl rfl) ?_
                    refine l_val rfl rfl rfl (r_assign (v := .bool false) rfl) ?_
                    refine l_nil ?_
                    refine c_close false () 0 [0] (by exact ⟨rfl, rfl, trivial⟩) (by decide) rfl (by exact ⟨H136, trivial⟩) (Nat.lt_succ_self _)
                · rintro x42_3 _ gg H126 _
                  replace H126 : R_ValueFault_j10 a0 x42_3 = some r := H126
                  refine c_tidyF [(1, .pointer (some ⟨b2, 0, none⟩)), (42, .bool x42_3)] [cellsC b2 [.int .i64 a0.Kind, str a0.Text, v0_2, v0_3, v0_4] 61] rfl rfl ?_
                  refine c_if (b := x42_3) rfl (fun hb => ?_) (fun hb => ?_)
                  · have H127 := cnd_t hb H126; clear H126
                    refine c_skip ?_
                    refine c_if (b := x42_3) rfl (fun hb => ?_) (fun hb => ?_)
                    · have H128 := cnd_t hb H127; clear H127
                      refine c_seq ?_
                      refine c_region ?_
                      refine l_val rfl rfl rfl (r_assign (v := .int .i64 1) rfl) ?_
                      refine l_nil ?_
                      refine c_ret ?_
                      obtain rfl := Option.some.inj H128
                      refine ret1 (v := .int .i64 1) rfl rfl (fin rfl)
                    · have H129 := cnd_f hb H127; clear H127
                      refine c_skip ?_
                      refine c_close () () 0 [0] (by exact ⟨rfl, trivial⟩) (by decide) rfl (by exact ⟨H129, trivial⟩) (Nat.lt_succ_self _)
                  · have H130 := cnd_f hb H126; clear H126
                    refine c_region ?_
                    refine l_val rfl rfl rfl (r_field Try.runUnderlying61 rfl Try.sizeOf59 rfl rfl) ?_
                    refine l_load1 (i := 0) (v := v0_4) Try.isAgg59 rfl rfl rfl rfl rfl ?_
                    refine l_val rfl rfl rfl (r_lenFN Try.underlying59 rfl f0_4) ?_
                    refine l_val rfl rfl rfl (r_gtr rfl rfl) ?_
                    refine l_val rfl rfl rfl (r_move (v := .bool (decide (0 < (a0.Entries.length : Int)))) rfl) ?_
                    refine split (fun hb => ?_) (fun hb => ?_)
                    · have H131 := cnd_t hb H130; clear H130
                      refine l_val rfl rfl rfl (r_field Try.runUnderlying61 rfl Try.sizeOf3 rfl rfl) ?_
                      refine l_load1 (i := 0) (v := .int .i64 a0.Kind) Try.isAgg3 rfl rfl rfl rfl rfl ?_
                      refine l_val rfl rfl rfl (r_neq rfl rfl) ?_
                      refine l_val rfl rfl rfl (r_pickT (v := .bool (decide (a0.Kind ≠ 13))) rfl rfl) ?_
                      refine l_val rfl rfl rfl (r_assign (v := .bool (decide (a0.Kind ≠ 13))) rfl) ?_
                      refine l_nil ?_
                      refine c_if (b := (decide (a0.Kind ≠ 13))) rfl (fun hb => ?_) (fun hb => ?_)
                      · have H132 := cnd_t hb H131; clear H131
                        refine c_seq ?_
                        refine c_region ?_
                        refine l_val rfl rfl rfl (r_assign (v := .int .i64 1) rfl) ?_
                        refine l_nil ?_
                        refine c_ret ?_
                        obtain rfl := Option.some.inj H132
                        refine ret1 (v := .int .i64 1) rfl rfl (fin rfl)
                      · have H133 := cnd_f hb H131; clear H131
                        refine c_skip ?_
                        refine c_close () () 0 [0] (by exact ⟨rfl, trivial⟩) (by decide) rfl (by exact ⟨H133, trivial⟩) (Nat.lt_succ_self _)
                    · have H134 := cnd_f hb H130; clear H130
                      refine l_passed rfl rfl rfl ?_
                      refine l_passed rfl rfl rfl ?_
                      refine l_passed rfl rfl rfl ?_
                      refine l_val rfl rfl rfl (r_pickF (v := .bool false) rfl rfl) ?_
                      refine l_val rfl rfl rfl (r_assign (v := .bool false) rfl) ?_
                      refine l_nil ?_
                      refine c_false rfl ?_
                      refine c_skip ?_
                      refine c_close () () 0 [0] (by exact ⟨rfl, trivial⟩) (by decide) rfl (by exact ⟨H134, trivial⟩) (Nat.lt_succ_self _)
    · rintro _ _ gg H79 _
      replace H79 : R_ValueFault_j2 a0 = some r := H79
      refine c_tidyF [(1, .pointer (some ⟨b2, 0, none⟩))] [cellsC b2 [.int .i64 a0.Kind, str a0.Text, v0_2, v0_3, v0_4] 61] rfl rfl ?_
      refine c_seq ?_
      refine c_region ?_
      refine l_val rfl rfl rfl (r_field Try.runUnderlying61 rfl Try.sizeOf3 rfl rfl) ?_
      refine l_load1 (i := 0) (v := .int .i64 a0.Kind) Try.isAgg3 rfl rfl rfl rfl rfl ?_
      obtain ⟨t79, h_t79, H80⟩ := bnd_some H79; clear H79
      refine l_call (k80 h_t79) Try.call80 rfl rfl rfl ?_
      refine l_val rfl rfl rfl (r_move (v := .tuple #[.int .i64 t79.1, .int .i64 t79.2]) rfl) ?_
      refine l_val rfl rfl rfl (r_extract (v := .int .i64 t79.1) rfl rfl) ?_
      refine l_val rfl rfl rfl (r_extract (v := .int .i64 t79.2) rfl rfl) ?_
      refine l_val rfl rfl rfl (r_assign (v := .int .i64 t79.1) rfl) ?_
      refine l_val rfl rfl rfl (r_assign (v := .int .i64 t79.2) rfl) ?_
      refine l_nil ?_
      refine c_meet (r := r) (σ := Unit) (τ := Unit) (fun s => R_ValueFault_j3 a0) (fun s t => [(1, .pointer (some ⟨b2, 0, none⟩))]) (fun s t => [cellsC b2 [.int .i64 a0.Kind, str a0.Text, v0_2, v0_3, v0_4] 61]) (fun s t => True) ?_ ?_
      · refine c_seq ?_
        refine c_region ?_
        refine l_val rfl rfl rfl (r_field Try.runUnderlying61 rfl Try.sizeOf57 rfl rfl) ?_
        refine l_load1 (i := 0) (v := v0_2) Try.isAgg57 rfl rfl rfl rfl rfl ?_
        refine l_val rfl rfl rfl (r_lenF Try.underlying57 rfl f0_2 rfl) ?_
        refine l_val rfl rfl rfl (r_move (v := .int .i64 0) rfl) ?_
        refine l_nil ?_
        refine c_block ?_
        refine c_fix (σ := Int) (τ := Unit) (fun next7 s => R_ValueFault_l7 a0 t79 next7 s) (fun s t => [(1, .pointer (some ⟨b2, 0, none⟩)), (5, .int .i64 t79.1), (6, .int .i64 t79.2), (83, v0_2), (84, .int .i64 (a0.Ints.length : Int)), (85, .int .i64 s)]) (fun s t => [cellsC b2 [.int .i64 a0.Kind, str a0.Text, v0_2, v0_3, v0_4] 61]) (fun s t => True) 0 () [0] H80 (by exact trivial) (by exact ⟨rfl, rfl, rfl, rfl, rfl, rfl, trivial⟩) (by decide) rfl ?_
        rintro x85_2 _ m7 gg H104 _
        clear H80
        replace H104 : R_ValueFault_l7 a0 t79 (it (fun next7 s => R_ValueFault_l7 a0 t79 next7 s) m7) x85_2 = some r := H104
        generalize hn7 : it (fun next7 s => R_ValueFault_l7 a0 t79 next7 s) m7 = next7 at H104
        refine c_tidyF [(1, .pointer (some ⟨b2, 0, none⟩)), (5, .int .i64 t79.1), (6, .int .i64 t79.2), (83, v0_2), (84, .int .i64 (a0.Ints.length : Int)), (85, .int .i64 x85_2)] [cellsC b2 [.int .i64 a0.Kind, str a0.Text, v0_2, v0_3, v0_4] 61] rfl rfl ?_
        refine c_seq ?_
        refine c_region ?_
        refine l_val rfl rfl rfl (r_lss rfl rfl) ?_
        refine l_nil ?_
        refine c_seq ?_
        refine c_if (b := (decide (x85_2 < (a0.Ints.length : Int)))) rfl (fun hb => ?_) (fun hb => ?_)
        · have H105 := cnd_t hb H104; clear H104
          refine c_skip ?_
          refine c_seq ?_
          refine c_block ?_
          refine c_seq ?_
          refine c_region ?_
          obtain ⟨t87, h_t87, H106⟩ := bnd_some H105; clear H105
          refine l_val rfl rfl rfl (r_indexF Try.underlying57 Try.sizeOf3 rfl rfl f0_2 h_t87) ?_
          refine l_read (fun w hF hS => run_loadG1 (f := e_i64) (i := x85_2) (sz := 1) (j := 0) (v := .int .i64 t87) Try.isAgg3 rfl rfl (f0_2.row (hw.now hF)) h_t87 rfl) rfl rfl rfl ?_
          refine l_val rfl rfl rfl (r_assign (v := .int .i64 t87) rfl) ?_
          refine l_nil ?_
          refine c_seq ?_
          refine c_region ?_
          refine l_val rfl rfl rfl (r_move (v := .int .i64 t87) rfl) ?_
          refine l_val rfl rfl rfl (r_move (v := .int .i64 t79.1) rfl) ?_
          refine l_val rfl rfl rfl (r_lss rfl rfl) ?_
          refine l_val rfl rfl rfl (r_move (v := .bool (decide (t87 < t79.1))) rfl) ?_
          refine split (fun hb => ?_) (fun hb => ?_)
          · have H107 := cnd_t hb H106; clear H106
            refine l_passed rfl rfl rfl ?_
            refine l_passed rfl rfl rfl ?_
            refine l_passed rfl rfl rfl ?_
            refine l_val rfl rfl rfl (r_pickT (v := .bool true) rfl rfl) ?_
            refine l_nil ?_
            refine c_true rfl ?_
            refine c_seq ?_
            refine c_region ?_
            refine l_val rfl rfl rfl (r_assign (v := .int .i64 2) rfl) ?_
            refine l_nil ?_
            refine c_ret ?_
            obtain rfl := Option.some.inj H107
            refine ret1 (v := .int .i64 2) rfl rfl (fin rfl)
          · have H108 := cnd_f hb H106; clear H106
            refine l_val rfl rfl rfl (r_move (v := .int .i64 t87) rfl) ?_
            refine l_val rfl rfl rfl (r_move (v := .int .i64 t79.2) rfl) ?_
            refine l_val rfl rfl rfl (r_gtr rfl rfl) ?_
            refine l_val rfl rfl rfl (r_pickF (v := .bool (decide (t79.2 < t87))) rfl rfl) ?_
            refine l_nil ?_
            refine c_if (b := (decide (t79.2 < t87))) rfl (fun hb => ?_) (fun hb => ?_)
            · have H109 := cnd_t hb H108; clear H108
              refine c_seq ?_
              refine c_region ?_
              refine l_val rfl rfl rfl (r_assign (v := .int .i64 2) rfl) ?_
              refine l_nil ?_
              refine c_ret ?_
              obtain rfl := Option.some.inj H109
              refine ret1 (v := .int .i64 2) rfl rfl (fin rfl)
            · have H110 := cnd_f hb H108; clear H108
              refine c_skip ?_
              refine c_region ?_
              obtain ⟨t97, h_t97, H111⟩ := bnd_some H110; clear H110
              refine l_val rfl rfl rfl (r_addG rfl rfl h_t97) ?_
              refine l_val rfl rfl rfl (r_move (v := .int .i64 t97) rfl) ?_
              refine l_nil ?_
              refine c_close t97 () m7 [0] (by exact ⟨rfl, rfl, rfl, rfl, rfl, rfl, trivial⟩) (by decide) rfl (by exact ⟨(by subst hn7; exact H111), trivial⟩) (Nat.lt_succ_self _)
        · have H112 := cnd_f hb H104; clear H104
          refine c_exit ?_
          refine c_close () () 0 [0] (by exact ⟨rfl, trivial⟩) (by decide) rfl (by exact ⟨H112, trivial⟩) (Nat.lt_succ_self _)
      · rintro _ _ gg H81 _
        replace H81 : R_ValueFault_j3 a0 = some r := H81
        refine c_tidyF [(1, .pointer (some ⟨b2, 0, none⟩))] [cellsC b2 [.int .i64 a0.Kind, str a0.Text, v0_2, v0_3, v0_4] 61] rfl rfl ?_
        refine c_meet (r := r) (σ := Unit) (τ := Unit) (fun s => R_ValueFault_j4 a0) (fun s t => [(1, .pointer (some ⟨b2, 0, none⟩))]) (fun s t => [cellsC b2 [.int .i64 a0.Kind, str a0.Text, v0_2, v0_3, v0_4] 61]) (fun s t => True) ?_ ?_
        · refine c_seq ?_
          refine c_region ?_
          refine l_val rfl rfl rfl (r_field Try.runUnderlying61 rfl Try.sizeOf58 rfl rfl) ?_
          refine l_load1 (i := 0) (v := v0_3) Try.isAgg58 rfl rfl rfl rfl rfl ?_
          refine l_val rfl rfl rfl (r_lenF Try.underlying58 rfl f0_3 rfl) ?_
          refine l_val rfl rfl rfl (r_move (v := .int .i64 0) rfl) ?_
          refine l_nil ?_
          refine c_block ?_
          refine c_fix (σ := Int) (τ := Unit) (fun next6 s => R_ValueFault_l6 a0 next6 s) (fun s t => [(1, .pointer (some ⟨b2, 0, none⟩)), (99, v0_3), (100, .int .i64 (a0.Ratios.length : Int)), (101, .int .i64 s)]) (fun s t => [cellsC b2 [.int .i64 a0.Kind, str a0.Text, v0_2, v0_3, v0_4] 61]) (fun s t => True) 0 () [0] H81 (by exact trivial) (by exact ⟨rfl, rfl, rfl, rfl, trivial⟩) (by decide) rfl ?_
          rintro x101_2 _ m6 gg H91 _
          clear H81
          replace H91 : R_ValueFault_l6 a0 (it (fun next6 s => R_ValueFault_l6 a0 next6 s) m6) x101_2 = some r := H91
          generalize hn6 : it (fun next6 s => R_ValueFault_l6 a0 next6 s) m6 = next6 at H91
          refine c_tidyF [(1, .pointer (some ⟨b2, 0, none⟩)), (99, v0_3), (100, .int .i64 (a0.Ratios.length : Int)), (101, .int .i64 x101_2)] [cellsC b2 [.int .i64 a0.Kind, str a0.Text, v0_2, v0_3, v0_4] 61] rfl rfl ?_
          refine c_seq ?_
          refine c_region ?_
          refine l_val rfl rfl rfl (r_lss rfl rfl) ?_
          refine l_nil ?_
          refine c_seq ?_
          refine c_if (b := (decide (x101_2 < (a0.Ratios.length : Int)))) rfl (fun hb => ?_) (fun hb => ?_)
          · have H92 := cnd_t hb H91; clear H91
            refine c_skip ?_
            refine c_seq ?_
            refine c_block ?_
            refine c_seq ?_
            refine c_region ?_
            obtain ⟨t103, h_t103, H93⟩ := bnd_some H92; clear H92
            refine l_val rfl rfl rfl (r_indexF Try.underlying58 Try.sizeOf120 rfl rfl f0_3 h_t103) ?_
            refine l_read (fun w hF hS => run_loadGN (f := e_tag_Ratio) (i := x101_2) (sz := 2) (j := 0) (vs := [.int .i64 t103.Num, .int .i64 t103.Den]) Try.isAgg120 Try.sizeOf120 rfl rfl (f0_3.row (hw.now hF)) h_t103 rfl) rfl rfl rfl ?_
            refine l_alloc (cs := [.int .i64 0, .int .i64 0]) Try.zeroValue120 rfl rfl rfl (fun b3 => ?_)
            refine l_store (i := 1) (vs := [.int .i64 t103.Num, .int .i64 t103.Den]) (cs' := [.int .i64 t103.Num, .int .i64 t103.Den]) Try.sizeOf120 rfl rfl rfl rfl rfl rfl rfl rfl rfl ?_
            refine l_nil ?_
            refine c_seq ?_
            refine c_region ?_
            refine l_val rfl rfl rfl (r_field Try.runUnderlying120 rfl Try.sizeOf3 rfl rfl) ?_
            refine l_load1 (i := 1) (v := .int .i64 t103.Num) Try.isAgg3 rfl rfl rfl rfl rfl ?_
            refine l_val rfl rfl rfl (r_lss rfl rfl) ?_
            refine l_val rfl rfl rfl (r_move (v := .bool (decide (t103.Num < 0))) rfl) ?_
            refine split (fun hb => ?_) (fun hb => ?_)
            · have H94 := cnd_t hb H93; clear H93
              refine l_passed rfl rfl rfl ?_
              refine l_passed rfl rfl rfl ?_
              refine l_passed rfl rfl rfl ?_
              refine l_val rfl rfl rfl (r_pickT (v := .bool true) rfl rfl) ?_
              refine l_val rfl rfl rfl (r_move (v := .bool true) rfl) ?_
              refine l_passed rfl rfl rfl ?_
              refine l_passed rfl rfl rfl ?_
              refine l_passed rfl rfl rfl ?_
              refine l_val rfl rfl rfl (r_pickT (v := .bool true) rfl rfl) ?_
              refine l_val rfl rfl rfl (r_move (v := .bool true) rfl) ?_
              refine l_passed rfl rfl rfl ?_
              refine l_passed rfl rfl rfl ?_
              refine l_passed rfl rfl rfl ?_
              refine l_val rfl rfl rfl (r_pickT (v := .bool true) rfl rfl) ?_
              refine l_nil ?_
              refine c_true rfl ?_
              refine c_seq ?_
              refine c_region ?_
              refine l_val rfl rfl rfl (r_assign (v := .int .i64 2) rfl) ?_
              refine l_nil ?_
              refine c_ret ?_
              obtain rfl := Option.some.inj H94
              refine ret1 (v := .int .i64 2) rfl rfl (fin rfl)
            · have H95 := cnd_f hb H93; clear H93
              refine l_val rfl rfl rfl (r_field Try.runUnderlying120 rfl Try.sizeOf3 rfl rfl) ?_
              refine l_load1 (i := 1) (v := .int .i64 t103.Num) Try.isAgg3 rfl rfl rfl rfl rfl ?_
              refine l_val rfl rfl rfl (r_gtr rfl rfl) ?_
              refine l_val rfl rfl rfl (r_pickF (v := .bool (decide (4294967295 < t103.Num))) rfl rfl) ?_
              refine l_val rfl rfl rfl (r_move (v := .bool (decide (4294967295 < t103.Num))) rfl) ?_
              refine split (fun hb => ?_) (fun hb => ?_)
              · have H96 := cnd_t hb H95; clear H95
                refine l_passed rfl rfl rfl ?_
                refine l_passed rfl rfl rfl ?_
                refine l_passed rfl rfl rfl ?_
                refine l_val rfl rfl rfl (r_pickT (v := .bool true) rfl rfl) ?_
                refine l_val rfl rfl rfl (r_move (v := .bool true) rfl) ?_
                refine l_passed rfl rfl rfl ?_
                refine l_passed rfl rfl rfl ?_
                refine l_passed rfl rfl rfl ?_
                refine l_val rfl rfl rfl (r_pickT (v := .bool true) rfl rfl) ?_
                refine l_nil ?_
                refine c_true rfl ?_
                refine c_seq ?_
                refine c_region ?_
                refine l_val rfl rfl rfl (r_assign (v := .int .i64 2) rfl) ?_
                refine l_nil ?_
                refine c_ret ?_
                obtain rfl := Option.some.inj H96
                refine ret1 (v := .int .i64 2) rfl rfl (fin rfl)
              · have H97 := cnd_f hb H95; clear H95
                refine l_val rfl rfl rfl (r_field Try.runUnderlying120 rfl Try.sizeOf3 rfl rfl) ?_
                refine l_load1 (i := 1) (v := .int .i64 t103.Den) Try.isAgg3 rfl rfl rfl rfl rfl ?_
                refine l_val rfl rfl rfl (r_lss rfl rfl) ?_
                refine l_val rfl rfl rfl (r_pickF (v := .bool (decide (t103.Den < 0))) rfl rfl) ?_
                refine l_val rfl rfl rfl (r_move (v := .bool (decide (t103.Den < 0))) rfl) ?_
                refine split (fun hb => ?_) (fun hb => ?_)
                · have H98 := cnd_t hb H97; clear H97
                  refine l_passed rfl rfl rfl ?_
                  refine l_passed rfl rfl rfl ?_
                  refine l_passed rfl rfl rfl ?_
                  refine l_val rfl rfl rfl (r_pickT (v := .bool true) rfl rfl) ?_
                  refine l_nil ?_
                  refine c_true rfl ?_
                  refine c_seq ?_
                  refine c_region ?_
                  refine l_val rfl rfl rfl (r_assign (v := .int .i64 2) rfl) ?_
                  refine l_nil ?_
                  refine c_ret ?_
                  obtain rfl := Option.some.inj H98
                  refine ret1 (v := .int .i64 2) rfl rfl (fin rfl)
                · have H99 := cnd_f hb H97; clear H97
                  refine l_val rfl rfl rfl (r_field Try.runUnderlying120 rfl Try.sizeOf3 rfl rfl) ?_
                  refine l_load1 (i := 1) (v := .int .i64 t103.Den) Try.isAgg3 rfl rfl rfl rfl rfl ?_
                  refine l_val rfl rfl rfl (r_gtr rfl rfl) ?_
                  refine l_val rfl rfl rfl (r_pickF (v := .bool (decide (4294967295 < t103.Den))) rfl rfl) ?_
                  refine l_nil ?_
                  refine c_if (b := (decide (4294967295 < t103.Den))) rfl (fun hb => ?_) (fun hb => ?_)
                  · have H100 := cnd_t hb H99; clear H99
                    refine c_seq ?_
                    refine c_region ?_
                    refine l_val rfl rfl rfl (r_assign (v := .int .i64 2) rfl) ?_
                    refine l_nil ?_
                    refine c_ret ?_
                    obtain rfl := Option.some.inj H100
                    refine ret1 (v := .int .i64 2) rfl rfl (fin rfl)
                  · have H101 := cnd_f hb H99; clear H99
                    refine c_skip ?_
                    refine c_region ?_
                    obtain ⟨t123, h_t123, H102⟩ := bnd_some H101; clear H101
                    refine l_val rfl rfl rfl (r_addG rfl rfl h_t123) ?_
                    refine l_val rfl rfl rfl (r_move (v := .int .i64 t123) rfl) ?_
                    refine l_nil ?_
                    refine c_close t123 () m6 [0] (by exact ⟨rfl, rfl, rfl, rfl, trivial⟩) (by decide) rfl (by exact ⟨(by subst hn6; exact H102), trivial⟩) (Nat.lt_succ_self _)
          · have H103 := cnd_f hb H91; clear H91
            refine c_exit ?_
            refine c_close () () 0 [0] (by exact ⟨rfl, trivial⟩) (by decide) rfl (by exact ⟨H103, trivial⟩) (Nat.lt_succ_self _)
        · rintro _ _ gg H82 _
          replace H82 : R_ValueFault_j4 a0 = some r := H82
          refine c_tidyF [(1, .pointer (some ⟨b2, 0, none⟩))] [cellsC b2 [.int .i64 a0.Kind, str a0.Text, v0_2, v0_3, v0_4] 61] rfl rfl ?_
          refine c_meet (r := r) (σ := Unit) (τ := Unit) (fun s => R_ValueFault_j5 a0) (fun s t => [(1, .pointer (some ⟨b2, 0, none⟩))]) (fun s t => [cellsC b2 [.int .i64 a0.Kind, str a0.Text, v0_2, v0_3, v0_4] 61]) (fun s t => True) ?_ ?_
          · refine c_seq ?_
            refine c_region ?_
            refine l_val rfl rfl rfl (r_field Try.runUnderlying61 rfl Try.sizeOf3 rfl rfl) ?_
            refine l_load1 (i := 0) (v := .int .i64 a0.Kind) Try.isAgg3 rfl rfl rfl rfl rfl ?_
            refine l_val rfl rfl rfl (r_eql rfl rfl) ?_
            refine l_val rfl rfl rfl (r_move (v := .bool (decide (a0.Kind = 2))) rfl) ?_
            refine split (fun hb => ?_) (fun hb => ?_)
            · have H86 := cnd_t hb H82; clear H82
              refine l_val rfl rfl rfl (r_field Try.runUnderlying61 rfl Try.sizeOf9 rfl rfl) ?_
              refine l_load1 (i := 0) (v := str a0.Text) Try.isAgg9 rfl rfl rfl rfl rfl ?_
              obtain ⟨t130, h_t130, H87⟩ := bnd_some H86; clear H86
              refine l_call (k81 h_t130) Try.call81 rfl rfl rfl ?_
              refine l_val rfl rfl rfl (r_geq rfl rfl) ?_
              refine l_val rfl rfl rfl (r_pickT (v := .bool (decide (0 ≤ t130))) rfl rfl) ?_
              refine l_nil ?_
              refine c_if (b := (decide (0 ≤ t130))) rfl (fun hb => ?_) (fun hb => ?_)
              · have H88 := cnd_t hb H87; clear H87
                refine c_seq ?_
                refine c_region ?_
                refine l_val rfl rfl rfl (r_assign (v := .int .i64 9) rfl) ?_
                refine l_nil ?_
                refine c_ret ?_
                obtain rfl := Option.some.inj H88
                refine ret1 (v := .int .i64 9) rfl rfl (fin rfl)
              · have H89 := cnd_f hb H87; clear H87
                refine c_skip ?_
                refine c_close () () 0 [0] (by exact ⟨rfl, trivial⟩) (by decide) rfl (by exact ⟨H89, trivial⟩) (Nat.lt_succ_self _)
            · have H90 := cnd_f hb H82; clear H82
              refine l_passed rfl rfl rfl ?_
              refine l_passed rfl rfl rfl ?_
              refine l_passed rfl rfl rfl ?_
              refine l_passed rfl rfl rfl ?_
              refine l_val rfl rfl rfl (r_pickF (v := .bool false) rfl rfl) ?_
              refine l_nil ?_
              refine c_false rfl ?_
              refine c_skip ?_
              refine c_close () () 0 [0] (by exact ⟨rfl, trivial⟩) (by decide) rfl (by exact ⟨H90, trivial⟩) (Nat.lt_succ_self _)
          · rintro _ _ gg H83 _
            replace H83 : R_ValueFault_j5 a0 = some r := H83
            refine c_tidyF [(1, .pointer (some ⟨b2, 0, none⟩))] [cellsC b2 [.int .i64 a0.Kind, str a0.Text, v0_2, v0_3, v0_4] 61] rfl rfl ?_
            refine c_seq ?_
            refine c_seq ?_
            refine c_region ?_
            refine l_val rfl rfl rfl (r_field Try.runUnderlying61 rfl Try.sizeOf3 rfl rfl) ?_
            refine l_load1 (i := 0) (v := .int .i64 a0.Kind) Try.isAgg3 rfl rfl rfl rfl rfl ?_
            refine l_val rfl rfl rfl (r_eql rfl rfl) ?_
            refine l_nil ?_
            refine c_if (b := (decide (a0.Kind = 13))) rfl (fun hb => ?_) (fun hb => ?_)
            · have H84 := cnd_t hb H83; clear H83
              exact absurd (show (none : Option (Int)) = some r from H84) (fun h => by cases h)
            · have H85 := cnd_f hb H83; clear H83
              refine c_skip ?_
              refine c_seq ?_
              refine c_region ?_
              refine l_val rfl rfl rfl (r_assign (v := .int .i64 0) rfl) ?_
              refine l_nil ?_
              refine c_ret ?_
              obtain rfl := Option.some.inj H85
              refine ret1 (v := .int .i64 0) rfl rfl (fin rfl)
theorem k42_it (mm : Nat) : ∀ {a0 : (List T_tag_Entry)} {v0 : Value} {a1 : Int} {r : Int} {w : World} {h : Heap} (hw : Know h w noS) (f0 : FrN h 6 v0 g_tag_Entry a0) (H : it (fun (self : ((List T_tag_Entry) × Int) → Option (Int)) (s : (List T_tag_Entry) × Int) => R_dirFault_body self s.1 s.2) mm (a0, a1) = some r), Does Try.prog 42 (List.toArray [v0, .int .i64 a1]) w (fun v w' => v = (.int .i64 r) ∧ Grow w w') := by
  induction mm with
  | zero => intros; rename_i H; exact absurd H (by simp [it])
  | succ mm ih =>
    intro a0 v0 a1 r w h hw f0 H
    replace H : R_dirFault_body (it (fun (self : ((List T_tag_Entry) × Int) → Option (Int)) (s : (List T_tag_Entry) × Int) => R_dirFault_body self s.1 s.2) mm) a0 a1 = some r := H
    generalize it (fun (self : ((List T_tag_Entry) × Int) → Option (Int)) (s : (List T_tag_Entry) × Int) => R_dirFault_body self s.1 s.2) mm = self at H ih
    refine enter (n := 79) Try.func42 rfl rfl rfl noS [] (Sat.nil _ _) ?_
    refine c_seq ?_
    refine c_region ?_
    refine l_val rfl rfl rfl (r_assign (v := .int .i64 0) rfl) ?_
    refine l_nil ?_
    refine c_seq ?_
    refine c_seq ?_
    refine c_region ?_
    refine l_val rfl rfl rfl (r_move (v := .int .i64 a1) rfl) ?_
    refine l_val rfl rfl rfl (r_gtr rfl rfl) ?_
    refine l_val rfl rfl rfl (r_move (v := .bool (decide (5 < a1))) rfl) ?_
    refine split (fun hb => ?_) (fun hb => ?_)
    · have H37 := cnd_t hb H; clear H
      refine l_passed rfl rfl rfl ?_
      refine l_passed rfl rfl rfl ?_
      refine l_passed rfl rfl rfl ?_
      refine l_val rfl rfl rfl (r_pickT (v := .bool true) rfl rfl) ?_
      refine l_nil ?_
      refine c_true rfl ?_
      refine c_seq ?_
      refine c_region ?_
      refine l_val rfl rfl rfl (r_assign (v := .int .i64 4) rfl) ?_
      refine l_nil ?_
      refine c_ret ?_
      obtain rfl := Option.some.inj H37
      refine ret1 (v := .int .i64 4) rfl rfl (fin rfl)
    · have H38 := cnd_f hb H; clear H
      refine l_val rfl rfl rfl (r_move (v := v0) rfl) ?_
      refine l_val rfl rfl rfl (r_lenFN Try.underlying59 rfl f0) ?_
      refine l_val rfl rfl rfl (r_gtr rfl rfl) ?_
      refine l_val rfl rfl rfl (r_pickF (v := .bool (decide (200 < (a0.length : Int)))) rfl rfl) ?_
      refine l_nil ?_
      refine c_if (b := (decide (200 < (a0.length : Int)))) rfl (fun hb => ?_) (fun hb => ?_)
      · have H39 := cnd_t hb H38; clear H38
        refine c_seq ?_
        refine c_region ?_
        refine l_val rfl rfl rfl (r_assign (v := .int .i64 4) rfl) ?_
        refine l_nil ?_
        refine c_ret ?_
        obtain rfl := Option.some.inj H39
        refine ret1 (v := .int .i64 4) rfl rfl (fin rfl)
      · have H40 := cnd_f hb H38; clear H38
        refine c_skip ?_
        refine c_seq ?_
        refine c_seq ?_
        refine c_region ?_
        refine l_val rfl rfl rfl (r_move (v := v0) rfl) ?_
        refine l_val rfl rfl rfl (r_lenFN Try.underlying59 rfl f0) ?_
        refine l_val rfl rfl rfl (r_move (v := .int .i64 0) rfl) ?_
        refine l_nil ?_
        refine c_block ?_
        refine c_fix (σ := Int) (τ := Unit) (fun next1 s => R_dirFault_l1 a0 a1 self next1 s) (fun s t => [(0, v0), (1, .int .i64 a1), (17, v0), (18, .int .i64 (a0.length : Int)), (19, .int .i64 s)]) (fun s t => []) (fun s t => True) 0 () [] H40 (by exact trivial) (by exact ⟨rfl, rfl, rfl, rfl, rfl, trivial⟩) (by decide) rfl ?_
        rintro x19_2 _ m1 gg H41 _
        clear H40
        replace H41 : R_dirFault_l1 a0 a1 self (it (fun next1 s => R_dirFault_l1 a0 a1 self next1 s) m1) x19_2 = some r := H41
        generalize hn1 : it (fun next1 s => R_dirFault_l1 a0 a1 self next1 s) m1 = next1 at H41
        refine c_tidyF [(0, v0), (1, .int .i64 a1), (17, v0), (18, .int .i64 (a0.length : Int)), (19, .int .i64 x19_2)] [] rfl rfl ?_
        refine c_seq ?_
        refine c_region ?_
        refine l_val rfl rfl rfl (r_lss rfl rfl) ?_
        refine l_nil ?_
        refine c_seq ?_
        refine c_if (b := (decide (x19_2 < (a0.length : Int)))) rfl (fun hb => ?_) (fun hb => ?_)
        · have H42 := cnd_t hb H41; clear H41
          refine c_skip ?_
          refine c_meet (r := r) (σ := Int × Bool × Int × Int × (List UInt8) × (List Int) × (List T_tag_Ratio) × (List T_tag_Entry)) (τ := Value × Value × Value × Nat) (fun s => R_dirFault_j2 x19_2 next1 s.1 s.2.1 s.2.2.1 s.2.2.2.1 s.2.2.2.2.1 s.2.2.2.2.2.1 s.2.2.2.2.2.2.1 s.2.2.2.2.2.2.2) (fun s t => [(0, v0), (1, .int .i64 a1), (17, v0), (18, .int .i64 (a0.length : Int)), (19, .int .i64 x19_2), (28, .pointer (some ⟨t.2.2.2, 0, none⟩)), (29, .int .i64 s.1), (30, .bool s.2.1)]) (fun s t => [cellsC t.2.2.2 [.int .i64 s.2.2.1, .int .i64 s.2.2.2.1, str s.2.2.2.2.1, t.1, t.2.1, t.2.2.1] 113]) (fun s t => FrS h 1 t.1 (s.2.2.2.2.2.1.map e_i64) ∧ FrS h 2 t.2.1 (s.2.2.2.2.2.2.1.map e_tag_Ratio) ∧ FrN h 6 t.2.2.1 g_tag_Entry s.2.2.2.2.2.2.2) ?_ ?_
          · refine c_block ?_
            refine c_seq ?_
            refine c_region ?_
            refine l_val rfl rfl rfl (r_move (v := .int .i64 x19_2) rfl) ?_
            obtain ⟨t22, h_t22, H45⟩ := bnd_some H42; clear H42
            refine l_val rfl rfl rfl (r_indexF Try.underlying59 Try.sizeOf113 rfl rfl f0.frs (f0.ix h_t22)) ?_
            refine l_read (fun w hF hS => run_loadGN (f := (elC h v0 6)) (i := x19_2) (sz := 6) (j := 0) (vs := [.int .i64 t22.Tag, .int .i64 t22.Value.Kind, str t22.Value.Text, (elH h v0 6 (Int.toNat x19_2) 3), (elH h v0 6 (Int.toNat x19_2) 4), (elH h v0 6 (Int.toNat x19_2) 5)]) Try.isAgg113 Try.sizeOf113 rfl rfl (f0.frs.row (hw.now hF)) (f0.ix h_t22) (rd_of (cg_tag_Entry (f0.at h_t22)) rfl)) rfl rfl rfl ?_
            refine l_alloc (cs := [.int .i64 0, .int .i64 0, str [], .slice none 0 0, .slice none 0 0, .slice none 0 0]) Try.zeroValue113 rfl rfl rfl (fun b2 => ?_)
            refine l_val rfl rfl rfl (r_assign (v := .int .i64 x19_2) rfl) ?_
            refine l_store (i := 0) (vs := [.int .i64 t22.Tag, .int .i64 t22.Value.Kind, str t22.Value.Text, (elH h v0 6 (Int.toNat x19_2) 3), (elH h v0 6 (Int.toNat x19_2) 4), (elH h v0 6 (Int.toNat x19_2) 5)]) (cs' := [.int .i64 t22.Tag, .int .i64 t22.Value.Kind, str t22.Value.Text, (elH h v0 6 (Int.toNat x19_2) 3), (elH h v0 6 (Int.toNat x19_2) 4), (elH h v0 6 (Int.toNat x19_2) 5)]) Try.sizeOf113 rfl rfl rfl rfl rfl rfl (by simp only [List.all_cons, List.all_nil, (show FrN h 6 (elH h v0 6 (Int.toNat x19_2) 5) g_tag_Entry t22.Value.Entries from (g_tag_Value_p4 (g_tag_Entry_p1 (f0.at h_t22)))).one, (show FrS h 1 (elH h v0 6 (Int.toNat x19_2) 3) (t22.Value.Ints.map e_i64) from (g_tag_Value_p2 (g_tag_Entry_p1 (f0.at h_t22)))).one, (show FrS h 2 (elH h v0 6 (Int.toNat x19_2) 4) (t22.Value.Ratios.map e_tag_Ratio) from (g_tag_Value_p3 (g_tag_Entry_p1 (f0.at h_t22)))).one] <;> rfl) rfl rfl ?_
            refine l_nil ?_
            refine c_seq ?_
            refine c_seq ?_
            refine c_region ?_
            refine l_val rfl rfl rfl (r_field Try.runUnderlying113 rfl Try.sizeOf3 rfl rfl) ?_
            refine l_load1 (i := 0) (v := .int .i64 t22.Tag) Try.isAgg3 rfl rfl rfl rfl rfl ?_
            refine l_val rfl rfl rfl (r_lss rfl rfl) ?_
            refine l_val rfl rfl rfl (r_move (v := .bool (decide (t22.Tag < 0))) rfl) ?_
            refine split (fun hb => ?_) (fun hb => ?_)
            · have H46 := cnd_t hb H45; clear H45
              refine l_passed rfl rfl rfl ?_
              refine l_passed rfl rfl rfl ?_
              refine l_passed rfl rfl rfl ?_
              refine l_val rfl rfl rfl (r_pickT (v := .bool true) rfl rfl) ?_
              refine l_nil ?_
              refine c_true rfl ?_
              refine c_seq ?_
              refine c_region ?_
              refine l_val rfl rfl rfl (r_assign (v := .int .i64 2) rfl) ?_
              refine l_nil ?_
              refine c_ret ?_
              obtain rfl := Option.some.inj H46
              refine ret1 (v := .int .i64 2) rfl rfl (fin rfl)
            · have H47 := cnd_f hb H45; clear H45
              refine l_val rfl rfl rfl (r_field Try.runUnderlying113 rfl Try.sizeOf3 rfl rfl) ?_
              refine l_load1 (i := 0) (v := .int .i64 t22.Tag) Try.isAgg3 rfl rfl rfl rfl rfl ?_
              refine l_val rfl rfl rfl (r_gtr rfl rfl) ?_
              refine l_val rfl rfl rfl (r_pickF (v := .bool (decide (65535 < t22.Tag))) rfl rfl) ?_
              refine l_nil ?_
              refine c_if (b := (decide (65535 < t22.Tag))) rfl (fun hb => ?_) (fun hb => ?_)
              · have H48 := cnd_t hb H47; clear H47
                refine c_seq ?_
                refine c_region ?_
                refine l_val rfl rfl rfl (r_assign (v := .int .i64 2) rfl) ?_
                refine l_nil ?_
                refine c_ret ?_
                obtain rfl := Option.some.inj H48
                refine ret1 (v := .int .i64 2) rfl rfl (fin rfl)
              · have H49 := cnd_f hb H47; clear H47
                refine c_skip ?_
                refine c_meet (r := r) (σ := Unit) (τ := Unit) (fun s => R_dirFault_j3 a1 self x19_2 next1 t22) (fun s t => [(0, v0), (1, .int .i64 a1), (6, .pointer (some ⟨b2, 0, none⟩)), (17, v0), (18, .int .i64 (a0.length : Int)), (19, .int .i64 x19_2), (28, .pointer (some ⟨b2, 0, none⟩)), (29, .int .i64 t22.Tag), (30, .bool (decide (65535 < t22.Tag)))]) (fun s t => [cellsC b2 [.int .i64 t22.Tag, .int .i64 t22.Value.Kind, str t22.Value.Text, (elH h v0 6 (Int.toNat x19_2) 3), (elH h v0 6 (Int.toNat x19_2) 4), (elH h v0 6 (Int.toNat x19_2) 5)] 113]) (fun s t => True) ?_ ?_
                · refine c_seq ?_
                  exact c_regionD (Kd.p :: Kd.p :: Kd.p :: Kd.p :: Kd.d [0] _ :: Kd.p :: Kd.p :: Kd.p :: Kd.p :: Kd.p :: Kd.d [] _ :: Kd.p :: Kd.p :: []) 0 mixed (by
                    refine d_val rfl rfl (r_move (v := .int .i64 x19_2) rfl) ?_
                    refine d_val rfl rfl (r_gtr rfl rfl) ?_
                    refine d_val rfl rfl (r_move (v := .bool (decide (0 < x19_2))) rfl) ?_
                    refine splitS (fun hb => ?_) (fun hb => ?_)
                    · have H66 := cnd_t hb H49
                      refine d_val rfl rfl (r_field Try.runUnderlying113 rfl Try.sizeOf3 rfl rfl) ?_
                      refine d_load1 (i := 0) (v := .int .i64 t22.Tag) Try.isAgg3 rfl rfl rfl rfl ?_
                      refine d_val rfl rfl (r_move (v := v0) rfl) ?_
                      refine d_val rfl rfl (r_move (v := .int .i64 x19_2) rfl) ?_
                      have h_t39 := bnd_val H66
                      have H67 := bnd_rest H66
                      refine d_val rfl rfl (r_subG rfl rfl h_t39) ?_
                      have h_t40 := bnd_val H67
                      have H68 := bnd_rest H67
                      refine d_val rfl rfl (r_indexF Try.underlying59 Try.sizeOf113 rfl rfl f0.frs (f0.ix h_t40)) ?_
                      refine d_val rfl rfl (r_fieldP Try.runUnderlying113 rfl Try.sizeOf3 rfl rfl (some_of_at f0.frs (f0.ix h_t40))) ?_
                      refine d_read (fun w hF => run_loadG1 (f := (elC h v0 6)) (i := (val (gI (x19_2 - 1)))) (sz := 6) (j := 0) (v := .int .i64 (val (gAt a0 (val (gI (x19_2 - 1))))).Tag) Try.isAgg3 rfl rfl (f0.frs.row (hw.now hF)) (f0.ix h_t40) (rg_of (cg_tag_Entry (f0.at h_t40)) rfl)) rfl rfl ?_
                      refine d_val rfl rfl (r_leq rfl rfl) ?_
                      refine d_val rfl rfl (r_pickT (v := .bool (decide (t22.Tag ≤ (val (gAt a0 (val (gI (x19_2 - 1))))).Tag))) rfl rfl) ?_
                      refine d_nil ?_
                      refine c_if (b := (decide (t22.Tag ≤ (val (gAt a0 (val (gI (x19_2 - 1))))).Tag))) rfl (fun hb => ?_) (fun hb => ?_)
                      · have H69 := cnd_t hb H68; clear H68
                        refine c_seq ?_
                        refine c_region ?_
                        refine l_val rfl rfl rfl (r_assign (v := .int .i64 5) rfl) ?_
                        refine l_nil ?_
                        refine c_ret ?_
                        obtain rfl := Option.some.inj H69
                        refine ret1 (v := .int .i64 5) rfl rfl (fin rfl)
                      · have H70 := cnd_f hb H68; clear H68
                        refine c_skip ?_
                        refine c_close () () 0 [0] (by exact ⟨rfl, rfl, rfl, rfl, rfl, rfl, rfl, rfl, rfl, trivial⟩) (by decide) rfl (by exact ⟨H70, trivial⟩) (Nat.lt_succ_self _)
                    · have H71 := cnd_f hb H49
                      refine d_pass rfl rfl ?_
                      refine d_pass rfl rfl ?_
                      refine d_pass rfl rfl ?_
                      refine d_pass rfl rfl ?_
                      refine d_pass rfl rfl ?_
                      refine d_pass rfl rfl ?_
                      refine d_pass rfl rfl ?_
                      refine d_pass rfl rfl ?_
                      refine d_pass rfl rfl ?_
                      refine d_val rfl rfl (r_pickF (v := .bool false) rfl rfl) ?_
                      refine d_nil ?_
                      refine c_false rfl ?_
                      refine c_skip ?_
                      refine c_close () () 0 [0] (by exact ⟨rfl, rfl, rfl, rfl, rfl, rfl, rfl, rfl, rfl, trivial⟩) (by decide) rfl (by exact ⟨H71, trivial⟩) (Nat.lt_succ_self _)
                    ) (by kernel_rfl)
                · rintro _ _ gg H50 _
                  replace H50 : R_dirFault_j3 a1 self x19_2 next1 t22 = some r := H50
                  refine c_tidyF [(0, v0), (1, .int .i64 a1), (6, .pointer (some ⟨b2, 0, none⟩)), (17, v0), (18, .int .i64 (a0.length : Int)), (19, .int .i64 x19_2), (28, .pointer (some ⟨b2, 0, none⟩)), (29, .int .i64 t22.Tag), (30, .bool (decide (65535 < t22.Tag)))] [cellsC b2 [.int .i64 t22.Tag, .int .i64 t22.Value.Kind, str t22.Value.Text, (elH h v0 6 (Int.toNat x19_2) 3), (elH h v0 6 (Int.toNat x19_2) 4), (elH h v0 6 (Int.toNat x19_2) 5)] 113] rfl rfl ?_
                  refine c_seq ?_
                  refine c_region ?_
                  refine l_val rfl rfl rfl (r_field Try.runUnderlying113 rfl Try.sizeOf61 rfl rfl) ?_
                  refine l_loadN (i := 0) (vs := [.int .i64 t22.Value.Kind, str t22.Value.Text, (elH h v0 6 (Int.toNat x19_2) 3), (elH h v0 6 (Int.toNat x19_2) 4), (elH h v0 6 (Int.toNat x19_2) 5)]) Try.isAgg61 Try.sizeOf61 rfl rfl rfl rfl rfl ?_
                  refine l_alloc (cs := [.int .i64 0, str [], .slice none 0 0, .slice none 0 0, .slice none 0 0]) Try.zeroValue61 rfl rfl rfl (fun b3 => ?_)
                  refine l_store (i := 1) (vs := [.int .i64 t22.Value.Kind, str t22.Value.Text, (elH h v0 6 (Int.toNat x19_2) 3), (elH h v0 6 (Int.toNat x19_2) 4), (elH h v0 6 (Int.toNat x19_2) 5)]) (cs' := [.int .i64 t22.Value.Kind, str t22.Value.Text, (elH h v0 6 (Int.toNat x19_2) 3), (elH h v0 6 (Int.toNat x19_2) 4), (elH h v0 6 (Int.toNat x19_2) 5)]) Try.sizeOf61 rfl rfl rfl rfl rfl rfl (by simp only [List.all_cons, List.all_nil, (show FrN h 6 (elH h v0 6 (Int.toNat x19_2) 5) g_tag_Entry t22.Value.Entries from (g_tag_Value_p4 (g_tag_Entry_p1 (f0.at h_t22)))).one, (show FrS h 1 (elH h v0 6 (Int.toNat x19_2) 3) (t22.Value.Ints.map e_i64) from (g_tag_Value_p2 (g_tag_Entry_p1 (f0.at h_t22)))).one, (show FrS h 2 (elH h v0 6 (Int.toNat x19_2) 4) (t22.Value.Ratios.map e_tag_Ratio) from (g_tag_Value_p3 (g_tag_Entry_p1 (f0.at h_t22)))).one] <;> rfl) rfl rfl ?_
                  refine l_nil ?_
                  refine c_seq ?_
                  refine c_seq ?_
                  refine c_region ?_
                  refine l_val rfl rfl rfl (r_field Try.runUnderlying61 rfl Try.sizeOf3 rfl rfl) ?_
                  refine l_load1 (i := 1) (v := .int .i64 t22.Value.Kind) Try.isAgg3 rfl rfl rfl rfl rfl ?_
                  refine l_val rfl rfl rfl (r_neq rfl rfl) ?_
                  refine l_nil ?_
                  refine c_if (b := (decide (t22.Value.Kind ≠ 13))) rfl (fun hb => ?_) (fun hb => ?_)
                  · have H51 := cnd_t hb H50; clear H50
                    refine c_seq ?_
                    refine c_seq ?_
                    refine c_region ?_
                    refine l_loadN (i := 1) (vs := [.int .i64 t22.Value.Kind, str t22.Value.Text, (elH h v0 6 (Int.toNat x19_2) 3), (elH h v0 6 (Int.toNat x19_2) 4), (elH h v0 6 (Int.toNat x19_2) 5)]) Try.isAgg61 Try.sizeOf61 rfl rfl rfl rfl rfl ?_
                    obtain ⟨t51, h_t51, H52⟩ := bnd_some H51; clear H51
                    refine l_callG (fun w hF hS => k39 (know_all w) ((show FrS h 1 (elH h v0 6 (Int.toNat x19_2) 3) (t22.Value.Ints.map e_i64) from (g_tag_Value_p2 (g_tag_Entry_p1 (f0.at h_t22)))).mono (hw.now hF)) ((show FrS h 2 (elH h v0 6 (Int.toNat x19_2) 4) (t22.Value.Ratios.map e_tag_Ratio) from (g_tag_Value_p3 (g_tag_Entry_p1 (f0.at h_t22)))).mono (hw.now hF)) ((show FrN h 6 (elH h v0 6 (Int.toNat x19_2) 5) g_tag_Entry t22.Value.Entries from (g_tag_Value_p4 (g_tag_Entry_p1 (f0.at h_t22)))).mono (hw.now hF)) h_t51) Try.call39 rfl rfl rfl ?_
                    refine l_val rfl rfl rfl (r_assign (v := .int .i64 t51) rfl) ?_
                    refine l_nil ?_
                    refine c_seq ?_
                    refine c_region ?_
                    refine l_val rfl rfl rfl (r_move (v := .int .i64 t51) rfl) ?_
                    refine l_val rfl rfl rfl (r_neq rfl rfl) ?_
                    refine l_nil ?_
                    refine c_if (b := (decide (t51 ≠ 0))) rfl (fun hb => ?_) (fun hb => ?_)
                    · have H53 := cnd_t hb H52; clear H52
                      refine c_seq ?_
                      refine c_region ?_
                      refine l_val rfl rfl rfl (r_move (v := .int .i64 t51) rfl) ?_
                      refine l_val rfl rfl rfl (r_assign (v := .int .i64 t51) rfl) ?_
                      refine l_nil ?_
                      refine c_ret ?_
                      obtain rfl := Option.some.inj H53
                      refine ret1 (v := .int .i64 t51) rfl rfl (fin rfl)
                    · have H54 := cnd_f hb H52; clear H52
                      refine c_skip ?_
                      refine c_exit ?_
                      refine c_close (t22.Tag, (decide (65535 < t22.Tag)), t22.Tag, t22.Value.Kind, t22.Value.Text, t22.Value.Ints, t22.Value.Ratios, t22.Value.Entries) ((elH h v0 6 (Int.toNat x19_2) 3), (elH h v0 6 (Int.toNat x19_2) 4), (elH h v0 6 (Int.toNat x19_2) 5), b2) 0 [0] (by exact ⟨rfl, rfl, rfl, rfl, rfl, rfl, rfl, rfl, trivial⟩) (by decide) rfl (by exact ⟨H54, ⟨(show FrS h 1 (elH h v0 6 (Int.toNat x19_2) 3) (t22.Value.Ints.map e_i64) from (g_tag_Value_p2 (g_tag_Entry_p1 (f0.at h_t22)))), (show FrS h 2 (elH h v0 6 (Int.toNat x19_2) 4) (t22.Value.Ratios.map e_tag_Ratio) from (g_tag_Value_p3 (g_tag_Entry_p1 (f0.at h_t22)))), (show FrN h 6 (elH h v0 6 (Int.toNat x19_2) 5) g_tag_Entry t22.Value.Entries from (g_tag_Value_p4 (g_tag_Entry_p1 (f0.at h_t22))))⟩⟩) (Nat.lt_succ_self _)
                  · have H55 := cnd_f hb H50; clear H50
                    refine c_skip ?_
                    refine c_seq ?_
                    refine c_seq ?_
                    refine c_region ?_
                    refine l_val rfl rfl rfl (r_field Try.runUnderlying61 rfl Try.sizeOf9 rfl rfl) ?_
                    refine l_load1 (i := 1) (v := str t22.Value.Text) Try.isAgg9 rfl rfl rfl rfl rfl ?_
                    refine l_val rfl rfl rfl (r_neqT rfl rfl) ?_
                    refine l_val rfl rfl rfl (r_move (v := .bool (decide (t22.Value.Text ≠ []))) rfl) ?_
                    refine split (fun hb => ?_) (fun hb => ?_)
                    · have H56 := cnd_t hb H55; clear H55
                      refine l_passed rfl rfl rfl ?_
                      refine l_passed rfl rfl rfl ?_
                      refine l_passed rfl rfl rfl ?_
                      refine l_passed rfl rfl rfl ?_
                      refine l_val rfl rfl rfl (r_pickT (v := .bool true) rfl rfl) ?_
                      refine l_val rfl rfl rfl (r_move (v := .bool true) rfl) ?_
                      refine l_passed rfl rfl rfl ?_
                      refine l_passed rfl rfl rfl ?_
                      refine l_passed rfl rfl rfl ?_
                      refine l_passed rfl rfl rfl ?_
                      refine l_val rfl rfl rfl (r_pickT (v := .bool true) rfl rfl) ?_
                      refine l_nil ?_
                      refine c_true rfl ?_
                      refine c_seq ?_
                      refine c_region ?_
                      refine l_val rfl rfl rfl (r_assign (v := .int .i64 1) rfl) ?_
                      refine l_nil ?_
                      refine c_ret ?_
                      obtain rfl := Option.some.inj H56
                      refine ret1 (v := .int .i64 1) rfl rfl (fin rfl)
                    · have H57 := cnd_f hb H55; clear H55
                      refine l_val rfl rfl rfl (r_field Try.runUnderlying61 rfl Try.sizeOf57 rfl rfl) ?_
                      refine l_load1 (i := 1) (v := (elH h v0 6 (Int.toNat x19_2) 3)) Try.isAgg57 rfl rfl rfl rfl rfl ?_
                      refine l_val rfl rfl rfl (r_lenF Try.underlying57 rfl (show FrS h 1 (elH h v0 6 (Int.toNat x19_2) 3) (t22.Value.Ints.map e_i64) from (g_tag_Value_p2 (g_tag_Entry_p1 (f0.at h_t22)))) rfl) ?_
                      refine l_val rfl rfl rfl (r_gtr rfl rfl) ?_
                      refine l_val rfl rfl rfl (r_pickF (v := .bool (decide (0 < (t22.Value.Ints.length : Int)))) rfl rfl) ?_
                      refine l_val rfl rfl rfl (r_move (v := .bool (decide (0 < (t22.Value.Ints.length : Int)))) rfl) ?_
                      refine split (fun hb => ?_) (fun hb => ?_)
                      · have H58 := cnd_t hb H57; clear H57
                        refine l_passed rfl rfl rfl ?_
                        refine l_passed rfl rfl rfl ?_
                        refine l_passed rfl rfl rfl ?_
                        refine l_passed rfl rfl rfl ?_
                        refine l_val rfl rfl rfl (r_pickT (v := .bool true) rfl rfl) ?_
                        refine l_nil ?_
                        refine c_true rfl ?_
                        refine c_seq ?_
                        refine c_region ?_
                        refine l_val rfl rfl rfl (r_assign (v := .int .i64 1) rfl) ?_
                        refine l_nil ?_
                        refine c_ret ?_
                        obtain rfl := Option.some.inj H58
                        refine ret1 (v := .int .i64 1) rfl rfl (fin rfl)
                      · have H59 := cnd_f hb H57; clear H57
                        refine l_val rfl rfl rfl (r_field Try.runUnderlying61 rfl Try.sizeOf58 rfl rfl) ?_
                        refine l_load1 (i := 1) (v := (elH h v0 6 (Int.toNat x19_2) 4)) Try.isAgg58 rfl rfl rfl rfl rfl ?_
                        refine l_val rfl rfl rfl (r_lenF Try.underlying58 rfl (show FrS h 2 (elH h v0 6 (Int.toNat x19_2) 4) (t22.Value.Ratios.map e_tag_Ratio) from (g_tag_Value_p3 (g_tag_Entry_p1 (f0.at h_t22)))) rfl) ?_
                        refine l_val rfl rfl rfl (r_gtr rfl rfl) ?_
                        refine l_val rfl rfl rfl (r_pickF (v := .bool (decide (0 < (t22.Value.Ratios.length : Int)))) rfl rfl) ?_
                        refine l_nil ?_
                        refine c_if (b := (decide (0 < (t22.Value.Ratios.length : Int)))) rfl (fun hb => ?_) (fun hb => ?_)
                        · have H60 := cnd_t hb H59; clear H59
                          refine c_seq ?_
                          refine c_region ?_
                          refine l_val rfl rfl rfl (r_assign (v := .int .i64 1) rfl) ?_
                          refine l_nil ?_
                          refine c_ret ?_
                          obtain rfl := Option.some.inj H60
                          refine ret1 (v := .int .i64 1) rfl rfl (fin rfl)
                        · have H61 := cnd_f hb H59; clear H59
                          refine c_skip ?_
                          refine c_seq ?_
                          refine c_region ?_
                          refine l_val rfl rfl rfl (r_field Try.runUnderlying61 rfl Try.sizeOf59 rfl rfl) ?_
                          refine l_load1 (i := 1) (v := (elH h v0 6 (Int.toNat x19_2) 5)) Try.isAgg59 rfl rfl rfl rfl rfl ?_
                          refine l_val rfl rfl rfl (r_move (v := .int .i64 a1) rfl) ?_
                          obtain ⟨t73, h_t73, H62⟩ := bnd_some H61; clear H61
                          refine l_val rfl rfl rfl (r_addG rfl rfl h_t73) ?_
                          obtain ⟨t74, h_t74, H63⟩ := bnd_some H62; clear H62
                          refine l_callG (fun w hF hS => ih (know_all w) ((show FrN h 6 (elH h v0 6 (Int.toNat x19_2) 5) g_tag_Entry t22.Value.Entries from (g_tag_Value_p4 (g_tag_Entry_p1 (f0.at h_t22)))).mono (hw.now hF)) h_t74) Try.call42 rfl rfl rfl ?_
                          refine l_val rfl rfl rfl (r_assign (v := .int .i64 t74) rfl) ?_
                          refine l_nil ?_
                          refine c_seq ?_
                          refine c_region ?_
                          refine l_val rfl rfl rfl (r_move (v := .int .i64 t74) rfl) ?_
                          refine l_val rfl rfl rfl (r_neq rfl rfl) ?_
                          refine l_nil ?_
                          refine c_if (b := (decide (t74 ≠ 0))) rfl (fun hb => ?_) (fun hb => ?_)
                          · have H64 := cnd_t hb H63; clear H63
                            refine c_seq ?_
                            refine c_region ?_
                            refine l_val rfl rfl rfl (r_move (v := .int .i64 t74) rfl) ?_
                            refine l_val rfl rfl rfl (r_assign (v := .int .i64 t74) rfl) ?_
                            refine l_nil ?_
                            refine c_ret ?_
                            obtain rfl := Option.some.inj H64
                            refine ret1 (v := .int .i64 t74) rfl rfl (fin rfl)
                          · have H65 := cnd_f hb H63; clear H63
                            refine c_skip ?_
                            refine c_close (t22.Tag, (decide (65535 < t22.Tag)), t22.Tag, t22.Value.Kind, t22.Value.Text, t22.Value.Ints, t22.Value.Ratios, t22.Value.Entries) ((elH h v0 6 (Int.toNat x19_2) 3), (elH h v0 6 (Int.toNat x19_2) 4), (elH h v0 6 (Int.toNat x19_2) 5), b2) 0 [0] (by exact ⟨rfl, rfl, rfl, rfl, rfl, rfl, rfl, rfl, trivial⟩) (by decide) rfl (by exact ⟨H65, ⟨(show FrS h 1 (elH h v0 6 (Int.toNat x19_2) 3) (t22.Value.Ints.map e_i64) from (g_tag_Value_p2 (g_tag_Entry_p1 (f0.at h_t22)))), (show FrS h 2 (elH h v0 6 (Int.toNat x19_2) 4) (t22.Value.Ratios.map e_tag_Ratio) from (g_tag_Value_p3 (g_tag_Entry_p1 (f0.at h_t22)))), (show FrN h 6 (elH h v0 6 (Int.toNat x19_2) 5) g_tag_Entry t22.Value.Entries from (g_tag_Value_p4 (g_tag_Entry_p1 (f0.at h_t22))))⟩⟩) (Nat.lt_succ_self _)
          · rintro ⟨x29, x30, m, m_2, m_3, m_4, m_5, m_6⟩ ⟨gv, gv_2, gv_3, b⟩ gg H43 ⟨gf, gf_2, gf_3⟩
            replace H43 : R_dirFault_j2 x19_2 next1 x29 x30 m m_2 m_3 m_4 m_5 m_6 = some r := H43
            refine c_tidyF [(0, v0), (1, .int .i64 a1), (17, v0), (18, .int .i64 (a0.length : Int)), (19, .int .i64 x19_2), (28, .pointer (some ⟨b, 0, none⟩)), (29, .int .i64 x29), (30, .bool x30)] [cellsC b [.int .i64 m, .int .i64 m_2, str m_3, gv, gv_2, gv_3] 113] rfl rfl ?_
            refine c_region ?_
            obtain ⟨t78, h_t78, H44⟩ := bnd_some H43; clear H43
            refine l_val rfl rfl rfl (r_addG rfl rfl h_t78) ?_
            refine l_val rfl rfl rfl (r_move (v := .int .i64 t78) rfl) ?_
            refine l_nil ?_
            refine c_close t78 () m1 [] (by exact ⟨rfl, rfl, rfl, rfl, rfl, trivial⟩) (by decide) rfl (by exact ⟨(by subst hn1; exact H44), trivial⟩) (Nat.lt_succ_self _)
        · have H72 := cnd_f hb H41; clear H41
          refine c_exit ?_
          refine c_seq ?_
          refine c_region ?_
          refine l_val rfl rfl rfl (r_assign (v := .int .i64 0) rfl) ?_
          refine l_nil ?_
          refine c_ret ?_
          obtain rfl := Option.some.inj H72
          refine ret1 (v := .int .i64 0) rfl rfl (fin rfl)
theorem k42 {a0 : (List T_tag_Entry)} {v0 : Value} {a1 : Int} {r : Int} {w : World} {h : Heap} (hw : Know h w noS) (f0 : FrN h 6 v0 g_tag_Entry a0) (H : R_dirFault a0 a1 = some r) : Does Try.prog 42 (List.toArray [v0, .int .i64 a1]) w (fun v w' => v = (.int .i64 r) ∧ Grow w w') := by
  obtain ⟨mm, hm⟩ := fix_it (show fix (fun (self : ((List T_tag_Entry) × Int) → Option (Int)) (s : (List T_tag_Entry) × Int) => R_dirFault_body self s.1 s.2) (a0, a1) = some r from H)
  exact k42_it mm hw f0 hm
theorem k7 {a0 : T_tag_File} {v0_1 : Value} {r : Int} {w : World} {h : Heap} (hw : Know h w noS) (f0_1 : FrN h 1 v0_1 gs_tag_Entry a0.Dirs) (H : R_FileFault a0 = some r) : Does Try.prog 7 (List.toArray [.agg #[.bool a0.Big, v0_1]]) w (fun v w' => v = (.int .i64 r) ∧ Grow w w') := by
  refine enter (n := 27) Try.func7 rfl rfl rfl noS [] (Sat.nil _ _) ?_
  refine c_seq ?_
  refine c_region ?_
  refine l_box (cs := [.bool a0.Big, v0_1]) rfl rfl rfl rfl (fun b1 => ?_)
  refine l_val rfl rfl rfl (r_assign (v := .int .i64 0) rfl) ?_
  refine l_nil ?_
  refine c_seq ?_
  refine c_seq ?_
  refine c_region ?_
  refine l_val rfl rfl rfl (r_field Try.runUnderlying24 rfl Try.sizeOf22 rfl rfl) ?_
  refine l_load1 (i := 0) (v := v0_1) Try.isAgg22 rfl rfl rfl rfl rfl ?_
  refine l_val rfl rfl rfl (r_lenFN Try.underlying22 rfl f0_1) ?_
  refine l_val rfl rfl rfl (r_gtr rfl rfl) ?_
  refine l_nil ?_
  refine c_if (b := (decide (20 < (a0.Dirs.length : Int)))) rfl (fun hb => ?_) (fun hb => ?_)
  · have H15 := cnd_t hb H; clear H
    refine c_seq ?_
    refine c_region ?_
    refine l_val rfl rfl rfl (r_assign (v := .int .i64 4) rfl) ?_
    refine l_nil ?_
    refine c_ret ?_
    obtain rfl := Option.some.inj H15
    refine ret1 (v := .int .i64 4) rfl rfl (fin rfl)
  · have H16 := cnd_f hb H; clear H
    refine c_skip ?_
    refine c_meet (r := r) (σ := Unit) (τ := Unit) (fun s => R_FileFault_j1 a0) (fun s t => [(1, .pointer (some ⟨b1, 0, none⟩))]) (fun s t => [cellsC b1 [.bool a0.Big, v0_1] 24]) (fun s t => True) ?_ ?_
    · refine c_seq ?_
      refine c_region ?_
      refine l_val rfl rfl rfl (r_field Try.runUnderlying24 rfl Try.sizeOf22 rfl rfl) ?_
      refine l_load1 (i := 0) (v := v0_1) Try.isAgg22 rfl rfl rfl rfl rfl ?_
      refine l_val rfl rfl rfl (r_lenFN Try.underlying22 rfl f0_1) ?_
      refine l_val rfl rfl rfl (r_move (v := .int .i64 0) rfl) ?_
      refine l_nil ?_
      refine c_block ?_
      refine c_fix (σ := Int) (τ := Unit) (fun next2 s => R_FileFault_l2 a0 next2 s) (fun s t => [(1, .pointer (some ⟨b1, 0, none⟩)), (11, v0_1), (12, .int .i64 (a0.Dirs.length : Int)), (13, .int .i64 s)]) (fun s t => [cellsC b1 [.bool a0.Big, v0_1] 24]) (fun s t => True) 0 () [0] H16 (by exact trivial) (by exact ⟨rfl, rfl, rfl, rfl, trivial⟩) (by decide) rfl ?_
      rintro x13_2 _ m2 gg H21 _
      clear H16
      replace H21 : R_FileFault_l2 a0 (it (fun next2 s => R_FileFault_l2 a0 next2 s) m2) x13_2 = some r := H21
      generalize hn2 : it (fun next2 s => R_FileFault_l2 a0 next2 s) m2 = next2 at H21
      refine c_tidyF [(1, .pointer (some ⟨b1, 0, none⟩)), (11, v0_1), (12, .int .i64 (a0.Dirs.length : Int)), (13, .int .i64 x13_2)] [cellsC b1 [.bool a0.Big, v0_1] 24] rfl rfl ?_
      refine c_seq ?_
      refine c_region ?_
      refine l_val rfl rfl rfl (r_lss rfl rfl) ?_
      refine l_nil ?_
      refine c_seq ?_
      refine c_if (b := (decide (x13_2 < (a0.Dirs.length : Int)))) rfl (fun hb => ?_) (fun hb => ?_)
      · have H22 := cnd_t hb H21; clear H21
        refine c_skip ?_
        refine c_seq ?_
        refine c_block ?_
        refine c_seq ?_
        refine c_region ?_
        obtain ⟨t15, h_t15, H23⟩ := bnd_some H22; clear H22
        refine l_val rfl rfl rfl (r_indexF Try.underlying22 Try.sizeOf59 rfl rfl f0_1.frs (f0_1.ix h_t15)) ?_
        refine l_read (fun w hF hS => run_loadG1 (f := (elC h v0_1 1)) (i := x13_2) (sz := 1) (j := 0) (v := (elH h v0_1 1 (Int.toNat x13_2) 0)) Try.isAgg59 rfl rfl (f0_1.frs.row (hw.now hF)) (f0_1.ix h_t15) (rg_of (cgs_tag_Entry (f0_1.at h_t15)) rfl)) rfl rfl rfl ?_
        refine l_val rfl rfl rfl (r_assign (v := (elH h v0_1 1 (Int.toNat x13_2) 0)) rfl) ?_
        refine l_nil ?_
        refine c_seq ?_
        refine c_region ?_
        refine l_val rfl rfl rfl (r_move (v := (elH h v0_1 1 (Int.toNat x13_2) 0)) rfl) ?_
        obtain ⟨t18, h_t18, H24⟩ := bnd_some H23; clear H23
        refine l_callG (fun w hF hS => k42 (know_all w) ((show FrN h 6 (elH h v0_1 1 (Int.toNat x13_2) 0) g_tag_Entry t15 from (f0_1.at h_t15)).mono (hw.now hF)) h_t18) Try.call42 rfl rfl rfl ?_
        refine l_val rfl rfl rfl (r_assign (v := .int .i64 t18) rfl) ?_
        refine l_nil ?_
        refine c_seq ?_
        refine c_region ?_
        refine l_val rfl rfl rfl (r_move (v := .int .i64 t18) rfl) ?_
        refine l_val rfl rfl rfl (r_neq rfl rfl) ?_
        refine l_nil ?_
        refine c_if (b := (decide (t18 ≠ 0))) rfl (fun hb => ?_) (fun hb => ?_)
        · have H25 := cnd_t hb H24; clear H24
          refine c_seq ?_
          refine c_region ?_
          refine l_val rfl rfl rfl (r_move (v := .int .i64 t18) rfl) ?_
          refine l_val rfl rfl rfl (r_assign (v := .int .i64 t18) rfl) ?_
          refine l_nil ?_
          refine c_ret ?_
          obtain rfl := Option.some.inj H25
          refine ret1 (v := .int .i64 t18) rfl rfl (fin rfl)
        · have H26 := cnd_f hb H24; clear H24
          refine c_skip ?_
          refine c_region ?_
          obtain ⟨t22, h_t22, H27⟩ := bnd_some H26; clear H26
          refine l_val rfl rfl rfl (r_addG rfl rfl h_t22) ?_
          refine l_val rfl rfl rfl (r_move (v := .int .i64 t22) rfl) ?_
          refine l_nil ?_
          refine c_close t22 () m2 [0] (by exact ⟨rfl, rfl, rfl, rfl, trivial⟩) (by decide) rfl (by exact ⟨(by subst hn2; exact H27), trivial⟩) (Nat.lt_succ_self _)
      · have H28 := cnd_f hb H21; clear H21
        refine c_exit ?_
        refine c_close () () 0 [0] (by exact ⟨rfl, trivial⟩) (by decide) rfl (by exact ⟨H28, trivial⟩) (Nat.lt_succ_self _)
    · rintro _ _ gg H17 _
      replace H17 : R_FileFault_j1 a0 = some r := H17
      refine c_tidyF [(1, .pointer (some ⟨b1, 0, none⟩))] [cellsC b1 [.bool a0.Big, v0_1] 24] rfl rfl ?_
      refine c_seq ?_
      refine c_seq ?_
      refine c_region ?_
      refine l_loadN (i := 0) (vs := [.bool a0.Big, v0_1]) Try.isAgg24 Try.sizeOf24 rfl rfl rfl rfl rfl ?_
      obtain ⟨t24, h_t24, H18⟩ := bnd_some H17; clear H17
      refine l_callG (fun w hF hS => k8 (know_all w) (f0_1.mono (hw.now hF)) h_t24) Try.call8 rfl rfl rfl ?_
      refine l_val rfl rfl rfl (r_lenT Try.underlying9 rfl) ?_
      refine l_val rfl rfl rfl (r_gtr rfl rfl) ?_
      refine l_nil ?_
      refine c_if (b := (decide (65000 < (t24.length : Int)))) rfl (fun hb => ?_) (fun hb => ?_)
      · have H19 := cnd_t hb H18; clear H18
        refine c_seq ?_
        refine c_region ?_
        refine l_val rfl rfl rfl (r_assign (v := .int .i64 4) rfl) ?_
        refine l_nil ?_
        refine c_ret ?_
        obtain rfl := Option.some.inj H19
        refine ret1 (v := .int .i64 4) rfl rfl (fin rfl)
      · have H20 := cnd_f hb H18; clear H18
        refine c_skip ?_
        refine c_seq ?_
        refine c_region ?_
        refine l_val rfl rfl rfl (r_assign (v := .int .i64 0) rfl) ?_
        refine l_nil ?_
        refine c_ret ?_
        obtain rfl := Option.some.inj H20
        refine ret1 (v := .int .i64 0) rfl rfl (fin rfl)
theorem k123 {a0 : Int} {r : Int} (H : tag_even a0 = some r) : Ret Try.prog 123 [.int .i64 a0] (.int .i64 r) := by
  refine enterRet (n := 7) Try.func123 rfl rfl rfl (fun wd => ?_)
  refine c_seq ?_
  refine c_region ?_
  refine l_val rfl rfl rfl (r_assign (v := .int .i64 0) rfl) ?_
  refine l_nil ?_
  refine c_seq ?_
  refine c_region ?_
  refine l_val rfl rfl rfl (r_move (v := .int .i64 a0) rfl) ?_
  refine l_val rfl rfl rfl (r_move (v := .int .i64 a0) rfl) ?_
  obtain ⟨t5, h_t5, H3⟩ := bnd_some H; clear H
  refine l_val rfl rfl rfl (r_remG rfl rfl h_t5) ?_
  obtain ⟨t6, h_t6, H4⟩ := bnd_some H3; clear H3
  refine l_val rfl rfl rfl (r_addG rfl rfl h_t6) ?_
  refine l_val rfl rfl rfl (r_assign (v := .int .i64 t6) rfl) ?_
  refine l_nil ?_
  refine c_ret ?_
  obtain rfl := Option.some.inj H4
  refine ret1 (v := .int .i64 t6) rfl rfl (fin rfl)
theorem k126 {a0 : T_tag_Value} {v0_2 : Value} {v0_3 : Value} {v0_4 : Value} {r : Int} {w : World} {h : Heap} (hw : Know h w noS) (f0_2 : FrS h 1 v0_2 (a0.Ints.map e_i64)) (f0_3 : FrS h 2 v0_3 (a0.Ratios.map e_tag_Ratio)) (f0_4 : FrN h 6 v0_4 g_tag_Entry a0.Entries) (H : tag_count a0 = some r) : Does Try.prog 126 (List.toArray [.agg #[.int .i64 a0.Kind, str a0.Text, v0_2, v0_3, v0_4]]) w (fun v w' => v = (.int .i64 r) ∧ Grow w w') := by
  refine enter (n := 26) Try.func126 rfl rfl rfl noS [] (Sat.nil _ _) ?_
  refine c_seq ?_
  refine c_region ?_
  refine l_box (cs := [.int .i64 a0.Kind, str a0.Text, v0_2, v0_3, v0_4]) rfl rfl rfl rfl (fun b1 => ?_)
  refine l_val rfl rfl rfl (r_assign (v := .int .i64 0) rfl) ?_
  refine l_nil ?_
  refine c_seq ?_
  refine c_seq ?_
  refine c_region ?_
  refine l_val rfl rfl rfl (r_field Try.runUnderlying61 rfl Try.sizeOf3 rfl rfl) ?_
  refine l_load1 (i := 0) (v := .int .i64 a0.Kind) Try.isAgg3 rfl rfl rfl rfl rfl ?_
  refine l_nil ?_
  refine c_block ?_
  refine c_seq ?_
  refine c_region ?_
  refine l_val rfl rfl rfl (r_eql rfl rfl) ?_
  refine l_val rfl rfl rfl (r_assign (v := .bool (decide (a0.Kind = 2))) rfl) ?_
  refine l_nil ?_
  refine c_if (b := (decide (a0.Kind = 2))) rfl (fun hb => ?_) (fun hb => ?_)
  · have H10 := cnd_t hb H; clear H
    refine c_seq ?_
    refine c_region ?_
    refine l_val rfl rfl rfl (r_field Try.runUnderlying61 rfl Try.sizeOf9 rfl rfl) ?_
    refine l_load1 (i := 0) (v := str a0.Text) Try.isAgg9 rfl rfl rfl rfl rfl ?_
    refine l_val rfl rfl rfl (r_lenT Try.underlying9 rfl) ?_
    obtain ⟨t10, h_t10, H11⟩ := bnd_some H10; clear H10
    refine l_val rfl rfl rfl (r_addG rfl rfl h_t10) ?_
    refine l_val rfl rfl rfl (r_assign (v := .int .i64 t10) rfl) ?_
    refine l_nil ?_
    refine c_ret ?_
    obtain rfl := Option.some.inj H11
    refine ret1 (v := .int .i64 t10) rfl rfl (fin rfl)
  · have H12 := cnd_f hb H; clear H
    refine c_seq ?_
    refine c_region ?_
    refine l_val rfl rfl rfl (r_eql rfl rfl) ?_
    refine l_val rfl rfl rfl (r_assign (v := .bool (decide (a0.Kind = 7))) rfl) ?_
    refine l_nil ?_
    refine c_if (b := (decide (a0.Kind = 7))) rfl (fun hb => ?_) (fun hb => ?_)
    · have H13 := cnd_t hb H12; clear H12
      refine c_seq ?_
      refine c_region ?_
      refine l_val rfl rfl rfl (r_field Try.runUnderlying61 rfl Try.sizeOf9 rfl rfl) ?_
      refine l_load1 (i := 0) (v := str a0.Text) Try.isAgg9 rfl rfl rfl rfl rfl ?_
      refine l_val rfl rfl rfl (r_lenT Try.underlying9 rfl) ?_
      refine l_val rfl rfl rfl (r_assign (v := .int .i64 (a0.Text.length : Int)) rfl) ?_
      refine l_nil ?_
      refine c_ret ?_
      obtain rfl := Option.some.inj H13
      refine ret1 (v := .int .i64 (a0.Text.length : Int)) rfl rfl (fin rfl)
    · have H14 := cnd_f hb H12; clear H12
      refine c_seq ?_
      refine c_region ?_
      refine l_val rfl rfl rfl (r_eql rfl rfl) ?_
      refine l_val rfl rfl rfl (r_assign (v := .bool (decide (a0.Kind = 5))) rfl) ?_
      refine l_nil ?_
      refine c_if (b := (decide (a0.Kind = 5))) rfl (fun hb => ?_) (fun hb => ?_)
      · have H15 := cnd_t hb H14; clear H14
        refine c_seq ?_
        refine c_region ?_
        refine l_val rfl rfl rfl (r_field Try.runUnderlying61 rfl Try.sizeOf58 rfl rfl) ?_
        refine l_load1 (i := 0) (v := v0_3) Try.isAgg58 rfl rfl rfl rfl rfl ?_
        refine l_val rfl rfl rfl (r_lenF Try.underlying58 rfl f0_3 rfl) ?_
        refine l_val rfl rfl rfl (r_assign (v := .int .i64 (a0.Ratios.length : Int)) rfl) ?_
        refine l_nil ?_
        refine c_ret ?_
        obtain rfl := Option.some.inj H15
        refine ret1 (v := .int .i64 (a0.Ratios.length : Int)) rfl rfl (fin rfl)
      · have H16 := cnd_f hb H14; clear H14
        refine c_seq ?_
        refine c_region ?_
        refine l_val rfl rfl rfl (r_eql rfl rfl) ?_
        refine l_val rfl rfl rfl (r_assign (v := .bool (decide (a0.Kind = 13))) rfl) ?_
        refine l_nil ?_
        refine c_if (b := (decide (a0.Kind = 13))) rfl (fun hb => ?_) (fun hb => ?_)
        · have H17 := cnd_t hb H16; clear H16
          refine c_seq ?_
          refine c_region ?_
          refine l_val rfl rfl rfl (r_assign (v := .int .i64 1) rfl) ?_
          refine l_nil ?_
          refine c_ret ?_
          obtain rfl := Option.some.inj H17
          refine ret1 (v := .int .i64 1) rfl rfl (fin rfl)
        · have H18 := cnd_f hb H16; clear H16
          refine c_skip ?_
          refine c_seq ?_
          refine c_region ?_
          refine l_val rfl rfl rfl (r_field Try.runUnderlying61 rfl Try.sizeOf57 rfl rfl) ?_
          refine l_load1 (i := 0) (v := v0_2) Try.isAgg57 rfl rfl rfl rfl rfl ?_
          refine l_val rfl rfl rfl (r_lenF Try.underlying57 rfl f0_2 rfl) ?_
          refine l_val rfl rfl rfl (r_assign (v := .int .i64 (a0.Ints.length : Int)) rfl) ?_
          refine l_nil ?_
          refine c_ret ?_
          obtain rfl := Option.some.inj H18
          refine ret1 (v := .int .i64 (a0.Ints.length : Int)) rfl rfl (fin rfl)
theorem k129 {a0 : Int} {r : Int} (H : tag_sizeOf a0 = some r) : Ret Try.prog 129 [.int .i64 a0] (.int .i64 r) := by
  refine enterRet (n := 16) Try.func129 rfl rfl rfl (fun wd => ?_)
  refine c_seq ?_
  refine c_region ?_
  refine l_val rfl rfl rfl (r_assign (v := .int .i64 0) rfl) ?_
  refine l_nil ?_
  refine c_seq ?_
  refine c_seq ?_
  refine c_region ?_
  refine l_val rfl rfl rfl (r_move (v := .int .i64 a0) rfl) ?_
  refine l_nil ?_
  refine c_block ?_
  refine c_meet (r := r) (σ := Bool) (τ := Unit) (fun s => tag_sizeOf_j1 a0 s) (fun s t => [(3, .int .i64 a0), (4, .bool s)]) (fun s t => []) (fun s t => True) ?_ ?_
  · refine c_seq ?_
    refine c_region ?_
    refine l_val rfl rfl rfl (r_eql rfl rfl) ?_
    refine l_val rfl rfl rfl (r_assign (v := .bool (decide (a0 = 1))) rfl) ?_
    refine l_nil ?_
    refine c_if (b := (decide (a0 = 1))) rfl (fun hb => ?_) (fun hb => ?_)
    · have H37 := cnd_t hb H; clear H
      refine c_skip ?_
      refine c_close (decide (a0 = 1)) () 0 [] (by exact ⟨rfl, rfl, trivial⟩) (by decide) rfl (by exact ⟨H37, trivial⟩) (Nat.lt_succ_self _)
    · have H38 := cnd_f hb H; clear H
      refine c_seq ?_
      refine c_region ?_
      refine l_val rfl rfl rfl (r_eql rfl rfl) ?_
      refine l_val rfl rfl rfl (r_assign (v := .bool (decide (a0 = 2))) rfl) ?_
      refine l_nil ?_
      refine c_if (b := (decide (a0 = 2))) rfl (fun hb => ?_) (fun hb => ?_)
      · have H39 := cnd_t hb H38; clear H38
        refine c_skip ?_
        refine c_close (decide (a0 = 2)) () 0 [] (by exact ⟨rfl, rfl, trivial⟩) (by decide) rfl (by exact ⟨H39, trivial⟩) (Nat.lt_succ_self _)
      · have H40 := cnd_f hb H38; clear H38
        refine c_seq ?_
        refine c_region ?_
        refine l_val rfl rfl rfl (r_eql rfl rfl) ?_
        refine l_val rfl rfl rfl (r_assign (v := .bool (decide (a0 = 7))) rfl) ?_
        refine l_nil ?_
        refine c_if (b := (decide (a0 = 7))) rfl (fun hb => ?_) (fun hb => ?_)
        · have H41 := cnd_t hb H40; clear H40
          refine c_skip ?_
          refine c_close (decide (a0 = 7)) () 0 [] (by exact ⟨rfl, rfl, trivial⟩) (by decide) rfl (by exact ⟨H41, trivial⟩) (Nat.lt_succ_self _)
        · have H42 := cnd_f hb H40; clear H40
          refine c_region ?_
          refine l_val rfl rfl rfl (r_eql rfl rfl) ?_
          refine l_val rfl rfl rfl (r_assign (v := .bool (decide (a0 = 13))) rfl) ?_
          refine l_nil ?_
          refine c_close (decide (a0 = 13)) () 0 [] (by exact ⟨rfl, rfl, trivial⟩) (by decide) rfl (by exact ⟨H42, trivial⟩) (Nat.lt_succ_self _)
  · rintro x4 _ gg H22 _
    replace H22 : tag_sizeOf_j1 a0 x4 = some r := H22
    refine c_tidyF [(3, .int .i64 a0), (4, .bool x4)] [] rfl rfl ?_
    refine c_if (b := x4) rfl (fun hb => ?_) (fun hb => ?_)
    · have H23 := cnd_t hb H22; clear H22
      refine c_seq ?_
      refine c_region ?_
      refine l_val rfl rfl rfl (r_assign (v := .int .i64 1) rfl) ?_
      refine l_nil ?_
      refine c_ret ?_
      obtain rfl := Option.some.inj H23
      refine ret1 (v := .int .i64 1) rfl rfl (fin rfl)
    · have H24 := cnd_f hb H22; clear H22
      refine c_seq ?_
      refine c_region ?_
      refine l_val rfl rfl rfl (r_eql rfl rfl) ?_
      refine l_val rfl rfl rfl (r_assign (v := .bool (decide (a0 = 3))) rfl) ?_
      refine l_nil ?_
      refine c_if (b := (decide (a0 = 3))) rfl (fun hb => ?_) (fun hb => ?_)
      · have H25 := cnd_t hb H24; clear H24
        refine c_seq ?_
        refine c_region ?_
        refine l_val rfl rfl rfl (r_assign (v := .int .i64 2) rfl) ?_
        refine l_nil ?_
        refine c_ret ?_
        obtain rfl := Option.some.inj H25
        refine ret1 (v := .int .i64 2) rfl rfl (fin rfl)
      · have H26 := cnd_f hb H24; clear H24
        refine c_seq ?_
        refine c_seq ?_
        refine c_region ?_
        refine l_val rfl rfl rfl (r_eql rfl rfl) ?_
        refine l_val rfl rfl rfl (r_assign (v := .bool (decide (a0 = 4))) rfl) ?_
        refine l_nil ?_
        refine c_if (b := (decide (a0 = 4))) rfl (fun hb => ?_) (fun hb => ?_)
        · have H27 := cnd_t hb H26; clear H26
          refine c_skip ?_
          refine c_if (b := (decide (a0 = 4))) rfl (fun hb => ?_) (fun hb => ?_)
          · have H28 := cnd_t hb H27; clear H27
            refine c_seq ?_
            refine c_region ?_
            refine l_val rfl rfl rfl (r_assign (v := .int .i64 4) rfl) ?_
            refine l_nil ?_
            refine c_ret ?_
            obtain rfl := Option.some.inj H28
            refine ret1 (v := .int .i64 4) rfl rfl (fin rfl)
          · have H29 := cnd_f hb H27; clear H27
            refine c_seq ?_
            refine c_region ?_
            refine l_val rfl rfl rfl (r_eql rfl rfl) ?_
            refine l_val rfl rfl rfl (r_assign (v := .bool (decide (a0 = 5))) rfl) ?_
            refine l_nil ?_
            refine c_if (b := (decide (a0 = 5))) rfl (fun hb => ?_) (fun hb => ?_)
            · have H30 := cnd_t hb H29; clear H29
              refine c_seq ?_
              refine c_region ?_
              refine l_val rfl rfl rfl (r_assign (v := .int .i64 8) rfl) ?_
              refine l_nil ?_
              refine c_ret ?_
              obtain rfl := Option.some.inj H30
              refine ret1 (v := .int .i64 8) rfl rfl (fin rfl)
            · have H31 := cnd_f hb H29; clear H29
              refine c_skip ?_
              refine c_seq ?_
              refine c_region ?_
              refine l_val rfl rfl rfl (r_assign (v := .int .i64 0) rfl) ?_
              refine l_nil ?_
              refine c_ret ?_
              obtain rfl := Option.some.inj H31
              refine ret1 (v := .int .i64 0) rfl rfl (fin rfl)
        · have H32 := cnd_f hb H26; clear H26
          refine c_region ?_
          refine l_val rfl rfl rfl (r_eql rfl rfl) ?_
          refine l_val rfl rfl rfl (r_assign (v := .bool (decide (a0 = 9))) rfl) ?_
          refine l_nil ?_
          refine c_if (b := (decide (a0 = 9))) rfl (fun hb => ?_) (fun hb => ?_)
          · have H33 := cnd_t hb H32; clear H32
            refine c_seq ?_
            refine c_region ?_
            refine l_val rfl rfl rfl (r_assign (v := .int .i64 4) rfl) ?_
            refine l_nil ?_
            refine c_ret ?_
            obtain rfl := Option.some.inj H33
            refine ret1 (v := .int .i64 4) rfl rfl (fin rfl)
          · have H34 := cnd_f hb H32; clear H32
            refine c_seq ?_
            refine c_region ?_
            refine l_val rfl rfl rfl (r_eql rfl rfl) ?_
            refine l_val rfl rfl rfl (r_assign (v := .bool (decide (a0 = 5))) rfl) ?_
            refine l_nil ?_
            refine c_if (b := (decide (a0 = 5))) rfl (fun hb => ?_) (fun hb => ?_)
            · have H35 := cnd_t hb H34; clear H34
              refine c_seq ?_
              refine c_region ?_
              refine l_val rfl rfl rfl (r_assign (v := .int .i64 8) rfl) ?_
              refine l_nil ?_
              refine c_ret ?_
              obtain rfl := Option.some.inj H35
              refine ret1 (v := .int .i64 8) rfl rfl (fin rfl)
            · have H36 := cnd_f hb H34; clear H34
              refine c_skip ?_
              refine c_seq ?_
              refine c_region ?_
              refine l_val rfl rfl rfl (r_assign (v := .int .i64 0) rfl) ?_
              refine l_nil ?_
              refine c_ret ?_
              obtain rfl := Option.some.inj H36
              refine ret1 (v := .int .i64 0) rfl rfl (fin rfl)
theorem k124 {a0 : T_tag_Value} {v0_2 : Value} {v0_3 : Value} {v0_4 : Value} {r : Int} {w : World} {h : Heap} (hw : Know h w noS) (f0_2 : FrS h 1 v0_2 (a0.Ints.map e_i64)) (f0_3 : FrS h 2 v0_3 (a0.Ratios.map e_tag_Ratio)) (f0_4 : FrN h 6 v0_4 g_tag_Entry a0.Entries) (H : tag_octetsOf a0 = some r) : Does Try.prog 124 (List.toArray [.agg #[.int .i64 a0.Kind, str a0.Text, v0_2, v0_3, v0_4]]) w (fun v w' => v = (.int .i64 r) ∧ Grow w w') := by
  refine enter (n := 9) Try.func124 rfl rfl rfl noS [] (Sat.nil _ _) ?_
  refine c_seq ?_
  refine c_region ?_
  refine l_box (cs := [.int .i64 a0.Kind, str a0.Text, v0_2, v0_3, v0_4]) rfl rfl rfl rfl (fun b1 => ?_)
  refine l_val rfl rfl rfl (r_assign (v := .int .i64 0) rfl) ?_
  refine l_nil ?_
  refine c_seq ?_
  exact c_regionD (Kd.d [0] _ :: Kd.d [] _ :: Kd.p :: Kd.d [0] _ :: Kd.d [] _ :: Kd.p :: Kd.p :: []) 0 mixed (by
    refine d_loadN (i := 0) (vs := [.int .i64 a0.Kind, str a0.Text, v0_2, v0_3, v0_4]) Try.isAgg61 Try.sizeOf61 rfl rfl rfl rfl ?_
    have h_t4 := bnd_val H
    have H4 := bnd_rest H
    refine d_callD (fun w L' hF hS hi => k126 (know_all w) (f0_2.mono (hw.now hF)) (f0_3.mono (hw.now hF)) (f0_4.mono (hw.now hF)) h_t4) Try.call126 rfl rfl ?_
    refine d_val rfl rfl (r_field Try.runUnderlying61 rfl Try.sizeOf3 rfl rfl) ?_
    refine d_load1 (i := 0) (v := .int .i64 a0.Kind) Try.isAgg3 rfl rfl rfl rfl ?_
    have h_t7 := bnd_val H4
    have H5 := bnd_rest H4
    refine d_call (k129 h_t7) Try.call129 rfl rfl ?_
    have h_t8 := bnd_val H5
    have H6 := bnd_rest H5
    refine d_val rfl rfl (r_mulG rfl rfl h_t8) ?_
    refine d_val rfl rfl (r_assign (v := .int .i64 (val (gI ((val (tag_count a0)) * (val (tag_sizeOf a0.Kind)))))) rfl) ?_
    refine d_nil ?_
    refine c_ret ?_
    obtain rfl := Option.some.inj H6
    refine ret1 (v := .int .i64 (val (gI ((val (tag_count a0)) * (val (tag_sizeOf a0.Kind)))))) rfl rfl (fin rfl)
    ) (by kernel_rfl)
theorem k89_it (mm : Nat) : ∀ {a0 : (List T_tag_Entry)} {v0 : Value} {a1 : Int} {r : Int} {w : World} {h : Heap} (hw : Know h w noS) (f0 : FrN h 6 v0 g_tag_Entry a0) (H : it (fun (self : ((List T_tag_Entry) × Int) → Option (Int)) (s : (List T_tag_Entry) × Int) => tag_dirEnd_body self s.1 s.2) mm (a0, a1) = some r), Does Try.prog 89 (List.toArray [v0, .int .i64 a1]) w (fun v w' => v = (.int .i64 r) ∧ Grow w w') := by
  induction mm with
  | zero => intros; rename_i H; exact absurd H (by simp [it])
  | succ mm ih =>
    intro a0 v0 a1 r w h hw f0 H
    replace H : tag_dirEnd_body (it (fun (self : ((List T_tag_Entry) × Int) → Option (Int)) (s : (List T_tag_Entry) × Int) => tag_dirEnd_body self s.1 s.2) mm) a0 a1 = some r := H
    generalize it (fun (self : ((List T_tag_Entry) × Int) → Option (Int)) (s : (List T_tag_Entry) × Int) => tag_dirEnd_body self s.1 s.2) mm = self at H ih
    refine enter (n := 44) Try.func89 rfl rfl rfl noS [] (Sat.nil _ _) ?_
    refine c_seq ?_
    refine c_region ?_
    refine l_val rfl rfl rfl (r_assign (v := .int .i64 0) rfl) ?_
    refine l_nil ?_
    refine c_seq ?_
    refine c_region ?_
    refine l_val rfl rfl rfl (r_move (v := .int .i64 a1) rfl) ?_
    obtain ⟨t8, h_t8, H21⟩ := bnd_some H; clear H
    refine l_call (k123 h_t8) Try.call123 rfl rfl rfl ?_
    obtain ⟨t9, h_t9, H22⟩ := bnd_some H21; clear H21
    refine l_val rfl rfl rfl (r_addG rfl rfl h_t9) ?_
    refine l_val rfl rfl rfl (r_move (v := v0) rfl) ?_
    refine l_val rfl rfl rfl (r_lenFN Try.underlying59 rfl f0) ?_
    obtain ⟨t12, h_t12, H23⟩ := bnd_some H22; clear H22
    refine l_val rfl rfl rfl (r_mulG rfl rfl h_t12) ?_
    obtain ⟨t13, h_t13, H24⟩ := bnd_some H23; clear H23
    refine l_val rfl rfl rfl (r_addG rfl rfl h_t13) ?_
    obtain ⟨t14, h_t14, H25⟩ := bnd_some H24; clear H24
    refine l_val rfl rfl rfl (r_addG rfl rfl h_t14) ?_
    refine l_val rfl rfl rfl (r_assign (v := .int .i64 t14) rfl) ?_
    refine l_nil ?_
    refine c_seq ?_
    refine c_seq ?_
    refine c_region ?_
    refine l_val rfl rfl rfl (r_move (v := v0) rfl) ?_
    refine l_val rfl rfl rfl (r_lenFN Try.underlying59 rfl f0) ?_
    refine l_val rfl rfl rfl (r_move (v := .int .i64 0) rfl) ?_
    refine l_nil ?_
    refine c_block ?_
    refine c_fix (σ := Int × Int) (τ := Unit) (fun next1 s => tag_dirEnd_l1 a0 self next1 s.1 s.2) (fun s t => [(1, .int .i64 s.1), (15, v0), (16, .int .i64 (a0.length : Int)), (17, .int .i64 s.2)]) (fun s t => []) (fun s t => True) (t14, 0) () [] H25 (by exact trivial) (by exact ⟨rfl, rfl, rfl, rfl, trivial⟩) (by decide) rfl ?_
    rintro ⟨x1_2, x17_2⟩ _ m1 gg H26 _
    clear H25
    replace H26 : tag_dirEnd_l1 a0 self (it (fun next1 s => tag_dirEnd_l1 a0 self next1 s.1 s.2) m1) x1_2 x17_2 = some r := H26
    generalize hn1 : it (fun next1 s => tag_dirEnd_l1 a0 self next1 s.1 s.2) m1 = next1 at H26
    refine c_tidyF [(1, .int .i64 x1_2), (15, v0), (16, .int .i64 (a0.length : Int)), (17, .int .i64 x17_2)] [] rfl rfl ?_
    refine c_seq ?_
    refine c_region ?_
    refine l_val rfl rfl rfl (r_lss rfl rfl) ?_
    refine l_nil ?_
    refine c_seq ?_
    refine c_if (b := (decide (x17_2 < (a0.length : Int)))) rfl (fun hb => ?_) (fun hb => ?_)
    · have H27 := cnd_t hb H26; clear H26
      refine c_skip ?_
      refine c_meet (r := r) (σ := Int) (τ := Unit) (fun s => tag_dirEnd_j2 x17_2 next1 s) (fun s t => [(1, .int .i64 s), (15, v0), (16, .int .i64 (a0.length : Int)), (17, .int .i64 x17_2)]) (fun s t => []) (fun s t => True) ?_ ?_
      · refine c_block ?_
        refine c_seq ?_
        refine c_region ?_
        obtain ⟨t19, h_t19, H30⟩ := bnd_some H27; clear H27
        refine l_val rfl rfl rfl (r_indexF Try.underlying59 Try.sizeOf113 rfl rfl f0.frs (f0.ix h_t19)) ?_
        refine l_read (fun w hF hS => run_loadGN (f := (elC h v0 6)) (i := x17_2) (sz := 6) (j := 0) (vs := [.int .i64 t19.Tag, .int .i64 t19.Value.Kind, str t19.Value.Text, (elH h v0 6 (Int.toNat x17_2) 3), (elH h v0 6 (Int.toNat x17_2) 4), (elH h v0 6 (Int.toNat x17_2) 5)]) Try.isAgg113 Try.sizeOf113 rfl rfl (f0.frs.row (hw.now hF)) (f0.ix h_t19) (rd_of (cg_tag_Entry (f0.at h_t19)) rfl)) rfl rfl rfl ?_
        refine l_alloc (cs := [.int .i64 0, .int .i64 0, str [], .slice none 0 0, .slice none 0 0, .slice none 0 0]) Try.zeroValue113 rfl rfl rfl (fun b1 => ?_)
        refine l_store (i := 0) (vs := [.int .i64 t19.Tag, .int .i64 t19.Value.Kind, str t19.Value.Text, (elH h v0 6 (Int.toNat x17_2) 3), (elH h v0 6 (Int.toNat x17_2) 4), (elH h v0 6 (Int.toNat x17_2) 5)]) (cs' := [.int .i64 t19.Tag, .int .i64 t19.Value.Kind, str t19.Value.Text, (elH h v0 6 (Int.toNat x17_2) 3), (elH h v0 6 (Int.toNat x17_2) 4), (elH h v0 6 (Int.toNat x17_2) 5)]) Try.sizeOf113 rfl rfl rfl rfl rfl rfl (by simp only [List.all_cons, List.all_nil, (show FrN h 6 (elH h v0 6 (Int.toNat x17_2) 5) g_tag_Entry t19.Value.Entries from (g_tag_Value_p4 (g_tag_Entry_p1 (f0.at h_t19)))).one, (show FrS h 1 (elH h v0 6 (Int.toNat x17_2) 3) (t19.Value.Ints.map e_i64) from (g_tag_Value_p2 (g_tag_Entry_p1 (f0.at h_t19)))).one, (show FrS h 2 (elH h v0 6 (Int.toNat x17_2) 4) (t19.Value.Ratios.map e_tag_Ratio) from (g_tag_Value_p3 (g_tag_Entry_p1 (f0.at h_t19)))).one] <;> rfl) rfl rfl ?_
        refine l_nil ?_
        refine c_block ?_
        refine c_seq ?_
        refine c_region ?_
        refine l_val rfl rfl rfl (r_field Try.runUnderlying113 rfl Try.sizeOf61 rfl rfl) ?_
        refine l_val rfl rfl rfl (r_field Try.runUnderlying61 rfl Try.sizeOf3 rfl rfl) ?_
        refine l_load1 (i := 0) (v := .int .i64 t19.Value.Kind) Try.isAgg3 rfl rfl rfl rfl rfl ?_
        refine l_val rfl rfl rfl (r_eql rfl rfl) ?_
        refine l_val rfl rfl rfl (r_assign (v := .bool (decide (t19.Value.Kind = 13))) rfl) ?_
        refine l_nil ?_
        refine c_if (b := (decide (t19.Value.Kind = 13))) rfl (fun hb => ?_) (fun hb => ?_)
        · have H31 := cnd_t hb H30; clear H30
          refine c_region ?_
          refine l_val rfl rfl rfl (r_field Try.runUnderlying113 rfl Try.sizeOf61 rfl rfl) ?_
          refine l_val rfl rfl rfl (r_field Try.runUnderlying61 rfl Try.sizeOf59 rfl rfl) ?_
          refine l_load1 (i := 0) (v := (elH h v0 6 (Int.toNat x17_2) 5)) Try.isAgg59 rfl rfl rfl rfl rfl ?_
          refine l_val rfl rfl rfl (r_move (v := .int .i64 x1_2) rfl) ?_
          obtain ⟨t30, h_t30, H32⟩ := bnd_some H31; clear H31
          refine l_callG (fun w hF hS => ih (know_all w) ((show FrN h 6 (elH h v0 6 (Int.toNat x17_2) 5) g_tag_Entry t19.Value.Entries from (g_tag_Value_p4 (g_tag_Entry_p1 (f0.at h_t19)))).mono (hw.now hF)) h_t30) Try.call89 rfl rfl rfl ?_
          refine l_val rfl rfl rfl (r_assign (v := .int .i64 t30) rfl) ?_
          refine l_nil ?_
          refine c_close t30 () 0 [] (by exact ⟨rfl, rfl, rfl, rfl, trivial⟩) (by decide) rfl (by exact ⟨H32, trivial⟩) (Nat.lt_succ_self _)
        · have H33 := cnd_f hb H30; clear H30
          refine c_seq ?_
          refine c_region ?_
          refine l_val rfl rfl rfl (r_field Try.runUnderlying113 rfl Try.sizeOf61 rfl rfl) ?_
          refine l_loadN (i := 0) (vs := [.int .i64 t19.Value.Kind, str t19.Value.Text, (elH h v0 6 (Int.toNat x17_2) 3), (elH h v0 6 (Int.toNat x17_2) 4), (elH h v0 6 (Int.toNat x17_2) 5)]) Try.isAgg61 Try.sizeOf61 rfl rfl rfl rfl rfl ?_
          obtain ⟨t34, h_t34, H34⟩ := bnd_some H33; clear H33
          refine l_callG (fun w hF hS => k124 (know_all w) ((show FrS h 1 (elH h v0 6 (Int.toNat x17_2) 3) (t19.Value.Ints.map e_i64) from (g_tag_Value_p2 (g_tag_Entry_p1 (f0.at h_t19)))).mono (hw.now hF)) ((show FrS h 2 (elH h v0 6 (Int.toNat x17_2) 4) (t19.Value.Ratios.map e_tag_Ratio) from (g_tag_Value_p3 (g_tag_Entry_p1 (f0.at h_t19)))).mono (hw.now hF)) ((show FrN h 6 (elH h v0 6 (Int.toNat x17_2) 5) g_tag_Entry t19.Value.Entries from (g_tag_Value_p4 (g_tag_Entry_p1 (f0.at h_t19)))).mono (hw.now hF)) h_t34) Try.call124 rfl rfl rfl ?_
          refine l_val rfl rfl rfl (r_gtr rfl rfl) ?_
          refine l_val rfl rfl rfl (r_assign (v := .bool (decide (4 < t34))) rfl) ?_
          refine l_nil ?_
          refine c_if (b := (decide (4 < t34))) rfl (fun hb => ?_) (fun hb => ?_)
          · have H35 := cnd_t hb H34; clear H34
            exact c_regionD (Kd.p :: Kd.d [] _ :: Kd.p :: Kd.d [0] _ :: Kd.d [] _ :: Kd.p :: Kd.p :: []) 0 mixed (by
              refine d_val rfl rfl (r_move (v := .int .i64 x1_2) rfl) ?_
              have h_t37 := bnd_val H35
              have H36 := bnd_rest H35
              refine d_call (k123 h_t37) Try.call123 rfl rfl ?_
              refine d_val rfl rfl (r_field Try.runUnderlying113 rfl Try.sizeOf61 rfl rfl) ?_
              refine d_loadN (i := 0) (vs := [.int .i64 t19.Value.Kind, str t19.Value.Text, (elH h v0 6 (Int.toNat x17_2) 3), (elH h v0 6 (Int.toNat x17_2) 4), (elH h v0 6 (Int.toNat x17_2) 5)]) Try.isAgg61 Try.sizeOf61 rfl rfl rfl rfl ?_
              have h_t40 := bnd_val H36
              have H37 := bnd_rest H36
              refine d_callD (fun w L' hF hS hi => k124 (know_all w) ((show FrS h 1 (elH h v0 6 (Int.toNat x17_2) 3) (t19.Value.Ints.map e_i64) from (g_tag_Value_p2 (g_tag_Entry_p1 (f0.at h_t19)))).mono (hw.now hF)) ((show FrS h 2 (elH h v0 6 (Int.toNat x17_2) 4) (t19.Value.Ratios.map e_tag_Ratio) from (g_tag_Value_p3 (g_tag_Entry_p1 (f0.at h_t19)))).mono (hw.now hF)) ((show FrN h 6 (elH h v0 6 (Int.toNat x17_2) 5) g_tag_Entry t19.Value.Entries from (g_tag_Value_p4 (g_tag_Entry_p1 (f0.at h_t19)))).mono (hw.now hF)) h_t40) Try.call124 rfl rfl ?_
              have h_t41 := bnd_val H37
              have H38 := bnd_rest H37
              refine d_val rfl rfl (r_addG rfl rfl h_t41) ?_
              refine d_val rfl rfl (r_assign (v := .int .i64 (val (gI ((val (tag_even x1_2)) + (val (tag_octetsOf t19.Value)))))) rfl) ?_
              refine d_nil ?_
              refine c_close (val (gI ((val (tag_even x1_2)) + (val (tag_octetsOf t19.Value))))) () 0 [] (by exact ⟨rfl, rfl, rfl, rfl, trivial⟩) (by decide) rfl (by exact ⟨H38, trivial⟩) (Nat.lt_succ_self _)
              ) (by kernel_rfl)
          · have H39 := cnd_f hb H34; clear H34
            refine c_skip ?_
            refine c_close x1_2 () 0 [] (by exact ⟨rfl, rfl, rfl, rfl, trivial⟩) (by decide) rfl (by exact ⟨H39, trivial⟩) (Nat.lt_succ_self _)
      · rintro x1_3 _ gg H28 _
        replace H28 : tag_dirEnd_j2 x17_2 next1 x1_3 = some r := H28
        refine c_tidyF [(1, .int .i64 x1_3), (15, v0), (16, .int .i64 (a0.length : Int)), (17, .int .i64 x17_2)] [] rfl rfl ?_
        refine c_region ?_
        obtain ⟨t42, h_t42, H29⟩ := bnd_some H28; clear H28
        refine l_val rfl rfl rfl (r_addG rfl rfl h_t42) ?_
        refine l_val rfl rfl rfl (r_move (v := .int .i64 t42) rfl) ?_
        refine l_nil ?_
        refine c_close (x1_3, t42) () m1 [] (by exact ⟨rfl, rfl, rfl, rfl, trivial⟩) (by decide) rfl (by exact ⟨(by subst hn1; exact H29), trivial⟩) (Nat.lt_succ_self _)
    · have H40 := cnd_f hb H26; clear H26
      refine c_exit ?_
      refine c_seq ?_
      refine c_region ?_
      refine l_val rfl rfl rfl (r_move (v := .int .i64 x1_2) rfl) ?_
      refine l_val rfl rfl rfl (r_assign (v := .int .i64 x1_2) rfl) ?_
      refine l_nil ?_
      refine c_ret ?_
      obtain rfl := Option.some.inj H40
      refine ret1 (v := .int .i64 x1_2) rfl rfl (fin rfl)
theorem k89 {a0 : (List T_tag_Entry)} {v0 : Value} {a1 : Int} {r : Int} {w : World} {h : Heap} (hw : Know h w noS) (f0 : FrN h 6 v0 g_tag_Entry a0) (H : tag_dirEnd a0 a1 = some r) : Does Try.prog 89 (List.toArray [v0, .int .i64 a1]) w (fun v w' => v = (.int .i64 r) ∧ Grow w w') := by
  obtain ⟨mm, hm⟩ := fix_it (show fix (fun (self : ((List T_tag_Entry) × Int) → Option (Int)) (s : (List T_tag_Entry) × Int) => tag_dirEnd_body self s.1 s.2) (a0, a1) = some r from H)
  exact k89_it mm hw f0 hm
theorem k46 {a0 : T_tag_File} {v0_1 : Value} {r : Int} {w : World} {h : Heap} (hw : Know h w noS) (f0_1 : FrN h 1 v0_1 gs_tag_Entry a0.Dirs) (H : tag_size a0 = some r) : Does Try.prog 46 (List.toArray [.agg #[.bool a0.Big, v0_1]]) w (fun v w' => v = (.int .i64 r) ∧ Grow w w') := by
  refine enter (n := 18) Try.func46 rfl rfl rfl noS [] (Sat.nil _ _) ?_
  refine c_seq ?_
  refine c_region ?_
  refine l_box (cs := [.bool a0.Big, v0_1]) rfl rfl rfl rfl (fun b1 => ?_)
  refine l_val rfl rfl rfl (r_assign (v := .int .i64 0) rfl) ?_
  refine l_nil ?_
  refine c_seq ?_
  refine c_region ?_
  refine l_val rfl rfl rfl (r_assign (v := .int .i64 8) rfl) ?_
  refine l_nil ?_
  refine c_seq ?_
  refine c_seq ?_
  refine c_region ?_
  refine l_val rfl rfl rfl (r_field Try.runUnderlying24 rfl Try.sizeOf22 rfl rfl) ?_
  refine l_load1 (i := 0) (v := v0_1) Try.isAgg22 rfl rfl rfl rfl rfl ?_
  refine l_val rfl rfl rfl (r_lenFN Try.underlying22 rfl f0_1) ?_
  refine l_val rfl rfl rfl (r_move (v := .int .i64 0) rfl) ?_
  refine l_nil ?_
  refine c_block ?_
  refine c_sel [] [] rfl (by decide) ?_
  refine c_fix (σ := Int × Int) (τ := Unit) (fun next1 s => tag_size_l1 a0 next1 s.1 s.2) (fun s t => [(3, .int .i64 s.1), (7, v0_1), (8, .int .i64 (a0.Dirs.length : Int)), (9, .int .i64 s.2)]) (fun s t => []) (fun s t => True) (8, 0) () [] H (by exact trivial) (by exact ⟨rfl, rfl, rfl, rfl, trivial⟩) (by decide) rfl ?_
  rintro ⟨x3_2, x9_2⟩ _ m1 gg H7 _
  clear H
  replace H7 : tag_size_l1 a0 (it (fun next1 s => tag_size_l1 a0 next1 s.1 s.2) m1) x3_2 x9_2 = some r := H7
  generalize hn1 : it (fun next1 s => tag_size_l1 a0 next1 s.1 s.2) m1 = next1 at H7
  refine c_tidyF [(3, .int .i64 x3_2), (7, v0_1), (8, .int .i64 (a0.Dirs.length : Int)), (9, .int .i64 x9_2)] [] rfl rfl ?_
  refine c_seq ?_
  refine c_region ?_
  refine l_val rfl rfl rfl (r_lss rfl rfl) ?_
  refine l_nil ?_
  refine c_seq ?_
  refine c_if (b := (decide (x9_2 < (a0.Dirs.length : Int)))) rfl (fun hb => ?_) (fun hb => ?_)
  · have H8 := cnd_t hb H7; clear H7
    refine c_skip ?_
    refine c_seq ?_
    refine c_block ?_
    refine c_seq ?_
    refine c_region ?_
    obtain ⟨t11, h_t11, H9⟩ := bnd_some H8; clear H8
    refine l_val rfl rfl rfl (r_indexF Try.underlying22 Try.sizeOf59 rfl rfl f0_1.frs (f0_1.ix h_t11)) ?_
    refine l_read (fun w hF hS => run_loadG1 (f := (elC h v0_1 1)) (i := x9_2) (sz := 1) (j := 0) (v := (elH h v0_1 1 (Int.toNat x9_2) 0)) Try.isAgg59 rfl rfl (f0_1.frs.row (hw.now hF)) (f0_1.ix h_t11) (rg_of (cgs_tag_Entry (f0_1.at h_t11)) rfl)) rfl rfl rfl ?_
    refine l_val rfl rfl rfl (r_assign (v := (elH h v0_1 1 (Int.toNat x9_2) 0)) rfl) ?_
    refine l_nil ?_
    refine c_region ?_
    refine l_val rfl rfl rfl (r_move (v := (elH h v0_1 1 (Int.toNat x9_2) 0)) rfl) ?_
    refine l_val rfl rfl rfl (r_move (v := .int .i64 x3_2) rfl) ?_
    obtain ⟨t15, h_t15, H10⟩ := bnd_some H9; clear H9
    refine l_callG (fun w hF hS => k89 (know_all w) ((show FrN h 6 (elH h v0_1 1 (Int.toNat x9_2) 0) g_tag_Entry t11 from (f0_1.at h_t11)).mono (hw.now hF)) h_t15) Try.call89 rfl rfl rfl ?_
    refine l_val rfl rfl rfl (r_assign (v := .int .i64 t15) rfl) ?_
    refine l_nil ?_
    refine c_region ?_
    obtain ⟨t16, h_t16, H11⟩ := bnd_some H10; clear H10
    refine l_val rfl rfl rfl (r_addG rfl rfl h_t16) ?_
    refine l_val rfl rfl rfl (r_move (v := .int .i64 t16) rfl) ?_
    refine l_nil ?_
    refine c_close (t15, t16) () m1 [] (by exact ⟨rfl, rfl, rfl, rfl, trivial⟩) (by decide) rfl (by exact ⟨(by subst hn1; exact H11), trivial⟩) (Nat.lt_succ_self _)
  · have H12 := cnd_f hb H7; clear H7
    refine c_exit ?_
    refine c_seq ?_
    refine c_region ?_
    refine l_val rfl rfl rfl (r_move (v := .int .i64 x3_2) rfl) ?_
    refine l_val rfl rfl rfl (r_assign (v := .int .i64 x3_2) rfl) ?_
    refine l_nil ?_
    refine c_ret ?_
    obtain rfl := Option.some.inj H12
    refine ret1 (v := .int .i64 x3_2) rfl rfl (fin rfl)
theorem k93 {a0 : Int} {a1 : Int} {a2 : Int} {r : Bool} (H : tag_outside a0 a1 a2 = some r) : Ret Try.prog 93 [.int .i64 a0, .int .i64 a1, .int .i64 a2] (.bool r) := by
  refine enterRet (n := 15) Try.func93 rfl rfl rfl (fun wd => ?_)
  refine c_seq ?_
  refine c_region ?_
  refine l_val rfl rfl rfl (r_assign (v := .bool false) rfl) ?_
  refine l_nil ?_
  refine c_seq ?_
  refine c_region ?_
  refine l_val rfl rfl rfl (r_move (v := .int .i64 a0) rfl) ?_
  refine l_val rfl rfl rfl (r_move (v := .int .i64 a1) rfl) ?_
  refine l_val rfl rfl rfl (r_lss rfl rfl) ?_
  refine l_val rfl rfl rfl (r_move (v := .bool (decide (a0 < a1))) rfl) ?_
  refine split (fun hb => ?_) (fun hb => ?_)
  · have H3 := cnd_t hb H; clear H
    refine l_passed rfl rfl rfl ?_
    refine l_passed rfl rfl rfl ?_
    refine l_passed rfl rfl rfl ?_
    refine l_val rfl rfl rfl (r_pickT (v := .bool true) rfl rfl) ?_
    refine l_val rfl rfl rfl (r_assign (v := .bool true) rfl) ?_
    refine l_nil ?_
    refine c_ret ?_
    obtain rfl := Option.some.inj H3
    refine ret1 (v := .bool true) rfl rfl (fin rfl)
  · have H4 := cnd_f hb H; clear H
    refine l_val rfl rfl rfl (r_move (v := .int .i64 a0) rfl) ?_
    refine l_val rfl rfl rfl (r_move (v := .int .i64 a2) rfl) ?_
    refine l_val rfl rfl rfl (r_gtr rfl rfl) ?_
    refine l_val rfl rfl rfl (r_pickF (v := .bool (decide (a2 < a0))) rfl rfl) ?_
    refine l_val rfl rfl rfl (r_assign (v := .bool (decide (a2 < a0))) rfl) ?_
    refine l_nil ?_
    refine c_ret ?_
    obtain rfl := Option.some.inj H4
    refine ret1 (v := .bool (decide (a2 < a0))) rfl rfl (fin rfl)
theorem k130 {a0 : Int} {r : Bool} (H : tag_isInts a0 = some r) : Ret Try.prog 130 [.int .i64 a0] (.bool r) := by
  refine enterRet (n := 17) Try.func130 rfl rfl rfl (fun wd => ?_)
  refine c_seq ?_
  refine c_region ?_
  refine l_val rfl rfl rfl (r_assign (v := .bool false) rfl) ?_
  refine l_nil ?_
  refine c_seq ?_
  refine c_region ?_
  refine l_val rfl rfl rfl (r_move (v := .int .i64 a0) rfl) ?_
  refine l_val rfl rfl rfl (r_eql rfl rfl) ?_
  refine l_val rfl rfl rfl (r_move (v := .bool (decide (a0 = 1))) rfl) ?_
  refine split (fun hb => ?_) (fun hb => ?_)
  · have H7 := cnd_t hb H; clear H
    refine l_passed rfl rfl rfl ?_
    refine l_passed rfl rfl rfl ?_
    refine l_val rfl rfl rfl (r_pickT (v := .bool true) rfl rfl) ?_
    refine l_val rfl rfl rfl (r_move (v := .bool true) rfl) ?_
    refine l_passed rfl rfl rfl ?_
    refine l_passed rfl rfl rfl ?_
    refine l_val rfl rfl rfl (r_pickT (v := .bool true) rfl rfl) ?_
    refine l_val rfl rfl rfl (r_move (v := .bool true) rfl) ?_
    refine l_passed rfl rfl rfl ?_
    refine l_passed rfl rfl rfl ?_
    refine l_val rfl rfl rfl (r_pickT (v := .bool true) rfl rfl) ?_
    refine l_val rfl rfl rfl (r_assign (v := .bool true) rfl) ?_
    refine l_nil ?_
    refine c_ret ?_
    obtain rfl := Option.some.inj H7
    refine ret1 (v := .bool true) rfl rfl (fin rfl)
  · have H8 := cnd_f hb H; clear H
    refine l_val rfl rfl rfl (r_move (v := .int .i64 a0) rfl) ?_
    refine l_val rfl rfl rfl (r_eql rfl rfl) ?_
    refine l_val rfl rfl rfl (r_pickF (v := .bool (decide (a0 = 3))) rfl rfl) ?_
    refine l_val rfl rfl rfl (r_move (v := .bool (decide (a0 = 3))) rfl) ?_
    refine split (fun hb => ?_) (fun hb => ?_)
    · have H9 := cnd_t hb H8; clear H8
      refine l_passed rfl rfl rfl ?_
      refine l_passed rfl rfl rfl ?_
      refine l_val rfl rfl rfl (r_pickT (v := .bool true) rfl rfl) ?_
      refine l_val rfl rfl rfl (r_move (v := .bool true) rfl) ?_
      refine l_passed rfl rfl rfl ?_
      refine l_passed rfl rfl rfl ?_
      refine l_val rfl rfl rfl (r_pickT (v := .bool true) rfl rfl) ?_
      refine l_val rfl rfl rfl (r_assign (v := .bool true) rfl) ?_
      refine l_nil ?_
      refine c_ret ?_
      obtain rfl := Option.some.inj H9
      refine ret1 (v := .bool true) rfl rfl (fin rfl)
    · have H10 := cnd_f hb H8; clear H8
      refine l_val rfl rfl rfl (r_move (v := .int .i64 a0) rfl) ?_
      refine l_val rfl rfl rfl (r_eql rfl rfl) ?_
      refine l_val rfl rfl rfl (r_pickF (v := .bool (decide (a0 = 4))) rfl rfl) ?_
      refine l_val rfl rfl rfl (r_move (v := .bool (decide (a0 = 4))) rfl) ?_
      refine split (fun hb => ?_) (fun hb => ?_)
      · have H11 := cnd_t hb H10; clear H10
        refine l_passed rfl rfl rfl ?_
        refine l_passed rfl rfl rfl ?_
        refine l_val rfl rfl rfl (r_pickT (v := .bool true) rfl rfl) ?_
        refine l_val rfl rfl rfl (r_assign (v := .bool true) rfl) ?_
        refine l_nil ?_
        refine c_ret ?_
        obtain rfl := Option.some.inj H11
        refine ret1 (v := .bool true) rfl rfl (fin rfl)
      · have H12 := cnd_f hb H10; clear H10
        refine l_val rfl rfl rfl (r_move (v := .int .i64 a0) rfl) ?_
        refine l_val rfl rfl rfl (r_eql rfl rfl) ?_
        refine l_val rfl rfl rfl (r_pickF (v := .bool (decide (a0 = 9))) rfl rfl) ?_
        refine l_val rfl rfl rfl (r_assign (v := .bool (decide (a0 = 9))) rfl) ?_
        refine l_nil ?_
        refine c_ret ?_
        obtain rfl := Option.some.inj H12
        refine ret1 (v := .bool (decide (a0 = 9))) rfl rfl (fin rfl)
theorem k131 {a0 : Int} {r : Bool} (H : tag_isText a0 = some r) : Ret Try.prog 131 [.int .i64 a0] (.bool r) := by
  refine enterRet (n := 9) Try.func131 rfl rfl rfl (fun wd => ?_)
  refine c_seq ?_
  refine c_region ?_
  refine l_val rfl rfl rfl (r_assign (v := .bool false) rfl) ?_
  refine l_nil ?_
  refine c_seq ?_
  refine c_region ?_
  refine l_val rfl rfl rfl (r_move (v := .int .i64 a0) rfl) ?_
  refine l_val rfl rfl rfl (r_eql rfl rfl) ?_
  refine l_val rfl rfl rfl (r_move (v := .bool (decide (a0 = 2))) rfl) ?_
  refine split (fun hb => ?_) (fun hb => ?_)
  · have H3 := cnd_t hb H; clear H
    refine l_passed rfl rfl rfl ?_
    refine l_passed rfl rfl rfl ?_
    refine l_val rfl rfl rfl (r_pickT (v := .bool true) rfl rfl) ?_
    refine l_val rfl rfl rfl (r_assign (v := .bool true) rfl) ?_
    refine l_nil ?_
    refine c_ret ?_
    obtain rfl := Option.some.inj H3
    refine ret1 (v := .bool true) rfl rfl (fin rfl)
  · have H4 := cnd_f hb H; clear H
    refine l_val rfl rfl rfl (r_move (v := .int .i64 a0) rfl) ?_
    refine l_val rfl rfl rfl (r_eql rfl rfl) ?_
    refine l_val rfl rfl rfl (r_pickF (v := .bool (decide (a0 = 7))) rfl rfl) ?_
    refine l_val rfl rfl rfl (r_assign (v := .bool (decide (a0 = 7))) rfl) ?_
    refine l_nil ?_
    refine c_ret ?_
    obtain rfl := Option.some.inj H4
    refine ret1 (v := .bool (decide (a0 = 7))) rfl rfl (fin rfl)
theorem k95 {a0 : T_tag_Value} {v0_2 : Value} {v0_3 : Value} {v0_4 : Value} {r : Int} {w : World} {h : Heap} (hw : Know h w noS) (f0_2 : FrS h 1 v0_2 (a0.Ints.map e_i64)) (f0_3 : FrS h 2 v0_3 (a0.Ratios.map e_tag_Ratio)) (f0_4 : FrN h 6 v0_4 g_tag_Entry a0.Entries) (H : tag_checkFields a0 = some r) : Does Try.prog 95 (List.toArray [.agg #[.int .i64 a0.Kind, str a0.Text, v0_2, v0_3, v0_4]]) w (fun v w' => v = (.int .i64 r) ∧ Grow w w') := by
  refine enter (n := 46) Try.func95 rfl rfl rfl noS [] (Sat.nil _ _) ?_
  refine c_seq ?_
  refine c_region ?_
  refine l_box (cs := [.int .i64 a0.Kind, str a0.Text, v0_2, v0_3, v0_4]) rfl rfl rfl rfl (fun b1 => ?_)
  refine l_val rfl rfl rfl (r_assign (v := .int .i64 0) rfl) ?_
  refine l_nil ?_
  refine c_seq ?_
  refine c_block ?_
  refine c_seq ?_
  refine c_region ?_
  refine l_val rfl rfl rfl (r_field Try.runUnderlying61 rfl Try.sizeOf3 rfl rfl) ?_
  refine l_load1 (i := 0) (v := .int .i64 a0.Kind) Try.isAgg3 rfl rfl rfl rfl rfl ?_
  obtain ⟨t6, h_t6, H31⟩ := bnd_some H; clear H
  refine l_call (k129 h_t6) Try.call129 rfl rfl rfl ?_
  refine l_val rfl rfl rfl (r_eql rfl rfl) ?_
  refine l_val rfl rfl rfl (r_assign (v := .bool (decide (t6 = 0))) rfl) ?_
  refine l_nil ?_
  refine c_if (b := (decide (t6 = 0))) rfl (fun hb => ?_) (fun hb => ?_)
  · have H32 := cnd_t hb H31; clear H31
    refine c_seq ?_
    refine c_region ?_
    refine l_val rfl rfl rfl (r_assign (v := .int .i64 10) rfl) ?_
    refine l_nil ?_
    refine c_ret ?_
    obtain rfl := Option.some.inj H32
    refine ret1 (v := .int .i64 10) rfl rfl (fin rfl)
  · have H33 := cnd_f hb H31; clear H31
    refine c_seq ?_
    refine c_meet (r := r) (σ := Bool) (τ := Unit) (fun s => tag_checkFields_j1 a0 s) (fun s t => [(1, .pointer (some ⟨b1, 0, none⟩)), (8, .bool s)]) (fun s t => [cellsC b1 [.int .i64 a0.Kind, str a0.Text, v0_2, v0_3, v0_4] 61]) (fun s t => True) ?_ ?_
    · refine c_region ?_
      refine l_val rfl rfl rfl (r_field Try.runUnderlying61 rfl Try.sizeOf3 rfl rfl) ?_
      refine l_load1 (i := 0) (v := .int .i64 a0.Kind) Try.isAgg3 rfl rfl rfl rfl rfl ?_
      obtain ⟨t11, h_t11, H58⟩ := bnd_some H33; clear H33
      refine l_call (k130 h_t11) Try.call130 rfl rfl rfl ?_
      refine l_val rfl rfl rfl (r_not rfl) ?_
      refine l_val rfl rfl rfl (r_move (v := .bool (!t11)) rfl) ?_
      refine split (fun hb => ?_) (fun hb => ?_)
      · have H59 := cnd_t hb H58; clear H58
        refine l_val rfl rfl rfl (r_field Try.runUnderlying61 rfl Try.sizeOf57 rfl rfl) ?_
        refine l_load1 (i := 0) (v := v0_2) Try.isAgg57 rfl rfl rfl rfl rfl ?_
        refine l_val rfl rfl rfl (r_lenF Try.underlying57 rfl f0_2 rfl) ?_
        refine l_val rfl rfl rfl (r_gtr rfl rfl) ?_
        refine l_val rfl rfl rfl (r_pickT (v := .bool (decide (0 < (a0.Ints.length : Int)))) rfl rfl) ?_
        refine l_val rfl rfl rfl (r_assign (v := .bool (decide (0 < (a0.Ints.length : Int)))) rfl) ?_
        refine l_nil ?_
        refine c_close (decide (0 < (a0.Ints.length : Int))) () 0 [0] (by exact ⟨rfl, rfl, trivial⟩) (by decide) rfl (by exact ⟨H59, trivial⟩) (Nat.lt_succ_self _)
      · have H60 := cnd_f hb H58; clear H58
        refine l_passed rfl rfl rfl ?_
        refine l_passed rfl rfl rfl ?_
        refine l_passed rfl rfl rfl ?_
        refine l_passed rfl rfl rfl ?_
        refine l_val rfl rfl rfl (r_pickF (v := .bool false) rfl rfl) ?_
        refine l_val rfl rfl rfl (r_assign (v := .bool false) rfl) ?_
        refine l_nil ?_
        refine c_close false () 0 [0] (by exact ⟨rfl, rfl, trivial⟩) (by decide) rfl (by exact ⟨H60, trivial⟩) (Nat.lt_succ_self _)
    · rintro x8 _ gg H34 _
      replace H34 : tag_checkFields_j1 a0 x8 = some r := H34
      refine c_tidyF [(1, .pointer (some ⟨b1, 0, none⟩)), (8, .bool x8)] [cellsC b1 [.int .i64 a0.Kind, str a0.Text, v0_2, v0_3, v0_4] 61] rfl rfl ?_
      refine c_if (b := x8) rfl (fun hb => ?_) (fun hb => ?_)
      · have H35 := cnd_t hb H34; clear H34
        refine c_skip ?_
        refine c_if (b := x8) rfl (fun hb => ?_) (fun hb => ?_)
        · have H36 := cnd_t hb H35; clear H35
          refine c_seq ?_
          refine c_region ?_
          refine l_val rfl rfl rfl (r_assign (v := .int .i64 1) rfl) ?_
          refine l_nil ?_
          refine c_ret ?_
          obtain rfl := Option.some.inj H36
          refine ret1 (v := .int .i64 1) rfl rfl (fin rfl)
        · have H37 := cnd_f hb H35; clear H35
          refine c_skip ?_
          refine c_seq ?_
          refine c_region ?_
          refine l_val rfl rfl rfl (r_assign (v := .int .i64 0) rfl) ?_
          refine l_nil ?_
          refine c_ret ?_
          obtain rfl := Option.some.inj H37
          refine ret1 (v := .int .i64 0) rfl rfl (fin rfl)
      · have H38 := cnd_f hb H34; clear H34
        refine c_meet (r := r) (σ := Bool) (τ := Unit) (fun s => tag_checkFields_j2 a0 s) (fun s t => [(1, .pointer (some ⟨b1, 0, none⟩)), (8, .bool s)]) (fun s t => [cellsC b1 [.int .i64 a0.Kind, str a0.Text, v0_2, v0_3, v0_4] 61]) (fun s t => True) ?_ ?_
        · refine c_region ?_
          refine l_val rfl rfl rfl (r_field Try.runUnderlying61 rfl Try.sizeOf3 rfl rfl) ?_
          refine l_load1 (i := 0) (v := .int .i64 a0.Kind) Try.isAgg3 rfl rfl rfl rfl rfl ?_
          obtain ⟨t21, h_t21, H55⟩ := bnd_some H38; clear H38
          refine l_call (k131 h_t21) Try.call131 rfl rfl rfl ?_
          refine l_val rfl rfl rfl (r_not rfl) ?_
          refine l_val rfl rfl rfl (r_move (v := .bool (!t21)) rfl) ?_
          refine split (fun hb => ?_) (fun hb => ?_)
          · have H56 := cnd_t hb H55; clear H55
            refine l_val rfl rfl rfl (r_field Try.runUnderlying61 rfl Try.sizeOf9 rfl rfl) ?_
            refine l_load1 (i := 0) (v := str a0.Text) Try.isAgg9 rfl rfl rfl rfl rfl ?_
            refine l_val rfl rfl rfl (r_neqT rfl rfl) ?_
            refine l_val rfl rfl rfl (r_pickT (v := .bool (decide (a0.Text ≠ []))) rfl rfl) ?_
            refine l_val rfl rfl rfl (r_assign (v := .bool (decide (a0.Text ≠ []))) rfl) ?_
            refine l_nil ?_
            refine c_close (decide (a0.Text ≠ [])) () 0 [0] (by exact ⟨rfl, rfl, trivial⟩) (by decide) rfl (by exact ⟨H56, trivial⟩) (Nat.lt_succ_self _)
          · have H57 := cnd_f hb H55; clear H55
            refine l_passed rfl rfl rfl ?_
            refine l_passed rfl rfl rfl ?_
            refine l_passed rfl rfl rfl ?_
            refine l_val rfl rfl rfl (r_pickF (v := .bool false) rfl rfl) ?_
            refine l_val rfl rfl rfl (r_assign (v := .bool false) rfl) ?_
            refine l_nil ?_
            refine c_close false () 0 [0] (by exact ⟨rfl, rfl, trivial⟩) (by decide) rfl (by exact ⟨H57, trivial⟩) (Nat.lt_succ_self _)
        · rintro x8_2 _ gg H39 _
          replace H39 : tag_checkFields_j2 a0 x8_2 = some r := H39
          refine c_tidyF [(1, .pointer (some ⟨b1, 0, none⟩)), (8, .bool x8_2)] [cellsC b1 [.int .i64 a0.Kind, str a0.Text, v0_2, v0_3, v0_4] 61] rfl rfl ?_
          refine c_if (b := x8_2) rfl (fun hb => ?_) (fun hb => ?_)
          · have H40 := cnd_t hb H39; clear H39
            refine c_skip ?_
            refine c_if (b := x8_2) rfl (fun hb => ?_) (fun hb => ?_)
            · have H41 := cnd_t hb H40; clear H40
              refine c_seq ?_
              refine c_region ?_
              refine l_val rfl rfl rfl (r_assign (v := .int .i64 1) rfl) ?_
              refine l_nil ?_
              refine c_ret ?_
              obtain rfl := Option.some.inj H41
              refine ret1 (v := .int .i64 1) rfl rfl (fin rfl)
            · have H42 := cnd_f hb H40; clear H40
              refine c_skip ?_
              refine c_seq ?_
              refine c_region ?_
              refine l_val rfl rfl rfl (r_assign (v := .int .i64 0) rfl) ?_
              refine l_nil ?_
              refine c_ret ?_
              obtain rfl := Option.some.inj H42
              refine ret1 (v := .int .i64 0) rfl rfl (fin rfl)
          · have H43 := cnd_f hb H39; clear H39
            refine c_meet (r := r) (σ := Bool) (τ := Unit) (fun s => tag_checkFields_j3 a0 s) (fun s t => [(1, .pointer (some ⟨b1, 0, none⟩)), (8, .bool s)]) (fun s t => [cellsC b1 [.int .i64 a0.Kind, str a0.Text, v0_2, v0_3, v0_4] 61]) (fun s t => True) ?_ ?_
            · refine c_region ?_
              refine l_val rfl rfl rfl (r_field Try.runUnderlying61 rfl Try.sizeOf3 rfl rfl) ?_
              refine l_load1 (i := 0) (v := .int .i64 a0.Kind) Try.isAgg3 rfl rfl rfl rfl rfl ?_
              refine l_val rfl rfl rfl (r_neq rfl rfl) ?_
              refine l_val rfl rfl rfl (r_move (v := .bool (decide (a0.Kind ≠ 5))) rfl) ?_
              refine split (fun hb => ?_) (fun hb => ?_)
              · have H53 := cnd_t hb H43; clear H43
                refine l_val rfl rfl rfl (r_field Try.runUnderlying61 rfl Try.sizeOf58 rfl rfl) ?_
                refine l_load1 (i := 0) (v := v0_3) Try.isAgg58 rfl rfl rfl rfl rfl ?_
                refine l_val rfl rfl rfl (r_lenF Try.underlying58 rfl f0_3 rfl) ?_
                refine l_val rfl rfl rfl (r_gtr rfl rfl) ?_
                refine l_val rfl rfl rfl (r_pickT (v := .bool (decide (0 < (a0.Ratios.length : Int)))) rfl rfl) ?_
                refine l_val rfl rfl rfl (r_assign (v := .bool (decide (0 < (a0.Ratios.length : Int)))) rfl) ?_
                refine l_nil ?_
                refine c_close (decide (0 < (a0.Ratios.length : Int))) () 0 [0] (by exact ⟨rfl, rfl, trivial⟩) (by decide) rfl (by exact ⟨H53, trivial⟩) (Nat.lt_succ_self _)
              · have H54 := cnd_f hb H43; clear H43
                refine l_passed rfl rfl rfl ?_
                refine l_passed rfl rfl rfl ?_
                refine l_passed rfl rfl rfl ?_
                refine l_passed rfl rfl rfl ?_
                refine l_val rfl rfl rfl (r_pickF (v := .bool false) rfl rfl) ?_
                refine l_val rfl rfl rfl (r_assign (v := .bool false) rfl) ?_
                refine l_nil ?_
                refine c_close false () 0 [0] (by exact ⟨rfl, rfl, trivial⟩) (by decide) rfl (by exact ⟨H54, trivial⟩) (Nat.lt_succ_self _)
            · rintro x8_3 _ gg H44 _
              replace H44 : tag_checkFields_j3 a0 x8_3 = some r := H44
              refine c_tidyF [(1, .pointer (some ⟨b1, 0, none⟩)), (8, .bool x8_3)] [cellsC b1 [.int .i64 a0.Kind, str a0.Text, v0_2, v0_3, v0_4] 61] rfl rfl ?_
              refine c_if (b := x8_3) rfl (fun hb => ?_) (fun hb => ?_)
              · have H45 := cnd_t hb H44; clear H44
                refine c_skip ?_
                refine c_if (b := x8_3) rfl (fun hb => ?_) (fun hb => ?_)
                · have H46 := cnd_t hb H45; clear H45
                  refine c_seq ?_
                  refine c_region ?_
                  refine l_val rfl rfl rfl (r_assign (v := .int .i64 1) rfl) ?_
                  refine l_nil ?_
                  refine c_ret ?_
                  obtain rfl := Option.some.inj H46
                  refine ret1 (v := .int .i64 1) rfl rfl (fin rfl)
                · have H47 := cnd_f hb H45; clear H45
                  refine c_skip ?_
                  refine c_seq ?_
                  refine c_region ?_
                  refine l_val rfl rfl rfl (r_assign (v := .int .i64 0) rfl) ?_
                  refine l_nil ?_
                  refine c_ret ?_
                  obtain rfl := Option.some.inj H47
                  refine ret1 (v := .int .i64 0) rfl rfl (fin rfl)
              · have H48 := cnd_f hb H44; clear H44
                refine c_region ?_
                refine l_val rfl rfl rfl (r_field Try.runUnderlying61 rfl Try.sizeOf3 rfl rfl) ?_
                refine l_load1 (i := 0) (v := .int .i64 a0.Kind) Try.isAgg3 rfl rfl rfl rfl rfl ?_
                refine l_val rfl rfl rfl (r_neq rfl rfl) ?_
                refine l_val rfl rfl rfl (r_move (v := .bool (decide (a0.Kind ≠ 13))) rfl) ?_
                refine split (fun hb => ?_) (fun hb => ?_)
                · have H49 := cnd_t hb H48; clear H48
                  refine l_val rfl rfl rfl (r_field Try.runUnderlying61 rfl Try.sizeOf59 rfl rfl) ?_
                  refine l_load1 (i := 0) (v := v0_4) Try.isAgg59 rfl rfl rfl rfl rfl ?_
                  refine l_val rfl rfl rfl (r_lenFN Try.underlying59 rfl f0_4) ?_
                  refine l_val rfl rfl rfl (r_gtr rfl rfl) ?_
                  refine l_val rfl rfl rfl (r_pickT (v := .bool (decide (0 < (a0.Entries.length : Int)))) rfl rfl) ?_
                  refine l_val rfl rfl rfl (r_assign (v := .bool (decide (0 < (a0.Entries.length : Int)))) rfl) ?_
                  refine l_nil ?_
                  refine c_if (b := (decide (0 < (a0.Entries.length : Int)))) rfl (fun hb => ?_) (fun hb => ?_)
                  · have H50 := cnd_t hb H49; clear H49
                    refine c_seq ?_
                    refine c_region ?_
                    refine l_val rfl rfl rfl (r_assign (v := .int .i64 1) rfl) ?_
                    refine l_nil ?_
                    refine c_ret ?_
                    obtain rfl := Option.some.inj H50
                    refine ret1 (v := .int .i64 1) rfl rfl (fin rfl)
                  · have H51 := cnd_f hb H49; clear H49
                    refine c_skip ?_
                    refine c_seq ?_
                    refine c_region ?_
                    refine l_val rfl rfl rfl (r_assign (v := .int .i64 0) rfl) ?_
                    refine l_nil ?_
                    refine c_ret ?_
                    obtain rfl := Option.some.inj H51
                    refine ret1 (v := .int .i64 0) rfl rfl (fin rfl)
                · have H52 := cnd_f hb H48; clear H48
                  refine l_passed rfl rfl rfl ?_
                  refine l_passed rfl rfl rfl ?_
                  refine l_passed rfl rfl rfl ?_
                  refine l_passed rfl rfl rfl ?_
                  refine l_val rfl rfl rfl (r_pickF (v := .bool false) rfl rfl) ?_
                  refine l_val rfl rfl rfl (r_assign (v := .bool false) rfl) ?_
                  refine l_nil ?_
                  refine c_false rfl ?_
                  refine c_skip ?_
                  refine c_seq ?_
                  refine c_region ?_
                  refine l_val rfl rfl rfl (r_assign (v := .int .i64 0) rfl) ?_
                  refine l_nil ?_
                  refine c_ret ?_
                  obtain rfl := Option.some.inj H52
                  refine ret1 (v := .int .i64 0) rfl rfl (fin rfl)
theorem k128 {a0 : Int} {r : Int × Int} (H : tag_bounds a0 = some r) : Ret Try.prog 128 [.int .i64 a0] (.tuple #[.int .i64 r.1, .int .i64 r.2]) := by
  refine enterRet (n := 11) Try.func128 rfl rfl rfl (fun wd => ?_)
  refine c_seq ?_
  refine c_region ?_
  refine l_val rfl rfl rfl (r_assign (v := .int .i64 0) rfl) ?_
  refine l_val rfl rfl rfl (r_assign (v := .int .i64 0) rfl) ?_
  refine l_nil ?_
  refine c_seq ?_
  refine c_seq ?_
  refine c_region ?_
  refine l_val rfl rfl rfl (r_move (v := .int .i64 a0) rfl) ?_
  refine l_nil ?_
  refine c_block ?_
  refine c_seq ?_
  refine c_region ?_
  refine l_val rfl rfl rfl (r_eql rfl rfl) ?_
  refine l_val rfl rfl rfl (r_assign (v := .bool (decide (a0 = 1))) rfl) ?_
  refine l_nil ?_
  refine c_if (b := (decide (a0 = 1))) rfl (fun hb => ?_) (fun hb => ?_)
  · have H7 := cnd_t hb H; clear H
    refine c_seq ?_
    refine c_region ?_
    refine l_val rfl rfl rfl (r_assign (v := .int .i64 0) rfl) ?_
    refine l_val rfl rfl rfl (r_assign (v := .int .i64 255) rfl) ?_
    refine l_nil ?_
    refine c_ret ?_
    obtain rfl := Option.some.inj H7
    refine ret2 (v1 := .int .i64 0) (v2 := .int .i64 255) rfl rfl rfl (fin rfl)
  · have H8 := cnd_f hb H; clear H
    refine c_seq ?_
    refine c_region ?_
    refine l_val rfl rfl rfl (r_eql rfl rfl) ?_
    refine l_val rfl rfl rfl (r_assign (v := .bool (decide (a0 = 3))) rfl) ?_
    refine l_nil ?_
    refine c_if (b := (decide (a0 = 3))) rfl (fun hb => ?_) (fun hb => ?_)
    · have H9 := cnd_t hb H8; clear H8
      refine c_seq ?_
      refine c_region ?_
      refine l_val rfl rfl rfl (r_assign (v := .int .i64 0) rfl) ?_
      refine l_val rfl rfl rfl (r_assign (v := .int .i64 65535) rfl) ?_
      refine l_nil ?_
      refine c_ret ?_
      obtain rfl := Option.some.inj H9
      refine ret2 (v1 := .int .i64 0) (v2 := .int .i64 65535) rfl rfl rfl (fin rfl)
    · have H10 := cnd_f hb H8; clear H8
      refine c_seq ?_
      refine c_region ?_
      refine l_val rfl rfl rfl (r_eql rfl rfl) ?_
      refine l_val rfl rfl rfl (r_assign (v := .bool (decide (a0 = 9))) rfl) ?_
      refine l_nil ?_
      refine c_if (b := (decide (a0 = 9))) rfl (fun hb => ?_) (fun hb => ?_)
      · have H11 := cnd_t hb H10; clear H10
        refine c_seq ?_
        refine c_region ?_
        refine l_val rfl rfl rfl (r_assign (v := .int .i64 (-2147483648)) rfl) ?_
        refine l_val rfl rfl rfl (r_assign (v := .int .i64 2147483647) rfl) ?_
        refine l_nil ?_
        refine c_ret ?_
        obtain rfl := Option.some.inj H11
        refine ret2 (v1 := .int .i64 (-2147483648)) (v2 := .int .i64 2147483647) rfl rfl rfl (fin rfl)
      · have H12 := cnd_f hb H10; clear H10
        refine c_skip ?_
        refine c_seq ?_
        refine c_region ?_
        refine l_val rfl rfl rfl (r_assign (v := .int .i64 0) rfl) ?_
        refine l_val rfl rfl rfl (r_assign (v := .int .i64 4294967295) rfl) ?_
        refine l_nil ?_
        refine c_ret ?_
        obtain rfl := Option.some.inj H12
        refine ret2 (v1 := .int .i64 0) (v2 := .int .i64 4294967295) rfl rfl rfl (fin rfl)
theorem k94 {a0 : T_tag_Value} {v0_2 : Value} {v0_3 : Value} {v0_4 : Value} {r : Int} {w : World} {h : Heap} (hw : Know h w noS) (f0_2 : FrS h 1 v0_2 (a0.Ints.map e_i64)) (f0_3 : FrS h 2 v0_3 (a0.Ratios.map e_tag_Ratio)) (f0_4 : FrN h 6 v0_4 g_tag_Entry a0.Entries) (H : tag_checkPlain a0 = some r) : Does Try.prog 94 (List.toArray [.agg #[.int .i64 a0.Kind, str a0.Text, v0_2, v0_3, v0_4]]) w (fun v w' => v = (.int .i64 r) ∧ Grow w w') := by
  refine enter (n := 65) Try.func94 rfl rfl rfl noS [] (Sat.nil _ _) ?_
  refine c_seq ?_
  refine c_region ?_
  refine l_box (cs := [.int .i64 a0.Kind, str a0.Text, v0_2, v0_3, v0_4]) rfl rfl rfl rfl (fun b2 => ?_)
  refine l_val rfl rfl rfl (r_assign (v := .int .i64 0) rfl) ?_
  refine l_nil ?_
  refine c_seq ?_
  refine c_seq ?_
  refine c_region ?_
  refine l_loadN (i := 0) (vs := [.int .i64 a0.Kind, str a0.Text, v0_2, v0_3, v0_4]) Try.isAgg61 Try.sizeOf61 rfl rfl rfl rfl rfl ?_
  obtain ⟨t12, h_t12, H35⟩ := bnd_some H; clear H
  refine l_callG (fun w hF hS => k95 (know_all w) (f0_2.mono (hw.now hF)) (f0_3.mono (hw.now hF)) (f0_4.mono (hw.now hF)) h_t12) Try.call95 rfl rfl rfl ?_
  refine l_val rfl rfl rfl (r_assign (v := .int .i64 t12) rfl) ?_
  refine l_nil ?_
  refine c_seq ?_
  refine c_region ?_
  refine l_val rfl rfl rfl (r_move (v := .int .i64 t12) rfl) ?_
  refine l_val rfl rfl rfl (r_neq rfl rfl) ?_
  refine l_nil ?_
  refine c_if (b := (decide (t12 ≠ 0))) rfl (fun hb => ?_) (fun hb => ?_)
  · have H36 := cnd_t hb H35; clear H35
    refine c_seq ?_
    refine c_region ?_
    refine l_val rfl rfl rfl (r_move (v := .int .i64 t12) rfl) ?_
    refine l_val rfl rfl rfl (r_assign (v := .int .i64 t12) rfl) ?_
    refine l_nil ?_
    refine c_ret ?_
    obtain rfl := Option.some.inj H36
    refine ret1 (v := .int .i64 t12) rfl rfl (fin rfl)
  · have H37 := cnd_f hb H35; clear H35
    refine c_skip ?_
    refine c_seq ?_
    refine c_region ?_
    refine l_val rfl rfl rfl (r_field Try.runUnderlying61 rfl Try.sizeOf3 rfl rfl) ?_
    refine l_load1 (i := 0) (v := .int .i64 a0.Kind) Try.isAgg3 rfl rfl rfl rfl rfl ?_
    obtain ⟨t19, h_t19, H38⟩ := bnd_some H37; clear H37
    refine l_call (k128 h_t19) Try.call128 rfl rfl rfl ?_
    refine l_val rfl rfl rfl (r_move (v := .tuple #[.int .i64 t19.1, .int .i64 t19.2]) rfl) ?_
    refine l_val rfl rfl rfl (r_extract (v := .int .i64 t19.1) rfl rfl) ?_
    refine l_val rfl rfl rfl (r_extract (v := .int .i64 t19.2) rfl rfl) ?_
    refine l_val rfl rfl rfl (r_assign (v := .int .i64 t19.1) rfl) ?_
    refine l_val rfl rfl rfl (r_assign (v := .int .i64 t19.2) rfl) ?_
    refine l_nil ?_
    refine c_meet (r := r) (σ := Unit) (τ := Unit) (fun s => tag_checkPlain_j1 a0) (fun s t => [(1, .pointer (some ⟨b2, 0, none⟩))]) (fun s t => [cellsC b2 [.int .i64 a0.Kind, str a0.Text, v0_2, v0_3, v0_4] 61]) (fun s t => True) ?_ ?_
    · refine c_seq ?_
      refine c_region ?_
      refine l_val rfl rfl rfl (r_field Try.runUnderlying61 rfl Try.sizeOf57 rfl rfl) ?_
      refine l_load1 (i := 0) (v := v0_2) Try.isAgg57 rfl rfl rfl rfl rfl ?_
      refine l_val rfl rfl rfl (r_lenF Try.underlying57 rfl f0_2 rfl) ?_
      refine l_val rfl rfl rfl (r_move (v := .int .i64 0) rfl) ?_
      refine l_nil ?_
      refine c_block ?_
      refine c_fix (σ := Int) (τ := Unit) (fun next5 s => tag_checkPlain_l5 a0 t19 next5 s) (fun s t => [(1, .pointer (some ⟨b2, 0, none⟩)), (4, .int .i64 t19.1), (5, .int .i64 t19.2), (23, v0_2), (24, .int .i64 (a0.Ints.length : Int)), (25, .int .i64 s)]) (fun s t => [cellsC b2 [.int .i64 a0.Kind, str a0.Text, v0_2, v0_3, v0_4] 61]) (fun s t => True) 0 () [0] H38 (by exact trivial) (by exact ⟨rfl, rfl, rfl, rfl, rfl, rfl, trivial⟩) (by decide) rfl ?_
      rintro x25_2 _ m5 gg H61 _
      clear H38
      replace H61 : tag_checkPlain_l5 a0 t19 (it (fun next5 s => tag_checkPlain_l5 a0 t19 next5 s) m5) x25_2 = some r := H61
      generalize hn5 : it (fun next5 s => tag_checkPlain_l5 a0 t19 next5 s) m5 = next5 at H61
      refine c_tidyF [(1, .pointer (some ⟨b2, 0, none⟩)), (4, .int .i64 t19.1), (5, .int .i64 t19.2), (23, v0_2), (24, .int .i64 (a0.Ints.length : Int)), (25, .int .i64 x25_2)] [cellsC b2 [.int .i64 a0.Kind, str a0.Text, v0_2, v0_3, v0_4] 61] rfl rfl ?_
      refine c_seq ?_
      refine c_region ?_
      refine l_val rfl rfl rfl (r_lss rfl rfl) ?_
      refine l_nil ?_
      refine c_seq ?_
      refine c_if (b := (decide (x25_2 < (a0.Ints.length : Int)))) rfl (fun hb => ?_) (fun hb => ?_)
      · have H62 := cnd_t hb H61; clear H61
        refine c_skip ?_
        refine c_seq ?_
        refine c_block ?_
        refine c_seq ?_
        refine c_region ?_
        obtain ⟨t27, h_t27, H63⟩ := bnd_some H62; clear H62
        refine l_val rfl rfl rfl (r_indexF Try.underlying57 Try.sizeOf3 rfl rfl f0_2 h_t27) ?_
        refine l_read (fun w hF hS => run_loadG1 (f := e_i64) (i := x25_2) (sz := 1) (j := 0) (v := .int .i64 t27) Try.isAgg3 rfl rfl (f0_2.row (hw.now hF)) h_t27 rfl) rfl rfl rfl ?_
        refine l_val rfl rfl rfl (r_assign (v := .int .i64 t27) rfl) ?_
        refine l_nil ?_
        refine c_seq ?_
        refine c_region ?_
        refine l_val rfl rfl rfl (r_move (v := .int .i64 t27) rfl) ?_
        refine l_val rfl rfl rfl (r_move (v := .int .i64 t19.1) rfl) ?_
        refine l_val rfl rfl rfl (r_move (v := .int .i64 t19.2) rfl) ?_
        obtain ⟨t32, h_t32, H64⟩ := bnd_some H63; clear H63
        refine l_call (k93 h_t32) Try.call93 rfl rfl rfl ?_
        refine l_nil ?_
        refine c_if (b := t32) rfl (fun hb => ?_) (fun hb => ?_)
        · have H65 := cnd_t hb H64; clear H64
          refine c_seq ?_
          refine c_region ?_
          refine l_val rfl rfl rfl (r_assign (v := .int .i64 2) rfl) ?_
          refine l_nil ?_
          refine c_ret ?_
          obtain rfl := Option.some.inj H65
          refine ret1 (v := .int .i64 2) rfl rfl (fin rfl)
        · have H66 := cnd_f hb H64; clear H64
          refine c_skip ?_
          refine c_region ?_
          obtain ⟨t33, h_t33, H67⟩ := bnd_some H66; clear H66
          refine l_val rfl rfl rfl (r_addG rfl rfl h_t33) ?_
          refine l_val rfl rfl rfl (r_move (v := .int .i64 t33) rfl) ?_
          refine l_nil ?_
          refine c_close t33 () m5 [0] (by exact ⟨rfl, rfl, rfl, rfl, rfl, rfl, trivial⟩) (by decide) rfl (by exact ⟨(by subst hn5; exact H67), trivial⟩) (Nat.lt_succ_self _)
      · have H68 := cnd_f hb H61; clear H61
        refine c_exit ?_
        refine c_close () () 0 [0] (by exact ⟨rfl, trivial⟩) (by decide) rfl (by exact ⟨H68, trivial⟩) (Nat.lt_succ_self _)
    · rintro _ _ gg H39 _
      replace H39 : tag_checkPlain_j1 a0 = some r := H39
      refine c_tidyF [(1, .pointer (some ⟨b2, 0, none⟩))] [cellsC b2 [.int .i64 a0.Kind, str a0.Text, v0_2, v0_3, v0_4] 61] rfl rfl ?_
      refine c_meet (r := r) (σ := Unit) (τ := Unit) (fun s => tag_checkPlain_j2 a0) (fun s t => [(1, .pointer (some ⟨b2, 0, none⟩))]) (fun s t => [cellsC b2 [.int .i64 a0.Kind, str a0.Text, v0_2, v0_3, v0_4] 61]) (fun s t => True) ?_ ?_
      · refine c_seq ?_
        refine c_region ?_
        refine l_val rfl rfl rfl (r_field Try.runUnderlying61 rfl Try.sizeOf58 rfl rfl) ?_
        refine l_load1 (i := 0) (v := v0_3) Try.isAgg58 rfl rfl rfl rfl rfl ?_
        refine l_val rfl rfl rfl (r_lenF Try.underlying58 rfl f0_3 rfl) ?_
        refine l_val rfl rfl rfl (r_move (v := .int .i64 0) rfl) ?_
        refine l_nil ?_
        refine c_block ?_
        refine c_fix (σ := Int) (τ := Unit) (fun next4 s => tag_checkPlain_l4 a0 next4 s) (fun s t => [(1, .pointer (some ⟨b2, 0, none⟩)), (35, v0_3), (36, .int .i64 (a0.Ratios.length : Int)), (37, .int .i64 s)]) (fun s t => [cellsC b2 [.int .i64 a0.Kind, str a0.Text, v0_2, v0_3, v0_4] 61]) (fun s t => True) 0 () [0] H39 (by exact trivial) (by exact ⟨rfl, rfl, rfl, rfl, trivial⟩) (by decide) rfl ?_
        rintro x37_2 _ m4 gg H50 _
        clear H39
        replace H50 : tag_checkPlain_l4 a0 (it (fun next4 s => tag_checkPlain_l4 a0 next4 s) m4) x37_2 = some r := H50
        generalize hn4 : it (fun next4 s => tag_checkPlain_l4 a0 next4 s) m4 = next4 at H50
        refine c_tidyF [(1, .pointer (some ⟨b2, 0, none⟩)), (35, v0_3), (36, .int .i64 (a0.Ratios.length : Int)), (37, .int .i64 x37_2)] [cellsC b2 [.int .i64 a0.Kind, str a0.Text, v0_2, v0_3, v0_4] 61] rfl rfl ?_
        refine c_seq ?_
        refine c_region ?_
        refine l_val rfl rfl rfl (r_lss rfl rfl) ?_
        refine l_nil ?_
        refine c_seq ?_
        refine c_if (b := (decide (x37_2 < (a0.Ratios.length : Int)))) rfl (fun hb => ?_) (fun hb => ?_)
        · have H51 := cnd_t hb H50; clear H50
          refine c_skip ?_
          refine c_seq ?_
          refine c_block ?_
          refine c_seq ?_
          refine c_region ?_
          obtain ⟨t39, h_t39, H52⟩ := bnd_some H51; clear H51
          refine l_val rfl rfl rfl (r_indexF Try.underlying58 Try.sizeOf120 rfl rfl f0_3 h_t39) ?_
          refine l_read (fun w hF hS => run_loadGN (f := e_tag_Ratio) (i := x37_2) (sz := 2) (j := 0) (vs := [.int .i64 t39.Num, .int .i64 t39.Den]) Try.isAgg120 Try.sizeOf120 rfl rfl (f0_3.row (hw.now hF)) h_t39 rfl) rfl rfl rfl ?_
          refine l_alloc (cs := [.int .i64 0, .int .i64 0]) Try.zeroValue120 rfl rfl rfl (fun b3 => ?_)
          refine l_store (i := 1) (vs := [.int .i64 t39.Num, .int .i64 t39.Den]) (cs' := [.int .i64 t39.Num, .int .i64 t39.Den]) Try.sizeOf120 rfl rfl rfl rfl rfl rfl rfl rfl rfl ?_
          refine l_nil ?_
          refine c_seq ?_
          refine c_region ?_
          refine l_val rfl rfl rfl (r_field Try.runUnderlying120 rfl Try.sizeOf3 rfl rfl) ?_
          refine l_load1 (i := 1) (v := .int .i64 t39.Num) Try.isAgg3 rfl rfl rfl rfl rfl ?_
          obtain ⟨t43, h_t43, H53⟩ := bnd_some H52; clear H52
          refine l_call (k93 h_t43) Try.call93 rfl rfl rfl ?_
          refine l_val rfl rfl rfl (r_move (v := .bool t43) rfl) ?_
          refine split (fun hb => ?_) (fun hb => ?_)
          · have H54 := cnd_t hb H53; clear H53
            refine l_passed rfl rfl rfl ?_
            refine l_passed rfl rfl rfl ?_
            refine l_passed rfl rfl rfl ?_
            refine l_val rfl rfl rfl (r_pickT (v := .bool true) rfl rfl) ?_
            refine l_nil ?_
            refine c_true rfl ?_
            refine c_seq ?_
            refine c_region ?_
            refine l_val rfl rfl rfl (r_assign (v := .int .i64 2) rfl) ?_
            refine l_nil ?_
            refine c_ret ?_
            obtain rfl := Option.some.inj H54
            refine ret1 (v := .int .i64 2) rfl rfl (fin rfl)
          · have H55 := cnd_f hb H53; clear H53
            refine l_val rfl rfl rfl (r_field Try.runUnderlying120 rfl Try.sizeOf3 rfl rfl) ?_
            refine l_load1 (i := 1) (v := .int .i64 t39.Den) Try.isAgg3 rfl rfl rfl rfl rfl ?_
            obtain ⟨t47, h_t47, H56⟩ := bnd_some H55; clear H55
            refine l_call (k93 h_t47) Try.call93 rfl rfl rfl ?_
            refine l_val rfl rfl rfl (r_pickF (v := .bool t47) rfl rfl) ?_
            refine l_nil ?_
            refine c_if (b := t47) rfl (fun hb => ?_) (fun hb => ?_)
            · have H57 := cnd_t hb H56; clear H56
              refine c_seq ?_
              refine c_region ?_
              refine l_val rfl rfl rfl (r_assign (v := .int .i64 2) rfl) ?_
              refine l_nil ?_
              refine c_ret ?_
              obtain rfl := Option.some.inj H57
              refine ret1 (v := .int .i64 2) rfl rfl (fin rfl)
            · have H58 := cnd_f hb H56; clear H56
              refine c_skip ?_
              refine c_region ?_
              obtain ⟨t49, h_t49, H59⟩ := bnd_some H58; clear H58
              refine l_val rfl rfl rfl (r_addG rfl rfl h_t49) ?_
              refine l_val rfl rfl rfl (r_move (v := .int .i64 t49) rfl) ?_
              refine l_nil ?_
              refine c_close t49 () m4 [0] (by exact ⟨rfl, rfl, rfl, rfl, trivial⟩) (by decide) rfl (by exact ⟨(by subst hn4; exact H59), trivial⟩) (Nat.lt_succ_self _)
        · have H60 := cnd_f hb H50; clear H50
          refine c_exit ?_
          refine c_close () () 0 [0] (by exact ⟨rfl, trivial⟩) (by decide) rfl (by exact ⟨H60, trivial⟩) (Nat.lt_succ_self _)
      · rintro _ _ gg H40 _
        replace H40 : tag_checkPlain_j2 a0 = some r := H40
        refine c_tidyF [(1, .pointer (some ⟨b2, 0, none⟩))] [cellsC b2 [.int .i64 a0.Kind, str a0.Text, v0_2, v0_3, v0_4] 61] rfl rfl ?_
        refine c_seq ?_
        refine c_seq ?_
        refine c_region ?_
        refine l_val rfl rfl rfl (r_field Try.runUnderlying61 rfl Try.sizeOf3 rfl rfl) ?_
        refine l_load1 (i := 0) (v := .int .i64 a0.Kind) Try.isAgg3 rfl rfl rfl rfl rfl ?_
        refine l_val rfl rfl rfl (r_eql rfl rfl) ?_
        refine l_nil ?_
        refine c_if (b := (decide (a0.Kind = 2))) rfl (fun hb => ?_) (fun hb => ?_)
        · have H41 := cnd_t hb H40; clear H40
          refine c_seq ?_
          refine c_region ?_
          refine l_val rfl rfl rfl (r_field Try.runUnderlying61 rfl Try.sizeOf9 rfl rfl) ?_
          refine l_load1 (i := 0) (v := str a0.Text) Try.isAgg9 rfl rfl rfl rfl rfl ?_
          refine l_val rfl rfl rfl (r_lenT Try.underlying9 rfl) ?_
          refine l_val rfl rfl rfl (r_move (v := .int .i64 0) rfl) ?_
          refine l_nil ?_
          refine c_block ?_
          refine c_fix (σ := Int) (τ := Unit) (fun next3 s => tag_checkPlain_l3 a0 next3 s) (fun s t => [(1, .pointer (some ⟨b2, 0, none⟩)), (55, .int .i64 (a0.Text.length : Int)), (56, .int .i64 s)]) (fun s t => [cellsC b2 [.int .i64 a0.Kind, str a0.Text, v0_2, v0_3, v0_4] 61]) (fun s t => True) 0 () [0] H41 (by exact trivial) (by exact ⟨rfl, rfl, rfl, trivial⟩) (by decide) rfl ?_
          rintro x56_2 _ m3 gg H42 _
          clear H41
          replace H42 : tag_checkPlain_l3 a0 (it (fun next3 s => tag_checkPlain_l3 a0 next3 s) m3) x56_2 = some r := H42
          generalize hn3 : it (fun next3 s => tag_checkPlain_l3 a0 next3 s) m3 = next3 at H42
          refine c_tidyF [(1, .pointer (some ⟨b2, 0, none⟩)), (55, .int .i64 (a0.Text.length : Int)), (56, .int .i64 x56_2)] [cellsC b2 [.int .i64 a0.Kind, str a0.Text, v0_2, v0_3, v0_4] 61] rfl rfl ?_
          refine c_seq ?_
          refine c_region ?_
          refine l_val rfl rfl rfl (r_lss rfl rfl) ?_
          refine l_nil ?_
          refine c_seq ?_
          refine c_if (b := (decide (x56_2 < (a0.Text.length : Int)))) rfl (fun hb => ?_) (fun hb => ?_)
          · have H43 := cnd_t hb H42; clear H42
            refine c_skip ?_
            refine c_seq ?_
            refine c_block ?_
            refine c_seq ?_
            refine c_region ?_
            refine l_val rfl rfl rfl (r_move (v := .int .i64 x56_2) rfl) ?_
            refine l_val rfl rfl rfl (r_assign (v := .int .i64 x56_2) rfl) ?_
            refine l_nil ?_
            refine c_seq ?_
            refine c_region ?_
            refine l_val rfl rfl rfl (r_field Try.runUnderlying61 rfl Try.sizeOf9 rfl rfl) ?_
            refine l_load1 (i := 0) (v := str a0.Text) Try.isAgg9 rfl rfl rfl rfl rfl ?_
            refine l_val rfl rfl rfl (r_move (v := .int .i64 x56_2) rfl) ?_
            obtain ⟨t62, h_t62, H44⟩ := bnd_some H43; clear H43
            refine l_val rfl rfl rfl (r_octG Try.underlying9 rfl rfl h_t62) ?_
            refine l_val rfl rfl rfl (r_eql rfl rfl) ?_
            refine l_nil ?_
            refine c_if (b := (decide (t62 = 0))) rfl (fun hb => ?_) (fun hb => ?_)
            · have H45 := cnd_t hb H44; clear H44
              refine c_seq ?_
              refine c_region ?_
              refine l_val rfl rfl rfl (r_assign (v := .int .i64 9) rfl) ?_
              refine l_nil ?_
              refine c_ret ?_
              obtain rfl := Option.some.inj H45
              refine ret1 (v := .int .i64 9) rfl rfl (fin rfl)
            · have H46 := cnd_f hb H44; clear H44
              refine c_skip ?_
              refine c_region ?_
              obtain ⟨t64, h_t64, H47⟩ := bnd_some H46; clear H46
              refine l_val rfl rfl rfl (r_addG rfl rfl h_t64) ?_
              refine l_val rfl rfl rfl (r_move (v := .int .i64 t64) rfl) ?_
              refine l_nil ?_
              refine c_close t64 () m3 [0] (by exact ⟨rfl, rfl, rfl, trivial⟩) (by decide) rfl (by exact ⟨(by subst hn3; exact H47), trivial⟩) (Nat.lt_succ_self _)
          · have H48 := cnd_f hb H42; clear H42
            refine c_exit ?_
            refine c_seq ?_
            refine c_region ?_
            refine l_val rfl rfl rfl (r_assign (v := .int .i64 0) rfl) ?_
            refine l_nil ?_
            refine c_ret ?_
            obtain rfl := Option.some.inj H48
            refine ret1 (v := .int .i64 0) rfl rfl (fin rfl)
        · have H49 := cnd_f hb H40; clear H40
          refine c_skip ?_
          refine c_seq ?_
          refine c_region ?_
          refine l_val rfl rfl rfl (r_assign (v := .int .i64 0) rfl) ?_
          refine l_nil ?_
          refine c_ret ?_
          obtain rfl := Option.some.inj H49
          refine ret1 (v := .int .i64 0) rfl rfl (fin rfl)
theorem k48_it (mm : Nat) : ∀ {a0 : (List T_tag_Entry)} {v0 : Value} {a1 : Int} {r : Int} {w : World} {h : Heap} (hw : Know h w noS) (f0 : FrN h 6 v0 g_tag_Entry a0) (H : it (fun (self : ((List T_tag_Entry) × Int) → Option (Int)) (s : (List T_tag_Entry) × Int) => tag_checkDir_body self s.1 s.2) mm (a0, a1) = some r), Does Try.prog 48 (List.toArray [v0, .int .i64 a1]) w (fun v w' => v = (.int .i64 r) ∧ Grow w w') := by
  induction mm with
  | zero => intros; rename_i H; exact absurd H (by simp [it])
  | succ mm ih =>
    intro a0 v0 a1 r w h hw f0 H
    replace H : tag_checkDir_body (it (fun (self : ((List T_tag_Entry) × Int) → Option (Int)) (s : (List T_tag_Entry) × Int) => tag_checkDir_body self s.1 s.2) mm) a0 a1 = some r := H
    generalize it (fun (self : ((List T_tag_Entry) × Int) → Option (Int)) (s : (List T_tag_Entry) × Int) => tag_checkDir_body self s.1 s.2) mm = self at H ih
    refine enter (n := 62) Try.func48 rfl rfl rfl noS [] (Sat.nil _ _) ?_
    refine c_seq ?_
    refine c_region ?_
    refine l_val rfl rfl rfl (r_assign (v := .int .i64 0) rfl) ?_
    refine l_nil ?_
    refine c_seq ?_
    refine c_seq ?_
    refine c_region ?_
    refine l_val rfl rfl rfl (r_move (v := .int .i64 a1) rfl) ?_
    refine l_val rfl rfl rfl (r_gtr rfl rfl) ?_
    refine l_val rfl rfl rfl (r_move (v := .bool (decide (5 < a1))) rfl) ?_
    refine split (fun hb => ?_) (fun hb => ?_)
    · have H31 := cnd_t hb H; clear H
      refine l_passed rfl rfl rfl ?_
      refine l_passed rfl rfl rfl ?_
      refine l_passed rfl rfl rfl ?_
      refine l_val rfl rfl rfl (r_pickT (v := .bool true) rfl rfl) ?_
      refine l_nil ?_
      refine c_true rfl ?_
      refine c_seq ?_
      refine c_region ?_
      refine l_val rfl rfl rfl (r_assign (v := .int .i64 4) rfl) ?_
      refine l_nil ?_
      refine c_ret ?_
      obtain rfl := Option.some.inj H31
      refine ret1 (v := .int .i64 4) rfl rfl (fin rfl)
    · have H32 := cnd_f hb H; clear H
      refine l_val rfl rfl rfl (r_move (v := v0) rfl) ?_
      refine l_val rfl rfl rfl (r_lenFN Try.underlying59 rfl f0) ?_
      refine l_val rfl rfl rfl (r_gtr rfl rfl) ?_
      refine l_val rfl rfl rfl (r_pickF (v := .bool (decide (200 < (a0.length : Int)))) rfl rfl) ?_
      refine l_nil ?_
      refine c_if (b := (decide (200 < (a0.length : Int)))) rfl (fun hb => ?_) (fun hb => ?_)
      · have H33 := cnd_t hb H32; clear H32
        refine c_seq ?_
        refine c_region ?_
        refine l_val rfl rfl rfl (r_assign (v := .int .i64 4) rfl) ?_
        refine l_nil ?_
        refine c_ret ?_
        obtain rfl := Option.some.inj H33
        refine ret1 (v := .int .i64 4) rfl rfl (fin rfl)
      · have H34 := cnd_f hb H32; clear H32
        refine c_skip ?_
        refine c_seq ?_
        refine c_seq ?_
        refine c_region ?_
        refine l_val rfl rfl rfl (r_move (v := v0) rfl) ?_
        refine l_val rfl rfl rfl (r_lenFN Try.underlying59 rfl f0) ?_
        refine l_val rfl rfl rfl (r_move (v := .int .i64 0) rfl) ?_
        refine l_nil ?_
        refine c_block ?_
        refine c_fix (σ := Int) (τ := Unit) (fun next1 s => tag_checkDir_l1 a0 a1 self next1 s) (fun s t => [(0, v0), (1, .int .i64 a1), (15, v0), (16, .int .i64 (a0.length : Int)), (17, .int .i64 s)]) (fun s t => []) (fun s t => True) 0 () [] H34 (by exact trivial) (by exact ⟨rfl, rfl, rfl, rfl, rfl, trivial⟩) (by decide) rfl ?_
        rintro x17_2 _ m1 gg H35 _
        clear H34
        replace H35 : tag_checkDir_l1 a0 a1 self (it (fun next1 s => tag_checkDir_l1 a0 a1 self next1 s) m1) x17_2 = some r := H35
        generalize hn1 : it (fun next1 s => tag_checkDir_l1 a0 a1 self next1 s) m1 = next1 at H35
        refine c_tidyF [(0, v0), (1, .int .i64 a1), (15, v0), (16, .int .i64 (a0.length : Int)), (17, .int .i64 x17_2)] [] rfl rfl ?_
        refine c_seq ?_
        refine c_region ?_
        refine l_val rfl rfl rfl (r_lss rfl rfl) ?_
        refine l_nil ?_
        refine c_seq ?_
        refine c_if (b := (decide (x17_2 < (a0.length : Int)))) rfl (fun hb => ?_) (fun hb => ?_)
        · have H36 := cnd_t hb H35; clear H35
          refine c_skip ?_
          refine c_seq ?_
          refine c_block ?_
          refine c_seq ?_
          refine c_region ?_
          refine l_val rfl rfl rfl (r_move (v := .int .i64 x17_2) rfl) ?_
          obtain ⟨t20, h_t20, H37⟩ := bnd_some H36; clear H36
          refine l_val rfl rfl rfl (r_indexF Try.underlying59 Try.sizeOf113 rfl rfl f0.frs (f0.ix h_t20)) ?_
          refine l_read (fun w hF hS => run_loadGN (f := (elC h v0 6)) (i := x17_2) (sz := 6) (j := 0) (vs := [.int .i64 t20.Tag, .int .i64 t20.Value.Kind, str t20.Value.Text, (elH h v0 6 (Int.toNat x17_2) 3), (elH h v0 6 (Int.toNat x17_2) 4), (elH h v0 6 (Int.toNat x17_2) 5)]) Try.isAgg113 Try.sizeOf113 rfl rfl (f0.frs.row (hw.now hF)) (f0.ix h_t20) (rd_of (cg_tag_Entry (f0.at h_t20)) rfl)) rfl rfl rfl ?_
          refine l_alloc (cs := [.int .i64 0, .int .i64 0, str [], .slice none 0 0, .slice none 0 0, .slice none 0 0]) Try.zeroValue113 rfl rfl rfl (fun b1 => ?_)
          refine l_val rfl rfl rfl (r_assign (v := .int .i64 x17_2) rfl) ?_
          refine l_store (i := 0) (vs := [.int .i64 t20.Tag, .int .i64 t20.Value.Kind, str t20.Value.Text, (elH h v0 6 (Int.toNat x17_2) 3), (elH h v0 6 (Int.toNat x17_2) 4), (elH h v0 6 (Int.toNat x17_2) 5)]) (cs' := [.int .i64 t20.Tag, .int .i64 t20.Value.Kind, str t20.Value.Text, (elH h v0 6 (Int.toNat x17_2) 3), (elH h v0 6 (Int.toNat x17_2) 4), (elH h v0 6 (Int.toNat x17_2) 5)]) Try.sizeOf113 rfl rfl rfl rfl rfl rfl (by simp only [List.all_cons, List.all_nil, (show FrN h 6 (elH h v0 6 (Int.toNat x17_2) 5) g_tag_Entry t20.Value.Entries from (g_tag_Value_p4 (g_tag_Entry_p1 (f0.at h_t20)))).one, (show FrS h 1 (elH h v0 6 (Int.toNat x17_2) 3) (t20.Value.Ints.map e_i64) from (g_tag_Value_p2 (g_tag_Entry_p1 (f0.at h_t20)))).one, (show FrS h 2 (elH h v0 6 (Int.toNat x17_2) 4) (t20.Value.Ratios.map e_tag_Ratio) from (g_tag_Value_p3 (g_tag_Entry_p1 (f0.at h_t20)))).one] <;> rfl) rfl rfl ?_
          refine l_nil ?_
          refine c_meet (r := r) (σ := Unit) (τ := Unit) (fun s => tag_checkDir_j2 a1 self x17_2 next1 t20) (fun s t => [(0, v0), (1, .int .i64 a1), (6, .pointer (some ⟨b1, 0, none⟩)), (15, v0), (16, .int .i64 (a0.length : Int)), (17, .int .i64 x17_2)]) (fun s t => [cellsC b1 [.int .i64 t20.Tag, .int .i64 t20.Value.Kind, str t20.Value.Text, (elH h v0 6 (Int.toNat x17_2) 3), (elH h v0 6 (Int.toNat x17_2) 4), (elH h v0 6 (Int.toNat x17_2) 5)] 113]) (fun s t => True) ?_ ?_
          · refine c_block ?_
            refine c_seq ?_
            refine c_region ?_
            refine l_val rfl rfl rfl (r_field Try.runUnderlying113 rfl Try.sizeOf3 rfl rfl) ?_
            refine l_load1 (i := 0) (v := .int .i64 t20.Tag) Try.isAgg3 rfl rfl rfl rfl rfl ?_
            obtain ⟨t25, h_t25, H51⟩ := bnd_some H37; clear H37
            refine l_call (k93 h_t25) Try.call93 rfl rfl rfl ?_
            refine l_val rfl rfl rfl (r_assign (v := .bool t25) rfl) ?_
            refine l_nil ?_
            refine c_if (b := t25) rfl (fun hb => ?_) (fun hb => ?_)
            · have H52 := cnd_t hb H51; clear H51
              refine c_seq ?_
              refine c_region ?_
              refine l_val rfl rfl rfl (r_assign (v := .int .i64 2) rfl) ?_
              refine l_nil ?_
              refine c_ret ?_
              obtain rfl := Option.some.inj H52
              refine ret1 (v := .int .i64 2) rfl rfl (fin rfl)
            · have H53 := cnd_f hb H51; clear H51
              refine c_seq ?_
              exact c_regionD (Kd.p :: Kd.p :: Kd.p :: Kd.p :: Kd.d [0] _ :: Kd.p :: Kd.p :: Kd.p :: Kd.p :: Kd.p :: Kd.d [] _ :: Kd.p :: Kd.p :: Kd.p :: []) 0 mixed (by
                refine d_val rfl rfl (r_move (v := .int .i64 x17_2) rfl) ?_
                refine d_val rfl rfl (r_gtr rfl rfl) ?_
                refine d_val rfl rfl (r_move (v := .bool (decide (0 < x17_2))) rfl) ?_
                refine splitS (fun hb => ?_) (fun hb => ?_)
                · have H54 := cnd_t hb H53
                  refine d_val rfl rfl (r_field Try.runUnderlying113 rfl Try.sizeOf3 rfl rfl) ?_
                  refine d_load1 (i := 0) (v := .int .i64 t20.Tag) Try.isAgg3 rfl rfl rfl rfl ?_
                  refine d_val rfl rfl (r_move (v := v0) rfl) ?_
                  refine d_val rfl rfl (r_move (v := .int .i64 x17_2) rfl) ?_
                  have h_t34 := bnd_val H54
                  have H55 := bnd_rest H54
                  refine d_val rfl rfl (r_subG rfl rfl h_t34) ?_
                  have h_t35 := bnd_val H55
                  have H56 := bnd_rest H55
                  refine d_val rfl rfl (r_indexF Try.underlying59 Try.sizeOf113 rfl rfl f0.frs (f0.ix h_t35)) ?_
                  refine d_val rfl rfl (r_fieldP Try.runUnderlying113 rfl Try.sizeOf3 rfl rfl (some_of_at f0.frs (f0.ix h_t35))) ?_
                  refine d_read (fun w hF => run_loadG1 (f := (elC h v0 6)) (i := (val (gI (x17_2 - 1)))) (sz := 6) (j := 0) (v := .int .i64 (val (gAt a0 (val (gI (x17_2 - 1))))).Tag) Try.isAgg3 rfl rfl (f0.frs.row (hw.now hF)) (f0.ix h_t35) (rg_of (cg_tag_Entry (f0.at h_t35)) rfl)) rfl rfl ?_
                  refine d_val rfl rfl (r_leq rfl rfl) ?_
                  refine d_val rfl rfl (r_pickT (v := .bool (decide (t20.Tag ≤ (val (gAt a0 (val (gI (x17_2 - 1))))).Tag))) rfl rfl) ?_
                  refine d_val rfl rfl (r_assign (v := .bool (decide (t20.Tag ≤ (val (gAt a0 (val (gI (x17_2 - 1))))).Tag))) rfl) ?_
                  refine d_nil ?_
                  refine c_if (b := (decide (t20.Tag ≤ (val (gAt a0 (val (gI (x17_2 - 1))))).Tag))) rfl (fun hb => ?_) (fun hb => ?_)
                  · have H57 := cnd_t hb H56; clear H56
                    refine c_seq ?_
                    refine c_region ?_
                    refine l_val rfl rfl rfl (r_assign (v := .int .i64 5) rfl) ?_
                    refine l_nil ?_
                    refine c_ret ?_
                    obtain rfl := Option.some.inj H57
                    refine ret1 (v := .int .i64 5) rfl rfl (fin rfl)
                  · have H58 := cnd_f hb H56; clear H56
                    refine c_skip ?_
                    refine c_close () () 0 [0] (by exact ⟨rfl, rfl, rfl, rfl, rfl, rfl, trivial⟩) (by decide) rfl (by exact ⟨H58, trivial⟩) (Nat.lt_succ_self _)
                · have H59 := cnd_f hb H53
                  refine d_pass rfl rfl ?_
                  refine d_pass rfl rfl ?_
                  refine d_pass rfl rfl ?_
                  refine d_pass rfl rfl ?_
                  refine d_pass rfl rfl ?_
                  refine d_pass rfl rfl ?_
                  refine d_pass rfl rfl ?_
                  refine d_pass rfl rfl ?_
                  refine d_pass rfl rfl ?_
                  refine d_val rfl rfl (r_pickF (v := .bool false) rfl rfl) ?_
                  refine d_val rfl rfl (r_assign (v := .bool false) rfl) ?_
                  refine d_nil ?_
                  refine c_false rfl ?_
                  refine c_skip ?_
                  refine c_close () () 0 [0] (by exact ⟨rfl, rfl, rfl, rfl, rfl, rfl, trivial⟩) (by decide) rfl (by exact ⟨H59, trivial⟩) (Nat.lt_succ_self _)
                ) (by kernel_rfl)
          · rintro _ _ gg H38 _
            replace H38 : tag_checkDir_j2 a1 self x17_2 next1 t20 = some r := H38
            refine c_tidyF [(0, v0), (1, .int .i64 a1), (6, .pointer (some ⟨b1, 0, none⟩)), (15, v0), (16, .int .i64 (a0.length : Int)), (17, .int .i64 x17_2)] [cellsC b1 [.int .i64 t20.Tag, .int .i64 t20.Value.Kind, str t20.Value.Text, (elH h v0 6 (Int.toNat x17_2) 3), (elH h v0 6 (Int.toNat x17_2) 4), (elH h v0 6 (Int.toNat x17_2) 5)] 113] rfl rfl ?_
            refine c_seq ?_
            refine c_region ?_
            refine l_val rfl rfl rfl (r_assign (v := .int .i64 0) rfl) ?_
            refine l_nil ?_
            refine c_meet (r := r) (σ := Int) (τ := Unit) (fun s => tag_checkDir_j3 x17_2 next1 s) (fun s t => [(0, v0), (1, .int .i64 a1), (7, .int .i64 s), (15, v0), (16, .int .i64 (a0.length : Int)), (17, .int .i64 x17_2)]) (fun s t => []) (fun s t => True) ?_ ?_
            · refine c_seq ?_
              refine c_region ?_
              refine l_val rfl rfl rfl (r_field Try.runUnderlying113 rfl Try.sizeOf61 rfl rfl) ?_
              refine l_val rfl rfl rfl (r_field Try.runUnderlying61 rfl Try.sizeOf3 rfl rfl) ?_
              refine l_load1 (i := 0) (v := .int .i64 t20.Value.Kind) Try.isAgg3 rfl rfl rfl rfl rfl ?_
              refine l_val rfl rfl rfl (r_neq rfl rfl) ?_
              refine l_nil ?_
              refine c_if (b := (decide (t20.Value.Kind ≠ 13))) rfl (fun hb => ?_) (fun hb => ?_)
              · have H43 := cnd_t hb H38; clear H38
                refine c_region ?_
                refine l_val rfl rfl rfl (r_field Try.runUnderlying113 rfl Try.sizeOf61 rfl rfl) ?_
                refine l_loadN (i := 0) (vs := [.int .i64 t20.Value.Kind, str t20.Value.Text, (elH h v0 6 (Int.toNat x17_2) 3), (elH h v0 6 (Int.toNat x17_2) 4), (elH h v0 6 (Int.toNat x17_2) 5)]) Try.isAgg61 Try.sizeOf61 rfl rfl rfl rfl rfl ?_
                obtain ⟨t46, h_t46, H44⟩ := bnd_some H43; clear H43
                refine l_callG (fun w hF hS => k94 (know_all w) ((show FrS h 1 (elH h v0 6 (Int.toNat x17_2) 3) (t20.Value.Ints.map e_i64) from (g_tag_Value_p2 (g_tag_Entry_p1 (f0.at h_t20)))).mono (hw.now hF)) ((show FrS h 2 (elH h v0 6 (Int.toNat x17_2) 4) (t20.Value.Ratios.map e_tag_Ratio) from (g_tag_Value_p3 (g_tag_Entry_p1 (f0.at h_t20)))).mono (hw.now hF)) ((show FrN h 6 (elH h v0 6 (Int.toNat x17_2) 5) g_tag_Entry t20.Value.Entries from (g_tag_Value_p4 (g_tag_Entry_p1 (f0.at h_t20)))).mono (hw.now hF)) h_t46) Try.call94 rfl rfl rfl ?_
                refine l_val rfl rfl rfl (r_assign (v := .int .i64 t46) rfl) ?_
                refine l_nil ?_
                refine c_close t46 () 0 [] (by exact ⟨rfl, rfl, rfl, rfl, rfl, rfl, trivial⟩) (by decide) rfl (by exact ⟨H44, trivial⟩) (Nat.lt_succ_self _)
              · have H45 := cnd_f hb H38; clear H38
                refine c_seq ?_
                refine c_region ?_
                refine l_val rfl rfl rfl (r_field Try.runUnderlying113 rfl Try.sizeOf61 rfl rfl) ?_
                refine l_loadN (i := 0) (vs := [.int .i64 t20.Value.Kind, str t20.Value.Text, (elH h v0 6 (Int.toNat x17_2) 3), (elH h v0 6 (Int.toNat x17_2) 4), (elH h v0 6 (Int.toNat x17_2) 5)]) Try.isAgg61 Try.sizeOf61 rfl rfl rfl rfl rfl ?_
                obtain ⟨t49, h_t49, H46⟩ := bnd_some H45; clear H45
                refine l_callG (fun w hF hS => k95 (know_all w) ((show FrS h 1 (elH h v0 6 (Int.toNat x17_2) 3) (t20.Value.Ints.map e_i64) from (g_tag_Value_p2 (g_tag_Entry_p1 (f0.at h_t20)))).mono (hw.now hF)) ((show FrS h 2 (elH h v0 6 (Int.toNat x17_2) 4) (t20.Value.Ratios.map e_tag_Ratio) from (g_tag_Value_p3 (g_tag_Entry_p1 (f0.at h_t20)))).mono (hw.now hF)) ((show FrN h 6 (elH h v0 6 (Int.toNat x17_2) 5) g_tag_Entry t20.Value.Entries from (g_tag_Value_p4 (g_tag_Entry_p1 (f0.at h_t20)))).mono (hw.now hF)) h_t49) Try.call95 rfl rfl rfl ?_
                refine l_val rfl rfl rfl (r_assign (v := .int .i64 t49) rfl) ?_
                refine l_nil ?_
                refine c_seq ?_
                refine c_region ?_
                refine l_val rfl rfl rfl (r_move (v := .int .i64 t49) rfl) ?_
                refine l_val rfl rfl rfl (r_eql rfl rfl) ?_
                refine l_nil ?_
                refine c_if (b := (decide (t49 = 0))) rfl (fun hb => ?_) (fun hb => ?_)
                · have H47 := cnd_t hb H46; clear H46
                  refine c_region ?_
                  refine l_val rfl rfl rfl (r_field Try.runUnderlying113 rfl Try.sizeOf61 rfl rfl) ?_
                  refine l_val rfl rfl rfl (r_field Try.runUnderlying61 rfl Try.sizeOf59 rfl rfl) ?_
                  refine l_load1 (i := 0) (v := (elH h v0 6 (Int.toNat x17_2) 5)) Try.isAgg59 rfl rfl rfl rfl rfl ?_
                  refine l_val rfl rfl rfl (r_move (v := .int .i64 a1) rfl) ?_
                  obtain ⟨t56, h_t56, H48⟩ := bnd_some H47; clear H47
                  refine l_val rfl rfl rfl (r_addG rfl rfl h_t56) ?_
                  obtain ⟨t57, h_t57, H49⟩ := bnd_some H48; clear H48
                  refine l_callG (fun w hF hS => ih (know_all w) ((show FrN h 6 (elH h v0 6 (Int.toNat x17_2) 5) g_tag_Entry t20.Value.Entries from (g_tag_Value_p4 (g_tag_Entry_p1 (f0.at h_t20)))).mono (hw.now hF)) h_t57) Try.call48 rfl rfl rfl ?_
                  refine l_val rfl rfl rfl (r_assign (v := .int .i64 t57) rfl) ?_
                  refine l_nil ?_
                  refine c_close t57 () 0 [] (by exact ⟨rfl, rfl, rfl, rfl, rfl, rfl, trivial⟩) (by decide) rfl (by exact ⟨H49, trivial⟩) (Nat.lt_succ_self _)
                · have H50 := cnd_f hb H46; clear H46
                  refine c_skip ?_
                  refine c_close t49 () 0 [] (by exact ⟨rfl, rfl, rfl, rfl, rfl, rfl, trivial⟩) (by decide) rfl (by exact ⟨H50, trivial⟩) (Nat.lt_succ_self _)
            · rintro x7 _ gg H39 _
              replace H39 : tag_checkDir_j3 x17_2 next1 x7 = some r := H39
              refine c_tidyF [(0, v0), (1, .int .i64 a1), (7, .int .i64 x7), (15, v0), (16, .int .i64 (a0.length : Int)), (17, .int .i64 x17_2)] [] rfl rfl ?_
              refine c_seq ?_
              refine c_region ?_
              refine l_val rfl rfl rfl (r_move (v := .int .i64 x7) rfl) ?_
              refine l_val rfl rfl rfl (r_neq rfl rfl) ?_
              refine l_nil ?_
              refine c_if (b := (decide (x7 ≠ 0))) rfl (fun hb => ?_) (fun hb => ?_)
              · have H40 := cnd_t hb H39; clear H39
                refine c_seq ?_
                refine c_region ?_
                refine l_val rfl rfl rfl (r_move (v := .int .i64 x7) rfl) ?_
                refine l_val rfl rfl rfl (r_assign (v := .int .i64 x7) rfl) ?_
                refine l_nil ?_
                refine c_ret ?_
                obtain rfl := Option.some.inj H40
                refine ret1 (v := .int .i64 x7) rfl rfl (fin rfl)
              · have H41 := cnd_f hb H39; clear H39
                refine c_skip ?_
                refine c_region ?_
                obtain ⟨t61, h_t61, H42⟩ := bnd_some H41; clear H41
                refine l_val rfl rfl rfl (r_addG rfl rfl h_t61) ?_
                refine l_val rfl rfl rfl (r_move (v := .int .i64 t61) rfl) ?_
                refine l_nil ?_
                refine c_close t61 () m1 [] (by exact ⟨rfl, rfl, rfl, rfl, rfl, trivial⟩) (by decide) rfl (by exact ⟨(by subst hn1; exact H42), trivial⟩) (Nat.lt_succ_self _)
        · have H60 := cnd_f hb H35; clear H35
          refine c_exit ?_
          refine c_seq ?_
          refine c_region ?_
          refine l_val rfl rfl rfl (r_assign (v := .int .i64 0) rfl) ?_
          refine l_nil ?_
          refine c_ret ?_
          obtain rfl := Option.some.inj H60
          refine ret1 (v := .int .i64 0) rfl rfl (fin rfl)
theorem k48 {a0 : (List T_tag_Entry)} {v0 : Value} {a1 : Int} {r : Int} {w : World} {h : Heap} (hw : Know h w noS) (f0 : FrN h 6 v0 g_tag_Entry a0) (H : tag_checkDir a0 a1 = some r) : Does Try.prog 48 (List.toArray [v0, .int .i64 a1]) w (fun v w' => v = (.int .i64 r) ∧ Grow w w') := by
  obtain ⟨mm, hm⟩ := fix_it (show fix (fun (self : ((List T_tag_Entry) × Int) → Option (Int)) (s : (List T_tag_Entry) × Int) => tag_checkDir_body self s.1 s.2) (a0, a1) = some r from H)
  exact k48_it mm hw f0 hm
theorem k11 {a0 : T_tag_File} {v0_1 : Value} {r : Int} {w : World} {h : Heap} (hw : Know h w noS) (f0_1 : FrN h 1 v0_1 gs_tag_Entry a0.Dirs) (H : tag_Check a0 = some r) : Does Try.prog 11 (List.toArray [.agg #[.bool a0.Big, v0_1]]) w (fun v w' => v = (.int .i64 r) ∧ Grow w w') := by
  refine enter (n := 26) Try.func11 rfl rfl rfl noS [] (Sat.nil _ _) ?_
  refine c_seq ?_
  refine c_region ?_
  refine l_box (cs := [.bool a0.Big, v0_1]) rfl rfl rfl rfl (fun b1 => ?_)
  refine l_val rfl rfl rfl (r_assign (v := .int .i64 0) rfl) ?_
  refine l_nil ?_
  refine c_seq ?_
  refine c_seq ?_
  refine c_region ?_
  refine l_val rfl rfl rfl (r_field Try.runUnderlying24 rfl Try.sizeOf22 rfl rfl) ?_
  refine l_load1 (i := 0) (v := v0_1) Try.isAgg22 rfl rfl rfl rfl rfl ?_
  refine l_val rfl rfl rfl (r_lenFN Try.underlying22 rfl f0_1) ?_
  refine l_val rfl rfl rfl (r_gtr rfl rfl) ?_
  refine l_nil ?_
  refine c_if (b := (decide (20 < (a0.Dirs.length : Int)))) rfl (fun hb => ?_) (fun hb => ?_)
  · have H15 := cnd_t hb H; clear H
    refine c_seq ?_
    refine c_region ?_
    refine l_val rfl rfl rfl (r_assign (v := .int .i64 4) rfl) ?_
    refine l_nil ?_
    refine c_ret ?_
    obtain rfl := Option.some.inj H15
    refine ret1 (v := .int .i64 4) rfl rfl (fin rfl)
  · have H16 := cnd_f hb H; clear H
    refine c_skip ?_
    refine c_meet (r := r) (σ := Unit) (τ := Unit) (fun s => tag_Check_j1 a0) (fun s t => [(1, .pointer (some ⟨b1, 0, none⟩))]) (fun s t => [cellsC b1 [.bool a0.Big, v0_1] 24]) (fun s t => True) ?_ ?_
    · refine c_seq ?_
      refine c_region ?_
      refine l_val rfl rfl rfl (r_field Try.runUnderlying24 rfl Try.sizeOf22 rfl rfl) ?_
      refine l_load1 (i := 0) (v := v0_1) Try.isAgg22 rfl rfl rfl rfl rfl ?_
      refine l_val rfl rfl rfl (r_lenFN Try.underlying22 rfl f0_1) ?_
      refine l_val rfl rfl rfl (r_move (v := .int .i64 0) rfl) ?_
      refine l_nil ?_
      refine c_block ?_
      refine c_fix (σ := Int) (τ := Unit) (fun next2 s => tag_Check_l2 a0 next2 s) (fun s t => [(1, .pointer (some ⟨b1, 0, none⟩)), (11, v0_1), (12, .int .i64 (a0.Dirs.length : Int)), (13, .int .i64 s)]) (fun s t => [cellsC b1 [.bool a0.Big, v0_1] 24]) (fun s t => True) 0 () [0] H16 (by exact trivial) (by exact ⟨rfl, rfl, rfl, rfl, trivial⟩) (by decide) rfl ?_
      rintro x13_2 _ m2 gg H21 _
      clear H16
      replace H21 : tag_Check_l2 a0 (it (fun next2 s => tag_Check_l2 a0 next2 s) m2) x13_2 = some r := H21
      generalize hn2 : it (fun next2 s => tag_Check_l2 a0 next2 s) m2 = next2 at H21
      refine c_tidyF [(1, .pointer (some ⟨b1, 0, none⟩)), (11, v0_1), (12, .int .i64 (a0.Dirs.length : Int)), (13, .int .i64 x13_2)] [cellsC b1 [.bool a0.Big, v0_1] 24] rfl rfl ?_
      refine c_seq ?_
      refine c_region ?_
      refine l_val rfl rfl rfl (r_lss rfl rfl) ?_
      refine l_nil ?_
      refine c_seq ?_
      refine c_if (b := (decide (x13_2 < (a0.Dirs.length : Int)))) rfl (fun hb => ?_) (fun hb => ?_)
      · have H22 := cnd_t hb H21; clear H21
        refine c_skip ?_
        refine c_seq ?_
        refine c_block ?_
        refine c_seq ?_
        refine c_region ?_
        obtain ⟨t15, h_t15, H23⟩ := bnd_some H22; clear H22
        refine l_val rfl rfl rfl (r_indexF Try.underlying22 Try.sizeOf59 rfl rfl f0_1.frs (f0_1.ix h_t15)) ?_
        refine l_read (fun w hF hS => run_loadG1 (f := (elC h v0_1 1)) (i := x13_2) (sz := 1) (j := 0) (v := (elH h v0_1 1 (Int.toNat x13_2) 0)) Try.isAgg59 rfl rfl (f0_1.frs.row (hw.now hF)) (f0_1.ix h_t15) (rg_of (cgs_tag_Entry (f0_1.at h_t15)) rfl)) rfl rfl rfl ?_
        refine l_val rfl rfl rfl (r_assign (v := (elH h v0_1 1 (Int.toNat x13_2) 0)) rfl) ?_
        refine l_nil ?_
        refine c_seq ?_
        refine c_region ?_
        refine l_val rfl rfl rfl (r_move (v := (elH h v0_1 1 (Int.toNat x13_2) 0)) rfl) ?_
        obtain ⟨t18, h_t18, H24⟩ := bnd_some H23; clear H23
        refine l_callG (fun w hF hS => k48 (know_all w) ((show FrN h 6 (elH h v0_1 1 (Int.toNat x13_2) 0) g_tag_Entry t15 from (f0_1.at h_t15)).mono (hw.now hF)) h_t18) Try.call48 rfl rfl rfl ?_
        refine l_val rfl rfl rfl (r_assign (v := .int .i64 t18) rfl) ?_
        refine l_nil ?_
        refine c_seq ?_
        refine c_region ?_
        refine l_val rfl rfl rfl (r_move (v := .int .i64 t18) rfl) ?_
        refine l_val rfl rfl rfl (r_neq rfl rfl) ?_
        refine l_nil ?_
        refine c_if (b := (decide (t18 ≠ 0))) rfl (fun hb => ?_) (fun hb => ?_)
        · have H25 := cnd_t hb H24; clear H24
          refine c_seq ?_
          refine c_region ?_
          refine l_val rfl rfl rfl (r_move (v := .int .i64 t18) rfl) ?_
          refine l_val rfl rfl rfl (r_assign (v := .int .i64 t18) rfl) ?_
          refine l_nil ?_
          refine c_ret ?_
          obtain rfl := Option.some.inj H25
          refine ret1 (v := .int .i64 t18) rfl rfl (fin rfl)
        · have H26 := cnd_f hb H24; clear H24
          refine c_skip ?_
          refine c_region ?_
          obtain ⟨t22, h_t22, H27⟩ := bnd_some H26; clear H26
          refine l_val rfl rfl rfl (r_addG rfl rfl h_t22) ?_
          refine l_val rfl rfl rfl (r_move (v := .int .i64 t22) rfl) ?_
          refine l_nil ?_
          refine c_close t22 () m2 [0] (by exact ⟨rfl, rfl, rfl, rfl, trivial⟩) (by decide) rfl (by exact ⟨(by subst hn2; exact H27), trivial⟩) (Nat.lt_succ_self _)
      · have H28 := cnd_f hb H21; clear H21
        refine c_exit ?_
        refine c_close () () 0 [0] (by exact ⟨rfl, trivial⟩) (by decide) rfl (by exact ⟨H28, trivial⟩) (Nat.lt_succ_self _)
    · rintro _ _ gg H17 _
      replace H17 : tag_Check_j1 a0 = some r := H17
      refine c_tidyF [(1, .pointer (some ⟨b1, 0, none⟩))] [cellsC b1 [.bool a0.Big, v0_1] 24] rfl rfl ?_
      refine c_seq ?_
      refine c_seq ?_
      refine c_region ?_
      refine l_loadN (i := 0) (vs := [.bool a0.Big, v0_1]) Try.isAgg24 Try.sizeOf24 rfl rfl rfl rfl rfl ?_
      obtain ⟨t24, h_t24, H18⟩ := bnd_some H17; clear H17
      refine l_callG (fun w hF hS => k46 (know_all w) (f0_1.mono (hw.now hF)) h_t24) Try.call46 rfl rfl rfl ?_
      refine l_val rfl rfl rfl (r_gtr rfl rfl) ?_
      refine l_nil ?_
      refine c_if (b := (decide (65000 < t24))) rfl (fun hb => ?_) (fun hb => ?_)
      · have H19 := cnd_t hb H18; clear H18
        refine c_seq ?_
        refine c_region ?_
        refine l_val rfl rfl rfl (r_assign (v := .int .i64 4) rfl) ?_
        refine l_nil ?_
        refine c_ret ?_
        obtain rfl := Option.some.inj H19
        refine ret1 (v := .int .i64 4) rfl rfl (fin rfl)
      · have H20 := cnd_f hb H18; clear H18
        refine c_skip ?_
        refine c_seq ?_
        refine c_region ?_
        refine l_val rfl rfl rfl (r_assign (v := .int .i64 0) rfl) ?_
        refine l_nil ?_
        refine c_ret ?_
        obtain rfl := Option.some.inj H20
        refine ret1 (v := .int .i64 0) rfl rfl (fin rfl)
end Go.Proofs.Ytaonhnkojkkmbaa
