/- TagReads, checks: the walks, printed by our generator; each follows its model. Conditions: the model yields a value. -/
import Derived.Test.YtgjpnjncfilgnaaGreatDoorMd
import Derived.Test.YtgjpnjncfilgnaaGreatDoorLx2
import Derived.Test.YtgjpnjncfilgnaaGreatDoorProg
namespace Go.Proofs.YtgjpnjncfilgnaaGreatDoor
open Go Go.Vc Go.Md Go.M Go.Lx
set_option maxRecDepth 100000
set_option maxHeartbeats 4000000
set_option linter.unusedVariables false
theorem mixed : Tryz.prog.follows .mixedOrders = true := by kernel_rfl
abbrev Xc (x : Int) : List Value := [.int .i64 x]
abbrev Qo : Nat → Value
  | 0 => .func (.func 64) #[] #[]
  | 1 => .func (.func 66) #[] #[]
  | _ => .nilFunc
def U5 (m : ((List Int) → Int → Option (Unit))) (w : World) (args : List Value) (post : Value → World → Prop) : Prop :=
  ∃ (a0 : (List Int)) (v0 : Value) (a1 : Int) (r : Unit), FrS (fun b => w.heap[b]?) 1 v0 (a0.map Xc) ∧ args = [v0, .int .i64 a1] ∧ m a0 a1 = some r ∧ post = fun v' w' => v' = (.tuple #[]) ∧ Grow w w'
abbrev Jz (x : T_tag_Ratio) : List Value := [.int .i64 x.Num, .int .i64 x.Den]
abbrev Jj (x : T_tag_Span) : List Value := [.int .i64 x.From, .int .i64 x.To]
abbrev e_u8 (x : Int) : List Value := [.int .u8 x]
inductive g_tag_Entry (h : Qj) : (Nat → Value) → T_tag_Entry → Prop
  | mk {c : Nat → Value} {x : T_tag_Entry} (h0 : c 0 = .int .i64 x.Tag) (h1 : c 1 = .int .i64 x.Value.Kind) (h2 : c 2 = Jv x.Value.Text) (h3 : FrS h 1 (c 3) (x.Value.Ints.map Xc)) (h4 : FrS h 2 (c 4) (x.Value.Ratios.map Jz)) (h5 : FrS h 6 (c 5) ((List.range x.Value.Entries.length).map (elC h (c 5) 6))) (h6 : ∀ (i : Nat) (y : T_tag_Entry), x.Value.Entries[i]? = some y → g_tag_Entry h (Xk h (c 5) 6 i) y) : g_tag_Entry h c x
instance : Mon g_tag_Entry := ⟨fun k c x f => by
  induction f with
  | mk h0 h1 h2 h3 h4 h5 h6 ih => exact .mk h0 h1 h2 (h3.mono k) (h4.mono k) (frsMono h5 k) (fun i y hy => by have e_ := elMonoE h5 k hy; rw [← e_]; exact ih i y hy)⟩
def gs_int (h : Qj) (c : Nat → Value) (x : (List Int)) : Prop := FrS h 1 (c 0) (x.map Xc)
instance : Mon gs_int := ⟨fun k _ _ f => FrS.mono f k⟩
def gs_tag_Ratio (h : Qj) (c : Nat → Value) (x : (List T_tag_Ratio)) : Prop := FrS h 2 (c 0) (x.map Jz)
instance : Mon gs_tag_Ratio := ⟨fun k _ _ f => FrS.mono f k⟩
def gs_tag_Entry (h : Qj) (c : Nat → Value) (x : (List T_tag_Entry)) : Prop := FrN h 6 (c 0) g_tag_Entry x
instance : Mon gs_tag_Entry := ⟨fun k _ _ f => FrN.mono f k⟩
theorem Ur {h : Qj} {c : Nat → Value} {x : (List T_tag_Entry)} (_ : gs_tag_Entry h c x) : (List.range 1).map c = [c 0] := rfl
def g_tag_Value (h : Qj) (c : Nat → Value) (x : T_tag_Value) : Prop := c 0 = .int .i64 x.Kind ∧ c 1 = Jv x.Text ∧ gs_int h (fun j => c (2 + j)) x.Ints ∧ gs_tag_Ratio h (fun j => c (3 + j)) x.Ratios ∧ gs_tag_Entry h (fun j => c (4 + j)) x.Entries
instance : Mon g_tag_Value := ⟨fun k _ _ f => by obtain ⟨h0, h1, h2, h3, h4⟩ := f; exact ⟨h0, h1, Mon.mono k _ _ h2, Mon.mono k _ _ h3, Mon.mono k _ _ h4⟩⟩
theorem cg_tag_Value {h : Qj} {c : Nat → Value} {x : T_tag_Value} (f : g_tag_Value h c x) : (List.range 5).map c = [.int .i64 x.Kind, Jv x.Text, c 2, c 3, c 4] := by
  obtain ⟨h0, h1, h2, h3, h4⟩ := f
  show [c 0, c 1, c 2, c 3, c 4] = _
  simp only [h0, h1]
theorem Q5 {h : Qj} {c : Nat → Value} {x : T_tag_Value} (f : g_tag_Value h c x) : gs_int h (fun j => c (2 + j)) x.Ints := by
  obtain ⟨h0, h1, h2, h3, h4⟩ := f; exact h2
theorem Q4 {h : Qj} {c : Nat → Value} {x : T_tag_Value} (f : g_tag_Value h c x) : gs_tag_Ratio h (fun j => c (3 + j)) x.Ratios := by
  obtain ⟨h0, h1, h2, h3, h4⟩ := f; exact h3
theorem Qv {h : Qj} {c : Nat → Value} {x : T_tag_Value} (f : g_tag_Value h c x) : gs_tag_Entry h (fun j => c (4 + j)) x.Entries := by
  obtain ⟨h0, h1, h2, h3, h4⟩ := f; exact h4
theorem g_tag_Entry_iff {h : Qj} {c : Nat → Value} {x : T_tag_Entry} : g_tag_Entry h c x ↔ (c 0 = .int .i64 x.Tag ∧ g_tag_Value h (fun j => c (1 + j)) x.Value) :=
  ⟨fun f => by cases f with | mk h0 h1 h2 h3 h4 h5 h6 => exact ⟨h0, ⟨h1, h2, h3, h4, ⟨h5, h6⟩⟩⟩, fun ⟨h0, ⟨h1, h2, h3, h4, ⟨h5, h6⟩⟩⟩ => .mk h0 h1 h2 h3 h4 h5 h6⟩
theorem Vd {h : Qj} {c : Nat → Value} {x : T_tag_Entry} (f : g_tag_Entry h c x) : (List.range 6).map c = [.int .i64 x.Tag, .int .i64 x.Value.Kind, Jv x.Value.Text, c 3, c 4, c 5] := by
  obtain ⟨h0, h1⟩ := g_tag_Entry_iff.1 f
  have hc1 := cg_tag_Value h1
  simp only [List.range, List.range.loop, List.map_cons, List.map_nil, Nat.reduceAdd, List.cons.injEq, and_true] at hc1
  show [c 0, c 1, c 2, c 3, c 4, c 5] = _
  simp only [h0, hc1]
theorem Jr {h : Qj} {c : Nat → Value} {x : T_tag_Entry} (f : g_tag_Entry h c x) : g_tag_Value h (fun j => c (1 + j)) x.Value := by
  obtain ⟨h0, h1⟩ := g_tag_Entry_iff.1 f; exact h1
def Wd (m : ((List T_tag_Entry) → (List T_tag_Entry) → Option (Bool))) (w : World) (args : List Value) (post : Value → World → Prop) : Prop :=
  ∃ (a0 : (List T_tag_Entry)) (v0 : Value) (a1 : (List T_tag_Entry)) (v1 : Value) (r : Bool), FrN (fun b => w.heap[b]?) 6 v0 g_tag_Entry a0 ∧ FrN (fun b => w.heap[b]?) 6 v1 g_tag_Entry a1 ∧ args = [v0, v1] ∧ m a0 a1 = some r ∧ post = fun v' w' => v' = (.bool r) ∧ Grow w w'
def Vn (m : (T_tag_Entry → T_tag_Entry → Option (Bool))) (w : World) (args : List Value) (post : Value → World → Prop) : Prop :=
  ∃ (a0 : T_tag_Entry) (v0_1_2 : Value) (v0_1_3 : Value) (v0_1_4 : Value) (a1 : T_tag_Entry) (v1_1_2 : Value) (v1_1_3 : Value) (v1_1_4 : Value) (r : Bool), FrS (fun b => w.heap[b]?) 1 v0_1_2 (a0.Value.Ints.map Xc) ∧ FrS (fun b => w.heap[b]?) 2 v0_1_3 (a0.Value.Ratios.map Jz) ∧ FrN (fun b => w.heap[b]?) 6 v0_1_4 g_tag_Entry a0.Value.Entries ∧ FrS (fun b => w.heap[b]?) 1 v1_1_2 (a1.Value.Ints.map Xc) ∧ FrS (fun b => w.heap[b]?) 2 v1_1_3 (a1.Value.Ratios.map Jz) ∧ FrN (fun b => w.heap[b]?) 6 v1_1_4 g_tag_Entry a1.Value.Entries ∧ args = [.agg #[.int .i64 a0.Tag, .int .i64 a0.Value.Kind, Jv a0.Value.Text, v0_1_2, v0_1_3, v0_1_4], .agg #[.int .i64 a1.Tag, .int .i64 a1.Value.Kind, Jv a1.Value.Text, v1_1_2, v1_1_3, v1_1_4]] ∧ m a0 a1 = some r ∧ post = fun v' w' => v' = (.bool r) ∧ Grow w w'
theorem run_eqT74 (d : Nat) (w : World) (a0 b0 : Int) (a1 b1 : Int) : (Op.equalIn (d + 2) 74 (.agg #[.int .i64 a0, .int .i64 a1]) (.agg #[.int .i64 b0, .int .i64 b1])).run Tryz.prog w = .ok (decide (a0 = b0 ∧ a1 = b1)) w := by
  rw [run_equalIn_struct w (d + 1) 74 _ _ (by simp only [Program.fieldsOf, Tryz.underlying74]) Tryz.stoodInHeld74]
  simp only [Program.fieldsOf, Tryz.underlying74, Op.eqFields]
  simp [part, run_equalIn_int, run_equalIn_strL, run_equalIn_bool', Tryz.underlying3]
  repeat' split
  all_goals simp_all
theorem run_eq_tag_Ratio (w : World) (x y : T_tag_Ratio) : (Op.equalIn Op.maxDepth 74 (.agg #[.int .i64 x.Num, .int .i64 x.Den]) (.agg #[.int .i64 y.Num, .int .i64 y.Den])).run Tryz.prog w = .ok (Ja1 x y) w :=
  run_eqT74 9998 w _ _ _ _
theorem run_eqT56 (d : Nat) (w : World) (a0 b0 : Int) (a1 b1 : Int) : (Op.equalIn (d + 2) 56 (.agg #[.int .i64 a0, .int .i64 a1]) (.agg #[.int .i64 b0, .int .i64 b1])).run Tryz.prog w = .ok (decide (a0 = b0 ∧ a1 = b1)) w := by
  rw [run_equalIn_struct w (d + 1) 56 _ _ (by simp only [Program.fieldsOf, Tryz.underlying56]) Tryz.stoodInHeld56]
  simp only [Program.fieldsOf, Tryz.underlying56, Op.eqFields]
  simp [part, run_equalIn_int, run_equalIn_strL, run_equalIn_bool', Tryz.underlying3]
  repeat' split
  all_goals simp_all
theorem run_eq_tag_Span (w : World) (x y : T_tag_Span) : (Op.equalIn Op.maxDepth 56 (.agg #[.int .i64 x.From, .int .i64 x.To]) (.agg #[.int .i64 y.From, .int .i64 y.To])).run Tryz.prog w = .ok (eq_tag_Span x y) w :=
  run_eqT56 9998 w _ _ _ _
theorem k64 {a0 : (List Int)} {v0 : Value} {a1 : Int} {r : Unit} {w : World} {h : Qj} (hw : Know h w Vi) (f0 : FrS h 1 v0 (a0.map Xc)) (H : tag_Read_1 a0 a1 = some r) : Does Tryz.prog 64 (List.toArray [v0, .int .i64 a1]) w (fun v w' => v = (.tuple #[]) ∧ Grow w w') := by
 refine enter (n := 4) Tryz.func64 rfl rfl rfl Vi [] (Sat.nil _ _) ?_
 refine Jt ?_
 cases H
 refine ret0n rfl (Yh rfl)
theorem k66 {a0 : (List Int)} {v0 : Value} {a1 : Int} {r : Unit} {w : World} {h : Qj} (hw : Know h w Vi) (f0 : FrS h 1 v0 (a0.map Xc)) (H : tag_Used_1 a0 a1 = some r) : Does Tryz.prog 66 (List.toArray [v0, .int .i64 a1]) w (fun v w' => v = (.tuple #[]) ∧ Grow w w') := by
 refine enter (n := 4) Tryz.func66 rfl rfl rfl Vi [] (Sat.nil _ _) ?_
 refine Jt ?_
 cases H
 refine ret0n rfl (Yh rfl)
theorem hft114 (k : Nat) : FnV Tryz.prog (Qo k) (mft114 k) (fun g => U5 g) :=
  match k with
  | 0 => (show FnV Tryz.prog (Qo 0) (mft114 0) _ from (FnV.mk (g := tag_Read_1) (R := fun g => U5 g) (fun h_ => (FnH.mk ⟨64, #[], #[], rfl, Tryz.call64, fun args2 post2 w2 hk2 hR2 => by obtain ⟨a0_, v0_, a1_, r_, fa0_, rfl, H_, rfl⟩ := hR2; exact k64 (J7 w2) fa0_ H_⟩))))
  | 1 => (show FnV Tryz.prog (Qo 1) (mft114 1) _ from (FnV.mk (g := tag_Used_1) (R := fun g => U5 g) (fun h_ => (FnH.mk ⟨66, #[], #[], rfl, Tryz.call66, fun args2 post2 w2 hk2 hR2 => by obtain ⟨a0_, v0_, a1_, r_, fa0_, rfl, H_, rfl⟩ := hR2; exact k66 (J7 w2) fa0_ H_⟩))))
  | _ + 2 => FnV.nil
theorem k42 {a0 : Int} {a1 : Int} {a2 : Int} {r : Bool} (H : Uv a0 a1 a2 = some r) : Ret Tryz.prog 42 [.int .i64 a0, .int .i64 a1, .int .i64 a2] (.bool r) := by
 refine Wa (n := 15) Tryz.func42 rfl rfl rfl (fun wd => ?_)
 refine Jf ?_
 refine Jb ?_
 refine Ja rfl rfl rfl (Jc (v := .bool false) rfl) ?_
 refine Jg ?_
 refine Jf ?_
 refine Jb ?_
 refine Ja rfl rfl rfl (Je (v := .int .i64 a0) rfl) ?_
 refine Ja rfl rfl rfl (Je (v := .int .i64 a1) rfl) ?_
 refine Ja rfl rfl rfl (Zc rfl rfl) ?_
 refine Ja rfl rfl rfl (Je (v := .bool (decide (a0 < a1))) rfl) ?_
 refine split (fun hb => ?_) (fun hb => ?_)
 ·have H3 := Jp hb H; clear H
  refine Ji rfl rfl rfl ?_
  refine Ji rfl rfl rfl ?_
  refine Ji rfl rfl rfl ?_
  refine Ja rfl rfl rfl (J9 (v := .bool true) rfl rfl) ?_
  refine Ja rfl rfl rfl (Jc (v := .bool true) rfl) ?_
  refine Jg ?_
  refine Jx ?_
  obtain rfl := Option.some.inj H3
  refine Qn (v := .bool true) rfl rfl (Yh rfl)
 ·have H4 := Jq hb H; clear H
  refine Ja rfl rfl rfl (Je (v := .int .i64 a0) rfl) ?_
  refine Ja rfl rfl rfl (Je (v := .int .i64 a2) rfl) ?_
  refine Ja rfl rfl rfl (Zm rfl rfl) ?_
  refine Ja rfl rfl rfl (Qf (v := .bool (decide (a2 < a0))) rfl rfl) ?_
  refine Ja rfl rfl rfl (Jc (v := .bool (decide (a2 < a0))) rfl) ?_
  refine Jg ?_
  refine Jx ?_
  obtain rfl := Option.some.inj H4
  refine Qn (v := .bool (decide (a2 < a0))) rfl rfl (Yh rfl)
theorem k139 {a0 : Int} {r : Int} (H : Z9 a0 = some r) : Ret Tryz.prog 139 [.int .i64 a0] (.int .i64 r) := by
 refine Wa (n := 16) Tryz.func139 rfl rfl rfl (fun wd => ?_)
 refine Jf ?_
 refine Jb ?_
 refine Ja rfl rfl rfl (Jc (v := .int .i64 0) rfl) ?_
 refine Jg ?_
 refine Jf ?_
 refine Jf ?_
 refine Jb ?_
 refine Ja rfl rfl rfl (Je (v := .int .i64 a0) rfl) ?_
 refine Jg ?_
 refine J8 ?_
 refine Qz (r := r) (σ := Bool) (τ := Unit) (fun s => W1 a0 s) (fun s t => [(3, .int .i64 a0), (4, .bool s)]) (fun s t => []) (fun s t => True) ?_ ?_
 ·refine Jf ?_
  refine Jb ?_
  refine Ja rfl rfl rfl (Q0 rfl rfl) ?_
  refine Ja rfl rfl rfl (Jc (v := .bool (decide (a0 = 1))) rfl) ?_
  refine Jg ?_
  refine Qd (b := (decide (a0 = 1))) rfl (fun hb => ?_) (fun hb => ?_)
  ·have H37 := Jp hb H; clear H
   refine Jt ?_
   refine Jn (decide (a0 = 1)) () 0 [] (by exact ⟨rfl, rfl, trivial⟩) (by decide) (by kernel_rfl) (by exact ⟨H37, trivial⟩) (Nat.lt_succ_self _)
  ·have H38 := Jq hb H; clear H
   refine Jf ?_
   refine Jb ?_
   refine Ja rfl rfl rfl (Q0 rfl rfl) ?_
   refine Ja rfl rfl rfl (Jc (v := .bool (decide (a0 = 2))) rfl) ?_
   refine Jg ?_
   refine Qd (b := (decide (a0 = 2))) rfl (fun hb => ?_) (fun hb => ?_)
   ·have H39 := Jp hb H38; clear H38
    refine Jt ?_
    refine Jn (decide (a0 = 2)) () 0 [] (by exact ⟨rfl, rfl, trivial⟩) (by decide) (by kernel_rfl) (by exact ⟨H39, trivial⟩) (Nat.lt_succ_self _)
   ·have H40 := Jq hb H38; clear H38
    refine Jf ?_
    refine Jb ?_
    refine Ja rfl rfl rfl (Q0 rfl rfl) ?_
    refine Ja rfl rfl rfl (Jc (v := .bool (decide (a0 = 7))) rfl) ?_
    refine Jg ?_
    refine Qd (b := (decide (a0 = 7))) rfl (fun hb => ?_) (fun hb => ?_)
    ·have H41 := Jp hb H40; clear H40
     refine Jt ?_
     refine Jn (decide (a0 = 7)) () 0 [] (by exact ⟨rfl, rfl, trivial⟩) (by decide) (by kernel_rfl) (by exact ⟨H41, trivial⟩) (Nat.lt_succ_self _)
    ·have H42 := Jq hb H40; clear H40
     refine Jb ?_
     refine Ja rfl rfl rfl (Q0 rfl rfl) ?_
     refine Ja rfl rfl rfl (Jc (v := .bool (decide (a0 = 13))) rfl) ?_
     refine Jg ?_
     refine Jn (decide (a0 = 13)) () 0 [] (by exact ⟨rfl, rfl, trivial⟩) (by decide) (by kernel_rfl) (by exact ⟨H42, trivial⟩) (Nat.lt_succ_self _)
 ·rintro x4 _ gg H22 _
  replace H22 : W1 a0 x4 = some r := H22
  try dsimp only
  refine Qd (b := x4) rfl (fun hb => ?_) (fun hb => ?_)
  ·have H23 := Jp hb H22; clear H22
   refine Jf ?_
   refine Jb ?_
   refine Ja rfl rfl rfl (Jc (v := .int .i64 1) rfl) ?_
   refine Jg ?_
   refine Jx ?_
   obtain rfl := Option.some.inj H23
   refine Qn (v := .int .i64 1) rfl rfl (Yh rfl)
  ·have H24 := Jq hb H22; clear H22
   refine Jf ?_
   refine Jb ?_
   refine Ja rfl rfl rfl (Q0 rfl rfl) ?_
   refine Ja rfl rfl rfl (Jc (v := .bool (decide (a0 = 3))) rfl) ?_
   refine Jg ?_
   refine Qd (b := (decide (a0 = 3))) rfl (fun hb => ?_) (fun hb => ?_)
   ·have H25 := Jp hb H24; clear H24
    refine Jf ?_
    refine Jb ?_
    refine Ja rfl rfl rfl (Jc (v := .int .i64 2) rfl) ?_
    refine Jg ?_
    refine Jx ?_
    obtain rfl := Option.some.inj H25
    refine Qn (v := .int .i64 2) rfl rfl (Yh rfl)
   ·have H26 := Jq hb H24; clear H24
    refine Jf ?_
    refine Jf ?_
    refine Jb ?_
    refine Ja rfl rfl rfl (Q0 rfl rfl) ?_
    refine Ja rfl rfl rfl (Jc (v := .bool (decide (a0 = 4))) rfl) ?_
    refine Jg ?_
    refine Qd (b := (decide (a0 = 4))) rfl (fun hb => ?_) (fun hb => ?_)
    ·have H27 := Jp hb H26; clear H26
     refine Jt ?_
     refine Qd (b := (decide (a0 = 4))) rfl (fun hb => ?_) (fun hb => ?_)
     ·have H28 := Jp hb H27; clear H27
      refine Jf ?_
      refine Jb ?_
      refine Ja rfl rfl rfl (Jc (v := .int .i64 4) rfl) ?_
      refine Jg ?_
      refine Jx ?_
      obtain rfl := Option.some.inj H28
      refine Qn (v := .int .i64 4) rfl rfl (Yh rfl)
     ·have H29 := Jq hb H27; clear H27
      refine Jf ?_
      refine Jb ?_
      refine Ja rfl rfl rfl (Q0 rfl rfl) ?_
      refine Ja rfl rfl rfl (Jc (v := .bool (decide (a0 = 5))) rfl) ?_
      refine Jg ?_
      refine Qd (b := (decide (a0 = 5))) rfl (fun hb => ?_) (fun hb => ?_)
      ·have H30 := Jp hb H29; clear H29
       refine Jf ?_
       refine Jb ?_
       refine Ja rfl rfl rfl (Jc (v := .int .i64 8) rfl) ?_
       refine Jg ?_
       refine Jx ?_
       obtain rfl := Option.some.inj H30
       refine Qn (v := .int .i64 8) rfl rfl (Yh rfl)
      ·have H31 := Jq hb H29; clear H29
       refine Jt ?_
       refine Jf ?_
       refine Jb ?_
       refine Ja rfl rfl rfl (Jc (v := .int .i64 0) rfl) ?_
       refine Jg ?_
       refine Jx ?_
       obtain rfl := Option.some.inj H31
       refine Qn (v := .int .i64 0) rfl rfl (Yh rfl)
    ·have H32 := Jq hb H26; clear H26
     refine Jb ?_
     refine Ja rfl rfl rfl (Q0 rfl rfl) ?_
     refine Ja rfl rfl rfl (Jc (v := .bool (decide (a0 = 9))) rfl) ?_
     refine Jg ?_
     refine Qd (b := (decide (a0 = 9))) rfl (fun hb => ?_) (fun hb => ?_)
     ·have H33 := Jp hb H32; clear H32
      refine Jf ?_
      refine Jb ?_
      refine Ja rfl rfl rfl (Jc (v := .int .i64 4) rfl) ?_
      refine Jg ?_
      refine Jx ?_
      obtain rfl := Option.some.inj H33
      refine Qn (v := .int .i64 4) rfl rfl (Yh rfl)
     ·have H34 := Jq hb H32; clear H32
      refine Jf ?_
      refine Jb ?_
      refine Ja rfl rfl rfl (Q0 rfl rfl) ?_
      refine Ja rfl rfl rfl (Jc (v := .bool (decide (a0 = 5))) rfl) ?_
      refine Jg ?_
      refine Qd (b := (decide (a0 = 5))) rfl (fun hb => ?_) (fun hb => ?_)
      ·have H35 := Jp hb H34; clear H34
       refine Jf ?_
       refine Jb ?_
       refine Ja rfl rfl rfl (Jc (v := .int .i64 8) rfl) ?_
       refine Jg ?_
       refine Jx ?_
       obtain rfl := Option.some.inj H35
       refine Qn (v := .int .i64 8) rfl rfl (Yh rfl)
      ·have H36 := Jq hb H34; clear H34
       refine Jt ?_
       refine Jf ?_
       refine Jb ?_
       refine Ja rfl rfl rfl (Jc (v := .int .i64 0) rfl) ?_
       refine Jg ?_
       refine Jx ?_
       obtain rfl := Option.some.inj H36
       refine Qn (v := .int .i64 0) rfl rfl (Yh rfl)
theorem k165 {a0 : Int} {r : Bool} (H : tag_isInts a0 = some r) : Ret Tryz.prog 165 [.int .i64 a0] (.bool r) := by
 refine Wa (n := 17) Tryz.func165 rfl rfl rfl (fun wd => ?_)
 refine Jf ?_
 refine Jb ?_
 refine Ja rfl rfl rfl (Jc (v := .bool false) rfl) ?_
 refine Jg ?_
 refine Jf ?_
 refine Jb ?_
 refine Ja rfl rfl rfl (Je (v := .int .i64 a0) rfl) ?_
 refine Ja rfl rfl rfl (Q0 rfl rfl) ?_
 refine Ja rfl rfl rfl (Je (v := .bool (decide (a0 = 1))) rfl) ?_
 refine split (fun hb => ?_) (fun hb => ?_)
 ·have H7 := Jp hb H; clear H
  refine Ji rfl rfl rfl ?_
  refine Ji rfl rfl rfl ?_
  refine Ja rfl rfl rfl (J9 (v := .bool true) rfl rfl) ?_
  refine Ja rfl rfl rfl (Je (v := .bool true) rfl) ?_
  refine Ji rfl rfl rfl ?_
  refine Ji rfl rfl rfl ?_
  refine Ja rfl rfl rfl (J9 (v := .bool true) rfl rfl) ?_
  refine Ja rfl rfl rfl (Je (v := .bool true) rfl) ?_
  refine Ji rfl rfl rfl ?_
  refine Ji rfl rfl rfl ?_
  refine Ja rfl rfl rfl (J9 (v := .bool true) rfl rfl) ?_
  refine Ja rfl rfl rfl (Jc (v := .bool true) rfl) ?_
  refine Jg ?_
  refine Jx ?_
  obtain rfl := Option.some.inj H7
  refine Qn (v := .bool true) rfl rfl (Yh rfl)
 ·have H8 := Jq hb H; clear H
  refine Ja rfl rfl rfl (Je (v := .int .i64 a0) rfl) ?_
  refine Ja rfl rfl rfl (Q0 rfl rfl) ?_
  refine Ja rfl rfl rfl (Qf (v := .bool (decide (a0 = 3))) rfl rfl) ?_
  refine Ja rfl rfl rfl (Je (v := .bool (decide (a0 = 3))) rfl) ?_
  refine split (fun hb => ?_) (fun hb => ?_)
  ·have H9 := Jp hb H8; clear H8
   refine Ji rfl rfl rfl ?_
   refine Ji rfl rfl rfl ?_
   refine Ja rfl rfl rfl (J9 (v := .bool true) rfl rfl) ?_
   refine Ja rfl rfl rfl (Je (v := .bool true) rfl) ?_
   refine Ji rfl rfl rfl ?_
   refine Ji rfl rfl rfl ?_
   refine Ja rfl rfl rfl (J9 (v := .bool true) rfl rfl) ?_
   refine Ja rfl rfl rfl (Jc (v := .bool true) rfl) ?_
   refine Jg ?_
   refine Jx ?_
   obtain rfl := Option.some.inj H9
   refine Qn (v := .bool true) rfl rfl (Yh rfl)
  ·have H10 := Jq hb H8; clear H8
   refine Ja rfl rfl rfl (Je (v := .int .i64 a0) rfl) ?_
   refine Ja rfl rfl rfl (Q0 rfl rfl) ?_
   refine Ja rfl rfl rfl (Qf (v := .bool (decide (a0 = 4))) rfl rfl) ?_
   refine Ja rfl rfl rfl (Je (v := .bool (decide (a0 = 4))) rfl) ?_
   refine split (fun hb => ?_) (fun hb => ?_)
   ·have H11 := Jp hb H10; clear H10
    refine Ji rfl rfl rfl ?_
    refine Ji rfl rfl rfl ?_
    refine Ja rfl rfl rfl (J9 (v := .bool true) rfl rfl) ?_
    refine Ja rfl rfl rfl (Jc (v := .bool true) rfl) ?_
    refine Jg ?_
    refine Jx ?_
    obtain rfl := Option.some.inj H11
    refine Qn (v := .bool true) rfl rfl (Yh rfl)
   ·have H12 := Jq hb H10; clear H10
    refine Ja rfl rfl rfl (Je (v := .int .i64 a0) rfl) ?_
    refine Ja rfl rfl rfl (Q0 rfl rfl) ?_
    refine Ja rfl rfl rfl (Qf (v := .bool (decide (a0 = 9))) rfl rfl) ?_
    refine Ja rfl rfl rfl (Jc (v := .bool (decide (a0 = 9))) rfl) ?_
    refine Jg ?_
    refine Jx ?_
    obtain rfl := Option.some.inj H12
    refine Qn (v := .bool (decide (a0 = 9))) rfl rfl (Yh rfl)
theorem k166 {a0 : Int} {r : Bool} (H : tag_isText a0 = some r) : Ret Tryz.prog 166 [.int .i64 a0] (.bool r) := by
 refine Wa (n := 9) Tryz.func166 rfl rfl rfl (fun wd => ?_)
 refine Jf ?_
 refine Jb ?_
 refine Ja rfl rfl rfl (Jc (v := .bool false) rfl) ?_
 refine Jg ?_
 refine Jf ?_
 refine Jb ?_
 refine Ja rfl rfl rfl (Je (v := .int .i64 a0) rfl) ?_
 refine Ja rfl rfl rfl (Q0 rfl rfl) ?_
 refine Ja rfl rfl rfl (Je (v := .bool (decide (a0 = 2))) rfl) ?_
 refine split (fun hb => ?_) (fun hb => ?_)
 ·have H3 := Jp hb H; clear H
  refine Ji rfl rfl rfl ?_
  refine Ji rfl rfl rfl ?_
  refine Ja rfl rfl rfl (J9 (v := .bool true) rfl rfl) ?_
  refine Ja rfl rfl rfl (Jc (v := .bool true) rfl) ?_
  refine Jg ?_
  refine Jx ?_
  obtain rfl := Option.some.inj H3
  refine Qn (v := .bool true) rfl rfl (Yh rfl)
 ·have H4 := Jq hb H; clear H
  refine Ja rfl rfl rfl (Je (v := .int .i64 a0) rfl) ?_
  refine Ja rfl rfl rfl (Q0 rfl rfl) ?_
  refine Ja rfl rfl rfl (Qf (v := .bool (decide (a0 = 7))) rfl rfl) ?_
  refine Ja rfl rfl rfl (Jc (v := .bool (decide (a0 = 7))) rfl) ?_
  refine Jg ?_
  refine Jx ?_
  obtain rfl := Option.some.inj H4
  refine Qn (v := .bool (decide (a0 = 7))) rfl rfl (Yh rfl)
theorem k106 {a0 : T_tag_Value} {v0_2 : Value} {v0_3 : Value} {v0_4 : Value} {r : Int} {w : World} {h : Qj} (hw : Know h w Vi) (f0_2 : FrS h 1 v0_2 (a0.Ints.map Xc)) (f0_3 : FrS h 2 v0_3 (a0.Ratios.map Jz)) (f0_4 : FrN h 6 v0_4 g_tag_Entry a0.Entries) (H : Uj a0 = some r) : Does Tryz.prog 106 (List.toArray [.agg #[.int .i64 a0.Kind, Jv a0.Text, v0_2, v0_3, v0_4]]) w (fun v w' => v = (.int .i64 r) ∧ Grow w w') := by
 refine enter (n := 46) Tryz.func106 rfl rfl rfl Vi [] (Sat.nil _ _) ?_
 refine Jf ?_
 refine Jb ?_
 refine U4 (cs := [.int .i64 a0.Kind, Jv a0.Text, v0_2, v0_3, v0_4]) rfl rfl rfl rfl (fun b1 => ?_)
 refine Ja rfl rfl rfl (Jc (v := .int .i64 0) rfl) ?_
 refine Jg ?_
 refine Jf ?_
 refine J8 ?_
 refine Jf ?_
 refine Jb ?_
 refine Ja rfl rfl rfl (Jk Tryz.runUnderlying38 rfl Tryz.sizeOf3 rfl rfl) ?_
 refine Js (i := 0) (v := .int .i64 a0.Kind) Tryz.isAgg3 rfl rfl rfl rfl rfl ?_
 obtain ⟨t6, h_t6, H31⟩ := Jh H; clear H
 refine Wb (k139 h_t6) Tryz.call139 rfl rfl rfl ?_
 refine Ja rfl rfl rfl (Q0 rfl rfl) ?_
 refine Ja rfl rfl rfl (Jc (v := .bool (decide (t6 = 0))) rfl) ?_
 refine Jg ?_
 refine Qd (b := (decide (t6 = 0))) rfl (fun hb => ?_) (fun hb => ?_)
 ·have H32 := Jp hb H31; clear H31
  refine Jf ?_
  refine Jb ?_
  refine Ja rfl rfl rfl (Jc (v := .int .i64 10) rfl) ?_
  refine Jg ?_
  refine Jx ?_
  obtain rfl := Option.some.inj H32
  refine Qn (v := .int .i64 10) rfl rfl (Yh rfl)
 ·have H33 := Jq hb H31; clear H31
  refine Jf ?_
  refine Qz (r := r) (σ := Bool) (τ := Unit) (fun s => Z7 a0 s) (fun s t => [(1, .pointer (some ⟨b1, 0, none⟩)), (8, .bool s)]) (fun s t => [Jo b1 [.int .i64 a0.Kind, Jv a0.Text, v0_2, v0_3, v0_4] 38]) (fun s t => True) ?_ ?_
  ·refine Jb ?_
   refine Ja rfl rfl rfl (Jk Tryz.runUnderlying38 rfl Tryz.sizeOf3 rfl rfl) ?_
   refine Js (i := 0) (v := .int .i64 a0.Kind) Tryz.isAgg3 rfl rfl rfl rfl rfl ?_
   obtain ⟨t11, h_t11, H58⟩ := Jh H33; clear H33
   refine Wb (k165 h_t11) Tryz.call165 rfl rfl rfl ?_
   refine Ja rfl rfl rfl (r_not rfl) ?_
   refine Ja rfl rfl rfl (Je (v := .bool (!t11)) rfl) ?_
   refine split (fun hb => ?_) (fun hb => ?_)
   ·have H59 := Jp hb H58; clear H58
    refine Ja rfl rfl rfl (Jk Tryz.runUnderlying38 rfl Tryz.sizeOf30 rfl rfl) ?_
    refine Js (i := 0) (v := v0_2) Tryz.isAgg30 rfl rfl rfl rfl rfl ?_
    refine Ja rfl rfl rfl (Vs Tryz.underlying30 rfl f0_2 rfl) ?_
    refine Ja rfl rfl rfl (Zm rfl rfl) ?_
    refine Ja rfl rfl rfl (J9 (v := .bool (decide (0 < (a0.Ints.length : Int)))) rfl rfl) ?_
    refine Ja rfl rfl rfl (Jc (v := .bool (decide (0 < (a0.Ints.length : Int)))) rfl) ?_
    refine Jg ?_
    refine Jn (decide (0 < (a0.Ints.length : Int))) () 0 [0] (by exact ⟨rfl, rfl, trivial⟩) (by decide) (by kernel_rfl) (by exact ⟨H59, trivial⟩) (Nat.lt_succ_self _)
   ·have H60 := Jq hb H58; clear H58
    refine Ji rfl rfl rfl ?_
    refine Ji rfl rfl rfl ?_
    refine Ji rfl rfl rfl ?_
    refine Ji rfl rfl rfl ?_
    refine Ja rfl rfl rfl (Qf (v := .bool false) rfl rfl) ?_
    refine Ja rfl rfl rfl (Jc (v := .bool false) rfl) ?_
    refine Jg ?_
    refine Jn false () 0 [0] (by exact ⟨rfl, rfl, trivial⟩) (by decide) (by kernel_rfl) (by exact ⟨H60, trivial⟩) (Nat.lt_succ_self _)
  ·rintro x8 _ gg H34 _
   replace H34 : Z7 a0 x8 = some r := H34
   try dsimp only
   refine Qd (b := x8) rfl (fun hb => ?_) (fun hb => ?_)
   ·have H35 := Jp hb H34; clear H34
    refine Jt ?_
    refine Qd (b := x8) rfl (fun hb => ?_) (fun hb => ?_)
    ·have H36 := Jp hb H35; clear H35
     refine Jf ?_
     refine Jb ?_
     refine Ja rfl rfl rfl (Jc (v := .int .i64 1) rfl) ?_
     refine Jg ?_
     refine Jx ?_
     obtain rfl := Option.some.inj H36
     refine Qn (v := .int .i64 1) rfl rfl (Yh rfl)
    ·have H37 := Jq hb H35; clear H35
     refine Jt ?_
     refine Jf ?_
     refine Jb ?_
     refine Ja rfl rfl rfl (Jc (v := .int .i64 0) rfl) ?_
     refine Jg ?_
     refine Jx ?_
     obtain rfl := Option.some.inj H37
     refine Qn (v := .int .i64 0) rfl rfl (Yh rfl)
   ·have H38 := Jq hb H34; clear H34
    refine Qz (r := r) (σ := Bool) (τ := Unit) (fun s => Z5 a0 s) (fun s t => [(1, .pointer (some ⟨b1, 0, none⟩)), (8, .bool s)]) (fun s t => [Jo b1 [.int .i64 a0.Kind, Jv a0.Text, v0_2, v0_3, v0_4] 38]) (fun s t => True) ?_ ?_
    ·refine Jb ?_
     refine Ja rfl rfl rfl (Jk Tryz.runUnderlying38 rfl Tryz.sizeOf3 rfl rfl) ?_
     refine Js (i := 0) (v := .int .i64 a0.Kind) Tryz.isAgg3 rfl rfl rfl rfl rfl ?_
     obtain ⟨t21, h_t21, H55⟩ := Jh H38; clear H38
     refine Wb (k166 h_t21) Tryz.call166 rfl rfl rfl ?_
     refine Ja rfl rfl rfl (r_not rfl) ?_
     refine Ja rfl rfl rfl (Je (v := .bool (!t21)) rfl) ?_
     refine split (fun hb => ?_) (fun hb => ?_)
     ·have H56 := Jp hb H55; clear H55
      refine Ja rfl rfl rfl (Jk Tryz.runUnderlying38 rfl Tryz.sizeOf9 rfl rfl) ?_
      refine Js (i := 0) (v := Jv a0.Text) Tryz.isAgg9 rfl rfl rfl rfl rfl ?_
      refine Ja rfl rfl rfl (r_neqT rfl rfl) ?_
      refine Ja rfl rfl rfl (J9 (v := .bool (decide (a0.Text ≠ []))) rfl rfl) ?_
      refine Ja rfl rfl rfl (Jc (v := .bool (decide (a0.Text ≠ []))) rfl) ?_
      refine Jg ?_
      refine Jn (decide (a0.Text ≠ [])) () 0 [0] (by exact ⟨rfl, rfl, trivial⟩) (by decide) (by kernel_rfl) (by exact ⟨H56, trivial⟩) (Nat.lt_succ_self _)
     ·have H57 := Jq hb H55; clear H55
      refine Ji rfl rfl rfl ?_
      refine Ji rfl rfl rfl ?_
      refine Ji rfl rfl rfl ?_
      refine Ja rfl rfl rfl (Qf (v := .bool false) rfl rfl) ?_
      refine Ja rfl rfl rfl (Jc (v := .bool false) rfl) ?_
      refine Jg ?_
      refine Jn false () 0 [0] (by exact ⟨rfl, rfl, trivial⟩) (by decide) (by kernel_rfl) (by exact ⟨H57, trivial⟩) (Nat.lt_succ_self _)
    ·rintro x8_2 _ gg H39 _
     replace H39 : Z5 a0 x8_2 = some r := H39
     try dsimp only
     refine Qd (b := x8_2) rfl (fun hb => ?_) (fun hb => ?_)
     ·have H40 := Jp hb H39; clear H39
      refine Jt ?_
      refine Qd (b := x8_2) rfl (fun hb => ?_) (fun hb => ?_)
      ·have H41 := Jp hb H40; clear H40
       refine Jf ?_
       refine Jb ?_
       refine Ja rfl rfl rfl (Jc (v := .int .i64 1) rfl) ?_
       refine Jg ?_
       refine Jx ?_
       obtain rfl := Option.some.inj H41
       refine Qn (v := .int .i64 1) rfl rfl (Yh rfl)
      ·have H42 := Jq hb H40; clear H40
       refine Jt ?_
       refine Jf ?_
       refine Jb ?_
       refine Ja rfl rfl rfl (Jc (v := .int .i64 0) rfl) ?_
       refine Jg ?_
       refine Jx ?_
       obtain rfl := Option.some.inj H42
       refine Qn (v := .int .i64 0) rfl rfl (Yh rfl)
     ·have H43 := Jq hb H39; clear H39
      refine Qz (r := r) (σ := Bool) (τ := Unit) (fun s => Z4 a0 s) (fun s t => [(1, .pointer (some ⟨b1, 0, none⟩)), (8, .bool s)]) (fun s t => [Jo b1 [.int .i64 a0.Kind, Jv a0.Text, v0_2, v0_3, v0_4] 38]) (fun s t => True) ?_ ?_
      ·refine Jb ?_
       refine Ja rfl rfl rfl (Jk Tryz.runUnderlying38 rfl Tryz.sizeOf3 rfl rfl) ?_
       refine Js (i := 0) (v := .int .i64 a0.Kind) Tryz.isAgg3 rfl rfl rfl rfl rfl ?_
       refine Ja rfl rfl rfl (Va rfl rfl) ?_
       refine Ja rfl rfl rfl (Je (v := .bool (decide (a0.Kind ≠ 5))) rfl) ?_
       refine split (fun hb => ?_) (fun hb => ?_)
       ·have H53 := Jp hb H43; clear H43
        refine Ja rfl rfl rfl (Jk Tryz.runUnderlying38 rfl Tryz.sizeOf31 rfl rfl) ?_
        refine Js (i := 0) (v := v0_3) Tryz.isAgg31 rfl rfl rfl rfl rfl ?_
        refine Ja rfl rfl rfl (Vs Tryz.underlying31 rfl f0_3 rfl) ?_
        refine Ja rfl rfl rfl (Zm rfl rfl) ?_
        refine Ja rfl rfl rfl (J9 (v := .bool (decide (0 < (a0.Ratios.length : Int)))) rfl rfl) ?_
        refine Ja rfl rfl rfl (Jc (v := .bool (decide (0 < (a0.Ratios.length : Int)))) rfl) ?_
        refine Jg ?_
        refine Jn (decide (0 < (a0.Ratios.length : Int))) () 0 [0] (by exact ⟨rfl, rfl, trivial⟩) (by decide) (by kernel_rfl) (by exact ⟨H53, trivial⟩) (Nat.lt_succ_self _)
       ·have H54 := Jq hb H43; clear H43
        refine Ji rfl rfl rfl ?_
        refine Ji rfl rfl rfl ?_
        refine Ji rfl rfl rfl ?_
        refine Ji rfl rfl rfl ?_
        refine Ja rfl rfl rfl (Qf (v := .bool false) rfl rfl) ?_
        refine Ja rfl rfl rfl (Jc (v := .bool false) rfl) ?_
        refine Jg ?_
        refine Jn false () 0 [0] (by exact ⟨rfl, rfl, trivial⟩) (by decide) (by kernel_rfl) (by exact ⟨H54, trivial⟩) (Nat.lt_succ_self _)
      ·rintro x8_3 _ gg H44 _
       replace H44 : Z4 a0 x8_3 = some r := H44
       try dsimp only
       refine Qd (b := x8_3) rfl (fun hb => ?_) (fun hb => ?_)
       ·have H45 := Jp hb H44; clear H44
        refine Jt ?_
        refine Qd (b := x8_3) rfl (fun hb => ?_) (fun hb => ?_)
        ·have H46 := Jp hb H45; clear H45
         refine Jf ?_
         refine Jb ?_
         refine Ja rfl rfl rfl (Jc (v := .int .i64 1) rfl) ?_
         refine Jg ?_
         refine Jx ?_
         obtain rfl := Option.some.inj H46
         refine Qn (v := .int .i64 1) rfl rfl (Yh rfl)
        ·have H47 := Jq hb H45; clear H45
         refine Jt ?_
         refine Jf ?_
         refine Jb ?_
         refine Ja rfl rfl rfl (Jc (v := .int .i64 0) rfl) ?_
         refine Jg ?_
         refine Jx ?_
         obtain rfl := Option.some.inj H47
         refine Qn (v := .int .i64 0) rfl rfl (Yh rfl)
       ·have H48 := Jq hb H44; clear H44
        refine Jb ?_
        refine Ja rfl rfl rfl (Jk Tryz.runUnderlying38 rfl Tryz.sizeOf3 rfl rfl) ?_
        refine Js (i := 0) (v := .int .i64 a0.Kind) Tryz.isAgg3 rfl rfl rfl rfl rfl ?_
        refine Ja rfl rfl rfl (Va rfl rfl) ?_
        refine Ja rfl rfl rfl (Je (v := .bool (decide (a0.Kind ≠ 13))) rfl) ?_
        refine split (fun hb => ?_) (fun hb => ?_)
        ·have H49 := Jp hb H48; clear H48
         refine Ja rfl rfl rfl (Jk Tryz.runUnderlying38 rfl Tryz.sizeOf36 rfl rfl) ?_
         refine Js (i := 0) (v := v0_4) Tryz.isAgg36 rfl rfl rfl rfl rfl ?_
         refine Ja rfl rfl rfl (Zg Tryz.underlying36 rfl f0_4) ?_
         refine Ja rfl rfl rfl (Zm rfl rfl) ?_
         refine Ja rfl rfl rfl (J9 (v := .bool (decide (0 < (a0.Entries.length : Int)))) rfl rfl) ?_
         refine Ja rfl rfl rfl (Jc (v := .bool (decide (0 < (a0.Entries.length : Int)))) rfl) ?_
         refine Jg ?_
         refine Qd (b := (decide (0 < (a0.Entries.length : Int)))) rfl (fun hb => ?_) (fun hb => ?_)
         ·have H50 := Jp hb H49; clear H49
          refine Jf ?_
          refine Jb ?_
          refine Ja rfl rfl rfl (Jc (v := .int .i64 1) rfl) ?_
          refine Jg ?_
          refine Jx ?_
          obtain rfl := Option.some.inj H50
          refine Qn (v := .int .i64 1) rfl rfl (Yh rfl)
         ·have H51 := Jq hb H49; clear H49
          refine Jt ?_
          refine Jf ?_
          refine Jb ?_
          refine Ja rfl rfl rfl (Jc (v := .int .i64 0) rfl) ?_
          refine Jg ?_
          refine Jx ?_
          obtain rfl := Option.some.inj H51
          refine Qn (v := .int .i64 0) rfl rfl (Yh rfl)
        ·have H52 := Jq hb H48; clear H48
         refine Ji rfl rfl rfl ?_
         refine Ji rfl rfl rfl ?_
         refine Ji rfl rfl rfl ?_
         refine Ji rfl rfl rfl ?_
         refine Ja rfl rfl rfl (Qf (v := .bool false) rfl rfl) ?_
         refine Ja rfl rfl rfl (Jc (v := .bool false) rfl) ?_
         refine Jg ?_
         refine Ug rfl ?_
         refine Jt ?_
         refine Jf ?_
         refine Jb ?_
         refine Ja rfl rfl rfl (Jc (v := .int .i64 0) rfl) ?_
         refine Jg ?_
         refine Jx ?_
         obtain rfl := Option.some.inj H52
         refine Qn (v := .int .i64 0) rfl rfl (Yh rfl)
theorem k164 {a0 : Int} {r : Int × Int} (H : tag_bounds a0 = some r) : Ret Tryz.prog 164 [.int .i64 a0] (.tuple #[.int .i64 r.1, .int .i64 r.2]) := by
 refine Wa (n := 11) Tryz.func164 rfl rfl rfl (fun wd => ?_)
 refine Jf ?_
 refine Jb ?_
 refine Ja rfl rfl rfl (Jc (v := .int .i64 0) rfl) ?_
 refine Ja rfl rfl rfl (Jc (v := .int .i64 0) rfl) ?_
 refine Jg ?_
 refine Jf ?_
 refine Jf ?_
 refine Jb ?_
 refine Ja rfl rfl rfl (Je (v := .int .i64 a0) rfl) ?_
 refine Jg ?_
 refine J8 ?_
 refine Jf ?_
 refine Jb ?_
 refine Ja rfl rfl rfl (Q0 rfl rfl) ?_
 refine Ja rfl rfl rfl (Jc (v := .bool (decide (a0 = 1))) rfl) ?_
 refine Jg ?_
 refine Qd (b := (decide (a0 = 1))) rfl (fun hb => ?_) (fun hb => ?_)
 ·have H7 := Jp hb H; clear H
  refine Jf ?_
  refine Jb ?_
  refine Ja rfl rfl rfl (Jc (v := .int .i64 0) rfl) ?_
  refine Ja rfl rfl rfl (Jc (v := .int .i64 255) rfl) ?_
  refine Jg ?_
  refine Jx ?_
  obtain rfl := Option.some.inj H7
  refine ret2 (v1 := .int .i64 0) (v2 := .int .i64 255) rfl rfl rfl (Yh rfl)
 ·have H8 := Jq hb H; clear H
  refine Jf ?_
  refine Jb ?_
  refine Ja rfl rfl rfl (Q0 rfl rfl) ?_
  refine Ja rfl rfl rfl (Jc (v := .bool (decide (a0 = 3))) rfl) ?_
  refine Jg ?_
  refine Qd (b := (decide (a0 = 3))) rfl (fun hb => ?_) (fun hb => ?_)
  ·have H9 := Jp hb H8; clear H8
   refine Jf ?_
   refine Jb ?_
   refine Ja rfl rfl rfl (Jc (v := .int .i64 0) rfl) ?_
   refine Ja rfl rfl rfl (Jc (v := .int .i64 65535) rfl) ?_
   refine Jg ?_
   refine Jx ?_
   obtain rfl := Option.some.inj H9
   refine ret2 (v1 := .int .i64 0) (v2 := .int .i64 65535) rfl rfl rfl (Yh rfl)
  ·have H10 := Jq hb H8; clear H8
   refine Jf ?_
   refine Jb ?_
   refine Ja rfl rfl rfl (Q0 rfl rfl) ?_
   refine Ja rfl rfl rfl (Jc (v := .bool (decide (a0 = 9))) rfl) ?_
   refine Jg ?_
   refine Qd (b := (decide (a0 = 9))) rfl (fun hb => ?_) (fun hb => ?_)
   ·have H11 := Jp hb H10; clear H10
    refine Jf ?_
    refine Jb ?_
    refine Ja rfl rfl rfl (Jc (v := .int .i64 (-2147483648)) rfl) ?_
    refine Ja rfl rfl rfl (Jc (v := .int .i64 2147483647) rfl) ?_
    refine Jg ?_
    refine Jx ?_
    obtain rfl := Option.some.inj H11
    refine ret2 (v1 := .int .i64 (-2147483648)) (v2 := .int .i64 2147483647) rfl rfl rfl (Yh rfl)
   ·have H12 := Jq hb H10; clear H10
    refine Jt ?_
    refine Jf ?_
    refine Jb ?_
    refine Ja rfl rfl rfl (Jc (v := .int .i64 0) rfl) ?_
    refine Ja rfl rfl rfl (Jc (v := .int .i64 4294967295) rfl) ?_
    refine Jg ?_
    refine Jx ?_
    obtain rfl := Option.some.inj H12
    refine ret2 (v1 := .int .i64 0) (v2 := .int .i64 4294967295) rfl rfl rfl (Yh rfl)
theorem k105 {a0 : T_tag_Value} {v0_2 : Value} {v0_3 : Value} {v0_4 : Value} {r : Int} {w : World} {h : Qj} (hw : Know h w Vi) (f0_2 : FrS h 1 v0_2 (a0.Ints.map Xc)) (f0_3 : FrS h 2 v0_3 (a0.Ratios.map Jz)) (f0_4 : FrN h 6 v0_4 g_tag_Entry a0.Entries) (H : Jay a0 = some r) : Does Tryz.prog 105 (List.toArray [.agg #[.int .i64 a0.Kind, Jv a0.Text, v0_2, v0_3, v0_4]]) w (fun v w' => v = (.int .i64 r) ∧ Grow w w') := by
 refine enter (n := 65) Tryz.func105 rfl rfl rfl Vi [] (Sat.nil _ _) ?_
 refine Jf ?_
 refine Jb ?_
 refine U4 (cs := [.int .i64 a0.Kind, Jv a0.Text, v0_2, v0_3, v0_4]) rfl rfl rfl rfl (fun b2 => ?_)
 refine Ja rfl rfl rfl (Jc (v := .int .i64 0) rfl) ?_
 refine Jg ?_
 refine Jf ?_
 refine Jf ?_
 refine Jb ?_
 refine Xr (i := 0) (vs := [.int .i64 a0.Kind, Jv a0.Text, v0_2, v0_3, v0_4]) Tryz.isAgg38 Tryz.sizeOf38 rfl rfl rfl rfl rfl ?_
 obtain ⟨t12, h_t12, H35⟩ := Jh H; clear H
 refine Qw (fun w hF hS => k106 (J7 w) (f0_2.mono (hw.now hF)) (f0_3.mono (hw.now hF)) (f0_4.mono (hw.now hF)) h_t12) Tryz.call106 rfl rfl rfl ?_
 refine Ja rfl rfl rfl (Jc (v := .int .i64 t12) rfl) ?_
 refine Jg ?_
 refine Jf ?_
 refine Jb ?_
 refine Ja rfl rfl rfl (Je (v := .int .i64 t12) rfl) ?_
 refine Ja rfl rfl rfl (Va rfl rfl) ?_
 refine Jg ?_
 refine Qd (b := (decide (t12 ≠ 0))) rfl (fun hb => ?_) (fun hb => ?_)
 ·have H36 := Jp hb H35; clear H35
  refine Jf ?_
  refine Jb ?_
  refine Ja rfl rfl rfl (Je (v := .int .i64 t12) rfl) ?_
  refine Ja rfl rfl rfl (Jc (v := .int .i64 t12) rfl) ?_
  refine Jg ?_
  refine Jx ?_
  obtain rfl := Option.some.inj H36
  refine Qn (v := .int .i64 t12) rfl rfl (Yh rfl)
 ·have H37 := Jq hb H35; clear H35
  refine Jt ?_
  refine Jf ?_
  refine Jb ?_
  refine Ja rfl rfl rfl (Jk Tryz.runUnderlying38 rfl Tryz.sizeOf3 rfl rfl) ?_
  refine Js (i := 0) (v := .int .i64 a0.Kind) Tryz.isAgg3 rfl rfl rfl rfl rfl ?_
  obtain ⟨t19, h_t19, H38⟩ := Jh H37; clear H37
  refine Wb (k164 h_t19) Tryz.call164 rfl rfl rfl ?_
  refine Ja rfl rfl rfl (Je (v := .tuple #[.int .i64 t19.1, .int .i64 t19.2]) rfl) ?_
  refine Ja rfl rfl rfl (Qs (v := .int .i64 t19.1) rfl rfl) ?_
  refine Ja rfl rfl rfl (Qs (v := .int .i64 t19.2) rfl rfl) ?_
  refine Ja rfl rfl rfl (Jc (v := .int .i64 t19.1) rfl) ?_
  refine Ja rfl rfl rfl (Jc (v := .int .i64 t19.2) rfl) ?_
  refine Jg ?_
  refine Qz (r := r) (σ := Unit) (τ := Unit) (fun s => Vl a0) (fun s t => [(1, .pointer (some ⟨b2, 0, none⟩))]) (fun s t => [Jo b2 [.int .i64 a0.Kind, Jv a0.Text, v0_2, v0_3, v0_4] 38]) (fun s t => True) ?_ ?_
  ·refine Jf ?_
   refine Jb ?_
   refine Ja rfl rfl rfl (Jk Tryz.runUnderlying38 rfl Tryz.sizeOf30 rfl rfl) ?_
   refine Js (i := 0) (v := v0_2) Tryz.isAgg30 rfl rfl rfl rfl rfl ?_
   refine Ja rfl rfl rfl (Vs Tryz.underlying30 rfl f0_2 rfl) ?_
   refine Ja rfl rfl rfl (Je (v := .int .i64 0) rfl) ?_
   refine Jg ?_
   refine J8 ?_
   refine Z2 (σ := Int) (τ := Unit) (fun next5 s => X0 a0 t19 next5 s) (fun s t => [(1, .pointer (some ⟨b2, 0, none⟩)), (4, .int .i64 t19.1), (5, .int .i64 t19.2), (23, v0_2), (24, .int .i64 (a0.Ints.length : Int)), (25, .int .i64 s)]) (fun s t => [Jo b2 [.int .i64 a0.Kind, Jv a0.Text, v0_2, v0_3, v0_4] 38]) (fun s t => True) 0 () [0] H38 (by exact trivial) (by exact ⟨rfl, rfl, rfl, rfl, rfl, rfl, trivial⟩) (by decide) rfl ?_
   rintro x25_2 _ m5 gg H61 _
   clear H38
   replace H61 : X0 a0 t19 (it (fun next5 s => X0 a0 t19 next5 s) m5) x25_2 = some r := H61
   generalize hn5 : it (fun next5 s => X0 a0 t19 next5 s) m5 = next5 at H61
   try dsimp only
   refine Jf ?_
   refine Jb ?_
   refine Ja rfl rfl rfl (Zc rfl rfl) ?_
   refine Jg ?_
   refine Jf ?_
   refine Qd (b := (decide (x25_2 < (a0.Ints.length : Int)))) rfl (fun hb => ?_) (fun hb => ?_)
   ·have H62 := Jp hb H61; clear H61
    refine Jt ?_
    refine Jf ?_
    refine J8 ?_
    refine Jf ?_
    refine Jb ?_
    obtain ⟨t27, h_t27, H63⟩ := Jh H62; clear H62
    refine Ja rfl rfl rfl (X5 Tryz.underlying30 Tryz.sizeOf3 rfl rfl f0_2 h_t27) ?_
    refine Yu (fun w hF hS => X4 (f := Xc) (i := x25_2) (sz := 1) (j := 0) (v := .int .i64 t27) Tryz.isAgg3 rfl rfl (f0_2.row (hw.now hF)) h_t27 rfl) rfl rfl rfl ?_
    refine Ja rfl rfl rfl (Jc (v := .int .i64 t27) rfl) ?_
    refine Jg ?_
    refine Jf ?_
    refine Jb ?_
    refine Ja rfl rfl rfl (Je (v := .int .i64 t27) rfl) ?_
    refine Ja rfl rfl rfl (Je (v := .int .i64 t19.1) rfl) ?_
    refine Ja rfl rfl rfl (Je (v := .int .i64 t19.2) rfl) ?_
    obtain ⟨t32, h_t32, H64⟩ := Jh H63; clear H63
    refine Wb (k42 h_t32) Tryz.call42 rfl rfl rfl ?_
    refine Jg ?_
    refine Qd (b := t32) rfl (fun hb => ?_) (fun hb => ?_)
    ·have H65 := Jp hb H64; clear H64
     refine Jf ?_
     refine Jb ?_
     refine Ja rfl rfl rfl (Jc (v := .int .i64 2) rfl) ?_
     refine Jg ?_
     refine Jx ?_
     obtain rfl := Option.some.inj H65
     refine Qn (v := .int .i64 2) rfl rfl (Yh rfl)
    ·have H66 := Jq hb H64; clear H64
     refine Jt ?_
     refine Jb ?_
     obtain ⟨t33, h_t33, H67⟩ := Jh H66; clear H66
     refine Ja rfl rfl rfl (Qe rfl rfl h_t33) ?_
     refine Ja rfl rfl rfl (Je (v := .int .i64 t33) rfl) ?_
     refine Jg ?_
     refine Jn t33 () m5 [0] (by exact ⟨rfl, rfl, rfl, rfl, rfl, rfl, trivial⟩) (by decide) (by kernel_rfl) (by exact ⟨(by subst hn5; exact H67), trivial⟩) (Nat.lt_succ_self _)
   ·have H68 := Jq hb H61; clear H61
    refine X3 ?_
    refine Jn () () 0 [0] (by exact ⟨rfl, trivial⟩) (by decide) (by kernel_rfl) (by exact ⟨H68, trivial⟩) (Nat.lt_succ_self _)
  ·rintro _ _ gg H39 _
   replace H39 : Vl a0 = some r := H39
   try dsimp only
   refine Qz (r := r) (σ := Unit) (τ := Unit) (fun s => Vk a0) (fun s t => [(1, .pointer (some ⟨b2, 0, none⟩))]) (fun s t => [Jo b2 [.int .i64 a0.Kind, Jv a0.Text, v0_2, v0_3, v0_4] 38]) (fun s t => True) ?_ ?_
   ·refine Jf ?_
    refine Jb ?_
    refine Ja rfl rfl rfl (Jk Tryz.runUnderlying38 rfl Tryz.sizeOf31 rfl rfl) ?_
    refine Js (i := 0) (v := v0_3) Tryz.isAgg31 rfl rfl rfl rfl rfl ?_
    refine Ja rfl rfl rfl (Vs Tryz.underlying31 rfl f0_3 rfl) ?_
    refine Ja rfl rfl rfl (Je (v := .int .i64 0) rfl) ?_
    refine Jg ?_
    refine J8 ?_
    refine Z2 (σ := Int) (τ := Unit) (fun next4 s => X2 a0 next4 s) (fun s t => [(1, .pointer (some ⟨b2, 0, none⟩)), (35, v0_3), (36, .int .i64 (a0.Ratios.length : Int)), (37, .int .i64 s)]) (fun s t => [Jo b2 [.int .i64 a0.Kind, Jv a0.Text, v0_2, v0_3, v0_4] 38]) (fun s t => True) 0 () [0] H39 (by exact trivial) (by exact ⟨rfl, rfl, rfl, rfl, trivial⟩) (by decide) rfl ?_
    rintro x37_2 _ m4 gg H50 _
    clear H39
    replace H50 : X2 a0 (it (fun next4 s => X2 a0 next4 s) m4) x37_2 = some r := H50
    generalize hn4 : it (fun next4 s => X2 a0 next4 s) m4 = next4 at H50
    try dsimp only
    refine Jf ?_
    refine Jb ?_
    refine Ja rfl rfl rfl (Zc rfl rfl) ?_
    refine Jg ?_
    refine Jf ?_
    refine Qd (b := (decide (x37_2 < (a0.Ratios.length : Int)))) rfl (fun hb => ?_) (fun hb => ?_)
    ·have H51 := Jp hb H50; clear H50
     refine Jt ?_
     refine Jf ?_
     refine J8 ?_
     refine Jf ?_
     refine Jb ?_
     obtain ⟨t39, h_t39, H52⟩ := Jh H51; clear H51
     refine Ja rfl rfl rfl (X5 Tryz.underlying31 Tryz.sizeOf74 rfl rfl f0_3 h_t39) ?_
     refine Yu (fun w hF hS => Y4 (f := Jz) (i := x37_2) (sz := 2) (j := 0) (vs := [.int .i64 t39.Num, .int .i64 t39.Den]) Tryz.isAgg74 Tryz.sizeOf74 rfl rfl (f0_3.row (hw.now hF)) h_t39 rfl) rfl rfl rfl ?_
     refine Yo (cs := [.int .i64 0, .int .i64 0]) Tryz.zeroValue74 rfl rfl rfl (fun b3 => ?_)
     refine Qc (i := 1) (vs := [.int .i64 t39.Num, .int .i64 t39.Den]) (cs' := [.int .i64 t39.Num, .int .i64 t39.Den]) Tryz.sizeOf74 rfl rfl rfl rfl rfl rfl rfl rfl rfl ?_
     refine Jg ?_
     refine Jf ?_
     refine Jb ?_
     refine Ja rfl rfl rfl (Jk Tryz.runUnderlying74 rfl Tryz.sizeOf3 rfl rfl) ?_
     refine Js (i := 1) (v := .int .i64 t39.Num) Tryz.isAgg3 rfl rfl rfl rfl rfl ?_
     obtain ⟨t43, h_t43, H53⟩ := Jh H52; clear H52
     refine Wb (k42 h_t43) Tryz.call42 rfl rfl rfl ?_
     refine Ja rfl rfl rfl (Je (v := .bool t43) rfl) ?_
     refine split (fun hb => ?_) (fun hb => ?_)
     ·have H54 := Jp hb H53; clear H53
      refine Ji rfl rfl rfl ?_
      refine Ji rfl rfl rfl ?_
      refine Ji rfl rfl rfl ?_
      refine Ja rfl rfl rfl (J9 (v := .bool true) rfl rfl) ?_
      refine Jg ?_
      refine Uw rfl ?_
      refine Jf ?_
      refine Jb ?_
      refine Ja rfl rfl rfl (Jc (v := .int .i64 2) rfl) ?_
      refine Jg ?_
      refine Jx ?_
      obtain rfl := Option.some.inj H54
      refine Qn (v := .int .i64 2) rfl rfl (Yh rfl)
     ·have H55 := Jq hb H53; clear H53
      refine Ja rfl rfl rfl (Jk Tryz.runUnderlying74 rfl Tryz.sizeOf3 rfl rfl) ?_
      refine Js (i := 1) (v := .int .i64 t39.Den) Tryz.isAgg3 rfl rfl rfl rfl rfl ?_
      obtain ⟨t47, h_t47, H56⟩ := Jh H55; clear H55
      refine Wb (k42 h_t47) Tryz.call42 rfl rfl rfl ?_
      refine Ja rfl rfl rfl (Qf (v := .bool t47) rfl rfl) ?_
      refine Jg ?_
      refine Qd (b := t47) rfl (fun hb => ?_) (fun hb => ?_)
      ·have H57 := Jp hb H56; clear H56
       refine Jf ?_
       refine Jb ?_
       refine Ja rfl rfl rfl (Jc (v := .int .i64 2) rfl) ?_
       refine Jg ?_
       refine Jx ?_
       obtain rfl := Option.some.inj H57
       refine Qn (v := .int .i64 2) rfl rfl (Yh rfl)
      ·have H58 := Jq hb H56; clear H56
       refine Jt ?_
       refine Jb ?_
       obtain ⟨t49, h_t49, H59⟩ := Jh H58; clear H58
       refine Ja rfl rfl rfl (Qe rfl rfl h_t49) ?_
       refine Ja rfl rfl rfl (Je (v := .int .i64 t49) rfl) ?_
       refine Jg ?_
       refine Jn t49 () m4 [0] (by exact ⟨rfl, rfl, rfl, rfl, trivial⟩) (by decide) (by kernel_rfl) (by exact ⟨(by subst hn4; exact H59), trivial⟩) (Nat.lt_succ_self _)
    ·have H60 := Jq hb H50; clear H50
     refine X3 ?_
     refine Jn () () 0 [0] (by exact ⟨rfl, trivial⟩) (by decide) (by kernel_rfl) (by exact ⟨H60, trivial⟩) (Nat.lt_succ_self _)
   ·rintro _ _ gg H40 _
    replace H40 : Vk a0 = some r := H40
    try dsimp only
    refine Jf ?_
    refine Jf ?_
    refine Jb ?_
    refine Ja rfl rfl rfl (Jk Tryz.runUnderlying38 rfl Tryz.sizeOf3 rfl rfl) ?_
    refine Js (i := 0) (v := .int .i64 a0.Kind) Tryz.isAgg3 rfl rfl rfl rfl rfl ?_
    refine Ja rfl rfl rfl (Q0 rfl rfl) ?_
    refine Jg ?_
    refine Qd (b := (decide (a0.Kind = 2))) rfl (fun hb => ?_) (fun hb => ?_)
    ·have H41 := Jp hb H40; clear H40
     refine Jf ?_
     refine Jb ?_
     refine Ja rfl rfl rfl (Jk Tryz.runUnderlying38 rfl Tryz.sizeOf9 rfl rfl) ?_
     refine Js (i := 0) (v := Jv a0.Text) Tryz.isAgg9 rfl rfl rfl rfl rfl ?_
     refine Ja rfl rfl rfl (Z0 Tryz.underlying9 rfl) ?_
     refine Ja rfl rfl rfl (Je (v := .int .i64 0) rfl) ?_
     refine Jg ?_
     refine J8 ?_
     refine Z2 (σ := Int) (τ := Unit) (fun next3 s => Ye a0 next3 s) (fun s t => [(1, .pointer (some ⟨b2, 0, none⟩)), (55, .int .i64 (a0.Text.length : Int)), (56, .int .i64 s)]) (fun s t => [Jo b2 [.int .i64 a0.Kind, Jv a0.Text, v0_2, v0_3, v0_4] 38]) (fun s t => True) 0 () [0] H41 (by exact trivial) (by exact ⟨rfl, rfl, rfl, trivial⟩) (by decide) rfl ?_
     rintro x56_2 _ m3 gg H42 _
     clear H41
     replace H42 : Ye a0 (it (fun next3 s => Ye a0 next3 s) m3) x56_2 = some r := H42
     generalize hn3 : it (fun next3 s => Ye a0 next3 s) m3 = next3 at H42
     try dsimp only
     refine Jf ?_
     refine Jb ?_
     refine Ja rfl rfl rfl (Zc rfl rfl) ?_
     refine Jg ?_
     refine Jf ?_
     refine Qd (b := (decide (x56_2 < (a0.Text.length : Int)))) rfl (fun hb => ?_) (fun hb => ?_)
     ·have H43 := Jp hb H42; clear H42
      refine Jt ?_
      refine Jf ?_
      refine J8 ?_
      refine Jf ?_
      refine Jb ?_
      refine Ja rfl rfl rfl (Je (v := .int .i64 x56_2) rfl) ?_
      refine Ja rfl rfl rfl (Jc (v := .int .i64 x56_2) rfl) ?_
      refine Jg ?_
      refine Jf ?_
      refine Jb ?_
      refine Ja rfl rfl rfl (Jk Tryz.runUnderlying38 rfl Tryz.sizeOf9 rfl rfl) ?_
      refine Js (i := 0) (v := Jv a0.Text) Tryz.isAgg9 rfl rfl rfl rfl rfl ?_
      refine Ja rfl rfl rfl (Je (v := .int .i64 x56_2) rfl) ?_
      obtain ⟨t62, h_t62, H44⟩ := Jh H43; clear H43
      refine Ja rfl rfl rfl (r_octG Tryz.underlying9 rfl rfl h_t62) ?_
      refine Ja rfl rfl rfl (Q0 rfl rfl) ?_
      refine Jg ?_
      refine Qd (b := (decide (t62 = 0))) rfl (fun hb => ?_) (fun hb => ?_)
      ·have H45 := Jp hb H44; clear H44
       refine Jf ?_
       refine Jb ?_
       refine Ja rfl rfl rfl (Jc (v := .int .i64 9) rfl) ?_
       refine Jg ?_
       refine Jx ?_
       obtain rfl := Option.some.inj H45
       refine Qn (v := .int .i64 9) rfl rfl (Yh rfl)
      ·have H46 := Jq hb H44; clear H44
       refine Jt ?_
       refine Jb ?_
       obtain ⟨t64, h_t64, H47⟩ := Jh H46; clear H46
       refine Ja rfl rfl rfl (Qe rfl rfl h_t64) ?_
       refine Ja rfl rfl rfl (Je (v := .int .i64 t64) rfl) ?_
       refine Jg ?_
       refine Jn t64 () m3 [0] (by exact ⟨rfl, rfl, rfl, trivial⟩) (by decide) (by kernel_rfl) (by exact ⟨(by subst hn3; exact H47), trivial⟩) (Nat.lt_succ_self _)
     ·have H48 := Jq hb H42; clear H42
      refine X3 ?_
      refine Jf ?_
      refine Jb ?_
      refine Ja rfl rfl rfl (Jc (v := .int .i64 0) rfl) ?_
      refine Jg ?_
      refine Jx ?_
      obtain rfl := Option.some.inj H48
      refine Qn (v := .int .i64 0) rfl rfl (Yh rfl)
    ·have H49 := Jq hb H40; clear H40
     refine Jt ?_
     refine Jf ?_
     refine Jb ?_
     refine Ja rfl rfl rfl (Jc (v := .int .i64 0) rfl) ?_
     refine Jg ?_
     refine Jx ?_
     obtain rfl := Option.some.inj H49
     refine Qn (v := .int .i64 0) rfl rfl (Yh rfl)
theorem k102_it (mm : Nat) : ∀ {a0 : (List T_tag_Entry)} {v0 : Value} {a1 : Int} {r : Int} {w : World} {h : Qj} (hw : Know h w Vi) (f0 : FrN h 6 v0 g_tag_Entry a0) (H : it (fun (self : ((List T_tag_Entry) × Int) → Option (Int)) (s : (List T_tag_Entry) × Int) => Y7 self s.1 s.2) mm (a0, a1) = some r), Does Tryz.prog 102 (List.toArray [v0, .int .i64 a1]) w (fun v w' => v = (.int .i64 r) ∧ Grow w w') := by
 induction mm with
 | zero => intros; rename_i H; exact absurd H (by simp [it])
 | succ mm ih =>
  intro a0 v0 a1 r w h hw f0 H
  replace H : Y7 (it (fun (self : ((List T_tag_Entry) × Int) → Option (Int)) (s : (List T_tag_Entry) × Int) => Y7 self s.1 s.2) mm) a0 a1 = some r := H
  generalize it (fun (self : ((List T_tag_Entry) × Int) → Option (Int)) (s : (List T_tag_Entry) × Int) => Y7 self s.1 s.2) mm = self at H ih
  refine enter (n := 62) Tryz.func102 rfl rfl rfl Vi [] (Sat.nil _ _) ?_
  refine Jf ?_
  refine Jb ?_
  refine Ja rfl rfl rfl (Jc (v := .int .i64 0) rfl) ?_
  refine Jg ?_
  refine Jf ?_
  refine Jf ?_
  refine Jb ?_
  refine Ja rfl rfl rfl (Je (v := .int .i64 a1) rfl) ?_
  refine Ja rfl rfl rfl (Zm rfl rfl) ?_
  refine Ja rfl rfl rfl (Je (v := .bool (decide (5 < a1))) rfl) ?_
  refine split (fun hb => ?_) (fun hb => ?_)
  ·have H31 := Jp hb H; clear H
   refine Ji rfl rfl rfl ?_
   refine Ji rfl rfl rfl ?_
   refine Ji rfl rfl rfl ?_
   refine Ja rfl rfl rfl (J9 (v := .bool true) rfl rfl) ?_
   refine Jg ?_
   refine Uw rfl ?_
   refine Jf ?_
   refine Jb ?_
   refine Ja rfl rfl rfl (Jc (v := .int .i64 4) rfl) ?_
   refine Jg ?_
   refine Jx ?_
   obtain rfl := Option.some.inj H31
   refine Qn (v := .int .i64 4) rfl rfl (Yh rfl)
  ·have H32 := Jq hb H; clear H
   refine Ja rfl rfl rfl (Je (v := v0) rfl) ?_
   refine Ja rfl rfl rfl (Zg Tryz.underlying36 rfl f0) ?_
   refine Ja rfl rfl rfl (Zm rfl rfl) ?_
   refine Ja rfl rfl rfl (Qf (v := .bool (decide (200 < (a0.length : Int)))) rfl rfl) ?_
   refine Jg ?_
   refine Qd (b := (decide (200 < (a0.length : Int)))) rfl (fun hb => ?_) (fun hb => ?_)
   ·have H33 := Jp hb H32; clear H32
    refine Jf ?_
    refine Jb ?_
    refine Ja rfl rfl rfl (Jc (v := .int .i64 4) rfl) ?_
    refine Jg ?_
    refine Jx ?_
    obtain rfl := Option.some.inj H33
    refine Qn (v := .int .i64 4) rfl rfl (Yh rfl)
   ·have H34 := Jq hb H32; clear H32
    refine Jt ?_
    refine Jf ?_
    refine Jf ?_
    refine Jb ?_
    refine Ja rfl rfl rfl (Je (v := v0) rfl) ?_
    refine Ja rfl rfl rfl (Zg Tryz.underlying36 rfl f0) ?_
    refine Ja rfl rfl rfl (Je (v := .int .i64 0) rfl) ?_
    refine Jg ?_
    refine J8 ?_
    refine Z2 (σ := Int) (τ := Unit) (fun next1 s => Vq a0 a1 self next1 s) (fun s t => [(0, v0), (1, .int .i64 a1), (15, v0), (16, .int .i64 (a0.length : Int)), (17, .int .i64 s)]) (fun s t => []) (fun s t => True) 0 () [] H34 (by exact trivial) (by exact ⟨rfl, rfl, rfl, rfl, rfl, trivial⟩) (by decide) rfl ?_
    rintro x17_2 _ m1 gg H35 _
    clear H34
    replace H35 : Vq a0 a1 self (it (fun next1 s => Vq a0 a1 self next1 s) m1) x17_2 = some r := H35
    generalize hn1 : it (fun next1 s => Vq a0 a1 self next1 s) m1 = next1 at H35
    try dsimp only
    refine Jf ?_
    refine Jb ?_
    refine Ja rfl rfl rfl (Zc rfl rfl) ?_
    refine Jg ?_
    refine Jf ?_
    refine Qd (b := (decide (x17_2 < (a0.length : Int)))) rfl (fun hb => ?_) (fun hb => ?_)
    ·have H36 := Jp hb H35; clear H35
     refine Jt ?_
     refine Jf ?_
     refine J8 ?_
     refine Jf ?_
     refine Jb ?_
     refine Ja rfl rfl rfl (Je (v := .int .i64 x17_2) rfl) ?_
     obtain ⟨t20, h_t20, H37⟩ := Jh H36; clear H36
     refine Ja rfl rfl rfl (X5 Tryz.underlying36 Tryz.sizeOf83 rfl rfl f0.frs (f0.ix h_t20)) ?_
     refine Yu (fun w hF hS => Y4 (f := (elC h v0 6)) (i := x17_2) (sz := 6) (j := 0) (vs := [.int .i64 t20.Tag, .int .i64 t20.Value.Kind, Jv t20.Value.Text, (Xk h v0 6 (Int.toNat x17_2) 3), (Xk h v0 6 (Int.toNat x17_2) 4), (Xk h v0 6 (Int.toNat x17_2) 5)]) Tryz.isAgg83 Tryz.sizeOf83 rfl rfl (f0.frs.row (hw.now hF)) (f0.ix h_t20) (rd_of (Vd (f0.at h_t20)) rfl)) rfl rfl rfl ?_
     refine Yo (cs := [.int .i64 0, .int .i64 0, Jv [], .slice none 0 0, .slice none 0 0, .slice none 0 0]) Tryz.zeroValue83 rfl rfl rfl (fun b1 => ?_)
     refine Ja rfl rfl rfl (Jc (v := .int .i64 x17_2) rfl) ?_
     refine Qc (i := 0) (vs := [.int .i64 t20.Tag, .int .i64 t20.Value.Kind, Jv t20.Value.Text, (Xk h v0 6 (Int.toNat x17_2) 3), (Xk h v0 6 (Int.toNat x17_2) 4), (Xk h v0 6 (Int.toNat x17_2) 5)]) (cs' := [.int .i64 t20.Tag, .int .i64 t20.Value.Kind, Jv t20.Value.Text, (Xk h v0 6 (Int.toNat x17_2) 3), (Xk h v0 6 (Int.toNat x17_2) 4), (Xk h v0 6 (Int.toNat x17_2) 5)]) Tryz.sizeOf83 rfl rfl rfl rfl rfl rfl (by simp only [List.all_cons, List.all_nil, (show FrN h 6 (Xk h v0 6 (Int.toNat x17_2) 5) g_tag_Entry t20.Value.Entries from (Qv (Jr (f0.at h_t20)))).one, (show FrS h 1 (Xk h v0 6 (Int.toNat x17_2) 3) (t20.Value.Ints.map Xc) from (Q5 (Jr (f0.at h_t20)))).one, (show FrS h 2 (Xk h v0 6 (Int.toNat x17_2) 4) (t20.Value.Ratios.map Jz) from (Q4 (Jr (f0.at h_t20)))).one] <;> rfl) rfl rfl ?_
     refine Jg ?_
     refine Qz (r := r) (σ := Unit) (τ := Unit) (fun s => Ul a1 self x17_2 next1 t20) (fun s t => [(0, v0), (1, .int .i64 a1), (6, .pointer (some ⟨b1, 0, none⟩)), (15, v0), (16, .int .i64 (a0.length : Int)), (17, .int .i64 x17_2)]) (fun s t => [Jo b1 [.int .i64 t20.Tag, .int .i64 t20.Value.Kind, Jv t20.Value.Text, (Xk h v0 6 (Int.toNat x17_2) 3), (Xk h v0 6 (Int.toNat x17_2) 4), (Xk h v0 6 (Int.toNat x17_2) 5)] 83]) (fun s t => True) ?_ ?_
     ·refine J8 ?_
      refine Jf ?_
      refine Jb ?_
      refine Ja rfl rfl rfl (Jk Tryz.runUnderlying83 rfl Tryz.sizeOf3 rfl rfl) ?_
      refine Js (i := 0) (v := .int .i64 t20.Tag) Tryz.isAgg3 rfl rfl rfl rfl rfl ?_
      obtain ⟨t25, h_t25, H51⟩ := Jh H37; clear H37
      refine Wb (k42 h_t25) Tryz.call42 rfl rfl rfl ?_
      refine Ja rfl rfl rfl (Jc (v := .bool t25) rfl) ?_
      refine Jg ?_
      refine Qd (b := t25) rfl (fun hb => ?_) (fun hb => ?_)
      ·have H52 := Jp hb H51; clear H51
       refine Jf ?_
       refine Jb ?_
       refine Ja rfl rfl rfl (Jc (v := .int .i64 2) rfl) ?_
       refine Jg ?_
       refine Jx ?_
       obtain rfl := Option.some.inj H52
       refine Qn (v := .int .i64 2) rfl rfl (Yh rfl)
      ·have H53 := Jq hb H51; clear H51
       refine Jf ?_
       exact Xp (Kd.p :: Kd.p :: Kd.p :: Kd.p :: Kd.d [0] _ :: Kd.p :: Kd.p :: Kd.p :: Kd.p :: Kd.p :: Kd.d [] _ :: Kd.p :: Kd.p :: Kd.p :: []) 0 mixed (by
        refine Jm rfl rfl (Je (v := .int .i64 x17_2) rfl) ?_
        refine Jm rfl rfl (Zm rfl rfl) ?_
        refine Jm rfl rfl (Je (v := .bool (decide (0 < x17_2))) rfl) ?_
        refine splitS (fun hb => ?_) (fun hb => ?_)
        ·have H54 := Jp hb H53
         refine Jm rfl rfl (Jk Tryz.runUnderlying83 rfl Tryz.sizeOf3 rfl rfl) ?_
         refine Xq (i := 0) (v := .int .i64 t20.Tag) Tryz.isAgg3 rfl rfl rfl rfl ?_
         refine Jm rfl rfl (Je (v := v0) rfl) ?_
         refine Jm rfl rfl (Je (v := .int .i64 x17_2) rfl) ?_
         have h_t34 := Qg H54
         have H55 := J6 H54
         refine Jm rfl rfl (Wv rfl rfl h_t34) ?_
         have h_t35 := Qg H55
         have H56 := J6 H55
         refine Jm rfl rfl (X5 Tryz.underlying36 Tryz.sizeOf83 rfl rfl f0.frs (f0.ix h_t35)) ?_
         refine Jm rfl rfl (r_fieldP Tryz.runUnderlying83 rfl Tryz.sizeOf3 rfl rfl (some_of_at f0.frs (f0.ix h_t35))) ?_
         refine d_read (fun w hF => X4 (f := (elC h v0 6)) (i := (val (gI (x17_2 - 1)))) (sz := 6) (j := 0) (v := .int .i64 (val (Y6 a0 (val (gI (x17_2 - 1))))).Tag) Tryz.isAgg3 rfl rfl (f0.frs.row (hw.now hF)) (f0.ix h_t35) (rg_of (Vd (f0.at h_t35)) rfl)) rfl rfl ?_
         refine Jm rfl rfl (r_leq rfl rfl) ?_
         refine Jm rfl rfl (J9 (v := .bool (decide (t20.Tag ≤ (val (Y6 a0 (val (gI (x17_2 - 1))))).Tag))) rfl rfl) ?_
         refine Jm rfl rfl (Jc (v := .bool (decide (t20.Tag ≤ (val (Y6 a0 (val (gI (x17_2 - 1))))).Tag))) rfl) ?_
         refine Zh ?_
         refine Qd (b := (decide (t20.Tag ≤ (val (Y6 a0 (val (gI (x17_2 - 1))))).Tag))) rfl (fun hb => ?_) (fun hb => ?_)
         ·have H57 := Jp hb H56; clear H56
          refine Jf ?_
          refine Jb ?_
          refine Ja rfl rfl rfl (Jc (v := .int .i64 5) rfl) ?_
          refine Jg ?_
          refine Jx ?_
          obtain rfl := Option.some.inj H57
          refine Qn (v := .int .i64 5) rfl rfl (Yh rfl)
         ·have H58 := Jq hb H56; clear H56
          refine Jt ?_
          refine Jn () () 0 [0] (by exact ⟨rfl, rfl, rfl, rfl, rfl, rfl, trivial⟩) (by decide) (by kernel_rfl) (by exact ⟨H58, trivial⟩) (Nat.lt_succ_self _)
        ·have H59 := Jq hb H53
         refine Qi rfl rfl ?_
         refine Qi rfl rfl ?_
         refine Qi rfl rfl ?_
         refine Qi rfl rfl ?_
         refine Qi rfl rfl ?_
         refine Qi rfl rfl ?_
         refine Qi rfl rfl ?_
         refine Qi rfl rfl ?_
         refine Qi rfl rfl ?_
         refine Jm rfl rfl (Qf (v := .bool false) rfl rfl) ?_
         refine Jm rfl rfl (Jc (v := .bool false) rfl) ?_
         refine Zh ?_
         refine Ug rfl ?_
         refine Jt ?_
         refine Jn () () 0 [0] (by exact ⟨rfl, rfl, rfl, rfl, rfl, rfl, trivial⟩) (by decide) (by kernel_rfl) (by exact ⟨H59, trivial⟩) (Nat.lt_succ_self _)
        ) (by kernel_rfl)
     ·rintro _ _ gg H38 _
      replace H38 : Ul a1 self x17_2 next1 t20 = some r := H38
      try dsimp only
      refine Jf ?_
      refine Jb ?_
      refine Ja rfl rfl rfl (Jc (v := .int .i64 0) rfl) ?_
      refine Jg ?_
      refine Qz (r := r) (σ := Int) (τ := Unit) (fun s => Vr x17_2 next1 s) (fun s t => [(0, v0), (1, .int .i64 a1), (7, .int .i64 s), (15, v0), (16, .int .i64 (a0.length : Int)), (17, .int .i64 x17_2)]) (fun s t => []) (fun s t => True) ?_ ?_
      ·refine Jf ?_
       refine Jb ?_
       refine Ja rfl rfl rfl (Jk Tryz.runUnderlying83 rfl Tryz.sizeOf38 rfl rfl) ?_
       refine Ja rfl rfl rfl (Jk Tryz.runUnderlying38 rfl Tryz.sizeOf3 rfl rfl) ?_
       refine Js (i := 0) (v := .int .i64 t20.Value.Kind) Tryz.isAgg3 rfl rfl rfl rfl rfl ?_
       refine Ja rfl rfl rfl (Va rfl rfl) ?_
       refine Jg ?_
       refine Qd (b := (decide (t20.Value.Kind ≠ 13))) rfl (fun hb => ?_) (fun hb => ?_)
       ·have H43 := Jp hb H38; clear H38
        refine Jb ?_
        refine Ja rfl rfl rfl (Jk Tryz.runUnderlying83 rfl Tryz.sizeOf38 rfl rfl) ?_
        refine Xr (i := 0) (vs := [.int .i64 t20.Value.Kind, Jv t20.Value.Text, (Xk h v0 6 (Int.toNat x17_2) 3), (Xk h v0 6 (Int.toNat x17_2) 4), (Xk h v0 6 (Int.toNat x17_2) 5)]) Tryz.isAgg38 Tryz.sizeOf38 rfl rfl rfl rfl rfl ?_
        obtain ⟨t46, h_t46, H44⟩ := Jh H43; clear H43
        refine Qw (fun w hF hS => k105 (J7 w) ((show FrS h 1 (Xk h v0 6 (Int.toNat x17_2) 3) (t20.Value.Ints.map Xc) from (Q5 (Jr (f0.at h_t20)))).mono (hw.now hF)) ((show FrS h 2 (Xk h v0 6 (Int.toNat x17_2) 4) (t20.Value.Ratios.map Jz) from (Q4 (Jr (f0.at h_t20)))).mono (hw.now hF)) ((show FrN h 6 (Xk h v0 6 (Int.toNat x17_2) 5) g_tag_Entry t20.Value.Entries from (Qv (Jr (f0.at h_t20)))).mono (hw.now hF)) h_t46) Tryz.call105 rfl rfl rfl ?_
        refine Ja rfl rfl rfl (Jc (v := .int .i64 t46) rfl) ?_
        refine Jg ?_
        refine Jn t46 () 0 [] (by exact ⟨rfl, rfl, rfl, rfl, rfl, rfl, trivial⟩) (by decide) (by kernel_rfl) (by exact ⟨H44, trivial⟩) (Nat.lt_succ_self _)
       ·have H45 := Jq hb H38; clear H38
        refine Jf ?_
        refine Jb ?_
        refine Ja rfl rfl rfl (Jk Tryz.runUnderlying83 rfl Tryz.sizeOf38 rfl rfl) ?_
        refine Xr (i := 0) (vs := [.int .i64 t20.Value.Kind, Jv t20.Value.Text, (Xk h v0 6 (Int.toNat x17_2) 3), (Xk h v0 6 (Int.toNat x17_2) 4), (Xk h v0 6 (Int.toNat x17_2) 5)]) Tryz.isAgg38 Tryz.sizeOf38 rfl rfl rfl rfl rfl ?_
        obtain ⟨t49, h_t49, H46⟩ := Jh H45; clear H45
        refine Qw (fun w hF hS => k106 (J7 w) ((show FrS h 1 (Xk h v0 6 (Int.toNat x17_2) 3) (t20.Value.Ints.map Xc) from (Q5 (Jr (f0.at h_t20)))).mono (hw.now hF)) ((show FrS h 2 (Xk h v0 6 (Int.toNat x17_2) 4) (t20.Value.Ratios.map Jz) from (Q4 (Jr (f0.at h_t20)))).mono (hw.now hF)) ((show FrN h 6 (Xk h v0 6 (Int.toNat x17_2) 5) g_tag_Entry t20.Value.Entries from (Qv (Jr (f0.at h_t20)))).mono (hw.now hF)) h_t49) Tryz.call106 rfl rfl rfl ?_
        refine Ja rfl rfl rfl (Jc (v := .int .i64 t49) rfl) ?_
        refine Jg ?_
        refine Jf ?_
        refine Jb ?_
        refine Ja rfl rfl rfl (Je (v := .int .i64 t49) rfl) ?_
        refine Ja rfl rfl rfl (Q0 rfl rfl) ?_
        refine Jg ?_
        refine Qd (b := (decide (t49 = 0))) rfl (fun hb => ?_) (fun hb => ?_)
        ·have H47 := Jp hb H46; clear H46
         refine Jb ?_
         refine Ja rfl rfl rfl (Jk Tryz.runUnderlying83 rfl Tryz.sizeOf38 rfl rfl) ?_
         refine Ja rfl rfl rfl (Jk Tryz.runUnderlying38 rfl Tryz.sizeOf36 rfl rfl) ?_
         refine Js (i := 0) (v := (Xk h v0 6 (Int.toNat x17_2) 5)) Tryz.isAgg36 rfl rfl rfl rfl rfl ?_
         refine Ja rfl rfl rfl (Je (v := .int .i64 a1) rfl) ?_
         obtain ⟨t56, h_t56, H48⟩ := Jh H47; clear H47
         refine Ja rfl rfl rfl (Qe rfl rfl h_t56) ?_
         obtain ⟨t57, h_t57, H49⟩ := Jh H48; clear H48
         refine Qw (fun w hF hS => ih (J7 w) ((show FrN h 6 (Xk h v0 6 (Int.toNat x17_2) 5) g_tag_Entry t20.Value.Entries from (Qv (Jr (f0.at h_t20)))).mono (hw.now hF)) h_t57) Tryz.call102 rfl rfl rfl ?_
         refine Ja rfl rfl rfl (Jc (v := .int .i64 t57) rfl) ?_
         refine Jg ?_
         refine Jn t57 () 0 [] (by exact ⟨rfl, rfl, rfl, rfl, rfl, rfl, trivial⟩) (by decide) (by kernel_rfl) (by exact ⟨H49, trivial⟩) (Nat.lt_succ_self _)
        ·have H50 := Jq hb H46; clear H46
         refine Jt ?_
         refine Jn t49 () 0 [] (by exact ⟨rfl, rfl, rfl, rfl, rfl, rfl, trivial⟩) (by decide) (by kernel_rfl) (by exact ⟨H50, trivial⟩) (Nat.lt_succ_self _)
      ·rintro x7 _ gg H39 _
       replace H39 : Vr x17_2 next1 x7 = some r := H39
       try dsimp only
       refine Jf ?_
       refine Jb ?_
       refine Ja rfl rfl rfl (Je (v := .int .i64 x7) rfl) ?_
       refine Ja rfl rfl rfl (Va rfl rfl) ?_
       refine Jg ?_
       refine Qd (b := (decide (x7 ≠ 0))) rfl (fun hb => ?_) (fun hb => ?_)
       ·have H40 := Jp hb H39; clear H39
        refine Jf ?_
        refine Jb ?_
        refine Ja rfl rfl rfl (Je (v := .int .i64 x7) rfl) ?_
        refine Ja rfl rfl rfl (Jc (v := .int .i64 x7) rfl) ?_
        refine Jg ?_
        refine Jx ?_
        obtain rfl := Option.some.inj H40
        refine Qn (v := .int .i64 x7) rfl rfl (Yh rfl)
       ·have H41 := Jq hb H39; clear H39
        refine Jt ?_
        refine Jb ?_
        obtain ⟨t61, h_t61, H42⟩ := Jh H41; clear H41
        refine Ja rfl rfl rfl (Qe rfl rfl h_t61) ?_
        refine Ja rfl rfl rfl (Je (v := .int .i64 t61) rfl) ?_
        refine Jg ?_
        refine Jn t61 () m1 [] (by exact ⟨rfl, rfl, rfl, rfl, rfl, trivial⟩) (by decide) (by kernel_rfl) (by exact ⟨(by subst hn1; exact H42), trivial⟩) (Nat.lt_succ_self _)
    ·have H60 := Jq hb H35; clear H35
     refine X3 ?_
     refine Jf ?_
     refine Jb ?_
     refine Ja rfl rfl rfl (Jc (v := .int .i64 0) rfl) ?_
     refine Jg ?_
     refine Jx ?_
     obtain rfl := Option.some.inj H60
     refine Qn (v := .int .i64 0) rfl rfl (Yh rfl)
theorem k102 {a0 : (List T_tag_Entry)} {v0 : Value} {a1 : Int} {r : Int} {w : World} {h : Qj} (hw : Know h w Vi) (f0 : FrN h 6 v0 g_tag_Entry a0) (H : tag_checkDir a0 a1 = some r) : Does Tryz.prog 102 (List.toArray [v0, .int .i64 a1]) w (fun v w' => v = (.int .i64 r) ∧ Grow w w') := by
 obtain ⟨mm, hm⟩ := fix_it (show Z3 (fun (self : ((List T_tag_Entry) × Int) → Option (Int)) (s : (List T_tag_Entry) × Int) => Y7 self s.1 s.2) (a0, a1) = some r from H)
 exact k102_it mm hw f0 hm
theorem k75 {a0 : T_tag_Value} {v0_2 : Value} {v0_3 : Value} {v0_4 : Value} {r : Int} {w : World} {h : Qj} (hw : Know h w Vi) (f0_2 : FrS h 1 v0_2 (a0.Ints.map Xc)) (f0_3 : FrS h 2 v0_3 (a0.Ratios.map Jz)) (f0_4 : FrN h 6 v0_4 g_tag_Entry a0.Entries) (H : tag_count a0 = some r) : Does Tryz.prog 75 (List.toArray [.agg #[.int .i64 a0.Kind, Jv a0.Text, v0_2, v0_3, v0_4]]) w (fun v w' => v = (.int .i64 r) ∧ Grow w w') := by
 refine enter (n := 26) Tryz.func75 rfl rfl rfl Vi [] (Sat.nil _ _) ?_
 refine Jf ?_
 refine Jb ?_
 refine U4 (cs := [.int .i64 a0.Kind, Jv a0.Text, v0_2, v0_3, v0_4]) rfl rfl rfl rfl (fun b1 => ?_)
 refine Ja rfl rfl rfl (Jc (v := .int .i64 0) rfl) ?_
 refine Jg ?_
 refine Jf ?_
 refine Jf ?_
 refine Jb ?_
 refine Ja rfl rfl rfl (Jk Tryz.runUnderlying38 rfl Tryz.sizeOf3 rfl rfl) ?_
 refine Js (i := 0) (v := .int .i64 a0.Kind) Tryz.isAgg3 rfl rfl rfl rfl rfl ?_
 refine Jg ?_
 refine J8 ?_
 refine Jf ?_
 refine Jb ?_
 refine Ja rfl rfl rfl (Q0 rfl rfl) ?_
 refine Ja rfl rfl rfl (Jc (v := .bool (decide (a0.Kind = 2))) rfl) ?_
 refine Jg ?_
 refine Qd (b := (decide (a0.Kind = 2))) rfl (fun hb => ?_) (fun hb => ?_)
 ·have H10 := Jp hb H; clear H
  refine Jf ?_
  refine Jb ?_
  refine Ja rfl rfl rfl (Jk Tryz.runUnderlying38 rfl Tryz.sizeOf9 rfl rfl) ?_
  refine Js (i := 0) (v := Jv a0.Text) Tryz.isAgg9 rfl rfl rfl rfl rfl ?_
  refine Ja rfl rfl rfl (Z0 Tryz.underlying9 rfl) ?_
  obtain ⟨t10, h_t10, H11⟩ := Jh H10; clear H10
  refine Ja rfl rfl rfl (Qe rfl rfl h_t10) ?_
  refine Ja rfl rfl rfl (Jc (v := .int .i64 t10) rfl) ?_
  refine Jg ?_
  refine Jx ?_
  obtain rfl := Option.some.inj H11
  refine Qn (v := .int .i64 t10) rfl rfl (Yh rfl)
 ·have H12 := Jq hb H; clear H
  refine Jf ?_
  refine Jb ?_
  refine Ja rfl rfl rfl (Q0 rfl rfl) ?_
  refine Ja rfl rfl rfl (Jc (v := .bool (decide (a0.Kind = 7))) rfl) ?_
  refine Jg ?_
  refine Qd (b := (decide (a0.Kind = 7))) rfl (fun hb => ?_) (fun hb => ?_)
  ·have H13 := Jp hb H12; clear H12
   refine Jf ?_
   refine Jb ?_
   refine Ja rfl rfl rfl (Jk Tryz.runUnderlying38 rfl Tryz.sizeOf9 rfl rfl) ?_
   refine Js (i := 0) (v := Jv a0.Text) Tryz.isAgg9 rfl rfl rfl rfl rfl ?_
   refine Ja rfl rfl rfl (Z0 Tryz.underlying9 rfl) ?_
   refine Ja rfl rfl rfl (Jc (v := .int .i64 (a0.Text.length : Int)) rfl) ?_
   refine Jg ?_
   refine Jx ?_
   obtain rfl := Option.some.inj H13
   refine Qn (v := .int .i64 (a0.Text.length : Int)) rfl rfl (Yh rfl)
  ·have H14 := Jq hb H12; clear H12
   refine Jf ?_
   refine Jb ?_
   refine Ja rfl rfl rfl (Q0 rfl rfl) ?_
   refine Ja rfl rfl rfl (Jc (v := .bool (decide (a0.Kind = 5))) rfl) ?_
   refine Jg ?_
   refine Qd (b := (decide (a0.Kind = 5))) rfl (fun hb => ?_) (fun hb => ?_)
   ·have H15 := Jp hb H14; clear H14
    refine Jf ?_
    refine Jb ?_
    refine Ja rfl rfl rfl (Jk Tryz.runUnderlying38 rfl Tryz.sizeOf31 rfl rfl) ?_
    refine Js (i := 0) (v := v0_3) Tryz.isAgg31 rfl rfl rfl rfl rfl ?_
    refine Ja rfl rfl rfl (Vs Tryz.underlying31 rfl f0_3 rfl) ?_
    refine Ja rfl rfl rfl (Jc (v := .int .i64 (a0.Ratios.length : Int)) rfl) ?_
    refine Jg ?_
    refine Jx ?_
    obtain rfl := Option.some.inj H15
    refine Qn (v := .int .i64 (a0.Ratios.length : Int)) rfl rfl (Yh rfl)
   ·have H16 := Jq hb H14; clear H14
    refine Jf ?_
    refine Jb ?_
    refine Ja rfl rfl rfl (Q0 rfl rfl) ?_
    refine Ja rfl rfl rfl (Jc (v := .bool (decide (a0.Kind = 13))) rfl) ?_
    refine Jg ?_
    refine Qd (b := (decide (a0.Kind = 13))) rfl (fun hb => ?_) (fun hb => ?_)
    ·have H17 := Jp hb H16; clear H16
     refine Jf ?_
     refine Jb ?_
     refine Ja rfl rfl rfl (Jc (v := .int .i64 1) rfl) ?_
     refine Jg ?_
     refine Jx ?_
     obtain rfl := Option.some.inj H17
     refine Qn (v := .int .i64 1) rfl rfl (Yh rfl)
    ·have H18 := Jq hb H16; clear H16
     refine Jt ?_
     refine Jf ?_
     refine Jb ?_
     refine Ja rfl rfl rfl (Jk Tryz.runUnderlying38 rfl Tryz.sizeOf30 rfl rfl) ?_
     refine Js (i := 0) (v := v0_2) Tryz.isAgg30 rfl rfl rfl rfl rfl ?_
     refine Ja rfl rfl rfl (Vs Tryz.underlying30 rfl f0_2 rfl) ?_
     refine Ja rfl rfl rfl (Jc (v := .int .i64 (a0.Ints.length : Int)) rfl) ?_
     refine Jg ?_
     refine Jx ?_
     obtain rfl := Option.some.inj H18
     refine Qn (v := .int .i64 (a0.Ints.length : Int)) rfl rfl (Yh rfl)
theorem k76 {a0 : T_tag_Value} {v0_2 : Value} {v0_3 : Value} {v0_4 : Value} {r : Int} {w : World} {h : Qj} (hw : Know h w Vi) (f0_2 : FrS h 1 v0_2 (a0.Ints.map Xc)) (f0_3 : FrS h 2 v0_3 (a0.Ratios.map Jz)) (f0_4 : FrN h 6 v0_4 g_tag_Entry a0.Entries) (H : Uf a0 = some r) : Does Tryz.prog 76 (List.toArray [.agg #[.int .i64 a0.Kind, Jv a0.Text, v0_2, v0_3, v0_4]]) w (fun v w' => v = (.int .i64 r) ∧ Grow w w') := by
 refine enter (n := 9) Tryz.func76 rfl rfl rfl Vi [] (Sat.nil _ _) ?_
 refine Jf ?_
 refine Jb ?_
 refine U4 (cs := [.int .i64 a0.Kind, Jv a0.Text, v0_2, v0_3, v0_4]) rfl rfl rfl rfl (fun b1 => ?_)
 refine Ja rfl rfl rfl (Jc (v := .int .i64 0) rfl) ?_
 refine Jg ?_
 refine Jf ?_
 exact Xp (Kd.d [0] _ :: Kd.d [] _ :: Kd.p :: Kd.d [0] _ :: Kd.d [] _ :: Kd.p :: Kd.p :: []) 0 mixed (by
  refine d_loadN (i := 0) (vs := [.int .i64 a0.Kind, Jv a0.Text, v0_2, v0_3, v0_4]) Tryz.isAgg38 Tryz.sizeOf38 rfl rfl rfl rfl ?_
  have h_t4 := Qg H
  have H4 := J6 H
  refine d_callD (fun w L' hF hS hi => k75 (J7 w) (f0_2.mono (hw.now hF)) (f0_3.mono (hw.now hF)) (f0_4.mono (hw.now hF)) h_t4) Tryz.call75 rfl rfl ?_
  refine Jm rfl rfl (Jk Tryz.runUnderlying38 rfl Tryz.sizeOf3 rfl rfl) ?_
  refine Xq (i := 0) (v := .int .i64 a0.Kind) Tryz.isAgg3 rfl rfl rfl rfl ?_
  have h_t7 := Qg H4
  have H5 := J6 H4
  refine d_call (k139 h_t7) Tryz.call139 rfl rfl ?_
  have h_t8 := Qg H5
  have H6 := J6 H5
  refine Jm rfl rfl (W6 rfl rfl h_t8) ?_
  refine Jm rfl rfl (Jc (v := .int .i64 (val (gI ((val (tag_count a0)) * (val (Z9 a0.Kind)))))) rfl) ?_
  refine Zh ?_
  refine Jx ?_
  obtain rfl := Option.some.inj H6
  refine Qn (v := .int .i64 (val (gI ((val (tag_count a0)) * (val (Z9 a0.Kind)))))) rfl rfl (Yh rfl)
  ) (by kernel_rfl)
theorem k204 {a0 : Int} {r : Int} (H : tag_even a0 = some r) : Ret Tryz.prog 204 [.int .i64 a0] (.int .i64 r) := by
 refine Wa (n := 7) Tryz.func204 rfl rfl rfl (fun wd => ?_)
 refine Jf ?_
 refine Jb ?_
 refine Ja rfl rfl rfl (Jc (v := .int .i64 0) rfl) ?_
 refine Jg ?_
 refine Jf ?_
 refine Jb ?_
 refine Ja rfl rfl rfl (Je (v := .int .i64 a0) rfl) ?_
 refine Ja rfl rfl rfl (Je (v := .int .i64 a0) rfl) ?_
 obtain ⟨t5, h_t5, H3⟩ := Jh H; clear H
 refine Ja rfl rfl rfl (r_remG rfl rfl h_t5) ?_
 obtain ⟨t6, h_t6, H4⟩ := Jh H3; clear H3
 refine Ja rfl rfl rfl (Qe rfl rfl h_t6) ?_
 refine Ja rfl rfl rfl (Jc (v := .int .i64 t6) rfl) ?_
 refine Jg ?_
 refine Jx ?_
 obtain rfl := Option.some.inj H4
 refine Qn (v := .int .i64 t6) rfl rfl (Yh rfl)
theorem k163_it (mm : Nat) : ∀ {a0 : (List T_tag_Entry)} {v0 : Value} {a1 : Int} {r : Int} {w : World} {h : Qj} (hw : Know h w Vi) (f0 : FrN h 6 v0 g_tag_Entry a0) (H : it (fun (self : ((List T_tag_Entry) × Int) → Option (Int)) (s : (List T_tag_Entry) × Int) => Zy self s.1 s.2) mm (a0, a1) = some r), Does Tryz.prog 163 (List.toArray [v0, .int .i64 a1]) w (fun v w' => v = (.int .i64 r) ∧ Grow w w') := by
 induction mm with
 | zero => intros; rename_i H; exact absurd H (by simp [it])
 | succ mm ih =>
  intro a0 v0 a1 r w h hw f0 H
  replace H : Zy (it (fun (self : ((List T_tag_Entry) × Int) → Option (Int)) (s : (List T_tag_Entry) × Int) => Zy self s.1 s.2) mm) a0 a1 = some r := H
  generalize it (fun (self : ((List T_tag_Entry) × Int) → Option (Int)) (s : (List T_tag_Entry) × Int) => Zy self s.1 s.2) mm = self at H ih
  refine enter (n := 44) Tryz.func163 rfl rfl rfl Vi [] (Sat.nil _ _) ?_
  refine Jf ?_
  refine Jb ?_
  refine Ja rfl rfl rfl (Jc (v := .int .i64 0) rfl) ?_
  refine Jg ?_
  refine Jf ?_
  refine Jb ?_
  refine Ja rfl rfl rfl (Je (v := .int .i64 a1) rfl) ?_
  obtain ⟨t8, h_t8, H21⟩ := Jh H; clear H
  refine Wb (k204 h_t8) Tryz.call204 rfl rfl rfl ?_
  obtain ⟨t9, h_t9, H22⟩ := Jh H21; clear H21
  refine Ja rfl rfl rfl (Qe rfl rfl h_t9) ?_
  refine Ja rfl rfl rfl (Je (v := v0) rfl) ?_
  refine Ja rfl rfl rfl (Zg Tryz.underlying36 rfl f0) ?_
  obtain ⟨t12, h_t12, H23⟩ := Jh H22; clear H22
  refine Ja rfl rfl rfl (W6 rfl rfl h_t12) ?_
  obtain ⟨t13, h_t13, H24⟩ := Jh H23; clear H23
  refine Ja rfl rfl rfl (Qe rfl rfl h_t13) ?_
  obtain ⟨t14, h_t14, H25⟩ := Jh H24; clear H24
  refine Ja rfl rfl rfl (Qe rfl rfl h_t14) ?_
  refine Ja rfl rfl rfl (Jc (v := .int .i64 t14) rfl) ?_
  refine Jg ?_
  refine Jf ?_
  refine Jf ?_
  refine Jb ?_
  refine Ja rfl rfl rfl (Je (v := v0) rfl) ?_
  refine Ja rfl rfl rfl (Zg Tryz.underlying36 rfl f0) ?_
  refine Ja rfl rfl rfl (Je (v := .int .i64 0) rfl) ?_
  refine Jg ?_
  refine J8 ?_
  refine Z2 (σ := Int × Int) (τ := Unit) (fun next1 s => Zk a0 self next1 s.1 s.2) (fun s t => [(1, .int .i64 s.1), (15, v0), (16, .int .i64 (a0.length : Int)), (17, .int .i64 s.2)]) (fun s t => []) (fun s t => True) (t14, 0) () [] H25 (by exact trivial) (by exact ⟨rfl, rfl, rfl, rfl, trivial⟩) (by decide) rfl ?_
  rintro ⟨x1_2, x17_2⟩ _ m1 gg H26 _
  clear H25
  replace H26 : Zk a0 self (it (fun next1 s => Zk a0 self next1 s.1 s.2) m1) x1_2 x17_2 = some r := H26
  generalize hn1 : it (fun next1 s => Zk a0 self next1 s.1 s.2) m1 = next1 at H26
  try dsimp only
  refine Jf ?_
  refine Jb ?_
  refine Ja rfl rfl rfl (Zc rfl rfl) ?_
  refine Jg ?_
  refine Jf ?_
  refine Qd (b := (decide (x17_2 < (a0.length : Int)))) rfl (fun hb => ?_) (fun hb => ?_)
  ·have H27 := Jp hb H26; clear H26
   refine Jt ?_
   refine Qz (r := r) (σ := Int) (τ := Unit) (fun s => Wx x17_2 next1 s) (fun s t => [(1, .int .i64 s), (15, v0), (16, .int .i64 (a0.length : Int)), (17, .int .i64 x17_2)]) (fun s t => []) (fun s t => True) ?_ ?_
   ·refine J8 ?_
    refine Jf ?_
    refine Jb ?_
    obtain ⟨t19, h_t19, H30⟩ := Jh H27; clear H27
    refine Ja rfl rfl rfl (X5 Tryz.underlying36 Tryz.sizeOf83 rfl rfl f0.frs (f0.ix h_t19)) ?_
    refine Yu (fun w hF hS => Y4 (f := (elC h v0 6)) (i := x17_2) (sz := 6) (j := 0) (vs := [.int .i64 t19.Tag, .int .i64 t19.Value.Kind, Jv t19.Value.Text, (Xk h v0 6 (Int.toNat x17_2) 3), (Xk h v0 6 (Int.toNat x17_2) 4), (Xk h v0 6 (Int.toNat x17_2) 5)]) Tryz.isAgg83 Tryz.sizeOf83 rfl rfl (f0.frs.row (hw.now hF)) (f0.ix h_t19) (rd_of (Vd (f0.at h_t19)) rfl)) rfl rfl rfl ?_
    refine Yo (cs := [.int .i64 0, .int .i64 0, Jv [], .slice none 0 0, .slice none 0 0, .slice none 0 0]) Tryz.zeroValue83 rfl rfl rfl (fun b1 => ?_)
    refine Qc (i := 0) (vs := [.int .i64 t19.Tag, .int .i64 t19.Value.Kind, Jv t19.Value.Text, (Xk h v0 6 (Int.toNat x17_2) 3), (Xk h v0 6 (Int.toNat x17_2) 4), (Xk h v0 6 (Int.toNat x17_2) 5)]) (cs' := [.int .i64 t19.Tag, .int .i64 t19.Value.Kind, Jv t19.Value.Text, (Xk h v0 6 (Int.toNat x17_2) 3), (Xk h v0 6 (Int.toNat x17_2) 4), (Xk h v0 6 (Int.toNat x17_2) 5)]) Tryz.sizeOf83 rfl rfl rfl rfl rfl rfl (by simp only [List.all_cons, List.all_nil, (show FrN h 6 (Xk h v0 6 (Int.toNat x17_2) 5) g_tag_Entry t19.Value.Entries from (Qv (Jr (f0.at h_t19)))).one, (show FrS h 1 (Xk h v0 6 (Int.toNat x17_2) 3) (t19.Value.Ints.map Xc) from (Q5 (Jr (f0.at h_t19)))).one, (show FrS h 2 (Xk h v0 6 (Int.toNat x17_2) 4) (t19.Value.Ratios.map Jz) from (Q4 (Jr (f0.at h_t19)))).one] <;> rfl) rfl rfl ?_
    refine Jg ?_
    refine J8 ?_
    refine Jf ?_
    refine Jb ?_
    refine Ja rfl rfl rfl (Jk Tryz.runUnderlying83 rfl Tryz.sizeOf38 rfl rfl) ?_
    refine Ja rfl rfl rfl (Jk Tryz.runUnderlying38 rfl Tryz.sizeOf3 rfl rfl) ?_
    refine Js (i := 0) (v := .int .i64 t19.Value.Kind) Tryz.isAgg3 rfl rfl rfl rfl rfl ?_
    refine Ja rfl rfl rfl (Q0 rfl rfl) ?_
    refine Ja rfl rfl rfl (Jc (v := .bool (decide (t19.Value.Kind = 13))) rfl) ?_
    refine Jg ?_
    refine Qd (b := (decide (t19.Value.Kind = 13))) rfl (fun hb => ?_) (fun hb => ?_)
    ·have H31 := Jp hb H30; clear H30
     refine Jb ?_
     refine Ja rfl rfl rfl (Jk Tryz.runUnderlying83 rfl Tryz.sizeOf38 rfl rfl) ?_
     refine Ja rfl rfl rfl (Jk Tryz.runUnderlying38 rfl Tryz.sizeOf36 rfl rfl) ?_
     refine Js (i := 0) (v := (Xk h v0 6 (Int.toNat x17_2) 5)) Tryz.isAgg36 rfl rfl rfl rfl rfl ?_
     refine Ja rfl rfl rfl (Je (v := .int .i64 x1_2) rfl) ?_
     obtain ⟨t30, h_t30, H32⟩ := Jh H31; clear H31
     refine Qw (fun w hF hS => ih (J7 w) ((show FrN h 6 (Xk h v0 6 (Int.toNat x17_2) 5) g_tag_Entry t19.Value.Entries from (Qv (Jr (f0.at h_t19)))).mono (hw.now hF)) h_t30) Tryz.call163 rfl rfl rfl ?_
     refine Ja rfl rfl rfl (Jc (v := .int .i64 t30) rfl) ?_
     refine Jg ?_
     refine Jn t30 () 0 [] (by exact ⟨rfl, rfl, rfl, rfl, trivial⟩) (by decide) (by kernel_rfl) (by exact ⟨H32, trivial⟩) (Nat.lt_succ_self _)
    ·have H33 := Jq hb H30; clear H30
     refine Jf ?_
     refine Jb ?_
     refine Ja rfl rfl rfl (Jk Tryz.runUnderlying83 rfl Tryz.sizeOf38 rfl rfl) ?_
     refine Xr (i := 0) (vs := [.int .i64 t19.Value.Kind, Jv t19.Value.Text, (Xk h v0 6 (Int.toNat x17_2) 3), (Xk h v0 6 (Int.toNat x17_2) 4), (Xk h v0 6 (Int.toNat x17_2) 5)]) Tryz.isAgg38 Tryz.sizeOf38 rfl rfl rfl rfl rfl ?_
     obtain ⟨t34, h_t34, H34⟩ := Jh H33; clear H33
     refine Qw (fun w hF hS => k76 (J7 w) ((show FrS h 1 (Xk h v0 6 (Int.toNat x17_2) 3) (t19.Value.Ints.map Xc) from (Q5 (Jr (f0.at h_t19)))).mono (hw.now hF)) ((show FrS h 2 (Xk h v0 6 (Int.toNat x17_2) 4) (t19.Value.Ratios.map Jz) from (Q4 (Jr (f0.at h_t19)))).mono (hw.now hF)) ((show FrN h 6 (Xk h v0 6 (Int.toNat x17_2) 5) g_tag_Entry t19.Value.Entries from (Qv (Jr (f0.at h_t19)))).mono (hw.now hF)) h_t34) Tryz.call76 rfl rfl rfl ?_
     refine Ja rfl rfl rfl (Zm rfl rfl) ?_
     refine Ja rfl rfl rfl (Jc (v := .bool (decide (4 < t34))) rfl) ?_
     refine Jg ?_
     refine Qd (b := (decide (4 < t34))) rfl (fun hb => ?_) (fun hb => ?_)
     ·have H35 := Jp hb H34; clear H34
      exact Xp (Kd.p :: Kd.d [] _ :: Kd.p :: Kd.d [0] _ :: Kd.d [] _ :: Kd.p :: Kd.p :: []) 0 mixed (by
       refine Jm rfl rfl (Je (v := .int .i64 x1_2) rfl) ?_
       have h_t37 := Qg H35
       have H36 := J6 H35
       refine d_call (k204 h_t37) Tryz.call204 rfl rfl ?_
       refine Jm rfl rfl (Jk Tryz.runUnderlying83 rfl Tryz.sizeOf38 rfl rfl) ?_
       refine d_loadN (i := 0) (vs := [.int .i64 t19.Value.Kind, Jv t19.Value.Text, (Xk h v0 6 (Int.toNat x17_2) 3), (Xk h v0 6 (Int.toNat x17_2) 4), (Xk h v0 6 (Int.toNat x17_2) 5)]) Tryz.isAgg38 Tryz.sizeOf38 rfl rfl rfl rfl ?_
       have h_t40 := Qg H36
       have H37 := J6 H36
       refine d_callD (fun w L' hF hS hi => k76 (J7 w) ((show FrS h 1 (Xk h v0 6 (Int.toNat x17_2) 3) (t19.Value.Ints.map Xc) from (Q5 (Jr (f0.at h_t19)))).mono (hw.now hF)) ((show FrS h 2 (Xk h v0 6 (Int.toNat x17_2) 4) (t19.Value.Ratios.map Jz) from (Q4 (Jr (f0.at h_t19)))).mono (hw.now hF)) ((show FrN h 6 (Xk h v0 6 (Int.toNat x17_2) 5) g_tag_Entry t19.Value.Entries from (Qv (Jr (f0.at h_t19)))).mono (hw.now hF)) h_t40) Tryz.call76 rfl rfl ?_
       have h_t41 := Qg H37
       have H38 := J6 H37
       refine Jm rfl rfl (Qe rfl rfl h_t41) ?_
       refine Jm rfl rfl (Jc (v := .int .i64 (val (gI ((val (tag_even x1_2)) + (val (Uf t19.Value)))))) rfl) ?_
       refine Zh ?_
       refine Jn (val (gI ((val (tag_even x1_2)) + (val (Uf t19.Value))))) () 0 [] (by exact ⟨rfl, rfl, rfl, rfl, trivial⟩) (by decide) (by kernel_rfl) (by exact ⟨H38, trivial⟩) (Nat.lt_succ_self _)
       ) (by kernel_rfl)
     ·have H39 := Jq hb H34; clear H34
      refine Jt ?_
      refine Jn x1_2 () 0 [] (by exact ⟨rfl, rfl, rfl, rfl, trivial⟩) (by decide) (by kernel_rfl) (by exact ⟨H39, trivial⟩) (Nat.lt_succ_self _)
   ·rintro x1_3 _ gg H28 _
    replace H28 : Wx x17_2 next1 x1_3 = some r := H28
    try dsimp only
    refine Jb ?_
    obtain ⟨t42, h_t42, H29⟩ := Jh H28; clear H28
    refine Ja rfl rfl rfl (Qe rfl rfl h_t42) ?_
    refine Ja rfl rfl rfl (Je (v := .int .i64 t42) rfl) ?_
    refine Jg ?_
    refine Jn (x1_3, t42) () m1 [] (by exact ⟨rfl, rfl, rfl, rfl, trivial⟩) (by decide) (by kernel_rfl) (by exact ⟨(by subst hn1; exact H29), trivial⟩) (Nat.lt_succ_self _)
  ·have H40 := Jq hb H26; clear H26
   refine X3 ?_
   refine Jf ?_
   refine Jb ?_
   refine Ja rfl rfl rfl (Je (v := .int .i64 x1_2) rfl) ?_
   refine Ja rfl rfl rfl (Jc (v := .int .i64 x1_2) rfl) ?_
   refine Jg ?_
   refine Jx ?_
   obtain rfl := Option.some.inj H40
   refine Qn (v := .int .i64 x1_2) rfl rfl (Yh rfl)
theorem k163 {a0 : (List T_tag_Entry)} {v0 : Value} {a1 : Int} {r : Int} {w : World} {h : Qj} (hw : Know h w Vi) (f0 : FrN h 6 v0 g_tag_Entry a0) (H : tag_dirEnd a0 a1 = some r) : Does Tryz.prog 163 (List.toArray [v0, .int .i64 a1]) w (fun v w' => v = (.int .i64 r) ∧ Grow w w') := by
 obtain ⟨mm, hm⟩ := fix_it (show Z3 (fun (self : ((List T_tag_Entry) × Int) → Option (Int)) (s : (List T_tag_Entry) × Int) => Zy self s.1 s.2) (a0, a1) = some r from H)
 exact k163_it mm hw f0 hm
theorem k103 {a0 : T_tag_File} {v0_1 : Value} {r : Int} {w : World} {h : Qj} (hw : Know h w Vi) (f0_1 : FrN h 1 v0_1 gs_tag_Entry a0.Dirs) (H : tag_size a0 = some r) : Does Tryz.prog 103 (List.toArray [.agg #[.bool a0.Big, v0_1]]) w (fun v w' => v = (.int .i64 r) ∧ Grow w w') := by
 refine enter (n := 18) Tryz.func103 rfl rfl rfl Vi [] (Sat.nil _ _) ?_
 refine Jf ?_
 refine Jb ?_
 refine U4 (cs := [.bool a0.Big, v0_1]) rfl rfl rfl rfl (fun b1 => ?_)
 refine Ja rfl rfl rfl (Jc (v := .int .i64 0) rfl) ?_
 refine Jg ?_
 refine Jf ?_
 refine Jb ?_
 refine Ja rfl rfl rfl (Jc (v := .int .i64 8) rfl) ?_
 refine Jg ?_
 refine Jf ?_
 refine Jf ?_
 refine Jb ?_
 refine Ja rfl rfl rfl (Jk Tryz.runUnderlying24 rfl Tryz.sizeOf22 rfl rfl) ?_
 refine Js (i := 0) (v := v0_1) Tryz.isAgg22 rfl rfl rfl rfl rfl ?_
 refine Ja rfl rfl rfl (Zg Tryz.underlying22 rfl f0_1) ?_
 refine Ja rfl rfl rfl (Je (v := .int .i64 0) rfl) ?_
 refine Jg ?_
 refine J8 ?_
 refine c_dr 0 ?_
 try dsimp only [z1, z2, z3, z4, z5, z6, z7, z8]
 refine Z2 (σ := Int × Int) (τ := Unit) (fun next1 s => V0 a0 next1 s.1 s.2) (fun s t => [(3, .int .i64 s.1), (7, v0_1), (8, .int .i64 (a0.Dirs.length : Int)), (9, .int .i64 s.2)]) (fun s t => []) (fun s t => True) (8, 0) () [] H (by exact trivial) (by exact ⟨rfl, rfl, rfl, rfl, trivial⟩) (by decide) rfl ?_
 rintro ⟨x3_2, x9_2⟩ _ m1 gg H7 _
 clear H
 replace H7 : V0 a0 (it (fun next1 s => V0 a0 next1 s.1 s.2) m1) x3_2 x9_2 = some r := H7
 generalize hn1 : it (fun next1 s => V0 a0 next1 s.1 s.2) m1 = next1 at H7
 try dsimp only
 refine Jf ?_
 refine Jb ?_
 refine Ja rfl rfl rfl (Zc rfl rfl) ?_
 refine Jg ?_
 refine Jf ?_
 refine Qd (b := (decide (x9_2 < (a0.Dirs.length : Int)))) rfl (fun hb => ?_) (fun hb => ?_)
 ·have H8 := Jp hb H7; clear H7
  refine Jt ?_
  refine Jf ?_
  refine J8 ?_
  refine Jf ?_
  refine Jb ?_
  obtain ⟨t11, h_t11, H9⟩ := Jh H8; clear H8
  refine Ja rfl rfl rfl (X5 Tryz.underlying22 Tryz.sizeOf36 rfl rfl f0_1.frs (f0_1.ix h_t11)) ?_
  refine Yu (fun w hF hS => X4 (f := (elC h v0_1 1)) (i := x9_2) (sz := 1) (j := 0) (v := (Xk h v0_1 1 (Int.toNat x9_2) 0)) Tryz.isAgg36 rfl rfl (f0_1.frs.row (hw.now hF)) (f0_1.ix h_t11) (rg_of (Ur (f0_1.at h_t11)) rfl)) rfl rfl rfl ?_
  refine Ja rfl rfl rfl (Jc (v := (Xk h v0_1 1 (Int.toNat x9_2) 0)) rfl) ?_
  refine Jg ?_
  refine Jb ?_
  refine Ja rfl rfl rfl (Je (v := (Xk h v0_1 1 (Int.toNat x9_2) 0)) rfl) ?_
  refine Ja rfl rfl rfl (Je (v := .int .i64 x3_2) rfl) ?_
  obtain ⟨t15, h_t15, H10⟩ := Jh H9; clear H9
  refine Qw (fun w hF hS => k163 (J7 w) ((show FrN h 6 (Xk h v0_1 1 (Int.toNat x9_2) 0) g_tag_Entry t11 from (f0_1.at h_t11)).mono (hw.now hF)) h_t15) Tryz.call163 rfl rfl rfl ?_
  refine Ja rfl rfl rfl (Jc (v := .int .i64 t15) rfl) ?_
  refine Jg ?_
  refine Jb ?_
  obtain ⟨t16, h_t16, H11⟩ := Jh H10; clear H10
  refine Ja rfl rfl rfl (Qe rfl rfl h_t16) ?_
  refine Ja rfl rfl rfl (Je (v := .int .i64 t16) rfl) ?_
  refine Jg ?_
  refine Jn (t15, t16) () m1 [] (by exact ⟨rfl, rfl, rfl, rfl, trivial⟩) (by decide) (by kernel_rfl) (by exact ⟨(by subst hn1; exact H11), trivial⟩) (Nat.lt_succ_self _)
 ·have H12 := Jq hb H7; clear H7
  refine X3 ?_
  refine Jf ?_
  refine Jb ?_
  refine Ja rfl rfl rfl (Je (v := .int .i64 x3_2) rfl) ?_
  refine Ja rfl rfl rfl (Jc (v := .int .i64 x3_2) rfl) ?_
  refine Jg ?_
  refine Jx ?_
  obtain rfl := Option.some.inj H12
  refine Qn (v := .int .i64 x3_2) rfl rfl (Yh rfl)
theorem k37 {a0 : T_tag_File} {v0_1 : Value} {r : Int} {w : World} {h : Qj} (hw : Know h w Vi) (f0_1 : FrN h 1 v0_1 gs_tag_Entry a0.Dirs) (H : tag_Check a0 = some r) : Does Tryz.prog 37 (List.toArray [.agg #[.bool a0.Big, v0_1]]) w (fun v w' => v = (.int .i64 r) ∧ Grow w w') := by
 refine enter (n := 26) Tryz.func37 rfl rfl rfl Vi [] (Sat.nil _ _) ?_
 refine Jf ?_
 refine Jb ?_
 refine U4 (cs := [.bool a0.Big, v0_1]) rfl rfl rfl rfl (fun b1 => ?_)
 refine Ja rfl rfl rfl (Jc (v := .int .i64 0) rfl) ?_
 refine Jg ?_
 refine Jf ?_
 refine Jf ?_
 refine Jb ?_
 refine Ja rfl rfl rfl (Jk Tryz.runUnderlying24 rfl Tryz.sizeOf22 rfl rfl) ?_
 refine Js (i := 0) (v := v0_1) Tryz.isAgg22 rfl rfl rfl rfl rfl ?_
 refine Ja rfl rfl rfl (Zg Tryz.underlying22 rfl f0_1) ?_
 refine Ja rfl rfl rfl (Zm rfl rfl) ?_
 refine Jg ?_
 refine Qd (b := (decide (20 < (a0.Dirs.length : Int)))) rfl (fun hb => ?_) (fun hb => ?_)
 ·have H15 := Jp hb H; clear H
  refine Jf ?_
  refine Jb ?_
  refine Ja rfl rfl rfl (Jc (v := .int .i64 4) rfl) ?_
  refine Jg ?_
  refine Jx ?_
  obtain rfl := Option.some.inj H15
  refine Qn (v := .int .i64 4) rfl rfl (Yh rfl)
 ·have H16 := Jq hb H; clear H
  refine Jt ?_
  refine Qz (r := r) (σ := Unit) (τ := Unit) (fun s => tag_Check_j1 a0) (fun s t => [(1, .pointer (some ⟨b1, 0, none⟩))]) (fun s t => [Jo b1 [.bool a0.Big, v0_1] 24]) (fun s t => True) ?_ ?_
  ·refine Jf ?_
   refine Jb ?_
   refine Ja rfl rfl rfl (Jk Tryz.runUnderlying24 rfl Tryz.sizeOf22 rfl rfl) ?_
   refine Js (i := 0) (v := v0_1) Tryz.isAgg22 rfl rfl rfl rfl rfl ?_
   refine Ja rfl rfl rfl (Zg Tryz.underlying22 rfl f0_1) ?_
   refine Ja rfl rfl rfl (Je (v := .int .i64 0) rfl) ?_
   refine Jg ?_
   refine J8 ?_
   refine Z2 (σ := Int) (τ := Unit) (fun next2 s => Vb a0 next2 s) (fun s t => [(1, .pointer (some ⟨b1, 0, none⟩)), (11, v0_1), (12, .int .i64 (a0.Dirs.length : Int)), (13, .int .i64 s)]) (fun s t => [Jo b1 [.bool a0.Big, v0_1] 24]) (fun s t => True) 0 () [0] H16 (by exact trivial) (by exact ⟨rfl, rfl, rfl, rfl, trivial⟩) (by decide) rfl ?_
   rintro x13_2 _ m2 gg H21 _
   clear H16
   replace H21 : Vb a0 (it (fun next2 s => Vb a0 next2 s) m2) x13_2 = some r := H21
   generalize hn2 : it (fun next2 s => Vb a0 next2 s) m2 = next2 at H21
   try dsimp only
   refine Jf ?_
   refine Jb ?_
   refine Ja rfl rfl rfl (Zc rfl rfl) ?_
   refine Jg ?_
   refine Jf ?_
   refine Qd (b := (decide (x13_2 < (a0.Dirs.length : Int)))) rfl (fun hb => ?_) (fun hb => ?_)
   ·have H22 := Jp hb H21; clear H21
    refine Jt ?_
    refine Jf ?_
    refine J8 ?_
    refine Jf ?_
    refine Jb ?_
    obtain ⟨t15, h_t15, H23⟩ := Jh H22; clear H22
    refine Ja rfl rfl rfl (X5 Tryz.underlying22 Tryz.sizeOf36 rfl rfl f0_1.frs (f0_1.ix h_t15)) ?_
    refine Yu (fun w hF hS => X4 (f := (elC h v0_1 1)) (i := x13_2) (sz := 1) (j := 0) (v := (Xk h v0_1 1 (Int.toNat x13_2) 0)) Tryz.isAgg36 rfl rfl (f0_1.frs.row (hw.now hF)) (f0_1.ix h_t15) (rg_of (Ur (f0_1.at h_t15)) rfl)) rfl rfl rfl ?_
    refine Ja rfl rfl rfl (Jc (v := (Xk h v0_1 1 (Int.toNat x13_2) 0)) rfl) ?_
    refine Jg ?_
    refine Jf ?_
    refine Jb ?_
    refine Ja rfl rfl rfl (Je (v := (Xk h v0_1 1 (Int.toNat x13_2) 0)) rfl) ?_
    obtain ⟨t18, h_t18, H24⟩ := Jh H23; clear H23
    refine Qw (fun w hF hS => k102 (J7 w) ((show FrN h 6 (Xk h v0_1 1 (Int.toNat x13_2) 0) g_tag_Entry t15 from (f0_1.at h_t15)).mono (hw.now hF)) h_t18) Tryz.call102 rfl rfl rfl ?_
    refine Ja rfl rfl rfl (Jc (v := .int .i64 t18) rfl) ?_
    refine Jg ?_
    refine Jf ?_
    refine Jb ?_
    refine Ja rfl rfl rfl (Je (v := .int .i64 t18) rfl) ?_
    refine Ja rfl rfl rfl (Va rfl rfl) ?_
    refine Jg ?_
    refine Qd (b := (decide (t18 ≠ 0))) rfl (fun hb => ?_) (fun hb => ?_)
    ·have H25 := Jp hb H24; clear H24
     refine Jf ?_
     refine Jb ?_
     refine Ja rfl rfl rfl (Je (v := .int .i64 t18) rfl) ?_
     refine Ja rfl rfl rfl (Jc (v := .int .i64 t18) rfl) ?_
     refine Jg ?_
     refine Jx ?_
     obtain rfl := Option.some.inj H25
     refine Qn (v := .int .i64 t18) rfl rfl (Yh rfl)
    ·have H26 := Jq hb H24; clear H24
     refine Jt ?_
     refine Jb ?_
     obtain ⟨t22, h_t22, H27⟩ := Jh H26; clear H26
     refine Ja rfl rfl rfl (Qe rfl rfl h_t22) ?_
     refine Ja rfl rfl rfl (Je (v := .int .i64 t22) rfl) ?_
     refine Jg ?_
     refine Jn t22 () m2 [0] (by exact ⟨rfl, rfl, rfl, rfl, trivial⟩) (by decide) (by kernel_rfl) (by exact ⟨(by subst hn2; exact H27), trivial⟩) (Nat.lt_succ_self _)
   ·have H28 := Jq hb H21; clear H21
    refine X3 ?_
    refine Jn () () 0 [0] (by exact ⟨rfl, trivial⟩) (by decide) (by kernel_rfl) (by exact ⟨H28, trivial⟩) (Nat.lt_succ_self _)
  ·rintro _ _ gg H17 _
   replace H17 : tag_Check_j1 a0 = some r := H17
   try dsimp only
   refine Jf ?_
   refine Jf ?_
   refine Jb ?_
   refine Xr (i := 0) (vs := [.bool a0.Big, v0_1]) Tryz.isAgg24 Tryz.sizeOf24 rfl rfl rfl rfl rfl ?_
   obtain ⟨t24, h_t24, H18⟩ := Jh H17; clear H17
   refine Qw (fun w hF hS => k103 (J7 w) (f0_1.mono (hw.now hF)) h_t24) Tryz.call103 rfl rfl rfl ?_
   refine Ja rfl rfl rfl (Zm rfl rfl) ?_
   refine Jg ?_
   refine Qd (b := (decide (65000 < t24))) rfl (fun hb => ?_) (fun hb => ?_)
   ·have H19 := Jp hb H18; clear H18
    refine Jf ?_
    refine Jb ?_
    refine Ja rfl rfl rfl (Jc (v := .int .i64 4) rfl) ?_
    refine Jg ?_
    refine Jx ?_
    obtain rfl := Option.some.inj H19
    refine Qn (v := .int .i64 4) rfl rfl (Yh rfl)
   ·have H20 := Jq hb H18; clear H18
    refine Jt ?_
    refine Jf ?_
    refine Jb ?_
    refine Ja rfl rfl rfl (Jc (v := .int .i64 0) rfl) ?_
    refine Jg ?_
    refine Jx ?_
    obtain rfl := Option.some.inj H20
    refine Qn (v := .int .i64 0) rfl rfl (Yh rfl)
theorem k145 {a0 : Bool} {a1 : Int} {a2 : Int} {r : (List UInt8)} (H : Yr a0 a1 a2 = some r) : Ret Tryz.prog 145 [.bool a0, .int .i64 a1, .int .i64 a2] (Jv r) := by
 refine Wa (n := 34) Tryz.func145 rfl rfl rfl (fun wd => ?_)
 refine Jf ?_
 refine Jb ?_
 refine Ja rfl rfl rfl (Jc (v := Jv []) rfl) ?_
 refine Jg ?_
 refine Jf ?_
 refine Jb ?_
 refine Ja rfl rfl rfl (Je (v := .int .i64 a2) rfl) ?_
 obtain ⟨t11, h_t11, H16⟩ := Jh H; clear H
 refine l_make (rds := []) (makes_makeG (E := 5) (sz := 1) (f := e_u8) (xs := t11) Tryz.underlying111 (Z1 Tryz.typeInfo5) rfl rfl rfl rfl rfl rfl ⟨rfl, rfl⟩ h_t11) rfl rfl rfl (fun p => ?_)
 refine Ja rfl rfl rfl (Jc (v := .slice p.1 t11.length p.2) rfl) ?_
 refine Jg ?_
 refine Qz (r := r) (σ := (List Int)) (τ := Unit) (fun s => R_number_j1 s) (fun s t => [(7, .slice p.1 t11.length p.2)]) (fun s t => [Qa 5 1 (.slice p.1 t11.length p.2) t11.length (s.map e_u8)]) (fun s t => t11.length = s.length) ?_ ?_
 ·refine Jf ?_
  refine Jb ?_
  refine Ja rfl rfl rfl (Je (v := .slice p.1 t11.length p.2) rfl) ?_
  refine Ja rfl rfl rfl (r_len Tryz.underlying111 rfl) ?_
  refine Ja rfl rfl rfl (Je (v := .int .i64 0) rfl) ?_
  refine Jg ?_
  refine J8 ?_
  refine Z2 (σ := Int × (List Int)) (τ := Unit) (fun next2 s => Vf a0 a1 a2 t11 next2 s.1 s.2) (fun s t => [(0, .bool a0), (1, .int .i64 a1), (2, .int .i64 a2), (7, .slice p.1 t11.length p.2), (13, .int .i64 (t11.length : Int)), (14, .int .i64 s.1)]) (fun s t => [Qa 5 1 (.slice p.1 t11.length p.2) t11.length (s.2.map e_u8)]) (fun s t => t11.length = s.2.length) (0, t11) () [0] H16 (by exact rfl) (by exact ⟨rfl, rfl, rfl, rfl, rfl, rfl, trivial⟩) (by decide) rfl ?_
  rintro ⟨x14_2, l_3⟩ _ m2 gg H18 hl_3
  clear H16
  replace H18 : Vf a0 a1 a2 t11 (it (fun next2 s => Vf a0 a1 a2 t11 next2 s.1 s.2) m2) x14_2 l_3 = some r := H18
  generalize hn2 : it (fun next2 s => Vf a0 a1 a2 t11 next2 s.1 s.2) m2 = next2 at H18
  try dsimp only
  refine Jf ?_
  refine Jb ?_
  refine Ja rfl rfl rfl (Zc rfl rfl) ?_
  refine Jg ?_
  refine Jf ?_
  refine Qd (b := (decide (x14_2 < (t11.length : Int)))) rfl (fun hb => ?_) (fun hb => ?_)
  ·have H19 := Jp hb H18; clear H18
   refine Jt ?_
   refine Jf ?_
   refine J8 ?_
   refine Jf ?_
   refine Jb ?_
   refine Ja rfl rfl rfl (Je (v := .int .i64 x14_2) rfl) ?_
   refine Ja rfl rfl rfl (Jc (v := .int .i64 x14_2) rfl) ?_
   refine Jg ?_
   refine Jf ?_
   refine Jb ?_
   refine Ja rfl rfl rfl (Je (v := .int .i64 x14_2) rfl) ?_
   refine Ja rfl rfl rfl (Jc (v := .int .i64 x14_2) rfl) ?_
   refine Jg ?_
   refine Qz (r := r) (σ := Int) (τ := Unit) (fun s => Jat a1 x14_2 l_3 next2 s) (fun s t => [(0, .bool a0), (1, .int .i64 a1), (2, .int .i64 a2), (7, .slice p.1 t11.length p.2), (8, .int .i64 x14_2), (9, .int .i64 s), (13, .int .i64 (t11.length : Int)), (14, .int .i64 x14_2)]) (fun s t => [Qa 5 1 (.slice p.1 t11.length p.2) t11.length (l_3.map e_u8)]) (fun s t => True) ?_ ?_
   ·refine Jf ?_
    refine Jb ?_
    refine Ja rfl rfl rfl (Je (v := .bool a0) rfl) ?_
    refine Jg ?_
    refine Qd (b := a0) rfl (fun hb => ?_) (fun hb => ?_)
    ·have H26 := Jp hb H19; clear H19
     refine Jb ?_
     refine Ja rfl rfl rfl (Je (v := .int .i64 a2) rfl) ?_
     obtain ⟨t20, h_t20, H27⟩ := Jh H26; clear H26
     refine Ja rfl rfl rfl (Wv rfl rfl h_t20) ?_
     refine Ja rfl rfl rfl (Je (v := .int .i64 x14_2) rfl) ?_
     obtain ⟨t22, h_t22, H28⟩ := Jh H27; clear H27
     refine Ja rfl rfl rfl (Wv rfl rfl h_t22) ?_
     refine Ja rfl rfl rfl (Jc (v := .int .i64 t22) rfl) ?_
     refine Jg ?_
     refine Jn t22 () 0 [0] (by exact ⟨rfl, rfl, rfl, rfl, rfl, rfl, rfl, rfl, trivial⟩) (by decide) (by kernel_rfl) (by exact ⟨H28, trivial⟩) (Nat.lt_succ_self _)
    ·have H29 := Jq hb H19; clear H19
     refine Jt ?_
     refine Jn x14_2 () 0 [0] (by exact ⟨rfl, rfl, rfl, rfl, rfl, rfl, rfl, rfl, trivial⟩) (by decide) (by kernel_rfl) (by exact ⟨H29, trivial⟩) (Nat.lt_succ_self _)
   ·rintro x9 _ gg H20 _
    replace H20 : Jat a1 x14_2 l_3 next2 x9 = some r := H20
    try dsimp only
    refine Jb ?_
    refine Ja rfl rfl rfl (Je (v := .slice p.1 t11.length p.2) rfl) ?_
    refine Ja rfl rfl rfl (Je (v := .int .i64 x9) rfl) ?_
    refine Ja rfl rfl rfl (Je (v := .int .i64 a1) rfl) ?_
    refine Ja rfl rfl rfl (Je (v := .int .i64 x14_2) rfl) ?_
    obtain ⟨t27, h_t27, H21⟩ := Jh H20; clear H20
    refine Ja rfl rfl rfl (W6 rfl rfl h_t27) ?_
    obtain ⟨t28, h_t28, H22⟩ := Jh H21; clear H21
    refine Ja rfl rfl rfl (r_shrG rfl rfl rfl h_t28) ?_
    refine Ja rfl rfl rfl (r_convG Tryz.runUnderlying3 Tryz.runUnderlying5 rfl (wr_u8 _)) ?_
    obtain ⟨t30, h_t30, H23⟩ := Jh H22; clear H22
    refine Yu (fun w hF hS => V7 Tryz.underlying111 Tryz.sizeOf5 rfl rfl (W4 (i := 0) hS rfl) hl_3 h_t30) rfl rfl rfl ?_
    obtain ⟨l0, h_l0, H24⟩ := Jh H23; clear H23
    refine l_storeG (q := 0) (j := 0) (i := x9) (sz := 1) (hm := hl_3) (f := e_u8) (vs := [.int .u8 (wU8 t28)]) Tryz.sizeOf5 rfl rfl rfl rfl rfl rfl rfl rfl rfl (fun y_ hy_ => by first | rfl | (cases hy_.symm.trans h_t30; rfl)) h_l0 ?_
    refine Jg ?_
    refine Jb ?_
    obtain ⟨t31, h_t31, H25⟩ := Jh H24; clear H24
    refine Ja rfl rfl rfl (Qe rfl rfl h_t31) ?_
    refine Ja rfl rfl rfl (Je (v := .int .i64 t31) rfl) ?_
    refine Jg ?_
    refine Jn (t31, l0) () m2 [0] (by exact ⟨rfl, rfl, rfl, rfl, rfl, rfl, trivial⟩) (by decide) (by kernel_rfl) (by exact ⟨(by subst hn2; exact H25), (gSet_n hl_3 h_l0)⟩) (Nat.lt_succ_self _)
  ·have H30 := Jq hb H18; clear H18
   refine X3 ?_
   refine Jn l_3 () 0 [0] (by exact ⟨rfl, trivial⟩) (by decide) (by kernel_rfl) (by exact ⟨H30, hl_3⟩) (Nat.lt_succ_self _)
 ·rintro l _ gg H17 hl
  replace H17 : R_number_j1 l = some r := H17
  try dsimp only
  refine Jf ?_
  refine Jb ?_
  refine Ja rfl rfl rfl (Je (v := .slice p.1 t11.length p.2) rfl) ?_
  refine Yu (fun w hF hS => run_bytes (f := e_u8) (xs := l) hl Tryz.underlying111 Tryz.underlying5 Tryz.underlying9 rfl (fun _ => rfl) (W4 (i := 0) hS rfl)) rfl rfl rfl ?_
  refine Ja rfl rfl rfl (Jc (v := Jv (toStr l)) rfl) ?_
  refine Jg ?_
  refine Jx ?_
  obtain rfl := Option.some.inj H17
  refine Qn (v := Jv (toStr l)) rfl rfl (Yh rfl)
theorem k83 {a0 : T_tintref2_written} {pb0 : Nat} {a1 : Int} {a2 : Int} {a3 : Int} {r : T_tintref2_written} {w : World} {h : Qj} {S : Nat → Prop} (hcs : (Jo pb0 [Jv a0.s_, .bool a0.big_] 142).P S w) (hlt : ∀ b, S b → b < w.heap.size) (hw : Know h w S) (H : Yq a0 a1 a2 a3 = some r) : Does Tryz.prog 83 (List.toArray [.pointer (some ⟨pb0, 0, none⟩), .int .i64 a1, .int .i64 a2, .int .i64 a3]) w (fun v w' => ∃ x : Unit, v = (.tuple #[]) ∧ Turn w w' S (Jo pb0 [Jv r.s_, .bool r.big_] 142)) := by
 refine enter (n := 34) Tryz.func83 rfl rfl rfl S [Jo pb0 [Jv a0.s_, .bool a0.big_] 142] (Sat.one hcs hlt) ?_
 exact Xp (Kd.p :: Kd.p :: Kd.p :: Kd.p :: Kd.d [0] _ :: Kd.p :: Kd.p :: Kd.p :: Kd.p :: Kd.p :: Kd.d [0] _ :: Kd.p :: Kd.p :: Kd.d [] _ :: Kd.p :: Kd.p :: Kd.p :: Kd.p :: Kd.d [0] _ :: Kd.p :: Kd.p :: Kd.p :: Kd.p :: Kd.p :: Kd.p :: Kd.p :: Kd.st 33 0 [_, _] 142 :: []) 0 mixed (by
  refine Jm rfl rfl (Je (v := .pointer (some ⟨pb0, 0, none⟩)) rfl) ?_
  refine Jm rfl rfl (Je (v := .pointer (some ⟨pb0, 0, none⟩)) rfl) ?_
  refine Jm rfl rfl (Ju rfl) ?_
  refine Jm rfl rfl (Jk Tryz.runUnderlying142 rfl Tryz.sizeOf9 rfl rfl) ?_
  refine Xq (i := 0) (v := Jv a0.s_) Tryz.isAgg9 rfl rfl rfl rfl ?_
  refine Jm rfl rfl (Je (v := .int .i64 a1) rfl) ?_
  have h_t14 := Qg H
  have H7 := J6 H
  refine Jm rfl rfl (Jaj Tryz.underlying9 rfl rfl h_t14) ?_
  refine Jm rfl rfl (Je (v := .pointer (some ⟨pb0, 0, none⟩)) rfl) ?_
  refine Jm rfl rfl (Ju rfl) ?_
  refine Jm rfl rfl (Jk Tryz.runUnderlying142 rfl Tryz.sizeOf4 rfl rfl) ?_
  refine Xq (i := 0) (v := .bool a0.big_) Tryz.isAgg4 rfl rfl rfl rfl ?_
  refine Jm rfl rfl (Je (v := .int .i64 a2) rfl) ?_
  refine Jm rfl rfl (Je (v := .int .i64 a3) rfl) ?_
  have h_t21 := Qg H7
  have H8 := J6 H7
  refine d_call (k145 h_t21) Tryz.call145 rfl rfl ?_
  have h_t22 := Qg H8
  have H9 := J6 H8
  refine Jm rfl rfl (Vj rfl rfl h_t22) ?_
  refine Jm rfl rfl (Je (v := .pointer (some ⟨pb0, 0, none⟩)) rfl) ?_
  refine Jm rfl rfl (Ju rfl) ?_
  refine Jm rfl rfl (Jk Tryz.runUnderlying142 rfl Tryz.sizeOf9 rfl rfl) ?_
  refine Xq (i := 0) (v := Jv a0.s_) Tryz.isAgg9 rfl rfl rfl rfl ?_
  refine Jm rfl rfl (Je (v := .int .i64 a1) rfl) ?_
  refine Jm rfl rfl (Je (v := .int .i64 a3) rfl) ?_
  have h_t29 := Qg H9
  have H10 := J6 H9
  refine Jm rfl rfl (Qe rfl rfl h_t29) ?_
  have h_t30 := Qg H10
  have H11 := J6 H10
  refine Jm rfl rfl (r_cutFromG Tryz.underlying9 rfl rfl h_t30) ?_
  have h_t31 := Qg H11
  have H12 := J6 H11
  refine Jm rfl rfl (Vj rfl rfl h_t31) ?_
  refine Jm rfl rfl (Ju rfl) ?_
  refine Jm rfl rfl (Jk Tryz.runUnderlying142 rfl Tryz.sizeOf9 rfl rfl) ?_
  refine d_store (i := 0) (vs := [Jv (val (Uk (val (Uk (val (Ys a0.s_ 0 a1)) (val (Yr a0.big_ a2 a3)))) (val (Ys a0.s_ (val (gI (a1 + a3))) a0.s_.length))))]) (cs' := [Jv (val (Uk (val (Uk (val (Ys a0.s_ 0 a1)) (val (Yr a0.big_ a2 a3)))) (val (Ys a0.s_ (val (gI (a1 + a3))) a0.s_.length)))), .bool a0.big_]) Tryz.sizeOf9 rfl rfl rfl rfl rfl rfl rfl rfl rfl ?_
  refine Zh ?_
  obtain rfl := Option.some.inj H12
  refine ret0n rfl (V6 () (i := 0) rfl rfl (Imp.refl _))
  ) (by kernel_rfl)
theorem k140 {a0 : Int} {r : Int} (H : R_wide a0 = some r) : Ret Tryz.prog 140 [.int .i64 a0] (.int .i64 r) := by
 refine Wa (n := 16) Tryz.func140 rfl rfl rfl (fun wd => ?_)
 refine Jf ?_
 refine Jb ?_
 refine Ja rfl rfl rfl (Jc (v := .int .i64 0) rfl) ?_
 refine Jg ?_
 refine Jf ?_
 refine Jf ?_
 refine Jb ?_
 refine Ja rfl rfl rfl (Je (v := .int .i64 a0) rfl) ?_
 refine Jg ?_
 refine J8 ?_
 refine Qz (r := r) (σ := Bool) (τ := Unit) (fun s => R_wide_j1 a0 s) (fun s t => [(3, .int .i64 a0), (4, .bool s)]) (fun s t => []) (fun s t => True) ?_ ?_
 ·refine Jf ?_
  refine Jb ?_
  refine Ja rfl rfl rfl (Q0 rfl rfl) ?_
  refine Ja rfl rfl rfl (Jc (v := .bool (decide (a0 = 1))) rfl) ?_
  refine Jg ?_
  refine Qd (b := (decide (a0 = 1))) rfl (fun hb => ?_) (fun hb => ?_)
  ·have H47 := Jp hb H; clear H
   refine Jt ?_
   refine Jn (decide (a0 = 1)) () 0 [] (by exact ⟨rfl, rfl, trivial⟩) (by decide) (by kernel_rfl) (by exact ⟨H47, trivial⟩) (Nat.lt_succ_self _)
  ·have H48 := Jq hb H; clear H
   refine Jf ?_
   refine Jb ?_
   refine Ja rfl rfl rfl (Q0 rfl rfl) ?_
   refine Ja rfl rfl rfl (Jc (v := .bool (decide (a0 = 2))) rfl) ?_
   refine Jg ?_
   refine Qd (b := (decide (a0 = 2))) rfl (fun hb => ?_) (fun hb => ?_)
   ·have H49 := Jp hb H48; clear H48
    refine Jt ?_
    refine Jn (decide (a0 = 2)) () 0 [] (by exact ⟨rfl, rfl, trivial⟩) (by decide) (by kernel_rfl) (by exact ⟨H49, trivial⟩) (Nat.lt_succ_self _)
   ·have H50 := Jq hb H48; clear H48
    refine Jb ?_
    refine Ja rfl rfl rfl (Q0 rfl rfl) ?_
    refine Ja rfl rfl rfl (Jc (v := .bool (decide (a0 = 7))) rfl) ?_
    refine Jg ?_
    refine Jn (decide (a0 = 7)) () 0 [] (by exact ⟨rfl, rfl, trivial⟩) (by decide) (by kernel_rfl) (by exact ⟨H50, trivial⟩) (Nat.lt_succ_self _)
 ·rintro x4 _ gg H26 _
  replace H26 : R_wide_j1 a0 x4 = some r := H26
  try dsimp only
  refine Qd (b := x4) rfl (fun hb => ?_) (fun hb => ?_)
  ·have H27 := Jp hb H26; clear H26
   refine Jf ?_
   refine Jb ?_
   refine Ja rfl rfl rfl (Jc (v := .int .i64 1) rfl) ?_
   refine Jg ?_
   refine Jx ?_
   obtain rfl := Option.some.inj H27
   refine Qn (v := .int .i64 1) rfl rfl (Yh rfl)
  ·have H28 := Jq hb H26; clear H26
   refine Jf ?_
   refine Jb ?_
   refine Ja rfl rfl rfl (Q0 rfl rfl) ?_
   refine Ja rfl rfl rfl (Jc (v := .bool (decide (a0 = 3))) rfl) ?_
   refine Jg ?_
   refine Qd (b := (decide (a0 = 3))) rfl (fun hb => ?_) (fun hb => ?_)
   ·have H29 := Jp hb H28; clear H28
    refine Jf ?_
    refine Jb ?_
    refine Ja rfl rfl rfl (Jc (v := .int .i64 2) rfl) ?_
    refine Jg ?_
    refine Jx ?_
    obtain rfl := Option.some.inj H29
    refine Qn (v := .int .i64 2) rfl rfl (Yh rfl)
   ·have H30 := Jq hb H28; clear H28
    refine Jf ?_
    refine Jf ?_
    refine Jb ?_
    refine Ja rfl rfl rfl (Q0 rfl rfl) ?_
    refine Ja rfl rfl rfl (Jc (v := .bool (decide (a0 = 4))) rfl) ?_
    refine Jg ?_
    refine Qd (b := (decide (a0 = 4))) rfl (fun hb => ?_) (fun hb => ?_)
    ·have H31 := Jp hb H30; clear H30
     refine Jt ?_
     refine Qd (b := (decide (a0 = 4))) rfl (fun hb => ?_) (fun hb => ?_)
     ·have H32 := Jp hb H31; clear H31
      refine Jf ?_
      refine Jb ?_
      refine Ja rfl rfl rfl (Jc (v := .int .i64 4) rfl) ?_
      refine Jg ?_
      refine Jx ?_
      obtain rfl := Option.some.inj H32
      refine Qn (v := .int .i64 4) rfl rfl (Yh rfl)
     ·have H33 := Jq hb H31; clear H31
      refine Jf ?_
      refine Jb ?_
      refine Ja rfl rfl rfl (Q0 rfl rfl) ?_
      refine Ja rfl rfl rfl (Jc (v := .bool (decide (a0 = 5))) rfl) ?_
      refine Jg ?_
      refine Qd (b := (decide (a0 = 5))) rfl (fun hb => ?_) (fun hb => ?_)
      ·have H34 := Jp hb H33; clear H33
       refine Jf ?_
       refine Jb ?_
       refine Ja rfl rfl rfl (Jc (v := .int .i64 8) rfl) ?_
       refine Jg ?_
       refine Jx ?_
       obtain rfl := Option.some.inj H34
       refine Qn (v := .int .i64 8) rfl rfl (Yh rfl)
      ·have H35 := Jq hb H33; clear H33
       refine Jt ?_
       refine Jf ?_
       refine Jb ?_
       refine Ja rfl rfl rfl (Jc (v := .int .i64 0) rfl) ?_
       refine Jg ?_
       refine Jx ?_
       obtain rfl := Option.some.inj H35
       refine Qn (v := .int .i64 0) rfl rfl (Yh rfl)
    ·have H36 := Jq hb H30; clear H30
     refine Jf ?_
     refine Jb ?_
     refine Ja rfl rfl rfl (Q0 rfl rfl) ?_
     refine Ja rfl rfl rfl (Jc (v := .bool (decide (a0 = 9))) rfl) ?_
     refine Jg ?_
     refine Qd (b := (decide (a0 = 9))) rfl (fun hb => ?_) (fun hb => ?_)
     ·have H37 := Jp hb H36; clear H36
      refine Jt ?_
      refine Qd (b := (decide (a0 = 9))) rfl (fun hb => ?_) (fun hb => ?_)
      ·have H38 := Jp hb H37; clear H37
       refine Jf ?_
       refine Jb ?_
       refine Ja rfl rfl rfl (Jc (v := .int .i64 4) rfl) ?_
       refine Jg ?_
       refine Jx ?_
       obtain rfl := Option.some.inj H38
       refine Qn (v := .int .i64 4) rfl rfl (Yh rfl)
      ·have H39 := Jq hb H37; clear H37
       refine Jf ?_
       refine Jb ?_
       refine Ja rfl rfl rfl (Q0 rfl rfl) ?_
       refine Ja rfl rfl rfl (Jc (v := .bool (decide (a0 = 5))) rfl) ?_
       refine Jg ?_
       refine Qd (b := (decide (a0 = 5))) rfl (fun hb => ?_) (fun hb => ?_)
       ·have H40 := Jp hb H39; clear H39
        refine Jf ?_
        refine Jb ?_
        refine Ja rfl rfl rfl (Jc (v := .int .i64 8) rfl) ?_
        refine Jg ?_
        refine Jx ?_
        obtain rfl := Option.some.inj H40
        refine Qn (v := .int .i64 8) rfl rfl (Yh rfl)
       ·have H41 := Jq hb H39; clear H39
        refine Jt ?_
        refine Jf ?_
        refine Jb ?_
        refine Ja rfl rfl rfl (Jc (v := .int .i64 0) rfl) ?_
        refine Jg ?_
        refine Jx ?_
        obtain rfl := Option.some.inj H41
        refine Qn (v := .int .i64 0) rfl rfl (Yh rfl)
     ·have H42 := Jq hb H36; clear H36
      refine Jb ?_
      refine Ja rfl rfl rfl (Q0 rfl rfl) ?_
      refine Ja rfl rfl rfl (Jc (v := .bool (decide (a0 = 13))) rfl) ?_
      refine Jg ?_
      refine Qd (b := (decide (a0 = 13))) rfl (fun hb => ?_) (fun hb => ?_)
      ·have H43 := Jp hb H42; clear H42
       refine Jf ?_
       refine Jb ?_
       refine Ja rfl rfl rfl (Jc (v := .int .i64 4) rfl) ?_
       refine Jg ?_
       refine Jx ?_
       obtain rfl := Option.some.inj H43
       refine Qn (v := .int .i64 4) rfl rfl (Yh rfl)
      ·have H44 := Jq hb H42; clear H42
       refine Jf ?_
       refine Jb ?_
       refine Ja rfl rfl rfl (Q0 rfl rfl) ?_
       refine Ja rfl rfl rfl (Jc (v := .bool (decide (a0 = 5))) rfl) ?_
       refine Jg ?_
       refine Qd (b := (decide (a0 = 5))) rfl (fun hb => ?_) (fun hb => ?_)
       ·have H45 := Jp hb H44; clear H44
        refine Jf ?_
        refine Jb ?_
        refine Ja rfl rfl rfl (Jc (v := .int .i64 8) rfl) ?_
        refine Jg ?_
        refine Jx ?_
        obtain rfl := Option.some.inj H45
        refine Qn (v := .int .i64 8) rfl rfl (Yh rfl)
       ·have H46 := Jq hb H44; clear H44
        refine Jt ?_
        refine Jf ?_
        refine Jb ?_
        refine Ja rfl rfl rfl (Jc (v := .int .i64 0) rfl) ?_
        refine Jg ?_
        refine Jx ?_
        obtain rfl := Option.some.inj H46
        refine Qn (v := .int .i64 0) rfl rfl (Yh rfl)
theorem k82 {a0 : Bool} {a1 : T_tag_Value} {v1_2 : Value} {v1_3 : Value} {v1_4 : Value} {r : (List UInt8)} {w : World} {h : Qj} (hw : Know h w Vi) (f1_2 : FrS h 1 v1_2 (a1.Ints.map Xc)) (f1_3 : FrS h 2 v1_3 (a1.Ratios.map Jz)) (f1_4 : FrN h 6 v1_4 g_tag_Entry a1.Entries) (H : Zp a0 a1 = some r) : Does Tryz.prog 82 (List.toArray [.bool a0, .agg #[.int .i64 a1.Kind, Jv a1.Text, v1_2, v1_3, v1_4]]) w (fun v w' => v = (Jv r) ∧ Grow w w') := by
 refine enter (n := 53) Tryz.func82 rfl rfl rfl Vi [] (Sat.nil _ _) ?_
 refine Jf ?_
 refine Jb ?_
 refine U4 (cs := [.int .i64 a1.Kind, Jv a1.Text, v1_2, v1_3, v1_4]) rfl rfl rfl rfl (fun b2 => ?_)
 refine Ja rfl rfl rfl (Jc (v := Jv []) rfl) ?_
 refine Jg ?_
 refine Jf ?_
 refine Jb ?_
 refine Ja rfl rfl rfl (Jk Tryz.runUnderlying38 rfl Tryz.sizeOf9 rfl rfl) ?_
 refine Js (i := 0) (v := Jv a1.Text) Tryz.isAgg9 rfl rfl rfl rfl rfl ?_
 refine Ja rfl rfl rfl (Jc (v := Jv a1.Text) rfl) ?_
 refine Jg ?_
 refine Qz (r := r) (σ := (List UInt8)) (τ := Unit) (fun s => Jar a0 a1 s) (fun s t => [(0, .bool a0), (3, .pointer (some ⟨b2, 0, none⟩)), (5, Jv s)]) (fun s t => [Jo b2 [.int .i64 a1.Kind, Jv a1.Text, v1_2, v1_3, v1_4] 38]) (fun s t => True) ?_ ?_
 ·refine Jf ?_
  refine Jb ?_
  refine Ja rfl rfl rfl (Jk Tryz.runUnderlying38 rfl Tryz.sizeOf3 rfl rfl) ?_
  refine Js (i := 0) (v := .int .i64 a1.Kind) Tryz.isAgg3 rfl rfl rfl rfl rfl ?_
  refine Ja rfl rfl rfl (Q0 rfl rfl) ?_
  refine Jg ?_
  refine Qd (b := (decide (a1.Kind = 2))) rfl (fun hb => ?_) (fun hb => ?_)
  ·have H42 := Jp hb H; clear H
   refine Jb ?_
   refine Ja rfl rfl rfl (Je (v := Jv a1.Text) rfl) ?_
   obtain ⟨t16, h_t16, H43⟩ := Jh H42; clear H42
   refine Ja rfl rfl rfl (Vj rfl rfl h_t16) ?_
   refine Ja rfl rfl rfl (Jc (v := Jv t16) rfl) ?_
   refine Jg ?_
   refine Jn t16 () 0 [0] (by exact ⟨rfl, rfl, rfl, trivial⟩) (by decide) (by kernel_rfl) (by exact ⟨H43, trivial⟩) (Nat.lt_succ_self _)
  ·have H44 := Jq hb H; clear H
   refine Jt ?_
   refine Jn a1.Text () 0 [0] (by exact ⟨rfl, rfl, rfl, trivial⟩) (by decide) (by kernel_rfl) (by exact ⟨H44, trivial⟩) (Nat.lt_succ_self _)
 ·rintro x5 _ gg H23 _
  replace H23 : Jar a0 a1 x5 = some r := H23
  try dsimp only
  refine Qz (r := r) (σ := (List UInt8)) (τ := Unit) (fun s => Jaq a0 a1 s) (fun s t => [(0, .bool a0), (3, .pointer (some ⟨b2, 0, none⟩)), (5, Jv s)]) (fun s t => [Jo b2 [.int .i64 a1.Kind, Jv a1.Text, v1_2, v1_3, v1_4] 38]) (fun s t => True) ?_ ?_
  ·refine Jf ?_
   refine Jb ?_
   refine Ja rfl rfl rfl (Jk Tryz.runUnderlying38 rfl Tryz.sizeOf30 rfl rfl) ?_
   refine Js (i := 0) (v := v1_2) Tryz.isAgg30 rfl rfl rfl rfl rfl ?_
   refine Ja rfl rfl rfl (Vs Tryz.underlying30 rfl f1_2 rfl) ?_
   refine Ja rfl rfl rfl (Je (v := .int .i64 0) rfl) ?_
   refine Jg ?_
   refine J8 ?_
   refine Z2 (σ := (List UInt8) × Int) (τ := Unit) (fun next4 s => V1 a0 a1 next4 s.1 s.2) (fun s t => [(0, .bool a0), (3, .pointer (some ⟨b2, 0, none⟩)), (5, Jv s.1), (18, v1_2), (19, .int .i64 (a1.Ints.length : Int)), (20, .int .i64 s.2)]) (fun s t => [Jo b2 [.int .i64 a1.Kind, Jv a1.Text, v1_2, v1_3, v1_4] 38]) (fun s t => True) (x5, 0) () [0] H23 (by exact trivial) (by exact ⟨rfl, rfl, rfl, rfl, rfl, rfl, trivial⟩) (by decide) rfl ?_
   rintro ⟨x5_6, x20_2⟩ _ m4 gg H34 _
   clear H23
   replace H34 : V1 a0 a1 (it (fun next4 s => V1 a0 a1 next4 s.1 s.2) m4) x5_6 x20_2 = some r := H34
   generalize hn4 : it (fun next4 s => V1 a0 a1 next4 s.1 s.2) m4 = next4 at H34
   try dsimp only
   refine Jf ?_
   refine Jb ?_
   refine Ja rfl rfl rfl (Zc rfl rfl) ?_
   refine Jg ?_
   refine Jf ?_
   refine Qd (b := (decide (x20_2 < (a1.Ints.length : Int)))) rfl (fun hb => ?_) (fun hb => ?_)
   ·have H35 := Jp hb H34; clear H34
    refine Jt ?_
    refine Jf ?_
    refine J8 ?_
    refine Jf ?_
    refine Jb ?_
    obtain ⟨t22, h_t22, H36⟩ := Jh H35; clear H35
    refine Ja rfl rfl rfl (X5 Tryz.underlying30 Tryz.sizeOf3 rfl rfl f1_2 h_t22) ?_
    refine Yu (fun w hF hS => X4 (f := Xc) (i := x20_2) (sz := 1) (j := 0) (v := .int .i64 t22) Tryz.isAgg3 rfl rfl (f1_2.row (hw.now hF)) h_t22 rfl) rfl rfl rfl ?_
    refine Ja rfl rfl rfl (Jc (v := .int .i64 t22) rfl) ?_
    refine Jg ?_
    refine Jb ?_
    refine Ja rfl rfl rfl (Je (v := Jv x5_6) rfl) ?_
    refine Ja rfl rfl rfl (Je (v := .bool a0) rfl) ?_
    refine Ja rfl rfl rfl (Je (v := .int .i64 t22) rfl) ?_
    refine Ja rfl rfl rfl (Jk Tryz.runUnderlying38 rfl Tryz.sizeOf3 rfl rfl) ?_
    refine Js (i := 0) (v := .int .i64 a1.Kind) Tryz.isAgg3 rfl rfl rfl rfl rfl ?_
    obtain ⟨t29, h_t29, H37⟩ := Jh H36; clear H36
    refine Wb (k140 h_t29) Tryz.call140 rfl rfl rfl ?_
    obtain ⟨t30, h_t30, H38⟩ := Jh H37; clear H37
    refine Wb (k145 h_t30) Tryz.call145 rfl rfl rfl ?_
    obtain ⟨t31, h_t31, H39⟩ := Jh H38; clear H38
    refine Ja rfl rfl rfl (Vj rfl rfl h_t31) ?_
    refine Ja rfl rfl rfl (Jc (v := Jv t31) rfl) ?_
    refine Jg ?_
    refine Jb ?_
    obtain ⟨t32, h_t32, H40⟩ := Jh H39; clear H39
    refine Ja rfl rfl rfl (Qe rfl rfl h_t32) ?_
    refine Ja rfl rfl rfl (Je (v := .int .i64 t32) rfl) ?_
    refine Jg ?_
    refine Jn (t31, t32) () m4 [0] (by exact ⟨rfl, rfl, rfl, rfl, rfl, rfl, trivial⟩) (by decide) (by kernel_rfl) (by exact ⟨(by subst hn4; exact H40), trivial⟩) (Nat.lt_succ_self _)
   ·have H41 := Jq hb H34; clear H34
    refine X3 ?_
    refine Jn x5_6 () 0 [0] (by exact ⟨rfl, rfl, rfl, trivial⟩) (by decide) (by kernel_rfl) (by exact ⟨H41, trivial⟩) (Nat.lt_succ_self _)
  ·rintro x5_2 _ gg H24 _
   replace H24 : Jaq a0 a1 x5_2 = some r := H24
   try dsimp only
   refine Jf ?_
   refine Jf ?_
   refine Jb ?_
   refine Ja rfl rfl rfl (Jk Tryz.runUnderlying38 rfl Tryz.sizeOf31 rfl rfl) ?_
   refine Js (i := 0) (v := v1_3) Tryz.isAgg31 rfl rfl rfl rfl rfl ?_
   refine Ja rfl rfl rfl (Vs Tryz.underlying31 rfl f1_3 rfl) ?_
   refine Ja rfl rfl rfl (Je (v := .int .i64 0) rfl) ?_
   refine Jg ?_
   refine J8 ?_
   refine c_dr 0 ?_
   try dsimp only [z1, z2, z3, z4, z5, z6, z7, z8]
   refine Z2 (σ := (List UInt8) × Int) (τ := Unit) (fun next3 s => Vy a0 a1 next3 s.1 s.2) (fun s t => [(0, .bool a0), (5, Jv s.1), (34, v1_3), (35, .int .i64 (a1.Ratios.length : Int)), (36, .int .i64 s.2)]) (fun s t => []) (fun s t => True) (x5_2, 0) () [] H24 (by exact trivial) (by exact ⟨rfl, rfl, rfl, rfl, rfl, trivial⟩) (by decide) rfl ?_
   rintro ⟨x5_4, x36_2⟩ _ m3 gg H25 _
   clear H24
   replace H25 : Vy a0 a1 (it (fun next3 s => Vy a0 a1 next3 s.1 s.2) m3) x5_4 x36_2 = some r := H25
   generalize hn3 : it (fun next3 s => Vy a0 a1 next3 s.1 s.2) m3 = next3 at H25
   try dsimp only
   refine Jf ?_
   refine Jb ?_
   refine Ja rfl rfl rfl (Zc rfl rfl) ?_
   refine Jg ?_
   refine Jf ?_
   refine Qd (b := (decide (x36_2 < (a1.Ratios.length : Int)))) rfl (fun hb => ?_) (fun hb => ?_)
   ·have H26 := Jp hb H25; clear H25
    refine Jt ?_
    refine Jf ?_
    refine J8 ?_
    refine Jf ?_
    refine Jb ?_
    obtain ⟨t38, h_t38, H27⟩ := Jh H26; clear H26
    refine Ja rfl rfl rfl (X5 Tryz.underlying31 Tryz.sizeOf74 rfl rfl f1_3 h_t38) ?_
    refine Yu (fun w hF hS => Y4 (f := Jz) (i := x36_2) (sz := 2) (j := 0) (vs := [.int .i64 t38.Num, .int .i64 t38.Den]) Tryz.isAgg74 Tryz.sizeOf74 rfl rfl (f1_3.row (hw.now hF)) h_t38 rfl) rfl rfl rfl ?_
    refine Yo (cs := [.int .i64 0, .int .i64 0]) Tryz.zeroValue74 rfl rfl rfl (fun b3 => ?_)
    refine Qc (i := 0) (vs := [.int .i64 t38.Num, .int .i64 t38.Den]) (cs' := [.int .i64 t38.Num, .int .i64 t38.Den]) Tryz.sizeOf74 rfl rfl rfl rfl rfl rfl rfl rfl rfl ?_
    refine Jg ?_
    exact Xp (Kd.p :: Kd.p :: Kd.p :: Kd.d [0] _ :: Kd.d [] _ :: Kd.p :: Kd.p :: Kd.d [0] _ :: Kd.d [] _ :: Kd.p :: Kd.p :: Kd.p :: []) 0 mixed (by
     refine Jm rfl rfl (Je (v := Jv x5_4) rfl) ?_
     refine Jm rfl rfl (Je (v := .bool a0) rfl) ?_
     refine Jm rfl rfl (Jk Tryz.runUnderlying74 rfl Tryz.sizeOf3 rfl rfl) ?_
     refine Xq (i := 0) (v := .int .i64 t38.Num) Tryz.isAgg3 rfl rfl rfl rfl ?_
     have h_t44 := Qg H27
     have H28 := J6 H27
     refine d_call (k145 h_t44) Tryz.call145 rfl rfl ?_
     refine Jm rfl rfl (Je (v := .bool a0) rfl) ?_
     refine Jm rfl rfl (Jk Tryz.runUnderlying74 rfl Tryz.sizeOf3 rfl rfl) ?_
     refine Xq (i := 0) (v := .int .i64 t38.Den) Tryz.isAgg3 rfl rfl rfl rfl ?_
     have h_t48 := Qg H28
     have H29 := J6 H28
     refine d_call (k145 h_t48) Tryz.call145 rfl rfl ?_
     have h_t49 := Qg H29
     have H30 := J6 H29
     refine Jm rfl rfl (Vj rfl rfl h_t49) ?_
     have h_t50 := Qg H30
     have H31 := J6 H30
     refine Jm rfl rfl (Vj rfl rfl h_t50) ?_
     refine Jm rfl rfl (Jc (v := Jv (val (Uk x5_4 (val (Uk (val (Yr a0 t38.Num 4)) (val (Yr a0 t38.Den 4))))))) rfl) ?_
     refine Zh ?_
     refine Jb ?_
     obtain ⟨t51, h_t51, H32⟩ := Jh H31; clear H31
     refine Ja rfl rfl rfl (Qe rfl rfl h_t51) ?_
     refine Ja rfl rfl rfl (Je (v := .int .i64 t51) rfl) ?_
     refine Jg ?_
     refine Jn ((val (Uk x5_4 (val (Uk (val (Yr a0 t38.Num 4)) (val (Yr a0 t38.Den 4)))))), t51) () m3 [] (by exact ⟨rfl, rfl, rfl, rfl, rfl, trivial⟩) (by decide) (by kernel_rfl) (by exact ⟨(by subst hn3; exact H32), trivial⟩) (Nat.lt_succ_self _)
     ) (by kernel_rfl)
   ·have H33 := Jq hb H25; clear H25
    refine X3 ?_
    refine Jf ?_
    refine Jb ?_
    refine Ja rfl rfl rfl (Je (v := Jv x5_4) rfl) ?_
    refine Ja rfl rfl rfl (Jc (v := Jv x5_4) rfl) ?_
    refine Jg ?_
    refine Jx ?_
    obtain rfl := Option.some.inj H33
    refine Qn (v := Jv x5_4) rfl rfl (Yh rfl)
theorem k84 {a0 : T_tag_Value} {v0_2 : Value} {v0_3 : Value} {v0_4 : Value} {r : Int} {w : World} {h : Qj} (hw : Know h w Vi) (f0_2 : FrS h 1 v0_2 (a0.Ints.map Xc)) (f0_3 : FrS h 2 v0_3 (a0.Ratios.map Jz)) (f0_4 : FrN h 6 v0_4 g_tag_Entry a0.Entries) (H : R_count a0 = some r) : Does Tryz.prog 84 (List.toArray [.agg #[.int .i64 a0.Kind, Jv a0.Text, v0_2, v0_3, v0_4]]) w (fun v w' => v = (.int .i64 r) ∧ Grow w w') := by
 refine enter (n := 13) Tryz.func84 rfl rfl rfl Vi [] (Sat.nil _ _) ?_
 refine Jf ?_
 refine Jb ?_
 refine U4 (cs := [.int .i64 a0.Kind, Jv a0.Text, v0_2, v0_3, v0_4]) rfl rfl rfl rfl (fun b1 => ?_)
 refine Ja rfl rfl rfl (Jc (v := .int .i64 0) rfl) ?_
 refine Jg ?_
 refine Jf ?_
 refine Jf ?_
 refine Jb ?_
 refine Ja rfl rfl rfl (Jk Tryz.runUnderlying38 rfl Tryz.sizeOf3 rfl rfl) ?_
 refine Js (i := 0) (v := .int .i64 a0.Kind) Tryz.isAgg3 rfl rfl rfl rfl rfl ?_
 refine Ja rfl rfl rfl (Q0 rfl rfl) ?_
 refine Jg ?_
 refine Qd (b := (decide (a0.Kind = 13))) rfl (fun hb => ?_) (fun hb => ?_)
 ·have H6 := Jp hb H; clear H
  refine Jf ?_
  refine Jb ?_
  refine Ja rfl rfl rfl (Jc (v := .int .i64 1) rfl) ?_
  refine Jg ?_
  refine Jx ?_
  obtain rfl := Option.some.inj H6
  refine Qn (v := .int .i64 1) rfl rfl (Yh rfl)
 ·have H7 := Jq hb H; clear H
  refine Jt ?_
  refine Jf ?_
  exact Xp (Kd.d [0] _ :: Kd.d [] _ :: Kd.p :: Kd.p :: Kd.d [0] _ :: Kd.d [] _ :: Kd.p :: Kd.p :: []) 0 mixed (by
   refine d_loadN (i := 0) (vs := [.int .i64 a0.Kind, Jv a0.Text, v0_2, v0_3, v0_4]) Tryz.isAgg38 Tryz.sizeOf38 rfl rfl rfl rfl ?_
   have h_t7 := Qg H7
   have H8 := J6 H7
   refine d_callD (fun w L' hF hS hi => k82 (J7 w) (f0_2.mono (hw.now hF)) (f0_3.mono (hw.now hF)) (f0_4.mono (hw.now hF)) h_t7) Tryz.call82 rfl rfl ?_
   refine Jm rfl rfl (Z0 Tryz.underlying9 rfl) ?_
   refine Jm rfl rfl (Jk Tryz.runUnderlying38 rfl Tryz.sizeOf3 rfl rfl) ?_
   refine Xq (i := 0) (v := .int .i64 a0.Kind) Tryz.isAgg3 rfl rfl rfl rfl ?_
   have h_t11 := Qg H8
   have H9 := J6 H8
   refine d_call (k140 h_t11) Tryz.call140 rfl rfl ?_
   have h_t12 := Qg H9
   have H10 := J6 H9
   refine Jm rfl rfl (r_quoG rfl rfl h_t12) ?_
   refine Jm rfl rfl (Jc (v := .int .i64 (val (gQuo ((val (Zp false a0)).length : Int) (val (R_wide a0.Kind))))) rfl) ?_
   refine Zh ?_
   refine Jx ?_
   obtain rfl := Option.some.inj H10
   refine Qn (v := .int .i64 (val (gQuo ((val (Zp false a0)).length : Int) (val (R_wide a0.Kind))))) rfl rfl (Yh rfl)
   ) (by kernel_rfl)
theorem k85 {a0 : (List UInt8)} {a1 : Int} {r : (List UInt8)} (H : gRep a0 a1 = some r) : Ret Tryz.prog 85 [Jv a0, .int .i64 a1] (Jv r) :=
  rep_ret (ρ := Go.Proofs.Tryz.lays105_ren) Go.Proofs.Tryz.lays105 Go.Proofs.Tryz.Builder_Extra_105 H
theorem k86 {a0 : T_tintref2_written} {pb0 : Nat} {a1 : (List UInt8)} {r : Int × T_tintref2_written} {w : World} {h : Qj} {S : Nat → Prop} (hcs : (Jo pb0 [Jv a0.s_, .bool a0.big_] 142).P S w) (hlt : ∀ b, S b → b < w.heap.size) (hw : Know h w S) (H : Jah a0 a1 = some r) : Does Tryz.prog 86 (List.toArray [.pointer (some ⟨pb0, 0, none⟩), Jv a1]) w (fun v w' => ∃ x : Unit, v = (.int .i64 r.1) ∧ Turn w w' S (Jo pb0 [Jv r.2.s_, .bool r.2.big_] 142)) := by
 refine enter (n := 34) Tryz.func86 rfl rfl rfl S [Jo pb0 [Jv a0.s_, .bool a0.big_] 142] (Sat.one hcs hlt) ?_
 refine Jf ?_
 refine Jb ?_
 refine Ja rfl rfl rfl (Jc (v := .int .i64 0) rfl) ?_
 refine Jg ?_
 refine Qz (r := r) (σ := (List UInt8)) (τ := Unit) (fun s => Ua a0 a1 s) (fun s t => [(0, .pointer (some ⟨pb0, 0, none⟩)), (1, Jv a1)]) (fun s t => [Jo pb0 [Jv s, .bool a0.big_] 142]) (fun s t => True) ?_ ?_
 ·refine Jf ?_
  refine Jb ?_
  refine Ja rfl rfl rfl (Je (v := .pointer (some ⟨pb0, 0, none⟩)) rfl) ?_
  refine Ja rfl rfl rfl (Ju rfl) ?_
  refine Ja rfl rfl rfl (Jk Tryz.runUnderlying142 rfl Tryz.sizeOf9 rfl rfl) ?_
  refine Js (i := 0) (v := Jv a0.s_) Tryz.isAgg9 rfl rfl rfl rfl rfl ?_
  refine Ja rfl rfl rfl (Z0 Tryz.underlying9 rfl) ?_
  obtain ⟨t11, h_t11, H9⟩ := Jh H; clear H
  refine Ja rfl rfl rfl (r_remG rfl rfl h_t11) ?_
  refine Ja rfl rfl rfl (Q0 rfl rfl) ?_
  refine Jg ?_
  refine Qd (b := (decide (t11 = 1))) rfl (fun hb => ?_) (fun hb => ?_)
  ·have H10 := Jp hb H9; clear H9
   refine Jb ?_
   refine Ja rfl rfl rfl (Je (v := .pointer (some ⟨pb0, 0, none⟩)) rfl) ?_
   refine Ja rfl rfl rfl (Ju rfl) ?_
   refine Ja rfl rfl rfl (Jk Tryz.runUnderlying142 rfl Tryz.sizeOf9 rfl rfl) ?_
   refine Js (i := 0) (v := Jv a0.s_) Tryz.isAgg9 rfl rfl rfl rfl rfl ?_
   obtain ⟨t17, h_t17, H11⟩ := Jh H10; clear H10
   refine Ja rfl rfl rfl (Vj rfl rfl h_t17) ?_
   refine Ja rfl rfl rfl (Ju rfl) ?_
   refine Ja rfl rfl rfl (Jk Tryz.runUnderlying142 rfl Tryz.sizeOf9 rfl rfl) ?_
   refine Qc (i := 0) (vs := [Jv t17]) (cs' := [Jv t17, .bool a0.big_]) Tryz.sizeOf9 rfl rfl rfl rfl rfl rfl rfl rfl rfl ?_
   refine Jg ?_
   refine Jn t17 () 0 [0] (by exact ⟨rfl, rfl, trivial⟩) (by decide) (by kernel_rfl) (by exact ⟨H11, trivial⟩) (Nat.lt_succ_self _)
  ·have H12 := Jq hb H9; clear H9
   refine Jt ?_
   refine Jn a0.s_ () 0 [0] (by exact ⟨rfl, rfl, trivial⟩) (by decide) (by kernel_rfl) (by exact ⟨H12, trivial⟩) (Nat.lt_succ_self _)
 ·rintro m _ gg H7 _
  replace H7 : Ua a0 a1 m = some r := H7
  try dsimp only
  refine Jf ?_
  refine Jb ?_
  refine Ja rfl rfl rfl (Je (v := .pointer (some ⟨pb0, 0, none⟩)) rfl) ?_
  refine Ja rfl rfl rfl (Ju rfl) ?_
  refine Ja rfl rfl rfl (Jk Tryz.runUnderlying142 rfl Tryz.sizeOf9 rfl rfl) ?_
  refine Js (i := 0) (v := Jv m) Tryz.isAgg9 rfl rfl rfl rfl rfl ?_
  refine Ja rfl rfl rfl (Z0 Tryz.underlying9 rfl) ?_
  refine Ja rfl rfl rfl (Jc (v := .int .i64 (m.length : Int)) rfl) ?_
  refine Jg ?_
  refine Jf ?_
  refine Jb ?_
  refine Ja rfl rfl rfl (Je (v := .pointer (some ⟨pb0, 0, none⟩)) rfl) ?_
  refine Ja rfl rfl rfl (Ju rfl) ?_
  refine Ja rfl rfl rfl (Jk Tryz.runUnderlying142 rfl Tryz.sizeOf9 rfl rfl) ?_
  refine Js (i := 0) (v := Jv m) Tryz.isAgg9 rfl rfl rfl rfl rfl ?_
  refine Ja rfl rfl rfl (Je (v := Jv a1) rfl) ?_
  obtain ⟨t30, h_t30, H8⟩ := Jh H7; clear H7
  refine Ja rfl rfl rfl (Vj rfl rfl h_t30) ?_
  refine Ja rfl rfl rfl (Ju rfl) ?_
  refine Ja rfl rfl rfl (Jk Tryz.runUnderlying142 rfl Tryz.sizeOf9 rfl rfl) ?_
  refine Qc (i := 0) (vs := [Jv t30]) (cs' := [Jv t30, .bool a0.big_]) Tryz.sizeOf9 rfl rfl rfl rfl rfl rfl rfl rfl rfl ?_
  refine Jg ?_
  refine Jf ?_
  refine Jb ?_
  refine Ja rfl rfl rfl (Je (v := .int .i64 (m.length : Int)) rfl) ?_
  refine Ja rfl rfl rfl (Jc (v := .int .i64 (m.length : Int)) rfl) ?_
  refine Jg ?_
  refine Jx ?_
  obtain rfl := Option.some.inj H8
  refine Qn (v := .int .i64 (m.length : Int)) rfl rfl (V6 () (i := 0) rfl rfl (Imp.refl _))
theorem k151_it (mm : Nat) : ∀ {a0 : T_tintref2_written} {pb0 : Nat} {a1 : (List T_tag_Entry)} {v1 : Value} {r : Int × T_tintref2_written} {w : World} {h : Qj} {S : Nat → Prop} (hcs : (Jo pb0 [Jv a0.s_, .bool a0.big_] 142).P S w) (hlt : ∀ b, S b → b < w.heap.size) (hw : Know h w S) (f1 : FrN h 6 v1 g_tag_Entry a1) (H : it (fun (self : (T_tintref2_written × (List T_tag_Entry)) → Option (Int × T_tintref2_written)) (s : T_tintref2_written × (List T_tag_Entry)) => Yt self s.1 s.2) mm (a0, a1) = some r), Does Tryz.prog 151 (List.toArray [.pointer (some ⟨pb0, 0, none⟩), v1]) w (fun v w' => ∃ x : Unit, v = (.int .i64 r.1) ∧ Turn w w' S (Jo pb0 [Jv r.2.s_, .bool r.2.big_] 142)) := by
 induction mm with
 | zero => intros; rename_i H; exact absurd H (by simp [it])
 | succ mm ih =>
  intro a0 pb0 a1 v1 r w h S hcs hlt hw f1 H
  replace H : Yt (it (fun (self : (T_tintref2_written × (List T_tag_Entry)) → Option (Int × T_tintref2_written)) (s : T_tintref2_written × (List T_tag_Entry)) => Yt self s.1 s.2) mm) a0 a1 = some r := H
  generalize it (fun (self : (T_tintref2_written × (List T_tag_Entry)) → Option (Int × T_tintref2_written)) (s : T_tintref2_written × (List T_tag_Entry)) => Yt self s.1 s.2) mm = self at H ih
  refine enter (n := 109) Tryz.func151 rfl rfl rfl S [Jo pb0 [Jv a0.s_, .bool a0.big_] 142] (Sat.one hcs hlt) ?_
  refine Jf ?_
  refine Jb ?_
  refine Ja rfl rfl rfl (Jc (v := .int .i64 0) rfl) ?_
  refine Jg ?_
  refine Jf ?_
  refine Jb ?_
  refine Ja rfl rfl rfl (Je (v := .pointer (some ⟨pb0, 0, none⟩)) rfl) ?_
  refine Ja rfl rfl rfl (Je (v := v1) rfl) ?_
  refine Ja rfl rfl rfl (Zg Tryz.underlying36 rfl f1) ?_
  obtain ⟨t13, h_t13, H40⟩ := Jh H; clear H
  refine Ja rfl rfl rfl (W6 rfl rfl h_t13) ?_
  obtain ⟨t14, h_t14, H41⟩ := Jh H40; clear H40
  refine Ja rfl rfl rfl (Qe rfl rfl h_t14) ?_
  obtain ⟨t15, h_t15, H42⟩ := Jh H41; clear H41
  refine Ja rfl rfl rfl (Qe rfl rfl h_t15) ?_
  obtain ⟨t16, h_t16, H43⟩ := Jh H42; clear H42
  refine Wb (k85 h_t16) Tryz.call85 rfl rfl rfl ?_
  obtain ⟨t17, h_t17, H44⟩ := Jh H43; clear H43
  refine Xg (Ql (i := 0) (rds := []) (G := fun x : Unit => .int .i64 t17.1) (C := fun x : Unit => Jo pb0 [Jv t17.2.s_, .bool t17.2.big_] 142) rfl (fun w L' S hF hS hi hp hlt ho hA => k86 hp hlt (Xa w S)  h_t17) Tryz.call86 rfl) rfl rfl rfl (fun _ => ?_)
  refine Ja rfl rfl rfl (Jc (v := .int .i64 t17.1) rfl) ?_
  refine Jg ?_
  refine Jf ?_
  refine Jb ?_
  refine Ja rfl rfl rfl (Je (v := .pointer (some ⟨pb0, 0, none⟩)) rfl) ?_
  refine Ja rfl rfl rfl (Je (v := .int .i64 t17.1) rfl) ?_
  refine Ja rfl rfl rfl (Je (v := v1) rfl) ?_
  refine Ja rfl rfl rfl (Zg Tryz.underlying36 rfl f1) ?_
  obtain ⟨t22, h_t22, H45⟩ := Jh H44; clear H44
  refine Xg (Ql (i := 0) (rds := []) (G := fun x : Unit => .tuple #[]) (C := fun x : Unit => Jo pb0 [Jv t22.s_, .bool t22.big_] 142) rfl (fun w L' S hF hS hi hp hlt ho hA => k83 hp hlt (Xa w S)  h_t22) Tryz.call83 rfl) rfl rfl rfl (fun _ => ?_)
  refine Jg ?_
  refine Jf ?_
  refine Jf ?_
  refine Jb ?_
  refine Ja rfl rfl rfl (Je (v := v1) rfl) ?_
  refine Ja rfl rfl rfl (Zg Tryz.underlying36 rfl f1) ?_
  refine Ja rfl rfl rfl (Je (v := .int .i64 0) rfl) ?_
  refine Jg ?_
  refine J8 ?_
  refine Z2 (σ := Int × (List UInt8) × Bool) (τ := Unit) (fun next1 s => Yp a1 self t17 next1 s.1 s.2.1 s.2.2) (fun s t => [(0, .pointer (some ⟨pb0, 0, none⟩)), (5, .int .i64 t17.1), (23, v1), (24, .int .i64 (a1.length : Int)), (25, .int .i64 s.1)]) (fun s t => [Jo pb0 [Jv s.2.1, .bool s.2.2] 142]) (fun s t => True) (0, t22.s_, t22.big_) () [0] H45 (by exact trivial) (by exact ⟨rfl, rfl, rfl, rfl, rfl, trivial⟩) (by decide) rfl ?_
  rintro ⟨x25_2, m_3, m_4⟩ _ m1 gg H46 _
  clear H45
  replace H46 : Yp a1 self t17 (it (fun next1 s => Yp a1 self t17 next1 s.1 s.2.1 s.2.2) m1) x25_2 m_3 m_4 = some r := H46
  generalize hn1 : it (fun next1 s => Yp a1 self t17 next1 s.1 s.2.1 s.2.2) m1 = next1 at H46
  try dsimp only
  refine Jf ?_
  refine Jb ?_
  refine Ja rfl rfl rfl (Zc rfl rfl) ?_
  refine Jg ?_
  refine Jf ?_
  refine Qd (b := (decide (x25_2 < (a1.length : Int)))) rfl (fun hb => ?_) (fun hb => ?_)
  ·have H47 := Jp hb H46; clear H46
   refine Jt ?_
   refine Qz (r := r) (σ := (List UInt8) × Bool) (τ := Unit) (fun s => Z8 x25_2 next1 s.1 s.2) (fun s t => [(0, .pointer (some ⟨pb0, 0, none⟩)), (5, .int .i64 t17.1), (23, v1), (24, .int .i64 (a1.length : Int)), (25, .int .i64 x25_2)]) (fun s t => [Jo pb0 [Jv s.1, .bool s.2] 142]) (fun s t => True) ?_ ?_
   ·refine J8 ?_
    refine Jf ?_
    refine Jb ?_
    refine Ja rfl rfl rfl (Je (v := .int .i64 x25_2) rfl) ?_
    obtain ⟨t28, h_t28, H50⟩ := Jh H47; clear H47
    refine Ja rfl rfl rfl (X5 Tryz.underlying36 Tryz.sizeOf83 rfl rfl f1.frs (f1.ix h_t28)) ?_
    refine Yu (fun w hF hS => Y4 (f := (elC h v1 6)) (i := x25_2) (sz := 6) (j := 0) (vs := [.int .i64 t28.Tag, .int .i64 t28.Value.Kind, Jv t28.Value.Text, (Xk h v1 6 (Int.toNat x25_2) 3), (Xk h v1 6 (Int.toNat x25_2) 4), (Xk h v1 6 (Int.toNat x25_2) 5)]) Tryz.isAgg83 Tryz.sizeOf83 rfl rfl (f1.frs.row (hw.now hF)) (f1.ix h_t28) (rd_of (Vd (f1.at h_t28)) rfl)) rfl rfl rfl ?_
    refine Yo (cs := [.int .i64 0, .int .i64 0, Jv [], .slice none 0 0, .slice none 0 0, .slice none 0 0]) Tryz.zeroValue83 rfl rfl rfl (fun b1 => ?_)
    refine Ja rfl rfl rfl (Jc (v := .int .i64 x25_2) rfl) ?_
    refine Qc (i := 1) (vs := [.int .i64 t28.Tag, .int .i64 t28.Value.Kind, Jv t28.Value.Text, (Xk h v1 6 (Int.toNat x25_2) 3), (Xk h v1 6 (Int.toNat x25_2) 4), (Xk h v1 6 (Int.toNat x25_2) 5)]) (cs' := [.int .i64 t28.Tag, .int .i64 t28.Value.Kind, Jv t28.Value.Text, (Xk h v1 6 (Int.toNat x25_2) 3), (Xk h v1 6 (Int.toNat x25_2) 4), (Xk h v1 6 (Int.toNat x25_2) 5)]) Tryz.sizeOf83 rfl rfl rfl rfl rfl rfl (by simp only [List.all_cons, List.all_nil, (show FrN h 6 (Xk h v1 6 (Int.toNat x25_2) 5) g_tag_Entry t28.Value.Entries from (Qv (Jr (f1.at h_t28)))).one, (show FrS h 1 (Xk h v1 6 (Int.toNat x25_2) 3) (t28.Value.Ints.map Xc) from (Q5 (Jr (f1.at h_t28)))).one, (show FrS h 2 (Xk h v1 6 (Int.toNat x25_2) 4) (t28.Value.Ratios.map Jz) from (Q4 (Jr (f1.at h_t28)))).one] <;> rfl) rfl rfl ?_
    refine Jg ?_
    refine Jf ?_
    refine Jb ?_
    refine Ja rfl rfl rfl (Je (v := .int .i64 t17.1) rfl) ?_
    obtain ⟨t31, h_t31, H51⟩ := Jh H50; clear H50
    refine Ja rfl rfl rfl (Qe rfl rfl h_t31) ?_
    refine Ja rfl rfl rfl (Je (v := .int .i64 x25_2) rfl) ?_
    obtain ⟨t33, h_t33, H52⟩ := Jh H51; clear H51
    refine Ja rfl rfl rfl (W6 rfl rfl h_t33) ?_
    obtain ⟨t34, h_t34, H53⟩ := Jh H52; clear H52
    refine Ja rfl rfl rfl (Qe rfl rfl h_t34) ?_
    refine Ja rfl rfl rfl (Jc (v := .int .i64 t34) rfl) ?_
    refine Jg ?_
    refine Jf ?_
    refine Jb ?_
    refine Ja rfl rfl rfl (Je (v := .pointer (some ⟨pb0, 0, none⟩)) rfl) ?_
    refine Ja rfl rfl rfl (Je (v := .int .i64 t34) rfl) ?_
    refine Ja rfl rfl rfl (Jk Tryz.runUnderlying83 rfl Tryz.sizeOf3 rfl rfl) ?_
    refine Js (i := 1) (v := .int .i64 t28.Tag) Tryz.isAgg3 rfl rfl rfl rfl rfl ?_
    obtain ⟨t39, h_t39, H54⟩ := Jh H53; clear H53
    refine Xg (Ql (i := 0) (rds := []) (G := fun x : Unit => .tuple #[]) (C := fun x : Unit => Jo pb0 [Jv t39.s_, .bool t39.big_] 142) rfl (fun w L' S hF hS hi hp hlt ho hA => k83 (a0 := (⟨m_3, m_4⟩ : T_tintref2_written)) hp hlt (Xa w S)  h_t39) Tryz.call83 rfl) rfl rfl rfl (fun _ => ?_)
    refine Jg ?_
    refine Jf ?_
    refine Jb ?_
    refine Ja rfl rfl rfl (Je (v := .pointer (some ⟨pb0, 0, none⟩)) rfl) ?_
    refine Ja rfl rfl rfl (Je (v := .int .i64 t34) rfl) ?_
    obtain ⟨t42, h_t42, H55⟩ := Jh H54; clear H54
    refine Ja rfl rfl rfl (Qe rfl rfl h_t42) ?_
    refine Ja rfl rfl rfl (Jk Tryz.runUnderlying83 rfl Tryz.sizeOf38 rfl rfl) ?_
    refine Ja rfl rfl rfl (Jk Tryz.runUnderlying38 rfl Tryz.sizeOf3 rfl rfl) ?_
    refine Js (i := 1) (v := .int .i64 t28.Value.Kind) Tryz.isAgg3 rfl rfl rfl rfl rfl ?_
    obtain ⟨t46, h_t46, H56⟩ := Jh H55; clear H55
    refine Xg (Ql (i := 0) (rds := []) (G := fun x : Unit => .tuple #[]) (C := fun x : Unit => Jo pb0 [Jv t46.s_, .bool t46.big_] 142) rfl (fun w L' S hF hS hi hp hlt ho hA => k83 hp hlt (Xa w S)  h_t46) Tryz.call83 rfl) rfl rfl rfl (fun _ => ?_)
    refine Jg ?_
    refine Jf ?_
    refine Jb ?_
    refine Ja rfl rfl rfl (Je (v := .pointer (some ⟨pb0, 0, none⟩)) rfl) ?_
    refine Ja rfl rfl rfl (Je (v := .int .i64 t34) rfl) ?_
    obtain ⟨t49, h_t49, H57⟩ := Jh H56; clear H56
    refine Ja rfl rfl rfl (Qe rfl rfl h_t49) ?_
    refine Ja rfl rfl rfl (Jk Tryz.runUnderlying83 rfl Tryz.sizeOf38 rfl rfl) ?_
    refine Xr (i := 1) (vs := [.int .i64 t28.Value.Kind, Jv t28.Value.Text, (Xk h v1 6 (Int.toNat x25_2) 3), (Xk h v1 6 (Int.toNat x25_2) 4), (Xk h v1 6 (Int.toNat x25_2) 5)]) Tryz.isAgg38 Tryz.sizeOf38 rfl rfl rfl rfl rfl ?_
    obtain ⟨t52, h_t52, H58⟩ := Jh H57; clear H57
    refine Qw (fun w hF hS => k84 (J7 w) ((show FrS h 1 (Xk h v1 6 (Int.toNat x25_2) 3) (t28.Value.Ints.map Xc) from (Q5 (Jr (f1.at h_t28)))).mono (hw.now hF)) ((show FrS h 2 (Xk h v1 6 (Int.toNat x25_2) 4) (t28.Value.Ratios.map Jz) from (Q4 (Jr (f1.at h_t28)))).mono (hw.now hF)) ((show FrN h 6 (Xk h v1 6 (Int.toNat x25_2) 5) g_tag_Entry t28.Value.Entries from (Qv (Jr (f1.at h_t28)))).mono (hw.now hF)) h_t52) Tryz.call84 rfl rfl rfl ?_
    obtain ⟨t53, h_t53, H59⟩ := Jh H58; clear H58
    refine Xg (Ql (i := 0) (rds := []) (G := fun x : Unit => .tuple #[]) (C := fun x : Unit => Jo pb0 [Jv t53.s_, .bool t53.big_] 142) rfl (fun w L' S hF hS hi hp hlt ho hA => k83 hp hlt (Xa w S)  h_t53) Tryz.call83 rfl) rfl rfl rfl (fun _ => ?_)
    refine Jg ?_
    refine Jf ?_
    refine Jf ?_
    refine Jb ?_
    refine Ja rfl rfl rfl (Jk Tryz.runUnderlying83 rfl Tryz.sizeOf38 rfl rfl) ?_
    refine Ja rfl rfl rfl (Jk Tryz.runUnderlying38 rfl Tryz.sizeOf3 rfl rfl) ?_
    refine Js (i := 1) (v := .int .i64 t28.Value.Kind) Tryz.isAgg3 rfl rfl rfl rfl rfl ?_
    refine Ja rfl rfl rfl (Q0 rfl rfl) ?_
    refine Jg ?_
    refine Qd (b := (decide (t28.Value.Kind = 13))) rfl (fun hb => ?_) (fun hb => ?_)
    ·have H60 := Jp hb H59; clear H59
     refine Jf ?_
     refine Jb ?_
     refine Ja rfl rfl rfl (Je (v := .pointer (some ⟨pb0, 0, none⟩)) rfl) ?_
     refine Ja rfl rfl rfl (Je (v := .int .i64 t34) rfl) ?_
     obtain ⟨t60, h_t60, H61⟩ := Jh H60; clear H60
     refine Ja rfl rfl rfl (Qe rfl rfl h_t60) ?_
     refine Ja rfl rfl rfl (Je (v := .pointer (some ⟨pb0, 0, none⟩)) rfl) ?_
     refine Ja rfl rfl rfl (Jk Tryz.runUnderlying83 rfl Tryz.sizeOf38 rfl rfl) ?_
     refine Ja rfl rfl rfl (Jk Tryz.runUnderlying38 rfl Tryz.sizeOf36 rfl rfl) ?_
     refine Js (i := 1) (v := (Xk h v1 6 (Int.toNat x25_2) 5)) Tryz.isAgg36 rfl rfl rfl rfl rfl ?_
     obtain ⟨t65, h_t65, H62⟩ := Jh H61; clear H61
     refine Xg (Ql (i := 0) (rds := []) (G := fun x : Unit => .int .i64 t65.1) (C := fun x : Unit => Jo pb0 [Jv t65.2.s_, .bool t65.2.big_] 142) rfl (fun w L' S hF hS hi hp hlt ho hA => ih hp hlt (Xa w S) ((show FrN h 6 (Xk h v1 6 (Int.toNat x25_2) 5) g_tag_Entry t28.Value.Entries from (Qv (Jr (f1.at h_t28)))).mono (hw.but hF ho)) h_t65) Tryz.call151 rfl) rfl rfl rfl (fun _ => ?_)
     obtain ⟨t66, h_t66, H63⟩ := Jh H62; clear H62
     refine Xg (Ql (i := 0) (rds := []) (G := fun x : Unit => .tuple #[]) (C := fun x : Unit => Jo pb0 [Jv t66.s_, .bool t66.big_] 142) rfl (fun w L' S hF hS hi hp hlt ho hA => k83 hp hlt (Xa w S)  h_t66) Tryz.call83 rfl) rfl rfl rfl (fun _ => ?_)
     refine Jg ?_
     refine X3 ?_
     refine Jn (t66.s_, t66.big_) () 0 [0] (by exact ⟨rfl, rfl, rfl, rfl, rfl, trivial⟩) (by decide) (by kernel_rfl) (by exact ⟨H63, trivial⟩) (Nat.lt_succ_self _)
    ·have H64 := Jq hb H59; clear H59
     refine Jt ?_
     refine Jf ?_
     exact Xp (Kd.p :: Kd.p :: Kd.p :: Kd.d [0] _ :: Kd.p :: Kd.d [1] _ :: Kd.d [] _ :: Kd.p :: []) 0 mixed (by
      refine Jm rfl rfl (Je (v := .pointer (some ⟨pb0, 0, none⟩)) rfl) ?_
      refine Jm rfl rfl (Ju rfl) ?_
      refine Jm rfl rfl (Jk Tryz.runUnderlying142 rfl Tryz.sizeOf4 rfl rfl) ?_
      refine Xq (i := 0) (v := .bool t53.big_) Tryz.isAgg4 rfl rfl rfl rfl ?_
      refine Jm rfl rfl (Jk Tryz.runUnderlying83 rfl Tryz.sizeOf38 rfl rfl) ?_
      refine d_loadN (i := 1) (vs := [.int .i64 t28.Value.Kind, Jv t28.Value.Text, (Xk h v1 6 (Int.toNat x25_2) 3), (Xk h v1 6 (Int.toNat x25_2) 4), (Xk h v1 6 (Int.toNat x25_2) 5)]) Tryz.isAgg38 Tryz.sizeOf38 rfl rfl rfl rfl ?_
      have h_t73 := Qg H64
      have H65 := J6 H64
      refine d_callD (fun w L' hF hS hi => k82 (J7 w) ((show FrS h 1 (Xk h v1 6 (Int.toNat x25_2) 3) (t28.Value.Ints.map Xc) from (Q5 (Jr (f1.at h_t28)))).mono (hw.now hF)) ((show FrS h 2 (Xk h v1 6 (Int.toNat x25_2) 4) (t28.Value.Ratios.map Jz) from (Q4 (Jr (f1.at h_t28)))).mono (hw.now hF)) ((show FrN h 6 (Xk h v1 6 (Int.toNat x25_2) 5) g_tag_Entry t28.Value.Entries from (Qv (Jr (f1.at h_t28)))).mono (hw.now hF)) h_t73) Tryz.call82 rfl rfl ?_
      refine Jm rfl rfl (Jc (v := Jv (val (Zp t53.big_ t28.Value))) rfl) ?_
      refine Zh ?_
      refine Jf ?_
      refine Jf ?_
      refine Jb ?_
      refine Ja rfl rfl rfl (Je (v := Jv (val (Zp t53.big_ t28.Value))) rfl) ?_
      refine Ja rfl rfl rfl (Z0 Tryz.underlying9 rfl) ?_
      refine Ja rfl rfl rfl (Zm rfl rfl) ?_
      refine Jg ?_
      refine Qd (b := (decide (4 < ((val (Zp t53.big_ t28.Value)).length : Int)))) rfl (fun hb => ?_) (fun hb => ?_)
      ·have H66 := Jp hb H65; clear H65
       refine Jf ?_
       refine Jb ?_
       refine Ja rfl rfl rfl (Je (v := .pointer (some ⟨pb0, 0, none⟩)) rfl) ?_
       refine Ja rfl rfl rfl (Je (v := .int .i64 t34) rfl) ?_
       obtain ⟨t79, h_t79, H67⟩ := Jh H66; clear H66
       refine Ja rfl rfl rfl (Qe rfl rfl h_t79) ?_
       refine Ja rfl rfl rfl (Je (v := .pointer (some ⟨pb0, 0, none⟩)) rfl) ?_
       refine Ja rfl rfl rfl (Je (v := Jv (val (Zp t53.big_ t28.Value))) rfl) ?_
       obtain ⟨t82, h_t82, H68⟩ := Jh H67; clear H67
       refine Xg (Ql (i := 0) (rds := []) (G := fun x : Unit => .int .i64 t82.1) (C := fun x : Unit => Jo pb0 [Jv t82.2.s_, .bool t82.2.big_] 142) rfl (fun w L' S hF hS hi hp hlt ho hA => k86 hp hlt (Xa w S)  h_t82) Tryz.call86 rfl) rfl rfl rfl (fun _ => ?_)
       obtain ⟨t83, h_t83, H69⟩ := Jh H68; clear H68
       refine Xg (Ql (i := 0) (rds := []) (G := fun x : Unit => .tuple #[]) (C := fun x : Unit => Jo pb0 [Jv t83.s_, .bool t83.big_] 142) rfl (fun w L' S hF hS hi hp hlt ho hA => k83 hp hlt (Xa w S)  h_t83) Tryz.call83 rfl) rfl rfl rfl (fun _ => ?_)
       refine Jg ?_
       refine X3 ?_
       refine Jn (t83.s_, t83.big_) () 0 [0] (by exact ⟨rfl, rfl, rfl, rfl, rfl, trivial⟩) (by decide) (by kernel_rfl) (by exact ⟨H69, trivial⟩) (Nat.lt_succ_self _)
      ·have H70 := Jq hb H65; clear H65
       refine Jt ?_
       exact Xp (Kd.p :: Kd.p :: Kd.p :: Kd.p :: Kd.d [0] _ :: Kd.p :: Kd.p :: Kd.p :: Kd.p :: Kd.p :: Kd.p :: Kd.p :: Kd.p :: Kd.d [0] _ :: Kd.p :: Kd.p :: Kd.p :: Kd.p :: Kd.p :: Kd.p :: Kd.p :: Kd.p :: Kd.p :: Kd.st 106 0 [_, _] 142 :: []) 0 mixed (by
        refine Jm rfl rfl (Je (v := .pointer (some ⟨pb0, 0, none⟩)) rfl) ?_
        refine Jm rfl rfl (Je (v := .pointer (some ⟨pb0, 0, none⟩)) rfl) ?_
        refine Jm rfl rfl (Ju rfl) ?_
        refine Jm rfl rfl (Jk Tryz.runUnderlying142 rfl Tryz.sizeOf9 rfl rfl) ?_
        refine Xq (i := 0) (v := Jv t53.s_) Tryz.isAgg9 rfl rfl rfl rfl ?_
        refine Jm rfl rfl (Je (v := .int .i64 t34) rfl) ?_
        have h_t90 := Qg H70
        have H71 := J6 H70
        refine Jm rfl rfl (Qe rfl rfl h_t90) ?_
        have h_t91 := Qg H71
        have H72 := J6 H71
        refine Jm rfl rfl (Jaj Tryz.underlying9 rfl rfl h_t91) ?_
        refine Jm rfl rfl (Je (v := Jv (val (Zp t53.big_ t28.Value))) rfl) ?_
        have h_t93 := Qg H72
        have H73 := J6 H72
        refine Jm rfl rfl (Vj rfl rfl h_t93) ?_
        refine Jm rfl rfl (Je (v := .pointer (some ⟨pb0, 0, none⟩)) rfl) ?_
        refine Jm rfl rfl (Ju rfl) ?_
        refine Jm rfl rfl (Jk Tryz.runUnderlying142 rfl Tryz.sizeOf9 rfl rfl) ?_
        refine Xq (i := 0) (v := Jv t53.s_) Tryz.isAgg9 rfl rfl rfl rfl ?_
        refine Jm rfl rfl (Je (v := .int .i64 t34) rfl) ?_
        have h_t99 := Qg H73
        have H74 := J6 H73
        refine Jm rfl rfl (Qe rfl rfl h_t99) ?_
        refine Jm rfl rfl (Je (v := Jv (val (Zp t53.big_ t28.Value))) rfl) ?_
        refine Jm rfl rfl (Z0 Tryz.underlying9 rfl) ?_
        have h_t102 := Qg H74
        have H75 := J6 H74
        refine Jm rfl rfl (Qe rfl rfl h_t102) ?_
        have h_t103 := Qg H75
        have H76 := J6 H75
        refine Jm rfl rfl (r_cutFromG Tryz.underlying9 rfl rfl h_t103) ?_
        have h_t104 := Qg H76
        have H77 := J6 H76
        refine Jm rfl rfl (Vj rfl rfl h_t104) ?_
        refine Jm rfl rfl (Ju rfl) ?_
        refine Jm rfl rfl (Jk Tryz.runUnderlying142 rfl Tryz.sizeOf9 rfl rfl) ?_
        refine d_store (i := 0) (vs := [Jv (val (Uk (val (Uk (val (Ys t53.s_ 0 (val (gI (t34 + 8))))) (val (Zp t53.big_ t28.Value)))) (val (Ys t53.s_ (val (gI ((val (gI (t34 + 8))) + ((val (Zp t53.big_ t28.Value)).length : Int)))) t53.s_.length))))]) (cs' := [Jv (val (Uk (val (Uk (val (Ys t53.s_ 0 (val (gI (t34 + 8))))) (val (Zp t53.big_ t28.Value)))) (val (Ys t53.s_ (val (gI ((val (gI (t34 + 8))) + ((val (Zp t53.big_ t28.Value)).length : Int)))) t53.s_.length)))), .bool t53.big_]) Tryz.sizeOf9 rfl rfl rfl rfl rfl rfl rfl rfl rfl ?_
        refine Zh ?_
        refine Jn ((val (Uk (val (Uk (val (Ys t53.s_ 0 (val (gI (t34 + 8))))) (val (Zp t53.big_ t28.Value)))) (val (Ys t53.s_ (val (gI ((val (gI (t34 + 8))) + ((val (Zp t53.big_ t28.Value)).length : Int)))) t53.s_.length)))), t53.big_) () 0 [0] (by exact ⟨rfl, rfl, rfl, rfl, rfl, trivial⟩) (by decide) (by kernel_rfl) (by exact ⟨H77, trivial⟩) (Nat.lt_succ_self _)
        ) (by kernel_rfl)
      ) (by kernel_rfl)
   ·rintro ⟨m_5, m_6⟩ _ gg H48 _
    replace H48 : Z8 x25_2 next1 m_5 m_6 = some r := H48
    try dsimp only
    refine Jb ?_
    obtain ⟨t107, h_t107, H49⟩ := Jh H48; clear H48
    refine Ja rfl rfl rfl (Qe rfl rfl h_t107) ?_
    refine Ja rfl rfl rfl (Je (v := .int .i64 t107) rfl) ?_
    refine Jg ?_
    refine Jn (t107, m_5, m_6) () m1 [0] (by exact ⟨rfl, rfl, rfl, rfl, rfl, trivial⟩) (by decide) (by kernel_rfl) (by exact ⟨(by subst hn1; exact H49), trivial⟩) (Nat.lt_succ_self _)
  ·have H78 := Jq hb H46; clear H46
   refine X3 ?_
   refine Jf ?_
   refine Jb ?_
   refine Ja rfl rfl rfl (Je (v := .int .i64 t17.1) rfl) ?_
   refine Ja rfl rfl rfl (Jc (v := .int .i64 t17.1) rfl) ?_
   refine Jg ?_
   refine Jx ?_
   obtain rfl := Option.some.inj H78
   refine Qn (v := .int .i64 t17.1) rfl rfl (V6 () (i := 0) rfl rfl (Imp.refl _))
theorem k151 {a0 : T_tintref2_written} {pb0 : Nat} {a1 : (List T_tag_Entry)} {v1 : Value} {r : Int × T_tintref2_written} {w : World} {h : Qj} {S : Nat → Prop} (hcs : (Jo pb0 [Jv a0.s_, .bool a0.big_] 142).P S w) (hlt : ∀ b, S b → b < w.heap.size) (hw : Know h w S) (f1 : FrN h 6 v1 g_tag_Entry a1) (H : Ja9 a0 a1 = some r) : Does Tryz.prog 151 (List.toArray [.pointer (some ⟨pb0, 0, none⟩), v1]) w (fun v w' => ∃ x : Unit, v = (.int .i64 r.1) ∧ Turn w w' S (Jo pb0 [Jv r.2.s_, .bool r.2.big_] 142)) := by
 obtain ⟨mm, hm⟩ := fix_it (show Z3 (fun (self : (T_tintref2_written × (List T_tag_Entry)) → Option (Int × T_tintref2_written)) (s : T_tintref2_written × (List T_tag_Entry)) => Yt self s.1 s.2) (a0, a1) = some r from H)
 exact k151_it mm hcs hlt hw f1 hm
theorem k89 {a0 : T_tag_File} {v0_1 : Value} {r : (List UInt8)} {w : World} {h : Qj} (hw : Know h w Vi) (f0_1 : FrN h 1 v0_1 gs_tag_Entry a0.Dirs) (H : R_Octets a0 = some r) : Does Tryz.prog 89 (List.toArray [.agg #[.bool a0.Big, v0_1]]) w (fun v w' => v = (Jv r) ∧ Grow w w') := by
 refine enter (n := 59) Tryz.func89 rfl rfl rfl Vi [] (Sat.nil _ _) ?_
 refine Jf ?_
 refine Jb ?_
 refine U4 (cs := [.bool a0.Big, v0_1]) rfl rfl rfl rfl (fun b2 => ?_)
 refine Ja rfl rfl rfl (Jc (v := Jv []) rfl) ?_
 refine Jg ?_
 refine Jf ?_
 refine Jb ?_
 refine Ja rfl rfl rfl (Jk Tryz.runUnderlying24 rfl Tryz.sizeOf4 rfl rfl) ?_
 refine Js (i := 0) (v := .bool a0.Big) Tryz.isAgg4 rfl rfl rfl rfl rfl ?_
 refine Ja rfl rfl rfl (Yi (pl := #[(0, 1), (1, 1)]) (ps := [(1, .bool a0.Big)]) (cells := #[Jv [], .bool a0.Big]) Tryz.zeroValue142 Tryz.runUnderlying142 (fun w => by kernel_rfl) rfl rfl) ?_
 refine U4 (cs := [Jv [], .bool a0.Big]) rfl rfl rfl rfl (fun b3 => ?_)
 refine Ja rfl rfl rfl (Jc (v := .pointer (some ⟨b3, 0, none⟩)) rfl) ?_
 refine Jg ?_
 refine Jf ?_
 refine Jb ?_
 refine Ja rfl rfl rfl (Je (v := .pointer (some ⟨b3, 0, none⟩)) rfl) ?_
 refine Ja rfl rfl rfl (Ju rfl) ?_
 refine Ja rfl rfl rfl (Jk Tryz.runUnderlying142 rfl Tryz.sizeOf9 rfl rfl) ?_
 refine Qc (i := 1) (vs := [Jv [73, 73]]) (cs' := [Jv [73, 73], .bool a0.Big]) Tryz.sizeOf9 rfl rfl rfl rfl rfl rfl rfl rfl rfl ?_
 refine Jg ?_
 refine Qz (r := r) (σ := (List UInt8)) (τ := Unit) (fun s => Jav a0 s) (fun s t => [(1, .pointer (some ⟨b2, 0, none⟩)), (3, .pointer (some ⟨b3, 0, none⟩))]) (fun s t => [Jo b2 [.bool a0.Big, v0_1] 24, Jo b3 [Jv s, .bool a0.Big] 142]) (fun s t => True) ?_ ?_
 ·refine Jf ?_
  refine Jb ?_
  refine Ja rfl rfl rfl (Jk Tryz.runUnderlying24 rfl Tryz.sizeOf4 rfl rfl) ?_
  refine Js (i := 0) (v := .bool a0.Big) Tryz.isAgg4 rfl rfl rfl rfl rfl ?_
  refine Jg ?_
  refine Qd (b := a0.Big) rfl (fun hb => ?_) (fun hb => ?_)
  ·have H35 := Jp hb H; clear H
   refine Jb ?_
   refine Ja rfl rfl rfl (Je (v := .pointer (some ⟨b3, 0, none⟩)) rfl) ?_
   refine Ja rfl rfl rfl (Ju rfl) ?_
   refine Ja rfl rfl rfl (Jk Tryz.runUnderlying142 rfl Tryz.sizeOf9 rfl rfl) ?_
   refine Qc (i := 1) (vs := [Jv [77, 77]]) (cs' := [Jv [77, 77], .bool a0.Big]) Tryz.sizeOf9 rfl rfl rfl rfl rfl rfl rfl rfl rfl ?_
   refine Jg ?_
   refine Jn [77, 77] () 0 [0, 1] (by exact ⟨rfl, rfl, trivial⟩) (by decide) (by kernel_rfl) (by exact ⟨H35, trivial⟩) (Nat.lt_succ_self _)
  ·have H36 := Jq hb H; clear H
   refine Jt ?_
   refine Jn [73, 73] () 0 [0, 1] (by exact ⟨rfl, rfl, trivial⟩) (by decide) (by kernel_rfl) (by exact ⟨H36, trivial⟩) (Nat.lt_succ_self _)
 ·rintro m _ gg H19 _
  replace H19 : Jav a0 m = some r := H19
  try dsimp only
  refine Jf ?_
  exact Xp (Kd.p :: Kd.p :: Kd.p :: Kd.d [1] _ :: Kd.p :: Kd.d [0] _ :: Kd.d [] _ :: Kd.p :: Kd.d [0] _ :: Kd.d [] _ :: Kd.p :: Kd.p :: Kd.p :: Kd.p :: Kd.st 33 1 [_, _] 142 :: []) 0 mixed (by
   refine Jm rfl rfl (Je (v := .pointer (some ⟨b3, 0, none⟩)) rfl) ?_
   refine Jm rfl rfl (Ju rfl) ?_
   refine Jm rfl rfl (Jk Tryz.runUnderlying142 rfl Tryz.sizeOf9 rfl rfl) ?_
   refine Xq (i := 1) (v := Jv m) Tryz.isAgg9 rfl rfl rfl rfl ?_
   refine Jm rfl rfl (Jk Tryz.runUnderlying24 rfl Tryz.sizeOf4 rfl rfl) ?_
   refine Xq (i := 0) (v := .bool a0.Big) Tryz.isAgg4 rfl rfl rfl rfl ?_
   have h_t26 := Qg H19
   have H20 := J6 H19
   refine d_call (k145 h_t26) Tryz.call145 rfl rfl ?_
   refine Jm rfl rfl (Jk Tryz.runUnderlying24 rfl Tryz.sizeOf4 rfl rfl) ?_
   refine Xq (i := 0) (v := .bool a0.Big) Tryz.isAgg4 rfl rfl rfl rfl ?_
   have h_t29 := Qg H20
   have H21 := J6 H20
   refine d_call (k145 h_t29) Tryz.call145 rfl rfl ?_
   have h_t30 := Qg H21
   have H22 := J6 H21
   refine Jm rfl rfl (Vj rfl rfl h_t30) ?_
   have h_t31 := Qg H22
   have H23 := J6 H22
   refine Jm rfl rfl (Vj rfl rfl h_t31) ?_
   refine Jm rfl rfl (Ju rfl) ?_
   refine Jm rfl rfl (Jk Tryz.runUnderlying142 rfl Tryz.sizeOf9 rfl rfl) ?_
   refine d_store (i := 1) (vs := [Jv (val (Uk m (val (Uk (val (Yr a0.Big 42 2)) (val (Yr a0.Big 0 4))))))]) (cs' := [Jv (val (Uk m (val (Uk (val (Yr a0.Big 42 2)) (val (Yr a0.Big 0 4)))))), .bool a0.Big]) Tryz.sizeOf9 rfl rfl rfl rfl rfl rfl rfl rfl rfl ?_
   refine Zh ?_
   refine Jf ?_
   refine Jb ?_
   refine Ja rfl rfl rfl (Jc (v := .int .i64 4) rfl) ?_
   refine Jg ?_
   refine Qz (r := r) (σ := (List UInt8) × Bool) (τ := Unit) (fun s => R_Octets_j2 s.1 s.2) (fun s t => [(3, .pointer (some ⟨b3, 0, none⟩))]) (fun s t => [Jo b3 [Jv s.1, .bool s.2] 142]) (fun s t => True) ?_ ?_
   ·refine Jf ?_
    refine Jb ?_
    refine Ja rfl rfl rfl (Jk Tryz.runUnderlying24 rfl Tryz.sizeOf22 rfl rfl) ?_
    refine Js (i := 0) (v := v0_1) Tryz.isAgg22 rfl rfl rfl rfl rfl ?_
    refine Ja rfl rfl rfl (Zg Tryz.underlying22 rfl f0_1) ?_
    refine Ja rfl rfl rfl (Je (v := .int .i64 0) rfl) ?_
    refine Jg ?_
    refine J8 ?_
    refine c_dr 0 ?_
    try dsimp only [z1, z2, z3, z4, z5, z6, z7, z8]
    refine Z2 (σ := Int × Int × (List UInt8) × Bool) (τ := Unit) (fun next3 s => Vx a0 next3 s.1 s.2.1 s.2.2.1 s.2.2.2) (fun s t => [(3, .pointer (some ⟨b3, 0, none⟩)), (4, .int .i64 s.1), (35, v0_1), (36, .int .i64 (a0.Dirs.length : Int)), (37, .int .i64 s.2.1)]) (fun s t => [Jo b3 [Jv s.2.2.1, .bool s.2.2.2] 142]) (fun s t => True) (4, 0, (val (Uk m (val (Uk (val (Yr a0.Big 42 2)) (val (Yr a0.Big 0 4)))))), a0.Big) () [0] H23 (by exact trivial) (by exact ⟨rfl, rfl, rfl, rfl, rfl, trivial⟩) (by decide) rfl ?_
    rintro ⟨x4_2, x37_2, m_6, m_7⟩ _ m3 gg H25 _
    clear H23
    replace H25 : Vx a0 (it (fun next3 s => Vx a0 next3 s.1 s.2.1 s.2.2.1 s.2.2.2) m3) x4_2 x37_2 m_6 m_7 = some r := H25
    generalize hn3 : it (fun next3 s => Vx a0 next3 s.1 s.2.1 s.2.2.1 s.2.2.2) m3 = next3 at H25
    try dsimp only
    refine Jf ?_
    refine Jb ?_
    refine Ja rfl rfl rfl (Zc rfl rfl) ?_
    refine Jg ?_
    refine Jf ?_
    refine Qd (b := (decide (x37_2 < (a0.Dirs.length : Int)))) rfl (fun hb => ?_) (fun hb => ?_)
    ·have H26 := Jp hb H25; clear H25
     refine Jt ?_
     refine Jf ?_
     refine J8 ?_
     refine Jf ?_
     refine Jb ?_
     obtain ⟨t39, h_t39, H27⟩ := Jh H26; clear H26
     refine Ja rfl rfl rfl (X5 Tryz.underlying22 Tryz.sizeOf36 rfl rfl f0_1.frs (f0_1.ix h_t39)) ?_
     refine Yu (fun w hF hS => X4 (f := (elC h v0_1 1)) (i := x37_2) (sz := 1) (j := 0) (v := (Xk h v0_1 1 (Int.toNat x37_2) 0)) Tryz.isAgg36 rfl rfl (f0_1.frs.row (hw.now hF)) (f0_1.ix h_t39) (rg_of (Ur (f0_1.at h_t39)) rfl)) rfl rfl rfl ?_
     refine Ja rfl rfl rfl (Jc (v := (Xk h v0_1 1 (Int.toNat x37_2) 0)) rfl) ?_
     refine Jg ?_
     refine Jf ?_
     refine Jb ?_
     refine Ja rfl rfl rfl (Je (v := .pointer (some ⟨b3, 0, none⟩)) rfl) ?_
     refine Ja rfl rfl rfl (Je (v := (Xk h v0_1 1 (Int.toNat x37_2) 0)) rfl) ?_
     obtain ⟨t43, h_t43, H28⟩ := Jh H27; clear H27
     refine Xg (Ql (i := 0) (rds := []) (G := fun x : Unit => .int .i64 t43.1) (C := fun x : Unit => Jo b3 [Jv t43.2.s_, .bool t43.2.big_] 142) rfl (fun w L' S hF hS hi hp hlt ho hA => k151 (a0 := (⟨m_6, m_7⟩ : T_tintref2_written)) hp hlt (Xa w S) ((show FrN h 6 (Xk h v0_1 1 (Int.toNat x37_2) 0) g_tag_Entry t39 from (f0_1.at h_t39)).mono (hw.but hF ho)) h_t43) Tryz.call151 rfl) rfl rfl rfl (fun _ => ?_)
     refine Ja rfl rfl rfl (Jc (v := .int .i64 t43.1) rfl) ?_
     refine Jg ?_
     refine Jf ?_
     refine Jb ?_
     refine Ja rfl rfl rfl (Je (v := .pointer (some ⟨b3, 0, none⟩)) rfl) ?_
     refine Ja rfl rfl rfl (Je (v := .int .i64 x4_2) rfl) ?_
     refine Ja rfl rfl rfl (Je (v := .int .i64 t43.1) rfl) ?_
     obtain ⟨t47, h_t47, H29⟩ := Jh H28; clear H28
     refine Xg (Ql (i := 0) (rds := []) (G := fun x : Unit => .tuple #[]) (C := fun x : Unit => Jo b3 [Jv t47.s_, .bool t47.big_] 142) rfl (fun w L' S hF hS hi hp hlt ho hA => k83 hp hlt (Xa w S)  h_t47) Tryz.call83 rfl) rfl rfl rfl (fun _ => ?_)
     refine Jg ?_
     refine Jb ?_
     refine Ja rfl rfl rfl (Je (v := .int .i64 t43.1) rfl) ?_
     obtain ⟨t49, h_t49, H30⟩ := Jh H29; clear H29
     refine Ja rfl rfl rfl (Qe rfl rfl h_t49) ?_
     refine Ja rfl rfl rfl (Je (v := (Xk h v0_1 1 (Int.toNat x37_2) 0)) rfl) ?_
     refine Ja rfl rfl rfl (Zg Tryz.underlying36 rfl (show FrN h 6 (Xk h v0_1 1 (Int.toNat x37_2) 0) g_tag_Entry t39 from (f0_1.at h_t39))) ?_
     obtain ⟨t52, h_t52, H31⟩ := Jh H30; clear H30
     refine Ja rfl rfl rfl (W6 rfl rfl h_t52) ?_
     obtain ⟨t53, h_t53, H32⟩ := Jh H31; clear H31
     refine Ja rfl rfl rfl (Qe rfl rfl h_t53) ?_
     refine Ja rfl rfl rfl (Jc (v := .int .i64 t53) rfl) ?_
     refine Jg ?_
     refine Jb ?_
     obtain ⟨t54, h_t54, H33⟩ := Jh H32; clear H32
     refine Ja rfl rfl rfl (Qe rfl rfl h_t54) ?_
     refine Ja rfl rfl rfl (Je (v := .int .i64 t54) rfl) ?_
     refine Jg ?_
     refine Jn (t53, t54, t47.s_, t47.big_) () m3 [0] (by exact ⟨rfl, rfl, rfl, rfl, rfl, trivial⟩) (by decide) (by kernel_rfl) (by exact ⟨(by subst hn3; exact H33), trivial⟩) (Nat.lt_succ_self _)
    ·have H34 := Jq hb H25; clear H25
     refine X3 ?_
     refine Jn (m_6, m_7) () 0 [0] (by exact ⟨rfl, trivial⟩) (by decide) (by kernel_rfl) (by exact ⟨H34, trivial⟩) (Nat.lt_succ_self _)
   ·rintro ⟨m_2, m_3⟩ _ gg H24 _
    replace H24 : R_Octets_j2 m_2 m_3 = some r := H24
    try dsimp only
    refine Jf ?_
    refine Jb ?_
    refine Ja rfl rfl rfl (Je (v := .pointer (some ⟨b3, 0, none⟩)) rfl) ?_
    refine Ja rfl rfl rfl (Ju rfl) ?_
    refine Ja rfl rfl rfl (Jk Tryz.runUnderlying142 rfl Tryz.sizeOf9 rfl rfl) ?_
    refine Js (i := 0) (v := Jv m_2) Tryz.isAgg9 rfl rfl rfl rfl rfl ?_
    refine Ja rfl rfl rfl (Jc (v := Jv m_2) rfl) ?_
    refine Jg ?_
    refine Jx ?_
    obtain rfl := Option.some.inj H24
    refine Qn (v := Jv m_2) rfl rfl (Yh rfl)
   ) (by kernel_rfl)
theorem k141 {a0 : Int} {r : Int × Int} (H : R_limits a0 = some r) : Ret Tryz.prog 141 [.int .i64 a0] (.tuple #[.int .i64 r.1, .int .i64 r.2]) := by
 refine Wa (n := 11) Tryz.func141 rfl rfl rfl (fun wd => ?_)
 refine Jf ?_
 refine Jb ?_
 refine Ja rfl rfl rfl (Jc (v := .int .i64 0) rfl) ?_
 refine Ja rfl rfl rfl (Jc (v := .int .i64 0) rfl) ?_
 refine Jg ?_
 refine Jf ?_
 refine Jf ?_
 refine Jb ?_
 refine Ja rfl rfl rfl (Je (v := .int .i64 a0) rfl) ?_
 refine Jg ?_
 refine J8 ?_
 refine Jf ?_
 refine Jb ?_
 refine Ja rfl rfl rfl (Q0 rfl rfl) ?_
 refine Ja rfl rfl rfl (Jc (v := .bool (decide (a0 = 1))) rfl) ?_
 refine Jg ?_
 refine Qd (b := (decide (a0 = 1))) rfl (fun hb => ?_) (fun hb => ?_)
 ·have H7 := Jp hb H; clear H
  refine Jf ?_
  refine Jb ?_
  refine Ja rfl rfl rfl (Jc (v := .int .i64 0) rfl) ?_
  refine Ja rfl rfl rfl (Jc (v := .int .i64 255) rfl) ?_
  refine Jg ?_
  refine Jx ?_
  obtain rfl := Option.some.inj H7
  refine ret2 (v1 := .int .i64 0) (v2 := .int .i64 255) rfl rfl rfl (Yh rfl)
 ·have H8 := Jq hb H; clear H
  refine Jf ?_
  refine Jb ?_
  refine Ja rfl rfl rfl (Q0 rfl rfl) ?_
  refine Ja rfl rfl rfl (Jc (v := .bool (decide (a0 = 3))) rfl) ?_
  refine Jg ?_
  refine Qd (b := (decide (a0 = 3))) rfl (fun hb => ?_) (fun hb => ?_)
  ·have H9 := Jp hb H8; clear H8
   refine Jf ?_
   refine Jb ?_
   refine Ja rfl rfl rfl (Jc (v := .int .i64 0) rfl) ?_
   refine Ja rfl rfl rfl (Jc (v := .int .i64 65535) rfl) ?_
   refine Jg ?_
   refine Jx ?_
   obtain rfl := Option.some.inj H9
   refine ret2 (v1 := .int .i64 0) (v2 := .int .i64 65535) rfl rfl rfl (Yh rfl)
  ·have H10 := Jq hb H8; clear H8
   refine Jf ?_
   refine Jb ?_
   refine Ja rfl rfl rfl (Q0 rfl rfl) ?_
   refine Ja rfl rfl rfl (Jc (v := .bool (decide (a0 = 9))) rfl) ?_
   refine Jg ?_
   refine Qd (b := (decide (a0 = 9))) rfl (fun hb => ?_) (fun hb => ?_)
   ·have H11 := Jp hb H10; clear H10
    refine Jf ?_
    refine Jb ?_
    refine Ja rfl rfl rfl (Jc (v := .int .i64 (-2147483648)) rfl) ?_
    refine Ja rfl rfl rfl (Jc (v := .int .i64 2147483647) rfl) ?_
    refine Jg ?_
    refine Jx ?_
    obtain rfl := Option.some.inj H11
    refine ret2 (v1 := .int .i64 (-2147483648)) (v2 := .int .i64 2147483647) rfl rfl rfl (Yh rfl)
   ·have H12 := Jq hb H10; clear H10
    refine Jt ?_
    refine Jf ?_
    refine Jb ?_
    refine Ja rfl rfl rfl (Jc (v := .int .i64 0) rfl) ?_
    refine Ja rfl rfl rfl (Jc (v := .int .i64 4294967295) rfl) ?_
    refine Jg ?_
    refine Jx ?_
    obtain rfl := Option.some.inj H12
    refine ret2 (v1 := .int .i64 0) (v2 := .int .i64 4294967295) rfl rfl rfl (Yh rfl)
theorem ext220 (s : List UInt8) (c r : Int) (h : gIxB s c = some r) (w : World) : (callFunc 220 (List.toArray [Jv s, .int .u8 c])).run Tryz.prog w = .ok (.value (.int .i64 r)) w := by
  have h0 : (callFunc 220 #[Jv s, .int .u8 c]).run Tryz.prog w = (do pure (.value (← Extern.BytealgIndexByte.indexByte #[Jv s, .int .u8 c])) : Sem Next).run Tryz.prog w := by kernel_rfl
  rw [h0]
  simp only [Sem.run_bind, Go.Lx.run_ixB h, Result.andThen_ok, Sem.run_pure]
theorem k183 {a0 : (List UInt8)} {a1 : Int} {r : Int} (H : Yz a0 a1 = some r) : Ret Tryz.prog 183 [Jv a0, .int .u8 a1] (.int .i64 r) := by
 refine Wa (n := 8) Tryz.func183 rfl rfl rfl (fun wd => ?_)
 refine Jf ?_
 refine Jb ?_
 refine Ja rfl rfl rfl (Jc (v := .int .i64 0) rfl) ?_
 refine Jg ?_
 refine Jf ?_
 refine Jb ?_
 refine Ja rfl rfl rfl (Je (v := Jv a0) rfl) ?_
 refine Ja rfl rfl rfl (Je (v := .int .u8 a1) rfl) ?_
 obtain ⟨t7, h_t7, H2⟩ := Jh H; clear H
 refine Ja rfl rfl rfl (r_ext (args := [Jv a0, .int .u8 a1]) (ext220 _ _ _ h_t7) rfl) ?_
 refine Ja rfl rfl rfl (Jc (v := .int .i64 t7) rfl) ?_
 refine Jg ?_
 refine Jx ?_
 obtain rfl := Option.some.inj H2
 refine Qn (v := .int .i64 t7) rfl rfl (Yh rfl)
theorem k142 {a0 : (List UInt8)} {a1 : Int} {r : Int} (H : Wu a0 a1 = some r) : Ret Tryz.prog 142 [Jv a0, .int .u8 a1] (.int .i64 r) := by
 refine Wa (n := 8) Tryz.func142 rfl rfl rfl (fun wd => ?_)
 refine Jf ?_
 refine Jb ?_
 refine Ja rfl rfl rfl (Jc (v := .int .i64 0) rfl) ?_
 refine Jg ?_
 refine Jf ?_
 refine Jb ?_
 refine Ja rfl rfl rfl (Je (v := Jv a0) rfl) ?_
 refine Ja rfl rfl rfl (Je (v := .int .u8 a1) rfl) ?_
 obtain ⟨t7, h_t7, H2⟩ := Jh H; clear H
 refine Wb (k183 h_t7) Tryz.call183 rfl rfl rfl ?_
 refine Ja rfl rfl rfl (Jc (v := .int .i64 t7) rfl) ?_
 refine Jg ?_
 refine Jx ?_
 obtain rfl := Option.some.inj H2
 refine Qn (v := .int .i64 t7) rfl rfl (Yh rfl)
theorem k79 {a0 : T_tag_Value} {v0_2 : Value} {v0_3 : Value} {v0_4 : Value} {r : Int} {w : World} {h : Qj} (hw : Know h w Vi) (f0_2 : FrS h 1 v0_2 (a0.Ints.map Xc)) (f0_3 : FrS h 2 v0_3 (a0.Ratios.map Jz)) (f0_4 : FrN h 6 v0_4 g_tag_Entry a0.Entries) (H : Jax a0 = some r) : Does Tryz.prog 79 (List.toArray [.agg #[.int .i64 a0.Kind, Jv a0.Text, v0_2, v0_3, v0_4]]) w (fun v w' => v = (.int .i64 r) ∧ Grow w w') := by
 refine enter (n := 139) Tryz.func79 rfl rfl rfl Vi [] (Sat.nil _ _) ?_
 refine Jf ?_
 refine Jb ?_
 refine U4 (cs := [.int .i64 a0.Kind, Jv a0.Text, v0_2, v0_3, v0_4]) rfl rfl rfl rfl (fun b2 => ?_)
 refine Ja rfl rfl rfl (Jc (v := .int .i64 0) rfl) ?_
 refine Jg ?_
 refine Qz (r := r) (σ := Bool × Bool) (τ := Unit) (fun s => Ya a0 s.1 s.2) (fun s t => [(1, .pointer (some ⟨b2, 0, none⟩)), (3, .bool s.1), (4, .bool s.2)]) (fun s t => [Jo b2 [.int .i64 a0.Kind, Jv a0.Text, v0_2, v0_3, v0_4] 38]) (fun s t => True) ?_ ?_
 ·exact Xp (Kd.p :: Kd.d [0] _ :: Kd.p :: Kd.p :: Kd.p :: Kd.d [0] _ :: Kd.p :: Kd.p :: Kd.p :: Kd.d [0] _ :: Kd.p :: Kd.p :: Kd.p :: Kd.d [0] _ :: Kd.p :: Kd.p :: Kd.p :: Kd.p :: Kd.d [0] _ :: Kd.p :: Kd.p :: Kd.p :: Kd.p :: Kd.d [0] _ :: Kd.p :: Kd.p :: Kd.p :: Kd.p :: []) 0 mixed (by
   refine Jm rfl rfl (Jk Tryz.runUnderlying38 rfl Tryz.sizeOf3 rfl rfl) ?_
   refine Xq (i := 0) (v := .int .i64 a0.Kind) Tryz.isAgg3 rfl rfl rfl rfl ?_
   refine Jm rfl rfl (Q0 rfl rfl) ?_
   refine Jm rfl rfl (Je (v := .bool (decide (a0.Kind = 2))) rfl) ?_
   refine splitS (fun hb => ?_) (fun hb => ?_)
   ·have H141 := Jp hb H
    refine Qi rfl rfl ?_
    refine Qi rfl rfl ?_
    refine Qi rfl rfl ?_
    refine Jm rfl rfl (J9 (v := .bool true) rfl rfl) ?_
    refine Jm rfl rfl (Jk Tryz.runUnderlying38 rfl Tryz.sizeOf3 rfl rfl) ?_
    refine Xq (i := 0) (v := .int .i64 a0.Kind) Tryz.isAgg3 rfl rfl rfl rfl ?_
    refine Jm rfl rfl (Q0 rfl rfl) ?_
    refine Jm rfl rfl (Je (v := .bool (decide (a0.Kind = 1))) rfl) ?_
    refine splitS (fun hb => ?_) (fun hb => ?_)
    ·have H142 := Jp hb H141
     refine Qi rfl rfl ?_
     refine Qi rfl rfl ?_
     refine Qi rfl rfl ?_
     refine Jm rfl rfl (J9 (v := .bool true) rfl rfl) ?_
     refine Jm rfl rfl (Je (v := .bool true) rfl) ?_
     refine Qi rfl rfl ?_
     refine Qi rfl rfl ?_
     refine Qi rfl rfl ?_
     refine Jm rfl rfl (J9 (v := .bool true) rfl rfl) ?_
     refine Jm rfl rfl (Je (v := .bool true) rfl) ?_
     refine Qi rfl rfl ?_
     refine Qi rfl rfl ?_
     refine Qi rfl rfl ?_
     refine Jm rfl rfl (J9 (v := .bool true) rfl rfl) ?_
     refine Jm rfl rfl (Jc (v := .bool true) rfl) ?_
     refine Jm rfl rfl (Jc (v := .bool true) rfl) ?_
     refine Zh ?_
     refine Jn (true, true) () 0 [0] (by exact ⟨rfl, rfl, rfl, trivial⟩) (by decide) (by kernel_rfl) (by exact ⟨H142, trivial⟩) (Nat.lt_succ_self _)
    ·have H143 := Jq hb H141
     refine Jm rfl rfl (Jk Tryz.runUnderlying38 rfl Tryz.sizeOf3 rfl rfl) ?_
     refine Xq (i := 0) (v := .int .i64 a0.Kind) Tryz.isAgg3 rfl rfl rfl rfl ?_
     refine Jm rfl rfl (Q0 rfl rfl) ?_
     refine Jm rfl rfl (Qf (v := .bool (decide (a0.Kind = 3))) rfl rfl) ?_
     refine Jm rfl rfl (Je (v := .bool (decide (a0.Kind = 3))) rfl) ?_
     refine splitS (fun hb => ?_) (fun hb => ?_)
     ·have H144 := Jp hb H143
      refine Qi rfl rfl ?_
      refine Qi rfl rfl ?_
      refine Qi rfl rfl ?_
      refine Jm rfl rfl (J9 (v := .bool true) rfl rfl) ?_
      refine Jm rfl rfl (Je (v := .bool true) rfl) ?_
      refine Qi rfl rfl ?_
      refine Qi rfl rfl ?_
      refine Qi rfl rfl ?_
      refine Jm rfl rfl (J9 (v := .bool true) rfl rfl) ?_
      refine Jm rfl rfl (Jc (v := .bool true) rfl) ?_
      refine Jm rfl rfl (Jc (v := .bool true) rfl) ?_
      refine Zh ?_
      refine Jn (true, true) () 0 [0] (by exact ⟨rfl, rfl, rfl, trivial⟩) (by decide) (by kernel_rfl) (by exact ⟨H144, trivial⟩) (Nat.lt_succ_self _)
     ·have H145 := Jq hb H143
      refine Jm rfl rfl (Jk Tryz.runUnderlying38 rfl Tryz.sizeOf3 rfl rfl) ?_
      refine Xq (i := 0) (v := .int .i64 a0.Kind) Tryz.isAgg3 rfl rfl rfl rfl ?_
      refine Jm rfl rfl (Q0 rfl rfl) ?_
      refine Jm rfl rfl (Qf (v := .bool (decide (a0.Kind = 4))) rfl rfl) ?_
      refine Jm rfl rfl (Je (v := .bool (decide (a0.Kind = 4))) rfl) ?_
      refine splitS (fun hb => ?_) (fun hb => ?_)
      ·have H146 := Jp hb H145
       refine Qi rfl rfl ?_
       refine Qi rfl rfl ?_
       refine Qi rfl rfl ?_
       refine Jm rfl rfl (J9 (v := .bool true) rfl rfl) ?_
       refine Jm rfl rfl (Jc (v := .bool true) rfl) ?_
       refine Jm rfl rfl (Jc (v := .bool true) rfl) ?_
       refine Zh ?_
       refine Jn (true, true) () 0 [0] (by exact ⟨rfl, rfl, rfl, trivial⟩) (by decide) (by kernel_rfl) (by exact ⟨H146, trivial⟩) (Nat.lt_succ_self _)
      ·have H147 := Jq hb H145
       refine Jm rfl rfl (Jk Tryz.runUnderlying38 rfl Tryz.sizeOf3 rfl rfl) ?_
       refine Xq (i := 0) (v := .int .i64 a0.Kind) Tryz.isAgg3 rfl rfl rfl rfl ?_
       refine Jm rfl rfl (Q0 rfl rfl) ?_
       refine Jm rfl rfl (Qf (v := .bool (decide (a0.Kind = 9))) rfl rfl) ?_
       refine Jm rfl rfl (Jc (v := .bool true) rfl) ?_
       refine Jm rfl rfl (Jc (v := .bool (decide (a0.Kind = 9))) rfl) ?_
       refine Zh ?_
       refine Jn (true, (decide (a0.Kind = 9))) () 0 [0] (by exact ⟨rfl, rfl, rfl, trivial⟩) (by decide) (by kernel_rfl) (by exact ⟨H147, trivial⟩) (Nat.lt_succ_self _)
   ·have H148 := Jq hb H
    refine Jm rfl rfl (Jk Tryz.runUnderlying38 rfl Tryz.sizeOf3 rfl rfl) ?_
    refine Xq (i := 0) (v := .int .i64 a0.Kind) Tryz.isAgg3 rfl rfl rfl rfl ?_
    refine Jm rfl rfl (Q0 rfl rfl) ?_
    refine Jm rfl rfl (Qf (v := .bool (decide (a0.Kind = 7))) rfl rfl) ?_
    refine Jm rfl rfl (Jk Tryz.runUnderlying38 rfl Tryz.sizeOf3 rfl rfl) ?_
    refine Xq (i := 0) (v := .int .i64 a0.Kind) Tryz.isAgg3 rfl rfl rfl rfl ?_
    refine Jm rfl rfl (Q0 rfl rfl) ?_
    refine Jm rfl rfl (Je (v := .bool (decide (a0.Kind = 1))) rfl) ?_
    refine splitS (fun hb => ?_) (fun hb => ?_)
    ·have H149 := Jp hb H148
     refine Qi rfl rfl ?_
     refine Qi rfl rfl ?_
     refine Qi rfl rfl ?_
     refine Jm rfl rfl (J9 (v := .bool true) rfl rfl) ?_
     refine Jm rfl rfl (Je (v := .bool true) rfl) ?_
     refine Qi rfl rfl ?_
     refine Qi rfl rfl ?_
     refine Qi rfl rfl ?_
     refine Jm rfl rfl (J9 (v := .bool true) rfl rfl) ?_
     refine Jm rfl rfl (Je (v := .bool true) rfl) ?_
     refine Qi rfl rfl ?_
     refine Qi rfl rfl ?_
     refine Qi rfl rfl ?_
     refine Jm rfl rfl (J9 (v := .bool true) rfl rfl) ?_
     refine Jm rfl rfl (Jc (v := .bool (decide (a0.Kind = 7))) rfl) ?_
     refine Jm rfl rfl (Jc (v := .bool true) rfl) ?_
     refine Zh ?_
     refine Jn ((decide (a0.Kind = 7)), true) () 0 [0] (by exact ⟨rfl, rfl, rfl, trivial⟩) (by decide) (by kernel_rfl) (by exact ⟨H149, trivial⟩) (Nat.lt_succ_self _)
    ·have H150 := Jq hb H148
     refine Jm rfl rfl (Jk Tryz.runUnderlying38 rfl Tryz.sizeOf3 rfl rfl) ?_
     refine Xq (i := 0) (v := .int .i64 a0.Kind) Tryz.isAgg3 rfl rfl rfl rfl ?_
     refine Jm rfl rfl (Q0 rfl rfl) ?_
     refine Jm rfl rfl (Qf (v := .bool (decide (a0.Kind = 3))) rfl rfl) ?_
     refine Jm rfl rfl (Je (v := .bool (decide (a0.Kind = 3))) rfl) ?_
     refine splitS (fun hb => ?_) (fun hb => ?_)
     ·have H151 := Jp hb H150
      refine Qi rfl rfl ?_
      refine Qi rfl rfl ?_
      refine Qi rfl rfl ?_
      refine Jm rfl rfl (J9 (v := .bool true) rfl rfl) ?_
      refine Jm rfl rfl (Je (v := .bool true) rfl) ?_
      refine Qi rfl rfl ?_
      refine Qi rfl rfl ?_
      refine Qi rfl rfl ?_
      refine Jm rfl rfl (J9 (v := .bool true) rfl rfl) ?_
      refine Jm rfl rfl (Jc (v := .bool (decide (a0.Kind = 7))) rfl) ?_
      refine Jm rfl rfl (Jc (v := .bool true) rfl) ?_
      refine Zh ?_
      refine Jn ((decide (a0.Kind = 7)), true) () 0 [0] (by exact ⟨rfl, rfl, rfl, trivial⟩) (by decide) (by kernel_rfl) (by exact ⟨H151, trivial⟩) (Nat.lt_succ_self _)
     ·have H152 := Jq hb H150
      refine Jm rfl rfl (Jk Tryz.runUnderlying38 rfl Tryz.sizeOf3 rfl rfl) ?_
      refine Xq (i := 0) (v := .int .i64 a0.Kind) Tryz.isAgg3 rfl rfl rfl rfl ?_
      refine Jm rfl rfl (Q0 rfl rfl) ?_
      refine Jm rfl rfl (Qf (v := .bool (decide (a0.Kind = 4))) rfl rfl) ?_
      refine Jm rfl rfl (Je (v := .bool (decide (a0.Kind = 4))) rfl) ?_
      refine splitS (fun hb => ?_) (fun hb => ?_)
      ·have H153 := Jp hb H152
       refine Qi rfl rfl ?_
       refine Qi rfl rfl ?_
       refine Qi rfl rfl ?_
       refine Jm rfl rfl (J9 (v := .bool true) rfl rfl) ?_
       refine Jm rfl rfl (Jc (v := .bool (decide (a0.Kind = 7))) rfl) ?_
       refine Jm rfl rfl (Jc (v := .bool true) rfl) ?_
       refine Zh ?_
       refine Jn ((decide (a0.Kind = 7)), true) () 0 [0] (by exact ⟨rfl, rfl, rfl, trivial⟩) (by decide) (by kernel_rfl) (by exact ⟨H153, trivial⟩) (Nat.lt_succ_self _)
      ·have H154 := Jq hb H152
       refine Jm rfl rfl (Jk Tryz.runUnderlying38 rfl Tryz.sizeOf3 rfl rfl) ?_
       refine Xq (i := 0) (v := .int .i64 a0.Kind) Tryz.isAgg3 rfl rfl rfl rfl ?_
       refine Jm rfl rfl (Q0 rfl rfl) ?_
       refine Jm rfl rfl (Qf (v := .bool (decide (a0.Kind = 9))) rfl rfl) ?_
       refine Jm rfl rfl (Jc (v := .bool (decide (a0.Kind = 7))) rfl) ?_
       refine Jm rfl rfl (Jc (v := .bool (decide (a0.Kind = 9))) rfl) ?_
       refine Zh ?_
       refine Jn ((decide (a0.Kind = 7)), (decide (a0.Kind = 9))) () 0 [0] (by exact ⟨rfl, rfl, rfl, trivial⟩) (by decide) (by kernel_rfl) (by exact ⟨H154, trivial⟩) (Nat.lt_succ_self _)
   ) (by kernel_rfl)
 ·rintro ⟨x3, x4⟩ _ gg H78 _
  replace H78 : Ya a0 x3 x4 = some r := H78
  try dsimp only
  refine Qz (r := r) (σ := Unit) (τ := Unit) (fun s => X9 a0) (fun s t => [(1, .pointer (some ⟨b2, 0, none⟩))]) (fun s t => [Jo b2 [.int .i64 a0.Kind, Jv a0.Text, v0_2, v0_3, v0_4] 38]) (fun s t => True) ?_ ?_
  ·refine J8 ?_
   refine Jf ?_
   refine Jb ?_
   refine Ja rfl rfl rfl (Jk Tryz.runUnderlying38 rfl Tryz.sizeOf3 rfl rfl) ?_
   refine Js (i := 0) (v := .int .i64 a0.Kind) Tryz.isAgg3 rfl rfl rfl rfl rfl ?_
   obtain ⟨t40, h_t40, H113⟩ := Jh H78; clear H78
   refine Wb (k140 h_t40) Tryz.call140 rfl rfl rfl ?_
   refine Ja rfl rfl rfl (Q0 rfl rfl) ?_
   refine Ja rfl rfl rfl (Jc (v := .bool (decide (t40 = 0))) rfl) ?_
   refine Jg ?_
   refine Qd (b := (decide (t40 = 0))) rfl (fun hb => ?_) (fun hb => ?_)
   ·have H114 := Jp hb H113; clear H113
    refine Jf ?_
    refine Jb ?_
    refine Ja rfl rfl rfl (Jc (v := .int .i64 10) rfl) ?_
    refine Jg ?_
    refine Jx ?_
    obtain rfl := Option.some.inj H114
    refine Qn (v := .int .i64 10) rfl rfl (Yh rfl)
   ·have H115 := Jq hb H113; clear H113
    refine Jf ?_
    refine Qz (r := r) (σ := Bool) (τ := Unit) (fun s => We a0 x4 s) (fun s t => [(1, .pointer (some ⟨b2, 0, none⟩)), (4, .bool x4), (42, .bool s)]) (fun s t => [Jo b2 [.int .i64 a0.Kind, Jv a0.Text, v0_2, v0_3, v0_4] 38]) (fun s t => True) ?_ ?_
    ·refine Jb ?_
     refine Ja rfl rfl rfl (Jk Tryz.runUnderlying38 rfl Tryz.sizeOf9 rfl rfl) ?_
     refine Js (i := 0) (v := Jv a0.Text) Tryz.isAgg9 rfl rfl rfl rfl rfl ?_
     refine Ja rfl rfl rfl (r_neqT rfl rfl) ?_
     refine Ja rfl rfl rfl (Je (v := .bool (decide (a0.Text ≠ []))) rfl) ?_
     refine split (fun hb => ?_) (fun hb => ?_)
     ·have H139 := Jp hb H115; clear H115
      refine Ja rfl rfl rfl (Je (v := .bool x3) rfl) ?_
      refine Ja rfl rfl rfl (r_not rfl) ?_
      refine Ja rfl rfl rfl (J9 (v := .bool (!x3)) rfl rfl) ?_
      refine Ja rfl rfl rfl (Jc (v := .bool (!x3)) rfl) ?_
      refine Jg ?_
      refine Jn (!x3) () 0 [0] (by exact ⟨rfl, rfl, rfl, trivial⟩) (by decide) (by kernel_rfl) (by exact ⟨H139, trivial⟩) (Nat.lt_succ_self _)
     ·have H140 := Jq hb H115; clear H115
      refine Ji rfl rfl rfl ?_
      refine Ji rfl rfl rfl ?_
      refine Ja rfl rfl rfl (Qf (v := .bool false) rfl rfl) ?_
      refine Ja rfl rfl rfl (Jc (v := .bool false) rfl) ?_
      refine Jg ?_
      refine Jn false () 0 [0] (by exact ⟨rfl, rfl, rfl, trivial⟩) (by decide) (by kernel_rfl) (by exact ⟨H140, trivial⟩) (Nat.lt_succ_self _)
    ·rintro x42 _ gg H116 _
     replace H116 : We a0 x4 x42 = some r := H116
     try dsimp only
     refine Qd (b := x42) rfl (fun hb => ?_) (fun hb => ?_)
     ·have H117 := Jp hb H116; clear H116
      refine Jt ?_
      refine Qd (b := x42) rfl (fun hb => ?_) (fun hb => ?_)
      ·have H118 := Jp hb H117; clear H117
       refine Jf ?_
       refine Jb ?_
       refine Ja rfl rfl rfl (Jc (v := .int .i64 1) rfl) ?_
       refine Jg ?_
       refine Jx ?_
       obtain rfl := Option.some.inj H118
       refine Qn (v := .int .i64 1) rfl rfl (Yh rfl)
      ·have H119 := Jq hb H117; clear H117
       refine Jt ?_
       refine Jn () () 0 [0] (by exact ⟨rfl, trivial⟩) (by decide) (by kernel_rfl) (by exact ⟨H119, trivial⟩) (Nat.lt_succ_self _)
     ·have H120 := Jq hb H116; clear H116
      refine Qz (r := r) (σ := Bool) (τ := Unit) (fun s => Wh a0 s) (fun s t => [(1, .pointer (some ⟨b2, 0, none⟩)), (42, .bool s)]) (fun s t => [Jo b2 [.int .i64 a0.Kind, Jv a0.Text, v0_2, v0_3, v0_4] 38]) (fun s t => True) ?_ ?_
      ·refine Jb ?_
       refine Ja rfl rfl rfl (Jk Tryz.runUnderlying38 rfl Tryz.sizeOf30 rfl rfl) ?_
       refine Js (i := 0) (v := v0_2) Tryz.isAgg30 rfl rfl rfl rfl rfl ?_
       refine Ja rfl rfl rfl (Vs Tryz.underlying30 rfl f0_2 rfl) ?_
       refine Ja rfl rfl rfl (Zm rfl rfl) ?_
       refine Ja rfl rfl rfl (Je (v := .bool (decide (0 < (a0.Ints.length : Int)))) rfl) ?_
       refine split (fun hb => ?_) (fun hb => ?_)
       ·have H137 := Jp hb H120; clear H120
        refine Ja rfl rfl rfl (Je (v := .bool x4) rfl) ?_
        refine Ja rfl rfl rfl (r_not rfl) ?_
        refine Ja rfl rfl rfl (J9 (v := .bool (!x4)) rfl rfl) ?_
        refine Ja rfl rfl rfl (Jc (v := .bool (!x4)) rfl) ?_
        refine Jg ?_
        refine Jn (!x4) () 0 [0] (by exact ⟨rfl, rfl, trivial⟩) (by decide) (by kernel_rfl) (by exact ⟨H137, trivial⟩) (Nat.lt_succ_self _)
       ·have H138 := Jq hb H120; clear H120
        refine Ji rfl rfl rfl ?_
        refine Ji rfl rfl rfl ?_
        refine Ja rfl rfl rfl (Qf (v := .bool false) rfl rfl) ?_
        refine Ja rfl rfl rfl (Jc (v := .bool false) rfl) ?_
        refine Jg ?_
        refine Jn false () 0 [0] (by exact ⟨rfl, rfl, trivial⟩) (by decide) (by kernel_rfl) (by exact ⟨H138, trivial⟩) (Nat.lt_succ_self _)
      ·rintro x42_2 _ gg H121 _
       replace H121 : Wh a0 x42_2 = some r := H121
       try dsimp only
       refine Qd (b := x42_2) rfl (fun hb => ?_) (fun hb => ?_)
       ·have H122 := Jp hb H121; clear H121
        refine Jt ?_
        refine Qd (b := x42_2) rfl (fun hb => ?_) (fun hb => ?_)
        ·have H123 := Jp hb H122; clear H122
         refine Jf ?_
         refine Jb ?_
         refine Ja rfl rfl rfl (Jc (v := .int .i64 1) rfl) ?_
         refine Jg ?_
         refine Jx ?_
         obtain rfl := Option.some.inj H123
         refine Qn (v := .int .i64 1) rfl rfl (Yh rfl)
        ·have H124 := Jq hb H122; clear H122
         refine Jt ?_
         refine Jn () () 0 [0] (by exact ⟨rfl, trivial⟩) (by decide) (by kernel_rfl) (by exact ⟨H124, trivial⟩) (Nat.lt_succ_self _)
       ·have H125 := Jq hb H121; clear H121
        refine Qz (r := r) (σ := Bool) (τ := Unit) (fun s => V4 a0 s) (fun s t => [(1, .pointer (some ⟨b2, 0, none⟩)), (42, .bool s)]) (fun s t => [Jo b2 [.int .i64 a0.Kind, Jv a0.Text, v0_2, v0_3, v0_4] 38]) (fun s t => True) ?_ ?_
        ·refine Jb ?_
         refine Ja rfl rfl rfl (Jk Tryz.runUnderlying38 rfl Tryz.sizeOf31 rfl rfl) ?_
         refine Js (i := 0) (v := v0_3) Tryz.isAgg31 rfl rfl rfl rfl rfl ?_
         refine Ja rfl rfl rfl (Vs Tryz.underlying31 rfl f0_3 rfl) ?_
         refine Ja rfl rfl rfl (Zm rfl rfl) ?_
         refine Ja rfl rfl rfl (Je (v := .bool (decide (0 < (a0.Ratios.length : Int)))) rfl) ?_
         refine split (fun hb => ?_) (fun hb => ?_)
         ·have H135 := Jp hb H125; clear H125
          refine Ja rfl rfl rfl (Jk Tryz.runUnderlying38 rfl Tryz.sizeOf3 rfl rfl) ?_
          refine Js (i := 0) (v := .int .i64 a0.Kind) Tryz.isAgg3 rfl rfl rfl rfl rfl ?_
          refine Ja rfl rfl rfl (Va rfl rfl) ?_
          refine Ja rfl rfl rfl (J9 (v := .bool (decide (a0.Kind ≠ 5))) rfl rfl) ?_
          refine Ja rfl rfl rfl (Jc (v := .bool (decide (a0.Kind ≠ 5))) rfl) ?_
          refine Jg ?_
          refine Jn (decide (a0.Kind ≠ 5)) () 0 [0] (by exact ⟨rfl, rfl, trivial⟩) (by decide) (by kernel_rfl) (by exact ⟨H135, trivial⟩) (Nat.lt_succ_self _)
         ·have H136 := Jq hb H125; clear H125
          refine Ji rfl rfl rfl ?_
          refine Ji rfl rfl rfl ?_
          refine Ji rfl rfl rfl ?_
          refine Ja rfl rfl rfl (Qf (v := .bool false) rfl rfl) ?_
          refine Ja rfl rfl rfl (Jc (v := .bool false) rfl) ?_
          refine Jg ?_
          refine Jn false () 0 [0] (by exact ⟨rfl, rfl, trivial⟩) (by decide) (by kernel_rfl) (by exact ⟨H136, trivial⟩) (Nat.lt_succ_self _)
        ·rintro x42_3 _ gg H126 _
         replace H126 : V4 a0 x42_3 = some r := H126
         try dsimp only
         refine Qd (b := x42_3) rfl (fun hb => ?_) (fun hb => ?_)
         ·have H127 := Jp hb H126; clear H126
          refine Jt ?_
          refine Qd (b := x42_3) rfl (fun hb => ?_) (fun hb => ?_)
          ·have H128 := Jp hb H127; clear H127
           refine Jf ?_
           refine Jb ?_
           refine Ja rfl rfl rfl (Jc (v := .int .i64 1) rfl) ?_
           refine Jg ?_
           refine Jx ?_
           obtain rfl := Option.some.inj H128
           refine Qn (v := .int .i64 1) rfl rfl (Yh rfl)
          ·have H129 := Jq hb H127; clear H127
           refine Jt ?_
           refine Jn () () 0 [0] (by exact ⟨rfl, trivial⟩) (by decide) (by kernel_rfl) (by exact ⟨H129, trivial⟩) (Nat.lt_succ_self _)
         ·have H130 := Jq hb H126; clear H126
          refine Jb ?_
          refine Ja rfl rfl rfl (Jk Tryz.runUnderlying38 rfl Tryz.sizeOf36 rfl rfl) ?_
          refine Js (i := 0) (v := v0_4) Tryz.isAgg36 rfl rfl rfl rfl rfl ?_
          refine Ja rfl rfl rfl (Zg Tryz.underlying36 rfl f0_4) ?_
          refine Ja rfl rfl rfl (Zm rfl rfl) ?_
          refine Ja rfl rfl rfl (Je (v := .bool (decide (0 < (a0.Entries.length : Int)))) rfl) ?_
          refine split (fun hb => ?_) (fun hb => ?_)
          ·have H131 := Jp hb H130; clear H130
           refine Ja rfl rfl rfl (Jk Tryz.runUnderlying38 rfl Tryz.sizeOf3 rfl rfl) ?_
           refine Js (i := 0) (v := .int .i64 a0.Kind) Tryz.isAgg3 rfl rfl rfl rfl rfl ?_
           refine Ja rfl rfl rfl (Va rfl rfl) ?_
           refine Ja rfl rfl rfl (J9 (v := .bool (decide (a0.Kind ≠ 13))) rfl rfl) ?_
           refine Ja rfl rfl rfl (Jc (v := .bool (decide (a0.Kind ≠ 13))) rfl) ?_
           refine Jg ?_
           refine Qd (b := (decide (a0.Kind ≠ 13))) rfl (fun hb => ?_) (fun hb => ?_)
           ·have H132 := Jp hb H131; clear H131
            refine Jf ?_
            refine Jb ?_
            refine Ja rfl rfl rfl (Jc (v := .int .i64 1) rfl) ?_
            refine Jg ?_
            refine Jx ?_
            obtain rfl := Option.some.inj H132
            refine Qn (v := .int .i64 1) rfl rfl (Yh rfl)
           ·have H133 := Jq hb H131; clear H131
            refine Jt ?_
            refine Jn () () 0 [0] (by exact ⟨rfl, trivial⟩) (by decide) (by kernel_rfl) (by exact ⟨H133, trivial⟩) (Nat.lt_succ_self _)
          ·have H134 := Jq hb H130; clear H130
           refine Ji rfl rfl rfl ?_
           refine Ji rfl rfl rfl ?_
           refine Ji rfl rfl rfl ?_
           refine Ja rfl rfl rfl (Qf (v := .bool false) rfl rfl) ?_
           refine Ja rfl rfl rfl (Jc (v := .bool false) rfl) ?_
           refine Jg ?_
           refine Ug rfl ?_
           refine Jt ?_
           refine Jn () () 0 [0] (by exact ⟨rfl, trivial⟩) (by decide) (by kernel_rfl) (by exact ⟨H134, trivial⟩) (Nat.lt_succ_self _)
  ·rintro _ _ gg H79 _
   replace H79 : X9 a0 = some r := H79
   try dsimp only
   refine Jf ?_
   refine Jb ?_
   refine Ja rfl rfl rfl (Jk Tryz.runUnderlying38 rfl Tryz.sizeOf3 rfl rfl) ?_
   refine Js (i := 0) (v := .int .i64 a0.Kind) Tryz.isAgg3 rfl rfl rfl rfl rfl ?_
   obtain ⟨t79, h_t79, H80⟩ := Jh H79; clear H79
   refine Wb (k141 h_t79) Tryz.call141 rfl rfl rfl ?_
   refine Ja rfl rfl rfl (Je (v := .tuple #[.int .i64 t79.1, .int .i64 t79.2]) rfl) ?_
   refine Ja rfl rfl rfl (Qs (v := .int .i64 t79.1) rfl rfl) ?_
   refine Ja rfl rfl rfl (Qs (v := .int .i64 t79.2) rfl rfl) ?_
   refine Ja rfl rfl rfl (Jc (v := .int .i64 t79.1) rfl) ?_
   refine Ja rfl rfl rfl (Jc (v := .int .i64 t79.2) rfl) ?_
   refine Jg ?_
   refine Qz (r := r) (σ := Unit) (τ := Unit) (fun s => Wm a0) (fun s t => [(1, .pointer (some ⟨b2, 0, none⟩))]) (fun s t => [Jo b2 [.int .i64 a0.Kind, Jv a0.Text, v0_2, v0_3, v0_4] 38]) (fun s t => True) ?_ ?_
   ·refine Jf ?_
    refine Jb ?_
    refine Ja rfl rfl rfl (Jk Tryz.runUnderlying38 rfl Tryz.sizeOf30 rfl rfl) ?_
    refine Js (i := 0) (v := v0_2) Tryz.isAgg30 rfl rfl rfl rfl rfl ?_
    refine Ja rfl rfl rfl (Vs Tryz.underlying30 rfl f0_2 rfl) ?_
    refine Ja rfl rfl rfl (Je (v := .int .i64 0) rfl) ?_
    refine Jg ?_
    refine J8 ?_
    refine Z2 (σ := Int) (τ := Unit) (fun next7 s => Yj a0 t79 next7 s) (fun s t => [(1, .pointer (some ⟨b2, 0, none⟩)), (5, .int .i64 t79.1), (6, .int .i64 t79.2), (83, v0_2), (84, .int .i64 (a0.Ints.length : Int)), (85, .int .i64 s)]) (fun s t => [Jo b2 [.int .i64 a0.Kind, Jv a0.Text, v0_2, v0_3, v0_4] 38]) (fun s t => True) 0 () [0] H80 (by exact trivial) (by exact ⟨rfl, rfl, rfl, rfl, rfl, rfl, trivial⟩) (by decide) rfl ?_
    rintro x85_2 _ m7 gg H104 _
    clear H80
    replace H104 : Yj a0 t79 (it (fun next7 s => Yj a0 t79 next7 s) m7) x85_2 = some r := H104
    generalize hn7 : it (fun next7 s => Yj a0 t79 next7 s) m7 = next7 at H104
    try dsimp only
    refine Jf ?_
    refine Jb ?_
    refine Ja rfl rfl rfl (Zc rfl rfl) ?_
    refine Jg ?_
    refine Jf ?_
    refine Qd (b := (decide (x85_2 < (a0.Ints.length : Int)))) rfl (fun hb => ?_) (fun hb => ?_)
    ·have H105 := Jp hb H104; clear H104
     refine Jt ?_
     refine Jf ?_
     refine J8 ?_
     refine Jf ?_
     refine Jb ?_
     obtain ⟨t87, h_t87, H106⟩ := Jh H105; clear H105
     refine Ja rfl rfl rfl (X5 Tryz.underlying30 Tryz.sizeOf3 rfl rfl f0_2 h_t87) ?_
     refine Yu (fun w hF hS => X4 (f := Xc) (i := x85_2) (sz := 1) (j := 0) (v := .int .i64 t87) Tryz.isAgg3 rfl rfl (f0_2.row (hw.now hF)) h_t87 rfl) rfl rfl rfl ?_
     refine Ja rfl rfl rfl (Jc (v := .int .i64 t87) rfl) ?_
     refine Jg ?_
     refine Jf ?_
     refine Jb ?_
     refine Ja rfl rfl rfl (Je (v := .int .i64 t87) rfl) ?_
     refine Ja rfl rfl rfl (Je (v := .int .i64 t79.1) rfl) ?_
     refine Ja rfl rfl rfl (Zc rfl rfl) ?_
     refine Ja rfl rfl rfl (Je (v := .bool (decide (t87 < t79.1))) rfl) ?_
     refine split (fun hb => ?_) (fun hb => ?_)
     ·have H107 := Jp hb H106; clear H106
      refine Ji rfl rfl rfl ?_
      refine Ji rfl rfl rfl ?_
      refine Ji rfl rfl rfl ?_
      refine Ja rfl rfl rfl (J9 (v := .bool true) rfl rfl) ?_
      refine Jg ?_
      refine Uw rfl ?_
      refine Jf ?_
      refine Jb ?_
      refine Ja rfl rfl rfl (Jc (v := .int .i64 2) rfl) ?_
      refine Jg ?_
      refine Jx ?_
      obtain rfl := Option.some.inj H107
      refine Qn (v := .int .i64 2) rfl rfl (Yh rfl)
     ·have H108 := Jq hb H106; clear H106
      refine Ja rfl rfl rfl (Je (v := .int .i64 t87) rfl) ?_
      refine Ja rfl rfl rfl (Je (v := .int .i64 t79.2) rfl) ?_
      refine Ja rfl rfl rfl (Zm rfl rfl) ?_
      refine Ja rfl rfl rfl (Qf (v := .bool (decide (t79.2 < t87))) rfl rfl) ?_
      refine Jg ?_
      refine Qd (b := (decide (t79.2 < t87))) rfl (fun hb => ?_) (fun hb => ?_)
      ·have H109 := Jp hb H108; clear H108
       refine Jf ?_
       refine Jb ?_
       refine Ja rfl rfl rfl (Jc (v := .int .i64 2) rfl) ?_
       refine Jg ?_
       refine Jx ?_
       obtain rfl := Option.some.inj H109
       refine Qn (v := .int .i64 2) rfl rfl (Yh rfl)
      ·have H110 := Jq hb H108; clear H108
       refine Jt ?_
       refine Jb ?_
       obtain ⟨t97, h_t97, H111⟩ := Jh H110; clear H110
       refine Ja rfl rfl rfl (Qe rfl rfl h_t97) ?_
       refine Ja rfl rfl rfl (Je (v := .int .i64 t97) rfl) ?_
       refine Jg ?_
       refine Jn t97 () m7 [0] (by exact ⟨rfl, rfl, rfl, rfl, rfl, rfl, trivial⟩) (by decide) (by kernel_rfl) (by exact ⟨(by subst hn7; exact H111), trivial⟩) (Nat.lt_succ_self _)
    ·have H112 := Jq hb H104; clear H104
     refine X3 ?_
     refine Jn () () 0 [0] (by exact ⟨rfl, trivial⟩) (by decide) (by kernel_rfl) (by exact ⟨H112, trivial⟩) (Nat.lt_succ_self _)
   ·rintro _ _ gg H81 _
    replace H81 : Wm a0 = some r := H81
    try dsimp only
    refine Qz (r := r) (σ := Unit) (τ := Unit) (fun s => Wf a0) (fun s t => [(1, .pointer (some ⟨b2, 0, none⟩))]) (fun s t => [Jo b2 [.int .i64 a0.Kind, Jv a0.Text, v0_2, v0_3, v0_4] 38]) (fun s t => True) ?_ ?_
    ·refine Jf ?_
     refine Jb ?_
     refine Ja rfl rfl rfl (Jk Tryz.runUnderlying38 rfl Tryz.sizeOf31 rfl rfl) ?_
     refine Js (i := 0) (v := v0_3) Tryz.isAgg31 rfl rfl rfl rfl rfl ?_
     refine Ja rfl rfl rfl (Vs Tryz.underlying31 rfl f0_3 rfl) ?_
     refine Ja rfl rfl rfl (Je (v := .int .i64 0) rfl) ?_
     refine Jg ?_
     refine J8 ?_
     refine Z2 (σ := Int) (τ := Unit) (fun next6 s => Yk a0 next6 s) (fun s t => [(1, .pointer (some ⟨b2, 0, none⟩)), (99, v0_3), (100, .int .i64 (a0.Ratios.length : Int)), (101, .int .i64 s)]) (fun s t => [Jo b2 [.int .i64 a0.Kind, Jv a0.Text, v0_2, v0_3, v0_4] 38]) (fun s t => True) 0 () [0] H81 (by exact trivial) (by exact ⟨rfl, rfl, rfl, rfl, trivial⟩) (by decide) rfl ?_
     rintro x101_2 _ m6 gg H91 _
     clear H81
     replace H91 : Yk a0 (it (fun next6 s => Yk a0 next6 s) m6) x101_2 = some r := H91
     generalize hn6 : it (fun next6 s => Yk a0 next6 s) m6 = next6 at H91
     try dsimp only
     refine Jf ?_
     refine Jb ?_
     refine Ja rfl rfl rfl (Zc rfl rfl) ?_
     refine Jg ?_
     refine Jf ?_
     refine Qd (b := (decide (x101_2 < (a0.Ratios.length : Int)))) rfl (fun hb => ?_) (fun hb => ?_)
     ·have H92 := Jp hb H91; clear H91
      refine Jt ?_
      refine Jf ?_
      refine J8 ?_
      refine Jf ?_
      refine Jb ?_
      obtain ⟨t103, h_t103, H93⟩ := Jh H92; clear H92
      refine Ja rfl rfl rfl (X5 Tryz.underlying31 Tryz.sizeOf74 rfl rfl f0_3 h_t103) ?_
      refine Yu (fun w hF hS => Y4 (f := Jz) (i := x101_2) (sz := 2) (j := 0) (vs := [.int .i64 t103.Num, .int .i64 t103.Den]) Tryz.isAgg74 Tryz.sizeOf74 rfl rfl (f0_3.row (hw.now hF)) h_t103 rfl) rfl rfl rfl ?_
      refine Yo (cs := [.int .i64 0, .int .i64 0]) Tryz.zeroValue74 rfl rfl rfl (fun b3 => ?_)
      refine Qc (i := 1) (vs := [.int .i64 t103.Num, .int .i64 t103.Den]) (cs' := [.int .i64 t103.Num, .int .i64 t103.Den]) Tryz.sizeOf74 rfl rfl rfl rfl rfl rfl rfl rfl rfl ?_
      refine Jg ?_
      refine Jf ?_
      refine Jb ?_
      refine Ja rfl rfl rfl (Jk Tryz.runUnderlying74 rfl Tryz.sizeOf3 rfl rfl) ?_
      refine Js (i := 1) (v := .int .i64 t103.Num) Tryz.isAgg3 rfl rfl rfl rfl rfl ?_
      refine Ja rfl rfl rfl (Zc rfl rfl) ?_
      refine Ja rfl rfl rfl (Je (v := .bool (decide (t103.Num < 0))) rfl) ?_
      refine split (fun hb => ?_) (fun hb => ?_)
      ·have H94 := Jp hb H93; clear H93
       refine Ji rfl rfl rfl ?_
       refine Ji rfl rfl rfl ?_
       refine Ji rfl rfl rfl ?_
       refine Ja rfl rfl rfl (J9 (v := .bool true) rfl rfl) ?_
       refine Ja rfl rfl rfl (Je (v := .bool true) rfl) ?_
       refine Ji rfl rfl rfl ?_
       refine Ji rfl rfl rfl ?_
       refine Ji rfl rfl rfl ?_
       refine Ja rfl rfl rfl (J9 (v := .bool true) rfl rfl) ?_
       refine Ja rfl rfl rfl (Je (v := .bool true) rfl) ?_
       refine Ji rfl rfl rfl ?_
       refine Ji rfl rfl rfl ?_
       refine Ji rfl rfl rfl ?_
       refine Ja rfl rfl rfl (J9 (v := .bool true) rfl rfl) ?_
       refine Jg ?_
       refine Uw rfl ?_
       refine Jf ?_
       refine Jb ?_
       refine Ja rfl rfl rfl (Jc (v := .int .i64 2) rfl) ?_
       refine Jg ?_
       refine Jx ?_
       obtain rfl := Option.some.inj H94
       refine Qn (v := .int .i64 2) rfl rfl (Yh rfl)
      ·have H95 := Jq hb H93; clear H93
       refine Ja rfl rfl rfl (Jk Tryz.runUnderlying74 rfl Tryz.sizeOf3 rfl rfl) ?_
       refine Js (i := 1) (v := .int .i64 t103.Num) Tryz.isAgg3 rfl rfl rfl rfl rfl ?_
       refine Ja rfl rfl rfl (Zm rfl rfl) ?_
       refine Ja rfl rfl rfl (Qf (v := .bool (decide (4294967295 < t103.Num))) rfl rfl) ?_
       refine Ja rfl rfl rfl (Je (v := .bool (decide (4294967295 < t103.Num))) rfl) ?_
       refine split (fun hb => ?_) (fun hb => ?_)
       ·have H96 := Jp hb H95; clear H95
        refine Ji rfl rfl rfl ?_
        refine Ji rfl rfl rfl ?_
        refine Ji rfl rfl rfl ?_
        refine Ja rfl rfl rfl (J9 (v := .bool true) rfl rfl) ?_
        refine Ja rfl rfl rfl (Je (v := .bool true) rfl) ?_
        refine Ji rfl rfl rfl ?_
        refine Ji rfl rfl rfl ?_
        refine Ji rfl rfl rfl ?_
        refine Ja rfl rfl rfl (J9 (v := .bool true) rfl rfl) ?_
        refine Jg ?_
        refine Uw rfl ?_
        refine Jf ?_
        refine Jb ?_
        refine Ja rfl rfl rfl (Jc (v := .int .i64 2) rfl) ?_
        refine Jg ?_
        refine Jx ?_
        obtain rfl := Option.some.inj H96
        refine Qn (v := .int .i64 2) rfl rfl (Yh rfl)
       ·have H97 := Jq hb H95; clear H95
        refine Ja rfl rfl rfl (Jk Tryz.runUnderlying74 rfl Tryz.sizeOf3 rfl rfl) ?_
        refine Js (i := 1) (v := .int .i64 t103.Den) Tryz.isAgg3 rfl rfl rfl rfl rfl ?_
        refine Ja rfl rfl rfl (Zc rfl rfl) ?_
        refine Ja rfl rfl rfl (Qf (v := .bool (decide (t103.Den < 0))) rfl rfl) ?_
        refine Ja rfl rfl rfl (Je (v := .bool (decide (t103.Den < 0))) rfl) ?_
        refine split (fun hb => ?_) (fun hb => ?_)
        ·have H98 := Jp hb H97; clear H97
         refine Ji rfl rfl rfl ?_
         refine Ji rfl rfl rfl ?_
         refine Ji rfl rfl rfl ?_
         refine Ja rfl rfl rfl (J9 (v := .bool true) rfl rfl) ?_
         refine Jg ?_
         refine Uw rfl ?_
         refine Jf ?_
         refine Jb ?_
         refine Ja rfl rfl rfl (Jc (v := .int .i64 2) rfl) ?_
         refine Jg ?_
         refine Jx ?_
         obtain rfl := Option.some.inj H98
         refine Qn (v := .int .i64 2) rfl rfl (Yh rfl)
        ·have H99 := Jq hb H97; clear H97
         refine Ja rfl rfl rfl (Jk Tryz.runUnderlying74 rfl Tryz.sizeOf3 rfl rfl) ?_
         refine Js (i := 1) (v := .int .i64 t103.Den) Tryz.isAgg3 rfl rfl rfl rfl rfl ?_
         refine Ja rfl rfl rfl (Zm rfl rfl) ?_
         refine Ja rfl rfl rfl (Qf (v := .bool (decide (4294967295 < t103.Den))) rfl rfl) ?_
         refine Jg ?_
         refine Qd (b := (decide (4294967295 < t103.Den))) rfl (fun hb => ?_) (fun hb => ?_)
         ·have H100 := Jp hb H99; clear H99
          refine Jf ?_
          refine Jb ?_
          refine Ja rfl rfl rfl (Jc (v := .int .i64 2) rfl) ?_
          refine Jg ?_
          refine Jx ?_
          obtain rfl := Option.some.inj H100
          refine Qn (v := .int .i64 2) rfl rfl (Yh rfl)
         ·have H101 := Jq hb H99; clear H99
          refine Jt ?_
          refine Jb ?_
          obtain ⟨t123, h_t123, H102⟩ := Jh H101; clear H101
          refine Ja rfl rfl rfl (Qe rfl rfl h_t123) ?_
          refine Ja rfl rfl rfl (Je (v := .int .i64 t123) rfl) ?_
          refine Jg ?_
          refine Jn t123 () m6 [0] (by exact ⟨rfl, rfl, rfl, rfl, trivial⟩) (by decide) (by kernel_rfl) (by exact ⟨(by subst hn6; exact H102), trivial⟩) (Nat.lt_succ_self _)
     ·have H103 := Jq hb H91; clear H91
      refine X3 ?_
      refine Jn () () 0 [0] (by exact ⟨rfl, trivial⟩) (by decide) (by kernel_rfl) (by exact ⟨H103, trivial⟩) (Nat.lt_succ_self _)
    ·rintro _ _ gg H82 _
     replace H82 : Wf a0 = some r := H82
     try dsimp only
     refine Qz (r := r) (σ := Unit) (τ := Unit) (fun s => Ui a0) (fun s t => [(1, .pointer (some ⟨b2, 0, none⟩))]) (fun s t => [Jo b2 [.int .i64 a0.Kind, Jv a0.Text, v0_2, v0_3, v0_4] 38]) (fun s t => True) ?_ ?_
     ·refine Jf ?_
      refine Jb ?_
      refine Ja rfl rfl rfl (Jk Tryz.runUnderlying38 rfl Tryz.sizeOf3 rfl rfl) ?_
      refine Js (i := 0) (v := .int .i64 a0.Kind) Tryz.isAgg3 rfl rfl rfl rfl rfl ?_
      refine Ja rfl rfl rfl (Q0 rfl rfl) ?_
      refine Ja rfl rfl rfl (Je (v := .bool (decide (a0.Kind = 2))) rfl) ?_
      refine split (fun hb => ?_) (fun hb => ?_)
      ·have H86 := Jp hb H82; clear H82
       refine Ja rfl rfl rfl (Jk Tryz.runUnderlying38 rfl Tryz.sizeOf9 rfl rfl) ?_
       refine Js (i := 0) (v := Jv a0.Text) Tryz.isAgg9 rfl rfl rfl rfl rfl ?_
       obtain ⟨t130, h_t130, H87⟩ := Jh H86; clear H86
       refine Wb (k142 h_t130) Tryz.call142 rfl rfl rfl ?_
       refine Ja rfl rfl rfl (r_geq rfl rfl) ?_
       refine Ja rfl rfl rfl (J9 (v := .bool (decide (0 ≤ t130))) rfl rfl) ?_
       refine Jg ?_
       refine Qd (b := (decide (0 ≤ t130))) rfl (fun hb => ?_) (fun hb => ?_)
       ·have H88 := Jp hb H87; clear H87
        refine Jf ?_
        refine Jb ?_
        refine Ja rfl rfl rfl (Jc (v := .int .i64 9) rfl) ?_
        refine Jg ?_
        refine Jx ?_
        obtain rfl := Option.some.inj H88
        refine Qn (v := .int .i64 9) rfl rfl (Yh rfl)
       ·have H89 := Jq hb H87; clear H87
        refine Jt ?_
        refine Jn () () 0 [0] (by exact ⟨rfl, trivial⟩) (by decide) (by kernel_rfl) (by exact ⟨H89, trivial⟩) (Nat.lt_succ_self _)
      ·have H90 := Jq hb H82; clear H82
       refine Ji rfl rfl rfl ?_
       refine Ji rfl rfl rfl ?_
       refine Ji rfl rfl rfl ?_
       refine Ji rfl rfl rfl ?_
       refine Ja rfl rfl rfl (Qf (v := .bool false) rfl rfl) ?_
       refine Jg ?_
       refine Ug rfl ?_
       refine Jt ?_
       refine Jn () () 0 [0] (by exact ⟨rfl, trivial⟩) (by decide) (by kernel_rfl) (by exact ⟨H90, trivial⟩) (Nat.lt_succ_self _)
     ·rintro _ _ gg H83 _
      replace H83 : Ui a0 = some r := H83
      try dsimp only
      refine Jf ?_
      refine Jf ?_
      refine Jb ?_
      refine Ja rfl rfl rfl (Jk Tryz.runUnderlying38 rfl Tryz.sizeOf3 rfl rfl) ?_
      refine Js (i := 0) (v := .int .i64 a0.Kind) Tryz.isAgg3 rfl rfl rfl rfl rfl ?_
      refine Ja rfl rfl rfl (Q0 rfl rfl) ?_
      refine Jg ?_
      refine Qd (b := (decide (a0.Kind = 13))) rfl (fun hb => ?_) (fun hb => ?_)
      ·have H84 := Jp hb H83; clear H83
       exact absurd (show (none : Option (Int)) = some r from H84) (fun h => by cases h)
      ·have H85 := Jq hb H83; clear H83
       refine Jt ?_
       refine Jf ?_
       refine Jb ?_
       refine Ja rfl rfl rfl (Jc (v := .int .i64 0) rfl) ?_
       refine Jg ?_
       refine Jx ?_
       obtain rfl := Option.some.inj H85
       refine Qn (v := .int .i64 0) rfl rfl (Yh rfl)
theorem k91_it (mm : Nat) : ∀ {a0 : (List T_tag_Entry)} {v0 : Value} {a1 : Int} {r : Int} {w : World} {h : Qj} (hw : Know h w Vi) (f0 : FrN h 6 v0 g_tag_Entry a0) (H : it (fun (self : ((List T_tag_Entry) × Int) → Option (Int)) (s : (List T_tag_Entry) × Int) => Zx self s.1 s.2) mm (a0, a1) = some r), Does Tryz.prog 91 (List.toArray [v0, .int .i64 a1]) w (fun v w' => v = (.int .i64 r) ∧ Grow w w') := by
 induction mm with
 | zero => intros; rename_i H; exact absurd H (by simp [it])
 | succ mm ih =>
  intro a0 v0 a1 r w h hw f0 H
  replace H : Zx (it (fun (self : ((List T_tag_Entry) × Int) → Option (Int)) (s : (List T_tag_Entry) × Int) => Zx self s.1 s.2) mm) a0 a1 = some r := H
  generalize it (fun (self : ((List T_tag_Entry) × Int) → Option (Int)) (s : (List T_tag_Entry) × Int) => Zx self s.1 s.2) mm = self at H ih
  refine enter (n := 79) Tryz.func91 rfl rfl rfl Vi [] (Sat.nil _ _) ?_
  refine Jf ?_
  refine Jb ?_
  refine Ja rfl rfl rfl (Jc (v := .int .i64 0) rfl) ?_
  refine Jg ?_
  refine Jf ?_
  refine Jf ?_
  refine Jb ?_
  refine Ja rfl rfl rfl (Je (v := .int .i64 a1) rfl) ?_
  refine Ja rfl rfl rfl (Zm rfl rfl) ?_
  refine Ja rfl rfl rfl (Je (v := .bool (decide (5 < a1))) rfl) ?_
  refine split (fun hb => ?_) (fun hb => ?_)
  ·have H37 := Jp hb H; clear H
   refine Ji rfl rfl rfl ?_
   refine Ji rfl rfl rfl ?_
   refine Ji rfl rfl rfl ?_
   refine Ja rfl rfl rfl (J9 (v := .bool true) rfl rfl) ?_
   refine Jg ?_
   refine Uw rfl ?_
   refine Jf ?_
   refine Jb ?_
   refine Ja rfl rfl rfl (Jc (v := .int .i64 4) rfl) ?_
   refine Jg ?_
   refine Jx ?_
   obtain rfl := Option.some.inj H37
   refine Qn (v := .int .i64 4) rfl rfl (Yh rfl)
  ·have H38 := Jq hb H; clear H
   refine Ja rfl rfl rfl (Je (v := v0) rfl) ?_
   refine Ja rfl rfl rfl (Zg Tryz.underlying36 rfl f0) ?_
   refine Ja rfl rfl rfl (Zm rfl rfl) ?_
   refine Ja rfl rfl rfl (Qf (v := .bool (decide (200 < (a0.length : Int)))) rfl rfl) ?_
   refine Jg ?_
   refine Qd (b := (decide (200 < (a0.length : Int)))) rfl (fun hb => ?_) (fun hb => ?_)
   ·have H39 := Jp hb H38; clear H38
    refine Jf ?_
    refine Jb ?_
    refine Ja rfl rfl rfl (Jc (v := .int .i64 4) rfl) ?_
    refine Jg ?_
    refine Jx ?_
    obtain rfl := Option.some.inj H39
    refine Qn (v := .int .i64 4) rfl rfl (Yh rfl)
   ·have H40 := Jq hb H38; clear H38
    refine Jt ?_
    refine Jf ?_
    refine Jf ?_
    refine Jb ?_
    refine Ja rfl rfl rfl (Je (v := v0) rfl) ?_
    refine Ja rfl rfl rfl (Zg Tryz.underlying36 rfl f0) ?_
    refine Ja rfl rfl rfl (Je (v := .int .i64 0) rfl) ?_
    refine Jg ?_
    refine J8 ?_
    refine Z2 (σ := Int) (τ := Unit) (fun next1 s => Ww a0 a1 self next1 s) (fun s t => [(0, v0), (1, .int .i64 a1), (17, v0), (18, .int .i64 (a0.length : Int)), (19, .int .i64 s)]) (fun s t => []) (fun s t => True) 0 () [] H40 (by exact trivial) (by exact ⟨rfl, rfl, rfl, rfl, rfl, trivial⟩) (by decide) rfl ?_
    rintro x19_2 _ m1 gg H41 _
    clear H40
    replace H41 : Ww a0 a1 self (it (fun next1 s => Ww a0 a1 self next1 s) m1) x19_2 = some r := H41
    generalize hn1 : it (fun next1 s => Ww a0 a1 self next1 s) m1 = next1 at H41
    try dsimp only
    refine Jf ?_
    refine Jb ?_
    refine Ja rfl rfl rfl (Zc rfl rfl) ?_
    refine Jg ?_
    refine Jf ?_
    refine Qd (b := (decide (x19_2 < (a0.length : Int)))) rfl (fun hb => ?_) (fun hb => ?_)
    ·have H42 := Jp hb H41; clear H41
     refine Jt ?_
     refine Qz (r := r) (σ := Int × Bool × Int × Int × (List UInt8) × (List Int) × (List T_tag_Ratio) × (List T_tag_Entry)) (τ := Value × Value × Value × Nat) (fun s => Un x19_2 next1 s.1 s.2.1 s.2.2.1 s.2.2.2.1 s.2.2.2.2.1 s.2.2.2.2.2.1 s.2.2.2.2.2.2.1 s.2.2.2.2.2.2.2) (fun s t => [(0, v0), (1, .int .i64 a1), (17, v0), (18, .int .i64 (a0.length : Int)), (19, .int .i64 x19_2), (28, .pointer (some ⟨t.2.2.2, 0, none⟩)), (29, .int .i64 s.1), (30, .bool s.2.1)]) (fun s t => [Jo t.2.2.2 [.int .i64 s.2.2.1, .int .i64 s.2.2.2.1, Jv s.2.2.2.2.1, t.1, t.2.1, t.2.2.1] 83]) (fun s t => FrS h 1 t.1 (s.2.2.2.2.2.1.map Xc) ∧ FrS h 2 t.2.1 (s.2.2.2.2.2.2.1.map Jz) ∧ FrN h 6 t.2.2.1 g_tag_Entry s.2.2.2.2.2.2.2) ?_ ?_
     ·refine J8 ?_
      refine Jf ?_
      refine Jb ?_
      refine Ja rfl rfl rfl (Je (v := .int .i64 x19_2) rfl) ?_
      obtain ⟨t22, h_t22, H45⟩ := Jh H42; clear H42
      refine Ja rfl rfl rfl (X5 Tryz.underlying36 Tryz.sizeOf83 rfl rfl f0.frs (f0.ix h_t22)) ?_
      refine Yu (fun w hF hS => Y4 (f := (elC h v0 6)) (i := x19_2) (sz := 6) (j := 0) (vs := [.int .i64 t22.Tag, .int .i64 t22.Value.Kind, Jv t22.Value.Text, (Xk h v0 6 (Int.toNat x19_2) 3), (Xk h v0 6 (Int.toNat x19_2) 4), (Xk h v0 6 (Int.toNat x19_2) 5)]) Tryz.isAgg83 Tryz.sizeOf83 rfl rfl (f0.frs.row (hw.now hF)) (f0.ix h_t22) (rd_of (Vd (f0.at h_t22)) rfl)) rfl rfl rfl ?_
      refine Yo (cs := [.int .i64 0, .int .i64 0, Jv [], .slice none 0 0, .slice none 0 0, .slice none 0 0]) Tryz.zeroValue83 rfl rfl rfl (fun b2 => ?_)
      refine Ja rfl rfl rfl (Jc (v := .int .i64 x19_2) rfl) ?_
      refine Qc (i := 0) (vs := [.int .i64 t22.Tag, .int .i64 t22.Value.Kind, Jv t22.Value.Text, (Xk h v0 6 (Int.toNat x19_2) 3), (Xk h v0 6 (Int.toNat x19_2) 4), (Xk h v0 6 (Int.toNat x19_2) 5)]) (cs' := [.int .i64 t22.Tag, .int .i64 t22.Value.Kind, Jv t22.Value.Text, (Xk h v0 6 (Int.toNat x19_2) 3), (Xk h v0 6 (Int.toNat x19_2) 4), (Xk h v0 6 (Int.toNat x19_2) 5)]) Tryz.sizeOf83 rfl rfl rfl rfl rfl rfl (by simp only [List.all_cons, List.all_nil, (show FrN h 6 (Xk h v0 6 (Int.toNat x19_2) 5) g_tag_Entry t22.Value.Entries from (Qv (Jr (f0.at h_t22)))).one, (show FrS h 1 (Xk h v0 6 (Int.toNat x19_2) 3) (t22.Value.Ints.map Xc) from (Q5 (Jr (f0.at h_t22)))).one, (show FrS h 2 (Xk h v0 6 (Int.toNat x19_2) 4) (t22.Value.Ratios.map Jz) from (Q4 (Jr (f0.at h_t22)))).one] <;> rfl) rfl rfl ?_
      refine Jg ?_
      refine Jf ?_
      refine Jf ?_
      refine Jb ?_
      refine Ja rfl rfl rfl (Jk Tryz.runUnderlying83 rfl Tryz.sizeOf3 rfl rfl) ?_
      refine Js (i := 0) (v := .int .i64 t22.Tag) Tryz.isAgg3 rfl rfl rfl rfl rfl ?_
      refine Ja rfl rfl rfl (Zc rfl rfl) ?_
      refine Ja rfl rfl rfl (Je (v := .bool (decide (t22.Tag < 0))) rfl) ?_
      refine split (fun hb => ?_) (fun hb => ?_)
      ·have H46 := Jp hb H45; clear H45
       refine Ji rfl rfl rfl ?_
       refine Ji rfl rfl rfl ?_
       refine Ji rfl rfl rfl ?_
       refine Ja rfl rfl rfl (J9 (v := .bool true) rfl rfl) ?_
       refine Jg ?_
       refine Uw rfl ?_
       refine Jf ?_
       refine Jb ?_
       refine Ja rfl rfl rfl (Jc (v := .int .i64 2) rfl) ?_
       refine Jg ?_
       refine Jx ?_
       obtain rfl := Option.some.inj H46
       refine Qn (v := .int .i64 2) rfl rfl (Yh rfl)
      ·have H47 := Jq hb H45; clear H45
       refine Ja rfl rfl rfl (Jk Tryz.runUnderlying83 rfl Tryz.sizeOf3 rfl rfl) ?_
       refine Js (i := 0) (v := .int .i64 t22.Tag) Tryz.isAgg3 rfl rfl rfl rfl rfl ?_
       refine Ja rfl rfl rfl (Zm rfl rfl) ?_
       refine Ja rfl rfl rfl (Qf (v := .bool (decide (65535 < t22.Tag))) rfl rfl) ?_
       refine Jg ?_
       refine Qd (b := (decide (65535 < t22.Tag))) rfl (fun hb => ?_) (fun hb => ?_)
       ·have H48 := Jp hb H47; clear H47
        refine Jf ?_
        refine Jb ?_
        refine Ja rfl rfl rfl (Jc (v := .int .i64 2) rfl) ?_
        refine Jg ?_
        refine Jx ?_
        obtain rfl := Option.some.inj H48
        refine Qn (v := .int .i64 2) rfl rfl (Yh rfl)
       ·have H49 := Jq hb H47; clear H47
        refine Jt ?_
        refine Qz (r := r) (σ := Unit) (τ := Unit) (fun s => Jaf a1 self x19_2 next1 t22) (fun s t => [(0, v0), (1, .int .i64 a1), (6, .pointer (some ⟨b2, 0, none⟩)), (17, v0), (18, .int .i64 (a0.length : Int)), (19, .int .i64 x19_2), (28, .pointer (some ⟨b2, 0, none⟩)), (29, .int .i64 t22.Tag), (30, .bool (decide (65535 < t22.Tag)))]) (fun s t => [Jo b2 [.int .i64 t22.Tag, .int .i64 t22.Value.Kind, Jv t22.Value.Text, (Xk h v0 6 (Int.toNat x19_2) 3), (Xk h v0 6 (Int.toNat x19_2) 4), (Xk h v0 6 (Int.toNat x19_2) 5)] 83]) (fun s t => True) ?_ ?_
        ·refine Jf ?_
         exact Xp (Kd.p :: Kd.p :: Kd.p :: Kd.p :: Kd.d [0] _ :: Kd.p :: Kd.p :: Kd.p :: Kd.p :: Kd.p :: Kd.d [] _ :: Kd.p :: Kd.p :: []) 0 mixed (by
          refine Jm rfl rfl (Je (v := .int .i64 x19_2) rfl) ?_
          refine Jm rfl rfl (Zm rfl rfl) ?_
          refine Jm rfl rfl (Je (v := .bool (decide (0 < x19_2))) rfl) ?_
          refine splitS (fun hb => ?_) (fun hb => ?_)
          ·have H66 := Jp hb H49
           refine Jm rfl rfl (Jk Tryz.runUnderlying83 rfl Tryz.sizeOf3 rfl rfl) ?_
           refine Xq (i := 0) (v := .int .i64 t22.Tag) Tryz.isAgg3 rfl rfl rfl rfl ?_
           refine Jm rfl rfl (Je (v := v0) rfl) ?_
           refine Jm rfl rfl (Je (v := .int .i64 x19_2) rfl) ?_
           have h_t39 := Qg H66
           have H67 := J6 H66
           refine Jm rfl rfl (Wv rfl rfl h_t39) ?_
           have h_t40 := Qg H67
           have H68 := J6 H67
           refine Jm rfl rfl (X5 Tryz.underlying36 Tryz.sizeOf83 rfl rfl f0.frs (f0.ix h_t40)) ?_
           refine Jm rfl rfl (r_fieldP Tryz.runUnderlying83 rfl Tryz.sizeOf3 rfl rfl (some_of_at f0.frs (f0.ix h_t40))) ?_
           refine d_read (fun w hF => X4 (f := (elC h v0 6)) (i := (val (gI (x19_2 - 1)))) (sz := 6) (j := 0) (v := .int .i64 (val (Y6 a0 (val (gI (x19_2 - 1))))).Tag) Tryz.isAgg3 rfl rfl (f0.frs.row (hw.now hF)) (f0.ix h_t40) (rg_of (Vd (f0.at h_t40)) rfl)) rfl rfl ?_
           refine Jm rfl rfl (r_leq rfl rfl) ?_
           refine Jm rfl rfl (J9 (v := .bool (decide (t22.Tag ≤ (val (Y6 a0 (val (gI (x19_2 - 1))))).Tag))) rfl rfl) ?_
           refine Zh ?_
           refine Qd (b := (decide (t22.Tag ≤ (val (Y6 a0 (val (gI (x19_2 - 1))))).Tag))) rfl (fun hb => ?_) (fun hb => ?_)
           ·have H69 := Jp hb H68; clear H68
            refine Jf ?_
            refine Jb ?_
            refine Ja rfl rfl rfl (Jc (v := .int .i64 5) rfl) ?_
            refine Jg ?_
            refine Jx ?_
            obtain rfl := Option.some.inj H69
            refine Qn (v := .int .i64 5) rfl rfl (Yh rfl)
           ·have H70 := Jq hb H68; clear H68
            refine Jt ?_
            refine Jn () () 0 [0] (by exact ⟨rfl, rfl, rfl, rfl, rfl, rfl, rfl, rfl, rfl, trivial⟩) (by decide) (by kernel_rfl) (by exact ⟨H70, trivial⟩) (Nat.lt_succ_self _)
          ·have H71 := Jq hb H49
           refine Qi rfl rfl ?_
           refine Qi rfl rfl ?_
           refine Qi rfl rfl ?_
           refine Qi rfl rfl ?_
           refine Qi rfl rfl ?_
           refine Qi rfl rfl ?_
           refine Qi rfl rfl ?_
           refine Qi rfl rfl ?_
           refine Qi rfl rfl ?_
           refine Jm rfl rfl (Qf (v := .bool false) rfl rfl) ?_
           refine Zh ?_
           refine Ug rfl ?_
           refine Jt ?_
           refine Jn () () 0 [0] (by exact ⟨rfl, rfl, rfl, rfl, rfl, rfl, rfl, rfl, rfl, trivial⟩) (by decide) (by kernel_rfl) (by exact ⟨H71, trivial⟩) (Nat.lt_succ_self _)
          ) (by kernel_rfl)
        ·rintro _ _ gg H50 _
         replace H50 : Jaf a1 self x19_2 next1 t22 = some r := H50
         try dsimp only
         refine Jf ?_
         refine Jb ?_
         refine Ja rfl rfl rfl (Jk Tryz.runUnderlying83 rfl Tryz.sizeOf38 rfl rfl) ?_
         refine Xr (i := 0) (vs := [.int .i64 t22.Value.Kind, Jv t22.Value.Text, (Xk h v0 6 (Int.toNat x19_2) 3), (Xk h v0 6 (Int.toNat x19_2) 4), (Xk h v0 6 (Int.toNat x19_2) 5)]) Tryz.isAgg38 Tryz.sizeOf38 rfl rfl rfl rfl rfl ?_
         refine Yo (cs := [.int .i64 0, Jv [], .slice none 0 0, .slice none 0 0, .slice none 0 0]) Tryz.zeroValue38 rfl rfl rfl (fun b3 => ?_)
         refine Qc (i := 1) (vs := [.int .i64 t22.Value.Kind, Jv t22.Value.Text, (Xk h v0 6 (Int.toNat x19_2) 3), (Xk h v0 6 (Int.toNat x19_2) 4), (Xk h v0 6 (Int.toNat x19_2) 5)]) (cs' := [.int .i64 t22.Value.Kind, Jv t22.Value.Text, (Xk h v0 6 (Int.toNat x19_2) 3), (Xk h v0 6 (Int.toNat x19_2) 4), (Xk h v0 6 (Int.toNat x19_2) 5)]) Tryz.sizeOf38 rfl rfl rfl rfl rfl rfl (by simp only [List.all_cons, List.all_nil, (show FrN h 6 (Xk h v0 6 (Int.toNat x19_2) 5) g_tag_Entry t22.Value.Entries from (Qv (Jr (f0.at h_t22)))).one, (show FrS h 1 (Xk h v0 6 (Int.toNat x19_2) 3) (t22.Value.Ints.map Xc) from (Q5 (Jr (f0.at h_t22)))).one, (show FrS h 2 (Xk h v0 6 (Int.toNat x19_2) 4) (t22.Value.Ratios.map Jz) from (Q4 (Jr (f0.at h_t22)))).one] <;> rfl) rfl rfl ?_
         refine Jg ?_
         refine Jf ?_
         refine Jf ?_
         refine Jb ?_
         refine Ja rfl rfl rfl (Jk Tryz.runUnderlying38 rfl Tryz.sizeOf3 rfl rfl) ?_
         refine Js (i := 1) (v := .int .i64 t22.Value.Kind) Tryz.isAgg3 rfl rfl rfl rfl rfl ?_
         refine Ja rfl rfl rfl (Va rfl rfl) ?_
         refine Jg ?_
         refine Qd (b := (decide (t22.Value.Kind ≠ 13))) rfl (fun hb => ?_) (fun hb => ?_)
         ·have H51 := Jp hb H50; clear H50
          refine Jf ?_
          refine Jf ?_
          refine Jb ?_
          refine Xr (i := 1) (vs := [.int .i64 t22.Value.Kind, Jv t22.Value.Text, (Xk h v0 6 (Int.toNat x19_2) 3), (Xk h v0 6 (Int.toNat x19_2) 4), (Xk h v0 6 (Int.toNat x19_2) 5)]) Tryz.isAgg38 Tryz.sizeOf38 rfl rfl rfl rfl rfl ?_
          obtain ⟨t51, h_t51, H52⟩ := Jh H51; clear H51
          refine Qw (fun w hF hS => k79 (J7 w) ((show FrS h 1 (Xk h v0 6 (Int.toNat x19_2) 3) (t22.Value.Ints.map Xc) from (Q5 (Jr (f0.at h_t22)))).mono (hw.now hF)) ((show FrS h 2 (Xk h v0 6 (Int.toNat x19_2) 4) (t22.Value.Ratios.map Jz) from (Q4 (Jr (f0.at h_t22)))).mono (hw.now hF)) ((show FrN h 6 (Xk h v0 6 (Int.toNat x19_2) 5) g_tag_Entry t22.Value.Entries from (Qv (Jr (f0.at h_t22)))).mono (hw.now hF)) h_t51) Tryz.call79 rfl rfl rfl ?_
          refine Ja rfl rfl rfl (Jc (v := .int .i64 t51) rfl) ?_
          refine Jg ?_
          refine Jf ?_
          refine Jb ?_
          refine Ja rfl rfl rfl (Je (v := .int .i64 t51) rfl) ?_
          refine Ja rfl rfl rfl (Va rfl rfl) ?_
          refine Jg ?_
          refine Qd (b := (decide (t51 ≠ 0))) rfl (fun hb => ?_) (fun hb => ?_)
          ·have H53 := Jp hb H52; clear H52
           refine Jf ?_
           refine Jb ?_
           refine Ja rfl rfl rfl (Je (v := .int .i64 t51) rfl) ?_
           refine Ja rfl rfl rfl (Jc (v := .int .i64 t51) rfl) ?_
           refine Jg ?_
           refine Jx ?_
           obtain rfl := Option.some.inj H53
           refine Qn (v := .int .i64 t51) rfl rfl (Yh rfl)
          ·have H54 := Jq hb H52; clear H52
           refine Jt ?_
           refine X3 ?_
           refine Jn (t22.Tag, (decide (65535 < t22.Tag)), t22.Tag, t22.Value.Kind, t22.Value.Text, t22.Value.Ints, t22.Value.Ratios, t22.Value.Entries) ((Xk h v0 6 (Int.toNat x19_2) 3), (Xk h v0 6 (Int.toNat x19_2) 4), (Xk h v0 6 (Int.toNat x19_2) 5), b2) 0 [0] (by exact ⟨rfl, rfl, rfl, rfl, rfl, rfl, rfl, rfl, trivial⟩) (by decide) (by kernel_rfl) (by exact ⟨H54, ⟨(show FrS h 1 (Xk h v0 6 (Int.toNat x19_2) 3) (t22.Value.Ints.map Xc) from (Q5 (Jr (f0.at h_t22)))), (show FrS h 2 (Xk h v0 6 (Int.toNat x19_2) 4) (t22.Value.Ratios.map Jz) from (Q4 (Jr (f0.at h_t22)))), (show FrN h 6 (Xk h v0 6 (Int.toNat x19_2) 5) g_tag_Entry t22.Value.Entries from (Qv (Jr (f0.at h_t22))))⟩⟩) (Nat.lt_succ_self _)
         ·have H55 := Jq hb H50; clear H50
          refine Jt ?_
          refine Jf ?_
          refine Jf ?_
          refine Jb ?_
          refine Ja rfl rfl rfl (Jk Tryz.runUnderlying38 rfl Tryz.sizeOf9 rfl rfl) ?_
          refine Js (i := 1) (v := Jv t22.Value.Text) Tryz.isAgg9 rfl rfl rfl rfl rfl ?_
          refine Ja rfl rfl rfl (r_neqT rfl rfl) ?_
          refine Ja rfl rfl rfl (Je (v := .bool (decide (t22.Value.Text ≠ []))) rfl) ?_
          refine split (fun hb => ?_) (fun hb => ?_)
          ·have H56 := Jp hb H55; clear H55
           refine Ji rfl rfl rfl ?_
           refine Ji rfl rfl rfl ?_
           refine Ji rfl rfl rfl ?_
           refine Ji rfl rfl rfl ?_
           refine Ja rfl rfl rfl (J9 (v := .bool true) rfl rfl) ?_
           refine Ja rfl rfl rfl (Je (v := .bool true) rfl) ?_
           refine Ji rfl rfl rfl ?_
           refine Ji rfl rfl rfl ?_
           refine Ji rfl rfl rfl ?_
           refine Ji rfl rfl rfl ?_
           refine Ja rfl rfl rfl (J9 (v := .bool true) rfl rfl) ?_
           refine Jg ?_
           refine Uw rfl ?_
           refine Jf ?_
           refine Jb ?_
           refine Ja rfl rfl rfl (Jc (v := .int .i64 1) rfl) ?_
           refine Jg ?_
           refine Jx ?_
           obtain rfl := Option.some.inj H56
           refine Qn (v := .int .i64 1) rfl rfl (Yh rfl)
          ·have H57 := Jq hb H55; clear H55
           refine Ja rfl rfl rfl (Jk Tryz.runUnderlying38 rfl Tryz.sizeOf30 rfl rfl) ?_
           refine Js (i := 1) (v := (Xk h v0 6 (Int.toNat x19_2) 3)) Tryz.isAgg30 rfl rfl rfl rfl rfl ?_
           refine Ja rfl rfl rfl (Vs Tryz.underlying30 rfl (show FrS h 1 (Xk h v0 6 (Int.toNat x19_2) 3) (t22.Value.Ints.map Xc) from (Q5 (Jr (f0.at h_t22)))) rfl) ?_
           refine Ja rfl rfl rfl (Zm rfl rfl) ?_
           refine Ja rfl rfl rfl (Qf (v := .bool (decide (0 < (t22.Value.Ints.length : Int)))) rfl rfl) ?_
           refine Ja rfl rfl rfl (Je (v := .bool (decide (0 < (t22.Value.Ints.length : Int)))) rfl) ?_
           refine split (fun hb => ?_) (fun hb => ?_)
           ·have H58 := Jp hb H57; clear H57
            refine Ji rfl rfl rfl ?_
            refine Ji rfl rfl rfl ?_
            refine Ji rfl rfl rfl ?_
            refine Ji rfl rfl rfl ?_
            refine Ja rfl rfl rfl (J9 (v := .bool true) rfl rfl) ?_
            refine Jg ?_
            refine Uw rfl ?_
            refine Jf ?_
            refine Jb ?_
            refine Ja rfl rfl rfl (Jc (v := .int .i64 1) rfl) ?_
            refine Jg ?_
            refine Jx ?_
            obtain rfl := Option.some.inj H58
            refine Qn (v := .int .i64 1) rfl rfl (Yh rfl)
           ·have H59 := Jq hb H57; clear H57
            refine Ja rfl rfl rfl (Jk Tryz.runUnderlying38 rfl Tryz.sizeOf31 rfl rfl) ?_
            refine Js (i := 1) (v := (Xk h v0 6 (Int.toNat x19_2) 4)) Tryz.isAgg31 rfl rfl rfl rfl rfl ?_
            refine Ja rfl rfl rfl (Vs Tryz.underlying31 rfl (show FrS h 2 (Xk h v0 6 (Int.toNat x19_2) 4) (t22.Value.Ratios.map Jz) from (Q4 (Jr (f0.at h_t22)))) rfl) ?_
            refine Ja rfl rfl rfl (Zm rfl rfl) ?_
            refine Ja rfl rfl rfl (Qf (v := .bool (decide (0 < (t22.Value.Ratios.length : Int)))) rfl rfl) ?_
            refine Jg ?_
            refine Qd (b := (decide (0 < (t22.Value.Ratios.length : Int)))) rfl (fun hb => ?_) (fun hb => ?_)
            ·have H60 := Jp hb H59; clear H59
             refine Jf ?_
             refine Jb ?_
             refine Ja rfl rfl rfl (Jc (v := .int .i64 1) rfl) ?_
             refine Jg ?_
             refine Jx ?_
             obtain rfl := Option.some.inj H60
             refine Qn (v := .int .i64 1) rfl rfl (Yh rfl)
            ·have H61 := Jq hb H59; clear H59
             refine Jt ?_
             refine Jf ?_
             refine Jb ?_
             refine Ja rfl rfl rfl (Jk Tryz.runUnderlying38 rfl Tryz.sizeOf36 rfl rfl) ?_
             refine Js (i := 1) (v := (Xk h v0 6 (Int.toNat x19_2) 5)) Tryz.isAgg36 rfl rfl rfl rfl rfl ?_
             refine Ja rfl rfl rfl (Je (v := .int .i64 a1) rfl) ?_
             obtain ⟨t73, h_t73, H62⟩ := Jh H61; clear H61
             refine Ja rfl rfl rfl (Qe rfl rfl h_t73) ?_
             obtain ⟨t74, h_t74, H63⟩ := Jh H62; clear H62
             refine Qw (fun w hF hS => ih (J7 w) ((show FrN h 6 (Xk h v0 6 (Int.toNat x19_2) 5) g_tag_Entry t22.Value.Entries from (Qv (Jr (f0.at h_t22)))).mono (hw.now hF)) h_t74) Tryz.call91 rfl rfl rfl ?_
             refine Ja rfl rfl rfl (Jc (v := .int .i64 t74) rfl) ?_
             refine Jg ?_
             refine Jf ?_
             refine Jb ?_
             refine Ja rfl rfl rfl (Je (v := .int .i64 t74) rfl) ?_
             refine Ja rfl rfl rfl (Va rfl rfl) ?_
             refine Jg ?_
             refine Qd (b := (decide (t74 ≠ 0))) rfl (fun hb => ?_) (fun hb => ?_)
             ·have H64 := Jp hb H63; clear H63
              refine Jf ?_
              refine Jb ?_
              refine Ja rfl rfl rfl (Je (v := .int .i64 t74) rfl) ?_
              refine Ja rfl rfl rfl (Jc (v := .int .i64 t74) rfl) ?_
              refine Jg ?_
              refine Jx ?_
              obtain rfl := Option.some.inj H64
              refine Qn (v := .int .i64 t74) rfl rfl (Yh rfl)
             ·have H65 := Jq hb H63; clear H63
              refine Jt ?_
              refine Jn (t22.Tag, (decide (65535 < t22.Tag)), t22.Tag, t22.Value.Kind, t22.Value.Text, t22.Value.Ints, t22.Value.Ratios, t22.Value.Entries) ((Xk h v0 6 (Int.toNat x19_2) 3), (Xk h v0 6 (Int.toNat x19_2) 4), (Xk h v0 6 (Int.toNat x19_2) 5), b2) 0 [0] (by exact ⟨rfl, rfl, rfl, rfl, rfl, rfl, rfl, rfl, trivial⟩) (by decide) (by kernel_rfl) (by exact ⟨H65, ⟨(show FrS h 1 (Xk h v0 6 (Int.toNat x19_2) 3) (t22.Value.Ints.map Xc) from (Q5 (Jr (f0.at h_t22)))), (show FrS h 2 (Xk h v0 6 (Int.toNat x19_2) 4) (t22.Value.Ratios.map Jz) from (Q4 (Jr (f0.at h_t22)))), (show FrN h 6 (Xk h v0 6 (Int.toNat x19_2) 5) g_tag_Entry t22.Value.Entries from (Qv (Jr (f0.at h_t22))))⟩⟩) (Nat.lt_succ_self _)
     ·rintro ⟨x29, x30, m, m_2, m_3, m_4, m_5, m_6⟩ ⟨gv, gv_2, gv_3, b⟩ gg H43 ⟨gf, gf_2, gf_3⟩
      replace H43 : Un x19_2 next1 x29 x30 m m_2 m_3 m_4 m_5 m_6 = some r := H43
      try dsimp only
      refine Jb ?_
      obtain ⟨t78, h_t78, H44⟩ := Jh H43; clear H43
      refine Ja rfl rfl rfl (Qe rfl rfl h_t78) ?_
      refine Ja rfl rfl rfl (Je (v := .int .i64 t78) rfl) ?_
      refine Jg ?_
      refine Jn t78 () m1 [] (by exact ⟨rfl, rfl, rfl, rfl, rfl, trivial⟩) (by decide) (by kernel_rfl) (by exact ⟨(by subst hn1; exact H44), trivial⟩) (Nat.lt_succ_self _)
    ·have H72 := Jq hb H41; clear H41
     refine X3 ?_
     refine Jf ?_
     refine Jb ?_
     refine Ja rfl rfl rfl (Jc (v := .int .i64 0) rfl) ?_
     refine Jg ?_
     refine Jx ?_
     obtain rfl := Option.some.inj H72
     refine Qn (v := .int .i64 0) rfl rfl (Yh rfl)
theorem k91 {a0 : (List T_tag_Entry)} {v0 : Value} {a1 : Int} {r : Int} {w : World} {h : Qj} (hw : Know h w Vi) (f0 : FrN h 6 v0 g_tag_Entry a0) (H : R_dirFault a0 a1 = some r) : Does Tryz.prog 91 (List.toArray [v0, .int .i64 a1]) w (fun v w' => v = (.int .i64 r) ∧ Grow w w') := by
 obtain ⟨mm, hm⟩ := fix_it (show Z3 (fun (self : ((List T_tag_Entry) × Int) → Option (Int)) (s : (List T_tag_Entry) × Int) => Zx self s.1 s.2) (a0, a1) = some r from H)
 exact k91_it mm hw f0 hm
theorem k30 {a0 : T_tag_File} {v0_1 : Value} {r : Int} {w : World} {h : Qj} (hw : Know h w Vi) (f0_1 : FrN h 1 v0_1 gs_tag_Entry a0.Dirs) (H : R_FileFault a0 = some r) : Does Tryz.prog 30 (List.toArray [.agg #[.bool a0.Big, v0_1]]) w (fun v w' => v = (.int .i64 r) ∧ Grow w w') := by
 refine enter (n := 27) Tryz.func30 rfl rfl rfl Vi [] (Sat.nil _ _) ?_
 refine Jf ?_
 refine Jb ?_
 refine U4 (cs := [.bool a0.Big, v0_1]) rfl rfl rfl rfl (fun b1 => ?_)
 refine Ja rfl rfl rfl (Jc (v := .int .i64 0) rfl) ?_
 refine Jg ?_
 refine Jf ?_
 refine Jf ?_
 refine Jb ?_
 refine Ja rfl rfl rfl (Jk Tryz.runUnderlying24 rfl Tryz.sizeOf22 rfl rfl) ?_
 refine Js (i := 0) (v := v0_1) Tryz.isAgg22 rfl rfl rfl rfl rfl ?_
 refine Ja rfl rfl rfl (Zg Tryz.underlying22 rfl f0_1) ?_
 refine Ja rfl rfl rfl (Zm rfl rfl) ?_
 refine Jg ?_
 refine Qd (b := (decide (20 < (a0.Dirs.length : Int)))) rfl (fun hb => ?_) (fun hb => ?_)
 ·have H15 := Jp hb H; clear H
  refine Jf ?_
  refine Jb ?_
  refine Ja rfl rfl rfl (Jc (v := .int .i64 4) rfl) ?_
  refine Jg ?_
  refine Jx ?_
  obtain rfl := Option.some.inj H15
  refine Qn (v := .int .i64 4) rfl rfl (Yh rfl)
 ·have H16 := Jq hb H; clear H
  refine Jt ?_
  refine Qz (r := r) (σ := Unit) (τ := Unit) (fun s => Ja2 a0) (fun s t => [(1, .pointer (some ⟨b1, 0, none⟩))]) (fun s t => [Jo b1 [.bool a0.Big, v0_1] 24]) (fun s t => True) ?_ ?_
  ·refine Jf ?_
   refine Jb ?_
   refine Ja rfl rfl rfl (Jk Tryz.runUnderlying24 rfl Tryz.sizeOf22 rfl rfl) ?_
   refine Js (i := 0) (v := v0_1) Tryz.isAgg22 rfl rfl rfl rfl rfl ?_
   refine Ja rfl rfl rfl (Zg Tryz.underlying22 rfl f0_1) ?_
   refine Ja rfl rfl rfl (Je (v := .int .i64 0) rfl) ?_
   refine Jg ?_
   refine J8 ?_
   refine Z2 (σ := Int) (τ := Unit) (fun next2 s => Zb a0 next2 s) (fun s t => [(1, .pointer (some ⟨b1, 0, none⟩)), (11, v0_1), (12, .int .i64 (a0.Dirs.length : Int)), (13, .int .i64 s)]) (fun s t => [Jo b1 [.bool a0.Big, v0_1] 24]) (fun s t => True) 0 () [0] H16 (by exact trivial) (by exact ⟨rfl, rfl, rfl, rfl, trivial⟩) (by decide) rfl ?_
   rintro x13_2 _ m2 gg H21 _
   clear H16
   replace H21 : Zb a0 (it (fun next2 s => Zb a0 next2 s) m2) x13_2 = some r := H21
   generalize hn2 : it (fun next2 s => Zb a0 next2 s) m2 = next2 at H21
   try dsimp only
   refine Jf ?_
   refine Jb ?_
   refine Ja rfl rfl rfl (Zc rfl rfl) ?_
   refine Jg ?_
   refine Jf ?_
   refine Qd (b := (decide (x13_2 < (a0.Dirs.length : Int)))) rfl (fun hb => ?_) (fun hb => ?_)
   ·have H22 := Jp hb H21; clear H21
    refine Jt ?_
    refine Jf ?_
    refine J8 ?_
    refine Jf ?_
    refine Jb ?_
    obtain ⟨t15, h_t15, H23⟩ := Jh H22; clear H22
    refine Ja rfl rfl rfl (X5 Tryz.underlying22 Tryz.sizeOf36 rfl rfl f0_1.frs (f0_1.ix h_t15)) ?_
    refine Yu (fun w hF hS => X4 (f := (elC h v0_1 1)) (i := x13_2) (sz := 1) (j := 0) (v := (Xk h v0_1 1 (Int.toNat x13_2) 0)) Tryz.isAgg36 rfl rfl (f0_1.frs.row (hw.now hF)) (f0_1.ix h_t15) (rg_of (Ur (f0_1.at h_t15)) rfl)) rfl rfl rfl ?_
    refine Ja rfl rfl rfl (Jc (v := (Xk h v0_1 1 (Int.toNat x13_2) 0)) rfl) ?_
    refine Jg ?_
    refine Jf ?_
    refine Jb ?_
    refine Ja rfl rfl rfl (Je (v := (Xk h v0_1 1 (Int.toNat x13_2) 0)) rfl) ?_
    obtain ⟨t18, h_t18, H24⟩ := Jh H23; clear H23
    refine Qw (fun w hF hS => k91 (J7 w) ((show FrN h 6 (Xk h v0_1 1 (Int.toNat x13_2) 0) g_tag_Entry t15 from (f0_1.at h_t15)).mono (hw.now hF)) h_t18) Tryz.call91 rfl rfl rfl ?_
    refine Ja rfl rfl rfl (Jc (v := .int .i64 t18) rfl) ?_
    refine Jg ?_
    refine Jf ?_
    refine Jb ?_
    refine Ja rfl rfl rfl (Je (v := .int .i64 t18) rfl) ?_
    refine Ja rfl rfl rfl (Va rfl rfl) ?_
    refine Jg ?_
    refine Qd (b := (decide (t18 ≠ 0))) rfl (fun hb => ?_) (fun hb => ?_)
    ·have H25 := Jp hb H24; clear H24
     refine Jf ?_
     refine Jb ?_
     refine Ja rfl rfl rfl (Je (v := .int .i64 t18) rfl) ?_
     refine Ja rfl rfl rfl (Jc (v := .int .i64 t18) rfl) ?_
     refine Jg ?_
     refine Jx ?_
     obtain rfl := Option.some.inj H25
     refine Qn (v := .int .i64 t18) rfl rfl (Yh rfl)
    ·have H26 := Jq hb H24; clear H24
     refine Jt ?_
     refine Jb ?_
     obtain ⟨t22, h_t22, H27⟩ := Jh H26; clear H26
     refine Ja rfl rfl rfl (Qe rfl rfl h_t22) ?_
     refine Ja rfl rfl rfl (Je (v := .int .i64 t22) rfl) ?_
     refine Jg ?_
     refine Jn t22 () m2 [0] (by exact ⟨rfl, rfl, rfl, rfl, trivial⟩) (by decide) (by kernel_rfl) (by exact ⟨(by subst hn2; exact H27), trivial⟩) (Nat.lt_succ_self _)
   ·have H28 := Jq hb H21; clear H21
    refine X3 ?_
    refine Jn () () 0 [0] (by exact ⟨rfl, trivial⟩) (by decide) (by kernel_rfl) (by exact ⟨H28, trivial⟩) (Nat.lt_succ_self _)
  ·rintro _ _ gg H17 _
   replace H17 : Ja2 a0 = some r := H17
   try dsimp only
   refine Jf ?_
   refine Jf ?_
   refine Jb ?_
   refine Xr (i := 0) (vs := [.bool a0.Big, v0_1]) Tryz.isAgg24 Tryz.sizeOf24 rfl rfl rfl rfl rfl ?_
   obtain ⟨t24, h_t24, H18⟩ := Jh H17; clear H17
   refine Qw (fun w hF hS => k89 (J7 w) (f0_1.mono (hw.now hF)) h_t24) Tryz.call89 rfl rfl rfl ?_
   refine Ja rfl rfl rfl (Z0 Tryz.underlying9 rfl) ?_
   refine Ja rfl rfl rfl (Zm rfl rfl) ?_
   refine Jg ?_
   refine Qd (b := (decide (65000 < (t24.length : Int)))) rfl (fun hb => ?_) (fun hb => ?_)
   ·have H19 := Jp hb H18; clear H18
    refine Jf ?_
    refine Jb ?_
    refine Ja rfl rfl rfl (Jc (v := .int .i64 4) rfl) ?_
    refine Jg ?_
    refine Jx ?_
    obtain rfl := Option.some.inj H19
    refine Qn (v := .int .i64 4) rfl rfl (Yh rfl)
   ·have H20 := Jq hb H18; clear H18
    refine Jt ?_
    refine Jf ?_
    refine Jb ?_
    refine Ja rfl rfl rfl (Jc (v := .int .i64 0) rfl) ?_
    refine Jg ?_
    refine Jx ?_
    obtain rfl := Option.some.inj H20
    refine Qn (v := .int .i64 0) rfl rfl (Yh rfl)
end Go.Proofs.YtgjpnjncfilgnaaGreatDoor
