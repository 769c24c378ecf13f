/- TagPictures, checks and Write: the walks, printed by our generator; each follows its model. Conditions: the model yields a value. -/
import Derived.Test.YtemkoikdkfkijaaMd
import Derived.Test.YtemkoikdkfkijaaLx3
import Derived.Test.YtemkoikdkfkijaaProg
namespace Go.Proofs.Ytemkoikdkfkijaa
open Go Go.Vc Go.Md Go.M Go.Lx
set_option maxRecDepth 100000
set_option maxHeartbeats 4000000
set_option linter.unusedVariables false
theorem mixed : Try.prog.follows .mixedOrders = true := by kernel_rfl
abbrev X1 (x : Int) : List Value := [.int .i64 x]
abbrev J8 : Nat → Value
  | 0 => .func (.func 91) #[] #[]
  | 1 => .func (.func 72) #[] #[]
  | _ => .nilFunc
def Wt (m : ((List Int) → Int → Option (Unit))) (w : World) (args : List Value) (post : Value → World → Prop) : Prop :=
  ∃ (a0 : (List Int)) (v0 : Value) (a1 : Int) (r : Unit), FrS (fun b => w.heap[b]?) 1 v0 (a0.map X1) ∧ args = [v0, .int .i64 a1] ∧ m a0 a1 = some r ∧ post = fun v' w' => v' = (.tuple #[]) ∧ Grow w w'
abbrev Qd (x : T_tag_Ratio) : List Value := [.int .i64 x.Num, .int .i64 x.Den]
abbrev Xa (x : Int) : List Value := [.int .u8 x]
def W3 (m : (T_tag_Segment → Option (Bool))) (w : World) (args : List Value) (post : Value → World → Prop) : Prop :=
  ∃ (a0 : T_tag_Segment) (r : Bool), args = [.agg #[.int .i64 a0.Kind, str a0.Text]] ∧ m a0 = some r ∧ post = fun v' w' => v' = (.bool r) ∧ Grow w w'
abbrev Jo (x : T_tag_Span) : List Value := [.int .i64 x.From, .int .i64 x.To]
inductive g_tag_Entry (h : J3) : (Nat → Value) → T_tag_Entry → Prop
  | mk {c : Nat → Value} {x : T_tag_Entry} (h0 : c 0 = .int .i64 x.Tag) (h1 : c 1 = .int .i64 x.Value.Kind) (h2 : c 2 = str x.Value.Text) (h3 : FrS h 1 (c 3) (x.Value.Ints.map X1)) (h4 : FrS h 2 (c 4) (x.Value.Ratios.map Qd)) (h5 : FrS h 6 (c 5) ((List.range x.Value.Entries.length).map (elC h (c 5) 6))) (h6 : ∀ (i : Nat) (y : T_tag_Entry), x.Value.Entries[i]? = some y → g_tag_Entry h (Yq h (c 5) 6 i) y) : g_tag_Entry h c x
instance : Mon g_tag_Entry := ⟨fun k c x f => by
  induction f with
  | mk h0 h1 h2 h3 h4 h5 h6 ih => exact .mk h0 h1 h2 (h3.mono k) (h4.mono k) (frsMono h5 k) (fun i y hy => by have e_ := elMonoE h5 k hy; rw [← e_]; exact ih i y hy)⟩
def gs_int (h : J3) (c : Nat → Value) (x : (List Int)) : Prop := FrS h 1 (c 0) (x.map X1)
instance : Mon gs_int := ⟨fun k _ _ f => FrS.mono f k⟩
def gs_tag_Ratio (h : J3) (c : Nat → Value) (x : (List T_tag_Ratio)) : Prop := FrS h 2 (c 0) (x.map Qd)
instance : Mon gs_tag_Ratio := ⟨fun k _ _ f => FrS.mono f k⟩
def gs_tag_Entry (h : J3) (c : Nat → Value) (x : (List T_tag_Entry)) : Prop := FrN h 6 (c 0) g_tag_Entry x
instance : Mon gs_tag_Entry := ⟨fun k _ _ f => FrN.mono f k⟩
theorem cgs_tag_Entry {h : J3} {c : Nat → Value} {x : (List T_tag_Entry)} (_ : gs_tag_Entry h c x) : (List.range 1).map c = [c 0] := rfl
def g_tag_Value (h : J3) (c : Nat → Value) (x : T_tag_Value) : Prop := c 0 = .int .i64 x.Kind ∧ c 1 = str x.Text ∧ gs_int h (fun j => c (2 + j)) x.Ints ∧ gs_tag_Ratio h (fun j => c (3 + j)) x.Ratios ∧ gs_tag_Entry h (fun j => c (4 + j)) x.Entries
instance : Mon g_tag_Value := ⟨fun k _ _ f => by obtain ⟨h0, h1, h2, h3, h4⟩ := f; exact ⟨h0, h1, Mon.mono k _ _ h2, Mon.mono k _ _ h3, Mon.mono k _ _ h4⟩⟩
theorem cg_tag_Value {h : J3} {c : Nat → Value} {x : T_tag_Value} (f : g_tag_Value h c x) : (List.range 5).map c = [.int .i64 x.Kind, str x.Text, c 2, c 3, c 4] := by
  obtain ⟨h0, h1, h2, h3, h4⟩ := f
  show [c 0, c 1, c 2, c 3, c 4] = _
  simp only [h0, h1]
theorem X9 {h : J3} {c : Nat → Value} {x : T_tag_Value} (f : g_tag_Value h c x) : gs_int h (fun j => c (2 + j)) x.Ints := by
  obtain ⟨h0, h1, h2, h3, h4⟩ := f; exact h2
theorem Yd {h : J3} {c : Nat → Value} {x : T_tag_Value} (f : g_tag_Value h c x) : gs_tag_Ratio h (fun j => c (3 + j)) x.Ratios := by
  obtain ⟨h0, h1, h2, h3, h4⟩ := f; exact h3
theorem Xj {h : J3} {c : Nat → Value} {x : T_tag_Value} (f : g_tag_Value h c x) : gs_tag_Entry h (fun j => c (4 + j)) x.Entries := by
  obtain ⟨h0, h1, h2, h3, h4⟩ := f; exact h4
theorem g_tag_Entry_iff {h : J3} {c : Nat → Value} {x : T_tag_Entry} : g_tag_Entry h c x ↔ (c 0 = .int .i64 x.Tag ∧ g_tag_Value h (fun j => c (1 + j)) x.Value) :=
  ⟨fun f => by cases f with | mk h0 h1 h2 h3 h4 h5 h6 => exact ⟨h0, ⟨h1, h2, h3, h4, ⟨h5, h6⟩⟩⟩, fun ⟨h0, ⟨h1, h2, h3, h4, ⟨h5, h6⟩⟩⟩ => .mk h0 h1 h2 h3 h4 h5 h6⟩
theorem Ws {h : J3} {c : Nat → Value} {x : T_tag_Entry} (f : g_tag_Entry h c x) : (List.range 6).map c = [.int .i64 x.Tag, .int .i64 x.Value.Kind, str x.Value.Text, c 3, c 4, c 5] := by
  obtain ⟨h0, h1⟩ := g_tag_Entry_iff.1 f
  have hc1 := cg_tag_Value h1
  simp only [List.range, List.range.loop, List.map_cons, List.map_nil, Nat.reduceAdd, List.cons.injEq, and_true] at hc1
  show [c 0, c 1, c 2, c 3, c 4, c 5] = _
  simp only [h0, hc1]
theorem Jx {h : J3} {c : Nat → Value} {x : T_tag_Entry} (f : g_tag_Entry h c x) : g_tag_Value h (fun j => c (1 + j)) x.Value := by
  obtain ⟨h0, h1⟩ := g_tag_Entry_iff.1 f; exact h1
def g_tag_Segment (h : J3) (c : Nat → Value) (x : T_tag_Segment) : Prop := c 0 = .int .i64 x.Kind ∧ c 1 = str x.Text
instance : Mon g_tag_Segment := ⟨fun k _ _ f => by obtain ⟨h0, h1⟩ := f; exact ⟨h0, h1⟩⟩
theorem Ze {h : J3} {c : Nat → Value} {x : T_tag_Segment} (f : g_tag_Segment h c x) : (List.range 2).map c = [.int .i64 x.Kind, str x.Text] := by
  obtain ⟨h0, h1⟩ := f
  show [c 0, c 1] = _
  simp only [h0, h1]
theorem run_eqT103 (d : Nat) (w : World) (a0 b0 : Int) (a1 b1 : Int) : (Op.equalIn (d + 2) 103 (.agg #[.int .i64 a0, .int .i64 a1]) (.agg #[.int .i64 b0, .int .i64 b1])).run Try.prog w = .ok (decide (a0 = b0 ∧ a1 = b1)) w := by
  rw [run_equalIn_struct w (d + 1) 103 _ _ (by simp only [Program.fieldsOf, Try.underlying103]) Try.stoodInHeld103]
  simp only [Program.fieldsOf, Try.underlying103, Op.eqFields]
  simp [part, run_equalIn_int, run_equalIn_strL, run_equalIn_bool', Try.underlying3]
  repeat' split
  all_goals simp_all
theorem run_eq_tag_Ratio (w : World) (x y : T_tag_Ratio) : (Op.equalIn Op.maxDepth 103 (.agg #[.int .i64 x.Num, .int .i64 x.Den]) (.agg #[.int .i64 y.Num, .int .i64 y.Den])).run Try.prog w = .ok (Ui x y) w :=
  run_eqT103 9998 w _ _ _ _
theorem run_eqT74 (d : Nat) (w : World) (a0 b0 : Int) (a1 b1 : (List UInt8)) : (Op.equalIn (d + 2) 74 (.agg #[.int .i64 a0, str a1]) (.agg #[.int .i64 b0, str b1])).run Try.prog w = .ok (decide (a0 = b0 ∧ a1 = b1)) w := by
  rw [run_equalIn_struct w (d + 1) 74 _ _ (by simp only [Program.fieldsOf, Try.underlying74]) Try.stoodInHeld74]
  simp only [Program.fieldsOf, Try.underlying74, Op.eqFields]
  simp [part, run_equalIn_int, run_equalIn_strL, run_equalIn_bool', Try.underlying3, Try.underlying9]
  repeat' split
  all_goals simp_all
theorem run_eq_tag_Segment (w : World) (x y : T_tag_Segment) : (Op.equalIn Op.maxDepth 74 (.agg #[.int .i64 x.Kind, str x.Text]) (.agg #[.int .i64 y.Kind, str y.Text])).run Try.prog w = .ok (Ye x y) w :=
  run_eqT74 9998 w _ _ _ _
theorem k91 {a0 : (List Int)} {v0 : Value} {a1 : Int} {r : Unit} {w : World} {h : J3} (hw : Know h w Wf) (f0 : FrS h 1 v0 (a0.map X1)) (H : tag_Read_1 a0 a1 = some r) : Does Try.prog 91 (List.toArray [v0, .int .i64 a1]) w (fun v w' => v = (.tuple #[]) ∧ Grow w w') := by
 refine enter (n := 4) Try.func91 rfl rfl rfl Wf [] (Sat.nil _ _) ?_
 refine Jt ?_
 cases H
 refine ret0n rfl (Yn rfl)
theorem k72 {a0 : (List Int)} {v0 : Value} {a1 : Int} {r : Unit} {w : World} {h : J3} (hw : Know h w Wf) (f0 : FrS h 1 v0 (a0.map X1)) (H : tag_Used_1 a0 a1 = some r) : Does Try.prog 72 (List.toArray [v0, .int .i64 a1]) w (fun v w' => v = (.tuple #[]) ∧ Grow w w') := by
 refine enter (n := 4) Try.func72 rfl rfl rfl Wf [] (Sat.nil _ _) ?_
 refine Jt ?_
 cases H
 refine ret0n rfl (Yn rfl)
theorem hft121 (k : Nat) : FnV Try.prog (J8 k) (mft121 k) (fun g => Wt g) :=
  match k with
  | 0 => (show FnV Try.prog (J8 0) (mft121 0) _ from (FnV.mk (g := tag_Read_1) (R := fun g => Wt g) (fun h_ => (FnH.mk ⟨91, #[], #[], rfl, Try.call91, fun args2 post2 w2 hk2 hR2 => by obtain ⟨a0_, v0_, a1_, r_, fa0_, rfl, H_, rfl⟩ := hR2; exact k91 (Jy w2) fa0_ H_⟩))))
  | 1 => (show FnV Try.prog (J8 1) (mft121 1) _ from (FnV.mk (g := tag_Used_1) (R := fun g => Wt g) (fun h_ => (FnH.mk ⟨72, #[], #[], rfl, Try.call72, fun args2 post2 w2 hk2 hR2 => by obtain ⟨a0_, v0_, a1_, r_, fa0_, rfl, H_, rfl⟩ := hR2; exact k72 (Jy w2) fa0_ H_⟩))))
  | _ + 2 => FnV.nil
theorem k97 {a0 : Int} {a1 : Int} {a2 : Int} {r : Bool} (H : Zy a0 a1 a2 = some r) : Ret Try.prog 97 [.int .i64 a0, .int .i64 a1, .int .i64 a2] (.bool r) := by
 refine Z5 (n := 15) Try.func97 rfl rfl rfl (fun wd => ?_)
 refine Jf ?_
 refine Jb ?_
 refine Ja rfl rfl rfl (Jc (v := .bool false) rfl) ?_
 refine Jg ?_
 refine Jf ?_
 refine Jb ?_
 refine Ja rfl rfl rfl (Jd (v := .int .i64 a0) rfl) ?_
 refine Ja rfl rfl rfl (Jd (v := .int .i64 a1) rfl) ?_
 refine Ja rfl rfl rfl (Z0 rfl rfl) ?_
 refine Ja rfl rfl rfl (Jd (v := .bool (decide (a0 < a1))) rfl) ?_
 refine split (fun hb => ?_) (fun hb => ?_)
 ·have H3 := Jr hb H; clear H
  refine Ji rfl rfl rfl ?_
  refine Ji rfl rfl rfl ?_
  refine Ji rfl rfl rfl ?_
  refine Ja rfl rfl rfl (J7 (v := .bool true) rfl rfl) ?_
  refine Ja rfl rfl rfl (Jc (v := .bool true) rfl) ?_
  refine Jg ?_
  refine Ju ?_
  obtain rfl := Option.some.inj H3
  refine Qq (v := .bool true) rfl rfl (Yn rfl)
 ·have H4 := Jq hb H; clear H
  refine Ja rfl rfl rfl (Jd (v := .int .i64 a0) rfl) ?_
  refine Ja rfl rfl rfl (Jd (v := .int .i64 a2) rfl) ?_
  refine Ja rfl rfl rfl (Wj rfl rfl) ?_
  refine Ja rfl rfl rfl (Qk (v := .bool (decide (a2 < a0))) rfl rfl) ?_
  refine Ja rfl rfl rfl (Jc (v := .bool (decide (a2 < a0))) rfl) ?_
  refine Jg ?_
  refine Ju ?_
  obtain rfl := Option.some.inj H4
  refine Qq (v := .bool (decide (a2 < a0))) rfl rfl (Yn rfl)
theorem k136 {a0 : Int} {r : Int} (H : Za a0 = some r) : Ret Try.prog 136 [.int .i64 a0] (.int .i64 r) := by
 refine Z5 (n := 16) Try.func136 rfl rfl rfl (fun wd => ?_)
 refine Jf ?_
 refine Jb ?_
 refine Ja rfl rfl rfl (Jc (v := .int .i64 0) rfl) ?_
 refine Jg ?_
 refine Jf ?_
 refine Jf ?_
 refine Jb ?_
 refine Ja rfl rfl rfl (Jd (v := .int .i64 a0) rfl) ?_
 refine Jg ?_
 refine J4 ?_
 refine Xq (r := r) (σ := Bool) (τ := Unit) (fun s => Vm a0 s) (fun s t => [(3, .int .i64 a0), (4, .bool s)]) (fun s t => []) (fun s t => True) ?_ ?_
 ·refine Jf ?_
  refine Jb ?_
  refine Ja rfl rfl rfl (Xl rfl rfl) ?_
  refine Ja rfl rfl rfl (Jc (v := .bool (decide (a0 = 1))) rfl) ?_
  refine Jg ?_
  refine Qf (b := (decide (a0 = 1))) rfl (fun hb => ?_) (fun hb => ?_)
  ·have H37 := Jr hb H; clear H
   refine Jt ?_
   refine Jp (decide (a0 = 1)) () 0 [] (by exact ⟨rfl, rfl, trivial⟩) (by decide) (by kernel_rfl) (by exact ⟨H37, trivial⟩) (Nat.lt_succ_self _)
  ·have H38 := Jq hb H; clear H
   refine Jf ?_
   refine Jb ?_
   refine Ja rfl rfl rfl (Xl rfl rfl) ?_
   refine Ja rfl rfl rfl (Jc (v := .bool (decide (a0 = 2))) rfl) ?_
   refine Jg ?_
   refine Qf (b := (decide (a0 = 2))) rfl (fun hb => ?_) (fun hb => ?_)
   ·have H39 := Jr hb H38; clear H38
    refine Jt ?_
    refine Jp (decide (a0 = 2)) () 0 [] (by exact ⟨rfl, rfl, trivial⟩) (by decide) (by kernel_rfl) (by exact ⟨H39, trivial⟩) (Nat.lt_succ_self _)
   ·have H40 := Jq hb H38; clear H38
    refine Jf ?_
    refine Jb ?_
    refine Ja rfl rfl rfl (Xl rfl rfl) ?_
    refine Ja rfl rfl rfl (Jc (v := .bool (decide (a0 = 7))) rfl) ?_
    refine Jg ?_
    refine Qf (b := (decide (a0 = 7))) rfl (fun hb => ?_) (fun hb => ?_)
    ·have H41 := Jr hb H40; clear H40
     refine Jt ?_
     refine Jp (decide (a0 = 7)) () 0 [] (by exact ⟨rfl, rfl, trivial⟩) (by decide) (by kernel_rfl) (by exact ⟨H41, trivial⟩) (Nat.lt_succ_self _)
    ·have H42 := Jq hb H40; clear H40
     refine Jb ?_
     refine Ja rfl rfl rfl (Xl rfl rfl) ?_
     refine Ja rfl rfl rfl (Jc (v := .bool (decide (a0 = 13))) rfl) ?_
     refine Jg ?_
     refine Jp (decide (a0 = 13)) () 0 [] (by exact ⟨rfl, rfl, trivial⟩) (by decide) (by kernel_rfl) (by exact ⟨H42, trivial⟩) (Nat.lt_succ_self _)
 ·rintro x4 _ gg H22 _
  replace H22 : Vm a0 x4 = some r := H22
  try dsimp only
  refine Qf (b := x4) rfl (fun hb => ?_) (fun hb => ?_)
  ·have H23 := Jr hb H22; clear H22
   refine Jf ?_
   refine Jb ?_
   refine Ja rfl rfl rfl (Jc (v := .int .i64 1) rfl) ?_
   refine Jg ?_
   refine Ju ?_
   obtain rfl := Option.some.inj H23
   refine Qq (v := .int .i64 1) rfl rfl (Yn rfl)
  ·have H24 := Jq hb H22; clear H22
   refine Jf ?_
   refine Jb ?_
   refine Ja rfl rfl rfl (Xl rfl rfl) ?_
   refine Ja rfl rfl rfl (Jc (v := .bool (decide (a0 = 3))) rfl) ?_
   refine Jg ?_
   refine Qf (b := (decide (a0 = 3))) rfl (fun hb => ?_) (fun hb => ?_)
   ·have H25 := Jr hb H24; clear H24
    refine Jf ?_
    refine Jb ?_
    refine Ja rfl rfl rfl (Jc (v := .int .i64 2) rfl) ?_
    refine Jg ?_
    refine Ju ?_
    obtain rfl := Option.some.inj H25
    refine Qq (v := .int .i64 2) rfl rfl (Yn rfl)
   ·have H26 := Jq hb H24; clear H24
    refine Jf ?_
    refine Jf ?_
    refine Jb ?_
    refine Ja rfl rfl rfl (Xl rfl rfl) ?_
    refine Ja rfl rfl rfl (Jc (v := .bool (decide (a0 = 4))) rfl) ?_
    refine Jg ?_
    refine Qf (b := (decide (a0 = 4))) rfl (fun hb => ?_) (fun hb => ?_)
    ·have H27 := Jr hb H26; clear H26
     refine Jt ?_
     refine Qf (b := (decide (a0 = 4))) rfl (fun hb => ?_) (fun hb => ?_)
     ·have H28 := Jr hb H27; clear H27
      refine Jf ?_
      refine Jb ?_
      refine Ja rfl rfl rfl (Jc (v := .int .i64 4) rfl) ?_
      refine Jg ?_
      refine Ju ?_
      obtain rfl := Option.some.inj H28
      refine Qq (v := .int .i64 4) rfl rfl (Yn rfl)
     ·have H29 := Jq hb H27; clear H27
      refine Jf ?_
      refine Jb ?_
      refine Ja rfl rfl rfl (Xl rfl rfl) ?_
      refine Ja rfl rfl rfl (Jc (v := .bool (decide (a0 = 5))) rfl) ?_
      refine Jg ?_
      refine Qf (b := (decide (a0 = 5))) rfl (fun hb => ?_) (fun hb => ?_)
      ·have H30 := Jr hb H29; clear H29
       refine Jf ?_
       refine Jb ?_
       refine Ja rfl rfl rfl (Jc (v := .int .i64 8) rfl) ?_
       refine Jg ?_
       refine Ju ?_
       obtain rfl := Option.some.inj H30
       refine Qq (v := .int .i64 8) rfl rfl (Yn rfl)
      ·have H31 := Jq hb H29; clear H29
       refine Jt ?_
       refine Jf ?_
       refine Jb ?_
       refine Ja rfl rfl rfl (Jc (v := .int .i64 0) rfl) ?_
       refine Jg ?_
       refine Ju ?_
       obtain rfl := Option.some.inj H31
       refine Qq (v := .int .i64 0) rfl rfl (Yn rfl)
    ·have H32 := Jq hb H26; clear H26
     refine Jb ?_
     refine Ja rfl rfl rfl (Xl rfl rfl) ?_
     refine Ja rfl rfl rfl (Jc (v := .bool (decide (a0 = 9))) rfl) ?_
     refine Jg ?_
     refine Qf (b := (decide (a0 = 9))) rfl (fun hb => ?_) (fun hb => ?_)
     ·have H33 := Jr hb H32; clear H32
      refine Jf ?_
      refine Jb ?_
      refine Ja rfl rfl rfl (Jc (v := .int .i64 4) rfl) ?_
      refine Jg ?_
      refine Ju ?_
      obtain rfl := Option.some.inj H33
      refine Qq (v := .int .i64 4) rfl rfl (Yn rfl)
     ·have H34 := Jq hb H32; clear H32
      refine Jf ?_
      refine Jb ?_
      refine Ja rfl rfl rfl (Xl rfl rfl) ?_
      refine Ja rfl rfl rfl (Jc (v := .bool (decide (a0 = 5))) rfl) ?_
      refine Jg ?_
      refine Qf (b := (decide (a0 = 5))) rfl (fun hb => ?_) (fun hb => ?_)
      ·have H35 := Jr hb H34; clear H34
       refine Jf ?_
       refine Jb ?_
       refine Ja rfl rfl rfl (Jc (v := .int .i64 8) rfl) ?_
       refine Jg ?_
       refine Ju ?_
       obtain rfl := Option.some.inj H35
       refine Qq (v := .int .i64 8) rfl rfl (Yn rfl)
      ·have H36 := Jq hb H34; clear H34
       refine Jt ?_
       refine Jf ?_
       refine Jb ?_
       refine Ja rfl rfl rfl (Jc (v := .int .i64 0) rfl) ?_
       refine Jg ?_
       refine Ju ?_
       obtain rfl := Option.some.inj H36
       refine Qq (v := .int .i64 0) rfl rfl (Yn rfl)
theorem k143 {a0 : Int} {r : Bool} (H : tag_isInts a0 = some r) : Ret Try.prog 143 [.int .i64 a0] (.bool r) := by
 refine Z5 (n := 17) Try.func143 rfl rfl rfl (fun wd => ?_)
 refine Jf ?_
 refine Jb ?_
 refine Ja rfl rfl rfl (Jc (v := .bool false) rfl) ?_
 refine Jg ?_
 refine Jf ?_
 refine Jb ?_
 refine Ja rfl rfl rfl (Jd (v := .int .i64 a0) rfl) ?_
 refine Ja rfl rfl rfl (Xl rfl rfl) ?_
 refine Ja rfl rfl rfl (Jd (v := .bool (decide (a0 = 1))) rfl) ?_
 refine split (fun hb => ?_) (fun hb => ?_)
 ·have H7 := Jr hb H; clear H
  refine Ji rfl rfl rfl ?_
  refine Ji rfl rfl rfl ?_
  refine Ja rfl rfl rfl (J7 (v := .bool true) rfl rfl) ?_
  refine Ja rfl rfl rfl (Jd (v := .bool true) rfl) ?_
  refine Ji rfl rfl rfl ?_
  refine Ji rfl rfl rfl ?_
  refine Ja rfl rfl rfl (J7 (v := .bool true) rfl rfl) ?_
  refine Ja rfl rfl rfl (Jd (v := .bool true) rfl) ?_
  refine Ji rfl rfl rfl ?_
  refine Ji rfl rfl rfl ?_
  refine Ja rfl rfl rfl (J7 (v := .bool true) rfl rfl) ?_
  refine Ja rfl rfl rfl (Jc (v := .bool true) rfl) ?_
  refine Jg ?_
  refine Ju ?_
  obtain rfl := Option.some.inj H7
  refine Qq (v := .bool true) rfl rfl (Yn rfl)
 ·have H8 := Jq hb H; clear H
  refine Ja rfl rfl rfl (Jd (v := .int .i64 a0) rfl) ?_
  refine Ja rfl rfl rfl (Xl rfl rfl) ?_
  refine Ja rfl rfl rfl (Qk (v := .bool (decide (a0 = 3))) rfl rfl) ?_
  refine Ja rfl rfl rfl (Jd (v := .bool (decide (a0 = 3))) rfl) ?_
  refine split (fun hb => ?_) (fun hb => ?_)
  ·have H9 := Jr hb H8; clear H8
   refine Ji rfl rfl rfl ?_
   refine Ji rfl rfl rfl ?_
   refine Ja rfl rfl rfl (J7 (v := .bool true) rfl rfl) ?_
   refine Ja rfl rfl rfl (Jd (v := .bool true) rfl) ?_
   refine Ji rfl rfl rfl ?_
   refine Ji rfl rfl rfl ?_
   refine Ja rfl rfl rfl (J7 (v := .bool true) rfl rfl) ?_
   refine Ja rfl rfl rfl (Jc (v := .bool true) rfl) ?_
   refine Jg ?_
   refine Ju ?_
   obtain rfl := Option.some.inj H9
   refine Qq (v := .bool true) rfl rfl (Yn rfl)
  ·have H10 := Jq hb H8; clear H8
   refine Ja rfl rfl rfl (Jd (v := .int .i64 a0) rfl) ?_
   refine Ja rfl rfl rfl (Xl rfl rfl) ?_
   refine Ja rfl rfl rfl (Qk (v := .bool (decide (a0 = 4))) rfl rfl) ?_
   refine Ja rfl rfl rfl (Jd (v := .bool (decide (a0 = 4))) rfl) ?_
   refine split (fun hb => ?_) (fun hb => ?_)
   ·have H11 := Jr hb H10; clear H10
    refine Ji rfl rfl rfl ?_
    refine Ji rfl rfl rfl ?_
    refine Ja rfl rfl rfl (J7 (v := .bool true) rfl rfl) ?_
    refine Ja rfl rfl rfl (Jc (v := .bool true) rfl) ?_
    refine Jg ?_
    refine Ju ?_
    obtain rfl := Option.some.inj H11
    refine Qq (v := .bool true) rfl rfl (Yn rfl)
   ·have H12 := Jq hb H10; clear H10
    refine Ja rfl rfl rfl (Jd (v := .int .i64 a0) rfl) ?_
    refine Ja rfl rfl rfl (Xl rfl rfl) ?_
    refine Ja rfl rfl rfl (Qk (v := .bool (decide (a0 = 9))) rfl rfl) ?_
    refine Ja rfl rfl rfl (Jc (v := .bool (decide (a0 = 9))) rfl) ?_
    refine Jg ?_
    refine Ju ?_
    obtain rfl := Option.some.inj H12
    refine Qq (v := .bool (decide (a0 = 9))) rfl rfl (Yn rfl)
theorem k144 {a0 : Int} {r : Bool} (H : tag_isText a0 = some r) : Ret Try.prog 144 [.int .i64 a0] (.bool r) := by
 refine Z5 (n := 9) Try.func144 rfl rfl rfl (fun wd => ?_)
 refine Jf ?_
 refine Jb ?_
 refine Ja rfl rfl rfl (Jc (v := .bool false) rfl) ?_
 refine Jg ?_
 refine Jf ?_
 refine Jb ?_
 refine Ja rfl rfl rfl (Jd (v := .int .i64 a0) rfl) ?_
 refine Ja rfl rfl rfl (Xl rfl rfl) ?_
 refine Ja rfl rfl rfl (Jd (v := .bool (decide (a0 = 2))) rfl) ?_
 refine split (fun hb => ?_) (fun hb => ?_)
 ·have H3 := Jr hb H; clear H
  refine Ji rfl rfl rfl ?_
  refine Ji rfl rfl rfl ?_
  refine Ja rfl rfl rfl (J7 (v := .bool true) rfl rfl) ?_
  refine Ja rfl rfl rfl (Jc (v := .bool true) rfl) ?_
  refine Jg ?_
  refine Ju ?_
  obtain rfl := Option.some.inj H3
  refine Qq (v := .bool true) rfl rfl (Yn rfl)
 ·have H4 := Jq hb H; clear H
  refine Ja rfl rfl rfl (Jd (v := .int .i64 a0) rfl) ?_
  refine Ja rfl rfl rfl (Xl rfl rfl) ?_
  refine Ja rfl rfl rfl (Qk (v := .bool (decide (a0 = 7))) rfl rfl) ?_
  refine Ja rfl rfl rfl (Jc (v := .bool (decide (a0 = 7))) rfl) ?_
  refine Jg ?_
  refine Ju ?_
  obtain rfl := Option.some.inj H4
  refine Qq (v := .bool (decide (a0 = 7))) rfl rfl (Yn rfl)
theorem k104 {a0 : T_tag_Value} {v0_2 : Value} {v0_3 : Value} {v0_4 : Value} {r : Int} {w : World} {h : J3} (hw : Know h w Wf) (f0_2 : FrS h 1 v0_2 (a0.Ints.map X1)) (f0_3 : FrS h 2 v0_3 (a0.Ratios.map Qd)) (f0_4 : FrN h 6 v0_4 g_tag_Entry a0.Entries) (H : Wa a0 = some r) : Does Try.prog 104 (List.toArray [.agg #[.int .i64 a0.Kind, str a0.Text, v0_2, v0_3, v0_4]]) w (fun v w' => v = (.int .i64 r) ∧ Grow w w') := by
 refine enter (n := 46) Try.func104 rfl rfl rfl Wf [] (Sat.nil _ _) ?_
 refine Jf ?_
 refine Jb ?_
 refine U6 (cs := [.int .i64 a0.Kind, str a0.Text, v0_2, v0_3, v0_4]) rfl rfl rfl rfl (fun b1 => ?_)
 refine Ja rfl rfl rfl (Jc (v := .int .i64 0) rfl) ?_
 refine Jg ?_
 refine Jf ?_
 refine J4 ?_
 refine Jf ?_
 refine Jb ?_
 refine Ja rfl rfl rfl (Jk Try.runUnderlying29 rfl Try.sizeOf3 rfl rfl) ?_
 refine Jw (i := 0) (v := .int .i64 a0.Kind) Try.isAgg3 rfl rfl rfl rfl rfl ?_
 obtain ⟨t6, h_t6, H31⟩ := Jh H; clear H
 refine Zu (k136 h_t6) Try.call136 rfl rfl rfl ?_
 refine Ja rfl rfl rfl (Xl rfl rfl) ?_
 refine Ja rfl rfl rfl (Jc (v := .bool (decide (t6 = 0))) rfl) ?_
 refine Jg ?_
 refine Qf (b := (decide (t6 = 0))) rfl (fun hb => ?_) (fun hb => ?_)
 ·have H32 := Jr hb H31; clear H31
  refine Jf ?_
  refine Jb ?_
  refine Ja rfl rfl rfl (Jc (v := .int .i64 10) rfl) ?_
  refine Jg ?_
  refine Ju ?_
  obtain rfl := Option.some.inj H32
  refine Qq (v := .int .i64 10) rfl rfl (Yn rfl)
 ·have H33 := Jq hb H31; clear H31
  refine Jf ?_
  refine Xq (r := r) (σ := Bool) (τ := Unit) (fun s => Y9 a0 s) (fun s t => [(1, .pointer (some ⟨b1, 0, none⟩)), (8, .bool s)]) (fun s t => [Jl b1 [.int .i64 a0.Kind, str a0.Text, v0_2, v0_3, v0_4] 29]) (fun s t => True) ?_ ?_
  ·refine Jb ?_
   refine Ja rfl rfl rfl (Jk Try.runUnderlying29 rfl Try.sizeOf3 rfl rfl) ?_
   refine Jw (i := 0) (v := .int .i64 a0.Kind) Try.isAgg3 rfl rfl rfl rfl rfl ?_
   obtain ⟨t11, h_t11, H58⟩ := Jh H33; clear H33
   refine Zu (k143 h_t11) Try.call143 rfl rfl rfl ?_
   refine Ja rfl rfl rfl (r_not rfl) ?_
   refine Ja rfl rfl rfl (Jd (v := .bool (!t11)) rfl) ?_
   refine split (fun hb => ?_) (fun hb => ?_)
   ·have H59 := Jr hb H58; clear H58
    refine Ja rfl rfl rfl (Jk Try.runUnderlying29 rfl Try.sizeOf25 rfl rfl) ?_
    refine Jw (i := 0) (v := v0_2) Try.isAgg25 rfl rfl rfl rfl rfl ?_
    refine Ja rfl rfl rfl (r_lenF Try.underlying25 rfl f0_2 rfl) ?_
    refine Ja rfl rfl rfl (Wj rfl rfl) ?_
    refine Ja rfl rfl rfl (J7 (v := .bool (decide (0 < (a0.Ints.length : Int)))) rfl rfl) ?_
    refine Ja rfl rfl rfl (Jc (v := .bool (decide (0 < (a0.Ints.length : Int)))) rfl) ?_
    refine Jg ?_
    refine Jp (decide (0 < (a0.Ints.length : Int))) () 0 [0] (by exact ⟨rfl, rfl, trivial⟩) (by decide) (by kernel_rfl) (by exact ⟨H59, trivial⟩) (Nat.lt_succ_self _)
   ·have H60 := Jq hb H58; clear H58
    refine Ji rfl rfl rfl ?_
    refine Ji rfl rfl rfl ?_
    refine Ji rfl rfl rfl ?_
    refine Ji rfl rfl rfl ?_
    refine Ja rfl rfl rfl (Qk (v := .bool false) rfl rfl) ?_
    refine Ja rfl rfl rfl (Jc (v := .bool false) rfl) ?_
    refine Jg ?_
    refine Jp false () 0 [0] (by exact ⟨rfl, rfl, trivial⟩) (by decide) (by kernel_rfl) (by exact ⟨H60, trivial⟩) (Nat.lt_succ_self _)
  ·rintro x8 _ gg H34 _
   replace H34 : Y9 a0 x8 = some r := H34
   try dsimp only
   refine Qf (b := x8) rfl (fun hb => ?_) (fun hb => ?_)
   ·have H35 := Jr hb H34; clear H34
    refine Jt ?_
    refine Qf (b := x8) rfl (fun hb => ?_) (fun hb => ?_)
    ·have H36 := Jr hb H35; clear H35
     refine Jf ?_
     refine Jb ?_
     refine Ja rfl rfl rfl (Jc (v := .int .i64 1) rfl) ?_
     refine Jg ?_
     refine Ju ?_
     obtain rfl := Option.some.inj H36
     refine Qq (v := .int .i64 1) rfl rfl (Yn rfl)
    ·have H37 := Jq hb H35; clear H35
     refine Jt ?_
     refine Jf ?_
     refine Jb ?_
     refine Ja rfl rfl rfl (Jc (v := .int .i64 0) rfl) ?_
     refine Jg ?_
     refine Ju ?_
     obtain rfl := Option.some.inj H37
     refine Qq (v := .int .i64 0) rfl rfl (Yn rfl)
   ·have H38 := Jq hb H34; clear H34
    refine Xq (r := r) (σ := Bool) (τ := Unit) (fun s => Y7 a0 s) (fun s t => [(1, .pointer (some ⟨b1, 0, none⟩)), (8, .bool s)]) (fun s t => [Jl b1 [.int .i64 a0.Kind, str a0.Text, v0_2, v0_3, v0_4] 29]) (fun s t => True) ?_ ?_
    ·refine Jb ?_
     refine Ja rfl rfl rfl (Jk Try.runUnderlying29 rfl Try.sizeOf3 rfl rfl) ?_
     refine Jw (i := 0) (v := .int .i64 a0.Kind) Try.isAgg3 rfl rfl rfl rfl rfl ?_
     obtain ⟨t21, h_t21, H55⟩ := Jh H38; clear H38
     refine Zu (k144 h_t21) Try.call144 rfl rfl rfl ?_
     refine Ja rfl rfl rfl (r_not rfl) ?_
     refine Ja rfl rfl rfl (Jd (v := .bool (!t21)) rfl) ?_
     refine split (fun hb => ?_) (fun hb => ?_)
     ·have H56 := Jr hb H55; clear H55
      refine Ja rfl rfl rfl (Jk Try.runUnderlying29 rfl Try.sizeOf9 rfl rfl) ?_
      refine Jw (i := 0) (v := str a0.Text) Try.isAgg9 rfl rfl rfl rfl rfl ?_
      refine Ja rfl rfl rfl (r_neqT rfl rfl) ?_
      refine Ja rfl rfl rfl (J7 (v := .bool (decide (a0.Text ≠ []))) rfl rfl) ?_
      refine Ja rfl rfl rfl (Jc (v := .bool (decide (a0.Text ≠ []))) rfl) ?_
      refine Jg ?_
      refine Jp (decide (a0.Text ≠ [])) () 0 [0] (by exact ⟨rfl, rfl, trivial⟩) (by decide) (by kernel_rfl) (by exact ⟨H56, trivial⟩) (Nat.lt_succ_self _)
     ·have H57 := Jq hb H55; clear H55
      refine Ji rfl rfl rfl ?_
      refine Ji rfl rfl rfl ?_
      refine Ji rfl rfl rfl ?_
      refine Ja rfl rfl rfl (Qk (v := .bool false) rfl rfl) ?_
      refine Ja rfl rfl rfl (Jc (v := .bool false) rfl) ?_
      refine Jg ?_
      refine Jp false () 0 [0] (by exact ⟨rfl, rfl, trivial⟩) (by decide) (by kernel_rfl) (by exact ⟨H57, trivial⟩) (Nat.lt_succ_self _)
    ·rintro x8_2 _ gg H39 _
     replace H39 : Y7 a0 x8_2 = some r := H39
     try dsimp only
     refine Qf (b := x8_2) rfl (fun hb => ?_) (fun hb => ?_)
     ·have H40 := Jr hb H39; clear H39
      refine Jt ?_
      refine Qf (b := x8_2) rfl (fun hb => ?_) (fun hb => ?_)
      ·have H41 := Jr hb H40; clear H40
       refine Jf ?_
       refine Jb ?_
       refine Ja rfl rfl rfl (Jc (v := .int .i64 1) rfl) ?_
       refine Jg ?_
       refine Ju ?_
       obtain rfl := Option.some.inj H41
       refine Qq (v := .int .i64 1) rfl rfl (Yn rfl)
      ·have H42 := Jq hb H40; clear H40
       refine Jt ?_
       refine Jf ?_
       refine Jb ?_
       refine Ja rfl rfl rfl (Jc (v := .int .i64 0) rfl) ?_
       refine Jg ?_
       refine Ju ?_
       obtain rfl := Option.some.inj H42
       refine Qq (v := .int .i64 0) rfl rfl (Yn rfl)
     ·have H43 := Jq hb H39; clear H39
      refine Xq (r := r) (σ := Bool) (τ := Unit) (fun s => Y8 a0 s) (fun s t => [(1, .pointer (some ⟨b1, 0, none⟩)), (8, .bool s)]) (fun s t => [Jl b1 [.int .i64 a0.Kind, str a0.Text, v0_2, v0_3, v0_4] 29]) (fun s t => True) ?_ ?_
      ·refine Jb ?_
       refine Ja rfl rfl rfl (Jk Try.runUnderlying29 rfl Try.sizeOf3 rfl rfl) ?_
       refine Jw (i := 0) (v := .int .i64 a0.Kind) Try.isAgg3 rfl rfl rfl rfl rfl ?_
       refine Ja rfl rfl rfl (Zr rfl rfl) ?_
       refine Ja rfl rfl rfl (Jd (v := .bool (decide (a0.Kind ≠ 5))) rfl) ?_
       refine split (fun hb => ?_) (fun hb => ?_)
       ·have H53 := Jr hb H43; clear H43
        refine Ja rfl rfl rfl (Jk Try.runUnderlying29 rfl Try.sizeOf26 rfl rfl) ?_
        refine Jw (i := 0) (v := v0_3) Try.isAgg26 rfl rfl rfl rfl rfl ?_
        refine Ja rfl rfl rfl (r_lenF Try.underlying26 rfl f0_3 rfl) ?_
        refine Ja rfl rfl rfl (Wj rfl rfl) ?_
        refine Ja rfl rfl rfl (J7 (v := .bool (decide (0 < (a0.Ratios.length : Int)))) rfl rfl) ?_
        refine Ja rfl rfl rfl (Jc (v := .bool (decide (0 < (a0.Ratios.length : Int)))) rfl) ?_
        refine Jg ?_
        refine Jp (decide (0 < (a0.Ratios.length : Int))) () 0 [0] (by exact ⟨rfl, rfl, trivial⟩) (by decide) (by kernel_rfl) (by exact ⟨H53, trivial⟩) (Nat.lt_succ_self _)
       ·have H54 := Jq hb H43; clear H43
        refine Ji rfl rfl rfl ?_
        refine Ji rfl rfl rfl ?_
        refine Ji rfl rfl rfl ?_
        refine Ji rfl rfl rfl ?_
        refine Ja rfl rfl rfl (Qk (v := .bool false) rfl rfl) ?_
        refine Ja rfl rfl rfl (Jc (v := .bool false) rfl) ?_
        refine Jg ?_
        refine Jp false () 0 [0] (by exact ⟨rfl, rfl, trivial⟩) (by decide) (by kernel_rfl) (by exact ⟨H54, trivial⟩) (Nat.lt_succ_self _)
      ·rintro x8_3 _ gg H44 _
       replace H44 : Y8 a0 x8_3 = some r := H44
       try dsimp only
       refine Qf (b := x8_3) rfl (fun hb => ?_) (fun hb => ?_)
       ·have H45 := Jr hb H44; clear H44
        refine Jt ?_
        refine Qf (b := x8_3) rfl (fun hb => ?_) (fun hb => ?_)
        ·have H46 := Jr hb H45; clear H45
         refine Jf ?_
         refine Jb ?_
         refine Ja rfl rfl rfl (Jc (v := .int .i64 1) rfl) ?_
         refine Jg ?_
         refine Ju ?_
         obtain rfl := Option.some.inj H46
         refine Qq (v := .int .i64 1) rfl rfl (Yn rfl)
        ·have H47 := Jq hb H45; clear H45
         refine Jt ?_
         refine Jf ?_
         refine Jb ?_
         refine Ja rfl rfl rfl (Jc (v := .int .i64 0) rfl) ?_
         refine Jg ?_
         refine Ju ?_
         obtain rfl := Option.some.inj H47
         refine Qq (v := .int .i64 0) rfl rfl (Yn rfl)
       ·have H48 := Jq hb H44; clear H44
        refine Jb ?_
        refine Ja rfl rfl rfl (Jk Try.runUnderlying29 rfl Try.sizeOf3 rfl rfl) ?_
        refine Jw (i := 0) (v := .int .i64 a0.Kind) Try.isAgg3 rfl rfl rfl rfl rfl ?_
        refine Ja rfl rfl rfl (Zr rfl rfl) ?_
        refine Ja rfl rfl rfl (Jd (v := .bool (decide (a0.Kind ≠ 13))) rfl) ?_
        refine split (fun hb => ?_) (fun hb => ?_)
        ·have H49 := Jr hb H48; clear H48
         refine Ja rfl rfl rfl (Jk Try.runUnderlying29 rfl Try.sizeOf27 rfl rfl) ?_
         refine Jw (i := 0) (v := v0_4) Try.isAgg27 rfl rfl rfl rfl rfl ?_
         refine Ja rfl rfl rfl (Zf Try.underlying27 rfl f0_4) ?_
         refine Ja rfl rfl rfl (Wj rfl rfl) ?_
         refine Ja rfl rfl rfl (J7 (v := .bool (decide (0 < (a0.Entries.length : Int)))) rfl rfl) ?_
         refine Ja rfl rfl rfl (Jc (v := .bool (decide (0 < (a0.Entries.length : Int)))) rfl) ?_
         refine Jg ?_
         refine Qf (b := (decide (0 < (a0.Entries.length : Int)))) rfl (fun hb => ?_) (fun hb => ?_)
         ·have H50 := Jr hb H49; clear H49
          refine Jf ?_
          refine Jb ?_
          refine Ja rfl rfl rfl (Jc (v := .int .i64 1) rfl) ?_
          refine Jg ?_
          refine Ju ?_
          obtain rfl := Option.some.inj H50
          refine Qq (v := .int .i64 1) rfl rfl (Yn rfl)
         ·have H51 := Jq hb H49; clear H49
          refine Jt ?_
          refine Jf ?_
          refine Jb ?_
          refine Ja rfl rfl rfl (Jc (v := .int .i64 0) rfl) ?_
          refine Jg ?_
          refine Ju ?_
          obtain rfl := Option.some.inj H51
          refine Qq (v := .int .i64 0) rfl rfl (Yn rfl)
        ·have H52 := Jq hb H48; clear H48
         refine Ji rfl rfl rfl ?_
         refine Ji rfl rfl rfl ?_
         refine Ji rfl rfl rfl ?_
         refine Ji rfl rfl rfl ?_
         refine Ja rfl rfl rfl (Qk (v := .bool false) rfl rfl) ?_
         refine Ja rfl rfl rfl (Jc (v := .bool false) rfl) ?_
         refine Jg ?_
         refine c_false rfl ?_
         refine Jt ?_
         refine Jf ?_
         refine Jb ?_
         refine Ja rfl rfl rfl (Jc (v := .int .i64 0) rfl) ?_
         refine Jg ?_
         refine Ju ?_
         obtain rfl := Option.some.inj H52
         refine Qq (v := .int .i64 0) rfl rfl (Yn rfl)
theorem k142 {a0 : Int} {r : Int × Int} (H : tag_bounds a0 = some r) : Ret Try.prog 142 [.int .i64 a0] (.tuple #[.int .i64 r.1, .int .i64 r.2]) := by
 refine Z5 (n := 11) Try.func142 rfl rfl rfl (fun wd => ?_)
 refine Jf ?_
 refine Jb ?_
 refine Ja rfl rfl rfl (Jc (v := .int .i64 0) rfl) ?_
 refine Ja rfl rfl rfl (Jc (v := .int .i64 0) rfl) ?_
 refine Jg ?_
 refine Jf ?_
 refine Jf ?_
 refine Jb ?_
 refine Ja rfl rfl rfl (Jd (v := .int .i64 a0) rfl) ?_
 refine Jg ?_
 refine J4 ?_
 refine Jf ?_
 refine Jb ?_
 refine Ja rfl rfl rfl (Xl rfl rfl) ?_
 refine Ja rfl rfl rfl (Jc (v := .bool (decide (a0 = 1))) rfl) ?_
 refine Jg ?_
 refine Qf (b := (decide (a0 = 1))) rfl (fun hb => ?_) (fun hb => ?_)
 ·have H7 := Jr hb H; clear H
  refine Jf ?_
  refine Jb ?_
  refine Ja rfl rfl rfl (Jc (v := .int .i64 0) rfl) ?_
  refine Ja rfl rfl rfl (Jc (v := .int .i64 255) rfl) ?_
  refine Jg ?_
  refine Ju ?_
  obtain rfl := Option.some.inj H7
  refine W8 (v1 := .int .i64 0) (v2 := .int .i64 255) rfl rfl rfl (Yn rfl)
 ·have H8 := Jq hb H; clear H
  refine Jf ?_
  refine Jb ?_
  refine Ja rfl rfl rfl (Xl rfl rfl) ?_
  refine Ja rfl rfl rfl (Jc (v := .bool (decide (a0 = 3))) rfl) ?_
  refine Jg ?_
  refine Qf (b := (decide (a0 = 3))) rfl (fun hb => ?_) (fun hb => ?_)
  ·have H9 := Jr hb H8; clear H8
   refine Jf ?_
   refine Jb ?_
   refine Ja rfl rfl rfl (Jc (v := .int .i64 0) rfl) ?_
   refine Ja rfl rfl rfl (Jc (v := .int .i64 65535) rfl) ?_
   refine Jg ?_
   refine Ju ?_
   obtain rfl := Option.some.inj H9
   refine W8 (v1 := .int .i64 0) (v2 := .int .i64 65535) rfl rfl rfl (Yn rfl)
  ·have H10 := Jq hb H8; clear H8
   refine Jf ?_
   refine Jb ?_
   refine Ja rfl rfl rfl (Xl rfl rfl) ?_
   refine Ja rfl rfl rfl (Jc (v := .bool (decide (a0 = 9))) rfl) ?_
   refine Jg ?_
   refine Qf (b := (decide (a0 = 9))) rfl (fun hb => ?_) (fun hb => ?_)
   ·have H11 := Jr hb H10; clear H10
    refine Jf ?_
    refine Jb ?_
    refine Ja rfl rfl rfl (Jc (v := .int .i64 (-2147483648)) rfl) ?_
    refine Ja rfl rfl rfl (Jc (v := .int .i64 2147483647) rfl) ?_
    refine Jg ?_
    refine Ju ?_
    obtain rfl := Option.some.inj H11
    refine W8 (v1 := .int .i64 (-2147483648)) (v2 := .int .i64 2147483647) rfl rfl rfl (Yn rfl)
   ·have H12 := Jq hb H10; clear H10
    refine Jt ?_
    refine Jf ?_
    refine Jb ?_
    refine Ja rfl rfl rfl (Jc (v := .int .i64 0) rfl) ?_
    refine Ja rfl rfl rfl (Jc (v := .int .i64 4294967295) rfl) ?_
    refine Jg ?_
    refine Ju ?_
    obtain rfl := Option.some.inj H12
    refine W8 (v1 := .int .i64 0) (v2 := .int .i64 4294967295) rfl rfl rfl (Yn rfl)
theorem k103 {a0 : T_tag_Value} {v0_2 : Value} {v0_3 : Value} {v0_4 : Value} {r : Int} {w : World} {h : J3} (hw : Know h w Wf) (f0_2 : FrS h 1 v0_2 (a0.Ints.map X1)) (f0_3 : FrS h 2 v0_3 (a0.Ratios.map Qd)) (f0_4 : FrN h 6 v0_4 g_tag_Entry a0.Entries) (H : Uk a0 = some r) : Does Try.prog 103 (List.toArray [.agg #[.int .i64 a0.Kind, str a0.Text, v0_2, v0_3, v0_4]]) w (fun v w' => v = (.int .i64 r) ∧ Grow w w') := by
 refine enter (n := 65) Try.func103 rfl rfl rfl Wf [] (Sat.nil _ _) ?_
 refine Jf ?_
 refine Jb ?_
 refine U6 (cs := [.int .i64 a0.Kind, str a0.Text, v0_2, v0_3, v0_4]) rfl rfl rfl rfl (fun b2 => ?_)
 refine Ja rfl rfl rfl (Jc (v := .int .i64 0) rfl) ?_
 refine Jg ?_
 refine Jf ?_
 refine Jf ?_
 refine Jb ?_
 refine Zd (i := 0) (vs := [.int .i64 a0.Kind, str a0.Text, v0_2, v0_3, v0_4]) Try.isAgg29 Try.sizeOf29 rfl rfl rfl rfl rfl ?_
 obtain ⟨t12, h_t12, H35⟩ := Jh H; clear H
 refine Q4 (fun w hF hS => k104 (Jy w) (f0_2.mono (hw.now hF)) (f0_3.mono (hw.now hF)) (f0_4.mono (hw.now hF)) h_t12) Try.call104 rfl rfl rfl ?_
 refine Ja rfl rfl rfl (Jc (v := .int .i64 t12) rfl) ?_
 refine Jg ?_
 refine Jf ?_
 refine Jb ?_
 refine Ja rfl rfl rfl (Jd (v := .int .i64 t12) rfl) ?_
 refine Ja rfl rfl rfl (Zr rfl rfl) ?_
 refine Jg ?_
 refine Qf (b := (decide (t12 ≠ 0))) rfl (fun hb => ?_) (fun hb => ?_)
 ·have H36 := Jr hb H35; clear H35
  refine Jf ?_
  refine Jb ?_
  refine Ja rfl rfl rfl (Jd (v := .int .i64 t12) rfl) ?_
  refine Ja rfl rfl rfl (Jc (v := .int .i64 t12) rfl) ?_
  refine Jg ?_
  refine Ju ?_
  obtain rfl := Option.some.inj H36
  refine Qq (v := .int .i64 t12) rfl rfl (Yn rfl)
 ·have H37 := Jq hb H35; clear H35
  refine Jt ?_
  refine Jf ?_
  refine Jb ?_
  refine Ja rfl rfl rfl (Jk Try.runUnderlying29 rfl Try.sizeOf3 rfl rfl) ?_
  refine Jw (i := 0) (v := .int .i64 a0.Kind) Try.isAgg3 rfl rfl rfl rfl rfl ?_
  obtain ⟨t19, h_t19, H38⟩ := Jh H37; clear H37
  refine Zu (k142 h_t19) Try.call142 rfl rfl rfl ?_
  refine Ja rfl rfl rfl (Jd (v := .tuple #[.int .i64 t19.1, .int .i64 t19.2]) rfl) ?_
  refine Ja rfl rfl rfl (Qh (v := .int .i64 t19.1) rfl rfl) ?_
  refine Ja rfl rfl rfl (Qh (v := .int .i64 t19.2) rfl rfl) ?_
  refine Ja rfl rfl rfl (Jc (v := .int .i64 t19.1) rfl) ?_
  refine Ja rfl rfl rfl (Jc (v := .int .i64 t19.2) rfl) ?_
  refine Jg ?_
  refine Xq (r := r) (σ := Unit) (τ := Unit) (fun s => Zk a0) (fun s t => [(1, .pointer (some ⟨b2, 0, none⟩))]) (fun s t => [Jl b2 [.int .i64 a0.Kind, str a0.Text, v0_2, v0_3, v0_4] 29]) (fun s t => True) ?_ ?_
  ·refine Jf ?_
   refine Jb ?_
   refine Ja rfl rfl rfl (Jk Try.runUnderlying29 rfl Try.sizeOf25 rfl rfl) ?_
   refine Jw (i := 0) (v := v0_2) Try.isAgg25 rfl rfl rfl rfl rfl ?_
   refine Ja rfl rfl rfl (r_lenF Try.underlying25 rfl f0_2 rfl) ?_
   refine Ja rfl rfl rfl (Jd (v := .int .i64 0) rfl) ?_
   refine Jg ?_
   refine J4 ?_
   refine V2 (σ := Int) (τ := Unit) (fun next5 s => Xc a0 t19 next5 s) (fun s t => [(1, .pointer (some ⟨b2, 0, none⟩)), (4, .int .i64 t19.1), (5, .int .i64 t19.2), (23, v0_2), (24, .int .i64 (a0.Ints.length : Int)), (25, .int .i64 s)]) (fun s t => [Jl b2 [.int .i64 a0.Kind, str a0.Text, v0_2, v0_3, v0_4] 29]) (fun s t => True) 0 () [0] H38 (by exact trivial) (by exact ⟨rfl, rfl, rfl, rfl, rfl, rfl, trivial⟩) (by decide) rfl ?_
   rintro x25_2 _ m5 gg H61 _
   clear H38
   replace H61 : Xc a0 t19 (it (fun next5 s => Xc a0 t19 next5 s) m5) x25_2 = some r := H61
   generalize hn5 : it (fun next5 s => Xc a0 t19 next5 s) m5 = next5 at H61
   try dsimp only
   refine Jf ?_
   refine Jb ?_
   refine Ja rfl rfl rfl (Z0 rfl rfl) ?_
   refine Jg ?_
   refine Jf ?_
   refine Qf (b := (decide (x25_2 < (a0.Ints.length : Int)))) rfl (fun hb => ?_) (fun hb => ?_)
   ·have H62 := Jr hb H61; clear H61
    refine Jt ?_
    refine Jf ?_
    refine J4 ?_
    refine Jf ?_
    refine Jb ?_
    obtain ⟨t27, h_t27, H63⟩ := Jh H62; clear H62
    refine Ja rfl rfl rfl (Y6 Try.underlying25 Try.sizeOf3 rfl rfl f0_2 h_t27) ?_
    refine Yw (fun w hF hS => Z6 (f := X1) (i := x25_2) (sz := 1) (j := 0) (v := .int .i64 t27) Try.isAgg3 rfl rfl (f0_2.row (hw.now hF)) h_t27 rfl) rfl rfl rfl ?_
    refine Ja rfl rfl rfl (Jc (v := .int .i64 t27) rfl) ?_
    refine Jg ?_
    refine Jf ?_
    refine Jb ?_
    refine Ja rfl rfl rfl (Jd (v := .int .i64 t27) rfl) ?_
    refine Ja rfl rfl rfl (Jd (v := .int .i64 t19.1) rfl) ?_
    refine Ja rfl rfl rfl (Jd (v := .int .i64 t19.2) rfl) ?_
    obtain ⟨t32, h_t32, H64⟩ := Jh H63; clear H63
    refine Zu (k97 h_t32) Try.call97 rfl rfl rfl ?_
    refine Jg ?_
    refine Qf (b := t32) rfl (fun hb => ?_) (fun hb => ?_)
    ·have H65 := Jr hb H64; clear H64
     refine Jf ?_
     refine Jb ?_
     refine Ja rfl rfl rfl (Jc (v := .int .i64 2) rfl) ?_
     refine Jg ?_
     refine Ju ?_
     obtain rfl := Option.some.inj H65
     refine Qq (v := .int .i64 2) rfl rfl (Yn rfl)
    ·have H66 := Jq hb H64; clear H64
     refine Jt ?_
     refine Jb ?_
     obtain ⟨t33, h_t33, H67⟩ := Jh H66; clear H66
     refine Ja rfl rfl rfl (Qm rfl rfl h_t33) ?_
     refine Ja rfl rfl rfl (Jd (v := .int .i64 t33) rfl) ?_
     refine Jg ?_
     refine Jp t33 () m5 [0] (by exact ⟨rfl, rfl, rfl, rfl, rfl, rfl, trivial⟩) (by decide) (by kernel_rfl) (by exact ⟨(by subst hn5; exact H67), trivial⟩) (Nat.lt_succ_self _)
   ·have H68 := Jq hb H61; clear H61
    refine Yk ?_
    refine Jp () () 0 [0] (by exact ⟨rfl, trivial⟩) (by decide) (by kernel_rfl) (by exact ⟨H68, trivial⟩) (Nat.lt_succ_self _)
  ·rintro _ _ gg H39 _
   replace H39 : Zk a0 = some r := H39
   try dsimp only
   refine Xq (r := r) (σ := Unit) (τ := Unit) (fun s => Zg a0) (fun s t => [(1, .pointer (some ⟨b2, 0, none⟩))]) (fun s t => [Jl b2 [.int .i64 a0.Kind, str a0.Text, v0_2, v0_3, v0_4] 29]) (fun s t => True) ?_ ?_
   ·refine Jf ?_
    refine Jb ?_
    refine Ja rfl rfl rfl (Jk Try.runUnderlying29 rfl Try.sizeOf26 rfl rfl) ?_
    refine Jw (i := 0) (v := v0_3) Try.isAgg26 rfl rfl rfl rfl rfl ?_
    refine Ja rfl rfl rfl (r_lenF Try.underlying26 rfl f0_3 rfl) ?_
    refine Ja rfl rfl rfl (Jd (v := .int .i64 0) rfl) ?_
    refine Jg ?_
    refine J4 ?_
    refine V2 (σ := Int) (τ := Unit) (fun next4 s => Xb a0 next4 s) (fun s t => [(1, .pointer (some ⟨b2, 0, none⟩)), (35, v0_3), (36, .int .i64 (a0.Ratios.length : Int)), (37, .int .i64 s)]) (fun s t => [Jl b2 [.int .i64 a0.Kind, str a0.Text, v0_2, v0_3, v0_4] 29]) (fun s t => True) 0 () [0] H39 (by exact trivial) (by exact ⟨rfl, rfl, rfl, rfl, trivial⟩) (by decide) rfl ?_
    rintro x37_2 _ m4 gg H50 _
    clear H39
    replace H50 : Xb a0 (it (fun next4 s => Xb a0 next4 s) m4) x37_2 = some r := H50
    generalize hn4 : it (fun next4 s => Xb a0 next4 s) m4 = next4 at H50
    try dsimp only
    refine Jf ?_
    refine Jb ?_
    refine Ja rfl rfl rfl (Z0 rfl rfl) ?_
    refine Jg ?_
    refine Jf ?_
    refine Qf (b := (decide (x37_2 < (a0.Ratios.length : Int)))) rfl (fun hb => ?_) (fun hb => ?_)
    ·have H51 := Jr hb H50; clear H50
     refine Jt ?_
     refine Jf ?_
     refine J4 ?_
     refine Jf ?_
     refine Jb ?_
     obtain ⟨t39, h_t39, H52⟩ := Jh H51; clear H51
     refine Ja rfl rfl rfl (Y6 Try.underlying26 Try.sizeOf103 rfl rfl f0_3 h_t39) ?_
     refine Yw (fun w hF hS => Zp (f := Qd) (i := x37_2) (sz := 2) (j := 0) (vs := [.int .i64 t39.Num, .int .i64 t39.Den]) Try.isAgg103 Try.sizeOf103 rfl rfl (f0_3.row (hw.now hF)) h_t39 rfl) rfl rfl rfl ?_
     refine Zc (cs := [.int .i64 0, .int .i64 0]) Try.zeroValue103 rfl rfl rfl (fun b3 => ?_)
     refine Qy (i := 1) (vs := [.int .i64 t39.Num, .int .i64 t39.Den]) (cs' := [.int .i64 t39.Num, .int .i64 t39.Den]) Try.sizeOf103 rfl rfl rfl rfl rfl rfl rfl rfl rfl ?_
     refine Jg ?_
     refine Jf ?_
     refine Jb ?_
     refine Ja rfl rfl rfl (Jk Try.runUnderlying103 rfl Try.sizeOf3 rfl rfl) ?_
     refine Jw (i := 1) (v := .int .i64 t39.Num) Try.isAgg3 rfl rfl rfl rfl rfl ?_
     obtain ⟨t43, h_t43, H53⟩ := Jh H52; clear H52
     refine Zu (k97 h_t43) Try.call97 rfl rfl rfl ?_
     refine Ja rfl rfl rfl (Jd (v := .bool t43) rfl) ?_
     refine split (fun hb => ?_) (fun hb => ?_)
     ·have H54 := Jr hb H53; clear H53
      refine Ji rfl rfl rfl ?_
      refine Ji rfl rfl rfl ?_
      refine Ji rfl rfl rfl ?_
      refine Ja rfl rfl rfl (J7 (v := .bool true) rfl rfl) ?_
      refine Jg ?_
      refine Wo rfl ?_
      refine Jf ?_
      refine Jb ?_
      refine Ja rfl rfl rfl (Jc (v := .int .i64 2) rfl) ?_
      refine Jg ?_
      refine Ju ?_
      obtain rfl := Option.some.inj H54
      refine Qq (v := .int .i64 2) rfl rfl (Yn rfl)
     ·have H55 := Jq hb H53; clear H53
      refine Ja rfl rfl rfl (Jk Try.runUnderlying103 rfl Try.sizeOf3 rfl rfl) ?_
      refine Jw (i := 1) (v := .int .i64 t39.Den) Try.isAgg3 rfl rfl rfl rfl rfl ?_
      obtain ⟨t47, h_t47, H56⟩ := Jh H55; clear H55
      refine Zu (k97 h_t47) Try.call97 rfl rfl rfl ?_
      refine Ja rfl rfl rfl (Qk (v := .bool t47) rfl rfl) ?_
      refine Jg ?_
      refine Qf (b := t47) rfl (fun hb => ?_) (fun hb => ?_)
      ·have H57 := Jr hb H56; clear H56
       refine Jf ?_
       refine Jb ?_
       refine Ja rfl rfl rfl (Jc (v := .int .i64 2) rfl) ?_
       refine Jg ?_
       refine Ju ?_
       obtain rfl := Option.some.inj H57
       refine Qq (v := .int .i64 2) rfl rfl (Yn rfl)
      ·have H58 := Jq hb H56; clear H56
       refine Jt ?_
       refine Jb ?_
       obtain ⟨t49, h_t49, H59⟩ := Jh H58; clear H58
       refine Ja rfl rfl rfl (Qm rfl rfl h_t49) ?_
       refine Ja rfl rfl rfl (Jd (v := .int .i64 t49) rfl) ?_
       refine Jg ?_
       refine Jp t49 () m4 [0] (by exact ⟨rfl, rfl, rfl, rfl, trivial⟩) (by decide) (by kernel_rfl) (by exact ⟨(by subst hn4; exact H59), trivial⟩) (Nat.lt_succ_self _)
    ·have H60 := Jq hb H50; clear H50
     refine Yk ?_
     refine Jp () () 0 [0] (by exact ⟨rfl, trivial⟩) (by decide) (by kernel_rfl) (by exact ⟨H60, trivial⟩) (Nat.lt_succ_self _)
   ·rintro _ _ gg H40 _
    replace H40 : Zg a0 = some r := H40
    try dsimp only
    refine Jf ?_
    refine Jf ?_
    refine Jb ?_
    refine Ja rfl rfl rfl (Jk Try.runUnderlying29 rfl Try.sizeOf3 rfl rfl) ?_
    refine Jw (i := 0) (v := .int .i64 a0.Kind) Try.isAgg3 rfl rfl rfl rfl rfl ?_
    refine Ja rfl rfl rfl (Xl rfl rfl) ?_
    refine Jg ?_
    refine Qf (b := (decide (a0.Kind = 2))) rfl (fun hb => ?_) (fun hb => ?_)
    ·have H41 := Jr hb H40; clear H40
     refine Jf ?_
     refine Jb ?_
     refine Ja rfl rfl rfl (Jk Try.runUnderlying29 rfl Try.sizeOf9 rfl rfl) ?_
     refine Jw (i := 0) (v := str a0.Text) Try.isAgg9 rfl rfl rfl rfl rfl ?_
     refine Ja rfl rfl rfl (Vj Try.underlying9 rfl) ?_
     refine Ja rfl rfl rfl (Jd (v := .int .i64 0) rfl) ?_
     refine Jg ?_
     refine J4 ?_
     refine V2 (σ := Int) (τ := Unit) (fun next3 s => Xp a0 next3 s) (fun s t => [(1, .pointer (some ⟨b2, 0, none⟩)), (55, .int .i64 (a0.Text.length : Int)), (56, .int .i64 s)]) (fun s t => [Jl b2 [.int .i64 a0.Kind, str a0.Text, v0_2, v0_3, v0_4] 29]) (fun s t => True) 0 () [0] H41 (by exact trivial) (by exact ⟨rfl, rfl, rfl, trivial⟩) (by decide) rfl ?_
     rintro x56_2 _ m3 gg H42 _
     clear H41
     replace H42 : Xp a0 (it (fun next3 s => Xp a0 next3 s) m3) x56_2 = some r := H42
     generalize hn3 : it (fun next3 s => Xp a0 next3 s) m3 = next3 at H42
     try dsimp only
     refine Jf ?_
     refine Jb ?_
     refine Ja rfl rfl rfl (Z0 rfl rfl) ?_
     refine Jg ?_
     refine Jf ?_
     refine Qf (b := (decide (x56_2 < (a0.Text.length : Int)))) rfl (fun hb => ?_) (fun hb => ?_)
     ·have H43 := Jr hb H42; clear H42
      refine Jt ?_
      refine Jf ?_
      refine J4 ?_
      refine Jf ?_
      refine Jb ?_
      refine Ja rfl rfl rfl (Jd (v := .int .i64 x56_2) rfl) ?_
      refine Ja rfl rfl rfl (Jc (v := .int .i64 x56_2) rfl) ?_
      refine Jg ?_
      refine Jf ?_
      refine Jb ?_
      refine Ja rfl rfl rfl (Jk Try.runUnderlying29 rfl Try.sizeOf9 rfl rfl) ?_
      refine Jw (i := 0) (v := str a0.Text) Try.isAgg9 rfl rfl rfl rfl rfl ?_
      refine Ja rfl rfl rfl (Jd (v := .int .i64 x56_2) rfl) ?_
      obtain ⟨t62, h_t62, H44⟩ := Jh H43; clear H43
      refine Ja rfl rfl rfl (r_octG Try.underlying9 rfl rfl h_t62) ?_
      refine Ja rfl rfl rfl (Xl rfl rfl) ?_
      refine Jg ?_
      refine Qf (b := (decide (t62 = 0))) rfl (fun hb => ?_) (fun hb => ?_)
      ·have H45 := Jr hb H44; clear H44
       refine Jf ?_
       refine Jb ?_
       refine Ja rfl rfl rfl (Jc (v := .int .i64 9) rfl) ?_
       refine Jg ?_
       refine Ju ?_
       obtain rfl := Option.some.inj H45
       refine Qq (v := .int .i64 9) rfl rfl (Yn rfl)
      ·have H46 := Jq hb H44; clear H44
       refine Jt ?_
       refine Jb ?_
       obtain ⟨t64, h_t64, H47⟩ := Jh H46; clear H46
       refine Ja rfl rfl rfl (Qm rfl rfl h_t64) ?_
       refine Ja rfl rfl rfl (Jd (v := .int .i64 t64) rfl) ?_
       refine Jg ?_
       refine Jp t64 () m3 [0] (by exact ⟨rfl, rfl, rfl, trivial⟩) (by decide) (by kernel_rfl) (by exact ⟨(by subst hn3; exact H47), trivial⟩) (Nat.lt_succ_self _)
     ·have H48 := Jq hb H42; clear H42
      refine Yk ?_
      refine Jf ?_
      refine Jb ?_
      refine Ja rfl rfl rfl (Jc (v := .int .i64 0) rfl) ?_
      refine Jg ?_
      refine Ju ?_
      obtain rfl := Option.some.inj H48
      refine Qq (v := .int .i64 0) rfl rfl (Yn rfl)
    ·have H49 := Jq hb H40; clear H40
     refine Jt ?_
     refine Jf ?_
     refine Jb ?_
     refine Ja rfl rfl rfl (Jc (v := .int .i64 0) rfl) ?_
     refine Jg ?_
     refine Ju ?_
     obtain rfl := Option.some.inj H49
     refine Qq (v := .int .i64 0) rfl rfl (Yn rfl)
theorem k95_it (mm : Nat) : ∀ {a0 : (List T_tag_Entry)} {v0 : Value} {a1 : Int} {r : Int} {w : World} {h : J3} (hw : Know h w Wf) (f0 : FrN h 6 v0 g_tag_Entry a0) (H : it (fun (self : ((List T_tag_Entry) × Int) → Option (Int)) (s : (List T_tag_Entry) × Int) => X4 self s.1 s.2) mm (a0, a1) = some r), Does Try.prog 95 (List.toArray [v0, .int .i64 a1]) w (fun v w' => v = (.int .i64 r) ∧ Grow w w') := by
 induction mm with
 | zero => intros; rename_i H; exact absurd H (by simp [it])
 | succ mm ih =>
  intro a0 v0 a1 r w h hw f0 H
  replace H : X4 (it (fun (self : ((List T_tag_Entry) × Int) → Option (Int)) (s : (List T_tag_Entry) × Int) => X4 self s.1 s.2) mm) a0 a1 = some r := H
  generalize it (fun (self : ((List T_tag_Entry) × Int) → Option (Int)) (s : (List T_tag_Entry) × Int) => X4 self s.1 s.2) mm = self at H ih
  refine enter (n := 62) Try.func95 rfl rfl rfl Wf [] (Sat.nil _ _) ?_
  refine Jf ?_
  refine Jb ?_
  refine Ja rfl rfl rfl (Jc (v := .int .i64 0) rfl) ?_
  refine Jg ?_
  refine Jf ?_
  refine Jf ?_
  refine Jb ?_
  refine Ja rfl rfl rfl (Jd (v := .int .i64 a1) rfl) ?_
  refine Ja rfl rfl rfl (Wj rfl rfl) ?_
  refine Ja rfl rfl rfl (Jd (v := .bool (decide (5 < a1))) rfl) ?_
  refine split (fun hb => ?_) (fun hb => ?_)
  ·have H31 := Jr hb H; clear H
   refine Ji rfl rfl rfl ?_
   refine Ji rfl rfl rfl ?_
   refine Ji rfl rfl rfl ?_
   refine Ja rfl rfl rfl (J7 (v := .bool true) rfl rfl) ?_
   refine Jg ?_
   refine Wo rfl ?_
   refine Jf ?_
   refine Jb ?_
   refine Ja rfl rfl rfl (Jc (v := .int .i64 4) rfl) ?_
   refine Jg ?_
   refine Ju ?_
   obtain rfl := Option.some.inj H31
   refine Qq (v := .int .i64 4) rfl rfl (Yn rfl)
  ·have H32 := Jq hb H; clear H
   refine Ja rfl rfl rfl (Jd (v := v0) rfl) ?_
   refine Ja rfl rfl rfl (Zf Try.underlying27 rfl f0) ?_
   refine Ja rfl rfl rfl (Wj rfl rfl) ?_
   refine Ja rfl rfl rfl (Qk (v := .bool (decide (200 < (a0.length : Int)))) rfl rfl) ?_
   refine Jg ?_
   refine Qf (b := (decide (200 < (a0.length : Int)))) rfl (fun hb => ?_) (fun hb => ?_)
   ·have H33 := Jr hb H32; clear H32
    refine Jf ?_
    refine Jb ?_
    refine Ja rfl rfl rfl (Jc (v := .int .i64 4) rfl) ?_
    refine Jg ?_
    refine Ju ?_
    obtain rfl := Option.some.inj H33
    refine Qq (v := .int .i64 4) rfl rfl (Yn rfl)
   ·have H34 := Jq hb H32; clear H32
    refine Jt ?_
    refine Jf ?_
    refine Jf ?_
    refine Jb ?_
    refine Ja rfl rfl rfl (Jd (v := v0) rfl) ?_
    refine Ja rfl rfl rfl (Zf Try.underlying27 rfl f0) ?_
    refine Ja rfl rfl rfl (Jd (v := .int .i64 0) rfl) ?_
    refine Jg ?_
    refine J4 ?_
    refine V2 (σ := Int) (τ := Unit) (fun next1 s => Zl a0 a1 self next1 s) (fun s t => [(0, v0), (1, .int .i64 a1), (15, v0), (16, .int .i64 (a0.length : Int)), (17, .int .i64 s)]) (fun s t => []) (fun s t => True) 0 () [] H34 (by exact trivial) (by exact ⟨rfl, rfl, rfl, rfl, rfl, trivial⟩) (by decide) rfl ?_
    rintro x17_2 _ m1 gg H35 _
    clear H34
    replace H35 : Zl a0 a1 self (it (fun next1 s => Zl a0 a1 self next1 s) m1) x17_2 = some r := H35
    generalize hn1 : it (fun next1 s => Zl a0 a1 self next1 s) m1 = next1 at H35
    try dsimp only
    refine Jf ?_
    refine Jb ?_
    refine Ja rfl rfl rfl (Z0 rfl rfl) ?_
    refine Jg ?_
    refine Jf ?_
    refine Qf (b := (decide (x17_2 < (a0.length : Int)))) rfl (fun hb => ?_) (fun hb => ?_)
    ·have H36 := Jr hb H35; clear H35
     refine Jt ?_
     refine Jf ?_
     refine J4 ?_
     refine Jf ?_
     refine Jb ?_
     refine Ja rfl rfl rfl (Jd (v := .int .i64 x17_2) rfl) ?_
     obtain ⟨t20, h_t20, H37⟩ := Jh H36; clear H36
     refine Ja rfl rfl rfl (Y6 Try.underlying27 Try.sizeOf96 rfl rfl f0.frs (f0.ix h_t20)) ?_
     refine Yw (fun w hF hS => Zp (f := (elC h v0 6)) (i := x17_2) (sz := 6) (j := 0) (vs := [.int .i64 t20.Tag, .int .i64 t20.Value.Kind, str t20.Value.Text, (Yq h v0 6 (Int.toNat x17_2) 3), (Yq h v0 6 (Int.toNat x17_2) 4), (Yq h v0 6 (Int.toNat x17_2) 5)]) Try.isAgg96 Try.sizeOf96 rfl rfl (f0.frs.row (hw.now hF)) (f0.ix h_t20) (rd_of (Ws (f0.at h_t20)) rfl)) rfl rfl rfl ?_
     refine Zc (cs := [.int .i64 0, .int .i64 0, str [], .slice none 0 0, .slice none 0 0, .slice none 0 0]) Try.zeroValue96 rfl rfl rfl (fun b1 => ?_)
     refine Ja rfl rfl rfl (Jc (v := .int .i64 x17_2) rfl) ?_
     refine Qy (i := 0) (vs := [.int .i64 t20.Tag, .int .i64 t20.Value.Kind, str t20.Value.Text, (Yq h v0 6 (Int.toNat x17_2) 3), (Yq h v0 6 (Int.toNat x17_2) 4), (Yq h v0 6 (Int.toNat x17_2) 5)]) (cs' := [.int .i64 t20.Tag, .int .i64 t20.Value.Kind, str t20.Value.Text, (Yq h v0 6 (Int.toNat x17_2) 3), (Yq h v0 6 (Int.toNat x17_2) 4), (Yq h v0 6 (Int.toNat x17_2) 5)]) Try.sizeOf96 rfl rfl rfl rfl rfl rfl (by simp only [List.all_cons, List.all_nil, (show FrN h 6 (Yq h v0 6 (Int.toNat x17_2) 5) g_tag_Entry t20.Value.Entries from (Xj (Jx (f0.at h_t20)))).one, (show FrS h 1 (Yq h v0 6 (Int.toNat x17_2) 3) (t20.Value.Ints.map X1) from (X9 (Jx (f0.at h_t20)))).one, (show FrS h 2 (Yq h v0 6 (Int.toNat x17_2) 4) (t20.Value.Ratios.map Qd) from (Yd (Jx (f0.at h_t20)))).one] <;> rfl) rfl rfl ?_
     refine Jg ?_
     refine Xq (r := r) (σ := Unit) (τ := Unit) (fun s => V9 a1 self x17_2 next1 t20) (fun s t => [(0, v0), (1, .int .i64 a1), (6, .pointer (some ⟨b1, 0, none⟩)), (15, v0), (16, .int .i64 (a0.length : Int)), (17, .int .i64 x17_2)]) (fun s t => [Jl b1 [.int .i64 t20.Tag, .int .i64 t20.Value.Kind, str t20.Value.Text, (Yq h v0 6 (Int.toNat x17_2) 3), (Yq h v0 6 (Int.toNat x17_2) 4), (Yq h v0 6 (Int.toNat x17_2) 5)] 96]) (fun s t => True) ?_ ?_
     ·refine J4 ?_
      refine Jf ?_
      refine Jb ?_
      refine Ja rfl rfl rfl (Jk Try.runUnderlying96 rfl Try.sizeOf3 rfl rfl) ?_
      refine Jw (i := 0) (v := .int .i64 t20.Tag) Try.isAgg3 rfl rfl rfl rfl rfl ?_
      obtain ⟨t25, h_t25, H51⟩ := Jh H37; clear H37
      refine Zu (k97 h_t25) Try.call97 rfl rfl rfl ?_
      refine Ja rfl rfl rfl (Jc (v := .bool t25) rfl) ?_
      refine Jg ?_
      refine Qf (b := t25) rfl (fun hb => ?_) (fun hb => ?_)
      ·have H52 := Jr hb H51; clear H51
       refine Jf ?_
       refine Jb ?_
       refine Ja rfl rfl rfl (Jc (v := .int .i64 2) rfl) ?_
       refine Jg ?_
       refine Ju ?_
       obtain rfl := Option.some.inj H52
       refine Qq (v := .int .i64 2) rfl rfl (Yn rfl)
      ·have H53 := Jq hb H51; clear H51
       refine Jf ?_
       exact Xf (Kd.p :: Kd.p :: Kd.p :: Kd.p :: Kd.d [0] _ :: Kd.p :: Kd.p :: Kd.p :: Kd.p :: Kd.p :: Kd.d [] _ :: Kd.p :: Kd.p :: Kd.p :: []) 0 mixed (by
        refine Jn rfl rfl (Jd (v := .int .i64 x17_2) rfl) ?_
        refine Jn rfl rfl (Wj rfl rfl) ?_
        refine Jn rfl rfl (Jd (v := .bool (decide (0 < x17_2))) rfl) ?_
        refine splitS (fun hb => ?_) (fun hb => ?_)
        ·have H54 := Jr hb H53
         refine Jn rfl rfl (Jk Try.runUnderlying96 rfl Try.sizeOf3 rfl rfl) ?_
         refine Yh (i := 0) (v := .int .i64 t20.Tag) Try.isAgg3 rfl rfl rfl rfl ?_
         refine Jn rfl rfl (Jd (v := v0) rfl) ?_
         refine Jn rfl rfl (Jd (v := .int .i64 x17_2) rfl) ?_
         have h_t34 := Qi H54
         have H55 := J6 H54
         refine Jn rfl rfl (Uq rfl rfl h_t34) ?_
         have h_t35 := Qi H55
         have H56 := J6 H55
         refine Jn rfl rfl (Y6 Try.underlying27 Try.sizeOf96 rfl rfl f0.frs (f0.ix h_t35)) ?_
         refine Jn rfl rfl (r_fieldP Try.runUnderlying96 rfl Try.sizeOf3 rfl rfl (some_of_at f0.frs (f0.ix h_t35))) ?_
         refine d_read (fun w hF => Z6 (f := (elC h v0 6)) (i := (val (gI (x17_2 - 1)))) (sz := 6) (j := 0) (v := .int .i64 (val (Zh a0 (val (gI (x17_2 - 1))))).Tag) Try.isAgg3 rfl rfl (f0.frs.row (hw.now hF)) (f0.ix h_t35) (rg_of (Ws (f0.at h_t35)) rfl)) rfl rfl ?_
         refine Jn rfl rfl (r_leq rfl rfl) ?_
         refine Jn rfl rfl (J7 (v := .bool (decide (t20.Tag ≤ (val (Zh a0 (val (gI (x17_2 - 1))))).Tag))) rfl rfl) ?_
         refine Jn rfl rfl (Jc (v := .bool (decide (t20.Tag ≤ (val (Zh a0 (val (gI (x17_2 - 1))))).Tag))) rfl) ?_
         refine V1 ?_
         refine Qf (b := (decide (t20.Tag ≤ (val (Zh a0 (val (gI (x17_2 - 1))))).Tag))) rfl (fun hb => ?_) (fun hb => ?_)
         ·have H57 := Jr hb H56; clear H56
          refine Jf ?_
          refine Jb ?_
          refine Ja rfl rfl rfl (Jc (v := .int .i64 5) rfl) ?_
          refine Jg ?_
          refine Ju ?_
          obtain rfl := Option.some.inj H57
          refine Qq (v := .int .i64 5) rfl rfl (Yn rfl)
         ·have H58 := Jq hb H56; clear H56
          refine Jt ?_
          refine Jp () () 0 [0] (by exact ⟨rfl, rfl, rfl, rfl, rfl, rfl, trivial⟩) (by decide) (by kernel_rfl) (by exact ⟨H58, trivial⟩) (Nat.lt_succ_self _)
        ·have H59 := Jq hb H53
         refine Ym rfl rfl ?_
         refine Ym rfl rfl ?_
         refine Ym rfl rfl ?_
         refine Ym rfl rfl ?_
         refine Ym rfl rfl ?_
         refine Ym rfl rfl ?_
         refine Ym rfl rfl ?_
         refine Ym rfl rfl ?_
         refine Ym rfl rfl ?_
         refine Jn rfl rfl (Qk (v := .bool false) rfl rfl) ?_
         refine Jn rfl rfl (Jc (v := .bool false) rfl) ?_
         refine V1 ?_
         refine c_false rfl ?_
         refine Jt ?_
         refine Jp () () 0 [0] (by exact ⟨rfl, rfl, rfl, rfl, rfl, rfl, trivial⟩) (by decide) (by kernel_rfl) (by exact ⟨H59, trivial⟩) (Nat.lt_succ_self _)
        ) (by kernel_rfl)
     ·rintro _ _ gg H38 _
      replace H38 : V9 a1 self x17_2 next1 t20 = some r := H38
      try dsimp only
      refine Jf ?_
      refine Jb ?_
      refine Ja rfl rfl rfl (Jc (v := .int .i64 0) rfl) ?_
      refine Jg ?_
      refine Xq (r := r) (σ := Int) (τ := Unit) (fun s => Zm x17_2 next1 s) (fun s t => [(0, v0), (1, .int .i64 a1), (7, .int .i64 s), (15, v0), (16, .int .i64 (a0.length : Int)), (17, .int .i64 x17_2)]) (fun s t => []) (fun s t => True) ?_ ?_
      ·refine Jf ?_
       refine Jb ?_
       refine Ja rfl rfl rfl (Jk Try.runUnderlying96 rfl Try.sizeOf29 rfl rfl) ?_
       refine Ja rfl rfl rfl (Jk Try.runUnderlying29 rfl Try.sizeOf3 rfl rfl) ?_
       refine Jw (i := 0) (v := .int .i64 t20.Value.Kind) Try.isAgg3 rfl rfl rfl rfl rfl ?_
       refine Ja rfl rfl rfl (Zr rfl rfl) ?_
       refine Jg ?_
       refine Qf (b := (decide (t20.Value.Kind ≠ 13))) rfl (fun hb => ?_) (fun hb => ?_)
       ·have H43 := Jr hb H38; clear H38
        refine Jb ?_
        refine Ja rfl rfl rfl (Jk Try.runUnderlying96 rfl Try.sizeOf29 rfl rfl) ?_
        refine Zd (i := 0) (vs := [.int .i64 t20.Value.Kind, str t20.Value.Text, (Yq h v0 6 (Int.toNat x17_2) 3), (Yq h v0 6 (Int.toNat x17_2) 4), (Yq h v0 6 (Int.toNat x17_2) 5)]) Try.isAgg29 Try.sizeOf29 rfl rfl rfl rfl rfl ?_
        obtain ⟨t46, h_t46, H44⟩ := Jh H43; clear H43
        refine Q4 (fun w hF hS => k103 (Jy w) ((show FrS h 1 (Yq h v0 6 (Int.toNat x17_2) 3) (t20.Value.Ints.map X1) from (X9 (Jx (f0.at h_t20)))).mono (hw.now hF)) ((show FrS h 2 (Yq h v0 6 (Int.toNat x17_2) 4) (t20.Value.Ratios.map Qd) from (Yd (Jx (f0.at h_t20)))).mono (hw.now hF)) ((show FrN h 6 (Yq h v0 6 (Int.toNat x17_2) 5) g_tag_Entry t20.Value.Entries from (Xj (Jx (f0.at h_t20)))).mono (hw.now hF)) h_t46) Try.call103 rfl rfl rfl ?_
        refine Ja rfl rfl rfl (Jc (v := .int .i64 t46) rfl) ?_
        refine Jg ?_
        refine Jp t46 () 0 [] (by exact ⟨rfl, rfl, rfl, rfl, rfl, rfl, trivial⟩) (by decide) (by kernel_rfl) (by exact ⟨H44, trivial⟩) (Nat.lt_succ_self _)
       ·have H45 := Jq hb H38; clear H38
        refine Jf ?_
        refine Jb ?_
        refine Ja rfl rfl rfl (Jk Try.runUnderlying96 rfl Try.sizeOf29 rfl rfl) ?_
        refine Zd (i := 0) (vs := [.int .i64 t20.Value.Kind, str t20.Value.Text, (Yq h v0 6 (Int.toNat x17_2) 3), (Yq h v0 6 (Int.toNat x17_2) 4), (Yq h v0 6 (Int.toNat x17_2) 5)]) Try.isAgg29 Try.sizeOf29 rfl rfl rfl rfl rfl ?_
        obtain ⟨t49, h_t49, H46⟩ := Jh H45; clear H45
        refine Q4 (fun w hF hS => k104 (Jy w) ((show FrS h 1 (Yq h v0 6 (Int.toNat x17_2) 3) (t20.Value.Ints.map X1) from (X9 (Jx (f0.at h_t20)))).mono (hw.now hF)) ((show FrS h 2 (Yq h v0 6 (Int.toNat x17_2) 4) (t20.Value.Ratios.map Qd) from (Yd (Jx (f0.at h_t20)))).mono (hw.now hF)) ((show FrN h 6 (Yq h v0 6 (Int.toNat x17_2) 5) g_tag_Entry t20.Value.Entries from (Xj (Jx (f0.at h_t20)))).mono (hw.now hF)) h_t49) Try.call104 rfl rfl rfl ?_
        refine Ja rfl rfl rfl (Jc (v := .int .i64 t49) rfl) ?_
        refine Jg ?_
        refine Jf ?_
        refine Jb ?_
        refine Ja rfl rfl rfl (Jd (v := .int .i64 t49) rfl) ?_
        refine Ja rfl rfl rfl (Xl rfl rfl) ?_
        refine Jg ?_
        refine Qf (b := (decide (t49 = 0))) rfl (fun hb => ?_) (fun hb => ?_)
        ·have H47 := Jr hb H46; clear H46
         refine Jb ?_
         refine Ja rfl rfl rfl (Jk Try.runUnderlying96 rfl Try.sizeOf29 rfl rfl) ?_
         refine Ja rfl rfl rfl (Jk Try.runUnderlying29 rfl Try.sizeOf27 rfl rfl) ?_
         refine Jw (i := 0) (v := (Yq h v0 6 (Int.toNat x17_2) 5)) Try.isAgg27 rfl rfl rfl rfl rfl ?_
         refine Ja rfl rfl rfl (Jd (v := .int .i64 a1) rfl) ?_
         obtain ⟨t56, h_t56, H48⟩ := Jh H47; clear H47
         refine Ja rfl rfl rfl (Qm rfl rfl h_t56) ?_
         obtain ⟨t57, h_t57, H49⟩ := Jh H48; clear H48
         refine Q4 (fun w hF hS => ih (Jy w) ((show FrN h 6 (Yq h v0 6 (Int.toNat x17_2) 5) g_tag_Entry t20.Value.Entries from (Xj (Jx (f0.at h_t20)))).mono (hw.now hF)) h_t57) Try.call95 rfl rfl rfl ?_
         refine Ja rfl rfl rfl (Jc (v := .int .i64 t57) rfl) ?_
         refine Jg ?_
         refine Jp t57 () 0 [] (by exact ⟨rfl, rfl, rfl, rfl, rfl, rfl, trivial⟩) (by decide) (by kernel_rfl) (by exact ⟨H49, trivial⟩) (Nat.lt_succ_self _)
        ·have H50 := Jq hb H46; clear H46
         refine Jt ?_
         refine Jp t49 () 0 [] (by exact ⟨rfl, rfl, rfl, rfl, rfl, rfl, trivial⟩) (by decide) (by kernel_rfl) (by exact ⟨H50, trivial⟩) (Nat.lt_succ_self _)
      ·rintro x7 _ gg H39 _
       replace H39 : Zm x17_2 next1 x7 = some r := H39
       try dsimp only
       refine Jf ?_
       refine Jb ?_
       refine Ja rfl rfl rfl (Jd (v := .int .i64 x7) rfl) ?_
       refine Ja rfl rfl rfl (Zr rfl rfl) ?_
       refine Jg ?_
       refine Qf (b := (decide (x7 ≠ 0))) rfl (fun hb => ?_) (fun hb => ?_)
       ·have H40 := Jr hb H39; clear H39
        refine Jf ?_
        refine Jb ?_
        refine Ja rfl rfl rfl (Jd (v := .int .i64 x7) rfl) ?_
        refine Ja rfl rfl rfl (Jc (v := .int .i64 x7) rfl) ?_
        refine Jg ?_
        refine Ju ?_
        obtain rfl := Option.some.inj H40
        refine Qq (v := .int .i64 x7) rfl rfl (Yn rfl)
       ·have H41 := Jq hb H39; clear H39
        refine Jt ?_
        refine Jb ?_
        obtain ⟨t61, h_t61, H42⟩ := Jh H41; clear H41
        refine Ja rfl rfl rfl (Qm rfl rfl h_t61) ?_
        refine Ja rfl rfl rfl (Jd (v := .int .i64 t61) rfl) ?_
        refine Jg ?_
        refine Jp t61 () m1 [] (by exact ⟨rfl, rfl, rfl, rfl, rfl, trivial⟩) (by decide) (by kernel_rfl) (by exact ⟨(by subst hn1; exact H42), trivial⟩) (Nat.lt_succ_self _)
    ·have H60 := Jq hb H35; clear H35
     refine Yk ?_
     refine Jf ?_
     refine Jb ?_
     refine Ja rfl rfl rfl (Jc (v := .int .i64 0) rfl) ?_
     refine Jg ?_
     refine Ju ?_
     obtain rfl := Option.some.inj H60
     refine Qq (v := .int .i64 0) rfl rfl (Yn rfl)
theorem k95 {a0 : (List T_tag_Entry)} {v0 : Value} {a1 : Int} {r : Int} {w : World} {h : J3} (hw : Know h w Wf) (f0 : FrN h 6 v0 g_tag_Entry a0) (H : tag_checkDir a0 a1 = some r) : Does Try.prog 95 (List.toArray [v0, .int .i64 a1]) w (fun v w' => v = (.int .i64 r) ∧ Grow w w') := by
 obtain ⟨mm, hm⟩ := fix_it (show Wk (fun (self : ((List T_tag_Entry) × Int) → Option (Int)) (s : (List T_tag_Entry) × Int) => X4 self s.1 s.2) (a0, a1) = some r from H)
 exact k95_it mm hw f0 hm
theorem k87 {a0 : T_tag_Value} {v0_2 : Value} {v0_3 : Value} {v0_4 : Value} {r : Int} {w : World} {h : J3} (hw : Know h w Wf) (f0_2 : FrS h 1 v0_2 (a0.Ints.map X1)) (f0_3 : FrS h 2 v0_3 (a0.Ratios.map Qd)) (f0_4 : FrN h 6 v0_4 g_tag_Entry a0.Entries) (H : Xx a0 = some r) : Does Try.prog 87 (List.toArray [.agg #[.int .i64 a0.Kind, str a0.Text, v0_2, v0_3, v0_4]]) w (fun v w' => v = (.int .i64 r) ∧ Grow w w') := by
 refine enter (n := 26) Try.func87 rfl rfl rfl Wf [] (Sat.nil _ _) ?_
 refine Jf ?_
 refine Jb ?_
 refine U6 (cs := [.int .i64 a0.Kind, str a0.Text, v0_2, v0_3, v0_4]) rfl rfl rfl rfl (fun b1 => ?_)
 refine Ja rfl rfl rfl (Jc (v := .int .i64 0) rfl) ?_
 refine Jg ?_
 refine Jf ?_
 refine Jf ?_
 refine Jb ?_
 refine Ja rfl rfl rfl (Jk Try.runUnderlying29 rfl Try.sizeOf3 rfl rfl) ?_
 refine Jw (i := 0) (v := .int .i64 a0.Kind) Try.isAgg3 rfl rfl rfl rfl rfl ?_
 refine Jg ?_
 refine J4 ?_
 refine Jf ?_
 refine Jb ?_
 refine Ja rfl rfl rfl (Xl rfl rfl) ?_
 refine Ja rfl rfl rfl (Jc (v := .bool (decide (a0.Kind = 2))) rfl) ?_
 refine Jg ?_
 refine Qf (b := (decide (a0.Kind = 2))) rfl (fun hb => ?_) (fun hb => ?_)
 ·have H10 := Jr hb H; clear H
  refine Jf ?_
  refine Jb ?_
  refine Ja rfl rfl rfl (Jk Try.runUnderlying29 rfl Try.sizeOf9 rfl rfl) ?_
  refine Jw (i := 0) (v := str a0.Text) Try.isAgg9 rfl rfl rfl rfl rfl ?_
  refine Ja rfl rfl rfl (Vj Try.underlying9 rfl) ?_
  obtain ⟨t10, h_t10, H11⟩ := Jh H10; clear H10
  refine Ja rfl rfl rfl (Qm rfl rfl h_t10) ?_
  refine Ja rfl rfl rfl (Jc (v := .int .i64 t10) rfl) ?_
  refine Jg ?_
  refine Ju ?_
  obtain rfl := Option.some.inj H11
  refine Qq (v := .int .i64 t10) rfl rfl (Yn rfl)
 ·have H12 := Jq hb H; clear H
  refine Jf ?_
  refine Jb ?_
  refine Ja rfl rfl rfl (Xl rfl rfl) ?_
  refine Ja rfl rfl rfl (Jc (v := .bool (decide (a0.Kind = 7))) rfl) ?_
  refine Jg ?_
  refine Qf (b := (decide (a0.Kind = 7))) rfl (fun hb => ?_) (fun hb => ?_)
  ·have H13 := Jr hb H12; clear H12
   refine Jf ?_
   refine Jb ?_
   refine Ja rfl rfl rfl (Jk Try.runUnderlying29 rfl Try.sizeOf9 rfl rfl) ?_
   refine Jw (i := 0) (v := str a0.Text) Try.isAgg9 rfl rfl rfl rfl rfl ?_
   refine Ja rfl rfl rfl (Vj Try.underlying9 rfl) ?_
   refine Ja rfl rfl rfl (Jc (v := .int .i64 (a0.Text.length : Int)) rfl) ?_
   refine Jg ?_
   refine Ju ?_
   obtain rfl := Option.some.inj H13
   refine Qq (v := .int .i64 (a0.Text.length : Int)) rfl rfl (Yn rfl)
  ·have H14 := Jq hb H12; clear H12
   refine Jf ?_
   refine Jb ?_
   refine Ja rfl rfl rfl (Xl rfl rfl) ?_
   refine Ja rfl rfl rfl (Jc (v := .bool (decide (a0.Kind = 5))) rfl) ?_
   refine Jg ?_
   refine Qf (b := (decide (a0.Kind = 5))) rfl (fun hb => ?_) (fun hb => ?_)
   ·have H15 := Jr hb H14; clear H14
    refine Jf ?_
    refine Jb ?_
    refine Ja rfl rfl rfl (Jk Try.runUnderlying29 rfl Try.sizeOf26 rfl rfl) ?_
    refine Jw (i := 0) (v := v0_3) Try.isAgg26 rfl rfl rfl rfl rfl ?_
    refine Ja rfl rfl rfl (r_lenF Try.underlying26 rfl f0_3 rfl) ?_
    refine Ja rfl rfl rfl (Jc (v := .int .i64 (a0.Ratios.length : Int)) rfl) ?_
    refine Jg ?_
    refine Ju ?_
    obtain rfl := Option.some.inj H15
    refine Qq (v := .int .i64 (a0.Ratios.length : Int)) rfl rfl (Yn rfl)
   ·have H16 := Jq hb H14; clear H14
    refine Jf ?_
    refine Jb ?_
    refine Ja rfl rfl rfl (Xl rfl rfl) ?_
    refine Ja rfl rfl rfl (Jc (v := .bool (decide (a0.Kind = 13))) rfl) ?_
    refine Jg ?_
    refine Qf (b := (decide (a0.Kind = 13))) rfl (fun hb => ?_) (fun hb => ?_)
    ·have H17 := Jr hb H16; clear H16
     refine Jf ?_
     refine Jb ?_
     refine Ja rfl rfl rfl (Jc (v := .int .i64 1) rfl) ?_
     refine Jg ?_
     refine Ju ?_
     obtain rfl := Option.some.inj H17
     refine Qq (v := .int .i64 1) rfl rfl (Yn rfl)
    ·have H18 := Jq hb H16; clear H16
     refine Jt ?_
     refine Jf ?_
     refine Jb ?_
     refine Ja rfl rfl rfl (Jk Try.runUnderlying29 rfl Try.sizeOf25 rfl rfl) ?_
     refine Jw (i := 0) (v := v0_2) Try.isAgg25 rfl rfl rfl rfl rfl ?_
     refine Ja rfl rfl rfl (r_lenF Try.underlying25 rfl f0_2 rfl) ?_
     refine Ja rfl rfl rfl (Jc (v := .int .i64 (a0.Ints.length : Int)) rfl) ?_
     refine Jg ?_
     refine Ju ?_
     obtain rfl := Option.some.inj H18
     refine Qq (v := .int .i64 (a0.Ints.length : Int)) rfl rfl (Yn rfl)
theorem k88 {a0 : T_tag_Value} {v0_2 : Value} {v0_3 : Value} {v0_4 : Value} {r : Int} {w : World} {h : J3} (hw : Know h w Wf) (f0_2 : FrS h 1 v0_2 (a0.Ints.map X1)) (f0_3 : FrS h 2 v0_3 (a0.Ratios.map Qd)) (f0_4 : FrN h 6 v0_4 g_tag_Entry a0.Entries) (H : V5 a0 = some r) : Does Try.prog 88 (List.toArray [.agg #[.int .i64 a0.Kind, str a0.Text, v0_2, v0_3, v0_4]]) w (fun v w' => v = (.int .i64 r) ∧ Grow w w') := by
 refine enter (n := 9) Try.func88 rfl rfl rfl Wf [] (Sat.nil _ _) ?_
 refine Jf ?_
 refine Jb ?_
 refine U6 (cs := [.int .i64 a0.Kind, str a0.Text, v0_2, v0_3, v0_4]) rfl rfl rfl rfl (fun b1 => ?_)
 refine Ja rfl rfl rfl (Jc (v := .int .i64 0) rfl) ?_
 refine Jg ?_
 refine Jf ?_
 exact Xf (Kd.d [0] _ :: Kd.d [] _ :: Kd.p :: Kd.d [0] _ :: Kd.d [] _ :: Kd.p :: Kd.p :: []) 0 mixed (by
  refine d_loadN (i := 0) (vs := [.int .i64 a0.Kind, str a0.Text, v0_2, v0_3, v0_4]) Try.isAgg29 Try.sizeOf29 rfl rfl rfl rfl ?_
  have h_t4 := Qi H
  have H4 := J6 H
  refine d_callD (fun w L' hF hS hi => k87 (Jy w) (f0_2.mono (hw.now hF)) (f0_3.mono (hw.now hF)) (f0_4.mono (hw.now hF)) h_t4) Try.call87 rfl rfl ?_
  refine Jn rfl rfl (Jk Try.runUnderlying29 rfl Try.sizeOf3 rfl rfl) ?_
  refine Yh (i := 0) (v := .int .i64 a0.Kind) Try.isAgg3 rfl rfl rfl rfl ?_
  have h_t7 := Qi H4
  have H5 := J6 H4
  refine d_call (k136 h_t7) Try.call136 rfl rfl ?_
  have h_t8 := Qi H5
  have H6 := J6 H5
  refine Jn rfl rfl (Uw rfl rfl h_t8) ?_
  refine Jn rfl rfl (Jc (v := .int .i64 (val (gI ((val (Xx a0)) * (val (Za a0.Kind)))))) rfl) ?_
  refine V1 ?_
  refine Ju ?_
  obtain rfl := Option.some.inj H6
  refine Qq (v := .int .i64 (val (gI ((val (Xx a0)) * (val (Za a0.Kind)))))) rfl rfl (Yn rfl)
  ) (by kernel_rfl)
theorem k165 {a0 : Int} {r : Int} (H : tag_even a0 = some r) : Ret Try.prog 165 [.int .i64 a0] (.int .i64 r) := by
 refine Z5 (n := 7) Try.func165 rfl rfl rfl (fun wd => ?_)
 refine Jf ?_
 refine Jb ?_
 refine Ja rfl rfl rfl (Jc (v := .int .i64 0) rfl) ?_
 refine Jg ?_
 refine Jf ?_
 refine Jb ?_
 refine Ja rfl rfl rfl (Jd (v := .int .i64 a0) rfl) ?_
 refine Ja rfl rfl rfl (Jd (v := .int .i64 a0) rfl) ?_
 obtain ⟨t5, h_t5, H3⟩ := Jh H; clear H
 refine Ja rfl rfl rfl (r_remG rfl rfl h_t5) ?_
 obtain ⟨t6, h_t6, H4⟩ := Jh H3; clear H3
 refine Ja rfl rfl rfl (Qm rfl rfl h_t6) ?_
 refine Ja rfl rfl rfl (Jc (v := .int .i64 t6) rfl) ?_
 refine Jg ?_
 refine Ju ?_
 obtain rfl := Option.some.inj H4
 refine Qq (v := .int .i64 t6) rfl rfl (Yn rfl)
theorem k141_it (mm : Nat) : ∀ {a0 : (List T_tag_Entry)} {v0 : Value} {a1 : Int} {r : Int} {w : World} {h : J3} (hw : Know h w Wf) (f0 : FrN h 6 v0 g_tag_Entry a0) (H : it (fun (self : ((List T_tag_Entry) × Int) → Option (Int)) (s : (List T_tag_Entry) × Int) => Y4 self s.1 s.2) mm (a0, a1) = some r), Does Try.prog 141 (List.toArray [v0, .int .i64 a1]) w (fun v w' => v = (.int .i64 r) ∧ Grow w w') := by
 induction mm with
 | zero => intros; rename_i H; exact absurd H (by simp [it])
 | succ mm ih =>
  intro a0 v0 a1 r w h hw f0 H
  replace H : Y4 (it (fun (self : ((List T_tag_Entry) × Int) → Option (Int)) (s : (List T_tag_Entry) × Int) => Y4 self s.1 s.2) mm) a0 a1 = some r := H
  generalize it (fun (self : ((List T_tag_Entry) × Int) → Option (Int)) (s : (List T_tag_Entry) × Int) => Y4 self s.1 s.2) mm = self at H ih
  refine enter (n := 44) Try.func141 rfl rfl rfl Wf [] (Sat.nil _ _) ?_
  refine Jf ?_
  refine Jb ?_
  refine Ja rfl rfl rfl (Jc (v := .int .i64 0) rfl) ?_
  refine Jg ?_
  refine Jf ?_
  refine Jb ?_
  refine Ja rfl rfl rfl (Jd (v := .int .i64 a1) rfl) ?_
  obtain ⟨t8, h_t8, H21⟩ := Jh H; clear H
  refine Zu (k165 h_t8) Try.call165 rfl rfl rfl ?_
  obtain ⟨t9, h_t9, H22⟩ := Jh H21; clear H21
  refine Ja rfl rfl rfl (Qm rfl rfl h_t9) ?_
  refine Ja rfl rfl rfl (Jd (v := v0) rfl) ?_
  refine Ja rfl rfl rfl (Zf Try.underlying27 rfl f0) ?_
  obtain ⟨t12, h_t12, H23⟩ := Jh H22; clear H22
  refine Ja rfl rfl rfl (Uw rfl rfl h_t12) ?_
  obtain ⟨t13, h_t13, H24⟩ := Jh H23; clear H23
  refine Ja rfl rfl rfl (Qm rfl rfl h_t13) ?_
  obtain ⟨t14, h_t14, H25⟩ := Jh H24; clear H24
  refine Ja rfl rfl rfl (Qm rfl rfl h_t14) ?_
  refine Ja rfl rfl rfl (Jc (v := .int .i64 t14) rfl) ?_
  refine Jg ?_
  refine Jf ?_
  refine Jf ?_
  refine Jb ?_
  refine Ja rfl rfl rfl (Jd (v := v0) rfl) ?_
  refine Ja rfl rfl rfl (Zf Try.underlying27 rfl f0) ?_
  refine Ja rfl rfl rfl (Jd (v := .int .i64 0) rfl) ?_
  refine Jg ?_
  refine J4 ?_
  refine V2 (σ := Int × Int) (τ := Unit) (fun next1 s => Ys a0 self next1 s.1 s.2) (fun s t => [(1, .int .i64 s.1), (15, v0), (16, .int .i64 (a0.length : Int)), (17, .int .i64 s.2)]) (fun s t => []) (fun s t => True) (t14, 0) () [] H25 (by exact trivial) (by exact ⟨rfl, rfl, rfl, rfl, trivial⟩) (by decide) rfl ?_
  rintro ⟨x1_2, x17_2⟩ _ m1 gg H26 _
  clear H25
  replace H26 : Ys a0 self (it (fun next1 s => Ys a0 self next1 s.1 s.2) m1) x1_2 x17_2 = some r := H26
  generalize hn1 : it (fun next1 s => Ys a0 self next1 s.1 s.2) m1 = next1 at H26
  try dsimp only
  refine Jf ?_
  refine Jb ?_
  refine Ja rfl rfl rfl (Z0 rfl rfl) ?_
  refine Jg ?_
  refine Jf ?_
  refine Qf (b := (decide (x17_2 < (a0.length : Int)))) rfl (fun hb => ?_) (fun hb => ?_)
  ·have H27 := Jr hb H26; clear H26
   refine Jt ?_
   refine Xq (r := r) (σ := Int) (τ := Unit) (fun s => Vi x17_2 next1 s) (fun s t => [(1, .int .i64 s), (15, v0), (16, .int .i64 (a0.length : Int)), (17, .int .i64 x17_2)]) (fun s t => []) (fun s t => True) ?_ ?_
   ·refine J4 ?_
    refine Jf ?_
    refine Jb ?_
    obtain ⟨t19, h_t19, H30⟩ := Jh H27; clear H27
    refine Ja rfl rfl rfl (Y6 Try.underlying27 Try.sizeOf96 rfl rfl f0.frs (f0.ix h_t19)) ?_
    refine Yw (fun w hF hS => Zp (f := (elC h v0 6)) (i := x17_2) (sz := 6) (j := 0) (vs := [.int .i64 t19.Tag, .int .i64 t19.Value.Kind, str t19.Value.Text, (Yq h v0 6 (Int.toNat x17_2) 3), (Yq h v0 6 (Int.toNat x17_2) 4), (Yq h v0 6 (Int.toNat x17_2) 5)]) Try.isAgg96 Try.sizeOf96 rfl rfl (f0.frs.row (hw.now hF)) (f0.ix h_t19) (rd_of (Ws (f0.at h_t19)) rfl)) rfl rfl rfl ?_
    refine Zc (cs := [.int .i64 0, .int .i64 0, str [], .slice none 0 0, .slice none 0 0, .slice none 0 0]) Try.zeroValue96 rfl rfl rfl (fun b1 => ?_)
    refine Qy (i := 0) (vs := [.int .i64 t19.Tag, .int .i64 t19.Value.Kind, str t19.Value.Text, (Yq h v0 6 (Int.toNat x17_2) 3), (Yq h v0 6 (Int.toNat x17_2) 4), (Yq h v0 6 (Int.toNat x17_2) 5)]) (cs' := [.int .i64 t19.Tag, .int .i64 t19.Value.Kind, str t19.Value.Text, (Yq h v0 6 (Int.toNat x17_2) 3), (Yq h v0 6 (Int.toNat x17_2) 4), (Yq h v0 6 (Int.toNat x17_2) 5)]) Try.sizeOf96 rfl rfl rfl rfl rfl rfl (by simp only [List.all_cons, List.all_nil, (show FrN h 6 (Yq h v0 6 (Int.toNat x17_2) 5) g_tag_Entry t19.Value.Entries from (Xj (Jx (f0.at h_t19)))).one, (show FrS h 1 (Yq h v0 6 (Int.toNat x17_2) 3) (t19.Value.Ints.map X1) from (X9 (Jx (f0.at h_t19)))).one, (show FrS h 2 (Yq h v0 6 (Int.toNat x17_2) 4) (t19.Value.Ratios.map Qd) from (Yd (Jx (f0.at h_t19)))).one] <;> rfl) rfl rfl ?_
    refine Jg ?_
    refine J4 ?_
    refine Jf ?_
    refine Jb ?_
    refine Ja rfl rfl rfl (Jk Try.runUnderlying96 rfl Try.sizeOf29 rfl rfl) ?_
    refine Ja rfl rfl rfl (Jk Try.runUnderlying29 rfl Try.sizeOf3 rfl rfl) ?_
    refine Jw (i := 0) (v := .int .i64 t19.Value.Kind) Try.isAgg3 rfl rfl rfl rfl rfl ?_
    refine Ja rfl rfl rfl (Xl rfl rfl) ?_
    refine Ja rfl rfl rfl (Jc (v := .bool (decide (t19.Value.Kind = 13))) rfl) ?_
    refine Jg ?_
    refine Qf (b := (decide (t19.Value.Kind = 13))) rfl (fun hb => ?_) (fun hb => ?_)
    ·have H31 := Jr hb H30; clear H30
     refine Jb ?_
     refine Ja rfl rfl rfl (Jk Try.runUnderlying96 rfl Try.sizeOf29 rfl rfl) ?_
     refine Ja rfl rfl rfl (Jk Try.runUnderlying29 rfl Try.sizeOf27 rfl rfl) ?_
     refine Jw (i := 0) (v := (Yq h v0 6 (Int.toNat x17_2) 5)) Try.isAgg27 rfl rfl rfl rfl rfl ?_
     refine Ja rfl rfl rfl (Jd (v := .int .i64 x1_2) rfl) ?_
     obtain ⟨t30, h_t30, H32⟩ := Jh H31; clear H31
     refine Q4 (fun w hF hS => ih (Jy w) ((show FrN h 6 (Yq h v0 6 (Int.toNat x17_2) 5) g_tag_Entry t19.Value.Entries from (Xj (Jx (f0.at h_t19)))).mono (hw.now hF)) h_t30) Try.call141 rfl rfl rfl ?_
     refine Ja rfl rfl rfl (Jc (v := .int .i64 t30) rfl) ?_
     refine Jg ?_
     refine Jp t30 () 0 [] (by exact ⟨rfl, rfl, rfl, rfl, trivial⟩) (by decide) (by kernel_rfl) (by exact ⟨H32, trivial⟩) (Nat.lt_succ_self _)
    ·have H33 := Jq hb H30; clear H30
     refine Jf ?_
     refine Jb ?_
     refine Ja rfl rfl rfl (Jk Try.runUnderlying96 rfl Try.sizeOf29 rfl rfl) ?_
     refine Zd (i := 0) (vs := [.int .i64 t19.Value.Kind, str t19.Value.Text, (Yq h v0 6 (Int.toNat x17_2) 3), (Yq h v0 6 (Int.toNat x17_2) 4), (Yq h v0 6 (Int.toNat x17_2) 5)]) Try.isAgg29 Try.sizeOf29 rfl rfl rfl rfl rfl ?_
     obtain ⟨t34, h_t34, H34⟩ := Jh H33; clear H33
     refine Q4 (fun w hF hS => k88 (Jy w) ((show FrS h 1 (Yq h v0 6 (Int.toNat x17_2) 3) (t19.Value.Ints.map X1) from (X9 (Jx (f0.at h_t19)))).mono (hw.now hF)) ((show FrS h 2 (Yq h v0 6 (Int.toNat x17_2) 4) (t19.Value.Ratios.map Qd) from (Yd (Jx (f0.at h_t19)))).mono (hw.now hF)) ((show FrN h 6 (Yq h v0 6 (Int.toNat x17_2) 5) g_tag_Entry t19.Value.Entries from (Xj (Jx (f0.at h_t19)))).mono (hw.now hF)) h_t34) Try.call88 rfl rfl rfl ?_
     refine Ja rfl rfl rfl (Wj rfl rfl) ?_
     refine Ja rfl rfl rfl (Jc (v := .bool (decide (4 < t34))) rfl) ?_
     refine Jg ?_
     refine Qf (b := (decide (4 < t34))) rfl (fun hb => ?_) (fun hb => ?_)
     ·have H35 := Jr hb H34; clear H34
      exact Xf (Kd.p :: Kd.d [] _ :: Kd.p :: Kd.d [0] _ :: Kd.d [] _ :: Kd.p :: Kd.p :: []) 0 mixed (by
       refine Jn rfl rfl (Jd (v := .int .i64 x1_2) rfl) ?_
       have h_t37 := Qi H35
       have H36 := J6 H35
       refine d_call (k165 h_t37) Try.call165 rfl rfl ?_
       refine Jn rfl rfl (Jk Try.runUnderlying96 rfl Try.sizeOf29 rfl rfl) ?_
       refine d_loadN (i := 0) (vs := [.int .i64 t19.Value.Kind, str t19.Value.Text, (Yq h v0 6 (Int.toNat x17_2) 3), (Yq h v0 6 (Int.toNat x17_2) 4), (Yq h v0 6 (Int.toNat x17_2) 5)]) Try.isAgg29 Try.sizeOf29 rfl rfl rfl rfl ?_
       have h_t40 := Qi H36
       have H37 := J6 H36
       refine d_callD (fun w L' hF hS hi => k88 (Jy w) ((show FrS h 1 (Yq h v0 6 (Int.toNat x17_2) 3) (t19.Value.Ints.map X1) from (X9 (Jx (f0.at h_t19)))).mono (hw.now hF)) ((show FrS h 2 (Yq h v0 6 (Int.toNat x17_2) 4) (t19.Value.Ratios.map Qd) from (Yd (Jx (f0.at h_t19)))).mono (hw.now hF)) ((show FrN h 6 (Yq h v0 6 (Int.toNat x17_2) 5) g_tag_Entry t19.Value.Entries from (Xj (Jx (f0.at h_t19)))).mono (hw.now hF)) h_t40) Try.call88 rfl rfl ?_
       have h_t41 := Qi H37
       have H38 := J6 H37
       refine Jn rfl rfl (Qm rfl rfl h_t41) ?_
       refine Jn rfl rfl (Jc (v := .int .i64 (val (gI ((val (tag_even x1_2)) + (val (V5 t19.Value)))))) rfl) ?_
       refine V1 ?_
       refine Jp (val (gI ((val (tag_even x1_2)) + (val (V5 t19.Value))))) () 0 [] (by exact ⟨rfl, rfl, rfl, rfl, trivial⟩) (by decide) (by kernel_rfl) (by exact ⟨H38, trivial⟩) (Nat.lt_succ_self _)
       ) (by kernel_rfl)
     ·have H39 := Jq hb H34; clear H34
      refine Jt ?_
      refine Jp x1_2 () 0 [] (by exact ⟨rfl, rfl, rfl, rfl, trivial⟩) (by decide) (by kernel_rfl) (by exact ⟨H39, trivial⟩) (Nat.lt_succ_self _)
   ·rintro x1_3 _ gg H28 _
    replace H28 : Vi x17_2 next1 x1_3 = some r := H28
    try dsimp only
    refine Jb ?_
    obtain ⟨t42, h_t42, H29⟩ := Jh H28; clear H28
    refine Ja rfl rfl rfl (Qm rfl rfl h_t42) ?_
    refine Ja rfl rfl rfl (Jd (v := .int .i64 t42) rfl) ?_
    refine Jg ?_
    refine Jp (x1_3, t42) () m1 [] (by exact ⟨rfl, rfl, rfl, rfl, trivial⟩) (by decide) (by kernel_rfl) (by exact ⟨(by subst hn1; exact H29), trivial⟩) (Nat.lt_succ_self _)
  ·have H40 := Jq hb H26; clear H26
   refine Yk ?_
   refine Jf ?_
   refine Jb ?_
   refine Ja rfl rfl rfl (Jd (v := .int .i64 x1_2) rfl) ?_
   refine Ja rfl rfl rfl (Jc (v := .int .i64 x1_2) rfl) ?_
   refine Jg ?_
   refine Ju ?_
   obtain rfl := Option.some.inj H40
   refine Qq (v := .int .i64 x1_2) rfl rfl (Yn rfl)
theorem k141 {a0 : (List T_tag_Entry)} {v0 : Value} {a1 : Int} {r : Int} {w : World} {h : J3} (hw : Know h w Wf) (f0 : FrN h 6 v0 g_tag_Entry a0) (H : tag_dirEnd a0 a1 = some r) : Does Try.prog 141 (List.toArray [v0, .int .i64 a1]) w (fun v w' => v = (.int .i64 r) ∧ Grow w w') := by
 obtain ⟨mm, hm⟩ := fix_it (show Wk (fun (self : ((List T_tag_Entry) × Int) → Option (Int)) (s : (List T_tag_Entry) × Int) => Y4 self s.1 s.2) (a0, a1) = some r from H)
 exact k141_it mm hw f0 hm
theorem k96 {a0 : T_tag_File} {v0_1 : Value} {r : Int} {w : World} {h : J3} (hw : Know h w Wf) (f0_1 : FrN h 1 v0_1 gs_tag_Entry a0.Dirs) (H : tag_size a0 = some r) : Does Try.prog 96 (List.toArray [.agg #[.bool a0.Big, v0_1]]) w (fun v w' => v = (.int .i64 r) ∧ Grow w w') := by
 refine enter (n := 18) Try.func96 rfl rfl rfl Wf [] (Sat.nil _ _) ?_
 refine Jf ?_
 refine Jb ?_
 refine U6 (cs := [.bool a0.Big, v0_1]) rfl rfl rfl rfl (fun b1 => ?_)
 refine Ja rfl rfl rfl (Jc (v := .int .i64 0) rfl) ?_
 refine Jg ?_
 refine Jf ?_
 refine Jb ?_
 refine Ja rfl rfl rfl (Jc (v := .int .i64 8) rfl) ?_
 refine Jg ?_
 refine Jf ?_
 refine Jf ?_
 refine Jb ?_
 refine Ja rfl rfl rfl (Jk Try.runUnderlying24 rfl Try.sizeOf22 rfl rfl) ?_
 refine Jw (i := 0) (v := v0_1) Try.isAgg22 rfl rfl rfl rfl rfl ?_
 refine Ja rfl rfl rfl (Zf Try.underlying22 rfl f0_1) ?_
 refine Ja rfl rfl rfl (Jd (v := .int .i64 0) rfl) ?_
 refine Jg ?_
 refine J4 ?_
 refine c_dr 0 ?_
 try dsimp only [z1, z2, z3, z4, z5, z6, z7, z8]
 refine V2 (σ := Int × Int) (τ := Unit) (fun next1 s => Zx a0 next1 s.1 s.2) (fun s t => [(3, .int .i64 s.1), (7, v0_1), (8, .int .i64 (a0.Dirs.length : Int)), (9, .int .i64 s.2)]) (fun s t => []) (fun s t => True) (8, 0) () [] H (by exact trivial) (by exact ⟨rfl, rfl, rfl, rfl, trivial⟩) (by decide) rfl ?_
 rintro ⟨x3_2, x9_2⟩ _ m1 gg H7 _
 clear H
 replace H7 : Zx a0 (it (fun next1 s => Zx a0 next1 s.1 s.2) m1) x3_2 x9_2 = some r := H7
 generalize hn1 : it (fun next1 s => Zx a0 next1 s.1 s.2) m1 = next1 at H7
 try dsimp only
 refine Jf ?_
 refine Jb ?_
 refine Ja rfl rfl rfl (Z0 rfl rfl) ?_
 refine Jg ?_
 refine Jf ?_
 refine Qf (b := (decide (x9_2 < (a0.Dirs.length : Int)))) rfl (fun hb => ?_) (fun hb => ?_)
 ·have H8 := Jr hb H7; clear H7
  refine Jt ?_
  refine Jf ?_
  refine J4 ?_
  refine Jf ?_
  refine Jb ?_
  obtain ⟨t11, h_t11, H9⟩ := Jh H8; clear H8
  refine Ja rfl rfl rfl (Y6 Try.underlying22 Try.sizeOf27 rfl rfl f0_1.frs (f0_1.ix h_t11)) ?_
  refine Yw (fun w hF hS => Z6 (f := (elC h v0_1 1)) (i := x9_2) (sz := 1) (j := 0) (v := (Yq h v0_1 1 (Int.toNat x9_2) 0)) Try.isAgg27 rfl rfl (f0_1.frs.row (hw.now hF)) (f0_1.ix h_t11) (rg_of (cgs_tag_Entry (f0_1.at h_t11)) rfl)) rfl rfl rfl ?_
  refine Ja rfl rfl rfl (Jc (v := (Yq h v0_1 1 (Int.toNat x9_2) 0)) rfl) ?_
  refine Jg ?_
  refine Jb ?_
  refine Ja rfl rfl rfl (Jd (v := (Yq h v0_1 1 (Int.toNat x9_2) 0)) rfl) ?_
  refine Ja rfl rfl rfl (Jd (v := .int .i64 x3_2) rfl) ?_
  obtain ⟨t15, h_t15, H10⟩ := Jh H9; clear H9
  refine Q4 (fun w hF hS => k141 (Jy w) ((show FrN h 6 (Yq h v0_1 1 (Int.toNat x9_2) 0) g_tag_Entry t11 from (f0_1.at h_t11)).mono (hw.now hF)) h_t15) Try.call141 rfl rfl rfl ?_
  refine Ja rfl rfl rfl (Jc (v := .int .i64 t15) rfl) ?_
  refine Jg ?_
  refine Jb ?_
  obtain ⟨t16, h_t16, H11⟩ := Jh H10; clear H10
  refine Ja rfl rfl rfl (Qm rfl rfl h_t16) ?_
  refine Ja rfl rfl rfl (Jd (v := .int .i64 t16) rfl) ?_
  refine Jg ?_
  refine Jp (t15, t16) () m1 [] (by exact ⟨rfl, rfl, rfl, rfl, trivial⟩) (by decide) (by kernel_rfl) (by exact ⟨(by subst hn1; exact H11), trivial⟩) (Nat.lt_succ_self _)
 ·have H12 := Jq hb H7; clear H7
  refine Yk ?_
  refine Jf ?_
  refine Jb ?_
  refine Ja rfl rfl rfl (Jd (v := .int .i64 x3_2) rfl) ?_
  refine Ja rfl rfl rfl (Jc (v := .int .i64 x3_2) rfl) ?_
  refine Jg ?_
  refine Ju ?_
  obtain rfl := Option.some.inj H12
  refine Qq (v := .int .i64 x3_2) rfl rfl (Yn rfl)
theorem k41 {a0 : T_tag_File} {v0_1 : Value} {r : Int} {w : World} {h : J3} (hw : Know h w Wf) (f0_1 : FrN h 1 v0_1 gs_tag_Entry a0.Dirs) (H : tag_Check a0 = some r) : Does Try.prog 41 (List.toArray [.agg #[.bool a0.Big, v0_1]]) w (fun v w' => v = (.int .i64 r) ∧ Grow w w') := by
 refine enter (n := 26) Try.func41 rfl rfl rfl Wf [] (Sat.nil _ _) ?_
 refine Jf ?_
 refine Jb ?_
 refine U6 (cs := [.bool a0.Big, v0_1]) rfl rfl rfl rfl (fun b1 => ?_)
 refine Ja rfl rfl rfl (Jc (v := .int .i64 0) rfl) ?_
 refine Jg ?_
 refine Jf ?_
 refine Jf ?_
 refine Jb ?_
 refine Ja rfl rfl rfl (Jk Try.runUnderlying24 rfl Try.sizeOf22 rfl rfl) ?_
 refine Jw (i := 0) (v := v0_1) Try.isAgg22 rfl rfl rfl rfl rfl ?_
 refine Ja rfl rfl rfl (Zf Try.underlying22 rfl f0_1) ?_
 refine Ja rfl rfl rfl (Wj rfl rfl) ?_
 refine Jg ?_
 refine Qf (b := (decide (20 < (a0.Dirs.length : Int)))) rfl (fun hb => ?_) (fun hb => ?_)
 ·have H15 := Jr hb H; clear H
  refine Jf ?_
  refine Jb ?_
  refine Ja rfl rfl rfl (Jc (v := .int .i64 4) rfl) ?_
  refine Jg ?_
  refine Ju ?_
  obtain rfl := Option.some.inj H15
  refine Qq (v := .int .i64 4) rfl rfl (Yn rfl)
 ·have H16 := Jq hb H; clear H
  refine Jt ?_
  refine Xq (r := r) (σ := Unit) (τ := Unit) (fun s => tag_Check_j1 a0) (fun s t => [(1, .pointer (some ⟨b1, 0, none⟩))]) (fun s t => [Jl b1 [.bool a0.Big, v0_1] 24]) (fun s t => True) ?_ ?_
  ·refine Jf ?_
   refine Jb ?_
   refine Ja rfl rfl rfl (Jk Try.runUnderlying24 rfl Try.sizeOf22 rfl rfl) ?_
   refine Jw (i := 0) (v := v0_1) Try.isAgg22 rfl rfl rfl rfl rfl ?_
   refine Ja rfl rfl rfl (Zf Try.underlying22 rfl f0_1) ?_
   refine Ja rfl rfl rfl (Jd (v := .int .i64 0) rfl) ?_
   refine Jg ?_
   refine J4 ?_
   refine V2 (σ := Int) (τ := Unit) (fun next2 s => Zb a0 next2 s) (fun s t => [(1, .pointer (some ⟨b1, 0, none⟩)), (11, v0_1), (12, .int .i64 (a0.Dirs.length : Int)), (13, .int .i64 s)]) (fun s t => [Jl b1 [.bool a0.Big, v0_1] 24]) (fun s t => True) 0 () [0] H16 (by exact trivial) (by exact ⟨rfl, rfl, rfl, rfl, trivial⟩) (by decide) rfl ?_
   rintro x13_2 _ m2 gg H21 _
   clear H16
   replace H21 : Zb a0 (it (fun next2 s => Zb a0 next2 s) m2) x13_2 = some r := H21
   generalize hn2 : it (fun next2 s => Zb a0 next2 s) m2 = next2 at H21
   try dsimp only
   refine Jf ?_
   refine Jb ?_
   refine Ja rfl rfl rfl (Z0 rfl rfl) ?_
   refine Jg ?_
   refine Jf ?_
   refine Qf (b := (decide (x13_2 < (a0.Dirs.length : Int)))) rfl (fun hb => ?_) (fun hb => ?_)
   ·have H22 := Jr hb H21; clear H21
    refine Jt ?_
    refine Jf ?_
    refine J4 ?_
    refine Jf ?_
    refine Jb ?_
    obtain ⟨t15, h_t15, H23⟩ := Jh H22; clear H22
    refine Ja rfl rfl rfl (Y6 Try.underlying22 Try.sizeOf27 rfl rfl f0_1.frs (f0_1.ix h_t15)) ?_
    refine Yw (fun w hF hS => Z6 (f := (elC h v0_1 1)) (i := x13_2) (sz := 1) (j := 0) (v := (Yq h v0_1 1 (Int.toNat x13_2) 0)) Try.isAgg27 rfl rfl (f0_1.frs.row (hw.now hF)) (f0_1.ix h_t15) (rg_of (cgs_tag_Entry (f0_1.at h_t15)) rfl)) rfl rfl rfl ?_
    refine Ja rfl rfl rfl (Jc (v := (Yq h v0_1 1 (Int.toNat x13_2) 0)) rfl) ?_
    refine Jg ?_
    refine Jf ?_
    refine Jb ?_
    refine Ja rfl rfl rfl (Jd (v := (Yq h v0_1 1 (Int.toNat x13_2) 0)) rfl) ?_
    obtain ⟨t18, h_t18, H24⟩ := Jh H23; clear H23
    refine Q4 (fun w hF hS => k95 (Jy w) ((show FrN h 6 (Yq h v0_1 1 (Int.toNat x13_2) 0) g_tag_Entry t15 from (f0_1.at h_t15)).mono (hw.now hF)) h_t18) Try.call95 rfl rfl rfl ?_
    refine Ja rfl rfl rfl (Jc (v := .int .i64 t18) rfl) ?_
    refine Jg ?_
    refine Jf ?_
    refine Jb ?_
    refine Ja rfl rfl rfl (Jd (v := .int .i64 t18) rfl) ?_
    refine Ja rfl rfl rfl (Zr rfl rfl) ?_
    refine Jg ?_
    refine Qf (b := (decide (t18 ≠ 0))) rfl (fun hb => ?_) (fun hb => ?_)
    ·have H25 := Jr hb H24; clear H24
     refine Jf ?_
     refine Jb ?_
     refine Ja rfl rfl rfl (Jd (v := .int .i64 t18) rfl) ?_
     refine Ja rfl rfl rfl (Jc (v := .int .i64 t18) rfl) ?_
     refine Jg ?_
     refine Ju ?_
     obtain rfl := Option.some.inj H25
     refine Qq (v := .int .i64 t18) rfl rfl (Yn rfl)
    ·have H26 := Jq hb H24; clear H24
     refine Jt ?_
     refine Jb ?_
     obtain ⟨t22, h_t22, H27⟩ := Jh H26; clear H26
     refine Ja rfl rfl rfl (Qm rfl rfl h_t22) ?_
     refine Ja rfl rfl rfl (Jd (v := .int .i64 t22) rfl) ?_
     refine Jg ?_
     refine Jp t22 () m2 [0] (by exact ⟨rfl, rfl, rfl, rfl, trivial⟩) (by decide) (by kernel_rfl) (by exact ⟨(by subst hn2; exact H27), trivial⟩) (Nat.lt_succ_self _)
   ·have H28 := Jq hb H21; clear H21
    refine Yk ?_
    refine Jp () () 0 [0] (by exact ⟨rfl, trivial⟩) (by decide) (by kernel_rfl) (by exact ⟨H28, trivial⟩) (Nat.lt_succ_self _)
  ·rintro _ _ gg H17 _
   replace H17 : tag_Check_j1 a0 = some r := H17
   try dsimp only
   refine Jf ?_
   refine Jf ?_
   refine Jb ?_
   refine Zd (i := 0) (vs := [.bool a0.Big, v0_1]) Try.isAgg24 Try.sizeOf24 rfl rfl rfl rfl rfl ?_
   obtain ⟨t24, h_t24, H18⟩ := Jh H17; clear H17
   refine Q4 (fun w hF hS => k96 (Jy w) (f0_1.mono (hw.now hF)) h_t24) Try.call96 rfl rfl rfl ?_
   refine Ja rfl rfl rfl (Wj rfl rfl) ?_
   refine Jg ?_
   refine Qf (b := (decide (65000 < t24))) rfl (fun hb => ?_) (fun hb => ?_)
   ·have H19 := Jr hb H18; clear H18
    refine Jf ?_
    refine Jb ?_
    refine Ja rfl rfl rfl (Jc (v := .int .i64 4) rfl) ?_
    refine Jg ?_
    refine Ju ?_
    obtain rfl := Option.some.inj H19
    refine Qq (v := .int .i64 4) rfl rfl (Yn rfl)
   ·have H20 := Jq hb H18; clear H18
    refine Jt ?_
    refine Jf ?_
    refine Jb ?_
    refine Ja rfl rfl rfl (Jc (v := .int .i64 0) rfl) ?_
    refine Jg ?_
    refine Ju ?_
    obtain rfl := Option.some.inj H20
    refine Qq (v := .int .i64 0) rfl rfl (Yn rfl)
theorem k83 {a0 : Bool} {a1 : Int} {a2 : Int} {r : (List Int)} {w : World} {h : J3} (hw : Know h w Wf) (H : Jj a0 a1 a2 = some r) : Does Try.prog 83 (List.toArray [.bool a0, .int .i64 a1, .int .i64 a2]) w (fun v w' => ∃ x : (Option Addr × Nat), v = (.slice x.1 r.length x.2) ∧ Turn w w' Wf (Jz 5 1 (.slice x.1 r.length x.2) r.length (r.map Xa))) := by
 refine enter (n := 33) Try.func83 rfl rfl rfl Wf [] (Sat.nil _ _) ?_
 refine Jf ?_
 refine Jb ?_
 refine Ja rfl rfl rfl (Jc (v := .slice none 0 0) rfl) ?_
 refine Jg ?_
 refine Jf ?_
 refine Jb ?_
 refine Ja rfl rfl rfl (Jd (v := .int .i64 a2) rfl) ?_
 obtain ⟨t11, h_t11, H15⟩ := Jh H; clear H
 refine Wp (rds := []) (makes_makeG (E := 5) (sz := 1) (f := Xa) (xs := t11) Try.underlying133 (Xe Try.typeInfo5) rfl rfl rfl rfl rfl rfl ⟨rfl, rfl⟩ h_t11) rfl rfl rfl (fun p => ?_)
 refine Ja rfl rfl rfl (Jc (v := .slice p.1 t11.length p.2) rfl) ?_
 refine Jg ?_
 refine Jf ?_
 refine Jf ?_
 refine Jb ?_
 refine Ja rfl rfl rfl (Jd (v := .slice p.1 t11.length p.2) rfl) ?_
 refine Ja rfl rfl rfl (r_len Try.underlying133 rfl) ?_
 refine Ja rfl rfl rfl (Jd (v := .int .i64 0) rfl) ?_
 refine Jg ?_
 refine J4 ?_
 refine V2 (σ := Int × (List Int)) (τ := Unit) (fun next1 s => Q8 a0 a1 a2 t11 next1 s.1 s.2) (fun s t => [(0, .bool a0), (1, .int .i64 a1), (2, .int .i64 a2), (7, .slice p.1 t11.length p.2), (13, .int .i64 (t11.length : Int)), (14, .int .i64 s.1)]) (fun s t => [Jz 5 1 (.slice p.1 t11.length p.2) t11.length (s.2.map Xa)]) (fun s t => t11.length = s.2.length) (0, t11) () [0] H15 (by exact rfl) (by exact ⟨rfl, rfl, rfl, rfl, rfl, rfl, trivial⟩) (by decide) rfl ?_
 rintro ⟨x14_2, l_2⟩ _ m1 gg H16 hl_2
 clear H15
 replace H16 : Q8 a0 a1 a2 t11 (it (fun next1 s => Q8 a0 a1 a2 t11 next1 s.1 s.2) m1) x14_2 l_2 = some r := H16
 generalize hn1 : it (fun next1 s => Q8 a0 a1 a2 t11 next1 s.1 s.2) m1 = next1 at H16
 try dsimp only
 refine Jf ?_
 refine Jb ?_
 refine Ja rfl rfl rfl (Z0 rfl rfl) ?_
 refine Jg ?_
 refine Jf ?_
 refine Qf (b := (decide (x14_2 < (t11.length : Int)))) rfl (fun hb => ?_) (fun hb => ?_)
 ·have H17 := Jr hb H16; clear H16
  refine Jt ?_
  refine Jf ?_
  refine J4 ?_
  refine Jf ?_
  refine Jb ?_
  refine Ja rfl rfl rfl (Jd (v := .int .i64 x14_2) rfl) ?_
  refine Ja rfl rfl rfl (Jc (v := .int .i64 x14_2) rfl) ?_
  refine Jg ?_
  refine Jf ?_
  refine Jb ?_
  refine Ja rfl rfl rfl (Jd (v := .int .i64 x14_2) rfl) ?_
  refine Ja rfl rfl rfl (Jc (v := .int .i64 x14_2) rfl) ?_
  refine Jg ?_
  refine Xq (r := r) (σ := Int) (τ := Unit) (fun s => Zw a1 x14_2 l_2 next1 s) (fun s t => [(0, .bool a0), (1, .int .i64 a1), (2, .int .i64 a2), (7, .slice p.1 t11.length p.2), (8, .int .i64 x14_2), (9, .int .i64 s), (13, .int .i64 (t11.length : Int)), (14, .int .i64 x14_2)]) (fun s t => [Jz 5 1 (.slice p.1 t11.length p.2) t11.length (l_2.map Xa)]) (fun s t => True) ?_ ?_
  ·refine Jf ?_
   refine Jb ?_
   refine Ja rfl rfl rfl (Jd (v := .bool a0) rfl) ?_
   refine Jg ?_
   refine Qf (b := a0) rfl (fun hb => ?_) (fun hb => ?_)
   ·have H24 := Jr hb H17; clear H17
    refine Jb ?_
    refine Ja rfl rfl rfl (Jd (v := .int .i64 a2) rfl) ?_
    obtain ⟨t20, h_t20, H25⟩ := Jh H24; clear H24
    refine Ja rfl rfl rfl (Uq rfl rfl h_t20) ?_
    refine Ja rfl rfl rfl (Jd (v := .int .i64 x14_2) rfl) ?_
    obtain ⟨t22, h_t22, H26⟩ := Jh H25; clear H25
    refine Ja rfl rfl rfl (Uq rfl rfl h_t22) ?_
    refine Ja rfl rfl rfl (Jc (v := .int .i64 t22) rfl) ?_
    refine Jg ?_
    refine Jp t22 () 0 [0] (by exact ⟨rfl, rfl, rfl, rfl, rfl, rfl, rfl, rfl, trivial⟩) (by decide) (by kernel_rfl) (by exact ⟨H26, trivial⟩) (Nat.lt_succ_self _)
   ·have H27 := Jq hb H17; clear H17
    refine Jt ?_
    refine Jp x14_2 () 0 [0] (by exact ⟨rfl, rfl, rfl, rfl, rfl, rfl, rfl, rfl, trivial⟩) (by decide) (by kernel_rfl) (by exact ⟨H27, trivial⟩) (Nat.lt_succ_self _)
  ·rintro x9 _ gg H18 _
   replace H18 : Zw a1 x14_2 l_2 next1 x9 = some r := H18
   try dsimp only
   refine Jb ?_
   refine Ja rfl rfl rfl (Jd (v := .slice p.1 t11.length p.2) rfl) ?_
   refine Ja rfl rfl rfl (Jd (v := .int .i64 x9) rfl) ?_
   refine Ja rfl rfl rfl (Jd (v := .int .i64 a1) rfl) ?_
   refine Ja rfl rfl rfl (Jd (v := .int .i64 x14_2) rfl) ?_
   obtain ⟨t27, h_t27, H19⟩ := Jh H18; clear H18
   refine Ja rfl rfl rfl (Uw rfl rfl h_t27) ?_
   obtain ⟨t28, h_t28, H20⟩ := Jh H19; clear H19
   refine Ja rfl rfl rfl (r_shrG rfl rfl rfl h_t28) ?_
   refine Ja rfl rfl rfl (r_convG Try.runUnderlying3 Try.runUnderlying5 rfl (wr_u8 _)) ?_
   obtain ⟨t30, h_t30, H21⟩ := Jh H20; clear H20
   refine Yw (fun w hF hS => Ub Try.underlying133 Try.sizeOf5 rfl rfl (rowOf (i := 0) hS rfl) hl_2 h_t30) rfl rfl rfl ?_
   obtain ⟨l0, h_l0, H22⟩ := Jh H21; clear H21
   refine l_storeG (q := 0) (j := 0) (i := x9) (sz := 1) (hm := hl_2) (f := Xa) (vs := [.int .u8 (wU8 t28)]) Try.sizeOf5 rfl rfl rfl rfl rfl rfl rfl rfl rfl (fun y_ hy_ => by first | rfl | (cases hy_.symm.trans h_t30; rfl)) h_l0 ?_
   refine Jg ?_
   refine Jb ?_
   obtain ⟨t31, h_t31, H23⟩ := Jh H22; clear H22
   refine Ja rfl rfl rfl (Qm rfl rfl h_t31) ?_
   refine Ja rfl rfl rfl (Jd (v := .int .i64 t31) rfl) ?_
   refine Jg ?_
   refine Jp (t31, l0) () m1 [0] (by exact ⟨rfl, rfl, rfl, rfl, rfl, rfl, trivial⟩) (by decide) (by kernel_rfl) (by exact ⟨(by subst hn1; exact H23), (gSet_n hl_2 h_l0)⟩) (Nat.lt_succ_self _)
 ·have H28 := Jq hb H16; clear H16
  refine Yk ?_
  refine Jf ?_
  refine Jb ?_
  refine Ja rfl rfl rfl (Jd (v := .slice p.1 t11.length p.2) rfl) ?_
  refine Ja rfl rfl rfl (Jc (v := .slice p.1 t11.length p.2) rfl) ?_
  refine Jg ?_
  refine Ju ?_
  obtain rfl := Option.some.inj H28
  refine Qq (v := .slice p.1 t11.length p.2) rfl rfl (Vl p (i := 0) rfl (by first | rfl | rw [(show t11.length = l_2.length from hl_2)]) (by first | exact Imp.refl _ | exact Imp.of (by rw [(show t11.length = l_2.length from hl_2)] <;> rfl)))
theorem k86 {a0 : T_tag_writer} {pb0 : Nat} {p0_1 : Option Addr × Nat} {n0_1 : Nat} {a1 : Int} {a2 : Int} {r : T_tag_writer} {w : World} {h : J3} {S : Nat → Prop} (hcs : (J0 (Jl pb0 [.bool a0.big_, .slice p0_1.1 n0_1 p0_1.2] 138) (Jz 5 1 (.slice p0_1.1 n0_1 p0_1.2) n0_1 (a0.out_.map Xa))).P S w) (hlt : ∀ b, S b → b < w.heap.size) (hw : Know h w S) (hn0_1 : n0_1 = a0.out_.length) (H : Z4 a0 a1 a2 = some r) : Does Try.prog 86 (List.toArray [.pointer (some ⟨pb0, 0, none⟩), .int .i64 a1, .int .i64 a2]) w (fun v w' => ∃ x : (Option Addr × Nat), v = (.tuple #[]) ∧ Turn w w' S (J0 (Jl pb0 [.bool r.big_, .slice x.1 r.out_.length x.2] 138) (Jz 5 1 (.slice x.1 r.out_.length x.2) r.out_.length (r.out_.map Xa)))) := by
 refine enter (n := 19) Try.func86 rfl rfl rfl S [J0 (Jl pb0 [.bool a0.big_, .slice p0_1.1 n0_1 p0_1.2] 138) (Jz 5 1 (.slice p0_1.1 n0_1 p0_1.2) n0_1 (a0.out_.map Xa))] (Sat.one hcs hlt) ?_
 refine Xo 0 rfl ?_
 exact Xf (Kd.p :: Kd.p :: Kd.p :: Kd.d [0] _ :: Kd.p :: Kd.d [1] _ :: Kd.p :: Kd.p :: Kd.p :: Kd.d [0] _ :: Kd.p :: Kd.t 2 [] _ _ :: Kd.t 1 [2] _ _ :: []) 1 mixed (by
  refine Jn rfl rfl (Jd (v := .pointer (some ⟨pb0, 0, none⟩)) rfl) ?_
  refine Jn rfl rfl (Js rfl) ?_
  refine Jn rfl rfl (Jk Try.runUnderlying138 rfl Try.sizeOf133 rfl rfl) ?_
  refine Yh (i := 0) (v := .slice p0_1.1 n0_1 p0_1.2) Try.isAgg133 rfl rfl rfl rfl ?_
  refine Jn rfl rfl (Jd (v := .int .i64 a1) rfl) ?_
  have h_t11 := Qi H
  have H3 := J6 H
  refine U2 (v := .slice (Z1 p0_1.1 (Int.toNat a1) p0_1.2 1) (val (Zo a0.out_ a1 a0.out_.length)).length (p0_1.2 - Int.toNat a1)) (fun w L' hF hS hi => Wq (xs := a0.out_) Try.underlying133 Try.sizeOf5 rfl rfl hn0_1 (capOf (i := 1) hS ((hi 1 (by simp)).trans rfl)) h_t11) rfl rfl ?_
  refine Jn rfl rfl (Jd (v := .pointer (some ⟨pb0, 0, none⟩)) rfl) ?_
  refine Jn rfl rfl (Js rfl) ?_
  refine Jn rfl rfl (Jk Try.runUnderlying138 rfl Try.sizeOf4 rfl rfl) ?_
  refine Yh (i := 0) (v := .bool a0.big_) Try.isAgg4 rfl rfl rfl rfl ?_
  refine Jn rfl rfl (Jd (v := .int .i64 a2) rfl) ?_
  have h_t17 := Qi H3
  have H4 := J6 H3
  refine d_make (Cv := fun v => Jz 5 1 v (val (Jj a0.big_ a2 4)).length ((val (Jj a0.big_ a2 4)).map Xa)) (none, 0) (Xs (G := fun x : (Option Addr × Nat) => .slice x.1 (val (Jj a0.big_ a2 4)).length x.2) (C := fun x : (Option Addr × Nat) => Jz 5 1 (.slice x.1 (val (Jj a0.big_ a2 4)).length x.2) (val (Jj a0.big_ a2 4)).length ((val (Jj a0.big_ a2 4)).map Xa)) (fun w L' hF hS hi => k83 (Jy w)  h_t17) Try.call83 rfl) (fun _ => rfl) rfl rfl rfl (fun p => ?_)
  refine d_turn (Cv := fun _ => Jz 5 1 (.slice p0_1.1 n0_1 p0_1.2) n0_1 ((cpyL a0.out_ a1 (val (Zo a0.out_ a1 a0.out_.length)).length (val (Jj a0.big_ a2 4))).map Xa)) () (turns_copyG (i := 1) (rds := _) (p := p0_1) (f := Xa) (xs := a0.out_) (ts := (val (Zo a0.out_ a1 a0.out_.length))) (ys := (val (Jj a0.big_ a2 4))) hn0_1 Try.underlying133 (by rw [Xe Try.typeInfo5]; rfl) rfl rfl h_t11 rfl rfl (fun w L' hF hS hi => rowOf (i := 2) hS ((hi 2 (by simp)).trans rfl)) (fun _ => rfl) (fun _ => rfl)) (fun _ => rfl) rfl rfl (fun _ => ?_)
  refine V1 ?_
  obtain rfl := Option.some.inj H4
  refine Jv 0 1 rfl rfl (by decide) ?_
  refine ret0n rfl (Vl p0_1 (i := 0) rfl (by first | rfl | rw [(show n0_1 = (cpyL a0.out_ a1 (val (Zo a0.out_ a1 a0.out_.length)).length (val (Jj a0.big_ a2 4))).length from (cpyL_n hn0_1 h_t11))]) (by first | exact Imp.refl _ | exact Imp.of (by rw [(show n0_1 = (cpyL a0.out_ a1 (val (Zo a0.out_ a1 a0.out_.length)).length (val (Jj a0.big_ a2 4))).length from (cpyL_n hn0_1 h_t11))] <;> rfl)))
  ) (by kernel_rfl)
theorem k85 {a0 : Bool} {a1 : T_tag_Value} {v1_2 : Value} {v1_3 : Value} {v1_4 : Value} {r : (List Int)} {w : World} {h : J3} (hw : Know h w Wf) (f1_2 : FrS h 1 v1_2 (a1.Ints.map X1)) (f1_3 : FrS h 2 v1_3 (a1.Ratios.map Qd)) (f1_4 : FrN h 6 v1_4 g_tag_Entry a1.Entries) (H : Xt a0 a1 = some r) : Does Try.prog 85 (List.toArray [.bool a0, .agg #[.int .i64 a1.Kind, str a1.Text, v1_2, v1_3, v1_4]]) w (fun v w' => ∃ x : (Option Addr × Nat), v = (.slice x.1 r.length x.2) ∧ Turn w w' Wf (roV 1 (.slice x.1 r.length x.2) r.length (r.map Xa))) := by
 refine enter (n := 61) Try.func85 rfl rfl rfl Wf [] (Sat.nil _ _) ?_
 refine Jf ?_
 refine Jb ?_
 refine U6 (cs := [.int .i64 a1.Kind, str a1.Text, v1_2, v1_3, v1_4]) rfl rfl rfl rfl (fun b6 => ?_)
 refine Ja rfl rfl rfl (Jc (v := .slice none 0 0) rfl) ?_
 refine Jg ?_
 refine Jf ?_
 refine Jf ?_
 refine Jb ?_
 refine Ja rfl rfl rfl (Jk Try.runUnderlying29 rfl Try.sizeOf3 rfl rfl) ?_
 refine Jw (i := 0) (v := .int .i64 a1.Kind) Try.isAgg3 rfl rfl rfl rfl rfl ?_
 refine Jg ?_
 refine J4 ?_
 refine Jf ?_
 refine Jb ?_
 refine Ja rfl rfl rfl (Xl rfl rfl) ?_
 refine Ja rfl rfl rfl (Jc (v := .bool (decide (a1.Kind = 2))) rfl) ?_
 refine Jg ?_
 refine Qf (b := (decide (a1.Kind = 2))) rfl (fun hb => ?_) (fun hb => ?_)
 ·have H51 := Jr hb H; clear H
  refine Jf ?_
  refine Jb ?_
  refine Ja rfl rfl rfl (Jk Try.runUnderlying29 rfl Try.sizeOf9 rfl rfl) ?_
  refine Jw (i := 0) (v := str a1.Text) Try.isAgg9 rfl rfl rfl rfl rfl ?_
  obtain ⟨t16, h_t16, H52⟩ := Jh H51; clear H51
  refine Wp (rds := []) (makes_byt (f := Xa) (s := a1.Text) Try.underlying9 Try.underlying133 Try.underlying5 rfl (fun _ => rfl) h_t16) rfl rfl rfl (fun p => ?_)
  refine Qx (vs := [.int .u8 0]) (cs := [.int .u8 0]) Try.underlying133 Try.sizeOf5 Try.zeroValue5 rfl rfl rfl rfl rfl rfl rfl (fun b7 => ?_)
  obtain ⟨l18, h_l18, H53⟩ := Jh H52; clear H52
  refine Qs (turns_appM (i := 1) (hn := rfl) (rds := [2]) (p := p) (sz := 1) (by_ := 1) (f := Xa) (ys := t16) (ls := ([0] : List Int)) (V := .slice (some ⟨b7, 0, none⟩) 1 1) Try.underlying133 (Xe Try.typeInfo5) rfl rfl rfl rfl rfl rfl rfl rfl rfl rfl (fun w L' hF hS hi => Wr (i := 2) hS ((hi 2 (by simp)).trans rfl) rfl rfl) (fun _ => rfl) (fun _ => rfl) h_l18) rfl rfl rfl (fun p_2 => ?_)
  refine Ja rfl rfl rfl (Jc (v := .slice p_2.1 l18.length p_2.2) rfl) ?_
  refine Jg ?_
  refine Ju ?_
  obtain rfl := Option.some.inj H53
  refine Xv 1 rfl (imp_mkro _ _ _ _ _) ?_
  refine Qq (v := .slice p_2.1 l18.length p_2.2) rfl rfl (Vl p_2 (i := 1) rfl rfl (Imp.refl _))
 ·have H54 := Jq hb H; clear H
  refine Jf ?_
  refine Jb ?_
  refine Ja rfl rfl rfl (Xl rfl rfl) ?_
  refine Ja rfl rfl rfl (Jc (v := .bool (decide (a1.Kind = 7))) rfl) ?_
  refine Jg ?_
  refine Qf (b := (decide (a1.Kind = 7))) rfl (fun hb => ?_) (fun hb => ?_)
  ·have H55 := Jr hb H54; clear H54
   refine Jf ?_
   refine Jb ?_
   refine Ja rfl rfl rfl (Jk Try.runUnderlying29 rfl Try.sizeOf9 rfl rfl) ?_
   refine Jw (i := 0) (v := str a1.Text) Try.isAgg9 rfl rfl rfl rfl rfl ?_
   obtain ⟨t23, h_t23, H56⟩ := Jh H55; clear H55
   refine Wp (rds := []) (makes_byt (f := Xa) (s := a1.Text) Try.underlying9 Try.underlying133 Try.underlying5 rfl (fun _ => rfl) h_t23) rfl rfl rfl (fun p_3 => ?_)
   refine Ja rfl rfl rfl (Jc (v := .slice p_3.1 t23.length p_3.2) rfl) ?_
   refine Jg ?_
   refine Ju ?_
   obtain rfl := Option.some.inj H56
   refine Xv 1 rfl (imp_mkro _ _ _ _ _) ?_
   refine Qq (v := .slice p_3.1 t23.length p_3.2) rfl rfl (Vl p_3 (i := 1) rfl rfl (Imp.refl _))
  ·have H57 := Jq hb H54; clear H54
   refine Jt ?_
   refine Jf ?_
   refine Jb ?_
   refine Ja rfl rfl rfl (Jc (v := .slice none 0 0) rfl) ?_
   refine Jg ?_
   refine Xq (r := r) (σ := (List Int)) (τ := (Option Addr × Nat)) (fun s => Wd a0 a1 s) (fun s t => [(0, .bool a0), (3, .pointer (some ⟨b6, 0, none⟩)), (5, .slice t.1 s.length t.2)]) (fun s t => [Jl b6 [.int .i64 a1.Kind, str a1.Text, v1_2, v1_3, v1_4] 29, Jz 5 1 (.slice t.1 s.length t.2) s.length (s.map Xa)]) (fun s t => True) ?_ ?_
   ·refine Jf ?_
    refine Jb ?_
    refine Ja rfl rfl rfl (Jk Try.runUnderlying29 rfl Try.sizeOf25 rfl rfl) ?_
    refine Jw (i := 0) (v := v1_2) Try.isAgg25 rfl rfl rfl rfl rfl ?_
    refine Ja rfl rfl rfl (r_lenF Try.underlying25 rfl f1_2 rfl) ?_
    refine Ja rfl rfl rfl (Jd (v := .int .i64 0) rfl) ?_
    refine Jg ?_
    refine J4 ?_
    refine Qb 5 1 ?_
    refine V2 (σ := Int × (List Int)) (τ := (Option Addr × Nat)) (fun next3 s => Yr a0 a1 next3 s.1 s.2) (fun s t => [(0, .bool a0), (3, .pointer (some ⟨b6, 0, none⟩)), (5, .slice t.1 s.2.length t.2), (25, v1_2), (26, .int .i64 (a1.Ints.length : Int)), (27, .int .i64 s.1)]) (fun s t => [Jl b6 [.int .i64 a1.Kind, str a1.Text, v1_2, v1_3, v1_4] 29, Jz 5 1 (.slice t.1 s.2.length t.2) s.2.length (s.2.map Xa)]) (fun s t => True) (0, ([] : List Int)) ((none, 0) : Option Addr × Nat) [0, 1] H57 (by exact trivial) (by exact ⟨rfl, rfl, rfl, rfl, rfl, rfl, trivial⟩) (by decide) rfl ?_
    rintro ⟨x27_2, l_5⟩ p_10 m3 gg H68 _
    clear H57
    replace H68 : Yr a0 a1 (it (fun next3 s => Yr a0 a1 next3 s.1 s.2) m3) x27_2 l_5 = some r := H68
    generalize hn3 : it (fun next3 s => Yr a0 a1 next3 s.1 s.2) m3 = next3 at H68
    try dsimp only
    refine Jf ?_
    refine Jb ?_
    refine Ja rfl rfl rfl (Z0 rfl rfl) ?_
    refine Jg ?_
    refine Jf ?_
    refine Qf (b := (decide (x27_2 < (a1.Ints.length : Int)))) rfl (fun hb => ?_) (fun hb => ?_)
    ·have H69 := Jr hb H68; clear H68
     refine Jt ?_
     refine Jf ?_
     refine J4 ?_
     refine Jf ?_
     refine Jb ?_
     obtain ⟨t29, h_t29, H70⟩ := Jh H69; clear H69
     refine Ja rfl rfl rfl (Y6 Try.underlying25 Try.sizeOf3 rfl rfl f1_2 h_t29) ?_
     refine Yw (fun w hF hS => Z6 (f := X1) (i := x27_2) (sz := 1) (j := 0) (v := .int .i64 t29) Try.isAgg3 rfl rfl (f1_2.row (hw.now hF)) h_t29 rfl) rfl rfl rfl ?_
     refine Ja rfl rfl rfl (Jc (v := .int .i64 t29) rfl) ?_
     refine Jg ?_
     refine Jb ?_
     refine Ja rfl rfl rfl (Jd (v := .slice p_10.1 l_5.length p_10.2) rfl) ?_
     refine Ja rfl rfl rfl (Jd (v := .bool a0) rfl) ?_
     refine Ja rfl rfl rfl (Jd (v := .int .i64 t29) rfl) ?_
     refine Ja rfl rfl rfl (Jk Try.runUnderlying29 rfl Try.sizeOf3 rfl rfl) ?_
     refine Jw (i := 0) (v := .int .i64 a1.Kind) Try.isAgg3 rfl rfl rfl rfl rfl ?_
     obtain ⟨t36, h_t36, H71⟩ := Jh H70; clear H70
     refine Zu (k136 h_t36) Try.call136 rfl rfl rfl ?_
     obtain ⟨t37, h_t37, H72⟩ := Jh H71; clear H71
     refine Wp (Xs (rds := []) (G := fun x : (Option Addr × Nat) => .slice x.1 t37.length x.2) (C := fun x : (Option Addr × Nat) => Jz 5 1 (.slice x.1 t37.length x.2) t37.length (t37.map Xa)) (fun w L' hF hS hi => k83 (Jy w)  h_t37) Try.call83 rfl) rfl rfl rfl (fun p_11 => ?_)
     obtain ⟨l38, h_l38, H73⟩ := Jh H72; clear H72
     refine Qs (Xr (i := 1) (hn := rfl) (rds := [2]) (p := p_10) (sz := 1) (by_ := 1) (f := Xa) (ys := l_5) (ls := t37) (V := .slice p_11.1 t37.length p_11.2) Try.underlying133 (Xe Try.typeInfo5) rfl rfl rfl rfl rfl rfl rfl rfl rfl rfl (fun w L' hF hS hi => rowOf (i := 2) hS ((hi 2 (by simp)).trans rfl)) (fun _ => rfl) (fun _ => rfl) h_l38) rfl rfl rfl (fun p_12 => ?_)
     refine Ja rfl rfl rfl (Jc (v := .slice p_12.1 l38.length p_12.2) rfl) ?_
     refine Jg ?_
     refine Jb ?_
     obtain ⟨t39, h_t39, H74⟩ := Jh H73; clear H73
     refine Ja rfl rfl rfl (Qm rfl rfl h_t39) ?_
     refine Ja rfl rfl rfl (Jd (v := .int .i64 t39) rfl) ?_
     refine Jg ?_
     refine Jp (t39, l38) p_12 m3 [0, 1] (by exact ⟨rfl, rfl, rfl, rfl, rfl, rfl, trivial⟩) (by decide) (by kernel_rfl) (by exact ⟨(by subst hn3; exact H74), trivial⟩) (Nat.lt_succ_self _)
    ·have H75 := Jq hb H68; clear H68
     refine Yk ?_
     refine Jp l_5 p_10 0 [0, 1] (by exact ⟨rfl, rfl, rfl, trivial⟩) (by decide) (by kernel_rfl) (by exact ⟨H75, trivial⟩) (Nat.lt_succ_self _)
   ·rintro l p_4 gg H58 _
    replace H58 : Wd a0 a1 l = some r := H58
    try dsimp only
    refine Jf ?_
    refine Jf ?_
    refine Jb ?_
    refine Ja rfl rfl rfl (Jk Try.runUnderlying29 rfl Try.sizeOf26 rfl rfl) ?_
    refine Jw (i := 0) (v := v1_3) Try.isAgg26 rfl rfl rfl rfl rfl ?_
    refine Ja rfl rfl rfl (r_lenF Try.underlying26 rfl f1_3 rfl) ?_
    refine Ja rfl rfl rfl (Jd (v := .int .i64 0) rfl) ?_
    refine Jg ?_
    refine J4 ?_
    refine c_dr 0 ?_
    try dsimp only [z1, z2, z3, z4, z5, z6, z7, z8]
    refine V2 (σ := Int × (List Int)) (τ := (Option Addr × Nat)) (fun next2 s => Yt a0 a1 next2 s.1 s.2) (fun s t => [(0, .bool a0), (5, .slice t.1 s.2.length t.2), (41, v1_3), (42, .int .i64 (a1.Ratios.length : Int)), (43, .int .i64 s.1)]) (fun s t => [Jz 5 1 (.slice t.1 s.2.length t.2) s.2.length (s.2.map Xa)]) (fun s t => True) (0, l) p_4 [0] H58 (by exact trivial) (by exact ⟨rfl, rfl, rfl, rfl, rfl, trivial⟩) (by decide) rfl ?_
    rintro ⟨x43_2, l_3⟩ p_5 m2 gg H59 _
    clear H58
    replace H59 : Yt a0 a1 (it (fun next2 s => Yt a0 a1 next2 s.1 s.2) m2) x43_2 l_3 = some r := H59
    generalize hn2 : it (fun next2 s => Yt a0 a1 next2 s.1 s.2) m2 = next2 at H59
    try dsimp only
    refine Jf ?_
    refine Jb ?_
    refine Ja rfl rfl rfl (Z0 rfl rfl) ?_
    refine Jg ?_
    refine Jf ?_
    refine Qf (b := (decide (x43_2 < (a1.Ratios.length : Int)))) rfl (fun hb => ?_) (fun hb => ?_)
    ·have H60 := Jr hb H59; clear H59
     refine Jt ?_
     refine Jf ?_
     refine J4 ?_
     refine Jf ?_
     refine Jb ?_
     obtain ⟨t45, h_t45, H61⟩ := Jh H60; clear H60
     refine Ja rfl rfl rfl (Y6 Try.underlying26 Try.sizeOf103 rfl rfl f1_3 h_t45) ?_
     refine Yw (fun w hF hS => Zp (f := Qd) (i := x43_2) (sz := 2) (j := 0) (vs := [.int .i64 t45.Num, .int .i64 t45.Den]) Try.isAgg103 Try.sizeOf103 rfl rfl (f1_3.row (hw.now hF)) h_t45 rfl) rfl rfl rfl ?_
     refine Zc (cs := [.int .i64 0, .int .i64 0]) Try.zeroValue103 rfl rfl rfl (fun b8 => ?_)
     refine Qy (i := 1) (vs := [.int .i64 t45.Num, .int .i64 t45.Den]) (cs' := [.int .i64 t45.Num, .int .i64 t45.Den]) Try.sizeOf103 rfl rfl rfl rfl rfl rfl rfl rfl rfl ?_
     refine Jg ?_
     refine Jf ?_
     refine Jb ?_
     refine Ja rfl rfl rfl (Jd (v := .slice p_5.1 l_3.length p_5.2) rfl) ?_
     refine Ja rfl rfl rfl (Jd (v := .bool a0) rfl) ?_
     refine Ja rfl rfl rfl (Jk Try.runUnderlying103 rfl Try.sizeOf3 rfl rfl) ?_
     refine Jw (i := 1) (v := .int .i64 t45.Num) Try.isAgg3 rfl rfl rfl rfl rfl ?_
     obtain ⟨t51, h_t51, H62⟩ := Jh H61; clear H61
     refine Wp (Xs (rds := []) (G := fun x : (Option Addr × Nat) => .slice x.1 t51.length x.2) (C := fun x : (Option Addr × Nat) => Jz 5 1 (.slice x.1 t51.length x.2) t51.length (t51.map Xa)) (fun w L' hF hS hi => k83 (Jy w)  h_t51) Try.call83 rfl) rfl rfl rfl (fun p_6 => ?_)
     obtain ⟨l52, h_l52, H63⟩ := Jh H62; clear H62
     refine Qs (Xr (i := 0) (hn := rfl) (rds := [2]) (p := p_5) (sz := 1) (by_ := 1) (f := Xa) (ys := l_3) (ls := t51) (V := .slice p_6.1 t51.length p_6.2) Try.underlying133 (Xe Try.typeInfo5) rfl rfl rfl rfl rfl rfl rfl rfl rfl rfl (fun w L' hF hS hi => rowOf (i := 2) hS ((hi 2 (by simp)).trans rfl)) (fun _ => rfl) (fun _ => rfl) h_l52) rfl rfl rfl (fun p_7 => ?_)
     refine Ja rfl rfl rfl (Jc (v := .slice p_7.1 l52.length p_7.2) rfl) ?_
     refine Jg ?_
     refine Jb ?_
     refine Ja rfl rfl rfl (Jd (v := .slice p_7.1 l52.length p_7.2) rfl) ?_
     refine Ja rfl rfl rfl (Jd (v := .bool a0) rfl) ?_
     refine Ja rfl rfl rfl (Jk Try.runUnderlying103 rfl Try.sizeOf3 rfl rfl) ?_
     refine Jw (i := 1) (v := .int .i64 t45.Den) Try.isAgg3 rfl rfl rfl rfl rfl ?_
     obtain ⟨t57, h_t57, H64⟩ := Jh H63; clear H63
     refine Wp (Xs (rds := []) (G := fun x : (Option Addr × Nat) => .slice x.1 t57.length x.2) (C := fun x : (Option Addr × Nat) => Jz 5 1 (.slice x.1 t57.length x.2) t57.length (t57.map Xa)) (fun w L' hF hS hi => k83 (Jy w)  h_t57) Try.call83 rfl) rfl rfl rfl (fun p_8 => ?_)
     obtain ⟨l58, h_l58, H65⟩ := Jh H64; clear H64
     refine Qs (Xr (i := 0) (hn := rfl) (rds := [3]) (p := p_7) (sz := 1) (by_ := 1) (f := Xa) (ys := l52) (ls := t57) (V := .slice p_8.1 t57.length p_8.2) Try.underlying133 (Xe Try.typeInfo5) rfl rfl rfl rfl rfl rfl rfl rfl rfl rfl (fun w L' hF hS hi => rowOf (i := 3) hS ((hi 3 (by simp)).trans rfl)) (fun _ => rfl) (fun _ => rfl) h_l58) rfl rfl rfl (fun p_9 => ?_)
     refine Ja rfl rfl rfl (Jc (v := .slice p_9.1 l58.length p_9.2) rfl) ?_
     refine Jg ?_
     try dsimp only [z1, z2, z5, z6, z7, z8]
     refine Jb ?_
     obtain ⟨t59, h_t59, H66⟩ := Jh H65; clear H65
     refine Ja rfl rfl rfl (Qm rfl rfl h_t59) ?_
     refine Ja rfl rfl rfl (Jd (v := .int .i64 t59) rfl) ?_
     refine Jg ?_
     refine Jp (t59, l58) p_9 m2 [0] (by exact ⟨rfl, rfl, rfl, rfl, rfl, trivial⟩) (by decide) (by kernel_rfl) (by exact ⟨(by subst hn2; exact H66), trivial⟩) (Nat.lt_succ_self _)
    ·have H67 := Jq hb H59; clear H59
     refine Yk ?_
     refine Jf ?_
     refine Jb ?_
     refine Ja rfl rfl rfl (Jd (v := .slice p_5.1 l_3.length p_5.2) rfl) ?_
     refine Ja rfl rfl rfl (Jc (v := .slice p_5.1 l_3.length p_5.2) rfl) ?_
     refine Jg ?_
     refine Ju ?_
     obtain rfl := Option.some.inj H67
     refine Xv 0 rfl (row_ro _ _ _ _ _) ?_
     refine Qq (v := .slice p_5.1 l_3.length p_5.2) rfl rfl (Vl p_5 (i := 0) rfl rfl (Imp.refl _))
theorem k90 {a0 : T_tag_writer} {pb0 : Nat} {p0_1 : Option Addr × Nat} {n0_1 : Nat} {r : Int × T_tag_writer} {w : World} {h : J3} {S : Nat → Prop} (hcs : (J0 (Jl pb0 [.bool a0.big_, .slice p0_1.1 n0_1 p0_1.2] 138) (Jz 5 1 (.slice p0_1.1 n0_1 p0_1.2) n0_1 (a0.out_.map Xa))).P S w) (hlt : ∀ b, S b → b < w.heap.size) (hw : Know h w S) (hn0_1 : n0_1 = a0.out_.length) (H : Vv a0 = some r) : Does Try.prog 90 (List.toArray [.pointer (some ⟨pb0, 0, none⟩)]) w (fun v w' => ∃ x : (Option Addr × Nat), v = (.int .i64 r.1) ∧ Turn w w' S (J0 (Jl pb0 [.bool r.2.big_, .slice x.1 r.2.out_.length x.2] 138) (Jz 5 1 (.slice x.1 r.2.out_.length x.2) r.2.out_.length (r.2.out_.map Xa)))) := by
 refine enter (n := 24) Try.func90 rfl rfl rfl S [J0 (Jl pb0 [.bool a0.big_, .slice p0_1.1 n0_1 p0_1.2] 138) (Jz 5 1 (.slice p0_1.1 n0_1 p0_1.2) n0_1 (a0.out_.map Xa))] (Sat.one hcs hlt) ?_
 refine Xo 0 rfl ?_
 refine Jf ?_
 refine Jb ?_
 refine Ja rfl rfl rfl (Jc (v := .int .i64 0) rfl) ?_
 refine Jg ?_
 refine Xq (r := r) (σ := (List Int)) (τ := (Option Addr × Nat) × Nat) (fun s => Zq a0 s) (fun s t => [(0, .pointer (some ⟨pb0, 0, none⟩))]) (fun s t => [Jl pb0 [.bool a0.big_, .slice t.1.1 t.2 t.1.2] 138, Jz 5 1 (.slice t.1.1 t.2 t.1.2) t.2 (s.map Xa)]) (fun s t => t.2 = s.length) ?_ ?_
 ·refine Jf ?_
  refine Jb ?_
  refine Ja rfl rfl rfl (Jd (v := .pointer (some ⟨pb0, 0, none⟩)) rfl) ?_
  refine Ja rfl rfl rfl (Js rfl) ?_
  refine Ja rfl rfl rfl (Jk Try.runUnderlying138 rfl Try.sizeOf133 rfl rfl) ?_
  refine Jw (i := 0) (v := .slice p0_1.1 n0_1 p0_1.2) Try.isAgg133 rfl rfl rfl rfl rfl ?_
  refine Ja rfl rfl rfl (r_lenN Try.underlying133 rfl hn0_1) ?_
  obtain ⟨t8, h_t8, H7⟩ := Jh H; clear H
  refine Ja rfl rfl rfl (r_remG rfl rfl h_t8) ?_
  refine Ja rfl rfl rfl (Zr rfl rfl) ?_
  refine Jg ?_
  refine Qf (b := (decide (t8 ≠ 0))) rfl (fun hb => ?_) (fun hb => ?_)
  ·have H8 := Jr hb H7; clear H7
   refine Jb ?_
   refine Ja rfl rfl rfl (Jd (v := .pointer (some ⟨pb0, 0, none⟩)) rfl) ?_
   refine Ja rfl rfl rfl (Jd (v := .pointer (some ⟨pb0, 0, none⟩)) rfl) ?_
   refine Ja rfl rfl rfl (Js rfl) ?_
   refine Ja rfl rfl rfl (Jk Try.runUnderlying138 rfl Try.sizeOf133 rfl rfl) ?_
   refine Jw (i := 0) (v := .slice p0_1.1 n0_1 p0_1.2) Try.isAgg133 rfl rfl rfl rfl rfl ?_
   refine Qx (vs := [.int .u8 0]) (cs := [.int .u8 0]) Try.underlying133 Try.sizeOf5 Try.zeroValue5 rfl rfl rfl rfl rfl rfl rfl (fun b1 => ?_)
   obtain ⟨l16, h_l16, H9⟩ := Jh H8; clear H8
   refine Qs (Xr (i := 1) (hn := hn0_1) (rds := [2]) (p := p0_1) (sz := 1) (by_ := 1) (f := Xa) (ys := a0.out_) (ls := ([0] : List Int)) (V := .slice (some ⟨b1, 0, none⟩) 1 1) Try.underlying133 (Xe Try.typeInfo5) rfl rfl rfl rfl rfl rfl rfl rfl rfl rfl (fun w L' hF hS hi => Wr (i := 2) hS ((hi 2 (by simp)).trans rfl) rfl rfl) (fun _ => rfl) (fun _ => rfl) h_l16) rfl rfl rfl (fun p_2 => ?_)
   refine Ja rfl rfl rfl (Js rfl) ?_
   refine Ja rfl rfl rfl (Jk Try.runUnderlying138 rfl Try.sizeOf133 rfl rfl) ?_
   refine Qy (i := 0) (vs := [.slice p_2.1 l16.length p_2.2]) (cs' := [.bool a0.big_, .slice p_2.1 l16.length p_2.2]) Try.sizeOf133 rfl rfl rfl rfl rfl rfl rfl rfl rfl ?_
   refine Jg ?_
   refine Jp l16 (p_2, l16.length) 0 [0, 1] (by exact ⟨rfl, trivial⟩) (by decide) (by kernel_rfl) (by exact ⟨H9, rfl⟩) (Nat.lt_succ_self _)
  ·have H10 := Jq hb H7; clear H7
   refine Jt ?_
   refine Jp a0.out_ (p0_1, n0_1) 0 [0, 1] (by exact ⟨rfl, trivial⟩) (by decide) (by kernel_rfl) (by exact ⟨H10, hn0_1⟩) (Nat.lt_succ_self _)
 ·rintro l ⟨p, n⟩ gg H6 hl
  replace H6 : Zq a0 l = some r := H6
  try dsimp only
  refine Jf ?_
  refine Jb ?_
  refine Ja rfl rfl rfl (Jd (v := .pointer (some ⟨pb0, 0, none⟩)) rfl) ?_
  refine Ja rfl rfl rfl (Js rfl) ?_
  refine Ja rfl rfl rfl (Jk Try.runUnderlying138 rfl Try.sizeOf133 rfl rfl) ?_
  refine Jw (i := 0) (v := .slice p.1 n p.2) Try.isAgg133 rfl rfl rfl rfl rfl ?_
  refine Ja rfl rfl rfl (r_lenN Try.underlying133 rfl hl) ?_
  refine Ja rfl rfl rfl (Jc (v := .int .i64 (l.length : Int)) rfl) ?_
  refine Jg ?_
  refine Ju ?_
  obtain rfl := Option.some.inj H6
  refine Jv 0 1 rfl rfl (by decide) ?_
  refine Qq (v := .int .i64 (l.length : Int)) rfl rfl (Vl p (i := 0) rfl (by first | rfl | rw [(show n = l.length from hl)]) (by first | exact Imp.refl _ | exact Imp.of (by rw [(show n = l.length from hl)] <;> rfl)))
theorem k116_it (mm : Nat) : ∀ {a0 : T_tag_writer} {pb0 : Nat} {p0_1 : Option Addr × Nat} {n0_1 : Nat} {a1 : (List T_tag_Entry)} {v1 : Value} {r : Int × Int × T_tag_writer} {w : World} {h : J3} {S : Nat → Prop} (hcs : (J0 (Jl pb0 [.bool a0.big_, .slice p0_1.1 n0_1 p0_1.2] 138) (Jz 5 1 (.slice p0_1.1 n0_1 p0_1.2) n0_1 (a0.out_.map Xa))).P S w) (hlt : ∀ b, S b → b < w.heap.size) (hw : Know h w S) (hn0_1 : n0_1 = a0.out_.length) (f1 : FrN h 6 v1 g_tag_Entry a1) (H : it (fun (self : (T_tag_writer × (List T_tag_Entry)) → Option (Int × Int × T_tag_writer)) (s : T_tag_writer × (List T_tag_Entry)) => Xw self s.1 s.2) mm (a0, a1) = some r), Does Try.prog 116 (List.toArray [.pointer (some ⟨pb0, 0, none⟩), v1]) w (fun v w' => ∃ x : (Option Addr × Nat), v = (.tuple #[.int .i64 r.1, .int .i64 r.2.1]) ∧ Turn w w' S (J0 (Jl pb0 [.bool r.2.2.big_, .slice x.1 r.2.2.out_.length x.2] 138) (Jz 5 1 (.slice x.1 r.2.2.out_.length x.2) r.2.2.out_.length (r.2.2.out_.map Xa)))) := by
 induction mm with
 | zero => intros; rename_i H; exact absurd H (by simp [it])
 | succ mm ih =>
  intro a0 pb0 p0_1 n0_1 a1 v1 r w h S hcs hlt hw hn0_1 f1 H
  replace H : Xw (it (fun (self : (T_tag_writer × (List T_tag_Entry)) → Option (Int × Int × T_tag_writer)) (s : T_tag_writer × (List T_tag_Entry)) => Xw self s.1 s.2) mm) a0 a1 = some r := H
  generalize it (fun (self : (T_tag_writer × (List T_tag_Entry)) → Option (Int × Int × T_tag_writer)) (s : T_tag_writer × (List T_tag_Entry)) => Xw self s.1 s.2) mm = self at H ih
  refine enter (n := 172) Try.func116 rfl rfl rfl S [J0 (Jl pb0 [.bool a0.big_, .slice p0_1.1 n0_1 p0_1.2] 138) (Jz 5 1 (.slice p0_1.1 n0_1 p0_1.2) n0_1 (a0.out_.map Xa))] (Sat.one hcs hlt) ?_
  refine Xo 0 rfl ?_
  refine Jf ?_
  refine Jb ?_
  refine Ja rfl rfl rfl (Jc (v := .int .i64 0) rfl) ?_
  refine Ja rfl rfl rfl (Jc (v := .int .i64 0) rfl) ?_
  refine Jg ?_
  refine Jf ?_
  refine Jb ?_
  refine Ja rfl rfl rfl (Jd (v := .pointer (some ⟨pb0, 0, none⟩)) rfl) ?_
  obtain ⟨t15, h_t15, H41⟩ := Jh H; clear H
  refine Jv 0 1 rfl rfl (by decide) ?_
  refine Qs (Qj (i := 0) (rds := []) (G := fun x : (Option Addr × Nat) => .int .i64 t15.1) (C := fun x : (Option Addr × Nat) => J0 (Jl pb0 [.bool t15.2.big_, .slice x.1 t15.2.out_.length x.2] 138) (Jz 5 1 (.slice x.1 t15.2.out_.length x.2) t15.2.out_.length (t15.2.out_.map Xa))) rfl (fun w L' S hF hS hi hp hlt ho hA => k90 hp hlt (Xg w S) hn0_1 h_t15) Try.call90 rfl) rfl rfl rfl (fun p => ?_)
  refine J5 0 1 rfl rfl (by decide) ?_
  refine Ja rfl rfl rfl (Jc (v := .int .i64 t15.1) rfl) ?_
  refine Jg ?_
  refine Jf ?_
  exact Xf (Kd.p :: Kd.p :: Kd.p :: Kd.p :: Kd.d [0] _ :: Kd.p :: Kd.p :: Kd.p :: Kd.d [0] _ :: Kd.p :: Kd.p :: Kd.t 2 [] _ _ :: Kd.t 1 [2] _ _ :: Kd.p :: Kd.p :: Kd.sv 30 28 0 _ 138 :: []) 1 mixed (by
   refine Jn rfl rfl (Jd (v := .pointer (some ⟨pb0, 0, none⟩)) rfl) ?_
   refine Jn rfl rfl (Jd (v := .pointer (some ⟨pb0, 0, none⟩)) rfl) ?_
   refine Jn rfl rfl (Js rfl) ?_
   refine Jn rfl rfl (Jk Try.runUnderlying138 rfl Try.sizeOf133 rfl rfl) ?_
   refine Yh (i := 0) (v := .slice p.1 t15.2.out_.length p.2) Try.isAgg133 rfl rfl rfl rfl ?_
   refine Jn rfl rfl (Jd (v := .pointer (some ⟨pb0, 0, none⟩)) rfl) ?_
   refine Jn rfl rfl (Js rfl) ?_
   refine Jn rfl rfl (Jk Try.runUnderlying138 rfl Try.sizeOf4 rfl rfl) ?_
   refine Yh (i := 0) (v := .bool t15.2.big_) Try.isAgg4 rfl rfl rfl rfl ?_
   refine Jn rfl rfl (Jd (v := v1) rfl) ?_
   refine Jn rfl rfl (Zf Try.underlying27 rfl f1) ?_
   have h_t27 := Qi H41
   have H42 := J6 H41
   refine d_make (Cv := fun v => Jz 5 1 v (val (Jj t15.2.big_ (a1.length : Int) 2)).length ((val (Jj t15.2.big_ (a1.length : Int) 2)).map Xa)) (none, 0) (Xs (G := fun x : (Option Addr × Nat) => .slice x.1 (val (Jj t15.2.big_ (a1.length : Int) 2)).length x.2) (C := fun x : (Option Addr × Nat) => Jz 5 1 (.slice x.1 (val (Jj t15.2.big_ (a1.length : Int) 2)).length x.2) (val (Jj t15.2.big_ (a1.length : Int) 2)).length ((val (Jj t15.2.big_ (a1.length : Int) 2)).map Xa)) (fun w L' hF hS hi => k83 (Jy w)  h_t27) Try.call83 rfl) (fun _ => rfl) rfl rfl rfl (fun p_2 => ?_)
   have h_l28 := Qi H42
   have H43 := J6 H42
   refine d_turn (Cv := fun v => Jz 5 1 v (val (X0 1 t15.2.out_ (val (Jj t15.2.big_ (a1.length : Int) 2)))).length ((val (X0 1 t15.2.out_ (val (Jj t15.2.big_ (a1.length : Int) 2)))).map Xa)) (none, 0) (Xr (i := 1) (hn := rfl) (rds := [2]) (p := p) (sz := 1) (by_ := 1) (f := Xa) (ys := t15.2.out_) (ls := (val (Jj t15.2.big_ (a1.length : Int) 2))) (V := .slice p_2.1 (val (Jj t15.2.big_ (a1.length : Int) 2)).length p_2.2) Try.underlying133 (Xe Try.typeInfo5) rfl rfl rfl rfl rfl rfl rfl rfl rfl rfl (fun w L' hF hS hi => rowOf (i := 2) hS ((hi 2 (by simp)).trans rfl)) (fun _ => rfl) (fun _ => rfl) h_l28) (fun _ => rfl) rfl rfl (fun p_3 => ?_)
   refine Jn rfl rfl (Js rfl) ?_
   refine Jn rfl rfl (Jk Try.runUnderlying138 rfl Try.sizeOf133 rfl rfl) ?_
   refine d_storeV (i := 0) (vs := [.slice p_3.1 (val (X0 1 t15.2.out_ (val (Jj t15.2.big_ (a1.length : Int) 2)))).length p_3.2]) (cs' := fun v_ => [.bool t15.2.big_, v_]) Try.sizeOf133 rfl rfl rfl rfl rfl rfl rfl rfl rfl ?_
   refine V1 ?_
   refine Xq (r := r) (σ := (List Int)) (τ := (Option Addr × Nat)) (fun s => Zj a1 self t15 s) (fun s t => [(0, .pointer (some ⟨pb0, 0, none⟩)), (1, v1), (4, .int .i64 t15.1)]) (fun s t => [Jl pb0 [.bool t15.2.big_, .slice t.1 s.length t.2] 138, Jz 5 1 (.slice t.1 s.length t.2) s.length (s.map Xa)]) (fun s t => True) ?_ ?_
   ·refine Jf ?_
    refine Jb ?_
    refine Ja rfl rfl rfl (Jd (v := v1) rfl) ?_
    refine Ja rfl rfl rfl (Zf Try.underlying27 rfl f1) ?_
    refine Ja rfl rfl rfl (Jd (v := .int .i64 0) rfl) ?_
    refine Jg ?_
    refine J4 ?_
    refine c_dr 2 ?_
    try dsimp only [z1, z2, z3, z4, z5, z6, z7, z8]
    refine V2 (σ := Int × (List Int)) (τ := (Option Addr × Nat)) (fun next5 s => Xd a1 self t15 next5 s.1 s.2) (fun s t => [(0, .pointer (some ⟨pb0, 0, none⟩)), (1, v1), (4, .int .i64 t15.1), (31, v1), (32, .int .i64 (a1.length : Int)), (33, .int .i64 s.1)]) (fun s t => [Jl pb0 [.bool t15.2.big_, .slice t.1 s.2.length t.2] 138, Jz 5 1 (.slice t.1 s.2.length t.2) s.2.length (s.2.map Xa)]) (fun s t => True) (0, (val (X0 1 t15.2.out_ (val (Jj t15.2.big_ (a1.length : Int) 2))))) p_3 [0, 1] H43 (by exact trivial) (by exact ⟨rfl, rfl, rfl, rfl, rfl, rfl, trivial⟩) (by decide) rfl ?_
    rintro ⟨x33_2, l_7⟩ p_15 m5 gg H68 _
    clear H43
    replace H68 : Xd a1 self t15 (it (fun next5 s => Xd a1 self t15 next5 s.1 s.2) m5) x33_2 l_7 = some r := H68
    generalize hn5 : it (fun next5 s => Xd a1 self t15 next5 s.1 s.2) m5 = next5 at H68
    try dsimp only
    refine Jf ?_
    refine Jb ?_
    refine Ja rfl rfl rfl (Z0 rfl rfl) ?_
    refine Jg ?_
    refine Jf ?_
    refine Qf (b := (decide (x33_2 < (a1.length : Int)))) rfl (fun hb => ?_) (fun hb => ?_)
    ·have H69 := Jr hb H68; clear H68
     refine Jt ?_
     refine Jf ?_
     refine J4 ?_
     refine Jf ?_
     refine Jb ?_
     obtain ⟨t35, h_t35, H70⟩ := Jh H69; clear H69
     refine Ja rfl rfl rfl (Y6 Try.underlying27 Try.sizeOf96 rfl rfl f1.frs (f1.ix h_t35)) ?_
     refine Yw (fun w hF hS => Zp (f := (elC h v1 6)) (i := x33_2) (sz := 6) (j := 0) (vs := [.int .i64 t35.Tag, .int .i64 t35.Value.Kind, str t35.Value.Text, (Yq h v1 6 (Int.toNat x33_2) 3), (Yq h v1 6 (Int.toNat x33_2) 4), (Yq h v1 6 (Int.toNat x33_2) 5)]) Try.isAgg96 Try.sizeOf96 rfl rfl (f1.frs.row (hw.now hF)) (f1.ix h_t35) (rd_of (Ws (f1.at h_t35)) rfl)) rfl rfl rfl ?_
     refine Zc (cs := [.int .i64 0, .int .i64 0, str [], .slice none 0 0, .slice none 0 0, .slice none 0 0]) Try.zeroValue96 rfl rfl rfl (fun b6 => ?_)
     refine Qy (i := 2) (vs := [.int .i64 t35.Tag, .int .i64 t35.Value.Kind, str t35.Value.Text, (Yq h v1 6 (Int.toNat x33_2) 3), (Yq h v1 6 (Int.toNat x33_2) 4), (Yq h v1 6 (Int.toNat x33_2) 5)]) (cs' := [.int .i64 t35.Tag, .int .i64 t35.Value.Kind, str t35.Value.Text, (Yq h v1 6 (Int.toNat x33_2) 3), (Yq h v1 6 (Int.toNat x33_2) 4), (Yq h v1 6 (Int.toNat x33_2) 5)]) Try.sizeOf96 rfl rfl rfl rfl rfl rfl (by simp only [List.all_cons, List.all_nil, (show FrN h 6 (Yq h v1 6 (Int.toNat x33_2) 5) g_tag_Entry t35.Value.Entries from (Xj (Jx (f1.at h_t35)))).one, (show FrS h 1 (Yq h v1 6 (Int.toNat x33_2) 3) (t35.Value.Ints.map X1) from (X9 (Jx (f1.at h_t35)))).one, (show FrS h 2 (Yq h v1 6 (Int.toNat x33_2) 4) (t35.Value.Ratios.map Qd) from (Yd (Jx (f1.at h_t35)))).one] <;> rfl) rfl rfl ?_
     refine Jg ?_
     refine Jf ?_
     exact Xf (Kd.p :: Kd.p :: Kd.p :: Kd.p :: Kd.d [0] _ :: Kd.p :: Kd.p :: Kd.p :: Kd.d [0] _ :: Kd.p :: Kd.d [2] _ :: Kd.t 3 [] _ _ :: Kd.t 1 [3] _ _ :: Kd.p :: Kd.p :: Kd.sv 51 49 0 _ 138 :: []) 1 mixed (by
      refine Jn rfl rfl (Jd (v := .pointer (some ⟨pb0, 0, none⟩)) rfl) ?_
      refine Jn rfl rfl (Jd (v := .pointer (some ⟨pb0, 0, none⟩)) rfl) ?_
      refine Jn rfl rfl (Js rfl) ?_
      refine Jn rfl rfl (Jk Try.runUnderlying138 rfl Try.sizeOf133 rfl rfl) ?_
      refine Yh (i := 0) (v := .slice p_15.1 l_7.length p_15.2) Try.isAgg133 rfl rfl rfl rfl ?_
      refine Jn rfl rfl (Jd (v := .pointer (some ⟨pb0, 0, none⟩)) rfl) ?_
      refine Jn rfl rfl (Js rfl) ?_
      refine Jn rfl rfl (Jk Try.runUnderlying138 rfl Try.sizeOf4 rfl rfl) ?_
      refine Yh (i := 0) (v := .bool t15.2.big_) Try.isAgg4 rfl rfl rfl rfl ?_
      refine Jn rfl rfl (Jk Try.runUnderlying96 rfl Try.sizeOf3 rfl rfl) ?_
      refine Yh (i := 2) (v := .int .i64 t35.Tag) Try.isAgg3 rfl rfl rfl rfl ?_
      have h_t48 := Qi H70
      have H71 := J6 H70
      refine d_make (Cv := fun v => Jz 5 1 v (val (Jj t15.2.big_ t35.Tag 2)).length ((val (Jj t15.2.big_ t35.Tag 2)).map Xa)) (none, 0) (Xs (G := fun x : (Option Addr × Nat) => .slice x.1 (val (Jj t15.2.big_ t35.Tag 2)).length x.2) (C := fun x : (Option Addr × Nat) => Jz 5 1 (.slice x.1 (val (Jj t15.2.big_ t35.Tag 2)).length x.2) (val (Jj t15.2.big_ t35.Tag 2)).length ((val (Jj t15.2.big_ t35.Tag 2)).map Xa)) (fun w L' hF hS hi => k83 (Jy w)  h_t48) Try.call83 rfl) (fun _ => rfl) rfl rfl rfl (fun p_16 => ?_)
      have h_l49 := Qi H71
      have H72 := J6 H71
      refine d_turn (Cv := fun v => Jz 5 1 v (val (X0 1 l_7 (val (Jj t15.2.big_ t35.Tag 2)))).length ((val (X0 1 l_7 (val (Jj t15.2.big_ t35.Tag 2)))).map Xa)) (none, 0) (Xr (i := 1) (hn := rfl) (rds := [3]) (p := p_15) (sz := 1) (by_ := 1) (f := Xa) (ys := l_7) (ls := (val (Jj t15.2.big_ t35.Tag 2))) (V := .slice p_16.1 (val (Jj t15.2.big_ t35.Tag 2)).length p_16.2) Try.underlying133 (Xe Try.typeInfo5) rfl rfl rfl rfl rfl rfl rfl rfl rfl rfl (fun w L' hF hS hi => rowOf (i := 3) hS ((hi 3 (by simp)).trans rfl)) (fun _ => rfl) (fun _ => rfl) h_l49) (fun _ => rfl) rfl rfl (fun p_17 => ?_)
      refine Jn rfl rfl (Js rfl) ?_
      refine Jn rfl rfl (Jk Try.runUnderlying138 rfl Try.sizeOf133 rfl rfl) ?_
      refine d_storeV (i := 0) (vs := [.slice p_17.1 (val (X0 1 l_7 (val (Jj t15.2.big_ t35.Tag 2)))).length p_17.2]) (cs' := fun v_ => [.bool t15.2.big_, v_]) Try.sizeOf133 rfl rfl rfl rfl rfl rfl rfl rfl rfl ?_
      refine V1 ?_
      refine Jf ?_
      exact Xf (Kd.p :: Kd.p :: Kd.p :: Kd.p :: Kd.d [0] _ :: Kd.p :: Kd.p :: Kd.p :: Kd.d [0] _ :: Kd.p :: Kd.p :: Kd.d [2] _ :: Kd.t 4 [] _ _ :: Kd.t 1 [4] _ _ :: Kd.p :: Kd.p :: Kd.sv 67 65 0 _ 138 :: []) 1 mixed (by
       refine Jn rfl rfl (Jd (v := .pointer (some ⟨pb0, 0, none⟩)) rfl) ?_
       refine Jn rfl rfl (Jd (v := .pointer (some ⟨pb0, 0, none⟩)) rfl) ?_
       refine Jn rfl rfl (Js rfl) ?_
       refine Jn rfl rfl (Jk Try.runUnderlying138 rfl Try.sizeOf133 rfl rfl) ?_
       refine Yh (i := 0) (v := .slice p_17.1 (val (X0 1 l_7 (val (Jj t15.2.big_ t35.Tag 2)))).length p_17.2) Try.isAgg133 rfl rfl rfl rfl ?_
       refine Jn rfl rfl (Jd (v := .pointer (some ⟨pb0, 0, none⟩)) rfl) ?_
       refine Jn rfl rfl (Js rfl) ?_
       refine Jn rfl rfl (Jk Try.runUnderlying138 rfl Try.sizeOf4 rfl rfl) ?_
       refine Yh (i := 0) (v := .bool t15.2.big_) Try.isAgg4 rfl rfl rfl rfl ?_
       refine Jn rfl rfl (Jk Try.runUnderlying96 rfl Try.sizeOf29 rfl rfl) ?_
       refine Jn rfl rfl (Jk Try.runUnderlying29 rfl Try.sizeOf3 rfl rfl) ?_
       refine Yh (i := 2) (v := .int .i64 t35.Value.Kind) Try.isAgg3 rfl rfl rfl rfl ?_
       have h_t64 := Qi H72
       have H73 := J6 H72
       refine d_make (Cv := fun v => Jz 5 1 v (val (Jj t15.2.big_ t35.Value.Kind 2)).length ((val (Jj t15.2.big_ t35.Value.Kind 2)).map Xa)) (none, 0) (Xs (G := fun x : (Option Addr × Nat) => .slice x.1 (val (Jj t15.2.big_ t35.Value.Kind 2)).length x.2) (C := fun x : (Option Addr × Nat) => Jz 5 1 (.slice x.1 (val (Jj t15.2.big_ t35.Value.Kind 2)).length x.2) (val (Jj t15.2.big_ t35.Value.Kind 2)).length ((val (Jj t15.2.big_ t35.Value.Kind 2)).map Xa)) (fun w L' hF hS hi => k83 (Jy w)  h_t64) Try.call83 rfl) (fun _ => rfl) rfl rfl rfl (fun p_18 => ?_)
       have h_l65 := Qi H73
       have H74 := J6 H73
       refine d_turn (Cv := fun v => Jz 5 1 v (val (X0 1 (val (X0 1 l_7 (val (Jj t15.2.big_ t35.Tag 2)))) (val (Jj t15.2.big_ t35.Value.Kind 2)))).length ((val (X0 1 (val (X0 1 l_7 (val (Jj t15.2.big_ t35.Tag 2)))) (val (Jj t15.2.big_ t35.Value.Kind 2)))).map Xa)) (none, 0) (Xr (i := 1) (hn := rfl) (rds := [4]) (p := p_17) (sz := 1) (by_ := 1) (f := Xa) (ys := (val (X0 1 l_7 (val (Jj t15.2.big_ t35.Tag 2))))) (ls := (val (Jj t15.2.big_ t35.Value.Kind 2))) (V := .slice p_18.1 (val (Jj t15.2.big_ t35.Value.Kind 2)).length p_18.2) Try.underlying133 (Xe Try.typeInfo5) rfl rfl rfl rfl rfl rfl rfl rfl rfl rfl (fun w L' hF hS hi => rowOf (i := 4) hS ((hi 4 (by simp)).trans rfl)) (fun _ => rfl) (fun _ => rfl) h_l65) (fun _ => rfl) rfl rfl (fun p_19 => ?_)
       refine Jn rfl rfl (Js rfl) ?_
       refine Jn rfl rfl (Jk Try.runUnderlying138 rfl Try.sizeOf133 rfl rfl) ?_
       refine d_storeV (i := 0) (vs := [.slice p_19.1 (val (X0 1 (val (X0 1 l_7 (val (Jj t15.2.big_ t35.Tag 2)))) (val (Jj t15.2.big_ t35.Value.Kind 2)))).length p_19.2]) (cs' := fun v_ => [.bool t15.2.big_, v_]) Try.sizeOf133 rfl rfl rfl rfl rfl rfl rfl rfl rfl ?_
       refine V1 ?_
       refine Jf ?_
       exact Xf (Kd.p :: Kd.p :: Kd.p :: Kd.p :: Kd.d [0] _ :: Kd.p :: Kd.p :: Kd.p :: Kd.d [0] _ :: Kd.p :: Kd.d [2] _ :: Kd.d [] _ :: Kd.t 5 [] _ _ :: Kd.t 1 [5] _ _ :: Kd.p :: Kd.p :: Kd.sv 83 81 0 _ 138 :: []) 1 mixed (by
        refine Jn rfl rfl (Jd (v := .pointer (some ⟨pb0, 0, none⟩)) rfl) ?_
        refine Jn rfl rfl (Jd (v := .pointer (some ⟨pb0, 0, none⟩)) rfl) ?_
        refine Jn rfl rfl (Js rfl) ?_
        refine Jn rfl rfl (Jk Try.runUnderlying138 rfl Try.sizeOf133 rfl rfl) ?_
        refine Yh (i := 0) (v := .slice p_19.1 (val (X0 1 (val (X0 1 l_7 (val (Jj t15.2.big_ t35.Tag 2)))) (val (Jj t15.2.big_ t35.Value.Kind 2)))).length p_19.2) Try.isAgg133 rfl rfl rfl rfl ?_
        refine Jn rfl rfl (Jd (v := .pointer (some ⟨pb0, 0, none⟩)) rfl) ?_
        refine Jn rfl rfl (Js rfl) ?_
        refine Jn rfl rfl (Jk Try.runUnderlying138 rfl Try.sizeOf4 rfl rfl) ?_
        refine Yh (i := 0) (v := .bool t15.2.big_) Try.isAgg4 rfl rfl rfl rfl ?_
        refine Jn rfl rfl (Jk Try.runUnderlying96 rfl Try.sizeOf29 rfl rfl) ?_
        refine d_loadN (i := 2) (vs := [.int .i64 t35.Value.Kind, str t35.Value.Text, (Yq h v1 6 (Int.toNat x33_2) 3), (Yq h v1 6 (Int.toNat x33_2) 4), (Yq h v1 6 (Int.toNat x33_2) 5)]) Try.isAgg29 Try.sizeOf29 rfl rfl rfl rfl ?_
        have h_t79 := Qi H74
        have H75 := J6 H74
        refine d_callD (fun w L' hF hS hi => k87 (Jy w) ((show FrS h 1 (Yq h v1 6 (Int.toNat x33_2) 3) (t35.Value.Ints.map X1) from (X9 (Jx (f1.at h_t35)))).mono (hw.now hF)) ((show FrS h 2 (Yq h v1 6 (Int.toNat x33_2) 4) (t35.Value.Ratios.map Qd) from (Yd (Jx (f1.at h_t35)))).mono (hw.now hF)) ((show FrN h 6 (Yq h v1 6 (Int.toNat x33_2) 5) g_tag_Entry t35.Value.Entries from (Xj (Jx (f1.at h_t35)))).mono (hw.now hF)) h_t79) Try.call87 rfl rfl ?_
        have h_t80 := Qi H75
        have H76 := J6 H75
        refine d_make (Cv := fun v => Jz 5 1 v (val (Jj t15.2.big_ (val (Xx t35.Value)) 4)).length ((val (Jj t15.2.big_ (val (Xx t35.Value)) 4)).map Xa)) (none, 0) (Xs (G := fun x : (Option Addr × Nat) => .slice x.1 (val (Jj t15.2.big_ (val (Xx t35.Value)) 4)).length x.2) (C := fun x : (Option Addr × Nat) => Jz 5 1 (.slice x.1 (val (Jj t15.2.big_ (val (Xx t35.Value)) 4)).length x.2) (val (Jj t15.2.big_ (val (Xx t35.Value)) 4)).length ((val (Jj t15.2.big_ (val (Xx t35.Value)) 4)).map Xa)) (fun w L' hF hS hi => k83 (Jy w)  h_t80) Try.call83 rfl) (fun _ => rfl) rfl rfl rfl (fun p_20 => ?_)
        have h_l81 := Qi H76
        have H77 := J6 H76
        refine d_turn (Cv := fun v => Jz 5 1 v (val (X0 1 (val (X0 1 (val (X0 1 l_7 (val (Jj t15.2.big_ t35.Tag 2)))) (val (Jj t15.2.big_ t35.Value.Kind 2)))) (val (Jj t15.2.big_ (val (Xx t35.Value)) 4)))).length ((val (X0 1 (val (X0 1 (val (X0 1 l_7 (val (Jj t15.2.big_ t35.Tag 2)))) (val (Jj t15.2.big_ t35.Value.Kind 2)))) (val (Jj t15.2.big_ (val (Xx t35.Value)) 4)))).map Xa)) (none, 0) (Xr (i := 1) (hn := rfl) (rds := [5]) (p := p_19) (sz := 1) (by_ := 1) (f := Xa) (ys := (val (X0 1 (val (X0 1 l_7 (val (Jj t15.2.big_ t35.Tag 2)))) (val (Jj t15.2.big_ t35.Value.Kind 2))))) (ls := (val (Jj t15.2.big_ (val (Xx t35.Value)) 4))) (V := .slice p_20.1 (val (Jj t15.2.big_ (val (Xx t35.Value)) 4)).length p_20.2) Try.underlying133 (Xe Try.typeInfo5) rfl rfl rfl rfl rfl rfl rfl rfl rfl rfl (fun w L' hF hS hi => rowOf (i := 5) hS ((hi 5 (by simp)).trans rfl)) (fun _ => rfl) (fun _ => rfl) h_l81) (fun _ => rfl) rfl rfl (fun p_21 => ?_)
        refine Jn rfl rfl (Js rfl) ?_
        refine Jn rfl rfl (Jk Try.runUnderlying138 rfl Try.sizeOf133 rfl rfl) ?_
        refine d_storeV (i := 0) (vs := [.slice p_21.1 (val (X0 1 (val (X0 1 (val (X0 1 l_7 (val (Jj t15.2.big_ t35.Tag 2)))) (val (Jj t15.2.big_ t35.Value.Kind 2)))) (val (Jj t15.2.big_ (val (Xx t35.Value)) 4)))).length p_21.2]) (cs' := fun v_ => [.bool t15.2.big_, v_]) Try.sizeOf133 rfl rfl rfl rfl rfl rfl rfl rfl rfl ?_
        refine V1 ?_
        refine Jb ?_
        refine Ja rfl rfl rfl (Jd (v := .pointer (some ⟨pb0, 0, none⟩)) rfl) ?_
        refine Ja rfl rfl rfl (Jd (v := .pointer (some ⟨pb0, 0, none⟩)) rfl) ?_
        refine Ja rfl rfl rfl (Js rfl) ?_
        refine Ja rfl rfl rfl (Jk Try.runUnderlying138 rfl Try.sizeOf133 rfl rfl) ?_
        refine Jw (i := 0) (v := .slice p_21.1 (val (X0 1 (val (X0 1 (val (X0 1 l_7 (val (Jj t15.2.big_ t35.Tag 2)))) (val (Jj t15.2.big_ t35.Value.Kind 2)))) (val (Jj t15.2.big_ (val (Xx t35.Value)) 4)))).length p_21.2) Try.isAgg133 rfl rfl rfl rfl rfl ?_
        refine Qx (vs := [.int .u8 0, .int .u8 0, .int .u8 0, .int .u8 0]) (cs := [.int .u8 0, .int .u8 0, .int .u8 0, .int .u8 0]) Try.underlying133 Try.sizeOf5 Try.zeroValue5 rfl rfl rfl rfl rfl rfl rfl (fun b7 => ?_)
        obtain ⟨l90, h_l90, H78⟩ := Jh H77; clear H77
        refine Qs (Xr (i := 1) (hn := rfl) (rds := [6]) (p := p_21) (sz := 1) (by_ := 1) (f := Xa) (ys := (val (X0 1 (val (X0 1 (val (X0 1 l_7 (val (Jj t15.2.big_ t35.Tag 2)))) (val (Jj t15.2.big_ t35.Value.Kind 2)))) (val (Jj t15.2.big_ (val (Xx t35.Value)) 4))))) (ls := ([0, 0, 0, 0] : List Int)) (V := .slice (some ⟨b7, 0, none⟩) 4 4) Try.underlying133 (Xe Try.typeInfo5) rfl rfl rfl rfl rfl rfl rfl rfl rfl rfl (fun w L' hF hS hi => Wr (i := 6) hS ((hi 6 (by simp)).trans rfl) rfl rfl) (fun _ => rfl) (fun _ => rfl) h_l90) rfl rfl rfl (fun p_22 => ?_)
        refine Ja rfl rfl rfl (Js rfl) ?_
        refine Ja rfl rfl rfl (Jk Try.runUnderlying138 rfl Try.sizeOf133 rfl rfl) ?_
        refine Qy (i := 0) (vs := [.slice p_22.1 l90.length p_22.2]) (cs' := [.bool t15.2.big_, .slice p_22.1 l90.length p_22.2]) Try.sizeOf133 rfl rfl rfl rfl rfl rfl rfl rfl rfl ?_
        refine Jg ?_
        refine Jb ?_
        obtain ⟨t93, h_t93, H79⟩ := Jh H78; clear H78
        refine Ja rfl rfl rfl (Qm rfl rfl h_t93) ?_
        refine Ja rfl rfl rfl (Jd (v := .int .i64 t93) rfl) ?_
        refine Jg ?_
        refine Jp (t93, l90) p_22 m5 [0, 1] (by exact ⟨rfl, rfl, rfl, rfl, rfl, rfl, trivial⟩) (by decide) (by kernel_rfl) (by exact ⟨(by subst hn5; exact H79), trivial⟩) (Nat.lt_succ_self _)
        ) (by kernel_rfl)
       ) (by kernel_rfl)
      ) (by kernel_rfl)
    ·have H80 := Jq hb H68; clear H68
     refine Yk ?_
     refine Jp l_7 p_15 0 [0, 1] (by exact ⟨rfl, rfl, rfl, trivial⟩) (by decide) (by kernel_rfl) (by exact ⟨H80, trivial⟩) (Nat.lt_succ_self _)
   ·rintro l p_4 gg H44 _
    replace H44 : Zj a1 self t15 l = some r := H44
    try dsimp only
    refine Jf ?_
    refine Jb ?_
    refine Ja rfl rfl rfl (Jd (v := .pointer (some ⟨pb0, 0, none⟩)) rfl) ?_
    refine Ja rfl rfl rfl (Js rfl) ?_
    refine Ja rfl rfl rfl (Jk Try.runUnderlying138 rfl Try.sizeOf133 rfl rfl) ?_
    refine Jw (i := 0) (v := .slice p_4.1 l.length p_4.2) Try.isAgg133 rfl rfl rfl rfl rfl ?_
    refine Ja rfl rfl rfl (r_len Try.underlying133 rfl) ?_
    refine Ja rfl rfl rfl (Jc (v := .int .i64 (l.length : Int)) rfl) ?_
    refine Jg ?_
    refine Jf ?_
    refine Jb ?_
    refine Ja rfl rfl rfl (Jd (v := .pointer (some ⟨pb0, 0, none⟩)) rfl) ?_
    refine Ja rfl rfl rfl (Jd (v := .pointer (some ⟨pb0, 0, none⟩)) rfl) ?_
    refine Ja rfl rfl rfl (Js rfl) ?_
    refine Ja rfl rfl rfl (Jk Try.runUnderlying138 rfl Try.sizeOf133 rfl rfl) ?_
    refine Jw (i := 0) (v := .slice p_4.1 l.length p_4.2) Try.isAgg133 rfl rfl rfl rfl rfl ?_
    refine Qx (vs := [.int .u8 0, .int .u8 0, .int .u8 0, .int .u8 0]) (cs := [.int .u8 0, .int .u8 0, .int .u8 0, .int .u8 0]) Try.underlying133 Try.sizeOf5 Try.zeroValue5 rfl rfl rfl rfl rfl rfl rfl (fun b4 => ?_)
    obtain ⟨l105, h_l105, H45⟩ := Jh H44; clear H44
    refine Qs (Xr (i := 1) (hn := rfl) (rds := [2]) (p := p_4) (sz := 1) (by_ := 1) (f := Xa) (ys := l) (ls := ([0, 0, 0, 0] : List Int)) (V := .slice (some ⟨b4, 0, none⟩) 4 4) Try.underlying133 (Xe Try.typeInfo5) rfl rfl rfl rfl rfl rfl rfl rfl rfl rfl (fun w L' hF hS hi => Wr (i := 2) hS ((hi 2 (by simp)).trans rfl) rfl rfl) (fun _ => rfl) (fun _ => rfl) h_l105) rfl rfl rfl (fun p_5 => ?_)
    refine Ja rfl rfl rfl (Js rfl) ?_
    refine Ja rfl rfl rfl (Jk Try.runUnderlying138 rfl Try.sizeOf133 rfl rfl) ?_
    refine Qy (i := 0) (vs := [.slice p_5.1 l105.length p_5.2]) (cs' := [.bool t15.2.big_, .slice p_5.1 l105.length p_5.2]) Try.sizeOf133 rfl rfl rfl rfl rfl rfl rfl rfl rfl ?_
    refine Jg ?_
    refine Xq (r := r) (σ := Bool × (List Int)) (τ := (Option Addr × Nat) × Nat) (fun s => Wh t15 l s.1 s.2) (fun s t => [(4, .int .i64 t15.1), (5, .int .i64 (l.length : Int))]) (fun s t => [Jl pb0 [.bool s.1, .slice t.1.1 t.2 t.1.2] 138, Jz 5 1 (.slice t.1.1 t.2 t.1.2) t.2 (s.2.map Xa)]) (fun s t => t.2 = s.2.length) ?_ ?_
    ·refine Jf ?_
     refine Jb ?_
     refine Ja rfl rfl rfl (Jd (v := v1) rfl) ?_
     refine Ja rfl rfl rfl (Zf Try.underlying27 rfl f1) ?_
     refine Ja rfl rfl rfl (Jd (v := .int .i64 0) rfl) ?_
     refine Jg ?_
     refine J4 ?_
     refine c_dr 2 ?_
     try dsimp only [z1, z2, z3, z4, z5, z6, z7, z8]
     refine V2 (σ := Int × Bool × (List Int)) (τ := (Option Addr × Nat) × Nat) (fun next3 s => Xn a1 self t15 l next3 s.1 s.2.1 s.2.2) (fun s t => [(0, .pointer (some ⟨pb0, 0, none⟩)), (4, .int .i64 t15.1), (5, .int .i64 (l.length : Int)), (108, v1), (109, .int .i64 (a1.length : Int)), (110, .int .i64 s.1)]) (fun s t => [Jl pb0 [.bool s.2.1, .slice t.1.1 t.2 t.1.2] 138, Jz 5 1 (.slice t.1.1 t.2 t.1.2) t.2 (s.2.2.map Xa)]) (fun s t => t.2 = s.2.2.length) (0, t15.2.big_, l105) (p_5, l105.length) [0, 1] H45 (by exact rfl) (by exact ⟨rfl, rfl, rfl, rfl, rfl, rfl, trivial⟩) (by decide) rfl ?_
     rintro ⟨x110_2, m_3, l_4⟩ ⟨p_7, n_2⟩ m3 gg H47 hl_3
     clear H45
     replace H47 : Xn a1 self t15 l (it (fun next3 s => Xn a1 self t15 l next3 s.1 s.2.1 s.2.2) m3) x110_2 m_3 l_4 = some r := H47
     generalize hn3 : it (fun next3 s => Xn a1 self t15 l next3 s.1 s.2.1 s.2.2) m3 = next3 at H47
     try dsimp only
     refine Jf ?_
     refine Jb ?_
     refine Ja rfl rfl rfl (Z0 rfl rfl) ?_
     refine Jg ?_
     refine Jf ?_
     refine Qf (b := (decide (x110_2 < (a1.length : Int)))) rfl (fun hb => ?_) (fun hb => ?_)
     ·have H48 := Jr hb H47; clear H47
      refine Jt ?_
      refine Xq (r := r) (σ := Bool × (List Int)) (τ := (Option Addr × Nat) × Nat) (fun s => Yx x110_2 next3 s.1 s.2) (fun s t => [(0, .pointer (some ⟨pb0, 0, none⟩)), (4, .int .i64 t15.1), (5, .int .i64 (l.length : Int)), (108, v1), (109, .int .i64 (a1.length : Int)), (110, .int .i64 x110_2)]) (fun s t => [Jl pb0 [.bool s.1, .slice t.1.1 t.2 t.1.2] 138, Jz 5 1 (.slice t.1.1 t.2 t.1.2) t.2 (s.2.map Xa)]) (fun s t => t.2 = s.2.length) ?_ ?_
      ·refine J4 ?_
       refine Jf ?_
       refine Jb ?_
       refine Ja rfl rfl rfl (Jd (v := .int .i64 x110_2) rfl) ?_
       obtain ⟨t113, h_t113, H51⟩ := Jh H48; clear H48
       refine Ja rfl rfl rfl (Y6 Try.underlying27 Try.sizeOf96 rfl rfl f1.frs (f1.ix h_t113)) ?_
       refine Yw (fun w hF hS => Zp (f := (elC h v1 6)) (i := x110_2) (sz := 6) (j := 0) (vs := [.int .i64 t113.Tag, .int .i64 t113.Value.Kind, str t113.Value.Text, (Yq h v1 6 (Int.toNat x110_2) 3), (Yq h v1 6 (Int.toNat x110_2) 4), (Yq h v1 6 (Int.toNat x110_2) 5)]) Try.isAgg96 Try.sizeOf96 rfl rfl (f1.frs.row (hw.now hF)) (f1.ix h_t113) (rd_of (Ws (f1.at h_t113)) rfl)) rfl rfl rfl ?_
       refine Zc (cs := [.int .i64 0, .int .i64 0, str [], .slice none 0 0, .slice none 0 0, .slice none 0 0]) Try.zeroValue96 rfl rfl rfl (fun b5 => ?_)
       refine Ja rfl rfl rfl (Jc (v := .int .i64 x110_2) rfl) ?_
       refine Qy (i := 2) (vs := [.int .i64 t113.Tag, .int .i64 t113.Value.Kind, str t113.Value.Text, (Yq h v1 6 (Int.toNat x110_2) 3), (Yq h v1 6 (Int.toNat x110_2) 4), (Yq h v1 6 (Int.toNat x110_2) 5)]) (cs' := [.int .i64 t113.Tag, .int .i64 t113.Value.Kind, str t113.Value.Text, (Yq h v1 6 (Int.toNat x110_2) 3), (Yq h v1 6 (Int.toNat x110_2) 4), (Yq h v1 6 (Int.toNat x110_2) 5)]) Try.sizeOf96 rfl rfl rfl rfl rfl rfl (by simp only [List.all_cons, List.all_nil, (show FrN h 6 (Yq h v1 6 (Int.toNat x110_2) 5) g_tag_Entry t113.Value.Entries from (Xj (Jx (f1.at h_t113)))).one, (show FrS h 1 (Yq h v1 6 (Int.toNat x110_2) 3) (t113.Value.Ints.map X1) from (X9 (Jx (f1.at h_t113)))).one, (show FrS h 2 (Yq h v1 6 (Int.toNat x110_2) 4) (t113.Value.Ratios.map Qd) from (Yd (Jx (f1.at h_t113)))).one] <;> rfl) rfl rfl ?_
       refine Jg ?_
       refine Jf ?_
       refine Jb ?_
       refine Ja rfl rfl rfl (Jd (v := .int .i64 t15.1) rfl) ?_
       obtain ⟨t116, h_t116, H52⟩ := Jh H51; clear H51
       refine Ja rfl rfl rfl (Qm rfl rfl h_t116) ?_
       refine Ja rfl rfl rfl (Jd (v := .int .i64 x110_2) rfl) ?_
       obtain ⟨t118, h_t118, H53⟩ := Jh H52; clear H52
       refine Ja rfl rfl rfl (Uw rfl rfl h_t118) ?_
       obtain ⟨t119, h_t119, H54⟩ := Jh H53; clear H53
       refine Ja rfl rfl rfl (Qm rfl rfl h_t119) ?_
       obtain ⟨t120, h_t120, H55⟩ := Jh H54; clear H54
       refine Ja rfl rfl rfl (Qm rfl rfl h_t120) ?_
       refine Ja rfl rfl rfl (Jc (v := .int .i64 t120) rfl) ?_
       refine Jg ?_
       refine Jf ?_
       refine Jf ?_
       refine Jb ?_
       refine Ja rfl rfl rfl (Jk Try.runUnderlying96 rfl Try.sizeOf29 rfl rfl) ?_
       refine Ja rfl rfl rfl (Jk Try.runUnderlying29 rfl Try.sizeOf3 rfl rfl) ?_
       refine Jw (i := 2) (v := .int .i64 t113.Value.Kind) Try.isAgg3 rfl rfl rfl rfl rfl ?_
       refine Ja rfl rfl rfl (Xl rfl rfl) ?_
       refine Jg ?_
       refine Qf (b := (decide (t113.Value.Kind = 13))) rfl (fun hb => ?_) (fun hb => ?_)
       ·have H56 := Jr hb H55; clear H55
        refine Jf ?_
        refine Jb ?_
        refine Ja rfl rfl rfl (Jd (v := .pointer (some ⟨pb0, 0, none⟩)) rfl) ?_
        refine Ja rfl rfl rfl (Jk Try.runUnderlying96 rfl Try.sizeOf29 rfl rfl) ?_
        refine Ja rfl rfl rfl (Jk Try.runUnderlying29 rfl Try.sizeOf27 rfl rfl) ?_
        refine Jw (i := 2) (v := (Yq h v1 6 (Int.toNat x110_2) 5)) Try.isAgg27 rfl rfl rfl rfl rfl ?_
        obtain ⟨t130, h_t130, H57⟩ := Jh H56; clear H56
        refine Jv 0 1 rfl rfl (by decide) ?_
        refine Qs (Qj (i := 0) (rds := []) (G := fun x : (Option Addr × Nat) => .tuple #[.int .i64 t130.1, .int .i64 t130.2.1]) (C := fun x : (Option Addr × Nat) => J0 (Jl pb0 [.bool t130.2.2.big_, .slice x.1 t130.2.2.out_.length x.2] 138) (Jz 5 1 (.slice x.1 t130.2.2.out_.length x.2) t130.2.2.out_.length (t130.2.2.out_.map Xa))) rfl (fun w L' S hF hS hi hp hlt ho hA => ih hp hlt (Xg w S) hl_3 ((show FrN h 6 (Yq h v1 6 (Int.toNat x110_2) 5) g_tag_Entry t113.Value.Entries from (Xj (Jx (f1.at h_t113)))).mono (hw.but hF ho)) h_t130) Try.call116 rfl) rfl rfl rfl (fun p_9 => ?_)
        refine J5 0 1 rfl rfl (by decide) ?_
        refine Ja rfl rfl rfl (Jd (v := .tuple #[.int .i64 t130.1, .int .i64 t130.2.1]) rfl) ?_
        refine Ja rfl rfl rfl (Qh (v := .int .i64 t130.1) rfl rfl) ?_
        refine Ja rfl rfl rfl (Qh (v := .int .i64 t130.2.1) rfl rfl) ?_
        refine Ja rfl rfl rfl (Jc (v := .int .i64 t130.1) rfl) ?_
        refine Ja rfl rfl rfl (Jc (v := .int .i64 t130.2.1) rfl) ?_
        refine Jg ?_
        refine Jf ?_
        refine Jb ?_
        refine Ja rfl rfl rfl (Jd (v := .pointer (some ⟨pb0, 0, none⟩)) rfl) ?_
        refine Ja rfl rfl rfl (Jd (v := .int .i64 t120) rfl) ?_
        refine Ja rfl rfl rfl (Jd (v := .int .i64 t130.1) rfl) ?_
        obtain ⟨t136, h_t136, H58⟩ := Jh H57; clear H57
        refine Jv 0 1 rfl rfl (by decide) ?_
        refine Qs (Qj (i := 0) (rds := []) (G := fun x : (Option Addr × Nat) => .tuple #[]) (C := fun x : (Option Addr × Nat) => J0 (Jl pb0 [.bool t136.big_, .slice x.1 t136.out_.length x.2] 138) (Jz 5 1 (.slice x.1 t136.out_.length x.2) t136.out_.length (t136.out_.map Xa))) rfl (fun w L' S hF hS hi hp hlt ho hA => k86 hp hlt (Xg w S) rfl h_t136) Try.call86 rfl) rfl rfl rfl (fun p_10 => ?_)
        refine J5 0 1 rfl rfl (by decide) ?_
        refine Jg ?_
        refine Yk ?_
        refine Jp (t136.big_, t136.out_) (p_10, t136.out_.length) 0 [0, 1] (by exact ⟨rfl, rfl, rfl, rfl, rfl, rfl, trivial⟩) (by decide) (by kernel_rfl) (by exact ⟨H58, rfl⟩) (Nat.lt_succ_self _)
       ·have H59 := Jq hb H55; clear H55
        refine Jt ?_
        refine Jf ?_
        try dsimp only [z1, z2, z5, z6, z7, z8]
        exact Xf (Kd.p :: Kd.p :: Kd.p :: Kd.d [0] _ :: Kd.p :: Kd.d [2] _ :: Kd.t 3 [] _ _ :: Kd.p :: []) 1 mixed (by
         refine Jn rfl rfl (Jd (v := .pointer (some ⟨pb0, 0, none⟩)) rfl) ?_
         refine Jn rfl rfl (Js rfl) ?_
         refine Jn rfl rfl (Jk Try.runUnderlying138 rfl Try.sizeOf4 rfl rfl) ?_
         refine Yh (i := 0) (v := .bool m_3) Try.isAgg4 rfl rfl rfl rfl ?_
         refine Jn rfl rfl (Jk Try.runUnderlying96 rfl Try.sizeOf29 rfl rfl) ?_
         refine d_loadN (i := 2) (vs := [.int .i64 t113.Value.Kind, str t113.Value.Text, (Yq h v1 6 (Int.toNat x110_2) 3), (Yq h v1 6 (Int.toNat x110_2) 4), (Yq h v1 6 (Int.toNat x110_2) 5)]) Try.isAgg29 Try.sizeOf29 rfl rfl rfl rfl ?_
         have h_t143 := Qi H59
         have H60 := J6 H59
         refine d_make (Cv := fun v => roV 1 v (val (Xt m_3 t113.Value)).length ((val (Xt m_3 t113.Value)).map Xa)) (none, 0) (Xs (G := fun x : (Option Addr × Nat) => .slice x.1 (val (Xt m_3 t113.Value)).length x.2) (C := fun x : (Option Addr × Nat) => roV 1 (.slice x.1 (val (Xt m_3 t113.Value)).length x.2) (val (Xt m_3 t113.Value)).length ((val (Xt m_3 t113.Value)).map Xa)) (fun w L' hF hS hi => k85 (Jy w) ((show FrS h 1 (Yq h v1 6 (Int.toNat x110_2) 3) (t113.Value.Ints.map X1) from (X9 (Jx (f1.at h_t113)))).mono (hw.now hF)) ((show FrS h 2 (Yq h v1 6 (Int.toNat x110_2) 4) (t113.Value.Ratios.map Qd) from (Yd (Jx (f1.at h_t113)))).mono (hw.now hF)) ((show FrN h 6 (Yq h v1 6 (Int.toNat x110_2) 5) g_tag_Entry t113.Value.Entries from (Xj (Jx (f1.at h_t113)))).mono (hw.now hF)) h_t143) Try.call85 rfl) (fun _ => rfl) rfl rfl rfl (fun p_11 => ?_)
         refine Jn rfl rfl (Jc (v := .slice p_11.1 (val (Xt m_3 t113.Value)).length p_11.2) rfl) ?_
         refine V1 ?_
         refine Jf ?_
         refine Jf ?_
         refine Jb ?_
         refine Ja rfl rfl rfl (Jd (v := .slice p_11.1 (val (Xt m_3 t113.Value)).length p_11.2) rfl) ?_
         refine Ja rfl rfl rfl (r_len Try.underlying133 rfl) ?_
         refine Ja rfl rfl rfl (r_leq rfl rfl) ?_
         refine Jg ?_
         refine Qf (b := (decide (((val (Xt m_3 t113.Value)).length : Int) ≤ 4))) rfl (fun hb => ?_) (fun hb => ?_)
         ·have H61 := Jr hb H60; clear H60
          refine Jf ?_
          refine Jb ?_
          refine Ja rfl rfl rfl (Jd (v := .pointer (some ⟨pb0, 0, none⟩)) rfl) ?_
          refine Ja rfl rfl rfl (Js rfl) ?_
          refine Ja rfl rfl rfl (Jk Try.runUnderlying138 rfl Try.sizeOf133 rfl rfl) ?_
          refine Jw (i := 0) (v := .slice p_7.1 n_2 p_7.2) Try.isAgg133 rfl rfl rfl rfl rfl ?_
          refine Ja rfl rfl rfl (Jd (v := .int .i64 t120) rfl) ?_
          obtain ⟨t152, h_t152, H62⟩ := Jh H61; clear H61
          refine Yw (v := .slice (Z1 p_7.1 (Int.toNat t120) p_7.2 1) t152.length (p_7.2 - Int.toNat t120)) (fun w hF hS => Wq (xs := l_4) Try.underlying133 Try.sizeOf5 rfl rfl hl_3 (capOf (i := 1) hS rfl) h_t152) rfl rfl rfl ?_
          refine Ja rfl rfl rfl (Jd (v := .slice p_11.1 (val (Xt m_3 t113.Value)).length p_11.2) rfl) ?_
          refine Qs (turns_copyG (i := 1) (rds := [3]) (p := p_7) (f := Xa) (xs := l_4) (ts := t152) (ys := (val (Xt m_3 t113.Value))) hl_3 Try.underlying133 (by rw [Xe Try.typeInfo5]; rfl) rfl rfl h_t152 rfl rfl (fun w L' hF hS hi => roOf (i := 3) hS ((hi 3 (by simp)).trans rfl)) (fun _ => rfl) (fun _ => rfl)) rfl rfl rfl (fun _ => ?_)
          refine Jg ?_
          refine Yk ?_
          refine Jp (m_3, (cpyL l_4 t120 t152.length (val (Xt m_3 t113.Value)))) (p_7, n_2) 0 [0, 1] (by exact ⟨rfl, rfl, rfl, rfl, rfl, rfl, trivial⟩) (by decide) (by kernel_rfl) (by exact ⟨H62, (cpyL_n hl_3 h_t152)⟩) (Nat.lt_succ_self _)
         ·have H63 := Jq hb H60; clear H60
          refine Jt ?_
          refine Jf ?_
          refine Jb ?_
          refine Ja rfl rfl rfl (Jd (v := .pointer (some ⟨pb0, 0, none⟩)) rfl) ?_
          refine Ja rfl rfl rfl (Jd (v := .int .i64 t120) rfl) ?_
          refine Ja rfl rfl rfl (Jd (v := .pointer (some ⟨pb0, 0, none⟩)) rfl) ?_
          obtain ⟨t158, h_t158, H64⟩ := Jh H63; clear H63
          refine Jv 0 1 rfl rfl (by decide) ?_
          refine Qs (Qj (i := 0) (rds := []) (G := fun x : (Option Addr × Nat) => .int .i64 t158.1) (C := fun x : (Option Addr × Nat) => J0 (Jl pb0 [.bool t158.2.big_, .slice x.1 t158.2.out_.length x.2] 138) (Jz 5 1 (.slice x.1 t158.2.out_.length x.2) t158.2.out_.length (t158.2.out_.map Xa))) rfl (fun w L' S hF hS hi hp hlt ho hA => k90 hp hlt (Xg w S) hl_3 h_t158) Try.call90 rfl) rfl rfl rfl (fun p_12 => ?_)
          refine J5 0 1 rfl rfl (by decide) ?_
          obtain ⟨t159, h_t159, H65⟩ := Jh H64; clear H64
          refine Jv 0 1 rfl rfl (by decide) ?_
          refine Qs (Qj (i := 0) (rds := []) (G := fun x : (Option Addr × Nat) => .tuple #[]) (C := fun x : (Option Addr × Nat) => J0 (Jl pb0 [.bool t159.big_, .slice x.1 t159.out_.length x.2] 138) (Jz 5 1 (.slice x.1 t159.out_.length x.2) t159.out_.length (t159.out_.map Xa))) rfl (fun w L' S hF hS hi hp hlt ho hA => k86 hp hlt (Xg w S) rfl h_t159) Try.call86 rfl) rfl rfl rfl (fun p_13 => ?_)
          refine J5 0 1 rfl rfl (by decide) ?_
          refine Jg ?_
          try dsimp only [z1, z2, z5, z6, z7, z8]
          refine Jb ?_
          refine Ja rfl rfl rfl (Jd (v := .pointer (some ⟨pb0, 0, none⟩)) rfl) ?_
          refine Ja rfl rfl rfl (Jd (v := .pointer (some ⟨pb0, 0, none⟩)) rfl) ?_
          refine Ja rfl rfl rfl (Js rfl) ?_
          refine Ja rfl rfl rfl (Jk Try.runUnderlying138 rfl Try.sizeOf133 rfl rfl) ?_
          refine Jw (i := 0) (v := .slice p_13.1 t159.out_.length p_13.2) Try.isAgg133 rfl rfl rfl rfl rfl ?_
          refine Ja rfl rfl rfl (Jd (v := .slice p_11.1 (val (Xt m_3 t113.Value)).length p_11.2) rfl) ?_
          obtain ⟨l166, h_l166, H66⟩ := Jh H65; clear H65
          refine Qs (Xr (i := 1) (hn := rfl) (rds := [3]) (p := p_13) (sz := 1) (by_ := 1) (f := Xa) (ys := t159.out_) (ls := (val (Xt m_3 t113.Value))) (V := .slice p_11.1 (val (Xt m_3 t113.Value)).length p_11.2) Try.underlying133 (Xe Try.typeInfo5) rfl rfl rfl rfl rfl rfl rfl rfl rfl rfl (fun w L' hF hS hi => roOf (i := 3) hS ((hi 3 (by simp)).trans rfl)) (fun _ => rfl) (fun _ => rfl) h_l166) rfl rfl rfl (fun p_14 => ?_)
          refine Ja rfl rfl rfl (Js rfl) ?_
          refine Ja rfl rfl rfl (Jk Try.runUnderlying138 rfl Try.sizeOf133 rfl rfl) ?_
          refine Qy (i := 0) (vs := [.slice p_14.1 l166.length p_14.2]) (cs' := [.bool t159.big_, .slice p_14.1 l166.length p_14.2]) Try.sizeOf133 rfl rfl rfl rfl rfl rfl rfl rfl rfl ?_
          refine Jg ?_
          refine Jp (t159.big_, l166) (p_14, l166.length) 0 [0, 1] (by exact ⟨rfl, rfl, rfl, rfl, rfl, rfl, trivial⟩) (by decide) (by kernel_rfl) (by exact ⟨H66, rfl⟩) (Nat.lt_succ_self _)
         ) (by kernel_rfl)
      ·rintro ⟨m_4, l_5⟩ ⟨p_8, n_3⟩ gg H49 hl_4
       replace H49 : Yx x110_2 next3 m_4 l_5 = some r := H49
       try dsimp only
       refine Jb ?_
       obtain ⟨t169, h_t169, H50⟩ := Jh H49; clear H49
       refine Ja rfl rfl rfl (Qm rfl rfl h_t169) ?_
       refine Ja rfl rfl rfl (Jd (v := .int .i64 t169) rfl) ?_
       refine Jg ?_
       refine Jp (t169, m_4, l_5) (p_8, n_3) m3 [0, 1] (by exact ⟨rfl, rfl, rfl, rfl, rfl, rfl, trivial⟩) (by decide) (by kernel_rfl) (by exact ⟨(by subst hn3; exact H50), hl_4⟩) (Nat.lt_succ_self _)
     ·have H67 := Jq hb H47; clear H47
      refine Yk ?_
      refine Jp (m_3, l_4) (p_7, n_2) 0 [0, 1] (by exact ⟨rfl, rfl, trivial⟩) (by decide) (by kernel_rfl) (by exact ⟨H67, hl_3⟩) (Nat.lt_succ_self _)
    ·rintro ⟨m, l_2⟩ ⟨p_6, n⟩ gg H46 hl
     replace H46 : Wh t15 l m l_2 = some r := H46
     try dsimp only
     refine Jf ?_
     refine Jb ?_
     refine Ja rfl rfl rfl (Jd (v := .int .i64 t15.1) rfl) ?_
     refine Ja rfl rfl rfl (Jd (v := .int .i64 (l.length : Int)) rfl) ?_
     refine Ja rfl rfl rfl (Jc (v := .int .i64 t15.1) rfl) ?_
     refine Ja rfl rfl rfl (Jc (v := .int .i64 (l.length : Int)) rfl) ?_
     refine Jg ?_
     refine Ju ?_
     obtain rfl := Option.some.inj H46
     refine Jv 0 1 rfl rfl (by decide) ?_
     refine W8 (v1 := .int .i64 t15.1) (v2 := .int .i64 (l.length : Int)) rfl rfl rfl (Vl p_6 (i := 0) rfl (by first | rfl | rw [(show n = l_2.length from hl)]) (by first | exact Imp.refl _ | exact Imp.of (by rw [(show n = l_2.length from hl)] <;> rfl)))
   ) (by kernel_rfl)
theorem k116 {a0 : T_tag_writer} {pb0 : Nat} {p0_1 : Option Addr × Nat} {n0_1 : Nat} {a1 : (List T_tag_Entry)} {v1 : Value} {r : Int × Int × T_tag_writer} {w : World} {h : J3} {S : Nat → Prop} (hcs : (J0 (Jl pb0 [.bool a0.big_, .slice p0_1.1 n0_1 p0_1.2] 138) (Jz 5 1 (.slice p0_1.1 n0_1 p0_1.2) n0_1 (a0.out_.map Xa))).P S w) (hlt : ∀ b, S b → b < w.heap.size) (hw : Know h w S) (hn0_1 : n0_1 = a0.out_.length) (f1 : FrN h 6 v1 g_tag_Entry a1) (H : Up a0 a1 = some r) : Does Try.prog 116 (List.toArray [.pointer (some ⟨pb0, 0, none⟩), v1]) w (fun v w' => ∃ x : (Option Addr × Nat), v = (.tuple #[.int .i64 r.1, .int .i64 r.2.1]) ∧ Turn w w' S (J0 (Jl pb0 [.bool r.2.2.big_, .slice x.1 r.2.2.out_.length x.2] 138) (Jz 5 1 (.slice x.1 r.2.2.out_.length x.2) r.2.2.out_.length (r.2.2.out_.map Xa)))) := by
 obtain ⟨mm, hm⟩ := fix_it (show Wk (fun (self : (T_tag_writer × (List T_tag_Entry)) → Option (Int × Int × T_tag_writer)) (s : T_tag_writer × (List T_tag_Entry)) => Xw self s.1 s.2) (a0, a1) = some r from H)
 exact k116_it mm hcs hlt hw hn0_1 f1 hm
theorem k70 {a0 : T_tag_File} {v0_1 : Value} {r : (List UInt8)} {w : World} {h : J3} (hw : Know h w Wf) (f0_1 : FrN h 1 v0_1 gs_tag_Entry a0.Dirs) (H : tag_written a0 = some r) : Does Try.prog 70 (List.toArray [.agg #[.bool a0.Big, v0_1]]) w (fun v w' => v = (str r) ∧ Grow w w') := by
 refine enter (n := 71) Try.func70 rfl rfl rfl Wf [] (Sat.nil _ _) ?_
 refine Jf ?_
 refine Jb ?_
 refine U6 (cs := [.bool a0.Big, v0_1]) rfl rfl rfl rfl (fun b5 => ?_)
 refine Ja rfl rfl rfl (Jc (v := str []) rfl) ?_
 refine Jg ?_
 refine Jf ?_
 refine Jb ?_
 refine Ja rfl rfl rfl (Jk Try.runUnderlying24 rfl Try.sizeOf4 rfl rfl) ?_
 refine Jw (i := 0) (v := .bool a0.Big) Try.isAgg4 rfl rfl rfl rfl rfl ?_
 refine Qx (vs := [.int .u8 73, .int .u8 73]) (cs := [.int .u8 73, .int .u8 73]) Try.underlying133 Try.sizeOf5 Try.zeroValue5 rfl rfl rfl rfl rfl rfl rfl (fun b6 => ?_)
 refine Qs (turns_mark (i := 1) (rds := []) (f := Xa) (xs := ([73, 73] : List Int)) (m := 2) (sz := 1) rfl Try.underlying133 Try.underlying5 rfl rfl rfl rfl rfl rfl) rfl rfl rfl (fun _ => ?_)
 refine Ja rfl rfl rfl (Y5 (pl := #[(0, 1), (1, 1)]) (ps := [(0, .bool a0.Big), (1, .slice ((some ⟨b6, 0, none⟩, 2) : Option Addr × Nat).1 2 ((some ⟨b6, 0, none⟩, 2) : Option Addr × Nat).2)]) (cells := #[.bool a0.Big, .slice ((some ⟨b6, 0, none⟩, 2) : Option Addr × Nat).1 2 ((some ⟨b6, 0, none⟩, 2) : Option Addr × Nat).2]) Try.zeroValue138 Try.runUnderlying138 (fun w => by kernel_rfl) rfl rfl) ?_
 refine U6 (cs := [.bool a0.Big, .slice ((some ⟨b6, 0, none⟩, 2) : Option Addr × Nat).1 2 ((some ⟨b6, 0, none⟩, 2) : Option Addr × Nat).2]) rfl rfl rfl rfl (fun b7 => ?_)
 refine Ja rfl rfl rfl (Jc (v := .pointer (some ⟨b7, 0, none⟩)) rfl) ?_
 refine Jg ?_
 refine Xq (r := r) (σ := (List Int)) (τ := (Option Addr × Nat) × Nat) (fun s => Vw a0 s) (fun s t => [(1, .pointer (some ⟨b5, 0, none⟩)), (3, .pointer (some ⟨b7, 0, none⟩))]) (fun s t => [Jl b5 [.bool a0.Big, v0_1] 24, Jl b7 [.bool a0.Big, .slice t.1.1 t.2 t.1.2] 138, apV 5 1 (.slice t.1.1 t.2 t.1.2) t.2 (s.map Xa)]) (fun s t => t.2 = s.length) ?_ ?_
 ·refine Jf ?_
  try dsimp only [z1, z2, z5, z6, z7, z8]
  refine Jb ?_
  refine Ja rfl rfl rfl (Jk Try.runUnderlying24 rfl Try.sizeOf4 rfl rfl) ?_
  refine Jw (i := 0) (v := .bool a0.Big) Try.isAgg4 rfl rfl rfl rfl rfl ?_
  refine Jg ?_
  refine Qf (b := a0.Big) rfl (fun hb => ?_) (fun hb => ?_)
  ·have H27 := Jr hb H; clear H
   refine Jb ?_
   refine Ja rfl rfl rfl (Jd (v := .pointer (some ⟨b7, 0, none⟩)) rfl) ?_
   refine Qx (vs := [.int .u8 77, .int .u8 77]) (cs := [.int .u8 77, .int .u8 77]) Try.underlying133 Try.sizeOf5 Try.zeroValue5 rfl rfl rfl rfl rfl rfl rfl (fun b9 => ?_)
   refine Qs (turns_mark (i := 3) (rds := []) (f := Xa) (xs := ([77, 77] : List Int)) (m := 2) (sz := 1) rfl Try.underlying133 Try.underlying5 rfl rfl rfl rfl rfl rfl) rfl rfl rfl (fun _ => ?_)
   refine Ja rfl rfl rfl (Js rfl) ?_
   refine Ja rfl rfl rfl (Jk Try.runUnderlying138 rfl Try.sizeOf133 rfl rfl) ?_
   refine Qy (i := 2) (vs := [.slice ((some ⟨b9, 0, none⟩, 2) : Option Addr × Nat).1 2 ((some ⟨b9, 0, none⟩, 2) : Option Addr × Nat).2]) (cs' := [.bool a0.Big, .slice ((some ⟨b9, 0, none⟩, 2) : Option Addr × Nat).1 2 ((some ⟨b9, 0, none⟩, 2) : Option Addr × Nat).2]) Try.sizeOf133 rfl rfl rfl rfl rfl rfl rfl rfl rfl ?_
   refine Jg ?_
   refine Jp ([77, 77] : List Int) (((some ⟨b9, 0, none⟩, 2) : Option Addr × Nat), 2) 0 [0, 2, 3] (by exact ⟨rfl, rfl, trivial⟩) (by decide) (by kernel_rfl) (by exact ⟨H27, rfl⟩) (Nat.lt_succ_self _)
  ·have H28 := Jq hb H; clear H
   refine Jt ?_
   refine Jp ([73, 73] : List Int) (((some ⟨b6, 0, none⟩, 2) : Option Addr × Nat), 2) 0 [0, 2, 1] (by exact ⟨rfl, rfl, trivial⟩) (by decide) (by kernel_rfl) (by exact ⟨H28, rfl⟩) (Nat.lt_succ_self _)
 ·rintro l ⟨p, n⟩ gg H15 hl
  replace H15 : Vw a0 l = some r := H15
  try dsimp only
  refine Jf ?_
  exact Xf (Kd.p :: Kd.p :: Kd.p :: Kd.p :: Kd.d [1] _ :: Kd.p :: Kd.d [0] _ :: Kd.t 3 [] _ _ :: Kd.t 2 [3] _ _ :: Kd.p :: Kd.p :: Kd.sv 32 30 1 _ 138 :: []) 1 mixed (by
   refine Jn rfl rfl (Jd (v := .pointer (some ⟨b7, 0, none⟩)) rfl) ?_
   refine Jn rfl rfl (Jd (v := .pointer (some ⟨b7, 0, none⟩)) rfl) ?_
   refine Jn rfl rfl (Js rfl) ?_
   refine Jn rfl rfl (Jk Try.runUnderlying138 rfl Try.sizeOf133 rfl rfl) ?_
   refine Yh (i := 1) (v := .slice p.1 n p.2) Try.isAgg133 rfl rfl rfl rfl ?_
   refine Jn rfl rfl (Jk Try.runUnderlying24 rfl Try.sizeOf4 rfl rfl) ?_
   refine Yh (i := 0) (v := .bool a0.Big) Try.isAgg4 rfl rfl rfl rfl ?_
   have h_t29 := Qi H15
   have H16 := J6 H15
   refine d_make (Cv := fun v => Jz 5 1 v (val (Jj a0.Big 42 2)).length ((val (Jj a0.Big 42 2)).map Xa)) (none, 0) (Xs (G := fun x : (Option Addr × Nat) => .slice x.1 (val (Jj a0.Big 42 2)).length x.2) (C := fun x : (Option Addr × Nat) => Jz 5 1 (.slice x.1 (val (Jj a0.Big 42 2)).length x.2) (val (Jj a0.Big 42 2)).length ((val (Jj a0.Big 42 2)).map Xa)) (fun w L' hF hS hi => k83 (Jy w)  h_t29) Try.call83 rfl) (fun _ => rfl) rfl rfl rfl (fun p_2 => ?_)
   have h_l30 := Qi H16
   have H17 := J6 H16
   refine d_turn (Cv := fun v => Jz 5 1 v (val (gApN 1 l (val (Jj a0.Big 42 2)))).length ((val (gApN 1 l (val (Jj a0.Big 42 2)))).map Xa)) (none, 0) (turns_appN (i := 2) (hn := hl) (rds := [3]) (p := p) (sz := 1) (by_ := 1) (f := Xa) (ys := l) (ls := (val (Jj a0.Big 42 2))) (V := .slice p_2.1 (val (Jj a0.Big 42 2)).length p_2.2) Try.underlying133 (Xe Try.typeInfo5) rfl rfl rfl rfl rfl rfl rfl rfl rfl rfl (fun w L' hF hS hi => rowOf (i := 3) hS ((hi 3 (by simp)).trans rfl)) (fun _ => rfl) (fun _ => rfl) h_l30) (fun _ => rfl) rfl rfl (fun p_3 => ?_)
   refine Jn rfl rfl (Js rfl) ?_
   refine Jn rfl rfl (Jk Try.runUnderlying138 rfl Try.sizeOf133 rfl rfl) ?_
   refine d_storeV (i := 1) (vs := [.slice p_3.1 (val (gApN 1 l (val (Jj a0.Big 42 2)))).length p_3.2]) (cs' := fun v_ => [.bool a0.Big, v_]) Try.sizeOf133 rfl rfl rfl rfl rfl rfl rfl rfl rfl ?_
   refine V1 ?_
   refine Jf ?_
   refine Jb ?_
   refine Ja rfl rfl rfl (Jd (v := .pointer (some ⟨b7, 0, none⟩)) rfl) ?_
   refine Ja rfl rfl rfl (Js rfl) ?_
   refine Ja rfl rfl rfl (Jk Try.runUnderlying138 rfl Try.sizeOf133 rfl rfl) ?_
   refine Jw (i := 1) (v := .slice p_3.1 (val (gApN 1 l (val (Jj a0.Big 42 2)))).length p_3.2) Try.isAgg133 rfl rfl rfl rfl rfl ?_
   refine Ja rfl rfl rfl (r_len Try.underlying133 rfl) ?_
   refine Ja rfl rfl rfl (Jc (v := .int .i64 ((val (gApN 1 l (val (Jj a0.Big 42 2)))).length : Int)) rfl) ?_
   refine Jg ?_
   refine Jf ?_
   refine Jb ?_
   refine Ja rfl rfl rfl (Jd (v := .pointer (some ⟨b7, 0, none⟩)) rfl) ?_
   refine Ja rfl rfl rfl (Jd (v := .pointer (some ⟨b7, 0, none⟩)) rfl) ?_
   refine Ja rfl rfl rfl (Js rfl) ?_
   refine Ja rfl rfl rfl (Jk Try.runUnderlying138 rfl Try.sizeOf133 rfl rfl) ?_
   refine Jw (i := 1) (v := .slice p_3.1 (val (gApN 1 l (val (Jj a0.Big 42 2)))).length p_3.2) Try.isAgg133 rfl rfl rfl rfl rfl ?_
   refine Qx (vs := [.int .u8 0, .int .u8 0, .int .u8 0, .int .u8 0]) (cs := [.int .u8 0, .int .u8 0, .int .u8 0, .int .u8 0]) Try.underlying133 Try.sizeOf5 Try.zeroValue5 rfl rfl rfl rfl rfl rfl rfl (fun b8 => ?_)
   obtain ⟨l44, h_l44, H18⟩ := Jh H17; clear H17
   refine Qs (Xr (i := 2) (hn := rfl) (rds := [4]) (p := p_3) (sz := 1) (by_ := 1) (f := Xa) (ys := (val (gApN 1 l (val (Jj a0.Big 42 2))))) (ls := ([0, 0, 0, 0] : List Int)) (V := .slice (some ⟨b8, 0, none⟩) 4 4) Try.underlying133 (Xe Try.typeInfo5) rfl rfl rfl rfl rfl rfl rfl rfl rfl rfl (fun w L' hF hS hi => Wr (i := 4) hS ((hi 4 (by simp)).trans rfl) rfl rfl) (fun _ => rfl) (fun _ => rfl) h_l44) rfl rfl rfl (fun p_4 => ?_)
   refine Ja rfl rfl rfl (Js rfl) ?_
   refine Ja rfl rfl rfl (Jk Try.runUnderlying138 rfl Try.sizeOf133 rfl rfl) ?_
   refine Qy (i := 1) (vs := [.slice p_4.1 l44.length p_4.2]) (cs' := [.bool a0.Big, .slice p_4.1 l44.length p_4.2]) Try.sizeOf133 rfl rfl rfl rfl rfl rfl rfl rfl rfl ?_
   refine Jg ?_
   refine Xq (r := r) (σ := Bool × (List Int)) (τ := (Option Addr × Nat)) (fun s => Us s.1 s.2) (fun s t => [(3, .pointer (some ⟨b7, 0, none⟩))]) (fun s t => [Jl b7 [.bool s.1, .slice t.1 s.2.length t.2] 138, Jz 5 1 (.slice t.1 s.2.length t.2) s.2.length (s.2.map Xa)]) (fun s t => True) ?_ ?_
   ·refine Jf ?_
    refine Jb ?_
    refine Ja rfl rfl rfl (Jk Try.runUnderlying24 rfl Try.sizeOf22 rfl rfl) ?_
    refine Jw (i := 0) (v := v0_1) Try.isAgg22 rfl rfl rfl rfl rfl ?_
    refine Ja rfl rfl rfl (Zf Try.underlying22 rfl f0_1) ?_
    refine Ja rfl rfl rfl (Jd (v := .int .i64 0) rfl) ?_
    refine Jg ?_
    refine J4 ?_
    refine c_dr 4 <| c_dr 3 <| c_dr 0 ?_
    try dsimp only [z1, z2, z3, z4, z5, z6, z7, z8]
    refine V2 (σ := Int × Int × Bool × (List Int)) (τ := (Option Addr × Nat)) (fun next3 s => Yc a0 next3 s.1 s.2.1 s.2.2.1 s.2.2.2) (fun s t => [(3, .pointer (some ⟨b7, 0, none⟩)), (4, .int .i64 s.1), (48, v0_1), (49, .int .i64 (a0.Dirs.length : Int)), (50, .int .i64 s.2.1)]) (fun s t => [Jl b7 [.bool s.2.2.1, .slice t.1 s.2.2.2.length t.2] 138, Jz 5 1 (.slice t.1 s.2.2.2.length t.2) s.2.2.2.length (s.2.2.2.map Xa)]) (fun s t => True) (((val (gApN 1 l (val (Jj a0.Big 42 2)))).length : Int), 0, a0.Big, l44) p_4 [0, 1] H18 (by exact trivial) (by exact ⟨rfl, rfl, rfl, rfl, rfl, trivial⟩) (by decide) rfl ?_
    rintro ⟨x4_2, x50_2, m_3, l_4⟩ p_6 m3 gg H20 _
    clear H18
    replace H20 : Yc a0 (it (fun next3 s => Yc a0 next3 s.1 s.2.1 s.2.2.1 s.2.2.2) m3) x4_2 x50_2 m_3 l_4 = some r := H20
    generalize hn3 : it (fun next3 s => Yc a0 next3 s.1 s.2.1 s.2.2.1 s.2.2.2) m3 = next3 at H20
    try dsimp only
    refine Jf ?_
    refine Jb ?_
    refine Ja rfl rfl rfl (Z0 rfl rfl) ?_
    refine Jg ?_
    refine Jf ?_
    refine Qf (b := (decide (x50_2 < (a0.Dirs.length : Int)))) rfl (fun hb => ?_) (fun hb => ?_)
    ·have H21 := Jr hb H20; clear H20
     refine Jt ?_
     refine Jf ?_
     refine J4 ?_
     refine Jf ?_
     refine Jb ?_
     obtain ⟨t52, h_t52, H22⟩ := Jh H21; clear H21
     refine Ja rfl rfl rfl (Y6 Try.underlying22 Try.sizeOf27 rfl rfl f0_1.frs (f0_1.ix h_t52)) ?_
     refine Yw (fun w hF hS => Z6 (f := (elC h v0_1 1)) (i := x50_2) (sz := 1) (j := 0) (v := (Yq h v0_1 1 (Int.toNat x50_2) 0)) Try.isAgg27 rfl rfl (f0_1.frs.row (hw.now hF)) (f0_1.ix h_t52) (rg_of (cgs_tag_Entry (f0_1.at h_t52)) rfl)) rfl rfl rfl ?_
     refine Ja rfl rfl rfl (Jc (v := (Yq h v0_1 1 (Int.toNat x50_2) 0)) rfl) ?_
     refine Jg ?_
     refine Jf ?_
     refine Jb ?_
     refine Ja rfl rfl rfl (Jd (v := .pointer (some ⟨b7, 0, none⟩)) rfl) ?_
     refine Ja rfl rfl rfl (Jd (v := (Yq h v0_1 1 (Int.toNat x50_2) 0)) rfl) ?_
     obtain ⟨t57, h_t57, H23⟩ := Jh H22; clear H22
     refine Jv 0 1 rfl rfl (by decide) ?_
     refine Qs (Qj (i := 0) (rds := []) (G := fun x : (Option Addr × Nat) => .tuple #[.int .i64 t57.1, .int .i64 t57.2.1]) (C := fun x : (Option Addr × Nat) => J0 (Jl b7 [.bool t57.2.2.big_, .slice x.1 t57.2.2.out_.length x.2] 138) (Jz 5 1 (.slice x.1 t57.2.2.out_.length x.2) t57.2.2.out_.length (t57.2.2.out_.map Xa))) rfl (fun w L' S hF hS hi hp hlt ho hA => k116 hp hlt (Xg w S) rfl ((show FrN h 6 (Yq h v0_1 1 (Int.toNat x50_2) 0) g_tag_Entry t52 from (f0_1.at h_t52)).mono (hw.but hF ho)) h_t57) Try.call116 rfl) rfl rfl rfl (fun p_7 => ?_)
     refine J5 0 1 rfl rfl (by decide) ?_
     refine Ja rfl rfl rfl (Jd (v := .tuple #[.int .i64 t57.1, .int .i64 t57.2.1]) rfl) ?_
     refine Ja rfl rfl rfl (Qh (v := .int .i64 t57.1) rfl rfl) ?_
     refine Ja rfl rfl rfl (Qh (v := .int .i64 t57.2.1) rfl rfl) ?_
     refine Ja rfl rfl rfl (Jc (v := .int .i64 t57.1) rfl) ?_
     refine Ja rfl rfl rfl (Jc (v := .int .i64 t57.2.1) rfl) ?_
     refine Jg ?_
     refine Jf ?_
     refine Jb ?_
     refine Ja rfl rfl rfl (Jd (v := .pointer (some ⟨b7, 0, none⟩)) rfl) ?_
     refine Ja rfl rfl rfl (Jd (v := .int .i64 x4_2) rfl) ?_
     refine Ja rfl rfl rfl (Jd (v := .int .i64 t57.1) rfl) ?_
     obtain ⟨t63, h_t63, H24⟩ := Jh H23; clear H23
     refine Jv 0 1 rfl rfl (by decide) ?_
     refine Qs (Qj (i := 0) (rds := []) (G := fun x : (Option Addr × Nat) => .tuple #[]) (C := fun x : (Option Addr × Nat) => J0 (Jl b7 [.bool t63.big_, .slice x.1 t63.out_.length x.2] 138) (Jz 5 1 (.slice x.1 t63.out_.length x.2) t63.out_.length (t63.out_.map Xa))) rfl (fun w L' S hF hS hi hp hlt ho hA => k86 hp hlt (Xg w S) rfl h_t63) Try.call86 rfl) rfl rfl rfl (fun p_8 => ?_)
     refine J5 0 1 rfl rfl (by decide) ?_
     refine Jg ?_
     refine Jb ?_
     refine Ja rfl rfl rfl (Jd (v := .int .i64 t57.2.1) rfl) ?_
     refine Ja rfl rfl rfl (Jc (v := .int .i64 t57.2.1) rfl) ?_
     refine Jg ?_
     refine Jb ?_
     obtain ⟨t65, h_t65, H25⟩ := Jh H24; clear H24
     refine Ja rfl rfl rfl (Qm rfl rfl h_t65) ?_
     refine Ja rfl rfl rfl (Jd (v := .int .i64 t65) rfl) ?_
     refine Jg ?_
     refine Jp (t57.2.1, t65, t63.big_, t63.out_) p_8 m3 [0, 1] (by exact ⟨rfl, rfl, rfl, rfl, rfl, trivial⟩) (by decide) (by kernel_rfl) (by exact ⟨(by subst hn3; exact H25), trivial⟩) (Nat.lt_succ_self _)
    ·have H26 := Jq hb H20; clear H20
     refine Yk ?_
     refine Jp (m_3, l_4) p_6 0 [0, 1] (by exact ⟨rfl, trivial⟩) (by decide) (by kernel_rfl) (by exact ⟨H26, trivial⟩) (Nat.lt_succ_self _)
   ·rintro ⟨m, l_2⟩ p_5 gg H19 _
    replace H19 : Us m l_2 = some r := H19
    try dsimp only
    refine Jf ?_
    refine Jb ?_
    refine Ja rfl rfl rfl (Jd (v := .pointer (some ⟨b7, 0, none⟩)) rfl) ?_
    refine Ja rfl rfl rfl (Js rfl) ?_
    refine Ja rfl rfl rfl (Jk Try.runUnderlying138 rfl Try.sizeOf133 rfl rfl) ?_
    refine Jw (i := 0) (v := .slice p_5.1 l_2.length p_5.2) Try.isAgg133 rfl rfl rfl rfl rfl ?_
    refine Yw (fun w hF hS => run_bytes (f := Xa) (xs := l_2) rfl Try.underlying133 Try.underlying5 Try.underlying9 rfl (fun _ => rfl) (rowOf (i := 1) hS rfl)) rfl rfl rfl ?_
    refine Ja rfl rfl rfl (Jc (v := str (Vo l_2)) rfl) ?_
    refine Jg ?_
    refine Ju ?_
    obtain rfl := Option.some.inj H19
    refine Qq (v := str (Vo l_2)) rfl rfl (Yn rfl)
   ) (by kernel_rfl)
theorem k24 {a0 : T_tag_File} {v0_1 : Value} {r : (List UInt8) × Int} {w : World} {h : J3} (hw : Know h w Wf) (f0_1 : FrN h 1 v0_1 gs_tag_Entry a0.Dirs) (H : tag_Write a0 = some r) : Does Try.prog 24 (List.toArray [.agg #[.bool a0.Big, v0_1]]) w (fun v w' => v = (.tuple #[str r.1, .int .i64 r.2]) ∧ Grow w w') := by
 refine enter (n := 12) Try.func24 rfl rfl rfl Wf [] (Sat.nil _ _) ?_
 refine Jf ?_
 refine Jb ?_
 refine U6 (cs := [.bool a0.Big, v0_1]) rfl rfl rfl rfl (fun b1 => ?_)
 refine Ja rfl rfl rfl (Jc (v := str []) rfl) ?_
 refine Ja rfl rfl rfl (Jc (v := .int .i64 0) rfl) ?_
 refine Jg ?_
 refine Jf ?_
 refine Jf ?_
 refine Jb ?_
 refine Zd (i := 0) (vs := [.bool a0.Big, v0_1]) Try.isAgg24 Try.sizeOf24 rfl rfl rfl rfl rfl ?_
 obtain ⟨t6, h_t6, H5⟩ := Jh H; clear H
 refine Q4 (fun w hF hS => k41 (Jy w) (f0_1.mono (hw.now hF)) h_t6) Try.call41 rfl rfl rfl ?_
 refine Ja rfl rfl rfl (Jc (v := .int .i64 t6) rfl) ?_
 refine Jg ?_
 refine Jf ?_
 refine Jb ?_
 refine Ja rfl rfl rfl (Jd (v := .int .i64 t6) rfl) ?_
 refine Ja rfl rfl rfl (Zr rfl rfl) ?_
 refine Jg ?_
 refine Qf (b := (decide (t6 ≠ 0))) rfl (fun hb => ?_) (fun hb => ?_)
 ·have H6 := Jr hb H5; clear H5
  refine Jf ?_
  refine Jb ?_
  refine Ja rfl rfl rfl (Jd (v := .int .i64 t6) rfl) ?_
  refine Ja rfl rfl rfl (Jc (v := str []) rfl) ?_
  refine Ja rfl rfl rfl (Jc (v := .int .i64 t6) rfl) ?_
  refine Jg ?_
  refine Ju ?_
  obtain rfl := Option.some.inj H6
  refine W8 (v1 := str []) (v2 := .int .i64 t6) rfl rfl rfl (Yn rfl)
 ·have H7 := Jq hb H5; clear H5
  refine Jt ?_
  refine Jf ?_
  refine Jb ?_
  refine Zd (i := 0) (vs := [.bool a0.Big, v0_1]) Try.isAgg24 Try.sizeOf24 rfl rfl rfl rfl rfl ?_
  obtain ⟨t11, h_t11, H8⟩ := Jh H7; clear H7
  refine Q4 (fun w hF hS => k70 (Jy w) (f0_1.mono (hw.now hF)) h_t11) Try.call70 rfl rfl rfl ?_
  refine Ja rfl rfl rfl (Jc (v := str t11) rfl) ?_
  refine Ja rfl rfl rfl (Jc (v := .int .i64 0) rfl) ?_
  refine Jg ?_
  refine Ju ?_
  obtain rfl := Option.some.inj H8
  refine W8 (v1 := str t11) (v2 := .int .i64 0) rfl rfl rfl (Yn rfl)
end Go.Proofs.Ytemkoikdkfkijaa
