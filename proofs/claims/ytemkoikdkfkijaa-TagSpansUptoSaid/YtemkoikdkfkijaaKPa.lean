/- TagSpans, checks and Write: the walks, printed by our generator; each follows its model. Conditions: the model yields a value. -/
import Derived.Test.YtemkoikdkfkijaaMd
import Derived.Test.YtemkoikdkfkijaaLx5
import Derived.Test.YtemkoikdkfkijaaProg
namespace Go.Proofs.Ytemkoikdkfkijaa
open Go Go.Vc Go.Md Go.M Go.Lx
set_option maxRecDepth 100000
set_option maxHeartbeats 4000000
set_option linter.unusedVariables false
theorem mixed : Try.prog.follows .mixedOrders = true := by kernel_rfl
abbrev Xx (x : Int) : List Value := [.int .i64 x]
abbrev J5 : Nat → Value
  | 0 => .func (.func 91) #[] #[]
  | 1 => .func (.func 72) #[] #[]
  | _ => .nilFunc
def V9 (m : ((List Int) → Int → Option (Unit))) (w : World) (args : List Value) (post : Value → World → Prop) : Prop :=
  ∃ (a0 : (List Int)) (v0 : Value) (a1 : Int) (r : Unit), FrS (fun b => w.heap[b]?) 1 v0 (a0.map Xx) ∧ args = [v0, .int .i64 a1] ∧ m a0 a1 = some r ∧ post = fun v' w' => v' = (.tuple #[]) ∧ Grow w w'
abbrev J7 (x : T_tag_Ratio) : List Value := [.int .i64 x.Num, .int .i64 x.Den]
abbrev Xh (x : Int) : List Value := [.int .u8 x]
abbrev Ji (x : T_tag_Span) : List Value := [.int .i64 x.From, .int .i64 x.To]
abbrev e_string (x : (List UInt8)) : List Value := [str x]
inductive g_tag_Entry (h : J6) : (Nat → Value) → T_tag_Entry → Prop
  | mk {c : Nat → Value} {x : T_tag_Entry} (h0 : c 0 = .int .i64 x.Tag) (h1 : c 1 = .int .i64 x.Value.Kind) (h2 : c 2 = str x.Value.Text) (h3 : FrS h 1 (c 3) (x.Value.Ints.map Xx)) (h4 : FrS h 2 (c 4) (x.Value.Ratios.map J7)) (h5 : FrS h 6 (c 5) ((List.range x.Value.Entries.length).map (elC h (c 5) 6))) (h6 : ∀ (i : Nat) (y : T_tag_Entry), x.Value.Entries[i]? = some y → g_tag_Entry h (Xz h (c 5) 6 i) y) : g_tag_Entry h c x
instance : Mon g_tag_Entry := ⟨fun k c x f => by
  induction f with
  | mk h0 h1 h2 h3 h4 h5 h6 ih => exact .mk h0 h1 h2 (h3.mono k) (h4.mono k) (frsMono h5 k) (fun i y hy => by have e_ := elMonoE h5 k hy; rw [← e_]; exact ih i y hy)⟩
def gs_int (h : J6) (c : Nat → Value) (x : (List Int)) : Prop := FrS h 1 (c 0) (x.map Xx)
instance : Mon gs_int := ⟨fun k _ _ f => FrS.mono f k⟩
def gs_tag_Ratio (h : J6) (c : Nat → Value) (x : (List T_tag_Ratio)) : Prop := FrS h 2 (c 0) (x.map J7)
instance : Mon gs_tag_Ratio := ⟨fun k _ _ f => FrS.mono f k⟩
def gs_tag_Entry (h : J6) (c : Nat → Value) (x : (List T_tag_Entry)) : Prop := FrN h 6 (c 0) g_tag_Entry x
instance : Mon gs_tag_Entry := ⟨fun k _ _ f => FrN.mono f k⟩
theorem cgs_tag_Entry {h : J6} {c : Nat → Value} {x : (List T_tag_Entry)} (_ : gs_tag_Entry h c x) : (List.range 1).map c = [c 0] := rfl
def g_tag_Value (h : J6) (c : Nat → Value) (x : T_tag_Value) : Prop := c 0 = .int .i64 x.Kind ∧ c 1 = str x.Text ∧ gs_int h (fun j => c (2 + j)) x.Ints ∧ gs_tag_Ratio h (fun j => c (3 + j)) x.Ratios ∧ gs_tag_Entry h (fun j => c (4 + j)) x.Entries
instance : Mon g_tag_Value := ⟨fun k _ _ f => by obtain ⟨h0, h1, h2, h3, h4⟩ := f; exact ⟨h0, h1, Mon.mono k _ _ h2, Mon.mono k _ _ h3, Mon.mono k _ _ h4⟩⟩
theorem cg_tag_Value {h : J6} {c : Nat → Value} {x : T_tag_Value} (f : g_tag_Value h c x) : (List.range 5).map c = [.int .i64 x.Kind, str x.Text, c 2, c 3, c 4] := by
  obtain ⟨h0, h1, h2, h3, h4⟩ := f
  show [c 0, c 1, c 2, c 3, c 4] = _
  simp only [h0, h1]
theorem X7 {h : J6} {c : Nat → Value} {x : T_tag_Value} (f : g_tag_Value h c x) : gs_int h (fun j => c (2 + j)) x.Ints := by
  obtain ⟨h0, h1, h2, h3, h4⟩ := f; exact h2
theorem X4 {h : J6} {c : Nat → Value} {x : T_tag_Value} (f : g_tag_Value h c x) : gs_tag_Ratio h (fun j => c (3 + j)) x.Ratios := by
  obtain ⟨h0, h1, h2, h3, h4⟩ := f; exact h3
theorem Xc {h : J6} {c : Nat → Value} {x : T_tag_Value} (f : g_tag_Value h c x) : gs_tag_Entry h (fun j => c (4 + j)) x.Entries := by
  obtain ⟨h0, h1, h2, h3, h4⟩ := f; exact h4
theorem g_tag_Entry_iff {h : J6} {c : Nat → Value} {x : T_tag_Entry} : g_tag_Entry h c x ↔ (c 0 = .int .i64 x.Tag ∧ g_tag_Value h (fun j => c (1 + j)) x.Value) :=
  ⟨fun f => by cases f with | mk h0 h1 h2 h3 h4 h5 h6 => exact ⟨h0, ⟨h1, h2, h3, h4, ⟨h5, h6⟩⟩⟩, fun ⟨h0, ⟨h1, h2, h3, h4, ⟨h5, h6⟩⟩⟩ => .mk h0 h1 h2 h3 h4 h5 h6⟩
theorem V7 {h : J6} {c : Nat → Value} {x : T_tag_Entry} (f : g_tag_Entry h c x) : (List.range 6).map c = [.int .i64 x.Tag, .int .i64 x.Value.Kind, str x.Value.Text, c 3, c 4, c 5] := by
  obtain ⟨h0, h1⟩ := g_tag_Entry_iff.1 f
  have hc1 := cg_tag_Value h1
  simp only [List.range, List.range.loop, List.map_cons, List.map_nil, Nat.reduceAdd, List.cons.injEq, and_true] at hc1
  show [c 0, c 1, c 2, c 3, c 4, c 5] = _
  simp only [h0, hc1]
theorem Jv {h : J6} {c : Nat → Value} {x : T_tag_Entry} (f : g_tag_Entry h c x) : g_tag_Value h (fun j => c (1 + j)) x.Value := by
  obtain ⟨h0, h1⟩ := g_tag_Entry_iff.1 f; exact h1
def gs_tag_Span (h : J6) (c : Nat → Value) (x : (List T_tag_Span)) : Prop := FrS h 2 (c 0) (x.map Ji)
instance : Mon gs_tag_Span := ⟨fun k _ _ f => FrS.mono f k⟩
theorem cgs_tag_Span {h : J6} {c : Nat → Value} {x : (List T_tag_Span)} (_ : gs_tag_Span h c x) : (List.range 1).map c = [c 0] := rfl
theorem run_eqT103 (d : Nat) (w : World) (a0 b0 : Int) (a1 b1 : Int) : (Op.equalIn (d + 2) 103 (.agg #[.int .i64 a0, .int .i64 a1]) (.agg #[.int .i64 b0, .int .i64 b1])).run Try.prog w = .ok (decide (a0 = b0 ∧ a1 = b1)) w := by
  rw [run_equalIn_struct w (d + 1) 103 _ _ (by simp only [Program.fieldsOf, Try.underlying103]) Try.stoodInHeld103]
  simp only [Program.fieldsOf, Try.underlying103, Op.eqFields]
  simp [part, run_equalIn_int, run_equalIn_strL, run_equalIn_bool', Try.underlying3]
  repeat' split
  all_goals simp_all
theorem run_eq_tag_Ratio (w : World) (x y : T_tag_Ratio) : (Op.equalIn Op.maxDepth 103 (.agg #[.int .i64 x.Num, .int .i64 x.Den]) (.agg #[.int .i64 y.Num, .int .i64 y.Den])).run Try.prog w = .ok (W6 x y) w :=
  run_eqT103 9998 w _ _ _ _
theorem k91 {a0 : (List Int)} {v0 : Value} {a1 : Int} {r : Unit} {w : World} {h : J6} (hw : Know h w Wg) (f0 : FrS h 1 v0 (a0.map Xx)) (H : tag_Read_1 a0 a1 = some r) : Does Try.prog 91 (List.toArray [v0, .int .i64 a1]) w (fun v w' => v = (.tuple #[]) ∧ Grow w w') := by
 refine enter (n := 4) Try.func91 rfl rfl rfl Wg [] (Sat.nil _ _) ?_
 refine Ju ?_
 cases H
 refine ret0n rfl (Zr rfl)
theorem k72 {a0 : (List Int)} {v0 : Value} {a1 : Int} {r : Unit} {w : World} {h : J6} (hw : Know h w Wg) (f0 : FrS h 1 v0 (a0.map Xx)) (H : tag_Used_1 a0 a1 = some r) : Does Try.prog 72 (List.toArray [v0, .int .i64 a1]) w (fun v w' => v = (.tuple #[]) ∧ Grow w w') := by
 refine enter (n := 4) Try.func72 rfl rfl rfl Wg [] (Sat.nil _ _) ?_
 refine Ju ?_
 cases H
 refine ret0n rfl (Zr rfl)
theorem hft121 (k : Nat) : FnV Try.prog (J5 k) (mft121 k) (fun g => V9 g) :=
  match k with
  | 0 => (show FnV Try.prog (J5 0) (mft121 0) _ from (FnV.mk (g := tag_Read_1) (R := fun g => V9 g) (fun h_ => (FnH.mk ⟨91, #[], #[], rfl, Try.call91, fun args2 post2 w2 hk2 hR2 => by obtain ⟨a0_, v0_, a1_, r_, fa0_, rfl, H_, rfl⟩ := hR2; exact k91 (J3 w2) fa0_ H_⟩))))
  | 1 => (show FnV Try.prog (J5 1) (mft121 1) _ from (FnV.mk (g := tag_Used_1) (R := fun g => V9 g) (fun h_ => (FnH.mk ⟨72, #[], #[], rfl, Try.call72, fun args2 post2 w2 hk2 hR2 => by obtain ⟨a0_, v0_, a1_, r_, fa0_, rfl, H_, rfl⟩ := hR2; exact k72 (J3 w2) fa0_ H_⟩))))
  | _ + 2 => FnV.nil
theorem k97 {a0 : Int} {a1 : Int} {a2 : Int} {r : Bool} (H : Zx a0 a1 a2 = some r) : Ret Try.prog 97 [.int .i64 a0, .int .i64 a1, .int .i64 a2] (.bool r) := by
 refine Vp (n := 15) Try.func97 rfl rfl rfl (fun wd => ?_)
 refine Jf ?_
 refine Jb ?_
 refine Ja rfl rfl rfl (Jd (v := .bool false) rfl) ?_
 refine Jg ?_
 refine Jf ?_
 refine Jb ?_
 refine Ja rfl rfl rfl (Jc (v := .int .i64 a0) rfl) ?_
 refine Ja rfl rfl rfl (Jc (v := .int .i64 a1) rfl) ?_
 refine Ja rfl rfl rfl (Zn rfl rfl) ?_
 refine Ja rfl rfl rfl (Jc (v := .bool (decide (a0 < a1))) rfl) ?_
 refine split (fun hb => ?_) (fun hb => ?_)
 ·have H3 := Js hb H; clear H
  refine Jk rfl rfl rfl ?_
  refine Jk rfl rfl rfl ?_
  refine Jk rfl rfl rfl ?_
  refine Ja rfl rfl rfl (Q5 (v := .bool true) rfl rfl) ?_
  refine Ja rfl rfl rfl (Jd (v := .bool true) rfl) ?_
  refine Jg ?_
  refine J0 ?_
  obtain rfl := Option.some.inj H3
  refine Q2 (v := .bool true) rfl rfl (Zr rfl)
 ·have H4 := Jt hb H; clear H
  refine Ja rfl rfl rfl (Jc (v := .int .i64 a0) rfl) ?_
  refine Ja rfl rfl rfl (Jc (v := .int .i64 a2) rfl) ?_
  refine Ja rfl rfl rfl (Wq rfl rfl) ?_
  refine Ja rfl rfl rfl (Xg (v := .bool (decide (a2 < a0))) rfl rfl) ?_
  refine Ja rfl rfl rfl (Jd (v := .bool (decide (a2 < a0))) rfl) ?_
  refine Jg ?_
  refine J0 ?_
  obtain rfl := Option.some.inj H4
  refine Q2 (v := .bool (decide (a2 < a0))) rfl rfl (Zr rfl)
theorem k136 {a0 : Int} {r : Int} (H : Yy a0 = some r) : Ret Try.prog 136 [.int .i64 a0] (.int .i64 r) := by
 refine Vp (n := 16) Try.func136 rfl rfl rfl (fun wd => ?_)
 refine Jf ?_
 refine Jb ?_
 refine Ja rfl rfl rfl (Jd (v := .int .i64 0) rfl) ?_
 refine Jg ?_
 refine Jf ?_
 refine Jf ?_
 refine Jb ?_
 refine Ja rfl rfl rfl (Jc (v := .int .i64 a0) rfl) ?_
 refine Jg ?_
 refine J1 ?_
 refine Xb (r := r) (σ := Bool) (τ := Unit) (fun s => Z3 a0 s) (fun s t => [(3, .int .i64 a0), (4, .bool s)]) (fun s t => []) (fun s t => True) ?_ ?_
 ·refine Jf ?_
  refine Jb ?_
  refine Ja rfl rfl rfl (Xq rfl rfl) ?_
  refine Ja rfl rfl rfl (Jd (v := .bool (decide (a0 = 1))) rfl) ?_
  refine Jg ?_
  refine Qf (b := (decide (a0 = 1))) rfl (fun hb => ?_) (fun hb => ?_)
  ·have H37 := Js hb H; clear H
   refine Ju ?_
   refine Jo (decide (a0 = 1)) () 0 [] (by exact ⟨rfl, rfl, trivial⟩) (by decide) (by kernel_rfl) (by exact ⟨H37, trivial⟩) (Nat.lt_succ_self _)
  ·have H38 := Jt hb H; clear H
   refine Jf ?_
   refine Jb ?_
   refine Ja rfl rfl rfl (Xq rfl rfl) ?_
   refine Ja rfl rfl rfl (Jd (v := .bool (decide (a0 = 2))) rfl) ?_
   refine Jg ?_
   refine Qf (b := (decide (a0 = 2))) rfl (fun hb => ?_) (fun hb => ?_)
   ·have H39 := Js hb H38; clear H38
    refine Ju ?_
    refine Jo (decide (a0 = 2)) () 0 [] (by exact ⟨rfl, rfl, trivial⟩) (by decide) (by kernel_rfl) (by exact ⟨H39, trivial⟩) (Nat.lt_succ_self _)
   ·have H40 := Jt hb H38; clear H38
    refine Jf ?_
    refine Jb ?_
    refine Ja rfl rfl rfl (Xq rfl rfl) ?_
    refine Ja rfl rfl rfl (Jd (v := .bool (decide (a0 = 7))) rfl) ?_
    refine Jg ?_
    refine Qf (b := (decide (a0 = 7))) rfl (fun hb => ?_) (fun hb => ?_)
    ·have H41 := Js hb H40; clear H40
     refine Ju ?_
     refine Jo (decide (a0 = 7)) () 0 [] (by exact ⟨rfl, rfl, trivial⟩) (by decide) (by kernel_rfl) (by exact ⟨H41, trivial⟩) (Nat.lt_succ_self _)
    ·have H42 := Jt hb H40; clear H40
     refine Jb ?_
     refine Ja rfl rfl rfl (Xq rfl rfl) ?_
     refine Ja rfl rfl rfl (Jd (v := .bool (decide (a0 = 13))) rfl) ?_
     refine Jg ?_
     refine Jo (decide (a0 = 13)) () 0 [] (by exact ⟨rfl, rfl, trivial⟩) (by decide) (by kernel_rfl) (by exact ⟨H42, trivial⟩) (Nat.lt_succ_self _)
 ·rintro x4 _ gg H22 _
  replace H22 : Z3 a0 x4 = some r := H22
  try dsimp only
  refine Qf (b := x4) rfl (fun hb => ?_) (fun hb => ?_)
  ·have H23 := Js hb H22; clear H22
   refine Jf ?_
   refine Jb ?_
   refine Ja rfl rfl rfl (Jd (v := .int .i64 1) rfl) ?_
   refine Jg ?_
   refine J0 ?_
   obtain rfl := Option.some.inj H23
   refine Q2 (v := .int .i64 1) rfl rfl (Zr rfl)
  ·have H24 := Jt hb H22; clear H22
   refine Jf ?_
   refine Jb ?_
   refine Ja rfl rfl rfl (Xq rfl rfl) ?_
   refine Ja rfl rfl rfl (Jd (v := .bool (decide (a0 = 3))) rfl) ?_
   refine Jg ?_
   refine Qf (b := (decide (a0 = 3))) rfl (fun hb => ?_) (fun hb => ?_)
   ·have H25 := Js hb H24; clear H24
    refine Jf ?_
    refine Jb ?_
    refine Ja rfl rfl rfl (Jd (v := .int .i64 2) rfl) ?_
    refine Jg ?_
    refine J0 ?_
    obtain rfl := Option.some.inj H25
    refine Q2 (v := .int .i64 2) rfl rfl (Zr rfl)
   ·have H26 := Jt hb H24; clear H24
    refine Jf ?_
    refine Jf ?_
    refine Jb ?_
    refine Ja rfl rfl rfl (Xq rfl rfl) ?_
    refine Ja rfl rfl rfl (Jd (v := .bool (decide (a0 = 4))) rfl) ?_
    refine Jg ?_
    refine Qf (b := (decide (a0 = 4))) rfl (fun hb => ?_) (fun hb => ?_)
    ·have H27 := Js hb H26; clear H26
     refine Ju ?_
     refine Qf (b := (decide (a0 = 4))) rfl (fun hb => ?_) (fun hb => ?_)
     ·have H28 := Js hb H27; clear H27
      refine Jf ?_
      refine Jb ?_
      refine Ja rfl rfl rfl (Jd (v := .int .i64 4) rfl) ?_
      refine Jg ?_
      refine J0 ?_
      obtain rfl := Option.some.inj H28
      refine Q2 (v := .int .i64 4) rfl rfl (Zr rfl)
     ·have H29 := Jt hb H27; clear H27
      refine Jf ?_
      refine Jb ?_
      refine Ja rfl rfl rfl (Xq rfl rfl) ?_
      refine Ja rfl rfl rfl (Jd (v := .bool (decide (a0 = 5))) rfl) ?_
      refine Jg ?_
      refine Qf (b := (decide (a0 = 5))) rfl (fun hb => ?_) (fun hb => ?_)
      ·have H30 := Js hb H29; clear H29
       refine Jf ?_
       refine Jb ?_
       refine Ja rfl rfl rfl (Jd (v := .int .i64 8) rfl) ?_
       refine Jg ?_
       refine J0 ?_
       obtain rfl := Option.some.inj H30
       refine Q2 (v := .int .i64 8) rfl rfl (Zr rfl)
      ·have H31 := Jt hb H29; clear H29
       refine Ju ?_
       refine Jf ?_
       refine Jb ?_
       refine Ja rfl rfl rfl (Jd (v := .int .i64 0) rfl) ?_
       refine Jg ?_
       refine J0 ?_
       obtain rfl := Option.some.inj H31
       refine Q2 (v := .int .i64 0) rfl rfl (Zr rfl)
    ·have H32 := Jt hb H26; clear H26
     refine Jb ?_
     refine Ja rfl rfl rfl (Xq rfl rfl) ?_
     refine Ja rfl rfl rfl (Jd (v := .bool (decide (a0 = 9))) rfl) ?_
     refine Jg ?_
     refine Qf (b := (decide (a0 = 9))) rfl (fun hb => ?_) (fun hb => ?_)
     ·have H33 := Js hb H32; clear H32
      refine Jf ?_
      refine Jb ?_
      refine Ja rfl rfl rfl (Jd (v := .int .i64 4) rfl) ?_
      refine Jg ?_
      refine J0 ?_
      obtain rfl := Option.some.inj H33
      refine Q2 (v := .int .i64 4) rfl rfl (Zr rfl)
     ·have H34 := Jt hb H32; clear H32
      refine Jf ?_
      refine Jb ?_
      refine Ja rfl rfl rfl (Xq rfl rfl) ?_
      refine Ja rfl rfl rfl (Jd (v := .bool (decide (a0 = 5))) rfl) ?_
      refine Jg ?_
      refine Qf (b := (decide (a0 = 5))) rfl (fun hb => ?_) (fun hb => ?_)
      ·have H35 := Js hb H34; clear H34
       refine Jf ?_
       refine Jb ?_
       refine Ja rfl rfl rfl (Jd (v := .int .i64 8) rfl) ?_
       refine Jg ?_
       refine J0 ?_
       obtain rfl := Option.some.inj H35
       refine Q2 (v := .int .i64 8) rfl rfl (Zr rfl)
      ·have H36 := Jt hb H34; clear H34
       refine Ju ?_
       refine Jf ?_
       refine Jb ?_
       refine Ja rfl rfl rfl (Jd (v := .int .i64 0) rfl) ?_
       refine Jg ?_
       refine J0 ?_
       obtain rfl := Option.some.inj H36
       refine Q2 (v := .int .i64 0) rfl rfl (Zr rfl)
theorem k143 {a0 : Int} {r : Bool} (H : tag_isInts a0 = some r) : Ret Try.prog 143 [.int .i64 a0] (.bool r) := by
 refine Vp (n := 17) Try.func143 rfl rfl rfl (fun wd => ?_)
 refine Jf ?_
 refine Jb ?_
 refine Ja rfl rfl rfl (Jd (v := .bool false) rfl) ?_
 refine Jg ?_
 refine Jf ?_
 refine Jb ?_
 refine Ja rfl rfl rfl (Jc (v := .int .i64 a0) rfl) ?_
 refine Ja rfl rfl rfl (Xq rfl rfl) ?_
 refine Ja rfl rfl rfl (Jc (v := .bool (decide (a0 = 1))) rfl) ?_
 refine split (fun hb => ?_) (fun hb => ?_)
 ·have H7 := Js hb H; clear H
  refine Jk rfl rfl rfl ?_
  refine Jk rfl rfl rfl ?_
  refine Ja rfl rfl rfl (Q5 (v := .bool true) rfl rfl) ?_
  refine Ja rfl rfl rfl (Jc (v := .bool true) rfl) ?_
  refine Jk rfl rfl rfl ?_
  refine Jk rfl rfl rfl ?_
  refine Ja rfl rfl rfl (Q5 (v := .bool true) rfl rfl) ?_
  refine Ja rfl rfl rfl (Jc (v := .bool true) rfl) ?_
  refine Jk rfl rfl rfl ?_
  refine Jk rfl rfl rfl ?_
  refine Ja rfl rfl rfl (Q5 (v := .bool true) rfl rfl) ?_
  refine Ja rfl rfl rfl (Jd (v := .bool true) rfl) ?_
  refine Jg ?_
  refine J0 ?_
  obtain rfl := Option.some.inj H7
  refine Q2 (v := .bool true) rfl rfl (Zr rfl)
 ·have H8 := Jt hb H; clear H
  refine Ja rfl rfl rfl (Jc (v := .int .i64 a0) rfl) ?_
  refine Ja rfl rfl rfl (Xq rfl rfl) ?_
  refine Ja rfl rfl rfl (Xg (v := .bool (decide (a0 = 3))) rfl rfl) ?_
  refine Ja rfl rfl rfl (Jc (v := .bool (decide (a0 = 3))) rfl) ?_
  refine split (fun hb => ?_) (fun hb => ?_)
  ·have H9 := Js hb H8; clear H8
   refine Jk rfl rfl rfl ?_
   refine Jk rfl rfl rfl ?_
   refine Ja rfl rfl rfl (Q5 (v := .bool true) rfl rfl) ?_
   refine Ja rfl rfl rfl (Jc (v := .bool true) rfl) ?_
   refine Jk rfl rfl rfl ?_
   refine Jk rfl rfl rfl ?_
   refine Ja rfl rfl rfl (Q5 (v := .bool true) rfl rfl) ?_
   refine Ja rfl rfl rfl (Jd (v := .bool true) rfl) ?_
   refine Jg ?_
   refine J0 ?_
   obtain rfl := Option.some.inj H9
   refine Q2 (v := .bool true) rfl rfl (Zr rfl)
  ·have H10 := Jt hb H8; clear H8
   refine Ja rfl rfl rfl (Jc (v := .int .i64 a0) rfl) ?_
   refine Ja rfl rfl rfl (Xq rfl rfl) ?_
   refine Ja rfl rfl rfl (Xg (v := .bool (decide (a0 = 4))) rfl rfl) ?_
   refine Ja rfl rfl rfl (Jc (v := .bool (decide (a0 = 4))) rfl) ?_
   refine split (fun hb => ?_) (fun hb => ?_)
   ·have H11 := Js hb H10; clear H10
    refine Jk rfl rfl rfl ?_
    refine Jk rfl rfl rfl ?_
    refine Ja rfl rfl rfl (Q5 (v := .bool true) rfl rfl) ?_
    refine Ja rfl rfl rfl (Jd (v := .bool true) rfl) ?_
    refine Jg ?_
    refine J0 ?_
    obtain rfl := Option.some.inj H11
    refine Q2 (v := .bool true) rfl rfl (Zr rfl)
   ·have H12 := Jt hb H10; clear H10
    refine Ja rfl rfl rfl (Jc (v := .int .i64 a0) rfl) ?_
    refine Ja rfl rfl rfl (Xq rfl rfl) ?_
    refine Ja rfl rfl rfl (Xg (v := .bool (decide (a0 = 9))) rfl rfl) ?_
    refine Ja rfl rfl rfl (Jd (v := .bool (decide (a0 = 9))) rfl) ?_
    refine Jg ?_
    refine J0 ?_
    obtain rfl := Option.some.inj H12
    refine Q2 (v := .bool (decide (a0 = 9))) rfl rfl (Zr rfl)
theorem k144 {a0 : Int} {r : Bool} (H : tag_isText a0 = some r) : Ret Try.prog 144 [.int .i64 a0] (.bool r) := by
 refine Vp (n := 9) Try.func144 rfl rfl rfl (fun wd => ?_)
 refine Jf ?_
 refine Jb ?_
 refine Ja rfl rfl rfl (Jd (v := .bool false) rfl) ?_
 refine Jg ?_
 refine Jf ?_
 refine Jb ?_
 refine Ja rfl rfl rfl (Jc (v := .int .i64 a0) rfl) ?_
 refine Ja rfl rfl rfl (Xq rfl rfl) ?_
 refine Ja rfl rfl rfl (Jc (v := .bool (decide (a0 = 2))) rfl) ?_
 refine split (fun hb => ?_) (fun hb => ?_)
 ·have H3 := Js hb H; clear H
  refine Jk rfl rfl rfl ?_
  refine Jk rfl rfl rfl ?_
  refine Ja rfl rfl rfl (Q5 (v := .bool true) rfl rfl) ?_
  refine Ja rfl rfl rfl (Jd (v := .bool true) rfl) ?_
  refine Jg ?_
  refine J0 ?_
  obtain rfl := Option.some.inj H3
  refine Q2 (v := .bool true) rfl rfl (Zr rfl)
 ·have H4 := Jt hb H; clear H
  refine Ja rfl rfl rfl (Jc (v := .int .i64 a0) rfl) ?_
  refine Ja rfl rfl rfl (Xq rfl rfl) ?_
  refine Ja rfl rfl rfl (Xg (v := .bool (decide (a0 = 7))) rfl rfl) ?_
  refine Ja rfl rfl rfl (Jd (v := .bool (decide (a0 = 7))) rfl) ?_
  refine Jg ?_
  refine J0 ?_
  obtain rfl := Option.some.inj H4
  refine Q2 (v := .bool (decide (a0 = 7))) rfl rfl (Zr rfl)
theorem k104 {a0 : T_tag_Value} {v0_2 : Value} {v0_3 : Value} {v0_4 : Value} {r : Int} {w : World} {h : J6} (hw : Know h w Wg) (f0_2 : FrS h 1 v0_2 (a0.Ints.map Xx)) (f0_3 : FrS h 2 v0_3 (a0.Ratios.map J7)) (f0_4 : FrN h 6 v0_4 g_tag_Entry a0.Entries) (H : Vr a0 = some r) : Does Try.prog 104 (List.toArray [.agg #[.int .i64 a0.Kind, str a0.Text, v0_2, v0_3, v0_4]]) w (fun v w' => v = (.int .i64 r) ∧ Grow w w') := by
 refine enter (n := 46) Try.func104 rfl rfl rfl Wg [] (Sat.nil _ _) ?_
 refine Jf ?_
 refine Jb ?_
 refine l_box (cs := [.int .i64 a0.Kind, str a0.Text, v0_2, v0_3, v0_4]) rfl rfl rfl rfl (fun b1 => ?_)
 refine Ja rfl rfl rfl (Jd (v := .int .i64 0) rfl) ?_
 refine Jg ?_
 refine Jf ?_
 refine J1 ?_
 refine Jf ?_
 refine Jb ?_
 refine Ja rfl rfl rfl (Jl Try.runUnderlying29 rfl Try.sizeOf3 rfl rfl) ?_
 refine Jr (i := 0) (v := .int .i64 a0.Kind) Try.isAgg3 rfl rfl rfl rfl rfl ?_
 obtain ⟨t6, h_t6, H31⟩ := Jh H; clear H
 refine Z8 (k136 h_t6) Try.call136 rfl rfl rfl ?_
 refine Ja rfl rfl rfl (Xq rfl rfl) ?_
 refine Ja rfl rfl rfl (Jd (v := .bool (decide (t6 = 0))) rfl) ?_
 refine Jg ?_
 refine Qf (b := (decide (t6 = 0))) rfl (fun hb => ?_) (fun hb => ?_)
 ·have H32 := Js hb H31; clear H31
  refine Jf ?_
  refine Jb ?_
  refine Ja rfl rfl rfl (Jd (v := .int .i64 10) rfl) ?_
  refine Jg ?_
  refine J0 ?_
  obtain rfl := Option.some.inj H32
  refine Q2 (v := .int .i64 10) rfl rfl (Zr rfl)
 ·have H33 := Jt hb H31; clear H31
  refine Jf ?_
  refine Xb (r := r) (σ := Bool) (τ := Unit) (fun s => Yw a0 s) (fun s t => [(1, .pointer (some ⟨b1, 0, none⟩)), (8, .bool s)]) (fun s t => [Jm b1 [.int .i64 a0.Kind, str a0.Text, v0_2, v0_3, v0_4] 29]) (fun s t => True) ?_ ?_
  ·refine Jb ?_
   refine Ja rfl rfl rfl (Jl Try.runUnderlying29 rfl Try.sizeOf3 rfl rfl) ?_
   refine Jr (i := 0) (v := .int .i64 a0.Kind) Try.isAgg3 rfl rfl rfl rfl rfl ?_
   obtain ⟨t11, h_t11, H58⟩ := Jh H33; clear H33
   refine Z8 (k143 h_t11) Try.call143 rfl rfl rfl ?_
   refine Ja rfl rfl rfl (r_not rfl) ?_
   refine Ja rfl rfl rfl (Jc (v := .bool (!t11)) rfl) ?_
   refine split (fun hb => ?_) (fun hb => ?_)
   ·have H59 := Js hb H58; clear H58
    refine Ja rfl rfl rfl (Jl Try.runUnderlying29 rfl Try.sizeOf25 rfl rfl) ?_
    refine Jr (i := 0) (v := v0_2) Try.isAgg25 rfl rfl rfl rfl rfl ?_
    refine Ja rfl rfl rfl (r_lenF Try.underlying25 rfl f0_2 rfl) ?_
    refine Ja rfl rfl rfl (Wq rfl rfl) ?_
    refine Ja rfl rfl rfl (Q5 (v := .bool (decide (0 < (a0.Ints.length : Int)))) rfl rfl) ?_
    refine Ja rfl rfl rfl (Jd (v := .bool (decide (0 < (a0.Ints.length : Int)))) rfl) ?_
    refine Jg ?_
    refine Jo (decide (0 < (a0.Ints.length : Int))) () 0 [0] (by exact ⟨rfl, rfl, trivial⟩) (by decide) (by kernel_rfl) (by exact ⟨H59, trivial⟩) (Nat.lt_succ_self _)
   ·have H60 := Jt hb H58; clear H58
    refine Jk rfl rfl rfl ?_
    refine Jk rfl rfl rfl ?_
    refine Jk rfl rfl rfl ?_
    refine Jk rfl rfl rfl ?_
    refine Ja rfl rfl rfl (Xg (v := .bool false) rfl rfl) ?_
    refine Ja rfl rfl rfl (Jd (v := .bool false) rfl) ?_
    refine Jg ?_
    refine Jo false () 0 [0] (by exact ⟨rfl, rfl, trivial⟩) (by decide) (by kernel_rfl) (by exact ⟨H60, trivial⟩) (Nat.lt_succ_self _)
  ·rintro x8 _ gg H34 _
   replace H34 : Yw a0 x8 = some r := H34
   try dsimp only
   refine Qf (b := x8) rfl (fun hb => ?_) (fun hb => ?_)
   ·have H35 := Js hb H34; clear H34
    refine Ju ?_
    refine Qf (b := x8) rfl (fun hb => ?_) (fun hb => ?_)
    ·have H36 := Js hb H35; clear H35
     refine Jf ?_
     refine Jb ?_
     refine Ja rfl rfl rfl (Jd (v := .int .i64 1) rfl) ?_
     refine Jg ?_
     refine J0 ?_
     obtain rfl := Option.some.inj H36
     refine Q2 (v := .int .i64 1) rfl rfl (Zr rfl)
    ·have H37 := Jt hb H35; clear H35
     refine Ju ?_
     refine Jf ?_
     refine Jb ?_
     refine Ja rfl rfl rfl (Jd (v := .int .i64 0) rfl) ?_
     refine Jg ?_
     refine J0 ?_
     obtain rfl := Option.some.inj H37
     refine Q2 (v := .int .i64 0) rfl rfl (Zr rfl)
   ·have H38 := Jt hb H34; clear H34
    refine Xb (r := r) (σ := Bool) (τ := Unit) (fun s => Yx a0 s) (fun s t => [(1, .pointer (some ⟨b1, 0, none⟩)), (8, .bool s)]) (fun s t => [Jm b1 [.int .i64 a0.Kind, str a0.Text, v0_2, v0_3, v0_4] 29]) (fun s t => True) ?_ ?_
    ·refine Jb ?_
     refine Ja rfl rfl rfl (Jl Try.runUnderlying29 rfl Try.sizeOf3 rfl rfl) ?_
     refine Jr (i := 0) (v := .int .i64 a0.Kind) Try.isAgg3 rfl rfl rfl rfl rfl ?_
     obtain ⟨t21, h_t21, H55⟩ := Jh H38; clear H38
     refine Z8 (k144 h_t21) Try.call144 rfl rfl rfl ?_
     refine Ja rfl rfl rfl (r_not rfl) ?_
     refine Ja rfl rfl rfl (Jc (v := .bool (!t21)) rfl) ?_
     refine split (fun hb => ?_) (fun hb => ?_)
     ·have H56 := Js hb H55; clear H55
      refine Ja rfl rfl rfl (Jl Try.runUnderlying29 rfl Try.sizeOf9 rfl rfl) ?_
      refine Jr (i := 0) (v := str a0.Text) Try.isAgg9 rfl rfl rfl rfl rfl ?_
      refine Ja rfl rfl rfl (r_neqT rfl rfl) ?_
      refine Ja rfl rfl rfl (Q5 (v := .bool (decide (a0.Text ≠ []))) rfl rfl) ?_
      refine Ja rfl rfl rfl (Jd (v := .bool (decide (a0.Text ≠ []))) rfl) ?_
      refine Jg ?_
      refine Jo (decide (a0.Text ≠ [])) () 0 [0] (by exact ⟨rfl, rfl, trivial⟩) (by decide) (by kernel_rfl) (by exact ⟨H56, trivial⟩) (Nat.lt_succ_self _)
     ·have H57 := Jt hb H55; clear H55
      refine Jk rfl rfl rfl ?_
      refine Jk rfl rfl rfl ?_
      refine Jk rfl rfl rfl ?_
      refine Ja rfl rfl rfl (Xg (v := .bool false) rfl rfl) ?_
      refine Ja rfl rfl rfl (Jd (v := .bool false) rfl) ?_
      refine Jg ?_
      refine Jo false () 0 [0] (by exact ⟨rfl, rfl, trivial⟩) (by decide) (by kernel_rfl) (by exact ⟨H57, trivial⟩) (Nat.lt_succ_self _)
    ·rintro x8_2 _ gg H39 _
     replace H39 : Yx a0 x8_2 = some r := H39
     try dsimp only
     refine Qf (b := x8_2) rfl (fun hb => ?_) (fun hb => ?_)
     ·have H40 := Js hb H39; clear H39
      refine Ju ?_
      refine Qf (b := x8_2) rfl (fun hb => ?_) (fun hb => ?_)
      ·have H41 := Js hb H40; clear H40
       refine Jf ?_
       refine Jb ?_
       refine Ja rfl rfl rfl (Jd (v := .int .i64 1) rfl) ?_
       refine Jg ?_
       refine J0 ?_
       obtain rfl := Option.some.inj H41
       refine Q2 (v := .int .i64 1) rfl rfl (Zr rfl)
      ·have H42 := Jt hb H40; clear H40
       refine Ju ?_
       refine Jf ?_
       refine Jb ?_
       refine Ja rfl rfl rfl (Jd (v := .int .i64 0) rfl) ?_
       refine Jg ?_
       refine J0 ?_
       obtain rfl := Option.some.inj H42
       refine Q2 (v := .int .i64 0) rfl rfl (Zr rfl)
     ·have H43 := Jt hb H39; clear H39
      refine Xb (r := r) (σ := Bool) (τ := Unit) (fun s => Yz a0 s) (fun s t => [(1, .pointer (some ⟨b1, 0, none⟩)), (8, .bool s)]) (fun s t => [Jm b1 [.int .i64 a0.Kind, str a0.Text, v0_2, v0_3, v0_4] 29]) (fun s t => True) ?_ ?_
      ·refine Jb ?_
       refine Ja rfl rfl rfl (Jl Try.runUnderlying29 rfl Try.sizeOf3 rfl rfl) ?_
       refine Jr (i := 0) (v := .int .i64 a0.Kind) Try.isAgg3 rfl rfl rfl rfl rfl ?_
       refine Ja rfl rfl rfl (V3 rfl rfl) ?_
       refine Ja rfl rfl rfl (Jc (v := .bool (decide (a0.Kind ≠ 5))) rfl) ?_
       refine split (fun hb => ?_) (fun hb => ?_)
       ·have H53 := Js hb H43; clear H43
        refine Ja rfl rfl rfl (Jl Try.runUnderlying29 rfl Try.sizeOf26 rfl rfl) ?_
        refine Jr (i := 0) (v := v0_3) Try.isAgg26 rfl rfl rfl rfl rfl ?_
        refine Ja rfl rfl rfl (r_lenF Try.underlying26 rfl f0_3 rfl) ?_
        refine Ja rfl rfl rfl (Wq rfl rfl) ?_
        refine Ja rfl rfl rfl (Q5 (v := .bool (decide (0 < (a0.Ratios.length : Int)))) rfl rfl) ?_
        refine Ja rfl rfl rfl (Jd (v := .bool (decide (0 < (a0.Ratios.length : Int)))) rfl) ?_
        refine Jg ?_
        refine Jo (decide (0 < (a0.Ratios.length : Int))) () 0 [0] (by exact ⟨rfl, rfl, trivial⟩) (by decide) (by kernel_rfl) (by exact ⟨H53, trivial⟩) (Nat.lt_succ_self _)
       ·have H54 := Jt hb H43; clear H43
        refine Jk rfl rfl rfl ?_
        refine Jk rfl rfl rfl ?_
        refine Jk rfl rfl rfl ?_
        refine Jk rfl rfl rfl ?_
        refine Ja rfl rfl rfl (Xg (v := .bool false) rfl rfl) ?_
        refine Ja rfl rfl rfl (Jd (v := .bool false) rfl) ?_
        refine Jg ?_
        refine Jo false () 0 [0] (by exact ⟨rfl, rfl, trivial⟩) (by decide) (by kernel_rfl) (by exact ⟨H54, trivial⟩) (Nat.lt_succ_self _)
      ·rintro x8_3 _ gg H44 _
       replace H44 : Yz a0 x8_3 = some r := H44
       try dsimp only
       refine Qf (b := x8_3) rfl (fun hb => ?_) (fun hb => ?_)
       ·have H45 := Js hb H44; clear H44
        refine Ju ?_
        refine Qf (b := x8_3) rfl (fun hb => ?_) (fun hb => ?_)
        ·have H46 := Js hb H45; clear H45
         refine Jf ?_
         refine Jb ?_
         refine Ja rfl rfl rfl (Jd (v := .int .i64 1) rfl) ?_
         refine Jg ?_
         refine J0 ?_
         obtain rfl := Option.some.inj H46
         refine Q2 (v := .int .i64 1) rfl rfl (Zr rfl)
        ·have H47 := Jt hb H45; clear H45
         refine Ju ?_
         refine Jf ?_
         refine Jb ?_
         refine Ja rfl rfl rfl (Jd (v := .int .i64 0) rfl) ?_
         refine Jg ?_
         refine J0 ?_
         obtain rfl := Option.some.inj H47
         refine Q2 (v := .int .i64 0) rfl rfl (Zr rfl)
       ·have H48 := Jt hb H44; clear H44
        refine Jb ?_
        refine Ja rfl rfl rfl (Jl Try.runUnderlying29 rfl Try.sizeOf3 rfl rfl) ?_
        refine Jr (i := 0) (v := .int .i64 a0.Kind) Try.isAgg3 rfl rfl rfl rfl rfl ?_
        refine Ja rfl rfl rfl (V3 rfl rfl) ?_
        refine Ja rfl rfl rfl (Jc (v := .bool (decide (a0.Kind ≠ 13))) rfl) ?_
        refine split (fun hb => ?_) (fun hb => ?_)
        ·have H49 := Js hb H48; clear H48
         refine Ja rfl rfl rfl (Jl Try.runUnderlying29 rfl Try.sizeOf27 rfl rfl) ?_
         refine Jr (i := 0) (v := v0_4) Try.isAgg27 rfl rfl rfl rfl rfl ?_
         refine Ja rfl rfl rfl (V1 Try.underlying27 rfl f0_4) ?_
         refine Ja rfl rfl rfl (Wq rfl rfl) ?_
         refine Ja rfl rfl rfl (Q5 (v := .bool (decide (0 < (a0.Entries.length : Int)))) rfl rfl) ?_
         refine Ja rfl rfl rfl (Jd (v := .bool (decide (0 < (a0.Entries.length : Int)))) rfl) ?_
         refine Jg ?_
         refine Qf (b := (decide (0 < (a0.Entries.length : Int)))) rfl (fun hb => ?_) (fun hb => ?_)
         ·have H50 := Js hb H49; clear H49
          refine Jf ?_
          refine Jb ?_
          refine Ja rfl rfl rfl (Jd (v := .int .i64 1) rfl) ?_
          refine Jg ?_
          refine J0 ?_
          obtain rfl := Option.some.inj H50
          refine Q2 (v := .int .i64 1) rfl rfl (Zr rfl)
         ·have H51 := Jt hb H49; clear H49
          refine Ju ?_
          refine Jf ?_
          refine Jb ?_
          refine Ja rfl rfl rfl (Jd (v := .int .i64 0) rfl) ?_
          refine Jg ?_
          refine J0 ?_
          obtain rfl := Option.some.inj H51
          refine Q2 (v := .int .i64 0) rfl rfl (Zr rfl)
        ·have H52 := Jt hb H48; clear H48
         refine Jk rfl rfl rfl ?_
         refine Jk rfl rfl rfl ?_
         refine Jk rfl rfl rfl ?_
         refine Jk rfl rfl rfl ?_
         refine Ja rfl rfl rfl (Xg (v := .bool false) rfl rfl) ?_
         refine Ja rfl rfl rfl (Jd (v := .bool false) rfl) ?_
         refine Jg ?_
         refine W0 rfl ?_
         refine Ju ?_
         refine Jf ?_
         refine Jb ?_
         refine Ja rfl rfl rfl (Jd (v := .int .i64 0) rfl) ?_
         refine Jg ?_
         refine J0 ?_
         obtain rfl := Option.some.inj H52
         refine Q2 (v := .int .i64 0) rfl rfl (Zr rfl)
theorem k142 {a0 : Int} {r : Int × Int} (H : tag_bounds a0 = some r) : Ret Try.prog 142 [.int .i64 a0] (.tuple #[.int .i64 r.1, .int .i64 r.2]) := by
 refine Vp (n := 11) Try.func142 rfl rfl rfl (fun wd => ?_)
 refine Jf ?_
 refine Jb ?_
 refine Ja rfl rfl rfl (Jd (v := .int .i64 0) rfl) ?_
 refine Ja rfl rfl rfl (Jd (v := .int .i64 0) rfl) ?_
 refine Jg ?_
 refine Jf ?_
 refine Jf ?_
 refine Jb ?_
 refine Ja rfl rfl rfl (Jc (v := .int .i64 a0) rfl) ?_
 refine Jg ?_
 refine J1 ?_
 refine Jf ?_
 refine Jb ?_
 refine Ja rfl rfl rfl (Xq rfl rfl) ?_
 refine Ja rfl rfl rfl (Jd (v := .bool (decide (a0 = 1))) rfl) ?_
 refine Jg ?_
 refine Qf (b := (decide (a0 = 1))) rfl (fun hb => ?_) (fun hb => ?_)
 ·have H7 := Js hb H; clear H
  refine Jf ?_
  refine Jb ?_
  refine Ja rfl rfl rfl (Jd (v := .int .i64 0) rfl) ?_
  refine Ja rfl rfl rfl (Jd (v := .int .i64 255) rfl) ?_
  refine Jg ?_
  refine J0 ?_
  obtain rfl := Option.some.inj H7
  refine ret2 (v1 := .int .i64 0) (v2 := .int .i64 255) rfl rfl rfl (Zr rfl)
 ·have H8 := Jt hb H; clear H
  refine Jf ?_
  refine Jb ?_
  refine Ja rfl rfl rfl (Xq rfl rfl) ?_
  refine Ja rfl rfl rfl (Jd (v := .bool (decide (a0 = 3))) rfl) ?_
  refine Jg ?_
  refine Qf (b := (decide (a0 = 3))) rfl (fun hb => ?_) (fun hb => ?_)
  ·have H9 := Js hb H8; clear H8
   refine Jf ?_
   refine Jb ?_
   refine Ja rfl rfl rfl (Jd (v := .int .i64 0) rfl) ?_
   refine Ja rfl rfl rfl (Jd (v := .int .i64 65535) rfl) ?_
   refine Jg ?_
   refine J0 ?_
   obtain rfl := Option.some.inj H9
   refine ret2 (v1 := .int .i64 0) (v2 := .int .i64 65535) rfl rfl rfl (Zr rfl)
  ·have H10 := Jt hb H8; clear H8
   refine Jf ?_
   refine Jb ?_
   refine Ja rfl rfl rfl (Xq rfl rfl) ?_
   refine Ja rfl rfl rfl (Jd (v := .bool (decide (a0 = 9))) rfl) ?_
   refine Jg ?_
   refine Qf (b := (decide (a0 = 9))) rfl (fun hb => ?_) (fun hb => ?_)
   ·have H11 := Js hb H10; clear H10
    refine Jf ?_
    refine Jb ?_
    refine Ja rfl rfl rfl (Jd (v := .int .i64 (-2147483648)) rfl) ?_
    refine Ja rfl rfl rfl (Jd (v := .int .i64 2147483647) rfl) ?_
    refine Jg ?_
    refine J0 ?_
    obtain rfl := Option.some.inj H11
    refine ret2 (v1 := .int .i64 (-2147483648)) (v2 := .int .i64 2147483647) rfl rfl rfl (Zr rfl)
   ·have H12 := Jt hb H10; clear H10
    refine Ju ?_
    refine Jf ?_
    refine Jb ?_
    refine Ja rfl rfl rfl (Jd (v := .int .i64 0) rfl) ?_
    refine Ja rfl rfl rfl (Jd (v := .int .i64 4294967295) rfl) ?_
    refine Jg ?_
    refine J0 ?_
    obtain rfl := Option.some.inj H12
    refine ret2 (v1 := .int .i64 0) (v2 := .int .i64 4294967295) rfl rfl rfl (Zr rfl)
theorem k103 {a0 : T_tag_Value} {v0_2 : Value} {v0_3 : Value} {v0_4 : Value} {r : Int} {w : World} {h : J6} (hw : Know h w Wg) (f0_2 : FrS h 1 v0_2 (a0.Ints.map Xx)) (f0_3 : FrS h 2 v0_3 (a0.Ratios.map J7)) (f0_4 : FrN h 6 v0_4 g_tag_Entry a0.Entries) (H : W5 a0 = some r) : Does Try.prog 103 (List.toArray [.agg #[.int .i64 a0.Kind, str a0.Text, v0_2, v0_3, v0_4]]) w (fun v w' => v = (.int .i64 r) ∧ Grow w w') := by
 refine enter (n := 65) Try.func103 rfl rfl rfl Wg [] (Sat.nil _ _) ?_
 refine Jf ?_
 refine Jb ?_
 refine l_box (cs := [.int .i64 a0.Kind, str a0.Text, v0_2, v0_3, v0_4]) rfl rfl rfl rfl (fun b2 => ?_)
 refine Ja rfl rfl rfl (Jd (v := .int .i64 0) rfl) ?_
 refine Jg ?_
 refine Jf ?_
 refine Jf ?_
 refine Jb ?_
 refine Vx (i := 0) (vs := [.int .i64 a0.Kind, str a0.Text, v0_2, v0_3, v0_4]) Try.isAgg29 Try.sizeOf29 rfl rfl rfl rfl rfl ?_
 obtain ⟨t12, h_t12, H35⟩ := Jh H; clear H
 refine Xt (fun w hF hS => k104 (J3 w) (f0_2.mono (hw.now hF)) (f0_3.mono (hw.now hF)) (f0_4.mono (hw.now hF)) h_t12) Try.call104 rfl rfl rfl ?_
 refine Ja rfl rfl rfl (Jd (v := .int .i64 t12) rfl) ?_
 refine Jg ?_
 refine Jf ?_
 refine Jb ?_
 refine Ja rfl rfl rfl (Jc (v := .int .i64 t12) rfl) ?_
 refine Ja rfl rfl rfl (V3 rfl rfl) ?_
 refine Jg ?_
 refine Qf (b := (decide (t12 ≠ 0))) rfl (fun hb => ?_) (fun hb => ?_)
 ·have H36 := Js hb H35; clear H35
  refine Jf ?_
  refine Jb ?_
  refine Ja rfl rfl rfl (Jc (v := .int .i64 t12) rfl) ?_
  refine Ja rfl rfl rfl (Jd (v := .int .i64 t12) rfl) ?_
  refine Jg ?_
  refine J0 ?_
  obtain rfl := Option.some.inj H36
  refine Q2 (v := .int .i64 t12) rfl rfl (Zr rfl)
 ·have H37 := Jt hb H35; clear H35
  refine Ju ?_
  refine Jf ?_
  refine Jb ?_
  refine Ja rfl rfl rfl (Jl Try.runUnderlying29 rfl Try.sizeOf3 rfl rfl) ?_
  refine Jr (i := 0) (v := .int .i64 a0.Kind) Try.isAgg3 rfl rfl rfl rfl rfl ?_
  obtain ⟨t19, h_t19, H38⟩ := Jh H37; clear H37
  refine Z8 (k142 h_t19) Try.call142 rfl rfl rfl ?_
  refine Ja rfl rfl rfl (Jc (v := .tuple #[.int .i64 t19.1, .int .i64 t19.2]) rfl) ?_
  refine Ja rfl rfl rfl (Xa (v := .int .i64 t19.1) rfl rfl) ?_
  refine Ja rfl rfl rfl (Xa (v := .int .i64 t19.2) rfl rfl) ?_
  refine Ja rfl rfl rfl (Jd (v := .int .i64 t19.1) rfl) ?_
  refine Ja rfl rfl rfl (Jd (v := .int .i64 t19.2) rfl) ?_
  refine Jg ?_
  refine Xb (r := r) (σ := Unit) (τ := Unit) (fun s => Y5 a0) (fun s t => [(1, .pointer (some ⟨b2, 0, none⟩))]) (fun s t => [Jm b2 [.int .i64 a0.Kind, str a0.Text, v0_2, v0_3, v0_4] 29]) (fun s t => True) ?_ ?_
  ·refine Jf ?_
   refine Jb ?_
   refine Ja rfl rfl rfl (Jl Try.runUnderlying29 rfl Try.sizeOf25 rfl rfl) ?_
   refine Jr (i := 0) (v := v0_2) Try.isAgg25 rfl rfl rfl rfl rfl ?_
   refine Ja rfl rfl rfl (r_lenF Try.underlying25 rfl f0_2 rfl) ?_
   refine Ja rfl rfl rfl (Jc (v := .int .i64 0) rfl) ?_
   refine Jg ?_
   refine J1 ?_
   refine Z5 (σ := Int) (τ := Unit) (fun next5 s => Q7 a0 t19 next5 s) (fun s t => [(1, .pointer (some ⟨b2, 0, none⟩)), (4, .int .i64 t19.1), (5, .int .i64 t19.2), (23, v0_2), (24, .int .i64 (a0.Ints.length : Int)), (25, .int .i64 s)]) (fun s t => [Jm b2 [.int .i64 a0.Kind, str a0.Text, v0_2, v0_3, v0_4] 29]) (fun s t => True) 0 () [0] H38 (by exact trivial) (by exact ⟨rfl, rfl, rfl, rfl, rfl, rfl, trivial⟩) (by decide) rfl ?_
   rintro x25_2 _ m5 gg H61 _
   clear H38
   replace H61 : Q7 a0 t19 (it (fun next5 s => Q7 a0 t19 next5 s) m5) x25_2 = some r := H61
   generalize hn5 : it (fun next5 s => Q7 a0 t19 next5 s) m5 = next5 at H61
   try dsimp only
   refine Jf ?_
   refine Jb ?_
   refine Ja rfl rfl rfl (Zn rfl rfl) ?_
   refine Jg ?_
   refine Jf ?_
   refine Qf (b := (decide (x25_2 < (a0.Ints.length : Int)))) rfl (fun hb => ?_) (fun hb => ?_)
   ·have H62 := Js hb H61; clear H61
    refine Ju ?_
    refine Jf ?_
    refine J1 ?_
    refine Jf ?_
    refine Jb ?_
    obtain ⟨t27, h_t27, H63⟩ := Jh H62; clear H62
    refine Ja rfl rfl rfl (Zd Try.underlying25 Try.sizeOf3 rfl rfl f0_2 h_t27) ?_
    refine Yg (fun w hF hS => Yu (f := Xx) (i := x25_2) (sz := 1) (j := 0) (v := .int .i64 t27) Try.isAgg3 rfl rfl (f0_2.row (hw.now hF)) h_t27 rfl) rfl rfl rfl ?_
    refine Ja rfl rfl rfl (Jd (v := .int .i64 t27) rfl) ?_
    refine Jg ?_
    refine Jf ?_
    refine Jb ?_
    refine Ja rfl rfl rfl (Jc (v := .int .i64 t27) rfl) ?_
    refine Ja rfl rfl rfl (Jc (v := .int .i64 t19.1) rfl) ?_
    refine Ja rfl rfl rfl (Jc (v := .int .i64 t19.2) rfl) ?_
    obtain ⟨t32, h_t32, H64⟩ := Jh H63; clear H63
    refine Z8 (k97 h_t32) Try.call97 rfl rfl rfl ?_
    refine Jg ?_
    refine Qf (b := t32) rfl (fun hb => ?_) (fun hb => ?_)
    ·have H65 := Js hb H64; clear H64
     refine Jf ?_
     refine Jb ?_
     refine Ja rfl rfl rfl (Jd (v := .int .i64 2) rfl) ?_
     refine Jg ?_
     refine J0 ?_
     obtain rfl := Option.some.inj H65
     refine Q2 (v := .int .i64 2) rfl rfl (Zr rfl)
    ·have H66 := Jt hb H64; clear H64
     refine Ju ?_
     refine Jb ?_
     obtain ⟨t33, h_t33, H67⟩ := Jh H66; clear H66
     refine Ja rfl rfl rfl (Qd rfl rfl h_t33) ?_
     refine Ja rfl rfl rfl (Jc (v := .int .i64 t33) rfl) ?_
     refine Jg ?_
     refine Jo t33 () m5 [0] (by exact ⟨rfl, rfl, rfl, rfl, rfl, rfl, trivial⟩) (by decide) (by kernel_rfl) (by exact ⟨(by subst hn5; exact H67), trivial⟩) (Nat.lt_succ_self _)
   ·have H68 := Jt hb H61; clear H61
    refine Xy ?_
    refine Jo () () 0 [0] (by exact ⟨rfl, trivial⟩) (by decide) (by kernel_rfl) (by exact ⟨H68, trivial⟩) (Nat.lt_succ_self _)
  ·rintro _ _ gg H39 _
   replace H39 : Y5 a0 = some r := H39
   try dsimp only
   refine Xb (r := r) (σ := Unit) (τ := Unit) (fun s => Y7 a0) (fun s t => [(1, .pointer (some ⟨b2, 0, none⟩))]) (fun s t => [Jm b2 [.int .i64 a0.Kind, str a0.Text, v0_2, v0_3, v0_4] 29]) (fun s t => True) ?_ ?_
   ·refine Jf ?_
    refine Jb ?_
    refine Ja rfl rfl rfl (Jl Try.runUnderlying29 rfl Try.sizeOf26 rfl rfl) ?_
    refine Jr (i := 0) (v := v0_3) Try.isAgg26 rfl rfl rfl rfl rfl ?_
    refine Ja rfl rfl rfl (r_lenF Try.underlying26 rfl f0_3 rfl) ?_
    refine Ja rfl rfl rfl (Jc (v := .int .i64 0) rfl) ?_
    refine Jg ?_
    refine J1 ?_
    refine Z5 (σ := Int) (τ := Unit) (fun next4 s => Q6 a0 next4 s) (fun s t => [(1, .pointer (some ⟨b2, 0, none⟩)), (35, v0_3), (36, .int .i64 (a0.Ratios.length : Int)), (37, .int .i64 s)]) (fun s t => [Jm b2 [.int .i64 a0.Kind, str a0.Text, v0_2, v0_3, v0_4] 29]) (fun s t => True) 0 () [0] H39 (by exact trivial) (by exact ⟨rfl, rfl, rfl, rfl, trivial⟩) (by decide) rfl ?_
    rintro x37_2 _ m4 gg H50 _
    clear H39
    replace H50 : Q6 a0 (it (fun next4 s => Q6 a0 next4 s) m4) x37_2 = some r := H50
    generalize hn4 : it (fun next4 s => Q6 a0 next4 s) m4 = next4 at H50
    try dsimp only
    refine Jf ?_
    refine Jb ?_
    refine Ja rfl rfl rfl (Zn rfl rfl) ?_
    refine Jg ?_
    refine Jf ?_
    refine Qf (b := (decide (x37_2 < (a0.Ratios.length : Int)))) rfl (fun hb => ?_) (fun hb => ?_)
    ·have H51 := Js hb H50; clear H50
     refine Ju ?_
     refine Jf ?_
     refine J1 ?_
     refine Jf ?_
     refine Jb ?_
     obtain ⟨t39, h_t39, H52⟩ := Jh H51; clear H51
     refine Ja rfl rfl rfl (Zd Try.underlying26 Try.sizeOf103 rfl rfl f0_3 h_t39) ?_
     refine Yg (fun w hF hS => Z2 (f := J7) (i := x37_2) (sz := 2) (j := 0) (vs := [.int .i64 t39.Num, .int .i64 t39.Den]) Try.isAgg103 Try.sizeOf103 rfl rfl (f0_3.row (hw.now hF)) h_t39 rfl) rfl rfl rfl ?_
     refine Zf (cs := [.int .i64 0, .int .i64 0]) Try.zeroValue103 rfl rfl rfl (fun b3 => ?_)
     refine Qx (i := 1) (vs := [.int .i64 t39.Num, .int .i64 t39.Den]) (cs' := [.int .i64 t39.Num, .int .i64 t39.Den]) Try.sizeOf103 rfl rfl rfl rfl rfl rfl rfl rfl rfl ?_
     refine Jg ?_
     refine Jf ?_
     refine Jb ?_
     refine Ja rfl rfl rfl (Jl Try.runUnderlying103 rfl Try.sizeOf3 rfl rfl) ?_
     refine Jr (i := 1) (v := .int .i64 t39.Num) Try.isAgg3 rfl rfl rfl rfl rfl ?_
     obtain ⟨t43, h_t43, H53⟩ := Jh H52; clear H52
     refine Z8 (k97 h_t43) Try.call97 rfl rfl rfl ?_
     refine Ja rfl rfl rfl (Jc (v := .bool t43) rfl) ?_
     refine split (fun hb => ?_) (fun hb => ?_)
     ·have H54 := Js hb H53; clear H53
      refine Jk rfl rfl rfl ?_
      refine Jk rfl rfl rfl ?_
      refine Jk rfl rfl rfl ?_
      refine Ja rfl rfl rfl (Q5 (v := .bool true) rfl rfl) ?_
      refine Jg ?_
      refine c_true rfl ?_
      refine Jf ?_
      refine Jb ?_
      refine Ja rfl rfl rfl (Jd (v := .int .i64 2) rfl) ?_
      refine Jg ?_
      refine J0 ?_
      obtain rfl := Option.some.inj H54
      refine Q2 (v := .int .i64 2) rfl rfl (Zr rfl)
     ·have H55 := Jt hb H53; clear H53
      refine Ja rfl rfl rfl (Jl Try.runUnderlying103 rfl Try.sizeOf3 rfl rfl) ?_
      refine Jr (i := 1) (v := .int .i64 t39.Den) Try.isAgg3 rfl rfl rfl rfl rfl ?_
      obtain ⟨t47, h_t47, H56⟩ := Jh H55; clear H55
      refine Z8 (k97 h_t47) Try.call97 rfl rfl rfl ?_
      refine Ja rfl rfl rfl (Xg (v := .bool t47) rfl rfl) ?_
      refine Jg ?_
      refine Qf (b := t47) rfl (fun hb => ?_) (fun hb => ?_)
      ·have H57 := Js hb H56; clear H56
       refine Jf ?_
       refine Jb ?_
       refine Ja rfl rfl rfl (Jd (v := .int .i64 2) rfl) ?_
       refine Jg ?_
       refine J0 ?_
       obtain rfl := Option.some.inj H57
       refine Q2 (v := .int .i64 2) rfl rfl (Zr rfl)
      ·have H58 := Jt hb H56; clear H56
       refine Ju ?_
       refine Jb ?_
       obtain ⟨t49, h_t49, H59⟩ := Jh H58; clear H58
       refine Ja rfl rfl rfl (Qd rfl rfl h_t49) ?_
       refine Ja rfl rfl rfl (Jc (v := .int .i64 t49) rfl) ?_
       refine Jg ?_
       refine Jo t49 () m4 [0] (by exact ⟨rfl, rfl, rfl, rfl, trivial⟩) (by decide) (by kernel_rfl) (by exact ⟨(by subst hn4; exact H59), trivial⟩) (Nat.lt_succ_self _)
    ·have H60 := Jt hb H50; clear H50
     refine Xy ?_
     refine Jo () () 0 [0] (by exact ⟨rfl, trivial⟩) (by decide) (by kernel_rfl) (by exact ⟨H60, trivial⟩) (Nat.lt_succ_self _)
   ·rintro _ _ gg H40 _
    replace H40 : Y7 a0 = some r := H40
    try dsimp only
    refine Jf ?_
    refine Jf ?_
    refine Jb ?_
    refine Ja rfl rfl rfl (Jl Try.runUnderlying29 rfl Try.sizeOf3 rfl rfl) ?_
    refine Jr (i := 0) (v := .int .i64 a0.Kind) Try.isAgg3 rfl rfl rfl rfl rfl ?_
    refine Ja rfl rfl rfl (Xq rfl rfl) ?_
    refine Jg ?_
    refine Qf (b := (decide (a0.Kind = 2))) rfl (fun hb => ?_) (fun hb => ?_)
    ·have H41 := Js hb H40; clear H40
     refine Jf ?_
     refine Jb ?_
     refine Ja rfl rfl rfl (Jl Try.runUnderlying29 rfl Try.sizeOf9 rfl rfl) ?_
     refine Jr (i := 0) (v := str a0.Text) Try.isAgg9 rfl rfl rfl rfl rfl ?_
     refine Ja rfl rfl rfl (Ue Try.underlying9 rfl) ?_
     refine Ja rfl rfl rfl (Jc (v := .int .i64 0) rfl) ?_
     refine Jg ?_
     refine J1 ?_
     refine Z5 (σ := Int) (τ := Unit) (fun next3 s => Xf a0 next3 s) (fun s t => [(1, .pointer (some ⟨b2, 0, none⟩)), (55, .int .i64 (a0.Text.length : Int)), (56, .int .i64 s)]) (fun s t => [Jm b2 [.int .i64 a0.Kind, str a0.Text, v0_2, v0_3, v0_4] 29]) (fun s t => True) 0 () [0] H41 (by exact trivial) (by exact ⟨rfl, rfl, rfl, trivial⟩) (by decide) rfl ?_
     rintro x56_2 _ m3 gg H42 _
     clear H41
     replace H42 : Xf a0 (it (fun next3 s => Xf a0 next3 s) m3) x56_2 = some r := H42
     generalize hn3 : it (fun next3 s => Xf a0 next3 s) m3 = next3 at H42
     try dsimp only
     refine Jf ?_
     refine Jb ?_
     refine Ja rfl rfl rfl (Zn rfl rfl) ?_
     refine Jg ?_
     refine Jf ?_
     refine Qf (b := (decide (x56_2 < (a0.Text.length : Int)))) rfl (fun hb => ?_) (fun hb => ?_)
     ·have H43 := Js hb H42; clear H42
      refine Ju ?_
      refine Jf ?_
      refine J1 ?_
      refine Jf ?_
      refine Jb ?_
      refine Ja rfl rfl rfl (Jc (v := .int .i64 x56_2) rfl) ?_
      refine Ja rfl rfl rfl (Jd (v := .int .i64 x56_2) rfl) ?_
      refine Jg ?_
      refine Jf ?_
      refine Jb ?_
      refine Ja rfl rfl rfl (Jl Try.runUnderlying29 rfl Try.sizeOf9 rfl rfl) ?_
      refine Jr (i := 0) (v := str a0.Text) Try.isAgg9 rfl rfl rfl rfl rfl ?_
      refine Ja rfl rfl rfl (Jc (v := .int .i64 x56_2) rfl) ?_
      obtain ⟨t62, h_t62, H44⟩ := Jh H43; clear H43
      refine Ja rfl rfl rfl (r_octG Try.underlying9 rfl rfl h_t62) ?_
      refine Ja rfl rfl rfl (Xq rfl rfl) ?_
      refine Jg ?_
      refine Qf (b := (decide (t62 = 0))) rfl (fun hb => ?_) (fun hb => ?_)
      ·have H45 := Js hb H44; clear H44
       refine Jf ?_
       refine Jb ?_
       refine Ja rfl rfl rfl (Jd (v := .int .i64 9) rfl) ?_
       refine Jg ?_
       refine J0 ?_
       obtain rfl := Option.some.inj H45
       refine Q2 (v := .int .i64 9) rfl rfl (Zr rfl)
      ·have H46 := Jt hb H44; clear H44
       refine Ju ?_
       refine Jb ?_
       obtain ⟨t64, h_t64, H47⟩ := Jh H46; clear H46
       refine Ja rfl rfl rfl (Qd rfl rfl h_t64) ?_
       refine Ja rfl rfl rfl (Jc (v := .int .i64 t64) rfl) ?_
       refine Jg ?_
       refine Jo t64 () m3 [0] (by exact ⟨rfl, rfl, rfl, trivial⟩) (by decide) (by kernel_rfl) (by exact ⟨(by subst hn3; exact H47), trivial⟩) (Nat.lt_succ_self _)
     ·have H48 := Jt hb H42; clear H42
      refine Xy ?_
      refine Jf ?_
      refine Jb ?_
      refine Ja rfl rfl rfl (Jd (v := .int .i64 0) rfl) ?_
      refine Jg ?_
      refine J0 ?_
      obtain rfl := Option.some.inj H48
      refine Q2 (v := .int .i64 0) rfl rfl (Zr rfl)
    ·have H49 := Jt hb H40; clear H40
     refine Ju ?_
     refine Jf ?_
     refine Jb ?_
     refine Ja rfl rfl rfl (Jd (v := .int .i64 0) rfl) ?_
     refine Jg ?_
     refine J0 ?_
     obtain rfl := Option.some.inj H49
     refine Q2 (v := .int .i64 0) rfl rfl (Zr rfl)
theorem k95_it (mm : Nat) : ∀ {a0 : (List T_tag_Entry)} {v0 : Value} {a1 : Int} {r : Int} {w : World} {h : J6} (hw : Know h w Wg) (f0 : FrN h 6 v0 g_tag_Entry a0) (H : it (fun (self : ((List T_tag_Entry) × Int) → Option (Int)) (s : (List T_tag_Entry) × Int) => X2 self s.1 s.2) mm (a0, a1) = some r), Does Try.prog 95 (List.toArray [v0, .int .i64 a1]) w (fun v w' => v = (.int .i64 r) ∧ Grow w w') := by
 induction mm with
 | zero => intros; rename_i H; exact absurd H (by simp [it])
 | succ mm ih =>
  intro a0 v0 a1 r w h hw f0 H
  replace H : X2 (it (fun (self : ((List T_tag_Entry) × Int) → Option (Int)) (s : (List T_tag_Entry) × Int) => X2 self s.1 s.2) mm) a0 a1 = some r := H
  generalize it (fun (self : ((List T_tag_Entry) × Int) → Option (Int)) (s : (List T_tag_Entry) × Int) => X2 self s.1 s.2) mm = self at H ih
  refine enter (n := 62) Try.func95 rfl rfl rfl Wg [] (Sat.nil _ _) ?_
  refine Jf ?_
  refine Jb ?_
  refine Ja rfl rfl rfl (Jd (v := .int .i64 0) rfl) ?_
  refine Jg ?_
  refine Jf ?_
  refine Jf ?_
  refine Jb ?_
  refine Ja rfl rfl rfl (Jc (v := .int .i64 a1) rfl) ?_
  refine Ja rfl rfl rfl (Wq rfl rfl) ?_
  refine Ja rfl rfl rfl (Jc (v := .bool (decide (5 < a1))) rfl) ?_
  refine split (fun hb => ?_) (fun hb => ?_)
  ·have H31 := Js hb H; clear H
   refine Jk rfl rfl rfl ?_
   refine Jk rfl rfl rfl ?_
   refine Jk rfl rfl rfl ?_
   refine Ja rfl rfl rfl (Q5 (v := .bool true) rfl rfl) ?_
   refine Jg ?_
   refine c_true rfl ?_
   refine Jf ?_
   refine Jb ?_
   refine Ja rfl rfl rfl (Jd (v := .int .i64 4) rfl) ?_
   refine Jg ?_
   refine J0 ?_
   obtain rfl := Option.some.inj H31
   refine Q2 (v := .int .i64 4) rfl rfl (Zr rfl)
  ·have H32 := Jt hb H; clear H
   refine Ja rfl rfl rfl (Jc (v := v0) rfl) ?_
   refine Ja rfl rfl rfl (V1 Try.underlying27 rfl f0) ?_
   refine Ja rfl rfl rfl (Wq rfl rfl) ?_
   refine Ja rfl rfl rfl (Xg (v := .bool (decide (200 < (a0.length : Int)))) rfl rfl) ?_
   refine Jg ?_
   refine Qf (b := (decide (200 < (a0.length : Int)))) rfl (fun hb => ?_) (fun hb => ?_)
   ·have H33 := Js hb H32; clear H32
    refine Jf ?_
    refine Jb ?_
    refine Ja rfl rfl rfl (Jd (v := .int .i64 4) rfl) ?_
    refine Jg ?_
    refine J0 ?_
    obtain rfl := Option.some.inj H33
    refine Q2 (v := .int .i64 4) rfl rfl (Zr rfl)
   ·have H34 := Jt hb H32; clear H32
    refine Ju ?_
    refine Jf ?_
    refine Jf ?_
    refine Jb ?_
    refine Ja rfl rfl rfl (Jc (v := v0) rfl) ?_
    refine Ja rfl rfl rfl (V1 Try.underlying27 rfl f0) ?_
    refine Ja rfl rfl rfl (Jc (v := .int .i64 0) rfl) ?_
    refine Jg ?_
    refine J1 ?_
    refine Z5 (σ := Int) (τ := Unit) (fun next1 s => Zb a0 a1 self next1 s) (fun s t => [(0, v0), (1, .int .i64 a1), (15, v0), (16, .int .i64 (a0.length : Int)), (17, .int .i64 s)]) (fun s t => []) (fun s t => True) 0 () [] H34 (by exact trivial) (by exact ⟨rfl, rfl, rfl, rfl, rfl, trivial⟩) (by decide) rfl ?_
    rintro x17_2 _ m1 gg H35 _
    clear H34
    replace H35 : Zb a0 a1 self (it (fun next1 s => Zb a0 a1 self next1 s) m1) x17_2 = some r := H35
    generalize hn1 : it (fun next1 s => Zb a0 a1 self next1 s) m1 = next1 at H35
    try dsimp only
    refine Jf ?_
    refine Jb ?_
    refine Ja rfl rfl rfl (Zn rfl rfl) ?_
    refine Jg ?_
    refine Jf ?_
    refine Qf (b := (decide (x17_2 < (a0.length : Int)))) rfl (fun hb => ?_) (fun hb => ?_)
    ·have H36 := Js hb H35; clear H35
     refine Ju ?_
     refine Jf ?_
     refine J1 ?_
     refine Jf ?_
     refine Jb ?_
     refine Ja rfl rfl rfl (Jc (v := .int .i64 x17_2) rfl) ?_
     obtain ⟨t20, h_t20, H37⟩ := Jh H36; clear H36
     refine Ja rfl rfl rfl (Zd Try.underlying27 Try.sizeOf96 rfl rfl f0.frs (f0.ix h_t20)) ?_
     refine Yg (fun w hF hS => Z2 (f := (elC h v0 6)) (i := x17_2) (sz := 6) (j := 0) (vs := [.int .i64 t20.Tag, .int .i64 t20.Value.Kind, str t20.Value.Text, (Xz h v0 6 (Int.toNat x17_2) 3), (Xz h v0 6 (Int.toNat x17_2) 4), (Xz h v0 6 (Int.toNat x17_2) 5)]) Try.isAgg96 Try.sizeOf96 rfl rfl (f0.frs.row (hw.now hF)) (f0.ix h_t20) (rd_of (V7 (f0.at h_t20)) rfl)) rfl rfl rfl ?_
     refine Zf (cs := [.int .i64 0, .int .i64 0, str [], .slice none 0 0, .slice none 0 0, .slice none 0 0]) Try.zeroValue96 rfl rfl rfl (fun b1 => ?_)
     refine Ja rfl rfl rfl (Jd (v := .int .i64 x17_2) rfl) ?_
     refine Qx (i := 0) (vs := [.int .i64 t20.Tag, .int .i64 t20.Value.Kind, str t20.Value.Text, (Xz h v0 6 (Int.toNat x17_2) 3), (Xz h v0 6 (Int.toNat x17_2) 4), (Xz h v0 6 (Int.toNat x17_2) 5)]) (cs' := [.int .i64 t20.Tag, .int .i64 t20.Value.Kind, str t20.Value.Text, (Xz h v0 6 (Int.toNat x17_2) 3), (Xz h v0 6 (Int.toNat x17_2) 4), (Xz h v0 6 (Int.toNat x17_2) 5)]) Try.sizeOf96 rfl rfl rfl rfl rfl rfl (by simp only [List.all_cons, List.all_nil, (show FrN h 6 (Xz h v0 6 (Int.toNat x17_2) 5) g_tag_Entry t20.Value.Entries from (Xc (Jv (f0.at h_t20)))).one, (show FrS h 1 (Xz h v0 6 (Int.toNat x17_2) 3) (t20.Value.Ints.map Xx) from (X7 (Jv (f0.at h_t20)))).one, (show FrS h 2 (Xz h v0 6 (Int.toNat x17_2) 4) (t20.Value.Ratios.map J7) from (X4 (Jv (f0.at h_t20)))).one] <;> rfl) rfl rfl ?_
     refine Jg ?_
     refine Xb (r := r) (σ := Unit) (τ := Unit) (fun s => Vo a1 self x17_2 next1 t20) (fun s t => [(0, v0), (1, .int .i64 a1), (6, .pointer (some ⟨b1, 0, none⟩)), (15, v0), (16, .int .i64 (a0.length : Int)), (17, .int .i64 x17_2)]) (fun s t => [Jm b1 [.int .i64 t20.Tag, .int .i64 t20.Value.Kind, str t20.Value.Text, (Xz h v0 6 (Int.toNat x17_2) 3), (Xz h v0 6 (Int.toNat x17_2) 4), (Xz h v0 6 (Int.toNat x17_2) 5)] 96]) (fun s t => True) ?_ ?_
     ·refine J1 ?_
      refine Jf ?_
      refine Jb ?_
      refine Ja rfl rfl rfl (Jl Try.runUnderlying96 rfl Try.sizeOf3 rfl rfl) ?_
      refine Jr (i := 0) (v := .int .i64 t20.Tag) Try.isAgg3 rfl rfl rfl rfl rfl ?_
      obtain ⟨t25, h_t25, H51⟩ := Jh H37; clear H37
      refine Z8 (k97 h_t25) Try.call97 rfl rfl rfl ?_
      refine Ja rfl rfl rfl (Jd (v := .bool t25) rfl) ?_
      refine Jg ?_
      refine Qf (b := t25) rfl (fun hb => ?_) (fun hb => ?_)
      ·have H52 := Js hb H51; clear H51
       refine Jf ?_
       refine Jb ?_
       refine Ja rfl rfl rfl (Jd (v := .int .i64 2) rfl) ?_
       refine Jg ?_
       refine J0 ?_
       obtain rfl := Option.some.inj H52
       refine Q2 (v := .int .i64 2) rfl rfl (Zr rfl)
      ·have H53 := Jt hb H51; clear H51
       refine Jf ?_
       exact Xr (Kd.p :: Kd.p :: Kd.p :: Kd.p :: Kd.d [0] _ :: Kd.p :: Kd.p :: Kd.p :: Kd.p :: Kd.p :: Kd.d [] _ :: Kd.p :: Kd.p :: Kd.p :: []) 0 mixed (by
        refine Jq rfl rfl (Jc (v := .int .i64 x17_2) rfl) ?_
        refine Jq rfl rfl (Wq rfl rfl) ?_
        refine Jq rfl rfl (Jc (v := .bool (decide (0 < x17_2))) rfl) ?_
        refine splitS (fun hb => ?_) (fun hb => ?_)
        ·have H54 := Js hb H53
         refine Jq rfl rfl (Jl Try.runUnderlying96 rfl Try.sizeOf3 rfl rfl) ?_
         refine Ya (i := 0) (v := .int .i64 t20.Tag) Try.isAgg3 rfl rfl rfl rfl ?_
         refine Jq rfl rfl (Jc (v := v0) rfl) ?_
         refine Jq rfl rfl (Jc (v := .int .i64 x17_2) rfl) ?_
         have h_t34 := Qq H54
         have H55 := Qb H54
         refine Jq rfl rfl (Uf rfl rfl h_t34) ?_
         have h_t35 := Qq H55
         have H56 := Qb H55
         refine Jq rfl rfl (Zd Try.underlying27 Try.sizeOf96 rfl rfl f0.frs (f0.ix h_t35)) ?_
         refine Jq rfl rfl (r_fieldP Try.runUnderlying96 rfl Try.sizeOf3 rfl rfl (some_of_at f0.frs (f0.ix h_t35))) ?_
         refine d_read (fun w hF => Yu (f := (elC h v0 6)) (i := (val (gI (x17_2 - 1)))) (sz := 6) (j := 0) (v := .int .i64 (val (Vn a0 (val (gI (x17_2 - 1))))).Tag) Try.isAgg3 rfl rfl (f0.frs.row (hw.now hF)) (f0.ix h_t35) (rg_of (V7 (f0.at h_t35)) rfl)) rfl rfl ?_
         refine Jq rfl rfl (r_leq rfl rfl) ?_
         refine Jq rfl rfl (Q5 (v := .bool (decide (t20.Tag ≤ (val (Vn a0 (val (gI (x17_2 - 1))))).Tag))) rfl rfl) ?_
         refine Jq rfl rfl (Jd (v := .bool (decide (t20.Tag ≤ (val (Vn a0 (val (gI (x17_2 - 1))))).Tag))) rfl) ?_
         refine Wf ?_
         refine Qf (b := (decide (t20.Tag ≤ (val (Vn a0 (val (gI (x17_2 - 1))))).Tag))) rfl (fun hb => ?_) (fun hb => ?_)
         ·have H57 := Js hb H56; clear H56
          refine Jf ?_
          refine Jb ?_
          refine Ja rfl rfl rfl (Jd (v := .int .i64 5) rfl) ?_
          refine Jg ?_
          refine J0 ?_
          obtain rfl := Option.some.inj H57
          refine Q2 (v := .int .i64 5) rfl rfl (Zr rfl)
         ·have H58 := Jt hb H56; clear H56
          refine Ju ?_
          refine Jo () () 0 [0] (by exact ⟨rfl, rfl, rfl, rfl, rfl, rfl, trivial⟩) (by decide) (by kernel_rfl) (by exact ⟨H58, trivial⟩) (Nat.lt_succ_self _)
        ·have H59 := Jt hb H53
         refine Zo rfl rfl ?_
         refine Zo rfl rfl ?_
         refine Zo rfl rfl ?_
         refine Zo rfl rfl ?_
         refine Zo rfl rfl ?_
         refine Zo rfl rfl ?_
         refine Zo rfl rfl ?_
         refine Zo rfl rfl ?_
         refine Zo rfl rfl ?_
         refine Jq rfl rfl (Xg (v := .bool false) rfl rfl) ?_
         refine Jq rfl rfl (Jd (v := .bool false) rfl) ?_
         refine Wf ?_
         refine W0 rfl ?_
         refine Ju ?_
         refine Jo () () 0 [0] (by exact ⟨rfl, rfl, rfl, rfl, rfl, rfl, trivial⟩) (by decide) (by kernel_rfl) (by exact ⟨H59, trivial⟩) (Nat.lt_succ_self _)
        ) (by kernel_rfl)
     ·rintro _ _ gg H38 _
      replace H38 : Vo a1 self x17_2 next1 t20 = some r := H38
      try dsimp only
      refine Jf ?_
      refine Jb ?_
      refine Ja rfl rfl rfl (Jd (v := .int .i64 0) rfl) ?_
      refine Jg ?_
      refine Xb (r := r) (σ := Int) (τ := Unit) (fun s => Za x17_2 next1 s) (fun s t => [(0, v0), (1, .int .i64 a1), (7, .int .i64 s), (15, v0), (16, .int .i64 (a0.length : Int)), (17, .int .i64 x17_2)]) (fun s t => []) (fun s t => True) ?_ ?_
      ·refine Jf ?_
       refine Jb ?_
       refine Ja rfl rfl rfl (Jl Try.runUnderlying96 rfl Try.sizeOf29 rfl rfl) ?_
       refine Ja rfl rfl rfl (Jl Try.runUnderlying29 rfl Try.sizeOf3 rfl rfl) ?_
       refine Jr (i := 0) (v := .int .i64 t20.Value.Kind) Try.isAgg3 rfl rfl rfl rfl rfl ?_
       refine Ja rfl rfl rfl (V3 rfl rfl) ?_
       refine Jg ?_
       refine Qf (b := (decide (t20.Value.Kind ≠ 13))) rfl (fun hb => ?_) (fun hb => ?_)
       ·have H43 := Js hb H38; clear H38
        refine Jb ?_
        refine Ja rfl rfl rfl (Jl Try.runUnderlying96 rfl Try.sizeOf29 rfl rfl) ?_
        refine Vx (i := 0) (vs := [.int .i64 t20.Value.Kind, str t20.Value.Text, (Xz h v0 6 (Int.toNat x17_2) 3), (Xz h v0 6 (Int.toNat x17_2) 4), (Xz h v0 6 (Int.toNat x17_2) 5)]) Try.isAgg29 Try.sizeOf29 rfl rfl rfl rfl rfl ?_
        obtain ⟨t46, h_t46, H44⟩ := Jh H43; clear H43
        refine Xt (fun w hF hS => k103 (J3 w) ((show FrS h 1 (Xz h v0 6 (Int.toNat x17_2) 3) (t20.Value.Ints.map Xx) from (X7 (Jv (f0.at h_t20)))).mono (hw.now hF)) ((show FrS h 2 (Xz h v0 6 (Int.toNat x17_2) 4) (t20.Value.Ratios.map J7) from (X4 (Jv (f0.at h_t20)))).mono (hw.now hF)) ((show FrN h 6 (Xz h v0 6 (Int.toNat x17_2) 5) g_tag_Entry t20.Value.Entries from (Xc (Jv (f0.at h_t20)))).mono (hw.now hF)) h_t46) Try.call103 rfl rfl rfl ?_
        refine Ja rfl rfl rfl (Jd (v := .int .i64 t46) rfl) ?_
        refine Jg ?_
        refine Jo t46 () 0 [] (by exact ⟨rfl, rfl, rfl, rfl, rfl, rfl, trivial⟩) (by decide) (by kernel_rfl) (by exact ⟨H44, trivial⟩) (Nat.lt_succ_self _)
       ·have H45 := Jt hb H38; clear H38
        refine Jf ?_
        refine Jb ?_
        refine Ja rfl rfl rfl (Jl Try.runUnderlying96 rfl Try.sizeOf29 rfl rfl) ?_
        refine Vx (i := 0) (vs := [.int .i64 t20.Value.Kind, str t20.Value.Text, (Xz h v0 6 (Int.toNat x17_2) 3), (Xz h v0 6 (Int.toNat x17_2) 4), (Xz h v0 6 (Int.toNat x17_2) 5)]) Try.isAgg29 Try.sizeOf29 rfl rfl rfl rfl rfl ?_
        obtain ⟨t49, h_t49, H46⟩ := Jh H45; clear H45
        refine Xt (fun w hF hS => k104 (J3 w) ((show FrS h 1 (Xz h v0 6 (Int.toNat x17_2) 3) (t20.Value.Ints.map Xx) from (X7 (Jv (f0.at h_t20)))).mono (hw.now hF)) ((show FrS h 2 (Xz h v0 6 (Int.toNat x17_2) 4) (t20.Value.Ratios.map J7) from (X4 (Jv (f0.at h_t20)))).mono (hw.now hF)) ((show FrN h 6 (Xz h v0 6 (Int.toNat x17_2) 5) g_tag_Entry t20.Value.Entries from (Xc (Jv (f0.at h_t20)))).mono (hw.now hF)) h_t49) Try.call104 rfl rfl rfl ?_
        refine Ja rfl rfl rfl (Jd (v := .int .i64 t49) rfl) ?_
        refine Jg ?_
        refine Jf ?_
        refine Jb ?_
        refine Ja rfl rfl rfl (Jc (v := .int .i64 t49) rfl) ?_
        refine Ja rfl rfl rfl (Xq rfl rfl) ?_
        refine Jg ?_
        refine Qf (b := (decide (t49 = 0))) rfl (fun hb => ?_) (fun hb => ?_)
        ·have H47 := Js hb H46; clear H46
         refine Jb ?_
         refine Ja rfl rfl rfl (Jl Try.runUnderlying96 rfl Try.sizeOf29 rfl rfl) ?_
         refine Ja rfl rfl rfl (Jl Try.runUnderlying29 rfl Try.sizeOf27 rfl rfl) ?_
         refine Jr (i := 0) (v := (Xz h v0 6 (Int.toNat x17_2) 5)) Try.isAgg27 rfl rfl rfl rfl rfl ?_
         refine Ja rfl rfl rfl (Jc (v := .int .i64 a1) rfl) ?_
         obtain ⟨t56, h_t56, H48⟩ := Jh H47; clear H47
         refine Ja rfl rfl rfl (Qd rfl rfl h_t56) ?_
         obtain ⟨t57, h_t57, H49⟩ := Jh H48; clear H48
         refine Xt (fun w hF hS => ih (J3 w) ((show FrN h 6 (Xz h v0 6 (Int.toNat x17_2) 5) g_tag_Entry t20.Value.Entries from (Xc (Jv (f0.at h_t20)))).mono (hw.now hF)) h_t57) Try.call95 rfl rfl rfl ?_
         refine Ja rfl rfl rfl (Jd (v := .int .i64 t57) rfl) ?_
         refine Jg ?_
         refine Jo t57 () 0 [] (by exact ⟨rfl, rfl, rfl, rfl, rfl, rfl, trivial⟩) (by decide) (by kernel_rfl) (by exact ⟨H49, trivial⟩) (Nat.lt_succ_self _)
        ·have H50 := Jt hb H46; clear H46
         refine Ju ?_
         refine Jo t49 () 0 [] (by exact ⟨rfl, rfl, rfl, rfl, rfl, rfl, trivial⟩) (by decide) (by kernel_rfl) (by exact ⟨H50, trivial⟩) (Nat.lt_succ_self _)
      ·rintro x7 _ gg H39 _
       replace H39 : Za x17_2 next1 x7 = some r := H39
       try dsimp only
       refine Jf ?_
       refine Jb ?_
       refine Ja rfl rfl rfl (Jc (v := .int .i64 x7) rfl) ?_
       refine Ja rfl rfl rfl (V3 rfl rfl) ?_
       refine Jg ?_
       refine Qf (b := (decide (x7 ≠ 0))) rfl (fun hb => ?_) (fun hb => ?_)
       ·have H40 := Js hb H39; clear H39
        refine Jf ?_
        refine Jb ?_
        refine Ja rfl rfl rfl (Jc (v := .int .i64 x7) rfl) ?_
        refine Ja rfl rfl rfl (Jd (v := .int .i64 x7) rfl) ?_
        refine Jg ?_
        refine J0 ?_
        obtain rfl := Option.some.inj H40
        refine Q2 (v := .int .i64 x7) rfl rfl (Zr rfl)
       ·have H41 := Jt hb H39; clear H39
        refine Ju ?_
        refine Jb ?_
        obtain ⟨t61, h_t61, H42⟩ := Jh H41; clear H41
        refine Ja rfl rfl rfl (Qd rfl rfl h_t61) ?_
        refine Ja rfl rfl rfl (Jc (v := .int .i64 t61) rfl) ?_
        refine Jg ?_
        refine Jo t61 () m1 [] (by exact ⟨rfl, rfl, rfl, rfl, rfl, trivial⟩) (by decide) (by kernel_rfl) (by exact ⟨(by subst hn1; exact H42), trivial⟩) (Nat.lt_succ_self _)
    ·have H60 := Jt hb H35; clear H35
     refine Xy ?_
     refine Jf ?_
     refine Jb ?_
     refine Ja rfl rfl rfl (Jd (v := .int .i64 0) rfl) ?_
     refine Jg ?_
     refine J0 ?_
     obtain rfl := Option.some.inj H60
     refine Q2 (v := .int .i64 0) rfl rfl (Zr rfl)
theorem k95 {a0 : (List T_tag_Entry)} {v0 : Value} {a1 : Int} {r : Int} {w : World} {h : J6} (hw : Know h w Wg) (f0 : FrN h 6 v0 g_tag_Entry a0) (H : Ut a0 a1 = some r) : Does Try.prog 95 (List.toArray [v0, .int .i64 a1]) w (fun v w' => v = (.int .i64 r) ∧ Grow w w') := by
 obtain ⟨mm, hm⟩ := fix_it (show V0 (fun (self : ((List T_tag_Entry) × Int) → Option (Int)) (s : (List T_tag_Entry) × Int) => X2 self s.1 s.2) (a0, a1) = some r from H)
 exact k95_it mm hw f0 hm
theorem k87 {a0 : T_tag_Value} {v0_2 : Value} {v0_3 : Value} {v0_4 : Value} {r : Int} {w : World} {h : J6} (hw : Know h w Wg) (f0_2 : FrS h 1 v0_2 (a0.Ints.map Xx)) (f0_3 : FrS h 2 v0_3 (a0.Ratios.map J7)) (f0_4 : FrN h 6 v0_4 g_tag_Entry a0.Entries) (H : Xs a0 = some r) : Does Try.prog 87 (List.toArray [.agg #[.int .i64 a0.Kind, str a0.Text, v0_2, v0_3, v0_4]]) w (fun v w' => v = (.int .i64 r) ∧ Grow w w') := by
 refine enter (n := 26) Try.func87 rfl rfl rfl Wg [] (Sat.nil _ _) ?_
 refine Jf ?_
 refine Jb ?_
 refine l_box (cs := [.int .i64 a0.Kind, str a0.Text, v0_2, v0_3, v0_4]) rfl rfl rfl rfl (fun b1 => ?_)
 refine Ja rfl rfl rfl (Jd (v := .int .i64 0) rfl) ?_
 refine Jg ?_
 refine Jf ?_
 refine Jf ?_
 refine Jb ?_
 refine Ja rfl rfl rfl (Jl Try.runUnderlying29 rfl Try.sizeOf3 rfl rfl) ?_
 refine Jr (i := 0) (v := .int .i64 a0.Kind) Try.isAgg3 rfl rfl rfl rfl rfl ?_
 refine Jg ?_
 refine J1 ?_
 refine Jf ?_
 refine Jb ?_
 refine Ja rfl rfl rfl (Xq rfl rfl) ?_
 refine Ja rfl rfl rfl (Jd (v := .bool (decide (a0.Kind = 2))) rfl) ?_
 refine Jg ?_
 refine Qf (b := (decide (a0.Kind = 2))) rfl (fun hb => ?_) (fun hb => ?_)
 ·have H10 := Js hb H; clear H
  refine Jf ?_
  refine Jb ?_
  refine Ja rfl rfl rfl (Jl Try.runUnderlying29 rfl Try.sizeOf9 rfl rfl) ?_
  refine Jr (i := 0) (v := str a0.Text) Try.isAgg9 rfl rfl rfl rfl rfl ?_
  refine Ja rfl rfl rfl (Ue Try.underlying9 rfl) ?_
  obtain ⟨t10, h_t10, H11⟩ := Jh H10; clear H10
  refine Ja rfl rfl rfl (Qd rfl rfl h_t10) ?_
  refine Ja rfl rfl rfl (Jd (v := .int .i64 t10) rfl) ?_
  refine Jg ?_
  refine J0 ?_
  obtain rfl := Option.some.inj H11
  refine Q2 (v := .int .i64 t10) rfl rfl (Zr rfl)
 ·have H12 := Jt hb H; clear H
  refine Jf ?_
  refine Jb ?_
  refine Ja rfl rfl rfl (Xq rfl rfl) ?_
  refine Ja rfl rfl rfl (Jd (v := .bool (decide (a0.Kind = 7))) rfl) ?_
  refine Jg ?_
  refine Qf (b := (decide (a0.Kind = 7))) rfl (fun hb => ?_) (fun hb => ?_)
  ·have H13 := Js hb H12; clear H12
   refine Jf ?_
   refine Jb ?_
   refine Ja rfl rfl rfl (Jl Try.runUnderlying29 rfl Try.sizeOf9 rfl rfl) ?_
   refine Jr (i := 0) (v := str a0.Text) Try.isAgg9 rfl rfl rfl rfl rfl ?_
   refine Ja rfl rfl rfl (Ue Try.underlying9 rfl) ?_
   refine Ja rfl rfl rfl (Jd (v := .int .i64 (a0.Text.length : Int)) rfl) ?_
   refine Jg ?_
   refine J0 ?_
   obtain rfl := Option.some.inj H13
   refine Q2 (v := .int .i64 (a0.Text.length : Int)) rfl rfl (Zr rfl)
  ·have H14 := Jt hb H12; clear H12
   refine Jf ?_
   refine Jb ?_
   refine Ja rfl rfl rfl (Xq rfl rfl) ?_
   refine Ja rfl rfl rfl (Jd (v := .bool (decide (a0.Kind = 5))) rfl) ?_
   refine Jg ?_
   refine Qf (b := (decide (a0.Kind = 5))) rfl (fun hb => ?_) (fun hb => ?_)
   ·have H15 := Js hb H14; clear H14
    refine Jf ?_
    refine Jb ?_
    refine Ja rfl rfl rfl (Jl Try.runUnderlying29 rfl Try.sizeOf26 rfl rfl) ?_
    refine Jr (i := 0) (v := v0_3) Try.isAgg26 rfl rfl rfl rfl rfl ?_
    refine Ja rfl rfl rfl (r_lenF Try.underlying26 rfl f0_3 rfl) ?_
    refine Ja rfl rfl rfl (Jd (v := .int .i64 (a0.Ratios.length : Int)) rfl) ?_
    refine Jg ?_
    refine J0 ?_
    obtain rfl := Option.some.inj H15
    refine Q2 (v := .int .i64 (a0.Ratios.length : Int)) rfl rfl (Zr rfl)
   ·have H16 := Jt hb H14; clear H14
    refine Jf ?_
    refine Jb ?_
    refine Ja rfl rfl rfl (Xq rfl rfl) ?_
    refine Ja rfl rfl rfl (Jd (v := .bool (decide (a0.Kind = 13))) rfl) ?_
    refine Jg ?_
    refine Qf (b := (decide (a0.Kind = 13))) rfl (fun hb => ?_) (fun hb => ?_)
    ·have H17 := Js hb H16; clear H16
     refine Jf ?_
     refine Jb ?_
     refine Ja rfl rfl rfl (Jd (v := .int .i64 1) rfl) ?_
     refine Jg ?_
     refine J0 ?_
     obtain rfl := Option.some.inj H17
     refine Q2 (v := .int .i64 1) rfl rfl (Zr rfl)
    ·have H18 := Jt hb H16; clear H16
     refine Ju ?_
     refine Jf ?_
     refine Jb ?_
     refine Ja rfl rfl rfl (Jl Try.runUnderlying29 rfl Try.sizeOf25 rfl rfl) ?_
     refine Jr (i := 0) (v := v0_2) Try.isAgg25 rfl rfl rfl rfl rfl ?_
     refine Ja rfl rfl rfl (r_lenF Try.underlying25 rfl f0_2 rfl) ?_
     refine Ja rfl rfl rfl (Jd (v := .int .i64 (a0.Ints.length : Int)) rfl) ?_
     refine Jg ?_
     refine J0 ?_
     obtain rfl := Option.some.inj H18
     refine Q2 (v := .int .i64 (a0.Ints.length : Int)) rfl rfl (Zr rfl)
theorem k88 {a0 : T_tag_Value} {v0_2 : Value} {v0_3 : Value} {v0_4 : Value} {r : Int} {w : World} {h : J6} (hw : Know h w Wg) (f0_2 : FrS h 1 v0_2 (a0.Ints.map Xx)) (f0_3 : FrS h 2 v0_3 (a0.Ratios.map J7)) (f0_4 : FrN h 6 v0_4 g_tag_Entry a0.Entries) (H : Vi a0 = some r) : Does Try.prog 88 (List.toArray [.agg #[.int .i64 a0.Kind, str a0.Text, v0_2, v0_3, v0_4]]) w (fun v w' => v = (.int .i64 r) ∧ Grow w w') := by
 refine enter (n := 9) Try.func88 rfl rfl rfl Wg [] (Sat.nil _ _) ?_
 refine Jf ?_
 refine Jb ?_
 refine l_box (cs := [.int .i64 a0.Kind, str a0.Text, v0_2, v0_3, v0_4]) rfl rfl rfl rfl (fun b1 => ?_)
 refine Ja rfl rfl rfl (Jd (v := .int .i64 0) rfl) ?_
 refine Jg ?_
 refine Jf ?_
 exact Xr (Kd.d [0] _ :: Kd.d [] _ :: Kd.p :: Kd.d [0] _ :: Kd.d [] _ :: Kd.p :: Kd.p :: []) 0 mixed (by
  refine d_loadN (i := 0) (vs := [.int .i64 a0.Kind, str a0.Text, v0_2, v0_3, v0_4]) Try.isAgg29 Try.sizeOf29 rfl rfl rfl rfl ?_
  have h_t4 := Qq H
  have H4 := Qb H
  refine d_callD (fun w L' hF hS hi => k87 (J3 w) (f0_2.mono (hw.now hF)) (f0_3.mono (hw.now hF)) (f0_4.mono (hw.now hF)) h_t4) Try.call87 rfl rfl ?_
  refine Jq rfl rfl (Jl Try.runUnderlying29 rfl Try.sizeOf3 rfl rfl) ?_
  refine Ya (i := 0) (v := .int .i64 a0.Kind) Try.isAgg3 rfl rfl rfl rfl ?_
  have h_t7 := Qq H4
  have H5 := Qb H4
  refine d_call (k136 h_t7) Try.call136 rfl rfl ?_
  have h_t8 := Qq H5
  have H6 := Qb H5
  refine Jq rfl rfl (Ud rfl rfl h_t8) ?_
  refine Jq rfl rfl (Jd (v := .int .i64 (val (gI ((val (Xs a0)) * (val (Yy a0.Kind)))))) rfl) ?_
  refine Wf ?_
  refine J0 ?_
  obtain rfl := Option.some.inj H6
  refine Q2 (v := .int .i64 (val (gI ((val (Xs a0)) * (val (Yy a0.Kind)))))) rfl rfl (Zr rfl)
  ) (by kernel_rfl)
theorem k165 {a0 : Int} {r : Int} (H : tag_even a0 = some r) : Ret Try.prog 165 [.int .i64 a0] (.int .i64 r) := by
 refine Vp (n := 7) Try.func165 rfl rfl rfl (fun wd => ?_)
 refine Jf ?_
 refine Jb ?_
 refine Ja rfl rfl rfl (Jd (v := .int .i64 0) rfl) ?_
 refine Jg ?_
 refine Jf ?_
 refine Jb ?_
 refine Ja rfl rfl rfl (Jc (v := .int .i64 a0) rfl) ?_
 refine Ja rfl rfl rfl (Jc (v := .int .i64 a0) rfl) ?_
 obtain ⟨t5, h_t5, H3⟩ := Jh H; clear H
 refine Ja rfl rfl rfl (r_remG rfl rfl h_t5) ?_
 obtain ⟨t6, h_t6, H4⟩ := Jh H3; clear H3
 refine Ja rfl rfl rfl (Qd rfl rfl h_t6) ?_
 refine Ja rfl rfl rfl (Jd (v := .int .i64 t6) rfl) ?_
 refine Jg ?_
 refine J0 ?_
 obtain rfl := Option.some.inj H4
 refine Q2 (v := .int .i64 t6) rfl rfl (Zr rfl)
theorem k141_it (mm : Nat) : ∀ {a0 : (List T_tag_Entry)} {v0 : Value} {a1 : Int} {r : Int} {w : World} {h : J6} (hw : Know h w Wg) (f0 : FrN h 6 v0 g_tag_Entry a0) (H : it (fun (self : ((List T_tag_Entry) × Int) → Option (Int)) (s : (List T_tag_Entry) × Int) => Ys self s.1 s.2) mm (a0, a1) = some r), Does Try.prog 141 (List.toArray [v0, .int .i64 a1]) w (fun v w' => v = (.int .i64 r) ∧ Grow w w') := by
 induction mm with
 | zero => intros; rename_i H; exact absurd H (by simp [it])
 | succ mm ih =>
  intro a0 v0 a1 r w h hw f0 H
  replace H : Ys (it (fun (self : ((List T_tag_Entry) × Int) → Option (Int)) (s : (List T_tag_Entry) × Int) => Ys self s.1 s.2) mm) a0 a1 = some r := H
  generalize it (fun (self : ((List T_tag_Entry) × Int) → Option (Int)) (s : (List T_tag_Entry) × Int) => Ys self s.1 s.2) mm = self at H ih
  refine enter (n := 44) Try.func141 rfl rfl rfl Wg [] (Sat.nil _ _) ?_
  refine Jf ?_
  refine Jb ?_
  refine Ja rfl rfl rfl (Jd (v := .int .i64 0) rfl) ?_
  refine Jg ?_
  refine Jf ?_
  refine Jb ?_
  refine Ja rfl rfl rfl (Jc (v := .int .i64 a1) rfl) ?_
  obtain ⟨t8, h_t8, H21⟩ := Jh H; clear H
  refine Z8 (k165 h_t8) Try.call165 rfl rfl rfl ?_
  obtain ⟨t9, h_t9, H22⟩ := Jh H21; clear H21
  refine Ja rfl rfl rfl (Qd rfl rfl h_t9) ?_
  refine Ja rfl rfl rfl (Jc (v := v0) rfl) ?_
  refine Ja rfl rfl rfl (V1 Try.underlying27 rfl f0) ?_
  obtain ⟨t12, h_t12, H23⟩ := Jh H22; clear H22
  refine Ja rfl rfl rfl (Ud rfl rfl h_t12) ?_
  obtain ⟨t13, h_t13, H24⟩ := Jh H23; clear H23
  refine Ja rfl rfl rfl (Qd rfl rfl h_t13) ?_
  obtain ⟨t14, h_t14, H25⟩ := Jh H24; clear H24
  refine Ja rfl rfl rfl (Qd rfl rfl h_t14) ?_
  refine Ja rfl rfl rfl (Jd (v := .int .i64 t14) rfl) ?_
  refine Jg ?_
  refine Jf ?_
  refine Jf ?_
  refine Jb ?_
  refine Ja rfl rfl rfl (Jc (v := v0) rfl) ?_
  refine Ja rfl rfl rfl (V1 Try.underlying27 rfl f0) ?_
  refine Ja rfl rfl rfl (Jc (v := .int .i64 0) rfl) ?_
  refine Jg ?_
  refine J1 ?_
  refine Z5 (σ := Int × Int) (τ := Unit) (fun next1 s => Yi a0 self next1 s.1 s.2) (fun s t => [(1, .int .i64 s.1), (15, v0), (16, .int .i64 (a0.length : Int)), (17, .int .i64 s.2)]) (fun s t => []) (fun s t => True) (t14, 0) () [] H25 (by exact trivial) (by exact ⟨rfl, rfl, rfl, rfl, trivial⟩) (by decide) rfl ?_
  rintro ⟨x1_2, x17_2⟩ _ m1 gg H26 _
  clear H25
  replace H26 : Yi a0 self (it (fun next1 s => Yi a0 self next1 s.1 s.2) m1) x1_2 x17_2 = some r := H26
  generalize hn1 : it (fun next1 s => Yi a0 self next1 s.1 s.2) m1 = next1 at H26
  try dsimp only
  refine Jf ?_
  refine Jb ?_
  refine Ja rfl rfl rfl (Zn rfl rfl) ?_
  refine Jg ?_
  refine Jf ?_
  refine Qf (b := (decide (x17_2 < (a0.length : Int)))) rfl (fun hb => ?_) (fun hb => ?_)
  ·have H27 := Js hb H26; clear H26
   refine Ju ?_
   refine Xb (r := r) (σ := Int) (τ := Unit) (fun s => Z4 x17_2 next1 s) (fun s t => [(1, .int .i64 s), (15, v0), (16, .int .i64 (a0.length : Int)), (17, .int .i64 x17_2)]) (fun s t => []) (fun s t => True) ?_ ?_
   ·refine J1 ?_
    refine Jf ?_
    refine Jb ?_
    obtain ⟨t19, h_t19, H30⟩ := Jh H27; clear H27
    refine Ja rfl rfl rfl (Zd Try.underlying27 Try.sizeOf96 rfl rfl f0.frs (f0.ix h_t19)) ?_
    refine Yg (fun w hF hS => Z2 (f := (elC h v0 6)) (i := x17_2) (sz := 6) (j := 0) (vs := [.int .i64 t19.Tag, .int .i64 t19.Value.Kind, str t19.Value.Text, (Xz h v0 6 (Int.toNat x17_2) 3), (Xz h v0 6 (Int.toNat x17_2) 4), (Xz h v0 6 (Int.toNat x17_2) 5)]) Try.isAgg96 Try.sizeOf96 rfl rfl (f0.frs.row (hw.now hF)) (f0.ix h_t19) (rd_of (V7 (f0.at h_t19)) rfl)) rfl rfl rfl ?_
    refine Zf (cs := [.int .i64 0, .int .i64 0, str [], .slice none 0 0, .slice none 0 0, .slice none 0 0]) Try.zeroValue96 rfl rfl rfl (fun b1 => ?_)
    refine Qx (i := 0) (vs := [.int .i64 t19.Tag, .int .i64 t19.Value.Kind, str t19.Value.Text, (Xz h v0 6 (Int.toNat x17_2) 3), (Xz h v0 6 (Int.toNat x17_2) 4), (Xz h v0 6 (Int.toNat x17_2) 5)]) (cs' := [.int .i64 t19.Tag, .int .i64 t19.Value.Kind, str t19.Value.Text, (Xz h v0 6 (Int.toNat x17_2) 3), (Xz h v0 6 (Int.toNat x17_2) 4), (Xz h v0 6 (Int.toNat x17_2) 5)]) Try.sizeOf96 rfl rfl rfl rfl rfl rfl (by simp only [List.all_cons, List.all_nil, (show FrN h 6 (Xz h v0 6 (Int.toNat x17_2) 5) g_tag_Entry t19.Value.Entries from (Xc (Jv (f0.at h_t19)))).one, (show FrS h 1 (Xz h v0 6 (Int.toNat x17_2) 3) (t19.Value.Ints.map Xx) from (X7 (Jv (f0.at h_t19)))).one, (show FrS h 2 (Xz h v0 6 (Int.toNat x17_2) 4) (t19.Value.Ratios.map J7) from (X4 (Jv (f0.at h_t19)))).one] <;> rfl) rfl rfl ?_
    refine Jg ?_
    refine J1 ?_
    refine Jf ?_
    refine Jb ?_
    refine Ja rfl rfl rfl (Jl Try.runUnderlying96 rfl Try.sizeOf29 rfl rfl) ?_
    refine Ja rfl rfl rfl (Jl Try.runUnderlying29 rfl Try.sizeOf3 rfl rfl) ?_
    refine Jr (i := 0) (v := .int .i64 t19.Value.Kind) Try.isAgg3 rfl rfl rfl rfl rfl ?_
    refine Ja rfl rfl rfl (Xq rfl rfl) ?_
    refine Ja rfl rfl rfl (Jd (v := .bool (decide (t19.Value.Kind = 13))) rfl) ?_
    refine Jg ?_
    refine Qf (b := (decide (t19.Value.Kind = 13))) rfl (fun hb => ?_) (fun hb => ?_)
    ·have H31 := Js hb H30; clear H30
     refine Jb ?_
     refine Ja rfl rfl rfl (Jl Try.runUnderlying96 rfl Try.sizeOf29 rfl rfl) ?_
     refine Ja rfl rfl rfl (Jl Try.runUnderlying29 rfl Try.sizeOf27 rfl rfl) ?_
     refine Jr (i := 0) (v := (Xz h v0 6 (Int.toNat x17_2) 5)) Try.isAgg27 rfl rfl rfl rfl rfl ?_
     refine Ja rfl rfl rfl (Jc (v := .int .i64 x1_2) rfl) ?_
     obtain ⟨t30, h_t30, H32⟩ := Jh H31; clear H31
     refine Xt (fun w hF hS => ih (J3 w) ((show FrN h 6 (Xz h v0 6 (Int.toNat x17_2) 5) g_tag_Entry t19.Value.Entries from (Xc (Jv (f0.at h_t19)))).mono (hw.now hF)) h_t30) Try.call141 rfl rfl rfl ?_
     refine Ja rfl rfl rfl (Jd (v := .int .i64 t30) rfl) ?_
     refine Jg ?_
     refine Jo t30 () 0 [] (by exact ⟨rfl, rfl, rfl, rfl, trivial⟩) (by decide) (by kernel_rfl) (by exact ⟨H32, trivial⟩) (Nat.lt_succ_self _)
    ·have H33 := Jt hb H30; clear H30
     refine Jf ?_
     refine Jb ?_
     refine Ja rfl rfl rfl (Jl Try.runUnderlying96 rfl Try.sizeOf29 rfl rfl) ?_
     refine Vx (i := 0) (vs := [.int .i64 t19.Value.Kind, str t19.Value.Text, (Xz h v0 6 (Int.toNat x17_2) 3), (Xz h v0 6 (Int.toNat x17_2) 4), (Xz h v0 6 (Int.toNat x17_2) 5)]) Try.isAgg29 Try.sizeOf29 rfl rfl rfl rfl rfl ?_
     obtain ⟨t34, h_t34, H34⟩ := Jh H33; clear H33
     refine Xt (fun w hF hS => k88 (J3 w) ((show FrS h 1 (Xz h v0 6 (Int.toNat x17_2) 3) (t19.Value.Ints.map Xx) from (X7 (Jv (f0.at h_t19)))).mono (hw.now hF)) ((show FrS h 2 (Xz h v0 6 (Int.toNat x17_2) 4) (t19.Value.Ratios.map J7) from (X4 (Jv (f0.at h_t19)))).mono (hw.now hF)) ((show FrN h 6 (Xz h v0 6 (Int.toNat x17_2) 5) g_tag_Entry t19.Value.Entries from (Xc (Jv (f0.at h_t19)))).mono (hw.now hF)) h_t34) Try.call88 rfl rfl rfl ?_
     refine Ja rfl rfl rfl (Wq rfl rfl) ?_
     refine Ja rfl rfl rfl (Jd (v := .bool (decide (4 < t34))) rfl) ?_
     refine Jg ?_
     refine Qf (b := (decide (4 < t34))) rfl (fun hb => ?_) (fun hb => ?_)
     ·have H35 := Js hb H34; clear H34
      exact Xr (Kd.p :: Kd.d [] _ :: Kd.p :: Kd.d [0] _ :: Kd.d [] _ :: Kd.p :: Kd.p :: []) 0 mixed (by
       refine Jq rfl rfl (Jc (v := .int .i64 x1_2) rfl) ?_
       have h_t37 := Qq H35
       have H36 := Qb H35
       refine d_call (k165 h_t37) Try.call165 rfl rfl ?_
       refine Jq rfl rfl (Jl Try.runUnderlying96 rfl Try.sizeOf29 rfl rfl) ?_
       refine d_loadN (i := 0) (vs := [.int .i64 t19.Value.Kind, str t19.Value.Text, (Xz h v0 6 (Int.toNat x17_2) 3), (Xz h v0 6 (Int.toNat x17_2) 4), (Xz h v0 6 (Int.toNat x17_2) 5)]) Try.isAgg29 Try.sizeOf29 rfl rfl rfl rfl ?_
       have h_t40 := Qq H36
       have H37 := Qb H36
       refine d_callD (fun w L' hF hS hi => k88 (J3 w) ((show FrS h 1 (Xz h v0 6 (Int.toNat x17_2) 3) (t19.Value.Ints.map Xx) from (X7 (Jv (f0.at h_t19)))).mono (hw.now hF)) ((show FrS h 2 (Xz h v0 6 (Int.toNat x17_2) 4) (t19.Value.Ratios.map J7) from (X4 (Jv (f0.at h_t19)))).mono (hw.now hF)) ((show FrN h 6 (Xz h v0 6 (Int.toNat x17_2) 5) g_tag_Entry t19.Value.Entries from (Xc (Jv (f0.at h_t19)))).mono (hw.now hF)) h_t40) Try.call88 rfl rfl ?_
       have h_t41 := Qq H37
       have H38 := Qb H37
       refine Jq rfl rfl (Qd rfl rfl h_t41) ?_
       refine Jq rfl rfl (Jd (v := .int .i64 (val (gI ((val (tag_even x1_2)) + (val (Vi t19.Value)))))) rfl) ?_
       refine Wf ?_
       refine Jo (val (gI ((val (tag_even x1_2)) + (val (Vi t19.Value))))) () 0 [] (by exact ⟨rfl, rfl, rfl, rfl, trivial⟩) (by decide) (by kernel_rfl) (by exact ⟨H38, trivial⟩) (Nat.lt_succ_self _)
       ) (by kernel_rfl)
     ·have H39 := Jt hb H34; clear H34
      refine Ju ?_
      refine Jo x1_2 () 0 [] (by exact ⟨rfl, rfl, rfl, rfl, trivial⟩) (by decide) (by kernel_rfl) (by exact ⟨H39, trivial⟩) (Nat.lt_succ_self _)
   ·rintro x1_3 _ gg H28 _
    replace H28 : Z4 x17_2 next1 x1_3 = some r := H28
    try dsimp only
    refine Jb ?_
    obtain ⟨t42, h_t42, H29⟩ := Jh H28; clear H28
    refine Ja rfl rfl rfl (Qd rfl rfl h_t42) ?_
    refine Ja rfl rfl rfl (Jc (v := .int .i64 t42) rfl) ?_
    refine Jg ?_
    refine Jo (x1_3, t42) () m1 [] (by exact ⟨rfl, rfl, rfl, rfl, trivial⟩) (by decide) (by kernel_rfl) (by exact ⟨(by subst hn1; exact H29), trivial⟩) (Nat.lt_succ_self _)
  ·have H40 := Jt hb H26; clear H26
   refine Xy ?_
   refine Jf ?_
   refine Jb ?_
   refine Ja rfl rfl rfl (Jc (v := .int .i64 x1_2) rfl) ?_
   refine Ja rfl rfl rfl (Jd (v := .int .i64 x1_2) rfl) ?_
   refine Jg ?_
   refine J0 ?_
   obtain rfl := Option.some.inj H40
   refine Q2 (v := .int .i64 x1_2) rfl rfl (Zr rfl)
theorem k141 {a0 : (List T_tag_Entry)} {v0 : Value} {a1 : Int} {r : Int} {w : World} {h : J6} (hw : Know h w Wg) (f0 : FrN h 6 v0 g_tag_Entry a0) (H : tag_dirEnd a0 a1 = some r) : Does Try.prog 141 (List.toArray [v0, .int .i64 a1]) w (fun v w' => v = (.int .i64 r) ∧ Grow w w') := by
 obtain ⟨mm, hm⟩ := fix_it (show V0 (fun (self : ((List T_tag_Entry) × Int) → Option (Int)) (s : (List T_tag_Entry) × Int) => Ys self s.1 s.2) (a0, a1) = some r from H)
 exact k141_it mm hw f0 hm
theorem k96 {a0 : T_tag_File} {v0_1 : Value} {r : Int} {w : World} {h : J6} (hw : Know h w Wg) (f0_1 : FrN h 1 v0_1 gs_tag_Entry a0.Dirs) (H : tag_size a0 = some r) : Does Try.prog 96 (List.toArray [.agg #[.bool a0.Big, v0_1]]) w (fun v w' => v = (.int .i64 r) ∧ Grow w w') := by
 refine enter (n := 18) Try.func96 rfl rfl rfl Wg [] (Sat.nil _ _) ?_
 refine Jf ?_
 refine Jb ?_
 refine l_box (cs := [.bool a0.Big, v0_1]) rfl rfl rfl rfl (fun b1 => ?_)
 refine Ja rfl rfl rfl (Jd (v := .int .i64 0) rfl) ?_
 refine Jg ?_
 refine Jf ?_
 refine Jb ?_
 refine Ja rfl rfl rfl (Jd (v := .int .i64 8) rfl) ?_
 refine Jg ?_
 refine Jf ?_
 refine Jf ?_
 refine Jb ?_
 refine Ja rfl rfl rfl (Jl Try.runUnderlying24 rfl Try.sizeOf22 rfl rfl) ?_
 refine Jr (i := 0) (v := v0_1) Try.isAgg22 rfl rfl rfl rfl rfl ?_
 refine Ja rfl rfl rfl (V1 Try.underlying22 rfl f0_1) ?_
 refine Ja rfl rfl rfl (Jc (v := .int .i64 0) rfl) ?_
 refine Jg ?_
 refine J1 ?_
 refine c_dr 0 ?_
 try dsimp only [z1, z2, z3, z4, z5, z6, z7, z8]
 refine Z5 (σ := Int × Int) (τ := Unit) (fun next1 s => Zg a0 next1 s.1 s.2) (fun s t => [(3, .int .i64 s.1), (7, v0_1), (8, .int .i64 (a0.Dirs.length : Int)), (9, .int .i64 s.2)]) (fun s t => []) (fun s t => True) (8, 0) () [] H (by exact trivial) (by exact ⟨rfl, rfl, rfl, rfl, trivial⟩) (by decide) rfl ?_
 rintro ⟨x3_2, x9_2⟩ _ m1 gg H7 _
 clear H
 replace H7 : Zg a0 (it (fun next1 s => Zg a0 next1 s.1 s.2) m1) x3_2 x9_2 = some r := H7
 generalize hn1 : it (fun next1 s => Zg a0 next1 s.1 s.2) m1 = next1 at H7
 try dsimp only
 refine Jf ?_
 refine Jb ?_
 refine Ja rfl rfl rfl (Zn rfl rfl) ?_
 refine Jg ?_
 refine Jf ?_
 refine Qf (b := (decide (x9_2 < (a0.Dirs.length : Int)))) rfl (fun hb => ?_) (fun hb => ?_)
 ·have H8 := Js hb H7; clear H7
  refine Ju ?_
  refine Jf ?_
  refine J1 ?_
  refine Jf ?_
  refine Jb ?_
  obtain ⟨t11, h_t11, H9⟩ := Jh H8; clear H8
  refine Ja rfl rfl rfl (Zd Try.underlying22 Try.sizeOf27 rfl rfl f0_1.frs (f0_1.ix h_t11)) ?_
  refine Yg (fun w hF hS => Yu (f := (elC h v0_1 1)) (i := x9_2) (sz := 1) (j := 0) (v := (Xz h v0_1 1 (Int.toNat x9_2) 0)) Try.isAgg27 rfl rfl (f0_1.frs.row (hw.now hF)) (f0_1.ix h_t11) (rg_of (cgs_tag_Entry (f0_1.at h_t11)) rfl)) rfl rfl rfl ?_
  refine Ja rfl rfl rfl (Jd (v := (Xz h v0_1 1 (Int.toNat x9_2) 0)) rfl) ?_
  refine Jg ?_
  refine Jb ?_
  refine Ja rfl rfl rfl (Jc (v := (Xz h v0_1 1 (Int.toNat x9_2) 0)) rfl) ?_
  refine Ja rfl rfl rfl (Jc (v := .int .i64 x3_2) rfl) ?_
  obtain ⟨t15, h_t15, H10⟩ := Jh H9; clear H9
  refine Xt (fun w hF hS => k141 (J3 w) ((show FrN h 6 (Xz h v0_1 1 (Int.toNat x9_2) 0) g_tag_Entry t11 from (f0_1.at h_t11)).mono (hw.now hF)) h_t15) Try.call141 rfl rfl rfl ?_
  refine Ja rfl rfl rfl (Jd (v := .int .i64 t15) rfl) ?_
  refine Jg ?_
  refine Jb ?_
  obtain ⟨t16, h_t16, H11⟩ := Jh H10; clear H10
  refine Ja rfl rfl rfl (Qd rfl rfl h_t16) ?_
  refine Ja rfl rfl rfl (Jc (v := .int .i64 t16) rfl) ?_
  refine Jg ?_
  refine Jo (t15, t16) () m1 [] (by exact ⟨rfl, rfl, rfl, rfl, trivial⟩) (by decide) (by kernel_rfl) (by exact ⟨(by subst hn1; exact H11), trivial⟩) (Nat.lt_succ_self _)
 ·have H12 := Jt hb H7; clear H7
  refine Xy ?_
  refine Jf ?_
  refine Jb ?_
  refine Ja rfl rfl rfl (Jc (v := .int .i64 x3_2) rfl) ?_
  refine Ja rfl rfl rfl (Jd (v := .int .i64 x3_2) rfl) ?_
  refine Jg ?_
  refine J0 ?_
  obtain rfl := Option.some.inj H12
  refine Q2 (v := .int .i64 x3_2) rfl rfl (Zr rfl)
theorem k41 {a0 : T_tag_File} {v0_1 : Value} {r : Int} {w : World} {h : J6} (hw : Know h w Wg) (f0_1 : FrN h 1 v0_1 gs_tag_Entry a0.Dirs) (H : tag_Check a0 = some r) : Does Try.prog 41 (List.toArray [.agg #[.bool a0.Big, v0_1]]) w (fun v w' => v = (.int .i64 r) ∧ Grow w w') := by
 refine enter (n := 26) Try.func41 rfl rfl rfl Wg [] (Sat.nil _ _) ?_
 refine Jf ?_
 refine Jb ?_
 refine l_box (cs := [.bool a0.Big, v0_1]) rfl rfl rfl rfl (fun b1 => ?_)
 refine Ja rfl rfl rfl (Jd (v := .int .i64 0) rfl) ?_
 refine Jg ?_
 refine Jf ?_
 refine Jf ?_
 refine Jb ?_
 refine Ja rfl rfl rfl (Jl Try.runUnderlying24 rfl Try.sizeOf22 rfl rfl) ?_
 refine Jr (i := 0) (v := v0_1) Try.isAgg22 rfl rfl rfl rfl rfl ?_
 refine Ja rfl rfl rfl (V1 Try.underlying22 rfl f0_1) ?_
 refine Ja rfl rfl rfl (Wq rfl rfl) ?_
 refine Jg ?_
 refine Qf (b := (decide (20 < (a0.Dirs.length : Int)))) rfl (fun hb => ?_) (fun hb => ?_)
 ·have H15 := Js hb H; clear H
  refine Jf ?_
  refine Jb ?_
  refine Ja rfl rfl rfl (Jd (v := .int .i64 4) rfl) ?_
  refine Jg ?_
  refine J0 ?_
  obtain rfl := Option.some.inj H15
  refine Q2 (v := .int .i64 4) rfl rfl (Zr rfl)
 ·have H16 := Jt hb H; clear H
  refine Ju ?_
  refine Xb (r := r) (σ := Unit) (τ := Unit) (fun s => Ur a0) (fun s t => [(1, .pointer (some ⟨b1, 0, none⟩))]) (fun s t => [Jm b1 [.bool a0.Big, v0_1] 24]) (fun s t => True) ?_ ?_
  ·refine Jf ?_
   refine Jb ?_
   refine Ja rfl rfl rfl (Jl Try.runUnderlying24 rfl Try.sizeOf22 rfl rfl) ?_
   refine Jr (i := 0) (v := v0_1) Try.isAgg22 rfl rfl rfl rfl rfl ?_
   refine Ja rfl rfl rfl (V1 Try.underlying22 rfl f0_1) ?_
   refine Ja rfl rfl rfl (Jc (v := .int .i64 0) rfl) ?_
   refine Jg ?_
   refine J1 ?_
   refine Z5 (σ := Int) (τ := Unit) (fun next2 s => Y2 a0 next2 s) (fun s t => [(1, .pointer (some ⟨b1, 0, none⟩)), (11, v0_1), (12, .int .i64 (a0.Dirs.length : Int)), (13, .int .i64 s)]) (fun s t => [Jm b1 [.bool a0.Big, v0_1] 24]) (fun s t => True) 0 () [0] H16 (by exact trivial) (by exact ⟨rfl, rfl, rfl, rfl, trivial⟩) (by decide) rfl ?_
   rintro x13_2 _ m2 gg H21 _
   clear H16
   replace H21 : Y2 a0 (it (fun next2 s => Y2 a0 next2 s) m2) x13_2 = some r := H21
   generalize hn2 : it (fun next2 s => Y2 a0 next2 s) m2 = next2 at H21
   try dsimp only
   refine Jf ?_
   refine Jb ?_
   refine Ja rfl rfl rfl (Zn rfl rfl) ?_
   refine Jg ?_
   refine Jf ?_
   refine Qf (b := (decide (x13_2 < (a0.Dirs.length : Int)))) rfl (fun hb => ?_) (fun hb => ?_)
   ·have H22 := Js hb H21; clear H21
    refine Ju ?_
    refine Jf ?_
    refine J1 ?_
    refine Jf ?_
    refine Jb ?_
    obtain ⟨t15, h_t15, H23⟩ := Jh H22; clear H22
    refine Ja rfl rfl rfl (Zd Try.underlying22 Try.sizeOf27 rfl rfl f0_1.frs (f0_1.ix h_t15)) ?_
    refine Yg (fun w hF hS => Yu (f := (elC h v0_1 1)) (i := x13_2) (sz := 1) (j := 0) (v := (Xz h v0_1 1 (Int.toNat x13_2) 0)) Try.isAgg27 rfl rfl (f0_1.frs.row (hw.now hF)) (f0_1.ix h_t15) (rg_of (cgs_tag_Entry (f0_1.at h_t15)) rfl)) rfl rfl rfl ?_
    refine Ja rfl rfl rfl (Jd (v := (Xz h v0_1 1 (Int.toNat x13_2) 0)) rfl) ?_
    refine Jg ?_
    refine Jf ?_
    refine Jb ?_
    refine Ja rfl rfl rfl (Jc (v := (Xz h v0_1 1 (Int.toNat x13_2) 0)) rfl) ?_
    obtain ⟨t18, h_t18, H24⟩ := Jh H23; clear H23
    refine Xt (fun w hF hS => k95 (J3 w) ((show FrN h 6 (Xz h v0_1 1 (Int.toNat x13_2) 0) g_tag_Entry t15 from (f0_1.at h_t15)).mono (hw.now hF)) h_t18) Try.call95 rfl rfl rfl ?_
    refine Ja rfl rfl rfl (Jd (v := .int .i64 t18) rfl) ?_
    refine Jg ?_
    refine Jf ?_
    refine Jb ?_
    refine Ja rfl rfl rfl (Jc (v := .int .i64 t18) rfl) ?_
    refine Ja rfl rfl rfl (V3 rfl rfl) ?_
    refine Jg ?_
    refine Qf (b := (decide (t18 ≠ 0))) rfl (fun hb => ?_) (fun hb => ?_)
    ·have H25 := Js hb H24; clear H24
     refine Jf ?_
     refine Jb ?_
     refine Ja rfl rfl rfl (Jc (v := .int .i64 t18) rfl) ?_
     refine Ja rfl rfl rfl (Jd (v := .int .i64 t18) rfl) ?_
     refine Jg ?_
     refine J0 ?_
     obtain rfl := Option.some.inj H25
     refine Q2 (v := .int .i64 t18) rfl rfl (Zr rfl)
    ·have H26 := Jt hb H24; clear H24
     refine Ju ?_
     refine Jb ?_
     obtain ⟨t22, h_t22, H27⟩ := Jh H26; clear H26
     refine Ja rfl rfl rfl (Qd rfl rfl h_t22) ?_
     refine Ja rfl rfl rfl (Jc (v := .int .i64 t22) rfl) ?_
     refine Jg ?_
     refine Jo t22 () m2 [0] (by exact ⟨rfl, rfl, rfl, rfl, trivial⟩) (by decide) (by kernel_rfl) (by exact ⟨(by subst hn2; exact H27), trivial⟩) (Nat.lt_succ_self _)
   ·have H28 := Jt hb H21; clear H21
    refine Xy ?_
    refine Jo () () 0 [0] (by exact ⟨rfl, trivial⟩) (by decide) (by kernel_rfl) (by exact ⟨H28, trivial⟩) (Nat.lt_succ_self _)
  ·rintro _ _ gg H17 _
   replace H17 : Ur a0 = some r := H17
   try dsimp only
   refine Jf ?_
   refine Jf ?_
   refine Jb ?_
   refine Vx (i := 0) (vs := [.bool a0.Big, v0_1]) Try.isAgg24 Try.sizeOf24 rfl rfl rfl rfl rfl ?_
   obtain ⟨t24, h_t24, H18⟩ := Jh H17; clear H17
   refine Xt (fun w hF hS => k96 (J3 w) (f0_1.mono (hw.now hF)) h_t24) Try.call96 rfl rfl rfl ?_
   refine Ja rfl rfl rfl (Wq rfl rfl) ?_
   refine Jg ?_
   refine Qf (b := (decide (65000 < t24))) rfl (fun hb => ?_) (fun hb => ?_)
   ·have H19 := Js hb H18; clear H18
    refine Jf ?_
    refine Jb ?_
    refine Ja rfl rfl rfl (Jd (v := .int .i64 4) rfl) ?_
    refine Jg ?_
    refine J0 ?_
    obtain rfl := Option.some.inj H19
    refine Q2 (v := .int .i64 4) rfl rfl (Zr rfl)
   ·have H20 := Jt hb H18; clear H18
    refine Ju ?_
    refine Jf ?_
    refine Jb ?_
    refine Ja rfl rfl rfl (Jd (v := .int .i64 0) rfl) ?_
    refine Jg ?_
    refine J0 ?_
    obtain rfl := Option.some.inj H20
    refine Q2 (v := .int .i64 0) rfl rfl (Zr rfl)
theorem k83 {a0 : Bool} {a1 : Int} {a2 : Int} {r : (List Int)} {w : World} {h : J6} (hw : Know h w Wg) (H : Jj a0 a1 a2 = some r) : Does Try.prog 83 (List.toArray [.bool a0, .int .i64 a1, .int .i64 a2]) w (fun v w' => ∃ x : (Option Addr × Nat), v = (.slice x.1 r.length x.2) ∧ Turn w w' Wg (Jw 5 1 (.slice x.1 r.length x.2) r.length (r.map Xh))) := by
 refine enter (n := 33) Try.func83 rfl rfl rfl Wg [] (Sat.nil _ _) ?_
 refine Jf ?_
 refine Jb ?_
 refine Ja rfl rfl rfl (Jd (v := .slice none 0 0) rfl) ?_
 refine Jg ?_
 refine Jf ?_
 refine Jb ?_
 refine Ja rfl rfl rfl (Jc (v := .int .i64 a2) rfl) ?_
 obtain ⟨t11, h_t11, H15⟩ := Jh H; clear H
 refine Wl (rds := []) (makes_makeG (E := 5) (sz := 1) (f := Xh) (xs := t11) Try.underlying133 (Xn Try.typeInfo5) rfl rfl rfl rfl rfl rfl ⟨rfl, rfl⟩ h_t11) rfl rfl rfl (fun p => ?_)
 refine Ja rfl rfl rfl (Jd (v := .slice p.1 t11.length p.2) rfl) ?_
 refine Jg ?_
 refine Jf ?_
 refine Jf ?_
 refine Jb ?_
 refine Ja rfl rfl rfl (Jc (v := .slice p.1 t11.length p.2) rfl) ?_
 refine Ja rfl rfl rfl (r_len Try.underlying133 rfl) ?_
 refine Ja rfl rfl rfl (Jc (v := .int .i64 0) rfl) ?_
 refine Jg ?_
 refine J1 ?_
 refine Z5 (σ := Int × (List Int)) (τ := Unit) (fun next1 s => Qz a0 a1 a2 t11 next1 s.1 s.2) (fun s t => [(0, .bool a0), (1, .int .i64 a1), (2, .int .i64 a2), (7, .slice p.1 t11.length p.2), (13, .int .i64 (t11.length : Int)), (14, .int .i64 s.1)]) (fun s t => [Jw 5 1 (.slice p.1 t11.length p.2) t11.length (s.2.map Xh)]) (fun s t => t11.length = s.2.length) (0, t11) () [0] H15 (by exact rfl) (by exact ⟨rfl, rfl, rfl, rfl, rfl, rfl, trivial⟩) (by decide) rfl ?_
 rintro ⟨x14_2, l_2⟩ _ m1 gg H16 hl_2
 clear H15
 replace H16 : Qz a0 a1 a2 t11 (it (fun next1 s => Qz a0 a1 a2 t11 next1 s.1 s.2) m1) x14_2 l_2 = some r := H16
 generalize hn1 : it (fun next1 s => Qz a0 a1 a2 t11 next1 s.1 s.2) m1 = next1 at H16
 try dsimp only
 refine Jf ?_
 refine Jb ?_
 refine Ja rfl rfl rfl (Zn rfl rfl) ?_
 refine Jg ?_
 refine Jf ?_
 refine Qf (b := (decide (x14_2 < (t11.length : Int)))) rfl (fun hb => ?_) (fun hb => ?_)
 ·have H17 := Js hb H16; clear H16
  refine Ju ?_
  refine Jf ?_
  refine J1 ?_
  refine Jf ?_
  refine Jb ?_
  refine Ja rfl rfl rfl (Jc (v := .int .i64 x14_2) rfl) ?_
  refine Ja rfl rfl rfl (Jd (v := .int .i64 x14_2) rfl) ?_
  refine Jg ?_
  refine Jf ?_
  refine Jb ?_
  refine Ja rfl rfl rfl (Jc (v := .int .i64 x14_2) rfl) ?_
  refine Ja rfl rfl rfl (Jd (v := .int .i64 x14_2) rfl) ?_
  refine Jg ?_
  refine Xb (r := r) (σ := Int) (τ := Unit) (fun s => Zh a1 x14_2 l_2 next1 s) (fun s t => [(0, .bool a0), (1, .int .i64 a1), (2, .int .i64 a2), (7, .slice p.1 t11.length p.2), (8, .int .i64 x14_2), (9, .int .i64 s), (13, .int .i64 (t11.length : Int)), (14, .int .i64 x14_2)]) (fun s t => [Jw 5 1 (.slice p.1 t11.length p.2) t11.length (l_2.map Xh)]) (fun s t => True) ?_ ?_
  ·refine Jf ?_
   refine Jb ?_
   refine Ja rfl rfl rfl (Jc (v := .bool a0) rfl) ?_
   refine Jg ?_
   refine Qf (b := a0) rfl (fun hb => ?_) (fun hb => ?_)
   ·have H24 := Js hb H17; clear H17
    refine Jb ?_
    refine Ja rfl rfl rfl (Jc (v := .int .i64 a2) rfl) ?_
    obtain ⟨t20, h_t20, H25⟩ := Jh H24; clear H24
    refine Ja rfl rfl rfl (Uf rfl rfl h_t20) ?_
    refine Ja rfl rfl rfl (Jc (v := .int .i64 x14_2) rfl) ?_
    obtain ⟨t22, h_t22, H26⟩ := Jh H25; clear H25
    refine Ja rfl rfl rfl (Uf rfl rfl h_t22) ?_
    refine Ja rfl rfl rfl (Jd (v := .int .i64 t22) rfl) ?_
    refine Jg ?_
    refine Jo t22 () 0 [0] (by exact ⟨rfl, rfl, rfl, rfl, rfl, rfl, rfl, rfl, trivial⟩) (by decide) (by kernel_rfl) (by exact ⟨H26, trivial⟩) (Nat.lt_succ_self _)
   ·have H27 := Jt hb H17; clear H17
    refine Ju ?_
    refine Jo x14_2 () 0 [0] (by exact ⟨rfl, rfl, rfl, rfl, rfl, rfl, rfl, rfl, trivial⟩) (by decide) (by kernel_rfl) (by exact ⟨H27, trivial⟩) (Nat.lt_succ_self _)
  ·rintro x9 _ gg H18 _
   replace H18 : Zh a1 x14_2 l_2 next1 x9 = some r := H18
   try dsimp only
   refine Jb ?_
   refine Ja rfl rfl rfl (Jc (v := .slice p.1 t11.length p.2) rfl) ?_
   refine Ja rfl rfl rfl (Jc (v := .int .i64 x9) rfl) ?_
   refine Ja rfl rfl rfl (Jc (v := .int .i64 a1) rfl) ?_
   refine Ja rfl rfl rfl (Jc (v := .int .i64 x14_2) rfl) ?_
   obtain ⟨t27, h_t27, H19⟩ := Jh H18; clear H18
   refine Ja rfl rfl rfl (Ud rfl rfl h_t27) ?_
   obtain ⟨t28, h_t28, H20⟩ := Jh H19; clear H19
   refine Ja rfl rfl rfl (r_shrG rfl rfl rfl h_t28) ?_
   refine Ja rfl rfl rfl (r_convG Try.runUnderlying3 Try.runUnderlying5 rfl (wr_u8 _)) ?_
   obtain ⟨t30, h_t30, H21⟩ := Jh H20; clear H20
   refine Yg (fun w hF hS => Wp Try.underlying133 Try.sizeOf5 rfl rfl (V2 (i := 0) hS rfl) hl_2 h_t30) rfl rfl rfl ?_
   obtain ⟨l0, h_l0, H22⟩ := Jh H21; clear H21
   refine l_storeG (q := 0) (j := 0) (i := x9) (sz := 1) (hm := hl_2) (f := Xh) (vs := [.int .u8 (wU8 t28)]) Try.sizeOf5 rfl rfl rfl rfl rfl rfl rfl rfl rfl (fun y_ hy_ => by first | rfl | (cases hy_.symm.trans h_t30; rfl)) h_l0 ?_
   refine Jg ?_
   refine Jb ?_
   obtain ⟨t31, h_t31, H23⟩ := Jh H22; clear H22
   refine Ja rfl rfl rfl (Qd rfl rfl h_t31) ?_
   refine Ja rfl rfl rfl (Jc (v := .int .i64 t31) rfl) ?_
   refine Jg ?_
   refine Jo (t31, l0) () m1 [0] (by exact ⟨rfl, rfl, rfl, rfl, rfl, rfl, trivial⟩) (by decide) (by kernel_rfl) (by exact ⟨(by subst hn1; exact H23), (gSet_n hl_2 h_l0)⟩) (Nat.lt_succ_self _)
 ·have H28 := Jt hb H16; clear H16
  refine Xy ?_
  refine Jf ?_
  refine Jb ?_
  refine Ja rfl rfl rfl (Jc (v := .slice p.1 t11.length p.2) rfl) ?_
  refine Ja rfl rfl rfl (Jd (v := .slice p.1 t11.length p.2) rfl) ?_
  refine Jg ?_
  refine J0 ?_
  obtain rfl := Option.some.inj H28
  refine Q2 (v := .slice p.1 t11.length p.2) rfl rfl (Wm p (i := 0) rfl (by first | rfl | rw [(show t11.length = l_2.length from hl_2)]) (by first | exact Imp.refl _ | exact Imp.of (by rw [(show t11.length = l_2.length from hl_2)])))
theorem k86 {a0 : T_tag_writer} {pb0 : Nat} {p0_1 : Option Addr × Nat} {n0_1 : Nat} {a1 : Int} {a2 : Int} {r : T_tag_writer} {w : World} {h : J6} {S : Nat → Prop} (hcs : (Jy (Jm pb0 [.bool a0.big_, .slice p0_1.1 n0_1 p0_1.2] 138) (Jw 5 1 (.slice p0_1.1 n0_1 p0_1.2) n0_1 (a0.out_.map Xh))).P S w) (hlt : ∀ b, S b → b < w.heap.size) (hw : Know h w S) (hn0_1 : n0_1 = a0.out_.length) (H : Zq a0 a1 a2 = some r) : Does Try.prog 86 (List.toArray [.pointer (some ⟨pb0, 0, none⟩), .int .i64 a1, .int .i64 a2]) w (fun v w' => ∃ x : (Option Addr × Nat), v = (.tuple #[]) ∧ Turn w w' S (Jy (Jm pb0 [.bool r.big_, .slice x.1 r.out_.length x.2] 138) (Jw 5 1 (.slice x.1 r.out_.length x.2) r.out_.length (r.out_.map Xh)))) := by
 refine enter (n := 19) Try.func86 rfl rfl rfl S [Jy (Jm pb0 [.bool a0.big_, .slice p0_1.1 n0_1 p0_1.2] 138) (Jw 5 1 (.slice p0_1.1 n0_1 p0_1.2) n0_1 (a0.out_.map Xh))] (Sat.one hcs hlt) ?_
 refine X3 0 rfl ?_
 exact Xr (Kd.p :: Kd.p :: Kd.p :: Kd.d [0] _ :: Kd.p :: Kd.d [1] _ :: Kd.p :: Kd.p :: Kd.p :: Kd.d [0] _ :: Kd.p :: Kd.t 2 [] _ _ :: Kd.t 1 [2] _ _ :: []) 1 mixed (by
  refine Jq rfl rfl (Jc (v := .pointer (some ⟨pb0, 0, none⟩)) rfl) ?_
  refine Jq rfl rfl (Jp rfl) ?_
  refine Jq rfl rfl (Jl Try.runUnderlying138 rfl Try.sizeOf133 rfl rfl) ?_
  refine Ya (i := 0) (v := .slice p0_1.1 n0_1 p0_1.2) Try.isAgg133 rfl rfl rfl rfl ?_
  refine Jq rfl rfl (Jc (v := .int .i64 a1) rfl) ?_
  have h_t11 := Qq H
  have H3 := Qb H
  refine d_readD (v := .slice (Vg p0_1.1 (Int.toNat a1) p0_1.2 1) (val (Wn a0.out_ a1 a0.out_.length)).length (p0_1.2 - Int.toNat a1)) (fun w L' hF hS hi => run_sliceLO (xs := a0.out_) Try.underlying133 Try.sizeOf5 rfl rfl hn0_1 (capOf (i := 1) hS ((hi 1 (by simp)).trans rfl)) h_t11) rfl rfl ?_
  refine Jq rfl rfl (Jc (v := .pointer (some ⟨pb0, 0, none⟩)) rfl) ?_
  refine Jq rfl rfl (Jp rfl) ?_
  refine Jq rfl rfl (Jl Try.runUnderlying138 rfl Try.sizeOf4 rfl rfl) ?_
  refine Ya (i := 0) (v := .bool a0.big_) Try.isAgg4 rfl rfl rfl rfl ?_
  refine Jq rfl rfl (Jc (v := .int .i64 a2) rfl) ?_
  have h_t17 := Qq H3
  have H4 := Qb H3
  refine d_make (Cv := fun v => Jw 5 1 v (val (Jj a0.big_ a2 4)).length ((val (Jj a0.big_ a2 4)).map Xh)) (none, 0) (Xv (G := fun x : (Option Addr × Nat) => .slice x.1 (val (Jj a0.big_ a2 4)).length x.2) (C := fun x : (Option Addr × Nat) => Jw 5 1 (.slice x.1 (val (Jj a0.big_ a2 4)).length x.2) (val (Jj a0.big_ a2 4)).length ((val (Jj a0.big_ a2 4)).map Xh)) (fun w L' hF hS hi => k83 (J3 w)  h_t17) Try.call83 rfl) (fun _ => rfl) rfl rfl rfl (fun p => ?_)
  refine d_turn (Cv := fun _ => Jw 5 1 (.slice p0_1.1 n0_1 p0_1.2) n0_1 ((cpyL a0.out_ a1 (val (Wn a0.out_ a1 a0.out_.length)).length (val (Jj a0.big_ a2 4))).map Xh)) () (turns_copyG (i := 1) (rds := _) (p := p0_1) (f := Xh) (xs := a0.out_) (ts := (val (Wn a0.out_ a1 a0.out_.length))) (ys := (val (Jj a0.big_ a2 4))) hn0_1 Try.underlying133 (by rw [Xn Try.typeInfo5]; rfl) rfl rfl h_t11 rfl rfl (fun w L' hF hS hi => V2 (i := 2) hS ((hi 2 (by simp)).trans rfl)) (fun _ => rfl) (fun _ => rfl)) (fun _ => rfl) rfl rfl (fun _ => ?_)
  refine Wf ?_
  obtain rfl := Option.some.inj H4
  refine Jx 0 1 rfl rfl (by decide) ?_
  refine ret0n rfl (Wm p0_1 (i := 0) rfl (by first | rfl | rw [(show n0_1 = (cpyL a0.out_ a1 (val (Wn a0.out_ a1 a0.out_.length)).length (val (Jj a0.big_ a2 4))).length from (cpyL_n hn0_1 h_t11))]) (by first | exact Imp.refl _ | exact Imp.of (by rw [(show n0_1 = (cpyL a0.out_ a1 (val (Wn a0.out_ a1 a0.out_.length)).length (val (Jj a0.big_ a2 4))).length from (cpyL_n hn0_1 h_t11))])))
  ) (by kernel_rfl)
theorem k85 {a0 : Bool} {a1 : T_tag_Value} {v1_2 : Value} {v1_3 : Value} {v1_4 : Value} {r : (List Int)} {w : World} {h : J6} (hw : Know h w Wg) (f1_2 : FrS h 1 v1_2 (a1.Ints.map Xx)) (f1_3 : FrS h 2 v1_3 (a1.Ratios.map J7)) (f1_4 : FrN h 6 v1_4 g_tag_Entry a1.Entries) (H : Xj a0 a1 = some r) : Does Try.prog 85 (List.toArray [.bool a0, .agg #[.int .i64 a1.Kind, str a1.Text, v1_2, v1_3, v1_4]]) w (fun v w' => ∃ x : (Option Addr × Nat), v = (.slice x.1 r.length x.2) ∧ Turn w w' Wg (roV 1 (.slice x.1 r.length x.2) r.length (r.map Xh))) := by
 refine enter (n := 61) Try.func85 rfl rfl rfl Wg [] (Sat.nil _ _) ?_
 refine Jf ?_
 refine Jb ?_
 refine l_box (cs := [.int .i64 a1.Kind, str a1.Text, v1_2, v1_3, v1_4]) rfl rfl rfl rfl (fun b6 => ?_)
 refine Ja rfl rfl rfl (Jd (v := .slice none 0 0) rfl) ?_
 refine Jg ?_
 refine Jf ?_
 refine Jf ?_
 refine Jb ?_
 refine Ja rfl rfl rfl (Jl Try.runUnderlying29 rfl Try.sizeOf3 rfl rfl) ?_
 refine Jr (i := 0) (v := .int .i64 a1.Kind) Try.isAgg3 rfl rfl rfl rfl rfl ?_
 refine Jg ?_
 refine J1 ?_
 refine Jf ?_
 refine Jb ?_
 refine Ja rfl rfl rfl (Xq rfl rfl) ?_
 refine Ja rfl rfl rfl (Jd (v := .bool (decide (a1.Kind = 2))) rfl) ?_
 refine Jg ?_
 refine Qf (b := (decide (a1.Kind = 2))) rfl (fun hb => ?_) (fun hb => ?_)
 ·have H51 := Js hb H; clear H
  refine Jf ?_
  refine Jb ?_
  refine Ja rfl rfl rfl (Jl Try.runUnderlying29 rfl Try.sizeOf9 rfl rfl) ?_
  refine Jr (i := 0) (v := str a1.Text) Try.isAgg9 rfl rfl rfl rfl rfl ?_
  obtain ⟨t16, h_t16, H52⟩ := Jh H51; clear H51
  refine Wl (rds := []) (makes_byt (f := Xh) (s := a1.Text) Try.underlying9 Try.underlying133 Try.underlying5 rfl (fun _ => rfl) h_t16) rfl rfl rfl (fun p => ?_)
  refine Qr (vs := [.int .u8 0]) (cs := [.int .u8 0]) Try.underlying133 Try.sizeOf5 Try.zeroValue5 rfl rfl rfl rfl rfl rfl rfl (fun b7 => ?_)
  obtain ⟨l18, h_l18, H53⟩ := Jh H52; clear H52
  refine Qv (turns_appM (i := 1) (hn := rfl) (rds := [2]) (p := p) (sz := 1) (by_ := 1) (f := Xh) (ys := t16) (ls := ([0] : List Int)) (V := .slice (some ⟨b7, 0, none⟩) 1 1) Try.underlying133 (Xn Try.typeInfo5) rfl rfl rfl rfl rfl rfl rfl rfl rfl rfl (fun w L' hF hS hi => Vm (i := 2) hS ((hi 2 (by simp)).trans rfl) rfl rfl) (fun _ => rfl) (fun _ => rfl) h_l18) rfl rfl rfl (fun p_2 => ?_)
  refine Ja rfl rfl rfl (Jd (v := .slice p_2.1 l18.length p_2.2) rfl) ?_
  refine Jg ?_
  refine J0 ?_
  obtain rfl := Option.some.inj H53
  refine V5 1 rfl (imp_mkro _ _ _ _ _) ?_
  refine Q2 (v := .slice p_2.1 l18.length p_2.2) rfl rfl (Wm p_2 (i := 1) rfl rfl (Imp.refl _))
 ·have H54 := Jt hb H; clear H
  refine Jf ?_
  refine Jb ?_
  refine Ja rfl rfl rfl (Xq rfl rfl) ?_
  refine Ja rfl rfl rfl (Jd (v := .bool (decide (a1.Kind = 7))) rfl) ?_
  refine Jg ?_
  refine Qf (b := (decide (a1.Kind = 7))) rfl (fun hb => ?_) (fun hb => ?_)
  ·have H55 := Js hb H54; clear H54
   refine Jf ?_
   refine Jb ?_
   refine Ja rfl rfl rfl (Jl Try.runUnderlying29 rfl Try.sizeOf9 rfl rfl) ?_
   refine Jr (i := 0) (v := str a1.Text) Try.isAgg9 rfl rfl rfl rfl rfl ?_
   obtain ⟨t23, h_t23, H56⟩ := Jh H55; clear H55
   refine Wl (rds := []) (makes_byt (f := Xh) (s := a1.Text) Try.underlying9 Try.underlying133 Try.underlying5 rfl (fun _ => rfl) h_t23) rfl rfl rfl (fun p_3 => ?_)
   refine Ja rfl rfl rfl (Jd (v := .slice p_3.1 t23.length p_3.2) rfl) ?_
   refine Jg ?_
   refine J0 ?_
   obtain rfl := Option.some.inj H56
   refine V5 1 rfl (imp_mkro _ _ _ _ _) ?_
   refine Q2 (v := .slice p_3.1 t23.length p_3.2) rfl rfl (Wm p_3 (i := 1) rfl rfl (Imp.refl _))
  ·have H57 := Jt hb H54; clear H54
   refine Ju ?_
   refine Jf ?_
   refine Jb ?_
   refine Ja rfl rfl rfl (Jd (v := .slice none 0 0) rfl) ?_
   refine Jg ?_
   refine Xb (r := r) (σ := (List Int)) (τ := (Option Addr × Nat)) (fun s => Vs a0 a1 s) (fun s t => [(0, .bool a0), (3, .pointer (some ⟨b6, 0, none⟩)), (5, .slice t.1 s.length t.2)]) (fun s t => [Jm b6 [.int .i64 a1.Kind, str a1.Text, v1_2, v1_3, v1_4] 29, Jw 5 1 (.slice t.1 s.length t.2) s.length (s.map Xh)]) (fun s t => True) ?_ ?_
   ·refine Jf ?_
    refine Jb ?_
    refine Ja rfl rfl rfl (Jl Try.runUnderlying29 rfl Try.sizeOf25 rfl rfl) ?_
    refine Jr (i := 0) (v := v1_2) Try.isAgg25 rfl rfl rfl rfl rfl ?_
    refine Ja rfl rfl rfl (r_lenF Try.underlying25 rfl f1_2 rfl) ?_
    refine Ja rfl rfl rfl (Jc (v := .int .i64 0) rfl) ?_
    refine Jg ?_
    refine J1 ?_
    refine Ql 5 1 ?_
    refine Z5 (σ := Int × (List Int)) (τ := (Option Addr × Nat)) (fun next3 s => Yh a0 a1 next3 s.1 s.2) (fun s t => [(0, .bool a0), (3, .pointer (some ⟨b6, 0, none⟩)), (5, .slice t.1 s.2.length t.2), (25, v1_2), (26, .int .i64 (a1.Ints.length : Int)), (27, .int .i64 s.1)]) (fun s t => [Jm b6 [.int .i64 a1.Kind, str a1.Text, v1_2, v1_3, v1_4] 29, Jw 5 1 (.slice t.1 s.2.length t.2) s.2.length (s.2.map Xh)]) (fun s t => True) (0, ([] : List Int)) ((none, 0) : Option Addr × Nat) [0, 1] H57 (by exact trivial) (by exact ⟨rfl, rfl, rfl, rfl, rfl, rfl, trivial⟩) (by decide) rfl ?_
    rintro ⟨x27_2, l_5⟩ p_10 m3 gg H68 _
    clear H57
    replace H68 : Yh a0 a1 (it (fun next3 s => Yh a0 a1 next3 s.1 s.2) m3) x27_2 l_5 = some r := H68
    generalize hn3 : it (fun next3 s => Yh a0 a1 next3 s.1 s.2) m3 = next3 at H68
    try dsimp only
    refine Jf ?_
    refine Jb ?_
    refine Ja rfl rfl rfl (Zn rfl rfl) ?_
    refine Jg ?_
    refine Jf ?_
    refine Qf (b := (decide (x27_2 < (a1.Ints.length : Int)))) rfl (fun hb => ?_) (fun hb => ?_)
    ·have H69 := Js hb H68; clear H68
     refine Ju ?_
     refine Jf ?_
     refine J1 ?_
     refine Jf ?_
     refine Jb ?_
     obtain ⟨t29, h_t29, H70⟩ := Jh H69; clear H69
     refine Ja rfl rfl rfl (Zd Try.underlying25 Try.sizeOf3 rfl rfl f1_2 h_t29) ?_
     refine Yg (fun w hF hS => Yu (f := Xx) (i := x27_2) (sz := 1) (j := 0) (v := .int .i64 t29) Try.isAgg3 rfl rfl (f1_2.row (hw.now hF)) h_t29 rfl) rfl rfl rfl ?_
     refine Ja rfl rfl rfl (Jd (v := .int .i64 t29) rfl) ?_
     refine Jg ?_
     refine Jb ?_
     refine Ja rfl rfl rfl (Jc (v := .slice p_10.1 l_5.length p_10.2) rfl) ?_
     refine Ja rfl rfl rfl (Jc (v := .bool a0) rfl) ?_
     refine Ja rfl rfl rfl (Jc (v := .int .i64 t29) rfl) ?_
     refine Ja rfl rfl rfl (Jl Try.runUnderlying29 rfl Try.sizeOf3 rfl rfl) ?_
     refine Jr (i := 0) (v := .int .i64 a1.Kind) Try.isAgg3 rfl rfl rfl rfl rfl ?_
     obtain ⟨t36, h_t36, H71⟩ := Jh H70; clear H70
     refine Z8 (k136 h_t36) Try.call136 rfl rfl rfl ?_
     obtain ⟨t37, h_t37, H72⟩ := Jh H71; clear H71
     refine Wl (Xv (rds := []) (G := fun x : (Option Addr × Nat) => .slice x.1 t37.length x.2) (C := fun x : (Option Addr × Nat) => Jw 5 1 (.slice x.1 t37.length x.2) t37.length (t37.map Xh)) (fun w L' hF hS hi => k83 (J3 w)  h_t37) Try.call83 rfl) rfl rfl rfl (fun p_11 => ?_)
     obtain ⟨l38, h_l38, H73⟩ := Jh H72; clear H72
     refine Qv (Xd (i := 1) (hn := rfl) (rds := [2]) (p := p_10) (sz := 1) (by_ := 1) (f := Xh) (ys := l_5) (ls := t37) (V := .slice p_11.1 t37.length p_11.2) Try.underlying133 (Xn Try.typeInfo5) rfl rfl rfl rfl rfl rfl rfl rfl rfl rfl (fun w L' hF hS hi => V2 (i := 2) hS ((hi 2 (by simp)).trans rfl)) (fun _ => rfl) (fun _ => rfl) h_l38) rfl rfl rfl (fun p_12 => ?_)
     refine Ja rfl rfl rfl (Jd (v := .slice p_12.1 l38.length p_12.2) rfl) ?_
     refine Jg ?_
     refine Jb ?_
     obtain ⟨t39, h_t39, H74⟩ := Jh H73; clear H73
     refine Ja rfl rfl rfl (Qd rfl rfl h_t39) ?_
     refine Ja rfl rfl rfl (Jc (v := .int .i64 t39) rfl) ?_
     refine Jg ?_
     refine Jo (t39, l38) p_12 m3 [0, 1] (by exact ⟨rfl, rfl, rfl, rfl, rfl, rfl, trivial⟩) (by decide) (by kernel_rfl) (by exact ⟨(by subst hn3; exact H74), trivial⟩) (Nat.lt_succ_self _)
    ·have H75 := Jt hb H68; clear H68
     refine Xy ?_
     refine Jo l_5 p_10 0 [0, 1] (by exact ⟨rfl, rfl, rfl, trivial⟩) (by decide) (by kernel_rfl) (by exact ⟨H75, trivial⟩) (Nat.lt_succ_self _)
   ·rintro l p_4 gg H58 _
    replace H58 : Vs a0 a1 l = some r := H58
    try dsimp only
    refine Jf ?_
    refine Jf ?_
    refine Jb ?_
    refine Ja rfl rfl rfl (Jl Try.runUnderlying29 rfl Try.sizeOf26 rfl rfl) ?_
    refine Jr (i := 0) (v := v1_3) Try.isAgg26 rfl rfl rfl rfl rfl ?_
    refine Ja rfl rfl rfl (r_lenF Try.underlying26 rfl f1_3 rfl) ?_
    refine Ja rfl rfl rfl (Jc (v := .int .i64 0) rfl) ?_
    refine Jg ?_
    refine J1 ?_
    refine c_dr 0 ?_
    try dsimp only [z1, z2, z3, z4, z5, z6, z7, z8]
    refine Z5 (σ := Int × (List Int)) (τ := (Option Addr × Nat)) (fun next2 s => Yj a0 a1 next2 s.1 s.2) (fun s t => [(0, .bool a0), (5, .slice t.1 s.2.length t.2), (41, v1_3), (42, .int .i64 (a1.Ratios.length : Int)), (43, .int .i64 s.1)]) (fun s t => [Jw 5 1 (.slice t.1 s.2.length t.2) s.2.length (s.2.map Xh)]) (fun s t => True) (0, l) p_4 [0] H58 (by exact trivial) (by exact ⟨rfl, rfl, rfl, rfl, rfl, trivial⟩) (by decide) rfl ?_
    rintro ⟨x43_2, l_3⟩ p_5 m2 gg H59 _
    clear H58
    replace H59 : Yj a0 a1 (it (fun next2 s => Yj a0 a1 next2 s.1 s.2) m2) x43_2 l_3 = some r := H59
    generalize hn2 : it (fun next2 s => Yj a0 a1 next2 s.1 s.2) m2 = next2 at H59
    try dsimp only
    refine Jf ?_
    refine Jb ?_
    refine Ja rfl rfl rfl (Zn rfl rfl) ?_
    refine Jg ?_
    refine Jf ?_
    refine Qf (b := (decide (x43_2 < (a1.Ratios.length : Int)))) rfl (fun hb => ?_) (fun hb => ?_)
    ·have H60 := Js hb H59; clear H59
     refine Ju ?_
     refine Jf ?_
     refine J1 ?_
     refine Jf ?_
     refine Jb ?_
     obtain ⟨t45, h_t45, H61⟩ := Jh H60; clear H60
     refine Ja rfl rfl rfl (Zd Try.underlying26 Try.sizeOf103 rfl rfl f1_3 h_t45) ?_
     refine Yg (fun w hF hS => Z2 (f := J7) (i := x43_2) (sz := 2) (j := 0) (vs := [.int .i64 t45.Num, .int .i64 t45.Den]) Try.isAgg103 Try.sizeOf103 rfl rfl (f1_3.row (hw.now hF)) h_t45 rfl) rfl rfl rfl ?_
     refine Zf (cs := [.int .i64 0, .int .i64 0]) Try.zeroValue103 rfl rfl rfl (fun b8 => ?_)
     refine Qx (i := 1) (vs := [.int .i64 t45.Num, .int .i64 t45.Den]) (cs' := [.int .i64 t45.Num, .int .i64 t45.Den]) Try.sizeOf103 rfl rfl rfl rfl rfl rfl rfl rfl rfl ?_
     refine Jg ?_
     refine Jf ?_
     refine Jb ?_
     refine Ja rfl rfl rfl (Jc (v := .slice p_5.1 l_3.length p_5.2) rfl) ?_
     refine Ja rfl rfl rfl (Jc (v := .bool a0) rfl) ?_
     refine Ja rfl rfl rfl (Jl Try.runUnderlying103 rfl Try.sizeOf3 rfl rfl) ?_
     refine Jr (i := 1) (v := .int .i64 t45.Num) Try.isAgg3 rfl rfl rfl rfl rfl ?_
     obtain ⟨t51, h_t51, H62⟩ := Jh H61; clear H61
     refine Wl (Xv (rds := []) (G := fun x : (Option Addr × Nat) => .slice x.1 t51.length x.2) (C := fun x : (Option Addr × Nat) => Jw 5 1 (.slice x.1 t51.length x.2) t51.length (t51.map Xh)) (fun w L' hF hS hi => k83 (J3 w)  h_t51) Try.call83 rfl) rfl rfl rfl (fun p_6 => ?_)
     obtain ⟨l52, h_l52, H63⟩ := Jh H62; clear H62
     refine Qv (Xd (i := 0) (hn := rfl) (rds := [2]) (p := p_5) (sz := 1) (by_ := 1) (f := Xh) (ys := l_3) (ls := t51) (V := .slice p_6.1 t51.length p_6.2) Try.underlying133 (Xn Try.typeInfo5) rfl rfl rfl rfl rfl rfl rfl rfl rfl rfl (fun w L' hF hS hi => V2 (i := 2) hS ((hi 2 (by simp)).trans rfl)) (fun _ => rfl) (fun _ => rfl) h_l52) rfl rfl rfl (fun p_7 => ?_)
     refine Ja rfl rfl rfl (Jd (v := .slice p_7.1 l52.length p_7.2) rfl) ?_
     refine Jg ?_
     refine Jb ?_
     refine Ja rfl rfl rfl (Jc (v := .slice p_7.1 l52.length p_7.2) rfl) ?_
     refine Ja rfl rfl rfl (Jc (v := .bool a0) rfl) ?_
     refine Ja rfl rfl rfl (Jl Try.runUnderlying103 rfl Try.sizeOf3 rfl rfl) ?_
     refine Jr (i := 1) (v := .int .i64 t45.Den) Try.isAgg3 rfl rfl rfl rfl rfl ?_
     obtain ⟨t57, h_t57, H64⟩ := Jh H63; clear H63
     refine Wl (Xv (rds := []) (G := fun x : (Option Addr × Nat) => .slice x.1 t57.length x.2) (C := fun x : (Option Addr × Nat) => Jw 5 1 (.slice x.1 t57.length x.2) t57.length (t57.map Xh)) (fun w L' hF hS hi => k83 (J3 w)  h_t57) Try.call83 rfl) rfl rfl rfl (fun p_8 => ?_)
     obtain ⟨l58, h_l58, H65⟩ := Jh H64; clear H64
     refine Qv (Xd (i := 0) (hn := rfl) (rds := [3]) (p := p_7) (sz := 1) (by_ := 1) (f := Xh) (ys := l52) (ls := t57) (V := .slice p_8.1 t57.length p_8.2) Try.underlying133 (Xn Try.typeInfo5) rfl rfl rfl rfl rfl rfl rfl rfl rfl rfl (fun w L' hF hS hi => V2 (i := 3) hS ((hi 3 (by simp)).trans rfl)) (fun _ => rfl) (fun _ => rfl) h_l58) rfl rfl rfl (fun p_9 => ?_)
     refine Ja rfl rfl rfl (Jd (v := .slice p_9.1 l58.length p_9.2) rfl) ?_
     refine Jg ?_
     try dsimp only [z1, z2, z5, z6, z7, z8]
     refine Jb ?_
     obtain ⟨t59, h_t59, H66⟩ := Jh H65; clear H65
     refine Ja rfl rfl rfl (Qd rfl rfl h_t59) ?_
     refine Ja rfl rfl rfl (Jc (v := .int .i64 t59) rfl) ?_
     refine Jg ?_
     refine Jo (t59, l58) p_9 m2 [0] (by exact ⟨rfl, rfl, rfl, rfl, rfl, trivial⟩) (by decide) (by kernel_rfl) (by exact ⟨(by subst hn2; exact H66), trivial⟩) (Nat.lt_succ_self _)
    ·have H67 := Jt hb H59; clear H59
     refine Xy ?_
     refine Jf ?_
     refine Jb ?_
     refine Ja rfl rfl rfl (Jc (v := .slice p_5.1 l_3.length p_5.2) rfl) ?_
     refine Ja rfl rfl rfl (Jd (v := .slice p_5.1 l_3.length p_5.2) rfl) ?_
     refine Jg ?_
     refine J0 ?_
     obtain rfl := Option.some.inj H67
     refine V5 0 rfl (row_ro _ _ _ _ _) ?_
     refine Q2 (v := .slice p_5.1 l_3.length p_5.2) rfl rfl (Wm p_5 (i := 0) rfl rfl (Imp.refl _))
theorem k90 {a0 : T_tag_writer} {pb0 : Nat} {p0_1 : Option Addr × Nat} {n0_1 : Nat} {r : Int × T_tag_writer} {w : World} {h : J6} {S : Nat → Prop} (hcs : (Jy (Jm pb0 [.bool a0.big_, .slice p0_1.1 n0_1 p0_1.2] 138) (Jw 5 1 (.slice p0_1.1 n0_1 p0_1.2) n0_1 (a0.out_.map Xh))).P S w) (hlt : ∀ b, S b → b < w.heap.size) (hw : Know h w S) (hn0_1 : n0_1 = a0.out_.length) (H : Ve a0 = some r) : Does Try.prog 90 (List.toArray [.pointer (some ⟨pb0, 0, none⟩)]) w (fun v w' => ∃ x : (Option Addr × Nat), v = (.int .i64 r.1) ∧ Turn w w' S (Jy (Jm pb0 [.bool r.2.big_, .slice x.1 r.2.out_.length x.2] 138) (Jw 5 1 (.slice x.1 r.2.out_.length x.2) r.2.out_.length (r.2.out_.map Xh)))) := by
 refine enter (n := 24) Try.func90 rfl rfl rfl S [Jy (Jm pb0 [.bool a0.big_, .slice p0_1.1 n0_1 p0_1.2] 138) (Jw 5 1 (.slice p0_1.1 n0_1 p0_1.2) n0_1 (a0.out_.map Xh))] (Sat.one hcs hlt) ?_
 refine X3 0 rfl ?_
 refine Jf ?_
 refine Jb ?_
 refine Ja rfl rfl rfl (Jd (v := .int .i64 0) rfl) ?_
 refine Jg ?_
 refine Xb (r := r) (σ := (List Int)) (τ := (Option Addr × Nat) × Nat) (fun s => Zc a0 s) (fun s t => [(0, .pointer (some ⟨pb0, 0, none⟩))]) (fun s t => [Jm pb0 [.bool a0.big_, .slice t.1.1 t.2 t.1.2] 138, Jw 5 1 (.slice t.1.1 t.2 t.1.2) t.2 (s.map Xh)]) (fun s t => t.2 = s.length) ?_ ?_
 ·refine Jf ?_
  refine Jb ?_
  refine Ja rfl rfl rfl (Jc (v := .pointer (some ⟨pb0, 0, none⟩)) rfl) ?_
  refine Ja rfl rfl rfl (Jp rfl) ?_
  refine Ja rfl rfl rfl (Jl Try.runUnderlying138 rfl Try.sizeOf133 rfl rfl) ?_
  refine Jr (i := 0) (v := .slice p0_1.1 n0_1 p0_1.2) Try.isAgg133 rfl rfl rfl rfl rfl ?_
  refine Ja rfl rfl rfl (r_lenN Try.underlying133 rfl hn0_1) ?_
  obtain ⟨t8, h_t8, H7⟩ := Jh H; clear H
  refine Ja rfl rfl rfl (r_remG rfl rfl h_t8) ?_
  refine Ja rfl rfl rfl (V3 rfl rfl) ?_
  refine Jg ?_
  refine Qf (b := (decide (t8 ≠ 0))) rfl (fun hb => ?_) (fun hb => ?_)
  ·have H8 := Js hb H7; clear H7
   refine Jb ?_
   refine Ja rfl rfl rfl (Jc (v := .pointer (some ⟨pb0, 0, none⟩)) rfl) ?_
   refine Ja rfl rfl rfl (Jc (v := .pointer (some ⟨pb0, 0, none⟩)) rfl) ?_
   refine Ja rfl rfl rfl (Jp rfl) ?_
   refine Ja rfl rfl rfl (Jl Try.runUnderlying138 rfl Try.sizeOf133 rfl rfl) ?_
   refine Jr (i := 0) (v := .slice p0_1.1 n0_1 p0_1.2) Try.isAgg133 rfl rfl rfl rfl rfl ?_
   refine Qr (vs := [.int .u8 0]) (cs := [.int .u8 0]) Try.underlying133 Try.sizeOf5 Try.zeroValue5 rfl rfl rfl rfl rfl rfl rfl (fun b1 => ?_)
   obtain ⟨l16, h_l16, H9⟩ := Jh H8; clear H8
   refine Qv (Xd (i := 1) (hn := hn0_1) (rds := [2]) (p := p0_1) (sz := 1) (by_ := 1) (f := Xh) (ys := a0.out_) (ls := ([0] : List Int)) (V := .slice (some ⟨b1, 0, none⟩) 1 1) Try.underlying133 (Xn Try.typeInfo5) rfl rfl rfl rfl rfl rfl rfl rfl rfl rfl (fun w L' hF hS hi => Vm (i := 2) hS ((hi 2 (by simp)).trans rfl) rfl rfl) (fun _ => rfl) (fun _ => rfl) h_l16) rfl rfl rfl (fun p_2 => ?_)
   refine Ja rfl rfl rfl (Jp rfl) ?_
   refine Ja rfl rfl rfl (Jl Try.runUnderlying138 rfl Try.sizeOf133 rfl rfl) ?_
   refine Qx (i := 0) (vs := [.slice p_2.1 l16.length p_2.2]) (cs' := [.bool a0.big_, .slice p_2.1 l16.length p_2.2]) Try.sizeOf133 rfl rfl rfl rfl rfl rfl rfl rfl rfl ?_
   refine Jg ?_
   refine Jo l16 (p_2, l16.length) 0 [0, 1] (by exact ⟨rfl, trivial⟩) (by decide) (by kernel_rfl) (by exact ⟨H9, rfl⟩) (Nat.lt_succ_self _)
  ·have H10 := Jt hb H7; clear H7
   refine Ju ?_
   refine Jo a0.out_ (p0_1, n0_1) 0 [0, 1] (by exact ⟨rfl, trivial⟩) (by decide) (by kernel_rfl) (by exact ⟨H10, hn0_1⟩) (Nat.lt_succ_self _)
 ·rintro l ⟨p, n⟩ gg H6 hl
  replace H6 : Zc a0 l = some r := H6
  try dsimp only
  refine Jf ?_
  refine Jb ?_
  refine Ja rfl rfl rfl (Jc (v := .pointer (some ⟨pb0, 0, none⟩)) rfl) ?_
  refine Ja rfl rfl rfl (Jp rfl) ?_
  refine Ja rfl rfl rfl (Jl Try.runUnderlying138 rfl Try.sizeOf133 rfl rfl) ?_
  refine Jr (i := 0) (v := .slice p.1 n p.2) Try.isAgg133 rfl rfl rfl rfl rfl ?_
  refine Ja rfl rfl rfl (r_lenN Try.underlying133 rfl hl) ?_
  refine Ja rfl rfl rfl (Jd (v := .int .i64 (l.length : Int)) rfl) ?_
  refine Jg ?_
  refine J0 ?_
  obtain rfl := Option.some.inj H6
  refine Jx 0 1 rfl rfl (by decide) ?_
  refine Q2 (v := .int .i64 (l.length : Int)) rfl rfl (Wm p (i := 0) rfl (by first | rfl | rw [(show n = l.length from hl)]) (by first | exact Imp.refl _ | exact Imp.of (by rw [(show n = l.length from hl)])))
theorem k116_it (mm : Nat) : ∀ {a0 : T_tag_writer} {pb0 : Nat} {p0_1 : Option Addr × Nat} {n0_1 : Nat} {a1 : (List T_tag_Entry)} {v1 : Value} {r : Int × Int × T_tag_writer} {w : World} {h : J6} {S : Nat → Prop} (hcs : (Jy (Jm pb0 [.bool a0.big_, .slice p0_1.1 n0_1 p0_1.2] 138) (Jw 5 1 (.slice p0_1.1 n0_1 p0_1.2) n0_1 (a0.out_.map Xh))).P S w) (hlt : ∀ b, S b → b < w.heap.size) (hw : Know h w S) (hn0_1 : n0_1 = a0.out_.length) (f1 : FrN h 6 v1 g_tag_Entry a1) (H : it (fun (self : (T_tag_writer × (List T_tag_Entry)) → Option (Int × Int × T_tag_writer)) (s : T_tag_writer × (List T_tag_Entry)) => Xp self s.1 s.2) mm (a0, a1) = some r), Does Try.prog 116 (List.toArray [.pointer (some ⟨pb0, 0, none⟩), v1]) w (fun v w' => ∃ x : (Option Addr × Nat), v = (.tuple #[.int .i64 r.1, .int .i64 r.2.1]) ∧ Turn w w' S (Jy (Jm pb0 [.bool r.2.2.big_, .slice x.1 r.2.2.out_.length x.2] 138) (Jw 5 1 (.slice x.1 r.2.2.out_.length x.2) r.2.2.out_.length (r.2.2.out_.map Xh)))) := by
 induction mm with
 | zero => intros; rename_i H; exact absurd H (by simp [it])
 | succ mm ih =>
  intro a0 pb0 p0_1 n0_1 a1 v1 r w h S hcs hlt hw hn0_1 f1 H
  replace H : Xp (it (fun (self : (T_tag_writer × (List T_tag_Entry)) → Option (Int × Int × T_tag_writer)) (s : T_tag_writer × (List T_tag_Entry)) => Xp self s.1 s.2) mm) a0 a1 = some r := H
  generalize it (fun (self : (T_tag_writer × (List T_tag_Entry)) → Option (Int × Int × T_tag_writer)) (s : T_tag_writer × (List T_tag_Entry)) => Xp self s.1 s.2) mm = self at H ih
  refine enter (n := 172) Try.func116 rfl rfl rfl S [Jy (Jm pb0 [.bool a0.big_, .slice p0_1.1 n0_1 p0_1.2] 138) (Jw 5 1 (.slice p0_1.1 n0_1 p0_1.2) n0_1 (a0.out_.map Xh))] (Sat.one hcs hlt) ?_
  refine X3 0 rfl ?_
  refine Jf ?_
  refine Jb ?_
  refine Ja rfl rfl rfl (Jd (v := .int .i64 0) rfl) ?_
  refine Ja rfl rfl rfl (Jd (v := .int .i64 0) rfl) ?_
  refine Jg ?_
  refine Jf ?_
  refine Jb ?_
  refine Ja rfl rfl rfl (Jc (v := .pointer (some ⟨pb0, 0, none⟩)) rfl) ?_
  obtain ⟨t15, h_t15, H41⟩ := Jh H; clear H
  refine Jx 0 1 rfl rfl (by decide) ?_
  refine Qv (Qc (i := 0) (rds := []) (G := fun x : (Option Addr × Nat) => .int .i64 t15.1) (C := fun x : (Option Addr × Nat) => Jy (Jm pb0 [.bool t15.2.big_, .slice x.1 t15.2.out_.length x.2] 138) (Jw 5 1 (.slice x.1 t15.2.out_.length x.2) t15.2.out_.length (t15.2.out_.map Xh))) rfl (fun w L' S hF hS hi hp hlt ho hA => k90 hp hlt (Q8 w S) hn0_1 h_t15) Try.call90 rfl) rfl rfl rfl (fun p => ?_)
  refine J2 0 1 rfl rfl (by decide) ?_
  refine Ja rfl rfl rfl (Jd (v := .int .i64 t15.1) rfl) ?_
  refine Jg ?_
  refine Jf ?_
  exact Xr (Kd.p :: Kd.p :: Kd.p :: Kd.p :: Kd.d [0] _ :: Kd.p :: Kd.p :: Kd.p :: Kd.d [0] _ :: Kd.p :: Kd.p :: Kd.t 2 [] _ _ :: Kd.t 1 [2] _ _ :: Kd.p :: Kd.p :: Kd.sv 30 28 0 _ 138 :: []) 1 mixed (by
   refine Jq rfl rfl (Jc (v := .pointer (some ⟨pb0, 0, none⟩)) rfl) ?_
   refine Jq rfl rfl (Jc (v := .pointer (some ⟨pb0, 0, none⟩)) rfl) ?_
   refine Jq rfl rfl (Jp rfl) ?_
   refine Jq rfl rfl (Jl Try.runUnderlying138 rfl Try.sizeOf133 rfl rfl) ?_
   refine Ya (i := 0) (v := .slice p.1 t15.2.out_.length p.2) Try.isAgg133 rfl rfl rfl rfl ?_
   refine Jq rfl rfl (Jc (v := .pointer (some ⟨pb0, 0, none⟩)) rfl) ?_
   refine Jq rfl rfl (Jp rfl) ?_
   refine Jq rfl rfl (Jl Try.runUnderlying138 rfl Try.sizeOf4 rfl rfl) ?_
   refine Ya (i := 0) (v := .bool t15.2.big_) Try.isAgg4 rfl rfl rfl rfl ?_
   refine Jq rfl rfl (Jc (v := v1) rfl) ?_
   refine Jq rfl rfl (V1 Try.underlying27 rfl f1) ?_
   have h_t27 := Qq H41
   have H42 := Qb H41
   refine d_make (Cv := fun v => Jw 5 1 v (val (Jj t15.2.big_ (a1.length : Int) 2)).length ((val (Jj t15.2.big_ (a1.length : Int) 2)).map Xh)) (none, 0) (Xv (G := fun x : (Option Addr × Nat) => .slice x.1 (val (Jj t15.2.big_ (a1.length : Int) 2)).length x.2) (C := fun x : (Option Addr × Nat) => Jw 5 1 (.slice x.1 (val (Jj t15.2.big_ (a1.length : Int) 2)).length x.2) (val (Jj t15.2.big_ (a1.length : Int) 2)).length ((val (Jj t15.2.big_ (a1.length : Int) 2)).map Xh)) (fun w L' hF hS hi => k83 (J3 w)  h_t27) Try.call83 rfl) (fun _ => rfl) rfl rfl rfl (fun p_2 => ?_)
   have h_l28 := Qq H42
   have H43 := Qb H42
   refine d_turn (Cv := fun v => Jw 5 1 v (val (Xu 1 t15.2.out_ (val (Jj t15.2.big_ (a1.length : Int) 2)))).length ((val (Xu 1 t15.2.out_ (val (Jj t15.2.big_ (a1.length : Int) 2)))).map Xh)) (none, 0) (Xd (i := 1) (hn := rfl) (rds := [2]) (p := p) (sz := 1) (by_ := 1) (f := Xh) (ys := t15.2.out_) (ls := (val (Jj t15.2.big_ (a1.length : Int) 2))) (V := .slice p_2.1 (val (Jj t15.2.big_ (a1.length : Int) 2)).length p_2.2) Try.underlying133 (Xn Try.typeInfo5) rfl rfl rfl rfl rfl rfl rfl rfl rfl rfl (fun w L' hF hS hi => V2 (i := 2) hS ((hi 2 (by simp)).trans rfl)) (fun _ => rfl) (fun _ => rfl) h_l28) (fun _ => rfl) rfl rfl (fun p_3 => ?_)
   refine Jq rfl rfl (Jp rfl) ?_
   refine Jq rfl rfl (Jl Try.runUnderlying138 rfl Try.sizeOf133 rfl rfl) ?_
   refine Uk (i := 0) (vs := [.slice p_3.1 (val (Xu 1 t15.2.out_ (val (Jj t15.2.big_ (a1.length : Int) 2)))).length p_3.2]) (cs' := fun v_ => [.bool t15.2.big_, v_]) Try.sizeOf133 rfl rfl rfl rfl rfl rfl rfl rfl rfl ?_
   refine Wf ?_
   refine Xb (r := r) (σ := (List Int)) (τ := (Option Addr × Nat)) (fun s => Y4 a1 self t15 s) (fun s t => [(0, .pointer (some ⟨pb0, 0, none⟩)), (1, v1), (4, .int .i64 t15.1)]) (fun s t => [Jm pb0 [.bool t15.2.big_, .slice t.1 s.length t.2] 138, Jw 5 1 (.slice t.1 s.length t.2) s.length (s.map Xh)]) (fun s t => True) ?_ ?_
   ·refine Jf ?_
    refine Jb ?_
    refine Ja rfl rfl rfl (Jc (v := v1) rfl) ?_
    refine Ja rfl rfl rfl (V1 Try.underlying27 rfl f1) ?_
    refine Ja rfl rfl rfl (Jc (v := .int .i64 0) rfl) ?_
    refine Jg ?_
    refine J1 ?_
    refine c_dr 2 ?_
    try dsimp only [z1, z2, z3, z4, z5, z6, z7, z8]
    refine Z5 (σ := Int × (List Int)) (τ := (Option Addr × Nat)) (fun next5 s => Q4 a1 self t15 next5 s.1 s.2) (fun s t => [(0, .pointer (some ⟨pb0, 0, none⟩)), (1, v1), (4, .int .i64 t15.1), (31, v1), (32, .int .i64 (a1.length : Int)), (33, .int .i64 s.1)]) (fun s t => [Jm pb0 [.bool t15.2.big_, .slice t.1 s.2.length t.2] 138, Jw 5 1 (.slice t.1 s.2.length t.2) s.2.length (s.2.map Xh)]) (fun s t => True) (0, (val (Xu 1 t15.2.out_ (val (Jj t15.2.big_ (a1.length : Int) 2))))) p_3 [0, 1] H43 (by exact trivial) (by exact ⟨rfl, rfl, rfl, rfl, rfl, rfl, trivial⟩) (by decide) rfl ?_
    rintro ⟨x33_2, l_7⟩ p_15 m5 gg H68 _
    clear H43
    replace H68 : Q4 a1 self t15 (it (fun next5 s => Q4 a1 self t15 next5 s.1 s.2) m5) x33_2 l_7 = some r := H68
    generalize hn5 : it (fun next5 s => Q4 a1 self t15 next5 s.1 s.2) m5 = next5 at H68
    try dsimp only
    refine Jf ?_
    refine Jb ?_
    refine Ja rfl rfl rfl (Zn rfl rfl) ?_
    refine Jg ?_
    refine Jf ?_
    refine Qf (b := (decide (x33_2 < (a1.length : Int)))) rfl (fun hb => ?_) (fun hb => ?_)
    ·have H69 := Js hb H68; clear H68
     refine Ju ?_
     refine Jf ?_
     refine J1 ?_
     refine Jf ?_
     refine Jb ?_
     obtain ⟨t35, h_t35, H70⟩ := Jh H69; clear H69
     refine Ja rfl rfl rfl (Zd Try.underlying27 Try.sizeOf96 rfl rfl f1.frs (f1.ix h_t35)) ?_
     refine Yg (fun w hF hS => Z2 (f := (elC h v1 6)) (i := x33_2) (sz := 6) (j := 0) (vs := [.int .i64 t35.Tag, .int .i64 t35.Value.Kind, str t35.Value.Text, (Xz h v1 6 (Int.toNat x33_2) 3), (Xz h v1 6 (Int.toNat x33_2) 4), (Xz h v1 6 (Int.toNat x33_2) 5)]) Try.isAgg96 Try.sizeOf96 rfl rfl (f1.frs.row (hw.now hF)) (f1.ix h_t35) (rd_of (V7 (f1.at h_t35)) rfl)) rfl rfl rfl ?_
     refine Zf (cs := [.int .i64 0, .int .i64 0, str [], .slice none 0 0, .slice none 0 0, .slice none 0 0]) Try.zeroValue96 rfl rfl rfl (fun b6 => ?_)
     refine Qx (i := 2) (vs := [.int .i64 t35.Tag, .int .i64 t35.Value.Kind, str t35.Value.Text, (Xz h v1 6 (Int.toNat x33_2) 3), (Xz h v1 6 (Int.toNat x33_2) 4), (Xz h v1 6 (Int.toNat x33_2) 5)]) (cs' := [.int .i64 t35.Tag, .int .i64 t35.Value.Kind, str t35.Value.Text, (Xz h v1 6 (Int.toNat x33_2) 3), (Xz h v1 6 (Int.toNat x33_2) 4), (Xz h v1 6 (Int.toNat x33_2) 5)]) Try.sizeOf96 rfl rfl rfl rfl rfl rfl (by simp only [List.all_cons, List.all_nil, (show FrN h 6 (Xz h v1 6 (Int.toNat x33_2) 5) g_tag_Entry t35.Value.Entries from (Xc (Jv (f1.at h_t35)))).one, (show FrS h 1 (Xz h v1 6 (Int.toNat x33_2) 3) (t35.Value.Ints.map Xx) from (X7 (Jv (f1.at h_t35)))).one, (show FrS h 2 (Xz h v1 6 (Int.toNat x33_2) 4) (t35.Value.Ratios.map J7) from (X4 (Jv (f1.at h_t35)))).one] <;> rfl) rfl rfl ?_
     refine Jg ?_
     refine Jf ?_
     exact Xr (Kd.p :: Kd.p :: Kd.p :: Kd.p :: Kd.d [0] _ :: Kd.p :: Kd.p :: Kd.p :: Kd.d [0] _ :: Kd.p :: Kd.d [2] _ :: Kd.t 3 [] _ _ :: Kd.t 1 [3] _ _ :: Kd.p :: Kd.p :: Kd.sv 51 49 0 _ 138 :: []) 1 mixed (by
      refine Jq rfl rfl (Jc (v := .pointer (some ⟨pb0, 0, none⟩)) rfl) ?_
      refine Jq rfl rfl (Jc (v := .pointer (some ⟨pb0, 0, none⟩)) rfl) ?_
      refine Jq rfl rfl (Jp rfl) ?_
      refine Jq rfl rfl (Jl Try.runUnderlying138 rfl Try.sizeOf133 rfl rfl) ?_
      refine Ya (i := 0) (v := .slice p_15.1 l_7.length p_15.2) Try.isAgg133 rfl rfl rfl rfl ?_
      refine Jq rfl rfl (Jc (v := .pointer (some ⟨pb0, 0, none⟩)) rfl) ?_
      refine Jq rfl rfl (Jp rfl) ?_
      refine Jq rfl rfl (Jl Try.runUnderlying138 rfl Try.sizeOf4 rfl rfl) ?_
      refine Ya (i := 0) (v := .bool t15.2.big_) Try.isAgg4 rfl rfl rfl rfl ?_
      refine Jq rfl rfl (Jl Try.runUnderlying96 rfl Try.sizeOf3 rfl rfl) ?_
      refine Ya (i := 2) (v := .int .i64 t35.Tag) Try.isAgg3 rfl rfl rfl rfl ?_
      have h_t48 := Qq H70
      have H71 := Qb H70
      refine d_make (Cv := fun v => Jw 5 1 v (val (Jj t15.2.big_ t35.Tag 2)).length ((val (Jj t15.2.big_ t35.Tag 2)).map Xh)) (none, 0) (Xv (G := fun x : (Option Addr × Nat) => .slice x.1 (val (Jj t15.2.big_ t35.Tag 2)).length x.2) (C := fun x : (Option Addr × Nat) => Jw 5 1 (.slice x.1 (val (Jj t15.2.big_ t35.Tag 2)).length x.2) (val (Jj t15.2.big_ t35.Tag 2)).length ((val (Jj t15.2.big_ t35.Tag 2)).map Xh)) (fun w L' hF hS hi => k83 (J3 w)  h_t48) Try.call83 rfl) (fun _ => rfl) rfl rfl rfl (fun p_16 => ?_)
      have h_l49 := Qq H71
      have H72 := Qb H71
      refine d_turn (Cv := fun v => Jw 5 1 v (val (Xu 1 l_7 (val (Jj t15.2.big_ t35.Tag 2)))).length ((val (Xu 1 l_7 (val (Jj t15.2.big_ t35.Tag 2)))).map Xh)) (none, 0) (Xd (i := 1) (hn := rfl) (rds := [3]) (p := p_15) (sz := 1) (by_ := 1) (f := Xh) (ys := l_7) (ls := (val (Jj t15.2.big_ t35.Tag 2))) (V := .slice p_16.1 (val (Jj t15.2.big_ t35.Tag 2)).length p_16.2) Try.underlying133 (Xn Try.typeInfo5) rfl rfl rfl rfl rfl rfl rfl rfl rfl rfl (fun w L' hF hS hi => V2 (i := 3) hS ((hi 3 (by simp)).trans rfl)) (fun _ => rfl) (fun _ => rfl) h_l49) (fun _ => rfl) rfl rfl (fun p_17 => ?_)
      refine Jq rfl rfl (Jp rfl) ?_
      refine Jq rfl rfl (Jl Try.runUnderlying138 rfl Try.sizeOf133 rfl rfl) ?_
      refine Uk (i := 0) (vs := [.slice p_17.1 (val (Xu 1 l_7 (val (Jj t15.2.big_ t35.Tag 2)))).length p_17.2]) (cs' := fun v_ => [.bool t15.2.big_, v_]) Try.sizeOf133 rfl rfl rfl rfl rfl rfl rfl rfl rfl ?_
      refine Wf ?_
      refine Jf ?_
      exact Xr (Kd.p :: Kd.p :: Kd.p :: Kd.p :: Kd.d [0] _ :: Kd.p :: Kd.p :: Kd.p :: Kd.d [0] _ :: Kd.p :: Kd.p :: Kd.d [2] _ :: Kd.t 4 [] _ _ :: Kd.t 1 [4] _ _ :: Kd.p :: Kd.p :: Kd.sv 67 65 0 _ 138 :: []) 1 mixed (by
       refine Jq rfl rfl (Jc (v := .pointer (some ⟨pb0, 0, none⟩)) rfl) ?_
       refine Jq rfl rfl (Jc (v := .pointer (some ⟨pb0, 0, none⟩)) rfl) ?_
       refine Jq rfl rfl (Jp rfl) ?_
       refine Jq rfl rfl (Jl Try.runUnderlying138 rfl Try.sizeOf133 rfl rfl) ?_
       refine Ya (i := 0) (v := .slice p_17.1 (val (Xu 1 l_7 (val (Jj t15.2.big_ t35.Tag 2)))).length p_17.2) Try.isAgg133 rfl rfl rfl rfl ?_
       refine Jq rfl rfl (Jc (v := .pointer (some ⟨pb0, 0, none⟩)) rfl) ?_
       refine Jq rfl rfl (Jp rfl) ?_
       refine Jq rfl rfl (Jl Try.runUnderlying138 rfl Try.sizeOf4 rfl rfl) ?_
       refine Ya (i := 0) (v := .bool t15.2.big_) Try.isAgg4 rfl rfl rfl rfl ?_
       refine Jq rfl rfl (Jl Try.runUnderlying96 rfl Try.sizeOf29 rfl rfl) ?_
       refine Jq rfl rfl (Jl Try.runUnderlying29 rfl Try.sizeOf3 rfl rfl) ?_
       refine Ya (i := 2) (v := .int .i64 t35.Value.Kind) Try.isAgg3 rfl rfl rfl rfl ?_
       have h_t64 := Qq H72
       have H73 := Qb H72
       refine d_make (Cv := fun v => Jw 5 1 v (val (Jj t15.2.big_ t35.Value.Kind 2)).length ((val (Jj t15.2.big_ t35.Value.Kind 2)).map Xh)) (none, 0) (Xv (G := fun x : (Option Addr × Nat) => .slice x.1 (val (Jj t15.2.big_ t35.Value.Kind 2)).length x.2) (C := fun x : (Option Addr × Nat) => Jw 5 1 (.slice x.1 (val (Jj t15.2.big_ t35.Value.Kind 2)).length x.2) (val (Jj t15.2.big_ t35.Value.Kind 2)).length ((val (Jj t15.2.big_ t35.Value.Kind 2)).map Xh)) (fun w L' hF hS hi => k83 (J3 w)  h_t64) Try.call83 rfl) (fun _ => rfl) rfl rfl rfl (fun p_18 => ?_)
       have h_l65 := Qq H73
       have H74 := Qb H73
       refine d_turn (Cv := fun v => Jw 5 1 v (val (Xu 1 (val (Xu 1 l_7 (val (Jj t15.2.big_ t35.Tag 2)))) (val (Jj t15.2.big_ t35.Value.Kind 2)))).length ((val (Xu 1 (val (Xu 1 l_7 (val (Jj t15.2.big_ t35.Tag 2)))) (val (Jj t15.2.big_ t35.Value.Kind 2)))).map Xh)) (none, 0) (Xd (i := 1) (hn := rfl) (rds := [4]) (p := p_17) (sz := 1) (by_ := 1) (f := Xh) (ys := (val (Xu 1 l_7 (val (Jj t15.2.big_ t35.Tag 2))))) (ls := (val (Jj t15.2.big_ t35.Value.Kind 2))) (V := .slice p_18.1 (val (Jj t15.2.big_ t35.Value.Kind 2)).length p_18.2) Try.underlying133 (Xn Try.typeInfo5) rfl rfl rfl rfl rfl rfl rfl rfl rfl rfl (fun w L' hF hS hi => V2 (i := 4) hS ((hi 4 (by simp)).trans rfl)) (fun _ => rfl) (fun _ => rfl) h_l65) (fun _ => rfl) rfl rfl (fun p_19 => ?_)
       refine Jq rfl rfl (Jp rfl) ?_
       refine Jq rfl rfl (Jl Try.runUnderlying138 rfl Try.sizeOf133 rfl rfl) ?_
       refine Uk (i := 0) (vs := [.slice p_19.1 (val (Xu 1 (val (Xu 1 l_7 (val (Jj t15.2.big_ t35.Tag 2)))) (val (Jj t15.2.big_ t35.Value.Kind 2)))).length p_19.2]) (cs' := fun v_ => [.bool t15.2.big_, v_]) Try.sizeOf133 rfl rfl rfl rfl rfl rfl rfl rfl rfl ?_
       refine Wf ?_
       refine Jf ?_
       exact Xr (Kd.p :: Kd.p :: Kd.p :: Kd.p :: Kd.d [0] _ :: Kd.p :: Kd.p :: Kd.p :: Kd.d [0] _ :: Kd.p :: Kd.d [2] _ :: Kd.d [] _ :: Kd.t 5 [] _ _ :: Kd.t 1 [5] _ _ :: Kd.p :: Kd.p :: Kd.sv 83 81 0 _ 138 :: []) 1 mixed (by
        refine Jq rfl rfl (Jc (v := .pointer (some ⟨pb0, 0, none⟩)) rfl) ?_
        refine Jq rfl rfl (Jc (v := .pointer (some ⟨pb0, 0, none⟩)) rfl) ?_
        refine Jq rfl rfl (Jp rfl) ?_
        refine Jq rfl rfl (Jl Try.runUnderlying138 rfl Try.sizeOf133 rfl rfl) ?_
        refine Ya (i := 0) (v := .slice p_19.1 (val (Xu 1 (val (Xu 1 l_7 (val (Jj t15.2.big_ t35.Tag 2)))) (val (Jj t15.2.big_ t35.Value.Kind 2)))).length p_19.2) Try.isAgg133 rfl rfl rfl rfl ?_
        refine Jq rfl rfl (Jc (v := .pointer (some ⟨pb0, 0, none⟩)) rfl) ?_
        refine Jq rfl rfl (Jp rfl) ?_
        refine Jq rfl rfl (Jl Try.runUnderlying138 rfl Try.sizeOf4 rfl rfl) ?_
        refine Ya (i := 0) (v := .bool t15.2.big_) Try.isAgg4 rfl rfl rfl rfl ?_
        refine Jq rfl rfl (Jl Try.runUnderlying96 rfl Try.sizeOf29 rfl rfl) ?_
        refine d_loadN (i := 2) (vs := [.int .i64 t35.Value.Kind, str t35.Value.Text, (Xz h v1 6 (Int.toNat x33_2) 3), (Xz h v1 6 (Int.toNat x33_2) 4), (Xz h v1 6 (Int.toNat x33_2) 5)]) Try.isAgg29 Try.sizeOf29 rfl rfl rfl rfl ?_
        have h_t79 := Qq H74
        have H75 := Qb H74
        refine d_callD (fun w L' hF hS hi => k87 (J3 w) ((show FrS h 1 (Xz h v1 6 (Int.toNat x33_2) 3) (t35.Value.Ints.map Xx) from (X7 (Jv (f1.at h_t35)))).mono (hw.now hF)) ((show FrS h 2 (Xz h v1 6 (Int.toNat x33_2) 4) (t35.Value.Ratios.map J7) from (X4 (Jv (f1.at h_t35)))).mono (hw.now hF)) ((show FrN h 6 (Xz h v1 6 (Int.toNat x33_2) 5) g_tag_Entry t35.Value.Entries from (Xc (Jv (f1.at h_t35)))).mono (hw.now hF)) h_t79) Try.call87 rfl rfl ?_
        have h_t80 := Qq H75
        have H76 := Qb H75
        refine d_make (Cv := fun v => Jw 5 1 v (val (Jj t15.2.big_ (val (Xs t35.Value)) 4)).length ((val (Jj t15.2.big_ (val (Xs t35.Value)) 4)).map Xh)) (none, 0) (Xv (G := fun x : (Option Addr × Nat) => .slice x.1 (val (Jj t15.2.big_ (val (Xs t35.Value)) 4)).length x.2) (C := fun x : (Option Addr × Nat) => Jw 5 1 (.slice x.1 (val (Jj t15.2.big_ (val (Xs t35.Value)) 4)).length x.2) (val (Jj t15.2.big_ (val (Xs t35.Value)) 4)).length ((val (Jj t15.2.big_ (val (Xs t35.Value)) 4)).map Xh)) (fun w L' hF hS hi => k83 (J3 w)  h_t80) Try.call83 rfl) (fun _ => rfl) rfl rfl rfl (fun p_20 => ?_)
        have h_l81 := Qq H76
        have H77 := Qb H76
        refine d_turn (Cv := fun v => Jw 5 1 v (val (Xu 1 (val (Xu 1 (val (Xu 1 l_7 (val (Jj t15.2.big_ t35.Tag 2)))) (val (Jj t15.2.big_ t35.Value.Kind 2)))) (val (Jj t15.2.big_ (val (Xs t35.Value)) 4)))).length ((val (Xu 1 (val (Xu 1 (val (Xu 1 l_7 (val (Jj t15.2.big_ t35.Tag 2)))) (val (Jj t15.2.big_ t35.Value.Kind 2)))) (val (Jj t15.2.big_ (val (Xs t35.Value)) 4)))).map Xh)) (none, 0) (Xd (i := 1) (hn := rfl) (rds := [5]) (p := p_19) (sz := 1) (by_ := 1) (f := Xh) (ys := (val (Xu 1 (val (Xu 1 l_7 (val (Jj t15.2.big_ t35.Tag 2)))) (val (Jj t15.2.big_ t35.Value.Kind 2))))) (ls := (val (Jj t15.2.big_ (val (Xs t35.Value)) 4))) (V := .slice p_20.1 (val (Jj t15.2.big_ (val (Xs t35.Value)) 4)).length p_20.2) Try.underlying133 (Xn Try.typeInfo5) rfl rfl rfl rfl rfl rfl rfl rfl rfl rfl (fun w L' hF hS hi => V2 (i := 5) hS ((hi 5 (by simp)).trans rfl)) (fun _ => rfl) (fun _ => rfl) h_l81) (fun _ => rfl) rfl rfl (fun p_21 => ?_)
        refine Jq rfl rfl (Jp rfl) ?_
        refine Jq rfl rfl (Jl Try.runUnderlying138 rfl Try.sizeOf133 rfl rfl) ?_
        refine Uk (i := 0) (vs := [.slice p_21.1 (val (Xu 1 (val (Xu 1 (val (Xu 1 l_7 (val (Jj t15.2.big_ t35.Tag 2)))) (val (Jj t15.2.big_ t35.Value.Kind 2)))) (val (Jj t15.2.big_ (val (Xs t35.Value)) 4)))).length p_21.2]) (cs' := fun v_ => [.bool t15.2.big_, v_]) Try.sizeOf133 rfl rfl rfl rfl rfl rfl rfl rfl rfl ?_
        refine Wf ?_
        refine Jb ?_
        refine Ja rfl rfl rfl (Jc (v := .pointer (some ⟨pb0, 0, none⟩)) rfl) ?_
        refine Ja rfl rfl rfl (Jc (v := .pointer (some ⟨pb0, 0, none⟩)) rfl) ?_
        refine Ja rfl rfl rfl (Jp rfl) ?_
        refine Ja rfl rfl rfl (Jl Try.runUnderlying138 rfl Try.sizeOf133 rfl rfl) ?_
        refine Jr (i := 0) (v := .slice p_21.1 (val (Xu 1 (val (Xu 1 (val (Xu 1 l_7 (val (Jj t15.2.big_ t35.Tag 2)))) (val (Jj t15.2.big_ t35.Value.Kind 2)))) (val (Jj t15.2.big_ (val (Xs t35.Value)) 4)))).length p_21.2) Try.isAgg133 rfl rfl rfl rfl rfl ?_
        refine Qr (vs := [.int .u8 0, .int .u8 0, .int .u8 0, .int .u8 0]) (cs := [.int .u8 0, .int .u8 0, .int .u8 0, .int .u8 0]) Try.underlying133 Try.sizeOf5 Try.zeroValue5 rfl rfl rfl rfl rfl rfl rfl (fun b7 => ?_)
        obtain ⟨l90, h_l90, H78⟩ := Jh H77; clear H77
        refine Qv (Xd (i := 1) (hn := rfl) (rds := [6]) (p := p_21) (sz := 1) (by_ := 1) (f := Xh) (ys := (val (Xu 1 (val (Xu 1 (val (Xu 1 l_7 (val (Jj t15.2.big_ t35.Tag 2)))) (val (Jj t15.2.big_ t35.Value.Kind 2)))) (val (Jj t15.2.big_ (val (Xs t35.Value)) 4))))) (ls := ([0, 0, 0, 0] : List Int)) (V := .slice (some ⟨b7, 0, none⟩) 4 4) Try.underlying133 (Xn Try.typeInfo5) rfl rfl rfl rfl rfl rfl rfl rfl rfl rfl (fun w L' hF hS hi => Vm (i := 6) hS ((hi 6 (by simp)).trans rfl) rfl rfl) (fun _ => rfl) (fun _ => rfl) h_l90) rfl rfl rfl (fun p_22 => ?_)
        refine Ja rfl rfl rfl (Jp rfl) ?_
        refine Ja rfl rfl rfl (Jl Try.runUnderlying138 rfl Try.sizeOf133 rfl rfl) ?_
        refine Qx (i := 0) (vs := [.slice p_22.1 l90.length p_22.2]) (cs' := [.bool t15.2.big_, .slice p_22.1 l90.length p_22.2]) Try.sizeOf133 rfl rfl rfl rfl rfl rfl rfl rfl rfl ?_
        refine Jg ?_
        refine Jb ?_
        obtain ⟨t93, h_t93, H79⟩ := Jh H78; clear H78
        refine Ja rfl rfl rfl (Qd rfl rfl h_t93) ?_
        refine Ja rfl rfl rfl (Jc (v := .int .i64 t93) rfl) ?_
        refine Jg ?_
        refine Jo (t93, l90) p_22 m5 [0, 1] (by exact ⟨rfl, rfl, rfl, rfl, rfl, rfl, trivial⟩) (by decide) (by kernel_rfl) (by exact ⟨(by subst hn5; exact H79), trivial⟩) (Nat.lt_succ_self _)
        ) (by kernel_rfl)
       ) (by kernel_rfl)
      ) (by kernel_rfl)
    ·have H80 := Jt hb H68; clear H68
     refine Xy ?_
     refine Jo l_7 p_15 0 [0, 1] (by exact ⟨rfl, rfl, rfl, trivial⟩) (by decide) (by kernel_rfl) (by exact ⟨H80, trivial⟩) (Nat.lt_succ_self _)
   ·rintro l p_4 gg H44 _
    replace H44 : Y4 a1 self t15 l = some r := H44
    try dsimp only
    refine Jf ?_
    refine Jb ?_
    refine Ja rfl rfl rfl (Jc (v := .pointer (some ⟨pb0, 0, none⟩)) rfl) ?_
    refine Ja rfl rfl rfl (Jp rfl) ?_
    refine Ja rfl rfl rfl (Jl Try.runUnderlying138 rfl Try.sizeOf133 rfl rfl) ?_
    refine Jr (i := 0) (v := .slice p_4.1 l.length p_4.2) Try.isAgg133 rfl rfl rfl rfl rfl ?_
    refine Ja rfl rfl rfl (r_len Try.underlying133 rfl) ?_
    refine Ja rfl rfl rfl (Jd (v := .int .i64 (l.length : Int)) rfl) ?_
    refine Jg ?_
    refine Jf ?_
    refine Jb ?_
    refine Ja rfl rfl rfl (Jc (v := .pointer (some ⟨pb0, 0, none⟩)) rfl) ?_
    refine Ja rfl rfl rfl (Jc (v := .pointer (some ⟨pb0, 0, none⟩)) rfl) ?_
    refine Ja rfl rfl rfl (Jp rfl) ?_
    refine Ja rfl rfl rfl (Jl Try.runUnderlying138 rfl Try.sizeOf133 rfl rfl) ?_
    refine Jr (i := 0) (v := .slice p_4.1 l.length p_4.2) Try.isAgg133 rfl rfl rfl rfl rfl ?_
    refine Qr (vs := [.int .u8 0, .int .u8 0, .int .u8 0, .int .u8 0]) (cs := [.int .u8 0, .int .u8 0, .int .u8 0, .int .u8 0]) Try.underlying133 Try.sizeOf5 Try.zeroValue5 rfl rfl rfl rfl rfl rfl rfl (fun b4 => ?_)
    obtain ⟨l105, h_l105, H45⟩ := Jh H44; clear H44
    refine Qv (Xd (i := 1) (hn := rfl) (rds := [2]) (p := p_4) (sz := 1) (by_ := 1) (f := Xh) (ys := l) (ls := ([0, 0, 0, 0] : List Int)) (V := .slice (some ⟨b4, 0, none⟩) 4 4) Try.underlying133 (Xn Try.typeInfo5) rfl rfl rfl rfl rfl rfl rfl rfl rfl rfl (fun w L' hF hS hi => Vm (i := 2) hS ((hi 2 (by simp)).trans rfl) rfl rfl) (fun _ => rfl) (fun _ => rfl) h_l105) rfl rfl rfl (fun p_5 => ?_)
    refine Ja rfl rfl rfl (Jp rfl) ?_
    refine Ja rfl rfl rfl (Jl Try.runUnderlying138 rfl Try.sizeOf133 rfl rfl) ?_
    refine Qx (i := 0) (vs := [.slice p_5.1 l105.length p_5.2]) (cs' := [.bool t15.2.big_, .slice p_5.1 l105.length p_5.2]) Try.sizeOf133 rfl rfl rfl rfl rfl rfl rfl rfl rfl ?_
    refine Jg ?_
    refine Xb (r := r) (σ := Bool × (List Int)) (τ := (Option Addr × Nat) × Nat) (fun s => Vy t15 l s.1 s.2) (fun s t => [(4, .int .i64 t15.1), (5, .int .i64 (l.length : Int))]) (fun s t => [Jm pb0 [.bool s.1, .slice t.1.1 t.2 t.1.2] 138, Jw 5 1 (.slice t.1.1 t.2 t.1.2) t.2 (s.2.map Xh)]) (fun s t => t.2 = s.2.length) ?_ ?_
    ·refine Jf ?_
     refine Jb ?_
     refine Ja rfl rfl rfl (Jc (v := v1) rfl) ?_
     refine Ja rfl rfl rfl (V1 Try.underlying27 rfl f1) ?_
     refine Ja rfl rfl rfl (Jc (v := .int .i64 0) rfl) ?_
     refine Jg ?_
     refine J1 ?_
     refine c_dr 2 ?_
     try dsimp only [z1, z2, z3, z4, z5, z6, z7, z8]
     refine Z5 (σ := Int × Bool × (List Int)) (τ := (Option Addr × Nat) × Nat) (fun next3 s => Xe a1 self t15 l next3 s.1 s.2.1 s.2.2) (fun s t => [(0, .pointer (some ⟨pb0, 0, none⟩)), (4, .int .i64 t15.1), (5, .int .i64 (l.length : Int)), (108, v1), (109, .int .i64 (a1.length : Int)), (110, .int .i64 s.1)]) (fun s t => [Jm pb0 [.bool s.2.1, .slice t.1.1 t.2 t.1.2] 138, Jw 5 1 (.slice t.1.1 t.2 t.1.2) t.2 (s.2.2.map Xh)]) (fun s t => t.2 = s.2.2.length) (0, t15.2.big_, l105) (p_5, l105.length) [0, 1] H45 (by exact rfl) (by exact ⟨rfl, rfl, rfl, rfl, rfl, rfl, trivial⟩) (by decide) rfl ?_
     rintro ⟨x110_2, m_3, l_4⟩ ⟨p_7, n_2⟩ m3 gg H47 hl_3
     clear H45
     replace H47 : Xe a1 self t15 l (it (fun next3 s => Xe a1 self t15 l next3 s.1 s.2.1 s.2.2) m3) x110_2 m_3 l_4 = some r := H47
     generalize hn3 : it (fun next3 s => Xe a1 self t15 l next3 s.1 s.2.1 s.2.2) m3 = next3 at H47
     try dsimp only
     refine Jf ?_
     refine Jb ?_
     refine Ja rfl rfl rfl (Zn rfl rfl) ?_
     refine Jg ?_
     refine Jf ?_
     refine Qf (b := (decide (x110_2 < (a1.length : Int)))) rfl (fun hb => ?_) (fun hb => ?_)
     ·have H48 := Js hb H47; clear H47
      refine Ju ?_
      refine Xb (r := r) (σ := Bool × (List Int)) (τ := (Option Addr × Nat) × Nat) (fun s => Ym x110_2 next3 s.1 s.2) (fun s t => [(0, .pointer (some ⟨pb0, 0, none⟩)), (4, .int .i64 t15.1), (5, .int .i64 (l.length : Int)), (108, v1), (109, .int .i64 (a1.length : Int)), (110, .int .i64 x110_2)]) (fun s t => [Jm pb0 [.bool s.1, .slice t.1.1 t.2 t.1.2] 138, Jw 5 1 (.slice t.1.1 t.2 t.1.2) t.2 (s.2.map Xh)]) (fun s t => t.2 = s.2.length) ?_ ?_
      ·refine J1 ?_
       refine Jf ?_
       refine Jb ?_
       refine Ja rfl rfl rfl (Jc (v := .int .i64 x110_2) rfl) ?_
       obtain ⟨t113, h_t113, H51⟩ := Jh H48; clear H48
       refine Ja rfl rfl rfl (Zd Try.underlying27 Try.sizeOf96 rfl rfl f1.frs (f1.ix h_t113)) ?_
       refine Yg (fun w hF hS => Z2 (f := (elC h v1 6)) (i := x110_2) (sz := 6) (j := 0) (vs := [.int .i64 t113.Tag, .int .i64 t113.Value.Kind, str t113.Value.Text, (Xz h v1 6 (Int.toNat x110_2) 3), (Xz h v1 6 (Int.toNat x110_2) 4), (Xz h v1 6 (Int.toNat x110_2) 5)]) Try.isAgg96 Try.sizeOf96 rfl rfl (f1.frs.row (hw.now hF)) (f1.ix h_t113) (rd_of (V7 (f1.at h_t113)) rfl)) rfl rfl rfl ?_
       refine Zf (cs := [.int .i64 0, .int .i64 0, str [], .slice none 0 0, .slice none 0 0, .slice none 0 0]) Try.zeroValue96 rfl rfl rfl (fun b5 => ?_)
       refine Ja rfl rfl rfl (Jd (v := .int .i64 x110_2) rfl) ?_
       refine Qx (i := 2) (vs := [.int .i64 t113.Tag, .int .i64 t113.Value.Kind, str t113.Value.Text, (Xz h v1 6 (Int.toNat x110_2) 3), (Xz h v1 6 (Int.toNat x110_2) 4), (Xz h v1 6 (Int.toNat x110_2) 5)]) (cs' := [.int .i64 t113.Tag, .int .i64 t113.Value.Kind, str t113.Value.Text, (Xz h v1 6 (Int.toNat x110_2) 3), (Xz h v1 6 (Int.toNat x110_2) 4), (Xz h v1 6 (Int.toNat x110_2) 5)]) Try.sizeOf96 rfl rfl rfl rfl rfl rfl (by simp only [List.all_cons, List.all_nil, (show FrN h 6 (Xz h v1 6 (Int.toNat x110_2) 5) g_tag_Entry t113.Value.Entries from (Xc (Jv (f1.at h_t113)))).one, (show FrS h 1 (Xz h v1 6 (Int.toNat x110_2) 3) (t113.Value.Ints.map Xx) from (X7 (Jv (f1.at h_t113)))).one, (show FrS h 2 (Xz h v1 6 (Int.toNat x110_2) 4) (t113.Value.Ratios.map J7) from (X4 (Jv (f1.at h_t113)))).one] <;> rfl) rfl rfl ?_
       refine Jg ?_
       refine Jf ?_
       refine Jb ?_
       refine Ja rfl rfl rfl (Jc (v := .int .i64 t15.1) rfl) ?_
       obtain ⟨t116, h_t116, H52⟩ := Jh H51; clear H51
       refine Ja rfl rfl rfl (Qd rfl rfl h_t116) ?_
       refine Ja rfl rfl rfl (Jc (v := .int .i64 x110_2) rfl) ?_
       obtain ⟨t118, h_t118, H53⟩ := Jh H52; clear H52
       refine Ja rfl rfl rfl (Ud rfl rfl h_t118) ?_
       obtain ⟨t119, h_t119, H54⟩ := Jh H53; clear H53
       refine Ja rfl rfl rfl (Qd rfl rfl h_t119) ?_
       obtain ⟨t120, h_t120, H55⟩ := Jh H54; clear H54
       refine Ja rfl rfl rfl (Qd rfl rfl h_t120) ?_
       refine Ja rfl rfl rfl (Jd (v := .int .i64 t120) rfl) ?_
       refine Jg ?_
       refine Jf ?_
       refine Jf ?_
       refine Jb ?_
       refine Ja rfl rfl rfl (Jl Try.runUnderlying96 rfl Try.sizeOf29 rfl rfl) ?_
       refine Ja rfl rfl rfl (Jl Try.runUnderlying29 rfl Try.sizeOf3 rfl rfl) ?_
       refine Jr (i := 2) (v := .int .i64 t113.Value.Kind) Try.isAgg3 rfl rfl rfl rfl rfl ?_
       refine Ja rfl rfl rfl (Xq rfl rfl) ?_
       refine Jg ?_
       refine Qf (b := (decide (t113.Value.Kind = 13))) rfl (fun hb => ?_) (fun hb => ?_)
       ·have H56 := Js hb H55; clear H55
        refine Jf ?_
        refine Jb ?_
        refine Ja rfl rfl rfl (Jc (v := .pointer (some ⟨pb0, 0, none⟩)) rfl) ?_
        refine Ja rfl rfl rfl (Jl Try.runUnderlying96 rfl Try.sizeOf29 rfl rfl) ?_
        refine Ja rfl rfl rfl (Jl Try.runUnderlying29 rfl Try.sizeOf27 rfl rfl) ?_
        refine Jr (i := 2) (v := (Xz h v1 6 (Int.toNat x110_2) 5)) Try.isAgg27 rfl rfl rfl rfl rfl ?_
        obtain ⟨t130, h_t130, H57⟩ := Jh H56; clear H56
        refine Jx 0 1 rfl rfl (by decide) ?_
        refine Qv (Qc (i := 0) (rds := []) (G := fun x : (Option Addr × Nat) => .tuple #[.int .i64 t130.1, .int .i64 t130.2.1]) (C := fun x : (Option Addr × Nat) => Jy (Jm pb0 [.bool t130.2.2.big_, .slice x.1 t130.2.2.out_.length x.2] 138) (Jw 5 1 (.slice x.1 t130.2.2.out_.length x.2) t130.2.2.out_.length (t130.2.2.out_.map Xh))) rfl (fun w L' S hF hS hi hp hlt ho hA => ih hp hlt (Q8 w S) hl_3 ((show FrN h 6 (Xz h v1 6 (Int.toNat x110_2) 5) g_tag_Entry t113.Value.Entries from (Xc (Jv (f1.at h_t113)))).mono (hw.but hF ho)) h_t130) Try.call116 rfl) rfl rfl rfl (fun p_9 => ?_)
        refine J2 0 1 rfl rfl (by decide) ?_
        refine Ja rfl rfl rfl (Jc (v := .tuple #[.int .i64 t130.1, .int .i64 t130.2.1]) rfl) ?_
        refine Ja rfl rfl rfl (Xa (v := .int .i64 t130.1) rfl rfl) ?_
        refine Ja rfl rfl rfl (Xa (v := .int .i64 t130.2.1) rfl rfl) ?_
        refine Ja rfl rfl rfl (Jd (v := .int .i64 t130.1) rfl) ?_
        refine Ja rfl rfl rfl (Jd (v := .int .i64 t130.2.1) rfl) ?_
        refine Jg ?_
        refine Jf ?_
        refine Jb ?_
        refine Ja rfl rfl rfl (Jc (v := .pointer (some ⟨pb0, 0, none⟩)) rfl) ?_
        refine Ja rfl rfl rfl (Jc (v := .int .i64 t120) rfl) ?_
        refine Ja rfl rfl rfl (Jc (v := .int .i64 t130.1) rfl) ?_
        obtain ⟨t136, h_t136, H58⟩ := Jh H57; clear H57
        refine Jx 0 1 rfl rfl (by decide) ?_
        refine Qv (Qc (i := 0) (rds := []) (G := fun x : (Option Addr × Nat) => .tuple #[]) (C := fun x : (Option Addr × Nat) => Jy (Jm pb0 [.bool t136.big_, .slice x.1 t136.out_.length x.2] 138) (Jw 5 1 (.slice x.1 t136.out_.length x.2) t136.out_.length (t136.out_.map Xh))) rfl (fun w L' S hF hS hi hp hlt ho hA => k86 hp hlt (Q8 w S) rfl h_t136) Try.call86 rfl) rfl rfl rfl (fun p_10 => ?_)
        refine J2 0 1 rfl rfl (by decide) ?_
        refine Jg ?_
        refine Xy ?_
        refine Jo (t136.big_, t136.out_) (p_10, t136.out_.length) 0 [0, 1] (by exact ⟨rfl, rfl, rfl, rfl, rfl, rfl, trivial⟩) (by decide) (by kernel_rfl) (by exact ⟨H58, rfl⟩) (Nat.lt_succ_self _)
       ·have H59 := Jt hb H55; clear H55
        refine Ju ?_
        refine Jf ?_
        try dsimp only [z1, z2, z5, z6, z7, z8]
        exact Xr (Kd.p :: Kd.p :: Kd.p :: Kd.d [0] _ :: Kd.p :: Kd.d [2] _ :: Kd.t 3 [] _ _ :: Kd.p :: []) 1 mixed (by
         refine Jq rfl rfl (Jc (v := .pointer (some ⟨pb0, 0, none⟩)) rfl) ?_
         refine Jq rfl rfl (Jp rfl) ?_
         refine Jq rfl rfl (Jl Try.runUnderlying138 rfl Try.sizeOf4 rfl rfl) ?_
         refine Ya (i := 0) (v := .bool m_3) Try.isAgg4 rfl rfl rfl rfl ?_
         refine Jq rfl rfl (Jl Try.runUnderlying96 rfl Try.sizeOf29 rfl rfl) ?_
         refine d_loadN (i := 2) (vs := [.int .i64 t113.Value.Kind, str t113.Value.Text, (Xz h v1 6 (Int.toNat x110_2) 3), (Xz h v1 6 (Int.toNat x110_2) 4), (Xz h v1 6 (Int.toNat x110_2) 5)]) Try.isAgg29 Try.sizeOf29 rfl rfl rfl rfl ?_
         have h_t143 := Qq H59
         have H60 := Qb H59
         refine d_make (Cv := fun v => roV 1 v (val (Xj m_3 t113.Value)).length ((val (Xj m_3 t113.Value)).map Xh)) (none, 0) (Xv (G := fun x : (Option Addr × Nat) => .slice x.1 (val (Xj m_3 t113.Value)).length x.2) (C := fun x : (Option Addr × Nat) => roV 1 (.slice x.1 (val (Xj m_3 t113.Value)).length x.2) (val (Xj m_3 t113.Value)).length ((val (Xj m_3 t113.Value)).map Xh)) (fun w L' hF hS hi => k85 (J3 w) ((show FrS h 1 (Xz h v1 6 (Int.toNat x110_2) 3) (t113.Value.Ints.map Xx) from (X7 (Jv (f1.at h_t113)))).mono (hw.now hF)) ((show FrS h 2 (Xz h v1 6 (Int.toNat x110_2) 4) (t113.Value.Ratios.map J7) from (X4 (Jv (f1.at h_t113)))).mono (hw.now hF)) ((show FrN h 6 (Xz h v1 6 (Int.toNat x110_2) 5) g_tag_Entry t113.Value.Entries from (Xc (Jv (f1.at h_t113)))).mono (hw.now hF)) h_t143) Try.call85 rfl) (fun _ => rfl) rfl rfl rfl (fun p_11 => ?_)
         refine Jq rfl rfl (Jd (v := .slice p_11.1 (val (Xj m_3 t113.Value)).length p_11.2) rfl) ?_
         refine Wf ?_
         refine Jf ?_
         refine Jf ?_
         refine Jb ?_
         refine Ja rfl rfl rfl (Jc (v := .slice p_11.1 (val (Xj m_3 t113.Value)).length p_11.2) rfl) ?_
         refine Ja rfl rfl rfl (r_len Try.underlying133 rfl) ?_
         refine Ja rfl rfl rfl (r_leq rfl rfl) ?_
         refine Jg ?_
         refine Qf (b := (decide (((val (Xj m_3 t113.Value)).length : Int) ≤ 4))) rfl (fun hb => ?_) (fun hb => ?_)
         ·have H61 := Js hb H60; clear H60
          refine Jf ?_
          refine Jb ?_
          refine Ja rfl rfl rfl (Jc (v := .pointer (some ⟨pb0, 0, none⟩)) rfl) ?_
          refine Ja rfl rfl rfl (Jp rfl) ?_
          refine Ja rfl rfl rfl (Jl Try.runUnderlying138 rfl Try.sizeOf133 rfl rfl) ?_
          refine Jr (i := 0) (v := .slice p_7.1 n_2 p_7.2) Try.isAgg133 rfl rfl rfl rfl rfl ?_
          refine Ja rfl rfl rfl (Jc (v := .int .i64 t120) rfl) ?_
          obtain ⟨t152, h_t152, H62⟩ := Jh H61; clear H61
          refine Yg (v := .slice (Vg p_7.1 (Int.toNat t120) p_7.2 1) t152.length (p_7.2 - Int.toNat t120)) (fun w hF hS => run_sliceLO (xs := l_4) Try.underlying133 Try.sizeOf5 rfl rfl hl_3 (capOf (i := 1) hS rfl) h_t152) rfl rfl rfl ?_
          refine Ja rfl rfl rfl (Jc (v := .slice p_11.1 (val (Xj m_3 t113.Value)).length p_11.2) rfl) ?_
          refine Qv (turns_copyG (i := 1) (rds := [3]) (p := p_7) (f := Xh) (xs := l_4) (ts := t152) (ys := (val (Xj m_3 t113.Value))) hl_3 Try.underlying133 (by rw [Xn Try.typeInfo5]; rfl) rfl rfl h_t152 rfl rfl (fun w L' hF hS hi => roOf (i := 3) hS ((hi 3 (by simp)).trans rfl)) (fun _ => rfl) (fun _ => rfl)) rfl rfl rfl (fun _ => ?_)
          refine Jg ?_
          refine Xy ?_
          refine Jo (m_3, (cpyL l_4 t120 t152.length (val (Xj m_3 t113.Value)))) (p_7, n_2) 0 [0, 1] (by exact ⟨rfl, rfl, rfl, rfl, rfl, rfl, trivial⟩) (by decide) (by kernel_rfl) (by exact ⟨H62, (cpyL_n hl_3 h_t152)⟩) (Nat.lt_succ_self _)
         ·have H63 := Jt hb H60; clear H60
          refine Ju ?_
          refine Jf ?_
          refine Jb ?_
          refine Ja rfl rfl rfl (Jc (v := .pointer (some ⟨pb0, 0, none⟩)) rfl) ?_
          refine Ja rfl rfl rfl (Jc (v := .int .i64 t120) rfl) ?_
          refine Ja rfl rfl rfl (Jc (v := .pointer (some ⟨pb0, 0, none⟩)) rfl) ?_
          obtain ⟨t158, h_t158, H64⟩ := Jh H63; clear H63
          refine Jx 0 1 rfl rfl (by decide) ?_
          refine Qv (Qc (i := 0) (rds := []) (G := fun x : (Option Addr × Nat) => .int .i64 t158.1) (C := fun x : (Option Addr × Nat) => Jy (Jm pb0 [.bool t158.2.big_, .slice x.1 t158.2.out_.length x.2] 138) (Jw 5 1 (.slice x.1 t158.2.out_.length x.2) t158.2.out_.length (t158.2.out_.map Xh))) rfl (fun w L' S hF hS hi hp hlt ho hA => k90 hp hlt (Q8 w S) hl_3 h_t158) Try.call90 rfl) rfl rfl rfl (fun p_12 => ?_)
          refine J2 0 1 rfl rfl (by decide) ?_
          obtain ⟨t159, h_t159, H65⟩ := Jh H64; clear H64
          refine Jx 0 1 rfl rfl (by decide) ?_
          refine Qv (Qc (i := 0) (rds := []) (G := fun x : (Option Addr × Nat) => .tuple #[]) (C := fun x : (Option Addr × Nat) => Jy (Jm pb0 [.bool t159.big_, .slice x.1 t159.out_.length x.2] 138) (Jw 5 1 (.slice x.1 t159.out_.length x.2) t159.out_.length (t159.out_.map Xh))) rfl (fun w L' S hF hS hi hp hlt ho hA => k86 hp hlt (Q8 w S) rfl h_t159) Try.call86 rfl) rfl rfl rfl (fun p_13 => ?_)
          refine J2 0 1 rfl rfl (by decide) ?_
          refine Jg ?_
          try dsimp only [z1, z2, z5, z6, z7, z8]
          refine Jb ?_
          refine Ja rfl rfl rfl (Jc (v := .pointer (some ⟨pb0, 0, none⟩)) rfl) ?_
          refine Ja rfl rfl rfl (Jc (v := .pointer (some ⟨pb0, 0, none⟩)) rfl) ?_
          refine Ja rfl rfl rfl (Jp rfl) ?_
          refine Ja rfl rfl rfl (Jl Try.runUnderlying138 rfl Try.sizeOf133 rfl rfl) ?_
          refine Jr (i := 0) (v := .slice p_13.1 t159.out_.length p_13.2) Try.isAgg133 rfl rfl rfl rfl rfl ?_
          refine Ja rfl rfl rfl (Jc (v := .slice p_11.1 (val (Xj m_3 t113.Value)).length p_11.2) rfl) ?_
          obtain ⟨l166, h_l166, H66⟩ := Jh H65; clear H65
          refine Qv (Xd (i := 1) (hn := rfl) (rds := [3]) (p := p_13) (sz := 1) (by_ := 1) (f := Xh) (ys := t159.out_) (ls := (val (Xj m_3 t113.Value))) (V := .slice p_11.1 (val (Xj m_3 t113.Value)).length p_11.2) Try.underlying133 (Xn Try.typeInfo5) rfl rfl rfl rfl rfl rfl rfl rfl rfl rfl (fun w L' hF hS hi => roOf (i := 3) hS ((hi 3 (by simp)).trans rfl)) (fun _ => rfl) (fun _ => rfl) h_l166) rfl rfl rfl (fun p_14 => ?_)
          refine Ja rfl rfl rfl (Jp rfl) ?_
          refine Ja rfl rfl rfl (Jl Try.runUnderlying138 rfl Try.sizeOf133 rfl rfl) ?_
          refine Qx (i := 0) (vs := [.slice p_14.1 l166.length p_14.2]) (cs' := [.bool t159.big_, .slice p_14.1 l166.length p_14.2]) Try.sizeOf133 rfl rfl rfl rfl rfl rfl rfl rfl rfl ?_
          refine Jg ?_
          refine Jo (t159.big_, l166) (p_14, l166.length) 0 [0, 1] (by exact ⟨rfl, rfl, rfl, rfl, rfl, rfl, trivial⟩) (by decide) (by kernel_rfl) (by exact ⟨H66, rfl⟩) (Nat.lt_succ_self _)
         ) (by kernel_rfl)
      ·rintro ⟨m_4, l_5⟩ ⟨p_8, n_3⟩ gg H49 hl_4
       replace H49 : Ym x110_2 next3 m_4 l_5 = some r := H49
       try dsimp only
       refine Jb ?_
       obtain ⟨t169, h_t169, H50⟩ := Jh H49; clear H49
       refine Ja rfl rfl rfl (Qd rfl rfl h_t169) ?_
       refine Ja rfl rfl rfl (Jc (v := .int .i64 t169) rfl) ?_
       refine Jg ?_
       refine Jo (t169, m_4, l_5) (p_8, n_3) m3 [0, 1] (by exact ⟨rfl, rfl, rfl, rfl, rfl, rfl, trivial⟩) (by decide) (by kernel_rfl) (by exact ⟨(by subst hn3; exact H50), hl_4⟩) (Nat.lt_succ_self _)
     ·have H67 := Jt hb H47; clear H47
      refine Xy ?_
      refine Jo (m_3, l_4) (p_7, n_2) 0 [0, 1] (by exact ⟨rfl, rfl, trivial⟩) (by decide) (by kernel_rfl) (by exact ⟨H67, hl_3⟩) (Nat.lt_succ_self _)
    ·rintro ⟨m, l_2⟩ ⟨p_6, n⟩ gg H46 hl
     replace H46 : Vy t15 l m l_2 = some r := H46
     try dsimp only
     refine Jf ?_
     refine Jb ?_
     refine Ja rfl rfl rfl (Jc (v := .int .i64 t15.1) rfl) ?_
     refine Ja rfl rfl rfl (Jc (v := .int .i64 (l.length : Int)) rfl) ?_
     refine Ja rfl rfl rfl (Jd (v := .int .i64 t15.1) rfl) ?_
     refine Ja rfl rfl rfl (Jd (v := .int .i64 (l.length : Int)) rfl) ?_
     refine Jg ?_
     refine J0 ?_
     obtain rfl := Option.some.inj H46
     refine Jx 0 1 rfl rfl (by decide) ?_
     refine ret2 (v1 := .int .i64 t15.1) (v2 := .int .i64 (l.length : Int)) rfl rfl rfl (Wm p_6 (i := 0) rfl (by first | rfl | rw [(show n = l_2.length from hl)]) (by first | exact Imp.refl _ | exact Imp.of (by rw [(show n = l_2.length from hl)])))
   ) (by kernel_rfl)
theorem k116 {a0 : T_tag_writer} {pb0 : Nat} {p0_1 : Option Addr × Nat} {n0_1 : Nat} {a1 : (List T_tag_Entry)} {v1 : Value} {r : Int × Int × T_tag_writer} {w : World} {h : J6} {S : Nat → Prop} (hcs : (Jy (Jm pb0 [.bool a0.big_, .slice p0_1.1 n0_1 p0_1.2] 138) (Jw 5 1 (.slice p0_1.1 n0_1 p0_1.2) n0_1 (a0.out_.map Xh))).P S w) (hlt : ∀ b, S b → b < w.heap.size) (hw : Know h w S) (hn0_1 : n0_1 = a0.out_.length) (f1 : FrN h 6 v1 g_tag_Entry a1) (H : Wx a0 a1 = some r) : Does Try.prog 116 (List.toArray [.pointer (some ⟨pb0, 0, none⟩), v1]) w (fun v w' => ∃ x : (Option Addr × Nat), v = (.tuple #[.int .i64 r.1, .int .i64 r.2.1]) ∧ Turn w w' S (Jy (Jm pb0 [.bool r.2.2.big_, .slice x.1 r.2.2.out_.length x.2] 138) (Jw 5 1 (.slice x.1 r.2.2.out_.length x.2) r.2.2.out_.length (r.2.2.out_.map Xh)))) := by
 obtain ⟨mm, hm⟩ := fix_it (show V0 (fun (self : (T_tag_writer × (List T_tag_Entry)) → Option (Int × Int × T_tag_writer)) (s : T_tag_writer × (List T_tag_Entry)) => Xp self s.1 s.2) (a0, a1) = some r from H)
 exact k116_it mm hcs hlt hw hn0_1 f1 hm
theorem k70 {a0 : T_tag_File} {v0_1 : Value} {r : (List UInt8)} {w : World} {h : J6} (hw : Know h w Wg) (f0_1 : FrN h 1 v0_1 gs_tag_Entry a0.Dirs) (H : tag_written a0 = some r) : Does Try.prog 70 (List.toArray [.agg #[.bool a0.Big, v0_1]]) w (fun v w' => v = (str r) ∧ Grow w w') := by
 refine enter (n := 71) Try.func70 rfl rfl rfl Wg [] (Sat.nil _ _) ?_
 refine Jf ?_
 refine Jb ?_
 refine l_box (cs := [.bool a0.Big, v0_1]) rfl rfl rfl rfl (fun b5 => ?_)
 refine Ja rfl rfl rfl (Jd (v := str []) rfl) ?_
 refine Jg ?_
 refine Jf ?_
 refine Jb ?_
 refine Ja rfl rfl rfl (Jl Try.runUnderlying24 rfl Try.sizeOf4 rfl rfl) ?_
 refine Jr (i := 0) (v := .bool a0.Big) Try.isAgg4 rfl rfl rfl rfl rfl ?_
 refine Qr (vs := [.int .u8 73, .int .u8 73]) (cs := [.int .u8 73, .int .u8 73]) Try.underlying133 Try.sizeOf5 Try.zeroValue5 rfl rfl rfl rfl rfl rfl rfl (fun b6 => ?_)
 refine Qv (turns_mark (i := 1) (rds := []) (f := Xh) (xs := ([73, 73] : List Int)) (m := 2) (sz := 1) rfl Try.underlying133 Try.underlying5 rfl rfl rfl rfl rfl rfl) rfl rfl rfl (fun _ => ?_)
 refine Ja rfl rfl rfl (Y6 (pl := #[(0, 1), (1, 1)]) (ps := [(0, .bool a0.Big), (1, .slice ((some ⟨b6, 0, none⟩, 2) : Option Addr × Nat).1 2 ((some ⟨b6, 0, none⟩, 2) : Option Addr × Nat).2)]) (cells := #[.bool a0.Big, .slice ((some ⟨b6, 0, none⟩, 2) : Option Addr × Nat).1 2 ((some ⟨b6, 0, none⟩, 2) : Option Addr × Nat).2]) Try.zeroValue138 Try.runUnderlying138 (fun w => by kernel_rfl) rfl rfl) ?_
 refine l_box (cs := [.bool a0.Big, .slice ((some ⟨b6, 0, none⟩, 2) : Option Addr × Nat).1 2 ((some ⟨b6, 0, none⟩, 2) : Option Addr × Nat).2]) rfl rfl rfl rfl (fun b7 => ?_)
 refine Ja rfl rfl rfl (Jd (v := .pointer (some ⟨b7, 0, none⟩)) rfl) ?_
 refine Jg ?_
 refine Xb (r := r) (σ := (List Int)) (τ := (Option Addr × Nat) × Nat) (fun s => Vb a0 s) (fun s t => [(1, .pointer (some ⟨b5, 0, none⟩)), (3, .pointer (some ⟨b7, 0, none⟩))]) (fun s t => [Jm b5 [.bool a0.Big, v0_1] 24, Jm b7 [.bool a0.Big, .slice t.1.1 t.2 t.1.2] 138, apV 5 1 (.slice t.1.1 t.2 t.1.2) t.2 (s.map Xh)]) (fun s t => t.2 = s.length) ?_ ?_
 ·refine Jf ?_
  try dsimp only [z1, z2, z5, z6, z7, z8]
  refine Jb ?_
  refine Ja rfl rfl rfl (Jl Try.runUnderlying24 rfl Try.sizeOf4 rfl rfl) ?_
  refine Jr (i := 0) (v := .bool a0.Big) Try.isAgg4 rfl rfl rfl rfl rfl ?_
  refine Jg ?_
  refine Qf (b := a0.Big) rfl (fun hb => ?_) (fun hb => ?_)
  ·have H27 := Js hb H; clear H
   refine Jb ?_
   refine Ja rfl rfl rfl (Jc (v := .pointer (some ⟨b7, 0, none⟩)) rfl) ?_
   refine Qr (vs := [.int .u8 77, .int .u8 77]) (cs := [.int .u8 77, .int .u8 77]) Try.underlying133 Try.sizeOf5 Try.zeroValue5 rfl rfl rfl rfl rfl rfl rfl (fun b9 => ?_)
   refine Qv (turns_mark (i := 3) (rds := []) (f := Xh) (xs := ([77, 77] : List Int)) (m := 2) (sz := 1) rfl Try.underlying133 Try.underlying5 rfl rfl rfl rfl rfl rfl) rfl rfl rfl (fun _ => ?_)
   refine Ja rfl rfl rfl (Jp rfl) ?_
   refine Ja rfl rfl rfl (Jl Try.runUnderlying138 rfl Try.sizeOf133 rfl rfl) ?_
   refine Qx (i := 2) (vs := [.slice ((some ⟨b9, 0, none⟩, 2) : Option Addr × Nat).1 2 ((some ⟨b9, 0, none⟩, 2) : Option Addr × Nat).2]) (cs' := [.bool a0.Big, .slice ((some ⟨b9, 0, none⟩, 2) : Option Addr × Nat).1 2 ((some ⟨b9, 0, none⟩, 2) : Option Addr × Nat).2]) Try.sizeOf133 rfl rfl rfl rfl rfl rfl rfl rfl rfl ?_
   refine Jg ?_
   refine Jo ([77, 77] : List Int) (((some ⟨b9, 0, none⟩, 2) : Option Addr × Nat), 2) 0 [0, 2, 3] (by exact ⟨rfl, rfl, trivial⟩) (by decide) (by kernel_rfl) (by exact ⟨H27, rfl⟩) (Nat.lt_succ_self _)
  ·have H28 := Jt hb H; clear H
   refine Ju ?_
   refine Jo ([73, 73] : List Int) (((some ⟨b6, 0, none⟩, 2) : Option Addr × Nat), 2) 0 [0, 2, 1] (by exact ⟨rfl, rfl, trivial⟩) (by decide) (by kernel_rfl) (by exact ⟨H28, rfl⟩) (Nat.lt_succ_self _)
 ·rintro l ⟨p, n⟩ gg H15 hl
  replace H15 : Vb a0 l = some r := H15
  try dsimp only
  refine Jf ?_
  exact Xr (Kd.p :: Kd.p :: Kd.p :: Kd.p :: Kd.d [1] _ :: Kd.p :: Kd.d [0] _ :: Kd.t 3 [] _ _ :: Kd.t 2 [3] _ _ :: Kd.p :: Kd.p :: Kd.sv 32 30 1 _ 138 :: []) 1 mixed (by
   refine Jq rfl rfl (Jc (v := .pointer (some ⟨b7, 0, none⟩)) rfl) ?_
   refine Jq rfl rfl (Jc (v := .pointer (some ⟨b7, 0, none⟩)) rfl) ?_
   refine Jq rfl rfl (Jp rfl) ?_
   refine Jq rfl rfl (Jl Try.runUnderlying138 rfl Try.sizeOf133 rfl rfl) ?_
   refine Ya (i := 1) (v := .slice p.1 n p.2) Try.isAgg133 rfl rfl rfl rfl ?_
   refine Jq rfl rfl (Jl Try.runUnderlying24 rfl Try.sizeOf4 rfl rfl) ?_
   refine Ya (i := 0) (v := .bool a0.Big) Try.isAgg4 rfl rfl rfl rfl ?_
   have h_t29 := Qq H15
   have H16 := Qb H15
   refine d_make (Cv := fun v => Jw 5 1 v (val (Jj a0.Big 42 2)).length ((val (Jj a0.Big 42 2)).map Xh)) (none, 0) (Xv (G := fun x : (Option Addr × Nat) => .slice x.1 (val (Jj a0.Big 42 2)).length x.2) (C := fun x : (Option Addr × Nat) => Jw 5 1 (.slice x.1 (val (Jj a0.Big 42 2)).length x.2) (val (Jj a0.Big 42 2)).length ((val (Jj a0.Big 42 2)).map Xh)) (fun w L' hF hS hi => k83 (J3 w)  h_t29) Try.call83 rfl) (fun _ => rfl) rfl rfl rfl (fun p_2 => ?_)
   have h_l30 := Qq H16
   have H17 := Qb H16
   refine d_turn (Cv := fun v => Jw 5 1 v (val (gApN 1 l (val (Jj a0.Big 42 2)))).length ((val (gApN 1 l (val (Jj a0.Big 42 2)))).map Xh)) (none, 0) (turns_appN (i := 2) (hn := hl) (rds := [3]) (p := p) (sz := 1) (by_ := 1) (f := Xh) (ys := l) (ls := (val (Jj a0.Big 42 2))) (V := .slice p_2.1 (val (Jj a0.Big 42 2)).length p_2.2) Try.underlying133 (Xn Try.typeInfo5) rfl rfl rfl rfl rfl rfl rfl rfl rfl rfl (fun w L' hF hS hi => V2 (i := 3) hS ((hi 3 (by simp)).trans rfl)) (fun _ => rfl) (fun _ => rfl) h_l30) (fun _ => rfl) rfl rfl (fun p_3 => ?_)
   refine Jq rfl rfl (Jp rfl) ?_
   refine Jq rfl rfl (Jl Try.runUnderlying138 rfl Try.sizeOf133 rfl rfl) ?_
   refine Uk (i := 1) (vs := [.slice p_3.1 (val (gApN 1 l (val (Jj a0.Big 42 2)))).length p_3.2]) (cs' := fun v_ => [.bool a0.Big, v_]) Try.sizeOf133 rfl rfl rfl rfl rfl rfl rfl rfl rfl ?_
   refine Wf ?_
   refine Jf ?_
   refine Jb ?_
   refine Ja rfl rfl rfl (Jc (v := .pointer (some ⟨b7, 0, none⟩)) rfl) ?_
   refine Ja rfl rfl rfl (Jp rfl) ?_
   refine Ja rfl rfl rfl (Jl Try.runUnderlying138 rfl Try.sizeOf133 rfl rfl) ?_
   refine Jr (i := 1) (v := .slice p_3.1 (val (gApN 1 l (val (Jj a0.Big 42 2)))).length p_3.2) Try.isAgg133 rfl rfl rfl rfl rfl ?_
   refine Ja rfl rfl rfl (r_len Try.underlying133 rfl) ?_
   refine Ja rfl rfl rfl (Jd (v := .int .i64 ((val (gApN 1 l (val (Jj a0.Big 42 2)))).length : Int)) rfl) ?_
   refine Jg ?_
   refine Jf ?_
   refine Jb ?_
   refine Ja rfl rfl rfl (Jc (v := .pointer (some ⟨b7, 0, none⟩)) rfl) ?_
   refine Ja rfl rfl rfl (Jc (v := .pointer (some ⟨b7, 0, none⟩)) rfl) ?_
   refine Ja rfl rfl rfl (Jp rfl) ?_
   refine Ja rfl rfl rfl (Jl Try.runUnderlying138 rfl Try.sizeOf133 rfl rfl) ?_
   refine Jr (i := 1) (v := .slice p_3.1 (val (gApN 1 l (val (Jj a0.Big 42 2)))).length p_3.2) Try.isAgg133 rfl rfl rfl rfl rfl ?_
   refine Qr (vs := [.int .u8 0, .int .u8 0, .int .u8 0, .int .u8 0]) (cs := [.int .u8 0, .int .u8 0, .int .u8 0, .int .u8 0]) Try.underlying133 Try.sizeOf5 Try.zeroValue5 rfl rfl rfl rfl rfl rfl rfl (fun b8 => ?_)
   obtain ⟨l44, h_l44, H18⟩ := Jh H17; clear H17
   refine Qv (Xd (i := 2) (hn := rfl) (rds := [4]) (p := p_3) (sz := 1) (by_ := 1) (f := Xh) (ys := (val (gApN 1 l (val (Jj a0.Big 42 2))))) (ls := ([0, 0, 0, 0] : List Int)) (V := .slice (some ⟨b8, 0, none⟩) 4 4) Try.underlying133 (Xn Try.typeInfo5) rfl rfl rfl rfl rfl rfl rfl rfl rfl rfl (fun w L' hF hS hi => Vm (i := 4) hS ((hi 4 (by simp)).trans rfl) rfl rfl) (fun _ => rfl) (fun _ => rfl) h_l44) rfl rfl rfl (fun p_4 => ?_)
   refine Ja rfl rfl rfl (Jp rfl) ?_
   refine Ja rfl rfl rfl (Jl Try.runUnderlying138 rfl Try.sizeOf133 rfl rfl) ?_
   refine Qx (i := 1) (vs := [.slice p_4.1 l44.length p_4.2]) (cs' := [.bool a0.Big, .slice p_4.1 l44.length p_4.2]) Try.sizeOf133 rfl rfl rfl rfl rfl rfl rfl rfl rfl ?_
   refine Jg ?_
   refine Xb (r := r) (σ := Bool × (List Int)) (τ := (Option Addr × Nat)) (fun s => Wv s.1 s.2) (fun s t => [(3, .pointer (some ⟨b7, 0, none⟩))]) (fun s t => [Jm b7 [.bool s.1, .slice t.1 s.2.length t.2] 138, Jw 5 1 (.slice t.1 s.2.length t.2) s.2.length (s.2.map Xh)]) (fun s t => True) ?_ ?_
   ·refine Jf ?_
    refine Jb ?_
    refine Ja rfl rfl rfl (Jl Try.runUnderlying24 rfl Try.sizeOf22 rfl rfl) ?_
    refine Jr (i := 0) (v := v0_1) Try.isAgg22 rfl rfl rfl rfl rfl ?_
    refine Ja rfl rfl rfl (V1 Try.underlying22 rfl f0_1) ?_
    refine Ja rfl rfl rfl (Jc (v := .int .i64 0) rfl) ?_
    refine Jg ?_
    refine J1 ?_
    refine c_dr 4 <| c_dr 3 <| c_dr 0 ?_
    try dsimp only [z1, z2, z3, z4, z5, z6, z7, z8]
    refine Z5 (σ := Int × Int × Bool × (List Int)) (τ := (Option Addr × Nat)) (fun next3 s => X5 a0 next3 s.1 s.2.1 s.2.2.1 s.2.2.2) (fun s t => [(3, .pointer (some ⟨b7, 0, none⟩)), (4, .int .i64 s.1), (48, v0_1), (49, .int .i64 (a0.Dirs.length : Int)), (50, .int .i64 s.2.1)]) (fun s t => [Jm b7 [.bool s.2.2.1, .slice t.1 s.2.2.2.length t.2] 138, Jw 5 1 (.slice t.1 s.2.2.2.length t.2) s.2.2.2.length (s.2.2.2.map Xh)]) (fun s t => True) (((val (gApN 1 l (val (Jj a0.Big 42 2)))).length : Int), 0, a0.Big, l44) p_4 [0, 1] H18 (by exact trivial) (by exact ⟨rfl, rfl, rfl, rfl, rfl, trivial⟩) (by decide) rfl ?_
    rintro ⟨x4_2, x50_2, m_3, l_4⟩ p_6 m3 gg H20 _
    clear H18
    replace H20 : X5 a0 (it (fun next3 s => X5 a0 next3 s.1 s.2.1 s.2.2.1 s.2.2.2) m3) x4_2 x50_2 m_3 l_4 = some r := H20
    generalize hn3 : it (fun next3 s => X5 a0 next3 s.1 s.2.1 s.2.2.1 s.2.2.2) m3 = next3 at H20
    try dsimp only
    refine Jf ?_
    refine Jb ?_
    refine Ja rfl rfl rfl (Zn rfl rfl) ?_
    refine Jg ?_
    refine Jf ?_
    refine Qf (b := (decide (x50_2 < (a0.Dirs.length : Int)))) rfl (fun hb => ?_) (fun hb => ?_)
    ·have H21 := Js hb H20; clear H20
     refine Ju ?_
     refine Jf ?_
     refine J1 ?_
     refine Jf ?_
     refine Jb ?_
     obtain ⟨t52, h_t52, H22⟩ := Jh H21; clear H21
     refine Ja rfl rfl rfl (Zd Try.underlying22 Try.sizeOf27 rfl rfl f0_1.frs (f0_1.ix h_t52)) ?_
     refine Yg (fun w hF hS => Yu (f := (elC h v0_1 1)) (i := x50_2) (sz := 1) (j := 0) (v := (Xz h v0_1 1 (Int.toNat x50_2) 0)) Try.isAgg27 rfl rfl (f0_1.frs.row (hw.now hF)) (f0_1.ix h_t52) (rg_of (cgs_tag_Entry (f0_1.at h_t52)) rfl)) rfl rfl rfl ?_
     refine Ja rfl rfl rfl (Jd (v := (Xz h v0_1 1 (Int.toNat x50_2) 0)) rfl) ?_
     refine Jg ?_
     refine Jf ?_
     refine Jb ?_
     refine Ja rfl rfl rfl (Jc (v := .pointer (some ⟨b7, 0, none⟩)) rfl) ?_
     refine Ja rfl rfl rfl (Jc (v := (Xz h v0_1 1 (Int.toNat x50_2) 0)) rfl) ?_
     obtain ⟨t57, h_t57, H23⟩ := Jh H22; clear H22
     refine Jx 0 1 rfl rfl (by decide) ?_
     refine Qv (Qc (i := 0) (rds := []) (G := fun x : (Option Addr × Nat) => .tuple #[.int .i64 t57.1, .int .i64 t57.2.1]) (C := fun x : (Option Addr × Nat) => Jy (Jm b7 [.bool t57.2.2.big_, .slice x.1 t57.2.2.out_.length x.2] 138) (Jw 5 1 (.slice x.1 t57.2.2.out_.length x.2) t57.2.2.out_.length (t57.2.2.out_.map Xh))) rfl (fun w L' S hF hS hi hp hlt ho hA => k116 hp hlt (Q8 w S) rfl ((show FrN h 6 (Xz h v0_1 1 (Int.toNat x50_2) 0) g_tag_Entry t52 from (f0_1.at h_t52)).mono (hw.but hF ho)) h_t57) Try.call116 rfl) rfl rfl rfl (fun p_7 => ?_)
     refine J2 0 1 rfl rfl (by decide) ?_
     refine Ja rfl rfl rfl (Jc (v := .tuple #[.int .i64 t57.1, .int .i64 t57.2.1]) rfl) ?_
     refine Ja rfl rfl rfl (Xa (v := .int .i64 t57.1) rfl rfl) ?_
     refine Ja rfl rfl rfl (Xa (v := .int .i64 t57.2.1) rfl rfl) ?_
     refine Ja rfl rfl rfl (Jd (v := .int .i64 t57.1) rfl) ?_
     refine Ja rfl rfl rfl (Jd (v := .int .i64 t57.2.1) rfl) ?_
     refine Jg ?_
     refine Jf ?_
     refine Jb ?_
     refine Ja rfl rfl rfl (Jc (v := .pointer (some ⟨b7, 0, none⟩)) rfl) ?_
     refine Ja rfl rfl rfl (Jc (v := .int .i64 x4_2) rfl) ?_
     refine Ja rfl rfl rfl (Jc (v := .int .i64 t57.1) rfl) ?_
     obtain ⟨t63, h_t63, H24⟩ := Jh H23; clear H23
     refine Jx 0 1 rfl rfl (by decide) ?_
     refine Qv (Qc (i := 0) (rds := []) (G := fun x : (Option Addr × Nat) => .tuple #[]) (C := fun x : (Option Addr × Nat) => Jy (Jm b7 [.bool t63.big_, .slice x.1 t63.out_.length x.2] 138) (Jw 5 1 (.slice x.1 t63.out_.length x.2) t63.out_.length (t63.out_.map Xh))) rfl (fun w L' S hF hS hi hp hlt ho hA => k86 hp hlt (Q8 w S) rfl h_t63) Try.call86 rfl) rfl rfl rfl (fun p_8 => ?_)
     refine J2 0 1 rfl rfl (by decide) ?_
     refine Jg ?_
     refine Jb ?_
     refine Ja rfl rfl rfl (Jc (v := .int .i64 t57.2.1) rfl) ?_
     refine Ja rfl rfl rfl (Jd (v := .int .i64 t57.2.1) rfl) ?_
     refine Jg ?_
     refine Jb ?_
     obtain ⟨t65, h_t65, H25⟩ := Jh H24; clear H24
     refine Ja rfl rfl rfl (Qd rfl rfl h_t65) ?_
     refine Ja rfl rfl rfl (Jc (v := .int .i64 t65) rfl) ?_
     refine Jg ?_
     refine Jo (t57.2.1, t65, t63.big_, t63.out_) p_8 m3 [0, 1] (by exact ⟨rfl, rfl, rfl, rfl, rfl, trivial⟩) (by decide) (by kernel_rfl) (by exact ⟨(by subst hn3; exact H25), trivial⟩) (Nat.lt_succ_self _)
    ·have H26 := Jt hb H20; clear H20
     refine Xy ?_
     refine Jo (m_3, l_4) p_6 0 [0, 1] (by exact ⟨rfl, trivial⟩) (by decide) (by kernel_rfl) (by exact ⟨H26, trivial⟩) (Nat.lt_succ_self _)
   ·rintro ⟨m, l_2⟩ p_5 gg H19 _
    replace H19 : Wv m l_2 = some r := H19
    try dsimp only
    refine Jf ?_
    refine Jb ?_
    refine Ja rfl rfl rfl (Jc (v := .pointer (some ⟨b7, 0, none⟩)) rfl) ?_
    refine Ja rfl rfl rfl (Jp rfl) ?_
    refine Ja rfl rfl rfl (Jl Try.runUnderlying138 rfl Try.sizeOf133 rfl rfl) ?_
    refine Jr (i := 0) (v := .slice p_5.1 l_2.length p_5.2) Try.isAgg133 rfl rfl rfl rfl rfl ?_
    refine Yg (fun w hF hS => run_bytes (f := Xh) (xs := l_2) rfl Try.underlying133 Try.underlying5 Try.underlying9 rfl (fun _ => rfl) (V2 (i := 1) hS rfl)) rfl rfl rfl ?_
    refine Ja rfl rfl rfl (Jd (v := str (Vw l_2)) rfl) ?_
    refine Jg ?_
    refine J0 ?_
    obtain rfl := Option.some.inj H19
    refine Q2 (v := str (Vw l_2)) rfl rfl (Zr rfl)
   ) (by kernel_rfl)
theorem k24 {a0 : T_tag_File} {v0_1 : Value} {r : (List UInt8) × Int} {w : World} {h : J6} (hw : Know h w Wg) (f0_1 : FrN h 1 v0_1 gs_tag_Entry a0.Dirs) (H : tag_Write a0 = some r) : Does Try.prog 24 (List.toArray [.agg #[.bool a0.Big, v0_1]]) w (fun v w' => v = (.tuple #[str r.1, .int .i64 r.2]) ∧ Grow w w') := by
 refine enter (n := 12) Try.func24 rfl rfl rfl Wg [] (Sat.nil _ _) ?_
 refine Jf ?_
 refine Jb ?_
 refine l_box (cs := [.bool a0.Big, v0_1]) rfl rfl rfl rfl (fun b1 => ?_)
 refine Ja rfl rfl rfl (Jd (v := str []) rfl) ?_
 refine Ja rfl rfl rfl (Jd (v := .int .i64 0) rfl) ?_
 refine Jg ?_
 refine Jf ?_
 refine Jf ?_
 refine Jb ?_
 refine Vx (i := 0) (vs := [.bool a0.Big, v0_1]) Try.isAgg24 Try.sizeOf24 rfl rfl rfl rfl rfl ?_
 obtain ⟨t6, h_t6, H5⟩ := Jh H; clear H
 refine Xt (fun w hF hS => k41 (J3 w) (f0_1.mono (hw.now hF)) h_t6) Try.call41 rfl rfl rfl ?_
 refine Ja rfl rfl rfl (Jd (v := .int .i64 t6) rfl) ?_
 refine Jg ?_
 refine Jf ?_
 refine Jb ?_
 refine Ja rfl rfl rfl (Jc (v := .int .i64 t6) rfl) ?_
 refine Ja rfl rfl rfl (V3 rfl rfl) ?_
 refine Jg ?_
 refine Qf (b := (decide (t6 ≠ 0))) rfl (fun hb => ?_) (fun hb => ?_)
 ·have H6 := Js hb H5; clear H5
  refine Jf ?_
  refine Jb ?_
  refine Ja rfl rfl rfl (Jc (v := .int .i64 t6) rfl) ?_
  refine Ja rfl rfl rfl (Jd (v := str []) rfl) ?_
  refine Ja rfl rfl rfl (Jd (v := .int .i64 t6) rfl) ?_
  refine Jg ?_
  refine J0 ?_
  obtain rfl := Option.some.inj H6
  refine ret2 (v1 := str []) (v2 := .int .i64 t6) rfl rfl rfl (Zr rfl)
 ·have H7 := Jt hb H5; clear H5
  refine Ju ?_
  refine Jf ?_
  refine Jb ?_
  refine Vx (i := 0) (vs := [.bool a0.Big, v0_1]) Try.isAgg24 Try.sizeOf24 rfl rfl rfl rfl rfl ?_
  obtain ⟨t11, h_t11, H8⟩ := Jh H7; clear H7
  refine Xt (fun w hF hS => k70 (J3 w) (f0_1.mono (hw.now hF)) h_t11) Try.call70 rfl rfl rfl ?_
  refine Ja rfl rfl rfl (Jd (v := str t11) rfl) ?_
  refine Ja rfl rfl rfl (Jd (v := .int .i64 0) rfl) ?_
  refine Jg ?_
  refine J0 ?_
  obtain rfl := Option.some.inj H8
  refine ret2 (v1 := str t11) (v2 := .int .i64 0) rfl rfl rfl (Zr rfl)
end Go.Proofs.Ytemkoikdkfkijaa
