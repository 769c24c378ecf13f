/- TagPaths, checks: the walks, printed by our generator; each follows its model. Conditions: the model yields a value. -/
import Derived.Test.YtpljknglodhcnaaMd
import Derived.Test.YtpljknglodhcnaaProg
import Derived.Test.YtpljknglodhcnaaLx6
namespace Go.Proofs.Ytpljknglodhcnaa
open Go Go.Vc Go.Md Go.M Go.Lx
set_option maxRecDepth 100000
set_option maxHeartbeats 4000000
set_option linter.unusedVariables false
theorem mixed : Try.prog.follows .mixedOrders = true := by kernel_rfl
abbrev J3 (x : Int) : List Value := [.int .i64 x]
abbrev Jn (x : T_tag_Ratio) : List Value := [.int .i64 x.Num, .int .i64 x.Den]
abbrev e_u8 (x : Int) : List Value := [.int .u8 x]
def U9 (m : ((List Int) → (List Int) → Option (Bool))) (w : World) (args : List Value) (post : Value → World → Prop) : Prop :=
  ∃ (a0 : (List Int)) (v0 : Value) (a1 : (List Int)) (v1 : Value) (r : Bool), FrS (fun b => w.heap[b]?) 1 v0 (a0.map J3) ∧ FrS (fun b => w.heap[b]?) 1 v1 (a1.map J3) ∧ args = [v0, v1] ∧ m a0 a1 = some r ∧ post = fun v' w' => v' = (.bool r) ∧ Grow w w'
inductive g_tag_Entry (h : Jx) : (Nat → Value) → T_tag_Entry → Prop
  | mk {c : Nat → Value} {x : T_tag_Entry} (h0 : c 0 = .int .i64 x.Tag) (h1 : c 1 = .int .i64 x.Value.Kind) (h2 : c 2 = str x.Value.Text) (h3 : FrS h 1 (c 3) (x.Value.Ints.map J3)) (h4 : FrS h 2 (c 4) (x.Value.Ratios.map Jn)) (h5 : FrS h 6 (c 5) ((List.range x.Value.Entries.length).map (Wu h (c 5) 6))) (h6 : ∀ (i : Nat) (y : T_tag_Entry), x.Value.Entries[i]? = some y → g_tag_Entry h (Qb h (c 5) 6 i) y) : g_tag_Entry h c x
instance : Mon g_tag_Entry := ⟨fun k c x f => by
  induction f with
  | mk h0 h1 h2 h3 h4 h5 h6 ih => exact .mk h0 h1 h2 (h3.mono k) (h4.mono k) (frsMono h5 k) (fun i y hy => by have e_ := elMonoE h5 k hy; rw [← e_]; exact ih i y hy)⟩
def gs_int (h : Jx) (c : Nat → Value) (x : (List Int)) : Prop := FrS h 1 (c 0) (x.map J3)
instance : Mon gs_int := ⟨fun k _ _ f => FrS.mono f k⟩
theorem cgs_int {h : Jx} {c : Nat → Value} {x : (List Int)} (_ : gs_int h c x) : (List.range 1).map c = [c 0] := rfl
def gs_tag_Ratio (h : Jx) (c : Nat → Value) (x : (List T_tag_Ratio)) : Prop := FrS h 2 (c 0) (x.map Jn)
instance : Mon gs_tag_Ratio := ⟨fun k _ _ f => FrS.mono f k⟩
def gs_tag_Entry (h : Jx) (c : Nat → Value) (x : (List T_tag_Entry)) : Prop := FrN h 6 (c 0) g_tag_Entry x
instance : Mon gs_tag_Entry := ⟨fun k _ _ f => FrN.mono f k⟩
theorem X8 {h : Jx} {c : Nat → Value} {x : (List T_tag_Entry)} (_ : gs_tag_Entry h c x) : (List.range 1).map c = [c 0] := rfl
def g_tag_Value (h : Jx) (c : Nat → Value) (x : T_tag_Value) : Prop := c 0 = .int .i64 x.Kind ∧ c 1 = str x.Text ∧ gs_int h (fun j => c (2 + j)) x.Ints ∧ gs_tag_Ratio h (fun j => c (3 + j)) x.Ratios ∧ gs_tag_Entry h (fun j => c (4 + j)) x.Entries
instance : Mon g_tag_Value := ⟨fun k _ _ f => by obtain ⟨h0, h1, h2, h3, h4⟩ := f; exact ⟨h0, h1, Mon.mono k _ _ h2, Mon.mono k _ _ h3, Mon.mono k _ _ h4⟩⟩
theorem cg_tag_Value {h : Jx} {c : Nat → Value} {x : T_tag_Value} (f : g_tag_Value h c x) : (List.range 5).map c = [.int .i64 x.Kind, str x.Text, c 2, c 3, c 4] := by
  obtain ⟨h0, h1, h2, h3, h4⟩ := f
  show [c 0, c 1, c 2, c 3, c 4] = _
  simp only [h0, h1]
theorem J9 {h : Jx} {c : Nat → Value} {x : T_tag_Value} (f : g_tag_Value h c x) : gs_int h (fun j => c (2 + j)) x.Ints := by
  obtain ⟨h0, h1, h2, h3, h4⟩ := f; exact h2
theorem J8 {h : Jx} {c : Nat → Value} {x : T_tag_Value} (f : g_tag_Value h c x) : gs_tag_Ratio h (fun j => c (3 + j)) x.Ratios := by
  obtain ⟨h0, h1, h2, h3, h4⟩ := f; exact h3
theorem J2 {h : Jx} {c : Nat → Value} {x : T_tag_Value} (f : g_tag_Value h c x) : gs_tag_Entry h (fun j => c (4 + j)) x.Entries := by
  obtain ⟨h0, h1, h2, h3, h4⟩ := f; exact h4
theorem g_tag_Entry_iff {h : Jx} {c : Nat → Value} {x : T_tag_Entry} : g_tag_Entry h c x ↔ (c 0 = .int .i64 x.Tag ∧ g_tag_Value h (fun j => c (1 + j)) x.Value) :=
  ⟨fun f => by cases f with | mk h0 h1 h2 h3 h4 h5 h6 => exact ⟨h0, ⟨h1, h2, h3, h4, ⟨h5, h6⟩⟩⟩, fun ⟨h0, ⟨h1, h2, h3, h4, ⟨h5, h6⟩⟩⟩ => .mk h0 h1 h2 h3 h4 h5 h6⟩
theorem Q1 {h : Jx} {c : Nat → Value} {x : T_tag_Entry} (f : g_tag_Entry h c x) : (List.range 6).map c = [.int .i64 x.Tag, .int .i64 x.Value.Kind, str x.Value.Text, c 3, c 4, c 5] := by
  obtain ⟨h0, h1⟩ := g_tag_Entry_iff.1 f
  have hc1 := cg_tag_Value h1
  simp only [List.range, List.range.loop, List.map_cons, List.map_nil, Nat.reduceAdd, List.cons.injEq, and_true] at hc1
  show [c 0, c 1, c 2, c 3, c 4, c 5] = _
  simp only [h0, hc1]
theorem Jm {h : Jx} {c : Nat → Value} {x : T_tag_Entry} (f : g_tag_Entry h c x) : g_tag_Value h (fun j => c (1 + j)) x.Value := by
  obtain ⟨h0, h1⟩ := g_tag_Entry_iff.1 f; exact h1
def Vi (m : (T_tag_Entry → Int → Option (Int))) (w : World) (args : List Value) (post : Value → World → Prop) : Prop :=
  ∃ (a0 : T_tag_Entry) (v0_1_2 : Value) (v0_1_3 : Value) (v0_1_4 : Value) (a1 : Int) (r : Int), FrS (fun b => w.heap[b]?) 1 v0_1_2 (a0.Value.Ints.map J3) ∧ FrS (fun b => w.heap[b]?) 2 v0_1_3 (a0.Value.Ratios.map Jn) ∧ FrN (fun b => w.heap[b]?) 6 v0_1_4 g_tag_Entry a0.Value.Entries ∧ args = [.agg #[.int .i64 a0.Tag, .int .i64 a0.Value.Kind, str a0.Value.Text, v0_1_2, v0_1_3, v0_1_4], .int .i64 a1] ∧ m a0 a1 = some r ∧ post = fun v' w' => v' = (.int .i64 r) ∧ Grow w w'
def Vm (m : (T_tag_Entry → T_tag_Entry → Option (Bool))) (w : World) (args : List Value) (post : Value → World → Prop) : Prop :=
  ∃ (a0 : T_tag_Entry) (v0_1_2 : Value) (v0_1_3 : Value) (v0_1_4 : Value) (a1 : T_tag_Entry) (v1_1_2 : Value) (v1_1_3 : Value) (v1_1_4 : Value) (r : Bool), FrS (fun b => w.heap[b]?) 1 v0_1_2 (a0.Value.Ints.map J3) ∧ FrS (fun b => w.heap[b]?) 2 v0_1_3 (a0.Value.Ratios.map Jn) ∧ FrN (fun b => w.heap[b]?) 6 v0_1_4 g_tag_Entry a0.Value.Entries ∧ FrS (fun b => w.heap[b]?) 1 v1_1_2 (a1.Value.Ints.map J3) ∧ FrS (fun b => w.heap[b]?) 2 v1_1_3 (a1.Value.Ratios.map Jn) ∧ FrN (fun b => w.heap[b]?) 6 v1_1_4 g_tag_Entry a1.Value.Entries ∧ args = [.agg #[.int .i64 a0.Tag, .int .i64 a0.Value.Kind, str a0.Value.Text, v0_1_2, v0_1_3, v0_1_4], .agg #[.int .i64 a1.Tag, .int .i64 a1.Value.Kind, str a1.Value.Text, v1_1_2, v1_1_3, v1_1_4]] ∧ m a0 a1 = some r ∧ post = fun v' w' => v' = (.bool r) ∧ Grow w w'
def Z0 (m : ((List T_tag_Entry) → (List T_tag_Entry) → Option (Bool))) (w : World) (args : List Value) (post : Value → World → Prop) : Prop :=
  ∃ (a0 : (List T_tag_Entry)) (v0 : Value) (a1 : (List T_tag_Entry)) (v1 : Value) (r : Bool), FrN (fun b => w.heap[b]?) 6 v0 g_tag_Entry a0 ∧ FrN (fun b => w.heap[b]?) 6 v1 g_tag_Entry a1 ∧ args = [v0, v1] ∧ m a0 a1 = some r ∧ post = fun v' w' => v' = (.bool r) ∧ Grow w w'
theorem run_eqT77 (d : Nat) (w : World) (a0 b0 : Int) (a1 b1 : Int) : (Op.equalIn (d + 2) 77 (.agg #[.int .i64 a0, .int .i64 a1]) (.agg #[.int .i64 b0, .int .i64 b1])).run Try.prog w = .ok (decide (a0 = b0 ∧ a1 = b1)) w := by
  rw [run_equalIn_struct w (d + 1) 77 _ _ (by simp only [Program.fieldsOf, Try.underlying77]) Try.stoodInHeld77]
  simp only [Program.fieldsOf, Try.underlying77, Op.eqFields]
  simp [part, run_equalIn_int, run_equalIn_strL, run_equalIn_bool', Try.underlying3]
  repeat' split
  all_goals simp_all
theorem run_eq_tag_Ratio (w : World) (x y : T_tag_Ratio) : (Op.equalIn Op.maxDepth 77 (.agg #[.int .i64 x.Num, .int .i64 x.Den]) (.agg #[.int .i64 y.Num, .int .i64 y.Den])).run Try.prog w = .ok (U6 x y) w :=
  run_eqT77 9998 w _ _ _ _
theorem k56 {a0 : Int} {a1 : Int} {a2 : Int} {r : Bool} (H : Wi a0 a1 a2 = some r) : Ret Try.prog 56 [.int .i64 a0, .int .i64 a1, .int .i64 a2] (.bool r) := by
 refine Zm (n := 15) Try.func56 rfl rfl rfl (fun wd => ?_)
 refine Je ?_
 refine Jb ?_
 refine Ja rfl rfl rfl (Jc (v := .bool false) rfl) ?_
 refine Jf ?_
 refine Je ?_
 refine Jb ?_
 refine Ja rfl rfl rfl (Jd (v := .int .i64 a0) rfl) ?_
 refine Ja rfl rfl rfl (Jd (v := .int .i64 a1) rfl) ?_
 refine Ja rfl rfl rfl (Xs rfl rfl) ?_
 refine Ja rfl rfl rfl (Jd (v := .bool (decide (a0 < a1))) rfl) ?_
 refine split (fun hb => ?_) (fun hb => ?_)
 ·have H3 := Jo hb H; clear H
  refine Jh rfl rfl rfl ?_
  refine Jh rfl rfl rfl ?_
  refine Jh rfl rfl rfl ?_
  refine Ja rfl rfl rfl (Jz (v := .bool true) rfl rfl) ?_
  refine Ja rfl rfl rfl (Jc (v := .bool true) rfl) ?_
  refine Jf ?_
  refine Jq ?_
  obtain rfl := Option.some.inj H3
  refine J5 (v := .bool true) rfl rfl (fin rfl)
 ·have H4 := Jp hb H; clear H
  refine Ja rfl rfl rfl (Jd (v := .int .i64 a0) rfl) ?_
  refine Ja rfl rfl rfl (Jd (v := .int .i64 a2) rfl) ?_
  refine Ja rfl rfl rfl (Zn rfl rfl) ?_
  refine Ja rfl rfl rfl (J0 (v := .bool (decide (a2 < a0))) rfl rfl) ?_
  refine Ja rfl rfl rfl (Jc (v := .bool (decide (a2 < a0))) rfl) ?_
  refine Jf ?_
  refine Jq ?_
  obtain rfl := Option.some.inj H4
  refine J5 (v := .bool (decide (a2 < a0))) rfl rfl (fin rfl)
theorem k81 {a0 : Int} {r : Int} (H : Uq a0 = some r) : Ret Try.prog 81 [.int .i64 a0] (.int .i64 r) := by
 refine Zm (n := 16) Try.func81 rfl rfl rfl (fun wd => ?_)
 refine Je ?_
 refine Jb ?_
 refine Ja rfl rfl rfl (Jc (v := .int .i64 0) rfl) ?_
 refine Jf ?_
 refine Je ?_
 refine Je ?_
 refine Jb ?_
 refine Ja rfl rfl rfl (Jd (v := .int .i64 a0) rfl) ?_
 refine Jf ?_
 refine J6 ?_
 refine Q8 (r := r) (σ := Bool) (τ := Unit) (fun s => Vy a0 s) (fun s t => [(3, .int .i64 a0), (4, .bool s)]) (fun s t => []) (fun s t => True) ?_ ?_
 ·refine Je ?_
  refine Jb ?_
  refine Ja rfl rfl rfl (Qr rfl rfl) ?_
  refine Ja rfl rfl rfl (Jc (v := .bool (decide (a0 = 1))) rfl) ?_
  refine Jf ?_
  refine J4 (b := (decide (a0 = 1))) rfl (fun hb => ?_) (fun hb => ?_)
  ·have H37 := Jo hb H; clear H
   refine Js ?_
   refine Jr (decide (a0 = 1)) () 0 [] (by exact ⟨rfl, rfl, trivial⟩) (by decide) (by kernel_rfl) (by exact ⟨H37, trivial⟩) (Nat.lt_succ_self _)
  ·have H38 := Jp hb H; clear H
   refine Je ?_
   refine Jb ?_
   refine Ja rfl rfl rfl (Qr rfl rfl) ?_
   refine Ja rfl rfl rfl (Jc (v := .bool (decide (a0 = 2))) rfl) ?_
   refine Jf ?_
   refine J4 (b := (decide (a0 = 2))) rfl (fun hb => ?_) (fun hb => ?_)
   ·have H39 := Jo hb H38; clear H38
    refine Js ?_
    refine Jr (decide (a0 = 2)) () 0 [] (by exact ⟨rfl, rfl, trivial⟩) (by decide) (by kernel_rfl) (by exact ⟨H39, trivial⟩) (Nat.lt_succ_self _)
   ·have H40 := Jp hb H38; clear H38
    refine Je ?_
    refine Jb ?_
    refine Ja rfl rfl rfl (Qr rfl rfl) ?_
    refine Ja rfl rfl rfl (Jc (v := .bool (decide (a0 = 7))) rfl) ?_
    refine Jf ?_
    refine J4 (b := (decide (a0 = 7))) rfl (fun hb => ?_) (fun hb => ?_)
    ·have H41 := Jo hb H40; clear H40
     refine Js ?_
     refine Jr (decide (a0 = 7)) () 0 [] (by exact ⟨rfl, rfl, trivial⟩) (by decide) (by kernel_rfl) (by exact ⟨H41, trivial⟩) (Nat.lt_succ_self _)
    ·have H42 := Jp hb H40; clear H40
     refine Jb ?_
     refine Ja rfl rfl rfl (Qr rfl rfl) ?_
     refine Ja rfl rfl rfl (Jc (v := .bool (decide (a0 = 13))) rfl) ?_
     refine Jf ?_
     refine Jr (decide (a0 = 13)) () 0 [] (by exact ⟨rfl, rfl, trivial⟩) (by decide) (by kernel_rfl) (by exact ⟨H42, trivial⟩) (Nat.lt_succ_self _)
 ·rintro x4 _ gg H22 _
  replace H22 : Vy a0 x4 = some r := H22
  try dsimp only
  refine J4 (b := x4) rfl (fun hb => ?_) (fun hb => ?_)
  ·have H23 := Jo hb H22; clear H22
   refine Je ?_
   refine Jb ?_
   refine Ja rfl rfl rfl (Jc (v := .int .i64 1) rfl) ?_
   refine Jf ?_
   refine Jq ?_
   obtain rfl := Option.some.inj H23
   refine J5 (v := .int .i64 1) rfl rfl (fin rfl)
  ·have H24 := Jp hb H22; clear H22
   refine Je ?_
   refine Jb ?_
   refine Ja rfl rfl rfl (Qr rfl rfl) ?_
   refine Ja rfl rfl rfl (Jc (v := .bool (decide (a0 = 3))) rfl) ?_
   refine Jf ?_
   refine J4 (b := (decide (a0 = 3))) rfl (fun hb => ?_) (fun hb => ?_)
   ·have H25 := Jo hb H24; clear H24
    refine Je ?_
    refine Jb ?_
    refine Ja rfl rfl rfl (Jc (v := .int .i64 2) rfl) ?_
    refine Jf ?_
    refine Jq ?_
    obtain rfl := Option.some.inj H25
    refine J5 (v := .int .i64 2) rfl rfl (fin rfl)
   ·have H26 := Jp hb H24; clear H24
    refine Je ?_
    refine Je ?_
    refine Jb ?_
    refine Ja rfl rfl rfl (Qr rfl rfl) ?_
    refine Ja rfl rfl rfl (Jc (v := .bool (decide (a0 = 4))) rfl) ?_
    refine Jf ?_
    refine J4 (b := (decide (a0 = 4))) rfl (fun hb => ?_) (fun hb => ?_)
    ·have H27 := Jo hb H26; clear H26
     refine Js ?_
     refine J4 (b := (decide (a0 = 4))) rfl (fun hb => ?_) (fun hb => ?_)
     ·have H28 := Jo hb H27; clear H27
      refine Je ?_
      refine Jb ?_
      refine Ja rfl rfl rfl (Jc (v := .int .i64 4) rfl) ?_
      refine Jf ?_
      refine Jq ?_
      obtain rfl := Option.some.inj H28
      refine J5 (v := .int .i64 4) rfl rfl (fin rfl)
     ·have H29 := Jp hb H27; clear H27
      refine Je ?_
      refine Jb ?_
      refine Ja rfl rfl rfl (Qr rfl rfl) ?_
      refine Ja rfl rfl rfl (Jc (v := .bool (decide (a0 = 5))) rfl) ?_
      refine Jf ?_
      refine J4 (b := (decide (a0 = 5))) rfl (fun hb => ?_) (fun hb => ?_)
      ·have H30 := Jo hb H29; clear H29
       refine Je ?_
       refine Jb ?_
       refine Ja rfl rfl rfl (Jc (v := .int .i64 8) rfl) ?_
       refine Jf ?_
       refine Jq ?_
       obtain rfl := Option.some.inj H30
       refine J5 (v := .int .i64 8) rfl rfl (fin rfl)
      ·have H31 := Jp hb H29; clear H29
       refine Js ?_
       refine Je ?_
       refine Jb ?_
       refine Ja rfl rfl rfl (Jc (v := .int .i64 0) rfl) ?_
       refine Jf ?_
       refine Jq ?_
       obtain rfl := Option.some.inj H31
       refine J5 (v := .int .i64 0) rfl rfl (fin rfl)
    ·have H32 := Jp hb H26; clear H26
     refine Jb ?_
     refine Ja rfl rfl rfl (Qr rfl rfl) ?_
     refine Ja rfl rfl rfl (Jc (v := .bool (decide (a0 = 9))) rfl) ?_
     refine Jf ?_
     refine J4 (b := (decide (a0 = 9))) rfl (fun hb => ?_) (fun hb => ?_)
     ·have H33 := Jo hb H32; clear H32
      refine Je ?_
      refine Jb ?_
      refine Ja rfl rfl rfl (Jc (v := .int .i64 4) rfl) ?_
      refine Jf ?_
      refine Jq ?_
      obtain rfl := Option.some.inj H33
      refine J5 (v := .int .i64 4) rfl rfl (fin rfl)
     ·have H34 := Jp hb H32; clear H32
      refine Je ?_
      refine Jb ?_
      refine Ja rfl rfl rfl (Qr rfl rfl) ?_
      refine Ja rfl rfl rfl (Jc (v := .bool (decide (a0 = 5))) rfl) ?_
      refine Jf ?_
      refine J4 (b := (decide (a0 = 5))) rfl (fun hb => ?_) (fun hb => ?_)
      ·have H35 := Jo hb H34; clear H34
       refine Je ?_
       refine Jb ?_
       refine Ja rfl rfl rfl (Jc (v := .int .i64 8) rfl) ?_
       refine Jf ?_
       refine Jq ?_
       obtain rfl := Option.some.inj H35
       refine J5 (v := .int .i64 8) rfl rfl (fin rfl)
      ·have H36 := Jp hb H34; clear H34
       refine Js ?_
       refine Je ?_
       refine Jb ?_
       refine Ja rfl rfl rfl (Jc (v := .int .i64 0) rfl) ?_
       refine Jf ?_
       refine Jq ?_
       obtain rfl := Option.some.inj H36
       refine J5 (v := .int .i64 0) rfl rfl (fin rfl)
theorem k82 {a0 : Int} {r : Bool} (H : tag_isInts a0 = some r) : Ret Try.prog 82 [.int .i64 a0] (.bool r) := by
 refine Zm (n := 17) Try.func82 rfl rfl rfl (fun wd => ?_)
 refine Je ?_
 refine Jb ?_
 refine Ja rfl rfl rfl (Jc (v := .bool false) rfl) ?_
 refine Jf ?_
 refine Je ?_
 refine Jb ?_
 refine Ja rfl rfl rfl (Jd (v := .int .i64 a0) rfl) ?_
 refine Ja rfl rfl rfl (Qr rfl rfl) ?_
 refine Ja rfl rfl rfl (Jd (v := .bool (decide (a0 = 1))) rfl) ?_
 refine split (fun hb => ?_) (fun hb => ?_)
 ·have H7 := Jo hb H; clear H
  refine Jh rfl rfl rfl ?_
  refine Jh rfl rfl rfl ?_
  refine Ja rfl rfl rfl (Jz (v := .bool true) rfl rfl) ?_
  refine Ja rfl rfl rfl (Jd (v := .bool true) rfl) ?_
  refine Jh rfl rfl rfl ?_
  refine Jh rfl rfl rfl ?_
  refine Ja rfl rfl rfl (Jz (v := .bool true) rfl rfl) ?_
  refine Ja rfl rfl rfl (Jd (v := .bool true) rfl) ?_
  refine Jh rfl rfl rfl ?_
  refine Jh rfl rfl rfl ?_
  refine Ja rfl rfl rfl (Jz (v := .bool true) rfl rfl) ?_
  refine Ja rfl rfl rfl (Jc (v := .bool true) rfl) ?_
  refine Jf ?_
  refine Jq ?_
  obtain rfl := Option.some.inj H7
  refine J5 (v := .bool true) rfl rfl (fin rfl)
 ·have H8 := Jp hb H; clear H
  refine Ja rfl rfl rfl (Jd (v := .int .i64 a0) rfl) ?_
  refine Ja rfl rfl rfl (Qr rfl rfl) ?_
  refine Ja rfl rfl rfl (J0 (v := .bool (decide (a0 = 3))) rfl rfl) ?_
  refine Ja rfl rfl rfl (Jd (v := .bool (decide (a0 = 3))) rfl) ?_
  refine split (fun hb => ?_) (fun hb => ?_)
  ·have H9 := Jo hb H8; clear H8
   refine Jh rfl rfl rfl ?_
   refine Jh rfl rfl rfl ?_
   refine Ja rfl rfl rfl (Jz (v := .bool true) rfl rfl) ?_
   refine Ja rfl rfl rfl (Jd (v := .bool true) rfl) ?_
   refine Jh rfl rfl rfl ?_
   refine Jh rfl rfl rfl ?_
   refine Ja rfl rfl rfl (Jz (v := .bool true) rfl rfl) ?_
   refine Ja rfl rfl rfl (Jc (v := .bool true) rfl) ?_
   refine Jf ?_
   refine Jq ?_
   obtain rfl := Option.some.inj H9
   refine J5 (v := .bool true) rfl rfl (fin rfl)
  ·have H10 := Jp hb H8; clear H8
   refine Ja rfl rfl rfl (Jd (v := .int .i64 a0) rfl) ?_
   refine Ja rfl rfl rfl (Qr rfl rfl) ?_
   refine Ja rfl rfl rfl (J0 (v := .bool (decide (a0 = 4))) rfl rfl) ?_
   refine Ja rfl rfl rfl (Jd (v := .bool (decide (a0 = 4))) rfl) ?_
   refine split (fun hb => ?_) (fun hb => ?_)
   ·have H11 := Jo hb H10; clear H10
    refine Jh rfl rfl rfl ?_
    refine Jh rfl rfl rfl ?_
    refine Ja rfl rfl rfl (Jz (v := .bool true) rfl rfl) ?_
    refine Ja rfl rfl rfl (Jc (v := .bool true) rfl) ?_
    refine Jf ?_
    refine Jq ?_
    obtain rfl := Option.some.inj H11
    refine J5 (v := .bool true) rfl rfl (fin rfl)
   ·have H12 := Jp hb H10; clear H10
    refine Ja rfl rfl rfl (Jd (v := .int .i64 a0) rfl) ?_
    refine Ja rfl rfl rfl (Qr rfl rfl) ?_
    refine Ja rfl rfl rfl (J0 (v := .bool (decide (a0 = 9))) rfl rfl) ?_
    refine Ja rfl rfl rfl (Jc (v := .bool (decide (a0 = 9))) rfl) ?_
    refine Jf ?_
    refine Jq ?_
    obtain rfl := Option.some.inj H12
    refine J5 (v := .bool (decide (a0 = 9))) rfl rfl (fin rfl)
theorem k83 {a0 : Int} {r : Bool} (H : tag_isText a0 = some r) : Ret Try.prog 83 [.int .i64 a0] (.bool r) := by
 refine Zm (n := 9) Try.func83 rfl rfl rfl (fun wd => ?_)
 refine Je ?_
 refine Jb ?_
 refine Ja rfl rfl rfl (Jc (v := .bool false) rfl) ?_
 refine Jf ?_
 refine Je ?_
 refine Jb ?_
 refine Ja rfl rfl rfl (Jd (v := .int .i64 a0) rfl) ?_
 refine Ja rfl rfl rfl (Qr rfl rfl) ?_
 refine Ja rfl rfl rfl (Jd (v := .bool (decide (a0 = 2))) rfl) ?_
 refine split (fun hb => ?_) (fun hb => ?_)
 ·have H3 := Jo hb H; clear H
  refine Jh rfl rfl rfl ?_
  refine Jh rfl rfl rfl ?_
  refine Ja rfl rfl rfl (Jz (v := .bool true) rfl rfl) ?_
  refine Ja rfl rfl rfl (Jc (v := .bool true) rfl) ?_
  refine Jf ?_
  refine Jq ?_
  obtain rfl := Option.some.inj H3
  refine J5 (v := .bool true) rfl rfl (fin rfl)
 ·have H4 := Jp hb H; clear H
  refine Ja rfl rfl rfl (Jd (v := .int .i64 a0) rfl) ?_
  refine Ja rfl rfl rfl (Qr rfl rfl) ?_
  refine Ja rfl rfl rfl (J0 (v := .bool (decide (a0 = 7))) rfl rfl) ?_
  refine Ja rfl rfl rfl (Jc (v := .bool (decide (a0 = 7))) rfl) ?_
  refine Jf ?_
  refine Jq ?_
  obtain rfl := Option.some.inj H4
  refine J5 (v := .bool (decide (a0 = 7))) rfl rfl (fin rfl)
theorem k63 {a0 : T_tag_Value} {v0_2 : Value} {v0_3 : Value} {v0_4 : Value} {r : Int} {w : World} {h : Jx} (hw : Know h w X3) (f0_2 : FrS h 1 v0_2 (a0.Ints.map J3)) (f0_3 : FrS h 2 v0_3 (a0.Ratios.map Jn)) (f0_4 : FrN h 6 v0_4 g_tag_Entry a0.Entries) (H : Vt a0 = some r) : Does Try.prog 63 (List.toArray [.agg #[.int .i64 a0.Kind, str a0.Text, v0_2, v0_3, v0_4]]) w (fun v w' => v = (.int .i64 r) ∧ Grow w w') := by
 refine enter (n := 46) Try.func63 rfl rfl rfl X3 [] (Sat.nil _ _) ?_
 refine Je ?_
 refine Jb ?_
 refine Yv (cs := [.int .i64 a0.Kind, str a0.Text, v0_2, v0_3, v0_4]) rfl rfl rfl rfl (fun b1 => ?_)
 refine Ja rfl rfl rfl (Jc (v := .int .i64 0) rfl) ?_
 refine Jf ?_
 refine Je ?_
 refine J6 ?_
 refine Je ?_
 refine Jb ?_
 refine Ja rfl rfl rfl (Jl Try.runUnderlying29 rfl Try.sizeOf3 rfl rfl) ?_
 refine Jt (i := 0) (v := .int .i64 a0.Kind) Try.isAgg3 rfl rfl rfl rfl rfl ?_
 obtain ⟨t6, h_t6, H31⟩ := Ji H; clear H
 refine Vo (k81 h_t6) Try.call81 rfl rfl rfl ?_
 refine Ja rfl rfl rfl (Qr rfl rfl) ?_
 refine Ja rfl rfl rfl (Jc (v := .bool (decide (t6 = 0))) rfl) ?_
 refine Jf ?_
 refine J4 (b := (decide (t6 = 0))) rfl (fun hb => ?_) (fun hb => ?_)
 ·have H32 := Jo hb H31; clear H31
  refine Je ?_
  refine Jb ?_
  refine Ja rfl rfl rfl (Jc (v := .int .i64 10) rfl) ?_
  refine Jf ?_
  refine Jq ?_
  obtain rfl := Option.some.inj H32
  refine J5 (v := .int .i64 10) rfl rfl (fin rfl)
 ·have H33 := Jp hb H31; clear H31
  refine Je ?_
  refine Q8 (r := r) (σ := Bool) (τ := Unit) (fun s => Ze a0 s) (fun s t => [(1, .pointer (some ⟨b1, 0, none⟩)), (8, .bool s)]) (fun s t => [Jv b1 [.int .i64 a0.Kind, str a0.Text, v0_2, v0_3, v0_4] 29]) (fun s t => True) ?_ ?_
  ·refine Jb ?_
   refine Ja rfl rfl rfl (Jl Try.runUnderlying29 rfl Try.sizeOf3 rfl rfl) ?_
   refine Jt (i := 0) (v := .int .i64 a0.Kind) Try.isAgg3 rfl rfl rfl rfl rfl ?_
   obtain ⟨t11, h_t11, H58⟩ := Ji H33; clear H33
   refine Vo (k82 h_t11) Try.call82 rfl rfl rfl ?_
   refine Ja rfl rfl rfl (V3 rfl) ?_
   refine Ja rfl rfl rfl (Jd (v := .bool (!t11)) rfl) ?_
   refine split (fun hb => ?_) (fun hb => ?_)
   ·have H59 := Jo hb H58; clear H58
    refine Ja rfl rfl rfl (Jl Try.runUnderlying29 rfl Try.sizeOf25 rfl rfl) ?_
    refine Jt (i := 0) (v := v0_2) Try.isAgg25 rfl rfl rfl rfl rfl ?_
    refine Ja rfl rfl rfl (Xy Try.underlying25 rfl f0_2 rfl) ?_
    refine Ja rfl rfl rfl (Zn rfl rfl) ?_
    refine Ja rfl rfl rfl (Jz (v := .bool (decide (0 < (a0.Ints.length : Int)))) rfl rfl) ?_
    refine Ja rfl rfl rfl (Jc (v := .bool (decide (0 < (a0.Ints.length : Int)))) rfl) ?_
    refine Jf ?_
    refine Jr (decide (0 < (a0.Ints.length : Int))) () 0 [0] (by exact ⟨rfl, rfl, trivial⟩) (by decide) (by kernel_rfl) (by exact ⟨H59, trivial⟩) (Nat.lt_succ_self _)
   ·have H60 := Jp hb H58; clear H58
    refine Jh rfl rfl rfl ?_
    refine Jh rfl rfl rfl ?_
    refine Jh rfl rfl rfl ?_
    refine Jh rfl rfl rfl ?_
    refine Ja rfl rfl rfl (J0 (v := .bool false) rfl rfl) ?_
    refine Ja rfl rfl rfl (Jc (v := .bool false) rfl) ?_
    refine Jf ?_
    refine Jr false () 0 [0] (by exact ⟨rfl, rfl, trivial⟩) (by decide) (by kernel_rfl) (by exact ⟨H60, trivial⟩) (Nat.lt_succ_self _)
  ·rintro x8 _ gg H34 _
   replace H34 : Ze a0 x8 = some r := H34
   try dsimp only
   refine J4 (b := x8) rfl (fun hb => ?_) (fun hb => ?_)
   ·have H35 := Jo hb H34; clear H34
    refine Js ?_
    refine J4 (b := x8) rfl (fun hb => ?_) (fun hb => ?_)
    ·have H36 := Jo hb H35; clear H35
     refine Je ?_
     refine Jb ?_
     refine Ja rfl rfl rfl (Jc (v := .int .i64 1) rfl) ?_
     refine Jf ?_
     refine Jq ?_
     obtain rfl := Option.some.inj H36
     refine J5 (v := .int .i64 1) rfl rfl (fin rfl)
    ·have H37 := Jp hb H35; clear H35
     refine Js ?_
     refine Je ?_
     refine Jb ?_
     refine Ja rfl rfl rfl (Jc (v := .int .i64 0) rfl) ?_
     refine Jf ?_
     refine Jq ?_
     obtain rfl := Option.some.inj H37
     refine J5 (v := .int .i64 0) rfl rfl (fin rfl)
   ·have H38 := Jp hb H34; clear H34
    refine Q8 (r := r) (σ := Bool) (τ := Unit) (fun s => Zf a0 s) (fun s t => [(1, .pointer (some ⟨b1, 0, none⟩)), (8, .bool s)]) (fun s t => [Jv b1 [.int .i64 a0.Kind, str a0.Text, v0_2, v0_3, v0_4] 29]) (fun s t => True) ?_ ?_
    ·refine Jb ?_
     refine Ja rfl rfl rfl (Jl Try.runUnderlying29 rfl Try.sizeOf3 rfl rfl) ?_
     refine Jt (i := 0) (v := .int .i64 a0.Kind) Try.isAgg3 rfl rfl rfl rfl rfl ?_
     obtain ⟨t21, h_t21, H55⟩ := Ji H38; clear H38
     refine Vo (k83 h_t21) Try.call83 rfl rfl rfl ?_
     refine Ja rfl rfl rfl (V3 rfl) ?_
     refine Ja rfl rfl rfl (Jd (v := .bool (!t21)) rfl) ?_
     refine split (fun hb => ?_) (fun hb => ?_)
     ·have H56 := Jo hb H55; clear H55
      refine Ja rfl rfl rfl (Jl Try.runUnderlying29 rfl Try.sizeOf9 rfl rfl) ?_
      refine Jt (i := 0) (v := str a0.Text) Try.isAgg9 rfl rfl rfl rfl rfl ?_
      refine Ja rfl rfl rfl (r_neqT rfl rfl) ?_
      refine Ja rfl rfl rfl (Jz (v := .bool (decide (a0.Text ≠ []))) rfl rfl) ?_
      refine Ja rfl rfl rfl (Jc (v := .bool (decide (a0.Text ≠ []))) rfl) ?_
      refine Jf ?_
      refine Jr (decide (a0.Text ≠ [])) () 0 [0] (by exact ⟨rfl, rfl, trivial⟩) (by decide) (by kernel_rfl) (by exact ⟨H56, trivial⟩) (Nat.lt_succ_self _)
     ·have H57 := Jp hb H55; clear H55
      refine Jh rfl rfl rfl ?_
      refine Jh rfl rfl rfl ?_
      refine Jh rfl rfl rfl ?_
      refine Ja rfl rfl rfl (J0 (v := .bool false) rfl rfl) ?_
      refine Ja rfl rfl rfl (Jc (v := .bool false) rfl) ?_
      refine Jf ?_
      refine Jr false () 0 [0] (by exact ⟨rfl, rfl, trivial⟩) (by decide) (by kernel_rfl) (by exact ⟨H57, trivial⟩) (Nat.lt_succ_self _)
    ·rintro x8_2 _ gg H39 _
     replace H39 : Zf a0 x8_2 = some r := H39
     try dsimp only
     refine J4 (b := x8_2) rfl (fun hb => ?_) (fun hb => ?_)
     ·have H40 := Jo hb H39; clear H39
      refine Js ?_
      refine J4 (b := x8_2) rfl (fun hb => ?_) (fun hb => ?_)
      ·have H41 := Jo hb H40; clear H40
       refine Je ?_
       refine Jb ?_
       refine Ja rfl rfl rfl (Jc (v := .int .i64 1) rfl) ?_
       refine Jf ?_
       refine Jq ?_
       obtain rfl := Option.some.inj H41
       refine J5 (v := .int .i64 1) rfl rfl (fin rfl)
      ·have H42 := Jp hb H40; clear H40
       refine Js ?_
       refine Je ?_
       refine Jb ?_
       refine Ja rfl rfl rfl (Jc (v := .int .i64 0) rfl) ?_
       refine Jf ?_
       refine Jq ?_
       obtain rfl := Option.some.inj H42
       refine J5 (v := .int .i64 0) rfl rfl (fin rfl)
     ·have H43 := Jp hb H39; clear H39
      refine Q8 (r := r) (σ := Bool) (τ := Unit) (fun s => Zh a0 s) (fun s t => [(1, .pointer (some ⟨b1, 0, none⟩)), (8, .bool s)]) (fun s t => [Jv b1 [.int .i64 a0.Kind, str a0.Text, v0_2, v0_3, v0_4] 29]) (fun s t => True) ?_ ?_
      ·refine Jb ?_
       refine Ja rfl rfl rfl (Jl Try.runUnderlying29 rfl Try.sizeOf3 rfl rfl) ?_
       refine Jt (i := 0) (v := .int .i64 a0.Kind) Try.isAgg3 rfl rfl rfl rfl rfl ?_
       refine Ja rfl rfl rfl (Y9 rfl rfl) ?_
       refine Ja rfl rfl rfl (Jd (v := .bool (decide (a0.Kind ≠ 5))) rfl) ?_
       refine split (fun hb => ?_) (fun hb => ?_)
       ·have H53 := Jo hb H43; clear H43
        refine Ja rfl rfl rfl (Jl Try.runUnderlying29 rfl Try.sizeOf26 rfl rfl) ?_
        refine Jt (i := 0) (v := v0_3) Try.isAgg26 rfl rfl rfl rfl rfl ?_
        refine Ja rfl rfl rfl (Xy Try.underlying26 rfl f0_3 rfl) ?_
        refine Ja rfl rfl rfl (Zn rfl rfl) ?_
        refine Ja rfl rfl rfl (Jz (v := .bool (decide (0 < (a0.Ratios.length : Int)))) rfl rfl) ?_
        refine Ja rfl rfl rfl (Jc (v := .bool (decide (0 < (a0.Ratios.length : Int)))) rfl) ?_
        refine Jf ?_
        refine Jr (decide (0 < (a0.Ratios.length : Int))) () 0 [0] (by exact ⟨rfl, rfl, trivial⟩) (by decide) (by kernel_rfl) (by exact ⟨H53, trivial⟩) (Nat.lt_succ_self _)
       ·have H54 := Jp hb H43; clear H43
        refine Jh rfl rfl rfl ?_
        refine Jh rfl rfl rfl ?_
        refine Jh rfl rfl rfl ?_
        refine Jh rfl rfl rfl ?_
        refine Ja rfl rfl rfl (J0 (v := .bool false) rfl rfl) ?_
        refine Ja rfl rfl rfl (Jc (v := .bool false) rfl) ?_
        refine Jf ?_
        refine Jr false () 0 [0] (by exact ⟨rfl, rfl, trivial⟩) (by decide) (by kernel_rfl) (by exact ⟨H54, trivial⟩) (Nat.lt_succ_self _)
      ·rintro x8_3 _ gg H44 _
       replace H44 : Zh a0 x8_3 = some r := H44
       try dsimp only
       refine J4 (b := x8_3) rfl (fun hb => ?_) (fun hb => ?_)
       ·have H45 := Jo hb H44; clear H44
        refine Js ?_
        refine J4 (b := x8_3) rfl (fun hb => ?_) (fun hb => ?_)
        ·have H46 := Jo hb H45; clear H45
         refine Je ?_
         refine Jb ?_
         refine Ja rfl rfl rfl (Jc (v := .int .i64 1) rfl) ?_
         refine Jf ?_
         refine Jq ?_
         obtain rfl := Option.some.inj H46
         refine J5 (v := .int .i64 1) rfl rfl (fin rfl)
        ·have H47 := Jp hb H45; clear H45
         refine Js ?_
         refine Je ?_
         refine Jb ?_
         refine Ja rfl rfl rfl (Jc (v := .int .i64 0) rfl) ?_
         refine Jf ?_
         refine Jq ?_
         obtain rfl := Option.some.inj H47
         refine J5 (v := .int .i64 0) rfl rfl (fin rfl)
       ·have H48 := Jp hb H44; clear H44
        refine Jb ?_
        refine Ja rfl rfl rfl (Jl Try.runUnderlying29 rfl Try.sizeOf3 rfl rfl) ?_
        refine Jt (i := 0) (v := .int .i64 a0.Kind) Try.isAgg3 rfl rfl rfl rfl rfl ?_
        refine Ja rfl rfl rfl (Y9 rfl rfl) ?_
        refine Ja rfl rfl rfl (Jd (v := .bool (decide (a0.Kind ≠ 13))) rfl) ?_
        refine split (fun hb => ?_) (fun hb => ?_)
        ·have H49 := Jo hb H48; clear H48
         refine Ja rfl rfl rfl (Jl Try.runUnderlying29 rfl Try.sizeOf27 rfl rfl) ?_
         refine Jt (i := 0) (v := v0_4) Try.isAgg27 rfl rfl rfl rfl rfl ?_
         refine Ja rfl rfl rfl (Q7 Try.underlying27 rfl f0_4) ?_
         refine Ja rfl rfl rfl (Zn rfl rfl) ?_
         refine Ja rfl rfl rfl (Jz (v := .bool (decide (0 < (a0.Entries.length : Int)))) rfl rfl) ?_
         refine Ja rfl rfl rfl (Jc (v := .bool (decide (0 < (a0.Entries.length : Int)))) rfl) ?_
         refine Jf ?_
         refine J4 (b := (decide (0 < (a0.Entries.length : Int)))) rfl (fun hb => ?_) (fun hb => ?_)
         ·have H50 := Jo hb H49; clear H49
          refine Je ?_
          refine Jb ?_
          refine Ja rfl rfl rfl (Jc (v := .int .i64 1) rfl) ?_
          refine Jf ?_
          refine Jq ?_
          obtain rfl := Option.some.inj H50
          refine J5 (v := .int .i64 1) rfl rfl (fin rfl)
         ·have H51 := Jp hb H49; clear H49
          refine Js ?_
          refine Je ?_
          refine Jb ?_
          refine Ja rfl rfl rfl (Jc (v := .int .i64 0) rfl) ?_
          refine Jf ?_
          refine Jq ?_
          obtain rfl := Option.some.inj H51
          refine J5 (v := .int .i64 0) rfl rfl (fin rfl)
        ·have H52 := Jp hb H48; clear H48
         refine Jh rfl rfl rfl ?_
         refine Jh rfl rfl rfl ?_
         refine Jh rfl rfl rfl ?_
         refine Jh rfl rfl rfl ?_
         refine Ja rfl rfl rfl (J0 (v := .bool false) rfl rfl) ?_
         refine Ja rfl rfl rfl (Jc (v := .bool false) rfl) ?_
         refine Jf ?_
         refine W2 rfl ?_
         refine Js ?_
         refine Je ?_
         refine Jb ?_
         refine Ja rfl rfl rfl (Jc (v := .int .i64 0) rfl) ?_
         refine Jf ?_
         refine Jq ?_
         obtain rfl := Option.some.inj H52
         refine J5 (v := .int .i64 0) rfl rfl (fin rfl)
theorem k80 {a0 : Int} {r : Int × Int} (H : tag_bounds a0 = some r) : Ret Try.prog 80 [.int .i64 a0] (.tuple #[.int .i64 r.1, .int .i64 r.2]) := by
 refine Zm (n := 11) Try.func80 rfl rfl rfl (fun wd => ?_)
 refine Je ?_
 refine Jb ?_
 refine Ja rfl rfl rfl (Jc (v := .int .i64 0) rfl) ?_
 refine Ja rfl rfl rfl (Jc (v := .int .i64 0) rfl) ?_
 refine Jf ?_
 refine Je ?_
 refine Je ?_
 refine Jb ?_
 refine Ja rfl rfl rfl (Jd (v := .int .i64 a0) rfl) ?_
 refine Jf ?_
 refine J6 ?_
 refine Je ?_
 refine Jb ?_
 refine Ja rfl rfl rfl (Qr rfl rfl) ?_
 refine Ja rfl rfl rfl (Jc (v := .bool (decide (a0 = 1))) rfl) ?_
 refine Jf ?_
 refine J4 (b := (decide (a0 = 1))) rfl (fun hb => ?_) (fun hb => ?_)
 ·have H7 := Jo hb H; clear H
  refine Je ?_
  refine Jb ?_
  refine Ja rfl rfl rfl (Jc (v := .int .i64 0) rfl) ?_
  refine Ja rfl rfl rfl (Jc (v := .int .i64 255) rfl) ?_
  refine Jf ?_
  refine Jq ?_
  obtain rfl := Option.some.inj H7
  refine ret2 (v1 := .int .i64 0) (v2 := .int .i64 255) rfl rfl rfl (fin rfl)
 ·have H8 := Jp hb H; clear H
  refine Je ?_
  refine Jb ?_
  refine Ja rfl rfl rfl (Qr rfl rfl) ?_
  refine Ja rfl rfl rfl (Jc (v := .bool (decide (a0 = 3))) rfl) ?_
  refine Jf ?_
  refine J4 (b := (decide (a0 = 3))) rfl (fun hb => ?_) (fun hb => ?_)
  ·have H9 := Jo hb H8; clear H8
   refine Je ?_
   refine Jb ?_
   refine Ja rfl rfl rfl (Jc (v := .int .i64 0) rfl) ?_
   refine Ja rfl rfl rfl (Jc (v := .int .i64 65535) rfl) ?_
   refine Jf ?_
   refine Jq ?_
   obtain rfl := Option.some.inj H9
   refine ret2 (v1 := .int .i64 0) (v2 := .int .i64 65535) rfl rfl rfl (fin rfl)
  ·have H10 := Jp hb H8; clear H8
   refine Je ?_
   refine Jb ?_
   refine Ja rfl rfl rfl (Qr rfl rfl) ?_
   refine Ja rfl rfl rfl (Jc (v := .bool (decide (a0 = 9))) rfl) ?_
   refine Jf ?_
   refine J4 (b := (decide (a0 = 9))) rfl (fun hb => ?_) (fun hb => ?_)
   ·have H11 := Jo hb H10; clear H10
    refine Je ?_
    refine Jb ?_
    refine Ja rfl rfl rfl (Jc (v := .int .i64 (-2147483648)) rfl) ?_
    refine Ja rfl rfl rfl (Jc (v := .int .i64 2147483647) rfl) ?_
    refine Jf ?_
    refine Jq ?_
    obtain rfl := Option.some.inj H11
    refine ret2 (v1 := .int .i64 (-2147483648)) (v2 := .int .i64 2147483647) rfl rfl rfl (fin rfl)
   ·have H12 := Jp hb H10; clear H10
    refine Js ?_
    refine Je ?_
    refine Jb ?_
    refine Ja rfl rfl rfl (Jc (v := .int .i64 0) rfl) ?_
    refine Ja rfl rfl rfl (Jc (v := .int .i64 4294967295) rfl) ?_
    refine Jf ?_
    refine Jq ?_
    obtain rfl := Option.some.inj H12
    refine ret2 (v1 := .int .i64 0) (v2 := .int .i64 4294967295) rfl rfl rfl (fin rfl)
theorem k62 {a0 : T_tag_Value} {v0_2 : Value} {v0_3 : Value} {v0_4 : Value} {r : Int} {w : World} {h : Jx} (hw : Know h w X3) (f0_2 : FrS h 1 v0_2 (a0.Ints.map J3)) (f0_3 : FrS h 2 v0_3 (a0.Ratios.map Jn)) (f0_4 : FrN h 6 v0_4 g_tag_Entry a0.Entries) (H : W7 a0 = some r) : Does Try.prog 62 (List.toArray [.agg #[.int .i64 a0.Kind, str a0.Text, v0_2, v0_3, v0_4]]) w (fun v w' => v = (.int .i64 r) ∧ Grow w w') := by
 refine enter (n := 65) Try.func62 rfl rfl rfl X3 [] (Sat.nil _ _) ?_
 refine Je ?_
 refine Jb ?_
 refine Yv (cs := [.int .i64 a0.Kind, str a0.Text, v0_2, v0_3, v0_4]) rfl rfl rfl rfl (fun b2 => ?_)
 refine Ja rfl rfl rfl (Jc (v := .int .i64 0) rfl) ?_
 refine Jf ?_
 refine Je ?_
 refine Je ?_
 refine Jb ?_
 refine Qg (i := 0) (vs := [.int .i64 a0.Kind, str a0.Text, v0_2, v0_3, v0_4]) Try.isAgg29 Try.sizeOf29 rfl rfl rfl rfl rfl ?_
 obtain ⟨t12, h_t12, H35⟩ := Ji H; clear H
 refine Qn (fun w hF hS => k63 (Jy w) (f0_2.mono (hw.now hF)) (f0_3.mono (hw.now hF)) (f0_4.mono (hw.now hF)) h_t12) Try.call63 rfl rfl rfl ?_
 refine Ja rfl rfl rfl (Jc (v := .int .i64 t12) rfl) ?_
 refine Jf ?_
 refine Je ?_
 refine Jb ?_
 refine Ja rfl rfl rfl (Jd (v := .int .i64 t12) rfl) ?_
 refine Ja rfl rfl rfl (Y9 rfl rfl) ?_
 refine Jf ?_
 refine J4 (b := (decide (t12 ≠ 0))) rfl (fun hb => ?_) (fun hb => ?_)
 ·have H36 := Jo hb H35; clear H35
  refine Je ?_
  refine Jb ?_
  refine Ja rfl rfl rfl (Jd (v := .int .i64 t12) rfl) ?_
  refine Ja rfl rfl rfl (Jc (v := .int .i64 t12) rfl) ?_
  refine Jf ?_
  refine Jq ?_
  obtain rfl := Option.some.inj H36
  refine J5 (v := .int .i64 t12) rfl rfl (fin rfl)
 ·have H37 := Jp hb H35; clear H35
  refine Js ?_
  refine Je ?_
  refine Jb ?_
  refine Ja rfl rfl rfl (Jl Try.runUnderlying29 rfl Try.sizeOf3 rfl rfl) ?_
  refine Jt (i := 0) (v := .int .i64 a0.Kind) Try.isAgg3 rfl rfl rfl rfl rfl ?_
  obtain ⟨t19, h_t19, H38⟩ := Ji H37; clear H37
  refine Vo (k80 h_t19) Try.call80 rfl rfl rfl ?_
  refine Ja rfl rfl rfl (Jd (v := .tuple #[.int .i64 t19.1, .int .i64 t19.2]) rfl) ?_
  refine Ja rfl rfl rfl (Qf (v := .int .i64 t19.1) rfl rfl) ?_
  refine Ja rfl rfl rfl (Qf (v := .int .i64 t19.2) rfl rfl) ?_
  refine Ja rfl rfl rfl (Jc (v := .int .i64 t19.1) rfl) ?_
  refine Ja rfl rfl rfl (Jc (v := .int .i64 t19.2) rfl) ?_
  refine Jf ?_
  refine Q8 (r := r) (σ := Unit) (τ := Unit) (fun s => Zu a0) (fun s t => [(1, .pointer (some ⟨b2, 0, none⟩))]) (fun s t => [Jv b2 [.int .i64 a0.Kind, str a0.Text, v0_2, v0_3, v0_4] 29]) (fun s t => True) ?_ ?_
  ·refine Je ?_
   refine Jb ?_
   refine Ja rfl rfl rfl (Jl Try.runUnderlying29 rfl Try.sizeOf25 rfl rfl) ?_
   refine Jt (i := 0) (v := v0_2) Try.isAgg25 rfl rfl rfl rfl rfl ?_
   refine Ja rfl rfl rfl (Xy Try.underlying25 rfl f0_2 rfl) ?_
   refine Ja rfl rfl rfl (Jd (v := .int .i64 0) rfl) ?_
   refine Jf ?_
   refine J6 ?_
   refine Z7 (σ := Int) (τ := Unit) (fun next5 s => Xj a0 t19 next5 s) (fun s t => [(1, .pointer (some ⟨b2, 0, none⟩)), (4, .int .i64 t19.1), (5, .int .i64 t19.2), (23, v0_2), (24, .int .i64 (a0.Ints.length : Int)), (25, .int .i64 s)]) (fun s t => [Jv b2 [.int .i64 a0.Kind, str a0.Text, v0_2, v0_3, v0_4] 29]) (fun s t => True) 0 () [0] H38 (by exact trivial) (by exact ⟨rfl, rfl, rfl, rfl, rfl, rfl, trivial⟩) (by decide) rfl ?_
   rintro x25_2 _ m5 gg H61 _
   clear H38
   replace H61 : Xj a0 t19 (it (fun next5 s => Xj a0 t19 next5 s) m5) x25_2 = some r := H61
   generalize hn5 : it (fun next5 s => Xj a0 t19 next5 s) m5 = next5 at H61
   try dsimp only
   refine Je ?_
   refine Jb ?_
   refine Ja rfl rfl rfl (Xs rfl rfl) ?_
   refine Jf ?_
   refine Je ?_
   refine J4 (b := (decide (x25_2 < (a0.Ints.length : Int)))) rfl (fun hb => ?_) (fun hb => ?_)
   ·have H62 := Jo hb H61; clear H61
    refine Js ?_
    refine Je ?_
    refine J6 ?_
    refine Je ?_
    refine Jb ?_
    obtain ⟨t27, h_t27, H63⟩ := Ji H62; clear H62
    refine Ja rfl rfl rfl (Qe Try.underlying25 Try.sizeOf3 rfl rfl f0_2 h_t27) ?_
    refine Qu (fun w hF hS => Qa (f := J3) (i := x25_2) (sz := 1) (j := 0) (v := .int .i64 t27) Try.isAgg3 rfl rfl (f0_2.row (hw.now hF)) h_t27 rfl) rfl rfl rfl ?_
    refine Ja rfl rfl rfl (Jc (v := .int .i64 t27) rfl) ?_
    refine Jf ?_
    refine Je ?_
    refine Jb ?_
    refine Ja rfl rfl rfl (Jd (v := .int .i64 t27) rfl) ?_
    refine Ja rfl rfl rfl (Jd (v := .int .i64 t19.1) rfl) ?_
    refine Ja rfl rfl rfl (Jd (v := .int .i64 t19.2) rfl) ?_
    obtain ⟨t32, h_t32, H64⟩ := Ji H63; clear H63
    refine Vo (k56 h_t32) Try.call56 rfl rfl rfl ?_
    refine Jf ?_
    refine J4 (b := t32) rfl (fun hb => ?_) (fun hb => ?_)
    ·have H65 := Jo hb H64; clear H64
     refine Je ?_
     refine Jb ?_
     refine Ja rfl rfl rfl (Jc (v := .int .i64 2) rfl) ?_
     refine Jf ?_
     refine Jq ?_
     obtain rfl := Option.some.inj H65
     refine J5 (v := .int .i64 2) rfl rfl (fin rfl)
    ·have H66 := Jp hb H64; clear H64
     refine Js ?_
     refine Jb ?_
     obtain ⟨t33, h_t33, H67⟩ := Ji H66; clear H66
     refine Ja rfl rfl rfl (Qv rfl rfl h_t33) ?_
     refine Ja rfl rfl rfl (Jd (v := .int .i64 t33) rfl) ?_
     refine Jf ?_
     refine Jr t33 () m5 [0] (by exact ⟨rfl, rfl, rfl, rfl, rfl, rfl, trivial⟩) (by decide) (by kernel_rfl) (by exact ⟨(by subst hn5; exact H67), trivial⟩) (Nat.lt_succ_self _)
   ·have H68 := Jp hb H61; clear H61
    refine X7 ?_
    refine Jr () () 0 [0] (by exact ⟨rfl, trivial⟩) (by decide) (by kernel_rfl) (by exact ⟨H68, trivial⟩) (Nat.lt_succ_self _)
  ·rintro _ _ gg H39 _
   replace H39 : Zu a0 = some r := H39
   try dsimp only
   refine Q8 (r := r) (σ := Unit) (τ := Unit) (fun s => Zs a0) (fun s t => [(1, .pointer (some ⟨b2, 0, none⟩))]) (fun s t => [Jv b2 [.int .i64 a0.Kind, str a0.Text, v0_2, v0_3, v0_4] 29]) (fun s t => True) ?_ ?_
   ·refine Je ?_
    refine Jb ?_
    refine Ja rfl rfl rfl (Jl Try.runUnderlying29 rfl Try.sizeOf26 rfl rfl) ?_
    refine Jt (i := 0) (v := v0_3) Try.isAgg26 rfl rfl rfl rfl rfl ?_
    refine Ja rfl rfl rfl (Xy Try.underlying26 rfl f0_3 rfl) ?_
    refine Ja rfl rfl rfl (Jd (v := .int .i64 0) rfl) ?_
    refine Jf ?_
    refine J6 ?_
    refine Z7 (σ := Int) (τ := Unit) (fun next4 s => Xk a0 next4 s) (fun s t => [(1, .pointer (some ⟨b2, 0, none⟩)), (35, v0_3), (36, .int .i64 (a0.Ratios.length : Int)), (37, .int .i64 s)]) (fun s t => [Jv b2 [.int .i64 a0.Kind, str a0.Text, v0_2, v0_3, v0_4] 29]) (fun s t => True) 0 () [0] H39 (by exact trivial) (by exact ⟨rfl, rfl, rfl, rfl, trivial⟩) (by decide) rfl ?_
    rintro x37_2 _ m4 gg H50 _
    clear H39
    replace H50 : Xk a0 (it (fun next4 s => Xk a0 next4 s) m4) x37_2 = some r := H50
    generalize hn4 : it (fun next4 s => Xk a0 next4 s) m4 = next4 at H50
    try dsimp only
    refine Je ?_
    refine Jb ?_
    refine Ja rfl rfl rfl (Xs rfl rfl) ?_
    refine Jf ?_
    refine Je ?_
    refine J4 (b := (decide (x37_2 < (a0.Ratios.length : Int)))) rfl (fun hb => ?_) (fun hb => ?_)
    ·have H51 := Jo hb H50; clear H50
     refine Js ?_
     refine Je ?_
     refine J6 ?_
     refine Je ?_
     refine Jb ?_
     obtain ⟨t39, h_t39, H52⟩ := Ji H51; clear H51
     refine Ja rfl rfl rfl (Qe Try.underlying26 Try.sizeOf77 rfl rfl f0_3 h_t39) ?_
     refine Qu (fun w hF hS => Xr (f := Jn) (i := x37_2) (sz := 2) (j := 0) (vs := [.int .i64 t39.Num, .int .i64 t39.Den]) Try.isAgg77 Try.sizeOf77 rfl rfl (f0_3.row (hw.now hF)) h_t39 rfl) rfl rfl rfl ?_
     refine Ye (cs := [.int .i64 0, .int .i64 0]) Try.zeroValue77 rfl rfl rfl (fun b3 => ?_)
     refine Qi (i := 1) (vs := [.int .i64 t39.Num, .int .i64 t39.Den]) (cs' := [.int .i64 t39.Num, .int .i64 t39.Den]) Try.sizeOf77 rfl rfl rfl rfl rfl rfl rfl rfl rfl ?_
     refine Jf ?_
     refine Je ?_
     refine Jb ?_
     refine Ja rfl rfl rfl (Jl Try.runUnderlying77 rfl Try.sizeOf3 rfl rfl) ?_
     refine Jt (i := 1) (v := .int .i64 t39.Num) Try.isAgg3 rfl rfl rfl rfl rfl ?_
     obtain ⟨t43, h_t43, H53⟩ := Ji H52; clear H52
     refine Vo (k56 h_t43) Try.call56 rfl rfl rfl ?_
     refine Ja rfl rfl rfl (Jd (v := .bool t43) rfl) ?_
     refine split (fun hb => ?_) (fun hb => ?_)
     ·have H54 := Jo hb H53; clear H53
      refine Jh rfl rfl rfl ?_
      refine Jh rfl rfl rfl ?_
      refine Jh rfl rfl rfl ?_
      refine Ja rfl rfl rfl (Jz (v := .bool true) rfl rfl) ?_
      refine Jf ?_
      refine Y5 rfl ?_
      refine Je ?_
      refine Jb ?_
      refine Ja rfl rfl rfl (Jc (v := .int .i64 2) rfl) ?_
      refine Jf ?_
      refine Jq ?_
      obtain rfl := Option.some.inj H54
      refine J5 (v := .int .i64 2) rfl rfl (fin rfl)
     ·have H55 := Jp hb H53; clear H53
      refine Ja rfl rfl rfl (Jl Try.runUnderlying77 rfl Try.sizeOf3 rfl rfl) ?_
      refine Jt (i := 1) (v := .int .i64 t39.Den) Try.isAgg3 rfl rfl rfl rfl rfl ?_
      obtain ⟨t47, h_t47, H56⟩ := Ji H55; clear H55
      refine Vo (k56 h_t47) Try.call56 rfl rfl rfl ?_
      refine Ja rfl rfl rfl (J0 (v := .bool t47) rfl rfl) ?_
      refine Jf ?_
      refine J4 (b := t47) rfl (fun hb => ?_) (fun hb => ?_)
      ·have H57 := Jo hb H56; clear H56
       refine Je ?_
       refine Jb ?_
       refine Ja rfl rfl rfl (Jc (v := .int .i64 2) rfl) ?_
       refine Jf ?_
       refine Jq ?_
       obtain rfl := Option.some.inj H57
       refine J5 (v := .int .i64 2) rfl rfl (fin rfl)
      ·have H58 := Jp hb H56; clear H56
       refine Js ?_
       refine Jb ?_
       obtain ⟨t49, h_t49, H59⟩ := Ji H58; clear H58
       refine Ja rfl rfl rfl (Qv rfl rfl h_t49) ?_
       refine Ja rfl rfl rfl (Jd (v := .int .i64 t49) rfl) ?_
       refine Jf ?_
       refine Jr t49 () m4 [0] (by exact ⟨rfl, rfl, rfl, rfl, trivial⟩) (by decide) (by kernel_rfl) (by exact ⟨(by subst hn4; exact H59), trivial⟩) (Nat.lt_succ_self _)
    ·have H60 := Jp hb H50; clear H50
     refine X7 ?_
     refine Jr () () 0 [0] (by exact ⟨rfl, trivial⟩) (by decide) (by kernel_rfl) (by exact ⟨H60, trivial⟩) (Nat.lt_succ_self _)
   ·rintro _ _ gg H40 _
    replace H40 : Zs a0 = some r := H40
    try dsimp only
    refine Je ?_
    refine Je ?_
    refine Jb ?_
    refine Ja rfl rfl rfl (Jl Try.runUnderlying29 rfl Try.sizeOf3 rfl rfl) ?_
    refine Jt (i := 0) (v := .int .i64 a0.Kind) Try.isAgg3 rfl rfl rfl rfl rfl ?_
    refine Ja rfl rfl rfl (Qr rfl rfl) ?_
    refine Jf ?_
    refine J4 (b := (decide (a0.Kind = 2))) rfl (fun hb => ?_) (fun hb => ?_)
    ·have H41 := Jo hb H40; clear H40
     refine Je ?_
     refine Jb ?_
     refine Ja rfl rfl rfl (Jl Try.runUnderlying29 rfl Try.sizeOf9 rfl rfl) ?_
     refine Jt (i := 0) (v := str a0.Text) Try.isAgg9 rfl rfl rfl rfl rfl ?_
     refine Ja rfl rfl rfl (r_lenT Try.underlying9 rfl) ?_
     refine Ja rfl rfl rfl (Jd (v := .int .i64 0) rfl) ?_
     refine Jf ?_
     refine J6 ?_
     refine Z7 (σ := Int) (τ := Unit) (fun next3 s => Xo a0 next3 s) (fun s t => [(1, .pointer (some ⟨b2, 0, none⟩)), (55, .int .i64 (a0.Text.length : Int)), (56, .int .i64 s)]) (fun s t => [Jv b2 [.int .i64 a0.Kind, str a0.Text, v0_2, v0_3, v0_4] 29]) (fun s t => True) 0 () [0] H41 (by exact trivial) (by exact ⟨rfl, rfl, rfl, trivial⟩) (by decide) rfl ?_
     rintro x56_2 _ m3 gg H42 _
     clear H41
     replace H42 : Xo a0 (it (fun next3 s => Xo a0 next3 s) m3) x56_2 = some r := H42
     generalize hn3 : it (fun next3 s => Xo a0 next3 s) m3 = next3 at H42
     try dsimp only
     refine Je ?_
     refine Jb ?_
     refine Ja rfl rfl rfl (Xs rfl rfl) ?_
     refine Jf ?_
     refine Je ?_
     refine J4 (b := (decide (x56_2 < (a0.Text.length : Int)))) rfl (fun hb => ?_) (fun hb => ?_)
     ·have H43 := Jo hb H42; clear H42
      refine Js ?_
      refine Je ?_
      refine J6 ?_
      refine Je ?_
      refine Jb ?_
      refine Ja rfl rfl rfl (Jd (v := .int .i64 x56_2) rfl) ?_
      refine Ja rfl rfl rfl (Jc (v := .int .i64 x56_2) rfl) ?_
      refine Jf ?_
      refine Je ?_
      refine Jb ?_
      refine Ja rfl rfl rfl (Jl Try.runUnderlying29 rfl Try.sizeOf9 rfl rfl) ?_
      refine Jt (i := 0) (v := str a0.Text) Try.isAgg9 rfl rfl rfl rfl rfl ?_
      refine Ja rfl rfl rfl (Jd (v := .int .i64 x56_2) rfl) ?_
      obtain ⟨t62, h_t62, H44⟩ := Ji H43; clear H43
      refine Ja rfl rfl rfl (r_octG Try.underlying9 rfl rfl h_t62) ?_
      refine Ja rfl rfl rfl (Qr rfl rfl) ?_
      refine Jf ?_
      refine J4 (b := (decide (t62 = 0))) rfl (fun hb => ?_) (fun hb => ?_)
      ·have H45 := Jo hb H44; clear H44
       refine Je ?_
       refine Jb ?_
       refine Ja rfl rfl rfl (Jc (v := .int .i64 9) rfl) ?_
       refine Jf ?_
       refine Jq ?_
       obtain rfl := Option.some.inj H45
       refine J5 (v := .int .i64 9) rfl rfl (fin rfl)
      ·have H46 := Jp hb H44; clear H44
       refine Js ?_
       refine Jb ?_
       obtain ⟨t64, h_t64, H47⟩ := Ji H46; clear H46
       refine Ja rfl rfl rfl (Qv rfl rfl h_t64) ?_
       refine Ja rfl rfl rfl (Jd (v := .int .i64 t64) rfl) ?_
       refine Jf ?_
       refine Jr t64 () m3 [0] (by exact ⟨rfl, rfl, rfl, trivial⟩) (by decide) (by kernel_rfl) (by exact ⟨(by subst hn3; exact H47), trivial⟩) (Nat.lt_succ_self _)
     ·have H48 := Jp hb H42; clear H42
      refine X7 ?_
      refine Je ?_
      refine Jb ?_
      refine Ja rfl rfl rfl (Jc (v := .int .i64 0) rfl) ?_
      refine Jf ?_
      refine Jq ?_
      obtain rfl := Option.some.inj H48
      refine J5 (v := .int .i64 0) rfl rfl (fin rfl)
    ·have H49 := Jp hb H40; clear H40
     refine Js ?_
     refine Je ?_
     refine Jb ?_
     refine Ja rfl rfl rfl (Jc (v := .int .i64 0) rfl) ?_
     refine Jf ?_
     refine Jq ?_
     obtain rfl := Option.some.inj H49
     refine J5 (v := .int .i64 0) rfl rfl (fin rfl)
theorem k54_it (mm : Nat) : ∀ {a0 : (List T_tag_Entry)} {v0 : Value} {a1 : Int} {r : Int} {w : World} {h : Jx} (hw : Know h w X3) (f0 : FrN h 6 v0 g_tag_Entry a0) (H : it (fun (self : ((List T_tag_Entry) × Int) → Option (Int)) (s : (List T_tag_Entry) × Int) => Yf self s.1 s.2) mm (a0, a1) = some r), Does Try.prog 54 (List.toArray [v0, .int .i64 a1]) w (fun v w' => v = (.int .i64 r) ∧ Grow w w') := by
 induction mm with
 | zero => intros; rename_i H; exact absurd H (by simp [it])
 | succ mm ih =>
  intro a0 v0 a1 r w h hw f0 H
  replace H : Yf (it (fun (self : ((List T_tag_Entry) × Int) → Option (Int)) (s : (List T_tag_Entry) × Int) => Yf self s.1 s.2) mm) a0 a1 = some r := H
  generalize it (fun (self : ((List T_tag_Entry) × Int) → Option (Int)) (s : (List T_tag_Entry) × Int) => Yf self s.1 s.2) mm = self at H ih
  refine enter (n := 62) Try.func54 rfl rfl rfl X3 [] (Sat.nil _ _) ?_
  refine Je ?_
  refine Jb ?_
  refine Ja rfl rfl rfl (Jc (v := .int .i64 0) rfl) ?_
  refine Jf ?_
  refine Je ?_
  refine Je ?_
  refine Jb ?_
  refine Ja rfl rfl rfl (Jd (v := .int .i64 a1) rfl) ?_
  refine Ja rfl rfl rfl (Zn rfl rfl) ?_
  refine Ja rfl rfl rfl (Jd (v := .bool (decide (5 < a1))) rfl) ?_
  refine split (fun hb => ?_) (fun hb => ?_)
  ·have H31 := Jo hb H; clear H
   refine Jh rfl rfl rfl ?_
   refine Jh rfl rfl rfl ?_
   refine Jh rfl rfl rfl ?_
   refine Ja rfl rfl rfl (Jz (v := .bool true) rfl rfl) ?_
   refine Jf ?_
   refine Y5 rfl ?_
   refine Je ?_
   refine Jb ?_
   refine Ja rfl rfl rfl (Jc (v := .int .i64 4) rfl) ?_
   refine Jf ?_
   refine Jq ?_
   obtain rfl := Option.some.inj H31
   refine J5 (v := .int .i64 4) rfl rfl (fin rfl)
  ·have H32 := Jp hb H; clear H
   refine Ja rfl rfl rfl (Jd (v := v0) rfl) ?_
   refine Ja rfl rfl rfl (Q7 Try.underlying27 rfl f0) ?_
   refine Ja rfl rfl rfl (Zn rfl rfl) ?_
   refine Ja rfl rfl rfl (J0 (v := .bool (decide (200 < (a0.length : Int)))) rfl rfl) ?_
   refine Jf ?_
   refine J4 (b := (decide (200 < (a0.length : Int)))) rfl (fun hb => ?_) (fun hb => ?_)
   ·have H33 := Jo hb H32; clear H32
    refine Je ?_
    refine Jb ?_
    refine Ja rfl rfl rfl (Jc (v := .int .i64 4) rfl) ?_
    refine Jf ?_
    refine Jq ?_
    obtain rfl := Option.some.inj H33
    refine J5 (v := .int .i64 4) rfl rfl (fin rfl)
   ·have H34 := Jp hb H32; clear H32
    refine Js ?_
    refine Je ?_
    refine Je ?_
    refine Jb ?_
    refine Ja rfl rfl rfl (Jd (v := v0) rfl) ?_
    refine Ja rfl rfl rfl (Q7 Try.underlying27 rfl f0) ?_
    refine Ja rfl rfl rfl (Jd (v := .int .i64 0) rfl) ?_
    refine Jf ?_
    refine J6 ?_
    refine Z7 (σ := Int) (τ := Unit) (fun next1 s => Zz a0 a1 self next1 s) (fun s t => [(0, v0), (1, .int .i64 a1), (15, v0), (16, .int .i64 (a0.length : Int)), (17, .int .i64 s)]) (fun s t => []) (fun s t => True) 0 () [] H34 (by exact trivial) (by exact ⟨rfl, rfl, rfl, rfl, rfl, trivial⟩) (by decide) rfl ?_
    rintro x17_2 _ m1 gg H35 _
    clear H34
    replace H35 : Zz a0 a1 self (it (fun next1 s => Zz a0 a1 self next1 s) m1) x17_2 = some r := H35
    generalize hn1 : it (fun next1 s => Zz a0 a1 self next1 s) m1 = next1 at H35
    try dsimp only
    refine Je ?_
    refine Jb ?_
    refine Ja rfl rfl rfl (Xs rfl rfl) ?_
    refine Jf ?_
    refine Je ?_
    refine J4 (b := (decide (x17_2 < (a0.length : Int)))) rfl (fun hb => ?_) (fun hb => ?_)
    ·have H36 := Jo hb H35; clear H35
     refine Js ?_
     refine Je ?_
     refine J6 ?_
     refine Je ?_
     refine Jb ?_
     refine Ja rfl rfl rfl (Jd (v := .int .i64 x17_2) rfl) ?_
     obtain ⟨t20, h_t20, H37⟩ := Ji H36; clear H36
     refine Ja rfl rfl rfl (Qe Try.underlying27 Try.sizeOf70 rfl rfl f0.frs (f0.ix h_t20)) ?_
     refine Qu (fun w hF hS => Xr (f := (Wu h v0 6)) (i := x17_2) (sz := 6) (j := 0) (vs := [.int .i64 t20.Tag, .int .i64 t20.Value.Kind, str t20.Value.Text, (Qb h v0 6 (Int.toNat x17_2) 3), (Qb h v0 6 (Int.toNat x17_2) 4), (Qb h v0 6 (Int.toNat x17_2) 5)]) Try.isAgg70 Try.sizeOf70 rfl rfl (f0.frs.row (hw.now hF)) (f0.ix h_t20) (rd_of (Q1 (f0.at h_t20)) rfl)) rfl rfl rfl ?_
     refine Ye (cs := [.int .i64 0, .int .i64 0, str [], .slice none 0 0, .slice none 0 0, .slice none 0 0]) Try.zeroValue70 rfl rfl rfl (fun b1 => ?_)
     refine Ja rfl rfl rfl (Jc (v := .int .i64 x17_2) rfl) ?_
     refine Qi (i := 0) (vs := [.int .i64 t20.Tag, .int .i64 t20.Value.Kind, str t20.Value.Text, (Qb h v0 6 (Int.toNat x17_2) 3), (Qb h v0 6 (Int.toNat x17_2) 4), (Qb h v0 6 (Int.toNat x17_2) 5)]) (cs' := [.int .i64 t20.Tag, .int .i64 t20.Value.Kind, str t20.Value.Text, (Qb h v0 6 (Int.toNat x17_2) 3), (Qb h v0 6 (Int.toNat x17_2) 4), (Qb h v0 6 (Int.toNat x17_2) 5)]) Try.sizeOf70 rfl rfl rfl rfl rfl rfl (by simp only [List.all_cons, List.all_nil, (show FrN h 6 (Qb h v0 6 (Int.toNat x17_2) 5) g_tag_Entry t20.Value.Entries from (J2 (Jm (f0.at h_t20)))).one, (show FrS h 1 (Qb h v0 6 (Int.toNat x17_2) 3) (t20.Value.Ints.map J3) from (J9 (Jm (f0.at h_t20)))).one, (show FrS h 2 (Qb h v0 6 (Int.toNat x17_2) 4) (t20.Value.Ratios.map Jn) from (J8 (Jm (f0.at h_t20)))).one] <;> rfl) rfl rfl ?_
     refine Jf ?_
     refine Q8 (r := r) (σ := Unit) (τ := Unit) (fun s => Wq a1 self x17_2 next1 t20) (fun s t => [(0, v0), (1, .int .i64 a1), (6, .pointer (some ⟨b1, 0, none⟩)), (15, v0), (16, .int .i64 (a0.length : Int)), (17, .int .i64 x17_2)]) (fun s t => [Jv b1 [.int .i64 t20.Tag, .int .i64 t20.Value.Kind, str t20.Value.Text, (Qb h v0 6 (Int.toNat x17_2) 3), (Qb h v0 6 (Int.toNat x17_2) 4), (Qb h v0 6 (Int.toNat x17_2) 5)] 70]) (fun s t => True) ?_ ?_
     ·refine J6 ?_
      refine Je ?_
      refine Jb ?_
      refine Ja rfl rfl rfl (Jl Try.runUnderlying70 rfl Try.sizeOf3 rfl rfl) ?_
      refine Jt (i := 0) (v := .int .i64 t20.Tag) Try.isAgg3 rfl rfl rfl rfl rfl ?_
      obtain ⟨t25, h_t25, H51⟩ := Ji H37; clear H37
      refine Vo (k56 h_t25) Try.call56 rfl rfl rfl ?_
      refine Ja rfl rfl rfl (Jc (v := .bool t25) rfl) ?_
      refine Jf ?_
      refine J4 (b := t25) rfl (fun hb => ?_) (fun hb => ?_)
      ·have H52 := Jo hb H51; clear H51
       refine Je ?_
       refine Jb ?_
       refine Ja rfl rfl rfl (Jc (v := .int .i64 2) rfl) ?_
       refine Jf ?_
       refine Jq ?_
       obtain rfl := Option.some.inj H52
       refine J5 (v := .int .i64 2) rfl rfl (fin rfl)
      ·have H53 := Jp hb H51; clear H51
       refine Je ?_
       exact Qp (Kd.p :: Kd.p :: Kd.p :: Kd.p :: Kd.d [0] _ :: Kd.p :: Kd.p :: Kd.p :: Kd.p :: Kd.p :: Kd.d [] _ :: Kd.p :: Kd.p :: Kd.p :: []) 0 mixed (by
        refine Jj rfl rfl (Jd (v := .int .i64 x17_2) rfl) ?_
        refine Jj rfl rfl (Zn rfl rfl) ?_
        refine Jj rfl rfl (Jd (v := .bool (decide (0 < x17_2))) rfl) ?_
        refine Vf (fun hb => ?_) (fun hb => ?_)
        ·have H54 := Jo hb H53
         refine Jj rfl rfl (Jl Try.runUnderlying70 rfl Try.sizeOf3 rfl rfl) ?_
         refine Qx (i := 0) (v := .int .i64 t20.Tag) Try.isAgg3 rfl rfl rfl rfl ?_
         refine Jj rfl rfl (Jd (v := v0) rfl) ?_
         refine Jj rfl rfl (Jd (v := .int .i64 x17_2) rfl) ?_
         have h_t34 := Qt H54
         have H55 := Ql H54
         refine Jj rfl rfl (r_subG rfl rfl h_t34) ?_
         have h_t35 := Qt H55
         have H56 := Ql H55
         refine Jj rfl rfl (Qe Try.underlying27 Try.sizeOf70 rfl rfl f0.frs (f0.ix h_t35)) ?_
         refine Jj rfl rfl (r_fieldP Try.runUnderlying70 rfl Try.sizeOf3 rfl rfl (some_of_at f0.frs (f0.ix h_t35))) ?_
         refine Zw (fun w hF => Qa (f := (Wu h v0 6)) (i := (val (gI (x17_2 - 1)))) (sz := 6) (j := 0) (v := .int .i64 (val (Xt a0 (val (gI (x17_2 - 1))))).Tag) Try.isAgg3 rfl rfl (f0.frs.row (hw.now hF)) (f0.ix h_t35) (Ur (Q1 (f0.at h_t35)) rfl)) rfl rfl ?_
         refine Jj rfl rfl (r_leq rfl rfl) ?_
         refine Jj rfl rfl (Jz (v := .bool (decide (t20.Tag ≤ (val (Xt a0 (val (gI (x17_2 - 1))))).Tag))) rfl rfl) ?_
         refine Jj rfl rfl (Jc (v := .bool (decide (t20.Tag ≤ (val (Xt a0 (val (gI (x17_2 - 1))))).Tag))) rfl) ?_
         refine Xm ?_
         refine J4 (b := (decide (t20.Tag ≤ (val (Xt a0 (val (gI (x17_2 - 1))))).Tag))) rfl (fun hb => ?_) (fun hb => ?_)
         ·have H57 := Jo hb H56; clear H56
          refine Je ?_
          refine Jb ?_
          refine Ja rfl rfl rfl (Jc (v := .int .i64 5) rfl) ?_
          refine Jf ?_
          refine Jq ?_
          obtain rfl := Option.some.inj H57
          refine J5 (v := .int .i64 5) rfl rfl (fin rfl)
         ·have H58 := Jp hb H56; clear H56
          refine Js ?_
          refine Jr () () 0 [0] (by exact ⟨rfl, rfl, rfl, rfl, rfl, rfl, trivial⟩) (by decide) (by kernel_rfl) (by exact ⟨H58, trivial⟩) (Nat.lt_succ_self _)
        ·have H59 := Jp hb H53
         refine Jw rfl rfl ?_
         refine Jw rfl rfl ?_
         refine Jw rfl rfl ?_
         refine Jw rfl rfl ?_
         refine Jw rfl rfl ?_
         refine Jw rfl rfl ?_
         refine Jw rfl rfl ?_
         refine Jw rfl rfl ?_
         refine Jw rfl rfl ?_
         refine Jj rfl rfl (J0 (v := .bool false) rfl rfl) ?_
         refine Jj rfl rfl (Jc (v := .bool false) rfl) ?_
         refine Xm ?_
         refine W2 rfl ?_
         refine Js ?_
         refine Jr () () 0 [0] (by exact ⟨rfl, rfl, rfl, rfl, rfl, rfl, trivial⟩) (by decide) (by kernel_rfl) (by exact ⟨H59, trivial⟩) (Nat.lt_succ_self _)
        ) (by kernel_rfl)
     ·rintro _ _ gg H38 _
      replace H38 : Wq a1 self x17_2 next1 t20 = some r := H38
      try dsimp only
      refine Je ?_
      refine Jb ?_
      refine Ja rfl rfl rfl (Jc (v := .int .i64 0) rfl) ?_
      refine Jf ?_
      refine Q8 (r := r) (σ := Int) (τ := Unit) (fun s => Zx x17_2 next1 s) (fun s t => [(0, v0), (1, .int .i64 a1), (7, .int .i64 s), (15, v0), (16, .int .i64 (a0.length : Int)), (17, .int .i64 x17_2)]) (fun s t => []) (fun s t => True) ?_ ?_
      ·refine Je ?_
       refine Jb ?_
       refine Ja rfl rfl rfl (Jl Try.runUnderlying70 rfl Try.sizeOf29 rfl rfl) ?_
       refine Ja rfl rfl rfl (Jl Try.runUnderlying29 rfl Try.sizeOf3 rfl rfl) ?_
       refine Jt (i := 0) (v := .int .i64 t20.Value.Kind) Try.isAgg3 rfl rfl rfl rfl rfl ?_
       refine Ja rfl rfl rfl (Y9 rfl rfl) ?_
       refine Jf ?_
       refine J4 (b := (decide (t20.Value.Kind ≠ 13))) rfl (fun hb => ?_) (fun hb => ?_)
       ·have H43 := Jo hb H38; clear H38
        refine Jb ?_
        refine Ja rfl rfl rfl (Jl Try.runUnderlying70 rfl Try.sizeOf29 rfl rfl) ?_
        refine Qg (i := 0) (vs := [.int .i64 t20.Value.Kind, str t20.Value.Text, (Qb h v0 6 (Int.toNat x17_2) 3), (Qb h v0 6 (Int.toNat x17_2) 4), (Qb h v0 6 (Int.toNat x17_2) 5)]) Try.isAgg29 Try.sizeOf29 rfl rfl rfl rfl rfl ?_
        obtain ⟨t46, h_t46, H44⟩ := Ji H43; clear H43
        refine Qn (fun w hF hS => k62 (Jy w) ((show FrS h 1 (Qb h v0 6 (Int.toNat x17_2) 3) (t20.Value.Ints.map J3) from (J9 (Jm (f0.at h_t20)))).mono (hw.now hF)) ((show FrS h 2 (Qb h v0 6 (Int.toNat x17_2) 4) (t20.Value.Ratios.map Jn) from (J8 (Jm (f0.at h_t20)))).mono (hw.now hF)) ((show FrN h 6 (Qb h v0 6 (Int.toNat x17_2) 5) g_tag_Entry t20.Value.Entries from (J2 (Jm (f0.at h_t20)))).mono (hw.now hF)) h_t46) Try.call62 rfl rfl rfl ?_
        refine Ja rfl rfl rfl (Jc (v := .int .i64 t46) rfl) ?_
        refine Jf ?_
        refine Jr t46 () 0 [] (by exact ⟨rfl, rfl, rfl, rfl, rfl, rfl, trivial⟩) (by decide) (by kernel_rfl) (by exact ⟨H44, trivial⟩) (Nat.lt_succ_self _)
       ·have H45 := Jp hb H38; clear H38
        refine Je ?_
        refine Jb ?_
        refine Ja rfl rfl rfl (Jl Try.runUnderlying70 rfl Try.sizeOf29 rfl rfl) ?_
        refine Qg (i := 0) (vs := [.int .i64 t20.Value.Kind, str t20.Value.Text, (Qb h v0 6 (Int.toNat x17_2) 3), (Qb h v0 6 (Int.toNat x17_2) 4), (Qb h v0 6 (Int.toNat x17_2) 5)]) Try.isAgg29 Try.sizeOf29 rfl rfl rfl rfl rfl ?_
        obtain ⟨t49, h_t49, H46⟩ := Ji H45; clear H45
        refine Qn (fun w hF hS => k63 (Jy w) ((show FrS h 1 (Qb h v0 6 (Int.toNat x17_2) 3) (t20.Value.Ints.map J3) from (J9 (Jm (f0.at h_t20)))).mono (hw.now hF)) ((show FrS h 2 (Qb h v0 6 (Int.toNat x17_2) 4) (t20.Value.Ratios.map Jn) from (J8 (Jm (f0.at h_t20)))).mono (hw.now hF)) ((show FrN h 6 (Qb h v0 6 (Int.toNat x17_2) 5) g_tag_Entry t20.Value.Entries from (J2 (Jm (f0.at h_t20)))).mono (hw.now hF)) h_t49) Try.call63 rfl rfl rfl ?_
        refine Ja rfl rfl rfl (Jc (v := .int .i64 t49) rfl) ?_
        refine Jf ?_
        refine Je ?_
        refine Jb ?_
        refine Ja rfl rfl rfl (Jd (v := .int .i64 t49) rfl) ?_
        refine Ja rfl rfl rfl (Qr rfl rfl) ?_
        refine Jf ?_
        refine J4 (b := (decide (t49 = 0))) rfl (fun hb => ?_) (fun hb => ?_)
        ·have H47 := Jo hb H46; clear H46
         refine Jb ?_
         refine Ja rfl rfl rfl (Jl Try.runUnderlying70 rfl Try.sizeOf29 rfl rfl) ?_
         refine Ja rfl rfl rfl (Jl Try.runUnderlying29 rfl Try.sizeOf27 rfl rfl) ?_
         refine Jt (i := 0) (v := (Qb h v0 6 (Int.toNat x17_2) 5)) Try.isAgg27 rfl rfl rfl rfl rfl ?_
         refine Ja rfl rfl rfl (Jd (v := .int .i64 a1) rfl) ?_
         obtain ⟨t56, h_t56, H48⟩ := Ji H47; clear H47
         refine Ja rfl rfl rfl (Qv rfl rfl h_t56) ?_
         obtain ⟨t57, h_t57, H49⟩ := Ji H48; clear H48
         refine Qn (fun w hF hS => ih (Jy w) ((show FrN h 6 (Qb h v0 6 (Int.toNat x17_2) 5) g_tag_Entry t20.Value.Entries from (J2 (Jm (f0.at h_t20)))).mono (hw.now hF)) h_t57) Try.call54 rfl rfl rfl ?_
         refine Ja rfl rfl rfl (Jc (v := .int .i64 t57) rfl) ?_
         refine Jf ?_
         refine Jr t57 () 0 [] (by exact ⟨rfl, rfl, rfl, rfl, rfl, rfl, trivial⟩) (by decide) (by kernel_rfl) (by exact ⟨H49, trivial⟩) (Nat.lt_succ_self _)
        ·have H50 := Jp hb H46; clear H46
         refine Js ?_
         refine Jr t49 () 0 [] (by exact ⟨rfl, rfl, rfl, rfl, rfl, rfl, trivial⟩) (by decide) (by kernel_rfl) (by exact ⟨H50, trivial⟩) (Nat.lt_succ_self _)
      ·rintro x7 _ gg H39 _
       replace H39 : Zx x17_2 next1 x7 = some r := H39
       try dsimp only
       refine Je ?_
       refine Jb ?_
       refine Ja rfl rfl rfl (Jd (v := .int .i64 x7) rfl) ?_
       refine Ja rfl rfl rfl (Y9 rfl rfl) ?_
       refine Jf ?_
       refine J4 (b := (decide (x7 ≠ 0))) rfl (fun hb => ?_) (fun hb => ?_)
       ·have H40 := Jo hb H39; clear H39
        refine Je ?_
        refine Jb ?_
        refine Ja rfl rfl rfl (Jd (v := .int .i64 x7) rfl) ?_
        refine Ja rfl rfl rfl (Jc (v := .int .i64 x7) rfl) ?_
        refine Jf ?_
        refine Jq ?_
        obtain rfl := Option.some.inj H40
        refine J5 (v := .int .i64 x7) rfl rfl (fin rfl)
       ·have H41 := Jp hb H39; clear H39
        refine Js ?_
        refine Jb ?_
        obtain ⟨t61, h_t61, H42⟩ := Ji H41; clear H41
        refine Ja rfl rfl rfl (Qv rfl rfl h_t61) ?_
        refine Ja rfl rfl rfl (Jd (v := .int .i64 t61) rfl) ?_
        refine Jf ?_
        refine Jr t61 () m1 [] (by exact ⟨rfl, rfl, rfl, rfl, rfl, trivial⟩) (by decide) (by kernel_rfl) (by exact ⟨(by subst hn1; exact H42), trivial⟩) (Nat.lt_succ_self _)
    ·have H60 := Jp hb H35; clear H35
     refine X7 ?_
     refine Je ?_
     refine Jb ?_
     refine Ja rfl rfl rfl (Jc (v := .int .i64 0) rfl) ?_
     refine Jf ?_
     refine Jq ?_
     obtain rfl := Option.some.inj H60
     refine J5 (v := .int .i64 0) rfl rfl (fin rfl)
theorem k54 {a0 : (List T_tag_Entry)} {v0 : Value} {a1 : Int} {r : Int} {w : World} {h : Jx} (hw : Know h w X3) (f0 : FrN h 6 v0 g_tag_Entry a0) (H : U7 a0 a1 = some r) : Does Try.prog 54 (List.toArray [v0, .int .i64 a1]) w (fun v w' => v = (.int .i64 r) ∧ Grow w w') := by
 obtain ⟨mm, hm⟩ := fix_it (show V6 (fun (self : ((List T_tag_Entry) × Int) → Option (Int)) (s : (List T_tag_Entry) × Int) => Yf self s.1 s.2) (a0, a1) = some r from H)
 exact k54_it mm hw f0 hm
theorem k96 {a0 : Int} {r : Int} (H : tag_even a0 = some r) : Ret Try.prog 96 [.int .i64 a0] (.int .i64 r) := by
 refine Zm (n := 7) Try.func96 rfl rfl rfl (fun wd => ?_)
 refine Je ?_
 refine Jb ?_
 refine Ja rfl rfl rfl (Jc (v := .int .i64 0) rfl) ?_
 refine Jf ?_
 refine Je ?_
 refine Jb ?_
 refine Ja rfl rfl rfl (Jd (v := .int .i64 a0) rfl) ?_
 refine Ja rfl rfl rfl (Jd (v := .int .i64 a0) rfl) ?_
 obtain ⟨t5, h_t5, H3⟩ := Ji H; clear H
 refine Ja rfl rfl rfl (r_remG rfl rfl h_t5) ?_
 obtain ⟨t6, h_t6, H4⟩ := Ji H3; clear H3
 refine Ja rfl rfl rfl (Qv rfl rfl h_t6) ?_
 refine Ja rfl rfl rfl (Jc (v := .int .i64 t6) rfl) ?_
 refine Jf ?_
 refine Jq ?_
 obtain rfl := Option.some.inj H4
 refine J5 (v := .int .i64 t6) rfl rfl (fin rfl)
theorem k115 {a0 : T_tag_Value} {v0_2 : Value} {v0_3 : Value} {v0_4 : Value} {r : Int} {w : World} {h : Jx} (hw : Know h w X3) (f0_2 : FrS h 1 v0_2 (a0.Ints.map J3)) (f0_3 : FrS h 2 v0_3 (a0.Ratios.map Jn)) (f0_4 : FrN h 6 v0_4 g_tag_Entry a0.Entries) (H : tag_count a0 = some r) : Does Try.prog 115 (List.toArray [.agg #[.int .i64 a0.Kind, str a0.Text, v0_2, v0_3, v0_4]]) w (fun v w' => v = (.int .i64 r) ∧ Grow w w') := by
 refine enter (n := 26) Try.func115 rfl rfl rfl X3 [] (Sat.nil _ _) ?_
 refine Je ?_
 refine Jb ?_
 refine Yv (cs := [.int .i64 a0.Kind, str a0.Text, v0_2, v0_3, v0_4]) rfl rfl rfl rfl (fun b1 => ?_)
 refine Ja rfl rfl rfl (Jc (v := .int .i64 0) rfl) ?_
 refine Jf ?_
 refine Je ?_
 refine Je ?_
 refine Jb ?_
 refine Ja rfl rfl rfl (Jl Try.runUnderlying29 rfl Try.sizeOf3 rfl rfl) ?_
 refine Jt (i := 0) (v := .int .i64 a0.Kind) Try.isAgg3 rfl rfl rfl rfl rfl ?_
 refine Jf ?_
 refine J6 ?_
 refine Je ?_
 refine Jb ?_
 refine Ja rfl rfl rfl (Qr rfl rfl) ?_
 refine Ja rfl rfl rfl (Jc (v := .bool (decide (a0.Kind = 2))) rfl) ?_
 refine Jf ?_
 refine J4 (b := (decide (a0.Kind = 2))) rfl (fun hb => ?_) (fun hb => ?_)
 ·have H10 := Jo hb H; clear H
  refine Je ?_
  refine Jb ?_
  refine Ja rfl rfl rfl (Jl Try.runUnderlying29 rfl Try.sizeOf9 rfl rfl) ?_
  refine Jt (i := 0) (v := str a0.Text) Try.isAgg9 rfl rfl rfl rfl rfl ?_
  refine Ja rfl rfl rfl (r_lenT Try.underlying9 rfl) ?_
  obtain ⟨t10, h_t10, H11⟩ := Ji H10; clear H10
  refine Ja rfl rfl rfl (Qv rfl rfl h_t10) ?_
  refine Ja rfl rfl rfl (Jc (v := .int .i64 t10) rfl) ?_
  refine Jf ?_
  refine Jq ?_
  obtain rfl := Option.some.inj H11
  refine J5 (v := .int .i64 t10) rfl rfl (fin rfl)
 ·have H12 := Jp hb H; clear H
  refine Je ?_
  refine Jb ?_
  refine Ja rfl rfl rfl (Qr rfl rfl) ?_
  refine Ja rfl rfl rfl (Jc (v := .bool (decide (a0.Kind = 7))) rfl) ?_
  refine Jf ?_
  refine J4 (b := (decide (a0.Kind = 7))) rfl (fun hb => ?_) (fun hb => ?_)
  ·have H13 := Jo hb H12; clear H12
   refine Je ?_
   refine Jb ?_
   refine Ja rfl rfl rfl (Jl Try.runUnderlying29 rfl Try.sizeOf9 rfl rfl) ?_
   refine Jt (i := 0) (v := str a0.Text) Try.isAgg9 rfl rfl rfl rfl rfl ?_
   refine Ja rfl rfl rfl (r_lenT Try.underlying9 rfl) ?_
   refine Ja rfl rfl rfl (Jc (v := .int .i64 (a0.Text.length : Int)) rfl) ?_
   refine Jf ?_
   refine Jq ?_
   obtain rfl := Option.some.inj H13
   refine J5 (v := .int .i64 (a0.Text.length : Int)) rfl rfl (fin rfl)
  ·have H14 := Jp hb H12; clear H12
   refine Je ?_
   refine Jb ?_
   refine Ja rfl rfl rfl (Qr rfl rfl) ?_
   refine Ja rfl rfl rfl (Jc (v := .bool (decide (a0.Kind = 5))) rfl) ?_
   refine Jf ?_
   refine J4 (b := (decide (a0.Kind = 5))) rfl (fun hb => ?_) (fun hb => ?_)
   ·have H15 := Jo hb H14; clear H14
    refine Je ?_
    refine Jb ?_
    refine Ja rfl rfl rfl (Jl Try.runUnderlying29 rfl Try.sizeOf26 rfl rfl) ?_
    refine Jt (i := 0) (v := v0_3) Try.isAgg26 rfl rfl rfl rfl rfl ?_
    refine Ja rfl rfl rfl (Xy Try.underlying26 rfl f0_3 rfl) ?_
    refine Ja rfl rfl rfl (Jc (v := .int .i64 (a0.Ratios.length : Int)) rfl) ?_
    refine Jf ?_
    refine Jq ?_
    obtain rfl := Option.some.inj H15
    refine J5 (v := .int .i64 (a0.Ratios.length : Int)) rfl rfl (fin rfl)
   ·have H16 := Jp hb H14; clear H14
    refine Je ?_
    refine Jb ?_
    refine Ja rfl rfl rfl (Qr rfl rfl) ?_
    refine Ja rfl rfl rfl (Jc (v := .bool (decide (a0.Kind = 13))) rfl) ?_
    refine Jf ?_
    refine J4 (b := (decide (a0.Kind = 13))) rfl (fun hb => ?_) (fun hb => ?_)
    ·have H17 := Jo hb H16; clear H16
     refine Je ?_
     refine Jb ?_
     refine Ja rfl rfl rfl (Jc (v := .int .i64 1) rfl) ?_
     refine Jf ?_
     refine Jq ?_
     obtain rfl := Option.some.inj H17
     refine J5 (v := .int .i64 1) rfl rfl (fin rfl)
    ·have H18 := Jp hb H16; clear H16
     refine Js ?_
     refine Je ?_
     refine Jb ?_
     refine Ja rfl rfl rfl (Jl Try.runUnderlying29 rfl Try.sizeOf25 rfl rfl) ?_
     refine Jt (i := 0) (v := v0_2) Try.isAgg25 rfl rfl rfl rfl rfl ?_
     refine Ja rfl rfl rfl (Xy Try.underlying25 rfl f0_2 rfl) ?_
     refine Ja rfl rfl rfl (Jc (v := .int .i64 (a0.Ints.length : Int)) rfl) ?_
     refine Jf ?_
     refine Jq ?_
     obtain rfl := Option.some.inj H18
     refine J5 (v := .int .i64 (a0.Ints.length : Int)) rfl rfl (fin rfl)
theorem k97 {a0 : T_tag_Value} {v0_2 : Value} {v0_3 : Value} {v0_4 : Value} {r : Int} {w : World} {h : Jx} (hw : Know h w X3) (f0_2 : FrS h 1 v0_2 (a0.Ints.map J3)) (f0_3 : FrS h 2 v0_3 (a0.Ratios.map Jn)) (f0_4 : FrN h 6 v0_4 g_tag_Entry a0.Entries) (H : Wn a0 = some r) : Does Try.prog 97 (List.toArray [.agg #[.int .i64 a0.Kind, str a0.Text, v0_2, v0_3, v0_4]]) w (fun v w' => v = (.int .i64 r) ∧ Grow w w') := by
 refine enter (n := 9) Try.func97 rfl rfl rfl X3 [] (Sat.nil _ _) ?_
 refine Je ?_
 refine Jb ?_
 refine Yv (cs := [.int .i64 a0.Kind, str a0.Text, v0_2, v0_3, v0_4]) rfl rfl rfl rfl (fun b1 => ?_)
 refine Ja rfl rfl rfl (Jc (v := .int .i64 0) rfl) ?_
 refine Jf ?_
 refine Je ?_
 exact Qp (Kd.d [0] _ :: Kd.d [] _ :: Kd.p :: Kd.d [0] _ :: Kd.d [] _ :: Kd.p :: Kd.p :: []) 0 mixed (by
  refine d_loadN (i := 0) (vs := [.int .i64 a0.Kind, str a0.Text, v0_2, v0_3, v0_4]) Try.isAgg29 Try.sizeOf29 rfl rfl rfl rfl ?_
  have h_t4 := Qt H
  have H4 := Ql H
  refine d_callD (fun w L' hF hS hi => k115 (Jy w) (f0_2.mono (hw.now hF)) (f0_3.mono (hw.now hF)) (f0_4.mono (hw.now hF)) h_t4) Try.call115 rfl rfl ?_
  refine Jj rfl rfl (Jl Try.runUnderlying29 rfl Try.sizeOf3 rfl rfl) ?_
  refine Qx (i := 0) (v := .int .i64 a0.Kind) Try.isAgg3 rfl rfl rfl rfl ?_
  have h_t7 := Qt H4
  have H5 := Ql H4
  refine d_call (k81 h_t7) Try.call81 rfl rfl ?_
  have h_t8 := Qt H5
  have H6 := Ql H5
  refine Jj rfl rfl (r_mulG rfl rfl h_t8) ?_
  refine Jj rfl rfl (Jc (v := .int .i64 (val (gI ((val (tag_count a0)) * (val (Uq a0.Kind)))))) rfl) ?_
  refine Xm ?_
  refine Jq ?_
  obtain rfl := Option.some.inj H6
  refine J5 (v := .int .i64 (val (gI ((val (tag_count a0)) * (val (Uq a0.Kind)))))) rfl rfl (fin rfl)
  ) (by kernel_rfl)
theorem k79_it (mm : Nat) : ∀ {a0 : (List T_tag_Entry)} {v0 : Value} {a1 : Int} {r : Int} {w : World} {h : Jx} (hw : Know h w X3) (f0 : FrN h 6 v0 g_tag_Entry a0) (H : it (fun (self : ((List T_tag_Entry) × Int) → Option (Int)) (s : (List T_tag_Entry) × Int) => Y3 self s.1 s.2) mm (a0, a1) = some r), Does Try.prog 79 (List.toArray [v0, .int .i64 a1]) w (fun v w' => v = (.int .i64 r) ∧ Grow w w') := by
 induction mm with
 | zero => intros; rename_i H; exact absurd H (by simp [it])
 | succ mm ih =>
  intro a0 v0 a1 r w h hw f0 H
  replace H : Y3 (it (fun (self : ((List T_tag_Entry) × Int) → Option (Int)) (s : (List T_tag_Entry) × Int) => Y3 self s.1 s.2) mm) a0 a1 = some r := H
  generalize it (fun (self : ((List T_tag_Entry) × Int) → Option (Int)) (s : (List T_tag_Entry) × Int) => Y3 self s.1 s.2) mm = self at H ih
  refine enter (n := 44) Try.func79 rfl rfl rfl X3 [] (Sat.nil _ _) ?_
  refine Je ?_
  refine Jb ?_
  refine Ja rfl rfl rfl (Jc (v := .int .i64 0) rfl) ?_
  refine Jf ?_
  refine Je ?_
  refine Jb ?_
  refine Ja rfl rfl rfl (Jd (v := .int .i64 a1) rfl) ?_
  obtain ⟨t8, h_t8, H21⟩ := Ji H; clear H
  refine Vo (k96 h_t8) Try.call96 rfl rfl rfl ?_
  obtain ⟨t9, h_t9, H22⟩ := Ji H21; clear H21
  refine Ja rfl rfl rfl (Qv rfl rfl h_t9) ?_
  refine Ja rfl rfl rfl (Jd (v := v0) rfl) ?_
  refine Ja rfl rfl rfl (Q7 Try.underlying27 rfl f0) ?_
  obtain ⟨t12, h_t12, H23⟩ := Ji H22; clear H22
  refine Ja rfl rfl rfl (r_mulG rfl rfl h_t12) ?_
  obtain ⟨t13, h_t13, H24⟩ := Ji H23; clear H23
  refine Ja rfl rfl rfl (Qv rfl rfl h_t13) ?_
  obtain ⟨t14, h_t14, H25⟩ := Ji H24; clear H24
  refine Ja rfl rfl rfl (Qv rfl rfl h_t14) ?_
  refine Ja rfl rfl rfl (Jc (v := .int .i64 t14) rfl) ?_
  refine Jf ?_
  refine Je ?_
  refine Je ?_
  refine Jb ?_
  refine Ja rfl rfl rfl (Jd (v := v0) rfl) ?_
  refine Ja rfl rfl rfl (Q7 Try.underlying27 rfl f0) ?_
  refine Ja rfl rfl rfl (Jd (v := .int .i64 0) rfl) ?_
  refine Jf ?_
  refine J6 ?_
  refine Z7 (σ := Int × Int) (τ := Unit) (fun next1 s => Yo a0 self next1 s.1 s.2) (fun s t => [(1, .int .i64 s.1), (15, v0), (16, .int .i64 (a0.length : Int)), (17, .int .i64 s.2)]) (fun s t => []) (fun s t => True) (t14, 0) () [] H25 (by exact trivial) (by exact ⟨rfl, rfl, rfl, rfl, trivial⟩) (by decide) rfl ?_
  rintro ⟨x1_2, x17_2⟩ _ m1 gg H26 _
  clear H25
  replace H26 : Yo a0 self (it (fun next1 s => Yo a0 self next1 s.1 s.2) m1) x1_2 x17_2 = some r := H26
  generalize hn1 : it (fun next1 s => Yo a0 self next1 s.1 s.2) m1 = next1 at H26
  try dsimp only
  refine Je ?_
  refine Jb ?_
  refine Ja rfl rfl rfl (Xs rfl rfl) ?_
  refine Jf ?_
  refine Je ?_
  refine J4 (b := (decide (x17_2 < (a0.length : Int)))) rfl (fun hb => ?_) (fun hb => ?_)
  ·have H27 := Jo hb H26; clear H26
   refine Js ?_
   refine Q8 (r := r) (σ := Int) (τ := Unit) (fun s => V2 x17_2 next1 s) (fun s t => [(1, .int .i64 s), (15, v0), (16, .int .i64 (a0.length : Int)), (17, .int .i64 x17_2)]) (fun s t => []) (fun s t => True) ?_ ?_
   ·refine J6 ?_
    refine Je ?_
    refine Jb ?_
    obtain ⟨t19, h_t19, H30⟩ := Ji H27; clear H27
    refine Ja rfl rfl rfl (Qe Try.underlying27 Try.sizeOf70 rfl rfl f0.frs (f0.ix h_t19)) ?_
    refine Qu (fun w hF hS => Xr (f := (Wu h v0 6)) (i := x17_2) (sz := 6) (j := 0) (vs := [.int .i64 t19.Tag, .int .i64 t19.Value.Kind, str t19.Value.Text, (Qb h v0 6 (Int.toNat x17_2) 3), (Qb h v0 6 (Int.toNat x17_2) 4), (Qb h v0 6 (Int.toNat x17_2) 5)]) Try.isAgg70 Try.sizeOf70 rfl rfl (f0.frs.row (hw.now hF)) (f0.ix h_t19) (rd_of (Q1 (f0.at h_t19)) rfl)) rfl rfl rfl ?_
    refine Ye (cs := [.int .i64 0, .int .i64 0, str [], .slice none 0 0, .slice none 0 0, .slice none 0 0]) Try.zeroValue70 rfl rfl rfl (fun b1 => ?_)
    refine Qi (i := 0) (vs := [.int .i64 t19.Tag, .int .i64 t19.Value.Kind, str t19.Value.Text, (Qb h v0 6 (Int.toNat x17_2) 3), (Qb h v0 6 (Int.toNat x17_2) 4), (Qb h v0 6 (Int.toNat x17_2) 5)]) (cs' := [.int .i64 t19.Tag, .int .i64 t19.Value.Kind, str t19.Value.Text, (Qb h v0 6 (Int.toNat x17_2) 3), (Qb h v0 6 (Int.toNat x17_2) 4), (Qb h v0 6 (Int.toNat x17_2) 5)]) Try.sizeOf70 rfl rfl rfl rfl rfl rfl (by simp only [List.all_cons, List.all_nil, (show FrN h 6 (Qb h v0 6 (Int.toNat x17_2) 5) g_tag_Entry t19.Value.Entries from (J2 (Jm (f0.at h_t19)))).one, (show FrS h 1 (Qb h v0 6 (Int.toNat x17_2) 3) (t19.Value.Ints.map J3) from (J9 (Jm (f0.at h_t19)))).one, (show FrS h 2 (Qb h v0 6 (Int.toNat x17_2) 4) (t19.Value.Ratios.map Jn) from (J8 (Jm (f0.at h_t19)))).one] <;> rfl) rfl rfl ?_
    refine Jf ?_
    refine J6 ?_
    refine Je ?_
    refine Jb ?_
    refine Ja rfl rfl rfl (Jl Try.runUnderlying70 rfl Try.sizeOf29 rfl rfl) ?_
    refine Ja rfl rfl rfl (Jl Try.runUnderlying29 rfl Try.sizeOf3 rfl rfl) ?_
    refine Jt (i := 0) (v := .int .i64 t19.Value.Kind) Try.isAgg3 rfl rfl rfl rfl rfl ?_
    refine Ja rfl rfl rfl (Qr rfl rfl) ?_
    refine Ja rfl rfl rfl (Jc (v := .bool (decide (t19.Value.Kind = 13))) rfl) ?_
    refine Jf ?_
    refine J4 (b := (decide (t19.Value.Kind = 13))) rfl (fun hb => ?_) (fun hb => ?_)
    ·have H31 := Jo hb H30; clear H30
     refine Jb ?_
     refine Ja rfl rfl rfl (Jl Try.runUnderlying70 rfl Try.sizeOf29 rfl rfl) ?_
     refine Ja rfl rfl rfl (Jl Try.runUnderlying29 rfl Try.sizeOf27 rfl rfl) ?_
     refine Jt (i := 0) (v := (Qb h v0 6 (Int.toNat x17_2) 5)) Try.isAgg27 rfl rfl rfl rfl rfl ?_
     refine Ja rfl rfl rfl (Jd (v := .int .i64 x1_2) rfl) ?_
     obtain ⟨t30, h_t30, H32⟩ := Ji H31; clear H31
     refine Qn (fun w hF hS => ih (Jy w) ((show FrN h 6 (Qb h v0 6 (Int.toNat x17_2) 5) g_tag_Entry t19.Value.Entries from (J2 (Jm (f0.at h_t19)))).mono (hw.now hF)) h_t30) Try.call79 rfl rfl rfl ?_
     refine Ja rfl rfl rfl (Jc (v := .int .i64 t30) rfl) ?_
     refine Jf ?_
     refine Jr t30 () 0 [] (by exact ⟨rfl, rfl, rfl, rfl, trivial⟩) (by decide) (by kernel_rfl) (by exact ⟨H32, trivial⟩) (Nat.lt_succ_self _)
    ·have H33 := Jp hb H30; clear H30
     refine Je ?_
     refine Jb ?_
     refine Ja rfl rfl rfl (Jl Try.runUnderlying70 rfl Try.sizeOf29 rfl rfl) ?_
     refine Qg (i := 0) (vs := [.int .i64 t19.Value.Kind, str t19.Value.Text, (Qb h v0 6 (Int.toNat x17_2) 3), (Qb h v0 6 (Int.toNat x17_2) 4), (Qb h v0 6 (Int.toNat x17_2) 5)]) Try.isAgg29 Try.sizeOf29 rfl rfl rfl rfl rfl ?_
     obtain ⟨t34, h_t34, H34⟩ := Ji H33; clear H33
     refine Qn (fun w hF hS => k97 (Jy w) ((show FrS h 1 (Qb h v0 6 (Int.toNat x17_2) 3) (t19.Value.Ints.map J3) from (J9 (Jm (f0.at h_t19)))).mono (hw.now hF)) ((show FrS h 2 (Qb h v0 6 (Int.toNat x17_2) 4) (t19.Value.Ratios.map Jn) from (J8 (Jm (f0.at h_t19)))).mono (hw.now hF)) ((show FrN h 6 (Qb h v0 6 (Int.toNat x17_2) 5) g_tag_Entry t19.Value.Entries from (J2 (Jm (f0.at h_t19)))).mono (hw.now hF)) h_t34) Try.call97 rfl rfl rfl ?_
     refine Ja rfl rfl rfl (Zn rfl rfl) ?_
     refine Ja rfl rfl rfl (Jc (v := .bool (decide (4 < t34))) rfl) ?_
     refine Jf ?_
     refine J4 (b := (decide (4 < t34))) rfl (fun hb => ?_) (fun hb => ?_)
     ·have H35 := Jo hb H34; clear H34
      exact Qp (Kd.p :: Kd.d [] _ :: Kd.p :: Kd.d [0] _ :: Kd.d [] _ :: Kd.p :: Kd.p :: []) 0 mixed (by
       refine Jj rfl rfl (Jd (v := .int .i64 x1_2) rfl) ?_
       have h_t37 := Qt H35
       have H36 := Ql H35
       refine d_call (k96 h_t37) Try.call96 rfl rfl ?_
       refine Jj rfl rfl (Jl Try.runUnderlying70 rfl Try.sizeOf29 rfl rfl) ?_
       refine d_loadN (i := 0) (vs := [.int .i64 t19.Value.Kind, str t19.Value.Text, (Qb h v0 6 (Int.toNat x17_2) 3), (Qb h v0 6 (Int.toNat x17_2) 4), (Qb h v0 6 (Int.toNat x17_2) 5)]) Try.isAgg29 Try.sizeOf29 rfl rfl rfl rfl ?_
       have h_t40 := Qt H36
       have H37 := Ql H36
       refine d_callD (fun w L' hF hS hi => k97 (Jy w) ((show FrS h 1 (Qb h v0 6 (Int.toNat x17_2) 3) (t19.Value.Ints.map J3) from (J9 (Jm (f0.at h_t19)))).mono (hw.now hF)) ((show FrS h 2 (Qb h v0 6 (Int.toNat x17_2) 4) (t19.Value.Ratios.map Jn) from (J8 (Jm (f0.at h_t19)))).mono (hw.now hF)) ((show FrN h 6 (Qb h v0 6 (Int.toNat x17_2) 5) g_tag_Entry t19.Value.Entries from (J2 (Jm (f0.at h_t19)))).mono (hw.now hF)) h_t40) Try.call97 rfl rfl ?_
       have h_t41 := Qt H37
       have H38 := Ql H37
       refine Jj rfl rfl (Qv rfl rfl h_t41) ?_
       refine Jj rfl rfl (Jc (v := .int .i64 (val (gI ((val (tag_even x1_2)) + (val (Wn t19.Value)))))) rfl) ?_
       refine Xm ?_
       refine Jr (val (gI ((val (tag_even x1_2)) + (val (Wn t19.Value))))) () 0 [] (by exact ⟨rfl, rfl, rfl, rfl, trivial⟩) (by decide) (by kernel_rfl) (by exact ⟨H38, trivial⟩) (Nat.lt_succ_self _)
       ) (by kernel_rfl)
     ·have H39 := Jp hb H34; clear H34
      refine Js ?_
      refine Jr x1_2 () 0 [] (by exact ⟨rfl, rfl, rfl, rfl, trivial⟩) (by decide) (by kernel_rfl) (by exact ⟨H39, trivial⟩) (Nat.lt_succ_self _)
   ·rintro x1_3 _ gg H28 _
    replace H28 : V2 x17_2 next1 x1_3 = some r := H28
    try dsimp only
    refine Jb ?_
    obtain ⟨t42, h_t42, H29⟩ := Ji H28; clear H28
    refine Ja rfl rfl rfl (Qv rfl rfl h_t42) ?_
    refine Ja rfl rfl rfl (Jd (v := .int .i64 t42) rfl) ?_
    refine Jf ?_
    refine Jr (x1_3, t42) () m1 [] (by exact ⟨rfl, rfl, rfl, rfl, trivial⟩) (by decide) (by kernel_rfl) (by exact ⟨(by subst hn1; exact H29), trivial⟩) (Nat.lt_succ_self _)
  ·have H40 := Jp hb H26; clear H26
   refine X7 ?_
   refine Je ?_
   refine Jb ?_
   refine Ja rfl rfl rfl (Jd (v := .int .i64 x1_2) rfl) ?_
   refine Ja rfl rfl rfl (Jc (v := .int .i64 x1_2) rfl) ?_
   refine Jf ?_
   refine Jq ?_
   obtain rfl := Option.some.inj H40
   refine J5 (v := .int .i64 x1_2) rfl rfl (fin rfl)
theorem k79 {a0 : (List T_tag_Entry)} {v0 : Value} {a1 : Int} {r : Int} {w : World} {h : Jx} (hw : Know h w X3) (f0 : FrN h 6 v0 g_tag_Entry a0) (H : tag_dirEnd a0 a1 = some r) : Does Try.prog 79 (List.toArray [v0, .int .i64 a1]) w (fun v w' => v = (.int .i64 r) ∧ Grow w w') := by
 obtain ⟨mm, hm⟩ := fix_it (show V6 (fun (self : ((List T_tag_Entry) × Int) → Option (Int)) (s : (List T_tag_Entry) × Int) => Y3 self s.1 s.2) (a0, a1) = some r from H)
 exact k79_it mm hw f0 hm
theorem k55 {a0 : T_tag_File} {v0_1 : Value} {r : Int} {w : World} {h : Jx} (hw : Know h w X3) (f0_1 : FrN h 1 v0_1 gs_tag_Entry a0.Dirs) (H : tag_size a0 = some r) : Does Try.prog 55 (List.toArray [.agg #[.bool a0.Big, v0_1]]) w (fun v w' => v = (.int .i64 r) ∧ Grow w w') := by
 refine enter (n := 18) Try.func55 rfl rfl rfl X3 [] (Sat.nil _ _) ?_
 refine Je ?_
 refine Jb ?_
 refine Yv (cs := [.bool a0.Big, v0_1]) rfl rfl rfl rfl (fun b1 => ?_)
 refine Ja rfl rfl rfl (Jc (v := .int .i64 0) rfl) ?_
 refine Jf ?_
 refine Je ?_
 refine Jb ?_
 refine Ja rfl rfl rfl (Jc (v := .int .i64 8) rfl) ?_
 refine Jf ?_
 refine Je ?_
 refine Je ?_
 refine Jb ?_
 refine Ja rfl rfl rfl (Jl Try.runUnderlying24 rfl Try.sizeOf22 rfl rfl) ?_
 refine Jt (i := 0) (v := v0_1) Try.isAgg22 rfl rfl rfl rfl rfl ?_
 refine Ja rfl rfl rfl (Q7 Try.underlying22 rfl f0_1) ?_
 refine Ja rfl rfl rfl (Jd (v := .int .i64 0) rfl) ?_
 refine Jf ?_
 refine J6 ?_
 refine c_dr 0 ?_
 try dsimp only [z1, z2, z3, z4, z5, z6, z7, z8]
 refine Z7 (σ := Int × Int) (τ := Unit) (fun next1 s => Z5 a0 next1 s.1 s.2) (fun s t => [(3, .int .i64 s.1), (7, v0_1), (8, .int .i64 (a0.Dirs.length : Int)), (9, .int .i64 s.2)]) (fun s t => []) (fun s t => True) (8, 0) () [] H (by exact trivial) (by exact ⟨rfl, rfl, rfl, rfl, trivial⟩) (by decide) rfl ?_
 rintro ⟨x3_2, x9_2⟩ _ m1 gg H7 _
 clear H
 replace H7 : Z5 a0 (it (fun next1 s => Z5 a0 next1 s.1 s.2) m1) x3_2 x9_2 = some r := H7
 generalize hn1 : it (fun next1 s => Z5 a0 next1 s.1 s.2) m1 = next1 at H7
 try dsimp only
 refine Je ?_
 refine Jb ?_
 refine Ja rfl rfl rfl (Xs rfl rfl) ?_
 refine Jf ?_
 refine Je ?_
 refine J4 (b := (decide (x9_2 < (a0.Dirs.length : Int)))) rfl (fun hb => ?_) (fun hb => ?_)
 ·have H8 := Jo hb H7; clear H7
  refine Js ?_
  refine Je ?_
  refine J6 ?_
  refine Je ?_
  refine Jb ?_
  obtain ⟨t11, h_t11, H9⟩ := Ji H8; clear H8
  refine Ja rfl rfl rfl (Qe Try.underlying22 Try.sizeOf27 rfl rfl f0_1.frs (f0_1.ix h_t11)) ?_
  refine Qu (fun w hF hS => Qa (f := (Wu h v0_1 1)) (i := x9_2) (sz := 1) (j := 0) (v := (Qb h v0_1 1 (Int.toNat x9_2) 0)) Try.isAgg27 rfl rfl (f0_1.frs.row (hw.now hF)) (f0_1.ix h_t11) (Ur (X8 (f0_1.at h_t11)) rfl)) rfl rfl rfl ?_
  refine Ja rfl rfl rfl (Jc (v := (Qb h v0_1 1 (Int.toNat x9_2) 0)) rfl) ?_
  refine Jf ?_
  refine Jb ?_
  refine Ja rfl rfl rfl (Jd (v := (Qb h v0_1 1 (Int.toNat x9_2) 0)) rfl) ?_
  refine Ja rfl rfl rfl (Jd (v := .int .i64 x3_2) rfl) ?_
  obtain ⟨t15, h_t15, H10⟩ := Ji H9; clear H9
  refine Qn (fun w hF hS => k79 (Jy w) ((show FrN h 6 (Qb h v0_1 1 (Int.toNat x9_2) 0) g_tag_Entry t11 from (f0_1.at h_t11)).mono (hw.now hF)) h_t15) Try.call79 rfl rfl rfl ?_
  refine Ja rfl rfl rfl (Jc (v := .int .i64 t15) rfl) ?_
  refine Jf ?_
  refine Jb ?_
  obtain ⟨t16, h_t16, H11⟩ := Ji H10; clear H10
  refine Ja rfl rfl rfl (Qv rfl rfl h_t16) ?_
  refine Ja rfl rfl rfl (Jd (v := .int .i64 t16) rfl) ?_
  refine Jf ?_
  refine Jr (t15, t16) () m1 [] (by exact ⟨rfl, rfl, rfl, rfl, trivial⟩) (by decide) (by kernel_rfl) (by exact ⟨(by subst hn1; exact H11), trivial⟩) (Nat.lt_succ_self _)
 ·have H12 := Jp hb H7; clear H7
  refine X7 ?_
  refine Je ?_
  refine Jb ?_
  refine Ja rfl rfl rfl (Jd (v := .int .i64 x3_2) rfl) ?_
  refine Ja rfl rfl rfl (Jc (v := .int .i64 x3_2) rfl) ?_
  refine Jf ?_
  refine Jq ?_
  obtain rfl := Option.some.inj H12
  refine J5 (v := .int .i64 x3_2) rfl rfl (fin rfl)
theorem k22 {a0 : T_tag_File} {v0_1 : Value} {r : Int} {w : World} {h : Jx} (hw : Know h w X3) (f0_1 : FrN h 1 v0_1 gs_tag_Entry a0.Dirs) (H : Zt a0 = some r) : Does Try.prog 22 (List.toArray [.agg #[.bool a0.Big, v0_1]]) w (fun v w' => v = (.int .i64 r) ∧ Grow w w') := by
 refine enter (n := 26) Try.func22 rfl rfl rfl X3 [] (Sat.nil _ _) ?_
 refine Je ?_
 refine Jb ?_
 refine Yv (cs := [.bool a0.Big, v0_1]) rfl rfl rfl rfl (fun b1 => ?_)
 refine Ja rfl rfl rfl (Jc (v := .int .i64 0) rfl) ?_
 refine Jf ?_
 refine Je ?_
 refine Je ?_
 refine Jb ?_
 refine Ja rfl rfl rfl (Jl Try.runUnderlying24 rfl Try.sizeOf22 rfl rfl) ?_
 refine Jt (i := 0) (v := v0_1) Try.isAgg22 rfl rfl rfl rfl rfl ?_
 refine Ja rfl rfl rfl (Q7 Try.underlying22 rfl f0_1) ?_
 refine Ja rfl rfl rfl (Zn rfl rfl) ?_
 refine Jf ?_
 refine J4 (b := (decide (20 < (a0.Dirs.length : Int)))) rfl (fun hb => ?_) (fun hb => ?_)
 ·have H15 := Jo hb H; clear H
  refine Je ?_
  refine Jb ?_
  refine Ja rfl rfl rfl (Jc (v := .int .i64 4) rfl) ?_
  refine Jf ?_
  refine Jq ?_
  obtain rfl := Option.some.inj H15
  refine J5 (v := .int .i64 4) rfl rfl (fin rfl)
 ·have H16 := Jp hb H; clear H
  refine Js ?_
  refine Q8 (r := r) (σ := Unit) (τ := Unit) (fun s => tag_Check_j1 a0) (fun s t => [(1, .pointer (some ⟨b1, 0, none⟩))]) (fun s t => [Jv b1 [.bool a0.Big, v0_1] 24]) (fun s t => True) ?_ ?_
  ·refine Je ?_
   refine Jb ?_
   refine Ja rfl rfl rfl (Jl Try.runUnderlying24 rfl Try.sizeOf22 rfl rfl) ?_
   refine Jt (i := 0) (v := v0_1) Try.isAgg22 rfl rfl rfl rfl rfl ?_
   refine Ja rfl rfl rfl (Q7 Try.underlying22 rfl f0_1) ?_
   refine Ja rfl rfl rfl (Jd (v := .int .i64 0) rfl) ?_
   refine Jf ?_
   refine J6 ?_
   refine Z7 (σ := Int) (τ := Unit) (fun next2 s => Zj a0 next2 s) (fun s t => [(1, .pointer (some ⟨b1, 0, none⟩)), (11, v0_1), (12, .int .i64 (a0.Dirs.length : Int)), (13, .int .i64 s)]) (fun s t => [Jv b1 [.bool a0.Big, v0_1] 24]) (fun s t => True) 0 () [0] H16 (by exact trivial) (by exact ⟨rfl, rfl, rfl, rfl, trivial⟩) (by decide) rfl ?_
   rintro x13_2 _ m2 gg H21 _
   clear H16
   replace H21 : Zj a0 (it (fun next2 s => Zj a0 next2 s) m2) x13_2 = some r := H21
   generalize hn2 : it (fun next2 s => Zj a0 next2 s) m2 = next2 at H21
   try dsimp only
   refine Je ?_
   refine Jb ?_
   refine Ja rfl rfl rfl (Xs rfl rfl) ?_
   refine Jf ?_
   refine Je ?_
   refine J4 (b := (decide (x13_2 < (a0.Dirs.length : Int)))) rfl (fun hb => ?_) (fun hb => ?_)
   ·have H22 := Jo hb H21; clear H21
    refine Js ?_
    refine Je ?_
    refine J6 ?_
    refine Je ?_
    refine Jb ?_
    obtain ⟨t15, h_t15, H23⟩ := Ji H22; clear H22
    refine Ja rfl rfl rfl (Qe Try.underlying22 Try.sizeOf27 rfl rfl f0_1.frs (f0_1.ix h_t15)) ?_
    refine Qu (fun w hF hS => Qa (f := (Wu h v0_1 1)) (i := x13_2) (sz := 1) (j := 0) (v := (Qb h v0_1 1 (Int.toNat x13_2) 0)) Try.isAgg27 rfl rfl (f0_1.frs.row (hw.now hF)) (f0_1.ix h_t15) (Ur (X8 (f0_1.at h_t15)) rfl)) rfl rfl rfl ?_
    refine Ja rfl rfl rfl (Jc (v := (Qb h v0_1 1 (Int.toNat x13_2) 0)) rfl) ?_
    refine Jf ?_
    refine Je ?_
    refine Jb ?_
    refine Ja rfl rfl rfl (Jd (v := (Qb h v0_1 1 (Int.toNat x13_2) 0)) rfl) ?_
    obtain ⟨t18, h_t18, H24⟩ := Ji H23; clear H23
    refine Qn (fun w hF hS => k54 (Jy w) ((show FrN h 6 (Qb h v0_1 1 (Int.toNat x13_2) 0) g_tag_Entry t15 from (f0_1.at h_t15)).mono (hw.now hF)) h_t18) Try.call54 rfl rfl rfl ?_
    refine Ja rfl rfl rfl (Jc (v := .int .i64 t18) rfl) ?_
    refine Jf ?_
    refine Je ?_
    refine Jb ?_
    refine Ja rfl rfl rfl (Jd (v := .int .i64 t18) rfl) ?_
    refine Ja rfl rfl rfl (Y9 rfl rfl) ?_
    refine Jf ?_
    refine J4 (b := (decide (t18 ≠ 0))) rfl (fun hb => ?_) (fun hb => ?_)
    ·have H25 := Jo hb H24; clear H24
     refine Je ?_
     refine Jb ?_
     refine Ja rfl rfl rfl (Jd (v := .int .i64 t18) rfl) ?_
     refine Ja rfl rfl rfl (Jc (v := .int .i64 t18) rfl) ?_
     refine Jf ?_
     refine Jq ?_
     obtain rfl := Option.some.inj H25
     refine J5 (v := .int .i64 t18) rfl rfl (fin rfl)
    ·have H26 := Jp hb H24; clear H24
     refine Js ?_
     refine Jb ?_
     obtain ⟨t22, h_t22, H27⟩ := Ji H26; clear H26
     refine Ja rfl rfl rfl (Qv rfl rfl h_t22) ?_
     refine Ja rfl rfl rfl (Jd (v := .int .i64 t22) rfl) ?_
     refine Jf ?_
     refine Jr t22 () m2 [0] (by exact ⟨rfl, rfl, rfl, rfl, trivial⟩) (by decide) (by kernel_rfl) (by exact ⟨(by subst hn2; exact H27), trivial⟩) (Nat.lt_succ_self _)
   ·have H28 := Jp hb H21; clear H21
    refine X7 ?_
    refine Jr () () 0 [0] (by exact ⟨rfl, trivial⟩) (by decide) (by kernel_rfl) (by exact ⟨H28, trivial⟩) (Nat.lt_succ_self _)
  ·rintro _ _ gg H17 _
   replace H17 : tag_Check_j1 a0 = some r := H17
   try dsimp only
   refine Je ?_
   refine Je ?_
   refine Jb ?_
   refine Qg (i := 0) (vs := [.bool a0.Big, v0_1]) Try.isAgg24 Try.sizeOf24 rfl rfl rfl rfl rfl ?_
   obtain ⟨t24, h_t24, H18⟩ := Ji H17; clear H17
   refine Qn (fun w hF hS => k55 (Jy w) (f0_1.mono (hw.now hF)) h_t24) Try.call55 rfl rfl rfl ?_
   refine Ja rfl rfl rfl (Zn rfl rfl) ?_
   refine Jf ?_
   refine J4 (b := (decide (65000 < t24))) rfl (fun hb => ?_) (fun hb => ?_)
   ·have H19 := Jo hb H18; clear H18
    refine Je ?_
    refine Jb ?_
    refine Ja rfl rfl rfl (Jc (v := .int .i64 4) rfl) ?_
    refine Jf ?_
    refine Jq ?_
    obtain rfl := Option.some.inj H19
    refine J5 (v := .int .i64 4) rfl rfl (fin rfl)
   ·have H20 := Jp hb H18; clear H18
    refine Js ?_
    refine Je ?_
    refine Jb ?_
    refine Ja rfl rfl rfl (Jc (v := .int .i64 0) rfl) ?_
    refine Jf ?_
    refine Jq ?_
    obtain rfl := Option.some.inj H20
    refine J5 (v := .int .i64 0) rfl rfl (fin rfl)
theorem k26 {a0 : (List Int)} {v0 : Value} {r : (List Int)} {w : World} {h : Jx} (hw : Know h w X3) (f0 : FrS h 1 v0 (a0.map J3)) (H : Jk a0 = some r) : Does Try.prog 26 (List.toArray [v0]) w (fun v w' => ∃ x : (Option Addr × Nat), v = (.slice x.1 r.length x.2) ∧ Turn w w' X3 (Xa 3 1 (.slice x.1 r.length x.2) r.length (r.map J3))) := by
 refine enter (n := 8) Try.func26 rfl rfl rfl X3 [] (Sat.nil _ _) ?_
 refine Je ?_
 refine Jb ?_
 refine Ja rfl rfl rfl (Jc (v := .slice none 0 0) rfl) ?_
 refine Jf ?_
 refine Je ?_
 refine Je ?_
 refine Jb ?_
 refine Ja rfl rfl rfl (Jd (v := v0) rfl) ?_
 refine Ja rfl rfl rfl (r_eqlNilS Try.underlying25 f0 rfl rfl) ?_
 refine Jf ?_
 refine J4 (b := isNilV v0) rfl (fun hb => ?_) (fun hb => ?_)
 ·have hn_ : a0 = [] := f0.nilV hb
  have H3 : some ([] : List Int) = some r := by have h_ := H; rw [hn_] at h_; exact h_
  refine Je ?_
  refine Jb ?_
  refine Ja rfl rfl rfl (Jc (v := .slice none 0 0) rfl) ?_
  refine Jf ?_
  refine Jq ?_
  refine U2 3 1 ?_
  obtain rfl := Option.some.inj H3
  refine J5 (v := .slice ((none, 0) : Option Addr × Nat).1 ([] : List Int).length ((none, 0) : Option Addr × Nat).2) rfl rfl (Wf ((none, 0) : Option Addr × Nat) (i := 0) rfl rfl (Imp.refl _))
 ·skip
  refine Js ?_
  refine Je ?_
  refine Jb ?_
  refine Wm (vs := []) (cs := []) Try.underlying25 Try.sizeOf3 Try.zeroValue3 rfl rfl rfl rfl rfl rfl rfl (fun b1 => ?_)
  refine Ja rfl rfl rfl (Jd (v := v0) rfl) ?_
  refine Xq 0 rfl (imp_box (m := 0) (E := 3) (sz := 1) (xs := (([] : List Int)).map J3) rfl rfl rfl ⟨rfl, by decide⟩) ?_
  obtain ⟨l7, h_l7, H4⟩ := Ji H; clear H
  refine Zg (turns_appG (i := 0) (hn := rfl) (rds := []) (p := ((some ⟨b1, 0, none⟩, 0) : Option Addr × Nat)) (sz := 1) (by_ := 8) (f := J3) (ys := ([] : List Int)) (ls := a0) (V := v0) Try.underlying25 (Zk Try.typeInfo3) rfl rfl rfl rfl rfl rfl rfl rfl f0.eq (List.length_map _) (fun w L' hF hS hi => (f0).row (hw.now hF)) (fun _ => rfl) (fun _ => rfl) h_l7) rfl rfl rfl (fun p => ?_)
  refine Ja rfl rfl rfl (Jc (v := .slice p.1 l7.length p.2) rfl) ?_
  refine Jf ?_
  refine Jq ?_
  obtain rfl := Option.some.inj H4
  refine J5 (v := .slice p.1 l7.length p.2) rfl rfl (Wf p (i := 0) rfl rfl (Imp.refl _))
theorem k25 {a : Option Addr} {n c : Nat} (hc : n ≤ c) : Ret Try.prog 25 [.slice a n c] (.slice (Qz a 0 n 1) n n) := by
  refine Zm (n := 9) Try.func25 rfl rfl rfl (fun wd => ?_)
  refine Je ?_
  refine Jb ?_
  refine Ja rfl rfl rfl (Jc (v := .slice none 0 0) rfl) ?_
  refine Jf ?_
  refine Je ?_
  refine Jb ?_
  refine Ja rfl rfl rfl (Jd (v := .slice a n c) rfl) ?_
  refine Ja rfl rfl rfl (Jd (v := .slice a n c) rfl) ?_
  refine Ja rfl rfl rfl (r_len Try.underlying25 rfl) ?_
  refine Ja rfl rfl rfl (Jd (v := .slice a n c) rfl) ?_
  refine Ja rfl rfl rfl (r_len Try.underlying25 rfl) ?_
  refine Ja rfl rfl rfl (r_sliceHM (a := a) (m := n) (c := c) (h := (n : Int)) (q := (n : Int)) Try.underlying25 Try.sizeOf3 rfl rfl rfl (Int.natCast_nonneg n) (Int.le_refl _) (Int.ofNat_le.2 hc)) ?_
  refine Ja rfl rfl rfl (Jc (v := .slice (Qz a 0 n 1) n n) rfl) ?_
  refine Jf ?_
  refine Jq ?_
  exact J5 (v := .slice (Qz a 0 n 1) n n) rfl rfl (fin rfl)
theorem kF25 {H : Jx} {v : Value} {xs : List (List Value)} (s : FrS H 1 v xs) : Ret Try.prog 25 [v] (clipV 1 v) := by
  obtain ⟨a, c, rfl, h1, _, _⟩ := s.out
  exact k25 h1
theorem k45 {a0 : Int} {r : Int} (H : R_wide a0 = some r) : Ret Try.prog 45 [.int .i64 a0] (.int .i64 r) := by
 refine Zm (n := 16) Try.func45 rfl rfl rfl (fun wd => ?_)
 refine Je ?_
 refine Jb ?_
 refine Ja rfl rfl rfl (Jc (v := .int .i64 0) rfl) ?_
 refine Jf ?_
 refine Je ?_
 refine Je ?_
 refine Jb ?_
 refine Ja rfl rfl rfl (Jd (v := .int .i64 a0) rfl) ?_
 refine Jf ?_
 refine J6 ?_
 refine Q8 (r := r) (σ := Bool) (τ := Unit) (fun s => R_wide_j1 a0 s) (fun s t => [(3, .int .i64 a0), (4, .bool s)]) (fun s t => []) (fun s t => True) ?_ ?_
 ·refine Je ?_
  refine Jb ?_
  refine Ja rfl rfl rfl (Qr rfl rfl) ?_
  refine Ja rfl rfl rfl (Jc (v := .bool (decide (a0 = 1))) rfl) ?_
  refine Jf ?_
  refine J4 (b := (decide (a0 = 1))) rfl (fun hb => ?_) (fun hb => ?_)
  ·have H47 := Jo hb H; clear H
   refine Js ?_
   refine Jr (decide (a0 = 1)) () 0 [] (by exact ⟨rfl, rfl, trivial⟩) (by decide) (by kernel_rfl) (by exact ⟨H47, trivial⟩) (Nat.lt_succ_self _)
  ·have H48 := Jp hb H; clear H
   refine Je ?_
   refine Jb ?_
   refine Ja rfl rfl rfl (Qr rfl rfl) ?_
   refine Ja rfl rfl rfl (Jc (v := .bool (decide (a0 = 2))) rfl) ?_
   refine Jf ?_
   refine J4 (b := (decide (a0 = 2))) rfl (fun hb => ?_) (fun hb => ?_)
   ·have H49 := Jo hb H48; clear H48
    refine Js ?_
    refine Jr (decide (a0 = 2)) () 0 [] (by exact ⟨rfl, rfl, trivial⟩) (by decide) (by kernel_rfl) (by exact ⟨H49, trivial⟩) (Nat.lt_succ_self _)
   ·have H50 := Jp hb H48; clear H48
    refine Jb ?_
    refine Ja rfl rfl rfl (Qr rfl rfl) ?_
    refine Ja rfl rfl rfl (Jc (v := .bool (decide (a0 = 7))) rfl) ?_
    refine Jf ?_
    refine Jr (decide (a0 = 7)) () 0 [] (by exact ⟨rfl, rfl, trivial⟩) (by decide) (by kernel_rfl) (by exact ⟨H50, trivial⟩) (Nat.lt_succ_self _)
 ·rintro x4 _ gg H26 _
  replace H26 : R_wide_j1 a0 x4 = some r := H26
  try dsimp only
  refine J4 (b := x4) rfl (fun hb => ?_) (fun hb => ?_)
  ·have H27 := Jo hb H26; clear H26
   refine Je ?_
   refine Jb ?_
   refine Ja rfl rfl rfl (Jc (v := .int .i64 1) rfl) ?_
   refine Jf ?_
   refine Jq ?_
   obtain rfl := Option.some.inj H27
   refine J5 (v := .int .i64 1) rfl rfl (fin rfl)
  ·have H28 := Jp hb H26; clear H26
   refine Je ?_
   refine Jb ?_
   refine Ja rfl rfl rfl (Qr rfl rfl) ?_
   refine Ja rfl rfl rfl (Jc (v := .bool (decide (a0 = 3))) rfl) ?_
   refine Jf ?_
   refine J4 (b := (decide (a0 = 3))) rfl (fun hb => ?_) (fun hb => ?_)
   ·have H29 := Jo hb H28; clear H28
    refine Je ?_
    refine Jb ?_
    refine Ja rfl rfl rfl (Jc (v := .int .i64 2) rfl) ?_
    refine Jf ?_
    refine Jq ?_
    obtain rfl := Option.some.inj H29
    refine J5 (v := .int .i64 2) rfl rfl (fin rfl)
   ·have H30 := Jp hb H28; clear H28
    refine Je ?_
    refine Je ?_
    refine Jb ?_
    refine Ja rfl rfl rfl (Qr rfl rfl) ?_
    refine Ja rfl rfl rfl (Jc (v := .bool (decide (a0 = 4))) rfl) ?_
    refine Jf ?_
    refine J4 (b := (decide (a0 = 4))) rfl (fun hb => ?_) (fun hb => ?_)
    ·have H31 := Jo hb H30; clear H30
     refine Js ?_
     refine J4 (b := (decide (a0 = 4))) rfl (fun hb => ?_) (fun hb => ?_)
     ·have H32 := Jo hb H31; clear H31
      refine Je ?_
      refine Jb ?_
      refine Ja rfl rfl rfl (Jc (v := .int .i64 4) rfl) ?_
      refine Jf ?_
      refine Jq ?_
      obtain rfl := Option.some.inj H32
      refine J5 (v := .int .i64 4) rfl rfl (fin rfl)
     ·have H33 := Jp hb H31; clear H31
      refine Je ?_
      refine Jb ?_
      refine Ja rfl rfl rfl (Qr rfl rfl) ?_
      refine Ja rfl rfl rfl (Jc (v := .bool (decide (a0 = 5))) rfl) ?_
      refine Jf ?_
      refine J4 (b := (decide (a0 = 5))) rfl (fun hb => ?_) (fun hb => ?_)
      ·have H34 := Jo hb H33; clear H33
       refine Je ?_
       refine Jb ?_
       refine Ja rfl rfl rfl (Jc (v := .int .i64 8) rfl) ?_
       refine Jf ?_
       refine Jq ?_
       obtain rfl := Option.some.inj H34
       refine J5 (v := .int .i64 8) rfl rfl (fin rfl)
      ·have H35 := Jp hb H33; clear H33
       refine Js ?_
       refine Je ?_
       refine Jb ?_
       refine Ja rfl rfl rfl (Jc (v := .int .i64 0) rfl) ?_
       refine Jf ?_
       refine Jq ?_
       obtain rfl := Option.some.inj H35
       refine J5 (v := .int .i64 0) rfl rfl (fin rfl)
    ·have H36 := Jp hb H30; clear H30
     refine Je ?_
     refine Jb ?_
     refine Ja rfl rfl rfl (Qr rfl rfl) ?_
     refine Ja rfl rfl rfl (Jc (v := .bool (decide (a0 = 9))) rfl) ?_
     refine Jf ?_
     refine J4 (b := (decide (a0 = 9))) rfl (fun hb => ?_) (fun hb => ?_)
     ·have H37 := Jo hb H36; clear H36
      refine Js ?_
      refine J4 (b := (decide (a0 = 9))) rfl (fun hb => ?_) (fun hb => ?_)
      ·have H38 := Jo hb H37; clear H37
       refine Je ?_
       refine Jb ?_
       refine Ja rfl rfl rfl (Jc (v := .int .i64 4) rfl) ?_
       refine Jf ?_
       refine Jq ?_
       obtain rfl := Option.some.inj H38
       refine J5 (v := .int .i64 4) rfl rfl (fin rfl)
      ·have H39 := Jp hb H37; clear H37
       refine Je ?_
       refine Jb ?_
       refine Ja rfl rfl rfl (Qr rfl rfl) ?_
       refine Ja rfl rfl rfl (Jc (v := .bool (decide (a0 = 5))) rfl) ?_
       refine Jf ?_
       refine J4 (b := (decide (a0 = 5))) rfl (fun hb => ?_) (fun hb => ?_)
       ·have H40 := Jo hb H39; clear H39
        refine Je ?_
        refine Jb ?_
        refine Ja rfl rfl rfl (Jc (v := .int .i64 8) rfl) ?_
        refine Jf ?_
        refine Jq ?_
        obtain rfl := Option.some.inj H40
        refine J5 (v := .int .i64 8) rfl rfl (fin rfl)
       ·have H41 := Jp hb H39; clear H39
        refine Js ?_
        refine Je ?_
        refine Jb ?_
        refine Ja rfl rfl rfl (Jc (v := .int .i64 0) rfl) ?_
        refine Jf ?_
        refine Jq ?_
        obtain rfl := Option.some.inj H41
        refine J5 (v := .int .i64 0) rfl rfl (fin rfl)
     ·have H42 := Jp hb H36; clear H36
      refine Jb ?_
      refine Ja rfl rfl rfl (Qr rfl rfl) ?_
      refine Ja rfl rfl rfl (Jc (v := .bool (decide (a0 = 13))) rfl) ?_
      refine Jf ?_
      refine J4 (b := (decide (a0 = 13))) rfl (fun hb => ?_) (fun hb => ?_)
      ·have H43 := Jo hb H42; clear H42
       refine Je ?_
       refine Jb ?_
       refine Ja rfl rfl rfl (Jc (v := .int .i64 4) rfl) ?_
       refine Jf ?_
       refine Jq ?_
       obtain rfl := Option.some.inj H43
       refine J5 (v := .int .i64 4) rfl rfl (fin rfl)
      ·have H44 := Jp hb H42; clear H42
       refine Je ?_
       refine Jb ?_
       refine Ja rfl rfl rfl (Qr rfl rfl) ?_
       refine Ja rfl rfl rfl (Jc (v := .bool (decide (a0 = 5))) rfl) ?_
       refine Jf ?_
       refine J4 (b := (decide (a0 = 5))) rfl (fun hb => ?_) (fun hb => ?_)
       ·have H45 := Jo hb H44; clear H44
        refine Je ?_
        refine Jb ?_
        refine Ja rfl rfl rfl (Jc (v := .int .i64 8) rfl) ?_
        refine Jf ?_
        refine Jq ?_
        obtain rfl := Option.some.inj H45
        refine J5 (v := .int .i64 8) rfl rfl (fin rfl)
       ·have H46 := Jp hb H44; clear H44
        refine Js ?_
        refine Je ?_
        refine Jb ?_
        refine Ja rfl rfl rfl (Jc (v := .int .i64 0) rfl) ?_
        refine Jf ?_
        refine Jq ?_
        obtain rfl := Option.some.inj H46
        refine J5 (v := .int .i64 0) rfl rfl (fin rfl)
theorem k46 {a0 : Int} {r : Int × Int} (H : R_limits a0 = some r) : Ret Try.prog 46 [.int .i64 a0] (.tuple #[.int .i64 r.1, .int .i64 r.2]) := by
 refine Zm (n := 11) Try.func46 rfl rfl rfl (fun wd => ?_)
 refine Je ?_
 refine Jb ?_
 refine Ja rfl rfl rfl (Jc (v := .int .i64 0) rfl) ?_
 refine Ja rfl rfl rfl (Jc (v := .int .i64 0) rfl) ?_
 refine Jf ?_
 refine Je ?_
 refine Je ?_
 refine Jb ?_
 refine Ja rfl rfl rfl (Jd (v := .int .i64 a0) rfl) ?_
 refine Jf ?_
 refine J6 ?_
 refine Je ?_
 refine Jb ?_
 refine Ja rfl rfl rfl (Qr rfl rfl) ?_
 refine Ja rfl rfl rfl (Jc (v := .bool (decide (a0 = 1))) rfl) ?_
 refine Jf ?_
 refine J4 (b := (decide (a0 = 1))) rfl (fun hb => ?_) (fun hb => ?_)
 ·have H7 := Jo hb H; clear H
  refine Je ?_
  refine Jb ?_
  refine Ja rfl rfl rfl (Jc (v := .int .i64 0) rfl) ?_
  refine Ja rfl rfl rfl (Jc (v := .int .i64 255) rfl) ?_
  refine Jf ?_
  refine Jq ?_
  obtain rfl := Option.some.inj H7
  refine ret2 (v1 := .int .i64 0) (v2 := .int .i64 255) rfl rfl rfl (fin rfl)
 ·have H8 := Jp hb H; clear H
  refine Je ?_
  refine Jb ?_
  refine Ja rfl rfl rfl (Qr rfl rfl) ?_
  refine Ja rfl rfl rfl (Jc (v := .bool (decide (a0 = 3))) rfl) ?_
  refine Jf ?_
  refine J4 (b := (decide (a0 = 3))) rfl (fun hb => ?_) (fun hb => ?_)
  ·have H9 := Jo hb H8; clear H8
   refine Je ?_
   refine Jb ?_
   refine Ja rfl rfl rfl (Jc (v := .int .i64 0) rfl) ?_
   refine Ja rfl rfl rfl (Jc (v := .int .i64 65535) rfl) ?_
   refine Jf ?_
   refine Jq ?_
   obtain rfl := Option.some.inj H9
   refine ret2 (v1 := .int .i64 0) (v2 := .int .i64 65535) rfl rfl rfl (fin rfl)
  ·have H10 := Jp hb H8; clear H8
   refine Je ?_
   refine Jb ?_
   refine Ja rfl rfl rfl (Qr rfl rfl) ?_
   refine Ja rfl rfl rfl (Jc (v := .bool (decide (a0 = 9))) rfl) ?_
   refine Jf ?_
   refine J4 (b := (decide (a0 = 9))) rfl (fun hb => ?_) (fun hb => ?_)
   ·have H11 := Jo hb H10; clear H10
    refine Je ?_
    refine Jb ?_
    refine Ja rfl rfl rfl (Jc (v := .int .i64 (-2147483648)) rfl) ?_
    refine Ja rfl rfl rfl (Jc (v := .int .i64 2147483647) rfl) ?_
    refine Jf ?_
    refine Jq ?_
    obtain rfl := Option.some.inj H11
    refine ret2 (v1 := .int .i64 (-2147483648)) (v2 := .int .i64 2147483647) rfl rfl rfl (fin rfl)
   ·have H12 := Jp hb H10; clear H10
    refine Js ?_
    refine Je ?_
    refine Jb ?_
    refine Ja rfl rfl rfl (Jc (v := .int .i64 0) rfl) ?_
    refine Ja rfl rfl rfl (Jc (v := .int .i64 4294967295) rfl) ?_
    refine Jf ?_
    refine Jq ?_
    obtain rfl := Option.some.inj H12
    refine ret2 (v1 := .int .i64 0) (v2 := .int .i64 4294967295) rfl rfl rfl (fin rfl)
theorem ext86 (s : List UInt8) (c r : Int) (h : gIxB s c = some r) (w : World) : (callFunc 86 (List.toArray [str s, .int .u8 c])).run Try.prog w = .ok (.value (.int .i64 r)) w := by
  have h0 : (callFunc 86 #[str s, .int .u8 c]).run Try.prog w = (do pure (.value (← Extern.BytealgIndexByte.indexByte #[str s, .int .u8 c])) : Sem Next).run Try.prog w := by kernel_rfl
  rw [h0]
  simp only [Sem.run_bind, Go.Lx.run_ixB h, Result.andThen_ok, Sem.run_pure]
theorem k71 {a0 : (List UInt8)} {a1 : Int} {r : Int} (H : Zd a0 a1 = some r) : Ret Try.prog 71 [str a0, .int .u8 a1] (.int .i64 r) := by
 refine Zm (n := 8) Try.func71 rfl rfl rfl (fun wd => ?_)
 refine Je ?_
 refine Jb ?_
 refine Ja rfl rfl rfl (Jc (v := .int .i64 0) rfl) ?_
 refine Jf ?_
 refine Je ?_
 refine Jb ?_
 refine Ja rfl rfl rfl (Jd (v := str a0) rfl) ?_
 refine Ja rfl rfl rfl (Jd (v := .int .u8 a1) rfl) ?_
 obtain ⟨t7, h_t7, H2⟩ := Ji H; clear H
 refine Ja rfl rfl rfl (r_ext (args := [str a0, .int .u8 a1]) (ext86 _ _ _ h_t7) rfl) ?_
 refine Ja rfl rfl rfl (Jc (v := .int .i64 t7) rfl) ?_
 refine Jf ?_
 refine Jq ?_
 obtain rfl := Option.some.inj H2
 refine J5 (v := .int .i64 t7) rfl rfl (fin rfl)
theorem k47 {a0 : (List UInt8)} {a1 : Int} {r : Int} (H : W1 a0 a1 = some r) : Ret Try.prog 47 [str a0, .int .u8 a1] (.int .i64 r) := by
 refine Zm (n := 8) Try.func47 rfl rfl rfl (fun wd => ?_)
 refine Je ?_
 refine Jb ?_
 refine Ja rfl rfl rfl (Jc (v := .int .i64 0) rfl) ?_
 refine Jf ?_
 refine Je ?_
 refine Jb ?_
 refine Ja rfl rfl rfl (Jd (v := str a0) rfl) ?_
 refine Ja rfl rfl rfl (Jd (v := .int .u8 a1) rfl) ?_
 obtain ⟨t7, h_t7, H2⟩ := Ji H; clear H
 refine Vo (k71 h_t7) Try.call71 rfl rfl rfl ?_
 refine Ja rfl rfl rfl (Jc (v := .int .i64 t7) rfl) ?_
 refine Jf ?_
 refine Jq ?_
 obtain rfl := Option.some.inj H2
 refine J5 (v := .int .i64 t7) rfl rfl (fin rfl)
theorem k17 {a0 : T_tag_Value} {v0_2 : Value} {v0_3 : Value} {v0_4 : Value} {r : Int} {w : World} {h : Jx} (hw : Know h w X3) (f0_2 : FrS h 1 v0_2 (a0.Ints.map J3)) (f0_3 : FrS h 2 v0_3 (a0.Ratios.map Jn)) (f0_4 : FrN h 6 v0_4 g_tag_Entry a0.Entries) (H : Wl a0 = some r) : Does Try.prog 17 (List.toArray [.agg #[.int .i64 a0.Kind, str a0.Text, v0_2, v0_3, v0_4]]) w (fun v w' => v = (.int .i64 r) ∧ Grow w w') := by
 refine enter (n := 139) Try.func17 rfl rfl rfl X3 [] (Sat.nil _ _) ?_
 refine Je ?_
 refine Jb ?_
 refine Yv (cs := [.int .i64 a0.Kind, str a0.Text, v0_2, v0_3, v0_4]) rfl rfl rfl rfl (fun b2 => ?_)
 refine Ja rfl rfl rfl (Jc (v := .int .i64 0) rfl) ?_
 refine Jf ?_
 refine Q8 (r := r) (σ := Bool × Bool) (τ := Unit) (fun s => Xc a0 s.1 s.2) (fun s t => [(1, .pointer (some ⟨b2, 0, none⟩)), (3, .bool s.1), (4, .bool s.2)]) (fun s t => [Jv b2 [.int .i64 a0.Kind, str a0.Text, v0_2, v0_3, v0_4] 29]) (fun s t => True) ?_ ?_
 ·exact Qp (Kd.p :: Kd.d [0] _ :: Kd.p :: Kd.p :: Kd.p :: Kd.d [0] _ :: Kd.p :: Kd.p :: Kd.p :: Kd.d [0] _ :: Kd.p :: Kd.p :: Kd.p :: Kd.d [0] _ :: Kd.p :: Kd.p :: Kd.p :: Kd.p :: Kd.d [0] _ :: Kd.p :: Kd.p :: Kd.p :: Kd.p :: Kd.d [0] _ :: Kd.p :: Kd.p :: Kd.p :: Kd.p :: []) 0 mixed (by
   refine Jj rfl rfl (Jl Try.runUnderlying29 rfl Try.sizeOf3 rfl rfl) ?_
   refine Qx (i := 0) (v := .int .i64 a0.Kind) Try.isAgg3 rfl rfl rfl rfl ?_
   refine Jj rfl rfl (Qr rfl rfl) ?_
   refine Jj rfl rfl (Jd (v := .bool (decide (a0.Kind = 2))) rfl) ?_
   refine Vf (fun hb => ?_) (fun hb => ?_)
   ·have H141 := Jo hb H
    refine Jw rfl rfl ?_
    refine Jw rfl rfl ?_
    refine Jw rfl rfl ?_
    refine Jj rfl rfl (Jz (v := .bool true) rfl rfl) ?_
    refine Jj rfl rfl (Jl Try.runUnderlying29 rfl Try.sizeOf3 rfl rfl) ?_
    refine Qx (i := 0) (v := .int .i64 a0.Kind) Try.isAgg3 rfl rfl rfl rfl ?_
    refine Jj rfl rfl (Qr rfl rfl) ?_
    refine Jj rfl rfl (Jd (v := .bool (decide (a0.Kind = 1))) rfl) ?_
    refine Vf (fun hb => ?_) (fun hb => ?_)
    ·have H142 := Jo hb H141
     refine Jw rfl rfl ?_
     refine Jw rfl rfl ?_
     refine Jw rfl rfl ?_
     refine Jj rfl rfl (Jz (v := .bool true) rfl rfl) ?_
     refine Jj rfl rfl (Jd (v := .bool true) rfl) ?_
     refine Jw rfl rfl ?_
     refine Jw rfl rfl ?_
     refine Jw rfl rfl ?_
     refine Jj rfl rfl (Jz (v := .bool true) rfl rfl) ?_
     refine Jj rfl rfl (Jd (v := .bool true) rfl) ?_
     refine Jw rfl rfl ?_
     refine Jw rfl rfl ?_
     refine Jw rfl rfl ?_
     refine Jj rfl rfl (Jz (v := .bool true) rfl rfl) ?_
     refine Jj rfl rfl (Jc (v := .bool true) rfl) ?_
     refine Jj rfl rfl (Jc (v := .bool true) rfl) ?_
     refine Xm ?_
     refine Jr (true, true) () 0 [0] (by exact ⟨rfl, rfl, rfl, trivial⟩) (by decide) (by kernel_rfl) (by exact ⟨H142, trivial⟩) (Nat.lt_succ_self _)
    ·have H143 := Jp hb H141
     refine Jj rfl rfl (Jl Try.runUnderlying29 rfl Try.sizeOf3 rfl rfl) ?_
     refine Qx (i := 0) (v := .int .i64 a0.Kind) Try.isAgg3 rfl rfl rfl rfl ?_
     refine Jj rfl rfl (Qr rfl rfl) ?_
     refine Jj rfl rfl (J0 (v := .bool (decide (a0.Kind = 3))) rfl rfl) ?_
     refine Jj rfl rfl (Jd (v := .bool (decide (a0.Kind = 3))) rfl) ?_
     refine Vf (fun hb => ?_) (fun hb => ?_)
     ·have H144 := Jo hb H143
      refine Jw rfl rfl ?_
      refine Jw rfl rfl ?_
      refine Jw rfl rfl ?_
      refine Jj rfl rfl (Jz (v := .bool true) rfl rfl) ?_
      refine Jj rfl rfl (Jd (v := .bool true) rfl) ?_
      refine Jw rfl rfl ?_
      refine Jw rfl rfl ?_
      refine Jw rfl rfl ?_
      refine Jj rfl rfl (Jz (v := .bool true) rfl rfl) ?_
      refine Jj rfl rfl (Jc (v := .bool true) rfl) ?_
      refine Jj rfl rfl (Jc (v := .bool true) rfl) ?_
      refine Xm ?_
      refine Jr (true, true) () 0 [0] (by exact ⟨rfl, rfl, rfl, trivial⟩) (by decide) (by kernel_rfl) (by exact ⟨H144, trivial⟩) (Nat.lt_succ_self _)
     ·have H145 := Jp hb H143
      refine Jj rfl rfl (Jl Try.runUnderlying29 rfl Try.sizeOf3 rfl rfl) ?_
      refine Qx (i := 0) (v := .int .i64 a0.Kind) Try.isAgg3 rfl rfl rfl rfl ?_
      refine Jj rfl rfl (Qr rfl rfl) ?_
      refine Jj rfl rfl (J0 (v := .bool (decide (a0.Kind = 4))) rfl rfl) ?_
      refine Jj rfl rfl (Jd (v := .bool (decide (a0.Kind = 4))) rfl) ?_
      refine Vf (fun hb => ?_) (fun hb => ?_)
      ·have H146 := Jo hb H145
       refine Jw rfl rfl ?_
       refine Jw rfl rfl ?_
       refine Jw rfl rfl ?_
       refine Jj rfl rfl (Jz (v := .bool true) rfl rfl) ?_
       refine Jj rfl rfl (Jc (v := .bool true) rfl) ?_
       refine Jj rfl rfl (Jc (v := .bool true) rfl) ?_
       refine Xm ?_
       refine Jr (true, true) () 0 [0] (by exact ⟨rfl, rfl, rfl, trivial⟩) (by decide) (by kernel_rfl) (by exact ⟨H146, trivial⟩) (Nat.lt_succ_self _)
      ·have H147 := Jp hb H145
       refine Jj rfl rfl (Jl Try.runUnderlying29 rfl Try.sizeOf3 rfl rfl) ?_
       refine Qx (i := 0) (v := .int .i64 a0.Kind) Try.isAgg3 rfl rfl rfl rfl ?_
       refine Jj rfl rfl (Qr rfl rfl) ?_
       refine Jj rfl rfl (J0 (v := .bool (decide (a0.Kind = 9))) rfl rfl) ?_
       refine Jj rfl rfl (Jc (v := .bool true) rfl) ?_
       refine Jj rfl rfl (Jc (v := .bool (decide (a0.Kind = 9))) rfl) ?_
       refine Xm ?_
       refine Jr (true, (decide (a0.Kind = 9))) () 0 [0] (by exact ⟨rfl, rfl, rfl, trivial⟩) (by decide) (by kernel_rfl) (by exact ⟨H147, trivial⟩) (Nat.lt_succ_self _)
   ·have H148 := Jp hb H
    refine Jj rfl rfl (Jl Try.runUnderlying29 rfl Try.sizeOf3 rfl rfl) ?_
    refine Qx (i := 0) (v := .int .i64 a0.Kind) Try.isAgg3 rfl rfl rfl rfl ?_
    refine Jj rfl rfl (Qr rfl rfl) ?_
    refine Jj rfl rfl (J0 (v := .bool (decide (a0.Kind = 7))) rfl rfl) ?_
    refine Jj rfl rfl (Jl Try.runUnderlying29 rfl Try.sizeOf3 rfl rfl) ?_
    refine Qx (i := 0) (v := .int .i64 a0.Kind) Try.isAgg3 rfl rfl rfl rfl ?_
    refine Jj rfl rfl (Qr rfl rfl) ?_
    refine Jj rfl rfl (Jd (v := .bool (decide (a0.Kind = 1))) rfl) ?_
    refine Vf (fun hb => ?_) (fun hb => ?_)
    ·have H149 := Jo hb H148
     refine Jw rfl rfl ?_
     refine Jw rfl rfl ?_
     refine Jw rfl rfl ?_
     refine Jj rfl rfl (Jz (v := .bool true) rfl rfl) ?_
     refine Jj rfl rfl (Jd (v := .bool true) rfl) ?_
     refine Jw rfl rfl ?_
     refine Jw rfl rfl ?_
     refine Jw rfl rfl ?_
     refine Jj rfl rfl (Jz (v := .bool true) rfl rfl) ?_
     refine Jj rfl rfl (Jd (v := .bool true) rfl) ?_
     refine Jw rfl rfl ?_
     refine Jw rfl rfl ?_
     refine Jw rfl rfl ?_
     refine Jj rfl rfl (Jz (v := .bool true) rfl rfl) ?_
     refine Jj rfl rfl (Jc (v := .bool (decide (a0.Kind = 7))) rfl) ?_
     refine Jj rfl rfl (Jc (v := .bool true) rfl) ?_
     refine Xm ?_
     refine Jr ((decide (a0.Kind = 7)), true) () 0 [0] (by exact ⟨rfl, rfl, rfl, trivial⟩) (by decide) (by kernel_rfl) (by exact ⟨H149, trivial⟩) (Nat.lt_succ_self _)
    ·have H150 := Jp hb H148
     refine Jj rfl rfl (Jl Try.runUnderlying29 rfl Try.sizeOf3 rfl rfl) ?_
     refine Qx (i := 0) (v := .int .i64 a0.Kind) Try.isAgg3 rfl rfl rfl rfl ?_
     refine Jj rfl rfl (Qr rfl rfl) ?_
     refine Jj rfl rfl (J0 (v := .bool (decide (a0.Kind = 3))) rfl rfl) ?_
     refine Jj rfl rfl (Jd (v := .bool (decide (a0.Kind = 3))) rfl) ?_
     refine Vf (fun hb => ?_) (fun hb => ?_)
     ·have H151 := Jo hb H150
      refine Jw rfl rfl ?_
      refine Jw rfl rfl ?_
      refine Jw rfl rfl ?_
      refine Jj rfl rfl (Jz (v := .bool true) rfl rfl) ?_
      refine Jj rfl rfl (Jd (v := .bool true) rfl) ?_
      refine Jw rfl rfl ?_
      refine Jw rfl rfl ?_
      refine Jw rfl rfl ?_
      refine Jj rfl rfl (Jz (v := .bool true) rfl rfl) ?_
      refine Jj rfl rfl (Jc (v := .bool (decide (a0.Kind = 7))) rfl) ?_
      refine Jj rfl rfl (Jc (v := .bool true) rfl) ?_
      refine Xm ?_
      refine Jr ((decide (a0.Kind = 7)), true) () 0 [0] (by exact ⟨rfl, rfl, rfl, trivial⟩) (by decide) (by kernel_rfl) (by exact ⟨H151, trivial⟩) (Nat.lt_succ_self _)
     ·have H152 := Jp hb H150
      refine Jj rfl rfl (Jl Try.runUnderlying29 rfl Try.sizeOf3 rfl rfl) ?_
      refine Qx (i := 0) (v := .int .i64 a0.Kind) Try.isAgg3 rfl rfl rfl rfl ?_
      refine Jj rfl rfl (Qr rfl rfl) ?_
      refine Jj rfl rfl (J0 (v := .bool (decide (a0.Kind = 4))) rfl rfl) ?_
      refine Jj rfl rfl (Jd (v := .bool (decide (a0.Kind = 4))) rfl) ?_
      refine Vf (fun hb => ?_) (fun hb => ?_)
      ·have H153 := Jo hb H152
       refine Jw rfl rfl ?_
       refine Jw rfl rfl ?_
       refine Jw rfl rfl ?_
       refine Jj rfl rfl (Jz (v := .bool true) rfl rfl) ?_
       refine Jj rfl rfl (Jc (v := .bool (decide (a0.Kind = 7))) rfl) ?_
       refine Jj rfl rfl (Jc (v := .bool true) rfl) ?_
       refine Xm ?_
       refine Jr ((decide (a0.Kind = 7)), true) () 0 [0] (by exact ⟨rfl, rfl, rfl, trivial⟩) (by decide) (by kernel_rfl) (by exact ⟨H153, trivial⟩) (Nat.lt_succ_self _)
      ·have H154 := Jp hb H152
       refine Jj rfl rfl (Jl Try.runUnderlying29 rfl Try.sizeOf3 rfl rfl) ?_
       refine Qx (i := 0) (v := .int .i64 a0.Kind) Try.isAgg3 rfl rfl rfl rfl ?_
       refine Jj rfl rfl (Qr rfl rfl) ?_
       refine Jj rfl rfl (J0 (v := .bool (decide (a0.Kind = 9))) rfl rfl) ?_
       refine Jj rfl rfl (Jc (v := .bool (decide (a0.Kind = 7))) rfl) ?_
       refine Jj rfl rfl (Jc (v := .bool (decide (a0.Kind = 9))) rfl) ?_
       refine Xm ?_
       refine Jr ((decide (a0.Kind = 7)), (decide (a0.Kind = 9))) () 0 [0] (by exact ⟨rfl, rfl, rfl, trivial⟩) (by decide) (by kernel_rfl) (by exact ⟨H154, trivial⟩) (Nat.lt_succ_self _)
   ) (by kernel_rfl)
 ·rintro ⟨x3, x4⟩ _ gg H78 _
  replace H78 : Xc a0 x3 x4 = some r := H78
  try dsimp only
  refine Q8 (r := r) (σ := Unit) (τ := Unit) (fun s => Xb a0) (fun s t => [(1, .pointer (some ⟨b2, 0, none⟩))]) (fun s t => [Jv b2 [.int .i64 a0.Kind, str a0.Text, v0_2, v0_3, v0_4] 29]) (fun s t => True) ?_ ?_
  ·refine J6 ?_
   refine Je ?_
   refine Jb ?_
   refine Ja rfl rfl rfl (Jl Try.runUnderlying29 rfl Try.sizeOf3 rfl rfl) ?_
   refine Jt (i := 0) (v := .int .i64 a0.Kind) Try.isAgg3 rfl rfl rfl rfl rfl ?_
   obtain ⟨t40, h_t40, H113⟩ := Ji H78; clear H78
   refine Vo (k45 h_t40) Try.call45 rfl rfl rfl ?_
   refine Ja rfl rfl rfl (Qr rfl rfl) ?_
   refine Ja rfl rfl rfl (Jc (v := .bool (decide (t40 = 0))) rfl) ?_
   refine Jf ?_
   refine J4 (b := (decide (t40 = 0))) rfl (fun hb => ?_) (fun hb => ?_)
   ·have H114 := Jo hb H113; clear H113
    refine Je ?_
    refine Jb ?_
    refine Ja rfl rfl rfl (Jc (v := .int .i64 10) rfl) ?_
    refine Jf ?_
    refine Jq ?_
    obtain rfl := Option.some.inj H114
    refine J5 (v := .int .i64 10) rfl rfl (fin rfl)
   ·have H115 := Jp hb H113; clear H113
    refine Je ?_
    refine Q8 (r := r) (σ := Bool) (τ := Unit) (fun s => Yz a0 x4 s) (fun s t => [(1, .pointer (some ⟨b2, 0, none⟩)), (4, .bool x4), (42, .bool s)]) (fun s t => [Jv b2 [.int .i64 a0.Kind, str a0.Text, v0_2, v0_3, v0_4] 29]) (fun s t => True) ?_ ?_
    ·refine Jb ?_
     refine Ja rfl rfl rfl (Jl Try.runUnderlying29 rfl Try.sizeOf9 rfl rfl) ?_
     refine Jt (i := 0) (v := str a0.Text) Try.isAgg9 rfl rfl rfl rfl rfl ?_
     refine Ja rfl rfl rfl (r_neqT rfl rfl) ?_
     refine Ja rfl rfl rfl (Jd (v := .bool (decide (a0.Text ≠ []))) rfl) ?_
     refine split (fun hb => ?_) (fun hb => ?_)
     ·have H139 := Jo hb H115; clear H115
      refine Ja rfl rfl rfl (Jd (v := .bool x3) rfl) ?_
      refine Ja rfl rfl rfl (V3 rfl) ?_
      refine Ja rfl rfl rfl (Jz (v := .bool (!x3)) rfl rfl) ?_
      refine Ja rfl rfl rfl (Jc (v := .bool (!x3)) rfl) ?_
      refine Jf ?_
      refine Jr (!x3) () 0 [0] (by exact ⟨rfl, rfl, rfl, trivial⟩) (by decide) (by kernel_rfl) (by exact ⟨H139, trivial⟩) (Nat.lt_succ_self _)
     ·have H140 := Jp hb H115; clear H115
      refine Jh rfl rfl rfl ?_
      refine Jh rfl rfl rfl ?_
      refine Ja rfl rfl rfl (J0 (v := .bool false) rfl rfl) ?_
      refine Ja rfl rfl rfl (Jc (v := .bool false) rfl) ?_
      refine Jf ?_
      refine Jr false () 0 [0] (by exact ⟨rfl, rfl, rfl, trivial⟩) (by decide) (by kernel_rfl) (by exact ⟨H140, trivial⟩) (Nat.lt_succ_self _)
    ·rintro x42 _ gg H116 _
     replace H116 : Yz a0 x4 x42 = some r := H116
     try dsimp only
     refine J4 (b := x42) rfl (fun hb => ?_) (fun hb => ?_)
     ·have H117 := Jo hb H116; clear H116
      refine Js ?_
      refine J4 (b := x42) rfl (fun hb => ?_) (fun hb => ?_)
      ·have H118 := Jo hb H117; clear H117
       refine Je ?_
       refine Jb ?_
       refine Ja rfl rfl rfl (Jc (v := .int .i64 1) rfl) ?_
       refine Jf ?_
       refine Jq ?_
       obtain rfl := Option.some.inj H118
       refine J5 (v := .int .i64 1) rfl rfl (fin rfl)
      ·have H119 := Jp hb H117; clear H117
       refine Js ?_
       refine Jr () () 0 [0] (by exact ⟨rfl, trivial⟩) (by decide) (by kernel_rfl) (by exact ⟨H119, trivial⟩) (Nat.lt_succ_self _)
     ·have H120 := Jp hb H116; clear H116
      refine Q8 (r := r) (σ := Bool) (τ := Unit) (fun s => Yx a0 s) (fun s t => [(1, .pointer (some ⟨b2, 0, none⟩)), (42, .bool s)]) (fun s t => [Jv b2 [.int .i64 a0.Kind, str a0.Text, v0_2, v0_3, v0_4] 29]) (fun s t => True) ?_ ?_
      ·refine Jb ?_
       refine Ja rfl rfl rfl (Jl Try.runUnderlying29 rfl Try.sizeOf25 rfl rfl) ?_
       refine Jt (i := 0) (v := v0_2) Try.isAgg25 rfl rfl rfl rfl rfl ?_
       refine Ja rfl rfl rfl (Xy Try.underlying25 rfl f0_2 rfl) ?_
       refine Ja rfl rfl rfl (Zn rfl rfl) ?_
       refine Ja rfl rfl rfl (Jd (v := .bool (decide (0 < (a0.Ints.length : Int)))) rfl) ?_
       refine split (fun hb => ?_) (fun hb => ?_)
       ·have H137 := Jo hb H120; clear H120
        refine Ja rfl rfl rfl (Jd (v := .bool x4) rfl) ?_
        refine Ja rfl rfl rfl (V3 rfl) ?_
        refine Ja rfl rfl rfl (Jz (v := .bool (!x4)) rfl rfl) ?_
        refine Ja rfl rfl rfl (Jc (v := .bool (!x4)) rfl) ?_
        refine Jf ?_
        refine Jr (!x4) () 0 [0] (by exact ⟨rfl, rfl, trivial⟩) (by decide) (by kernel_rfl) (by exact ⟨H137, trivial⟩) (Nat.lt_succ_self _)
       ·have H138 := Jp hb H120; clear H120
        refine Jh rfl rfl rfl ?_
        refine Jh rfl rfl rfl ?_
        refine Ja rfl rfl rfl (J0 (v := .bool false) rfl rfl) ?_
        refine Ja rfl rfl rfl (Jc (v := .bool false) rfl) ?_
        refine Jf ?_
        refine Jr false () 0 [0] (by exact ⟨rfl, rfl, trivial⟩) (by decide) (by kernel_rfl) (by exact ⟨H138, trivial⟩) (Nat.lt_succ_self _)
      ·rintro x42_2 _ gg H121 _
       replace H121 : Yx a0 x42_2 = some r := H121
       try dsimp only
       refine J4 (b := x42_2) rfl (fun hb => ?_) (fun hb => ?_)
       ·have H122 := Jo hb H121; clear H121
        refine Js ?_
        refine J4 (b := x42_2) rfl (fun hb => ?_) (fun hb => ?_)
        ·have H123 := Jo hb H122; clear H122
         refine Je ?_
         refine Jb ?_
         refine Ja rfl rfl rfl (Jc (v := .int .i64 1) rfl) ?_
         refine Jf ?_
         refine Jq ?_
         obtain rfl := Option.some.inj H123
         refine J5 (v := .int .i64 1) rfl rfl (fin rfl)
        ·have H124 := Jp hb H122; clear H122
         refine Js ?_
         refine Jr () () 0 [0] (by exact ⟨rfl, trivial⟩) (by decide) (by kernel_rfl) (by exact ⟨H124, trivial⟩) (Nat.lt_succ_self _)
       ·have H125 := Jp hb H121; clear H121
        refine Q8 (r := r) (σ := Bool) (τ := Unit) (fun s => Yl a0 s) (fun s t => [(1, .pointer (some ⟨b2, 0, none⟩)), (42, .bool s)]) (fun s t => [Jv b2 [.int .i64 a0.Kind, str a0.Text, v0_2, v0_3, v0_4] 29]) (fun s t => True) ?_ ?_
        ·refine Jb ?_
         refine Ja rfl rfl rfl (Jl Try.runUnderlying29 rfl Try.sizeOf26 rfl rfl) ?_
         refine Jt (i := 0) (v := v0_3) Try.isAgg26 rfl rfl rfl rfl rfl ?_
         refine Ja rfl rfl rfl (Xy Try.underlying26 rfl f0_3 rfl) ?_
         refine Ja rfl rfl rfl (Zn rfl rfl) ?_
         refine Ja rfl rfl rfl (Jd (v := .bool (decide (0 < (a0.Ratios.length : Int)))) rfl) ?_
         refine split (fun hb => ?_) (fun hb => ?_)
         ·have H135 := Jo hb H125; clear H125
          refine Ja rfl rfl rfl (Jl Try.runUnderlying29 rfl Try.sizeOf3 rfl rfl) ?_
          refine Jt (i := 0) (v := .int .i64 a0.Kind) Try.isAgg3 rfl rfl rfl rfl rfl ?_
          refine Ja rfl rfl rfl (Y9 rfl rfl) ?_
          refine Ja rfl rfl rfl (Jz (v := .bool (decide (a0.Kind ≠ 5))) rfl rfl) ?_
          refine Ja rfl rfl rfl (Jc (v := .bool (decide (a0.Kind ≠ 5))) rfl) ?_
          refine Jf ?_
          refine Jr (decide (a0.Kind ≠ 5)) () 0 [0] (by exact ⟨rfl, rfl, trivial⟩) (by decide) (by kernel_rfl) (by exact ⟨H135, trivial⟩) (Nat.lt_succ_self _)
         ·have H136 := Jp hb H125; clear H125
          refine Jh rfl rfl rfl ?_
          refine Jh rfl rfl rfl ?_
          refine Jh rfl rfl rfl ?_
          refine Ja rfl rfl rfl (J0 (v := .bool false) rfl rfl) ?_
          refine Ja rfl rfl rfl (Jc (v := .bool false) rfl) ?_
          refine Jf ?_
          refine Jr false () 0 [0] (by exact ⟨rfl, rfl, trivial⟩) (by decide) (by kernel_rfl) (by exact ⟨H136, trivial⟩) (Nat.lt_succ_self _)
        ·rintro x42_3 _ gg H126 _
         replace H126 : Yl a0 x42_3 = some r := H126
         try dsimp only
         refine J4 (b := x42_3) rfl (fun hb => ?_) (fun hb => ?_)
         ·have H127 := Jo hb H126; clear H126
          refine Js ?_
          refine J4 (b := x42_3) rfl (fun hb => ?_) (fun hb => ?_)
          ·have H128 := Jo hb H127; clear H127
           refine Je ?_
           refine Jb ?_
           refine Ja rfl rfl rfl (Jc (v := .int .i64 1) rfl) ?_
           refine Jf ?_
           refine Jq ?_
           obtain rfl := Option.some.inj H128
           refine J5 (v := .int .i64 1) rfl rfl (fin rfl)
          ·have H129 := Jp hb H127; clear H127
           refine Js ?_
           refine Jr () () 0 [0] (by exact ⟨rfl, trivial⟩) (by decide) (by kernel_rfl) (by exact ⟨H129, trivial⟩) (Nat.lt_succ_self _)
         ·have H130 := Jp hb H126; clear H126
          refine Jb ?_
          refine Ja rfl rfl rfl (Jl Try.runUnderlying29 rfl Try.sizeOf27 rfl rfl) ?_
          refine Jt (i := 0) (v := v0_4) Try.isAgg27 rfl rfl rfl rfl rfl ?_
          refine Ja rfl rfl rfl (Q7 Try.underlying27 rfl f0_4) ?_
          refine Ja rfl rfl rfl (Zn rfl rfl) ?_
          refine Ja rfl rfl rfl (Jd (v := .bool (decide (0 < (a0.Entries.length : Int)))) rfl) ?_
          refine split (fun hb => ?_) (fun hb => ?_)
          ·have H131 := Jo hb H130; clear H130
           refine Ja rfl rfl rfl (Jl Try.runUnderlying29 rfl Try.sizeOf3 rfl rfl) ?_
           refine Jt (i := 0) (v := .int .i64 a0.Kind) Try.isAgg3 rfl rfl rfl rfl rfl ?_
           refine Ja rfl rfl rfl (Y9 rfl rfl) ?_
           refine Ja rfl rfl rfl (Jz (v := .bool (decide (a0.Kind ≠ 13))) rfl rfl) ?_
           refine Ja rfl rfl rfl (Jc (v := .bool (decide (a0.Kind ≠ 13))) rfl) ?_
           refine Jf ?_
           refine J4 (b := (decide (a0.Kind ≠ 13))) rfl (fun hb => ?_) (fun hb => ?_)
           ·have H132 := Jo hb H131; clear H131
            refine Je ?_
            refine Jb ?_
            refine Ja rfl rfl rfl (Jc (v := .int .i64 1) rfl) ?_
            refine Jf ?_
            refine Jq ?_
            obtain rfl := Option.some.inj H132
            refine J5 (v := .int .i64 1) rfl rfl (fin rfl)
           ·have H133 := Jp hb H131; clear H131
            refine Js ?_
            refine Jr () () 0 [0] (by exact ⟨rfl, trivial⟩) (by decide) (by kernel_rfl) (by exact ⟨H133, trivial⟩) (Nat.lt_succ_self _)
          ·have H134 := Jp hb H130; clear H130
           refine Jh rfl rfl rfl ?_
           refine Jh rfl rfl rfl ?_
           refine Jh rfl rfl rfl ?_
           refine Ja rfl rfl rfl (J0 (v := .bool false) rfl rfl) ?_
           refine Ja rfl rfl rfl (Jc (v := .bool false) rfl) ?_
           refine Jf ?_
           refine W2 rfl ?_
           refine Js ?_
           refine Jr () () 0 [0] (by exact ⟨rfl, trivial⟩) (by decide) (by kernel_rfl) (by exact ⟨H134, trivial⟩) (Nat.lt_succ_self _)
  ·rintro _ _ gg H79 _
   replace H79 : Xb a0 = some r := H79
   try dsimp only
   refine Je ?_
   refine Jb ?_
   refine Ja rfl rfl rfl (Jl Try.runUnderlying29 rfl Try.sizeOf3 rfl rfl) ?_
   refine Jt (i := 0) (v := .int .i64 a0.Kind) Try.isAgg3 rfl rfl rfl rfl rfl ?_
   obtain ⟨t79, h_t79, H80⟩ := Ji H79; clear H79
   refine Vo (k46 h_t79) Try.call46 rfl rfl rfl ?_
   refine Ja rfl rfl rfl (Jd (v := .tuple #[.int .i64 t79.1, .int .i64 t79.2]) rfl) ?_
   refine Ja rfl rfl rfl (Qf (v := .int .i64 t79.1) rfl rfl) ?_
   refine Ja rfl rfl rfl (Qf (v := .int .i64 t79.2) rfl rfl) ?_
   refine Ja rfl rfl rfl (Jc (v := .int .i64 t79.1) rfl) ?_
   refine Ja rfl rfl rfl (Jc (v := .int .i64 t79.2) rfl) ?_
   refine Jf ?_
   refine Q8 (r := r) (σ := Unit) (τ := Unit) (fun s => Yy a0) (fun s t => [(1, .pointer (some ⟨b2, 0, none⟩))]) (fun s t => [Jv b2 [.int .i64 a0.Kind, str a0.Text, v0_2, v0_3, v0_4] 29]) (fun s t => True) ?_ ?_
   ·refine Je ?_
    refine Jb ?_
    refine Ja rfl rfl rfl (Jl Try.runUnderlying29 rfl Try.sizeOf25 rfl rfl) ?_
    refine Jt (i := 0) (v := v0_2) Try.isAgg25 rfl rfl rfl rfl rfl ?_
    refine Ja rfl rfl rfl (Xy Try.underlying25 rfl f0_2 rfl) ?_
    refine Ja rfl rfl rfl (Jd (v := .int .i64 0) rfl) ?_
    refine Jf ?_
    refine J6 ?_
    refine Z7 (σ := Int) (τ := Unit) (fun next7 s => Xg a0 t79 next7 s) (fun s t => [(1, .pointer (some ⟨b2, 0, none⟩)), (5, .int .i64 t79.1), (6, .int .i64 t79.2), (83, v0_2), (84, .int .i64 (a0.Ints.length : Int)), (85, .int .i64 s)]) (fun s t => [Jv b2 [.int .i64 a0.Kind, str a0.Text, v0_2, v0_3, v0_4] 29]) (fun s t => True) 0 () [0] H80 (by exact trivial) (by exact ⟨rfl, rfl, rfl, rfl, rfl, rfl, trivial⟩) (by decide) rfl ?_
    rintro x85_2 _ m7 gg H104 _
    clear H80
    replace H104 : Xg a0 t79 (it (fun next7 s => Xg a0 t79 next7 s) m7) x85_2 = some r := H104
    generalize hn7 : it (fun next7 s => Xg a0 t79 next7 s) m7 = next7 at H104
    try dsimp only
    refine Je ?_
    refine Jb ?_
    refine Ja rfl rfl rfl (Xs rfl rfl) ?_
    refine Jf ?_
    refine Je ?_
    refine J4 (b := (decide (x85_2 < (a0.Ints.length : Int)))) rfl (fun hb => ?_) (fun hb => ?_)
    ·have H105 := Jo hb H104; clear H104
     refine Js ?_
     refine Je ?_
     refine J6 ?_
     refine Je ?_
     refine Jb ?_
     obtain ⟨t87, h_t87, H106⟩ := Ji H105; clear H105
     refine Ja rfl rfl rfl (Qe Try.underlying25 Try.sizeOf3 rfl rfl f0_2 h_t87) ?_
     refine Qu (fun w hF hS => Qa (f := J3) (i := x85_2) (sz := 1) (j := 0) (v := .int .i64 t87) Try.isAgg3 rfl rfl (f0_2.row (hw.now hF)) h_t87 rfl) rfl rfl rfl ?_
     refine Ja rfl rfl rfl (Jc (v := .int .i64 t87) rfl) ?_
     refine Jf ?_
     refine Je ?_
     refine Jb ?_
     refine Ja rfl rfl rfl (Jd (v := .int .i64 t87) rfl) ?_
     refine Ja rfl rfl rfl (Jd (v := .int .i64 t79.1) rfl) ?_
     refine Ja rfl rfl rfl (Xs rfl rfl) ?_
     refine Ja rfl rfl rfl (Jd (v := .bool (decide (t87 < t79.1))) rfl) ?_
     refine split (fun hb => ?_) (fun hb => ?_)
     ·have H107 := Jo hb H106; clear H106
      refine Jh rfl rfl rfl ?_
      refine Jh rfl rfl rfl ?_
      refine Jh rfl rfl rfl ?_
      refine Ja rfl rfl rfl (Jz (v := .bool true) rfl rfl) ?_
      refine Jf ?_
      refine Y5 rfl ?_
      refine Je ?_
      refine Jb ?_
      refine Ja rfl rfl rfl (Jc (v := .int .i64 2) rfl) ?_
      refine Jf ?_
      refine Jq ?_
      obtain rfl := Option.some.inj H107
      refine J5 (v := .int .i64 2) rfl rfl (fin rfl)
     ·have H108 := Jp hb H106; clear H106
      refine Ja rfl rfl rfl (Jd (v := .int .i64 t87) rfl) ?_
      refine Ja rfl rfl rfl (Jd (v := .int .i64 t79.2) rfl) ?_
      refine Ja rfl rfl rfl (Zn rfl rfl) ?_
      refine Ja rfl rfl rfl (J0 (v := .bool (decide (t79.2 < t87))) rfl rfl) ?_
      refine Jf ?_
      refine J4 (b := (decide (t79.2 < t87))) rfl (fun hb => ?_) (fun hb => ?_)
      ·have H109 := Jo hb H108; clear H108
       refine Je ?_
       refine Jb ?_
       refine Ja rfl rfl rfl (Jc (v := .int .i64 2) rfl) ?_
       refine Jf ?_
       refine Jq ?_
       obtain rfl := Option.some.inj H109
       refine J5 (v := .int .i64 2) rfl rfl (fin rfl)
      ·have H110 := Jp hb H108; clear H108
       refine Js ?_
       refine Jb ?_
       obtain ⟨t97, h_t97, H111⟩ := Ji H110; clear H110
       refine Ja rfl rfl rfl (Qv rfl rfl h_t97) ?_
       refine Ja rfl rfl rfl (Jd (v := .int .i64 t97) rfl) ?_
       refine Jf ?_
       refine Jr t97 () m7 [0] (by exact ⟨rfl, rfl, rfl, rfl, rfl, rfl, trivial⟩) (by decide) (by kernel_rfl) (by exact ⟨(by subst hn7; exact H111), trivial⟩) (Nat.lt_succ_self _)
    ·have H112 := Jp hb H104; clear H104
     refine X7 ?_
     refine Jr () () 0 [0] (by exact ⟨rfl, trivial⟩) (by decide) (by kernel_rfl) (by exact ⟨H112, trivial⟩) (Nat.lt_succ_self _)
   ·rintro _ _ gg H81 _
    replace H81 : Yy a0 = some r := H81
    try dsimp only
    refine Q8 (r := r) (σ := Unit) (τ := Unit) (fun s => Y2 a0) (fun s t => [(1, .pointer (some ⟨b2, 0, none⟩))]) (fun s t => [Jv b2 [.int .i64 a0.Kind, str a0.Text, v0_2, v0_3, v0_4] 29]) (fun s t => True) ?_ ?_
    ·refine Je ?_
     refine Jb ?_
     refine Ja rfl rfl rfl (Jl Try.runUnderlying29 rfl Try.sizeOf26 rfl rfl) ?_
     refine Jt (i := 0) (v := v0_3) Try.isAgg26 rfl rfl rfl rfl rfl ?_
     refine Ja rfl rfl rfl (Xy Try.underlying26 rfl f0_3 rfl) ?_
     refine Ja rfl rfl rfl (Jd (v := .int .i64 0) rfl) ?_
     refine Jf ?_
     refine J6 ?_
     refine Z7 (σ := Int) (τ := Unit) (fun next6 s => Xf a0 next6 s) (fun s t => [(1, .pointer (some ⟨b2, 0, none⟩)), (99, v0_3), (100, .int .i64 (a0.Ratios.length : Int)), (101, .int .i64 s)]) (fun s t => [Jv b2 [.int .i64 a0.Kind, str a0.Text, v0_2, v0_3, v0_4] 29]) (fun s t => True) 0 () [0] H81 (by exact trivial) (by exact ⟨rfl, rfl, rfl, rfl, trivial⟩) (by decide) rfl ?_
     rintro x101_2 _ m6 gg H91 _
     clear H81
     replace H91 : Xf a0 (it (fun next6 s => Xf a0 next6 s) m6) x101_2 = some r := H91
     generalize hn6 : it (fun next6 s => Xf a0 next6 s) m6 = next6 at H91
     try dsimp only
     refine Je ?_
     refine Jb ?_
     refine Ja rfl rfl rfl (Xs rfl rfl) ?_
     refine Jf ?_
     refine Je ?_
     refine J4 (b := (decide (x101_2 < (a0.Ratios.length : Int)))) rfl (fun hb => ?_) (fun hb => ?_)
     ·have H92 := Jo hb H91; clear H91
      refine Js ?_
      refine Je ?_
      refine J6 ?_
      refine Je ?_
      refine Jb ?_
      obtain ⟨t103, h_t103, H93⟩ := Ji H92; clear H92
      refine Ja rfl rfl rfl (Qe Try.underlying26 Try.sizeOf77 rfl rfl f0_3 h_t103) ?_
      refine Qu (fun w hF hS => Xr (f := Jn) (i := x101_2) (sz := 2) (j := 0) (vs := [.int .i64 t103.Num, .int .i64 t103.Den]) Try.isAgg77 Try.sizeOf77 rfl rfl (f0_3.row (hw.now hF)) h_t103 rfl) rfl rfl rfl ?_
      refine Ye (cs := [.int .i64 0, .int .i64 0]) Try.zeroValue77 rfl rfl rfl (fun b3 => ?_)
      refine Qi (i := 1) (vs := [.int .i64 t103.Num, .int .i64 t103.Den]) (cs' := [.int .i64 t103.Num, .int .i64 t103.Den]) Try.sizeOf77 rfl rfl rfl rfl rfl rfl rfl rfl rfl ?_
      refine Jf ?_
      refine Je ?_
      refine Jb ?_
      refine Ja rfl rfl rfl (Jl Try.runUnderlying77 rfl Try.sizeOf3 rfl rfl) ?_
      refine Jt (i := 1) (v := .int .i64 t103.Num) Try.isAgg3 rfl rfl rfl rfl rfl ?_
      refine Ja rfl rfl rfl (Xs rfl rfl) ?_
      refine Ja rfl rfl rfl (Jd (v := .bool (decide (t103.Num < 0))) rfl) ?_
      refine split (fun hb => ?_) (fun hb => ?_)
      ·have H94 := Jo hb H93; clear H93
       refine Jh rfl rfl rfl ?_
       refine Jh rfl rfl rfl ?_
       refine Jh rfl rfl rfl ?_
       refine Ja rfl rfl rfl (Jz (v := .bool true) rfl rfl) ?_
       refine Ja rfl rfl rfl (Jd (v := .bool true) rfl) ?_
       refine Jh rfl rfl rfl ?_
       refine Jh rfl rfl rfl ?_
       refine Jh rfl rfl rfl ?_
       refine Ja rfl rfl rfl (Jz (v := .bool true) rfl rfl) ?_
       refine Ja rfl rfl rfl (Jd (v := .bool true) rfl) ?_
       refine Jh rfl rfl rfl ?_
       refine Jh rfl rfl rfl ?_
       refine Jh rfl rfl rfl ?_
       refine Ja rfl rfl rfl (Jz (v := .bool true) rfl rfl) ?_
       refine Jf ?_
       refine Y5 rfl ?_
       refine Je ?_
       refine Jb ?_
       refine Ja rfl rfl rfl (Jc (v := .int .i64 2) rfl) ?_
       refine Jf ?_
       refine Jq ?_
       obtain rfl := Option.some.inj H94
       refine J5 (v := .int .i64 2) rfl rfl (fin rfl)
      ·have H95 := Jp hb H93; clear H93
       refine Ja rfl rfl rfl (Jl Try.runUnderlying77 rfl Try.sizeOf3 rfl rfl) ?_
       refine Jt (i := 1) (v := .int .i64 t103.Num) Try.isAgg3 rfl rfl rfl rfl rfl ?_
       refine Ja rfl rfl rfl (Zn rfl rfl) ?_
       refine Ja rfl rfl rfl (J0 (v := .bool (decide (4294967295 < t103.Num))) rfl rfl) ?_
       refine Ja rfl rfl rfl (Jd (v := .bool (decide (4294967295 < t103.Num))) rfl) ?_
       refine split (fun hb => ?_) (fun hb => ?_)
       ·have H96 := Jo hb H95; clear H95
        refine Jh rfl rfl rfl ?_
        refine Jh rfl rfl rfl ?_
        refine Jh rfl rfl rfl ?_
        refine Ja rfl rfl rfl (Jz (v := .bool true) rfl rfl) ?_
        refine Ja rfl rfl rfl (Jd (v := .bool true) rfl) ?_
        refine Jh rfl rfl rfl ?_
        refine Jh rfl rfl rfl ?_
        refine Jh rfl rfl rfl ?_
        refine Ja rfl rfl rfl (Jz (v := .bool true) rfl rfl) ?_
        refine Jf ?_
        refine Y5 rfl ?_
        refine Je ?_
        refine Jb ?_
        refine Ja rfl rfl rfl (Jc (v := .int .i64 2) rfl) ?_
        refine Jf ?_
        refine Jq ?_
        obtain rfl := Option.some.inj H96
        refine J5 (v := .int .i64 2) rfl rfl (fin rfl)
       ·have H97 := Jp hb H95; clear H95
        refine Ja rfl rfl rfl (Jl Try.runUnderlying77 rfl Try.sizeOf3 rfl rfl) ?_
        refine Jt (i := 1) (v := .int .i64 t103.Den) Try.isAgg3 rfl rfl rfl rfl rfl ?_
        refine Ja rfl rfl rfl (Xs rfl rfl) ?_
        refine Ja rfl rfl rfl (J0 (v := .bool (decide (t103.Den < 0))) rfl rfl) ?_
        refine Ja rfl rfl rfl (Jd (v := .bool (decide (t103.Den < 0))) rfl) ?_
        refine split (fun hb => ?_) (fun hb => ?_)
        ·have H98 := Jo hb H97; clear H97
         refine Jh rfl rfl rfl ?_
         refine Jh rfl rfl rfl ?_
         refine Jh rfl rfl rfl ?_
         refine Ja rfl rfl rfl (Jz (v := .bool true) rfl rfl) ?_
         refine Jf ?_
         refine Y5 rfl ?_
         refine Je ?_
         refine Jb ?_
         refine Ja rfl rfl rfl (Jc (v := .int .i64 2) rfl) ?_
         refine Jf ?_
         refine Jq ?_
         obtain rfl := Option.some.inj H98
         refine J5 (v := .int .i64 2) rfl rfl (fin rfl)
        ·have H99 := Jp hb H97; clear H97
         refine Ja rfl rfl rfl (Jl Try.runUnderlying77 rfl Try.sizeOf3 rfl rfl) ?_
         refine Jt (i := 1) (v := .int .i64 t103.Den) Try.isAgg3 rfl rfl rfl rfl rfl ?_
         refine Ja rfl rfl rfl (Zn rfl rfl) ?_
         refine Ja rfl rfl rfl (J0 (v := .bool (decide (4294967295 < t103.Den))) rfl rfl) ?_
         refine Jf ?_
         refine J4 (b := (decide (4294967295 < t103.Den))) rfl (fun hb => ?_) (fun hb => ?_)
         ·have H100 := Jo hb H99; clear H99
          refine Je ?_
          refine Jb ?_
          refine Ja rfl rfl rfl (Jc (v := .int .i64 2) rfl) ?_
          refine Jf ?_
          refine Jq ?_
          obtain rfl := Option.some.inj H100
          refine J5 (v := .int .i64 2) rfl rfl (fin rfl)
         ·have H101 := Jp hb H99; clear H99
          refine Js ?_
          refine Jb ?_
          obtain ⟨t123, h_t123, H102⟩ := Ji H101; clear H101
          refine Ja rfl rfl rfl (Qv rfl rfl h_t123) ?_
          refine Ja rfl rfl rfl (Jd (v := .int .i64 t123) rfl) ?_
          refine Jf ?_
          refine Jr t123 () m6 [0] (by exact ⟨rfl, rfl, rfl, rfl, trivial⟩) (by decide) (by kernel_rfl) (by exact ⟨(by subst hn6; exact H102), trivial⟩) (Nat.lt_succ_self _)
     ·have H103 := Jp hb H91; clear H91
      refine X7 ?_
      refine Jr () () 0 [0] (by exact ⟨rfl, trivial⟩) (by decide) (by kernel_rfl) (by exact ⟨H103, trivial⟩) (Nat.lt_succ_self _)
    ·rintro _ _ gg H82 _
     replace H82 : Y2 a0 = some r := H82
     try dsimp only
     refine Q8 (r := r) (σ := Unit) (τ := Unit) (fun s => Zv a0) (fun s t => [(1, .pointer (some ⟨b2, 0, none⟩))]) (fun s t => [Jv b2 [.int .i64 a0.Kind, str a0.Text, v0_2, v0_3, v0_4] 29]) (fun s t => True) ?_ ?_
     ·refine Je ?_
      refine Jb ?_
      refine Ja rfl rfl rfl (Jl Try.runUnderlying29 rfl Try.sizeOf3 rfl rfl) ?_
      refine Jt (i := 0) (v := .int .i64 a0.Kind) Try.isAgg3 rfl rfl rfl rfl rfl ?_
      refine Ja rfl rfl rfl (Qr rfl rfl) ?_
      refine Ja rfl rfl rfl (Jd (v := .bool (decide (a0.Kind = 2))) rfl) ?_
      refine split (fun hb => ?_) (fun hb => ?_)
      ·have H86 := Jo hb H82; clear H82
       refine Ja rfl rfl rfl (Jl Try.runUnderlying29 rfl Try.sizeOf9 rfl rfl) ?_
       refine Jt (i := 0) (v := str a0.Text) Try.isAgg9 rfl rfl rfl rfl rfl ?_
       obtain ⟨t130, h_t130, H87⟩ := Ji H86; clear H86
       refine Vo (k47 h_t130) Try.call47 rfl rfl rfl ?_
       refine Ja rfl rfl rfl (r_geq rfl rfl) ?_
       refine Ja rfl rfl rfl (Jz (v := .bool (decide (0 ≤ t130))) rfl rfl) ?_
       refine Jf ?_
       refine J4 (b := (decide (0 ≤ t130))) rfl (fun hb => ?_) (fun hb => ?_)
       ·have H88 := Jo hb H87; clear H87
        refine Je ?_
        refine Jb ?_
        refine Ja rfl rfl rfl (Jc (v := .int .i64 9) rfl) ?_
        refine Jf ?_
        refine Jq ?_
        obtain rfl := Option.some.inj H88
        refine J5 (v := .int .i64 9) rfl rfl (fin rfl)
       ·have H89 := Jp hb H87; clear H87
        refine Js ?_
        refine Jr () () 0 [0] (by exact ⟨rfl, trivial⟩) (by decide) (by kernel_rfl) (by exact ⟨H89, trivial⟩) (Nat.lt_succ_self _)
      ·have H90 := Jp hb H82; clear H82
       refine Jh rfl rfl rfl ?_
       refine Jh rfl rfl rfl ?_
       refine Jh rfl rfl rfl ?_
       refine Jh rfl rfl rfl ?_
       refine Ja rfl rfl rfl (J0 (v := .bool false) rfl rfl) ?_
       refine Jf ?_
       refine W2 rfl ?_
       refine Js ?_
       refine Jr () () 0 [0] (by exact ⟨rfl, trivial⟩) (by decide) (by kernel_rfl) (by exact ⟨H90, trivial⟩) (Nat.lt_succ_self _)
     ·rintro _ _ gg H83 _
      replace H83 : Zv a0 = some r := H83
      try dsimp only
      refine Je ?_
      refine Je ?_
      refine Jb ?_
      refine Ja rfl rfl rfl (Jl Try.runUnderlying29 rfl Try.sizeOf3 rfl rfl) ?_
      refine Jt (i := 0) (v := .int .i64 a0.Kind) Try.isAgg3 rfl rfl rfl rfl rfl ?_
      refine Ja rfl rfl rfl (Qr rfl rfl) ?_
      refine Jf ?_
      refine J4 (b := (decide (a0.Kind = 13))) rfl (fun hb => ?_) (fun hb => ?_)
      ·have H84 := Jo hb H83; clear H83
       exact absurd (show (none : Option (Int)) = some r from H84) (fun h => by cases h)
      ·have H85 := Jp hb H83; clear H83
       refine Js ?_
       refine Je ?_
       refine Jb ?_
       refine Ja rfl rfl rfl (Jc (v := .int .i64 0) rfl) ?_
       refine Jf ?_
       refine Jq ?_
       obtain rfl := Option.some.inj H85
       refine J5 (v := .int .i64 0) rfl rfl (fin rfl)
theorem k20_it (mm : Nat) : ∀ {a0 : (List T_tag_Entry)} {v0 : Value} {a1 : Int} {r : Int} {w : World} {h : Jx} (hw : Know h w X3) (f0 : FrN h 6 v0 g_tag_Entry a0) (H : it (fun (self : ((List T_tag_Entry) × Int) → Option (Int)) (s : (List T_tag_Entry) × Int) => Y1 self s.1 s.2) mm (a0, a1) = some r), Does Try.prog 20 (List.toArray [v0, .int .i64 a1]) w (fun v w' => v = (.int .i64 r) ∧ Grow w w') := by
 induction mm with
 | zero => intros; rename_i H; exact absurd H (by simp [it])
 | succ mm ih =>
  intro a0 v0 a1 r w h hw f0 H
  replace H : Y1 (it (fun (self : ((List T_tag_Entry) × Int) → Option (Int)) (s : (List T_tag_Entry) × Int) => Y1 self s.1 s.2) mm) a0 a1 = some r := H
  generalize it (fun (self : ((List T_tag_Entry) × Int) → Option (Int)) (s : (List T_tag_Entry) × Int) => Y1 self s.1 s.2) mm = self at H ih
  refine enter (n := 79) Try.func20 rfl rfl rfl X3 [] (Sat.nil _ _) ?_
  refine Je ?_
  refine Jb ?_
  refine Ja rfl rfl rfl (Jc (v := .int .i64 0) rfl) ?_
  refine Jf ?_
  refine Je ?_
  refine Je ?_
  refine Jb ?_
  refine Ja rfl rfl rfl (Jd (v := .int .i64 a1) rfl) ?_
  refine Ja rfl rfl rfl (Zn rfl rfl) ?_
  refine Ja rfl rfl rfl (Jd (v := .bool (decide (5 < a1))) rfl) ?_
  refine split (fun hb => ?_) (fun hb => ?_)
  ·have H37 := Jo hb H; clear H
   refine Jh rfl rfl rfl ?_
   refine Jh rfl rfl rfl ?_
   refine Jh rfl rfl rfl ?_
   refine Ja rfl rfl rfl (Jz (v := .bool true) rfl rfl) ?_
   refine Jf ?_
   refine Y5 rfl ?_
   refine Je ?_
   refine Jb ?_
   refine Ja rfl rfl rfl (Jc (v := .int .i64 4) rfl) ?_
   refine Jf ?_
   refine Jq ?_
   obtain rfl := Option.some.inj H37
   refine J5 (v := .int .i64 4) rfl rfl (fin rfl)
  ·have H38 := Jp hb H; clear H
   refine Ja rfl rfl rfl (Jd (v := v0) rfl) ?_
   refine Ja rfl rfl rfl (Q7 Try.underlying27 rfl f0) ?_
   refine Ja rfl rfl rfl (Zn rfl rfl) ?_
   refine Ja rfl rfl rfl (J0 (v := .bool (decide (200 < (a0.length : Int)))) rfl rfl) ?_
   refine Jf ?_
   refine J4 (b := (decide (200 < (a0.length : Int)))) rfl (fun hb => ?_) (fun hb => ?_)
   ·have H39 := Jo hb H38; clear H38
    refine Je ?_
    refine Jb ?_
    refine Ja rfl rfl rfl (Jc (v := .int .i64 4) rfl) ?_
    refine Jf ?_
    refine Jq ?_
    obtain rfl := Option.some.inj H39
    refine J5 (v := .int .i64 4) rfl rfl (fin rfl)
   ·have H40 := Jp hb H38; clear H38
    refine Js ?_
    refine Je ?_
    refine Je ?_
    refine Jb ?_
    refine Ja rfl rfl rfl (Jd (v := v0) rfl) ?_
    refine Ja rfl rfl rfl (Q7 Try.underlying27 rfl f0) ?_
    refine Ja rfl rfl rfl (Jd (v := .int .i64 0) rfl) ?_
    refine Jf ?_
    refine J6 ?_
    refine Z7 (σ := Int) (τ := Unit) (fun next1 s => Vz a0 a1 self next1 s) (fun s t => [(0, v0), (1, .int .i64 a1), (17, v0), (18, .int .i64 (a0.length : Int)), (19, .int .i64 s)]) (fun s t => []) (fun s t => True) 0 () [] H40 (by exact trivial) (by exact ⟨rfl, rfl, rfl, rfl, rfl, trivial⟩) (by decide) rfl ?_
    rintro x19_2 _ m1 gg H41 _
    clear H40
    replace H41 : Vz a0 a1 self (it (fun next1 s => Vz a0 a1 self next1 s) m1) x19_2 = some r := H41
    generalize hn1 : it (fun next1 s => Vz a0 a1 self next1 s) m1 = next1 at H41
    try dsimp only
    refine Je ?_
    refine Jb ?_
    refine Ja rfl rfl rfl (Xs rfl rfl) ?_
    refine Jf ?_
    refine Je ?_
    refine J4 (b := (decide (x19_2 < (a0.length : Int)))) rfl (fun hb => ?_) (fun hb => ?_)
    ·have H42 := Jo hb H41; clear H41
     refine Js ?_
     refine Q8 (r := r) (σ := Int × Bool × Int × Int × (List UInt8) × (List Int) × (List T_tag_Ratio) × (List T_tag_Entry)) (τ := Value × Value × Value × Nat) (fun s => Wv x19_2 next1 s.1 s.2.1 s.2.2.1 s.2.2.2.1 s.2.2.2.2.1 s.2.2.2.2.2.1 s.2.2.2.2.2.2.1 s.2.2.2.2.2.2.2) (fun s t => [(0, v0), (1, .int .i64 a1), (17, v0), (18, .int .i64 (a0.length : Int)), (19, .int .i64 x19_2), (28, .pointer (some ⟨t.2.2.2, 0, none⟩)), (29, .int .i64 s.1), (30, .bool s.2.1)]) (fun s t => [Jv t.2.2.2 [.int .i64 s.2.2.1, .int .i64 s.2.2.2.1, str s.2.2.2.2.1, t.1, t.2.1, t.2.2.1] 70]) (fun s t => FrS h 1 t.1 (s.2.2.2.2.2.1.map J3) ∧ FrS h 2 t.2.1 (s.2.2.2.2.2.2.1.map Jn) ∧ FrN h 6 t.2.2.1 g_tag_Entry s.2.2.2.2.2.2.2) ?_ ?_
     ·refine J6 ?_
      refine Je ?_
      refine Jb ?_
      refine Ja rfl rfl rfl (Jd (v := .int .i64 x19_2) rfl) ?_
      obtain ⟨t22, h_t22, H45⟩ := Ji H42; clear H42
      refine Ja rfl rfl rfl (Qe Try.underlying27 Try.sizeOf70 rfl rfl f0.frs (f0.ix h_t22)) ?_
      refine Qu (fun w hF hS => Xr (f := (Wu h v0 6)) (i := x19_2) (sz := 6) (j := 0) (vs := [.int .i64 t22.Tag, .int .i64 t22.Value.Kind, str t22.Value.Text, (Qb h v0 6 (Int.toNat x19_2) 3), (Qb h v0 6 (Int.toNat x19_2) 4), (Qb h v0 6 (Int.toNat x19_2) 5)]) Try.isAgg70 Try.sizeOf70 rfl rfl (f0.frs.row (hw.now hF)) (f0.ix h_t22) (rd_of (Q1 (f0.at h_t22)) rfl)) rfl rfl rfl ?_
      refine Ye (cs := [.int .i64 0, .int .i64 0, str [], .slice none 0 0, .slice none 0 0, .slice none 0 0]) Try.zeroValue70 rfl rfl rfl (fun b2 => ?_)
      refine Ja rfl rfl rfl (Jc (v := .int .i64 x19_2) rfl) ?_
      refine Qi (i := 0) (vs := [.int .i64 t22.Tag, .int .i64 t22.Value.Kind, str t22.Value.Text, (Qb h v0 6 (Int.toNat x19_2) 3), (Qb h v0 6 (Int.toNat x19_2) 4), (Qb h v0 6 (Int.toNat x19_2) 5)]) (cs' := [.int .i64 t22.Tag, .int .i64 t22.Value.Kind, str t22.Value.Text, (Qb h v0 6 (Int.toNat x19_2) 3), (Qb h v0 6 (Int.toNat x19_2) 4), (Qb h v0 6 (Int.toNat x19_2) 5)]) Try.sizeOf70 rfl rfl rfl rfl rfl rfl (by simp only [List.all_cons, List.all_nil, (show FrN h 6 (Qb h v0 6 (Int.toNat x19_2) 5) g_tag_Entry t22.Value.Entries from (J2 (Jm (f0.at h_t22)))).one, (show FrS h 1 (Qb h v0 6 (Int.toNat x19_2) 3) (t22.Value.Ints.map J3) from (J9 (Jm (f0.at h_t22)))).one, (show FrS h 2 (Qb h v0 6 (Int.toNat x19_2) 4) (t22.Value.Ratios.map Jn) from (J8 (Jm (f0.at h_t22)))).one] <;> rfl) rfl rfl ?_
      refine Jf ?_
      refine Je ?_
      refine Je ?_
      refine Jb ?_
      refine Ja rfl rfl rfl (Jl Try.runUnderlying70 rfl Try.sizeOf3 rfl rfl) ?_
      refine Jt (i := 0) (v := .int .i64 t22.Tag) Try.isAgg3 rfl rfl rfl rfl rfl ?_
      refine Ja rfl rfl rfl (Xs rfl rfl) ?_
      refine Ja rfl rfl rfl (Jd (v := .bool (decide (t22.Tag < 0))) rfl) ?_
      refine split (fun hb => ?_) (fun hb => ?_)
      ·have H46 := Jo hb H45; clear H45
       refine Jh rfl rfl rfl ?_
       refine Jh rfl rfl rfl ?_
       refine Jh rfl rfl rfl ?_
       refine Ja rfl rfl rfl (Jz (v := .bool true) rfl rfl) ?_
       refine Jf ?_
       refine Y5 rfl ?_
       refine Je ?_
       refine Jb ?_
       refine Ja rfl rfl rfl (Jc (v := .int .i64 2) rfl) ?_
       refine Jf ?_
       refine Jq ?_
       obtain rfl := Option.some.inj H46
       refine J5 (v := .int .i64 2) rfl rfl (fin rfl)
      ·have H47 := Jp hb H45; clear H45
       refine Ja rfl rfl rfl (Jl Try.runUnderlying70 rfl Try.sizeOf3 rfl rfl) ?_
       refine Jt (i := 0) (v := .int .i64 t22.Tag) Try.isAgg3 rfl rfl rfl rfl rfl ?_
       refine Ja rfl rfl rfl (Zn rfl rfl) ?_
       refine Ja rfl rfl rfl (J0 (v := .bool (decide (65535 < t22.Tag))) rfl rfl) ?_
       refine Jf ?_
       refine J4 (b := (decide (65535 < t22.Tag))) rfl (fun hb => ?_) (fun hb => ?_)
       ·have H48 := Jo hb H47; clear H47
        refine Je ?_
        refine Jb ?_
        refine Ja rfl rfl rfl (Jc (v := .int .i64 2) rfl) ?_
        refine Jf ?_
        refine Jq ?_
        obtain rfl := Option.some.inj H48
        refine J5 (v := .int .i64 2) rfl rfl (fin rfl)
       ·have H49 := Jp hb H47; clear H47
        refine Js ?_
        refine Q8 (r := r) (σ := Unit) (τ := Unit) (fun s => Uf a1 self x19_2 next1 t22) (fun s t => [(0, v0), (1, .int .i64 a1), (6, .pointer (some ⟨b2, 0, none⟩)), (17, v0), (18, .int .i64 (a0.length : Int)), (19, .int .i64 x19_2), (28, .pointer (some ⟨b2, 0, none⟩)), (29, .int .i64 t22.Tag), (30, .bool (decide (65535 < t22.Tag)))]) (fun s t => [Jv b2 [.int .i64 t22.Tag, .int .i64 t22.Value.Kind, str t22.Value.Text, (Qb h v0 6 (Int.toNat x19_2) 3), (Qb h v0 6 (Int.toNat x19_2) 4), (Qb h v0 6 (Int.toNat x19_2) 5)] 70]) (fun s t => True) ?_ ?_
        ·refine Je ?_
         exact Qp (Kd.p :: Kd.p :: Kd.p :: Kd.p :: Kd.d [0] _ :: Kd.p :: Kd.p :: Kd.p :: Kd.p :: Kd.p :: Kd.d [] _ :: Kd.p :: Kd.p :: []) 0 mixed (by
          refine Jj rfl rfl (Jd (v := .int .i64 x19_2) rfl) ?_
          refine Jj rfl rfl (Zn rfl rfl) ?_
          refine Jj rfl rfl (Jd (v := .bool (decide (0 < x19_2))) rfl) ?_
          refine Vf (fun hb => ?_) (fun hb => ?_)
          ·have H66 := Jo hb H49
           refine Jj rfl rfl (Jl Try.runUnderlying70 rfl Try.sizeOf3 rfl rfl) ?_
           refine Qx (i := 0) (v := .int .i64 t22.Tag) Try.isAgg3 rfl rfl rfl rfl ?_
           refine Jj rfl rfl (Jd (v := v0) rfl) ?_
           refine Jj rfl rfl (Jd (v := .int .i64 x19_2) rfl) ?_
           have h_t39 := Qt H66
           have H67 := Ql H66
           refine Jj rfl rfl (r_subG rfl rfl h_t39) ?_
           have h_t40 := Qt H67
           have H68 := Ql H67
           refine Jj rfl rfl (Qe Try.underlying27 Try.sizeOf70 rfl rfl f0.frs (f0.ix h_t40)) ?_
           refine Jj rfl rfl (r_fieldP Try.runUnderlying70 rfl Try.sizeOf3 rfl rfl (some_of_at f0.frs (f0.ix h_t40))) ?_
           refine Zw (fun w hF => Qa (f := (Wu h v0 6)) (i := (val (gI (x19_2 - 1)))) (sz := 6) (j := 0) (v := .int .i64 (val (Xt a0 (val (gI (x19_2 - 1))))).Tag) Try.isAgg3 rfl rfl (f0.frs.row (hw.now hF)) (f0.ix h_t40) (Ur (Q1 (f0.at h_t40)) rfl)) rfl rfl ?_
           refine Jj rfl rfl (r_leq rfl rfl) ?_
           refine Jj rfl rfl (Jz (v := .bool (decide (t22.Tag ≤ (val (Xt a0 (val (gI (x19_2 - 1))))).Tag))) rfl rfl) ?_
           refine Xm ?_
           refine J4 (b := (decide (t22.Tag ≤ (val (Xt a0 (val (gI (x19_2 - 1))))).Tag))) rfl (fun hb => ?_) (fun hb => ?_)
           ·have H69 := Jo hb H68; clear H68
            refine Je ?_
            refine Jb ?_
            refine Ja rfl rfl rfl (Jc (v := .int .i64 5) rfl) ?_
            refine Jf ?_
            refine Jq ?_
            obtain rfl := Option.some.inj H69
            refine J5 (v := .int .i64 5) rfl rfl (fin rfl)
           ·have H70 := Jp hb H68; clear H68
            refine Js ?_
            refine Jr () () 0 [0] (by exact ⟨rfl, rfl, rfl, rfl, rfl, rfl, rfl, rfl, rfl, trivial⟩) (by decide) (by kernel_rfl) (by exact ⟨H70, trivial⟩) (Nat.lt_succ_self _)
          ·have H71 := Jp hb H49
           refine Jw rfl rfl ?_
           refine Jw rfl rfl ?_
           refine Jw rfl rfl ?_
           refine Jw rfl rfl ?_
           refine Jw rfl rfl ?_
           refine Jw rfl rfl ?_
           refine Jw rfl rfl ?_
           refine Jw rfl rfl ?_
           refine Jw rfl rfl ?_
           refine Jj rfl rfl (J0 (v := .bool false) rfl rfl) ?_
           refine Xm ?_
           refine W2 rfl ?_
           refine Js ?_
           refine Jr () () 0 [0] (by exact ⟨rfl, rfl, rfl, rfl, rfl, rfl, rfl, rfl, rfl, trivial⟩) (by decide) (by kernel_rfl) (by exact ⟨H71, trivial⟩) (Nat.lt_succ_self _)
          ) (by kernel_rfl)
        ·rintro _ _ gg H50 _
         replace H50 : Uf a1 self x19_2 next1 t22 = some r := H50
         try dsimp only
         refine Je ?_
         refine Jb ?_
         refine Ja rfl rfl rfl (Jl Try.runUnderlying70 rfl Try.sizeOf29 rfl rfl) ?_
         refine Qg (i := 0) (vs := [.int .i64 t22.Value.Kind, str t22.Value.Text, (Qb h v0 6 (Int.toNat x19_2) 3), (Qb h v0 6 (Int.toNat x19_2) 4), (Qb h v0 6 (Int.toNat x19_2) 5)]) Try.isAgg29 Try.sizeOf29 rfl rfl rfl rfl rfl ?_
         refine Ye (cs := [.int .i64 0, str [], .slice none 0 0, .slice none 0 0, .slice none 0 0]) Try.zeroValue29 rfl rfl rfl (fun b3 => ?_)
         refine Qi (i := 1) (vs := [.int .i64 t22.Value.Kind, str t22.Value.Text, (Qb h v0 6 (Int.toNat x19_2) 3), (Qb h v0 6 (Int.toNat x19_2) 4), (Qb h v0 6 (Int.toNat x19_2) 5)]) (cs' := [.int .i64 t22.Value.Kind, str t22.Value.Text, (Qb h v0 6 (Int.toNat x19_2) 3), (Qb h v0 6 (Int.toNat x19_2) 4), (Qb h v0 6 (Int.toNat x19_2) 5)]) Try.sizeOf29 rfl rfl rfl rfl rfl rfl (by simp only [List.all_cons, List.all_nil, (show FrN h 6 (Qb h v0 6 (Int.toNat x19_2) 5) g_tag_Entry t22.Value.Entries from (J2 (Jm (f0.at h_t22)))).one, (show FrS h 1 (Qb h v0 6 (Int.toNat x19_2) 3) (t22.Value.Ints.map J3) from (J9 (Jm (f0.at h_t22)))).one, (show FrS h 2 (Qb h v0 6 (Int.toNat x19_2) 4) (t22.Value.Ratios.map Jn) from (J8 (Jm (f0.at h_t22)))).one] <;> rfl) rfl rfl ?_
         refine Jf ?_
         refine Je ?_
         refine Je ?_
         refine Jb ?_
         refine Ja rfl rfl rfl (Jl Try.runUnderlying29 rfl Try.sizeOf3 rfl rfl) ?_
         refine Jt (i := 1) (v := .int .i64 t22.Value.Kind) Try.isAgg3 rfl rfl rfl rfl rfl ?_
         refine Ja rfl rfl rfl (Y9 rfl rfl) ?_
         refine Jf ?_
         refine J4 (b := (decide (t22.Value.Kind ≠ 13))) rfl (fun hb => ?_) (fun hb => ?_)
         ·have H51 := Jo hb H50; clear H50
          refine Je ?_
          refine Je ?_
          refine Jb ?_
          refine Qg (i := 1) (vs := [.int .i64 t22.Value.Kind, str t22.Value.Text, (Qb h v0 6 (Int.toNat x19_2) 3), (Qb h v0 6 (Int.toNat x19_2) 4), (Qb h v0 6 (Int.toNat x19_2) 5)]) Try.isAgg29 Try.sizeOf29 rfl rfl rfl rfl rfl ?_
          obtain ⟨t51, h_t51, H52⟩ := Ji H51; clear H51
          refine Qn (fun w hF hS => k17 (Jy w) ((show FrS h 1 (Qb h v0 6 (Int.toNat x19_2) 3) (t22.Value.Ints.map J3) from (J9 (Jm (f0.at h_t22)))).mono (hw.now hF)) ((show FrS h 2 (Qb h v0 6 (Int.toNat x19_2) 4) (t22.Value.Ratios.map Jn) from (J8 (Jm (f0.at h_t22)))).mono (hw.now hF)) ((show FrN h 6 (Qb h v0 6 (Int.toNat x19_2) 5) g_tag_Entry t22.Value.Entries from (J2 (Jm (f0.at h_t22)))).mono (hw.now hF)) h_t51) Try.call17 rfl rfl rfl ?_
          refine Ja rfl rfl rfl (Jc (v := .int .i64 t51) rfl) ?_
          refine Jf ?_
          refine Je ?_
          refine Jb ?_
          refine Ja rfl rfl rfl (Jd (v := .int .i64 t51) rfl) ?_
          refine Ja rfl rfl rfl (Y9 rfl rfl) ?_
          refine Jf ?_
          refine J4 (b := (decide (t51 ≠ 0))) rfl (fun hb => ?_) (fun hb => ?_)
          ·have H53 := Jo hb H52; clear H52
           refine Je ?_
           refine Jb ?_
           refine Ja rfl rfl rfl (Jd (v := .int .i64 t51) rfl) ?_
           refine Ja rfl rfl rfl (Jc (v := .int .i64 t51) rfl) ?_
           refine Jf ?_
           refine Jq ?_
           obtain rfl := Option.some.inj H53
           refine J5 (v := .int .i64 t51) rfl rfl (fin rfl)
          ·have H54 := Jp hb H52; clear H52
           refine Js ?_
           refine X7 ?_
           refine Jr (t22.Tag, (decide (65535 < t22.Tag)), t22.Tag, t22.Value.Kind, t22.Value.Text, t22.Value.Ints, t22.Value.Ratios, t22.Value.Entries) ((Qb h v0 6 (Int.toNat x19_2) 3), (Qb h v0 6 (Int.toNat x19_2) 4), (Qb h v0 6 (Int.toNat x19_2) 5), b2) 0 [0] (by exact ⟨rfl, rfl, rfl, rfl, rfl, rfl, rfl, rfl, trivial⟩) (by decide) (by kernel_rfl) (by exact ⟨H54, ⟨(show FrS h 1 (Qb h v0 6 (Int.toNat x19_2) 3) (t22.Value.Ints.map J3) from (J9 (Jm (f0.at h_t22)))), (show FrS h 2 (Qb h v0 6 (Int.toNat x19_2) 4) (t22.Value.Ratios.map Jn) from (J8 (Jm (f0.at h_t22)))), (show FrN h 6 (Qb h v0 6 (Int.toNat x19_2) 5) g_tag_Entry t22.Value.Entries from (J2 (Jm (f0.at h_t22))))⟩⟩) (Nat.lt_succ_self _)
         ·have H55 := Jp hb H50; clear H50
          refine Js ?_
          refine Je ?_
          refine Je ?_
          refine Jb ?_
          refine Ja rfl rfl rfl (Jl Try.runUnderlying29 rfl Try.sizeOf9 rfl rfl) ?_
          refine Jt (i := 1) (v := str t22.Value.Text) Try.isAgg9 rfl rfl rfl rfl rfl ?_
          refine Ja rfl rfl rfl (r_neqT rfl rfl) ?_
          refine Ja rfl rfl rfl (Jd (v := .bool (decide (t22.Value.Text ≠ []))) rfl) ?_
          refine split (fun hb => ?_) (fun hb => ?_)
          ·have H56 := Jo hb H55; clear H55
           refine Jh rfl rfl rfl ?_
           refine Jh rfl rfl rfl ?_
           refine Jh rfl rfl rfl ?_
           refine Jh rfl rfl rfl ?_
           refine Ja rfl rfl rfl (Jz (v := .bool true) rfl rfl) ?_
           refine Ja rfl rfl rfl (Jd (v := .bool true) rfl) ?_
           refine Jh rfl rfl rfl ?_
           refine Jh rfl rfl rfl ?_
           refine Jh rfl rfl rfl ?_
           refine Jh rfl rfl rfl ?_
           refine Ja rfl rfl rfl (Jz (v := .bool true) rfl rfl) ?_
           refine Jf ?_
           refine Y5 rfl ?_
           refine Je ?_
           refine Jb ?_
           refine Ja rfl rfl rfl (Jc (v := .int .i64 1) rfl) ?_
           refine Jf ?_
           refine Jq ?_
           obtain rfl := Option.some.inj H56
           refine J5 (v := .int .i64 1) rfl rfl (fin rfl)
          ·have H57 := Jp hb H55; clear H55
           refine Ja rfl rfl rfl (Jl Try.runUnderlying29 rfl Try.sizeOf25 rfl rfl) ?_
           refine Jt (i := 1) (v := (Qb h v0 6 (Int.toNat x19_2) 3)) Try.isAgg25 rfl rfl rfl rfl rfl ?_
           refine Ja rfl rfl rfl (Xy Try.underlying25 rfl (show FrS h 1 (Qb h v0 6 (Int.toNat x19_2) 3) (t22.Value.Ints.map J3) from (J9 (Jm (f0.at h_t22)))) rfl) ?_
           refine Ja rfl rfl rfl (Zn rfl rfl) ?_
           refine Ja rfl rfl rfl (J0 (v := .bool (decide (0 < (t22.Value.Ints.length : Int)))) rfl rfl) ?_
           refine Ja rfl rfl rfl (Jd (v := .bool (decide (0 < (t22.Value.Ints.length : Int)))) rfl) ?_
           refine split (fun hb => ?_) (fun hb => ?_)
           ·have H58 := Jo hb H57; clear H57
            refine Jh rfl rfl rfl ?_
            refine Jh rfl rfl rfl ?_
            refine Jh rfl rfl rfl ?_
            refine Jh rfl rfl rfl ?_
            refine Ja rfl rfl rfl (Jz (v := .bool true) rfl rfl) ?_
            refine Jf ?_
            refine Y5 rfl ?_
            refine Je ?_
            refine Jb ?_
            refine Ja rfl rfl rfl (Jc (v := .int .i64 1) rfl) ?_
            refine Jf ?_
            refine Jq ?_
            obtain rfl := Option.some.inj H58
            refine J5 (v := .int .i64 1) rfl rfl (fin rfl)
           ·have H59 := Jp hb H57; clear H57
            refine Ja rfl rfl rfl (Jl Try.runUnderlying29 rfl Try.sizeOf26 rfl rfl) ?_
            refine Jt (i := 1) (v := (Qb h v0 6 (Int.toNat x19_2) 4)) Try.isAgg26 rfl rfl rfl rfl rfl ?_
            refine Ja rfl rfl rfl (Xy Try.underlying26 rfl (show FrS h 2 (Qb h v0 6 (Int.toNat x19_2) 4) (t22.Value.Ratios.map Jn) from (J8 (Jm (f0.at h_t22)))) rfl) ?_
            refine Ja rfl rfl rfl (Zn rfl rfl) ?_
            refine Ja rfl rfl rfl (J0 (v := .bool (decide (0 < (t22.Value.Ratios.length : Int)))) rfl rfl) ?_
            refine Jf ?_
            refine J4 (b := (decide (0 < (t22.Value.Ratios.length : Int)))) rfl (fun hb => ?_) (fun hb => ?_)
            ·have H60 := Jo hb H59; clear H59
             refine Je ?_
             refine Jb ?_
             refine Ja rfl rfl rfl (Jc (v := .int .i64 1) rfl) ?_
             refine Jf ?_
             refine Jq ?_
             obtain rfl := Option.some.inj H60
             refine J5 (v := .int .i64 1) rfl rfl (fin rfl)
            ·have H61 := Jp hb H59; clear H59
             refine Js ?_
             refine Je ?_
             refine Jb ?_
             refine Ja rfl rfl rfl (Jl Try.runUnderlying29 rfl Try.sizeOf27 rfl rfl) ?_
             refine Jt (i := 1) (v := (Qb h v0 6 (Int.toNat x19_2) 5)) Try.isAgg27 rfl rfl rfl rfl rfl ?_
             refine Ja rfl rfl rfl (Jd (v := .int .i64 a1) rfl) ?_
             obtain ⟨t73, h_t73, H62⟩ := Ji H61; clear H61
             refine Ja rfl rfl rfl (Qv rfl rfl h_t73) ?_
             obtain ⟨t74, h_t74, H63⟩ := Ji H62; clear H62
             refine Qn (fun w hF hS => ih (Jy w) ((show FrN h 6 (Qb h v0 6 (Int.toNat x19_2) 5) g_tag_Entry t22.Value.Entries from (J2 (Jm (f0.at h_t22)))).mono (hw.now hF)) h_t74) Try.call20 rfl rfl rfl ?_
             refine Ja rfl rfl rfl (Jc (v := .int .i64 t74) rfl) ?_
             refine Jf ?_
             refine Je ?_
             refine Jb ?_
             refine Ja rfl rfl rfl (Jd (v := .int .i64 t74) rfl) ?_
             refine Ja rfl rfl rfl (Y9 rfl rfl) ?_
             refine Jf ?_
             refine J4 (b := (decide (t74 ≠ 0))) rfl (fun hb => ?_) (fun hb => ?_)
             ·have H64 := Jo hb H63; clear H63
              refine Je ?_
              refine Jb ?_
              refine Ja rfl rfl rfl (Jd (v := .int .i64 t74) rfl) ?_
              refine Ja rfl rfl rfl (Jc (v := .int .i64 t74) rfl) ?_
              refine Jf ?_
              refine Jq ?_
              obtain rfl := Option.some.inj H64
              refine J5 (v := .int .i64 t74) rfl rfl (fin rfl)
             ·have H65 := Jp hb H63; clear H63
              refine Js ?_
              refine Jr (t22.Tag, (decide (65535 < t22.Tag)), t22.Tag, t22.Value.Kind, t22.Value.Text, t22.Value.Ints, t22.Value.Ratios, t22.Value.Entries) ((Qb h v0 6 (Int.toNat x19_2) 3), (Qb h v0 6 (Int.toNat x19_2) 4), (Qb h v0 6 (Int.toNat x19_2) 5), b2) 0 [0] (by exact ⟨rfl, rfl, rfl, rfl, rfl, rfl, rfl, rfl, trivial⟩) (by decide) (by kernel_rfl) (by exact ⟨H65, ⟨(show FrS h 1 (Qb h v0 6 (Int.toNat x19_2) 3) (t22.Value.Ints.map J3) from (J9 (Jm (f0.at h_t22)))), (show FrS h 2 (Qb h v0 6 (Int.toNat x19_2) 4) (t22.Value.Ratios.map Jn) from (J8 (Jm (f0.at h_t22)))), (show FrN h 6 (Qb h v0 6 (Int.toNat x19_2) 5) g_tag_Entry t22.Value.Entries from (J2 (Jm (f0.at h_t22))))⟩⟩) (Nat.lt_succ_self _)
     ·rintro ⟨x29, x30, m, m_2, m_3, m_4, m_5, m_6⟩ ⟨gv, gv_2, gv_3, b⟩ gg H43 ⟨gf, gf_2, gf_3⟩
      replace H43 : Wv x19_2 next1 x29 x30 m m_2 m_3 m_4 m_5 m_6 = some r := H43
      try dsimp only
      refine Jb ?_
      obtain ⟨t78, h_t78, H44⟩ := Ji H43; clear H43
      refine Ja rfl rfl rfl (Qv rfl rfl h_t78) ?_
      refine Ja rfl rfl rfl (Jd (v := .int .i64 t78) rfl) ?_
      refine Jf ?_
      refine Jr t78 () m1 [] (by exact ⟨rfl, rfl, rfl, rfl, rfl, trivial⟩) (by decide) (by kernel_rfl) (by exact ⟨(by subst hn1; exact H44), trivial⟩) (Nat.lt_succ_self _)
    ·have H72 := Jp hb H41; clear H41
     refine X7 ?_
     refine Je ?_
     refine Jb ?_
     refine Ja rfl rfl rfl (Jc (v := .int .i64 0) rfl) ?_
     refine Jf ?_
     refine Jq ?_
     obtain rfl := Option.some.inj H72
     refine J5 (v := .int .i64 0) rfl rfl (fin rfl)
theorem k20 {a0 : (List T_tag_Entry)} {v0 : Value} {a1 : Int} {r : Int} {w : World} {h : Jx} (hw : Know h w X3) (f0 : FrN h 6 v0 g_tag_Entry a0) (H : R_dirFault a0 a1 = some r) : Does Try.prog 20 (List.toArray [v0, .int .i64 a1]) w (fun v w' => v = (.int .i64 r) ∧ Grow w w') := by
 obtain ⟨mm, hm⟩ := fix_it (show V6 (fun (self : ((List T_tag_Entry) × Int) → Option (Int)) (s : (List T_tag_Entry) × Int) => Y1 self s.1 s.2) (a0, a1) = some r from H)
 exact k20_it mm hw f0 hm
theorem k17q {a0 : T_tag_Value} {v0_2 : Value} {v0_3 : Value} {v0_4 : Value} {r : Int} {w : World} {h : Jx} (hw : Know h w X3) (f0_2 : FrS h 1 v0_2 (a0.Ints.map J3)) (f0_3 : FrS h 2 v0_3 (a0.Ratios.map Jn)) (f0_4 : FrN h 6 v0_4 g_tag_Entry a0.Entries) (H : Z6 a0 = some r) : Does Try.prog 17 (List.toArray [.agg #[.int .i64 a0.Kind, str a0.Text, v0_2, v0_3, v0_4]]) w (fun v w' => v = (.int .i64 r) ∧ Grow w w') := by
 refine enter (n := 139) Try.func17 rfl rfl rfl X3 [] (Sat.nil _ _) ?_
 refine Je ?_
 refine Jb ?_
 refine Yv (cs := [.int .i64 a0.Kind, str a0.Text, v0_2, v0_3, v0_4]) rfl rfl rfl rfl (fun b2 => ?_)
 refine Ja rfl rfl rfl (Jc (v := .int .i64 0) rfl) ?_
 refine Jf ?_
 refine Q8 (r := r) (σ := Bool × Bool) (τ := Unit) (fun s => Q5 a0 s.1 s.2) (fun s t => [(1, .pointer (some ⟨b2, 0, none⟩)), (3, .bool s.1), (4, .bool s.2)]) (fun s t => [Jv b2 [.int .i64 a0.Kind, str a0.Text, v0_2, v0_3, v0_4] 29]) (fun s t => True) ?_ ?_
 ·exact Qp (Kd.p :: Kd.d [0] _ :: Kd.p :: Kd.p :: Kd.p :: Kd.d [0] _ :: Kd.p :: Kd.p :: Kd.p :: Kd.d [0] _ :: Kd.p :: Kd.p :: Kd.p :: Kd.d [0] _ :: Kd.p :: Kd.p :: Kd.p :: Kd.p :: Kd.d [0] _ :: Kd.p :: Kd.p :: Kd.p :: Kd.p :: Kd.d [0] _ :: Kd.p :: Kd.p :: Kd.p :: Kd.p :: []) 0 mixed (by
   refine Jj rfl rfl (Jl Try.runUnderlying29 rfl Try.sizeOf3 rfl rfl) ?_
   refine Qx (i := 0) (v := .int .i64 a0.Kind) Try.isAgg3 rfl rfl rfl rfl ?_
   refine Jj rfl rfl (Qr rfl rfl) ?_
   refine Jj rfl rfl (Jd (v := .bool (decide (a0.Kind = 2))) rfl) ?_
   refine Vf (fun hb => ?_) (fun hb => ?_)
   ·have H143 := Jo hb H
    refine Jw rfl rfl ?_
    refine Jw rfl rfl ?_
    refine Jw rfl rfl ?_
    refine Jj rfl rfl (Jz (v := .bool true) rfl rfl) ?_
    refine Jj rfl rfl (Jl Try.runUnderlying29 rfl Try.sizeOf3 rfl rfl) ?_
    refine Qx (i := 0) (v := .int .i64 a0.Kind) Try.isAgg3 rfl rfl rfl rfl ?_
    refine Jj rfl rfl (Qr rfl rfl) ?_
    refine Jj rfl rfl (Jd (v := .bool (decide (a0.Kind = 1))) rfl) ?_
    refine Vf (fun hb => ?_) (fun hb => ?_)
    ·have H144 := Jo hb H143
     refine Jw rfl rfl ?_
     refine Jw rfl rfl ?_
     refine Jw rfl rfl ?_
     refine Jj rfl rfl (Jz (v := .bool true) rfl rfl) ?_
     refine Jj rfl rfl (Jd (v := .bool true) rfl) ?_
     refine Jw rfl rfl ?_
     refine Jw rfl rfl ?_
     refine Jw rfl rfl ?_
     refine Jj rfl rfl (Jz (v := .bool true) rfl rfl) ?_
     refine Jj rfl rfl (Jd (v := .bool true) rfl) ?_
     refine Jw rfl rfl ?_
     refine Jw rfl rfl ?_
     refine Jw rfl rfl ?_
     refine Jj rfl rfl (Jz (v := .bool true) rfl rfl) ?_
     refine Jj rfl rfl (Jc (v := .bool true) rfl) ?_
     refine Jj rfl rfl (Jc (v := .bool true) rfl) ?_
     refine Xm ?_
     refine Jr (true, true) () 0 [0] (by exact ⟨rfl, rfl, rfl, trivial⟩) (by decide) (by kernel_rfl) (by exact ⟨H144, trivial⟩) (Nat.lt_succ_self _)
    ·have H145 := Jp hb H143
     refine Jj rfl rfl (Jl Try.runUnderlying29 rfl Try.sizeOf3 rfl rfl) ?_
     refine Qx (i := 0) (v := .int .i64 a0.Kind) Try.isAgg3 rfl rfl rfl rfl ?_
     refine Jj rfl rfl (Qr rfl rfl) ?_
     refine Jj rfl rfl (J0 (v := .bool (decide (a0.Kind = 3))) rfl rfl) ?_
     refine Jj rfl rfl (Jd (v := .bool (decide (a0.Kind = 3))) rfl) ?_
     refine Vf (fun hb => ?_) (fun hb => ?_)
     ·have H146 := Jo hb H145
      refine Jw rfl rfl ?_
      refine Jw rfl rfl ?_
      refine Jw rfl rfl ?_
      refine Jj rfl rfl (Jz (v := .bool true) rfl rfl) ?_
      refine Jj rfl rfl (Jd (v := .bool true) rfl) ?_
      refine Jw rfl rfl ?_
      refine Jw rfl rfl ?_
      refine Jw rfl rfl ?_
      refine Jj rfl rfl (Jz (v := .bool true) rfl rfl) ?_
      refine Jj rfl rfl (Jc (v := .bool true) rfl) ?_
      refine Jj rfl rfl (Jc (v := .bool true) rfl) ?_
      refine Xm ?_
      refine Jr (true, true) () 0 [0] (by exact ⟨rfl, rfl, rfl, trivial⟩) (by decide) (by kernel_rfl) (by exact ⟨H146, trivial⟩) (Nat.lt_succ_self _)
     ·have H147 := Jp hb H145
      refine Jj rfl rfl (Jl Try.runUnderlying29 rfl Try.sizeOf3 rfl rfl) ?_
      refine Qx (i := 0) (v := .int .i64 a0.Kind) Try.isAgg3 rfl rfl rfl rfl ?_
      refine Jj rfl rfl (Qr rfl rfl) ?_
      refine Jj rfl rfl (J0 (v := .bool (decide (a0.Kind = 4))) rfl rfl) ?_
      refine Jj rfl rfl (Jd (v := .bool (decide (a0.Kind = 4))) rfl) ?_
      refine Vf (fun hb => ?_) (fun hb => ?_)
      ·have H148 := Jo hb H147
       refine Jw rfl rfl ?_
       refine Jw rfl rfl ?_
       refine Jw rfl rfl ?_
       refine Jj rfl rfl (Jz (v := .bool true) rfl rfl) ?_
       refine Jj rfl rfl (Jc (v := .bool true) rfl) ?_
       refine Jj rfl rfl (Jc (v := .bool true) rfl) ?_
       refine Xm ?_
       refine Jr (true, true) () 0 [0] (by exact ⟨rfl, rfl, rfl, trivial⟩) (by decide) (by kernel_rfl) (by exact ⟨H148, trivial⟩) (Nat.lt_succ_self _)
      ·have H149 := Jp hb H147
       refine Jj rfl rfl (Jl Try.runUnderlying29 rfl Try.sizeOf3 rfl rfl) ?_
       refine Qx (i := 0) (v := .int .i64 a0.Kind) Try.isAgg3 rfl rfl rfl rfl ?_
       refine Jj rfl rfl (Qr rfl rfl) ?_
       refine Jj rfl rfl (J0 (v := .bool (decide (a0.Kind = 9))) rfl rfl) ?_
       refine Jj rfl rfl (Jc (v := .bool true) rfl) ?_
       refine Jj rfl rfl (Jc (v := .bool (decide (a0.Kind = 9))) rfl) ?_
       refine Xm ?_
       refine Jr (true, (decide (a0.Kind = 9))) () 0 [0] (by exact ⟨rfl, rfl, rfl, trivial⟩) (by decide) (by kernel_rfl) (by exact ⟨H149, trivial⟩) (Nat.lt_succ_self _)
   ·have H150 := Jp hb H
    refine Jj rfl rfl (Jl Try.runUnderlying29 rfl Try.sizeOf3 rfl rfl) ?_
    refine Qx (i := 0) (v := .int .i64 a0.Kind) Try.isAgg3 rfl rfl rfl rfl ?_
    refine Jj rfl rfl (Qr rfl rfl) ?_
    refine Jj rfl rfl (J0 (v := .bool (decide (a0.Kind = 7))) rfl rfl) ?_
    refine Jj rfl rfl (Jl Try.runUnderlying29 rfl Try.sizeOf3 rfl rfl) ?_
    refine Qx (i := 0) (v := .int .i64 a0.Kind) Try.isAgg3 rfl rfl rfl rfl ?_
    refine Jj rfl rfl (Qr rfl rfl) ?_
    refine Jj rfl rfl (Jd (v := .bool (decide (a0.Kind = 1))) rfl) ?_
    refine Vf (fun hb => ?_) (fun hb => ?_)
    ·have H151 := Jo hb H150
     refine Jw rfl rfl ?_
     refine Jw rfl rfl ?_
     refine Jw rfl rfl ?_
     refine Jj rfl rfl (Jz (v := .bool true) rfl rfl) ?_
     refine Jj rfl rfl (Jd (v := .bool true) rfl) ?_
     refine Jw rfl rfl ?_
     refine Jw rfl rfl ?_
     refine Jw rfl rfl ?_
     refine Jj rfl rfl (Jz (v := .bool true) rfl rfl) ?_
     refine Jj rfl rfl (Jd (v := .bool true) rfl) ?_
     refine Jw rfl rfl ?_
     refine Jw rfl rfl ?_
     refine Jw rfl rfl ?_
     refine Jj rfl rfl (Jz (v := .bool true) rfl rfl) ?_
     refine Jj rfl rfl (Jc (v := .bool (decide (a0.Kind = 7))) rfl) ?_
     refine Jj rfl rfl (Jc (v := .bool true) rfl) ?_
     refine Xm ?_
     refine Jr ((decide (a0.Kind = 7)), true) () 0 [0] (by exact ⟨rfl, rfl, rfl, trivial⟩) (by decide) (by kernel_rfl) (by exact ⟨H151, trivial⟩) (Nat.lt_succ_self _)
    ·have H152 := Jp hb H150
     refine Jj rfl rfl (Jl Try.runUnderlying29 rfl Try.sizeOf3 rfl rfl) ?_
     refine Qx (i := 0) (v := .int .i64 a0.Kind) Try.isAgg3 rfl rfl rfl rfl ?_
     refine Jj rfl rfl (Qr rfl rfl) ?_
     refine Jj rfl rfl (J0 (v := .bool (decide (a0.Kind = 3))) rfl rfl) ?_
     refine Jj rfl rfl (Jd (v := .bool (decide (a0.Kind = 3))) rfl) ?_
     refine Vf (fun hb => ?_) (fun hb => ?_)
     ·have H153 := Jo hb H152
      refine Jw rfl rfl ?_
      refine Jw rfl rfl ?_
      refine Jw rfl rfl ?_
      refine Jj rfl rfl (Jz (v := .bool true) rfl rfl) ?_
      refine Jj rfl rfl (Jd (v := .bool true) rfl) ?_
      refine Jw rfl rfl ?_
      refine Jw rfl rfl ?_
      refine Jw rfl rfl ?_
      refine Jj rfl rfl (Jz (v := .bool true) rfl rfl) ?_
      refine Jj rfl rfl (Jc (v := .bool (decide (a0.Kind = 7))) rfl) ?_
      refine Jj rfl rfl (Jc (v := .bool true) rfl) ?_
      refine Xm ?_
      refine Jr ((decide (a0.Kind = 7)), true) () 0 [0] (by exact ⟨rfl, rfl, rfl, trivial⟩) (by decide) (by kernel_rfl) (by exact ⟨H153, trivial⟩) (Nat.lt_succ_self _)
     ·have H154 := Jp hb H152
      refine Jj rfl rfl (Jl Try.runUnderlying29 rfl Try.sizeOf3 rfl rfl) ?_
      refine Qx (i := 0) (v := .int .i64 a0.Kind) Try.isAgg3 rfl rfl rfl rfl ?_
      refine Jj rfl rfl (Qr rfl rfl) ?_
      refine Jj rfl rfl (J0 (v := .bool (decide (a0.Kind = 4))) rfl rfl) ?_
      refine Jj rfl rfl (Jd (v := .bool (decide (a0.Kind = 4))) rfl) ?_
      refine Vf (fun hb => ?_) (fun hb => ?_)
      ·have H155 := Jo hb H154
       refine Jw rfl rfl ?_
       refine Jw rfl rfl ?_
       refine Jw rfl rfl ?_
       refine Jj rfl rfl (Jz (v := .bool true) rfl rfl) ?_
       refine Jj rfl rfl (Jc (v := .bool (decide (a0.Kind = 7))) rfl) ?_
       refine Jj rfl rfl (Jc (v := .bool true) rfl) ?_
       refine Xm ?_
       refine Jr ((decide (a0.Kind = 7)), true) () 0 [0] (by exact ⟨rfl, rfl, rfl, trivial⟩) (by decide) (by kernel_rfl) (by exact ⟨H155, trivial⟩) (Nat.lt_succ_self _)
      ·have H156 := Jp hb H154
       refine Jj rfl rfl (Jl Try.runUnderlying29 rfl Try.sizeOf3 rfl rfl) ?_
       refine Qx (i := 0) (v := .int .i64 a0.Kind) Try.isAgg3 rfl rfl rfl rfl ?_
       refine Jj rfl rfl (Qr rfl rfl) ?_
       refine Jj rfl rfl (J0 (v := .bool (decide (a0.Kind = 9))) rfl rfl) ?_
       refine Jj rfl rfl (Jc (v := .bool (decide (a0.Kind = 7))) rfl) ?_
       refine Jj rfl rfl (Jc (v := .bool (decide (a0.Kind = 9))) rfl) ?_
       refine Xm ?_
       refine Jr ((decide (a0.Kind = 7)), (decide (a0.Kind = 9))) () 0 [0] (by exact ⟨rfl, rfl, rfl, trivial⟩) (by decide) (by kernel_rfl) (by exact ⟨H156, trivial⟩) (Nat.lt_succ_self _)
   ) (by kernel_rfl)
 ·rintro ⟨x3, x4⟩ _ gg H79 _
  replace H79 : Q5 a0 x3 x4 = some r := H79
  try dsimp only
  refine Q8 (r := r) (σ := Unit) (τ := Unit) (fun s => Xn a0) (fun s t => [(1, .pointer (some ⟨b2, 0, none⟩))]) (fun s t => [Jv b2 [.int .i64 a0.Kind, str a0.Text, v0_2, v0_3, v0_4] 29]) (fun s t => True) ?_ ?_
  ·refine J6 ?_
   refine Je ?_
   refine Jb ?_
   refine Ja rfl rfl rfl (Jl Try.runUnderlying29 rfl Try.sizeOf3 rfl rfl) ?_
   refine Jt (i := 0) (v := .int .i64 a0.Kind) Try.isAgg3 rfl rfl rfl rfl rfl ?_
   obtain ⟨t40, h_t40, H115⟩ := Ji H79; clear H79
   refine Vo (k45 h_t40) Try.call45 rfl rfl rfl ?_
   refine Ja rfl rfl rfl (Qr rfl rfl) ?_
   refine Ja rfl rfl rfl (Jc (v := .bool (decide (t40 = 0))) rfl) ?_
   refine Jf ?_
   refine J4 (b := (decide (t40 = 0))) rfl (fun hb => ?_) (fun hb => ?_)
   ·have H116 := Jo hb H115; clear H115
    refine Je ?_
    refine Jb ?_
    refine Ja rfl rfl rfl (Jc (v := .int .i64 10) rfl) ?_
    refine Jf ?_
    refine Jq ?_
    obtain rfl := Option.some.inj H116
    refine J5 (v := .int .i64 10) rfl rfl (fin rfl)
   ·have H117 := Jp hb H115; clear H115
    refine Je ?_
    refine Q8 (r := r) (σ := Bool) (τ := Unit) (fun s => Yb a0 x4 s) (fun s t => [(1, .pointer (some ⟨b2, 0, none⟩)), (4, .bool x4), (42, .bool s)]) (fun s t => [Jv b2 [.int .i64 a0.Kind, str a0.Text, v0_2, v0_3, v0_4] 29]) (fun s t => True) ?_ ?_
    ·refine Jb ?_
     refine Ja rfl rfl rfl (Jl Try.runUnderlying29 rfl Try.sizeOf9 rfl rfl) ?_
     refine Jt (i := 0) (v := str a0.Text) Try.isAgg9 rfl rfl rfl rfl rfl ?_
     refine Ja rfl rfl rfl (r_neqT rfl rfl) ?_
     refine Ja rfl rfl rfl (Jd (v := .bool (decide (a0.Text ≠ []))) rfl) ?_
     refine split (fun hb => ?_) (fun hb => ?_)
     ·have H141 := Jo hb H117; clear H117
      refine Ja rfl rfl rfl (Jd (v := .bool x3) rfl) ?_
      refine Ja rfl rfl rfl (V3 rfl) ?_
      refine Ja rfl rfl rfl (Jz (v := .bool (!x3)) rfl rfl) ?_
      refine Ja rfl rfl rfl (Jc (v := .bool (!x3)) rfl) ?_
      refine Jf ?_
      refine Jr (!x3) () 0 [0] (by exact ⟨rfl, rfl, rfl, trivial⟩) (by decide) (by kernel_rfl) (by exact ⟨H141, trivial⟩) (Nat.lt_succ_self _)
     ·have H142 := Jp hb H117; clear H117
      refine Jh rfl rfl rfl ?_
      refine Jh rfl rfl rfl ?_
      refine Ja rfl rfl rfl (J0 (v := .bool false) rfl rfl) ?_
      refine Ja rfl rfl rfl (Jc (v := .bool false) rfl) ?_
      refine Jf ?_
      refine Jr false () 0 [0] (by exact ⟨rfl, rfl, rfl, trivial⟩) (by decide) (by kernel_rfl) (by exact ⟨H142, trivial⟩) (Nat.lt_succ_self _)
    ·rintro x42 _ gg H118 _
     replace H118 : Yb a0 x4 x42 = some r := H118
     try dsimp only
     refine J4 (b := x42) rfl (fun hb => ?_) (fun hb => ?_)
     ·have H119 := Jo hb H118; clear H118
      refine Js ?_
      refine J4 (b := x42) rfl (fun hb => ?_) (fun hb => ?_)
      ·have H120 := Jo hb H119; clear H119
       refine Je ?_
       refine Jb ?_
       refine Ja rfl rfl rfl (Jc (v := .int .i64 1) rfl) ?_
       refine Jf ?_
       refine Jq ?_
       obtain rfl := Option.some.inj H120
       refine J5 (v := .int .i64 1) rfl rfl (fin rfl)
      ·have H121 := Jp hb H119; clear H119
       refine Js ?_
       refine Jr () () 0 [0] (by exact ⟨rfl, trivial⟩) (by decide) (by kernel_rfl) (by exact ⟨H121, trivial⟩) (Nat.lt_succ_self _)
     ·have H122 := Jp hb H118; clear H118
      refine Q8 (r := r) (σ := Bool) (τ := Unit) (fun s => Yd a0 s) (fun s t => [(1, .pointer (some ⟨b2, 0, none⟩)), (42, .bool s)]) (fun s t => [Jv b2 [.int .i64 a0.Kind, str a0.Text, v0_2, v0_3, v0_4] 29]) (fun s t => True) ?_ ?_
      ·refine Jb ?_
       refine Ja rfl rfl rfl (Jl Try.runUnderlying29 rfl Try.sizeOf25 rfl rfl) ?_
       refine Jt (i := 0) (v := v0_2) Try.isAgg25 rfl rfl rfl rfl rfl ?_
       refine Ja rfl rfl rfl (Xy Try.underlying25 rfl f0_2 rfl) ?_
       refine Ja rfl rfl rfl (Zn rfl rfl) ?_
       refine Ja rfl rfl rfl (Jd (v := .bool (decide (0 < (a0.Ints.length : Int)))) rfl) ?_
       refine split (fun hb => ?_) (fun hb => ?_)
       ·have H139 := Jo hb H122; clear H122
        refine Ja rfl rfl rfl (Jd (v := .bool x4) rfl) ?_
        refine Ja rfl rfl rfl (V3 rfl) ?_
        refine Ja rfl rfl rfl (Jz (v := .bool (!x4)) rfl rfl) ?_
        refine Ja rfl rfl rfl (Jc (v := .bool (!x4)) rfl) ?_
        refine Jf ?_
        refine Jr (!x4) () 0 [0] (by exact ⟨rfl, rfl, trivial⟩) (by decide) (by kernel_rfl) (by exact ⟨H139, trivial⟩) (Nat.lt_succ_self _)
       ·have H140 := Jp hb H122; clear H122
        refine Jh rfl rfl rfl ?_
        refine Jh rfl rfl rfl ?_
        refine Ja rfl rfl rfl (J0 (v := .bool false) rfl rfl) ?_
        refine Ja rfl rfl rfl (Jc (v := .bool false) rfl) ?_
        refine Jf ?_
        refine Jr false () 0 [0] (by exact ⟨rfl, rfl, trivial⟩) (by decide) (by kernel_rfl) (by exact ⟨H140, trivial⟩) (Nat.lt_succ_self _)
      ·rintro x42_2 _ gg H123 _
       replace H123 : Yd a0 x42_2 = some r := H123
       try dsimp only
       refine J4 (b := x42_2) rfl (fun hb => ?_) (fun hb => ?_)
       ·have H124 := Jo hb H123; clear H123
        refine Js ?_
        refine J4 (b := x42_2) rfl (fun hb => ?_) (fun hb => ?_)
        ·have H125 := Jo hb H124; clear H124
         refine Je ?_
         refine Jb ?_
         refine Ja rfl rfl rfl (Jc (v := .int .i64 1) rfl) ?_
         refine Jf ?_
         refine Jq ?_
         obtain rfl := Option.some.inj H125
         refine J5 (v := .int .i64 1) rfl rfl (fin rfl)
        ·have H126 := Jp hb H124; clear H124
         refine Js ?_
         refine Jr () () 0 [0] (by exact ⟨rfl, trivial⟩) (by decide) (by kernel_rfl) (by exact ⟨H126, trivial⟩) (Nat.lt_succ_self _)
       ·have H127 := Jp hb H123; clear H123
        refine Q8 (r := r) (σ := Bool) (τ := Unit) (fun s => X0 a0 s) (fun s t => [(1, .pointer (some ⟨b2, 0, none⟩)), (42, .bool s)]) (fun s t => [Jv b2 [.int .i64 a0.Kind, str a0.Text, v0_2, v0_3, v0_4] 29]) (fun s t => True) ?_ ?_
        ·refine Jb ?_
         refine Ja rfl rfl rfl (Jl Try.runUnderlying29 rfl Try.sizeOf26 rfl rfl) ?_
         refine Jt (i := 0) (v := v0_3) Try.isAgg26 rfl rfl rfl rfl rfl ?_
         refine Ja rfl rfl rfl (Xy Try.underlying26 rfl f0_3 rfl) ?_
         refine Ja rfl rfl rfl (Zn rfl rfl) ?_
         refine Ja rfl rfl rfl (Jd (v := .bool (decide (0 < (a0.Ratios.length : Int)))) rfl) ?_
         refine split (fun hb => ?_) (fun hb => ?_)
         ·have H137 := Jo hb H127; clear H127
          refine Ja rfl rfl rfl (Jl Try.runUnderlying29 rfl Try.sizeOf3 rfl rfl) ?_
          refine Jt (i := 0) (v := .int .i64 a0.Kind) Try.isAgg3 rfl rfl rfl rfl rfl ?_
          refine Ja rfl rfl rfl (Y9 rfl rfl) ?_
          refine Ja rfl rfl rfl (Jz (v := .bool (decide (a0.Kind ≠ 5))) rfl rfl) ?_
          refine Ja rfl rfl rfl (Jc (v := .bool (decide (a0.Kind ≠ 5))) rfl) ?_
          refine Jf ?_
          refine Jr (decide (a0.Kind ≠ 5)) () 0 [0] (by exact ⟨rfl, rfl, trivial⟩) (by decide) (by kernel_rfl) (by exact ⟨H137, trivial⟩) (Nat.lt_succ_self _)
         ·have H138 := Jp hb H127; clear H127
          refine Jh rfl rfl rfl ?_
          refine Jh rfl rfl rfl ?_
          refine Jh rfl rfl rfl ?_
          refine Ja rfl rfl rfl (J0 (v := .bool false) rfl rfl) ?_
          refine Ja rfl rfl rfl (Jc (v := .bool false) rfl) ?_
          refine Jf ?_
          refine Jr false () 0 [0] (by exact ⟨rfl, rfl, trivial⟩) (by decide) (by kernel_rfl) (by exact ⟨H138, trivial⟩) (Nat.lt_succ_self _)
        ·rintro x42_3 _ gg H128 _
         replace H128 : X0 a0 x42_3 = some r := H128
         try dsimp only
         refine J4 (b := x42_3) rfl (fun hb => ?_) (fun hb => ?_)
         ·have H129 := Jo hb H128; clear H128
          refine Js ?_
          refine J4 (b := x42_3) rfl (fun hb => ?_) (fun hb => ?_)
          ·have H130 := Jo hb H129; clear H129
           refine Je ?_
           refine Jb ?_
           refine Ja rfl rfl rfl (Jc (v := .int .i64 1) rfl) ?_
           refine Jf ?_
           refine Jq ?_
           obtain rfl := Option.some.inj H130
           refine J5 (v := .int .i64 1) rfl rfl (fin rfl)
          ·have H131 := Jp hb H129; clear H129
           refine Js ?_
           refine Jr () () 0 [0] (by exact ⟨rfl, trivial⟩) (by decide) (by kernel_rfl) (by exact ⟨H131, trivial⟩) (Nat.lt_succ_self _)
         ·have H132 := Jp hb H128; clear H128
          refine Jb ?_
          refine Ja rfl rfl rfl (Jl Try.runUnderlying29 rfl Try.sizeOf27 rfl rfl) ?_
          refine Jt (i := 0) (v := v0_4) Try.isAgg27 rfl rfl rfl rfl rfl ?_
          refine Ja rfl rfl rfl (Q7 Try.underlying27 rfl f0_4) ?_
          refine Ja rfl rfl rfl (Zn rfl rfl) ?_
          refine Ja rfl rfl rfl (Jd (v := .bool (decide (0 < (a0.Entries.length : Int)))) rfl) ?_
          refine split (fun hb => ?_) (fun hb => ?_)
          ·have H133 := Jo hb H132; clear H132
           refine Ja rfl rfl rfl (Jl Try.runUnderlying29 rfl Try.sizeOf3 rfl rfl) ?_
           refine Jt (i := 0) (v := .int .i64 a0.Kind) Try.isAgg3 rfl rfl rfl rfl rfl ?_
           refine Ja rfl rfl rfl (Y9 rfl rfl) ?_
           refine Ja rfl rfl rfl (Jz (v := .bool (decide (a0.Kind ≠ 13))) rfl rfl) ?_
           refine Ja rfl rfl rfl (Jc (v := .bool (decide (a0.Kind ≠ 13))) rfl) ?_
           refine Jf ?_
           refine J4 (b := (decide (a0.Kind ≠ 13))) rfl (fun hb => ?_) (fun hb => ?_)
           ·have H134 := Jo hb H133; clear H133
            refine Je ?_
            refine Jb ?_
            refine Ja rfl rfl rfl (Jc (v := .int .i64 1) rfl) ?_
            refine Jf ?_
            refine Jq ?_
            obtain rfl := Option.some.inj H134
            refine J5 (v := .int .i64 1) rfl rfl (fin rfl)
           ·have H135 := Jp hb H133; clear H133
            refine Js ?_
            refine Jr () () 0 [0] (by exact ⟨rfl, trivial⟩) (by decide) (by kernel_rfl) (by exact ⟨H135, trivial⟩) (Nat.lt_succ_self _)
          ·have H136 := Jp hb H132; clear H132
           refine Jh rfl rfl rfl ?_
           refine Jh rfl rfl rfl ?_
           refine Jh rfl rfl rfl ?_
           refine Ja rfl rfl rfl (J0 (v := .bool false) rfl rfl) ?_
           refine Ja rfl rfl rfl (Jc (v := .bool false) rfl) ?_
           refine Jf ?_
           refine W2 rfl ?_
           refine Js ?_
           refine Jr () () 0 [0] (by exact ⟨rfl, trivial⟩) (by decide) (by kernel_rfl) (by exact ⟨H136, trivial⟩) (Nat.lt_succ_self _)
  ·rintro _ _ gg H80 _
   replace H80 : Xn a0 = some r := H80
   try dsimp only
   refine Je ?_
   refine Jb ?_
   refine Ja rfl rfl rfl (Jl Try.runUnderlying29 rfl Try.sizeOf3 rfl rfl) ?_
   refine Jt (i := 0) (v := .int .i64 a0.Kind) Try.isAgg3 rfl rfl rfl rfl rfl ?_
   obtain ⟨t79, h_t79, H81⟩ := Ji H80; clear H80
   refine Vo (k46 h_t79) Try.call46 rfl rfl rfl ?_
   refine Ja rfl rfl rfl (Jd (v := .tuple #[.int .i64 t79.1, .int .i64 t79.2]) rfl) ?_
   refine Ja rfl rfl rfl (Qf (v := .int .i64 t79.1) rfl rfl) ?_
   refine Ja rfl rfl rfl (Qf (v := .int .i64 t79.2) rfl rfl) ?_
   refine Ja rfl rfl rfl (Jc (v := .int .i64 t79.1) rfl) ?_
   refine Ja rfl rfl rfl (Jc (v := .int .i64 t79.2) rfl) ?_
   refine Jf ?_
   refine Q8 (r := r) (σ := Unit) (τ := Unit) (fun s => Vb a0) (fun s t => [(1, .pointer (some ⟨b2, 0, none⟩))]) (fun s t => [Jv b2 [.int .i64 a0.Kind, str a0.Text, v0_2, v0_3, v0_4] 29]) (fun s t => True) ?_ ?_
   ·refine Je ?_
    refine Jb ?_
    refine Ja rfl rfl rfl (Jl Try.runUnderlying29 rfl Try.sizeOf25 rfl rfl) ?_
    refine Jt (i := 0) (v := v0_2) Try.isAgg25 rfl rfl rfl rfl rfl ?_
    refine Ja rfl rfl rfl (Xy Try.underlying25 rfl f0_2 rfl) ?_
    refine Ja rfl rfl rfl (Jd (v := .int .i64 0) rfl) ?_
    refine Jf ?_
    refine J6 ?_
    refine Z7 (σ := Int) (τ := Unit) (fun next7 s => Ya a0 t79 next7 s) (fun s t => [(1, .pointer (some ⟨b2, 0, none⟩)), (5, .int .i64 t79.1), (6, .int .i64 t79.2), (83, v0_2), (84, .int .i64 (a0.Ints.length : Int)), (85, .int .i64 s)]) (fun s t => [Jv b2 [.int .i64 a0.Kind, str a0.Text, v0_2, v0_3, v0_4] 29]) (fun s t => True) 0 () [0] H81 (by exact trivial) (by exact ⟨rfl, rfl, rfl, rfl, rfl, rfl, trivial⟩) (by decide) rfl ?_
    rintro x85_2 _ m7 gg H106 _
    clear H81
    replace H106 : Ya a0 t79 (it (fun next7 s => Ya a0 t79 next7 s) m7) x85_2 = some r := H106
    generalize hn7 : it (fun next7 s => Ya a0 t79 next7 s) m7 = next7 at H106
    try dsimp only
    refine Je ?_
    refine Jb ?_
    refine Ja rfl rfl rfl (Xs rfl rfl) ?_
    refine Jf ?_
    refine Je ?_
    refine J4 (b := (decide (x85_2 < (a0.Ints.length : Int)))) rfl (fun hb => ?_) (fun hb => ?_)
    ·have H107 := Jo hb H106; clear H106
     refine Js ?_
     refine Je ?_
     refine J6 ?_
     refine Je ?_
     refine Jb ?_
     obtain ⟨t87, h_t87, H108⟩ := Ji H107; clear H107
     refine Ja rfl rfl rfl (Qe Try.underlying25 Try.sizeOf3 rfl rfl f0_2 h_t87) ?_
     refine Qu (fun w hF hS => Qa (f := J3) (i := x85_2) (sz := 1) (j := 0) (v := .int .i64 t87) Try.isAgg3 rfl rfl (f0_2.row (hw.now hF)) h_t87 rfl) rfl rfl rfl ?_
     refine Ja rfl rfl rfl (Jc (v := .int .i64 t87) rfl) ?_
     refine Jf ?_
     refine Je ?_
     refine Jb ?_
     refine Ja rfl rfl rfl (Jd (v := .int .i64 t87) rfl) ?_
     refine Ja rfl rfl rfl (Jd (v := .int .i64 t79.1) rfl) ?_
     refine Ja rfl rfl rfl (Xs rfl rfl) ?_
     refine Ja rfl rfl rfl (Jd (v := .bool (decide (t87 < t79.1))) rfl) ?_
     refine split (fun hb => ?_) (fun hb => ?_)
     ·have H109 := Jo hb H108; clear H108
      refine Jh rfl rfl rfl ?_
      refine Jh rfl rfl rfl ?_
      refine Jh rfl rfl rfl ?_
      refine Ja rfl rfl rfl (Jz (v := .bool true) rfl rfl) ?_
      refine Jf ?_
      refine Y5 rfl ?_
      refine Je ?_
      refine Jb ?_
      refine Ja rfl rfl rfl (Jc (v := .int .i64 2) rfl) ?_
      refine Jf ?_
      refine Jq ?_
      obtain rfl := Option.some.inj H109
      refine J5 (v := .int .i64 2) rfl rfl (fin rfl)
     ·have H110 := Jp hb H108; clear H108
      refine Ja rfl rfl rfl (Jd (v := .int .i64 t87) rfl) ?_
      refine Ja rfl rfl rfl (Jd (v := .int .i64 t79.2) rfl) ?_
      refine Ja rfl rfl rfl (Zn rfl rfl) ?_
      refine Ja rfl rfl rfl (J0 (v := .bool (decide (t79.2 < t87))) rfl rfl) ?_
      refine Jf ?_
      refine J4 (b := (decide (t79.2 < t87))) rfl (fun hb => ?_) (fun hb => ?_)
      ·have H111 := Jo hb H110; clear H110
       refine Je ?_
       refine Jb ?_
       refine Ja rfl rfl rfl (Jc (v := .int .i64 2) rfl) ?_
       refine Jf ?_
       refine Jq ?_
       obtain rfl := Option.some.inj H111
       refine J5 (v := .int .i64 2) rfl rfl (fin rfl)
      ·have H112 := Jp hb H110; clear H110
       refine Js ?_
       refine Jb ?_
       obtain ⟨t97, h_t97, H113⟩ := Ji H112; clear H112
       refine Ja rfl rfl rfl (Qv rfl rfl h_t97) ?_
       refine Ja rfl rfl rfl (Jd (v := .int .i64 t97) rfl) ?_
       refine Jf ?_
       refine Jr t97 () m7 [0] (by exact ⟨rfl, rfl, rfl, rfl, rfl, rfl, trivial⟩) (by decide) (by kernel_rfl) (by exact ⟨(by subst hn7; exact H113), trivial⟩) (Nat.lt_succ_self _)
    ·have H114 := Jp hb H106; clear H106
     refine X7 ?_
     refine Jr () () 0 [0] (by exact ⟨rfl, trivial⟩) (by decide) (by kernel_rfl) (by exact ⟨H114, trivial⟩) (Nat.lt_succ_self _)
   ·rintro _ _ gg H82 _
    replace H82 : Vb a0 = some r := H82
    try dsimp only
    refine Q8 (r := r) (σ := Unit) (τ := Unit) (fun s => Zb a0) (fun s t => [(1, .pointer (some ⟨b2, 0, none⟩))]) (fun s t => [Jv b2 [.int .i64 a0.Kind, str a0.Text, v0_2, v0_3, v0_4] 29]) (fun s t => True) ?_ ?_
    ·refine Je ?_
     refine Jb ?_
     refine Ja rfl rfl rfl (Jl Try.runUnderlying29 rfl Try.sizeOf26 rfl rfl) ?_
     refine Jt (i := 0) (v := v0_3) Try.isAgg26 rfl rfl rfl rfl rfl ?_
     refine Ja rfl rfl rfl (Xy Try.underlying26 rfl f0_3 rfl) ?_
     refine Ja rfl rfl rfl (Jd (v := .int .i64 0) rfl) ?_
     refine Jf ?_
     refine J6 ?_
     refine Z7 (σ := Int) (τ := Unit) (fun next6 s => Yc a0 next6 s) (fun s t => [(1, .pointer (some ⟨b2, 0, none⟩)), (99, v0_3), (100, .int .i64 (a0.Ratios.length : Int)), (101, .int .i64 s)]) (fun s t => [Jv b2 [.int .i64 a0.Kind, str a0.Text, v0_2, v0_3, v0_4] 29]) (fun s t => True) 0 () [0] H82 (by exact trivial) (by exact ⟨rfl, rfl, rfl, rfl, trivial⟩) (by decide) rfl ?_
     rintro x101_2 _ m6 gg H93 _
     clear H82
     replace H93 : Yc a0 (it (fun next6 s => Yc a0 next6 s) m6) x101_2 = some r := H93
     generalize hn6 : it (fun next6 s => Yc a0 next6 s) m6 = next6 at H93
     try dsimp only
     refine Je ?_
     refine Jb ?_
     refine Ja rfl rfl rfl (Xs rfl rfl) ?_
     refine Jf ?_
     refine Je ?_
     refine J4 (b := (decide (x101_2 < (a0.Ratios.length : Int)))) rfl (fun hb => ?_) (fun hb => ?_)
     ·have H94 := Jo hb H93; clear H93
      refine Js ?_
      refine Je ?_
      refine J6 ?_
      refine Je ?_
      refine Jb ?_
      obtain ⟨t103, h_t103, H95⟩ := Ji H94; clear H94
      refine Ja rfl rfl rfl (Qe Try.underlying26 Try.sizeOf77 rfl rfl f0_3 h_t103) ?_
      refine Qu (fun w hF hS => Xr (f := Jn) (i := x101_2) (sz := 2) (j := 0) (vs := [.int .i64 t103.Num, .int .i64 t103.Den]) Try.isAgg77 Try.sizeOf77 rfl rfl (f0_3.row (hw.now hF)) h_t103 rfl) rfl rfl rfl ?_
      refine Ye (cs := [.int .i64 0, .int .i64 0]) Try.zeroValue77 rfl rfl rfl (fun b3 => ?_)
      refine Qi (i := 1) (vs := [.int .i64 t103.Num, .int .i64 t103.Den]) (cs' := [.int .i64 t103.Num, .int .i64 t103.Den]) Try.sizeOf77 rfl rfl rfl rfl rfl rfl rfl rfl rfl ?_
      refine Jf ?_
      refine Je ?_
      refine Jb ?_
      refine Ja rfl rfl rfl (Jl Try.runUnderlying77 rfl Try.sizeOf3 rfl rfl) ?_
      refine Jt (i := 1) (v := .int .i64 t103.Num) Try.isAgg3 rfl rfl rfl rfl rfl ?_
      refine Ja rfl rfl rfl (Xs rfl rfl) ?_
      refine Ja rfl rfl rfl (Jd (v := .bool (decide (t103.Num < 0))) rfl) ?_
      refine split (fun hb => ?_) (fun hb => ?_)
      ·have H96 := Jo hb H95; clear H95
       refine Jh rfl rfl rfl ?_
       refine Jh rfl rfl rfl ?_
       refine Jh rfl rfl rfl ?_
       refine Ja rfl rfl rfl (Jz (v := .bool true) rfl rfl) ?_
       refine Ja rfl rfl rfl (Jd (v := .bool true) rfl) ?_
       refine Jh rfl rfl rfl ?_
       refine Jh rfl rfl rfl ?_
       refine Jh rfl rfl rfl ?_
       refine Ja rfl rfl rfl (Jz (v := .bool true) rfl rfl) ?_
       refine Ja rfl rfl rfl (Jd (v := .bool true) rfl) ?_
       refine Jh rfl rfl rfl ?_
       refine Jh rfl rfl rfl ?_
       refine Jh rfl rfl rfl ?_
       refine Ja rfl rfl rfl (Jz (v := .bool true) rfl rfl) ?_
       refine Jf ?_
       refine Y5 rfl ?_
       refine Je ?_
       refine Jb ?_
       refine Ja rfl rfl rfl (Jc (v := .int .i64 2) rfl) ?_
       refine Jf ?_
       refine Jq ?_
       obtain rfl := Option.some.inj H96
       refine J5 (v := .int .i64 2) rfl rfl (fin rfl)
      ·have H97 := Jp hb H95; clear H95
       refine Ja rfl rfl rfl (Jl Try.runUnderlying77 rfl Try.sizeOf3 rfl rfl) ?_
       refine Jt (i := 1) (v := .int .i64 t103.Num) Try.isAgg3 rfl rfl rfl rfl rfl ?_
       refine Ja rfl rfl rfl (Zn rfl rfl) ?_
       refine Ja rfl rfl rfl (J0 (v := .bool (decide (4294967295 < t103.Num))) rfl rfl) ?_
       refine Ja rfl rfl rfl (Jd (v := .bool (decide (4294967295 < t103.Num))) rfl) ?_
       refine split (fun hb => ?_) (fun hb => ?_)
       ·have H98 := Jo hb H97; clear H97
        refine Jh rfl rfl rfl ?_
        refine Jh rfl rfl rfl ?_
        refine Jh rfl rfl rfl ?_
        refine Ja rfl rfl rfl (Jz (v := .bool true) rfl rfl) ?_
        refine Ja rfl rfl rfl (Jd (v := .bool true) rfl) ?_
        refine Jh rfl rfl rfl ?_
        refine Jh rfl rfl rfl ?_
        refine Jh rfl rfl rfl ?_
        refine Ja rfl rfl rfl (Jz (v := .bool true) rfl rfl) ?_
        refine Jf ?_
        refine Y5 rfl ?_
        refine Je ?_
        refine Jb ?_
        refine Ja rfl rfl rfl (Jc (v := .int .i64 2) rfl) ?_
        refine Jf ?_
        refine Jq ?_
        obtain rfl := Option.some.inj H98
        refine J5 (v := .int .i64 2) rfl rfl (fin rfl)
       ·have H99 := Jp hb H97; clear H97
        refine Ja rfl rfl rfl (Jl Try.runUnderlying77 rfl Try.sizeOf3 rfl rfl) ?_
        refine Jt (i := 1) (v := .int .i64 t103.Den) Try.isAgg3 rfl rfl rfl rfl rfl ?_
        refine Ja rfl rfl rfl (Xs rfl rfl) ?_
        refine Ja rfl rfl rfl (J0 (v := .bool (decide (t103.Den < 0))) rfl rfl) ?_
        refine Ja rfl rfl rfl (Jd (v := .bool (decide (t103.Den < 0))) rfl) ?_
        refine split (fun hb => ?_) (fun hb => ?_)
        ·have H100 := Jo hb H99; clear H99
         refine Jh rfl rfl rfl ?_
         refine Jh rfl rfl rfl ?_
         refine Jh rfl rfl rfl ?_
         refine Ja rfl rfl rfl (Jz (v := .bool true) rfl rfl) ?_
         refine Jf ?_
         refine Y5 rfl ?_
         refine Je ?_
         refine Jb ?_
         refine Ja rfl rfl rfl (Jc (v := .int .i64 2) rfl) ?_
         refine Jf ?_
         refine Jq ?_
         obtain rfl := Option.some.inj H100
         refine J5 (v := .int .i64 2) rfl rfl (fin rfl)
        ·have H101 := Jp hb H99; clear H99
         refine Ja rfl rfl rfl (Jl Try.runUnderlying77 rfl Try.sizeOf3 rfl rfl) ?_
         refine Jt (i := 1) (v := .int .i64 t103.Den) Try.isAgg3 rfl rfl rfl rfl rfl ?_
         refine Ja rfl rfl rfl (Zn rfl rfl) ?_
         refine Ja rfl rfl rfl (J0 (v := .bool (decide (4294967295 < t103.Den))) rfl rfl) ?_
         refine Jf ?_
         refine J4 (b := (decide (4294967295 < t103.Den))) rfl (fun hb => ?_) (fun hb => ?_)
         ·have H102 := Jo hb H101; clear H101
          refine Je ?_
          refine Jb ?_
          refine Ja rfl rfl rfl (Jc (v := .int .i64 2) rfl) ?_
          refine Jf ?_
          refine Jq ?_
          obtain rfl := Option.some.inj H102
          refine J5 (v := .int .i64 2) rfl rfl (fin rfl)
         ·have H103 := Jp hb H101; clear H101
          refine Js ?_
          refine Jb ?_
          obtain ⟨t123, h_t123, H104⟩ := Ji H103; clear H103
          refine Ja rfl rfl rfl (Qv rfl rfl h_t123) ?_
          refine Ja rfl rfl rfl (Jd (v := .int .i64 t123) rfl) ?_
          refine Jf ?_
          refine Jr t123 () m6 [0] (by exact ⟨rfl, rfl, rfl, rfl, trivial⟩) (by decide) (by kernel_rfl) (by exact ⟨(by subst hn6; exact H104), trivial⟩) (Nat.lt_succ_self _)
     ·have H105 := Jp hb H93; clear H93
      refine X7 ?_
      refine Jr () () 0 [0] (by exact ⟨rfl, trivial⟩) (by decide) (by kernel_rfl) (by exact ⟨H105, trivial⟩) (Nat.lt_succ_self _)
    ·rintro _ _ gg H83 _
     replace H83 : Zb a0 = some r := H83
     try dsimp only
     refine Q8 (r := r) (σ := Unit) (τ := Unit) (fun s => Za a0) (fun s t => [(1, .pointer (some ⟨b2, 0, none⟩))]) (fun s t => [Jv b2 [.int .i64 a0.Kind, str a0.Text, v0_2, v0_3, v0_4] 29]) (fun s t => True) ?_ ?_
     ·refine Je ?_
      refine Jb ?_
      refine Ja rfl rfl rfl (Jl Try.runUnderlying29 rfl Try.sizeOf3 rfl rfl) ?_
      refine Jt (i := 0) (v := .int .i64 a0.Kind) Try.isAgg3 rfl rfl rfl rfl rfl ?_
      refine Ja rfl rfl rfl (Qr rfl rfl) ?_
      refine Ja rfl rfl rfl (Jd (v := .bool (decide (a0.Kind = 2))) rfl) ?_
      refine split (fun hb => ?_) (fun hb => ?_)
      ·have H88 := Jo hb H83; clear H83
       refine Ja rfl rfl rfl (Jl Try.runUnderlying29 rfl Try.sizeOf9 rfl rfl) ?_
       refine Jt (i := 0) (v := str a0.Text) Try.isAgg9 rfl rfl rfl rfl rfl ?_
       obtain ⟨t130, h_t130, H89⟩ := Ji H88; clear H88
       refine Vo (k47 h_t130) Try.call47 rfl rfl rfl ?_
       refine Ja rfl rfl rfl (r_geq rfl rfl) ?_
       refine Ja rfl rfl rfl (Jz (v := .bool (decide (0 ≤ t130))) rfl rfl) ?_
       refine Jf ?_
       refine J4 (b := (decide (0 ≤ t130))) rfl (fun hb => ?_) (fun hb => ?_)
       ·have H90 := Jo hb H89; clear H89
        refine Je ?_
        refine Jb ?_
        refine Ja rfl rfl rfl (Jc (v := .int .i64 9) rfl) ?_
        refine Jf ?_
        refine Jq ?_
        obtain rfl := Option.some.inj H90
        refine J5 (v := .int .i64 9) rfl rfl (fin rfl)
       ·have H91 := Jp hb H89; clear H89
        refine Js ?_
        refine Jr () () 0 [0] (by exact ⟨rfl, trivial⟩) (by decide) (by kernel_rfl) (by exact ⟨H91, trivial⟩) (Nat.lt_succ_self _)
      ·have H92 := Jp hb H83; clear H83
       refine Jh rfl rfl rfl ?_
       refine Jh rfl rfl rfl ?_
       refine Jh rfl rfl rfl ?_
       refine Jh rfl rfl rfl ?_
       refine Ja rfl rfl rfl (J0 (v := .bool false) rfl rfl) ?_
       refine Jf ?_
       refine W2 rfl ?_
       refine Js ?_
       refine Jr () () 0 [0] (by exact ⟨rfl, trivial⟩) (by decide) (by kernel_rfl) (by exact ⟨H92, trivial⟩) (Nat.lt_succ_self _)
     ·rintro _ _ gg H84 _
      replace H84 : Za a0 = some r := H84
      try dsimp only
      refine Je ?_
      refine Je ?_
      refine Jb ?_
      refine Ja rfl rfl rfl (Jl Try.runUnderlying29 rfl Try.sizeOf3 rfl rfl) ?_
      refine Jt (i := 0) (v := .int .i64 a0.Kind) Try.isAgg3 rfl rfl rfl rfl rfl ?_
      refine Ja rfl rfl rfl (Qr rfl rfl) ?_
      refine Jf ?_
      refine J4 (b := (decide (a0.Kind = 13))) rfl (fun hb => ?_) (fun hb => ?_)
      ·have H85 := Jo hb H84; clear H84
       refine Je ?_
       refine Jb ?_
       refine Ja rfl rfl rfl (Jl Try.runUnderlying29 rfl Try.sizeOf27 rfl rfl) ?_
       refine Jt (i := 0) (v := v0_4) Try.isAgg27 rfl rfl rfl rfl rfl ?_
       obtain ⟨t138, h_t138, H86⟩ := Ji H85; clear H85
       refine Qn (fun w hF hS => k20 (Jy w) (f0_4.mono (hw.now hF)) h_t138) Try.call20 rfl rfl rfl ?_
       refine Ja rfl rfl rfl (Jc (v := .int .i64 t138) rfl) ?_
       refine Jf ?_
       refine Jq ?_
       obtain rfl := Option.some.inj H86
       refine J5 (v := .int .i64 t138) rfl rfl (fin rfl)
      ·have H87 := Jp hb H84; clear H84
       refine Js ?_
       refine Je ?_
       refine Jb ?_
       refine Ja rfl rfl rfl (Jc (v := .int .i64 0) rfl) ?_
       refine Jf ?_
       refine Jq ?_
       obtain rfl := Option.some.inj H87
       refine J5 (v := .int .i64 0) rfl rfl (fin rfl)
theorem k51 {a0 : Bool} {a1 : Int} {a2 : Int} {r : (List UInt8)} (H : X2 a0 a1 a2 = some r) : Ret Try.prog 51 [.bool a0, .int .i64 a1, .int .i64 a2] (str r) := by
 refine Zm (n := 34) Try.func51 rfl rfl rfl (fun wd => ?_)
 refine Je ?_
 refine Jb ?_
 refine Ja rfl rfl rfl (Jc (v := str []) rfl) ?_
 refine Jf ?_
 refine Je ?_
 refine Jb ?_
 refine Ja rfl rfl rfl (Jd (v := .int .i64 a2) rfl) ?_
 obtain ⟨t11, h_t11, H16⟩ := Ji H; clear H
 refine Vh (rds := []) (makes_makeG (E := 5) (sz := 1) (f := e_u8) (xs := t11) Try.underlying108 (Zk Try.typeInfo5) rfl rfl rfl rfl rfl rfl ⟨rfl, rfl⟩ h_t11) rfl rfl rfl (fun p => ?_)
 refine Ja rfl rfl rfl (Jc (v := .slice p.1 t11.length p.2) rfl) ?_
 refine Jf ?_
 refine Q8 (r := r) (σ := (List Int)) (τ := Unit) (fun s => R_number_j1 s) (fun s t => [(7, .slice p.1 t11.length p.2)]) (fun s t => [Xa 5 1 (.slice p.1 t11.length p.2) t11.length (s.map e_u8)]) (fun s t => t11.length = s.length) ?_ ?_
 ·refine Je ?_
  refine Jb ?_
  refine Ja rfl rfl rfl (Jd (v := .slice p.1 t11.length p.2) rfl) ?_
  refine Ja rfl rfl rfl (r_len Try.underlying108 rfl) ?_
  refine Ja rfl rfl rfl (Jd (v := .int .i64 0) rfl) ?_
  refine Jf ?_
  refine J6 ?_
  refine Z7 (σ := Int × (List Int)) (τ := Unit) (fun next2 s => Zp a0 a1 a2 t11 next2 s.1 s.2) (fun s t => [(0, .bool a0), (1, .int .i64 a1), (2, .int .i64 a2), (7, .slice p.1 t11.length p.2), (13, .int .i64 (t11.length : Int)), (14, .int .i64 s.1)]) (fun s t => [Xa 5 1 (.slice p.1 t11.length p.2) t11.length (s.2.map e_u8)]) (fun s t => t11.length = s.2.length) (0, t11) () [0] H16 (by exact rfl) (by exact ⟨rfl, rfl, rfl, rfl, rfl, rfl, trivial⟩) (by decide) rfl ?_
  rintro ⟨x14_2, l_3⟩ _ m2 gg H18 hl_3
  clear H16
  replace H18 : Zp a0 a1 a2 t11 (it (fun next2 s => Zp a0 a1 a2 t11 next2 s.1 s.2) m2) x14_2 l_3 = some r := H18
  generalize hn2 : it (fun next2 s => Zp a0 a1 a2 t11 next2 s.1 s.2) m2 = next2 at H18
  try dsimp only
  refine Je ?_
  refine Jb ?_
  refine Ja rfl rfl rfl (Xs rfl rfl) ?_
  refine Jf ?_
  refine Je ?_
  refine J4 (b := (decide (x14_2 < (t11.length : Int)))) rfl (fun hb => ?_) (fun hb => ?_)
  ·have H19 := Jo hb H18; clear H18
   refine Js ?_
   refine Je ?_
   refine J6 ?_
   refine Je ?_
   refine Jb ?_
   refine Ja rfl rfl rfl (Jd (v := .int .i64 x14_2) rfl) ?_
   refine Ja rfl rfl rfl (Jc (v := .int .i64 x14_2) rfl) ?_
   refine Jf ?_
   refine Je ?_
   refine Jb ?_
   refine Ja rfl rfl rfl (Jd (v := .int .i64 x14_2) rfl) ?_
   refine Ja rfl rfl rfl (Jc (v := .int .i64 x14_2) rfl) ?_
   refine Jf ?_
   refine Q8 (r := r) (σ := Int) (τ := Unit) (fun s => Uy a1 x14_2 l_3 next2 s) (fun s t => [(0, .bool a0), (1, .int .i64 a1), (2, .int .i64 a2), (7, .slice p.1 t11.length p.2), (8, .int .i64 x14_2), (9, .int .i64 s), (13, .int .i64 (t11.length : Int)), (14, .int .i64 x14_2)]) (fun s t => [Xa 5 1 (.slice p.1 t11.length p.2) t11.length (l_3.map e_u8)]) (fun s t => True) ?_ ?_
   ·refine Je ?_
    refine Jb ?_
    refine Ja rfl rfl rfl (Jd (v := .bool a0) rfl) ?_
    refine Jf ?_
    refine J4 (b := a0) rfl (fun hb => ?_) (fun hb => ?_)
    ·have H26 := Jo hb H19; clear H19
     refine Jb ?_
     refine Ja rfl rfl rfl (Jd (v := .int .i64 a2) rfl) ?_
     obtain ⟨t20, h_t20, H27⟩ := Ji H26; clear H26
     refine Ja rfl rfl rfl (r_subG rfl rfl h_t20) ?_
     refine Ja rfl rfl rfl (Jd (v := .int .i64 x14_2) rfl) ?_
     obtain ⟨t22, h_t22, H28⟩ := Ji H27; clear H27
     refine Ja rfl rfl rfl (r_subG rfl rfl h_t22) ?_
     refine Ja rfl rfl rfl (Jc (v := .int .i64 t22) rfl) ?_
     refine Jf ?_
     refine Jr t22 () 0 [0] (by exact ⟨rfl, rfl, rfl, rfl, rfl, rfl, rfl, rfl, trivial⟩) (by decide) (by kernel_rfl) (by exact ⟨H28, trivial⟩) (Nat.lt_succ_self _)
    ·have H29 := Jp hb H19; clear H19
     refine Js ?_
     refine Jr x14_2 () 0 [0] (by exact ⟨rfl, rfl, rfl, rfl, rfl, rfl, rfl, rfl, trivial⟩) (by decide) (by kernel_rfl) (by exact ⟨H29, trivial⟩) (Nat.lt_succ_self _)
   ·rintro x9 _ gg H20 _
    replace H20 : Uy a1 x14_2 l_3 next2 x9 = some r := H20
    try dsimp only
    refine Jb ?_
    refine Ja rfl rfl rfl (Jd (v := .slice p.1 t11.length p.2) rfl) ?_
    refine Ja rfl rfl rfl (Jd (v := .int .i64 x9) rfl) ?_
    refine Ja rfl rfl rfl (Jd (v := .int .i64 a1) rfl) ?_
    refine Ja rfl rfl rfl (Jd (v := .int .i64 x14_2) rfl) ?_
    obtain ⟨t27, h_t27, H21⟩ := Ji H20; clear H20
    refine Ja rfl rfl rfl (r_mulG rfl rfl h_t27) ?_
    obtain ⟨t28, h_t28, H22⟩ := Ji H21; clear H21
    refine Ja rfl rfl rfl (r_shrG rfl rfl rfl h_t28) ?_
    refine Ja rfl rfl rfl (r_convG Try.runUnderlying3 Try.runUnderlying5 rfl (wr_u8 _)) ?_
    obtain ⟨t30, h_t30, H23⟩ := Ji H22; clear H22
    refine Qu (fun w hF hS => W4 Try.underlying108 Try.sizeOf5 rfl rfl (rowOf (i := 0) hS rfl) hl_3 h_t30) rfl rfl rfl ?_
    obtain ⟨l0, h_l0, H24⟩ := Ji H23; clear H23
    refine l_storeG (q := 0) (j := 0) (i := x9) (sz := 1) (hm := hl_3) (f := e_u8) (vs := [.int .u8 (wU8 t28)]) Try.sizeOf5 rfl rfl rfl rfl rfl rfl rfl rfl rfl (fun y_ hy_ => by first | rfl | (cases hy_.symm.trans h_t30; rfl)) h_l0 ?_
    refine Jf ?_
    refine Jb ?_
    obtain ⟨t31, h_t31, H25⟩ := Ji H24; clear H24
    refine Ja rfl rfl rfl (Qv rfl rfl h_t31) ?_
    refine Ja rfl rfl rfl (Jd (v := .int .i64 t31) rfl) ?_
    refine Jf ?_
    refine Jr (t31, l0) () m2 [0] (by exact ⟨rfl, rfl, rfl, rfl, rfl, rfl, trivial⟩) (by decide) (by kernel_rfl) (by exact ⟨(by subst hn2; exact H25), (gSet_n hl_3 h_l0)⟩) (Nat.lt_succ_self _)
  ·have H30 := Jp hb H18; clear H18
   refine X7 ?_
   refine Jr l_3 () 0 [0] (by exact ⟨rfl, trivial⟩) (by decide) (by kernel_rfl) (by exact ⟨H30, hl_3⟩) (Nat.lt_succ_self _)
 ·rintro l _ gg H17 hl
  replace H17 : R_number_j1 l = some r := H17
  try dsimp only
  refine Je ?_
  refine Jb ?_
  refine Ja rfl rfl rfl (Jd (v := .slice p.1 t11.length p.2) rfl) ?_
  refine Qu (fun w hF hS => run_bytes (f := e_u8) (xs := l) hl Try.underlying108 Try.underlying5 Try.underlying9 rfl (fun _ => rfl) (rowOf (i := 0) hS rfl)) rfl rfl rfl ?_
  refine Ja rfl rfl rfl (Jc (v := str (toStr l)) rfl) ?_
  refine Jf ?_
  refine Jq ?_
  obtain rfl := Option.some.inj H17
  refine J5 (v := str (toStr l)) rfl rfl (fin rfl)
theorem k53 {a0 : T_tintref2_written} {pb0 : Nat} {a1 : Int} {a2 : Int} {a3 : Int} {r : T_tintref2_written} {w : World} {h : Jx} {S : Nat → Prop} (hcs : (Jv pb0 [str a0.s_, .bool a0.big_] 93).P S w) (hlt : ∀ b, S b → b < w.heap.size) (hw : Know h w S) (H : Xu a0 a1 a2 a3 = some r) : Does Try.prog 53 (List.toArray [.pointer (some ⟨pb0, 0, none⟩), .int .i64 a1, .int .i64 a2, .int .i64 a3]) w (fun v w' => ∃ x : Unit, v = (.tuple #[]) ∧ Turn w w' S (Jv pb0 [str r.s_, .bool r.big_] 93)) := by
 refine enter (n := 34) Try.func53 rfl rfl rfl S [Jv pb0 [str a0.s_, .bool a0.big_] 93] (Sat.one hcs hlt) ?_
 exact Qp (Kd.p :: Kd.p :: Kd.p :: Kd.p :: Kd.d [0] _ :: Kd.p :: Kd.p :: Kd.p :: Kd.p :: Kd.p :: Kd.d [0] _ :: Kd.p :: Kd.p :: Kd.d [] _ :: Kd.p :: Kd.p :: Kd.p :: Kd.p :: Kd.d [0] _ :: Kd.p :: Kd.p :: Kd.p :: Kd.p :: Kd.p :: Kd.p :: Kd.p :: Kd.st 33 0 [_, _] 93 :: []) 0 mixed (by
  refine Jj rfl rfl (Jd (v := .pointer (some ⟨pb0, 0, none⟩)) rfl) ?_
  refine Jj rfl rfl (Jd (v := .pointer (some ⟨pb0, 0, none⟩)) rfl) ?_
  refine Jj rfl rfl (Qm rfl) ?_
  refine Jj rfl rfl (Jl Try.runUnderlying93 rfl Try.sizeOf9 rfl rfl) ?_
  refine Qx (i := 0) (v := str a0.s_) Try.isAgg9 rfl rfl rfl rfl ?_
  refine Jj rfl rfl (Jd (v := .int .i64 a1) rfl) ?_
  have h_t14 := Qt H
  have H7 := Ql H
  refine Jj rfl rfl (r_cutToG Try.underlying9 rfl rfl h_t14) ?_
  refine Jj rfl rfl (Jd (v := .pointer (some ⟨pb0, 0, none⟩)) rfl) ?_
  refine Jj rfl rfl (Qm rfl) ?_
  refine Jj rfl rfl (Jl Try.runUnderlying93 rfl Try.sizeOf4 rfl rfl) ?_
  refine Qx (i := 0) (v := .bool a0.big_) Try.isAgg4 rfl rfl rfl rfl ?_
  refine Jj rfl rfl (Jd (v := .int .i64 a2) rfl) ?_
  refine Jj rfl rfl (Jd (v := .int .i64 a3) rfl) ?_
  have h_t21 := Qt H7
  have H8 := Ql H7
  refine d_call (k51 h_t21) Try.call51 rfl rfl ?_
  have h_t22 := Qt H8
  have H9 := Ql H8
  refine Jj rfl rfl (Vs rfl rfl h_t22) ?_
  refine Jj rfl rfl (Jd (v := .pointer (some ⟨pb0, 0, none⟩)) rfl) ?_
  refine Jj rfl rfl (Qm rfl) ?_
  refine Jj rfl rfl (Jl Try.runUnderlying93 rfl Try.sizeOf9 rfl rfl) ?_
  refine Qx (i := 0) (v := str a0.s_) Try.isAgg9 rfl rfl rfl rfl ?_
  refine Jj rfl rfl (Jd (v := .int .i64 a1) rfl) ?_
  refine Jj rfl rfl (Jd (v := .int .i64 a3) rfl) ?_
  have h_t29 := Qt H9
  have H10 := Ql H9
  refine Jj rfl rfl (Qv rfl rfl h_t29) ?_
  have h_t30 := Qt H10
  have H11 := Ql H10
  refine Jj rfl rfl (r_cutFromG Try.underlying9 rfl rfl h_t30) ?_
  have h_t31 := Qt H11
  have H12 := Ql H11
  refine Jj rfl rfl (Vs rfl rfl h_t31) ?_
  refine Jj rfl rfl (Qm rfl) ?_
  refine Jj rfl rfl (Jl Try.runUnderlying93 rfl Try.sizeOf9 rfl rfl) ?_
  refine d_store (i := 0) (vs := [str (val (W3 (val (W3 (val (Zo a0.s_ 0 a1)) (val (X2 a0.big_ a2 a3)))) (val (Zo a0.s_ (val (gI (a1 + a3))) a0.s_.length))))]) (cs' := [str (val (W3 (val (W3 (val (Zo a0.s_ 0 a1)) (val (X2 a0.big_ a2 a3)))) (val (Zo a0.s_ (val (gI (a1 + a3))) a0.s_.length)))), .bool a0.big_]) Try.sizeOf9 rfl rfl rfl rfl rfl rfl rfl rfl rfl ?_
  refine Xm ?_
  obtain rfl := Option.some.inj H12
  refine ret0n rfl (Wf () (i := 0) rfl rfl (Imp.refl _))
  ) (by kernel_rfl)
theorem k75 {a0 : T_tintref2_written} {pb0 : Nat} {a1 : (List UInt8)} {r : Int × T_tintref2_written} {w : World} {h : Jx} {S : Nat → Prop} (hcs : (Jv pb0 [str a0.s_, .bool a0.big_] 93).P S w) (hlt : ∀ b, S b → b < w.heap.size) (hw : Know h w S) (H : Uh a0 a1 = some r) : Does Try.prog 75 (List.toArray [.pointer (some ⟨pb0, 0, none⟩), str a1]) w (fun v w' => ∃ x : Unit, v = (.int .i64 r.1) ∧ Turn w w' S (Jv pb0 [str r.2.s_, .bool r.2.big_] 93)) := by
 refine enter (n := 34) Try.func75 rfl rfl rfl S [Jv pb0 [str a0.s_, .bool a0.big_] 93] (Sat.one hcs hlt) ?_
 refine Je ?_
 refine Jb ?_
 refine Ja rfl rfl rfl (Jc (v := .int .i64 0) rfl) ?_
 refine Jf ?_
 refine Q8 (r := r) (σ := (List UInt8)) (τ := Unit) (fun s => Wd a0 a1 s) (fun s t => [(0, .pointer (some ⟨pb0, 0, none⟩)), (1, str a1)]) (fun s t => [Jv pb0 [str s, .bool a0.big_] 93]) (fun s t => True) ?_ ?_
 ·refine Je ?_
  refine Jb ?_
  refine Ja rfl rfl rfl (Jd (v := .pointer (some ⟨pb0, 0, none⟩)) rfl) ?_
  refine Ja rfl rfl rfl (Qm rfl) ?_
  refine Ja rfl rfl rfl (Jl Try.runUnderlying93 rfl Try.sizeOf9 rfl rfl) ?_
  refine Jt (i := 0) (v := str a0.s_) Try.isAgg9 rfl rfl rfl rfl rfl ?_
  refine Ja rfl rfl rfl (r_lenT Try.underlying9 rfl) ?_
  obtain ⟨t11, h_t11, H9⟩ := Ji H; clear H
  refine Ja rfl rfl rfl (r_remG rfl rfl h_t11) ?_
  refine Ja rfl rfl rfl (Qr rfl rfl) ?_
  refine Jf ?_
  refine J4 (b := (decide (t11 = 1))) rfl (fun hb => ?_) (fun hb => ?_)
  ·have H10 := Jo hb H9; clear H9
   refine Jb ?_
   refine Ja rfl rfl rfl (Jd (v := .pointer (some ⟨pb0, 0, none⟩)) rfl) ?_
   refine Ja rfl rfl rfl (Qm rfl) ?_
   refine Ja rfl rfl rfl (Jl Try.runUnderlying93 rfl Try.sizeOf9 rfl rfl) ?_
   refine Jt (i := 0) (v := str a0.s_) Try.isAgg9 rfl rfl rfl rfl rfl ?_
   obtain ⟨t17, h_t17, H11⟩ := Ji H10; clear H10
   refine Ja rfl rfl rfl (Vs rfl rfl h_t17) ?_
   refine Ja rfl rfl rfl (Qm rfl) ?_
   refine Ja rfl rfl rfl (Jl Try.runUnderlying93 rfl Try.sizeOf9 rfl rfl) ?_
   refine Qi (i := 0) (vs := [str t17]) (cs' := [str t17, .bool a0.big_]) Try.sizeOf9 rfl rfl rfl rfl rfl rfl rfl rfl rfl ?_
   refine Jf ?_
   refine Jr t17 () 0 [0] (by exact ⟨rfl, rfl, trivial⟩) (by decide) (by kernel_rfl) (by exact ⟨H11, trivial⟩) (Nat.lt_succ_self _)
  ·have H12 := Jp hb H9; clear H9
   refine Js ?_
   refine Jr a0.s_ () 0 [0] (by exact ⟨rfl, rfl, trivial⟩) (by decide) (by kernel_rfl) (by exact ⟨H12, trivial⟩) (Nat.lt_succ_self _)
 ·rintro m _ gg H7 _
  replace H7 : Wd a0 a1 m = some r := H7
  try dsimp only
  refine Je ?_
  refine Jb ?_
  refine Ja rfl rfl rfl (Jd (v := .pointer (some ⟨pb0, 0, none⟩)) rfl) ?_
  refine Ja rfl rfl rfl (Qm rfl) ?_
  refine Ja rfl rfl rfl (Jl Try.runUnderlying93 rfl Try.sizeOf9 rfl rfl) ?_
  refine Jt (i := 0) (v := str m) Try.isAgg9 rfl rfl rfl rfl rfl ?_
  refine Ja rfl rfl rfl (r_lenT Try.underlying9 rfl) ?_
  refine Ja rfl rfl rfl (Jc (v := .int .i64 (m.length : Int)) rfl) ?_
  refine Jf ?_
  refine Je ?_
  refine Jb ?_
  refine Ja rfl rfl rfl (Jd (v := .pointer (some ⟨pb0, 0, none⟩)) rfl) ?_
  refine Ja rfl rfl rfl (Qm rfl) ?_
  refine Ja rfl rfl rfl (Jl Try.runUnderlying93 rfl Try.sizeOf9 rfl rfl) ?_
  refine Jt (i := 0) (v := str m) Try.isAgg9 rfl rfl rfl rfl rfl ?_
  refine Ja rfl rfl rfl (Jd (v := str a1) rfl) ?_
  obtain ⟨t30, h_t30, H8⟩ := Ji H7; clear H7
  refine Ja rfl rfl rfl (Vs rfl rfl h_t30) ?_
  refine Ja rfl rfl rfl (Qm rfl) ?_
  refine Ja rfl rfl rfl (Jl Try.runUnderlying93 rfl Try.sizeOf9 rfl rfl) ?_
  refine Qi (i := 0) (vs := [str t30]) (cs' := [str t30, .bool a0.big_]) Try.sizeOf9 rfl rfl rfl rfl rfl rfl rfl rfl rfl ?_
  refine Jf ?_
  refine Je ?_
  refine Jb ?_
  refine Ja rfl rfl rfl (Jd (v := .int .i64 (m.length : Int)) rfl) ?_
  refine Ja rfl rfl rfl (Jc (v := .int .i64 (m.length : Int)) rfl) ?_
  refine Jf ?_
  refine Jq ?_
  obtain rfl := Option.some.inj H8
  refine J5 (v := .int .i64 (m.length : Int)) rfl rfl (Wf () (i := 0) rfl rfl (Imp.refl _))
theorem k76 {a0 : (List UInt8)} {a1 : Int} {r : (List UInt8)} (H : gRep a0 a1 = some r) : Ret Try.prog 76 [str a0, .int .i64 a1] (str r) :=
  rep_ret (ρ := Go.Proofs.Try.lays105_ren) Go.Proofs.Try.lays105 Go.Proofs.Try.Builder_Extra_105 H
theorem k78 {a0 : Bool} {a1 : T_tag_Value} {v1_2 : Value} {v1_3 : Value} {v1_4 : Value} {r : (List UInt8)} {w : World} {h : Jx} (hw : Know h w X3) (f1_2 : FrS h 1 v1_2 (a1.Ints.map J3)) (f1_3 : FrS h 2 v1_3 (a1.Ratios.map Jn)) (f1_4 : FrN h 6 v1_4 g_tag_Entry a1.Entries) (H : Yt a0 a1 = some r) : Does Try.prog 78 (List.toArray [.bool a0, .agg #[.int .i64 a1.Kind, str a1.Text, v1_2, v1_3, v1_4]]) w (fun v w' => v = (str r) ∧ Grow w w') := by
 refine enter (n := 53) Try.func78 rfl rfl rfl X3 [] (Sat.nil _ _) ?_
 refine Je ?_
 refine Jb ?_
 refine Yv (cs := [.int .i64 a1.Kind, str a1.Text, v1_2, v1_3, v1_4]) rfl rfl rfl rfl (fun b2 => ?_)
 refine Ja rfl rfl rfl (Jc (v := str []) rfl) ?_
 refine Jf ?_
 refine Je ?_
 refine Jb ?_
 refine Ja rfl rfl rfl (Jl Try.runUnderlying29 rfl Try.sizeOf9 rfl rfl) ?_
 refine Jt (i := 0) (v := str a1.Text) Try.isAgg9 rfl rfl rfl rfl rfl ?_
 refine Ja rfl rfl rfl (Jc (v := str a1.Text) rfl) ?_
 refine Jf ?_
 refine Q8 (r := r) (σ := (List UInt8)) (τ := Unit) (fun s => Uu a0 a1 s) (fun s t => [(0, .bool a0), (3, .pointer (some ⟨b2, 0, none⟩)), (5, str s)]) (fun s t => [Jv b2 [.int .i64 a1.Kind, str a1.Text, v1_2, v1_3, v1_4] 29]) (fun s t => True) ?_ ?_
 ·refine Je ?_
  refine Jb ?_
  refine Ja rfl rfl rfl (Jl Try.runUnderlying29 rfl Try.sizeOf3 rfl rfl) ?_
  refine Jt (i := 0) (v := .int .i64 a1.Kind) Try.isAgg3 rfl rfl rfl rfl rfl ?_
  refine Ja rfl rfl rfl (Qr rfl rfl) ?_
  refine Jf ?_
  refine J4 (b := (decide (a1.Kind = 2))) rfl (fun hb => ?_) (fun hb => ?_)
  ·have H42 := Jo hb H; clear H
   refine Jb ?_
   refine Ja rfl rfl rfl (Jd (v := str a1.Text) rfl) ?_
   obtain ⟨t16, h_t16, H43⟩ := Ji H42; clear H42
   refine Ja rfl rfl rfl (Vs rfl rfl h_t16) ?_
   refine Ja rfl rfl rfl (Jc (v := str t16) rfl) ?_
   refine Jf ?_
   refine Jr t16 () 0 [0] (by exact ⟨rfl, rfl, rfl, trivial⟩) (by decide) (by kernel_rfl) (by exact ⟨H43, trivial⟩) (Nat.lt_succ_self _)
  ·have H44 := Jp hb H; clear H
   refine Js ?_
   refine Jr a1.Text () 0 [0] (by exact ⟨rfl, rfl, rfl, trivial⟩) (by decide) (by kernel_rfl) (by exact ⟨H44, trivial⟩) (Nat.lt_succ_self _)
 ·rintro x5 _ gg H23 _
  replace H23 : Uu a0 a1 x5 = some r := H23
  try dsimp only
  refine Q8 (r := r) (σ := (List UInt8)) (τ := Unit) (fun s => Ux a0 a1 s) (fun s t => [(0, .bool a0), (3, .pointer (some ⟨b2, 0, none⟩)), (5, str s)]) (fun s t => [Jv b2 [.int .i64 a1.Kind, str a1.Text, v1_2, v1_3, v1_4] 29]) (fun s t => True) ?_ ?_
  ·refine Je ?_
   refine Jb ?_
   refine Ja rfl rfl rfl (Jl Try.runUnderlying29 rfl Try.sizeOf25 rfl rfl) ?_
   refine Jt (i := 0) (v := v1_2) Try.isAgg25 rfl rfl rfl rfl rfl ?_
   refine Ja rfl rfl rfl (Xy Try.underlying25 rfl f1_2 rfl) ?_
   refine Ja rfl rfl rfl (Jd (v := .int .i64 0) rfl) ?_
   refine Jf ?_
   refine J6 ?_
   refine Z7 (σ := (List UInt8) × Int) (τ := Unit) (fun next4 s => Va a0 a1 next4 s.1 s.2) (fun s t => [(0, .bool a0), (3, .pointer (some ⟨b2, 0, none⟩)), (5, str s.1), (18, v1_2), (19, .int .i64 (a1.Ints.length : Int)), (20, .int .i64 s.2)]) (fun s t => [Jv b2 [.int .i64 a1.Kind, str a1.Text, v1_2, v1_3, v1_4] 29]) (fun s t => True) (x5, 0) () [0] H23 (by exact trivial) (by exact ⟨rfl, rfl, rfl, rfl, rfl, rfl, trivial⟩) (by decide) rfl ?_
   rintro ⟨x5_6, x20_2⟩ _ m4 gg H34 _
   clear H23
   replace H34 : Va a0 a1 (it (fun next4 s => Va a0 a1 next4 s.1 s.2) m4) x5_6 x20_2 = some r := H34
   generalize hn4 : it (fun next4 s => Va a0 a1 next4 s.1 s.2) m4 = next4 at H34
   try dsimp only
   refine Je ?_
   refine Jb ?_
   refine Ja rfl rfl rfl (Xs rfl rfl) ?_
   refine Jf ?_
   refine Je ?_
   refine J4 (b := (decide (x20_2 < (a1.Ints.length : Int)))) rfl (fun hb => ?_) (fun hb => ?_)
   ·have H35 := Jo hb H34; clear H34
    refine Js ?_
    refine Je ?_
    refine J6 ?_
    refine Je ?_
    refine Jb ?_
    obtain ⟨t22, h_t22, H36⟩ := Ji H35; clear H35
    refine Ja rfl rfl rfl (Qe Try.underlying25 Try.sizeOf3 rfl rfl f1_2 h_t22) ?_
    refine Qu (fun w hF hS => Qa (f := J3) (i := x20_2) (sz := 1) (j := 0) (v := .int .i64 t22) Try.isAgg3 rfl rfl (f1_2.row (hw.now hF)) h_t22 rfl) rfl rfl rfl ?_
    refine Ja rfl rfl rfl (Jc (v := .int .i64 t22) rfl) ?_
    refine Jf ?_
    refine Jb ?_
    refine Ja rfl rfl rfl (Jd (v := str x5_6) rfl) ?_
    refine Ja rfl rfl rfl (Jd (v := .bool a0) rfl) ?_
    refine Ja rfl rfl rfl (Jd (v := .int .i64 t22) rfl) ?_
    refine Ja rfl rfl rfl (Jl Try.runUnderlying29 rfl Try.sizeOf3 rfl rfl) ?_
    refine Jt (i := 0) (v := .int .i64 a1.Kind) Try.isAgg3 rfl rfl rfl rfl rfl ?_
    obtain ⟨t29, h_t29, H37⟩ := Ji H36; clear H36
    refine Vo (k45 h_t29) Try.call45 rfl rfl rfl ?_
    obtain ⟨t30, h_t30, H38⟩ := Ji H37; clear H37
    refine Vo (k51 h_t30) Try.call51 rfl rfl rfl ?_
    obtain ⟨t31, h_t31, H39⟩ := Ji H38; clear H38
    refine Ja rfl rfl rfl (Vs rfl rfl h_t31) ?_
    refine Ja rfl rfl rfl (Jc (v := str t31) rfl) ?_
    refine Jf ?_
    refine Jb ?_
    obtain ⟨t32, h_t32, H40⟩ := Ji H39; clear H39
    refine Ja rfl rfl rfl (Qv rfl rfl h_t32) ?_
    refine Ja rfl rfl rfl (Jd (v := .int .i64 t32) rfl) ?_
    refine Jf ?_
    refine Jr (t31, t32) () m4 [0] (by exact ⟨rfl, rfl, rfl, rfl, rfl, rfl, trivial⟩) (by decide) (by kernel_rfl) (by exact ⟨(by subst hn4; exact H40), trivial⟩) (Nat.lt_succ_self _)
   ·have H41 := Jp hb H34; clear H34
    refine X7 ?_
    refine Jr x5_6 () 0 [0] (by exact ⟨rfl, rfl, rfl, trivial⟩) (by decide) (by kernel_rfl) (by exact ⟨H41, trivial⟩) (Nat.lt_succ_self _)
  ·rintro x5_2 _ gg H24 _
   replace H24 : Ux a0 a1 x5_2 = some r := H24
   try dsimp only
   refine Je ?_
   refine Je ?_
   refine Jb ?_
   refine Ja rfl rfl rfl (Jl Try.runUnderlying29 rfl Try.sizeOf26 rfl rfl) ?_
   refine Jt (i := 0) (v := v1_3) Try.isAgg26 rfl rfl rfl rfl rfl ?_
   refine Ja rfl rfl rfl (Xy Try.underlying26 rfl f1_3 rfl) ?_
   refine Ja rfl rfl rfl (Jd (v := .int .i64 0) rfl) ?_
   refine Jf ?_
   refine J6 ?_
   refine c_dr 0 ?_
   try dsimp only [z1, z2, z3, z4, z5, z6, z7, z8]
   refine Z7 (σ := (List UInt8) × Int) (τ := Unit) (fun next3 s => Z4 a0 a1 next3 s.1 s.2) (fun s t => [(0, .bool a0), (5, str s.1), (34, v1_3), (35, .int .i64 (a1.Ratios.length : Int)), (36, .int .i64 s.2)]) (fun s t => []) (fun s t => True) (x5_2, 0) () [] H24 (by exact trivial) (by exact ⟨rfl, rfl, rfl, rfl, rfl, trivial⟩) (by decide) rfl ?_
   rintro ⟨x5_4, x36_2⟩ _ m3 gg H25 _
   clear H24
   replace H25 : Z4 a0 a1 (it (fun next3 s => Z4 a0 a1 next3 s.1 s.2) m3) x5_4 x36_2 = some r := H25
   generalize hn3 : it (fun next3 s => Z4 a0 a1 next3 s.1 s.2) m3 = next3 at H25
   try dsimp only
   refine Je ?_
   refine Jb ?_
   refine Ja rfl rfl rfl (Xs rfl rfl) ?_
   refine Jf ?_
   refine Je ?_
   refine J4 (b := (decide (x36_2 < (a1.Ratios.length : Int)))) rfl (fun hb => ?_) (fun hb => ?_)
   ·have H26 := Jo hb H25; clear H25
    refine Js ?_
    refine Je ?_
    refine J6 ?_
    refine Je ?_
    refine Jb ?_
    obtain ⟨t38, h_t38, H27⟩ := Ji H26; clear H26
    refine Ja rfl rfl rfl (Qe Try.underlying26 Try.sizeOf77 rfl rfl f1_3 h_t38) ?_
    refine Qu (fun w hF hS => Xr (f := Jn) (i := x36_2) (sz := 2) (j := 0) (vs := [.int .i64 t38.Num, .int .i64 t38.Den]) Try.isAgg77 Try.sizeOf77 rfl rfl (f1_3.row (hw.now hF)) h_t38 rfl) rfl rfl rfl ?_
    refine Ye (cs := [.int .i64 0, .int .i64 0]) Try.zeroValue77 rfl rfl rfl (fun b3 => ?_)
    refine Qi (i := 0) (vs := [.int .i64 t38.Num, .int .i64 t38.Den]) (cs' := [.int .i64 t38.Num, .int .i64 t38.Den]) Try.sizeOf77 rfl rfl rfl rfl rfl rfl rfl rfl rfl ?_
    refine Jf ?_
    exact Qp (Kd.p :: Kd.p :: Kd.p :: Kd.d [0] _ :: Kd.d [] _ :: Kd.p :: Kd.p :: Kd.d [0] _ :: Kd.d [] _ :: Kd.p :: Kd.p :: Kd.p :: []) 0 mixed (by
     refine Jj rfl rfl (Jd (v := str x5_4) rfl) ?_
     refine Jj rfl rfl (Jd (v := .bool a0) rfl) ?_
     refine Jj rfl rfl (Jl Try.runUnderlying77 rfl Try.sizeOf3 rfl rfl) ?_
     refine Qx (i := 0) (v := .int .i64 t38.Num) Try.isAgg3 rfl rfl rfl rfl ?_
     have h_t44 := Qt H27
     have H28 := Ql H27
     refine d_call (k51 h_t44) Try.call51 rfl rfl ?_
     refine Jj rfl rfl (Jd (v := .bool a0) rfl) ?_
     refine Jj rfl rfl (Jl Try.runUnderlying77 rfl Try.sizeOf3 rfl rfl) ?_
     refine Qx (i := 0) (v := .int .i64 t38.Den) Try.isAgg3 rfl rfl rfl rfl ?_
     have h_t48 := Qt H28
     have H29 := Ql H28
     refine d_call (k51 h_t48) Try.call51 rfl rfl ?_
     have h_t49 := Qt H29
     have H30 := Ql H29
     refine Jj rfl rfl (Vs rfl rfl h_t49) ?_
     have h_t50 := Qt H30
     have H31 := Ql H30
     refine Jj rfl rfl (Vs rfl rfl h_t50) ?_
     refine Jj rfl rfl (Jc (v := str (val (W3 x5_4 (val (W3 (val (X2 a0 t38.Num 4)) (val (X2 a0 t38.Den 4))))))) rfl) ?_
     refine Xm ?_
     refine Jb ?_
     obtain ⟨t51, h_t51, H32⟩ := Ji H31; clear H31
     refine Ja rfl rfl rfl (Qv rfl rfl h_t51) ?_
     refine Ja rfl rfl rfl (Jd (v := .int .i64 t51) rfl) ?_
     refine Jf ?_
     refine Jr ((val (W3 x5_4 (val (W3 (val (X2 a0 t38.Num 4)) (val (X2 a0 t38.Den 4)))))), t51) () m3 [] (by exact ⟨rfl, rfl, rfl, rfl, rfl, trivial⟩) (by decide) (by kernel_rfl) (by exact ⟨(by subst hn3; exact H32), trivial⟩) (Nat.lt_succ_self _)
     ) (by kernel_rfl)
   ·have H33 := Jp hb H25; clear H25
    refine X7 ?_
    refine Je ?_
    refine Jb ?_
    refine Ja rfl rfl rfl (Jd (v := str x5_4) rfl) ?_
    refine Ja rfl rfl rfl (Jc (v := str x5_4) rfl) ?_
    refine Jf ?_
    refine Jq ?_
    obtain rfl := Option.some.inj H33
    refine J5 (v := str x5_4) rfl rfl (fin rfl)
theorem k77 {a0 : T_tag_Value} {v0_2 : Value} {v0_3 : Value} {v0_4 : Value} {r : Int} {w : World} {h : Jx} (hw : Know h w X3) (f0_2 : FrS h 1 v0_2 (a0.Ints.map J3)) (f0_3 : FrS h 2 v0_3 (a0.Ratios.map Jn)) (f0_4 : FrN h 6 v0_4 g_tag_Entry a0.Entries) (H : R_count a0 = some r) : Does Try.prog 77 (List.toArray [.agg #[.int .i64 a0.Kind, str a0.Text, v0_2, v0_3, v0_4]]) w (fun v w' => v = (.int .i64 r) ∧ Grow w w') := by
 refine enter (n := 13) Try.func77 rfl rfl rfl X3 [] (Sat.nil _ _) ?_
 refine Je ?_
 refine Jb ?_
 refine Yv (cs := [.int .i64 a0.Kind, str a0.Text, v0_2, v0_3, v0_4]) rfl rfl rfl rfl (fun b1 => ?_)
 refine Ja rfl rfl rfl (Jc (v := .int .i64 0) rfl) ?_
 refine Jf ?_
 refine Je ?_
 refine Je ?_
 refine Jb ?_
 refine Ja rfl rfl rfl (Jl Try.runUnderlying29 rfl Try.sizeOf3 rfl rfl) ?_
 refine Jt (i := 0) (v := .int .i64 a0.Kind) Try.isAgg3 rfl rfl rfl rfl rfl ?_
 refine Ja rfl rfl rfl (Qr rfl rfl) ?_
 refine Jf ?_
 refine J4 (b := (decide (a0.Kind = 13))) rfl (fun hb => ?_) (fun hb => ?_)
 ·have H6 := Jo hb H; clear H
  refine Je ?_
  refine Jb ?_
  refine Ja rfl rfl rfl (Jc (v := .int .i64 1) rfl) ?_
  refine Jf ?_
  refine Jq ?_
  obtain rfl := Option.some.inj H6
  refine J5 (v := .int .i64 1) rfl rfl (fin rfl)
 ·have H7 := Jp hb H; clear H
  refine Js ?_
  refine Je ?_
  exact Qp (Kd.d [0] _ :: Kd.d [] _ :: Kd.p :: Kd.p :: Kd.d [0] _ :: Kd.d [] _ :: Kd.p :: Kd.p :: []) 0 mixed (by
   refine d_loadN (i := 0) (vs := [.int .i64 a0.Kind, str a0.Text, v0_2, v0_3, v0_4]) Try.isAgg29 Try.sizeOf29 rfl rfl rfl rfl ?_
   have h_t7 := Qt H7
   have H8 := Ql H7
   refine d_callD (fun w L' hF hS hi => k78 (Jy w) (f0_2.mono (hw.now hF)) (f0_3.mono (hw.now hF)) (f0_4.mono (hw.now hF)) h_t7) Try.call78 rfl rfl ?_
   refine Jj rfl rfl (r_lenT Try.underlying9 rfl) ?_
   refine Jj rfl rfl (Jl Try.runUnderlying29 rfl Try.sizeOf3 rfl rfl) ?_
   refine Qx (i := 0) (v := .int .i64 a0.Kind) Try.isAgg3 rfl rfl rfl rfl ?_
   have h_t11 := Qt H8
   have H9 := Ql H8
   refine d_call (k45 h_t11) Try.call45 rfl rfl ?_
   have h_t12 := Qt H9
   have H10 := Ql H9
   refine Jj rfl rfl (r_quoG rfl rfl h_t12) ?_
   refine Jj rfl rfl (Jc (v := .int .i64 (val (gQuo ((val (Yt false a0)).length : Int) (val (R_wide a0.Kind))))) rfl) ?_
   refine Xm ?_
   refine Jq ?_
   obtain rfl := Option.some.inj H10
   refine J5 (v := .int .i64 (val (gQuo ((val (Yt false a0)).length : Int) (val (R_wide a0.Kind))))) rfl rfl (fin rfl)
   ) (by kernel_rfl)
theorem k52_it (mm : Nat) : ∀ {a0 : T_tintref2_written} {pb0 : Nat} {a1 : (List T_tag_Entry)} {v1 : Value} {r : Int × T_tintref2_written} {w : World} {h : Jx} {S : Nat → Prop} (hcs : (Jv pb0 [str a0.s_, .bool a0.big_] 93).P S w) (hlt : ∀ b, S b → b < w.heap.size) (hw : Know h w S) (f1 : FrN h 6 v1 g_tag_Entry a1) (H : it (fun (self : (T_tintref2_written × (List T_tag_Entry)) → Option (Int × T_tintref2_written)) (s : T_tintref2_written × (List T_tag_Entry)) => X5 self s.1 s.2) mm (a0, a1) = some r), Does Try.prog 52 (List.toArray [.pointer (some ⟨pb0, 0, none⟩), v1]) w (fun v w' => ∃ x : Unit, v = (.int .i64 r.1) ∧ Turn w w' S (Jv pb0 [str r.2.s_, .bool r.2.big_] 93)) := by
 induction mm with
 | zero => intros; rename_i H; exact absurd H (by simp [it])
 | succ mm ih =>
  intro a0 pb0 a1 v1 r w h S hcs hlt hw f1 H
  replace H : X5 (it (fun (self : (T_tintref2_written × (List T_tag_Entry)) → Option (Int × T_tintref2_written)) (s : T_tintref2_written × (List T_tag_Entry)) => X5 self s.1 s.2) mm) a0 a1 = some r := H
  generalize it (fun (self : (T_tintref2_written × (List T_tag_Entry)) → Option (Int × T_tintref2_written)) (s : T_tintref2_written × (List T_tag_Entry)) => X5 self s.1 s.2) mm = self at H ih
  refine enter (n := 109) Try.func52 rfl rfl rfl S [Jv pb0 [str a0.s_, .bool a0.big_] 93] (Sat.one hcs hlt) ?_
  refine Je ?_
  refine Jb ?_
  refine Ja rfl rfl rfl (Jc (v := .int .i64 0) rfl) ?_
  refine Jf ?_
  refine Je ?_
  refine Jb ?_
  refine Ja rfl rfl rfl (Jd (v := .pointer (some ⟨pb0, 0, none⟩)) rfl) ?_
  refine Ja rfl rfl rfl (Jd (v := v1) rfl) ?_
  refine Ja rfl rfl rfl (Q7 Try.underlying27 rfl f1) ?_
  obtain ⟨t13, h_t13, H40⟩ := Ji H; clear H
  refine Ja rfl rfl rfl (r_mulG rfl rfl h_t13) ?_
  obtain ⟨t14, h_t14, H41⟩ := Ji H40; clear H40
  refine Ja rfl rfl rfl (Qv rfl rfl h_t14) ?_
  obtain ⟨t15, h_t15, H42⟩ := Ji H41; clear H41
  refine Ja rfl rfl rfl (Qv rfl rfl h_t15) ?_
  obtain ⟨t16, h_t16, H43⟩ := Ji H42; clear H42
  refine Vo (k76 h_t16) Try.call76 rfl rfl rfl ?_
  obtain ⟨t17, h_t17, H44⟩ := Ji H43; clear H43
  refine Zg (Xp (i := 0) (rds := []) (G := fun x : Unit => .int .i64 t17.1) (C := fun x : Unit => Jv pb0 [str t17.2.s_, .bool t17.2.big_] 93) rfl (fun w L' S hF hS hi hp hlt ho hA => k75 hp hlt (Y8 w S)  h_t17) Try.call75 rfl) rfl rfl rfl (fun _ => ?_)
  refine Ja rfl rfl rfl (Jc (v := .int .i64 t17.1) rfl) ?_
  refine Jf ?_
  refine Je ?_
  refine Jb ?_
  refine Ja rfl rfl rfl (Jd (v := .pointer (some ⟨pb0, 0, none⟩)) rfl) ?_
  refine Ja rfl rfl rfl (Jd (v := .int .i64 t17.1) rfl) ?_
  refine Ja rfl rfl rfl (Jd (v := v1) rfl) ?_
  refine Ja rfl rfl rfl (Q7 Try.underlying27 rfl f1) ?_
  obtain ⟨t22, h_t22, H45⟩ := Ji H44; clear H44
  refine Zg (Xp (i := 0) (rds := []) (G := fun x : Unit => .tuple #[]) (C := fun x : Unit => Jv pb0 [str t22.s_, .bool t22.big_] 93) rfl (fun w L' S hF hS hi hp hlt ho hA => k53 hp hlt (Y8 w S)  h_t22) Try.call53 rfl) rfl rfl rfl (fun _ => ?_)
  refine Jf ?_
  refine Je ?_
  refine Je ?_
  refine Jb ?_
  refine Ja rfl rfl rfl (Jd (v := v1) rfl) ?_
  refine Ja rfl rfl rfl (Q7 Try.underlying27 rfl f1) ?_
  refine Ja rfl rfl rfl (Jd (v := .int .i64 0) rfl) ?_
  refine Jf ?_
  refine J6 ?_
  refine Z7 (σ := Int × (List UInt8) × Bool) (τ := Unit) (fun next1 s => Xv a1 self t17 next1 s.1 s.2.1 s.2.2) (fun s t => [(0, .pointer (some ⟨pb0, 0, none⟩)), (5, .int .i64 t17.1), (23, v1), (24, .int .i64 (a1.length : Int)), (25, .int .i64 s.1)]) (fun s t => [Jv pb0 [str s.2.1, .bool s.2.2] 93]) (fun s t => True) (0, t22.s_, t22.big_) () [0] H45 (by exact trivial) (by exact ⟨rfl, rfl, rfl, rfl, rfl, trivial⟩) (by decide) rfl ?_
  rintro ⟨x25_2, m_3, m_4⟩ _ m1 gg H46 _
  clear H45
  replace H46 : Xv a1 self t17 (it (fun next1 s => Xv a1 self t17 next1 s.1 s.2.1 s.2.2) m1) x25_2 m_3 m_4 = some r := H46
  generalize hn1 : it (fun next1 s => Xv a1 self t17 next1 s.1 s.2.1 s.2.2) m1 = next1 at H46
  try dsimp only
  refine Je ?_
  refine Jb ?_
  refine Ja rfl rfl rfl (Xs rfl rfl) ?_
  refine Jf ?_
  refine Je ?_
  refine J4 (b := (decide (x25_2 < (a1.length : Int)))) rfl (fun hb => ?_) (fun hb => ?_)
  ·have H47 := Jo hb H46; clear H46
   refine Js ?_
   refine Q8 (r := r) (σ := (List UInt8) × Bool) (τ := Unit) (fun s => Zc x25_2 next1 s.1 s.2) (fun s t => [(0, .pointer (some ⟨pb0, 0, none⟩)), (5, .int .i64 t17.1), (23, v1), (24, .int .i64 (a1.length : Int)), (25, .int .i64 x25_2)]) (fun s t => [Jv pb0 [str s.1, .bool s.2] 93]) (fun s t => True) ?_ ?_
   ·refine J6 ?_
    refine Je ?_
    refine Jb ?_
    refine Ja rfl rfl rfl (Jd (v := .int .i64 x25_2) rfl) ?_
    obtain ⟨t28, h_t28, H50⟩ := Ji H47; clear H47
    refine Ja rfl rfl rfl (Qe Try.underlying27 Try.sizeOf70 rfl rfl f1.frs (f1.ix h_t28)) ?_
    refine Qu (fun w hF hS => Xr (f := (Wu h v1 6)) (i := x25_2) (sz := 6) (j := 0) (vs := [.int .i64 t28.Tag, .int .i64 t28.Value.Kind, str t28.Value.Text, (Qb h v1 6 (Int.toNat x25_2) 3), (Qb h v1 6 (Int.toNat x25_2) 4), (Qb h v1 6 (Int.toNat x25_2) 5)]) Try.isAgg70 Try.sizeOf70 rfl rfl (f1.frs.row (hw.now hF)) (f1.ix h_t28) (rd_of (Q1 (f1.at h_t28)) rfl)) rfl rfl rfl ?_
    refine Ye (cs := [.int .i64 0, .int .i64 0, str [], .slice none 0 0, .slice none 0 0, .slice none 0 0]) Try.zeroValue70 rfl rfl rfl (fun b1 => ?_)
    refine Ja rfl rfl rfl (Jc (v := .int .i64 x25_2) rfl) ?_
    refine Qi (i := 1) (vs := [.int .i64 t28.Tag, .int .i64 t28.Value.Kind, str t28.Value.Text, (Qb h v1 6 (Int.toNat x25_2) 3), (Qb h v1 6 (Int.toNat x25_2) 4), (Qb h v1 6 (Int.toNat x25_2) 5)]) (cs' := [.int .i64 t28.Tag, .int .i64 t28.Value.Kind, str t28.Value.Text, (Qb h v1 6 (Int.toNat x25_2) 3), (Qb h v1 6 (Int.toNat x25_2) 4), (Qb h v1 6 (Int.toNat x25_2) 5)]) Try.sizeOf70 rfl rfl rfl rfl rfl rfl (by simp only [List.all_cons, List.all_nil, (show FrN h 6 (Qb h v1 6 (Int.toNat x25_2) 5) g_tag_Entry t28.Value.Entries from (J2 (Jm (f1.at h_t28)))).one, (show FrS h 1 (Qb h v1 6 (Int.toNat x25_2) 3) (t28.Value.Ints.map J3) from (J9 (Jm (f1.at h_t28)))).one, (show FrS h 2 (Qb h v1 6 (Int.toNat x25_2) 4) (t28.Value.Ratios.map Jn) from (J8 (Jm (f1.at h_t28)))).one] <;> rfl) rfl rfl ?_
    refine Jf ?_
    refine Je ?_
    refine Jb ?_
    refine Ja rfl rfl rfl (Jd (v := .int .i64 t17.1) rfl) ?_
    obtain ⟨t31, h_t31, H51⟩ := Ji H50; clear H50
    refine Ja rfl rfl rfl (Qv rfl rfl h_t31) ?_
    refine Ja rfl rfl rfl (Jd (v := .int .i64 x25_2) rfl) ?_
    obtain ⟨t33, h_t33, H52⟩ := Ji H51; clear H51
    refine Ja rfl rfl rfl (r_mulG rfl rfl h_t33) ?_
    obtain ⟨t34, h_t34, H53⟩ := Ji H52; clear H52
    refine Ja rfl rfl rfl (Qv rfl rfl h_t34) ?_
    refine Ja rfl rfl rfl (Jc (v := .int .i64 t34) rfl) ?_
    refine Jf ?_
    refine Je ?_
    refine Jb ?_
    refine Ja rfl rfl rfl (Jd (v := .pointer (some ⟨pb0, 0, none⟩)) rfl) ?_
    refine Ja rfl rfl rfl (Jd (v := .int .i64 t34) rfl) ?_
    refine Ja rfl rfl rfl (Jl Try.runUnderlying70 rfl Try.sizeOf3 rfl rfl) ?_
    refine Jt (i := 1) (v := .int .i64 t28.Tag) Try.isAgg3 rfl rfl rfl rfl rfl ?_
    obtain ⟨t39, h_t39, H54⟩ := Ji H53; clear H53
    refine Zg (Xp (i := 0) (rds := []) (G := fun x : Unit => .tuple #[]) (C := fun x : Unit => Jv pb0 [str t39.s_, .bool t39.big_] 93) rfl (fun w L' S hF hS hi hp hlt ho hA => k53 (a0 := (⟨m_3, m_4⟩ : T_tintref2_written)) hp hlt (Y8 w S)  h_t39) Try.call53 rfl) rfl rfl rfl (fun _ => ?_)
    refine Jf ?_
    refine Je ?_
    refine Jb ?_
    refine Ja rfl rfl rfl (Jd (v := .pointer (some ⟨pb0, 0, none⟩)) rfl) ?_
    refine Ja rfl rfl rfl (Jd (v := .int .i64 t34) rfl) ?_
    obtain ⟨t42, h_t42, H55⟩ := Ji H54; clear H54
    refine Ja rfl rfl rfl (Qv rfl rfl h_t42) ?_
    refine Ja rfl rfl rfl (Jl Try.runUnderlying70 rfl Try.sizeOf29 rfl rfl) ?_
    refine Ja rfl rfl rfl (Jl Try.runUnderlying29 rfl Try.sizeOf3 rfl rfl) ?_
    refine Jt (i := 1) (v := .int .i64 t28.Value.Kind) Try.isAgg3 rfl rfl rfl rfl rfl ?_
    obtain ⟨t46, h_t46, H56⟩ := Ji H55; clear H55
    refine Zg (Xp (i := 0) (rds := []) (G := fun x : Unit => .tuple #[]) (C := fun x : Unit => Jv pb0 [str t46.s_, .bool t46.big_] 93) rfl (fun w L' S hF hS hi hp hlt ho hA => k53 hp hlt (Y8 w S)  h_t46) Try.call53 rfl) rfl rfl rfl (fun _ => ?_)
    refine Jf ?_
    refine Je ?_
    refine Jb ?_
    refine Ja rfl rfl rfl (Jd (v := .pointer (some ⟨pb0, 0, none⟩)) rfl) ?_
    refine Ja rfl rfl rfl (Jd (v := .int .i64 t34) rfl) ?_
    obtain ⟨t49, h_t49, H57⟩ := Ji H56; clear H56
    refine Ja rfl rfl rfl (Qv rfl rfl h_t49) ?_
    refine Ja rfl rfl rfl (Jl Try.runUnderlying70 rfl Try.sizeOf29 rfl rfl) ?_
    refine Qg (i := 1) (vs := [.int .i64 t28.Value.Kind, str t28.Value.Text, (Qb h v1 6 (Int.toNat x25_2) 3), (Qb h v1 6 (Int.toNat x25_2) 4), (Qb h v1 6 (Int.toNat x25_2) 5)]) Try.isAgg29 Try.sizeOf29 rfl rfl rfl rfl rfl ?_
    obtain ⟨t52, h_t52, H58⟩ := Ji H57; clear H57
    refine Qn (fun w hF hS => k77 (Jy w) ((show FrS h 1 (Qb h v1 6 (Int.toNat x25_2) 3) (t28.Value.Ints.map J3) from (J9 (Jm (f1.at h_t28)))).mono (hw.now hF)) ((show FrS h 2 (Qb h v1 6 (Int.toNat x25_2) 4) (t28.Value.Ratios.map Jn) from (J8 (Jm (f1.at h_t28)))).mono (hw.now hF)) ((show FrN h 6 (Qb h v1 6 (Int.toNat x25_2) 5) g_tag_Entry t28.Value.Entries from (J2 (Jm (f1.at h_t28)))).mono (hw.now hF)) h_t52) Try.call77 rfl rfl rfl ?_
    obtain ⟨t53, h_t53, H59⟩ := Ji H58; clear H58
    refine Zg (Xp (i := 0) (rds := []) (G := fun x : Unit => .tuple #[]) (C := fun x : Unit => Jv pb0 [str t53.s_, .bool t53.big_] 93) rfl (fun w L' S hF hS hi hp hlt ho hA => k53 hp hlt (Y8 w S)  h_t53) Try.call53 rfl) rfl rfl rfl (fun _ => ?_)
    refine Jf ?_
    refine Je ?_
    refine Je ?_
    refine Jb ?_
    refine Ja rfl rfl rfl (Jl Try.runUnderlying70 rfl Try.sizeOf29 rfl rfl) ?_
    refine Ja rfl rfl rfl (Jl Try.runUnderlying29 rfl Try.sizeOf3 rfl rfl) ?_
    refine Jt (i := 1) (v := .int .i64 t28.Value.Kind) Try.isAgg3 rfl rfl rfl rfl rfl ?_
    refine Ja rfl rfl rfl (Qr rfl rfl) ?_
    refine Jf ?_
    refine J4 (b := (decide (t28.Value.Kind = 13))) rfl (fun hb => ?_) (fun hb => ?_)
    ·have H60 := Jo hb H59; clear H59
     refine Je ?_
     refine Jb ?_
     refine Ja rfl rfl rfl (Jd (v := .pointer (some ⟨pb0, 0, none⟩)) rfl) ?_
     refine Ja rfl rfl rfl (Jd (v := .int .i64 t34) rfl) ?_
     obtain ⟨t60, h_t60, H61⟩ := Ji H60; clear H60
     refine Ja rfl rfl rfl (Qv rfl rfl h_t60) ?_
     refine Ja rfl rfl rfl (Jd (v := .pointer (some ⟨pb0, 0, none⟩)) rfl) ?_
     refine Ja rfl rfl rfl (Jl Try.runUnderlying70 rfl Try.sizeOf29 rfl rfl) ?_
     refine Ja rfl rfl rfl (Jl Try.runUnderlying29 rfl Try.sizeOf27 rfl rfl) ?_
     refine Jt (i := 1) (v := (Qb h v1 6 (Int.toNat x25_2) 5)) Try.isAgg27 rfl rfl rfl rfl rfl ?_
     obtain ⟨t65, h_t65, H62⟩ := Ji H61; clear H61
     refine Zg (Xp (i := 0) (rds := []) (G := fun x : Unit => .int .i64 t65.1) (C := fun x : Unit => Jv pb0 [str t65.2.s_, .bool t65.2.big_] 93) rfl (fun w L' S hF hS hi hp hlt ho hA => ih hp hlt (Y8 w S) ((show FrN h 6 (Qb h v1 6 (Int.toNat x25_2) 5) g_tag_Entry t28.Value.Entries from (J2 (Jm (f1.at h_t28)))).mono (hw.but hF ho)) h_t65) Try.call52 rfl) rfl rfl rfl (fun _ => ?_)
     obtain ⟨t66, h_t66, H63⟩ := Ji H62; clear H62
     refine Zg (Xp (i := 0) (rds := []) (G := fun x : Unit => .tuple #[]) (C := fun x : Unit => Jv pb0 [str t66.s_, .bool t66.big_] 93) rfl (fun w L' S hF hS hi hp hlt ho hA => k53 hp hlt (Y8 w S)  h_t66) Try.call53 rfl) rfl rfl rfl (fun _ => ?_)
     refine Jf ?_
     refine X7 ?_
     refine Jr (t66.s_, t66.big_) () 0 [0] (by exact ⟨rfl, rfl, rfl, rfl, rfl, trivial⟩) (by decide) (by kernel_rfl) (by exact ⟨H63, trivial⟩) (Nat.lt_succ_self _)
    ·have H64 := Jp hb H59; clear H59
     refine Js ?_
     refine Je ?_
     exact Qp (Kd.p :: Kd.p :: Kd.p :: Kd.d [0] _ :: Kd.p :: Kd.d [1] _ :: Kd.d [] _ :: Kd.p :: []) 0 mixed (by
      refine Jj rfl rfl (Jd (v := .pointer (some ⟨pb0, 0, none⟩)) rfl) ?_
      refine Jj rfl rfl (Qm rfl) ?_
      refine Jj rfl rfl (Jl Try.runUnderlying93 rfl Try.sizeOf4 rfl rfl) ?_
      refine Qx (i := 0) (v := .bool t53.big_) Try.isAgg4 rfl rfl rfl rfl ?_
      refine Jj rfl rfl (Jl Try.runUnderlying70 rfl Try.sizeOf29 rfl rfl) ?_
      refine d_loadN (i := 1) (vs := [.int .i64 t28.Value.Kind, str t28.Value.Text, (Qb h v1 6 (Int.toNat x25_2) 3), (Qb h v1 6 (Int.toNat x25_2) 4), (Qb h v1 6 (Int.toNat x25_2) 5)]) Try.isAgg29 Try.sizeOf29 rfl rfl rfl rfl ?_
      have h_t73 := Qt H64
      have H65 := Ql H64
      refine d_callD (fun w L' hF hS hi => k78 (Jy w) ((show FrS h 1 (Qb h v1 6 (Int.toNat x25_2) 3) (t28.Value.Ints.map J3) from (J9 (Jm (f1.at h_t28)))).mono (hw.now hF)) ((show FrS h 2 (Qb h v1 6 (Int.toNat x25_2) 4) (t28.Value.Ratios.map Jn) from (J8 (Jm (f1.at h_t28)))).mono (hw.now hF)) ((show FrN h 6 (Qb h v1 6 (Int.toNat x25_2) 5) g_tag_Entry t28.Value.Entries from (J2 (Jm (f1.at h_t28)))).mono (hw.now hF)) h_t73) Try.call78 rfl rfl ?_
      refine Jj rfl rfl (Jc (v := str (val (Yt t53.big_ t28.Value))) rfl) ?_
      refine Xm ?_
      refine Je ?_
      refine Je ?_
      refine Jb ?_
      refine Ja rfl rfl rfl (Jd (v := str (val (Yt t53.big_ t28.Value))) rfl) ?_
      refine Ja rfl rfl rfl (r_lenT Try.underlying9 rfl) ?_
      refine Ja rfl rfl rfl (Zn rfl rfl) ?_
      refine Jf ?_
      refine J4 (b := (decide (4 < ((val (Yt t53.big_ t28.Value)).length : Int)))) rfl (fun hb => ?_) (fun hb => ?_)
      ·have H66 := Jo hb H65; clear H65
       refine Je ?_
       refine Jb ?_
       refine Ja rfl rfl rfl (Jd (v := .pointer (some ⟨pb0, 0, none⟩)) rfl) ?_
       refine Ja rfl rfl rfl (Jd (v := .int .i64 t34) rfl) ?_
       obtain ⟨t79, h_t79, H67⟩ := Ji H66; clear H66
       refine Ja rfl rfl rfl (Qv rfl rfl h_t79) ?_
       refine Ja rfl rfl rfl (Jd (v := .pointer (some ⟨pb0, 0, none⟩)) rfl) ?_
       refine Ja rfl rfl rfl (Jd (v := str (val (Yt t53.big_ t28.Value))) rfl) ?_
       obtain ⟨t82, h_t82, H68⟩ := Ji H67; clear H67
       refine Zg (Xp (i := 0) (rds := []) (G := fun x : Unit => .int .i64 t82.1) (C := fun x : Unit => Jv pb0 [str t82.2.s_, .bool t82.2.big_] 93) rfl (fun w L' S hF hS hi hp hlt ho hA => k75 hp hlt (Y8 w S)  h_t82) Try.call75 rfl) rfl rfl rfl (fun _ => ?_)
       obtain ⟨t83, h_t83, H69⟩ := Ji H68; clear H68
       refine Zg (Xp (i := 0) (rds := []) (G := fun x : Unit => .tuple #[]) (C := fun x : Unit => Jv pb0 [str t83.s_, .bool t83.big_] 93) rfl (fun w L' S hF hS hi hp hlt ho hA => k53 hp hlt (Y8 w S)  h_t83) Try.call53 rfl) rfl rfl rfl (fun _ => ?_)
       refine Jf ?_
       refine X7 ?_
       refine Jr (t83.s_, t83.big_) () 0 [0] (by exact ⟨rfl, rfl, rfl, rfl, rfl, trivial⟩) (by decide) (by kernel_rfl) (by exact ⟨H69, trivial⟩) (Nat.lt_succ_self _)
      ·have H70 := Jp hb H65; clear H65
       refine Js ?_
       exact Qp (Kd.p :: Kd.p :: Kd.p :: Kd.p :: Kd.d [0] _ :: Kd.p :: Kd.p :: Kd.p :: Kd.p :: Kd.p :: Kd.p :: Kd.p :: Kd.p :: Kd.d [0] _ :: Kd.p :: Kd.p :: Kd.p :: Kd.p :: Kd.p :: Kd.p :: Kd.p :: Kd.p :: Kd.p :: Kd.st 106 0 [_, _] 93 :: []) 0 mixed (by
        refine Jj rfl rfl (Jd (v := .pointer (some ⟨pb0, 0, none⟩)) rfl) ?_
        refine Jj rfl rfl (Jd (v := .pointer (some ⟨pb0, 0, none⟩)) rfl) ?_
        refine Jj rfl rfl (Qm rfl) ?_
        refine Jj rfl rfl (Jl Try.runUnderlying93 rfl Try.sizeOf9 rfl rfl) ?_
        refine Qx (i := 0) (v := str t53.s_) Try.isAgg9 rfl rfl rfl rfl ?_
        refine Jj rfl rfl (Jd (v := .int .i64 t34) rfl) ?_
        have h_t90 := Qt H70
        have H71 := Ql H70
        refine Jj rfl rfl (Qv rfl rfl h_t90) ?_
        have h_t91 := Qt H71
        have H72 := Ql H71
        refine Jj rfl rfl (r_cutToG Try.underlying9 rfl rfl h_t91) ?_
        refine Jj rfl rfl (Jd (v := str (val (Yt t53.big_ t28.Value))) rfl) ?_
        have h_t93 := Qt H72
        have H73 := Ql H72
        refine Jj rfl rfl (Vs rfl rfl h_t93) ?_
        refine Jj rfl rfl (Jd (v := .pointer (some ⟨pb0, 0, none⟩)) rfl) ?_
        refine Jj rfl rfl (Qm rfl) ?_
        refine Jj rfl rfl (Jl Try.runUnderlying93 rfl Try.sizeOf9 rfl rfl) ?_
        refine Qx (i := 0) (v := str t53.s_) Try.isAgg9 rfl rfl rfl rfl ?_
        refine Jj rfl rfl (Jd (v := .int .i64 t34) rfl) ?_
        have h_t99 := Qt H73
        have H74 := Ql H73
        refine Jj rfl rfl (Qv rfl rfl h_t99) ?_
        refine Jj rfl rfl (Jd (v := str (val (Yt t53.big_ t28.Value))) rfl) ?_
        refine Jj rfl rfl (r_lenT Try.underlying9 rfl) ?_
        have h_t102 := Qt H74
        have H75 := Ql H74
        refine Jj rfl rfl (Qv rfl rfl h_t102) ?_
        have h_t103 := Qt H75
        have H76 := Ql H75
        refine Jj rfl rfl (r_cutFromG Try.underlying9 rfl rfl h_t103) ?_
        have h_t104 := Qt H76
        have H77 := Ql H76
        refine Jj rfl rfl (Vs rfl rfl h_t104) ?_
        refine Jj rfl rfl (Qm rfl) ?_
        refine Jj rfl rfl (Jl Try.runUnderlying93 rfl Try.sizeOf9 rfl rfl) ?_
        refine d_store (i := 0) (vs := [str (val (W3 (val (W3 (val (Zo t53.s_ 0 (val (gI (t34 + 8))))) (val (Yt t53.big_ t28.Value)))) (val (Zo t53.s_ (val (gI ((val (gI (t34 + 8))) + ((val (Yt t53.big_ t28.Value)).length : Int)))) t53.s_.length))))]) (cs' := [str (val (W3 (val (W3 (val (Zo t53.s_ 0 (val (gI (t34 + 8))))) (val (Yt t53.big_ t28.Value)))) (val (Zo t53.s_ (val (gI ((val (gI (t34 + 8))) + ((val (Yt t53.big_ t28.Value)).length : Int)))) t53.s_.length)))), .bool t53.big_]) Try.sizeOf9 rfl rfl rfl rfl rfl rfl rfl rfl rfl ?_
        refine Xm ?_
        refine Jr ((val (W3 (val (W3 (val (Zo t53.s_ 0 (val (gI (t34 + 8))))) (val (Yt t53.big_ t28.Value)))) (val (Zo t53.s_ (val (gI ((val (gI (t34 + 8))) + ((val (Yt t53.big_ t28.Value)).length : Int)))) t53.s_.length)))), t53.big_) () 0 [0] (by exact ⟨rfl, rfl, rfl, rfl, rfl, trivial⟩) (by decide) (by kernel_rfl) (by exact ⟨H77, trivial⟩) (Nat.lt_succ_self _)
        ) (by kernel_rfl)
      ) (by kernel_rfl)
   ·rintro ⟨m_5, m_6⟩ _ gg H48 _
    replace H48 : Zc x25_2 next1 m_5 m_6 = some r := H48
    try dsimp only
    refine Jb ?_
    obtain ⟨t107, h_t107, H49⟩ := Ji H48; clear H48
    refine Ja rfl rfl rfl (Qv rfl rfl h_t107) ?_
    refine Ja rfl rfl rfl (Jd (v := .int .i64 t107) rfl) ?_
    refine Jf ?_
    refine Jr (t107, m_5, m_6) () m1 [0] (by exact ⟨rfl, rfl, rfl, rfl, rfl, trivial⟩) (by decide) (by kernel_rfl) (by exact ⟨(by subst hn1; exact H49), trivial⟩) (Nat.lt_succ_self _)
  ·have H78 := Jp hb H46; clear H46
   refine X7 ?_
   refine Je ?_
   refine Jb ?_
   refine Ja rfl rfl rfl (Jd (v := .int .i64 t17.1) rfl) ?_
   refine Ja rfl rfl rfl (Jc (v := .int .i64 t17.1) rfl) ?_
   refine Jf ?_
   refine Jq ?_
   obtain rfl := Option.some.inj H78
   refine J5 (v := .int .i64 t17.1) rfl rfl (Wf () (i := 0) rfl rfl (Imp.refl _))
theorem k52 {a0 : T_tintref2_written} {pb0 : Nat} {a1 : (List T_tag_Entry)} {v1 : Value} {r : Int × T_tintref2_written} {w : World} {h : Jx} {S : Nat → Prop} (hcs : (Jv pb0 [str a0.s_, .bool a0.big_] 93).P S w) (hlt : ∀ b, S b → b < w.heap.size) (hw : Know h w S) (f1 : FrN h 6 v1 g_tag_Entry a1) (H : Jac a0 a1 = some r) : Does Try.prog 52 (List.toArray [.pointer (some ⟨pb0, 0, none⟩), v1]) w (fun v w' => ∃ x : Unit, v = (.int .i64 r.1) ∧ Turn w w' S (Jv pb0 [str r.2.s_, .bool r.2.big_] 93)) := by
 obtain ⟨mm, hm⟩ := fix_it (show V6 (fun (self : (T_tintref2_written × (List T_tag_Entry)) → Option (Int × T_tintref2_written)) (s : T_tintref2_written × (List T_tag_Entry)) => X5 self s.1 s.2) (a0, a1) = some r from H)
 exact k52_it mm hcs hlt hw f1 hm
theorem k21 {a0 : T_tag_File} {v0_1 : Value} {r : (List UInt8)} {w : World} {h : Jx} (hw : Know h w X3) (f0_1 : FrN h 1 v0_1 gs_tag_Entry a0.Dirs) (H : R_Octets a0 = some r) : Does Try.prog 21 (List.toArray [.agg #[.bool a0.Big, v0_1]]) w (fun v w' => v = (str r) ∧ Grow w w') := by
 refine enter (n := 59) Try.func21 rfl rfl rfl X3 [] (Sat.nil _ _) ?_
 refine Je ?_
 refine Jb ?_
 refine Yv (cs := [.bool a0.Big, v0_1]) rfl rfl rfl rfl (fun b2 => ?_)
 refine Ja rfl rfl rfl (Jc (v := str []) rfl) ?_
 refine Jf ?_
 refine Je ?_
 refine Jb ?_
 refine Ja rfl rfl rfl (Jl Try.runUnderlying24 rfl Try.sizeOf4 rfl rfl) ?_
 refine Jt (i := 0) (v := .bool a0.Big) Try.isAgg4 rfl rfl rfl rfl rfl ?_
 refine Ja rfl rfl rfl (Ym (pl := #[(0, 1), (1, 1)]) (ps := [(1, .bool a0.Big)]) (cells := #[str [], .bool a0.Big]) Try.zeroValue93 Try.runUnderlying93 (fun w => by kernel_rfl) rfl rfl) ?_
 refine Yv (cs := [str [], .bool a0.Big]) rfl rfl rfl rfl (fun b3 => ?_)
 refine Ja rfl rfl rfl (Jc (v := .pointer (some ⟨b3, 0, none⟩)) rfl) ?_
 refine Jf ?_
 refine Je ?_
 refine Jb ?_
 refine Ja rfl rfl rfl (Jd (v := .pointer (some ⟨b3, 0, none⟩)) rfl) ?_
 refine Ja rfl rfl rfl (Qm rfl) ?_
 refine Ja rfl rfl rfl (Jl Try.runUnderlying93 rfl Try.sizeOf9 rfl rfl) ?_
 refine Qi (i := 1) (vs := [str [73, 73]]) (cs' := [str [73, 73], .bool a0.Big]) Try.sizeOf9 rfl rfl rfl rfl rfl rfl rfl rfl rfl ?_
 refine Jf ?_
 refine Q8 (r := r) (σ := (List UInt8)) (τ := Unit) (fun s => Uv a0 s) (fun s t => [(1, .pointer (some ⟨b2, 0, none⟩)), (3, .pointer (some ⟨b3, 0, none⟩))]) (fun s t => [Jv b2 [.bool a0.Big, v0_1] 24, Jv b3 [str s, .bool a0.Big] 93]) (fun s t => True) ?_ ?_
 ·refine Je ?_
  refine Jb ?_
  refine Ja rfl rfl rfl (Jl Try.runUnderlying24 rfl Try.sizeOf4 rfl rfl) ?_
  refine Jt (i := 0) (v := .bool a0.Big) Try.isAgg4 rfl rfl rfl rfl rfl ?_
  refine Jf ?_
  refine J4 (b := a0.Big) rfl (fun hb => ?_) (fun hb => ?_)
  ·have H35 := Jo hb H; clear H
   refine Jb ?_
   refine Ja rfl rfl rfl (Jd (v := .pointer (some ⟨b3, 0, none⟩)) rfl) ?_
   refine Ja rfl rfl rfl (Qm rfl) ?_
   refine Ja rfl rfl rfl (Jl Try.runUnderlying93 rfl Try.sizeOf9 rfl rfl) ?_
   refine Qi (i := 1) (vs := [str [77, 77]]) (cs' := [str [77, 77], .bool a0.Big]) Try.sizeOf9 rfl rfl rfl rfl rfl rfl rfl rfl rfl ?_
   refine Jf ?_
   refine Jr [77, 77] () 0 [0, 1] (by exact ⟨rfl, rfl, trivial⟩) (by decide) (by kernel_rfl) (by exact ⟨H35, trivial⟩) (Nat.lt_succ_self _)
  ·have H36 := Jp hb H; clear H
   refine Js ?_
   refine Jr [73, 73] () 0 [0, 1] (by exact ⟨rfl, rfl, trivial⟩) (by decide) (by kernel_rfl) (by exact ⟨H36, trivial⟩) (Nat.lt_succ_self _)
 ·rintro m _ gg H19 _
  replace H19 : Uv a0 m = some r := H19
  try dsimp only
  refine Je ?_
  exact Qp (Kd.p :: Kd.p :: Kd.p :: Kd.d [1] _ :: Kd.p :: Kd.d [0] _ :: Kd.d [] _ :: Kd.p :: Kd.d [0] _ :: Kd.d [] _ :: Kd.p :: Kd.p :: Kd.p :: Kd.p :: Kd.st 33 1 [_, _] 93 :: []) 0 mixed (by
   refine Jj rfl rfl (Jd (v := .pointer (some ⟨b3, 0, none⟩)) rfl) ?_
   refine Jj rfl rfl (Qm rfl) ?_
   refine Jj rfl rfl (Jl Try.runUnderlying93 rfl Try.sizeOf9 rfl rfl) ?_
   refine Qx (i := 1) (v := str m) Try.isAgg9 rfl rfl rfl rfl ?_
   refine Jj rfl rfl (Jl Try.runUnderlying24 rfl Try.sizeOf4 rfl rfl) ?_
   refine Qx (i := 0) (v := .bool a0.Big) Try.isAgg4 rfl rfl rfl rfl ?_
   have h_t26 := Qt H19
   have H20 := Ql H19
   refine d_call (k51 h_t26) Try.call51 rfl rfl ?_
   refine Jj rfl rfl (Jl Try.runUnderlying24 rfl Try.sizeOf4 rfl rfl) ?_
   refine Qx (i := 0) (v := .bool a0.Big) Try.isAgg4 rfl rfl rfl rfl ?_
   have h_t29 := Qt H20
   have H21 := Ql H20
   refine d_call (k51 h_t29) Try.call51 rfl rfl ?_
   have h_t30 := Qt H21
   have H22 := Ql H21
   refine Jj rfl rfl (Vs rfl rfl h_t30) ?_
   have h_t31 := Qt H22
   have H23 := Ql H22
   refine Jj rfl rfl (Vs rfl rfl h_t31) ?_
   refine Jj rfl rfl (Qm rfl) ?_
   refine Jj rfl rfl (Jl Try.runUnderlying93 rfl Try.sizeOf9 rfl rfl) ?_
   refine d_store (i := 1) (vs := [str (val (W3 m (val (W3 (val (X2 a0.Big 42 2)) (val (X2 a0.Big 0 4))))))]) (cs' := [str (val (W3 m (val (W3 (val (X2 a0.Big 42 2)) (val (X2 a0.Big 0 4)))))), .bool a0.Big]) Try.sizeOf9 rfl rfl rfl rfl rfl rfl rfl rfl rfl ?_
   refine Xm ?_
   refine Je ?_
   refine Jb ?_
   refine Ja rfl rfl rfl (Jc (v := .int .i64 4) rfl) ?_
   refine Jf ?_
   refine Q8 (r := r) (σ := (List UInt8) × Bool) (τ := Unit) (fun s => R_Octets_j2 s.1 s.2) (fun s t => [(3, .pointer (some ⟨b3, 0, none⟩))]) (fun s t => [Jv b3 [str s.1, .bool s.2] 93]) (fun s t => True) ?_ ?_
   ·refine Je ?_
    refine Jb ?_
    refine Ja rfl rfl rfl (Jl Try.runUnderlying24 rfl Try.sizeOf22 rfl rfl) ?_
    refine Jt (i := 0) (v := v0_1) Try.isAgg22 rfl rfl rfl rfl rfl ?_
    refine Ja rfl rfl rfl (Q7 Try.underlying22 rfl f0_1) ?_
    refine Ja rfl rfl rfl (Jd (v := .int .i64 0) rfl) ?_
    refine Jf ?_
    refine J6 ?_
    refine c_dr 0 ?_
    try dsimp only [z1, z2, z3, z4, z5, z6, z7, z8]
    refine Z7 (σ := Int × Int × (List UInt8) × Bool) (τ := Unit) (fun next3 s => Z9 a0 next3 s.1 s.2.1 s.2.2.1 s.2.2.2) (fun s t => [(3, .pointer (some ⟨b3, 0, none⟩)), (4, .int .i64 s.1), (35, v0_1), (36, .int .i64 (a0.Dirs.length : Int)), (37, .int .i64 s.2.1)]) (fun s t => [Jv b3 [str s.2.2.1, .bool s.2.2.2] 93]) (fun s t => True) (4, 0, (val (W3 m (val (W3 (val (X2 a0.Big 42 2)) (val (X2 a0.Big 0 4)))))), a0.Big) () [0] H23 (by exact trivial) (by exact ⟨rfl, rfl, rfl, rfl, rfl, trivial⟩) (by decide) rfl ?_
    rintro ⟨x4_2, x37_2, m_6, m_7⟩ _ m3 gg H25 _
    clear H23
    replace H25 : Z9 a0 (it (fun next3 s => Z9 a0 next3 s.1 s.2.1 s.2.2.1 s.2.2.2) m3) x4_2 x37_2 m_6 m_7 = some r := H25
    generalize hn3 : it (fun next3 s => Z9 a0 next3 s.1 s.2.1 s.2.2.1 s.2.2.2) m3 = next3 at H25
    try dsimp only
    refine Je ?_
    refine Jb ?_
    refine Ja rfl rfl rfl (Xs rfl rfl) ?_
    refine Jf ?_
    refine Je ?_
    refine J4 (b := (decide (x37_2 < (a0.Dirs.length : Int)))) rfl (fun hb => ?_) (fun hb => ?_)
    ·have H26 := Jo hb H25; clear H25
     refine Js ?_
     refine Je ?_
     refine J6 ?_
     refine Je ?_
     refine Jb ?_
     obtain ⟨t39, h_t39, H27⟩ := Ji H26; clear H26
     refine Ja rfl rfl rfl (Qe Try.underlying22 Try.sizeOf27 rfl rfl f0_1.frs (f0_1.ix h_t39)) ?_
     refine Qu (fun w hF hS => Qa (f := (Wu h v0_1 1)) (i := x37_2) (sz := 1) (j := 0) (v := (Qb h v0_1 1 (Int.toNat x37_2) 0)) Try.isAgg27 rfl rfl (f0_1.frs.row (hw.now hF)) (f0_1.ix h_t39) (Ur (X8 (f0_1.at h_t39)) rfl)) rfl rfl rfl ?_
     refine Ja rfl rfl rfl (Jc (v := (Qb h v0_1 1 (Int.toNat x37_2) 0)) rfl) ?_
     refine Jf ?_
     refine Je ?_
     refine Jb ?_
     refine Ja rfl rfl rfl (Jd (v := .pointer (some ⟨b3, 0, none⟩)) rfl) ?_
     refine Ja rfl rfl rfl (Jd (v := (Qb h v0_1 1 (Int.toNat x37_2) 0)) rfl) ?_
     obtain ⟨t43, h_t43, H28⟩ := Ji H27; clear H27
     refine Zg (Xp (i := 0) (rds := []) (G := fun x : Unit => .int .i64 t43.1) (C := fun x : Unit => Jv b3 [str t43.2.s_, .bool t43.2.big_] 93) rfl (fun w L' S hF hS hi hp hlt ho hA => k52 (a0 := (⟨m_6, m_7⟩ : T_tintref2_written)) hp hlt (Y8 w S) ((show FrN h 6 (Qb h v0_1 1 (Int.toNat x37_2) 0) g_tag_Entry t39 from (f0_1.at h_t39)).mono (hw.but hF ho)) h_t43) Try.call52 rfl) rfl rfl rfl (fun _ => ?_)
     refine Ja rfl rfl rfl (Jc (v := .int .i64 t43.1) rfl) ?_
     refine Jf ?_
     refine Je ?_
     refine Jb ?_
     refine Ja rfl rfl rfl (Jd (v := .pointer (some ⟨b3, 0, none⟩)) rfl) ?_
     refine Ja rfl rfl rfl (Jd (v := .int .i64 x4_2) rfl) ?_
     refine Ja rfl rfl rfl (Jd (v := .int .i64 t43.1) rfl) ?_
     obtain ⟨t47, h_t47, H29⟩ := Ji H28; clear H28
     refine Zg (Xp (i := 0) (rds := []) (G := fun x : Unit => .tuple #[]) (C := fun x : Unit => Jv b3 [str t47.s_, .bool t47.big_] 93) rfl (fun w L' S hF hS hi hp hlt ho hA => k53 hp hlt (Y8 w S)  h_t47) Try.call53 rfl) rfl rfl rfl (fun _ => ?_)
     refine Jf ?_
     refine Jb ?_
     refine Ja rfl rfl rfl (Jd (v := .int .i64 t43.1) rfl) ?_
     obtain ⟨t49, h_t49, H30⟩ := Ji H29; clear H29
     refine Ja rfl rfl rfl (Qv rfl rfl h_t49) ?_
     refine Ja rfl rfl rfl (Jd (v := (Qb h v0_1 1 (Int.toNat x37_2) 0)) rfl) ?_
     refine Ja rfl rfl rfl (Q7 Try.underlying27 rfl (show FrN h 6 (Qb h v0_1 1 (Int.toNat x37_2) 0) g_tag_Entry t39 from (f0_1.at h_t39))) ?_
     obtain ⟨t52, h_t52, H31⟩ := Ji H30; clear H30
     refine Ja rfl rfl rfl (r_mulG rfl rfl h_t52) ?_
     obtain ⟨t53, h_t53, H32⟩ := Ji H31; clear H31
     refine Ja rfl rfl rfl (Qv rfl rfl h_t53) ?_
     refine Ja rfl rfl rfl (Jc (v := .int .i64 t53) rfl) ?_
     refine Jf ?_
     refine Jb ?_
     obtain ⟨t54, h_t54, H33⟩ := Ji H32; clear H32
     refine Ja rfl rfl rfl (Qv rfl rfl h_t54) ?_
     refine Ja rfl rfl rfl (Jd (v := .int .i64 t54) rfl) ?_
     refine Jf ?_
     refine Jr (t53, t54, t47.s_, t47.big_) () m3 [0] (by exact ⟨rfl, rfl, rfl, rfl, rfl, trivial⟩) (by decide) (by kernel_rfl) (by exact ⟨(by subst hn3; exact H33), trivial⟩) (Nat.lt_succ_self _)
    ·have H34 := Jp hb H25; clear H25
     refine X7 ?_
     refine Jr (m_6, m_7) () 0 [0] (by exact ⟨rfl, trivial⟩) (by decide) (by kernel_rfl) (by exact ⟨H34, trivial⟩) (Nat.lt_succ_self _)
   ·rintro ⟨m_2, m_3⟩ _ gg H24 _
    replace H24 : R_Octets_j2 m_2 m_3 = some r := H24
    try dsimp only
    refine Je ?_
    refine Jb ?_
    refine Ja rfl rfl rfl (Jd (v := .pointer (some ⟨b3, 0, none⟩)) rfl) ?_
    refine Ja rfl rfl rfl (Qm rfl) ?_
    refine Ja rfl rfl rfl (Jl Try.runUnderlying93 rfl Try.sizeOf9 rfl rfl) ?_
    refine Jt (i := 0) (v := str m_2) Try.isAgg9 rfl rfl rfl rfl rfl ?_
    refine Ja rfl rfl rfl (Jc (v := str m_2) rfl) ?_
    refine Jf ?_
    refine Jq ?_
    obtain rfl := Option.some.inj H24
    refine J5 (v := str m_2) rfl rfl (fin rfl)
   ) (by kernel_rfl)
theorem k5 {a0 : T_tag_File} {v0_1 : Value} {r : Int} {w : World} {h : Jx} (hw : Know h w X3) (f0_1 : FrN h 1 v0_1 gs_tag_Entry a0.Dirs) (H : Wh a0 = some r) : Does Try.prog 5 (List.toArray [.agg #[.bool a0.Big, v0_1]]) w (fun v w' => v = (.int .i64 r) ∧ Grow w w') := by
 refine enter (n := 27) Try.func5 rfl rfl rfl X3 [] (Sat.nil _ _) ?_
 refine Je ?_
 refine Jb ?_
 refine Yv (cs := [.bool a0.Big, v0_1]) rfl rfl rfl rfl (fun b1 => ?_)
 refine Ja rfl rfl rfl (Jc (v := .int .i64 0) rfl) ?_
 refine Jf ?_
 refine Je ?_
 refine Je ?_
 refine Jb ?_
 refine Ja rfl rfl rfl (Jl Try.runUnderlying24 rfl Try.sizeOf22 rfl rfl) ?_
 refine Jt (i := 0) (v := v0_1) Try.isAgg22 rfl rfl rfl rfl rfl ?_
 refine Ja rfl rfl rfl (Q7 Try.underlying22 rfl f0_1) ?_
 refine Ja rfl rfl rfl (Zn rfl rfl) ?_
 refine Jf ?_
 refine J4 (b := (decide (20 < (a0.Dirs.length : Int)))) rfl (fun hb => ?_) (fun hb => ?_)
 ·have H15 := Jo hb H; clear H
  refine Je ?_
  refine Jb ?_
  refine Ja rfl rfl rfl (Jc (v := .int .i64 4) rfl) ?_
  refine Jf ?_
  refine Jq ?_
  obtain rfl := Option.some.inj H15
  refine J5 (v := .int .i64 4) rfl rfl (fin rfl)
 ·have H16 := Jp hb H; clear H
  refine Js ?_
  refine Q8 (r := r) (σ := Unit) (τ := Unit) (fun s => U4 a0) (fun s t => [(1, .pointer (some ⟨b1, 0, none⟩))]) (fun s t => [Jv b1 [.bool a0.Big, v0_1] 24]) (fun s t => True) ?_ ?_
  ·refine Je ?_
   refine Jb ?_
   refine Ja rfl rfl rfl (Jl Try.runUnderlying24 rfl Try.sizeOf22 rfl rfl) ?_
   refine Jt (i := 0) (v := v0_1) Try.isAgg22 rfl rfl rfl rfl rfl ?_
   refine Ja rfl rfl rfl (Q7 Try.underlying22 rfl f0_1) ?_
   refine Ja rfl rfl rfl (Jd (v := .int .i64 0) rfl) ?_
   refine Jf ?_
   refine J6 ?_
   refine Z7 (σ := Int) (τ := Unit) (fun next2 s => Yh a0 next2 s) (fun s t => [(1, .pointer (some ⟨b1, 0, none⟩)), (11, v0_1), (12, .int .i64 (a0.Dirs.length : Int)), (13, .int .i64 s)]) (fun s t => [Jv b1 [.bool a0.Big, v0_1] 24]) (fun s t => True) 0 () [0] H16 (by exact trivial) (by exact ⟨rfl, rfl, rfl, rfl, trivial⟩) (by decide) rfl ?_
   rintro x13_2 _ m2 gg H21 _
   clear H16
   replace H21 : Yh a0 (it (fun next2 s => Yh a0 next2 s) m2) x13_2 = some r := H21
   generalize hn2 : it (fun next2 s => Yh a0 next2 s) m2 = next2 at H21
   try dsimp only
   refine Je ?_
   refine Jb ?_
   refine Ja rfl rfl rfl (Xs rfl rfl) ?_
   refine Jf ?_
   refine Je ?_
   refine J4 (b := (decide (x13_2 < (a0.Dirs.length : Int)))) rfl (fun hb => ?_) (fun hb => ?_)
   ·have H22 := Jo hb H21; clear H21
    refine Js ?_
    refine Je ?_
    refine J6 ?_
    refine Je ?_
    refine Jb ?_
    obtain ⟨t15, h_t15, H23⟩ := Ji H22; clear H22
    refine Ja rfl rfl rfl (Qe Try.underlying22 Try.sizeOf27 rfl rfl f0_1.frs (f0_1.ix h_t15)) ?_
    refine Qu (fun w hF hS => Qa (f := (Wu h v0_1 1)) (i := x13_2) (sz := 1) (j := 0) (v := (Qb h v0_1 1 (Int.toNat x13_2) 0)) Try.isAgg27 rfl rfl (f0_1.frs.row (hw.now hF)) (f0_1.ix h_t15) (Ur (X8 (f0_1.at h_t15)) rfl)) rfl rfl rfl ?_
    refine Ja rfl rfl rfl (Jc (v := (Qb h v0_1 1 (Int.toNat x13_2) 0)) rfl) ?_
    refine Jf ?_
    refine Je ?_
    refine Jb ?_
    refine Ja rfl rfl rfl (Jd (v := (Qb h v0_1 1 (Int.toNat x13_2) 0)) rfl) ?_
    obtain ⟨t18, h_t18, H24⟩ := Ji H23; clear H23
    refine Qn (fun w hF hS => k20 (Jy w) ((show FrN h 6 (Qb h v0_1 1 (Int.toNat x13_2) 0) g_tag_Entry t15 from (f0_1.at h_t15)).mono (hw.now hF)) h_t18) Try.call20 rfl rfl rfl ?_
    refine Ja rfl rfl rfl (Jc (v := .int .i64 t18) rfl) ?_
    refine Jf ?_
    refine Je ?_
    refine Jb ?_
    refine Ja rfl rfl rfl (Jd (v := .int .i64 t18) rfl) ?_
    refine Ja rfl rfl rfl (Y9 rfl rfl) ?_
    refine Jf ?_
    refine J4 (b := (decide (t18 ≠ 0))) rfl (fun hb => ?_) (fun hb => ?_)
    ·have H25 := Jo hb H24; clear H24
     refine Je ?_
     refine Jb ?_
     refine Ja rfl rfl rfl (Jd (v := .int .i64 t18) rfl) ?_
     refine Ja rfl rfl rfl (Jc (v := .int .i64 t18) rfl) ?_
     refine Jf ?_
     refine Jq ?_
     obtain rfl := Option.some.inj H25
     refine J5 (v := .int .i64 t18) rfl rfl (fin rfl)
    ·have H26 := Jp hb H24; clear H24
     refine Js ?_
     refine Jb ?_
     obtain ⟨t22, h_t22, H27⟩ := Ji H26; clear H26
     refine Ja rfl rfl rfl (Qv rfl rfl h_t22) ?_
     refine Ja rfl rfl rfl (Jd (v := .int .i64 t22) rfl) ?_
     refine Jf ?_
     refine Jr t22 () m2 [0] (by exact ⟨rfl, rfl, rfl, rfl, trivial⟩) (by decide) (by kernel_rfl) (by exact ⟨(by subst hn2; exact H27), trivial⟩) (Nat.lt_succ_self _)
   ·have H28 := Jp hb H21; clear H21
    refine X7 ?_
    refine Jr () () 0 [0] (by exact ⟨rfl, trivial⟩) (by decide) (by kernel_rfl) (by exact ⟨H28, trivial⟩) (Nat.lt_succ_self _)
  ·rintro _ _ gg H17 _
   replace H17 : U4 a0 = some r := H17
   try dsimp only
   refine Je ?_
   refine Je ?_
   refine Jb ?_
   refine Qg (i := 0) (vs := [.bool a0.Big, v0_1]) Try.isAgg24 Try.sizeOf24 rfl rfl rfl rfl rfl ?_
   obtain ⟨t24, h_t24, H18⟩ := Ji H17; clear H17
   refine Qn (fun w hF hS => k21 (Jy w) (f0_1.mono (hw.now hF)) h_t24) Try.call21 rfl rfl rfl ?_
   refine Ja rfl rfl rfl (r_lenT Try.underlying9 rfl) ?_
   refine Ja rfl rfl rfl (Zn rfl rfl) ?_
   refine Jf ?_
   refine J4 (b := (decide (65000 < (t24.length : Int)))) rfl (fun hb => ?_) (fun hb => ?_)
   ·have H19 := Jo hb H18; clear H18
    refine Je ?_
    refine Jb ?_
    refine Ja rfl rfl rfl (Jc (v := .int .i64 4) rfl) ?_
    refine Jf ?_
    refine Jq ?_
    obtain rfl := Option.some.inj H19
    refine J5 (v := .int .i64 4) rfl rfl (fin rfl)
   ·have H20 := Jp hb H18; clear H18
    refine Js ?_
    refine Je ?_
    refine Jb ?_
    refine Ja rfl rfl rfl (Jc (v := .int .i64 0) rfl) ?_
    refine Jf ?_
    refine Jq ?_
    obtain rfl := Option.some.inj H20
    refine J5 (v := .int .i64 0) rfl rfl (fin rfl)
theorem k24 {q0 : (List (List Int))} {pbq0 : Nat} {pq0 : Option Addr × Nat} {a0 : (List Int)} {v0 : Value} {a1 : T_tag_Value} {v1_2 : Value} {v1_3 : Value} {v1_4 : Value} {r : (List (List Int))} {w : World} {h : Jx} {S : Nat → Prop} (hcs : (Xx (Jv pbq0 [.slice pq0.1 q0.length pq0.2] 32) (rowD 25 1 gs_int (.slice pq0.1 q0.length pq0.2) q0.length q0)).P S w) (hlt : ∀ b, S b → b < w.heap.size) (hw : Know h w S) (f0 : FrS h 1 v0 (a0.map J3)) (f1_2 : FrS h 1 v1_2 (a1.Ints.map J3)) (f1_3 : FrS h 2 v1_3 (a1.Ratios.map Jn)) (f1_4 : FrN h 6 v1_4 g_tag_Entry a1.Entries) (H : tag_Paths_1 q0 a0 a1 = some r) : Does Try.prog 24 (List.toArray [v0, .agg #[.int .i64 a1.Kind, str a1.Text, v1_2, v1_3, v1_4], .pointer (some ⟨pbq0, 0, none⟩)]) w (fun v w' => ∃ x : (Option Addr × Nat), v = (.tuple #[]) ∧ Turn w w' S (Xx (Jv pbq0 [.slice x.1 r.length x.2] 32) (rowD 25 1 gs_int (.slice x.1 r.length x.2) r.length r))) := by
 refine enter (n := 11) Try.func24 rfl rfl rfl S [Xx (Jv pbq0 [.slice pq0.1 q0.length pq0.2] 32) (rowD 25 1 gs_int (.slice pq0.1 q0.length pq0.2) q0.length q0)] (Sat.one hcs hlt) ?_
 refine U5 0 rfl ?_
 refine We U0 ?_
 refine Je ?_
 refine Jb ?_
 refine Yv (cs := [.int .i64 a1.Kind, str a1.Text, v1_2, v1_3, v1_4]) rfl rfl rfl rfl (fun b2 => ?_)
 refine Jf ?_
 refine c_rowD 1 rfl (fun hp css hn pf => ?_)
 rw [hn]
 try dsimp only [z1, z2, z5, z6, z7, z8]
 refine U5 1 rfl ?_
 try dsimp only [z1, z2, z5, z6, z7, z8]
 refine Vk 2 1 rfl rfl (by decide) (fun _ _ => Y7) (fun hp_2 hle hle_2 => ?_)
 try dsimp only [z1, z2, z5, z6, z7, z8]
 exact Qp (Kd.d [0] _ :: Kd.p :: Kd.t 5 [2] _ _ :: Kd.dv 7 [5] (clipV 1) :: Kd.nsv 8 6 1 (fun v_ => [v_]) 25 :: Kd.tv 25 4 [6] _ _ :: Kd.sv 2 10 0 _ 32 :: []) 2 mixed (by
  refine Qx (i := 0) (v := .slice pq0.1 css.length pq0.2) Try.isAgg32 rfl rfl rfl rfl ?_
  refine Jj rfl rfl (Jd (v := v0) rfl) ?_
  have h_t7 := Qt H
  have H3 := Ql H
  refine d_make (Cv := fun v => Xa 3 1 v (val (Jk a0)).length ((val (Jk a0)).map J3)) (none, 0) (Q9 (G := fun x : (Option Addr × Nat) => .slice x.1 (val (Jk a0)).length x.2) (C := fun x : (Option Addr × Nat) => Xa 3 1 (.slice x.1 (val (Jk a0)).length x.2) (val (Jk a0)).length ((val (Jk a0)).map J3)) (fun w L' hF hS hi => k26 (Jy w) (f0.mono (hw.now hF)) h_t7) Try.call26 rfl) (fun _ => rfl) rfl rfl rfl (fun p => ?_)
  refine d_callDV (a := 7) (v := .slice (Qz p.1 0 (val (Jk a0)).length 1) (val (Jk a0)).length (val (Jk a0)).length) rfl (fun w L' hF hS hi => k25 (a := p.1) (n := (val (Jk a0)).length) (c := p.2) (capOf (i := 5) hS ((hi 5 (by simp)).trans rfl)) w) Try.call25 rfl rfl ?_
  refine d_newSV (x := .slice (Qz p.1 0 (val (Jk a0)).length 1) (val (Jk a0)).length (val (Jk a0)).length) (cs := fun v_ => [v_]) (cs0 := [.slice (Qz p.1 0 (val (Jk a0)).length 1) (val (Jk a0)).length (val (Jk a0)).length]) rfl rfl rfl rfl (Wb (vs := [.slice (Qz p.1 0 (val (Jk a0)).length 1) (val (Jk a0)).length (val (Jk a0)).length]) (cs := [.slice (Qz p.1 0 (val (Jk a0)).length 1) (val (Jk a0)).length (val (Jk a0)).length]) Try.underlying32 Try.sizeOf25 Try.zeroValue25 rfl rfl rfl rfl rfl) rfl (fun b3 => ?_)
  have h_l10 := Qt H3
  have H4 := Ql H3
  refine d_turnV (u := .slice (Qz p.1 0 (val (Jk a0)).length 1) (val (Jk a0)).length (val (Jk a0)).length) (G := fun u_ (x_ : Option Addr × Nat) => .slice x_.1 (css ++ [[u_]]).length x_.2) (Cv := fun u_ v_ => Xa 25 1 v_ (css ++ [[u_]]).length ((css ++ [[u_]]).map idC)) (none, 0) rfl (turns_appendM (i := 4) (k := 6) (p := pq0) (f := idC) (ys := css) (ls := [[.slice (Qz p.1 0 (val (Jk a0)).length 1) (val (Jk a0)).length (val (Jk a0)).length]]) Try.underlying32 (Zk Try.typeInfo25) rfl rfl rfl rfl rfl rfl rfl rfl rfl rfl rfl rfl rfl rfl rfl (app63 ((pf.mono hle_2).app h_l10 (nc := [[.slice (Qz p.1 0 (val (Jk a0)).length 1) (val (Jk a0)).length (val (Jk a0)).length]]) rfl)) rfl) (fun _ => rfl) rfl rfl (fun p_2 => ?_)
  refine d_storeV (i := 0) (vs := [.slice p_2.1 ((css ++ [[Value.slice (Qz p.1 0 (val (Jk a0)).length 1) (val (Jk a0)).length (val (Jk a0)).length]]).length) p_2.2]) (cs' := fun v_ => [v_]) Try.sizeOf32 rfl rfl rfl rfl rfl rfl rfl rfl rfl ?_
  refine Xm ?_
  refine Xq 5 rfl (imp_clipO _ _ _ _ _ _) ?_
  try dsimp only [z1, z2, z5, z6, z7, z8]
  refine Ws (Φ := fun H_ => FrS H_ 1 (.slice (Qz p.1 0 (val (Jk a0)).length 1) (val (Jk a0)).length (val (Jk a0)).length) ((val (Jk a0)).map J3)) 2 5 rfl rfl (by decide) (fun _ _ => Y7) (fz_ro _) (fun hp_3 hle_3 hf => ?_)
  have pf_2 : AllC gs_int hp_3 1 (css ++ [[Value.slice (Qz p.1 0 (val (Jk a0)).length 1) (val (Jk a0)).length (val (Jk a0)).length]]) (val (Vj 24 q0 ([(val (Jk a0))] : List (List Int)))) := AllC.snocG ((pf.mono hle_2).mono hle_3) h_l10 rfl hf
  try dsimp only [z1, z2, z5, z6, z7, z8]
  obtain rfl := Option.some.inj H4
  refine Wy 2 4 rfl rfl (by decide) ?_
  refine Xq 2 rfl (imp_rowD (p := p_2) rfl pf_2) ?_
  refine Wy 0 2 rfl rfl (by decide) ?_
  refine ret0n rfl (Wf p_2 (i := 0) rfl (by first | rfl | rw [(show ((css ++ [[Value.slice (Qz p.1 0 (val (Jk a0)).length 1) (val (Jk a0)).length (val (Jk a0)).length]]).length) = (val (Vj 24 q0 ([(val (Jk a0))] : List (List Int)))).length from pf_2.len)]) (by first | exact Imp.refl _ | exact Imp.of (by rw [(show ((css ++ [[Value.slice (Qz p.1 0 (val (Jk a0)).length 1) (val (Jk a0)).length (val (Jk a0)).length]]).length) = (val (Vj 24 q0 ([(val (Jk a0))] : List (List Int)))).length from pf_2.len)] <;> rfl)))
  ) (by kernel_rfl)
theorem k23_it (mm : Nat) : ∀ {a0 : (List T_tag_Entry)} {v0 : Value} {a1 : (List Int)} {v1 : Value} {a2 : (List (List Int))} {pb2 : Nat} {p2 : Option Addr × Nat} {r : (List (List Int))} {w : World} {h : Jx} {S : Nat → Prop} (hcs : (Xx (Jv pb2 [.slice p2.1 a2.length p2.2] 32) (rowD 25 1 gs_int (.slice p2.1 a2.length p2.2) a2.length a2)).P S w) (hlt : ∀ b, S b → b < w.heap.size) (hw : Know h w S) (f0 : FrN h 6 v0 g_tag_Entry a0) (f1 : FrS h 1 v1 (a1.map J3)) (H : it (fun (self : ((List T_tag_Entry) × (List Int) × (List (List Int))) → Option ((List (List Int)))) (s : (List T_tag_Entry) × (List Int) × (List (List Int))) => Z8 self s.1 s.2.1 s.2.2) mm (a0, a1, a2) = some r), Does Try.prog 23 (List.toArray [v0, v1, .func (.func 24) #[] #[.pointer (some ⟨pb2, 0, none⟩)]]) w (fun v w' => ∃ x : (Option Addr × Nat), v = (.tuple #[]) ∧ Turn w w' S (Xx (Jv pb2 [.slice x.1 r.length x.2] 32) (rowD 25 1 gs_int (.slice x.1 r.length x.2) r.length r))) := by
 induction mm with
 | zero => intros; rename_i H; exact absurd H (by simp [it])
 | succ mm ih =>
  intro a0 v0 a1 v1 a2 pb2 p2 r w h S hcs hlt hw f0 f1 H
  replace H : Z8 (it (fun (self : ((List T_tag_Entry) × (List Int) × (List (List Int))) → Option ((List (List Int)))) (s : (List T_tag_Entry) × (List Int) × (List (List Int))) => Z8 self s.1 s.2.1 s.2.2) mm) a0 a1 a2 = some r := H
  generalize it (fun (self : ((List T_tag_Entry) × (List Int) × (List (List Int))) → Option ((List (List Int)))) (s : (List T_tag_Entry) × (List Int) × (List (List Int))) => Z8 self s.1 s.2.1 s.2.2) mm = self at H ih
  refine enter (n := 33) Try.func23 rfl rfl rfl S [Xx (Jv pb2 [.slice p2.1 a2.length p2.2] 32) (rowD 25 1 gs_int (.slice p2.1 a2.length p2.2) a2.length a2)] (Sat.one hcs hlt) ?_
  refine U5 0 rfl ?_
  refine Je ?_
  refine Jb ?_
  refine Ja rfl rfl rfl (Jd (v := v0) rfl) ?_
  refine Ja rfl rfl rfl (Q7 Try.underlying27 rfl f0) ?_
  refine Ja rfl rfl rfl (Jd (v := .int .i64 0) rfl) ?_
  refine Jf ?_
  refine J6 ?_
  refine Z7 (σ := Int × (List (List Int))) (τ := (Option Addr × Nat)) (fun next1 s => Y0 a0 a1 self next1 s.1 s.2) (fun s t => [(1, v1), (2, .func (.func 24) #[] #[.pointer (some ⟨pb2, 0, none⟩)]), (9, v0), (10, .int .i64 (a0.length : Int)), (11, .int .i64 s.1)]) (fun s t => [Jv pb2 [.slice t.1 s.2.length t.2] 32, rowD 25 1 gs_int (.slice t.1 s.2.length t.2) s.2.length s.2]) (fun s t => True) (0, a2) p2 [0, 1] H (by exact trivial) (by exact ⟨rfl, rfl, rfl, rfl, rfl, trivial⟩) (by decide) rfl ?_
  rintro ⟨x11_2, l_2⟩ p m1 gg H9 _
  clear H
  replace H9 : Y0 a0 a1 self (it (fun next1 s => Y0 a0 a1 self next1 s.1 s.2) m1) x11_2 l_2 = some r := H9
  generalize hn1 : it (fun next1 s => Y0 a0 a1 self next1 s.1 s.2) m1 = next1 at H9
  try dsimp only
  refine Je ?_
  refine Jb ?_
  refine Ja rfl rfl rfl (Xs rfl rfl) ?_
  refine Jf ?_
  refine Je ?_
  refine J4 (b := (decide (x11_2 < (a0.length : Int)))) rfl (fun hb => ?_) (fun hb => ?_)
  ·have H10 := Jo hb H9; clear H9
   refine Js ?_
   refine Je ?_
   refine J6 ?_
   refine Je ?_
   refine Jb ?_
   obtain ⟨t13, h_t13, H11⟩ := Ji H10; clear H10
   refine Ja rfl rfl rfl (Qe Try.underlying27 Try.sizeOf70 rfl rfl f0.frs (f0.ix h_t13)) ?_
   refine Qu (fun w hF hS => Xr (f := (Wu h v0 6)) (i := x11_2) (sz := 6) (j := 0) (vs := [.int .i64 t13.Tag, .int .i64 t13.Value.Kind, str t13.Value.Text, (Qb h v0 6 (Int.toNat x11_2) 3), (Qb h v0 6 (Int.toNat x11_2) 4), (Qb h v0 6 (Int.toNat x11_2) 5)]) Try.isAgg70 Try.sizeOf70 rfl rfl (f0.frs.row (hw.now hF)) (f0.ix h_t13) (rd_of (Q1 (f0.at h_t13)) rfl)) rfl rfl rfl ?_
   refine Ye (cs := [.int .i64 0, .int .i64 0, str [], .slice none 0 0, .slice none 0 0, .slice none 0 0]) Try.zeroValue70 rfl rfl rfl (fun b2 => ?_)
   refine Qi (i := 2) (vs := [.int .i64 t13.Tag, .int .i64 t13.Value.Kind, str t13.Value.Text, (Qb h v0 6 (Int.toNat x11_2) 3), (Qb h v0 6 (Int.toNat x11_2) 4), (Qb h v0 6 (Int.toNat x11_2) 5)]) (cs' := [.int .i64 t13.Tag, .int .i64 t13.Value.Kind, str t13.Value.Text, (Qb h v0 6 (Int.toNat x11_2) 3), (Qb h v0 6 (Int.toNat x11_2) 4), (Qb h v0 6 (Int.toNat x11_2) 5)]) Try.sizeOf70 rfl rfl rfl rfl rfl rfl (by simp only [List.all_cons, List.all_nil, (show FrN h 6 (Qb h v0 6 (Int.toNat x11_2) 5) g_tag_Entry t13.Value.Entries from (J2 (Jm (f0.at h_t13)))).one, (show FrS h 1 (Qb h v0 6 (Int.toNat x11_2) 3) (t13.Value.Ints.map J3) from (J9 (Jm (f0.at h_t13)))).one, (show FrS h 2 (Qb h v0 6 (Int.toNat x11_2) 4) (t13.Value.Ratios.map Jn) from (J8 (Jm (f0.at h_t13)))).one] <;> rfl) rfl rfl ?_
   refine Jf ?_
   refine Je ?_
   exact Qp (Kd.p :: Kd.d [] _ :: Kd.p :: Kd.d [2] _ :: Kd.ns 3 [_] 3 1 :: Kd.t 4 [3] _ _ :: Kd.p :: []) 2 mixed (by
    refine Jj rfl rfl (Jd (v := v1) rfl) ?_
    refine d_call (kF25 f1) Try.call25 rfl rfl ?_
    refine Jj rfl rfl (Jl Try.runUnderlying70 rfl Try.sizeOf3 rfl rfl) ?_
    refine Qx (i := 2) (v := .int .i64 t13.Tag) Try.isAgg3 rfl rfl rfl rfl ?_
    refine d_newS rfl rfl (Wb (vs := [.int .i64 t13.Tag]) (cs := [.int .i64 t13.Tag]) Try.underlying25 Try.sizeOf3 Try.zeroValue3 rfl rfl rfl rfl rfl) rfl (fun b3 => ?_)
    have h_l20 := Qt H11
    have H12 := Ql H11
    refine d_make (Cv := fun v => Xa 3 1 v (val (Vj 8 a1 ([t13.Tag] : List Int))).length ((val (Vj 8 a1 ([t13.Tag] : List Int))).map J3)) (none, 0) (makes_appZ (sz := 1) (by_ := 8) (f := J3) (ys := a1) (ls := ([t13.Tag] : List Int)) (V := .slice (some ⟨b3, 0, none⟩) 1 1) (rds := [3]) Try.underlying25 (Zk Try.typeInfo3) rfl rfl rfl rfl rfl rfl f1 (fun w hF => hw.now hF) rfl rfl rfl (Nat.succ_pos _) (fun w L' hF hS hi => row_box (i := 3) hS ((hi 3 (by simp)).trans rfl) rfl rfl) (fun _ => rfl) (fun _ => rfl) h_l20) (fun _ => rfl) rfl rfl rfl (fun p_2 => ?_)
    refine Jj rfl rfl (Jc (v := .slice p_2.1 (val (Vj 8 a1 ([t13.Tag] : List Int))).length p_2.2) rfl) ?_
    refine Xm ?_
    refine Je ?_
    refine Jb ?_
    refine Ja rfl rfl rfl (Jd (v := .func (.func 24) #[] #[.pointer (some ⟨pb2, 0, none⟩)]) rfl) ?_
    refine Ja rfl rfl rfl (Jd (v := .slice p_2.1 (val (Vj 8 a1 ([t13.Tag] : List Int))).length p_2.2) rfl) ?_
    refine Ja rfl rfl rfl (Jl Try.runUnderlying70 rfl Try.sizeOf29 rfl rfl) ?_
    refine Qg (i := 2) (vs := [.int .i64 t13.Value.Kind, str t13.Value.Text, (Qb h v0 6 (Int.toNat x11_2) 3), (Qb h v0 6 (Int.toNat x11_2) 4), (Qb h v0 6 (Int.toNat x11_2) 5)]) Try.isAgg29 Try.sizeOf29 rfl rfl rfl rfl rfl ?_
    obtain ⟨t25, h_t25, H13⟩ := Ji H12; clear H12
    refine Wy 0 1 rfl rfl (by decide) ?_
    refine Zg (turns_callBV (caps := #[.pointer (some ⟨pb2, 0, none⟩)]) (args := [.slice p_2.1 (val (Vj 8 a1 ([t13.Tag] : List Int))).length p_2.2, .agg #[.int .i64 t13.Value.Kind, str t13.Value.Text, (Qb h v0 6 (Int.toNat x11_2) 3), (Qb h v0 6 (Int.toNat x11_2) 4), (Qb h v0 6 (Int.toNat x11_2) 5)]]) (i := 0) (rds := [4]) (G := fun x : (Option Addr × Nat) => .tuple #[]) (C := fun x : (Option Addr × Nat) => Xx (Jv pb2 [.slice x.1 t25.length x.2] 32) (rowD 25 1 gs_int (.slice x.1 t25.length x.2) t25.length t25)) rfl (fun w L' S hF hS hi hp hlt ho hA => k24 hp hlt (Y8 w S) (frb_own (j := 4) rfl hA hS (by decide) ((hi 4 (by simp)).trans rfl)) ((show FrS h 1 (Qb h v0 6 (Int.toNat x11_2) 3) (t13.Value.Ints.map J3) from (J9 (Jm (f0.at h_t13)))).mono (hw.but hF ho)) ((show FrS h 2 (Qb h v0 6 (Int.toNat x11_2) 4) (t13.Value.Ratios.map Jn) from (J8 (Jm (f0.at h_t13)))).mono (hw.but hF ho)) ((show FrN h 6 (Qb h v0 6 (Int.toNat x11_2) 5) g_tag_Entry t13.Value.Entries from (J2 (Jm (f0.at h_t13)))).mono (hw.but hF ho)) h_t25) Try.call24 rfl rfl) rfl rfl rfl (fun p_3 => ?_)
    refine c_splitAt 0 1 rfl rfl (by decide) ?_
    refine Jf ?_
    try dsimp only [z1, z2, z5, z6, z7, z8]
    refine Jb ?_
    refine Ja rfl rfl rfl (Jl Try.runUnderlying70 rfl Try.sizeOf29 rfl rfl) ?_
    refine Ja rfl rfl rfl (Jl Try.runUnderlying29 rfl Try.sizeOf27 rfl rfl) ?_
    refine Jt (i := 2) (v := (Qb h v0 6 (Int.toNat x11_2) 5)) Try.isAgg27 rfl rfl rfl rfl rfl ?_
    refine Ja rfl rfl rfl (Jd (v := .slice p_2.1 (val (Vj 8 a1 ([t13.Tag] : List Int))).length p_2.2) rfl) ?_
    refine Ja rfl rfl rfl (Jd (v := .func (.func 24) #[] #[.pointer (some ⟨pb2, 0, none⟩)]) rfl) ?_
    obtain ⟨t31, h_t31, H14⟩ := Ji H13; clear H13
    refine Wy 0 1 rfl rfl (by decide) ?_
    refine Zg (Xp (i := 0) (rds := [4]) (G := fun x : (Option Addr × Nat) => .tuple #[]) (C := fun x : (Option Addr × Nat) => Xx (Jv pb2 [.slice x.1 t31.length x.2] 32) (rowD 25 1 gs_int (.slice x.1 t31.length x.2) t31.length t31)) rfl (fun w L' S hF hS hi hp hlt ho hA => ih hp hlt (Y8 w S) ((show FrN h 6 (Qb h v0 6 (Int.toNat x11_2) 5) g_tag_Entry t13.Value.Entries from (J2 (Jm (f0.at h_t13)))).mono (hw.but hF ho)) (frb_own (j := 4) rfl hA hS (by decide) ((hi 4 (by simp)).trans rfl)) h_t31) Try.call23 rfl) rfl rfl rfl (fun p_4 => ?_)
    refine c_splitAt 0 1 rfl rfl (by decide) ?_
    refine Jf ?_
    refine Jb ?_
    obtain ⟨t32, h_t32, H15⟩ := Ji H14; clear H14
    refine Ja rfl rfl rfl (Qv rfl rfl h_t32) ?_
    refine Ja rfl rfl rfl (Jd (v := .int .i64 t32) rfl) ?_
    refine Jf ?_
    refine Jr (t32, t31) p_4 m1 [0, 1] (by exact ⟨rfl, rfl, rfl, rfl, rfl, trivial⟩) (by decide) (by kernel_rfl) (by exact ⟨(by subst hn1; exact H15), trivial⟩) (Nat.lt_succ_self _)
    ) (by kernel_rfl)
  ·have H16 := Jp hb H9; clear H9
   refine X7 ?_
   obtain rfl := Option.some.inj H16
   refine Wy 0 1 rfl rfl (by decide) ?_
   refine ret0n rfl (Wf p (i := 0) rfl rfl (Imp.refl _))
theorem k23 {a0 : (List T_tag_Entry)} {v0 : Value} {a1 : (List Int)} {v1 : Value} {a2 : (List (List Int))} {pb2 : Nat} {p2 : Option Addr × Nat} {r : (List (List Int))} {w : World} {h : Jx} {S : Nat → Prop} (hcs : (Xx (Jv pb2 [.slice p2.1 a2.length p2.2] 32) (rowD 25 1 gs_int (.slice p2.1 a2.length p2.2) a2.length a2)).P S w) (hlt : ∀ b, S b → b < w.heap.size) (hw : Know h w S) (f0 : FrN h 6 v0 g_tag_Entry a0) (f1 : FrS h 1 v1 (a1.map J3)) (H : tag_each a0 a1 a2 = some r) : Does Try.prog 23 (List.toArray [v0, v1, .func (.func 24) #[] #[.pointer (some ⟨pb2, 0, none⟩)]]) w (fun v w' => ∃ x : (Option Addr × Nat), v = (.tuple #[]) ∧ Turn w w' S (Xx (Jv pb2 [.slice x.1 r.length x.2] 32) (rowD 25 1 gs_int (.slice x.1 r.length x.2) r.length r))) := by
 obtain ⟨mm, hm⟩ := fix_it (show V6 (fun (self : ((List T_tag_Entry) × (List Int) × (List (List Int))) → Option ((List (List Int)))) (s : (List T_tag_Entry) × (List Int) × (List (List Int))) => Z8 self s.1 s.2.1 s.2.2) (a0, a1, a2) = some r from H)
 exact k23_it mm hcs hlt hw f0 f1 hm
theorem k27 {a : Option Addr} {n c : Nat} (hc : n ≤ c) : Ret Try.prog 27 [.slice a n c] (.slice (Qz a 0 n 1) n n) := by
  refine Zm (n := 9) Try.func27 rfl rfl rfl (fun wd => ?_)
  refine Je ?_
  refine Jb ?_
  refine Ja rfl rfl rfl (Jc (v := .slice none 0 0) rfl) ?_
  refine Jf ?_
  refine Je ?_
  refine Jb ?_
  refine Ja rfl rfl rfl (Jd (v := .slice a n c) rfl) ?_
  refine Ja rfl rfl rfl (Jd (v := .slice a n c) rfl) ?_
  refine Ja rfl rfl rfl (r_len Try.underlying32 rfl) ?_
  refine Ja rfl rfl rfl (Jd (v := .slice a n c) rfl) ?_
  refine Ja rfl rfl rfl (r_len Try.underlying32 rfl) ?_
  refine Ja rfl rfl rfl (r_sliceHM (a := a) (m := n) (c := c) (h := (n : Int)) (q := (n : Int)) Try.underlying32 Try.sizeOf25 rfl rfl rfl (Int.natCast_nonneg n) (Int.le_refl _) (Int.ofNat_le.2 hc)) ?_
  refine Ja rfl rfl rfl (Jc (v := .slice (Qz a 0 n 1) n n) rfl) ?_
  refine Jf ?_
  refine Jq ?_
  exact J5 (v := .slice (Qz a 0 n 1) n n) rfl rfl (fin rfl)
theorem k6 {a0 : T_tag_File} {v0_1 : Value} {r : (List (List Int)) × Int} {w : World} {h : Jx} (hw : Know h w X3) (f0_1 : FrN h 1 v0_1 gs_tag_Entry a0.Dirs) (H : tag_Paths a0 = some r) : Does Try.prog 6 (List.toArray [.agg #[.bool a0.Big, v0_1]]) w (fun v w' => ∃ x : (Option Addr × Nat), v = (.tuple #[.slice x.1 r.1.length x.2, .int .i64 r.2]) ∧ Turn w w' X3 (roD 1 gs_int (.slice x.1 r.1.length x.2) r.1.length r.1)) := by
 refine enter (n := 29) Try.func6 rfl rfl rfl X3 [] (Sat.nil _ _) ?_
 refine We U0 ?_
 refine Je ?_
 refine Jb ?_
 refine Yv (cs := [.bool a0.Big, v0_1]) rfl rfl rfl rfl (fun b6 => ?_)
 refine Ja rfl rfl rfl (Jc (v := .slice none 0 0) rfl) ?_
 refine Ja rfl rfl rfl (Jc (v := .int .i64 0) rfl) ?_
 refine Jf ?_
 refine Je ?_
 refine Je ?_
 refine Jb ?_
 refine Qg (i := 1) (vs := [.bool a0.Big, v0_1]) Try.isAgg24 Try.sizeOf24 rfl rfl rfl rfl rfl ?_
 obtain ⟨t9, h_t9, H21⟩ := Ji H; clear H
 refine Qn (fun w hF hS => k22 (Jy w) (f0_1.mono (hw.now hF)) h_t9) Try.call22 rfl rfl rfl ?_
 refine Ja rfl rfl rfl (Jc (v := .int .i64 t9) rfl) ?_
 refine Jf ?_
 refine Je ?_
 refine Jb ?_
 refine Ja rfl rfl rfl (Jd (v := .int .i64 t9) rfl) ?_
 refine Ja rfl rfl rfl (Y9 rfl rfl) ?_
 refine Jf ?_
 refine J4 (b := (decide (t9 ≠ 0))) rfl (fun hb => ?_) (fun hb => ?_)
 ·have H22 := Jo hb H21; clear H21
  refine Je ?_
  refine Jb ?_
  refine Ja rfl rfl rfl (Jd (v := .int .i64 t9) rfl) ?_
  refine Ja rfl rfl rfl (Jc (v := .slice none 0 0) rfl) ?_
  refine Ja rfl rfl rfl (Jc (v := .int .i64 t9) rfl) ?_
  refine Jf ?_
  refine Jq ?_
  refine U2 25 1 ?_
  obtain rfl := Option.some.inj H22
  refine Xq 2 rfl (row_ro _ _ _ _ _) ?_
  refine Wy 0 2 rfl rfl (by decide) ?_
  refine Xq 0 rfl (imp_roD (p := ((none, 0) : Option Addr × Nat)) rfl (AllC.nil (G := gs_int) (h := U0) (sz := 1))) ?_
  refine ret2 (v1 := .slice ((none, 0) : Option Addr × Nat).1 (([] : List (List Value)).length) ((none, 0) : Option Addr × Nat).2) (v2 := .int .i64 t9) rfl rfl rfl (Wf ((none, 0) : Option Addr × Nat) (i := 0) rfl (by first | rfl | rw [(show (([] : List (List Value)).length) = ([] : List (List Int)).length from (AllC.nil (G := gs_int) (h := U0) (sz := 1)).len)]) (by first | exact Imp.refl _ | exact Imp.of (by rw [(show (([] : List (List Value)).length) = ([] : List (List Int)).length from (AllC.nil (G := gs_int) (h := U0) (sz := 1)).len)] <;> rfl)))
 ·have H23 := Jp hb H21; clear H21
  refine Js ?_
  refine Je ?_
  refine Jb ?_
  refine Ye (cs := [.slice none 0 0]) Try.zeroValue32 rfl rfl rfl (fun b7 => ?_)
  refine Jf ?_
  refine Q8 (r := r) (σ := (List (List Int))) (τ := (Option Addr × Nat)) (fun s => tag_Paths_j1 s) (fun s t => [(5, .pointer (some ⟨b7, 0, none⟩))]) (fun s t => [X9 U0 U0, Jv b7 [.slice t.1 s.length t.2] 32, rowD 25 1 gs_int (.slice t.1 s.length t.2) s.length s]) (fun s t => True) ?_ ?_
  ·refine Je ?_
   refine Jb ?_
   refine Ja rfl rfl rfl (Jl Try.runUnderlying24 rfl Try.sizeOf22 rfl rfl) ?_
   refine Jt (i := 1) (v := v0_1) Try.isAgg22 rfl rfl rfl rfl rfl ?_
   refine Ja rfl rfl rfl (Q7 Try.underlying22 rfl f0_1) ?_
   refine Ja rfl rfl rfl (Jd (v := .int .i64 0) rfl) ?_
   refine Jf ?_
   refine J6 ?_
   refine c_dr 1 ?_
   try dsimp only [z1, z2, z3, z4, z5, z6, z7, z8]
   refine U2 25 1 ?_
   refine We U0 ?_
   try dsimp only [z1, z2, z5, z6, z7, z8]
   refine Wy 3 2 rfl rfl (by decide) ?_
   try dsimp only [z1, z2, z5, z6, z7, z8]
   refine Xq 3 rfl (imp_rowDx (css := []) (xs := ([] : List (List Int))) (p := ((none, 0) : Option Addr × Nat)) rfl (AllC.nil (G := gs_int) (h := U0) (sz := 1))) ?_
   refine Z7 (σ := Int × (List (List Int))) (τ := (Option Addr × Nat)) (fun next2 s => Zi a0 next2 s.1 s.2) (fun s t => [(5, .pointer (some ⟨b7, 0, none⟩)), (14, v0_1), (15, .int .i64 (a0.Dirs.length : Int)), (16, .int .i64 s.1)]) (fun s t => [X9 U0 U0, Jv b7 [.slice t.1 s.2.length t.2] 32, rowD 25 1 gs_int (.slice t.1 s.2.length t.2) s.2.length s.2]) (fun s t => True) (0, ([] : List (List Int))) ((none, 0) : Option Addr × Nat) [0, 1, 3] H23 (by exact trivial) (by exact ⟨rfl, rfl, rfl, rfl, trivial⟩) (by decide) rfl ?_
   rintro ⟨x16_2, l_3⟩ p_2 m2 gg H25 _
   clear H23
   replace H25 : Zi a0 (it (fun next2 s => Zi a0 next2 s.1 s.2) m2) x16_2 l_3 = some r := H25
   generalize hn2 : it (fun next2 s => Zi a0 next2 s.1 s.2) m2 = next2 at H25
   try dsimp only
   refine Je ?_
   refine Jb ?_
   refine Ja rfl rfl rfl (Xs rfl rfl) ?_
   refine Jf ?_
   refine Je ?_
   refine J4 (b := (decide (x16_2 < (a0.Dirs.length : Int)))) rfl (fun hb => ?_) (fun hb => ?_)
   ·have H26 := Jo hb H25; clear H25
    refine Js ?_
    refine Je ?_
    refine J6 ?_
    refine Je ?_
    refine Jb ?_
    refine Ja rfl rfl rfl (Jd (v := .int .i64 x16_2) rfl) ?_
    obtain ⟨t19, h_t19, H27⟩ := Ji H26; clear H26
    refine Ja rfl rfl rfl (Qe Try.underlying22 Try.sizeOf27 rfl rfl f0_1.frs (f0_1.ix h_t19)) ?_
    refine Qu (fun w hF hS => Qa (f := (Wu h v0_1 1)) (i := x16_2) (sz := 1) (j := 0) (v := (Qb h v0_1 1 (Int.toNat x16_2) 0)) Try.isAgg27 rfl rfl (f0_1.frs.row (hw.now hF)) (f0_1.ix h_t19) (Ur (X8 (f0_1.at h_t19)) rfl)) rfl rfl rfl ?_
    refine Ja rfl rfl rfl (Jc (v := .int .i64 x16_2) rfl) ?_
    refine Ja rfl rfl rfl (Jc (v := (Qb h v0_1 1 (Int.toNat x16_2) 0)) rfl) ?_
    refine Jf ?_
    refine Jb ?_
    refine Ja rfl rfl rfl (Jd (v := (Qb h v0_1 1 (Int.toNat x16_2) 0)) rfl) ?_
    refine Ja rfl rfl rfl (Jd (v := .int .i64 x16_2) rfl) ?_
    refine Wm (vs := [.int .i64 x16_2]) (cs := [.int .i64 x16_2]) Try.underlying25 Try.sizeOf3 Try.zeroValue3 rfl rfl rfl rfl rfl rfl rfl (fun b8 => ?_)
    refine Ja rfl rfl rfl (r_makeFn (caps := #[.pointer (some ⟨b7, 0, none⟩)]) rfl) ?_
    obtain ⟨t25, h_t25, H28⟩ := Ji H27; clear H27
    refine Wy 1 2 rfl rfl (by decide) ?_
    refine Zg (Xp (i := 1) (rds := [3]) (G := fun x : (Option Addr × Nat) => .tuple #[]) (C := fun x : (Option Addr × Nat) => Xx (Jv b7 [.slice x.1 t25.length x.2] 32) (rowD 25 1 gs_int (.slice x.1 t25.length x.2) t25.length t25)) rfl (fun w L' S hF hS hi hp hlt ho hA => k23 hp hlt (Y8 w S) ((show FrN h 6 (Qb h v0_1 1 (Int.toNat x16_2) 0) g_tag_Entry t19 from (f0_1.at h_t19)).mono (hw.but hF ho)) (frb_box (j := 3) (xs := ([x16_2] : List Int)) (f := J3) hA hS (by decide) ((hi 3 (by simp)).trans rfl) rfl rfl rfl rfl) h_t25) Try.call23 rfl) rfl rfl rfl (fun p_3 => ?_)
    refine c_splitAt 1 2 rfl rfl (by decide) ?_
    refine Jf ?_
    try dsimp only [z1, z2, z5, z6, z7, z8]
    refine Jb ?_
    obtain ⟨t26, h_t26, H29⟩ := Ji H28; clear H28
    refine Ja rfl rfl rfl (Qv rfl rfl h_t26) ?_
    refine Ja rfl rfl rfl (Jd (v := .int .i64 t26) rfl) ?_
    refine Jf ?_
    refine Jr (t26, t25) p_3 m2 [0, 1, 2] (by exact ⟨rfl, rfl, rfl, rfl, trivial⟩) (by decide) (by kernel_rfl) (by exact ⟨(by subst hn2; exact H29), trivial⟩) (Nat.lt_succ_self _)
   ·have H30 := Jp hb H25; clear H25
    refine X7 ?_
    refine Jr l_3 p_2 0 [0, 1, 2] (by exact ⟨rfl, trivial⟩) (by decide) (by kernel_rfl) (by exact ⟨H30, trivial⟩) (Nat.lt_succ_self _)
  ·rintro l p gg H24 _
   replace H24 : tag_Paths_j1 l = some r := H24
   try dsimp only
   refine Je ?_
   refine c_rowD 2 rfl (fun hp css hn pf => ?_)
   rw [hn]
   try dsimp only [z1, z2, z5, z6, z7, z8]
   refine U5 2 rfl ?_
   try dsimp only [z1, z2, z5, z6, z7, z8]
   refine Vk 0 2 rfl rfl (by decide) (fun _ _ => Y7) (fun hp_2 hle hle_2 => ?_)
   refine Jb ?_
   refine Jt (i := 1) (v := .slice p.1 css.length p.2) Try.isAgg32 rfl rfl rfl rfl rfl ?_
   refine Qn (fun w hF hS => k27 (capOf (i := 3) hS rfl) w) Try.call27 rfl rfl rfl ?_
   refine Ja rfl rfl rfl (Jc (v := .slice (Qz p.1 0 css.length 1) css.length css.length) rfl) ?_
   refine Ja rfl rfl rfl (Jc (v := .int .i64 0) rfl) ?_
   refine Jf ?_
   try dsimp only [z1, z2, z5, z6, z7, z8]
   refine Jq ?_
   obtain rfl := Option.some.inj H24
   refine Xq 3 rfl (imp_clipO _ _ _ _ _ _) ?_
   refine Wy 0 3 rfl rfl (by decide) ?_
   refine Xq 0 rfl (imp_roD (p := (Qz p.1 0 css.length 1, css.length)) rfl (pf.mono hle_2)) ?_
   refine ret2 (v1 := .slice (Qz p.1 0 css.length 1) css.length css.length) (v2 := .int .i64 0) rfl rfl rfl (Wf (Qz p.1 0 css.length 1, css.length) (i := 0) rfl (by first | rfl | rw [(show css.length = l.length from hn.symm)]) (by first | exact Imp.refl _ | exact Imp.of (by rw [(show css.length = l.length from hn.symm)] <;> rfl)))
end Go.Proofs.Ytpljknglodhcnaa
