/- TagMetadata, checks: the walks, printed by our generator; each follows its model. Conditions: the model yields a value. -/
import Derived.Test.YtgjpnjncfilgnaaGreatDoorMd
import Derived.Test.YtgjpnjncfilgnaaGreatDoorLx2
import Derived.Test.YtgjpnjncfilgnaaGreatDoorProg
namespace Go.Proofs.YtgjpnjncfilgnaaGreatDoor
open Go Go.Vc Go.Md Go.M Go.Lx Tryz
set_option maxRecDepth 100000
set_option maxHeartbeats 4000000
set_option linter.unusedVariables false
theorem mixed : prog.follows .mixedOrders = true := by kernel_rfl
abbrev Q1 (x : Int) : List Value := [i6 x]
abbrev Qi : Nat → Value
  | 0 => .func (.func 64) #[] #[]
  | 1 => .func (.func 66) #[] #[]
  | _ => .nilFunc
def Jaz (m : ((List Int) → Int → Option (Unit))) (w : World) (args : List Value) (post : Value → World → Prop) : Prop :=
  ∃ (a0 : (List Int)) (v0 : Value) (a1 : Int) (r : Unit), FrS (fun b => w.heap[b]?) 1 v0 (a0.map Q1) ∧ args = [v0, i6 a1] ∧ m a0 a1 = some r ∧ post = fun v' w' => v' = (.tuple #[]) ∧ Grow w w'
abbrev Jn (x : Th) : List Value := [i6 x.Num, i6 x.Den]
abbrev Xm (x : Int) : List Value := [.int .u8 x]
def Ja5 (m : (Tc → Option (Bool))) (w : World) (args : List Value) (post : Value → World → Prop) : Prop :=
  ∃ (a0 : Tc) (r : Bool), args = [.agg #[i6 a0.Kind, str a0.Text]] ∧ m a0 = some r ∧ post = fun v' w' => v' = (.bool r) ∧ Grow w w'
abbrev Jg (x : Td) : List Value := [i6 x.From, i6 x.To]
inductive g_tag_Entry (h : J3) : (Nat → Value) → Ta → Prop
  | mk {c : Nat → Value} {x : Ta} (h0 : c 0 = i6 x.Tag) (h1 : c 1 = i6 x.Value.Kind) (h2 : c 2 = str x.Value.Text) (h3 : FrS h 1 (c 3) (x.Value.Ints.map Q1)) (h4 : FrS h 2 (c 4) (x.Value.Ratios.map Jn)) (h5 : FrS h 6 (c 5) ((List.range x.Value.Entries.length).map (elC h (c 5) 6))) (h6 : ∀ (i : Nat) (y : Ta), x.Value.Entries[i]? = some y → g_tag_Entry h (Qz h (c 5) 6 i) y) : g_tag_Entry h c x
instance : Mon g_tag_Entry := ⟨fun k c x f => by
  induction f with
  | mk h0 h1 h2 h3 h4 h5 h6 ih => exact .mk h0 h1 h2 (h3.mono k) (h4.mono k) (frsMono h5 k) (fun i y hy => by have e_ := elMonoE h5 k hy; rw [← e_]; exact ih i y hy)⟩
def gs_int (h : J3) (c : Nat → Value) (x : (List Int)) : Prop := FrS h 1 (c 0) (x.map Q1)
instance : Mon gs_int := ⟨fun k _ _ f => FrS.mono f k⟩
def gs_tag_Ratio (h : J3) (c : Nat → Value) (x : (List Th)) : Prop := FrS h 2 (c 0) (x.map Jn)
instance : Mon gs_tag_Ratio := ⟨fun k _ _ f => FrS.mono f k⟩
def gs_tag_Entry (h : J3) (c : Nat → Value) (x : (List Ta)) : Prop := FrN h 6 (c 0) g_tag_Entry x
instance : Mon gs_tag_Entry := ⟨fun k _ _ f => FrN.mono f k⟩
theorem Ua {h : J3} {c : Nat → Value} {x : (List Ta)} (_ : gs_tag_Entry h c x) : (List.range 1).map c = [c 0] := rfl
def g_tag_Value (h : J3) (c : Nat → Value) (x : Tg) : Prop := c 0 = i6 x.Kind ∧ c 1 = str x.Text ∧ gs_int h (fun j => c (2 + j)) x.Ints ∧ gs_tag_Ratio h (fun j => c (3 + j)) x.Ratios ∧ gs_tag_Entry h (fun j => c (4 + j)) x.Entries
instance : Mon g_tag_Value := ⟨fun k _ _ f => by obtain ⟨h0, h1, h2, h3, h4⟩ := f; exact ⟨h0, h1, Mon.mono k _ _ h2, Mon.mono k _ _ h3, Mon.mono k _ _ h4⟩⟩
theorem cg_tag_Value {h : J3} {c : Nat → Value} {x : Tg} (f : g_tag_Value h c x) : (List.range 5).map c = [i6 x.Kind, str x.Text, c 2, c 3, c 4] := by
  obtain ⟨h0, h1, h2, h3, h4⟩ := f
  show [c 0, c 1, c 2, c 3, c 4] = _
  simp only [h0, h1]
theorem Qo {h : J3} {c : Nat → Value} {x : Tg} (f : g_tag_Value h c x) : gs_int h (fun j => c (2 + j)) x.Ints := by
  obtain ⟨h0, h1, h2, h3, h4⟩ := f; exact h2
theorem Qn {h : J3} {c : Nat → Value} {x : Tg} (f : g_tag_Value h c x) : gs_tag_Ratio h (fun j => c (3 + j)) x.Ratios := by
  obtain ⟨h0, h1, h2, h3, h4⟩ := f; exact h3
theorem Qc {h : J3} {c : Nat → Value} {x : Tg} (f : g_tag_Value h c x) : gs_tag_Entry h (fun j => c (4 + j)) x.Entries := by
  obtain ⟨h0, h1, h2, h3, h4⟩ := f; exact h4
theorem g_tag_Entry_iff {h : J3} {c : Nat → Value} {x : Ta} : g_tag_Entry h c x ↔ (c 0 = i6 x.Tag ∧ g_tag_Value h (fun j => c (1 + j)) x.Value) :=
  ⟨fun f => by cases f with | mk h0 h1 h2 h3 h4 h5 h6 => exact ⟨h0, ⟨h1, h2, h3, h4, ⟨h5, h6⟩⟩⟩, fun ⟨h0, ⟨h1, h2, h3, h4, ⟨h5, h6⟩⟩⟩ => .mk h0 h1 h2 h3 h4 h5 h6⟩
theorem Zi {h : J3} {c : Nat → Value} {x : Ta} (f : g_tag_Entry h c x) : (List.range 6).map c = [i6 x.Tag, i6 x.Value.Kind, str x.Value.Text, c 3, c 4, c 5] := by
  obtain ⟨h0, h1⟩ := g_tag_Entry_iff.1 f
  have hc1 := cg_tag_Value h1
  simp only [List.range, List.range.loop, List.map_cons, List.map_nil, Nat.reduceAdd, List.cons.injEq, and_true] at hc1
  show [c 0, c 1, c 2, c 3, c 4, c 5] = _
  simp only [h0, hc1]
theorem Jj {h : J3} {c : Nat → Value} {x : Ta} (f : g_tag_Entry h c x) : g_tag_Value h (fun j => c (1 + j)) x.Value := by
  obtain ⟨h0, h1⟩ := g_tag_Entry_iff.1 f; exact h1
def g_tag_Segment (h : J3) (c : Nat → Value) (x : Tc) : Prop := c 0 = i6 x.Kind ∧ c 1 = str x.Text
instance : Mon g_tag_Segment := ⟨fun k _ _ f => by obtain ⟨h0, h1⟩ := f; exact ⟨h0, h1⟩⟩
theorem Jap {h : J3} {c : Nat → Value} {x : Tc} (f : g_tag_Segment h c x) : (List.range 2).map c = [i6 x.Kind, str x.Text] := by
  obtain ⟨h0, h1⟩ := f
  show [c 0, c 1] = _
  simp only [h0, h1]
def Ws (m : ((List Ta) → (List Ta) → Option (Bool))) (w : World) (args : List Value) (post : Value → World → Prop) : Prop :=
  ∃ (a0 : (List Ta)) (v0 : Value) (a1 : (List Ta)) (v1 : Value) (r : Bool), FrN (fun b => w.heap[b]?) 6 v0 g_tag_Entry a0 ∧ FrN (fun b => w.heap[b]?) 6 v1 g_tag_Entry a1 ∧ args = [v0, v1] ∧ m a0 a1 = some r ∧ post = fun v' w' => v' = (.bool r) ∧ Grow w w'
def Vk (m : (Ta → Ta → Option (Bool))) (w : World) (args : List Value) (post : Value → World → Prop) : Prop :=
  ∃ (a0 : Ta) (v0_1_2 : Value) (v0_1_3 : Value) (v0_1_4 : Value) (a1 : Ta) (v1_1_2 : Value) (v1_1_3 : Value) (v1_1_4 : Value) (r : Bool), FrS (fun b => w.heap[b]?) 1 v0_1_2 (a0.Value.Ints.map Q1) ∧ FrS (fun b => w.heap[b]?) 2 v0_1_3 (a0.Value.Ratios.map Jn) ∧ FrN (fun b => w.heap[b]?) 6 v0_1_4 g_tag_Entry a0.Value.Entries ∧ FrS (fun b => w.heap[b]?) 1 v1_1_2 (a1.Value.Ints.map Q1) ∧ FrS (fun b => w.heap[b]?) 2 v1_1_3 (a1.Value.Ratios.map Jn) ∧ FrN (fun b => w.heap[b]?) 6 v1_1_4 g_tag_Entry a1.Value.Entries ∧ args = [.agg #[i6 a0.Tag, i6 a0.Value.Kind, str a0.Value.Text, v0_1_2, v0_1_3, v0_1_4], .agg #[i6 a1.Tag, i6 a1.Value.Kind, str a1.Value.Text, v1_1_2, v1_1_3, v1_1_4]] ∧ m a0 a1 = some r ∧ post = fun v' w' => v' = (.bool r) ∧ Grow w w'
theorem run_eqT74 (d : Nat) (w : World) (a0 b0 : Int) (a1 b1 : Int) : (Op.equalIn (d + 2) 74 (.agg #[i6 a0, i6 a1]) (.agg #[i6 b0, i6 b1])).run prog w = .ok (decide (a0 = b0 ∧ a1 = b1)) w := by
  rw [run_equalIn_struct w (d + 1) 74 _ _ (by simp only [Program.fieldsOf, underlying74]) stoodInHeld74]
  simp only [Program.fieldsOf, underlying74, Op.eqFields]
  simp [part, run_equalIn_int, Jhw, run_equalIn_bool', underlying3]
  repeat' split
  all_goals simp_all
theorem Jhq (w : World) (x y : Th) : (Op.equalIn Op.maxDepth 74 (.agg #[i6 x.Num, i6 x.Den]) (.agg #[i6 y.Num, i6 y.Den])).run prog w = .ok (Jbx x y) w :=
  run_eqT74 9998 w _ _ _ _
theorem k64 {a0 : (List Int)} {v0 : Value} {a1 : Int} {r : Unit} {w : World} {h : J3} (hw : Know h w Zo) (f0 : FrS h 1 v0 (a0.map Q1)) (H : Jgg a0 a1 = some r) : Does prog 64 (List.toArray [v0, i6 a1]) w (fun v w' => v = (.tuple #[]) ∧ Grow w w') := by
 refine enter (n := 4) func64 rfl rfl rfl Zo [] (Sat.nil _ _)<|Jk<|?_
 cases H
 refine ret0n rfl (fin rfl)
theorem k66 {a0 : (List Int)} {v0 : Value} {a1 : Int} {r : Unit} {w : World} {h : J3} (hw : Know h w Zo) (f0 : FrS h 1 v0 (a0.map Q1)) (H : Jgd a0 a1 = some r) : Does prog 66 (List.toArray [v0, i6 a1]) w (fun v w' => v = (.tuple #[]) ∧ Grow w w') := by
 refine enter (n := 4) func66 rfl rfl rfl Zo [] (Sat.nil _ _)<|Jk<|?_
 cases H
 refine ret0n rfl (fin rfl)
theorem hft114 (k : Nat) : FnV prog (Qi k) (mft114 k) (fun g => Jaz g) :=
  match k with
  | 0 => (show FnV prog (Qi 0) (mft114 0) _ from (FnV.mk (g := Jgg) (R := fun g => Jaz g) (fun h_ => (FnH.mk ⟨64, #[], #[], rfl, call64, fun args2 post2 w2 hk2 hR2 => by obtain ⟨a0_, v0_, a1_, r_, fa0_, rfl, H_, rfl⟩ := hR2; exact k64 (Jp w2) fa0_ H_⟩))))
  | 1 => (show FnV prog (Qi 1) (mft114 1) _ from (FnV.mk (g := Jgd) (R := fun g => Jaz g) (fun h_ => (FnH.mk ⟨66, #[], #[], rfl, call66, fun args2 post2 w2 hk2 hR2 => by obtain ⟨a0_, v0_, a1_, r_, fa0_, rfl, H_, rfl⟩ := hR2; exact k66 (Jp w2) fa0_ H_⟩))))
  | _ + 2 => FnV.nil
theorem k42 {a0 : Int} {a1 : Int} {a2 : Int} {r : Bool} (H : W0 a0 a1 a2 = some r) : Ret prog 42 [i6 a0, i6 a1, i6 a2] (.bool r) := by
 refine Yu (n := 15) func42 rfl rfl rfl (fun wd => ?_)
 refine Jc<|Ja<|ag (.bool false)<|Jd<|Jc<|Ja<|mv (i6 a0)<|mv (i6 a1)<|lv (Xz rfl rfl)<|mv (.bool (decide (a0 < a1)))<|?_
 revert H
 refine sp (fun hb H3=>?_) fun hb H4=>?_
 ·refine pa<|pa<|pa<|pT (.bool true)<|ag (.bool true)<|Jd<|Jl<|?_
  obtain rfl := sj H3
  exact r1 (.bool true)
 ·refine mv (i6 a0)<|mv (i6 a2)<|lv (Yn rfl rfl)<|pF (.bool (decide (a2 < a0)))<|ag (.bool (decide (a2 < a0)))<|Jd<|Jl<|?_
  obtain rfl := sj H4
  exact r1 (.bool (decide (a2 < a0)))
theorem k139 {a0 : Int} {r : Int} (H : Z8 a0 = some r) : Ret prog 139 [i6 a0] (i6 r) := by
 refine Yu (n := 16) func139 rfl rfl rfl (fun wd => ?_)
 refine Jc<|Ja<|ag (i6 0)<|Jd<|Jc<|Jc<|Ja<|mv (i6 a0)<|Jd<|Ju<|?_
 refine Qj (r := r) (σ := Bool) (τ := Unit) (fun s => Jac a0 s) (fun s t => [(3, i6 a0), (4, .bool s)]) (fun s t => []) (fun s t => True) ?_ ?_
 ·refine Jc<|Ja<|lv (Ql rfl rfl)<|ag (.bool (decide (a0 = 1)))<|Jd<|?_
  revert H
  refine ci (decide (a0 = 1)) rfl (fun hb H37=>?_) fun hb H38=>?_
  ·refine Jk ?_
   exact cl (decide (a0 = 1)) () 0 [] (by exact ⟨H37, trivial⟩)
  ·refine Jc<|Ja<|lv (Ql rfl rfl)<|ag (.bool (decide (a0 = 2)))<|Jd<|?_
   revert H38
   refine ci (decide (a0 = 2)) rfl (fun hb H39=>?_) fun hb H40=>?_
   ·refine Jk ?_
    exact cl (decide (a0 = 2)) () 0 [] (by exact ⟨H39, trivial⟩)
   ·refine Jc<|Ja<|lv (Ql rfl rfl)<|ag (.bool (decide (a0 = 7)))<|Jd<|?_
    revert H40
    refine ci (decide (a0 = 7)) rfl (fun hb H41=>?_) fun hb H42=>?_
    ·refine Jk ?_
     exact cl (decide (a0 = 7)) () 0 [] (by exact ⟨H41, trivial⟩)
    ·refine Ja<|lv (Ql rfl rfl)<|ag (.bool (decide (a0 = 13)))<|Jd<|?_
     exact cl (decide (a0 = 13)) () 0 [] (by exact ⟨H42, trivial⟩)
 ·rintro x4 _ gg H22 _
  try dsimp only at H22
  try dsimp only
  revert H22
  refine ci x4 rfl (fun hb H23=>?_) fun hb H24=>?_
  ·refine Jc<|Ja<|ag (i6 1)<|Jd<|Jl<|?_
   obtain rfl := sj H23
   exact r1 (i6 1)
  ·refine Jc<|Ja<|lv (Ql rfl rfl)<|ag (.bool (decide (a0 = 3)))<|Jd<|?_
   revert H24
   refine ci (decide (a0 = 3)) rfl (fun hb H25=>?_) fun hb H26=>?_
   ·refine Jc<|Ja<|ag (i6 2)<|Jd<|Jl<|?_
    obtain rfl := sj H25
    exact r1 (i6 2)
   ·refine Jc<|Jc<|Ja<|lv (Ql rfl rfl)<|ag (.bool (decide (a0 = 4)))<|Jd<|?_
    revert H26
    refine ci (decide (a0 = 4)) rfl (fun hb H27=>?_) fun hb H32=>?_
    ·refine Jk ?_
     revert H27
     refine ci (decide (a0 = 4)) rfl (fun hb H28=>?_) fun hb H29=>?_
     ·refine Jc<|Ja<|ag (i6 4)<|Jd<|Jl<|?_
      obtain rfl := sj H28
      exact r1 (i6 4)
     ·refine Jc<|Ja<|lv (Ql rfl rfl)<|ag (.bool (decide (a0 = 5)))<|Jd<|?_
      revert H29
      refine ci (decide (a0 = 5)) rfl (fun hb H30=>?_) fun hb H31=>?_
      ·refine Jc<|Ja<|ag (i6 8)<|Jd<|Jl<|?_
       obtain rfl := sj H30
       exact r1 (i6 8)
      ·refine Jk<|Jc<|Ja<|ag (i6 0)<|Jd<|Jl<|?_
       obtain rfl := sj H31
       exact r1 (i6 0)
    ·refine Ja<|lv (Ql rfl rfl)<|ag (.bool (decide (a0 = 9)))<|Jd<|?_
     revert H32
     refine ci (decide (a0 = 9)) rfl (fun hb H33=>?_) fun hb H34=>?_
     ·refine Jc<|Ja<|ag (i6 4)<|Jd<|Jl<|?_
      obtain rfl := sj H33
      exact r1 (i6 4)
     ·refine Jc<|Ja<|lv (Ql rfl rfl)<|ag (.bool (decide (a0 = 5)))<|Jd<|?_
      revert H34
      refine ci (decide (a0 = 5)) rfl (fun hb H35=>?_) fun hb H36=>?_
      ·refine Jc<|Ja<|ag (i6 8)<|Jd<|Jl<|?_
       obtain rfl := sj H35
       exact r1 (i6 8)
      ·refine Jk<|Jc<|Ja<|ag (i6 0)<|Jd<|Jl<|?_
       obtain rfl := sj H36
       exact r1 (i6 0)
theorem k165 {a0 : Int} {r : Bool} (H : Jep a0 = some r) : Ret prog 165 [i6 a0] (.bool r) := by
 refine Yu (n := 17) func165 rfl rfl rfl (fun wd => ?_)
 refine Jc<|Ja<|ag (.bool false)<|Jd<|Jc<|Ja<|mv (i6 a0)<|lv (Ql rfl rfl)<|mv (.bool (decide (a0 = 1)))<|?_
 revert H
 refine sp (fun hb H7=>?_) fun hb H8=>?_
 ·refine pa<|pa<|pT (.bool true)<|mv (.bool true)<|pa<|pa<|pT (.bool true)<|mv (.bool true)<|pa<|pa<|pT (.bool true)<|ag (.bool true)<|Jd<|Jl<|?_
  obtain rfl := sj H7
  exact r1 (.bool true)
 ·refine mv (i6 a0)<|lv (Ql rfl rfl)<|pF (.bool (decide (a0 = 3)))<|mv (.bool (decide (a0 = 3)))<|?_
  revert H8
  refine sp (fun hb H9=>?_) fun hb H10=>?_
  ·refine pa<|pa<|pT (.bool true)<|mv (.bool true)<|pa<|pa<|pT (.bool true)<|ag (.bool true)<|Jd<|Jl<|?_
   obtain rfl := sj H9
   exact r1 (.bool true)
  ·refine mv (i6 a0)<|lv (Ql rfl rfl)<|pF (.bool (decide (a0 = 4)))<|mv (.bool (decide (a0 = 4)))<|?_
   revert H10
   refine sp (fun hb H11=>?_) fun hb H12=>?_
   ·refine pa<|pa<|pT (.bool true)<|ag (.bool true)<|Jd<|Jl<|?_
    obtain rfl := sj H11
    exact r1 (.bool true)
   ·refine mv (i6 a0)<|lv (Ql rfl rfl)<|pF (.bool (decide (a0 = 9)))<|ag (.bool (decide (a0 = 9)))<|Jd<|Jl<|?_
    obtain rfl := sj H12
    exact r1 (.bool (decide (a0 = 9)))
theorem k166 {a0 : Int} {r : Bool} (H : Je3 a0 = some r) : Ret prog 166 [i6 a0] (.bool r) := by
 refine Yu (n := 9) func166 rfl rfl rfl (fun wd => ?_)
 refine Jc<|Ja<|ag (.bool false)<|Jd<|Jc<|Ja<|mv (i6 a0)<|lv (Ql rfl rfl)<|mv (.bool (decide (a0 = 2)))<|?_
 revert H
 refine sp (fun hb H3=>?_) fun hb H4=>?_
 ·refine pa<|pa<|pT (.bool true)<|ag (.bool true)<|Jd<|Jl<|?_
  obtain rfl := sj H3
  exact r1 (.bool true)
 ·refine mv (i6 a0)<|lv (Ql rfl rfl)<|pF (.bool (decide (a0 = 7)))<|ag (.bool (decide (a0 = 7)))<|Jd<|Jl<|?_
  obtain rfl := sj H4
  exact r1 (.bool (decide (a0 = 7)))
theorem k106 {a0 : Tg} {v0_2 : Value} {v0_3 : Value} {v0_4 : Value} {r : Int} {w : World} {h : J3} (hw : Know h w Zo) (f0_2 : FrS h 1 v0_2 (a0.Ints.map Q1)) (f0_3 : FrS h 2 v0_3 (a0.Ratios.map Jn)) (f0_4 : FrN h 6 v0_4 g_tag_Entry a0.Entries) (H : U7 a0 = some r) : Does prog 106 (List.toArray [.agg #[i6 a0.Kind, str a0.Text, v0_2, v0_3, v0_4]]) w (fun v w' => v = (i6 r) ∧ Grow w w') := by
 refine enter (n := 46) func106 rfl rfl rfl Zo [] (Sat.nil _ _)<|Jc<|Ja<|?_
 refine Wj (cs := [i6 a0.Kind, str a0.Text, v0_2, v0_3, v0_4]) rfl rfl rfl rfl (fun b1 => ?_)
 refine ag (i6 0)<|Jd<|Jc<|Ju<|Jc<|Ja<|lf runUnderlying38 rfl sizeOf3 rfl<|ll 0 (i6 a0.Kind) isAgg3<|?_
 obtain ⟨t6, h_t6, H31⟩ := Je H; clear H
 refine Yy (k139 h_t6) call139 rfl rfl rfl<|lv (Ql rfl rfl)<|ag (.bool (decide (t6 = 0)))<|Jd<|?_
 revert H31
 refine ci (decide (t6 = 0)) rfl (fun hb H32=>?_) fun hb H33=>?_
 ·refine Jc<|Ja<|ag (i6 10)<|Jd<|Jl<|?_
  obtain rfl := sj H32
  exact r1 (i6 10)
 ·refine Jc ?_
  refine Qj (r := r) (σ := Bool) (τ := Unit) (fun s => Wo a0 s) (fun s t => [(1, .pointer (some ⟨b1, 0, none⟩)), (8, .bool s)]) (fun s t => [Jf b1 [i6 a0.Kind, str a0.Text, v0_2, v0_3, v0_4] 38]) (fun s t => True) ?_ ?_
  ·refine Ja<|lf runUnderlying38 rfl sizeOf3 rfl<|ll 0 (i6 a0.Kind) isAgg3<|?_
   obtain ⟨t11, h_t11, H58⟩ := Je H33; clear H33
   refine Yy (k165 h_t11) call165 rfl rfl rfl<|lv (Ja4 rfl)<|mv (.bool (!t11))<|?_
   revert H58
   refine sp (fun hb H59=>?_) fun hb H60=>?_
   ·refine lf runUnderlying38 rfl sizeOf30 rfl<|ll 0 v0_2 isAgg30<|lv (Vy underlying30 rfl f0_2 rfl)<|lv (Yn rfl rfl)<|pT (.bool (decide (0 < (a0.Ints.length : Int))))<|ag (.bool (decide (0 < (a0.Ints.length : Int))))<|Jd<|?_
    exact cl (decide (0 < (a0.Ints.length : Int))) () 0 [0] (by exact ⟨H59, trivial⟩)
   ·refine pa<|pa<|pa<|pa<|pF (.bool false)<|ag (.bool false)<|Jd<|?_
    exact cl false () 0 [0] (by exact ⟨H60, trivial⟩)
  ·rintro x8 _ gg H34 _
   try dsimp only at H34
   try dsimp only
   revert H34
   refine ci x8 rfl (fun hb H35=>?_) fun hb H38=>?_
   ·refine Jk ?_
    revert H35
    refine ci x8 rfl (fun hb H36=>?_) fun hb H37=>?_
    ·refine Jc<|Ja<|ag (i6 1)<|Jd<|Jl<|?_
     obtain rfl := sj H36
     exact r1 (i6 1)
    ·refine Jk<|Jc<|Ja<|ag (i6 0)<|Jd<|Jl<|?_
     obtain rfl := sj H37
     exact r1 (i6 0)
   ·refine Qj (r := r) (σ := Bool) (τ := Unit) (fun s => Wg a0 s) (fun s t => [(1, .pointer (some ⟨b1, 0, none⟩)), (8, .bool s)]) (fun s t => [Jf b1 [i6 a0.Kind, str a0.Text, v0_2, v0_3, v0_4] 38]) (fun s t => True) ?_ ?_
    ·refine Ja<|lf runUnderlying38 rfl sizeOf3 rfl<|ll 0 (i6 a0.Kind) isAgg3<|?_
     obtain ⟨t21, h_t21, H55⟩ := Je H38; clear H38
     refine Yy (k166 h_t21) call166 rfl rfl rfl<|lv (Ja4 rfl)<|mv (.bool (!t21))<|?_
     revert H55
     refine sp (fun hb H56=>?_) fun hb H57=>?_
     ·refine lf runUnderlying38 rfl sizeOf9 rfl<|ll 0 (str a0.Text) isAgg9<|lv (Jea rfl rfl)<|pT (.bool (decide (a0.Text ≠ [])))<|ag (.bool (decide (a0.Text ≠ [])))<|Jd<|?_
      exact cl (decide (a0.Text ≠ [])) () 0 [0] (by exact ⟨H56, trivial⟩)
     ·refine pa<|pa<|pa<|pF (.bool false)<|ag (.bool false)<|Jd<|?_
      exact cl false () 0 [0] (by exact ⟨H57, trivial⟩)
    ·rintro x8_2 _ gg H39 _
     try dsimp only at H39
     try dsimp only
     revert H39
     refine ci x8_2 rfl (fun hb H40=>?_) fun hb H43=>?_
     ·refine Jk ?_
      revert H40
      refine ci x8_2 rfl (fun hb H41=>?_) fun hb H42=>?_
      ·refine Jc<|Ja<|ag (i6 1)<|Jd<|Jl<|?_
       obtain rfl := sj H41
       exact r1 (i6 1)
      ·refine Jk<|Jc<|Ja<|ag (i6 0)<|Jd<|Jl<|?_
       obtain rfl := sj H42
       exact r1 (i6 0)
     ·refine Qj (r := r) (σ := Bool) (τ := Unit) (fun s => Wk a0 s) (fun s t => [(1, .pointer (some ⟨b1, 0, none⟩)), (8, .bool s)]) (fun s t => [Jf b1 [i6 a0.Kind, str a0.Text, v0_2, v0_3, v0_4] 38]) (fun s t => True) ?_ ?_
      ·refine Ja<|lf runUnderlying38 rfl sizeOf3 rfl<|ll 0 (i6 a0.Kind) isAgg3<|lv (Yt rfl rfl)<|mv (.bool (decide (a0.Kind ≠ 5)))<|?_
       revert H43
       refine sp (fun hb H53=>?_) fun hb H54=>?_
       ·refine lf runUnderlying38 rfl sizeOf31 rfl<|ll 0 v0_3 isAgg31<|lv (Vy underlying31 rfl f0_3 rfl)<|lv (Yn rfl rfl)<|pT (.bool (decide (0 < (a0.Ratios.length : Int))))<|ag (.bool (decide (0 < (a0.Ratios.length : Int))))<|Jd<|?_
        exact cl (decide (0 < (a0.Ratios.length : Int))) () 0 [0] (by exact ⟨H53, trivial⟩)
       ·refine pa<|pa<|pa<|pa<|pF (.bool false)<|ag (.bool false)<|Jd<|?_
        exact cl false () 0 [0] (by exact ⟨H54, trivial⟩)
      ·rintro x8_3 _ gg H44 _
       try dsimp only at H44
       try dsimp only
       revert H44
       refine ci x8_3 rfl (fun hb H45=>?_) fun hb H48=>?_
       ·refine Jk ?_
        revert H45
        refine ci x8_3 rfl (fun hb H46=>?_) fun hb H47=>?_
        ·refine Jc<|Ja<|ag (i6 1)<|Jd<|Jl<|?_
         obtain rfl := sj H46
         exact r1 (i6 1)
        ·refine Jk<|Jc<|Ja<|ag (i6 0)<|Jd<|Jl<|?_
         obtain rfl := sj H47
         exact r1 (i6 0)
       ·refine Ja<|lf runUnderlying38 rfl sizeOf3 rfl<|ll 0 (i6 a0.Kind) isAgg3<|lv (Yt rfl rfl)<|mv (.bool (decide (a0.Kind ≠ 13)))<|?_
        revert H48
        refine sp (fun hb H49=>?_) fun hb H52=>?_
        ·refine lf runUnderlying38 rfl sizeOf36 rfl<|ll 0 v0_4 isAgg36<|lv (Xs underlying36 rfl f0_4)<|lv (Yn rfl rfl)<|pT (.bool (decide (0 < (a0.Entries.length : Int))))<|ag (.bool (decide (0 < (a0.Entries.length : Int))))<|Jd<|?_
         revert H49
         refine ci (decide (0 < (a0.Entries.length : Int))) rfl (fun hb H50=>?_) fun hb H51=>?_
         ·refine Jc<|Ja<|ag (i6 1)<|Jd<|Jl<|?_
          obtain rfl := sj H50
          exact r1 (i6 1)
         ·refine Jk<|Jc<|Ja<|ag (i6 0)<|Jd<|Jl<|?_
          obtain rfl := sj H51
          exact r1 (i6 0)
        ·refine pa<|pa<|pa<|pa<|pF (.bool false)<|ag (.bool false)<|Jd<|Uh rfl<|Jk<|Jc<|Ja<|ag (i6 0)<|Jd<|Jl<|?_
         obtain rfl := sj H52
         exact r1 (i6 0)
theorem k164 {a0 : Int} {r : Int × Int} (H : Jew a0 = some r) : Ret prog 164 [i6 a0] (.tuple #[i6 r.1, i6 r.2]) := by
 refine Yu (n := 11) func164 rfl rfl rfl (fun wd => ?_)
 refine Jc<|Ja<|ag (i6 0)<|ag (i6 0)<|Jd<|Jc<|Jc<|Ja<|mv (i6 a0)<|Jd<|Ju<|Jc<|Ja<|lv (Ql rfl rfl)<|ag (.bool (decide (a0 = 1)))<|Jd<|?_
 revert H
 refine ci (decide (a0 = 1)) rfl (fun hb H7=>?_) fun hb H8=>?_
 ·refine Jc<|Ja<|ag (i6 0)<|ag (i6 255)<|Jd<|Jl<|?_
  obtain rfl := sj H7
  refine Z7 (v1 := i6 0) (v2 := i6 255) rfl rfl rfl (fin rfl)
 ·refine Jc<|Ja<|lv (Ql rfl rfl)<|ag (.bool (decide (a0 = 3)))<|Jd<|?_
  revert H8
  refine ci (decide (a0 = 3)) rfl (fun hb H9=>?_) fun hb H10=>?_
  ·refine Jc<|Ja<|ag (i6 0)<|ag (i6 65535)<|Jd<|Jl<|?_
   obtain rfl := sj H9
   refine Z7 (v1 := i6 0) (v2 := i6 65535) rfl rfl rfl (fin rfl)
  ·refine Jc<|Ja<|lv (Ql rfl rfl)<|ag (.bool (decide (a0 = 9)))<|Jd<|?_
   revert H10
   refine ci (decide (a0 = 9)) rfl (fun hb H11=>?_) fun hb H12=>?_
   ·refine Jc<|Ja<|ag (i6 (-2147483648))<|ag (i6 2147483647)<|Jd<|Jl<|?_
    obtain rfl := sj H11
    refine Z7 (v1 := i6 (-2147483648)) (v2 := i6 2147483647) rfl rfl rfl (fin rfl)
   ·refine Jk<|Jc<|Ja<|ag (i6 0)<|ag (i6 4294967295)<|Jd<|Jl<|?_
    obtain rfl := sj H12
    refine Z7 (v1 := i6 0) (v2 := i6 4294967295) rfl rfl rfl (fin rfl)
theorem k105 {a0 : Tg} {v0_2 : Value} {v0_3 : Value} {v0_4 : Value} {r : Int} {w : World} {h : J3} (hw : Know h w Zo) (f0_2 : FrS h 1 v0_2 (a0.Ints.map Q1)) (f0_3 : FrS h 2 v0_3 (a0.Ratios.map Jn)) (f0_4 : FrN h 6 v0_4 g_tag_Entry a0.Entries) (H : Jb2 a0 = some r) : Does prog 105 (List.toArray [.agg #[i6 a0.Kind, str a0.Text, v0_2, v0_3, v0_4]]) w (fun v w' => v = (i6 r) ∧ Grow w w') := by
 refine enter (n := 65) func105 rfl rfl rfl Zo [] (Sat.nil _ _)<|Jc<|Ja<|?_
 refine Wj (cs := [i6 a0.Kind, str a0.Text, v0_2, v0_3, v0_4]) rfl rfl rfl rfl (fun b2 => ?_)
 refine ag (i6 0)<|Jd<|Jc<|Jc<|Ja<|Q4 (i := 0) (vs := [i6 a0.Kind, str a0.Text, v0_2, v0_3, v0_4]) isAgg38 sizeOf38 rfl rfl rfl rfl rfl<|?_
 obtain ⟨t12, h_t12, H35⟩ := Je H; clear H
 refine Qd (fun w hF hS => k106 (Jp w) (f0_2.mono (hw.now hF)) (f0_3.mono (hw.now hF)) (f0_4.mono (hw.now hF)) h_t12) call106 rfl rfl rfl<|ag (i6 t12)<|Jd<|Jc<|Ja<|mv (i6 t12)<|lv (Yt rfl rfl)<|Jd<|?_
 revert H35
 refine ci (decide (t12 ≠ 0)) rfl (fun hb H36=>?_) fun hb H37=>?_
 ·refine Jc<|Ja<|mv (i6 t12)<|ag (i6 t12)<|Jd<|Jl<|?_
  obtain rfl := sj H36
  exact r1 (i6 t12)
 ·refine Jk<|Jc<|Ja<|lf runUnderlying38 rfl sizeOf3 rfl<|ll 0 (i6 a0.Kind) isAgg3<|?_
  obtain ⟨t19, h_t19, H38⟩ := Je H37; clear H37
  refine Yy (k164 h_t19) call164 rfl rfl rfl<|mv (.tuple #[i6 t19.1, i6 t19.2])<|lv (Qb (v := i6 t19.1) rfl rfl)<|lv (Qb (v := i6 t19.2) rfl rfl)<|ag (i6 t19.1)<|ag (i6 t19.2)<|Jd<|?_
  refine Qj (r := r) (σ := Unit) (τ := Unit) (fun s => Wz a0) (fun s t => [(1, .pointer (some ⟨b2, 0, none⟩))]) (fun s t => [Jf b2 [i6 a0.Kind, str a0.Text, v0_2, v0_3, v0_4] 38]) (fun s t => True) ?_ ?_
  ·refine Jc<|Ja<|lf runUnderlying38 rfl sizeOf30 rfl<|ll 0 v0_2 isAgg30<|lv (Vy underlying30 rfl f0_2 rfl)<|mv (i6 0)<|Jd<|Ju<|?_
   refine Za (σ := Int) (τ := Unit) (fun next5 s => Yq a0 t19 next5 s) (fun s t => [(1, .pointer (some ⟨b2, 0, none⟩)), (4, i6 t19.1), (5, i6 t19.2), (23, v0_2), (24, i6 (a0.Ints.length : Int)), (25, i6 s)]) (fun s t => [Jf b2 [i6 a0.Kind, str a0.Text, v0_2, v0_3, v0_4] 38]) (fun s t => True) 0 () [0] H38 (by exact trivial) (by exact ⟨rfl, rfl, rfl, rfl, rfl, rfl, trivial⟩) (by decide) rfl ?_
   rintro x25_2 _ m5 gg H61 _
   clear H38
   try dsimp only at H61
   generalize hn5 : it (fun next5 s => Yq a0 t19 next5 s) m5 = next5 at H61
   try dsimp only
   refine Jc<|Ja<|lv (Xz rfl rfl)<|Jd<|Jc<|?_
   revert H61
   refine ci (decide (x25_2 < (a0.Ints.length : Int))) rfl (fun hb H62=>?_) fun hb H68=>?_
   ·refine Jk<|Jc<|Ju<|Jc<|Ja<|?_
    obtain ⟨t27, h_t27, H63⟩ := Je H62; clear H62
    refine lv (Xc underlying30 sizeOf3 rfl rfl f0_2 h_t27)<|Xi (fun w hF hS => Xo (f := Q1) (i := x25_2) (sz := 1) (j := 0) (v := i6 t27) isAgg3 rfl rfl (f0_2.row (hw.now hF)) h_t27 rfl) rfl rfl rfl<|ag (i6 t27)<|Jd<|Jc<|Ja<|mv (i6 t27)<|mv (i6 t19.1)<|mv (i6 t19.2)<|?_
    obtain ⟨t32, h_t32, H64⟩ := Je H63; clear H63
    refine Yy (k42 h_t32) call42 rfl rfl rfl<|Jd<|?_
    revert H64
    refine ci t32 rfl (fun hb H65=>?_) fun hb H66=>?_
    ·refine Jc<|Ja<|ag (i6 2)<|Jd<|Jl<|?_
     obtain rfl := sj H65
     exact r1 (i6 2)
    ·refine Jk<|Ja<|?_
     obtain ⟨t33, h_t33, H67⟩ := Je H66; clear H66
     refine lv (J1 rfl rfl h_t33)<|mv (i6 t33)<|Jd<|?_
     exact cl t33 () m5 [0] (by exact ⟨(by subst hn5; exact H67), trivial⟩)
   ·refine Xa ?_
    exact cl () () 0 [0] (by exact ⟨H68, trivial⟩)
  ·rintro _ _ gg H39 _
   try dsimp only at H39
   try dsimp only
   refine Qj (r := r) (σ := Unit) (τ := Unit) (fun s => W5 a0) (fun s t => [(1, .pointer (some ⟨b2, 0, none⟩))]) (fun s t => [Jf b2 [i6 a0.Kind, str a0.Text, v0_2, v0_3, v0_4] 38]) (fun s t => True) ?_ ?_
   ·refine Jc<|Ja<|lf runUnderlying38 rfl sizeOf31 rfl<|ll 0 v0_3 isAgg31<|lv (Vy underlying31 rfl f0_3 rfl)<|mv (i6 0)<|Jd<|Ju<|?_
    refine Za (σ := Int) (τ := Unit) (fun next4 s => Yr a0 next4 s) (fun s t => [(1, .pointer (some ⟨b2, 0, none⟩)), (35, v0_3), (36, i6 (a0.Ratios.length : Int)), (37, i6 s)]) (fun s t => [Jf b2 [i6 a0.Kind, str a0.Text, v0_2, v0_3, v0_4] 38]) (fun s t => True) 0 () [0] H39 (by exact trivial) (by exact ⟨rfl, rfl, rfl, rfl, trivial⟩) (by decide) rfl ?_
    rintro x37_2 _ m4 gg H50 _
    clear H39
    try dsimp only at H50
    generalize hn4 : it (fun next4 s => Yr a0 next4 s) m4 = next4 at H50
    try dsimp only
    refine Jc<|Ja<|lv (Xz rfl rfl)<|Jd<|Jc<|?_
    revert H50
    refine ci (decide (x37_2 < (a0.Ratios.length : Int))) rfl (fun hb H51=>?_) fun hb H60=>?_
    ·refine Jk<|Jc<|Ju<|Jc<|Ja<|?_
     obtain ⟨t39, h_t39, H52⟩ := Je H51; clear H51
     refine lv (Xc underlying31 sizeOf74 rfl rfl f0_3 h_t39)<|Xi (fun w hF hS => Yz (f := Jn) (i := x37_2) (sz := 2) (j := 0) (vs := [i6 t39.Num, i6 t39.Den]) isAgg74 sizeOf74 rfl rfl (f0_3.row (hw.now hF)) h_t39 rfl) rfl rfl rfl<|?_
     refine X1 (cs := [i6 0, i6 0]) zeroValue74 rfl rfl rfl (fun b3 => ?_)
     refine st (i := 1) [i6 t39.Num, i6 t39.Den] [i6 t39.Num, i6 t39.Den] sizeOf74 rfl rfl<|Jd<|Jc<|Ja<|lf runUnderlying74 rfl sizeOf3 rfl<|ll 1 (i6 t39.Num) isAgg3<|?_
     obtain ⟨t43, h_t43, H53⟩ := Je H52; clear H52
     refine Yy (k42 h_t43) call42 rfl rfl rfl<|mv (.bool t43)<|?_
     revert H53
     refine sp (fun hb H54=>?_) fun hb H55=>?_
     ·refine pa<|pa<|pa<|pT (.bool true)<|Jd<|Vj rfl<|Jc<|Ja<|ag (i6 2)<|Jd<|Jl<|?_
      obtain rfl := sj H54
      exact r1 (i6 2)
     ·refine lf runUnderlying74 rfl sizeOf3 rfl<|ll 1 (i6 t39.Den) isAgg3<|?_
      obtain ⟨t47, h_t47, H56⟩ := Je H55; clear H55
      refine Yy (k42 h_t47) call42 rfl rfl rfl<|pF (.bool t47)<|Jd<|?_
      revert H56
      refine ci t47 rfl (fun hb H57=>?_) fun hb H58=>?_
      ·refine Jc<|Ja<|ag (i6 2)<|Jd<|Jl<|?_
       obtain rfl := sj H57
       exact r1 (i6 2)
      ·refine Jk<|Ja<|?_
       obtain ⟨t49, h_t49, H59⟩ := Je H58; clear H58
       refine lv (J1 rfl rfl h_t49)<|mv (i6 t49)<|Jd<|?_
       exact cl t49 () m4 [0] (by exact ⟨(by subst hn4; exact H59), trivial⟩)
    ·refine Xa ?_
     exact cl () () 0 [0] (by exact ⟨H60, trivial⟩)
   ·rintro _ _ gg H40 _
    try dsimp only at H40
    try dsimp only
    refine Jc<|Jc<|Ja<|lf runUnderlying38 rfl sizeOf3 rfl<|ll 0 (i6 a0.Kind) isAgg3<|lv (Ql rfl rfl)<|Jd<|?_
    revert H40
    refine ci (decide (a0.Kind = 2)) rfl (fun hb H41=>?_) fun hb H49=>?_
    ·refine Jc<|Ja<|lf runUnderlying38 rfl sizeOf9 rfl<|ll 0 (str a0.Text) isAgg9<|lv (Xn underlying9 rfl)<|mv (i6 0)<|Jd<|Ju<|?_
     refine Za (σ := Int) (τ := Unit) (fun next3 s => Y6 a0 next3 s) (fun s t => [(1, .pointer (some ⟨b2, 0, none⟩)), (55, i6 (a0.Text.length : Int)), (56, i6 s)]) (fun s t => [Jf b2 [i6 a0.Kind, str a0.Text, v0_2, v0_3, v0_4] 38]) (fun s t => True) 0 () [0] H41 (by exact trivial) (by exact ⟨rfl, rfl, rfl, trivial⟩) (by decide) rfl ?_
     rintro x56_2 _ m3 gg H42 _
     clear H41
     try dsimp only at H42
     generalize hn3 : it (fun next3 s => Y6 a0 next3 s) m3 = next3 at H42
     try dsimp only
     refine Jc<|Ja<|lv (Xz rfl rfl)<|Jd<|Jc<|?_
     revert H42
     refine ci (decide (x56_2 < (a0.Text.length : Int))) rfl (fun hb H43=>?_) fun hb H48=>?_
     ·refine Jk<|Jc<|Ju<|Jc<|Ja<|mv (i6 x56_2)<|ag (i6 x56_2)<|Jd<|Jc<|Ja<|lf runUnderlying38 rfl sizeOf9 rfl<|ll 0 (str a0.Text) isAgg9<|mv (i6 x56_2)<|?_
      obtain ⟨t62, h_t62, H44⟩ := Je H43; clear H43
      refine lv (Jaf underlying9 rfl rfl h_t62)<|lv (Ql rfl rfl)<|Jd<|?_
      revert H44
      refine ci (decide (t62 = 0)) rfl (fun hb H45=>?_) fun hb H46=>?_
      ·refine Jc<|Ja<|ag (i6 9)<|Jd<|Jl<|?_
       obtain rfl := sj H45
       exact r1 (i6 9)
      ·refine Jk<|Ja<|?_
       obtain ⟨t64, h_t64, H47⟩ := Je H46; clear H46
       refine lv (J1 rfl rfl h_t64)<|mv (i6 t64)<|Jd<|?_
       exact cl t64 () m3 [0] (by exact ⟨(by subst hn3; exact H47), trivial⟩)
     ·refine Xa<|Jc<|Ja<|ag (i6 0)<|Jd<|Jl<|?_
      obtain rfl := sj H48
      exact r1 (i6 0)
    ·refine Jk<|Jc<|Ja<|ag (i6 0)<|Jd<|Jl<|?_
     obtain rfl := sj H49
     exact r1 (i6 0)
theorem k102_it (mm : Nat) : ∀ {a0 : (List Ta)} {v0 : Value} {a1 : Int} {r : Int} {w : World} {h : J3} (hw : Know h w Zo) (f0 : FrN h 6 v0 g_tag_Entry a0) (H : it (fun (self : ((List Ta) × Int) → Option (Int)) (s : (List Ta) × Int) => Y8 self s.1 s.2) mm (a0, a1) = some r), Does prog 102 (List.toArray [v0, i6 a1]) w (fun v w' => v = (i6 r) ∧ Grow w w') := by
 induction mm with
 | zero => intros; rename_i H; exact absurd H (by simp [it])
 | succ mm ih =>
  intro a0 v0 a1 r w h hw f0 H
  replace H : Y8 (it (fun (self : ((List Ta) × Int) → Option (Int)) (s : (List Ta) × Int) => Y8 self s.1 s.2) mm) a0 a1 = some r := H
  generalize it (fun (self : ((List Ta) × Int) → Option (Int)) (s : (List Ta) × Int) => Y8 self s.1 s.2) mm = self at H ih
  refine enter (n := 62) func102 rfl rfl rfl Zo [] (Sat.nil _ _)<|Jc<|Ja<|ag (i6 0)<|Jd<|Jc<|Jc<|Ja<|mv (i6 a1)<|lv (Yn rfl rfl)<|mv (.bool (decide (5 < a1)))<|?_
  revert H
  refine sp (fun hb H31=>?_) fun hb H32=>?_
  ·refine pa<|pa<|pa<|pT (.bool true)<|Jd<|Vj rfl<|Jc<|Ja<|ag (i6 4)<|Jd<|Jl<|?_
   obtain rfl := sj H31
   exact r1 (i6 4)
  ·refine mv v0<|lv (Xs underlying36 rfl f0)<|lv (Yn rfl rfl)<|pF (.bool (decide (200 < (a0.length : Int))))<|Jd<|?_
   revert H32
   refine ci (decide (200 < (a0.length : Int))) rfl (fun hb H33=>?_) fun hb H34=>?_
   ·refine Jc<|Ja<|ag (i6 4)<|Jd<|Jl<|?_
    obtain rfl := sj H33
    exact r1 (i6 4)
   ·refine Jk<|Jc<|Jc<|Ja<|mv v0<|lv (Xs underlying36 rfl f0)<|mv (i6 0)<|Jd<|Ju<|?_
    refine Za (σ := Int) (τ := Unit) (fun next1 s => U5 a0 a1 self next1 s) (fun s t => [(0, v0), (1, i6 a1), (15, v0), (16, i6 (a0.length : Int)), (17, i6 s)]) (fun s t => []) (fun s t => True) 0 () [] H34 (by exact trivial) (by exact ⟨rfl, rfl, rfl, rfl, rfl, trivial⟩) (by decide) rfl ?_
    rintro x17_2 _ m1 gg H35 _
    clear H34
    try dsimp only at H35
    generalize hn1 : it (fun next1 s => U5 a0 a1 self next1 s) m1 = next1 at H35
    try dsimp only
    refine Jc<|Ja<|lv (Xz rfl rfl)<|Jd<|Jc<|?_
    revert H35
    refine ci (decide (x17_2 < (a0.length : Int))) rfl (fun hb H36=>?_) fun hb H60=>?_
    ·refine Jk<|Jc<|Ju<|Jc<|Ja<|mv (i6 x17_2)<|?_
     obtain ⟨t20, h_t20, H37⟩ := Je H36; clear H36
     refine lv (Xc underlying36 sizeOf83 rfl rfl f0.frs (f0.ix h_t20))<|Xi (fun w hF hS => Yz (f := (elC h v0 6)) (i := x17_2) (sz := 6) (j := 0) (vs := [i6 t20.Tag, i6 t20.Value.Kind, str t20.Value.Text, (Qz h v0 6 (Int.toNat x17_2) 3), (Qz h v0 6 (Int.toNat x17_2) 4), (Qz h v0 6 (Int.toNat x17_2) 5)]) isAgg83 sizeOf83 rfl rfl (f0.frs.row (hw.now hF)) (f0.ix h_t20) (Jfp (Zi (f0.at h_t20)) rfl)) rfl rfl rfl<|?_
     refine X1 (cs := [i6 0, i6 0, str [], .slice none 0 0, .slice none 0 0, .slice none 0 0]) zeroValue83 rfl rfl rfl (fun b1 => ?_)
     refine ag (i6 x17_2)<|Jck (i := 0) (vs := [i6 t20.Tag, i6 t20.Value.Kind, str t20.Value.Text, (Qz h v0 6 (Int.toNat x17_2) 3), (Qz h v0 6 (Int.toNat x17_2) 4), (Qz h v0 6 (Int.toNat x17_2) 5)]) (cs' := [i6 t20.Tag, i6 t20.Value.Kind, str t20.Value.Text, (Qz h v0 6 (Int.toNat x17_2) 3), (Qz h v0 6 (Int.toNat x17_2) 4), (Qz h v0 6 (Int.toNat x17_2) 5)]) sizeOf83 rfl rfl rfl rfl rfl rfl (by simp only [List.all_cons, List.all_nil, (show FrN h 6 (Qz h v0 6 (Int.toNat x17_2) 5) g_tag_Entry t20.Value.Entries from (Qc (Jj (f0.at h_t20)))).one, (show FrS h 1 (Qz h v0 6 (Int.toNat x17_2) 3) (t20.Value.Ints.map Q1) from (Qo (Jj (f0.at h_t20)))).one, (show FrS h 2 (Qz h v0 6 (Int.toNat x17_2) 4) (t20.Value.Ratios.map Jn) from (Qn (Jj (f0.at h_t20)))).one] <;> rfl) rfl rfl<|Jd<|?_
     refine Qj (r := r) (σ := Unit) (τ := Unit) (fun s => Jbm a1 self x17_2 next1 t20) (fun s t => [(0, v0), (1, i6 a1), (6, .pointer (some ⟨b1, 0, none⟩)), (15, v0), (16, i6 (a0.length : Int)), (17, i6 x17_2)]) (fun s t => [Jf b1 [i6 t20.Tag, i6 t20.Value.Kind, str t20.Value.Text, (Qz h v0 6 (Int.toNat x17_2) 3), (Qz h v0 6 (Int.toNat x17_2) 4), (Qz h v0 6 (Int.toNat x17_2) 5)] 83]) (fun s t => True) ?_ ?_
     ·refine Ju<|Jc<|Ja<|lf runUnderlying83 rfl sizeOf3 rfl<|ll 0 (i6 t20.Tag) isAgg3<|?_
      obtain ⟨t25, h_t25, H51⟩ := Je H37; clear H37
      refine Yy (k42 h_t25) call42 rfl rfl rfl<|ag (.bool t25)<|Jd<|?_
      revert H51
      refine ci t25 rfl (fun hb H52=>?_) fun hb H53=>?_
      ·refine Jc<|Ja<|ag (i6 2)<|Jd<|Jl<|?_
       obtain rfl := sj H52
       exact r1 (i6 2)
      ·refine Jc ?_
       exact Qx (Kd.p :: Kd.p :: Kd.p :: Kd.p :: Kd.d [0] _ :: Kd.p :: Kd.p :: Kd.p :: Kd.p :: Kd.p :: Kd.d [] _ :: Kd.p :: Kd.p :: Kd.p :: []) 0 mixed (by
        refine dm (i6 x17_2)<|dv (Yn rfl rfl)<|dm (.bool (decide (0 < x17_2)))<|?_
        refine Jdv (fun hb => ?_) (fun hb => ?_)
        ·have H54 := Jec hb H53
         refine dv (J8 runUnderlying83 rfl sizeOf3 rfl rfl)<|dl (i6 t20.Tag) isAgg3<|dm v0<|dm (i6 x17_2)<|?_
         have h_t34 := Jy H54
         have H55 := Jq H54
         refine dv (Zf rfl rfl h_t34) ?_
         have h_t35 := Jy H55
         have H56 := Jq H55
         refine dv (Xc underlying36 sizeOf83 rfl rfl f0.frs (f0.ix h_t35))<|dv (Jdl runUnderlying83 rfl sizeOf3 rfl rfl (Jer f0.frs (f0.ix h_t35)))<|Jcy (fun w hF => Xo (f := (elC h v0 6)) (i := (val (gI (x17_2 - 1)))) (sz := 6) (j := 0) (v := i6 (val (Zu a0 (val (gI (x17_2 - 1))))).Tag) isAgg3 rfl rfl (f0.frs.row (hw.now hF)) (f0.ix h_t35) (Jei (Zi (f0.at h_t35)) rfl)) rfl rfl<|dv (Jfo rfl rfl)<|dv (Wq (v := .bool (decide (t20.Tag ≤ (val (Zu a0 (val (gI (x17_2 - 1))))).Tag))) rfl rfl)<|Vf rfl rfl (Xd (v := .bool (decide (t20.Tag ≤ (val (Zu a0 (val (gI (x17_2 - 1))))).Tag))) rfl)<|Yw<|?_
         revert H56
         refine ci (decide (t20.Tag ≤ (val (Zu a0 (val (gI (x17_2 - 1))))).Tag)) rfl (fun hb H57=>?_) fun hb H58=>?_
         ·refine Jc<|Ja<|ag (i6 5)<|Jd<|Jl<|?_
          obtain rfl := sj H57
          exact r1 (i6 5)
         ·refine Jk ?_
          exact cl () () 0 [0] (by exact ⟨H58, trivial⟩)
        ·have H59 := Jed hb H53
         refine dp<|dp<|dp<|dp<|dp<|dp<|dp<|dp<|dp<|dv (Jbk (v := .bool false) rfl rfl)<|Vf rfl rfl (Xd (v := .bool false) rfl)<|Yw<|Uh rfl<|Jk<|?_
         exact cl () () 0 [0] (by exact ⟨H59, trivial⟩)
        ) (by kernel_rfl)
     ·rintro _ _ gg H38 _
      try dsimp only at H38
      try dsimp only
      refine Jc<|Ja<|ag (i6 0)<|Jd<|?_
      refine Qj (r := r) (σ := Int) (τ := Unit) (fun s => Wx x17_2 next1 s) (fun s t => [(0, v0), (1, i6 a1), (7, i6 s), (15, v0), (16, i6 (a0.length : Int)), (17, i6 x17_2)]) (fun s t => []) (fun s t => True) ?_ ?_
      ·refine Jc<|Ja<|lf runUnderlying83 rfl sizeOf38 rfl<|lf runUnderlying38 rfl sizeOf3 rfl<|ll 0 (i6 t20.Value.Kind) isAgg3<|lv (Yt rfl rfl)<|Jd<|?_
       revert H38
       refine ci (decide (t20.Value.Kind ≠ 13)) rfl (fun hb H43=>?_) fun hb H45=>?_
       ·refine Ja<|lf runUnderlying83 rfl sizeOf38 rfl<|Q4 (i := 0) (vs := [i6 t20.Value.Kind, str t20.Value.Text, (Qz h v0 6 (Int.toNat x17_2) 3), (Qz h v0 6 (Int.toNat x17_2) 4), (Qz h v0 6 (Int.toNat x17_2) 5)]) isAgg38 sizeOf38 rfl rfl rfl rfl rfl<|?_
        obtain ⟨t46, h_t46, H44⟩ := Je H43; clear H43
        refine Qd (fun w hF hS => k105 (Jp w) ((show FrS h 1 (Qz h v0 6 (Int.toNat x17_2) 3) (t20.Value.Ints.map Q1) from (Qo (Jj (f0.at h_t20)))).mono (hw.now hF)) ((show FrS h 2 (Qz h v0 6 (Int.toNat x17_2) 4) (t20.Value.Ratios.map Jn) from (Qn (Jj (f0.at h_t20)))).mono (hw.now hF)) ((show FrN h 6 (Qz h v0 6 (Int.toNat x17_2) 5) g_tag_Entry t20.Value.Entries from (Qc (Jj (f0.at h_t20)))).mono (hw.now hF)) h_t46) call105 rfl rfl rfl<|ag (i6 t46)<|Jd<|?_
        exact cl t46 () 0 [] (by exact ⟨H44, trivial⟩)
       ·refine Jc<|Ja<|lf runUnderlying83 rfl sizeOf38 rfl<|Q4 (i := 0) (vs := [i6 t20.Value.Kind, str t20.Value.Text, (Qz h v0 6 (Int.toNat x17_2) 3), (Qz h v0 6 (Int.toNat x17_2) 4), (Qz h v0 6 (Int.toNat x17_2) 5)]) isAgg38 sizeOf38 rfl rfl rfl rfl rfl<|?_
        obtain ⟨t49, h_t49, H46⟩ := Je H45; clear H45
        refine Qd (fun w hF hS => k106 (Jp w) ((show FrS h 1 (Qz h v0 6 (Int.toNat x17_2) 3) (t20.Value.Ints.map Q1) from (Qo (Jj (f0.at h_t20)))).mono (hw.now hF)) ((show FrS h 2 (Qz h v0 6 (Int.toNat x17_2) 4) (t20.Value.Ratios.map Jn) from (Qn (Jj (f0.at h_t20)))).mono (hw.now hF)) ((show FrN h 6 (Qz h v0 6 (Int.toNat x17_2) 5) g_tag_Entry t20.Value.Entries from (Qc (Jj (f0.at h_t20)))).mono (hw.now hF)) h_t49) call106 rfl rfl rfl<|ag (i6 t49)<|Jd<|Jc<|Ja<|mv (i6 t49)<|lv (Ql rfl rfl)<|Jd<|?_
        revert H46
        refine ci (decide (t49 = 0)) rfl (fun hb H47=>?_) fun hb H50=>?_
        ·refine Ja<|lf runUnderlying83 rfl sizeOf38 rfl<|lf runUnderlying38 rfl sizeOf36 rfl<|ll 0 (Qz h v0 6 (Int.toNat x17_2) 5) isAgg36<|mv (i6 a1)<|?_
         obtain ⟨t56, h_t56, H48⟩ := Je H47; clear H47
         refine lv (J1 rfl rfl h_t56) ?_
         obtain ⟨t57, h_t57, H49⟩ := Je H48; clear H48
         refine Qd (fun w hF hS => ih (Jp w) ((show FrN h 6 (Qz h v0 6 (Int.toNat x17_2) 5) g_tag_Entry t20.Value.Entries from (Qc (Jj (f0.at h_t20)))).mono (hw.now hF)) h_t57) call102 rfl rfl rfl<|ag (i6 t57)<|Jd<|?_
         exact cl t57 () 0 [] (by exact ⟨H49, trivial⟩)
        ·refine Jk ?_
         exact cl t49 () 0 [] (by exact ⟨H50, trivial⟩)
      ·rintro x7 _ gg H39 _
       try dsimp only at H39
       try dsimp only
       refine Jc<|Ja<|mv (i6 x7)<|lv (Yt rfl rfl)<|Jd<|?_
       revert H39
       refine ci (decide (x7 ≠ 0)) rfl (fun hb H40=>?_) fun hb H41=>?_
       ·refine Jc<|Ja<|mv (i6 x7)<|ag (i6 x7)<|Jd<|Jl<|?_
        obtain rfl := sj H40
        exact r1 (i6 x7)
       ·refine Jk<|Ja<|?_
        obtain ⟨t61, h_t61, H42⟩ := Je H41; clear H41
        refine lv (J1 rfl rfl h_t61)<|mv (i6 t61)<|Jd<|?_
        exact cl t61 () m1 [] (by exact ⟨(by subst hn1; exact H42), trivial⟩)
    ·refine Xa<|Jc<|Ja<|ag (i6 0)<|Jd<|Jl<|?_
     obtain rfl := sj H60
     exact r1 (i6 0)
theorem k102 {a0 : (List Ta)} {v0 : Value} {a1 : Int} {r : Int} {w : World} {h : J3} (hw : Know h w Zo) (f0 : FrN h 6 v0 g_tag_Entry a0) (H : Jc9 a0 a1 = some r) : Does prog 102 (List.toArray [v0, i6 a1]) w (fun v w' => v = (i6 r) ∧ Grow w w') := by
 obtain ⟨mm, hm⟩ := Je1 (show Zs (fun (self : ((List Ta) × Int) → Option (Int)) (s : (List Ta) × Int) => Y8 self s.1 s.2) (a0, a1) = some r from H)
 exact k102_it mm hw f0 hm
theorem k75 {a0 : Tg} {v0_2 : Value} {v0_3 : Value} {v0_4 : Value} {r : Int} {w : World} {h : J3} (hw : Know h w Zo) (f0_2 : FrS h 1 v0_2 (a0.Ints.map Q1)) (f0_3 : FrS h 2 v0_3 (a0.Ratios.map Jn)) (f0_4 : FrN h 6 v0_4 g_tag_Entry a0.Entries) (H : Ys a0 = some r) : Does prog 75 (List.toArray [.agg #[i6 a0.Kind, str a0.Text, v0_2, v0_3, v0_4]]) w (fun v w' => v = (i6 r) ∧ Grow w w') := by
 refine enter (n := 26) func75 rfl rfl rfl Zo [] (Sat.nil _ _)<|Jc<|Ja<|?_
 refine Wj (cs := [i6 a0.Kind, str a0.Text, v0_2, v0_3, v0_4]) rfl rfl rfl rfl (fun b1 => ?_)
 refine ag (i6 0)<|Jd<|Jc<|Jc<|Ja<|lf runUnderlying38 rfl sizeOf3 rfl<|ll 0 (i6 a0.Kind) isAgg3<|Jd<|Ju<|Jc<|Ja<|lv (Ql rfl rfl)<|ag (.bool (decide (a0.Kind = 2)))<|Jd<|?_
 revert H
 refine ci (decide (a0.Kind = 2)) rfl (fun hb H10=>?_) fun hb H12=>?_
 ·refine Jc<|Ja<|lf runUnderlying38 rfl sizeOf9 rfl<|ll 0 (str a0.Text) isAgg9<|lv (Xn underlying9 rfl)<|?_
  obtain ⟨t10, h_t10, H11⟩ := Je H10; clear H10
  refine lv (J1 rfl rfl h_t10)<|ag (i6 t10)<|Jd<|Jl<|?_
  obtain rfl := sj H11
  exact r1 (i6 t10)
 ·refine Jc<|Ja<|lv (Ql rfl rfl)<|ag (.bool (decide (a0.Kind = 7)))<|Jd<|?_
  revert H12
  refine ci (decide (a0.Kind = 7)) rfl (fun hb H13=>?_) fun hb H14=>?_
  ·refine Jc<|Ja<|lf runUnderlying38 rfl sizeOf9 rfl<|ll 0 (str a0.Text) isAgg9<|lv (Xn underlying9 rfl)<|ag (i6 (a0.Text.length : Int))<|Jd<|Jl<|?_
   obtain rfl := sj H13
   exact r1 (i6 (a0.Text.length : Int))
  ·refine Jc<|Ja<|lv (Ql rfl rfl)<|ag (.bool (decide (a0.Kind = 5)))<|Jd<|?_
   revert H14
   refine ci (decide (a0.Kind = 5)) rfl (fun hb H15=>?_) fun hb H16=>?_
   ·refine Jc<|Ja<|lf runUnderlying38 rfl sizeOf31 rfl<|ll 0 v0_3 isAgg31<|lv (Vy underlying31 rfl f0_3 rfl)<|ag (i6 (a0.Ratios.length : Int))<|Jd<|Jl<|?_
    obtain rfl := sj H15
    exact r1 (i6 (a0.Ratios.length : Int))
   ·refine Jc<|Ja<|lv (Ql rfl rfl)<|ag (.bool (decide (a0.Kind = 13)))<|Jd<|?_
    revert H16
    refine ci (decide (a0.Kind = 13)) rfl (fun hb H17=>?_) fun hb H18=>?_
    ·refine Jc<|Ja<|ag (i6 1)<|Jd<|Jl<|?_
     obtain rfl := sj H17
     exact r1 (i6 1)
    ·refine Jk<|Jc<|Ja<|lf runUnderlying38 rfl sizeOf30 rfl<|ll 0 v0_2 isAgg30<|lv (Vy underlying30 rfl f0_2 rfl)<|ag (i6 (a0.Ints.length : Int))<|Jd<|Jl<|?_
     obtain rfl := sj H18
     exact r1 (i6 (a0.Ints.length : Int))
theorem k76 {a0 : Tg} {v0_2 : Value} {v0_3 : Value} {v0_4 : Value} {r : Int} {w : World} {h : J3} (hw : Know h w Zo) (f0_2 : FrS h 1 v0_2 (a0.Ints.map Q1)) (f0_3 : FrS h 2 v0_3 (a0.Ratios.map Jn)) (f0_4 : FrN h 6 v0_4 g_tag_Entry a0.Entries) (H : U0 a0 = some r) : Does prog 76 (List.toArray [.agg #[i6 a0.Kind, str a0.Text, v0_2, v0_3, v0_4]]) w (fun v w' => v = (i6 r) ∧ Grow w w') := by
 refine enter (n := 9) func76 rfl rfl rfl Zo [] (Sat.nil _ _)<|Jc<|Ja<|?_
 refine Wj (cs := [i6 a0.Kind, str a0.Text, v0_2, v0_3, v0_4]) rfl rfl rfl rfl (fun b1 => ?_)
 refine ag (i6 0)<|Jd<|Jc<|?_
 exact Qx (Kd.d [0] _ :: Kd.d [] _ :: Kd.p :: Kd.d [0] _ :: Kd.d [] _ :: Kd.p :: Kd.p :: []) 0 mixed (by
  refine Jdy (i := 0) (vs := [i6 a0.Kind, str a0.Text, v0_2, v0_3, v0_4]) isAgg38 sizeOf38 rfl rfl rfl rfl ?_
  have h_t4 := Jy H
  have H4 := Jq H
  refine Jd5 (fun w L' hF hS hi => k75 (Jp w) (f0_2.mono (hw.now hF)) (f0_3.mono (hw.now hF)) (f0_4.mono (hw.now hF)) h_t4) call75 rfl rfl<|dv (J8 runUnderlying38 rfl sizeOf3 rfl rfl)<|dl (i6 a0.Kind) isAgg3<|?_
  have h_t7 := Jy H4
  have H5 := Jq H4
  refine Jca (k139 h_t7) call139 rfl rfl ?_
  have h_t8 := Jy H5
  have H6 := Jq H5
  refine dv (Wu rfl rfl h_t8)<|Vf rfl rfl (Xd (v := i6 (val (gI ((val (Ys a0)) * (val (Z8 a0.Kind)))))) rfl)<|Yw<|Jl<|?_
  obtain rfl := sj H6
  exact r1 (i6 (val (gI ((val (Ys a0)) * (val (Z8 a0.Kind))))))
  ) (by kernel_rfl)
theorem k204 {a0 : Int} {r : Int} (H : Jdu a0 = some r) : Ret prog 204 [i6 a0] (i6 r) := by
 refine Yu (n := 7) func204 rfl rfl rfl (fun wd => ?_)
 refine Jc<|Ja<|ag (i6 0)<|Jd<|Jc<|Ja<|mv (i6 a0)<|mv (i6 a0)<|?_
 obtain ⟨t5, h_t5, H3⟩ := Je H; clear H
 refine lv (r_remG rfl rfl h_t5) ?_
 obtain ⟨t6, h_t6, H4⟩ := Je H3; clear H3
 refine lv (J1 rfl rfl h_t6)<|ag (i6 t6)<|Jd<|Jl<|?_
 obtain rfl := sj H4
 exact r1 (i6 t6)
theorem k163_it (mm : Nat) : ∀ {a0 : (List Ta)} {v0 : Value} {a1 : Int} {r : Int} {w : World} {h : J3} (hw : Know h w Zo) (f0 : FrN h 6 v0 g_tag_Entry a0) (H : it (fun (self : ((List Ta) × Int) → Option (Int)) (s : (List Ta) × Int) => Z2 self s.1 s.2) mm (a0, a1) = some r), Does prog 163 (List.toArray [v0, i6 a1]) w (fun v w' => v = (i6 r) ∧ Grow w w') := by
 induction mm with
 | zero => intros; rename_i H; exact absurd H (by simp [it])
 | succ mm ih =>
  intro a0 v0 a1 r w h hw f0 H
  replace H : Z2 (it (fun (self : ((List Ta) × Int) → Option (Int)) (s : (List Ta) × Int) => Z2 self s.1 s.2) mm) a0 a1 = some r := H
  generalize it (fun (self : ((List Ta) × Int) → Option (Int)) (s : (List Ta) × Int) => Z2 self s.1 s.2) mm = self at H ih
  refine enter (n := 44) func163 rfl rfl rfl Zo [] (Sat.nil _ _)<|Jc<|Ja<|ag (i6 0)<|Jd<|Jc<|Ja<|mv (i6 a1)<|?_
  obtain ⟨t8, h_t8, H21⟩ := Je H; clear H
  refine Yy (k204 h_t8) call204 rfl rfl rfl ?_
  obtain ⟨t9, h_t9, H22⟩ := Je H21; clear H21
  refine lv (J1 rfl rfl h_t9)<|mv v0<|lv (Xs underlying36 rfl f0)<|?_
  obtain ⟨t12, h_t12, H23⟩ := Je H22; clear H22
  refine lv (Wu rfl rfl h_t12) ?_
  obtain ⟨t13, h_t13, H24⟩ := Je H23; clear H23
  refine lv (J1 rfl rfl h_t13) ?_
  obtain ⟨t14, h_t14, H25⟩ := Je H24; clear H24
  refine lv (J1 rfl rfl h_t14)<|ag (i6 t14)<|Jd<|Jc<|Jc<|Ja<|mv v0<|lv (Xs underlying36 rfl f0)<|mv (i6 0)<|Jd<|Ju<|?_
  refine Za (σ := Int × Int) (τ := Unit) (fun next1 s => V4 a0 self next1 s.1 s.2) (fun s t => [(1, i6 s.1), (15, v0), (16, i6 (a0.length : Int)), (17, i6 s.2)]) (fun s t => []) (fun s t => True) (t14, 0) () [] H25 (by exact trivial) (by exact ⟨rfl, rfl, rfl, rfl, trivial⟩) (by decide) rfl ?_
  rintro ⟨x1_2, x17_2⟩ _ m1 gg H26 _
  clear H25
  try dsimp only at H26
  generalize hn1 : it (fun next1 s => V4 a0 self next1 s.1 s.2) m1 = next1 at H26
  try dsimp only
  refine Jc<|Ja<|lv (Xz rfl rfl)<|Jd<|Jc<|?_
  revert H26
  refine ci (decide (x17_2 < (a0.length : Int))) rfl (fun hb H27=>?_) fun hb H40=>?_
  ·refine Jk ?_
   refine Qj (r := r) (σ := Int) (τ := Unit) (fun s => Jad x17_2 next1 s) (fun s t => [(1, i6 s), (15, v0), (16, i6 (a0.length : Int)), (17, i6 x17_2)]) (fun s t => []) (fun s t => True) ?_ ?_
   ·refine Ju<|Jc<|Ja<|?_
    obtain ⟨t19, h_t19, H30⟩ := Je H27; clear H27
    refine lv (Xc underlying36 sizeOf83 rfl rfl f0.frs (f0.ix h_t19))<|Xi (fun w hF hS => Yz (f := (elC h v0 6)) (i := x17_2) (sz := 6) (j := 0) (vs := [i6 t19.Tag, i6 t19.Value.Kind, str t19.Value.Text, (Qz h v0 6 (Int.toNat x17_2) 3), (Qz h v0 6 (Int.toNat x17_2) 4), (Qz h v0 6 (Int.toNat x17_2) 5)]) isAgg83 sizeOf83 rfl rfl (f0.frs.row (hw.now hF)) (f0.ix h_t19) (Jfp (Zi (f0.at h_t19)) rfl)) rfl rfl rfl<|?_
    refine X1 (cs := [i6 0, i6 0, str [], .slice none 0 0, .slice none 0 0, .slice none 0 0]) zeroValue83 rfl rfl rfl (fun b1 => ?_)
    refine Jck (i := 0) (vs := [i6 t19.Tag, i6 t19.Value.Kind, str t19.Value.Text, (Qz h v0 6 (Int.toNat x17_2) 3), (Qz h v0 6 (Int.toNat x17_2) 4), (Qz h v0 6 (Int.toNat x17_2) 5)]) (cs' := [i6 t19.Tag, i6 t19.Value.Kind, str t19.Value.Text, (Qz h v0 6 (Int.toNat x17_2) 3), (Qz h v0 6 (Int.toNat x17_2) 4), (Qz h v0 6 (Int.toNat x17_2) 5)]) sizeOf83 rfl rfl rfl rfl rfl rfl (by simp only [List.all_cons, List.all_nil, (show FrN h 6 (Qz h v0 6 (Int.toNat x17_2) 5) g_tag_Entry t19.Value.Entries from (Qc (Jj (f0.at h_t19)))).one, (show FrS h 1 (Qz h v0 6 (Int.toNat x17_2) 3) (t19.Value.Ints.map Q1) from (Qo (Jj (f0.at h_t19)))).one, (show FrS h 2 (Qz h v0 6 (Int.toNat x17_2) 4) (t19.Value.Ratios.map Jn) from (Qn (Jj (f0.at h_t19)))).one] <;> rfl) rfl rfl<|Jd<|Ju<|Jc<|Ja<|lf runUnderlying83 rfl sizeOf38 rfl<|lf runUnderlying38 rfl sizeOf3 rfl<|ll 0 (i6 t19.Value.Kind) isAgg3<|lv (Ql rfl rfl)<|ag (.bool (decide (t19.Value.Kind = 13)))<|Jd<|?_
    revert H30
    refine ci (decide (t19.Value.Kind = 13)) rfl (fun hb H31=>?_) fun hb H33=>?_
    ·refine Ja<|lf runUnderlying83 rfl sizeOf38 rfl<|lf runUnderlying38 rfl sizeOf36 rfl<|ll 0 (Qz h v0 6 (Int.toNat x17_2) 5) isAgg36<|mv (i6 x1_2)<|?_
     obtain ⟨t30, h_t30, H32⟩ := Je H31; clear H31
     refine Qd (fun w hF hS => ih (Jp w) ((show FrN h 6 (Qz h v0 6 (Int.toNat x17_2) 5) g_tag_Entry t19.Value.Entries from (Qc (Jj (f0.at h_t19)))).mono (hw.now hF)) h_t30) call163 rfl rfl rfl<|ag (i6 t30)<|Jd<|?_
     exact cl t30 () 0 [] (by exact ⟨H32, trivial⟩)
    ·refine Jc<|Ja<|lf runUnderlying83 rfl sizeOf38 rfl<|Q4 (i := 0) (vs := [i6 t19.Value.Kind, str t19.Value.Text, (Qz h v0 6 (Int.toNat x17_2) 3), (Qz h v0 6 (Int.toNat x17_2) 4), (Qz h v0 6 (Int.toNat x17_2) 5)]) isAgg38 sizeOf38 rfl rfl rfl rfl rfl<|?_
     obtain ⟨t34, h_t34, H34⟩ := Je H33; clear H33
     refine Qd (fun w hF hS => k76 (Jp w) ((show FrS h 1 (Qz h v0 6 (Int.toNat x17_2) 3) (t19.Value.Ints.map Q1) from (Qo (Jj (f0.at h_t19)))).mono (hw.now hF)) ((show FrS h 2 (Qz h v0 6 (Int.toNat x17_2) 4) (t19.Value.Ratios.map Jn) from (Qn (Jj (f0.at h_t19)))).mono (hw.now hF)) ((show FrN h 6 (Qz h v0 6 (Int.toNat x17_2) 5) g_tag_Entry t19.Value.Entries from (Qc (Jj (f0.at h_t19)))).mono (hw.now hF)) h_t34) call76 rfl rfl rfl<|lv (Yn rfl rfl)<|ag (.bool (decide (4 < t34)))<|Jd<|?_
     revert H34
     refine ci (decide (4 < t34)) rfl (fun hb H35=>?_) fun hb H39=>?_
     ·exact Qx (Kd.p :: Kd.d [] _ :: Kd.p :: Kd.d [0] _ :: Kd.d [] _ :: Kd.p :: Kd.p :: []) 0 mixed (by
       refine dm (i6 x1_2) ?_
       have h_t37 := Jy H35
       have H36 := Jq H35
       refine Jca (k204 h_t37) call204 rfl rfl<|dv (J8 runUnderlying83 rfl sizeOf38 rfl rfl)<|Jdy (i := 0) (vs := [i6 t19.Value.Kind, str t19.Value.Text, (Qz h v0 6 (Int.toNat x17_2) 3), (Qz h v0 6 (Int.toNat x17_2) 4), (Qz h v0 6 (Int.toNat x17_2) 5)]) isAgg38 sizeOf38 rfl rfl rfl rfl<|?_
       have h_t40 := Jy H36
       have H37 := Jq H36
       refine Jd5 (fun w L' hF hS hi => k76 (Jp w) ((show FrS h 1 (Qz h v0 6 (Int.toNat x17_2) 3) (t19.Value.Ints.map Q1) from (Qo (Jj (f0.at h_t19)))).mono (hw.now hF)) ((show FrS h 2 (Qz h v0 6 (Int.toNat x17_2) 4) (t19.Value.Ratios.map Jn) from (Qn (Jj (f0.at h_t19)))).mono (hw.now hF)) ((show FrN h 6 (Qz h v0 6 (Int.toNat x17_2) 5) g_tag_Entry t19.Value.Entries from (Qc (Jj (f0.at h_t19)))).mono (hw.now hF)) h_t40) call76 rfl rfl ?_
       have h_t41 := Jy H37
       have H38 := Jq H37
       refine dv (J1 rfl rfl h_t41)<|Vf rfl rfl (Xd (v := i6 (val (gI ((val (Jdu x1_2)) + (val (U0 t19.Value)))))) rfl)<|Yw<|?_
       exact cl (val (gI ((val (Jdu x1_2)) + (val (U0 t19.Value))))) () 0 [] (by exact ⟨H38, trivial⟩)
       ) (by kernel_rfl)
     ·refine Jk ?_
      exact cl x1_2 () 0 [] (by exact ⟨H39, trivial⟩)
   ·rintro x1_3 _ gg H28 _
    try dsimp only at H28
    try dsimp only
    refine Ja ?_
    obtain ⟨t42, h_t42, H29⟩ := Je H28; clear H28
    refine lv (J1 rfl rfl h_t42)<|mv (i6 t42)<|Jd<|?_
    exact cl (x1_3, t42) () m1 [] (by exact ⟨(by subst hn1; exact H29), trivial⟩)
  ·refine Xa<|Jc<|Ja<|mv (i6 x1_2)<|ag (i6 x1_2)<|Jd<|Jl<|?_
   obtain rfl := sj H40
   exact r1 (i6 x1_2)
theorem k163 {a0 : (List Ta)} {v0 : Value} {a1 : Int} {r : Int} {w : World} {h : J3} (hw : Know h w Zo) (f0 : FrN h 6 v0 g_tag_Entry a0) (H : Jex a0 a1 = some r) : Does prog 163 (List.toArray [v0, i6 a1]) w (fun v w' => v = (i6 r) ∧ Grow w w') := by
 obtain ⟨mm, hm⟩ := Je1 (show Zs (fun (self : ((List Ta) × Int) → Option (Int)) (s : (List Ta) × Int) => Z2 self s.1 s.2) (a0, a1) = some r from H)
 exact k163_it mm hw f0 hm
theorem k103 {a0 : Tf} {v0_1 : Value} {r : Int} {w : World} {h : J3} (hw : Know h w Zo) (f0_1 : FrN h 1 v0_1 gs_tag_Entry a0.Dirs) (H : Jgu a0 = some r) : Does prog 103 (List.toArray [.agg #[.bool a0.Big, v0_1]]) w (fun v w' => v = (i6 r) ∧ Grow w w') := by
 refine enter (n := 18) func103 rfl rfl rfl Zo [] (Sat.nil _ _)<|Jc<|Ja<|?_
 refine Wj (cs := [.bool a0.Big, v0_1]) rfl rfl rfl rfl (fun b1 => ?_)
 refine ag (i6 0)<|Jd<|Jc<|Ja<|ag (i6 8)<|Jd<|Jc<|Jc<|Ja<|lf runUnderlying24 rfl sizeOf22 rfl<|ll 0 v0_1 isAgg22<|lv (Xs underlying22 rfl f0_1)<|mv (i6 0)<|Jd<|Ju<|c_dr 0<|?_
 try dsimp only [z1, z2, z3, z4, z5, z6, z7, z8]
 refine Za (σ := Int × Int) (τ := Unit) (fun next1 s => Uu a0 next1 s.1 s.2) (fun s t => [(3, i6 s.1), (7, v0_1), (8, i6 (a0.Dirs.length : Int)), (9, i6 s.2)]) (fun s t => []) (fun s t => True) (8, 0) () [] H (by exact trivial) (by exact ⟨rfl, rfl, rfl, rfl, trivial⟩) (by decide) rfl ?_
 rintro ⟨x3_2, x9_2⟩ _ m1 gg H7 _
 clear H
 try dsimp only at H7
 generalize hn1 : it (fun next1 s => Uu a0 next1 s.1 s.2) m1 = next1 at H7
 try dsimp only
 refine Jc<|Ja<|lv (Xz rfl rfl)<|Jd<|Jc<|?_
 revert H7
 refine ci (decide (x9_2 < (a0.Dirs.length : Int))) rfl (fun hb H8=>?_) fun hb H12=>?_
 ·refine Jk<|Jc<|Ju<|Jc<|Ja<|?_
  obtain ⟨t11, h_t11, H9⟩ := Je H8; clear H8
  refine lv (Xc underlying22 sizeOf36 rfl rfl f0_1.frs (f0_1.ix h_t11))<|Xi (fun w hF hS => Xo (f := (elC h v0_1 1)) (i := x9_2) (sz := 1) (j := 0) (v := (Qz h v0_1 1 (Int.toNat x9_2) 0)) isAgg36 rfl rfl (f0_1.frs.row (hw.now hF)) (f0_1.ix h_t11) (Jei (Ua (f0_1.at h_t11)) rfl)) rfl rfl rfl<|ag ((Qz h v0_1 1 (Int.toNat x9_2) 0))<|Jd<|Ja<|mv ((Qz h v0_1 1 (Int.toNat x9_2) 0))<|mv (i6 x3_2)<|?_
  obtain ⟨t15, h_t15, H10⟩ := Je H9; clear H9
  refine Qd (fun w hF hS => k163 (Jp w) ((show FrN h 6 (Qz h v0_1 1 (Int.toNat x9_2) 0) g_tag_Entry t11 from (f0_1.at h_t11)).mono (hw.now hF)) h_t15) call163 rfl rfl rfl<|ag (i6 t15)<|Jd<|Ja<|?_
  obtain ⟨t16, h_t16, H11⟩ := Je H10; clear H10
  refine lv (J1 rfl rfl h_t16)<|mv (i6 t16)<|Jd<|?_
  exact cl (t15, t16) () m1 [] (by exact ⟨(by subst hn1; exact H11), trivial⟩)
 ·refine Xa<|Jc<|Ja<|mv (i6 x3_2)<|ag (i6 x3_2)<|Jd<|Jl<|?_
  obtain rfl := sj H12
  exact r1 (i6 x3_2)
theorem k37 {a0 : Tf} {v0_1 : Value} {r : Int} {w : World} {h : J3} (hw : Know h w Zo) (f0_1 : FrN h 1 v0_1 gs_tag_Entry a0.Dirs) (H : Jef a0 = some r) : Does prog 37 (List.toArray [.agg #[.bool a0.Big, v0_1]]) w (fun v w' => v = (i6 r) ∧ Grow w w') := by
 refine enter (n := 26) func37 rfl rfl rfl Zo [] (Sat.nil _ _)<|Jc<|Ja<|?_
 refine Wj (cs := [.bool a0.Big, v0_1]) rfl rfl rfl rfl (fun b1 => ?_)
 refine ag (i6 0)<|Jd<|Jc<|Jc<|Ja<|lf runUnderlying24 rfl sizeOf22 rfl<|ll 0 v0_1 isAgg22<|lv (Xs underlying22 rfl f0_1)<|lv (Yn rfl rfl)<|Jd<|?_
 revert H
 refine ci (decide (20 < (a0.Dirs.length : Int))) rfl (fun hb H15=>?_) fun hb H16=>?_
 ·refine Jc<|Ja<|ag (i6 4)<|Jd<|Jl<|?_
  obtain rfl := sj H15
  exact r1 (i6 4)
 ·refine Jk ?_
  refine Qj (r := r) (σ := Unit) (τ := Unit) (fun s => Je2 a0) (fun s t => [(1, .pointer (some ⟨b1, 0, none⟩))]) (fun s t => [Jf b1 [.bool a0.Big, v0_1] 24]) (fun s t => True) ?_ ?_
  ·refine Jc<|Ja<|lf runUnderlying24 rfl sizeOf22 rfl<|ll 0 v0_1 isAgg22<|lv (Xs underlying22 rfl f0_1)<|mv (i6 0)<|Jd<|Ju<|?_
   refine Za (σ := Int) (τ := Unit) (fun next2 s => W4 a0 next2 s) (fun s t => [(1, .pointer (some ⟨b1, 0, none⟩)), (11, v0_1), (12, i6 (a0.Dirs.length : Int)), (13, i6 s)]) (fun s t => [Jf b1 [.bool a0.Big, v0_1] 24]) (fun s t => True) 0 () [0] H16 (by exact trivial) (by exact ⟨rfl, rfl, rfl, rfl, trivial⟩) (by decide) rfl ?_
   rintro x13_2 _ m2 gg H21 _
   clear H16
   try dsimp only at H21
   generalize hn2 : it (fun next2 s => W4 a0 next2 s) m2 = next2 at H21
   try dsimp only
   refine Jc<|Ja<|lv (Xz rfl rfl)<|Jd<|Jc<|?_
   revert H21
   refine ci (decide (x13_2 < (a0.Dirs.length : Int))) rfl (fun hb H22=>?_) fun hb H28=>?_
   ·refine Jk<|Jc<|Ju<|Jc<|Ja<|?_
    obtain ⟨t15, h_t15, H23⟩ := Je H22; clear H22
    refine lv (Xc underlying22 sizeOf36 rfl rfl f0_1.frs (f0_1.ix h_t15))<|Xi (fun w hF hS => Xo (f := (elC h v0_1 1)) (i := x13_2) (sz := 1) (j := 0) (v := (Qz h v0_1 1 (Int.toNat x13_2) 0)) isAgg36 rfl rfl (f0_1.frs.row (hw.now hF)) (f0_1.ix h_t15) (Jei (Ua (f0_1.at h_t15)) rfl)) rfl rfl rfl<|ag ((Qz h v0_1 1 (Int.toNat x13_2) 0))<|Jd<|Jc<|Ja<|mv ((Qz h v0_1 1 (Int.toNat x13_2) 0))<|?_
    obtain ⟨t18, h_t18, H24⟩ := Je H23; clear H23
    refine Qd (fun w hF hS => k102 (Jp w) ((show FrN h 6 (Qz h v0_1 1 (Int.toNat x13_2) 0) g_tag_Entry t15 from (f0_1.at h_t15)).mono (hw.now hF)) h_t18) call102 rfl rfl rfl<|ag (i6 t18)<|Jd<|Jc<|Ja<|mv (i6 t18)<|lv (Yt rfl rfl)<|Jd<|?_
    revert H24
    refine ci (decide (t18 ≠ 0)) rfl (fun hb H25=>?_) fun hb H26=>?_
    ·refine Jc<|Ja<|mv (i6 t18)<|ag (i6 t18)<|Jd<|Jl<|?_
     obtain rfl := sj H25
     exact r1 (i6 t18)
    ·refine Jk<|Ja<|?_
     obtain ⟨t22, h_t22, H27⟩ := Je H26; clear H26
     refine lv (J1 rfl rfl h_t22)<|mv (i6 t22)<|Jd<|?_
     exact cl t22 () m2 [0] (by exact ⟨(by subst hn2; exact H27), trivial⟩)
   ·refine Xa ?_
    exact cl () () 0 [0] (by exact ⟨H28, trivial⟩)
  ·rintro _ _ gg H17 _
   try dsimp only at H17
   try dsimp only
   refine Jc<|Jc<|Ja<|Q4 (i := 0) (vs := [.bool a0.Big, v0_1]) isAgg24 sizeOf24 rfl rfl rfl rfl rfl<|?_
   obtain ⟨t24, h_t24, H18⟩ := Je H17; clear H17
   refine Qd (fun w hF hS => k103 (Jp w) (f0_1.mono (hw.now hF)) h_t24) call103 rfl rfl rfl<|lv (Yn rfl rfl)<|Jd<|?_
   revert H18
   refine ci (decide (65000 < t24)) rfl (fun hb H19=>?_) fun hb H20=>?_
   ·refine Jc<|Ja<|ag (i6 4)<|Jd<|Jl<|?_
    obtain rfl := sj H19
    exact r1 (i6 4)
   ·refine Jk<|Jc<|Ja<|ag (i6 0)<|Jd<|Jl<|?_
    obtain rfl := sj H20
    exact r1 (i6 0)
theorem k73 {a0 : Bool} {a1 : Int} {a2 : Int} {r : (List Int)} {w : World} {h : J3} (hw : Know h w Zo) (H : Ji a0 a1 a2 = some r) : Does prog 73 (List.toArray [.bool a0, i6 a1, i6 a2]) w (fun v w' => ∃ x : (Option Addr × Nat), v = (sl x r.length) ∧ Turn w w' Zo (Jw 5 1 (sl x r.length) r.length (r.map Xm))) := by
 refine enter (n := 33) func73 rfl rfl rfl Zo [] (Sat.nil _ _)<|Jc<|Ja<|ag (.slice none 0 0)<|Jd<|Jc<|Ja<|mv (i6 a2)<|?_
 obtain ⟨t11, h_t11, H15⟩ := Je H; clear H
 refine Wv (rds := []) (Jh1 (E := 5) (sz := 1) (f := Xm) (xs := t11) underlying111 (Q5 typeInfo5) rfl rfl rfl rfl rfl rfl ⟨rfl, rfl⟩ h_t11) rfl rfl rfl (fun p => ?_)
 refine ag (sl p t11.length)<|Jd<|Jc<|Jc<|Ja<|mv (sl p t11.length)<|lv (Jdj underlying111 rfl)<|mv (i6 0)<|Jd<|Ju<|?_
 refine Za (σ := Int × (List Int)) (τ := Unit) (fun next1 s => Xg a0 a1 a2 t11 next1 s.1 s.2) (fun s t => [(0, .bool a0), (1, i6 a1), (2, i6 a2), (7, sl p t11.length), (13, i6 (t11.length : Int)), (14, i6 s.1)]) (fun s t => [Jw 5 1 (sl p t11.length) t11.length (s.2.map Xm)]) (fun s t => t11.length = s.2.length) (0, t11) () [0] H15 (by exact rfl) (by exact ⟨rfl, rfl, rfl, rfl, rfl, rfl, trivial⟩) (by decide) rfl ?_
 rintro ⟨x14_2, l_2⟩ _ m1 gg H16 hl_2
 clear H15
 try dsimp only at H16
 generalize hn1 : it (fun next1 s => Xg a0 a1 a2 t11 next1 s.1 s.2) m1 = next1 at H16
 try dsimp only
 refine Jc<|Ja<|lv (Xz rfl rfl)<|Jd<|Jc<|?_
 revert H16
 refine ci (decide (x14_2 < (t11.length : Int))) rfl (fun hb H17=>?_) fun hb H28=>?_
 ·refine Jk<|Jc<|Ju<|Jc<|Ja<|mv (i6 x14_2)<|ag (i6 x14_2)<|Jd<|Jc<|Ja<|mv (i6 x14_2)<|ag (i6 x14_2)<|Jd<|?_
  refine Qj (r := r) (σ := Int) (τ := Unit) (fun s => V6 a1 x14_2 l_2 next1 s) (fun s t => [(0, .bool a0), (1, i6 a1), (2, i6 a2), (7, sl p t11.length), (8, i6 x14_2), (9, i6 s), (13, i6 (t11.length : Int)), (14, i6 x14_2)]) (fun s t => [Jw 5 1 (sl p t11.length) t11.length (l_2.map Xm)]) (fun s t => True) ?_ ?_
  ·refine Jc<|Ja<|mv (.bool a0)<|Jd<|?_
   revert H17
   refine ci a0 rfl (fun hb H24=>?_) fun hb H27=>?_
   ·refine Ja<|mv (i6 a2)<|?_
    obtain ⟨t20, h_t20, H25⟩ := Je H24; clear H24
    refine lv (Zf rfl rfl h_t20)<|mv (i6 x14_2)<|?_
    obtain ⟨t22, h_t22, H26⟩ := Je H25; clear H25
    refine lv (Zf rfl rfl h_t22)<|ag (i6 t22)<|Jd<|?_
    exact cl t22 () 0 [0] (by exact ⟨H26, trivial⟩)
   ·refine Jk ?_
    exact cl x14_2 () 0 [0] (by exact ⟨H27, trivial⟩)
  ·rintro x9 _ gg H18 _
   try dsimp only at H18
   try dsimp only
   refine Ja<|mv (sl p t11.length)<|mv (i6 x9)<|mv (i6 a1)<|mv (i6 x14_2)<|?_
   obtain ⟨t27, h_t27, H19⟩ := Je H18; clear H18
   refine lv (Wu rfl rfl h_t27) ?_
   obtain ⟨t28, h_t28, H20⟩ := Je H19; clear H19
   refine lv (r_shrG rfl rfl rfl h_t28)<|lv (Ui runUnderlying3 runUnderlying5 rfl (wr_u8 _))<|?_
   obtain ⟨t30, h_t30, H21⟩ := Je H20; clear H20
   refine Xi (fun w hF hS => Ue underlying111 sizeOf5 rfl rfl (Wt (i := 0) hS rfl) hl_2 h_t30) rfl rfl rfl ?_
   obtain ⟨l0, h_l0, H22⟩ := Je H21; clear H21
   refine l_storeG (q := 0) (j := 0) (i := x9) (sz := 1) (hm := hl_2) (f := Xm) (vs := [.int .u8 (wU8 t28)]) sizeOf5 rfl rfl rfl rfl rfl rfl rfl rfl rfl (fun y_ hy_ => by first | rfl | (cases hy_.symm.trans h_t30; rfl)) h_l0<|Jd<|Ja<|?_
   obtain ⟨t31, h_t31, H23⟩ := Je H22; clear H22
   refine lv (J1 rfl rfl h_t31)<|mv (i6 t31)<|Jd<|?_
   exact cl (t31, l0) () m1 [0] (by exact ⟨(by subst hn1; exact H23), (gSet_n hl_2 h_l0)⟩)
 ·refine Xa<|Jc<|Ja<|mv (sl p t11.length)<|ag (sl p t11.length)<|Jd<|Jl<|?_
  obtain rfl := sj H28
  refine ret1 (v := sl p t11.length) rfl rfl (X7 p (i := 0) rfl (by first | rfl | rw [(show t11.length = l_2.length from hl_2)]) (by first | exact Imp.refl _ | exact Imp.of (by rw [(show t11.length = l_2.length from hl_2)] <;> rfl)))
theorem k74 {a0 : Tj} {pb0 : Nat} {p0_1 : Option Addr × Nat} {n0_1 : Nat} {a1 : Int} {a2 : Int} {r : Tj} {w : World} {h : J3} {S : Nat → Prop} (hcs : (Jt (Jf pb0 [.bool a0.big_, sl p0_1 n0_1] 128) (Jw 5 1 (sl p0_1 n0_1) n0_1 (a0.out_.map Xm))).P S w) (hlt : ∀ b, S b → b < w.heap.size) (hw : Know h w S) (hn0_1 : n0_1 = a0.out_.length) (H : Wn a0 a1 a2 = some r) : Does prog 74 (List.toArray [.pointer (some ⟨pb0, 0, none⟩), i6 a1, i6 a2]) w (fun v w' => ∃ x : (Option Addr × Nat), v = (.tuple #[]) ∧ Turn w w' S (Jt (Jf pb0 [.bool r.big_, sl x r.out_.length] 128) (Jw 5 1 (sl x r.out_.length) r.out_.length (r.out_.map Xm)))) := by
 refine enter (n := 19) func74 rfl rfl rfl S [Jt (Jf pb0 [.bool a0.big_, sl p0_1 n0_1] 128) (Jw 5 1 (sl p0_1 n0_1) n0_1 (a0.out_.map Xm))] (Sat.one hcs hlt)<|Qv 0 rfl<|?_
 exact Qx (Kd.p :: Kd.p :: Kd.p :: Kd.d [0] _ :: Kd.p :: Kd.d [1] _ :: Kd.p :: Kd.p :: Kd.p :: Kd.d [0] _ :: Kd.p :: Kd.t 2 [] _ _ :: Kd.t 1 [2] _ _ :: []) 1 mixed (by
  refine dm (.pointer (some ⟨pb0, 0, none⟩))<|dv (Jh rfl)<|dv (J8 runUnderlying128 rfl sizeOf111 rfl rfl)<|dl (sl p0_1 n0_1) isAgg111<|dm (i6 a1)<|?_
  have h_t11 := Jy H
  have H3 := Jq H
  refine Jah (v := .slice (Vr p0_1.1 (Int.toNat a1) p0_1.2 1) (val (Q7 a0.out_ a1 a0.out_.length)).length (p0_1.2 - Int.toNat a1)) (fun w L' hF hS hi => V9 (xs := a0.out_) underlying111 sizeOf5 rfl rfl hn0_1 (capOf (i := 1) hS ((hi 1 (by simp)).trans rfl)) h_t11) rfl rfl<|dm (.pointer (some ⟨pb0, 0, none⟩))<|dv (Jh rfl)<|dv (J8 runUnderlying128 rfl sizeOf4 rfl rfl)<|dl (.bool a0.big_) isAgg4<|dm (i6 a2)<|?_
  have h_t17 := Jy H3
  have H4 := Jq H3
  refine Jgh (Cv := fun v => Jw 5 1 v (val (Ji a0.big_ a2 4)).length ((val (Ji a0.big_ a2 4)).map Xm)) (none, 0) (X0 (G := fun x : (Option Addr × Nat) => sl x (val (Ji a0.big_ a2 4)).length) (C := fun x : (Option Addr × Nat) => Jw 5 1 (sl x (val (Ji a0.big_ a2 4)).length) (val (Ji a0.big_ a2 4)).length ((val (Ji a0.big_ a2 4)).map Xm)) (fun w L' hF hS hi => k73 (Jp w)  h_t17) call73 rfl) (fun _ => rfl) rfl rfl rfl (fun p => ?_)
  refine Jdr (Cv := fun _ => Jw 5 1 (sl p0_1 n0_1) n0_1 ((cpyL a0.out_ a1 (val (Q7 a0.out_ a1 a0.out_.length)).length (val (Ji a0.big_ a2 4))).map Xm)) () (Jh2 (i := 1) (rds := _) (p := p0_1) (f := Xm) (xs := a0.out_) (ts := (val (Q7 a0.out_ a1 a0.out_.length))) (ys := (val (Ji a0.big_ a2 4))) hn0_1 underlying111 (by rw [Q5 typeInfo5]; rfl) rfl rfl h_t11 rfl rfl (fun w L' hF hS hi => Wt (i := 2) hS ((hi 2 (by simp)).trans rfl)) (fun _ => rfl) (fun _ => rfl)) (fun _ => rfl) rfl rfl (fun _ => ?_)
  refine Yw ?_
  obtain rfl := sj H4
  refine bo 0 1 rfl rfl ?_
  refine ret0n rfl (X7 p0_1 (i := 0) rfl (by first | rfl | rw [(show n0_1 = (cpyL a0.out_ a1 (val (Q7 a0.out_ a1 a0.out_.length)).length (val (Ji a0.big_ a2 4))).length from (cpyL_n hn0_1 h_t11))]) (by first | exact Imp.refl _ | exact Imp.of (by rw [(show n0_1 = (cpyL a0.out_ a1 (val (Q7 a0.out_ a1 a0.out_.length)).length (val (Ji a0.big_ a2 4))).length from (cpyL_n hn0_1 h_t11))] <;> rfl)))
  ) (by kernel_rfl)
theorem k72 {a0 : Bool} {a1 : Tg} {v1_2 : Value} {v1_3 : Value} {v1_4 : Value} {r : (List Int)} {w : World} {h : J3} (hw : Know h w Zo) (f1_2 : FrS h 1 v1_2 (a1.Ints.map Q1)) (f1_3 : FrS h 2 v1_3 (a1.Ratios.map Jn)) (f1_4 : FrN h 6 v1_4 g_tag_Entry a1.Entries) (H : X9 a0 a1 = some r) : Does prog 72 (List.toArray [.bool a0, .agg #[i6 a1.Kind, str a1.Text, v1_2, v1_3, v1_4]]) w (fun v w' => ∃ x : (Option Addr × Nat), v = (sl x r.length) ∧ Turn w w' Zo (roV 1 (sl x r.length) r.length (r.map Xm))) := by
 refine enter (n := 61) func72 rfl rfl rfl Zo [] (Sat.nil _ _)<|Jc<|Ja<|?_
 refine Wj (cs := [i6 a1.Kind, str a1.Text, v1_2, v1_3, v1_4]) rfl rfl rfl rfl (fun b6 => ?_)
 refine ag (.slice none 0 0)<|Jd<|Jc<|Jc<|Ja<|lf runUnderlying38 rfl sizeOf3 rfl<|ll 0 (i6 a1.Kind) isAgg3<|Jd<|Ju<|Jc<|Ja<|lv (Ql rfl rfl)<|ag (.bool (decide (a1.Kind = 2)))<|Jd<|?_
 revert H
 refine ci (decide (a1.Kind = 2)) rfl (fun hb H51=>?_) fun hb H54=>?_
 ·refine Jc<|Ja<|lf runUnderlying38 rfl sizeOf9 rfl<|ll 0 (str a1.Text) isAgg9<|?_
  obtain ⟨t16, h_t16, H52⟩ := Je H51; clear H51
  refine Wv (rds := []) (makes_byt (f := Xm) (s := a1.Text) underlying9 underlying111 underlying5 rfl (fun _ => rfl) h_t16) rfl rfl rfl (fun p => ?_)
  refine Qg (vs := [.int .u8 0]) (cs := [.int .u8 0]) underlying111 sizeOf5 zeroValue5 rfl rfl rfl rfl rfl rfl rfl (fun b7 => ?_)
  obtain ⟨l18, h_l18, H53⟩ := Je H52; clear H52
  refine Qe (turns_appM (i := 1) (hn := rfl) (rds := [2]) (p := p) (sz := 1) (by_ := 1) (f := Xm) (ys := t16) (ls := ([0] : List Int)) (V := .slice (some ⟨b7, 0, none⟩) 1 1) underlying111 (Q5 typeInfo5) rfl rfl rfl rfl rfl rfl rfl rfl rfl rfl (fun w L' hF hS hi => Wr (i := 2) hS ((hi 2 (by simp)).trans rfl) rfl rfl) (fun _ => rfl) (fun _ => rfl) h_l18) rfl rfl rfl (fun p_2 => ?_)
  refine ag (sl p_2 l18.length)<|Jd<|Jl<|?_
  obtain rfl := sj H53
  refine Qp 1 rfl (imp_mkro _ _ _ _ _) ?_
  refine ret1 (v := sl p_2 l18.length) rfl rfl (X7 p_2 (i := 1) rfl rfl (Imp.refl _))
 ·refine Jc<|Ja<|lv (Ql rfl rfl)<|ag (.bool (decide (a1.Kind = 7)))<|Jd<|?_
  revert H54
  refine ci (decide (a1.Kind = 7)) rfl (fun hb H55=>?_) fun hb H57=>?_
  ·refine Jc<|Ja<|lf runUnderlying38 rfl sizeOf9 rfl<|ll 0 (str a1.Text) isAgg9<|?_
   obtain ⟨t23, h_t23, H56⟩ := Je H55; clear H55
   refine Wv (rds := []) (makes_byt (f := Xm) (s := a1.Text) underlying9 underlying111 underlying5 rfl (fun _ => rfl) h_t23) rfl rfl rfl (fun p_3 => ?_)
   refine ag (sl p_3 t23.length)<|Jd<|Jl<|?_
   obtain rfl := sj H56
   refine Qp 1 rfl (imp_mkro _ _ _ _ _) ?_
   refine ret1 (v := sl p_3 t23.length) rfl rfl (X7 p_3 (i := 1) rfl rfl (Imp.refl _))
  ·refine Jk<|Jc<|Ja<|ag (.slice none 0 0)<|Jd<|?_
   refine Qj (r := r) (σ := (List Int)) (τ := (Option Addr × Nat)) (fun s => Jbf a0 a1 s) (fun s t => [(0, .bool a0), (3, .pointer (some ⟨b6, 0, none⟩)), (5, sl t s.length)]) (fun s t => [Jf b6 [i6 a1.Kind, str a1.Text, v1_2, v1_3, v1_4] 38, Jw 5 1 (sl t s.length) s.length (s.map Xm)]) (fun s t => True) ?_ ?_
   ·refine Jc<|Ja<|lf runUnderlying38 rfl sizeOf30 rfl<|ll 0 v1_2 isAgg30<|lv (Vy underlying30 rfl f1_2 rfl)<|mv (i6 0)<|Jd<|Ju<|Jm 5 1<|?_
    refine Za (σ := Int × (List Int)) (τ := (Option Addr × Nat)) (fun next3 s => V8 a0 a1 next3 s.1 s.2) (fun s t => [(0, .bool a0), (3, .pointer (some ⟨b6, 0, none⟩)), (5, sl t s.2.length), (25, v1_2), (26, i6 (a1.Ints.length : Int)), (27, i6 s.1)]) (fun s t => [Jf b6 [i6 a1.Kind, str a1.Text, v1_2, v1_3, v1_4] 38, Jw 5 1 (sl t s.2.length) s.2.length (s.2.map Xm)]) (fun s t => True) (0, ([] : List Int)) nn [0, 1] H57 (by exact trivial) (by exact ⟨rfl, rfl, rfl, rfl, rfl, rfl, trivial⟩) (by decide) rfl ?_
    rintro ⟨x27_2, l_5⟩ p_10 m3 gg H68 _
    clear H57
    try dsimp only at H68
    generalize hn3 : it (fun next3 s => V8 a0 a1 next3 s.1 s.2) m3 = next3 at H68
    try dsimp only
    refine Jc<|Ja<|lv (Xz rfl rfl)<|Jd<|Jc<|?_
    revert H68
    refine ci (decide (x27_2 < (a1.Ints.length : Int))) rfl (fun hb H69=>?_) fun hb H75=>?_
    ·refine Jk<|Jc<|Ju<|Jc<|Ja<|?_
     obtain ⟨t29, h_t29, H70⟩ := Je H69; clear H69
     refine lv (Xc underlying30 sizeOf3 rfl rfl f1_2 h_t29)<|Xi (fun w hF hS => Xo (f := Q1) (i := x27_2) (sz := 1) (j := 0) (v := i6 t29) isAgg3 rfl rfl (f1_2.row (hw.now hF)) h_t29 rfl) rfl rfl rfl<|ag (i6 t29)<|Jd<|Ja<|mv (sl p_10 l_5.length)<|mv (.bool a0)<|mv (i6 t29)<|lf runUnderlying38 rfl sizeOf3 rfl<|ll 0 (i6 a1.Kind) isAgg3<|?_
     obtain ⟨t36, h_t36, H71⟩ := Je H70; clear H70
     refine Yy (k139 h_t36) call139 rfl rfl rfl ?_
     obtain ⟨t37, h_t37, H72⟩ := Je H71; clear H71
     refine Wv (X0 (rds := []) (G := fun x : (Option Addr × Nat) => sl x t37.length) (C := fun x : (Option Addr × Nat) => Jw 5 1 (sl x t37.length) t37.length (t37.map Xm)) (fun w L' hF hS hi => k73 (Jp w)  h_t37) call73 rfl) rfl rfl rfl (fun p_11 => ?_)
     obtain ⟨l38, h_l38, H73⟩ := Je H72; clear H72
     refine Qe (Xp (i := 1) (hn := rfl) (rds := [2]) (p := p_10) (sz := 1) (by_ := 1) (f := Xm) (ys := l_5) (ls := t37) (V := sl p_11 t37.length) underlying111 (Q5 typeInfo5) rfl rfl rfl rfl rfl rfl rfl rfl rfl rfl (fun w L' hF hS hi => Wt (i := 2) hS ((hi 2 (by simp)).trans rfl)) (fun _ => rfl) (fun _ => rfl) h_l38) rfl rfl rfl (fun p_12 => ?_)
     refine ag (sl p_12 l38.length)<|Jd<|Ja<|?_
     obtain ⟨t39, h_t39, H74⟩ := Je H73; clear H73
     refine lv (J1 rfl rfl h_t39)<|mv (i6 t39)<|Jd<|?_
     exact cl (t39, l38) p_12 m3 [0, 1] (by exact ⟨(by subst hn3; exact H74), trivial⟩)
    ·refine Xa ?_
     exact cl l_5 p_10 0 [0, 1] (by exact ⟨H75, trivial⟩)
   ·rintro l p_4 gg H58 _
    try dsimp only at H58
    try dsimp only
    refine Jc<|Jc<|Ja<|lf runUnderlying38 rfl sizeOf31 rfl<|ll 0 v1_3 isAgg31<|lv (Vy underlying31 rfl f1_3 rfl)<|mv (i6 0)<|Jd<|Ju<|c_dr 0<|?_
    try dsimp only [z1, z2, z3, z4, z5, z6, z7, z8]
    refine Za (σ := Int × (List Int)) (τ := (Option Addr × Nat)) (fun next2 s => V3 a0 a1 next2 s.1 s.2) (fun s t => [(0, .bool a0), (5, sl t s.2.length), (41, v1_3), (42, i6 (a1.Ratios.length : Int)), (43, i6 s.1)]) (fun s t => [Jw 5 1 (sl t s.2.length) s.2.length (s.2.map Xm)]) (fun s t => True) (0, l) p_4 [0] H58 (by exact trivial) (by exact ⟨rfl, rfl, rfl, rfl, rfl, trivial⟩) (by decide) rfl ?_
    rintro ⟨x43_2, l_3⟩ p_5 m2 gg H59 _
    clear H58
    try dsimp only at H59
    generalize hn2 : it (fun next2 s => V3 a0 a1 next2 s.1 s.2) m2 = next2 at H59
    try dsimp only
    refine Jc<|Ja<|lv (Xz rfl rfl)<|Jd<|Jc<|?_
    revert H59
    refine ci (decide (x43_2 < (a1.Ratios.length : Int))) rfl (fun hb H60=>?_) fun hb H67=>?_
    ·refine Jk<|Jc<|Ju<|Jc<|Ja<|?_
     obtain ⟨t45, h_t45, H61⟩ := Je H60; clear H60
     refine lv (Xc underlying31 sizeOf74 rfl rfl f1_3 h_t45)<|Xi (fun w hF hS => Yz (f := Jn) (i := x43_2) (sz := 2) (j := 0) (vs := [i6 t45.Num, i6 t45.Den]) isAgg74 sizeOf74 rfl rfl (f1_3.row (hw.now hF)) h_t45 rfl) rfl rfl rfl<|?_
     refine X1 (cs := [i6 0, i6 0]) zeroValue74 rfl rfl rfl (fun b8 => ?_)
     refine st (i := 1) [i6 t45.Num, i6 t45.Den] [i6 t45.Num, i6 t45.Den] sizeOf74 rfl rfl<|Jd<|Jc<|Ja<|mv (sl p_5 l_3.length)<|mv (.bool a0)<|lf runUnderlying74 rfl sizeOf3 rfl<|ll 1 (i6 t45.Num) isAgg3<|?_
     obtain ⟨t51, h_t51, H62⟩ := Je H61; clear H61
     refine Wv (X0 (rds := []) (G := fun x : (Option Addr × Nat) => sl x t51.length) (C := fun x : (Option Addr × Nat) => Jw 5 1 (sl x t51.length) t51.length (t51.map Xm)) (fun w L' hF hS hi => k73 (Jp w)  h_t51) call73 rfl) rfl rfl rfl (fun p_6 => ?_)
     obtain ⟨l52, h_l52, H63⟩ := Je H62; clear H62
     refine Qe (Xp (i := 0) (hn := rfl) (rds := [2]) (p := p_5) (sz := 1) (by_ := 1) (f := Xm) (ys := l_3) (ls := t51) (V := sl p_6 t51.length) underlying111 (Q5 typeInfo5) rfl rfl rfl rfl rfl rfl rfl rfl rfl rfl (fun w L' hF hS hi => Wt (i := 2) hS ((hi 2 (by simp)).trans rfl)) (fun _ => rfl) (fun _ => rfl) h_l52) rfl rfl rfl (fun p_7 => ?_)
     refine ag (sl p_7 l52.length)<|Jd<|Ja<|mv (sl p_7 l52.length)<|mv (.bool a0)<|lf runUnderlying74 rfl sizeOf3 rfl<|ll 1 (i6 t45.Den) isAgg3<|?_
     obtain ⟨t57, h_t57, H64⟩ := Je H63; clear H63
     refine Wv (X0 (rds := []) (G := fun x : (Option Addr × Nat) => sl x t57.length) (C := fun x : (Option Addr × Nat) => Jw 5 1 (sl x t57.length) t57.length (t57.map Xm)) (fun w L' hF hS hi => k73 (Jp w)  h_t57) call73 rfl) rfl rfl rfl (fun p_8 => ?_)
     obtain ⟨l58, h_l58, H65⟩ := Je H64; clear H64
     refine Qe (Xp (i := 0) (hn := rfl) (rds := [3]) (p := p_7) (sz := 1) (by_ := 1) (f := Xm) (ys := l52) (ls := t57) (V := sl p_8 t57.length) underlying111 (Q5 typeInfo5) rfl rfl rfl rfl rfl rfl rfl rfl rfl rfl (fun w L' hF hS hi => Wt (i := 3) hS ((hi 3 (by simp)).trans rfl)) (fun _ => rfl) (fun _ => rfl) h_l58) rfl rfl rfl (fun p_9 => ?_)
     refine ag (sl p_9 l58.length)<|Jd<|?_
     try dsimp only [z1, z2, z5, z6, z7, z8]
     refine Ja ?_
     obtain ⟨t59, h_t59, H66⟩ := Je H65; clear H65
     refine lv (J1 rfl rfl h_t59)<|mv (i6 t59)<|Jd<|?_
     exact cl (t59, l58) p_9 m2 [0] (by exact ⟨(by subst hn2; exact H66), trivial⟩)
    ·refine Xa<|Jc<|Ja<|mv (sl p_5 l_3.length)<|ag (sl p_5 l_3.length)<|Jd<|Jl<|?_
     obtain rfl := sj H67
     refine Qp 0 rfl (row_ro _ _ _ _ _) ?_
     refine ret1 (v := sl p_5 l_3.length) rfl rfl (X7 p_5 (i := 0) rfl rfl (Imp.refl _))
theorem k78 {a0 : Tj} {pb0 : Nat} {p0_1 : Option Addr × Nat} {n0_1 : Nat} {r : Int × Tj} {w : World} {h : J3} {S : Nat → Prop} (hcs : (Jt (Jf pb0 [.bool a0.big_, sl p0_1 n0_1] 128) (Jw 5 1 (sl p0_1 n0_1) n0_1 (a0.out_.map Xm))).P S w) (hlt : ∀ b, S b → b < w.heap.size) (hw : Know h w S) (hn0_1 : n0_1 = a0.out_.length) (H : Uk a0 = some r) : Does prog 78 (List.toArray [.pointer (some ⟨pb0, 0, none⟩)]) w (fun v w' => ∃ x : (Option Addr × Nat), v = (i6 r.1) ∧ Turn w w' S (Jt (Jf pb0 [.bool r.2.big_, sl x r.2.out_.length] 128) (Jw 5 1 (sl x r.2.out_.length) r.2.out_.length (r.2.out_.map Xm)))) := by
 refine enter (n := 24) func78 rfl rfl rfl S [Jt (Jf pb0 [.bool a0.big_, sl p0_1 n0_1] 128) (Jw 5 1 (sl p0_1 n0_1) n0_1 (a0.out_.map Xm))] (Sat.one hcs hlt)<|Qv 0 rfl<|Jc<|Ja<|ag (i6 0)<|Jd<|?_
 refine Qj (r := r) (σ := (List Int)) (τ := (Option Addr × Nat) × Nat) (fun s => Uj a0 s) (fun s t => [(0, .pointer (some ⟨pb0, 0, none⟩))]) (fun s t => [Jf pb0 [.bool a0.big_, .slice t.1.1 t.2 t.1.2] 128, Jw 5 1 (.slice t.1.1 t.2 t.1.2) t.2 (s.map Xm)]) (fun s t => t.2 = s.length) ?_ ?_
 ·refine Jc<|Ja<|mv (.pointer (some ⟨pb0, 0, none⟩))<|lv (Jh rfl)<|lf runUnderlying128 rfl sizeOf111 rfl<|ll 0 (sl p0_1 n0_1) isAgg111<|lv (Jhx underlying111 rfl hn0_1)<|?_
  obtain ⟨t8, h_t8, H7⟩ := Je H; clear H
  refine lv (r_remG rfl rfl h_t8)<|lv (Yt rfl rfl)<|Jd<|?_
  revert H7
  refine ci (decide (t8 ≠ 0)) rfl (fun hb H8=>?_) fun hb H10=>?_
  ·refine Ja<|mv (.pointer (some ⟨pb0, 0, none⟩))<|mv (.pointer (some ⟨pb0, 0, none⟩))<|lv (Jh rfl)<|lf runUnderlying128 rfl sizeOf111 rfl<|ll 0 (sl p0_1 n0_1) isAgg111<|?_
   refine Qg (vs := [.int .u8 0]) (cs := [.int .u8 0]) underlying111 sizeOf5 zeroValue5 rfl rfl rfl rfl rfl rfl rfl (fun b1 => ?_)
   obtain ⟨l16, h_l16, H9⟩ := Je H8; clear H8
   refine Qe (Xp (i := 1) (hn := hn0_1) (rds := [2]) (p := p0_1) (sz := 1) (by_ := 1) (f := Xm) (ys := a0.out_) (ls := ([0] : List Int)) (V := .slice (some ⟨b1, 0, none⟩) 1 1) underlying111 (Q5 typeInfo5) rfl rfl rfl rfl rfl rfl rfl rfl rfl rfl (fun w L' hF hS hi => Wr (i := 2) hS ((hi 2 (by simp)).trans rfl) rfl rfl) (fun _ => rfl) (fun _ => rfl) h_l16) rfl rfl rfl (fun p_2 => ?_)
   refine lv (Jh rfl)<|lf runUnderlying128 rfl sizeOf111 rfl<|st (i := 0) [sl p_2 l16.length] [.bool a0.big_, sl p_2 l16.length] sizeOf111 rfl rfl<|Jd<|?_
   exact cl l16 (p_2, l16.length) 0 [0, 1] (by exact ⟨H9, rfl⟩)
  ·refine Jk ?_
   exact cl a0.out_ (p0_1, n0_1) 0 [0, 1] (by exact ⟨H10, hn0_1⟩)
 ·rintro l ⟨p, n⟩ gg H6 hl
  try dsimp only at H6
  try dsimp only
  refine Jc<|Ja<|mv (.pointer (some ⟨pb0, 0, none⟩))<|lv (Jh rfl)<|lf runUnderlying128 rfl sizeOf111 rfl<|ll 0 (sl p n) isAgg111<|lv (Jhx underlying111 rfl hl)<|ag (i6 (l.length : Int))<|Jd<|Jl<|?_
  obtain rfl := sj H6
  refine bo 0 1 rfl rfl ?_
  refine ret1 (v := i6 (l.length : Int)) rfl rfl (X7 p (i := 0) rfl (by first | rfl | rw [(show n = l.length from hl)]) (by first | exact Imp.refl _ | exact Imp.of (by rw [(show n = l.length from hl)] <;> rfl)))
theorem k118_it (mm : Nat) : ∀ {a0 : Tj} {pb0 : Nat} {p0_1 : Option Addr × Nat} {n0_1 : Nat} {a1 : (List Ta)} {v1 : Value} {r : Int × Int × Tj} {w : World} {h : J3} {S : Nat → Prop} (hcs : (Jt (Jf pb0 [.bool a0.big_, sl p0_1 n0_1] 128) (Jw 5 1 (sl p0_1 n0_1) n0_1 (a0.out_.map Xm))).P S w) (hlt : ∀ b, S b → b < w.heap.size) (hw : Know h w S) (hn0_1 : n0_1 = a0.out_.length) (f1 : FrN h 6 v1 g_tag_Entry a1) (H : it (fun (self : (Tj × (List Ta)) → Option (Int × Int × Tj)) (s : Tj × (List Ta)) => Yk self s.1 s.2) mm (a0, a1) = some r), Does prog 118 (List.toArray [.pointer (some ⟨pb0, 0, none⟩), v1]) w (fun v w' => ∃ x : (Option Addr × Nat), v = (.tuple #[i6 r.1, i6 r.2.1]) ∧ Turn w w' S (Jt (Jf pb0 [.bool r.2.2.big_, sl x r.2.2.out_.length] 128) (Jw 5 1 (sl x r.2.2.out_.length) r.2.2.out_.length (r.2.2.out_.map Xm)))) := by
 induction mm with
 | zero => intros; rename_i H; exact absurd H (by simp [it])
 | succ mm ih =>
  intro a0 pb0 p0_1 n0_1 a1 v1 r w h S hcs hlt hw hn0_1 f1 H
  replace H : Yk (it (fun (self : (Tj × (List Ta)) → Option (Int × Int × Tj)) (s : Tj × (List Ta)) => Yk self s.1 s.2) mm) a0 a1 = some r := H
  generalize it (fun (self : (Tj × (List Ta)) → Option (Int × Int × Tj)) (s : Tj × (List Ta)) => Yk self s.1 s.2) mm = self at H ih
  refine enter (n := 172) func118 rfl rfl rfl S [Jt (Jf pb0 [.bool a0.big_, sl p0_1 n0_1] 128) (Jw 5 1 (sl p0_1 n0_1) n0_1 (a0.out_.map Xm))] (Sat.one hcs hlt)<|Qv 0 rfl<|Jc<|Ja<|ag (i6 0)<|ag (i6 0)<|Jd<|Jc<|Ja<|mv (.pointer (some ⟨pb0, 0, none⟩))<|?_
  obtain ⟨t15, h_t15, H41⟩ := Je H; clear H
  refine bo 0 1 rfl rfl ?_
  refine Qe (J4 (i := 0) (rds := []) (G := fun x : (Option Addr × Nat) => i6 t15.1) (C := fun x : (Option Addr × Nat) => Jt (Jf pb0 [.bool t15.2.big_, sl x t15.2.out_.length] 128) (Jw 5 1 (sl x t15.2.out_.length) t15.2.out_.length (t15.2.out_.map Xm))) rfl (fun w L' S hF hS hi hp hlt ho hA => k78 hp hlt (Qr w S) hn0_1 h_t15) call78 rfl) rfl rfl rfl (fun p => ?_)
  refine ub 0 1 rfl rfl<|ag (i6 t15.1)<|Jd<|Jc<|?_
  exact Qx (Kd.p :: Kd.p :: Kd.p :: Kd.p :: Kd.d [0] _ :: Kd.p :: Kd.p :: Kd.p :: Kd.d [0] _ :: Kd.p :: Kd.p :: Kd.t 2 [] _ _ :: Kd.t 1 [2] _ _ :: Kd.p :: Kd.p :: Kd.sv 30 28 0 _ 128 :: []) 1 mixed (by
   refine dm (.pointer (some ⟨pb0, 0, none⟩))<|dm (.pointer (some ⟨pb0, 0, none⟩))<|dv (Jh rfl)<|dv (J8 runUnderlying128 rfl sizeOf111 rfl rfl)<|dl (sl p t15.2.out_.length) isAgg111<|dm (.pointer (some ⟨pb0, 0, none⟩))<|dv (Jh rfl)<|dv (J8 runUnderlying128 rfl sizeOf4 rfl rfl)<|dl (.bool t15.2.big_) isAgg4<|dm v1<|dv (Xs underlying36 rfl f1)<|?_
   have h_t27 := Jy H41
   have H42 := Jq H41
   refine Jgh (Cv := fun v => Jw 5 1 v (val (Ji t15.2.big_ (a1.length : Int) 2)).length ((val (Ji t15.2.big_ (a1.length : Int) 2)).map Xm)) (none, 0) (X0 (G := fun x : (Option Addr × Nat) => sl x (val (Ji t15.2.big_ (a1.length : Int) 2)).length) (C := fun x : (Option Addr × Nat) => Jw 5 1 (sl x (val (Ji t15.2.big_ (a1.length : Int) 2)).length) (val (Ji t15.2.big_ (a1.length : Int) 2)).length ((val (Ji t15.2.big_ (a1.length : Int) 2)).map Xm)) (fun w L' hF hS hi => k73 (Jp w)  h_t27) call73 rfl) (fun _ => rfl) rfl rfl rfl (fun p_2 => ?_)
   have h_l28 := Jy H42
   have H43 := Jq H42
   refine Jdr (Cv := fun v => Jw 5 1 v (val (X3 1 t15.2.out_ (val (Ji t15.2.big_ (a1.length : Int) 2)))).length ((val (X3 1 t15.2.out_ (val (Ji t15.2.big_ (a1.length : Int) 2)))).map Xm)) (none, 0) (Xp (i := 1) (hn := rfl) (rds := [2]) (p := p) (sz := 1) (by_ := 1) (f := Xm) (ys := t15.2.out_) (ls := (val (Ji t15.2.big_ (a1.length : Int) 2))) (V := sl p_2 (val (Ji t15.2.big_ (a1.length : Int) 2)).length) underlying111 (Q5 typeInfo5) rfl rfl rfl rfl rfl rfl rfl rfl rfl rfl (fun w L' hF hS hi => Wt (i := 2) hS ((hi 2 (by simp)).trans rfl)) (fun _ => rfl) (fun _ => rfl) h_l28) (fun _ => rfl) rfl rfl (fun p_3 => ?_)
   refine dv (Jh rfl)<|dv (J8 runUnderlying128 rfl sizeOf111 rfl rfl)<|Jb0 (i := 0) (vs := [.slice p_3.1 (val (X3 1 t15.2.out_ (val (Ji t15.2.big_ (a1.length : Int) 2)))).length p_3.2]) (cs' := fun v_ => [.bool t15.2.big_, v_]) sizeOf111 rfl rfl rfl rfl rfl rfl rfl rfl rfl<|Yw<|?_
   refine Qj (r := r) (σ := (List Int)) (τ := (Option Addr × Nat)) (fun s => W2 a1 self t15 s) (fun s t => [(0, .pointer (some ⟨pb0, 0, none⟩)), (1, v1), (4, i6 t15.1)]) (fun s t => [Jf pb0 [.bool t15.2.big_, sl t s.length] 128, Jw 5 1 (sl t s.length) s.length (s.map Xm)]) (fun s t => True) ?_ ?_
   ·refine Jc<|Ja<|mv v1<|lv (Xs underlying36 rfl f1)<|mv (i6 0)<|Jd<|Ju<|c_dr 2<|?_
    try dsimp only [z1, z2, z3, z4, z5, z6, z7, z8]
    refine Za (σ := Int × (List Int)) (τ := (Option Addr × Nat)) (fun next5 s => Yo a1 self t15 next5 s.1 s.2) (fun s t => [(0, .pointer (some ⟨pb0, 0, none⟩)), (1, v1), (4, i6 t15.1), (31, v1), (32, i6 (a1.length : Int)), (33, i6 s.1)]) (fun s t => [Jf pb0 [.bool t15.2.big_, sl t s.2.length] 128, Jw 5 1 (sl t s.2.length) s.2.length (s.2.map Xm)]) (fun s t => True) (0, (val (X3 1 t15.2.out_ (val (Ji t15.2.big_ (a1.length : Int) 2))))) p_3 [0, 1] H43 (by exact trivial) (by exact ⟨rfl, rfl, rfl, rfl, rfl, rfl, trivial⟩) (by decide) rfl ?_
    rintro ⟨x33_2, l_7⟩ p_15 m5 gg H68 _
    clear H43
    try dsimp only at H68
    generalize hn5 : it (fun next5 s => Yo a1 self t15 next5 s.1 s.2) m5 = next5 at H68
    try dsimp only
    refine Jc<|Ja<|lv (Xz rfl rfl)<|Jd<|Jc<|?_
    revert H68
    refine ci (decide (x33_2 < (a1.length : Int))) rfl (fun hb H69=>?_) fun hb H80=>?_
    ·refine Jk<|Jc<|Ju<|Jc<|Ja<|?_
     obtain ⟨t35, h_t35, H70⟩ := Je H69; clear H69
     refine lv (Xc underlying36 sizeOf83 rfl rfl f1.frs (f1.ix h_t35))<|Xi (fun w hF hS => Yz (f := (elC h v1 6)) (i := x33_2) (sz := 6) (j := 0) (vs := [i6 t35.Tag, i6 t35.Value.Kind, str t35.Value.Text, (Qz h v1 6 (Int.toNat x33_2) 3), (Qz h v1 6 (Int.toNat x33_2) 4), (Qz h v1 6 (Int.toNat x33_2) 5)]) isAgg83 sizeOf83 rfl rfl (f1.frs.row (hw.now hF)) (f1.ix h_t35) (Jfp (Zi (f1.at h_t35)) rfl)) rfl rfl rfl<|?_
     refine X1 (cs := [i6 0, i6 0, str [], .slice none 0 0, .slice none 0 0, .slice none 0 0]) zeroValue83 rfl rfl rfl (fun b6 => ?_)
     refine Jck (i := 2) (vs := [i6 t35.Tag, i6 t35.Value.Kind, str t35.Value.Text, (Qz h v1 6 (Int.toNat x33_2) 3), (Qz h v1 6 (Int.toNat x33_2) 4), (Qz h v1 6 (Int.toNat x33_2) 5)]) (cs' := [i6 t35.Tag, i6 t35.Value.Kind, str t35.Value.Text, (Qz h v1 6 (Int.toNat x33_2) 3), (Qz h v1 6 (Int.toNat x33_2) 4), (Qz h v1 6 (Int.toNat x33_2) 5)]) sizeOf83 rfl rfl rfl rfl rfl rfl (by simp only [List.all_cons, List.all_nil, (show FrN h 6 (Qz h v1 6 (Int.toNat x33_2) 5) g_tag_Entry t35.Value.Entries from (Qc (Jj (f1.at h_t35)))).one, (show FrS h 1 (Qz h v1 6 (Int.toNat x33_2) 3) (t35.Value.Ints.map Q1) from (Qo (Jj (f1.at h_t35)))).one, (show FrS h 2 (Qz h v1 6 (Int.toNat x33_2) 4) (t35.Value.Ratios.map Jn) from (Qn (Jj (f1.at h_t35)))).one] <;> rfl) rfl rfl<|Jd<|Jc<|?_
     exact Qx (Kd.p :: Kd.p :: Kd.p :: Kd.p :: Kd.d [0] _ :: Kd.p :: Kd.p :: Kd.p :: Kd.d [0] _ :: Kd.p :: Kd.d [2] _ :: Kd.t 3 [] _ _ :: Kd.t 1 [3] _ _ :: Kd.p :: Kd.p :: Kd.sv 51 49 0 _ 128 :: []) 1 mixed (by
      refine dm (.pointer (some ⟨pb0, 0, none⟩))<|dm (.pointer (some ⟨pb0, 0, none⟩))<|dv (Jh rfl)<|dv (J8 runUnderlying128 rfl sizeOf111 rfl rfl)<|dl (sl p_15 l_7.length) isAgg111<|dm (.pointer (some ⟨pb0, 0, none⟩))<|dv (Jh rfl)<|dv (J8 runUnderlying128 rfl sizeOf4 rfl rfl)<|dl (.bool t15.2.big_) isAgg4<|dv (J8 runUnderlying83 rfl sizeOf3 rfl rfl)<|dl (i6 t35.Tag) isAgg3<|?_
      have h_t48 := Jy H70
      have H71 := Jq H70
      refine Jgh (Cv := fun v => Jw 5 1 v (val (Ji t15.2.big_ t35.Tag 2)).length ((val (Ji t15.2.big_ t35.Tag 2)).map Xm)) (none, 0) (X0 (G := fun x : (Option Addr × Nat) => sl x (val (Ji t15.2.big_ t35.Tag 2)).length) (C := fun x : (Option Addr × Nat) => Jw 5 1 (sl x (val (Ji t15.2.big_ t35.Tag 2)).length) (val (Ji t15.2.big_ t35.Tag 2)).length ((val (Ji t15.2.big_ t35.Tag 2)).map Xm)) (fun w L' hF hS hi => k73 (Jp w)  h_t48) call73 rfl) (fun _ => rfl) rfl rfl rfl (fun p_16 => ?_)
      have h_l49 := Jy H71
      have H72 := Jq H71
      refine Jdr (Cv := fun v => Jw 5 1 v (val (X3 1 l_7 (val (Ji t15.2.big_ t35.Tag 2)))).length ((val (X3 1 l_7 (val (Ji t15.2.big_ t35.Tag 2)))).map Xm)) (none, 0) (Xp (i := 1) (hn := rfl) (rds := [3]) (p := p_15) (sz := 1) (by_ := 1) (f := Xm) (ys := l_7) (ls := (val (Ji t15.2.big_ t35.Tag 2))) (V := sl p_16 (val (Ji t15.2.big_ t35.Tag 2)).length) underlying111 (Q5 typeInfo5) rfl rfl rfl rfl rfl rfl rfl rfl rfl rfl (fun w L' hF hS hi => Wt (i := 3) hS ((hi 3 (by simp)).trans rfl)) (fun _ => rfl) (fun _ => rfl) h_l49) (fun _ => rfl) rfl rfl (fun p_17 => ?_)
      refine dv (Jh rfl)<|dv (J8 runUnderlying128 rfl sizeOf111 rfl rfl)<|Jb0 (i := 0) (vs := [sl p_17 (val (X3 1 l_7 (val (Ji t15.2.big_ t35.Tag 2)))).length]) (cs' := fun v_ => [.bool t15.2.big_, v_]) sizeOf111 rfl rfl rfl rfl rfl rfl rfl rfl rfl<|Yw<|Jc<|?_
      exact Qx (Kd.p :: Kd.p :: Kd.p :: Kd.p :: Kd.d [0] _ :: Kd.p :: Kd.p :: Kd.p :: Kd.d [0] _ :: Kd.p :: Kd.p :: Kd.d [2] _ :: Kd.t 4 [] _ _ :: Kd.t 1 [4] _ _ :: Kd.p :: Kd.p :: Kd.sv 67 65 0 _ 128 :: []) 1 mixed (by
       refine dm (.pointer (some ⟨pb0, 0, none⟩))<|dm (.pointer (some ⟨pb0, 0, none⟩))<|dv (Jh rfl)<|dv (J8 runUnderlying128 rfl sizeOf111 rfl rfl)<|dl (sl p_17 (val (X3 1 l_7 (val (Ji t15.2.big_ t35.Tag 2)))).length) isAgg111<|dm (.pointer (some ⟨pb0, 0, none⟩))<|dv (Jh rfl)<|dv (J8 runUnderlying128 rfl sizeOf4 rfl rfl)<|dl (.bool t15.2.big_) isAgg4<|dv (J8 runUnderlying83 rfl sizeOf38 rfl rfl)<|dv (J8 runUnderlying38 rfl sizeOf3 rfl rfl)<|dl (i6 t35.Value.Kind) isAgg3<|?_
       have h_t64 := Jy H72
       have H73 := Jq H72
       refine Jgh (Cv := fun v => Jw 5 1 v (val (Ji t15.2.big_ t35.Value.Kind 2)).length ((val (Ji t15.2.big_ t35.Value.Kind 2)).map Xm)) (none, 0) (X0 (G := fun x : (Option Addr × Nat) => sl x (val (Ji t15.2.big_ t35.Value.Kind 2)).length) (C := fun x : (Option Addr × Nat) => Jw 5 1 (sl x (val (Ji t15.2.big_ t35.Value.Kind 2)).length) (val (Ji t15.2.big_ t35.Value.Kind 2)).length ((val (Ji t15.2.big_ t35.Value.Kind 2)).map Xm)) (fun w L' hF hS hi => k73 (Jp w)  h_t64) call73 rfl) (fun _ => rfl) rfl rfl rfl (fun p_18 => ?_)
       have h_l65 := Jy H73
       have H74 := Jq H73
       refine Jdr (Cv := fun v => Jw 5 1 v (val (X3 1 (val (X3 1 l_7 (val (Ji t15.2.big_ t35.Tag 2)))) (val (Ji t15.2.big_ t35.Value.Kind 2)))).length ((val (X3 1 (val (X3 1 l_7 (val (Ji t15.2.big_ t35.Tag 2)))) (val (Ji t15.2.big_ t35.Value.Kind 2)))).map Xm)) (none, 0) (Xp (i := 1) (hn := rfl) (rds := [4]) (p := p_17) (sz := 1) (by_ := 1) (f := Xm) (ys := (val (X3 1 l_7 (val (Ji t15.2.big_ t35.Tag 2))))) (ls := (val (Ji t15.2.big_ t35.Value.Kind 2))) (V := sl p_18 (val (Ji t15.2.big_ t35.Value.Kind 2)).length) underlying111 (Q5 typeInfo5) rfl rfl rfl rfl rfl rfl rfl rfl rfl rfl (fun w L' hF hS hi => Wt (i := 4) hS ((hi 4 (by simp)).trans rfl)) (fun _ => rfl) (fun _ => rfl) h_l65) (fun _ => rfl) rfl rfl (fun p_19 => ?_)
       refine dv (Jh rfl)<|dv (J8 runUnderlying128 rfl sizeOf111 rfl rfl)<|Jb0 (i := 0) (vs := [.slice p_19.1 (val (X3 1 (val (X3 1 l_7 (val (Ji t15.2.big_ t35.Tag 2)))) (val (Ji t15.2.big_ t35.Value.Kind 2)))).length p_19.2]) (cs' := fun v_ => [.bool t15.2.big_, v_]) sizeOf111 rfl rfl rfl rfl rfl rfl rfl rfl rfl<|Yw<|Jc<|?_
       exact Qx (Kd.p :: Kd.p :: Kd.p :: Kd.p :: Kd.d [0] _ :: Kd.p :: Kd.p :: Kd.p :: Kd.d [0] _ :: Kd.p :: Kd.d [2] _ :: Kd.d [] _ :: Kd.t 5 [] _ _ :: Kd.t 1 [5] _ _ :: Kd.p :: Kd.p :: Kd.sv 83 81 0 _ 128 :: []) 1 mixed (by
        refine dm (.pointer (some ⟨pb0, 0, none⟩))<|dm (.pointer (some ⟨pb0, 0, none⟩))<|dv (Jh rfl)<|dv (J8 runUnderlying128 rfl sizeOf111 rfl rfl)<|dl (.slice p_19.1 (val (X3 1 (val (X3 1 l_7 (val (Ji t15.2.big_ t35.Tag 2)))) (val (Ji t15.2.big_ t35.Value.Kind 2)))).length p_19.2) isAgg111<|dm (.pointer (some ⟨pb0, 0, none⟩))<|dv (Jh rfl)<|dv (J8 runUnderlying128 rfl sizeOf4 rfl rfl)<|dl (.bool t15.2.big_) isAgg4<|dv (J8 runUnderlying83 rfl sizeOf38 rfl rfl)<|Jdy (i := 2) (vs := [i6 t35.Value.Kind, str t35.Value.Text, (Qz h v1 6 (Int.toNat x33_2) 3), (Qz h v1 6 (Int.toNat x33_2) 4), (Qz h v1 6 (Int.toNat x33_2) 5)]) isAgg38 sizeOf38 rfl rfl rfl rfl<|?_
        have h_t79 := Jy H74
        have H75 := Jq H74
        refine Jd5 (fun w L' hF hS hi => k75 (Jp w) ((show FrS h 1 (Qz h v1 6 (Int.toNat x33_2) 3) (t35.Value.Ints.map Q1) from (Qo (Jj (f1.at h_t35)))).mono (hw.now hF)) ((show FrS h 2 (Qz h v1 6 (Int.toNat x33_2) 4) (t35.Value.Ratios.map Jn) from (Qn (Jj (f1.at h_t35)))).mono (hw.now hF)) ((show FrN h 6 (Qz h v1 6 (Int.toNat x33_2) 5) g_tag_Entry t35.Value.Entries from (Qc (Jj (f1.at h_t35)))).mono (hw.now hF)) h_t79) call75 rfl rfl ?_
        have h_t80 := Jy H75
        have H76 := Jq H75
        refine Jgh (Cv := fun v => Jw 5 1 v (val (Ji t15.2.big_ (val (Ys t35.Value)) 4)).length ((val (Ji t15.2.big_ (val (Ys t35.Value)) 4)).map Xm)) (none, 0) (X0 (G := fun x : (Option Addr × Nat) => sl x (val (Ji t15.2.big_ (val (Ys t35.Value)) 4)).length) (C := fun x : (Option Addr × Nat) => Jw 5 1 (sl x (val (Ji t15.2.big_ (val (Ys t35.Value)) 4)).length) (val (Ji t15.2.big_ (val (Ys t35.Value)) 4)).length ((val (Ji t15.2.big_ (val (Ys t35.Value)) 4)).map Xm)) (fun w L' hF hS hi => k73 (Jp w)  h_t80) call73 rfl) (fun _ => rfl) rfl rfl rfl (fun p_20 => ?_)
        have h_l81 := Jy H76
        have H77 := Jq H76
        refine Jdr (Cv := fun v => Jw 5 1 v (val (X3 1 (val (X3 1 (val (X3 1 l_7 (val (Ji t15.2.big_ t35.Tag 2)))) (val (Ji t15.2.big_ t35.Value.Kind 2)))) (val (Ji t15.2.big_ (val (Ys t35.Value)) 4)))).length ((val (X3 1 (val (X3 1 (val (X3 1 l_7 (val (Ji t15.2.big_ t35.Tag 2)))) (val (Ji t15.2.big_ t35.Value.Kind 2)))) (val (Ji t15.2.big_ (val (Ys t35.Value)) 4)))).map Xm)) (none, 0) (Xp (i := 1) (hn := rfl) (rds := [5]) (p := p_19) (sz := 1) (by_ := 1) (f := Xm) (ys := (val (X3 1 (val (X3 1 l_7 (val (Ji t15.2.big_ t35.Tag 2)))) (val (Ji t15.2.big_ t35.Value.Kind 2))))) (ls := (val (Ji t15.2.big_ (val (Ys t35.Value)) 4))) (V := sl p_20 (val (Ji t15.2.big_ (val (Ys t35.Value)) 4)).length) underlying111 (Q5 typeInfo5) rfl rfl rfl rfl rfl rfl rfl rfl rfl rfl (fun w L' hF hS hi => Wt (i := 5) hS ((hi 5 (by simp)).trans rfl)) (fun _ => rfl) (fun _ => rfl) h_l81) (fun _ => rfl) rfl rfl (fun p_21 => ?_)
        refine dv (Jh rfl)<|dv (J8 runUnderlying128 rfl sizeOf111 rfl rfl)<|Jb0 (i := 0) (vs := [.slice p_21.1 (val (X3 1 (val (X3 1 (val (X3 1 l_7 (val (Ji t15.2.big_ t35.Tag 2)))) (val (Ji t15.2.big_ t35.Value.Kind 2)))) (val (Ji t15.2.big_ (val (Ys t35.Value)) 4)))).length p_21.2]) (cs' := fun v_ => [.bool t15.2.big_, v_]) sizeOf111 rfl rfl rfl rfl rfl rfl rfl rfl rfl<|Yw<|Ja<|mv (.pointer (some ⟨pb0, 0, none⟩))<|mv (.pointer (some ⟨pb0, 0, none⟩))<|lv (Jh rfl)<|lf runUnderlying128 rfl sizeOf111 rfl<|ll 0 (.slice p_21.1 (val (X3 1 (val (X3 1 (val (X3 1 l_7 (val (Ji t15.2.big_ t35.Tag 2)))) (val (Ji t15.2.big_ t35.Value.Kind 2)))) (val (Ji t15.2.big_ (val (Ys t35.Value)) 4)))).length p_21.2) isAgg111<|?_
        refine Qg (vs := [.int .u8 0, .int .u8 0, .int .u8 0, .int .u8 0]) (cs := [.int .u8 0, .int .u8 0, .int .u8 0, .int .u8 0]) underlying111 sizeOf5 zeroValue5 rfl rfl rfl rfl rfl rfl rfl (fun b7 => ?_)
        obtain ⟨l90, h_l90, H78⟩ := Je H77; clear H77
        refine Qe (Xp (i := 1) (hn := rfl) (rds := [6]) (p := p_21) (sz := 1) (by_ := 1) (f := Xm) (ys := (val (X3 1 (val (X3 1 (val (X3 1 l_7 (val (Ji t15.2.big_ t35.Tag 2)))) (val (Ji t15.2.big_ t35.Value.Kind 2)))) (val (Ji t15.2.big_ (val (Ys t35.Value)) 4))))) (ls := ([0, 0, 0, 0] : List Int)) (V := .slice (some ⟨b7, 0, none⟩) 4 4) underlying111 (Q5 typeInfo5) rfl rfl rfl rfl rfl rfl rfl rfl rfl rfl (fun w L' hF hS hi => Wr (i := 6) hS ((hi 6 (by simp)).trans rfl) rfl rfl) (fun _ => rfl) (fun _ => rfl) h_l90) rfl rfl rfl (fun p_22 => ?_)
        refine lv (Jh rfl)<|lf runUnderlying128 rfl sizeOf111 rfl<|st (i := 0) [sl p_22 l90.length] [.bool t15.2.big_, sl p_22 l90.length] sizeOf111 rfl rfl<|Jd<|Ja<|?_
        obtain ⟨t93, h_t93, H79⟩ := Je H78; clear H78
        refine lv (J1 rfl rfl h_t93)<|mv (i6 t93)<|Jd<|?_
        exact cl (t93, l90) p_22 m5 [0, 1] (by exact ⟨(by subst hn5; exact H79), trivial⟩)
        ) (by kernel_rfl)
       ) (by kernel_rfl)
      ) (by kernel_rfl)
    ·refine Xa ?_
     exact cl l_7 p_15 0 [0, 1] (by exact ⟨H80, trivial⟩)
   ·rintro l p_4 gg H44 _
    try dsimp only at H44
    try dsimp only
    refine Jc<|Ja<|mv (.pointer (some ⟨pb0, 0, none⟩))<|lv (Jh rfl)<|lf runUnderlying128 rfl sizeOf111 rfl<|ll 0 (sl p_4 l.length) isAgg111<|lv (Jdj underlying111 rfl)<|ag (i6 (l.length : Int))<|Jd<|Jc<|Ja<|mv (.pointer (some ⟨pb0, 0, none⟩))<|mv (.pointer (some ⟨pb0, 0, none⟩))<|lv (Jh rfl)<|lf runUnderlying128 rfl sizeOf111 rfl<|ll 0 (sl p_4 l.length) isAgg111<|?_
    refine Qg (vs := [.int .u8 0, .int .u8 0, .int .u8 0, .int .u8 0]) (cs := [.int .u8 0, .int .u8 0, .int .u8 0, .int .u8 0]) underlying111 sizeOf5 zeroValue5 rfl rfl rfl rfl rfl rfl rfl (fun b4 => ?_)
    obtain ⟨l105, h_l105, H45⟩ := Je H44; clear H44
    refine Qe (Xp (i := 1) (hn := rfl) (rds := [2]) (p := p_4) (sz := 1) (by_ := 1) (f := Xm) (ys := l) (ls := ([0, 0, 0, 0] : List Int)) (V := .slice (some ⟨b4, 0, none⟩) 4 4) underlying111 (Q5 typeInfo5) rfl rfl rfl rfl rfl rfl rfl rfl rfl rfl (fun w L' hF hS hi => Wr (i := 2) hS ((hi 2 (by simp)).trans rfl) rfl rfl) (fun _ => rfl) (fun _ => rfl) h_l105) rfl rfl rfl (fun p_5 => ?_)
    refine lv (Jh rfl)<|lf runUnderlying128 rfl sizeOf111 rfl<|st (i := 0) [sl p_5 l105.length] [.bool t15.2.big_, sl p_5 l105.length] sizeOf111 rfl rfl<|Jd<|?_
    refine Qj (r := r) (σ := Bool × (List Int)) (τ := (Option Addr × Nat) × Nat) (fun s => Jb4 t15 l s.1 s.2) (fun s t => [(4, i6 t15.1), (5, i6 (l.length : Int))]) (fun s t => [Jf pb0 [.bool s.1, .slice t.1.1 t.2 t.1.2] 128, Jw 5 1 (.slice t.1.1 t.2 t.1.2) t.2 (s.2.map Xm)]) (fun s t => t.2 = s.2.length) ?_ ?_
    ·refine Jc<|Ja<|mv v1<|lv (Xs underlying36 rfl f1)<|mv (i6 0)<|Jd<|Ju<|c_dr 2<|?_
     try dsimp only [z1, z2, z3, z4, z5, z6, z7, z8]
     refine Za (σ := Int × Bool × (List Int)) (τ := (Option Addr × Nat) × Nat) (fun next3 s => Zb a1 self t15 l next3 s.1 s.2.1 s.2.2) (fun s t => [(0, .pointer (some ⟨pb0, 0, none⟩)), (4, i6 t15.1), (5, i6 (l.length : Int)), (108, v1), (109, i6 (a1.length : Int)), (110, i6 s.1)]) (fun s t => [Jf pb0 [.bool s.2.1, .slice t.1.1 t.2 t.1.2] 128, Jw 5 1 (.slice t.1.1 t.2 t.1.2) t.2 (s.2.2.map Xm)]) (fun s t => t.2 = s.2.2.length) (0, t15.2.big_, l105) (p_5, l105.length) [0, 1] H45 (by exact rfl) (by exact ⟨rfl, rfl, rfl, rfl, rfl, rfl, trivial⟩) (by decide) rfl ?_
     rintro ⟨x110_2, m_3, l_4⟩ ⟨p_7, n_2⟩ m3 gg H47 hl_3
     clear H45
     try dsimp only at H47
     generalize hn3 : it (fun next3 s => Zb a1 self t15 l next3 s.1 s.2.1 s.2.2) m3 = next3 at H47
     try dsimp only
     refine Jc<|Ja<|lv (Xz rfl rfl)<|Jd<|Jc<|?_
     revert H47
     refine ci (decide (x110_2 < (a1.length : Int))) rfl (fun hb H48=>?_) fun hb H67=>?_
     ·refine Jk ?_
      refine Qj (r := r) (σ := Bool × (List Int)) (τ := (Option Addr × Nat) × Nat) (fun s => Vn x110_2 next3 s.1 s.2) (fun s t => [(0, .pointer (some ⟨pb0, 0, none⟩)), (4, i6 t15.1), (5, i6 (l.length : Int)), (108, v1), (109, i6 (a1.length : Int)), (110, i6 x110_2)]) (fun s t => [Jf pb0 [.bool s.1, .slice t.1.1 t.2 t.1.2] 128, Jw 5 1 (.slice t.1.1 t.2 t.1.2) t.2 (s.2.map Xm)]) (fun s t => t.2 = s.2.length) ?_ ?_
      ·refine Ju<|Jc<|Ja<|mv (i6 x110_2)<|?_
       obtain ⟨t113, h_t113, H51⟩ := Je H48; clear H48
       refine lv (Xc underlying36 sizeOf83 rfl rfl f1.frs (f1.ix h_t113))<|Xi (fun w hF hS => Yz (f := (elC h v1 6)) (i := x110_2) (sz := 6) (j := 0) (vs := [i6 t113.Tag, i6 t113.Value.Kind, str t113.Value.Text, (Qz h v1 6 (Int.toNat x110_2) 3), (Qz h v1 6 (Int.toNat x110_2) 4), (Qz h v1 6 (Int.toNat x110_2) 5)]) isAgg83 sizeOf83 rfl rfl (f1.frs.row (hw.now hF)) (f1.ix h_t113) (Jfp (Zi (f1.at h_t113)) rfl)) rfl rfl rfl<|?_
       refine X1 (cs := [i6 0, i6 0, str [], .slice none 0 0, .slice none 0 0, .slice none 0 0]) zeroValue83 rfl rfl rfl (fun b5 => ?_)
       refine ag (i6 x110_2)<|Jck (i := 2) (vs := [i6 t113.Tag, i6 t113.Value.Kind, str t113.Value.Text, (Qz h v1 6 (Int.toNat x110_2) 3), (Qz h v1 6 (Int.toNat x110_2) 4), (Qz h v1 6 (Int.toNat x110_2) 5)]) (cs' := [i6 t113.Tag, i6 t113.Value.Kind, str t113.Value.Text, (Qz h v1 6 (Int.toNat x110_2) 3), (Qz h v1 6 (Int.toNat x110_2) 4), (Qz h v1 6 (Int.toNat x110_2) 5)]) sizeOf83 rfl rfl rfl rfl rfl rfl (by simp only [List.all_cons, List.all_nil, (show FrN h 6 (Qz h v1 6 (Int.toNat x110_2) 5) g_tag_Entry t113.Value.Entries from (Qc (Jj (f1.at h_t113)))).one, (show FrS h 1 (Qz h v1 6 (Int.toNat x110_2) 3) (t113.Value.Ints.map Q1) from (Qo (Jj (f1.at h_t113)))).one, (show FrS h 2 (Qz h v1 6 (Int.toNat x110_2) 4) (t113.Value.Ratios.map Jn) from (Qn (Jj (f1.at h_t113)))).one] <;> rfl) rfl rfl<|Jd<|Jc<|Ja<|mv (i6 t15.1)<|?_
       obtain ⟨t116, h_t116, H52⟩ := Je H51; clear H51
       refine lv (J1 rfl rfl h_t116)<|mv (i6 x110_2)<|?_
       obtain ⟨t118, h_t118, H53⟩ := Je H52; clear H52
       refine lv (Wu rfl rfl h_t118) ?_
       obtain ⟨t119, h_t119, H54⟩ := Je H53; clear H53
       refine lv (J1 rfl rfl h_t119) ?_
       obtain ⟨t120, h_t120, H55⟩ := Je H54; clear H54
       refine lv (J1 rfl rfl h_t120)<|ag (i6 t120)<|Jd<|Jc<|Jc<|Ja<|lf runUnderlying83 rfl sizeOf38 rfl<|lf runUnderlying38 rfl sizeOf3 rfl<|ll 2 (i6 t113.Value.Kind) isAgg3<|lv (Ql rfl rfl)<|Jd<|?_
       revert H55
       refine ci (decide (t113.Value.Kind = 13)) rfl (fun hb H56=>?_) fun hb H59=>?_
       ·refine Jc<|Ja<|mv (.pointer (some ⟨pb0, 0, none⟩))<|lf runUnderlying83 rfl sizeOf38 rfl<|lf runUnderlying38 rfl sizeOf36 rfl<|ll 2 (Qz h v1 6 (Int.toNat x110_2) 5) isAgg36<|?_
        obtain ⟨t130, h_t130, H57⟩ := Je H56; clear H56
        refine bo 0 1 rfl rfl ?_
        refine Qe (J4 (i := 0) (rds := []) (G := fun x : (Option Addr × Nat) => .tuple #[i6 t130.1, i6 t130.2.1]) (C := fun x : (Option Addr × Nat) => Jt (Jf pb0 [.bool t130.2.2.big_, sl x t130.2.2.out_.length] 128) (Jw 5 1 (sl x t130.2.2.out_.length) t130.2.2.out_.length (t130.2.2.out_.map Xm))) rfl (fun w L' S hF hS hi hp hlt ho hA => ih (a0 := (⟨m_3, l_4⟩ : Tj)) hp hlt (Qr w S) hl_3 ((show FrN h 6 (Qz h v1 6 (Int.toNat x110_2) 5) g_tag_Entry t113.Value.Entries from (Qc (Jj (f1.at h_t113)))).mono (hw.but hF ho)) h_t130) call118 rfl) rfl rfl rfl (fun p_9 => ?_)
        refine ub 0 1 rfl rfl<|mv (.tuple #[i6 t130.1, i6 t130.2.1])<|lv (Qb (v := i6 t130.1) rfl rfl)<|lv (Qb (v := i6 t130.2.1) rfl rfl)<|ag (i6 t130.1)<|ag (i6 t130.2.1)<|Jd<|Jc<|Ja<|mv (.pointer (some ⟨pb0, 0, none⟩))<|mv (i6 t120)<|mv (i6 t130.1)<|?_
        obtain ⟨t136, h_t136, H58⟩ := Je H57; clear H57
        refine bo 0 1 rfl rfl ?_
        refine Qe (J4 (i := 0) (rds := []) (G := fun x : (Option Addr × Nat) => .tuple #[]) (C := fun x : (Option Addr × Nat) => Jt (Jf pb0 [.bool t136.big_, sl x t136.out_.length] 128) (Jw 5 1 (sl x t136.out_.length) t136.out_.length (t136.out_.map Xm))) rfl (fun w L' S hF hS hi hp hlt ho hA => k74 hp hlt (Qr w S) rfl h_t136) call74 rfl) rfl rfl rfl (fun p_10 => ?_)
        refine ub 0 1 rfl rfl<|Jd<|Xa<|?_
        exact cl (t136.big_, t136.out_) (p_10, t136.out_.length) 0 [0, 1] (by exact ⟨H58, rfl⟩)
       ·refine Jk<|Jc<|?_
        try dsimp only [z1, z2, z5, z6, z7, z8]
        exact Qx (Kd.p :: Kd.p :: Kd.p :: Kd.d [0] _ :: Kd.p :: Kd.d [2] _ :: Kd.t 3 [] _ _ :: Kd.p :: []) 1 mixed (by
         refine dm (.pointer (some ⟨pb0, 0, none⟩))<|dv (Jh rfl)<|dv (J8 runUnderlying128 rfl sizeOf4 rfl rfl)<|dl (.bool m_3) isAgg4<|dv (J8 runUnderlying83 rfl sizeOf38 rfl rfl)<|Jdy (i := 2) (vs := [i6 t113.Value.Kind, str t113.Value.Text, (Qz h v1 6 (Int.toNat x110_2) 3), (Qz h v1 6 (Int.toNat x110_2) 4), (Qz h v1 6 (Int.toNat x110_2) 5)]) isAgg38 sizeOf38 rfl rfl rfl rfl<|?_
         have h_t143 := Jy H59
         have H60 := Jq H59
         refine Jgh (Cv := fun v => roV 1 v (val (X9 m_3 t113.Value)).length ((val (X9 m_3 t113.Value)).map Xm)) (none, 0) (X0 (G := fun x : (Option Addr × Nat) => sl x (val (X9 m_3 t113.Value)).length) (C := fun x : (Option Addr × Nat) => roV 1 (sl x (val (X9 m_3 t113.Value)).length) (val (X9 m_3 t113.Value)).length ((val (X9 m_3 t113.Value)).map Xm)) (fun w L' hF hS hi => k72 (Jp w) ((show FrS h 1 (Qz h v1 6 (Int.toNat x110_2) 3) (t113.Value.Ints.map Q1) from (Qo (Jj (f1.at h_t113)))).mono (hw.now hF)) ((show FrS h 2 (Qz h v1 6 (Int.toNat x110_2) 4) (t113.Value.Ratios.map Jn) from (Qn (Jj (f1.at h_t113)))).mono (hw.now hF)) ((show FrN h 6 (Qz h v1 6 (Int.toNat x110_2) 5) g_tag_Entry t113.Value.Entries from (Qc (Jj (f1.at h_t113)))).mono (hw.now hF)) h_t143) call72 rfl) (fun _ => rfl) rfl rfl rfl (fun p_11 => ?_)
         refine Vf rfl rfl (Xd (v := sl p_11 (val (X9 m_3 t113.Value)).length) rfl)<|Yw<|Jc<|Jc<|Ja<|mv (sl p_11 (val (X9 m_3 t113.Value)).length)<|lv (Jdj underlying111 rfl)<|lv (Jfo rfl rfl)<|Jd<|?_
         revert H60
         refine ci (decide (((val (X9 m_3 t113.Value)).length : Int) ≤ 4)) rfl (fun hb H61=>?_) fun hb H63=>?_
         ·refine Jc<|Ja<|mv (.pointer (some ⟨pb0, 0, none⟩))<|lv (Jh rfl)<|lf runUnderlying128 rfl sizeOf111 rfl<|ll 0 (sl p_7 n_2) isAgg111<|mv (i6 t120)<|?_
          obtain ⟨t152, h_t152, H62⟩ := Je H61; clear H61
          refine Xi (v := .slice (Vr p_7.1 (Int.toNat t120) p_7.2 1) t152.length (p_7.2 - Int.toNat t120)) (fun w hF hS => V9 (xs := l_4) underlying111 sizeOf5 rfl rfl hl_3 (capOf (i := 1) hS rfl) h_t152) rfl rfl rfl<|mv (sl p_11 (val (X9 m_3 t113.Value)).length)<|?_
          refine Qe (Jh2 (i := 1) (rds := [3]) (p := p_7) (f := Xm) (xs := l_4) (ts := t152) (ys := (val (X9 m_3 t113.Value))) hl_3 underlying111 (by rw [Q5 typeInfo5]; rfl) rfl rfl h_t152 rfl rfl (fun w L' hF hS hi => roOf (i := 3) hS ((hi 3 (by simp)).trans rfl)) (fun _ => rfl) (fun _ => rfl)) rfl rfl rfl (fun _ => ?_)
          refine Jd<|Xa<|?_
          exact cl (m_3, (cpyL l_4 t120 t152.length (val (X9 m_3 t113.Value)))) (p_7, n_2) 0 [0, 1] (by exact ⟨H62, (cpyL_n hl_3 h_t152)⟩)
         ·refine Jk<|Jc<|Ja<|mv (.pointer (some ⟨pb0, 0, none⟩))<|mv (i6 t120)<|mv (.pointer (some ⟨pb0, 0, none⟩))<|?_
          obtain ⟨t158, h_t158, H64⟩ := Je H63; clear H63
          refine bo 0 1 rfl rfl ?_
          refine Qe (J4 (i := 0) (rds := []) (G := fun x : (Option Addr × Nat) => i6 t158.1) (C := fun x : (Option Addr × Nat) => Jt (Jf pb0 [.bool t158.2.big_, sl x t158.2.out_.length] 128) (Jw 5 1 (sl x t158.2.out_.length) t158.2.out_.length (t158.2.out_.map Xm))) rfl (fun w L' S hF hS hi hp hlt ho hA => k78 (a0 := (⟨m_3, l_4⟩ : Tj)) hp hlt (Qr w S) hl_3 h_t158) call78 rfl) rfl rfl rfl (fun p_12 => ?_)
          refine ub 0 1 rfl rfl ?_
          obtain ⟨t159, h_t159, H65⟩ := Je H64; clear H64
          refine bo 0 1 rfl rfl ?_
          refine Qe (J4 (i := 0) (rds := []) (G := fun x : (Option Addr × Nat) => .tuple #[]) (C := fun x : (Option Addr × Nat) => Jt (Jf pb0 [.bool t159.big_, sl x t159.out_.length] 128) (Jw 5 1 (sl x t159.out_.length) t159.out_.length (t159.out_.map Xm))) rfl (fun w L' S hF hS hi hp hlt ho hA => k74 hp hlt (Qr w S) rfl h_t159) call74 rfl) rfl rfl rfl (fun p_13 => ?_)
          refine ub 0 1 rfl rfl<|Jd<|?_
          try dsimp only [z1, z2, z5, z6, z7, z8]
          refine Ja<|mv (.pointer (some ⟨pb0, 0, none⟩))<|mv (.pointer (some ⟨pb0, 0, none⟩))<|lv (Jh rfl)<|lf runUnderlying128 rfl sizeOf111 rfl<|ll 0 (sl p_13 t159.out_.length) isAgg111<|mv (sl p_11 (val (X9 m_3 t113.Value)).length)<|?_
          obtain ⟨l166, h_l166, H66⟩ := Je H65; clear H65
          refine Qe (Xp (i := 1) (hn := rfl) (rds := [3]) (p := p_13) (sz := 1) (by_ := 1) (f := Xm) (ys := t159.out_) (ls := (val (X9 m_3 t113.Value))) (V := sl p_11 (val (X9 m_3 t113.Value)).length) underlying111 (Q5 typeInfo5) rfl rfl rfl rfl rfl rfl rfl rfl rfl rfl (fun w L' hF hS hi => roOf (i := 3) hS ((hi 3 (by simp)).trans rfl)) (fun _ => rfl) (fun _ => rfl) h_l166) rfl rfl rfl (fun p_14 => ?_)
          refine lv (Jh rfl)<|lf runUnderlying128 rfl sizeOf111 rfl<|st (i := 0) [sl p_14 l166.length] [.bool t159.big_, sl p_14 l166.length] sizeOf111 rfl rfl<|Jd<|?_
          exact cl (t159.big_, l166) (p_14, l166.length) 0 [0, 1] (by exact ⟨H66, rfl⟩)
         ) (by kernel_rfl)
      ·rintro ⟨m_4, l_5⟩ ⟨p_8, n_3⟩ gg H49 hl_4
       try dsimp only at H49
       try dsimp only
       refine Ja ?_
       obtain ⟨t169, h_t169, H50⟩ := Je H49; clear H49
       refine lv (J1 rfl rfl h_t169)<|mv (i6 t169)<|Jd<|?_
       exact cl (t169, m_4, l_5) (p_8, n_3) m3 [0, 1] (by exact ⟨(by subst hn3; exact H50), hl_4⟩)
     ·refine Xa ?_
      exact cl (m_3, l_4) (p_7, n_2) 0 [0, 1] (by exact ⟨H67, hl_3⟩)
    ·rintro ⟨m, l_2⟩ ⟨p_6, n⟩ gg H46 hl
     try dsimp only at H46
     try dsimp only
     refine Jc<|Ja<|mv (i6 t15.1)<|mv (i6 (l.length : Int))<|ag (i6 t15.1)<|ag (i6 (l.length : Int))<|Jd<|Jl<|?_
     obtain rfl := sj H46
     refine bo 0 1 rfl rfl ?_
     refine Z7 (v1 := i6 t15.1) (v2 := i6 (l.length : Int)) rfl rfl rfl (X7 p_6 (i := 0) rfl (by first | rfl | rw [(show n = l_2.length from hl)]) (by first | exact Imp.refl _ | exact Imp.of (by rw [(show n = l_2.length from hl)] <;> rfl)))
   ) (by kernel_rfl)
theorem k118 {a0 : Tj} {pb0 : Nat} {p0_1 : Option Addr × Nat} {n0_1 : Nat} {a1 : (List Ta)} {v1 : Value} {r : Int × Int × Tj} {w : World} {h : J3} {S : Nat → Prop} (hcs : (Jt (Jf pb0 [.bool a0.big_, sl p0_1 n0_1] 128) (Jw 5 1 (sl p0_1 n0_1) n0_1 (a0.out_.map Xm))).P S w) (hlt : ∀ b, S b → b < w.heap.size) (hw : Know h w S) (hn0_1 : n0_1 = a0.out_.length) (f1 : FrN h 6 v1 g_tag_Entry a1) (H : Jb6 a0 a1 = some r) : Does prog 118 (List.toArray [.pointer (some ⟨pb0, 0, none⟩), v1]) w (fun v w' => ∃ x : (Option Addr × Nat), v = (.tuple #[i6 r.1, i6 r.2.1]) ∧ Turn w w' S (Jt (Jf pb0 [.bool r.2.2.big_, sl x r.2.2.out_.length] 128) (Jw 5 1 (sl x r.2.2.out_.length) r.2.2.out_.length (r.2.2.out_.map Xm)))) := by
 obtain ⟨mm, hm⟩ := Je1 (show Zs (fun (self : (Tj × (List Ta)) → Option (Int × Int × Tj)) (s : Tj × (List Ta)) => Yk self s.1 s.2) (a0, a1) = some r from H)
 exact k118_it mm hcs hlt hw hn0_1 f1 hm
theorem k51 {a0 : Tf} {v0_1 : Value} {r : (List UInt8)} {w : World} {h : J3} (hw : Know h w Zo) (f0_1 : FrN h 1 v0_1 gs_tag_Entry a0.Dirs) (H : Jdz a0 = some r) : Does prog 51 (List.toArray [.agg #[.bool a0.Big, v0_1]]) w (fun v w' => v = (str r) ∧ Grow w w') := by
 refine enter (n := 71) func51 rfl rfl rfl Zo [] (Sat.nil _ _)<|Jc<|Ja<|?_
 refine Wj (cs := [.bool a0.Big, v0_1]) rfl rfl rfl rfl (fun b5 => ?_)
 refine ag (str [])<|Jd<|Jc<|Ja<|lf runUnderlying24 rfl sizeOf4 rfl<|ll 0 (.bool a0.Big) isAgg4<|?_
 refine Qg (vs := [.int .u8 73, .int .u8 73]) (cs := [.int .u8 73, .int .u8 73]) underlying111 sizeOf5 zeroValue5 rfl rfl rfl rfl rfl rfl rfl (fun b6 => ?_)
 refine Qe (Jgm (i := 1) (rds := []) (f := Xm) (xs := ([73, 73] : List Int)) (m := 2) (sz := 1) rfl underlying111 underlying5 rfl rfl rfl rfl rfl rfl) rfl rfl rfl (fun _ => ?_)
 refine lv (Xv (pl := #[(0, 1), (1, 1)]) (ps := [(0, .bool a0.Big), (1, .slice ((some ⟨b6, 0, none⟩, 2) : Option Addr × Nat).1 2 ((some ⟨b6, 0, none⟩, 2) : Option Addr × Nat).2)]) (cells := #[.bool a0.Big, .slice ((some ⟨b6, 0, none⟩, 2) : Option Addr × Nat).1 2 ((some ⟨b6, 0, none⟩, 2) : Option Addr × Nat).2]) zeroValue128 runUnderlying128 (fun w => by kernel_rfl) rfl rfl) ?_
 refine Wj (cs := [.bool a0.Big, .slice ((some ⟨b6, 0, none⟩, 2) : Option Addr × Nat).1 2 ((some ⟨b6, 0, none⟩, 2) : Option Addr × Nat).2]) rfl rfl rfl rfl (fun b7 => ?_)
 refine ag (.pointer (some ⟨b7, 0, none⟩))<|Jd<|?_
 refine Qj (r := r) (σ := (List Int)) (τ := (Option Addr × Nat) × Nat) (fun s => Jam a0 s) (fun s t => [(1, .pointer (some ⟨b5, 0, none⟩)), (3, .pointer (some ⟨b7, 0, none⟩))]) (fun s t => [Jf b5 [.bool a0.Big, v0_1] 24, Jf b7 [.bool a0.Big, .slice t.1.1 t.2 t.1.2] 128, apV 5 1 (.slice t.1.1 t.2 t.1.2) t.2 (s.map Xm)]) (fun s t => t.2 = s.length) ?_ ?_
 ·refine Jc ?_
  try dsimp only [z1, z2, z5, z6, z7, z8]
  refine Ja<|lf runUnderlying24 rfl sizeOf4 rfl<|ll 0 (.bool a0.Big) isAgg4<|Jd<|?_
  revert H
  refine ci (a0.Big) rfl (fun hb H27=>?_) fun hb H28=>?_
  ·refine Ja<|mv (.pointer (some ⟨b7, 0, none⟩))<|?_
   refine Qg (vs := [.int .u8 77, .int .u8 77]) (cs := [.int .u8 77, .int .u8 77]) underlying111 sizeOf5 zeroValue5 rfl rfl rfl rfl rfl rfl rfl (fun b9 => ?_)
   refine Qe (Jgm (i := 3) (rds := []) (f := Xm) (xs := ([77, 77] : List Int)) (m := 2) (sz := 1) rfl underlying111 underlying5 rfl rfl rfl rfl rfl rfl) rfl rfl rfl (fun _ => ?_)
   refine lv (Jh rfl)<|lf runUnderlying128 rfl sizeOf111 rfl<|st (i := 2) [.slice ((some ⟨b9, 0, none⟩, 2) : Option Addr × Nat).1 2 ((some ⟨b9, 0, none⟩, 2) : Option Addr × Nat).2] [.bool a0.Big, .slice ((some ⟨b9, 0, none⟩, 2) : Option Addr × Nat).1 2 ((some ⟨b9, 0, none⟩, 2) : Option Addr × Nat).2] sizeOf111 rfl rfl<|Jd<|?_
   exact cl ([77, 77] : List Int) (((some ⟨b9, 0, none⟩, 2) : Option Addr × Nat), 2) 0 [0, 2, 3] (by exact ⟨H27, rfl⟩)
  ·refine Jk ?_
   exact cl ([73, 73] : List Int) (((some ⟨b6, 0, none⟩, 2) : Option Addr × Nat), 2) 0 [0, 2, 1] (by exact ⟨H28, rfl⟩)
 ·rintro l ⟨p, n⟩ gg H15 hl
  try dsimp only at H15
  try dsimp only
  refine Jc ?_
  exact Qx (Kd.p :: Kd.p :: Kd.p :: Kd.p :: Kd.d [1] _ :: Kd.p :: Kd.d [0] _ :: Kd.t 3 [] _ _ :: Kd.t 2 [3] _ _ :: Kd.p :: Kd.p :: Kd.sv 32 30 1 _ 128 :: []) 1 mixed (by
   refine dm (.pointer (some ⟨b7, 0, none⟩))<|dm (.pointer (some ⟨b7, 0, none⟩))<|dv (Jh rfl)<|dv (J8 runUnderlying128 rfl sizeOf111 rfl rfl)<|dl (sl p n) isAgg111<|dv (J8 runUnderlying24 rfl sizeOf4 rfl rfl)<|dl (.bool a0.Big) isAgg4<|?_
   have h_t29 := Jy H15
   have H16 := Jq H15
   refine Jgh (Cv := fun v => Jw 5 1 v (val (Ji a0.Big 42 2)).length ((val (Ji a0.Big 42 2)).map Xm)) (none, 0) (X0 (G := fun x : (Option Addr × Nat) => sl x (val (Ji a0.Big 42 2)).length) (C := fun x : (Option Addr × Nat) => Jw 5 1 (sl x (val (Ji a0.Big 42 2)).length) (val (Ji a0.Big 42 2)).length ((val (Ji a0.Big 42 2)).map Xm)) (fun w L' hF hS hi => k73 (Jp w)  h_t29) call73 rfl) (fun _ => rfl) rfl rfl rfl (fun p_2 => ?_)
   have h_l30 := Jy H16
   have H17 := Jq H16
   refine Jdr (Cv := fun v => Jw 5 1 v (val (gApN 1 l (val (Ji a0.Big 42 2)))).length ((val (gApN 1 l (val (Ji a0.Big 42 2)))).map Xm)) (none, 0) (Jf9 (i := 2) (hn := hl) (rds := [3]) (p := p) (sz := 1) (by_ := 1) (f := Xm) (ys := l) (ls := (val (Ji a0.Big 42 2))) (V := sl p_2 (val (Ji a0.Big 42 2)).length) underlying111 (Q5 typeInfo5) rfl rfl rfl rfl rfl rfl rfl rfl rfl rfl (fun w L' hF hS hi => Wt (i := 3) hS ((hi 3 (by simp)).trans rfl)) (fun _ => rfl) (fun _ => rfl) h_l30) (fun _ => rfl) rfl rfl (fun p_3 => ?_)
   refine dv (Jh rfl)<|dv (J8 runUnderlying128 rfl sizeOf111 rfl rfl)<|Jb0 (i := 1) (vs := [sl p_3 (val (gApN 1 l (val (Ji a0.Big 42 2)))).length]) (cs' := fun v_ => [.bool a0.Big, v_]) sizeOf111 rfl rfl rfl rfl rfl rfl rfl rfl rfl<|Yw<|Jc<|Ja<|mv (.pointer (some ⟨b7, 0, none⟩))<|lv (Jh rfl)<|lf runUnderlying128 rfl sizeOf111 rfl<|ll 1 (sl p_3 (val (gApN 1 l (val (Ji a0.Big 42 2)))).length) isAgg111<|lv (Jdj underlying111 rfl)<|ag (i6 ((val (gApN 1 l (val (Ji a0.Big 42 2)))).length : Int))<|Jd<|Jc<|Ja<|mv (.pointer (some ⟨b7, 0, none⟩))<|mv (.pointer (some ⟨b7, 0, none⟩))<|lv (Jh rfl)<|lf runUnderlying128 rfl sizeOf111 rfl<|ll 1 (sl p_3 (val (gApN 1 l (val (Ji a0.Big 42 2)))).length) isAgg111<|?_
   refine Qg (vs := [.int .u8 0, .int .u8 0, .int .u8 0, .int .u8 0]) (cs := [.int .u8 0, .int .u8 0, .int .u8 0, .int .u8 0]) underlying111 sizeOf5 zeroValue5 rfl rfl rfl rfl rfl rfl rfl (fun b8 => ?_)
   obtain ⟨l44, h_l44, H18⟩ := Je H17; clear H17
   refine Qe (Xp (i := 2) (hn := rfl) (rds := [4]) (p := p_3) (sz := 1) (by_ := 1) (f := Xm) (ys := (val (gApN 1 l (val (Ji a0.Big 42 2))))) (ls := ([0, 0, 0, 0] : List Int)) (V := .slice (some ⟨b8, 0, none⟩) 4 4) underlying111 (Q5 typeInfo5) rfl rfl rfl rfl rfl rfl rfl rfl rfl rfl (fun w L' hF hS hi => Wr (i := 4) hS ((hi 4 (by simp)).trans rfl) rfl rfl) (fun _ => rfl) (fun _ => rfl) h_l44) rfl rfl rfl (fun p_4 => ?_)
   refine lv (Jh rfl)<|lf runUnderlying128 rfl sizeOf111 rfl<|st (i := 1) [sl p_4 l44.length] [.bool a0.Big, sl p_4 l44.length] sizeOf111 rfl rfl<|Jd<|?_
   refine Qj (r := r) (σ := Bool × (List Int)) (τ := (Option Addr × Nat)) (fun s => Jdw s.1 s.2) (fun s t => [(3, .pointer (some ⟨b7, 0, none⟩))]) (fun s t => [Jf b7 [.bool s.1, sl t s.2.length] 128, Jw 5 1 (sl t s.2.length) s.2.length (s.2.map Xm)]) (fun s t => True) ?_ ?_
   ·refine Jc<|Ja<|lf runUnderlying24 rfl sizeOf22 rfl<|ll 0 v0_1 isAgg22<|lv (Xs underlying22 rfl f0_1)<|mv (i6 0)<|Jd<|Ju<|?_
    refine c_dr 4 <| c_dr 3 <| c_dr 0 ?_
    try dsimp only [z1, z2, z3, z4, z5, z6, z7, z8]
    refine Za (σ := Int × Int × Bool × (List Int)) (τ := (Option Addr × Nat)) (fun next3 s => Ve a0 next3 s.1 s.2.1 s.2.2.1 s.2.2.2) (fun s t => [(3, .pointer (some ⟨b7, 0, none⟩)), (4, i6 s.1), (48, v0_1), (49, i6 (a0.Dirs.length : Int)), (50, i6 s.2.1)]) (fun s t => [Jf b7 [.bool s.2.2.1, sl t s.2.2.2.length] 128, Jw 5 1 (sl t s.2.2.2.length) s.2.2.2.length (s.2.2.2.map Xm)]) (fun s t => True) (((val (gApN 1 l (val (Ji a0.Big 42 2)))).length : Int), 0, a0.Big, l44) p_4 [0, 1] H18 (by exact trivial) (by exact ⟨rfl, rfl, rfl, rfl, rfl, trivial⟩) (by decide) rfl ?_
    rintro ⟨x4_2, x50_2, m_3, l_4⟩ p_6 m3 gg H20 _
    clear H18
    try dsimp only at H20
    generalize hn3 : it (fun next3 s => Ve a0 next3 s.1 s.2.1 s.2.2.1 s.2.2.2) m3 = next3 at H20
    try dsimp only
    refine Jc<|Ja<|lv (Xz rfl rfl)<|Jd<|Jc<|?_
    revert H20
    refine ci (decide (x50_2 < (a0.Dirs.length : Int))) rfl (fun hb H21=>?_) fun hb H26=>?_
    ·refine Jk<|Jc<|Ju<|Jc<|Ja<|?_
     obtain ⟨t52, h_t52, H22⟩ := Je H21; clear H21
     refine lv (Xc underlying22 sizeOf36 rfl rfl f0_1.frs (f0_1.ix h_t52))<|Xi (fun w hF hS => Xo (f := (elC h v0_1 1)) (i := x50_2) (sz := 1) (j := 0) (v := (Qz h v0_1 1 (Int.toNat x50_2) 0)) isAgg36 rfl rfl (f0_1.frs.row (hw.now hF)) (f0_1.ix h_t52) (Jei (Ua (f0_1.at h_t52)) rfl)) rfl rfl rfl<|ag ((Qz h v0_1 1 (Int.toNat x50_2) 0))<|Jd<|Jc<|Ja<|mv (.pointer (some ⟨b7, 0, none⟩))<|mv ((Qz h v0_1 1 (Int.toNat x50_2) 0))<|?_
     obtain ⟨t57, h_t57, H23⟩ := Je H22; clear H22
     refine bo 0 1 rfl rfl ?_
     refine Qe (J4 (i := 0) (rds := []) (G := fun x : (Option Addr × Nat) => .tuple #[i6 t57.1, i6 t57.2.1]) (C := fun x : (Option Addr × Nat) => Jt (Jf b7 [.bool t57.2.2.big_, sl x t57.2.2.out_.length] 128) (Jw 5 1 (sl x t57.2.2.out_.length) t57.2.2.out_.length (t57.2.2.out_.map Xm))) rfl (fun w L' S hF hS hi hp hlt ho hA => k118 (a0 := (⟨m_3, l_4⟩ : Tj)) hp hlt (Qr w S) rfl ((show FrN h 6 (Qz h v0_1 1 (Int.toNat x50_2) 0) g_tag_Entry t52 from (f0_1.at h_t52)).mono (hw.but hF ho)) h_t57) call118 rfl) rfl rfl rfl (fun p_7 => ?_)
     refine ub 0 1 rfl rfl<|mv (.tuple #[i6 t57.1, i6 t57.2.1])<|lv (Qb (v := i6 t57.1) rfl rfl)<|lv (Qb (v := i6 t57.2.1) rfl rfl)<|ag (i6 t57.1)<|ag (i6 t57.2.1)<|Jd<|Jc<|Ja<|mv (.pointer (some ⟨b7, 0, none⟩))<|mv (i6 x4_2)<|mv (i6 t57.1)<|?_
     obtain ⟨t63, h_t63, H24⟩ := Je H23; clear H23
     refine bo 0 1 rfl rfl ?_
     refine Qe (J4 (i := 0) (rds := []) (G := fun x : (Option Addr × Nat) => .tuple #[]) (C := fun x : (Option Addr × Nat) => Jt (Jf b7 [.bool t63.big_, sl x t63.out_.length] 128) (Jw 5 1 (sl x t63.out_.length) t63.out_.length (t63.out_.map Xm))) rfl (fun w L' S hF hS hi hp hlt ho hA => k74 hp hlt (Qr w S) rfl h_t63) call74 rfl) rfl rfl rfl (fun p_8 => ?_)
     refine ub 0 1 rfl rfl<|Jd<|Ja<|mv (i6 t57.2.1)<|ag (i6 t57.2.1)<|Jd<|Ja<|?_
     obtain ⟨t65, h_t65, H25⟩ := Je H24; clear H24
     refine lv (J1 rfl rfl h_t65)<|mv (i6 t65)<|Jd<|?_
     exact cl (t57.2.1, t65, t63.big_, t63.out_) p_8 m3 [0, 1] (by exact ⟨(by subst hn3; exact H25), trivial⟩)
    ·refine Xa ?_
     exact cl (m_3, l_4) p_6 0 [0, 1] (by exact ⟨H26, trivial⟩)
   ·rintro ⟨m, l_2⟩ p_5 gg H19 _
    try dsimp only at H19
    try dsimp only
    refine Jc<|Ja<|mv (.pointer (some ⟨b7, 0, none⟩))<|lv (Jh rfl)<|lf runUnderlying128 rfl sizeOf111 rfl<|ll 0 (sl p_5 l_2.length) isAgg111<|Xi (fun w hF hS => Jfu (f := Xm) (xs := l_2) rfl underlying111 underlying5 underlying9 rfl (fun _ => rfl) (Wt (i := 1) hS rfl)) rfl rfl rfl<|ag (str (Yp l_2))<|Jd<|Jl<|?_
    obtain rfl := sj H19
    exact r1 (str (Yp l_2))
   ) (by kernel_rfl)
theorem k145 {a0 : Bool} {a1 : Int} {a2 : Int} {r : (List UInt8)} (H : X2 a0 a1 a2 = some r) : Ret prog 145 [.bool a0, i6 a1, i6 a2] (str r) := by
 refine Yu (n := 34) func145 rfl rfl rfl (fun wd => ?_)
 refine Jc<|Ja<|ag (str [])<|Jd<|Jc<|Ja<|mv (i6 a2)<|?_
 obtain ⟨t11, h_t11, H16⟩ := Je H; clear H
 refine Wv (rds := []) (Jh1 (E := 5) (sz := 1) (f := Xm) (xs := t11) underlying111 (Q5 typeInfo5) rfl rfl rfl rfl rfl rfl ⟨rfl, rfl⟩ h_t11) rfl rfl rfl (fun p => ?_)
 refine ag (sl p t11.length)<|Jd<|?_
 refine Qj (r := r) (σ := (List Int)) (τ := Unit) (fun s => Jfd s) (fun s t => [(7, sl p t11.length)]) (fun s t => [Jw 5 1 (sl p t11.length) t11.length (s.map Xm)]) (fun s t => t11.length = s.length) ?_ ?_
 ·refine Jc<|Ja<|mv (sl p t11.length)<|lv (Jdj underlying111 rfl)<|mv (i6 0)<|Jd<|Ju<|?_
  refine Za (σ := Int × (List Int)) (τ := Unit) (fun next2 s => Zr a0 a1 a2 t11 next2 s.1 s.2) (fun s t => [(0, .bool a0), (1, i6 a1), (2, i6 a2), (7, sl p t11.length), (13, i6 (t11.length : Int)), (14, i6 s.1)]) (fun s t => [Jw 5 1 (sl p t11.length) t11.length (s.2.map Xm)]) (fun s t => t11.length = s.2.length) (0, t11) () [0] H16 (by exact rfl) (by exact ⟨rfl, rfl, rfl, rfl, rfl, rfl, trivial⟩) (by decide) rfl ?_
  rintro ⟨x14_2, l_3⟩ _ m2 gg H18 hl_3
  clear H16
  try dsimp only at H18
  generalize hn2 : it (fun next2 s => Zr a0 a1 a2 t11 next2 s.1 s.2) m2 = next2 at H18
  try dsimp only
  refine Jc<|Ja<|lv (Xz rfl rfl)<|Jd<|Jc<|?_
  revert H18
  refine ci (decide (x14_2 < (t11.length : Int))) rfl (fun hb H19=>?_) fun hb H30=>?_
  ·refine Jk<|Jc<|Ju<|Jc<|Ja<|mv (i6 x14_2)<|ag (i6 x14_2)<|Jd<|Jc<|Ja<|mv (i6 x14_2)<|ag (i6 x14_2)<|Jd<|?_
   refine Qj (r := r) (σ := Int) (τ := Unit) (fun s => Jbu a1 x14_2 l_3 next2 s) (fun s t => [(0, .bool a0), (1, i6 a1), (2, i6 a2), (7, sl p t11.length), (8, i6 x14_2), (9, i6 s), (13, i6 (t11.length : Int)), (14, i6 x14_2)]) (fun s t => [Jw 5 1 (sl p t11.length) t11.length (l_3.map Xm)]) (fun s t => True) ?_ ?_
   ·refine Jc<|Ja<|mv (.bool a0)<|Jd<|?_
    revert H19
    refine ci a0 rfl (fun hb H26=>?_) fun hb H29=>?_
    ·refine Ja<|mv (i6 a2)<|?_
     obtain ⟨t20, h_t20, H27⟩ := Je H26; clear H26
     refine lv (Zf rfl rfl h_t20)<|mv (i6 x14_2)<|?_
     obtain ⟨t22, h_t22, H28⟩ := Je H27; clear H27
     refine lv (Zf rfl rfl h_t22)<|ag (i6 t22)<|Jd<|?_
     exact cl t22 () 0 [0] (by exact ⟨H28, trivial⟩)
    ·refine Jk ?_
     exact cl x14_2 () 0 [0] (by exact ⟨H29, trivial⟩)
   ·rintro x9 _ gg H20 _
    try dsimp only at H20
    try dsimp only
    refine Ja<|mv (sl p t11.length)<|mv (i6 x9)<|mv (i6 a1)<|mv (i6 x14_2)<|?_
    obtain ⟨t27, h_t27, H21⟩ := Je H20; clear H20
    refine lv (Wu rfl rfl h_t27) ?_
    obtain ⟨t28, h_t28, H22⟩ := Je H21; clear H21
    refine lv (r_shrG rfl rfl rfl h_t28)<|lv (Ui runUnderlying3 runUnderlying5 rfl (wr_u8 _))<|?_
    obtain ⟨t30, h_t30, H23⟩ := Je H22; clear H22
    refine Xi (fun w hF hS => Ue underlying111 sizeOf5 rfl rfl (Wt (i := 0) hS rfl) hl_3 h_t30) rfl rfl rfl ?_
    obtain ⟨l0, h_l0, H24⟩ := Je H23; clear H23
    refine l_storeG (q := 0) (j := 0) (i := x9) (sz := 1) (hm := hl_3) (f := Xm) (vs := [.int .u8 (wU8 t28)]) sizeOf5 rfl rfl rfl rfl rfl rfl rfl rfl rfl (fun y_ hy_ => by first | rfl | (cases hy_.symm.trans h_t30; rfl)) h_l0<|Jd<|Ja<|?_
    obtain ⟨t31, h_t31, H25⟩ := Je H24; clear H24
    refine lv (J1 rfl rfl h_t31)<|mv (i6 t31)<|Jd<|?_
    exact cl (t31, l0) () m2 [0] (by exact ⟨(by subst hn2; exact H25), (gSet_n hl_3 h_l0)⟩)
  ·refine Xa ?_
   exact cl l_3 () 0 [0] (by exact ⟨H30, hl_3⟩)
 ·rintro l _ gg H17 hl
  try dsimp only at H17
  try dsimp only
  refine Jc<|Ja<|mv (sl p t11.length)<|Xi (fun w hF hS => Jfu (f := Xm) (xs := l) hl underlying111 underlying5 underlying9 rfl (fun _ => rfl) (Wt (i := 0) hS rfl)) rfl rfl rfl<|ag (str (Yp l))<|Jd<|Jl<|?_
  obtain rfl := sj H17
  exact r1 (str (Yp l))
theorem k83 {a0 : Tk} {pb0 : Nat} {a1 : Int} {a2 : Int} {a3 : Int} {r : Tk} {w : World} {h : J3} {S : Nat → Prop} (hcs : (Jf pb0 [str a0.s_, .bool a0.big_] 142).P S w) (hlt : ∀ b, S b → b < w.heap.size) (hw : Know h w S) (H : Yh a0 a1 a2 a3 = some r) : Does prog 83 (List.toArray [.pointer (some ⟨pb0, 0, none⟩), i6 a1, i6 a2, i6 a3]) w (fun v w' => ∃ x : Unit, v = (.tuple #[]) ∧ Turn w w' S (Jf pb0 [str r.s_, .bool r.big_] 142)) := by
 refine enter (n := 34) func83 rfl rfl rfl S [Jf pb0 [str a0.s_, .bool a0.big_] 142] (Sat.one hcs hlt) ?_
 exact Qx (Kd.p :: Kd.p :: Kd.p :: Kd.p :: Kd.d [0] _ :: Kd.p :: Kd.p :: Kd.p :: Kd.p :: Kd.p :: Kd.d [0] _ :: Kd.p :: Kd.p :: Kd.d [] _ :: Kd.p :: Kd.p :: Kd.p :: Kd.p :: Kd.d [0] _ :: Kd.p :: Kd.p :: Kd.p :: Kd.p :: Kd.p :: Kd.p :: Kd.p :: Kd.st 33 0 [_, _] 142 :: []) 0 mixed (by
  refine dm (.pointer (some ⟨pb0, 0, none⟩))<|dm (.pointer (some ⟨pb0, 0, none⟩))<|dv (Jh rfl)<|dv (J8 runUnderlying142 rfl sizeOf9 rfl rfl)<|dl (str a0.s_) isAgg9<|dm (i6 a1)<|?_
  have h_t14 := Jy H
  have H7 := Jq H
  refine dv (Un underlying9 rfl rfl h_t14)<|dm (.pointer (some ⟨pb0, 0, none⟩))<|dv (Jh rfl)<|dv (J8 runUnderlying142 rfl sizeOf4 rfl rfl)<|dl (.bool a0.big_) isAgg4<|dm (i6 a2)<|dm (i6 a3)<|?_
  have h_t21 := Jy H7
  have H8 := Jq H7
  refine Jca (k145 h_t21) call145 rfl rfl ?_
  have h_t22 := Jy H8
  have H9 := Jq H8
  refine dv (Yj rfl rfl h_t22)<|dm (.pointer (some ⟨pb0, 0, none⟩))<|dv (Jh rfl)<|dv (J8 runUnderlying142 rfl sizeOf9 rfl rfl)<|dl (str a0.s_) isAgg9<|dm (i6 a1)<|dm (i6 a3)<|?_
  have h_t29 := Jy H9
  have H10 := Jq H9
  refine dv (J1 rfl rfl h_t29) ?_
  have h_t30 := Jy H10
  have H11 := Jq H10
  refine dv (Uc underlying9 rfl rfl h_t30) ?_
  have h_t31 := Jy H11
  have H12 := Jq H11
  refine dv (Yj rfl rfl h_t31)<|dv (Jh rfl)<|dv (J8 runUnderlying142 rfl sizeOf9 rfl rfl)<|d_store (i := 0) (vs := [str (val (Vd (val (Vd (val (Q7 a0.s_ 0 a1)) (val (X2 a0.big_ a2 a3)))) (val (Q7 a0.s_ (val (gI (a1 + a3))) a0.s_.length))))]) (cs' := [str (val (Vd (val (Vd (val (Q7 a0.s_ 0 a1)) (val (X2 a0.big_ a2 a3)))) (val (Q7 a0.s_ (val (gI (a1 + a3))) a0.s_.length)))), .bool a0.big_]) sizeOf9 rfl rfl rfl rfl rfl rfl rfl rfl rfl<|Yw<|?_
  obtain rfl := sj H12
  refine ret0n rfl (X7 () (i := 0) rfl rfl (Imp.refl _))
  ) (by kernel_rfl)
theorem k140 {a0 : Int} {r : Int} (H : Je4 a0 = some r) : Ret prog 140 [i6 a0] (i6 r) := by
 refine Yu (n := 16) func140 rfl rfl rfl (fun wd => ?_)
 refine Jc<|Ja<|ag (i6 0)<|Jd<|Jc<|Jc<|Ja<|mv (i6 a0)<|Jd<|Ju<|?_
 refine Qj (r := r) (σ := Bool) (τ := Unit) (fun s => Jeo a0 s) (fun s t => [(3, i6 a0), (4, .bool s)]) (fun s t => []) (fun s t => True) ?_ ?_
 ·refine Jc<|Ja<|lv (Ql rfl rfl)<|ag (.bool (decide (a0 = 1)))<|Jd<|?_
  revert H
  refine ci (decide (a0 = 1)) rfl (fun hb H47=>?_) fun hb H48=>?_
  ·refine Jk ?_
   exact cl (decide (a0 = 1)) () 0 [] (by exact ⟨H47, trivial⟩)
  ·refine Jc<|Ja<|lv (Ql rfl rfl)<|ag (.bool (decide (a0 = 2)))<|Jd<|?_
   revert H48
   refine ci (decide (a0 = 2)) rfl (fun hb H49=>?_) fun hb H50=>?_
   ·refine Jk ?_
    exact cl (decide (a0 = 2)) () 0 [] (by exact ⟨H49, trivial⟩)
   ·refine Ja<|lv (Ql rfl rfl)<|ag (.bool (decide (a0 = 7)))<|Jd<|?_
    exact cl (decide (a0 = 7)) () 0 [] (by exact ⟨H50, trivial⟩)
 ·rintro x4 _ gg H26 _
  try dsimp only at H26
  try dsimp only
  revert H26
  refine ci x4 rfl (fun hb H27=>?_) fun hb H28=>?_
  ·refine Jc<|Ja<|ag (i6 1)<|Jd<|Jl<|?_
   obtain rfl := sj H27
   exact r1 (i6 1)
  ·refine Jc<|Ja<|lv (Ql rfl rfl)<|ag (.bool (decide (a0 = 3)))<|Jd<|?_
   revert H28
   refine ci (decide (a0 = 3)) rfl (fun hb H29=>?_) fun hb H30=>?_
   ·refine Jc<|Ja<|ag (i6 2)<|Jd<|Jl<|?_
    obtain rfl := sj H29
    exact r1 (i6 2)
   ·refine Jc<|Jc<|Ja<|lv (Ql rfl rfl)<|ag (.bool (decide (a0 = 4)))<|Jd<|?_
    revert H30
    refine ci (decide (a0 = 4)) rfl (fun hb H31=>?_) fun hb H36=>?_
    ·refine Jk ?_
     revert H31
     refine ci (decide (a0 = 4)) rfl (fun hb H32=>?_) fun hb H33=>?_
     ·refine Jc<|Ja<|ag (i6 4)<|Jd<|Jl<|?_
      obtain rfl := sj H32
      exact r1 (i6 4)
     ·refine Jc<|Ja<|lv (Ql rfl rfl)<|ag (.bool (decide (a0 = 5)))<|Jd<|?_
      revert H33
      refine ci (decide (a0 = 5)) rfl (fun hb H34=>?_) fun hb H35=>?_
      ·refine Jc<|Ja<|ag (i6 8)<|Jd<|Jl<|?_
       obtain rfl := sj H34
       exact r1 (i6 8)
      ·refine Jk<|Jc<|Ja<|ag (i6 0)<|Jd<|Jl<|?_
       obtain rfl := sj H35
       exact r1 (i6 0)
    ·refine Jc<|Ja<|lv (Ql rfl rfl)<|ag (.bool (decide (a0 = 9)))<|Jd<|?_
     revert H36
     refine ci (decide (a0 = 9)) rfl (fun hb H37=>?_) fun hb H42=>?_
     ·refine Jk ?_
      revert H37
      refine ci (decide (a0 = 9)) rfl (fun hb H38=>?_) fun hb H39=>?_
      ·refine Jc<|Ja<|ag (i6 4)<|Jd<|Jl<|?_
       obtain rfl := sj H38
       exact r1 (i6 4)
      ·refine Jc<|Ja<|lv (Ql rfl rfl)<|ag (.bool (decide (a0 = 5)))<|Jd<|?_
       revert H39
       refine ci (decide (a0 = 5)) rfl (fun hb H40=>?_) fun hb H41=>?_
       ·refine Jc<|Ja<|ag (i6 8)<|Jd<|Jl<|?_
        obtain rfl := sj H40
        exact r1 (i6 8)
       ·refine Jk<|Jc<|Ja<|ag (i6 0)<|Jd<|Jl<|?_
        obtain rfl := sj H41
        exact r1 (i6 0)
     ·refine Ja<|lv (Ql rfl rfl)<|ag (.bool (decide (a0 = 13)))<|Jd<|?_
      revert H42
      refine ci (decide (a0 = 13)) rfl (fun hb H43=>?_) fun hb H44=>?_
      ·refine Jc<|Ja<|ag (i6 4)<|Jd<|Jl<|?_
       obtain rfl := sj H43
       exact r1 (i6 4)
      ·refine Jc<|Ja<|lv (Ql rfl rfl)<|ag (.bool (decide (a0 = 5)))<|Jd<|?_
       revert H44
       refine ci (decide (a0 = 5)) rfl (fun hb H45=>?_) fun hb H46=>?_
       ·refine Jc<|Ja<|ag (i6 8)<|Jd<|Jl<|?_
        obtain rfl := sj H45
        exact r1 (i6 8)
       ·refine Jk<|Jc<|Ja<|ag (i6 0)<|Jd<|Jl<|?_
        obtain rfl := sj H46
        exact r1 (i6 0)
theorem k82 {a0 : Bool} {a1 : Tg} {v1_2 : Value} {v1_3 : Value} {v1_4 : Value} {r : (List UInt8)} {w : World} {h : J3} (hw : Know h w Zo) (f1_2 : FrS h 1 v1_2 (a1.Ints.map Q1)) (f1_3 : FrS h 2 v1_3 (a1.Ratios.map Jn)) (f1_4 : FrN h 6 v1_4 g_tag_Entry a1.Entries) (H : Zx a0 a1 = some r) : Does prog 82 (List.toArray [.bool a0, .agg #[i6 a1.Kind, str a1.Text, v1_2, v1_3, v1_4]]) w (fun v w' => v = (str r) ∧ Grow w w') := by
 refine enter (n := 53) func82 rfl rfl rfl Zo [] (Sat.nil _ _)<|Jc<|Ja<|?_
 refine Wj (cs := [i6 a1.Kind, str a1.Text, v1_2, v1_3, v1_4]) rfl rfl rfl rfl (fun b2 => ?_)
 refine ag (str [])<|Jd<|Jc<|Ja<|lf runUnderlying38 rfl sizeOf9 rfl<|ll 0 (str a1.Text) isAgg9<|ag (str a1.Text)<|Jd<|?_
 refine Qj (r := r) (σ := (List UInt8)) (τ := Unit) (fun s => Jcw a0 a1 s) (fun s t => [(0, .bool a0), (3, .pointer (some ⟨b2, 0, none⟩)), (5, str s)]) (fun s t => [Jf b2 [i6 a1.Kind, str a1.Text, v1_2, v1_3, v1_4] 38]) (fun s t => True) ?_ ?_
 ·refine Jc<|Ja<|lf runUnderlying38 rfl sizeOf3 rfl<|ll 0 (i6 a1.Kind) isAgg3<|lv (Ql rfl rfl)<|Jd<|?_
  revert H
  refine ci (decide (a1.Kind = 2)) rfl (fun hb H42=>?_) fun hb H44=>?_
  ·refine Ja<|mv (str a1.Text)<|?_
   obtain ⟨t16, h_t16, H43⟩ := Je H42; clear H42
   refine lv (Yj rfl rfl h_t16)<|ag (str t16)<|Jd<|?_
   exact cl t16 () 0 [0] (by exact ⟨H43, trivial⟩)
  ·refine Jk ?_
   exact cl a1.Text () 0 [0] (by exact ⟨H44, trivial⟩)
 ·rintro x5 _ gg H23 _
  try dsimp only at H23
  try dsimp only
  refine Qj (r := r) (σ := (List UInt8)) (τ := Unit) (fun s => Jcs a0 a1 s) (fun s t => [(0, .bool a0), (3, .pointer (some ⟨b2, 0, none⟩)), (5, str s)]) (fun s t => [Jf b2 [i6 a1.Kind, str a1.Text, v1_2, v1_3, v1_4] 38]) (fun s t => True) ?_ ?_
  ·refine Jc<|Ja<|lf runUnderlying38 rfl sizeOf30 rfl<|ll 0 v1_2 isAgg30<|lv (Vy underlying30 rfl f1_2 rfl)<|mv (i6 0)<|Jd<|Ju<|?_
   refine Za (σ := (List UInt8) × Int) (τ := Unit) (fun next4 s => Us a0 a1 next4 s.1 s.2) (fun s t => [(0, .bool a0), (3, .pointer (some ⟨b2, 0, none⟩)), (5, str s.1), (18, v1_2), (19, i6 (a1.Ints.length : Int)), (20, i6 s.2)]) (fun s t => [Jf b2 [i6 a1.Kind, str a1.Text, v1_2, v1_3, v1_4] 38]) (fun s t => True) (x5, 0) () [0] H23 (by exact trivial) (by exact ⟨rfl, rfl, rfl, rfl, rfl, rfl, trivial⟩) (by decide) rfl ?_
   rintro ⟨x5_6, x20_2⟩ _ m4 gg H34 _
   clear H23
   try dsimp only at H34
   generalize hn4 : it (fun next4 s => Us a0 a1 next4 s.1 s.2) m4 = next4 at H34
   try dsimp only
   refine Jc<|Ja<|lv (Xz rfl rfl)<|Jd<|Jc<|?_
   revert H34
   refine ci (decide (x20_2 < (a1.Ints.length : Int))) rfl (fun hb H35=>?_) fun hb H41=>?_
   ·refine Jk<|Jc<|Ju<|Jc<|Ja<|?_
    obtain ⟨t22, h_t22, H36⟩ := Je H35; clear H35
    refine lv (Xc underlying30 sizeOf3 rfl rfl f1_2 h_t22)<|Xi (fun w hF hS => Xo (f := Q1) (i := x20_2) (sz := 1) (j := 0) (v := i6 t22) isAgg3 rfl rfl (f1_2.row (hw.now hF)) h_t22 rfl) rfl rfl rfl<|ag (i6 t22)<|Jd<|Ja<|mv (str x5_6)<|mv (.bool a0)<|mv (i6 t22)<|lf runUnderlying38 rfl sizeOf3 rfl<|ll 0 (i6 a1.Kind) isAgg3<|?_
    obtain ⟨t29, h_t29, H37⟩ := Je H36; clear H36
    refine Yy (k140 h_t29) call140 rfl rfl rfl ?_
    obtain ⟨t30, h_t30, H38⟩ := Je H37; clear H37
    refine Yy (k145 h_t30) call145 rfl rfl rfl ?_
    obtain ⟨t31, h_t31, H39⟩ := Je H38; clear H38
    refine lv (Yj rfl rfl h_t31)<|ag (str t31)<|Jd<|Ja<|?_
    obtain ⟨t32, h_t32, H40⟩ := Je H39; clear H39
    refine lv (J1 rfl rfl h_t32)<|mv (i6 t32)<|Jd<|?_
    exact cl (t31, t32) () m4 [0] (by exact ⟨(by subst hn4; exact H40), trivial⟩)
   ·refine Xa ?_
    exact cl x5_6 () 0 [0] (by exact ⟨H41, trivial⟩)
  ·rintro x5_2 _ gg H24 _
   try dsimp only at H24
   try dsimp only
   refine Jc<|Jc<|Ja<|lf runUnderlying38 rfl sizeOf31 rfl<|ll 0 v1_3 isAgg31<|lv (Vy underlying31 rfl f1_3 rfl)<|mv (i6 0)<|Jd<|Ju<|c_dr 0<|?_
   try dsimp only [z1, z2, z3, z4, z5, z6, z7, z8]
   refine Za (σ := (List UInt8) × Int) (τ := Unit) (fun next3 s => Uv a0 a1 next3 s.1 s.2) (fun s t => [(0, .bool a0), (5, str s.1), (34, v1_3), (35, i6 (a1.Ratios.length : Int)), (36, i6 s.2)]) (fun s t => []) (fun s t => True) (x5_2, 0) () [] H24 (by exact trivial) (by exact ⟨rfl, rfl, rfl, rfl, rfl, trivial⟩) (by decide) rfl ?_
   rintro ⟨x5_4, x36_2⟩ _ m3 gg H25 _
   clear H24
   try dsimp only at H25
   generalize hn3 : it (fun next3 s => Uv a0 a1 next3 s.1 s.2) m3 = next3 at H25
   try dsimp only
   refine Jc<|Ja<|lv (Xz rfl rfl)<|Jd<|Jc<|?_
   revert H25
   refine ci (decide (x36_2 < (a1.Ratios.length : Int))) rfl (fun hb H26=>?_) fun hb H33=>?_
   ·refine Jk<|Jc<|Ju<|Jc<|Ja<|?_
    obtain ⟨t38, h_t38, H27⟩ := Je H26; clear H26
    refine lv (Xc underlying31 sizeOf74 rfl rfl f1_3 h_t38)<|Xi (fun w hF hS => Yz (f := Jn) (i := x36_2) (sz := 2) (j := 0) (vs := [i6 t38.Num, i6 t38.Den]) isAgg74 sizeOf74 rfl rfl (f1_3.row (hw.now hF)) h_t38 rfl) rfl rfl rfl<|?_
    refine X1 (cs := [i6 0, i6 0]) zeroValue74 rfl rfl rfl (fun b3 => ?_)
    refine st (i := 0) [i6 t38.Num, i6 t38.Den] [i6 t38.Num, i6 t38.Den] sizeOf74 rfl rfl<|Jd<|?_
    exact Qx (Kd.p :: Kd.p :: Kd.p :: Kd.d [0] _ :: Kd.d [] _ :: Kd.p :: Kd.p :: Kd.d [0] _ :: Kd.d [] _ :: Kd.p :: Kd.p :: Kd.p :: []) 0 mixed (by
     refine dm (str x5_4)<|dm (.bool a0)<|dv (J8 runUnderlying74 rfl sizeOf3 rfl rfl)<|dl (i6 t38.Num) isAgg3<|?_
     have h_t44 := Jy H27
     have H28 := Jq H27
     refine Jca (k145 h_t44) call145 rfl rfl<|dm (.bool a0)<|dv (J8 runUnderlying74 rfl sizeOf3 rfl rfl)<|dl (i6 t38.Den) isAgg3<|?_
     have h_t48 := Jy H28
     have H29 := Jq H28
     refine Jca (k145 h_t48) call145 rfl rfl ?_
     have h_t49 := Jy H29
     have H30 := Jq H29
     refine dv (Yj rfl rfl h_t49) ?_
     have h_t50 := Jy H30
     have H31 := Jq H30
     refine dv (Yj rfl rfl h_t50)<|Vf rfl rfl (Xd (v := str (val (Vd x5_4 (val (Vd (val (X2 a0 t38.Num 4)) (val (X2 a0 t38.Den 4))))))) rfl)<|Yw<|Ja<|?_
     obtain ⟨t51, h_t51, H32⟩ := Je H31; clear H31
     refine lv (J1 rfl rfl h_t51)<|mv (i6 t51)<|Jd<|?_
     exact cl ((val (Vd x5_4 (val (Vd (val (X2 a0 t38.Num 4)) (val (X2 a0 t38.Den 4)))))), t51) () m3 [] (by exact ⟨(by subst hn3; exact H32), trivial⟩)
     ) (by kernel_rfl)
   ·refine Xa<|Jc<|Ja<|mv (str x5_4)<|ag (str x5_4)<|Jd<|Jl<|?_
    obtain rfl := sj H33
    exact r1 (str x5_4)
theorem k84 {a0 : Tg} {v0_2 : Value} {v0_3 : Value} {v0_4 : Value} {r : Int} {w : World} {h : J3} (hw : Know h w Zo) (f0_2 : FrS h 1 v0_2 (a0.Ints.map Q1)) (f0_3 : FrS h 2 v0_3 (a0.Ratios.map Jn)) (f0_4 : FrN h 6 v0_4 g_tag_Entry a0.Entries) (H : Jib a0 = some r) : Does prog 84 (List.toArray [.agg #[i6 a0.Kind, str a0.Text, v0_2, v0_3, v0_4]]) w (fun v w' => v = (i6 r) ∧ Grow w w') := by
 refine enter (n := 13) func84 rfl rfl rfl Zo [] (Sat.nil _ _)<|Jc<|Ja<|?_
 refine Wj (cs := [i6 a0.Kind, str a0.Text, v0_2, v0_3, v0_4]) rfl rfl rfl rfl (fun b1 => ?_)
 refine ag (i6 0)<|Jd<|Jc<|Jc<|Ja<|lf runUnderlying38 rfl sizeOf3 rfl<|ll 0 (i6 a0.Kind) isAgg3<|lv (Ql rfl rfl)<|Jd<|?_
 revert H
 refine ci (decide (a0.Kind = 13)) rfl (fun hb H6=>?_) fun hb H7=>?_
 ·refine Jc<|Ja<|ag (i6 1)<|Jd<|Jl<|?_
  obtain rfl := sj H6
  exact r1 (i6 1)
 ·refine Jk<|Jc<|?_
  exact Qx (Kd.d [0] _ :: Kd.d [] _ :: Kd.p :: Kd.p :: Kd.d [0] _ :: Kd.d [] _ :: Kd.p :: Kd.p :: []) 0 mixed (by
   refine Jdy (i := 0) (vs := [i6 a0.Kind, str a0.Text, v0_2, v0_3, v0_4]) isAgg38 sizeOf38 rfl rfl rfl rfl ?_
   have h_t7 := Jy H7
   have H8 := Jq H7
   refine Jd5 (fun w L' hF hS hi => k82 (Jp w) (f0_2.mono (hw.now hF)) (f0_3.mono (hw.now hF)) (f0_4.mono (hw.now hF)) h_t7) call82 rfl rfl<|dv (Xn underlying9 rfl)<|dv (J8 runUnderlying38 rfl sizeOf3 rfl rfl)<|dl (i6 a0.Kind) isAgg3<|?_
   have h_t11 := Jy H8
   have H9 := Jq H8
   refine Jca (k140 h_t11) call140 rfl rfl ?_
   have h_t12 := Jy H9
   have H10 := Jq H9
   refine dv (r_quoG rfl rfl h_t12)<|Vf rfl rfl (Xd (v := i6 (val (gQuo ((val (Zx false a0)).length : Int) (val (Je4 a0.Kind))))) rfl)<|Yw<|Jl<|?_
   obtain rfl := sj H10
   exact r1 (i6 (val (gQuo ((val (Zx false a0)).length : Int) (val (Je4 a0.Kind)))))
   ) (by kernel_rfl)
theorem k85 {a0 : (List UInt8)} {a1 : Int} {r : (List UInt8)} (H : gRep a0 a1 = some r) : Ret prog 85 [str a0, i6 a1] (str r) :=
  rep_ret (ρ := Go.Proofs.Tryz.lays105_ren) Go.Proofs.Tryz.lays105 Go.Proofs.Tryz.Builder_Extra_105 H
theorem k86 {a0 : Tk} {pb0 : Nat} {a1 : (List UInt8)} {r : Int × Tk} {w : World} {h : J3} {S : Nat → Prop} (hcs : (Jf pb0 [str a0.s_, .bool a0.big_] 142).P S w) (hlt : ∀ b, S b → b < w.heap.size) (hw : Know h w S) (H : Ja8 a0 a1 = some r) : Does prog 86 (List.toArray [.pointer (some ⟨pb0, 0, none⟩), str a1]) w (fun v w' => ∃ x : Unit, v = (i6 r.1) ∧ Turn w w' S (Jf pb0 [str r.2.s_, .bool r.2.big_] 142)) := by
 refine enter (n := 34) func86 rfl rfl rfl S [Jf pb0 [str a0.s_, .bool a0.big_] 142] (Sat.one hcs hlt)<|Jc<|Ja<|ag (i6 0)<|Jd<|?_
 refine Qj (r := r) (σ := (List UInt8)) (τ := Unit) (fun s => Jay a0 a1 s) (fun s t => [(0, .pointer (some ⟨pb0, 0, none⟩)), (1, str a1)]) (fun s t => [Jf pb0 [str s, .bool a0.big_] 142]) (fun s t => True) ?_ ?_
 ·refine Jc<|Ja<|mv (.pointer (some ⟨pb0, 0, none⟩))<|lv (Jh rfl)<|lf runUnderlying142 rfl sizeOf9 rfl<|ll 0 (str a0.s_) isAgg9<|lv (Xn underlying9 rfl)<|?_
  obtain ⟨t11, h_t11, H9⟩ := Je H; clear H
  refine lv (r_remG rfl rfl h_t11)<|lv (Ql rfl rfl)<|Jd<|?_
  revert H9
  refine ci (decide (t11 = 1)) rfl (fun hb H10=>?_) fun hb H12=>?_
  ·refine Ja<|mv (.pointer (some ⟨pb0, 0, none⟩))<|lv (Jh rfl)<|lf runUnderlying142 rfl sizeOf9 rfl<|ll 0 (str a0.s_) isAgg9<|?_
   obtain ⟨t17, h_t17, H11⟩ := Je H10; clear H10
   refine lv (Yj rfl rfl h_t17)<|lv (Jh rfl)<|lf runUnderlying142 rfl sizeOf9 rfl<|st (i := 0) [str t17] [str t17, .bool a0.big_] sizeOf9 rfl rfl<|Jd<|?_
   exact cl t17 () 0 [0] (by exact ⟨H11, trivial⟩)
  ·refine Jk ?_
   exact cl a0.s_ () 0 [0] (by exact ⟨H12, trivial⟩)
 ·rintro m _ gg H7 _
  try dsimp only at H7
  try dsimp only
  refine Jc<|Ja<|mv (.pointer (some ⟨pb0, 0, none⟩))<|lv (Jh rfl)<|lf runUnderlying142 rfl sizeOf9 rfl<|ll 0 (str m) isAgg9<|lv (Xn underlying9 rfl)<|ag (i6 (m.length : Int))<|Jd<|Jc<|Ja<|mv (.pointer (some ⟨pb0, 0, none⟩))<|lv (Jh rfl)<|lf runUnderlying142 rfl sizeOf9 rfl<|ll 0 (str m) isAgg9<|mv (str a1)<|?_
  obtain ⟨t30, h_t30, H8⟩ := Je H7; clear H7
  refine lv (Yj rfl rfl h_t30)<|lv (Jh rfl)<|lf runUnderlying142 rfl sizeOf9 rfl<|st (i := 0) [str t30] [str t30, .bool a0.big_] sizeOf9 rfl rfl<|Jd<|Jc<|Ja<|mv (i6 (m.length : Int))<|ag (i6 (m.length : Int))<|Jd<|Jl<|?_
  obtain rfl := sj H8
  refine ret1 (v := i6 (m.length : Int)) rfl rfl (X7 () (i := 0) rfl rfl (Imp.refl _))
theorem k151_it (mm : Nat) : ∀ {a0 : Tk} {pb0 : Nat} {a1 : (List Ta)} {v1 : Value} {r : Int × Tk} {w : World} {h : J3} {S : Nat → Prop} (hcs : (Jf pb0 [str a0.s_, .bool a0.big_] 142).P S w) (hlt : ∀ b, S b → b < w.heap.size) (hw : Know h w S) (f1 : FrN h 6 v1 g_tag_Entry a1) (H : it (fun (self : (Tk × (List Ta)) → Option (Int × Tk)) (s : Tk × (List Ta)) => Yx self s.1 s.2) mm (a0, a1) = some r), Does prog 151 (List.toArray [.pointer (some ⟨pb0, 0, none⟩), v1]) w (fun v w' => ∃ x : Unit, v = (i6 r.1) ∧ Turn w w' S (Jf pb0 [str r.2.s_, .bool r.2.big_] 142)) := by
 induction mm with
 | zero => intros; rename_i H; exact absurd H (by simp [it])
 | succ mm ih =>
  intro a0 pb0 a1 v1 r w h S hcs hlt hw f1 H
  replace H : Yx (it (fun (self : (Tk × (List Ta)) → Option (Int × Tk)) (s : Tk × (List Ta)) => Yx self s.1 s.2) mm) a0 a1 = some r := H
  generalize it (fun (self : (Tk × (List Ta)) → Option (Int × Tk)) (s : Tk × (List Ta)) => Yx self s.1 s.2) mm = self at H ih
  refine enter (n := 109) func151 rfl rfl rfl S [Jf pb0 [str a0.s_, .bool a0.big_] 142] (Sat.one hcs hlt)<|Jc<|Ja<|ag (i6 0)<|Jd<|Jc<|Ja<|mv (.pointer (some ⟨pb0, 0, none⟩))<|mv v1<|lv (Xs underlying36 rfl f1)<|?_
  obtain ⟨t13, h_t13, H40⟩ := Je H; clear H
  refine lv (Wu rfl rfl h_t13) ?_
  obtain ⟨t14, h_t14, H41⟩ := Je H40; clear H40
  refine lv (J1 rfl rfl h_t14) ?_
  obtain ⟨t15, h_t15, H42⟩ := Je H41; clear H41
  refine lv (J1 rfl rfl h_t15) ?_
  obtain ⟨t16, h_t16, H43⟩ := Je H42; clear H42
  refine Yy (k85 h_t16) call85 rfl rfl rfl ?_
  obtain ⟨t17, h_t17, H44⟩ := Je H43; clear H43
  refine Qe (J4 (i := 0) (rds := []) (G := fun x : Unit => i6 t17.1) (C := fun x : Unit => Jf pb0 [str t17.2.s_, .bool t17.2.big_] 142) rfl (fun w L' S hF hS hi hp hlt ho hA => k86 hp hlt (Qr w S)  h_t17) call86 rfl) rfl rfl rfl (fun _ => ?_)
  refine ag (i6 t17.1)<|Jd<|Jc<|Ja<|mv (.pointer (some ⟨pb0, 0, none⟩))<|mv (i6 t17.1)<|mv v1<|lv (Xs underlying36 rfl f1)<|?_
  obtain ⟨t22, h_t22, H45⟩ := Je H44; clear H44
  refine Qe (J4 (i := 0) (rds := []) (G := fun x : Unit => .tuple #[]) (C := fun x : Unit => Jf pb0 [str t22.s_, .bool t22.big_] 142) rfl (fun w L' S hF hS hi hp hlt ho hA => k83 hp hlt (Qr w S)  h_t22) call83 rfl) rfl rfl rfl (fun _ => ?_)
  refine Jd<|Jc<|Jc<|Ja<|mv v1<|lv (Xs underlying36 rfl f1)<|mv (i6 0)<|Jd<|Ju<|?_
  refine Za (σ := Int × (List UInt8) × Bool) (τ := Unit) (fun next1 s => Zp a1 self t17 next1 s.1 s.2.1 s.2.2) (fun s t => [(0, .pointer (some ⟨pb0, 0, none⟩)), (5, i6 t17.1), (23, v1), (24, i6 (a1.length : Int)), (25, i6 s.1)]) (fun s t => [Jf pb0 [str s.2.1, .bool s.2.2] 142]) (fun s t => True) (0, t22.s_, t22.big_) () [0] H45 (by exact trivial) (by exact ⟨rfl, rfl, rfl, rfl, rfl, trivial⟩) (by decide) rfl ?_
  rintro ⟨x25_2, m_3, m_4⟩ _ m1 gg H46 _
  clear H45
  try dsimp only at H46
  generalize hn1 : it (fun next1 s => Zp a1 self t17 next1 s.1 s.2.1 s.2.2) m1 = next1 at H46
  try dsimp only
  refine Jc<|Ja<|lv (Xz rfl rfl)<|Jd<|Jc<|?_
  revert H46
  refine ci (decide (x25_2 < (a1.length : Int))) rfl (fun hb H47=>?_) fun hb H78=>?_
  ·refine Jk ?_
   refine Qj (r := r) (σ := (List UInt8) × Bool) (τ := Unit) (fun s => Wf x25_2 next1 s.1 s.2) (fun s t => [(0, .pointer (some ⟨pb0, 0, none⟩)), (5, i6 t17.1), (23, v1), (24, i6 (a1.length : Int)), (25, i6 x25_2)]) (fun s t => [Jf pb0 [str s.1, .bool s.2] 142]) (fun s t => True) ?_ ?_
   ·refine Ju<|Jc<|Ja<|mv (i6 x25_2)<|?_
    obtain ⟨t28, h_t28, H50⟩ := Je H47; clear H47
    refine lv (Xc underlying36 sizeOf83 rfl rfl f1.frs (f1.ix h_t28))<|Xi (fun w hF hS => Yz (f := (elC h v1 6)) (i := x25_2) (sz := 6) (j := 0) (vs := [i6 t28.Tag, i6 t28.Value.Kind, str t28.Value.Text, (Qz h v1 6 (Int.toNat x25_2) 3), (Qz h v1 6 (Int.toNat x25_2) 4), (Qz h v1 6 (Int.toNat x25_2) 5)]) isAgg83 sizeOf83 rfl rfl (f1.frs.row (hw.now hF)) (f1.ix h_t28) (Jfp (Zi (f1.at h_t28)) rfl)) rfl rfl rfl<|?_
    refine X1 (cs := [i6 0, i6 0, str [], .slice none 0 0, .slice none 0 0, .slice none 0 0]) zeroValue83 rfl rfl rfl (fun b1 => ?_)
    refine ag (i6 x25_2)<|Jck (i := 1) (vs := [i6 t28.Tag, i6 t28.Value.Kind, str t28.Value.Text, (Qz h v1 6 (Int.toNat x25_2) 3), (Qz h v1 6 (Int.toNat x25_2) 4), (Qz h v1 6 (Int.toNat x25_2) 5)]) (cs' := [i6 t28.Tag, i6 t28.Value.Kind, str t28.Value.Text, (Qz h v1 6 (Int.toNat x25_2) 3), (Qz h v1 6 (Int.toNat x25_2) 4), (Qz h v1 6 (Int.toNat x25_2) 5)]) sizeOf83 rfl rfl rfl rfl rfl rfl (by simp only [List.all_cons, List.all_nil, (show FrN h 6 (Qz h v1 6 (Int.toNat x25_2) 5) g_tag_Entry t28.Value.Entries from (Qc (Jj (f1.at h_t28)))).one, (show FrS h 1 (Qz h v1 6 (Int.toNat x25_2) 3) (t28.Value.Ints.map Q1) from (Qo (Jj (f1.at h_t28)))).one, (show FrS h 2 (Qz h v1 6 (Int.toNat x25_2) 4) (t28.Value.Ratios.map Jn) from (Qn (Jj (f1.at h_t28)))).one] <;> rfl) rfl rfl<|Jd<|Jc<|Ja<|mv (i6 t17.1)<|?_
    obtain ⟨t31, h_t31, H51⟩ := Je H50; clear H50
    refine lv (J1 rfl rfl h_t31)<|mv (i6 x25_2)<|?_
    obtain ⟨t33, h_t33, H52⟩ := Je H51; clear H51
    refine lv (Wu rfl rfl h_t33) ?_
    obtain ⟨t34, h_t34, H53⟩ := Je H52; clear H52
    refine lv (J1 rfl rfl h_t34)<|ag (i6 t34)<|Jd<|Jc<|Ja<|mv (.pointer (some ⟨pb0, 0, none⟩))<|mv (i6 t34)<|lf runUnderlying83 rfl sizeOf3 rfl<|ll 1 (i6 t28.Tag) isAgg3<|?_
    obtain ⟨t39, h_t39, H54⟩ := Je H53; clear H53
    refine Qe (J4 (i := 0) (rds := []) (G := fun x : Unit => .tuple #[]) (C := fun x : Unit => Jf pb0 [str t39.s_, .bool t39.big_] 142) rfl (fun w L' S hF hS hi hp hlt ho hA => k83 (a0 := (⟨m_3, m_4⟩ : Tk)) hp hlt (Qr w S)  h_t39) call83 rfl) rfl rfl rfl (fun _ => ?_)
    refine Jd<|Jc<|Ja<|mv (.pointer (some ⟨pb0, 0, none⟩))<|mv (i6 t34)<|?_
    obtain ⟨t42, h_t42, H55⟩ := Je H54; clear H54
    refine lv (J1 rfl rfl h_t42)<|lf runUnderlying83 rfl sizeOf38 rfl<|lf runUnderlying38 rfl sizeOf3 rfl<|ll 1 (i6 t28.Value.Kind) isAgg3<|?_
    obtain ⟨t46, h_t46, H56⟩ := Je H55; clear H55
    refine Qe (J4 (i := 0) (rds := []) (G := fun x : Unit => .tuple #[]) (C := fun x : Unit => Jf pb0 [str t46.s_, .bool t46.big_] 142) rfl (fun w L' S hF hS hi hp hlt ho hA => k83 hp hlt (Qr w S)  h_t46) call83 rfl) rfl rfl rfl (fun _ => ?_)
    refine Jd<|Jc<|Ja<|mv (.pointer (some ⟨pb0, 0, none⟩))<|mv (i6 t34)<|?_
    obtain ⟨t49, h_t49, H57⟩ := Je H56; clear H56
    refine lv (J1 rfl rfl h_t49)<|lf runUnderlying83 rfl sizeOf38 rfl<|Q4 (i := 1) (vs := [i6 t28.Value.Kind, str t28.Value.Text, (Qz h v1 6 (Int.toNat x25_2) 3), (Qz h v1 6 (Int.toNat x25_2) 4), (Qz h v1 6 (Int.toNat x25_2) 5)]) isAgg38 sizeOf38 rfl rfl rfl rfl rfl<|?_
    obtain ⟨t52, h_t52, H58⟩ := Je H57; clear H57
    refine Qd (fun w hF hS => k84 (Jp w) ((show FrS h 1 (Qz h v1 6 (Int.toNat x25_2) 3) (t28.Value.Ints.map Q1) from (Qo (Jj (f1.at h_t28)))).mono (hw.now hF)) ((show FrS h 2 (Qz h v1 6 (Int.toNat x25_2) 4) (t28.Value.Ratios.map Jn) from (Qn (Jj (f1.at h_t28)))).mono (hw.now hF)) ((show FrN h 6 (Qz h v1 6 (Int.toNat x25_2) 5) g_tag_Entry t28.Value.Entries from (Qc (Jj (f1.at h_t28)))).mono (hw.now hF)) h_t52) call84 rfl rfl rfl ?_
    obtain ⟨t53, h_t53, H59⟩ := Je H58; clear H58
    refine Qe (J4 (i := 0) (rds := []) (G := fun x : Unit => .tuple #[]) (C := fun x : Unit => Jf pb0 [str t53.s_, .bool t53.big_] 142) rfl (fun w L' S hF hS hi hp hlt ho hA => k83 hp hlt (Qr w S)  h_t53) call83 rfl) rfl rfl rfl (fun _ => ?_)
    refine Jd<|Jc<|Jc<|Ja<|lf runUnderlying83 rfl sizeOf38 rfl<|lf runUnderlying38 rfl sizeOf3 rfl<|ll 1 (i6 t28.Value.Kind) isAgg3<|lv (Ql rfl rfl)<|Jd<|?_
    revert H59
    refine ci (decide (t28.Value.Kind = 13)) rfl (fun hb H60=>?_) fun hb H64=>?_
    ·refine Jc<|Ja<|mv (.pointer (some ⟨pb0, 0, none⟩))<|mv (i6 t34)<|?_
     obtain ⟨t60, h_t60, H61⟩ := Je H60; clear H60
     refine lv (J1 rfl rfl h_t60)<|mv (.pointer (some ⟨pb0, 0, none⟩))<|lf runUnderlying83 rfl sizeOf38 rfl<|lf runUnderlying38 rfl sizeOf36 rfl<|ll 1 (Qz h v1 6 (Int.toNat x25_2) 5) isAgg36<|?_
     obtain ⟨t65, h_t65, H62⟩ := Je H61; clear H61
     refine Qe (J4 (i := 0) (rds := []) (G := fun x : Unit => i6 t65.1) (C := fun x : Unit => Jf pb0 [str t65.2.s_, .bool t65.2.big_] 142) rfl (fun w L' S hF hS hi hp hlt ho hA => ih hp hlt (Qr w S) ((show FrN h 6 (Qz h v1 6 (Int.toNat x25_2) 5) g_tag_Entry t28.Value.Entries from (Qc (Jj (f1.at h_t28)))).mono (hw.but hF ho)) h_t65) call151 rfl) rfl rfl rfl (fun _ => ?_)
     obtain ⟨t66, h_t66, H63⟩ := Je H62; clear H62
     refine Qe (J4 (i := 0) (rds := []) (G := fun x : Unit => .tuple #[]) (C := fun x : Unit => Jf pb0 [str t66.s_, .bool t66.big_] 142) rfl (fun w L' S hF hS hi hp hlt ho hA => k83 hp hlt (Qr w S)  h_t66) call83 rfl) rfl rfl rfl (fun _ => ?_)
     refine Jd<|Xa<|?_
     exact cl (t66.s_, t66.big_) () 0 [0] (by exact ⟨H63, trivial⟩)
    ·refine Jk<|Jc<|?_
     exact Qx (Kd.p :: Kd.p :: Kd.p :: Kd.d [0] _ :: Kd.p :: Kd.d [1] _ :: Kd.d [] _ :: Kd.p :: []) 0 mixed (by
      refine dm (.pointer (some ⟨pb0, 0, none⟩))<|dv (Jh rfl)<|dv (J8 runUnderlying142 rfl sizeOf4 rfl rfl)<|dl (.bool t53.big_) isAgg4<|dv (J8 runUnderlying83 rfl sizeOf38 rfl rfl)<|Jdy (i := 1) (vs := [i6 t28.Value.Kind, str t28.Value.Text, (Qz h v1 6 (Int.toNat x25_2) 3), (Qz h v1 6 (Int.toNat x25_2) 4), (Qz h v1 6 (Int.toNat x25_2) 5)]) isAgg38 sizeOf38 rfl rfl rfl rfl<|?_
      have h_t73 := Jy H64
      have H65 := Jq H64
      refine Jd5 (fun w L' hF hS hi => k82 (Jp w) ((show FrS h 1 (Qz h v1 6 (Int.toNat x25_2) 3) (t28.Value.Ints.map Q1) from (Qo (Jj (f1.at h_t28)))).mono (hw.now hF)) ((show FrS h 2 (Qz h v1 6 (Int.toNat x25_2) 4) (t28.Value.Ratios.map Jn) from (Qn (Jj (f1.at h_t28)))).mono (hw.now hF)) ((show FrN h 6 (Qz h v1 6 (Int.toNat x25_2) 5) g_tag_Entry t28.Value.Entries from (Qc (Jj (f1.at h_t28)))).mono (hw.now hF)) h_t73) call82 rfl rfl<|Vf rfl rfl (Xd (v := str (val (Zx t53.big_ t28.Value))) rfl)<|Yw<|Jc<|Jc<|Ja<|mv (str (val (Zx t53.big_ t28.Value)))<|lv (Xn underlying9 rfl)<|lv (Yn rfl rfl)<|Jd<|?_
      revert H65
      refine ci (decide (4 < ((val (Zx t53.big_ t28.Value)).length : Int))) rfl (fun hb H66=>?_) fun hb H70=>?_
      ·refine Jc<|Ja<|mv (.pointer (some ⟨pb0, 0, none⟩))<|mv (i6 t34)<|?_
       obtain ⟨t79, h_t79, H67⟩ := Je H66; clear H66
       refine lv (J1 rfl rfl h_t79)<|mv (.pointer (some ⟨pb0, 0, none⟩))<|mv (str (val (Zx t53.big_ t28.Value)))<|?_
       obtain ⟨t82, h_t82, H68⟩ := Je H67; clear H67
       refine Qe (J4 (i := 0) (rds := []) (G := fun x : Unit => i6 t82.1) (C := fun x : Unit => Jf pb0 [str t82.2.s_, .bool t82.2.big_] 142) rfl (fun w L' S hF hS hi hp hlt ho hA => k86 hp hlt (Qr w S)  h_t82) call86 rfl) rfl rfl rfl (fun _ => ?_)
       obtain ⟨t83, h_t83, H69⟩ := Je H68; clear H68
       refine Qe (J4 (i := 0) (rds := []) (G := fun x : Unit => .tuple #[]) (C := fun x : Unit => Jf pb0 [str t83.s_, .bool t83.big_] 142) rfl (fun w L' S hF hS hi hp hlt ho hA => k83 hp hlt (Qr w S)  h_t83) call83 rfl) rfl rfl rfl (fun _ => ?_)
       refine Jd<|Xa<|?_
       exact cl (t83.s_, t83.big_) () 0 [0] (by exact ⟨H69, trivial⟩)
      ·refine Jk ?_
       exact Qx (Kd.p :: Kd.p :: Kd.p :: Kd.p :: Kd.d [0] _ :: Kd.p :: Kd.p :: Kd.p :: Kd.p :: Kd.p :: Kd.p :: Kd.p :: Kd.p :: Kd.d [0] _ :: Kd.p :: Kd.p :: Kd.p :: Kd.p :: Kd.p :: Kd.p :: Kd.p :: Kd.p :: Kd.p :: Kd.st 106 0 [_, _] 142 :: []) 0 mixed (by
        refine dm (.pointer (some ⟨pb0, 0, none⟩))<|dm (.pointer (some ⟨pb0, 0, none⟩))<|dv (Jh rfl)<|dv (J8 runUnderlying142 rfl sizeOf9 rfl rfl)<|dl (str t53.s_) isAgg9<|dm (i6 t34)<|?_
        have h_t90 := Jy H70
        have H71 := Jq H70
        refine dv (J1 rfl rfl h_t90) ?_
        have h_t91 := Jy H71
        have H72 := Jq H71
        refine dv (Un underlying9 rfl rfl h_t91)<|dm (str (val (Zx t53.big_ t28.Value)))<|?_
        have h_t93 := Jy H72
        have H73 := Jq H72
        refine dv (Yj rfl rfl h_t93)<|dm (.pointer (some ⟨pb0, 0, none⟩))<|dv (Jh rfl)<|dv (J8 runUnderlying142 rfl sizeOf9 rfl rfl)<|dl (str t53.s_) isAgg9<|dm (i6 t34)<|?_
        have h_t99 := Jy H73
        have H74 := Jq H73
        refine dv (J1 rfl rfl h_t99)<|dm (str (val (Zx t53.big_ t28.Value)))<|dv (Xn underlying9 rfl)<|?_
        have h_t102 := Jy H74
        have H75 := Jq H74
        refine dv (J1 rfl rfl h_t102) ?_
        have h_t103 := Jy H75
        have H76 := Jq H75
        refine dv (Uc underlying9 rfl rfl h_t103) ?_
        have h_t104 := Jy H76
        have H77 := Jq H76
        refine dv (Yj rfl rfl h_t104)<|dv (Jh rfl)<|dv (J8 runUnderlying142 rfl sizeOf9 rfl rfl)<|d_store (i := 0) (vs := [str (val (Vd (val (Vd (val (Q7 t53.s_ 0 (val (gI (t34 + 8))))) (val (Zx t53.big_ t28.Value)))) (val (Q7 t53.s_ (val (gI ((val (gI (t34 + 8))) + ((val (Zx t53.big_ t28.Value)).length : Int)))) t53.s_.length))))]) (cs' := [str (val (Vd (val (Vd (val (Q7 t53.s_ 0 (val (gI (t34 + 8))))) (val (Zx t53.big_ t28.Value)))) (val (Q7 t53.s_ (val (gI ((val (gI (t34 + 8))) + ((val (Zx t53.big_ t28.Value)).length : Int)))) t53.s_.length)))), .bool t53.big_]) sizeOf9 rfl rfl rfl rfl rfl rfl rfl rfl rfl<|Yw<|?_
        exact cl ((val (Vd (val (Vd (val (Q7 t53.s_ 0 (val (gI (t34 + 8))))) (val (Zx t53.big_ t28.Value)))) (val (Q7 t53.s_ (val (gI ((val (gI (t34 + 8))) + ((val (Zx t53.big_ t28.Value)).length : Int)))) t53.s_.length)))), t53.big_) () 0 [0] (by exact ⟨H77, trivial⟩)
        ) (by kernel_rfl)
      ) (by kernel_rfl)
   ·rintro ⟨m_5, m_6⟩ _ gg H48 _
    try dsimp only at H48
    try dsimp only
    refine Ja ?_
    obtain ⟨t107, h_t107, H49⟩ := Je H48; clear H48
    refine lv (J1 rfl rfl h_t107)<|mv (i6 t107)<|Jd<|?_
    exact cl (t107, m_5, m_6) () m1 [0] (by exact ⟨(by subst hn1; exact H49), trivial⟩)
  ·refine Xa<|Jc<|Ja<|mv (i6 t17.1)<|ag (i6 t17.1)<|Jd<|Jl<|?_
   obtain rfl := sj H78
   refine ret1 (v := i6 t17.1) rfl rfl (X7 () (i := 0) rfl rfl (Imp.refl _))
theorem k151 {a0 : Tk} {pb0 : Nat} {a1 : (List Ta)} {v1 : Value} {r : Int × Tk} {w : World} {h : J3} {S : Nat → Prop} (hcs : (Jf pb0 [str a0.s_, .bool a0.big_] 142).P S w) (hlt : ∀ b, S b → b < w.heap.size) (hw : Know h w S) (f1 : FrN h 6 v1 g_tag_Entry a1) (H : Jcp a0 a1 = some r) : Does prog 151 (List.toArray [.pointer (some ⟨pb0, 0, none⟩), v1]) w (fun v w' => ∃ x : Unit, v = (i6 r.1) ∧ Turn w w' S (Jf pb0 [str r.2.s_, .bool r.2.big_] 142)) := by
 obtain ⟨mm, hm⟩ := Je1 (show Zs (fun (self : (Tk × (List Ta)) → Option (Int × Tk)) (s : Tk × (List Ta)) => Yx self s.1 s.2) (a0, a1) = some r from H)
 exact k151_it mm hcs hlt hw f1 hm
theorem k89 {a0 : Tf} {v0_1 : Value} {r : (List UInt8)} {w : World} {h : J3} (hw : Know h w Zo) (f0_1 : FrN h 1 v0_1 gs_tag_Entry a0.Dirs) (H : Jfc a0 = some r) : Does prog 89 (List.toArray [.agg #[.bool a0.Big, v0_1]]) w (fun v w' => v = (str r) ∧ Grow w w') := by
 refine enter (n := 59) func89 rfl rfl rfl Zo [] (Sat.nil _ _)<|Jc<|Ja<|?_
 refine Wj (cs := [.bool a0.Big, v0_1]) rfl rfl rfl rfl (fun b2 => ?_)
 refine ag (str [])<|Jd<|Jc<|Ja<|lf runUnderlying24 rfl sizeOf4 rfl<|ll 0 (.bool a0.Big) isAgg4<|lv (Xv (pl := #[(0, 1), (1, 1)]) (ps := [(1, .bool a0.Big)]) (cells := #[str [], .bool a0.Big]) zeroValue142 runUnderlying142 (fun w => by kernel_rfl) rfl rfl)<|?_
 refine Wj (cs := [str [], .bool a0.Big]) rfl rfl rfl rfl (fun b3 => ?_)
 refine ag (.pointer (some ⟨b3, 0, none⟩))<|Jd<|Jc<|Ja<|mv (.pointer (some ⟨b3, 0, none⟩))<|lv (Jh rfl)<|lf runUnderlying142 rfl sizeOf9 rfl<|st (i := 1) [str [73, 73]] [str [73, 73], .bool a0.Big] sizeOf9 rfl rfl<|Jd<|?_
 refine Qj (r := r) (σ := (List UInt8)) (τ := Unit) (fun s => Jcv a0 s) (fun s t => [(1, .pointer (some ⟨b2, 0, none⟩)), (3, .pointer (some ⟨b3, 0, none⟩))]) (fun s t => [Jf b2 [.bool a0.Big, v0_1] 24, Jf b3 [str s, .bool a0.Big] 142]) (fun s t => True) ?_ ?_
 ·refine Jc<|Ja<|lf runUnderlying24 rfl sizeOf4 rfl<|ll 0 (.bool a0.Big) isAgg4<|Jd<|?_
  revert H
  refine ci (a0.Big) rfl (fun hb H35=>?_) fun hb H36=>?_
  ·refine Ja<|mv (.pointer (some ⟨b3, 0, none⟩))<|lv (Jh rfl)<|lf runUnderlying142 rfl sizeOf9 rfl<|st (i := 1) [str [77, 77]] [str [77, 77], .bool a0.Big] sizeOf9 rfl rfl<|Jd<|?_
   exact cl [77, 77] () 0 [0, 1] (by exact ⟨H35, trivial⟩)
  ·refine Jk ?_
   exact cl [73, 73] () 0 [0, 1] (by exact ⟨H36, trivial⟩)
 ·rintro m _ gg H19 _
  try dsimp only at H19
  try dsimp only
  refine Jc ?_
  exact Qx (Kd.p :: Kd.p :: Kd.p :: Kd.d [1] _ :: Kd.p :: Kd.d [0] _ :: Kd.d [] _ :: Kd.p :: Kd.d [0] _ :: Kd.d [] _ :: Kd.p :: Kd.p :: Kd.p :: Kd.p :: Kd.st 33 1 [_, _] 142 :: []) 0 mixed (by
   refine dm (.pointer (some ⟨b3, 0, none⟩))<|dv (Jh rfl)<|dv (J8 runUnderlying142 rfl sizeOf9 rfl rfl)<|dl (str m) isAgg9<|dv (J8 runUnderlying24 rfl sizeOf4 rfl rfl)<|dl (.bool a0.Big) isAgg4<|?_
   have h_t26 := Jy H19
   have H20 := Jq H19
   refine Jca (k145 h_t26) call145 rfl rfl<|dv (J8 runUnderlying24 rfl sizeOf4 rfl rfl)<|dl (.bool a0.Big) isAgg4<|?_
   have h_t29 := Jy H20
   have H21 := Jq H20
   refine Jca (k145 h_t29) call145 rfl rfl ?_
   have h_t30 := Jy H21
   have H22 := Jq H21
   refine dv (Yj rfl rfl h_t30) ?_
   have h_t31 := Jy H22
   have H23 := Jq H22
   refine dv (Yj rfl rfl h_t31)<|dv (Jh rfl)<|dv (J8 runUnderlying142 rfl sizeOf9 rfl rfl)<|d_store (i := 1) (vs := [str (val (Vd m (val (Vd (val (X2 a0.Big 42 2)) (val (X2 a0.Big 0 4))))))]) (cs' := [str (val (Vd m (val (Vd (val (X2 a0.Big 42 2)) (val (X2 a0.Big 0 4)))))), .bool a0.Big]) sizeOf9 rfl rfl rfl rfl rfl rfl rfl rfl rfl<|Yw<|Jc<|Ja<|ag (i6 4)<|Jd<|?_
   refine Qj (r := r) (σ := (List UInt8) × Bool) (τ := Unit) (fun s => Jh5 s.1 s.2) (fun s t => [(3, .pointer (some ⟨b3, 0, none⟩))]) (fun s t => [Jf b3 [str s.1, .bool s.2] 142]) (fun s t => True) ?_ ?_
   ·refine Jc<|Ja<|lf runUnderlying24 rfl sizeOf22 rfl<|ll 0 v0_1 isAgg22<|lv (Xs underlying22 rfl f0_1)<|mv (i6 0)<|Jd<|Ju<|c_dr 0<|?_
    try dsimp only [z1, z2, z3, z4, z5, z6, z7, z8]
    refine Za (σ := Int × Int × (List UInt8) × Bool) (τ := Unit) (fun next3 s => Ut a0 next3 s.1 s.2.1 s.2.2.1 s.2.2.2) (fun s t => [(3, .pointer (some ⟨b3, 0, none⟩)), (4, i6 s.1), (35, v0_1), (36, i6 (a0.Dirs.length : Int)), (37, i6 s.2.1)]) (fun s t => [Jf b3 [str s.2.2.1, .bool s.2.2.2] 142]) (fun s t => True) (4, 0, (val (Vd m (val (Vd (val (X2 a0.Big 42 2)) (val (X2 a0.Big 0 4)))))), a0.Big) () [0] H23 (by exact trivial) (by exact ⟨rfl, rfl, rfl, rfl, rfl, trivial⟩) (by decide) rfl ?_
    rintro ⟨x4_2, x37_2, m_6, m_7⟩ _ m3 gg H25 _
    clear H23
    try dsimp only at H25
    generalize hn3 : it (fun next3 s => Ut a0 next3 s.1 s.2.1 s.2.2.1 s.2.2.2) m3 = next3 at H25
    try dsimp only
    refine Jc<|Ja<|lv (Xz rfl rfl)<|Jd<|Jc<|?_
    revert H25
    refine ci (decide (x37_2 < (a0.Dirs.length : Int))) rfl (fun hb H26=>?_) fun hb H34=>?_
    ·refine Jk<|Jc<|Ju<|Jc<|Ja<|?_
     obtain ⟨t39, h_t39, H27⟩ := Je H26; clear H26
     refine lv (Xc underlying22 sizeOf36 rfl rfl f0_1.frs (f0_1.ix h_t39))<|Xi (fun w hF hS => Xo (f := (elC h v0_1 1)) (i := x37_2) (sz := 1) (j := 0) (v := (Qz h v0_1 1 (Int.toNat x37_2) 0)) isAgg36 rfl rfl (f0_1.frs.row (hw.now hF)) (f0_1.ix h_t39) (Jei (Ua (f0_1.at h_t39)) rfl)) rfl rfl rfl<|ag ((Qz h v0_1 1 (Int.toNat x37_2) 0))<|Jd<|Jc<|Ja<|mv (.pointer (some ⟨b3, 0, none⟩))<|mv ((Qz h v0_1 1 (Int.toNat x37_2) 0))<|?_
     obtain ⟨t43, h_t43, H28⟩ := Je H27; clear H27
     refine Qe (J4 (i := 0) (rds := []) (G := fun x : Unit => i6 t43.1) (C := fun x : Unit => Jf b3 [str t43.2.s_, .bool t43.2.big_] 142) rfl (fun w L' S hF hS hi hp hlt ho hA => k151 (a0 := (⟨m_6, m_7⟩ : Tk)) hp hlt (Qr w S) ((show FrN h 6 (Qz h v0_1 1 (Int.toNat x37_2) 0) g_tag_Entry t39 from (f0_1.at h_t39)).mono (hw.but hF ho)) h_t43) call151 rfl) rfl rfl rfl (fun _ => ?_)
     refine ag (i6 t43.1)<|Jd<|Jc<|Ja<|mv (.pointer (some ⟨b3, 0, none⟩))<|mv (i6 x4_2)<|mv (i6 t43.1)<|?_
     obtain ⟨t47, h_t47, H29⟩ := Je H28; clear H28
     refine Qe (J4 (i := 0) (rds := []) (G := fun x : Unit => .tuple #[]) (C := fun x : Unit => Jf b3 [str t47.s_, .bool t47.big_] 142) rfl (fun w L' S hF hS hi hp hlt ho hA => k83 hp hlt (Qr w S)  h_t47) call83 rfl) rfl rfl rfl (fun _ => ?_)
     refine Jd<|Ja<|mv (i6 t43.1)<|?_
     obtain ⟨t49, h_t49, H30⟩ := Je H29; clear H29
     refine lv (J1 rfl rfl h_t49)<|mv ((Qz h v0_1 1 (Int.toNat x37_2) 0))<|lv (Xs underlying36 rfl (show FrN h 6 (Qz h v0_1 1 (Int.toNat x37_2) 0) g_tag_Entry t39 from (f0_1.at h_t39)))<|?_
     obtain ⟨t52, h_t52, H31⟩ := Je H30; clear H30
     refine lv (Wu rfl rfl h_t52) ?_
     obtain ⟨t53, h_t53, H32⟩ := Je H31; clear H31
     refine lv (J1 rfl rfl h_t53)<|ag (i6 t53)<|Jd<|Ja<|?_
     obtain ⟨t54, h_t54, H33⟩ := Je H32; clear H32
     refine lv (J1 rfl rfl h_t54)<|mv (i6 t54)<|Jd<|?_
     exact cl (t53, t54, t47.s_, t47.big_) () m3 [0] (by exact ⟨(by subst hn3; exact H33), trivial⟩)
    ·refine Xa ?_
     exact cl (m_6, m_7) () 0 [0] (by exact ⟨H34, trivial⟩)
   ·rintro ⟨m_2, m_3⟩ _ gg H24 _
    try dsimp only at H24
    try dsimp only
    refine Jc<|Ja<|mv (.pointer (some ⟨b3, 0, none⟩))<|lv (Jh rfl)<|lf runUnderlying142 rfl sizeOf9 rfl<|ll 0 (str m_2) isAgg9<|ag (str m_2)<|Jd<|Jl<|?_
    obtain rfl := sj H24
    exact r1 (str m_2)
   ) (by kernel_rfl)
theorem k141 {a0 : Int} {r : Int × Int} (H : Jgs a0 = some r) : Ret prog 141 [i6 a0] (.tuple #[i6 r.1, i6 r.2]) := by
 refine Yu (n := 11) func141 rfl rfl rfl (fun wd => ?_)
 refine Jc<|Ja<|ag (i6 0)<|ag (i6 0)<|Jd<|Jc<|Jc<|Ja<|mv (i6 a0)<|Jd<|Ju<|Jc<|Ja<|lv (Ql rfl rfl)<|ag (.bool (decide (a0 = 1)))<|Jd<|?_
 revert H
 refine ci (decide (a0 = 1)) rfl (fun hb H7=>?_) fun hb H8=>?_
 ·refine Jc<|Ja<|ag (i6 0)<|ag (i6 255)<|Jd<|Jl<|?_
  obtain rfl := sj H7
  refine Z7 (v1 := i6 0) (v2 := i6 255) rfl rfl rfl (fin rfl)
 ·refine Jc<|Ja<|lv (Ql rfl rfl)<|ag (.bool (decide (a0 = 3)))<|Jd<|?_
  revert H8
  refine ci (decide (a0 = 3)) rfl (fun hb H9=>?_) fun hb H10=>?_
  ·refine Jc<|Ja<|ag (i6 0)<|ag (i6 65535)<|Jd<|Jl<|?_
   obtain rfl := sj H9
   refine Z7 (v1 := i6 0) (v2 := i6 65535) rfl rfl rfl (fin rfl)
  ·refine Jc<|Ja<|lv (Ql rfl rfl)<|ag (.bool (decide (a0 = 9)))<|Jd<|?_
   revert H10
   refine ci (decide (a0 = 9)) rfl (fun hb H11=>?_) fun hb H12=>?_
   ·refine Jc<|Ja<|ag (i6 (-2147483648))<|ag (i6 2147483647)<|Jd<|Jl<|?_
    obtain rfl := sj H11
    refine Z7 (v1 := i6 (-2147483648)) (v2 := i6 2147483647) rfl rfl rfl (fin rfl)
   ·refine Jk<|Jc<|Ja<|ag (i6 0)<|ag (i6 4294967295)<|Jd<|Jl<|?_
    obtain rfl := sj H12
    refine Z7 (v1 := i6 0) (v2 := i6 4294967295) rfl rfl rfl (fin rfl)
theorem ext220 (s : List UInt8) (c r : Int) (h : gIxB s c = some r) (w : World) : (callFunc 220 (List.toArray [str s, .int .u8 c])).run prog w = .ok (.value (i6 r)) w := by
  have h0 : (callFunc 220 #[str s, .int .u8 c]).run prog w = (do pure (.value (← Extern.BytealgIndexByte.indexByte #[str s, .int .u8 c])) : Sem Next).run prog w := by kernel_rfl
  rw [h0]
  simp only [Sem.run_bind, Go.Lx.run_ixB h, Result.andThen_ok, Sem.run_pure]
theorem k183 {a0 : (List UInt8)} {a1 : Int} {r : Int} (H : Y2 a0 a1 = some r) : Ret prog 183 [str a0, .int .u8 a1] (i6 r) := by
 refine Yu (n := 8) func183 rfl rfl rfl (fun wd => ?_)
 refine Jc<|Ja<|ag (i6 0)<|Jd<|Jc<|Ja<|mv (str a0)<|mv (.int .u8 a1)<|?_
 obtain ⟨t7, h_t7, H2⟩ := Je H; clear H
 refine lv (r_ext (args := [str a0, .int .u8 a1]) (ext220 _ _ _ h_t7) rfl)<|ag (i6 t7)<|Jd<|Jl<|?_
 obtain rfl := sj H2
 exact r1 (i6 t7)
theorem k142 {a0 : (List UInt8)} {a1 : Int} {r : Int} (H : W8 a0 a1 = some r) : Ret prog 142 [str a0, .int .u8 a1] (i6 r) := by
 refine Yu (n := 8) func142 rfl rfl rfl (fun wd => ?_)
 refine Jc<|Ja<|ag (i6 0)<|Jd<|Jc<|Ja<|mv (str a0)<|mv (.int .u8 a1)<|?_
 obtain ⟨t7, h_t7, H2⟩ := Je H; clear H
 refine Yy (k183 h_t7) call183 rfl rfl rfl<|ag (i6 t7)<|Jd<|Jl<|?_
 obtain rfl := sj H2
 exact r1 (i6 t7)
theorem k79 {a0 : Tg} {v0_2 : Value} {v0_3 : Value} {v0_4 : Value} {r : Int} {w : World} {h : J3} (hw : Know h w Zo) (f0_2 : FrS h 1 v0_2 (a0.Ints.map Q1)) (f0_3 : FrS h 2 v0_3 (a0.Ratios.map Jn)) (f0_4 : FrN h 6 v0_4 g_tag_Entry a0.Entries) (H : Jb8 a0 = some r) : Does prog 79 (List.toArray [.agg #[i6 a0.Kind, str a0.Text, v0_2, v0_3, v0_4]]) w (fun v w' => v = (i6 r) ∧ Grow w w') := by
 refine enter (n := 139) func79 rfl rfl rfl Zo [] (Sat.nil _ _)<|Jc<|Ja<|?_
 refine Wj (cs := [i6 a0.Kind, str a0.Text, v0_2, v0_3, v0_4]) rfl rfl rfl rfl (fun b2 => ?_)
 refine ag (i6 0)<|Jd<|?_
 refine Qj (r := r) (σ := Bool × Bool) (τ := Unit) (fun s => Yd a0 s.1 s.2) (fun s t => [(1, .pointer (some ⟨b2, 0, none⟩)), (3, .bool s.1), (4, .bool s.2)]) (fun s t => [Jf b2 [i6 a0.Kind, str a0.Text, v0_2, v0_3, v0_4] 38]) (fun s t => True) ?_ ?_
 ·exact Qx (Kd.p :: Kd.d [0] _ :: Kd.p :: Kd.p :: Kd.p :: Kd.d [0] _ :: Kd.p :: Kd.p :: Kd.p :: Kd.d [0] _ :: Kd.p :: Kd.p :: Kd.p :: Kd.d [0] _ :: Kd.p :: Kd.p :: Kd.p :: Kd.p :: Kd.d [0] _ :: Kd.p :: Kd.p :: Kd.p :: Kd.p :: Kd.d [0] _ :: Kd.p :: Kd.p :: Kd.p :: Kd.p :: []) 0 mixed (by
   refine dv (J8 runUnderlying38 rfl sizeOf3 rfl rfl)<|dl (i6 a0.Kind) isAgg3<|dv (Ql rfl rfl)<|dm (.bool (decide (a0.Kind = 2)))<|?_
   refine Jdv (fun hb => ?_) (fun hb => ?_)
   ·have H141 := Jec hb H
    refine dp<|dp<|dp<|dv (Wq (v := .bool true) rfl rfl)<|dv (J8 runUnderlying38 rfl sizeOf3 rfl rfl)<|dl (i6 a0.Kind) isAgg3<|dv (Ql rfl rfl)<|dm (.bool (decide (a0.Kind = 1)))<|?_
    refine Jdv (fun hb => ?_) (fun hb => ?_)
    ·have H142 := Jec hb H141
     refine dp<|dp<|dp<|dv (Wq (v := .bool true) rfl rfl)<|dm (.bool true)<|dp<|dp<|dp<|dv (Wq (v := .bool true) rfl rfl)<|dm (.bool true)<|dp<|dp<|dp<|dv (Wq (v := .bool true) rfl rfl)<|Vf rfl rfl (Xd (v := .bool true) rfl)<|Vf rfl rfl (Xd (v := .bool true) rfl)<|Yw<|?_
     exact cl (true, true) () 0 [0] (by exact ⟨H142, trivial⟩)
    ·have H143 := Jed hb H141
     refine dv (J8 runUnderlying38 rfl sizeOf3 rfl rfl)<|dl (i6 a0.Kind) isAgg3<|dv (Ql rfl rfl)<|dv (Jbk (v := .bool (decide (a0.Kind = 3))) rfl rfl)<|dm (.bool (decide (a0.Kind = 3)))<|?_
     refine Jdv (fun hb => ?_) (fun hb => ?_)
     ·have H144 := Jec hb H143
      refine dp<|dp<|dp<|dv (Wq (v := .bool true) rfl rfl)<|dm (.bool true)<|dp<|dp<|dp<|dv (Wq (v := .bool true) rfl rfl)<|Vf rfl rfl (Xd (v := .bool true) rfl)<|Vf rfl rfl (Xd (v := .bool true) rfl)<|Yw<|?_
      exact cl (true, true) () 0 [0] (by exact ⟨H144, trivial⟩)
     ·have H145 := Jed hb H143
      refine dv (J8 runUnderlying38 rfl sizeOf3 rfl rfl)<|dl (i6 a0.Kind) isAgg3<|dv (Ql rfl rfl)<|dv (Jbk (v := .bool (decide (a0.Kind = 4))) rfl rfl)<|dm (.bool (decide (a0.Kind = 4)))<|?_
      refine Jdv (fun hb => ?_) (fun hb => ?_)
      ·have H146 := Jec hb H145
       refine dp<|dp<|dp<|dv (Wq (v := .bool true) rfl rfl)<|Vf rfl rfl (Xd (v := .bool true) rfl)<|Vf rfl rfl (Xd (v := .bool true) rfl)<|Yw<|?_
       exact cl (true, true) () 0 [0] (by exact ⟨H146, trivial⟩)
      ·have H147 := Jed hb H145
       refine dv (J8 runUnderlying38 rfl sizeOf3 rfl rfl)<|dl (i6 a0.Kind) isAgg3<|dv (Ql rfl rfl)<|dv (Jbk (v := .bool (decide (a0.Kind = 9))) rfl rfl)<|Vf rfl rfl (Xd (v := .bool true) rfl)<|Vf rfl rfl (Xd (v := .bool (decide (a0.Kind = 9))) rfl)<|Yw<|?_
       exact cl (true, (decide (a0.Kind = 9))) () 0 [0] (by exact ⟨H147, trivial⟩)
   ·have H148 := Jed hb H
    refine dv (J8 runUnderlying38 rfl sizeOf3 rfl rfl)<|dl (i6 a0.Kind) isAgg3<|dv (Ql rfl rfl)<|dv (Jbk (v := .bool (decide (a0.Kind = 7))) rfl rfl)<|dv (J8 runUnderlying38 rfl sizeOf3 rfl rfl)<|dl (i6 a0.Kind) isAgg3<|dv (Ql rfl rfl)<|dm (.bool (decide (a0.Kind = 1)))<|?_
    refine Jdv (fun hb => ?_) (fun hb => ?_)
    ·have H149 := Jec hb H148
     refine dp<|dp<|dp<|dv (Wq (v := .bool true) rfl rfl)<|dm (.bool true)<|dp<|dp<|dp<|dv (Wq (v := .bool true) rfl rfl)<|dm (.bool true)<|dp<|dp<|dp<|dv (Wq (v := .bool true) rfl rfl)<|Vf rfl rfl (Xd (v := .bool (decide (a0.Kind = 7))) rfl)<|Vf rfl rfl (Xd (v := .bool true) rfl)<|Yw<|?_
     exact cl ((decide (a0.Kind = 7)), true) () 0 [0] (by exact ⟨H149, trivial⟩)
    ·have H150 := Jed hb H148
     refine dv (J8 runUnderlying38 rfl sizeOf3 rfl rfl)<|dl (i6 a0.Kind) isAgg3<|dv (Ql rfl rfl)<|dv (Jbk (v := .bool (decide (a0.Kind = 3))) rfl rfl)<|dm (.bool (decide (a0.Kind = 3)))<|?_
     refine Jdv (fun hb => ?_) (fun hb => ?_)
     ·have H151 := Jec hb H150
      refine dp<|dp<|dp<|dv (Wq (v := .bool true) rfl rfl)<|dm (.bool true)<|dp<|dp<|dp<|dv (Wq (v := .bool true) rfl rfl)<|Vf rfl rfl (Xd (v := .bool (decide (a0.Kind = 7))) rfl)<|Vf rfl rfl (Xd (v := .bool true) rfl)<|Yw<|?_
      exact cl ((decide (a0.Kind = 7)), true) () 0 [0] (by exact ⟨H151, trivial⟩)
     ·have H152 := Jed hb H150
      refine dv (J8 runUnderlying38 rfl sizeOf3 rfl rfl)<|dl (i6 a0.Kind) isAgg3<|dv (Ql rfl rfl)<|dv (Jbk (v := .bool (decide (a0.Kind = 4))) rfl rfl)<|dm (.bool (decide (a0.Kind = 4)))<|?_
      refine Jdv (fun hb => ?_) (fun hb => ?_)
      ·have H153 := Jec hb H152
       refine dp<|dp<|dp<|dv (Wq (v := .bool true) rfl rfl)<|Vf rfl rfl (Xd (v := .bool (decide (a0.Kind = 7))) rfl)<|Vf rfl rfl (Xd (v := .bool true) rfl)<|Yw<|?_
       exact cl ((decide (a0.Kind = 7)), true) () 0 [0] (by exact ⟨H153, trivial⟩)
      ·have H154 := Jed hb H152
       refine dv (J8 runUnderlying38 rfl sizeOf3 rfl rfl)<|dl (i6 a0.Kind) isAgg3<|dv (Ql rfl rfl)<|dv (Jbk (v := .bool (decide (a0.Kind = 9))) rfl rfl)<|Vf rfl rfl (Xd (v := .bool (decide (a0.Kind = 7))) rfl)<|Vf rfl rfl (Xd (v := .bool (decide (a0.Kind = 9))) rfl)<|Yw<|?_
       exact cl ((decide (a0.Kind = 7)), (decide (a0.Kind = 9))) () 0 [0] (by exact ⟨H154, trivial⟩)
   ) (by kernel_rfl)
 ·rintro ⟨x3, x4⟩ _ gg H78 _
  try dsimp only at H78
  try dsimp only
  refine Qj (r := r) (σ := Unit) (τ := Unit) (fun s => Yc a0) (fun s t => [(1, .pointer (some ⟨b2, 0, none⟩))]) (fun s t => [Jf b2 [i6 a0.Kind, str a0.Text, v0_2, v0_3, v0_4] 38]) (fun s t => True) ?_ ?_
  ·refine Ju<|Jc<|Ja<|lf runUnderlying38 rfl sizeOf3 rfl<|ll 0 (i6 a0.Kind) isAgg3<|?_
   obtain ⟨t40, h_t40, H113⟩ := Je H78; clear H78
   refine Yy (k140 h_t40) call140 rfl rfl rfl<|lv (Ql rfl rfl)<|ag (.bool (decide (t40 = 0)))<|Jd<|?_
   revert H113
   refine ci (decide (t40 = 0)) rfl (fun hb H114=>?_) fun hb H115=>?_
   ·refine Jc<|Ja<|ag (i6 10)<|Jd<|Jl<|?_
    obtain rfl := sj H114
    exact r1 (i6 10)
   ·refine Jc ?_
    refine Qj (r := r) (σ := Bool) (τ := Unit) (fun s => U6 a0 x4 s) (fun s t => [(1, .pointer (some ⟨b2, 0, none⟩)), (4, .bool x4), (42, .bool s)]) (fun s t => [Jf b2 [i6 a0.Kind, str a0.Text, v0_2, v0_3, v0_4] 38]) (fun s t => True) ?_ ?_
    ·refine Ja<|lf runUnderlying38 rfl sizeOf9 rfl<|ll 0 (str a0.Text) isAgg9<|lv (Jea rfl rfl)<|mv (.bool (decide (a0.Text ≠ [])))<|?_
     revert H115
     refine sp (fun hb H139=>?_) fun hb H140=>?_
     ·refine mv (.bool x3)<|lv (Ja4 rfl)<|pT (.bool (!x3))<|ag (.bool (!x3))<|Jd<|?_
      exact cl (!x3) () 0 [0] (by exact ⟨H139, trivial⟩)
     ·refine pa<|pa<|pF (.bool false)<|ag (.bool false)<|Jd<|?_
      exact cl false () 0 [0] (by exact ⟨H140, trivial⟩)
    ·rintro x42 _ gg H116 _
     try dsimp only at H116
     try dsimp only
     revert H116
     refine ci x42 rfl (fun hb H117=>?_) fun hb H120=>?_
     ·refine Jk ?_
      revert H117
      refine ci x42 rfl (fun hb H118=>?_) fun hb H119=>?_
      ·refine Jc<|Ja<|ag (i6 1)<|Jd<|Jl<|?_
       obtain rfl := sj H118
       exact r1 (i6 1)
      ·refine Jk ?_
       exact cl () () 0 [0] (by exact ⟨H119, trivial⟩)
     ·refine Qj (r := r) (σ := Bool) (τ := Unit) (fun s => U4 a0 s) (fun s t => [(1, .pointer (some ⟨b2, 0, none⟩)), (42, .bool s)]) (fun s t => [Jf b2 [i6 a0.Kind, str a0.Text, v0_2, v0_3, v0_4] 38]) (fun s t => True) ?_ ?_
      ·refine Ja<|lf runUnderlying38 rfl sizeOf30 rfl<|ll 0 v0_2 isAgg30<|lv (Vy underlying30 rfl f0_2 rfl)<|lv (Yn rfl rfl)<|mv (.bool (decide (0 < (a0.Ints.length : Int))))<|?_
       revert H120
       refine sp (fun hb H137=>?_) fun hb H138=>?_
       ·refine mv (.bool x4)<|lv (Ja4 rfl)<|pT (.bool (!x4))<|ag (.bool (!x4))<|Jd<|?_
        exact cl (!x4) () 0 [0] (by exact ⟨H137, trivial⟩)
       ·refine pa<|pa<|pF (.bool false)<|ag (.bool false)<|Jd<|?_
        exact cl false () 0 [0] (by exact ⟨H138, trivial⟩)
      ·rintro x42_2 _ gg H121 _
       try dsimp only at H121
       try dsimp only
       revert H121
       refine ci x42_2 rfl (fun hb H122=>?_) fun hb H125=>?_
       ·refine Jk ?_
        revert H122
        refine ci x42_2 rfl (fun hb H123=>?_) fun hb H124=>?_
        ·refine Jc<|Ja<|ag (i6 1)<|Jd<|Jl<|?_
         obtain rfl := sj H123
         exact r1 (i6 1)
        ·refine Jk ?_
         exact cl () () 0 [0] (by exact ⟨H124, trivial⟩)
       ·refine Qj (r := r) (σ := Bool) (τ := Unit) (fun s => Um a0 s) (fun s t => [(1, .pointer (some ⟨b2, 0, none⟩)), (42, .bool s)]) (fun s t => [Jf b2 [i6 a0.Kind, str a0.Text, v0_2, v0_3, v0_4] 38]) (fun s t => True) ?_ ?_
        ·refine Ja<|lf runUnderlying38 rfl sizeOf31 rfl<|ll 0 v0_3 isAgg31<|lv (Vy underlying31 rfl f0_3 rfl)<|lv (Yn rfl rfl)<|mv (.bool (decide (0 < (a0.Ratios.length : Int))))<|?_
         revert H125
         refine sp (fun hb H135=>?_) fun hb H136=>?_
         ·refine lf runUnderlying38 rfl sizeOf3 rfl<|ll 0 (i6 a0.Kind) isAgg3<|lv (Yt rfl rfl)<|pT (.bool (decide (a0.Kind ≠ 5)))<|ag (.bool (decide (a0.Kind ≠ 5)))<|Jd<|?_
          exact cl (decide (a0.Kind ≠ 5)) () 0 [0] (by exact ⟨H135, trivial⟩)
         ·refine pa<|pa<|pa<|pF (.bool false)<|ag (.bool false)<|Jd<|?_
          exact cl false () 0 [0] (by exact ⟨H136, trivial⟩)
        ·rintro x42_3 _ gg H126 _
         try dsimp only at H126
         try dsimp only
         revert H126
         refine ci x42_3 rfl (fun hb H127=>?_) fun hb H130=>?_
         ·refine Jk ?_
          revert H127
          refine ci x42_3 rfl (fun hb H128=>?_) fun hb H129=>?_
          ·refine Jc<|Ja<|ag (i6 1)<|Jd<|Jl<|?_
           obtain rfl := sj H128
           exact r1 (i6 1)
          ·refine Jk ?_
           exact cl () () 0 [0] (by exact ⟨H129, trivial⟩)
         ·refine Ja<|lf runUnderlying38 rfl sizeOf36 rfl<|ll 0 v0_4 isAgg36<|lv (Xs underlying36 rfl f0_4)<|lv (Yn rfl rfl)<|mv (.bool (decide (0 < (a0.Entries.length : Int))))<|?_
          revert H130
          refine sp (fun hb H131=>?_) fun hb H134=>?_
          ·refine lf runUnderlying38 rfl sizeOf3 rfl<|ll 0 (i6 a0.Kind) isAgg3<|lv (Yt rfl rfl)<|pT (.bool (decide (a0.Kind ≠ 13)))<|ag (.bool (decide (a0.Kind ≠ 13)))<|Jd<|?_
           revert H131
           refine ci (decide (a0.Kind ≠ 13)) rfl (fun hb H132=>?_) fun hb H133=>?_
           ·refine Jc<|Ja<|ag (i6 1)<|Jd<|Jl<|?_
            obtain rfl := sj H132
            exact r1 (i6 1)
           ·refine Jk ?_
            exact cl () () 0 [0] (by exact ⟨H133, trivial⟩)
          ·refine pa<|pa<|pa<|pF (.bool false)<|ag (.bool false)<|Jd<|Uh rfl<|Jk<|?_
           exact cl () () 0 [0] (by exact ⟨H134, trivial⟩)
  ·rintro _ _ gg H79 _
   try dsimp only at H79
   try dsimp only
   refine Jc<|Ja<|lf runUnderlying38 rfl sizeOf3 rfl<|ll 0 (i6 a0.Kind) isAgg3<|?_
   obtain ⟨t79, h_t79, H80⟩ := Je H79; clear H79
   refine Yy (k141 h_t79) call141 rfl rfl rfl<|mv (.tuple #[i6 t79.1, i6 t79.2])<|lv (Qb (v := i6 t79.1) rfl rfl)<|lv (Qb (v := i6 t79.2) rfl rfl)<|ag (i6 t79.1)<|ag (i6 t79.2)<|Jd<|?_
   refine Qj (r := r) (σ := Unit) (τ := Unit) (fun s => Jaa a0) (fun s t => [(1, .pointer (some ⟨b2, 0, none⟩))]) (fun s t => [Jf b2 [i6 a0.Kind, str a0.Text, v0_2, v0_3, v0_4] 38]) (fun s t => True) ?_ ?_
   ·refine Jc<|Ja<|lf runUnderlying38 rfl sizeOf30 rfl<|ll 0 v0_2 isAgg30<|lv (Vy underlying30 rfl f0_2 rfl)<|mv (i6 0)<|Jd<|Ju<|?_
    refine Za (σ := Int) (τ := Unit) (fun next7 s => Zl a0 t79 next7 s) (fun s t => [(1, .pointer (some ⟨b2, 0, none⟩)), (5, i6 t79.1), (6, i6 t79.2), (83, v0_2), (84, i6 (a0.Ints.length : Int)), (85, i6 s)]) (fun s t => [Jf b2 [i6 a0.Kind, str a0.Text, v0_2, v0_3, v0_4] 38]) (fun s t => True) 0 () [0] H80 (by exact trivial) (by exact ⟨rfl, rfl, rfl, rfl, rfl, rfl, trivial⟩) (by decide) rfl ?_
    rintro x85_2 _ m7 gg H104 _
    clear H80
    try dsimp only at H104
    generalize hn7 : it (fun next7 s => Zl a0 t79 next7 s) m7 = next7 at H104
    try dsimp only
    refine Jc<|Ja<|lv (Xz rfl rfl)<|Jd<|Jc<|?_
    revert H104
    refine ci (decide (x85_2 < (a0.Ints.length : Int))) rfl (fun hb H105=>?_) fun hb H112=>?_
    ·refine Jk<|Jc<|Ju<|Jc<|Ja<|?_
     obtain ⟨t87, h_t87, H106⟩ := Je H105; clear H105
     refine lv (Xc underlying30 sizeOf3 rfl rfl f0_2 h_t87)<|Xi (fun w hF hS => Xo (f := Q1) (i := x85_2) (sz := 1) (j := 0) (v := i6 t87) isAgg3 rfl rfl (f0_2.row (hw.now hF)) h_t87 rfl) rfl rfl rfl<|ag (i6 t87)<|Jd<|Jc<|Ja<|mv (i6 t87)<|mv (i6 t79.1)<|lv (Xz rfl rfl)<|mv (.bool (decide (t87 < t79.1)))<|?_
     revert H106
     refine sp (fun hb H107=>?_) fun hb H108=>?_
     ·refine pa<|pa<|pa<|pT (.bool true)<|Jd<|Vj rfl<|Jc<|Ja<|ag (i6 2)<|Jd<|Jl<|?_
      obtain rfl := sj H107
      exact r1 (i6 2)
     ·refine mv (i6 t87)<|mv (i6 t79.2)<|lv (Yn rfl rfl)<|pF (.bool (decide (t79.2 < t87)))<|Jd<|?_
      revert H108
      refine ci (decide (t79.2 < t87)) rfl (fun hb H109=>?_) fun hb H110=>?_
      ·refine Jc<|Ja<|ag (i6 2)<|Jd<|Jl<|?_
       obtain rfl := sj H109
       exact r1 (i6 2)
      ·refine Jk<|Ja<|?_
       obtain ⟨t97, h_t97, H111⟩ := Je H110; clear H110
       refine lv (J1 rfl rfl h_t97)<|mv (i6 t97)<|Jd<|?_
       exact cl t97 () m7 [0] (by exact ⟨(by subst hn7; exact H111), trivial⟩)
    ·refine Xa ?_
     exact cl () () 0 [0] (by exact ⟨H112, trivial⟩)
   ·rintro _ _ gg H81 _
    try dsimp only at H81
    try dsimp only
    refine Qj (r := r) (σ := Unit) (τ := Unit) (fun s => U1 a0) (fun s t => [(1, .pointer (some ⟨b2, 0, none⟩))]) (fun s t => [Jf b2 [i6 a0.Kind, str a0.Text, v0_2, v0_3, v0_4] 38]) (fun s t => True) ?_ ?_
    ·refine Jc<|Ja<|lf runUnderlying38 rfl sizeOf31 rfl<|ll 0 v0_3 isAgg31<|lv (Vy underlying31 rfl f0_3 rfl)<|mv (i6 0)<|Jd<|Ju<|?_
     refine Za (σ := Int) (τ := Unit) (fun next6 s => Zk a0 next6 s) (fun s t => [(1, .pointer (some ⟨b2, 0, none⟩)), (99, v0_3), (100, i6 (a0.Ratios.length : Int)), (101, i6 s)]) (fun s t => [Jf b2 [i6 a0.Kind, str a0.Text, v0_2, v0_3, v0_4] 38]) (fun s t => True) 0 () [0] H81 (by exact trivial) (by exact ⟨rfl, rfl, rfl, rfl, trivial⟩) (by decide) rfl ?_
     rintro x101_2 _ m6 gg H91 _
     clear H81
     try dsimp only at H91
     generalize hn6 : it (fun next6 s => Zk a0 next6 s) m6 = next6 at H91
     try dsimp only
     refine Jc<|Ja<|lv (Xz rfl rfl)<|Jd<|Jc<|?_
     revert H91
     refine ci (decide (x101_2 < (a0.Ratios.length : Int))) rfl (fun hb H92=>?_) fun hb H103=>?_
     ·refine Jk<|Jc<|Ju<|Jc<|Ja<|?_
      obtain ⟨t103, h_t103, H93⟩ := Je H92; clear H92
      refine lv (Xc underlying31 sizeOf74 rfl rfl f0_3 h_t103)<|Xi (fun w hF hS => Yz (f := Jn) (i := x101_2) (sz := 2) (j := 0) (vs := [i6 t103.Num, i6 t103.Den]) isAgg74 sizeOf74 rfl rfl (f0_3.row (hw.now hF)) h_t103 rfl) rfl rfl rfl<|?_
      refine X1 (cs := [i6 0, i6 0]) zeroValue74 rfl rfl rfl (fun b3 => ?_)
      refine st (i := 1) [i6 t103.Num, i6 t103.Den] [i6 t103.Num, i6 t103.Den] sizeOf74 rfl rfl<|Jd<|Jc<|Ja<|lf runUnderlying74 rfl sizeOf3 rfl<|ll 1 (i6 t103.Num) isAgg3<|lv (Xz rfl rfl)<|mv (.bool (decide (t103.Num < 0)))<|?_
      revert H93
      refine sp (fun hb H94=>?_) fun hb H95=>?_
      ·refine pa<|pa<|pa<|pT (.bool true)<|mv (.bool true)<|pa<|pa<|pa<|pT (.bool true)<|mv (.bool true)<|pa<|pa<|pa<|pT (.bool true)<|Jd<|Vj rfl<|Jc<|Ja<|ag (i6 2)<|Jd<|Jl<|?_
       obtain rfl := sj H94
       exact r1 (i6 2)
      ·refine lf runUnderlying74 rfl sizeOf3 rfl<|ll 1 (i6 t103.Num) isAgg3<|lv (Yn rfl rfl)<|pF (.bool (decide (4294967295 < t103.Num)))<|mv (.bool (decide (4294967295 < t103.Num)))<|?_
       revert H95
       refine sp (fun hb H96=>?_) fun hb H97=>?_
       ·refine pa<|pa<|pa<|pT (.bool true)<|mv (.bool true)<|pa<|pa<|pa<|pT (.bool true)<|Jd<|Vj rfl<|Jc<|Ja<|ag (i6 2)<|Jd<|Jl<|?_
        obtain rfl := sj H96
        exact r1 (i6 2)
       ·refine lf runUnderlying74 rfl sizeOf3 rfl<|ll 1 (i6 t103.Den) isAgg3<|lv (Xz rfl rfl)<|pF (.bool (decide (t103.Den < 0)))<|mv (.bool (decide (t103.Den < 0)))<|?_
        revert H97
        refine sp (fun hb H98=>?_) fun hb H99=>?_
        ·refine pa<|pa<|pa<|pT (.bool true)<|Jd<|Vj rfl<|Jc<|Ja<|ag (i6 2)<|Jd<|Jl<|?_
         obtain rfl := sj H98
         exact r1 (i6 2)
        ·refine lf runUnderlying74 rfl sizeOf3 rfl<|ll 1 (i6 t103.Den) isAgg3<|lv (Yn rfl rfl)<|pF (.bool (decide (4294967295 < t103.Den)))<|Jd<|?_
         revert H99
         refine ci (decide (4294967295 < t103.Den)) rfl (fun hb H100=>?_) fun hb H101=>?_
         ·refine Jc<|Ja<|ag (i6 2)<|Jd<|Jl<|?_
          obtain rfl := sj H100
          exact r1 (i6 2)
         ·refine Jk<|Ja<|?_
          obtain ⟨t123, h_t123, H102⟩ := Je H101; clear H101
          refine lv (J1 rfl rfl h_t123)<|mv (i6 t123)<|Jd<|?_
          exact cl t123 () m6 [0] (by exact ⟨(by subst hn6; exact H102), trivial⟩)
     ·refine Xa ?_
      exact cl () () 0 [0] (by exact ⟨H103, trivial⟩)
    ·rintro _ _ gg H82 _
     try dsimp only at H82
     try dsimp only
     refine Qj (r := r) (σ := Unit) (τ := Unit) (fun s => Jbl a0) (fun s t => [(1, .pointer (some ⟨b2, 0, none⟩))]) (fun s t => [Jf b2 [i6 a0.Kind, str a0.Text, v0_2, v0_3, v0_4] 38]) (fun s t => True) ?_ ?_
     ·refine Jc<|Ja<|lf runUnderlying38 rfl sizeOf3 rfl<|ll 0 (i6 a0.Kind) isAgg3<|lv (Ql rfl rfl)<|mv (.bool (decide (a0.Kind = 2)))<|?_
      revert H82
      refine sp (fun hb H86=>?_) fun hb H90=>?_
      ·refine lf runUnderlying38 rfl sizeOf9 rfl<|ll 0 (str a0.Text) isAgg9<|?_
       obtain ⟨t130, h_t130, H87⟩ := Je H86; clear H86
       refine Yy (k142 h_t130) call142 rfl rfl rfl<|lv (Jff rfl rfl)<|pT (.bool (decide (0 ≤ t130)))<|Jd<|?_
       revert H87
       refine ci (decide (0 ≤ t130)) rfl (fun hb H88=>?_) fun hb H89=>?_
       ·refine Jc<|Ja<|ag (i6 9)<|Jd<|Jl<|?_
        obtain rfl := sj H88
        exact r1 (i6 9)
       ·refine Jk ?_
        exact cl () () 0 [0] (by exact ⟨H89, trivial⟩)
      ·refine pa<|pa<|pa<|pa<|pF (.bool false)<|Jd<|Uh rfl<|Jk<|?_
       exact cl () () 0 [0] (by exact ⟨H90, trivial⟩)
     ·rintro _ _ gg H83 _
      try dsimp only at H83
      try dsimp only
      refine Jc<|Jc<|Ja<|lf runUnderlying38 rfl sizeOf3 rfl<|ll 0 (i6 a0.Kind) isAgg3<|lv (Ql rfl rfl)<|Jd<|?_
      revert H83
      refine ci (decide (a0.Kind = 13)) rfl (fun hb H84=>?_) fun hb H85=>?_
      ·exact absurd (show (none : Option (Int)) = some r from H84) (fun h => by cases h)
      ·refine Jk<|Jc<|Ja<|ag (i6 0)<|Jd<|Jl<|?_
       obtain rfl := sj H85
       exact r1 (i6 0)
theorem k91_it (mm : Nat) : ∀ {a0 : (List Ta)} {v0 : Value} {a1 : Int} {r : Int} {w : World} {h : J3} (hw : Know h w Zo) (f0 : FrN h 6 v0 g_tag_Entry a0) (H : it (fun (self : ((List Ta) × Int) → Option (Int)) (s : (List Ta) × Int) => Z3 self s.1 s.2) mm (a0, a1) = some r), Does prog 91 (List.toArray [v0, i6 a1]) w (fun v w' => v = (i6 r) ∧ Grow w w') := by
 induction mm with
 | zero => intros; rename_i H; exact absurd H (by simp [it])
 | succ mm ih =>
  intro a0 v0 a1 r w h hw f0 H
  replace H : Z3 (it (fun (self : ((List Ta) × Int) → Option (Int)) (s : (List Ta) × Int) => Z3 self s.1 s.2) mm) a0 a1 = some r := H
  generalize it (fun (self : ((List Ta) × Int) → Option (Int)) (s : (List Ta) × Int) => Z3 self s.1 s.2) mm = self at H ih
  refine enter (n := 79) func91 rfl rfl rfl Zo [] (Sat.nil _ _)<|Jc<|Ja<|ag (i6 0)<|Jd<|Jc<|Jc<|Ja<|mv (i6 a1)<|lv (Yn rfl rfl)<|mv (.bool (decide (5 < a1)))<|?_
  revert H
  refine sp (fun hb H37=>?_) fun hb H38=>?_
  ·refine pa<|pa<|pa<|pT (.bool true)<|Jd<|Vj rfl<|Jc<|Ja<|ag (i6 4)<|Jd<|Jl<|?_
   obtain rfl := sj H37
   exact r1 (i6 4)
  ·refine mv v0<|lv (Xs underlying36 rfl f0)<|lv (Yn rfl rfl)<|pF (.bool (decide (200 < (a0.length : Int))))<|Jd<|?_
   revert H38
   refine ci (decide (200 < (a0.length : Int))) rfl (fun hb H39=>?_) fun hb H40=>?_
   ·refine Jc<|Ja<|ag (i6 4)<|Jd<|Jl<|?_
    obtain rfl := sj H39
    exact r1 (i6 4)
   ·refine Jk<|Jc<|Jc<|Ja<|mv v0<|lv (Xs underlying36 rfl f0)<|mv (i6 0)<|Jd<|Ju<|?_
    refine Za (σ := Int) (τ := Unit) (fun next1 s => Jba a0 a1 self next1 s) (fun s t => [(0, v0), (1, i6 a1), (17, v0), (18, i6 (a0.length : Int)), (19, i6 s)]) (fun s t => []) (fun s t => True) 0 () [] H40 (by exact trivial) (by exact ⟨rfl, rfl, rfl, rfl, rfl, trivial⟩) (by decide) rfl ?_
    rintro x19_2 _ m1 gg H41 _
    clear H40
    try dsimp only at H41
    generalize hn1 : it (fun next1 s => Jba a0 a1 self next1 s) m1 = next1 at H41
    try dsimp only
    refine Jc<|Ja<|lv (Xz rfl rfl)<|Jd<|Jc<|?_
    revert H41
    refine ci (decide (x19_2 < (a0.length : Int))) rfl (fun hb H42=>?_) fun hb H72=>?_
    ·refine Jk ?_
     refine Qj (r := r) (σ := Int × Bool × Int × Int × (List UInt8) × (List Int) × (List Th) × (List Ta)) (τ := Value × Value × Value × Nat) (fun s => Jbc x19_2 next1 s.1 s.2.1 s.2.2.1 s.2.2.2.1 s.2.2.2.2.1 s.2.2.2.2.2.1 s.2.2.2.2.2.2.1 s.2.2.2.2.2.2.2) (fun s t => [(0, v0), (1, i6 a1), (17, v0), (18, i6 (a0.length : Int)), (19, i6 x19_2), (28, .pointer (some ⟨t.2.2.2, 0, none⟩)), (29, i6 s.1), (30, .bool s.2.1)]) (fun s t => [Jf t.2.2.2 [i6 s.2.2.1, i6 s.2.2.2.1, str s.2.2.2.2.1, t.1, t.2.1, t.2.2.1] 83]) (fun s t => FrS h 1 t.1 (s.2.2.2.2.2.1.map Q1) ∧ FrS h 2 t.2.1 (s.2.2.2.2.2.2.1.map Jn) ∧ FrN h 6 t.2.2.1 g_tag_Entry s.2.2.2.2.2.2.2) ?_ ?_
     ·refine Ju<|Jc<|Ja<|mv (i6 x19_2)<|?_
      obtain ⟨t22, h_t22, H45⟩ := Je H42; clear H42
      refine lv (Xc underlying36 sizeOf83 rfl rfl f0.frs (f0.ix h_t22))<|Xi (fun w hF hS => Yz (f := (elC h v0 6)) (i := x19_2) (sz := 6) (j := 0) (vs := [i6 t22.Tag, i6 t22.Value.Kind, str t22.Value.Text, (Qz h v0 6 (Int.toNat x19_2) 3), (Qz h v0 6 (Int.toNat x19_2) 4), (Qz h v0 6 (Int.toNat x19_2) 5)]) isAgg83 sizeOf83 rfl rfl (f0.frs.row (hw.now hF)) (f0.ix h_t22) (Jfp (Zi (f0.at h_t22)) rfl)) rfl rfl rfl<|?_
      refine X1 (cs := [i6 0, i6 0, str [], .slice none 0 0, .slice none 0 0, .slice none 0 0]) zeroValue83 rfl rfl rfl (fun b2 => ?_)
      refine ag (i6 x19_2)<|Jck (i := 0) (vs := [i6 t22.Tag, i6 t22.Value.Kind, str t22.Value.Text, (Qz h v0 6 (Int.toNat x19_2) 3), (Qz h v0 6 (Int.toNat x19_2) 4), (Qz h v0 6 (Int.toNat x19_2) 5)]) (cs' := [i6 t22.Tag, i6 t22.Value.Kind, str t22.Value.Text, (Qz h v0 6 (Int.toNat x19_2) 3), (Qz h v0 6 (Int.toNat x19_2) 4), (Qz h v0 6 (Int.toNat x19_2) 5)]) sizeOf83 rfl rfl rfl rfl rfl rfl (by simp only [List.all_cons, List.all_nil, (show FrN h 6 (Qz h v0 6 (Int.toNat x19_2) 5) g_tag_Entry t22.Value.Entries from (Qc (Jj (f0.at h_t22)))).one, (show FrS h 1 (Qz h v0 6 (Int.toNat x19_2) 3) (t22.Value.Ints.map Q1) from (Qo (Jj (f0.at h_t22)))).one, (show FrS h 2 (Qz h v0 6 (Int.toNat x19_2) 4) (t22.Value.Ratios.map Jn) from (Qn (Jj (f0.at h_t22)))).one] <;> rfl) rfl rfl<|Jd<|Jc<|Jc<|Ja<|lf runUnderlying83 rfl sizeOf3 rfl<|ll 0 (i6 t22.Tag) isAgg3<|lv (Xz rfl rfl)<|mv (.bool (decide (t22.Tag < 0)))<|?_
      revert H45
      refine sp (fun hb H46=>?_) fun hb H47=>?_
      ·refine pa<|pa<|pa<|pT (.bool true)<|Jd<|Vj rfl<|Jc<|Ja<|ag (i6 2)<|Jd<|Jl<|?_
       obtain rfl := sj H46
       exact r1 (i6 2)
      ·refine lf runUnderlying83 rfl sizeOf3 rfl<|ll 0 (i6 t22.Tag) isAgg3<|lv (Yn rfl rfl)<|pF (.bool (decide (65535 < t22.Tag)))<|Jd<|?_
       revert H47
       refine ci (decide (65535 < t22.Tag)) rfl (fun hb H48=>?_) fun hb H49=>?_
       ·refine Jc<|Ja<|ag (i6 2)<|Jd<|Jl<|?_
        obtain rfl := sj H48
        exact r1 (i6 2)
       ·refine Jk ?_
        refine Qj (r := r) (σ := Unit) (τ := Unit) (fun s => Jcn a1 self x19_2 next1 t22) (fun s t => [(0, v0), (1, i6 a1), (6, .pointer (some ⟨b2, 0, none⟩)), (17, v0), (18, i6 (a0.length : Int)), (19, i6 x19_2), (28, .pointer (some ⟨b2, 0, none⟩)), (29, i6 t22.Tag), (30, .bool (decide (65535 < t22.Tag)))]) (fun s t => [Jf b2 [i6 t22.Tag, i6 t22.Value.Kind, str t22.Value.Text, (Qz h v0 6 (Int.toNat x19_2) 3), (Qz h v0 6 (Int.toNat x19_2) 4), (Qz h v0 6 (Int.toNat x19_2) 5)] 83]) (fun s t => True) ?_ ?_
        ·refine Jc ?_
         exact Qx (Kd.p :: Kd.p :: Kd.p :: Kd.p :: Kd.d [0] _ :: Kd.p :: Kd.p :: Kd.p :: Kd.p :: Kd.p :: Kd.d [] _ :: Kd.p :: Kd.p :: []) 0 mixed (by
          refine dm (i6 x19_2)<|dv (Yn rfl rfl)<|dm (.bool (decide (0 < x19_2)))<|?_
          refine Jdv (fun hb => ?_) (fun hb => ?_)
          ·have H66 := Jec hb H49
           refine dv (J8 runUnderlying83 rfl sizeOf3 rfl rfl)<|dl (i6 t22.Tag) isAgg3<|dm v0<|dm (i6 x19_2)<|?_
           have h_t39 := Jy H66
           have H67 := Jq H66
           refine dv (Zf rfl rfl h_t39) ?_
           have h_t40 := Jy H67
           have H68 := Jq H67
           refine dv (Xc underlying36 sizeOf83 rfl rfl f0.frs (f0.ix h_t40))<|dv (Jdl runUnderlying83 rfl sizeOf3 rfl rfl (Jer f0.frs (f0.ix h_t40)))<|Jcy (fun w hF => Xo (f := (elC h v0 6)) (i := (val (gI (x19_2 - 1)))) (sz := 6) (j := 0) (v := i6 (val (Zu a0 (val (gI (x19_2 - 1))))).Tag) isAgg3 rfl rfl (f0.frs.row (hw.now hF)) (f0.ix h_t40) (Jei (Zi (f0.at h_t40)) rfl)) rfl rfl<|dv (Jfo rfl rfl)<|dv (Wq (v := .bool (decide (t22.Tag ≤ (val (Zu a0 (val (gI (x19_2 - 1))))).Tag))) rfl rfl)<|Yw<|?_
           revert H68
           refine ci (decide (t22.Tag ≤ (val (Zu a0 (val (gI (x19_2 - 1))))).Tag)) rfl (fun hb H69=>?_) fun hb H70=>?_
           ·refine Jc<|Ja<|ag (i6 5)<|Jd<|Jl<|?_
            obtain rfl := sj H69
            exact r1 (i6 5)
           ·refine Jk ?_
            exact cl () () 0 [0] (by exact ⟨H70, trivial⟩)
          ·have H71 := Jed hb H49
           refine dp<|dp<|dp<|dp<|dp<|dp<|dp<|dp<|dp<|dv (Jbk (v := .bool false) rfl rfl)<|Yw<|Uh rfl<|Jk<|?_
           exact cl () () 0 [0] (by exact ⟨H71, trivial⟩)
          ) (by kernel_rfl)
        ·rintro _ _ gg H50 _
         try dsimp only at H50
         try dsimp only
         refine Jc<|Ja<|lf runUnderlying83 rfl sizeOf38 rfl<|Q4 (i := 0) (vs := [i6 t22.Value.Kind, str t22.Value.Text, (Qz h v0 6 (Int.toNat x19_2) 3), (Qz h v0 6 (Int.toNat x19_2) 4), (Qz h v0 6 (Int.toNat x19_2) 5)]) isAgg38 sizeOf38 rfl rfl rfl rfl rfl<|?_
         refine X1 (cs := [i6 0, str [], .slice none 0 0, .slice none 0 0, .slice none 0 0]) zeroValue38 rfl rfl rfl (fun b3 => ?_)
         refine Jck (i := 1) (vs := [i6 t22.Value.Kind, str t22.Value.Text, (Qz h v0 6 (Int.toNat x19_2) 3), (Qz h v0 6 (Int.toNat x19_2) 4), (Qz h v0 6 (Int.toNat x19_2) 5)]) (cs' := [i6 t22.Value.Kind, str t22.Value.Text, (Qz h v0 6 (Int.toNat x19_2) 3), (Qz h v0 6 (Int.toNat x19_2) 4), (Qz h v0 6 (Int.toNat x19_2) 5)]) sizeOf38 rfl rfl rfl rfl rfl rfl (by simp only [List.all_cons, List.all_nil, (show FrN h 6 (Qz h v0 6 (Int.toNat x19_2) 5) g_tag_Entry t22.Value.Entries from (Qc (Jj (f0.at h_t22)))).one, (show FrS h 1 (Qz h v0 6 (Int.toNat x19_2) 3) (t22.Value.Ints.map Q1) from (Qo (Jj (f0.at h_t22)))).one, (show FrS h 2 (Qz h v0 6 (Int.toNat x19_2) 4) (t22.Value.Ratios.map Jn) from (Qn (Jj (f0.at h_t22)))).one] <;> rfl) rfl rfl<|Jd<|Jc<|Jc<|Ja<|lf runUnderlying38 rfl sizeOf3 rfl<|ll 1 (i6 t22.Value.Kind) isAgg3<|lv (Yt rfl rfl)<|Jd<|?_
         revert H50
         refine ci (decide (t22.Value.Kind ≠ 13)) rfl (fun hb H51=>?_) fun hb H55=>?_
         ·refine Jc<|Jc<|Ja<|Q4 (i := 1) (vs := [i6 t22.Value.Kind, str t22.Value.Text, (Qz h v0 6 (Int.toNat x19_2) 3), (Qz h v0 6 (Int.toNat x19_2) 4), (Qz h v0 6 (Int.toNat x19_2) 5)]) isAgg38 sizeOf38 rfl rfl rfl rfl rfl<|?_
          obtain ⟨t51, h_t51, H52⟩ := Je H51; clear H51
          refine Qd (fun w hF hS => k79 (Jp w) ((show FrS h 1 (Qz h v0 6 (Int.toNat x19_2) 3) (t22.Value.Ints.map Q1) from (Qo (Jj (f0.at h_t22)))).mono (hw.now hF)) ((show FrS h 2 (Qz h v0 6 (Int.toNat x19_2) 4) (t22.Value.Ratios.map Jn) from (Qn (Jj (f0.at h_t22)))).mono (hw.now hF)) ((show FrN h 6 (Qz h v0 6 (Int.toNat x19_2) 5) g_tag_Entry t22.Value.Entries from (Qc (Jj (f0.at h_t22)))).mono (hw.now hF)) h_t51) call79 rfl rfl rfl<|ag (i6 t51)<|Jd<|Jc<|Ja<|mv (i6 t51)<|lv (Yt rfl rfl)<|Jd<|?_
          revert H52
          refine ci (decide (t51 ≠ 0)) rfl (fun hb H53=>?_) fun hb H54=>?_
          ·refine Jc<|Ja<|mv (i6 t51)<|ag (i6 t51)<|Jd<|Jl<|?_
           obtain rfl := sj H53
           exact r1 (i6 t51)
          ·refine Jk<|Xa<|?_
           exact cl (t22.Tag, (decide (65535 < t22.Tag)), t22.Tag, t22.Value.Kind, t22.Value.Text, t22.Value.Ints, t22.Value.Ratios, t22.Value.Entries) ((Qz h v0 6 (Int.toNat x19_2) 3), (Qz h v0 6 (Int.toNat x19_2) 4), (Qz h v0 6 (Int.toNat x19_2) 5), b2) 0 [0] (by exact ⟨H54, ⟨(show FrS h 1 (Qz h v0 6 (Int.toNat x19_2) 3) (t22.Value.Ints.map Q1) from (Qo (Jj (f0.at h_t22)))), (show FrS h 2 (Qz h v0 6 (Int.toNat x19_2) 4) (t22.Value.Ratios.map Jn) from (Qn (Jj (f0.at h_t22)))), (show FrN h 6 (Qz h v0 6 (Int.toNat x19_2) 5) g_tag_Entry t22.Value.Entries from (Qc (Jj (f0.at h_t22))))⟩⟩)
         ·refine Jk<|Jc<|Jc<|Ja<|lf runUnderlying38 rfl sizeOf9 rfl<|ll 1 (str t22.Value.Text) isAgg9<|lv (Jea rfl rfl)<|mv (.bool (decide (t22.Value.Text ≠ [])))<|?_
          revert H55
          refine sp (fun hb H56=>?_) fun hb H57=>?_
          ·refine pa<|pa<|pa<|pa<|pT (.bool true)<|mv (.bool true)<|pa<|pa<|pa<|pa<|pT (.bool true)<|Jd<|Vj rfl<|Jc<|Ja<|ag (i6 1)<|Jd<|Jl<|?_
           obtain rfl := sj H56
           exact r1 (i6 1)
          ·refine lf runUnderlying38 rfl sizeOf30 rfl<|ll 1 (Qz h v0 6 (Int.toNat x19_2) 3) isAgg30<|lv (Vy underlying30 rfl (show FrS h 1 (Qz h v0 6 (Int.toNat x19_2) 3) (t22.Value.Ints.map Q1) from (Qo (Jj (f0.at h_t22)))) rfl)<|lv (Yn rfl rfl)<|pF (.bool (decide (0 < (t22.Value.Ints.length : Int))))<|mv (.bool (decide (0 < (t22.Value.Ints.length : Int))))<|?_
           revert H57
           refine sp (fun hb H58=>?_) fun hb H59=>?_
           ·refine pa<|pa<|pa<|pa<|pT (.bool true)<|Jd<|Vj rfl<|Jc<|Ja<|ag (i6 1)<|Jd<|Jl<|?_
            obtain rfl := sj H58
            exact r1 (i6 1)
           ·refine lf runUnderlying38 rfl sizeOf31 rfl<|ll 1 (Qz h v0 6 (Int.toNat x19_2) 4) isAgg31<|lv (Vy underlying31 rfl (show FrS h 2 (Qz h v0 6 (Int.toNat x19_2) 4) (t22.Value.Ratios.map Jn) from (Qn (Jj (f0.at h_t22)))) rfl)<|lv (Yn rfl rfl)<|pF (.bool (decide (0 < (t22.Value.Ratios.length : Int))))<|Jd<|?_
            revert H59
            refine ci (decide (0 < (t22.Value.Ratios.length : Int))) rfl (fun hb H60=>?_) fun hb H61=>?_
            ·refine Jc<|Ja<|ag (i6 1)<|Jd<|Jl<|?_
             obtain rfl := sj H60
             exact r1 (i6 1)
            ·refine Jk<|Jc<|Ja<|lf runUnderlying38 rfl sizeOf36 rfl<|ll 1 (Qz h v0 6 (Int.toNat x19_2) 5) isAgg36<|mv (i6 a1)<|?_
             obtain ⟨t73, h_t73, H62⟩ := Je H61; clear H61
             refine lv (J1 rfl rfl h_t73) ?_
             obtain ⟨t74, h_t74, H63⟩ := Je H62; clear H62
             refine Qd (fun w hF hS => ih (Jp w) ((show FrN h 6 (Qz h v0 6 (Int.toNat x19_2) 5) g_tag_Entry t22.Value.Entries from (Qc (Jj (f0.at h_t22)))).mono (hw.now hF)) h_t74) call91 rfl rfl rfl<|ag (i6 t74)<|Jd<|Jc<|Ja<|mv (i6 t74)<|lv (Yt rfl rfl)<|Jd<|?_
             revert H63
             refine ci (decide (t74 ≠ 0)) rfl (fun hb H64=>?_) fun hb H65=>?_
             ·refine Jc<|Ja<|mv (i6 t74)<|ag (i6 t74)<|Jd<|Jl<|?_
              obtain rfl := sj H64
              exact r1 (i6 t74)
             ·refine Jk ?_
              exact cl (t22.Tag, (decide (65535 < t22.Tag)), t22.Tag, t22.Value.Kind, t22.Value.Text, t22.Value.Ints, t22.Value.Ratios, t22.Value.Entries) ((Qz h v0 6 (Int.toNat x19_2) 3), (Qz h v0 6 (Int.toNat x19_2) 4), (Qz h v0 6 (Int.toNat x19_2) 5), b2) 0 [0] (by exact ⟨H65, ⟨(show FrS h 1 (Qz h v0 6 (Int.toNat x19_2) 3) (t22.Value.Ints.map Q1) from (Qo (Jj (f0.at h_t22)))), (show FrS h 2 (Qz h v0 6 (Int.toNat x19_2) 4) (t22.Value.Ratios.map Jn) from (Qn (Jj (f0.at h_t22)))), (show FrN h 6 (Qz h v0 6 (Int.toNat x19_2) 5) g_tag_Entry t22.Value.Entries from (Qc (Jj (f0.at h_t22))))⟩⟩)
     ·rintro ⟨x29, x30, m, m_2, m_3, m_4, m_5, m_6⟩ ⟨gv, gv_2, gv_3, b⟩ gg H43 ⟨gf, gf_2, gf_3⟩
      try dsimp only at H43
      try dsimp only
      refine Ja ?_
      obtain ⟨t78, h_t78, H44⟩ := Je H43; clear H43
      refine lv (J1 rfl rfl h_t78)<|mv (i6 t78)<|Jd<|?_
      exact cl t78 () m1 [] (by exact ⟨(by subst hn1; exact H44), trivial⟩)
    ·refine Xa<|Jc<|Ja<|ag (i6 0)<|Jd<|Jl<|?_
     obtain rfl := sj H72
     exact r1 (i6 0)
theorem k91 {a0 : (List Ta)} {v0 : Value} {a1 : Int} {r : Int} {w : World} {h : J3} (hw : Know h w Zo) (f0 : FrN h 6 v0 g_tag_Entry a0) (H : Jeu a0 a1 = some r) : Does prog 91 (List.toArray [v0, i6 a1]) w (fun v w' => v = (i6 r) ∧ Grow w w') := by
 obtain ⟨mm, hm⟩ := Je1 (show Zs (fun (self : ((List Ta) × Int) → Option (Int)) (s : (List Ta) × Int) => Z3 self s.1 s.2) (a0, a1) = some r from H)
 exact k91_it mm hw f0 hm
theorem k30 {a0 : Tf} {v0_1 : Value} {r : Int} {w : World} {h : J3} (hw : Know h w Zo) (f0_1 : FrN h 1 v0_1 gs_tag_Entry a0.Dirs) (H : Jct a0 = some r) : Does prog 30 (List.toArray [.agg #[.bool a0.Big, v0_1]]) w (fun v w' => v = (i6 r) ∧ Grow w w') := by
 refine enter (n := 27) func30 rfl rfl rfl Zo [] (Sat.nil _ _)<|Jc<|Ja<|?_
 refine Wj (cs := [.bool a0.Big, v0_1]) rfl rfl rfl rfl (fun b1 => ?_)
 refine ag (i6 0)<|Jd<|Jc<|Jc<|Ja<|lf runUnderlying24 rfl sizeOf22 rfl<|ll 0 v0_1 isAgg22<|lv (Xs underlying22 rfl f0_1)<|lv (Yn rfl rfl)<|Jd<|?_
 revert H
 refine ci (decide (20 < (a0.Dirs.length : Int))) rfl (fun hb H15=>?_) fun hb H16=>?_
 ·refine Jc<|Ja<|ag (i6 4)<|Jd<|Jl<|?_
  obtain rfl := sj H15
  exact r1 (i6 4)
 ·refine Jk ?_
  refine Qj (r := r) (σ := Unit) (τ := Unit) (fun s => Jdh a0) (fun s t => [(1, .pointer (some ⟨b1, 0, none⟩))]) (fun s t => [Jf b1 [.bool a0.Big, v0_1] 24]) (fun s t => True) ?_ ?_
  ·refine Jc<|Ja<|lf runUnderlying24 rfl sizeOf22 rfl<|ll 0 v0_1 isAgg22<|lv (Xs underlying22 rfl f0_1)<|mv (i6 0)<|Jd<|Ju<|?_
   refine Za (σ := Int) (τ := Unit) (fun next2 s => Vi a0 next2 s) (fun s t => [(1, .pointer (some ⟨b1, 0, none⟩)), (11, v0_1), (12, i6 (a0.Dirs.length : Int)), (13, i6 s)]) (fun s t => [Jf b1 [.bool a0.Big, v0_1] 24]) (fun s t => True) 0 () [0] H16 (by exact trivial) (by exact ⟨rfl, rfl, rfl, rfl, trivial⟩) (by decide) rfl ?_
   rintro x13_2 _ m2 gg H21 _
   clear H16
   try dsimp only at H21
   generalize hn2 : it (fun next2 s => Vi a0 next2 s) m2 = next2 at H21
   try dsimp only
   refine Jc<|Ja<|lv (Xz rfl rfl)<|Jd<|Jc<|?_
   revert H21
   refine ci (decide (x13_2 < (a0.Dirs.length : Int))) rfl (fun hb H22=>?_) fun hb H28=>?_
   ·refine Jk<|Jc<|Ju<|Jc<|Ja<|?_
    obtain ⟨t15, h_t15, H23⟩ := Je H22; clear H22
    refine lv (Xc underlying22 sizeOf36 rfl rfl f0_1.frs (f0_1.ix h_t15))<|Xi (fun w hF hS => Xo (f := (elC h v0_1 1)) (i := x13_2) (sz := 1) (j := 0) (v := (Qz h v0_1 1 (Int.toNat x13_2) 0)) isAgg36 rfl rfl (f0_1.frs.row (hw.now hF)) (f0_1.ix h_t15) (Jei (Ua (f0_1.at h_t15)) rfl)) rfl rfl rfl<|ag ((Qz h v0_1 1 (Int.toNat x13_2) 0))<|Jd<|Jc<|Ja<|mv ((Qz h v0_1 1 (Int.toNat x13_2) 0))<|?_
    obtain ⟨t18, h_t18, H24⟩ := Je H23; clear H23
    refine Qd (fun w hF hS => k91 (Jp w) ((show FrN h 6 (Qz h v0_1 1 (Int.toNat x13_2) 0) g_tag_Entry t15 from (f0_1.at h_t15)).mono (hw.now hF)) h_t18) call91 rfl rfl rfl<|ag (i6 t18)<|Jd<|Jc<|Ja<|mv (i6 t18)<|lv (Yt rfl rfl)<|Jd<|?_
    revert H24
    refine ci (decide (t18 ≠ 0)) rfl (fun hb H25=>?_) fun hb H26=>?_
    ·refine Jc<|Ja<|mv (i6 t18)<|ag (i6 t18)<|Jd<|Jl<|?_
     obtain rfl := sj H25
     exact r1 (i6 t18)
    ·refine Jk<|Ja<|?_
     obtain ⟨t22, h_t22, H27⟩ := Je H26; clear H26
     refine lv (J1 rfl rfl h_t22)<|mv (i6 t22)<|Jd<|?_
     exact cl t22 () m2 [0] (by exact ⟨(by subst hn2; exact H27), trivial⟩)
   ·refine Xa ?_
    exact cl () () 0 [0] (by exact ⟨H28, trivial⟩)
  ·rintro _ _ gg H17 _
   try dsimp only at H17
   try dsimp only
   refine Jc<|Jc<|Ja<|Q4 (i := 0) (vs := [.bool a0.Big, v0_1]) isAgg24 sizeOf24 rfl rfl rfl rfl rfl<|?_
   obtain ⟨t24, h_t24, H18⟩ := Je H17; clear H17
   refine Qd (fun w hF hS => k89 (Jp w) (f0_1.mono (hw.now hF)) h_t24) call89 rfl rfl rfl<|lv (Xn underlying9 rfl)<|lv (Yn rfl rfl)<|Jd<|?_
   revert H18
   refine ci (decide (65000 < (t24.length : Int))) rfl (fun hb H19=>?_) fun hb H20=>?_
   ·refine Jc<|Ja<|ag (i6 4)<|Jd<|Jl<|?_
    obtain rfl := sj H19
    exact r1 (i6 4)
   ·refine Jk<|Jc<|Ja<|ag (i6 0)<|Jd<|Jl<|?_
    obtain rfl := sj H20
    exact r1 (i6 0)
end Go.Proofs.YtgjpnjncfilgnaaGreatDoor
