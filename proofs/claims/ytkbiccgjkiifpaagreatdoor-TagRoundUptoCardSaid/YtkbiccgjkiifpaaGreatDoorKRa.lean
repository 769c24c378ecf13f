/- TagRound, checks: the walks, printed by our generator; each follows its model. Conditions: the model yields a value. -/
import Derived.Test.YtkbiccgjkiifpaaGreatDoorMd
import Derived.Test.YtkbiccgjkiifpaaGreatDoorLx2
import Derived.Test.YtkbiccgjkiifpaaGreatDoorProg
set_option linter.unusedVariables false
namespace Go.Proofs.YtkbiccgjkiifpaaGreatDoor
open Go Go.Vc Go.Md Go.M Go.Lx Tryz
set_option maxRecDepth 100000
set_option maxHeartbeats 4000000
theorem mixed : prog.follows .mixedOrders = true := by kernel_rfl
abbrev Q5 (x : Int) : List Value := [i6 x]
abbrev Xp : Nat → Value
  | 0 => .func (.func 32) #[] #[]
  | _ => .nilFunc
def Jcy (m : ((List Int) → Int → Option (Unit))) (w : World) (args : List Value) (post : Value → World → Prop) : Prop :=
  ∃ (a0 : (List Int)) (v0 : Value) (a1 : Int) (r : Unit), FrS (fun b => w.heap[b]?) 1 v0 (a0.map Q5) ∧ args = [v0, i6 a1] ∧ m a0 a1 = some r ∧ post = fun v' w' => v' = (.tuple #[]) ∧ Grow w w'
abbrev Jp (x : Td) : List Value := [i6 x.Num, i6 x.Den]
abbrev Xj (x : (List UInt8)) : List Value := [str x]
abbrev Ys (x : Int) : List Value := [.int .u8 x]
abbrev Jy (x : Te) : List Value := [i6 x.From, i6 x.To]
inductive g_tag_Entry (h : Js) : (Nat → Value) → Ta → Prop
  | mk {c : Nat → Value} {x : Ta} (h0 : c 0 = i6 x.Tag) (h1 : c 1 = i6 x.Value.kah) (h2 : c 2 = str x.Value.kai) (h3 : FrS h 1 (c 3) (x.Value.kaj.map Q5)) (h4 : FrS h 2 (c 4) (x.Value.kag.map Jp)) (h5 : FrS h 6 (c 5) ((List.range x.Value.kaf.length).map (elC h (c 5) 6))) (h6 : ∀ (i : Nat) (y : Ta), x.Value.kaf[i]? = some y → g_tag_Entry h (Xr h (c 5) 6 i) y) : g_tag_Entry h c x
instance : Mon g_tag_Entry := ⟨fun k c x f => by
  induction f with
  | mk h0 h1 h2 h3 h4 h5 h6 ih => exact .mk h0 h1 h2 (h3.mono k) (h4.mono k) (frsMono h5 k) (fun i y hy => by have e_ := elMonoE h5 k hy; rw [← e_]; exact ih i y hy)⟩
def gs_int (h : Js) (c : Nat → Value) (x : (List Int)) : Prop := FrS h 1 (c 0) (x.map Q5)
instance : Mon gs_int := ⟨fun k _ _ f => FrS.mono f k⟩
def gs_tag_Ratio (h : Js) (c : Nat → Value) (x : (List Td)) : Prop := FrS h 2 (c 0) (x.map Jp)
instance : Mon gs_tag_Ratio := ⟨fun k _ _ f => FrS.mono f k⟩
def gs_tag_Entry (h : Js) (c : Nat → Value) (x : (List Ta)) : Prop := FrN h 6 (c 0) g_tag_Entry x
instance : Mon gs_tag_Entry := ⟨fun k _ _ f => FrN.mono f k⟩
theorem Jbh {h : Js} {c : Nat → Value} {x : (List Ta)} (_ : gs_tag_Entry h c x) : (List.range 1).map c = [c 0] := rfl
def g_tag_Value (h : Js) (c : Nat → Value) (x : Tc) : Prop := c 0 = i6 x.kah ∧ c 1 = str x.kai ∧ gs_int h (fun j => c (2 + j)) x.kaj ∧ gs_tag_Ratio h (fun j => c (3 + j)) x.kag ∧ gs_tag_Entry h (fun j => c (4 + j)) x.kaf
instance : Mon g_tag_Value := ⟨fun k _ _ f => by obtain ⟨h0, h1, h2, h3, h4⟩ := f; exact ⟨h0, h1, Mon.mono k _ _ h2, Mon.mono k _ _ h3, Mon.mono k _ _ h4⟩⟩
theorem cg_tag_Value {h : Js} {c : Nat → Value} {x : Tc} (f : g_tag_Value h c x) : (List.range 5).map c = [i6 x.kah, str x.kai, c 2, c 3, c 4] := by
  obtain ⟨h0, h1, h2, h3, h4⟩ := f
  show [c 0, c 1, c 2, c 3, c 4] = _
  simp only [h0, h1]
theorem Xn {h : Js} {c : Nat → Value} {x : Tc} (f : g_tag_Value h c x) : gs_int h (fun j => c (2 + j)) x.kaj := by
  obtain ⟨h0, h1, h2, h3, h4⟩ := f; exact h2
theorem Xo {h : Js} {c : Nat → Value} {x : Tc} (f : g_tag_Value h c x) : gs_tag_Ratio h (fun j => c (3 + j)) x.kag := by
  obtain ⟨h0, h1, h2, h3, h4⟩ := f; exact h3
theorem Qx {h : Js} {c : Nat → Value} {x : Tc} (f : g_tag_Value h c x) : gs_tag_Entry h (fun j => c (4 + j)) x.kaf := by
  obtain ⟨h0, h1, h2, h3, h4⟩ := f; exact h4
theorem g_tag_Entry_iff {h : Js} {c : Nat → Value} {x : Ta} : g_tag_Entry h c x ↔ (c 0 = i6 x.Tag ∧ g_tag_Value h (fun j => c (1 + j)) x.Value) :=
  ⟨fun f => by cases f with | mk h0 h1 h2 h3 h4 h5 h6 => exact ⟨h0, ⟨h1, h2, h3, h4, ⟨h5, h6⟩⟩⟩, fun ⟨h0, ⟨h1, h2, h3, h4, ⟨h5, h6⟩⟩⟩ => .mk h0 h1 h2 h3 h4 h5 h6⟩
theorem Wj {h : Js} {c : Nat → Value} {x : Ta} (f : g_tag_Entry h c x) : (List.range 6).map c = [i6 x.Tag, i6 x.Value.kah, str x.Value.kai, c 3, c 4, c 5] := by
  obtain ⟨h0, h1⟩ := g_tag_Entry_iff.1 f
  have hc1 := cg_tag_Value h1
  simp only [List.range, List.range.loop, List.map_cons, List.map_nil, Nat.reduceAdd, List.cons.injEq, and_true] at hc1
  show [c 0, c 1, c 2, c 3, c 4, c 5] = _
  simp only [h0, hc1]
theorem Jt {h : Js} {c : Nat → Value} {x : Ta} (f : g_tag_Entry h c x) : g_tag_Value h (fun j => c (1 + j)) x.Value := by
  obtain ⟨h0, h1⟩ := g_tag_Entry_iff.1 f; exact h1
theorem run_eqT70 (d : Nat) (w : World) (a0 b0 : Int) (a1 b1 : Int) : (Op.equalIn (d + 2) 70 (.agg #[i6 a0, i6 a1]) (.agg #[i6 b0, i6 b1])).run prog w = .ok (decide (a0 = b0 ∧ a1 = b1)) w := by
  rw [run_equalIn_struct w (d + 1) 70 _ _ (by simp only [Program.fieldsOf, underlying70]) stoodInHeld70]
  simp only [Program.fieldsOf, underlying70, Op.eqFields]
  simp [part, run_equalIn_int, Jih, run_equalIn_bool', underlying3]
  repeat' split
  all_goals simp_all
theorem Jid (w : World) (x y : Td) : (Op.equalIn Op.maxDepth 70 (.agg #[i6 x.Num, i6 x.Den]) (.agg #[i6 y.Num, i6 y.Den])).run prog w = .ok (Jb6 x y) w :=
  run_eqT70 9998 w _ _ _ _
theorem k66 {a0 : Int} {a1 : Int} {a2 : Int} {r : Bool} (H : Wr a0 a1 a2 = some r) : Ret prog 66 [i6 a0, i6 a1, i6 a2] (.bool r) := by
 refine Qi (n := 15) func66 rfl rfl rfl (fun wd => ?_)
 refine Jc<|Ja<|ag (.bool false)<|Jd<|Jc<|Ja<|mv (i6 a0)<|mv (i6 a1)<|lv (Yh rfl rfl)<|mv (.bool (decide (a0 < a1)))<|?_
 revert H
 refine sp (fun hb H3=>?_) fun hb H4=>?_
 ·refine pa<|pa<|pa<|pT (.bool true)<|ag (.bool true)<|Jd<|Jh<|?_
  obtain rfl := sj H3
  exact r1 (.bool true)
 ·refine mv (i6 a0)<|mv (i6 a2)<|lv (Va rfl rfl)<|pF (.bool (decide (a2 < a0)))<|ag (.bool (decide (a2 < a0)))<|Jd<|Jh<|?_
  obtain rfl := sj H4
  exact r1 (.bool (decide (a2 < a0)))
theorem k114 {a0 : Int} {r : Int} (H : Zr a0 = some r) : Ret prog 114 [i6 a0] (i6 r) := by
 refine Qi (n := 16) func114 rfl rfl rfl (fun wd => ?_)
 refine Jc<|Ja<|ag (i6 0)<|Jd<|Jc<|Jc<|Ja<|mv (i6 a0)<|Jd<|Jq<|?_
 refine Qm (r := r) (σ := Bool) (τ := Unit) (fun s => U9 a0 s) (fun s t => [(3, i6 a0), (4, .bool s)]) (fun s t => []) (fun s t => True) ?_ ?_
 ·refine Jc<|Ja<|lv (Qg rfl rfl)<|ag (.bool (decide (a0 = 1)))<|Jd<|?_
  revert H
  refine ci (decide (a0 = 1)) rfl (fun hb H37=>?_) fun hb H38=>?_
  ·refine Jj ?_
   exact cl (decide (a0 = 1)) () 0 [] (by exact ⟨H37, trivial⟩)
  ·refine Jc<|Ja<|lv (Qg rfl rfl)<|ag (.bool (decide (a0 = 2)))<|Jd<|?_
   revert H38
   refine ci (decide (a0 = 2)) rfl (fun hb H39=>?_) fun hb H40=>?_
   ·refine Jj ?_
    exact cl (decide (a0 = 2)) () 0 [] (by exact ⟨H39, trivial⟩)
   ·refine Jc<|Ja<|lv (Qg rfl rfl)<|ag (.bool (decide (a0 = 7)))<|Jd<|?_
    revert H40
    refine ci (decide (a0 = 7)) rfl (fun hb H41=>?_) fun hb H42=>?_
    ·refine Jj ?_
     exact cl (decide (a0 = 7)) () 0 [] (by exact ⟨H41, trivial⟩)
    ·refine Ja<|lv (Qg rfl rfl)<|ag (.bool (decide (a0 = 13)))<|Jd<|?_
     exact cl (decide (a0 = 13)) () 0 [] (by exact ⟨H42, trivial⟩)
 ·rintro x4 _ gg H22 _
  try dsimp only at H22
  try dsimp only
  revert H22
  refine ci x4 rfl (fun hb H23=>?_) fun hb H24=>?_
  ·refine Jc<|Ja<|ag (i6 1)<|Jd<|Jh<|?_
   obtain rfl := sj H23
   exact r1 (i6 1)
  ·refine Jc<|Ja<|lv (Qg rfl rfl)<|ag (.bool (decide (a0 = 3)))<|Jd<|?_
   revert H24
   refine ci (decide (a0 = 3)) rfl (fun hb H25=>?_) fun hb H26=>?_
   ·refine Jc<|Ja<|ag (i6 2)<|Jd<|Jh<|?_
    obtain rfl := sj H25
    exact r1 (i6 2)
   ·refine Jc<|Jc<|Ja<|lv (Qg rfl rfl)<|ag (.bool (decide (a0 = 4)))<|Jd<|?_
    revert H26
    refine ci (decide (a0 = 4)) rfl (fun hb H27=>?_) fun hb H32=>?_
    ·refine Jj ?_
     revert H27
     refine ci (decide (a0 = 4)) rfl (fun hb H28=>?_) fun hb H29=>?_
     ·refine Jc<|Ja<|ag (i6 4)<|Jd<|Jh<|?_
      obtain rfl := sj H28
      exact r1 (i6 4)
     ·refine Jc<|Ja<|lv (Qg rfl rfl)<|ag (.bool (decide (a0 = 5)))<|Jd<|?_
      revert H29
      refine ci (decide (a0 = 5)) rfl (fun hb H30=>?_) fun hb H31=>?_
      ·refine Jc<|Ja<|ag (i6 8)<|Jd<|Jh<|?_
       obtain rfl := sj H30
       exact r1 (i6 8)
      ·refine Jj<|Jc<|Ja<|ag (i6 0)<|Jd<|Jh<|?_
       obtain rfl := sj H31
       exact r1 (i6 0)
    ·refine Ja<|lv (Qg rfl rfl)<|ag (.bool (decide (a0 = 9)))<|Jd<|?_
     revert H32
     refine ci (decide (a0 = 9)) rfl (fun hb H33=>?_) fun hb H34=>?_
     ·refine Jc<|Ja<|ag (i6 4)<|Jd<|Jh<|?_
      obtain rfl := sj H33
      exact r1 (i6 4)
     ·refine Jc<|Ja<|lv (Qg rfl rfl)<|ag (.bool (decide (a0 = 5)))<|Jd<|?_
      revert H34
      refine ci (decide (a0 = 5)) rfl (fun hb H35=>?_) fun hb H36=>?_
      ·refine Jc<|Ja<|ag (i6 8)<|Jd<|Jh<|?_
       obtain rfl := sj H35
       exact r1 (i6 8)
      ·refine Jj<|Jc<|Ja<|ag (i6 0)<|Jd<|Jh<|?_
       obtain rfl := sj H36
       exact r1 (i6 0)
theorem k115 {a0 : Int} {r : Bool} (H : Jfi a0 = some r) : Ret prog 115 [i6 a0] (.bool r) := by
 refine Qi (n := 17) func115 rfl rfl rfl (fun wd => ?_)
 refine Jc<|Ja<|ag (.bool false)<|Jd<|Jc<|Ja<|mv (i6 a0)<|lv (Qg rfl rfl)<|mv (.bool (decide (a0 = 1)))<|?_
 revert H
 refine sp (fun hb H7=>?_) fun hb H8=>?_
 ·refine pa<|pa<|pT (.bool true)<|mv (.bool true)<|pa<|pa<|pT (.bool true)<|mv (.bool true)<|pa<|pa<|pT (.bool true)<|ag (.bool true)<|Jd<|Jh<|?_
  obtain rfl := sj H7
  exact r1 (.bool true)
 ·refine mv (i6 a0)<|lv (Qg rfl rfl)<|pF (.bool (decide (a0 = 3)))<|mv (.bool (decide (a0 = 3)))<|?_
  revert H8
  refine sp (fun hb H9=>?_) fun hb H10=>?_
  ·refine pa<|pa<|pT (.bool true)<|mv (.bool true)<|pa<|pa<|pT (.bool true)<|ag (.bool true)<|Jd<|Jh<|?_
   obtain rfl := sj H9
   exact r1 (.bool true)
  ·refine mv (i6 a0)<|lv (Qg rfl rfl)<|pF (.bool (decide (a0 = 4)))<|mv (.bool (decide (a0 = 4)))<|?_
   revert H10
   refine sp (fun hb H11=>?_) fun hb H12=>?_
   ·refine pa<|pa<|pT (.bool true)<|ag (.bool true)<|Jd<|Jh<|?_
    obtain rfl := sj H11
    exact r1 (.bool true)
   ·refine mv (i6 a0)<|lv (Qg rfl rfl)<|pF (.bool (decide (a0 = 9)))<|ag (.bool (decide (a0 = 9)))<|Jd<|Jh<|?_
    obtain rfl := sj H12
    exact r1 (.bool (decide (a0 = 9)))
theorem k116 {a0 : Int} {r : Bool} (H : Jbr a0 = some r) : Ret prog 116 [i6 a0] (.bool r) := by
 refine Qi (n := 9) func116 rfl rfl rfl (fun wd => ?_)
 refine Jc<|Ja<|ag (.bool false)<|Jd<|Jc<|Ja<|mv (i6 a0)<|lv (Qg rfl rfl)<|mv (.bool (decide (a0 = 2)))<|?_
 revert H
 refine sp (fun hb H3=>?_) fun hb H4=>?_
 ·refine pa<|pa<|pT (.bool true)<|ag (.bool true)<|Jd<|Jh<|?_
  obtain rfl := sj H3
  exact r1 (.bool true)
 ·refine mv (i6 a0)<|lv (Qg rfl rfl)<|pF (.bool (decide (a0 = 7)))<|ag (.bool (decide (a0 = 7)))<|Jd<|Jh<|?_
  obtain rfl := sj H4
  exact r1 (.bool (decide (a0 = 7)))
theorem k68 {a0 : Tc} {v0_2 : Value} {v0_3 : Value} {v0_4 : Value} {r : Int} {w : World} {h : Js} (hw : Know h w Zk) (f0_2 : FrS h 1 v0_2 (a0.kaj.map Q5)) (f0_3 : FrS h 2 v0_3 (a0.kag.map Jp)) (f0_4 : FrN h 6 v0_4 g_tag_Entry a0.kaf) (H : Wa a0 = some r) : Does prog 68 (List.toArray [.agg #[i6 a0.kah, str a0.kai, v0_2, v0_3, v0_4]]) w (fun v w' => v = (i6 r) ∧ Grow w w') := by
 refine enter (n := 46) func68 rfl rfl rfl Zk [] (Sat.nil _ _)<|Jc<|Ja<|?_
 refine Jat (cs := [i6 a0.kah, str a0.kai, v0_2, v0_3, v0_4]) rfl rfl rfl rfl (fun b1 => ?_)
 refine ag (i6 0)<|Jd<|Jc<|Jq<|Jc<|Ja<|lf Tryz.runUnderlying81 rfl Tryz.sizeOf3 rfl<|ll 0 (i6 a0.kah) Tryz.isAgg3<|?_
 obtain ⟨t6, h_t6, H31⟩ := Je H; clear H
 refine Qk (k114 h_t6) call114 rfl rfl rfl<|lv (Qg rfl rfl)<|ag (.bool (decide (t6 = 0)))<|Jd<|?_
 revert H31
 refine ci (decide (t6 = 0)) rfl (fun hb H32=>?_) fun hb H33=>?_
 ·refine Jc<|Ja<|ag (i6 10)<|Jd<|Jh<|?_
  obtain rfl := sj H32
  exact r1 (i6 10)
 ·refine Jc ?_
  refine Qm (r := r) (σ := Bool) (τ := Unit) (fun s => Vy a0 s) (fun s t => [(1, pz b1), (8, .bool s)]) (fun s t => [Ji b1 [i6 a0.kah, str a0.kai, v0_2, v0_3, v0_4] 81]) (fun s t => True) ?_ ?_
  ·refine Ja<|lf Tryz.runUnderlying81 rfl Tryz.sizeOf3 rfl<|ll 0 (i6 a0.kah) Tryz.isAgg3<|?_
   obtain ⟨t11, h_t11, H58⟩ := Je H33; clear H33
   refine Qk (k115 h_t11) call115 rfl rfl rfl<|lv (Jb8 rfl)<|mv (.bool (!t11))<|?_
   revert H58
   refine sp (fun hb H59=>?_) fun hb H60=>?_
   ·refine lf Tryz.runUnderlying81 rfl Tryz.sizeOf76 rfl<|ll 0 v0_2 isAgg76<|lv (Jbs Tryz.underlying76 rfl f0_2 rfl)<|lv (Va rfl rfl)<|pT (.bool (decide (0 < (a0.kaj.length : Int))))<|ag (.bool (decide (0 < (a0.kaj.length : Int))))<|Jd<|?_
    exact cl (decide (0 < (a0.kaj.length : Int))) () 0 [0] (by exact ⟨H59, trivial⟩)
   ·refine pa<|pa<|pa<|pa<|pF (.bool false)<|ag (.bool false)<|Jd<|?_
    exact cl false () 0 [0] (by exact ⟨H60, trivial⟩)
  ·rintro x8 _ gg H34 _
   try dsimp only at H34
   try dsimp only
   revert H34
   refine ci x8 rfl (fun hb H35=>?_) fun hb H38=>?_
   ·refine Jj ?_
    revert H35
    refine ci x8 rfl (fun hb H36=>?_) fun hb H37=>?_
    ·refine Jc<|Ja<|ag (i6 1)<|Jd<|Jh<|?_
     obtain rfl := sj H36
     exact r1 (i6 1)
    ·refine Jj<|Jc<|Ja<|ag (i6 0)<|Jd<|Jh<|?_
     obtain rfl := sj H37
     exact r1 (i6 0)
   ·refine Qm (r := r) (σ := Bool) (τ := Unit) (fun s => V4 a0 s) (fun s t => [(1, pz b1), (8, .bool s)]) (fun s t => [Ji b1 [i6 a0.kah, str a0.kai, v0_2, v0_3, v0_4] 81]) (fun s t => True) ?_ ?_
    ·refine Ja<|lf Tryz.runUnderlying81 rfl Tryz.sizeOf3 rfl<|ll 0 (i6 a0.kah) Tryz.isAgg3<|?_
     obtain ⟨t21, h_t21, H55⟩ := Je H38; clear H38
     refine Qk (k116 h_t21) call116 rfl rfl rfl<|lv (Jb8 rfl)<|mv (.bool (!t21))<|?_
     revert H55
     refine sp (fun hb H56=>?_) fun hb H57=>?_
     ·refine lf Tryz.runUnderlying81 rfl Tryz.sizeOf9 rfl<|ll 0 (str a0.kai) isAgg9<|lv (Jfc rfl rfl)<|pT (.bool (decide (a0.kai ≠ [])))<|ag (.bool (decide (a0.kai ≠ [])))<|Jd<|?_
      exact cl (decide (a0.kai ≠ [])) () 0 [0] (by exact ⟨H56, trivial⟩)
     ·refine pa<|pa<|pa<|pF (.bool false)<|ag (.bool false)<|Jd<|?_
      exact cl false () 0 [0] (by exact ⟨H57, trivial⟩)
    ·rintro x8_2 _ gg H39 _
     try dsimp only at H39
     try dsimp only
     revert H39
     refine ci x8_2 rfl (fun hb H40=>?_) fun hb H43=>?_
     ·refine Jj ?_
      revert H40
      refine ci x8_2 rfl (fun hb H41=>?_) fun hb H42=>?_
      ·refine Jc<|Ja<|ag (i6 1)<|Jd<|Jh<|?_
       obtain rfl := sj H41
       exact r1 (i6 1)
      ·refine Jj<|Jc<|Ja<|ag (i6 0)<|Jd<|Jh<|?_
       obtain rfl := sj H42
       exact r1 (i6 0)
     ·refine Qm (r := r) (σ := Bool) (τ := Unit) (fun s => V2 a0 s) (fun s t => [(1, pz b1), (8, .bool s)]) (fun s t => [Ji b1 [i6 a0.kah, str a0.kai, v0_2, v0_3, v0_4] 81]) (fun s t => True) ?_ ?_
      ·refine Ja<|lf Tryz.runUnderlying81 rfl Tryz.sizeOf3 rfl<|ll 0 (i6 a0.kah) Tryz.isAgg3<|lv (Zm rfl rfl)<|mv (.bool (decide (a0.kah ≠ 5)))<|?_
       revert H43
       refine sp (fun hb H53=>?_) fun hb H54=>?_
       ·refine lf Tryz.runUnderlying81 rfl Tryz.sizeOf79 rfl<|ll 0 v0_3 isAgg79<|lv (Jbs Tryz.underlying79 rfl f0_3 rfl)<|lv (Va rfl rfl)<|pT (.bool (decide (0 < (a0.kag.length : Int))))<|ag (.bool (decide (0 < (a0.kag.length : Int))))<|Jd<|?_
        exact cl (decide (0 < (a0.kag.length : Int))) () 0 [0] (by exact ⟨H53, trivial⟩)
       ·refine pa<|pa<|pa<|pa<|pF (.bool false)<|ag (.bool false)<|Jd<|?_
        exact cl false () 0 [0] (by exact ⟨H54, trivial⟩)
      ·rintro x8_3 _ gg H44 _
       try dsimp only at H44
       try dsimp only
       revert H44
       refine ci x8_3 rfl (fun hb H45=>?_) fun hb H48=>?_
       ·refine Jj ?_
        revert H45
        refine ci x8_3 rfl (fun hb H46=>?_) fun hb H47=>?_
        ·refine Jc<|Ja<|ag (i6 1)<|Jd<|Jh<|?_
         obtain rfl := sj H46
         exact r1 (i6 1)
        ·refine Jj<|Jc<|Ja<|ag (i6 0)<|Jd<|Jh<|?_
         obtain rfl := sj H47
         exact r1 (i6 0)
       ·refine Ja<|lf Tryz.runUnderlying81 rfl Tryz.sizeOf3 rfl<|ll 0 (i6 a0.kah) Tryz.isAgg3<|lv (Zm rfl rfl)<|mv (.bool (decide (a0.kah ≠ 13)))<|?_
        revert H48
        refine sp (fun hb H49=>?_) fun hb H52=>?_
        ·refine lf Tryz.runUnderlying81 rfl Tryz.sizeOf41 rfl<|ll 0 v0_4 isAgg41<|lv (Vk Tryz.underlying41 rfl f0_4)<|lv (Va rfl rfl)<|pT (.bool (decide (0 < (a0.kaf.length : Int))))<|ag (.bool (decide (0 < (a0.kaf.length : Int))))<|Jd<|?_
         revert H49
         refine ci (decide (0 < (a0.kaf.length : Int))) rfl (fun hb H50=>?_) fun hb H51=>?_
         ·refine Jc<|Ja<|ag (i6 1)<|Jd<|Jh<|?_
          obtain rfl := sj H50
          exact r1 (i6 1)
         ·refine Jj<|Jc<|Ja<|ag (i6 0)<|Jd<|Jh<|?_
          obtain rfl := sj H51
          exact r1 (i6 0)
        ·refine pa<|pa<|pa<|pa<|pF (.bool false)<|ag (.bool false)<|Jd<|Zq rfl<|Jj<|Jc<|Ja<|ag (i6 0)<|Jd<|Jh<|?_
         obtain rfl := sj H52
         exact r1 (i6 0)
theorem k113 {a0 : Int} {r : Int × Int} (H : Jfv a0 = some r) : Ret prog 113 [i6 a0] (.tuple #[i6 r.1, i6 r.2]) := by
 refine Qi (n := 11) func113 rfl rfl rfl (fun wd => ?_)
 refine Jc<|Ja<|ag (i6 0)<|ag (i6 0)<|Jd<|Jc<|Jc<|Ja<|mv (i6 a0)<|Jd<|Jq<|Jc<|Ja<|lv (Qg rfl rfl)<|ag (.bool (decide (a0 = 1)))<|Jd<|?_
 revert H
 refine ci (decide (a0 = 1)) rfl (fun hb H7=>?_) fun hb H8=>?_
 ·refine Jc<|Ja<|ag (i6 0)<|ag (i6 255)<|Jd<|Jh<|?_
  obtain rfl := sj H7
  refine Jba (v1 := i6 0) (v2 := i6 255) rfl rfl rfl (fin rfl)
 ·refine Jc<|Ja<|lv (Qg rfl rfl)<|ag (.bool (decide (a0 = 3)))<|Jd<|?_
  revert H8
  refine ci (decide (a0 = 3)) rfl (fun hb H9=>?_) fun hb H10=>?_
  ·refine Jc<|Ja<|ag (i6 0)<|ag (i6 65535)<|Jd<|Jh<|?_
   obtain rfl := sj H9
   refine Jba (v1 := i6 0) (v2 := i6 65535) rfl rfl rfl (fin rfl)
  ·refine Jc<|Ja<|lv (Qg rfl rfl)<|ag (.bool (decide (a0 = 9)))<|Jd<|?_
   revert H10
   refine ci (decide (a0 = 9)) rfl (fun hb H11=>?_) fun hb H12=>?_
   ·refine Jc<|Ja<|ag (i6 (-2147483648))<|ag (i6 2147483647)<|Jd<|Jh<|?_
    obtain rfl := sj H11
    refine Jba (v1 := i6 (-2147483648)) (v2 := i6 2147483647) rfl rfl rfl (fin rfl)
   ·refine Jj<|Jc<|Ja<|ag (i6 0)<|ag (i6 4294967295)<|Jd<|Jh<|?_
    obtain rfl := sj H12
    refine Jba (v1 := i6 0) (v2 := i6 4294967295) rfl rfl rfl (fin rfl)
theorem k67 {a0 : Tc} {v0_2 : Value} {v0_3 : Value} {v0_4 : Value} {r : Int} {w : World} {h : Js} (hw : Know h w Zk) (f0_2 : FrS h 1 v0_2 (a0.kaj.map Q5)) (f0_3 : FrS h 2 v0_3 (a0.kag.map Jp)) (f0_4 : FrN h 6 v0_4 g_tag_Entry a0.kaf) (H : Jan a0 = some r) : Does prog 67 (List.toArray [.agg #[i6 a0.kah, str a0.kai, v0_2, v0_3, v0_4]]) w (fun v w' => v = (i6 r) ∧ Grow w w') := by
 refine enter (n := 65) func67 rfl rfl rfl Zk [] (Sat.nil _ _)<|Jc<|Ja<|?_
 refine Jat (cs := [i6 a0.kah, str a0.kai, v0_2, v0_3, v0_4]) rfl rfl rfl rfl (fun b2 => ?_)
 refine ag (i6 0)<|Jd<|Jc<|Jc<|Ja<|Qq (i := 0) (vs := [i6 a0.kah, str a0.kai, v0_2, v0_3, v0_4]) Tryz.isAgg81 Tryz.sizeOf81 rfl rfl rfl rfl rfl<|?_
 obtain ⟨t12, h_t12, H35⟩ := Je H; clear H
 refine Qb (fun w hF hS => k68 (Jm w) (f0_2.mono (hw.now hF)) (f0_3.mono (hw.now hF)) (f0_4.mono (hw.now hF)) h_t12) call68 rfl rfl rfl<|ag (i6 t12)<|Jd<|Jc<|Ja<|mv (i6 t12)<|lv (Zm rfl rfl)<|Jd<|?_
 revert H35
 refine ci (decide (t12 ≠ 0)) rfl (fun hb H36=>?_) fun hb H37=>?_
 ·refine Jc<|Ja<|mv (i6 t12)<|ag (i6 t12)<|Jd<|Jh<|?_
  obtain rfl := sj H36
  exact r1 (i6 t12)
 ·refine Jj<|Jc<|Ja<|lf Tryz.runUnderlying81 rfl Tryz.sizeOf3 rfl<|ll 0 (i6 a0.kah) Tryz.isAgg3<|?_
  obtain ⟨t19, h_t19, H38⟩ := Je H37; clear H37
  refine Qk (k113 h_t19) call113 rfl rfl rfl<|mv (.tuple #[i6 t19.1, i6 t19.2])<|lv (Jk (v := i6 t19.1) rfl rfl)<|lv (Jk (v := i6 t19.2) rfl rfl)<|ag (i6 t19.1)<|ag (i6 t19.2)<|Jd<|?_
  refine Qm (r := r) (σ := Unit) (τ := Unit) (fun s => Wf a0) (fun s t => [(1, pz b2)]) (fun s t => [Ji b2 [i6 a0.kah, str a0.kai, v0_2, v0_3, v0_4] 81]) (fun s t => True) ?_ ?_
  ·refine Jc<|Ja<|lf Tryz.runUnderlying81 rfl Tryz.sizeOf76 rfl<|ll 0 v0_2 isAgg76<|lv (Jbs Tryz.underlying76 rfl f0_2 rfl)<|mv (i6 0)<|Jd<|Jq<|?_
   refine Yq (σ := Int) (τ := Unit) (fun next5 s => X9 a0 t19 next5 s) (fun s t => [(1, pz b2), (4, i6 t19.1), (5, i6 t19.2), (23, v0_2), (24, i6 (a0.kaj.length : Int)), (25, i6 s)]) (fun s t => [Ji b2 [i6 a0.kah, str a0.kai, v0_2, v0_3, v0_4] 81]) (fun s t => True) 0 () [0] H38 (by exact trivial) (by exact ⟨rfl, rfl, rfl, rfl, rfl, rfl, trivial⟩) (by decide) rfl ?_
   rintro x25_2 _ m5 gg H61 _
   clear H38
   try dsimp only at H61
   generalize hn5 : it (fun next5 s => X9 a0 t19 next5 s) m5 = next5 at H61
   try dsimp only
   refine Jc<|Ja<|lv (Yh rfl rfl)<|Jd<|Jc<|?_
   revert H61
   refine ci (decide (x25_2 < (a0.kaj.length : Int))) rfl (fun hb H62=>?_) fun hb H68=>?_
   ·refine Jj<|Jc<|Jq<|Jc<|Ja<|?_
    obtain ⟨t27, h_t27, H63⟩ := Je H62; clear H62
    refine lv (Yz Tryz.underlying76 Tryz.sizeOf3 rfl rfl f0_2 h_t27)<|Q7 (fun w hF hS => Xv (f := Q5) (i := x25_2) (sz := 1) (j := 0) (v := i6 t27) Tryz.isAgg3 rfl rfl (f0_2.row (hw.now hF)) h_t27 rfl) rfl rfl rfl<|ag (i6 t27)<|Jd<|Jc<|Ja<|mv (i6 t27)<|mv (i6 t19.1)<|mv (i6 t19.2)<|?_
    obtain ⟨t32, h_t32, H64⟩ := Je H63; clear H63
    refine Qk (k66 h_t32) call66 rfl rfl rfl<|Jd<|?_
    revert H64
    refine ci t32 rfl (fun hb H65=>?_) fun hb H66=>?_
    ·refine Jc<|Ja<|ag (i6 2)<|Jd<|Jh<|?_
     obtain rfl := sj H65
     exact r1 (i6 2)
    ·refine Jj<|Ja<|?_
     obtain ⟨t33, h_t33, H67⟩ := Je H66; clear H66
     refine lv (J8 rfl rfl h_t33)<|mv (i6 t33)<|Jd<|?_
     exact cl t33 () m5 [0] (by exact ⟨(by subst hn5; exact H67), trivial⟩)
   ·refine Qo ?_
    exact cl () () 0 [0] (by exact ⟨H68, trivial⟩)
  ·rintro _ _ gg H39 _
   try dsimp only at H39
   try dsimp only
   refine Qm (r := r) (σ := Unit) (τ := Unit) (fun s => Wn a0) (fun s t => [(1, pz b2)]) (fun s t => [Ji b2 [i6 a0.kah, str a0.kai, v0_2, v0_3, v0_4] 81]) (fun s t => True) ?_ ?_
   ·refine Jc<|Ja<|lf Tryz.runUnderlying81 rfl Tryz.sizeOf79 rfl<|ll 0 v0_3 isAgg79<|lv (Jbs Tryz.underlying79 rfl f0_3 rfl)<|mv (i6 0)<|Jd<|Jq<|?_
    refine Yq (σ := Int) (τ := Unit) (fun next4 s => X6 a0 next4 s) (fun s t => [(1, pz b2), (35, v0_3), (36, i6 (a0.kag.length : Int)), (37, i6 s)]) (fun s t => [Ji b2 [i6 a0.kah, str a0.kai, v0_2, v0_3, v0_4] 81]) (fun s t => True) 0 () [0] H39 (by exact trivial) (by exact ⟨rfl, rfl, rfl, rfl, trivial⟩) (by decide) rfl ?_
    rintro x37_2 _ m4 gg H50 _
    clear H39
    try dsimp only at H50
    generalize hn4 : it (fun next4 s => X6 a0 next4 s) m4 = next4 at H50
    try dsimp only
    refine Jc<|Ja<|lv (Yh rfl rfl)<|Jd<|Jc<|?_
    revert H50
    refine ci (decide (x37_2 < (a0.kag.length : Int))) rfl (fun hb H51=>?_) fun hb H60=>?_
    ·refine Jj<|Jc<|Jq<|Jc<|Ja<|?_
     obtain ⟨t39, h_t39, H52⟩ := Je H51; clear H51
     refine lv (Yz Tryz.underlying79 Tryz.sizeOf70 rfl rfl f0_3 h_t39)<|Q7 (fun w hF hS => Wu (f := Jp) (i := x37_2) (sz := 2) (j := 0) (vs := [i6 t39.Num, i6 t39.Den]) isAgg70 Tryz.sizeOf70 rfl rfl (f0_3.row (hw.now hF)) h_t39 rfl) rfl rfl rfl<|?_
     refine Q2 (cs := [i6 0, i6 0]) zeroValue70 rfl rfl rfl (fun b3 => ?_)
     refine st (i := 1) [i6 t39.Num, i6 t39.Den] [i6 t39.Num, i6 t39.Den] Tryz.sizeOf70 rfl rfl<|Jd<|Jc<|Ja<|lf Tryz.runUnderlying70 rfl Tryz.sizeOf3 rfl<|ll 1 (i6 t39.Num) Tryz.isAgg3<|?_
     obtain ⟨t43, h_t43, H53⟩ := Je H52; clear H52
     refine Qk (k66 h_t43) call66 rfl rfl rfl<|mv (.bool t43)<|?_
     revert H53
     refine sp (fun hb H54=>?_) fun hb H55=>?_
     ·refine pa<|pa<|pa<|pT (.bool true)<|Jd<|Y4 rfl<|Jc<|Ja<|ag (i6 2)<|Jd<|Jh<|?_
      obtain rfl := sj H54
      exact r1 (i6 2)
     ·refine lf Tryz.runUnderlying70 rfl Tryz.sizeOf3 rfl<|ll 1 (i6 t39.Den) Tryz.isAgg3<|?_
      obtain ⟨t47, h_t47, H56⟩ := Je H55; clear H55
      refine Qk (k66 h_t47) call66 rfl rfl rfl<|pF (.bool t47)<|Jd<|?_
      revert H56
      refine ci t47 rfl (fun hb H57=>?_) fun hb H58=>?_
      ·refine Jc<|Ja<|ag (i6 2)<|Jd<|Jh<|?_
       obtain rfl := sj H57
       exact r1 (i6 2)
      ·refine Jj<|Ja<|?_
       obtain ⟨t49, h_t49, H59⟩ := Je H58; clear H58
       refine lv (J8 rfl rfl h_t49)<|mv (i6 t49)<|Jd<|?_
       exact cl t49 () m4 [0] (by exact ⟨(by subst hn4; exact H59), trivial⟩)
    ·refine Qo ?_
     exact cl () () 0 [0] (by exact ⟨H60, trivial⟩)
   ·rintro _ _ gg H40 _
    try dsimp only at H40
    try dsimp only
    refine Jc<|Jc<|Ja<|lf Tryz.runUnderlying81 rfl Tryz.sizeOf3 rfl<|ll 0 (i6 a0.kah) Tryz.isAgg3<|lv (Qg rfl rfl)<|Jd<|?_
    revert H40
    refine ci (decide (a0.kah = 2)) rfl (fun hb H41=>?_) fun hb H49=>?_
    ·refine Jc<|Ja<|lf Tryz.runUnderlying81 rfl Tryz.sizeOf9 rfl<|ll 0 (str a0.kai) isAgg9<|lv (Q8 Tryz.underlying9 rfl)<|mv (i6 0)<|Jd<|Jq<|?_
     refine Yq (σ := Int) (τ := Unit) (fun next3 s => Yt a0 next3 s) (fun s t => [(1, pz b2), (55, i6 (a0.kai.length : Int)), (56, i6 s)]) (fun s t => [Ji b2 [i6 a0.kah, str a0.kai, v0_2, v0_3, v0_4] 81]) (fun s t => True) 0 () [0] H41 (by exact trivial) (by exact ⟨rfl, rfl, rfl, trivial⟩) (by decide) rfl ?_
     rintro x56_2 _ m3 gg H42 _
     clear H41
     try dsimp only at H42
     generalize hn3 : it (fun next3 s => Yt a0 next3 s) m3 = next3 at H42
     try dsimp only
     refine Jc<|Ja<|lv (Yh rfl rfl)<|Jd<|Jc<|?_
     revert H42
     refine ci (decide (x56_2 < (a0.kai.length : Int))) rfl (fun hb H43=>?_) fun hb H48=>?_
     ·refine Jj<|Jc<|Jq<|Jc<|Ja<|mv (i6 x56_2)<|ag (i6 x56_2)<|Jd<|Jc<|Ja<|lf Tryz.runUnderlying81 rfl Tryz.sizeOf9 rfl<|ll 0 (str a0.kai) isAgg9<|mv (i6 x56_2)<|?_
      obtain ⟨t62, h_t62, H44⟩ := Je H43; clear H43
      refine lv (Zz Tryz.underlying9 rfl rfl h_t62)<|lv (Qg rfl rfl)<|Jd<|?_
      revert H44
      refine ci (decide (t62 = 0)) rfl (fun hb H45=>?_) fun hb H46=>?_
      ·refine Jc<|Ja<|ag (i6 9)<|Jd<|Jh<|?_
       obtain rfl := sj H45
       exact r1 (i6 9)
      ·refine Jj<|Ja<|?_
       obtain ⟨t64, h_t64, H47⟩ := Je H46; clear H46
       refine lv (J8 rfl rfl h_t64)<|mv (i6 t64)<|Jd<|?_
       exact cl t64 () m3 [0] (by exact ⟨(by subst hn3; exact H47), trivial⟩)
     ·refine Qo<|Jc<|Ja<|ag (i6 0)<|Jd<|Jh<|?_
      obtain rfl := sj H48
      exact r1 (i6 0)
    ·refine Jj<|Jc<|Ja<|ag (i6 0)<|Jd<|Jh<|?_
     obtain rfl := sj H49
     exact r1 (i6 0)
theorem k34_it (mm : Nat) : ∀ {a0 : (List Ta)} {v0 : Value} {a1 : Int} {r : Int} {w : World} {h : Js} (hw : Know h w Zk) (f0 : FrN h 6 v0 g_tag_Entry a0) (H : it (fun (self : ((List Ta) × Int) → Option (Int)) (s : (List Ta) × Int) => Yv self s.1 s.2) mm (a0, a1) = some r), Does prog 34 (List.toArray [v0, i6 a1]) w (fun v w' => v = (i6 r) ∧ Grow w w') := by
 induction mm with
 | zero => intros; rename_i H; exact absurd H (by simp [it])
 | succ mm ih =>
  intro a0 v0 a1 r w h hw f0 H
  replace H : Yv (it (fun (self : ((List Ta) × Int) → Option (Int)) (s : (List Ta) × Int) => Yv self s.1 s.2) mm) a0 a1 = some r := H
  generalize it (fun (self : ((List Ta) × Int) → Option (Int)) (s : (List Ta) × Int) => Yv self s.1 s.2) mm = self at H ih
  refine enter (n := 62) func34 rfl rfl rfl Zk [] (Sat.nil _ _)<|Jc<|Ja<|ag (i6 0)<|Jd<|Jc<|Jc<|Ja<|mv (i6 a1)<|lv (Va rfl rfl)<|mv (.bool (decide (5 < a1)))<|?_
  revert H
  refine sp (fun hb H31=>?_) fun hb H32=>?_
  ·refine pa<|pa<|pa<|pT (.bool true)<|Jd<|Y4 rfl<|Jc<|Ja<|ag (i6 4)<|Jd<|Jh<|?_
   obtain rfl := sj H31
   exact r1 (i6 4)
  ·refine mv v0<|lv (Vk Tryz.underlying41 rfl f0)<|lv (Va rfl rfl)<|pF (.bool (decide (200 < (a0.length : Int))))<|Jd<|?_
   revert H32
   refine ci (decide (200 < (a0.length : Int))) rfl (fun hb H33=>?_) fun hb H34=>?_
   ·refine Jc<|Ja<|ag (i6 4)<|Jd<|Jh<|?_
    obtain rfl := sj H33
    exact r1 (i6 4)
   ·refine Jj<|Jc<|Jc<|Ja<|mv v0<|lv (Vk Tryz.underlying41 rfl f0)<|mv (i6 0)<|Jd<|Jq<|?_
    refine Yq (σ := Int) (τ := Unit) (fun next1 s => U4 a0 a1 self next1 s) (fun s t => [(0, v0), (1, i6 a1), (15, v0), (16, i6 (a0.length : Int)), (17, i6 s)]) (fun s t => []) (fun s t => True) 0 () [] H34 (by exact trivial) (by exact ⟨rfl, rfl, rfl, rfl, rfl, trivial⟩) (by decide) rfl ?_
    rintro x17_2 _ m1 gg H35 _
    clear H34
    try dsimp only at H35
    generalize hn1 : it (fun next1 s => U4 a0 a1 self next1 s) m1 = next1 at H35
    try dsimp only
    refine Jc<|Ja<|lv (Yh rfl rfl)<|Jd<|Jc<|?_
    revert H35
    refine ci (decide (x17_2 < (a0.length : Int))) rfl (fun hb H36=>?_) fun hb H60=>?_
    ·refine Jj<|Jc<|Jq<|Jc<|Ja<|mv (i6 x17_2)<|?_
     obtain ⟨t20, h_t20, H37⟩ := Je H36; clear H36
     refine lv (Yz Tryz.underlying41 Tryz.sizeOf83 rfl rfl f0.frs (f0.ix h_t20))<|Q7 (fun w hF hS => Wu (f := (elC h v0 6)) (i := x17_2) (sz := 6) (j := 0) (vs := [i6 t20.Tag, i6 t20.Value.kah, str t20.Value.kai, (Xr h v0 6 (Int.toNat x17_2) 3), (Xr h v0 6 (Int.toNat x17_2) 4), (Xr h v0 6 (Int.toNat x17_2) 5)]) isAgg83 Tryz.sizeOf83 rfl rfl (f0.frs.row (hw.now hF)) (f0.ix h_t20) (rd_of (Wj (f0.at h_t20)) rfl)) rfl rfl rfl<|?_
     refine Q2 (cs := [i6 0, i6 0, str [], z0s, z0s, z0s]) zeroValue83 rfl rfl rfl (fun b1 => ?_)
     refine ag (i6 x17_2)<|Xl (i := 0) (vs := [i6 t20.Tag, i6 t20.Value.kah, str t20.Value.kai, (Xr h v0 6 (Int.toNat x17_2) 3), (Xr h v0 6 (Int.toNat x17_2) 4), (Xr h v0 6 (Int.toNat x17_2) 5)]) (cs' := [i6 t20.Tag, i6 t20.Value.kah, str t20.Value.kai, (Xr h v0 6 (Int.toNat x17_2) 3), (Xr h v0 6 (Int.toNat x17_2) 4), (Xr h v0 6 (Int.toNat x17_2) 5)]) Tryz.sizeOf83 rfl rfl rfl rfl rfl rfl (by simp only [List.all_cons, List.all_nil, (show FrN h 6 (Xr h v0 6 (Int.toNat x17_2) 5) g_tag_Entry t20.Value.kaf from (Qx (Jt (f0.at h_t20)))).one, (show FrS h 1 (Xr h v0 6 (Int.toNat x17_2) 3) (t20.Value.kaj.map Q5) from (Xn (Jt (f0.at h_t20)))).one, (show FrS h 2 (Xr h v0 6 (Int.toNat x17_2) 4) (t20.Value.kag.map Jp) from (Xo (Jt (f0.at h_t20)))).one] <;> rfl) rfl rfl<|Jd<|?_
     refine Qm (r := r) (σ := Unit) (τ := Unit) (fun s => Jbn a1 self x17_2 next1 t20) (fun s t => [(0, v0), (1, i6 a1), (6, pz b1), (15, v0), (16, i6 (a0.length : Int)), (17, i6 x17_2)]) (fun s t => [Ji b1 [i6 t20.Tag, i6 t20.Value.kah, str t20.Value.kai, (Xr h v0 6 (Int.toNat x17_2) 3), (Xr h v0 6 (Int.toNat x17_2) 4), (Xr h v0 6 (Int.toNat x17_2) 5)] 83]) (fun s t => True) ?_ ?_
     ·refine Jq<|Jc<|Ja<|lf Tryz.runUnderlying83 rfl Tryz.sizeOf3 rfl<|ll 0 (i6 t20.Tag) Tryz.isAgg3<|?_
      obtain ⟨t25, h_t25, H51⟩ := Je H37; clear H37
      refine Qk (k66 h_t25) call66 rfl rfl rfl<|ag (.bool t25)<|Jd<|?_
      revert H51
      refine ci t25 rfl (fun hb H52=>?_) fun hb H53=>?_
      ·refine Jc<|Ja<|ag (i6 2)<|Jd<|Jh<|?_
       obtain rfl := sj H52
       exact r1 (i6 2)
      ·refine Jc ?_
       exact Q1 (Kd.p :: Kd.p :: Kd.p :: Kd.p :: Kd.d [0] _ :: Kd.p :: Kd.p :: Kd.p :: Kd.p :: Kd.p :: Kd.d [] _ :: Kd.p :: Kd.p :: Kd.p :: []) 0 mixed (by
        refine dm (i6 x17_2)<|dv (Va rfl rfl)<|dm (.bool (decide (0 < x17_2)))<|?_
        refine splitS (fun hb => ?_) (fun hb => ?_)
        ·have H54 := Un hb H53
         refine dv (J0 Tryz.runUnderlying83 rfl Tryz.sizeOf3 rfl rfl)<|dl (i6 t20.Tag) Tryz.isAgg3<|dm v0<|dm (i6 x17_2)<|?_
         have h_t34 := Qc H54
         have H55 := J2 H54
         refine dv (Zb rfl rfl h_t34) ?_
         have h_t35 := Qc H55
         have H56 := J2 H55
         refine dv (Yz Tryz.underlying41 Tryz.sizeOf83 rfl rfl f0.frs (f0.ix h_t35))<|dv (Jhh Tryz.runUnderlying83 rfl Tryz.sizeOf3 rfl rfl (Jg3 f0.frs (f0.ix h_t35)))<|d_read (fun w hF => Xv (f := (elC h v0 6)) (i := (val (gI (x17_2 - 1)))) (sz := 6) (j := 0) (v := i6 (val (Vh a0 (val (gI (x17_2 - 1))))).Tag) Tryz.isAgg3 rfl rfl (f0.frs.row (hw.now hF)) (f0.ix h_t35) (rg_of (Wj (f0.at h_t35)) rfl)) rfl rfl<|dv (r_leq rfl rfl)<|dv (Jah (v := .bool (decide (t20.Tag ≤ (val (Vh a0 (val (gI (x17_2 - 1))))).Tag))) rfl rfl)<|Qy rfl rfl (Jr (v := .bool (decide (t20.Tag ≤ (val (Vh a0 (val (gI (x17_2 - 1))))).Tag))) rfl)<|Vz<|?_
         revert H56
         refine ci (decide (t20.Tag ≤ (val (Vh a0 (val (gI (x17_2 - 1))))).Tag)) rfl (fun hb H57=>?_) fun hb H58=>?_
         ·refine Jc<|Ja<|ag (i6 5)<|Jd<|Jh<|?_
          obtain rfl := sj H57
          exact r1 (i6 5)
         ·refine Jj ?_
          exact cl () () 0 [0] (by exact ⟨H58, trivial⟩)
        ·have H59 := W4 hb H53
         refine dp<|dp<|dp<|dp<|dp<|dp<|dp<|dp<|dp<|dv (Jbm (v := .bool false) rfl rfl)<|Qy rfl rfl (Jr (v := .bool false) rfl)<|Vz<|Zq rfl<|Jj<|?_
         exact cl () () 0 [0] (by exact ⟨H59, trivial⟩)
        ) (by kernel_rfl)
     ·rintro _ _ gg H38 _
      try dsimp only at H38
      try dsimp only
      refine Jc<|Ja<|ag (i6 0)<|Jd<|?_
      refine Qm (r := r) (σ := Int) (τ := Unit) (fun s => Wc x17_2 next1 s) (fun s t => [(0, v0), (1, i6 a1), (7, i6 s), (15, v0), (16, i6 (a0.length : Int)), (17, i6 x17_2)]) (fun s t => []) (fun s t => True) ?_ ?_
      ·refine Jc<|Ja<|lf Tryz.runUnderlying83 rfl Tryz.sizeOf81 rfl<|lf Tryz.runUnderlying81 rfl Tryz.sizeOf3 rfl<|ll 0 (i6 t20.Value.kah) Tryz.isAgg3<|lv (Zm rfl rfl)<|Jd<|?_
       revert H38
       refine ci (decide (t20.Value.kah ≠ 13)) rfl (fun hb H43=>?_) fun hb H45=>?_
       ·refine Ja<|lf Tryz.runUnderlying83 rfl Tryz.sizeOf81 rfl<|Qq (i := 0) (vs := [i6 t20.Value.kah, str t20.Value.kai, (Xr h v0 6 (Int.toNat x17_2) 3), (Xr h v0 6 (Int.toNat x17_2) 4), (Xr h v0 6 (Int.toNat x17_2) 5)]) Tryz.isAgg81 Tryz.sizeOf81 rfl rfl rfl rfl rfl<|?_
        obtain ⟨t46, h_t46, H44⟩ := Je H43; clear H43
        refine Qb (fun w hF hS => k67 (Jm w) ((show FrS h 1 (Xr h v0 6 (Int.toNat x17_2) 3) (t20.Value.kaj.map Q5) from (Xn (Jt (f0.at h_t20)))).mono (hw.now hF)) ((show FrS h 2 (Xr h v0 6 (Int.toNat x17_2) 4) (t20.Value.kag.map Jp) from (Xo (Jt (f0.at h_t20)))).mono (hw.now hF)) ((show FrN h 6 (Xr h v0 6 (Int.toNat x17_2) 5) g_tag_Entry t20.Value.kaf from (Qx (Jt (f0.at h_t20)))).mono (hw.now hF)) h_t46) call67 rfl rfl rfl<|ag (i6 t46)<|Jd<|?_
        exact cl t46 () 0 [] (by exact ⟨H44, trivial⟩)
       ·refine Jc<|Ja<|lf Tryz.runUnderlying83 rfl Tryz.sizeOf81 rfl<|Qq (i := 0) (vs := [i6 t20.Value.kah, str t20.Value.kai, (Xr h v0 6 (Int.toNat x17_2) 3), (Xr h v0 6 (Int.toNat x17_2) 4), (Xr h v0 6 (Int.toNat x17_2) 5)]) Tryz.isAgg81 Tryz.sizeOf81 rfl rfl rfl rfl rfl<|?_
        obtain ⟨t49, h_t49, H46⟩ := Je H45; clear H45
        refine Qb (fun w hF hS => k68 (Jm w) ((show FrS h 1 (Xr h v0 6 (Int.toNat x17_2) 3) (t20.Value.kaj.map Q5) from (Xn (Jt (f0.at h_t20)))).mono (hw.now hF)) ((show FrS h 2 (Xr h v0 6 (Int.toNat x17_2) 4) (t20.Value.kag.map Jp) from (Xo (Jt (f0.at h_t20)))).mono (hw.now hF)) ((show FrN h 6 (Xr h v0 6 (Int.toNat x17_2) 5) g_tag_Entry t20.Value.kaf from (Qx (Jt (f0.at h_t20)))).mono (hw.now hF)) h_t49) call68 rfl rfl rfl<|ag (i6 t49)<|Jd<|Jc<|Ja<|mv (i6 t49)<|lv (Qg rfl rfl)<|Jd<|?_
        revert H46
        refine ci (decide (t49 = 0)) rfl (fun hb H47=>?_) fun hb H50=>?_
        ·refine Ja<|lf Tryz.runUnderlying83 rfl Tryz.sizeOf81 rfl<|lf Tryz.runUnderlying81 rfl Tryz.sizeOf41 rfl<|ll 0 (Xr h v0 6 (Int.toNat x17_2) 5) isAgg41<|mv (i6 a1)<|?_
         obtain ⟨t56, h_t56, H48⟩ := Je H47; clear H47
         refine lv (J8 rfl rfl h_t56) ?_
         obtain ⟨t57, h_t57, H49⟩ := Je H48; clear H48
         refine Qb (fun w hF hS => ih (Jm w) ((show FrN h 6 (Xr h v0 6 (Int.toNat x17_2) 5) g_tag_Entry t20.Value.kaf from (Qx (Jt (f0.at h_t20)))).mono (hw.now hF)) h_t57) call34 rfl rfl rfl<|ag (i6 t57)<|Jd<|?_
         exact cl t57 () 0 [] (by exact ⟨H49, trivial⟩)
        ·refine Jj ?_
         exact cl t49 () 0 [] (by exact ⟨H50, trivial⟩)
      ·rintro x7 _ gg H39 _
       try dsimp only at H39
       try dsimp only
       refine Jc<|Ja<|mv (i6 x7)<|lv (Zm rfl rfl)<|Jd<|?_
       revert H39
       refine ci (decide (x7 ≠ 0)) rfl (fun hb H40=>?_) fun hb H41=>?_
       ·refine Jc<|Ja<|mv (i6 x7)<|ag (i6 x7)<|Jd<|Jh<|?_
        obtain rfl := sj H40
        exact r1 (i6 x7)
       ·refine Jj<|Ja<|?_
        obtain ⟨t61, h_t61, H42⟩ := Je H41; clear H41
        refine lv (J8 rfl rfl h_t61)<|mv (i6 t61)<|Jd<|?_
        exact cl t61 () m1 [] (by exact ⟨(by subst hn1; exact H42), trivial⟩)
    ·refine Qo<|Jc<|Ja<|ag (i6 0)<|Jd<|Jh<|?_
     obtain rfl := sj H60
     exact r1 (i6 0)
theorem k34 {a0 : (List Ta)} {v0 : Value} {a1 : Int} {r : Int} {w : World} {h : Js} (hw : Know h w Zk) (f0 : FrN h 6 v0 g_tag_Entry a0) (H : Jcb a0 a1 = some r) : Does prog 34 (List.toArray [v0, i6 a1]) w (fun v w' => v = (i6 r) ∧ Grow w w') := by
 obtain ⟨mm, hm⟩ := Jin (show Z8 (fun (self : ((List Ta) × Int) → Option (Int)) (s : (List Ta) × Int) => Yv self s.1 s.2) (a0, a1) = some r from H)
 exact k34_it mm hw f0 hm
theorem k117 {a0 : Int} {r : Int} (H : Jeb a0 = some r) : Ret prog 117 [i6 a0] (i6 r) := by
 refine Qi (n := 7) func117 rfl rfl rfl (fun wd => ?_)
 refine Jc<|Ja<|ag (i6 0)<|Jd<|Jc<|Ja<|mv (i6 a0)<|mv (i6 a0)<|?_
 obtain ⟨t5, h_t5, H3⟩ := Je H; clear H
 refine lv (r_remG rfl rfl h_t5) ?_
 obtain ⟨t6, h_t6, H4⟩ := Je H3; clear H3
 refine lv (J8 rfl rfl h_t6)<|ag (i6 t6)<|Jd<|Jh<|?_
 obtain rfl := sj H4
 exact r1 (i6 t6)
theorem k111 {a0 : Tc} {v0_2 : Value} {v0_3 : Value} {v0_4 : Value} {r : Int} {w : World} {h : Js} (hw : Know h w Zk) (f0_2 : FrS h 1 v0_2 (a0.kaj.map Q5)) (f0_3 : FrS h 2 v0_3 (a0.kag.map Jp)) (f0_4 : FrN h 6 v0_4 g_tag_Entry a0.kaf) (H : Zf a0 = some r) : Does prog 111 (List.toArray [.agg #[i6 a0.kah, str a0.kai, v0_2, v0_3, v0_4]]) w (fun v w' => v = (i6 r) ∧ Grow w w') := by
 refine enter (n := 26) func111 rfl rfl rfl Zk [] (Sat.nil _ _)<|Jc<|Ja<|?_
 refine Jat (cs := [i6 a0.kah, str a0.kai, v0_2, v0_3, v0_4]) rfl rfl rfl rfl (fun b1 => ?_)
 refine ag (i6 0)<|Jd<|Jc<|Jc<|Ja<|lf Tryz.runUnderlying81 rfl Tryz.sizeOf3 rfl<|ll 0 (i6 a0.kah) Tryz.isAgg3<|Jd<|Jq<|Jc<|Ja<|lv (Qg rfl rfl)<|ag (.bool (decide (a0.kah = 2)))<|Jd<|?_
 revert H
 refine ci (decide (a0.kah = 2)) rfl (fun hb H10=>?_) fun hb H12=>?_
 ·refine Jc<|Ja<|lf Tryz.runUnderlying81 rfl Tryz.sizeOf9 rfl<|ll 0 (str a0.kai) isAgg9<|lv (Q8 Tryz.underlying9 rfl)<|?_
  obtain ⟨t10, h_t10, H11⟩ := Je H10; clear H10
  refine lv (J8 rfl rfl h_t10)<|ag (i6 t10)<|Jd<|Jh<|?_
  obtain rfl := sj H11
  exact r1 (i6 t10)
 ·refine Jc<|Ja<|lv (Qg rfl rfl)<|ag (.bool (decide (a0.kah = 7)))<|Jd<|?_
  revert H12
  refine ci (decide (a0.kah = 7)) rfl (fun hb H13=>?_) fun hb H14=>?_
  ·refine Jc<|Ja<|lf Tryz.runUnderlying81 rfl Tryz.sizeOf9 rfl<|ll 0 (str a0.kai) isAgg9<|lv (Q8 Tryz.underlying9 rfl)<|ag (i6 (a0.kai.length : Int))<|Jd<|Jh<|?_
   obtain rfl := sj H13
   exact r1 (i6 (a0.kai.length : Int))
  ·refine Jc<|Ja<|lv (Qg rfl rfl)<|ag (.bool (decide (a0.kah = 5)))<|Jd<|?_
   revert H14
   refine ci (decide (a0.kah = 5)) rfl (fun hb H15=>?_) fun hb H16=>?_
   ·refine Jc<|Ja<|lf Tryz.runUnderlying81 rfl Tryz.sizeOf79 rfl<|ll 0 v0_3 isAgg79<|lv (Jbs Tryz.underlying79 rfl f0_3 rfl)<|ag (i6 (a0.kag.length : Int))<|Jd<|Jh<|?_
    obtain rfl := sj H15
    exact r1 (i6 (a0.kag.length : Int))
   ·refine Jc<|Ja<|lv (Qg rfl rfl)<|ag (.bool (decide (a0.kah = 13)))<|Jd<|?_
    revert H16
    refine ci (decide (a0.kah = 13)) rfl (fun hb H17=>?_) fun hb H18=>?_
    ·refine Jc<|Ja<|ag (i6 1)<|Jd<|Jh<|?_
     obtain rfl := sj H17
     exact r1 (i6 1)
    ·refine Jj<|Jc<|Ja<|lf Tryz.runUnderlying81 rfl Tryz.sizeOf76 rfl<|ll 0 v0_2 isAgg76<|lv (Jbs Tryz.underlying76 rfl f0_2 rfl)<|ag (i6 (a0.kaj.length : Int))<|Jd<|Jh<|?_
     obtain rfl := sj H18
     exact r1 (i6 (a0.kaj.length : Int))
theorem k118 {a0 : Tc} {v0_2 : Value} {v0_3 : Value} {v0_4 : Value} {r : Int} {w : World} {h : Js} (hw : Know h w Zk) (f0_2 : FrS h 1 v0_2 (a0.kaj.map Q5)) (f0_3 : FrS h 2 v0_3 (a0.kag.map Jp)) (f0_4 : FrN h 6 v0_4 g_tag_Entry a0.kaf) (H : Uw a0 = some r) : Does prog 118 (List.toArray [.agg #[i6 a0.kah, str a0.kai, v0_2, v0_3, v0_4]]) w (fun v w' => v = (i6 r) ∧ Grow w w') := by
 refine enter (n := 9) func118 rfl rfl rfl Zk [] (Sat.nil _ _)<|Jc<|Ja<|?_
 refine Jat (cs := [i6 a0.kah, str a0.kai, v0_2, v0_3, v0_4]) rfl rfl rfl rfl (fun b1 => ?_)
 refine ag (i6 0)<|Jd<|Jc<|?_
 exact Q1 (Kd.d [0] _ :: Kd.d [] _ :: Kd.p :: Kd.d [0] _ :: Kd.d [] _ :: Kd.p :: Kd.p :: []) 0 mixed (by
  refine Jef (i := 0) (vs := [i6 a0.kah, str a0.kai, v0_2, v0_3, v0_4]) Tryz.isAgg81 Tryz.sizeOf81 rfl rfl rfl rfl ?_
  have h_t4 := Qc H
  have H4 := J2 H
  refine Jek (fun w L' hF hS hi => k111 (Jm w) (f0_2.mono (hw.now hF)) (f0_3.mono (hw.now hF)) (f0_4.mono (hw.now hF)) h_t4) call111 rfl rfl<|dv (J0 Tryz.runUnderlying81 rfl Tryz.sizeOf3 rfl rfl)<|dl (i6 a0.kah) Tryz.isAgg3<|?_
  have h_t7 := Qc H4
  have H5 := J2 H4
  refine Jg7 (k114 h_t7) call114 rfl rfl ?_
  have h_t8 := Qc H5
  have H6 := J2 H5
  refine dv (Jct rfl rfl h_t8)<|Qy rfl rfl (Jr (v := i6 (val (gI ((val (Zf a0)) * (val (Zr a0.kah)))))) rfl)<|Vz<|Jh<|?_
  obtain rfl := sj H6
  exact r1 (i6 (val (gI ((val (Zf a0)) * (val (Zr a0.kah))))))
  ) (by kernel_rfl)
theorem k69_it (mm : Nat) : ∀ {a0 : (List Ta)} {v0 : Value} {a1 : Int} {r : Int} {w : World} {h : Js} (hw : Know h w Zk) (f0 : FrN h 6 v0 g_tag_Entry a0) (H : it (fun (self : ((List Ta) × Int) → Option (Int)) (s : (List Ta) × Int) => Zl self s.1 s.2) mm (a0, a1) = some r), Does prog 69 (List.toArray [v0, i6 a1]) w (fun v w' => v = (i6 r) ∧ Grow w w') := by
 induction mm with
 | zero => intros; rename_i H; exact absurd H (by simp [it])
 | succ mm ih =>
  intro a0 v0 a1 r w h hw f0 H
  replace H : Zl (it (fun (self : ((List Ta) × Int) → Option (Int)) (s : (List Ta) × Int) => Zl self s.1 s.2) mm) a0 a1 = some r := H
  generalize it (fun (self : ((List Ta) × Int) → Option (Int)) (s : (List Ta) × Int) => Zl self s.1 s.2) mm = self at H ih
  refine enter (n := 44) func69 rfl rfl rfl Zk [] (Sat.nil _ _)<|Jc<|Ja<|ag (i6 0)<|Jd<|Jc<|Ja<|mv (i6 a1)<|?_
  obtain ⟨t8, h_t8, H21⟩ := Je H; clear H
  refine Qk (k117 h_t8) call117 rfl rfl rfl ?_
  obtain ⟨t9, h_t9, H22⟩ := Je H21; clear H21
  refine lv (J8 rfl rfl h_t9)<|mv v0<|lv (Vk Tryz.underlying41 rfl f0)<|?_
  obtain ⟨t12, h_t12, H23⟩ := Je H22; clear H22
  refine lv (Jct rfl rfl h_t12) ?_
  obtain ⟨t13, h_t13, H24⟩ := Je H23; clear H23
  refine lv (J8 rfl rfl h_t13) ?_
  obtain ⟨t14, h_t14, H25⟩ := Je H24; clear H24
  refine lv (J8 rfl rfl h_t14)<|ag (i6 t14)<|Jd<|Jc<|Jc<|Ja<|mv v0<|lv (Vk Tryz.underlying41 rfl f0)<|mv (i6 0)<|Jd<|Jq<|?_
  refine Yq (σ := Int × Int) (τ := Unit) (fun next1 s => Vq a0 self next1 s.1 s.2) (fun s t => [(1, i6 s.1), (15, v0), (16, i6 (a0.length : Int)), (17, i6 s.2)]) (fun s t => []) (fun s t => True) (t14, 0) () [] H25 (by exact trivial) (by exact ⟨rfl, rfl, rfl, rfl, trivial⟩) (by decide) rfl ?_
  rintro ⟨x1_2, x17_2⟩ _ m1 gg H26 _
  clear H25
  try dsimp only at H26
  generalize hn1 : it (fun next1 s => Vq a0 self next1 s.1 s.2) m1 = next1 at H26
  try dsimp only
  refine Jc<|Ja<|lv (Yh rfl rfl)<|Jd<|Jc<|?_
  revert H26
  refine ci (decide (x17_2 < (a0.length : Int))) rfl (fun hb H27=>?_) fun hb H40=>?_
  ·refine Jj ?_
   refine Qm (r := r) (σ := Int) (τ := Unit) (fun s => U8 x17_2 next1 s) (fun s t => [(1, i6 s), (15, v0), (16, i6 (a0.length : Int)), (17, i6 x17_2)]) (fun s t => []) (fun s t => True) ?_ ?_
   ·refine Jq<|Jc<|Ja<|?_
    obtain ⟨t19, h_t19, H30⟩ := Je H27; clear H27
    refine lv (Yz Tryz.underlying41 Tryz.sizeOf83 rfl rfl f0.frs (f0.ix h_t19))<|Q7 (fun w hF hS => Wu (f := (elC h v0 6)) (i := x17_2) (sz := 6) (j := 0) (vs := [i6 t19.Tag, i6 t19.Value.kah, str t19.Value.kai, (Xr h v0 6 (Int.toNat x17_2) 3), (Xr h v0 6 (Int.toNat x17_2) 4), (Xr h v0 6 (Int.toNat x17_2) 5)]) isAgg83 Tryz.sizeOf83 rfl rfl (f0.frs.row (hw.now hF)) (f0.ix h_t19) (rd_of (Wj (f0.at h_t19)) rfl)) rfl rfl rfl<|?_
    refine Q2 (cs := [i6 0, i6 0, str [], z0s, z0s, z0s]) zeroValue83 rfl rfl rfl (fun b1 => ?_)
    refine Xl (i := 0) (vs := [i6 t19.Tag, i6 t19.Value.kah, str t19.Value.kai, (Xr h v0 6 (Int.toNat x17_2) 3), (Xr h v0 6 (Int.toNat x17_2) 4), (Xr h v0 6 (Int.toNat x17_2) 5)]) (cs' := [i6 t19.Tag, i6 t19.Value.kah, str t19.Value.kai, (Xr h v0 6 (Int.toNat x17_2) 3), (Xr h v0 6 (Int.toNat x17_2) 4), (Xr h v0 6 (Int.toNat x17_2) 5)]) Tryz.sizeOf83 rfl rfl rfl rfl rfl rfl (by simp only [List.all_cons, List.all_nil, (show FrN h 6 (Xr h v0 6 (Int.toNat x17_2) 5) g_tag_Entry t19.Value.kaf from (Qx (Jt (f0.at h_t19)))).one, (show FrS h 1 (Xr h v0 6 (Int.toNat x17_2) 3) (t19.Value.kaj.map Q5) from (Xn (Jt (f0.at h_t19)))).one, (show FrS h 2 (Xr h v0 6 (Int.toNat x17_2) 4) (t19.Value.kag.map Jp) from (Xo (Jt (f0.at h_t19)))).one] <;> rfl) rfl rfl<|Jd<|Jq<|Jc<|Ja<|lf Tryz.runUnderlying83 rfl Tryz.sizeOf81 rfl<|lf Tryz.runUnderlying81 rfl Tryz.sizeOf3 rfl<|ll 0 (i6 t19.Value.kah) Tryz.isAgg3<|lv (Qg rfl rfl)<|ag (.bool (decide (t19.Value.kah = 13)))<|Jd<|?_
    revert H30
    refine ci (decide (t19.Value.kah = 13)) rfl (fun hb H31=>?_) fun hb H33=>?_
    ·refine Ja<|lf Tryz.runUnderlying83 rfl Tryz.sizeOf81 rfl<|lf Tryz.runUnderlying81 rfl Tryz.sizeOf41 rfl<|ll 0 (Xr h v0 6 (Int.toNat x17_2) 5) isAgg41<|mv (i6 x1_2)<|?_
     obtain ⟨t30, h_t30, H32⟩ := Je H31; clear H31
     refine Qb (fun w hF hS => ih (Jm w) ((show FrN h 6 (Xr h v0 6 (Int.toNat x17_2) 5) g_tag_Entry t19.Value.kaf from (Qx (Jt (f0.at h_t19)))).mono (hw.now hF)) h_t30) call69 rfl rfl rfl<|ag (i6 t30)<|Jd<|?_
     exact cl t30 () 0 [] (by exact ⟨H32, trivial⟩)
    ·refine Jc<|Ja<|lf Tryz.runUnderlying83 rfl Tryz.sizeOf81 rfl<|Qq (i := 0) (vs := [i6 t19.Value.kah, str t19.Value.kai, (Xr h v0 6 (Int.toNat x17_2) 3), (Xr h v0 6 (Int.toNat x17_2) 4), (Xr h v0 6 (Int.toNat x17_2) 5)]) Tryz.isAgg81 Tryz.sizeOf81 rfl rfl rfl rfl rfl<|?_
     obtain ⟨t34, h_t34, H34⟩ := Je H33; clear H33
     refine Qb (fun w hF hS => k118 (Jm w) ((show FrS h 1 (Xr h v0 6 (Int.toNat x17_2) 3) (t19.Value.kaj.map Q5) from (Xn (Jt (f0.at h_t19)))).mono (hw.now hF)) ((show FrS h 2 (Xr h v0 6 (Int.toNat x17_2) 4) (t19.Value.kag.map Jp) from (Xo (Jt (f0.at h_t19)))).mono (hw.now hF)) ((show FrN h 6 (Xr h v0 6 (Int.toNat x17_2) 5) g_tag_Entry t19.Value.kaf from (Qx (Jt (f0.at h_t19)))).mono (hw.now hF)) h_t34) call118 rfl rfl rfl<|lv (Va rfl rfl)<|ag (.bool (decide (4 < t34)))<|Jd<|?_
     revert H34
     refine ci (decide (4 < t34)) rfl (fun hb H35=>?_) fun hb H39=>?_
     ·exact Q1 (Kd.p :: Kd.d [] _ :: Kd.p :: Kd.d [0] _ :: Kd.d [] _ :: Kd.p :: Kd.p :: []) 0 mixed (by
       refine dm (i6 x1_2) ?_
       have h_t37 := Qc H35
       have H36 := J2 H35
       refine Jg7 (k117 h_t37) call117 rfl rfl<|dv (J0 Tryz.runUnderlying83 rfl Tryz.sizeOf81 rfl rfl)<|Jef (i := 0) (vs := [i6 t19.Value.kah, str t19.Value.kai, (Xr h v0 6 (Int.toNat x17_2) 3), (Xr h v0 6 (Int.toNat x17_2) 4), (Xr h v0 6 (Int.toNat x17_2) 5)]) Tryz.isAgg81 Tryz.sizeOf81 rfl rfl rfl rfl<|?_
       have h_t40 := Qc H36
       have H37 := J2 H36
       refine Jek (fun w L' hF hS hi => k118 (Jm w) ((show FrS h 1 (Xr h v0 6 (Int.toNat x17_2) 3) (t19.Value.kaj.map Q5) from (Xn (Jt (f0.at h_t19)))).mono (hw.now hF)) ((show FrS h 2 (Xr h v0 6 (Int.toNat x17_2) 4) (t19.Value.kag.map Jp) from (Xo (Jt (f0.at h_t19)))).mono (hw.now hF)) ((show FrN h 6 (Xr h v0 6 (Int.toNat x17_2) 5) g_tag_Entry t19.Value.kaf from (Qx (Jt (f0.at h_t19)))).mono (hw.now hF)) h_t40) call118 rfl rfl ?_
       have h_t41 := Qc H37
       have H38 := J2 H37
       refine dv (J8 rfl rfl h_t41)<|Qy rfl rfl (Jr (v := i6 (val (gI ((val (Jeb x1_2)) + (val (Uw t19.Value)))))) rfl)<|Vz<|?_
       exact cl (val (gI ((val (Jeb x1_2)) + (val (Uw t19.Value))))) () 0 [] (by exact ⟨H38, trivial⟩)
       ) (by kernel_rfl)
     ·refine Jj ?_
      exact cl x1_2 () 0 [] (by exact ⟨H39, trivial⟩)
   ·rintro x1_3 _ gg H28 _
    try dsimp only at H28
    try dsimp only
    refine Ja ?_
    obtain ⟨t42, h_t42, H29⟩ := Je H28; clear H28
    refine lv (J8 rfl rfl h_t42)<|mv (i6 t42)<|Jd<|?_
    exact cl (x1_3, t42) () m1 [] (by exact ⟨(by subst hn1; exact H29), trivial⟩)
  ·refine Qo<|Jc<|Ja<|mv (i6 x1_2)<|ag (i6 x1_2)<|Jd<|Jh<|?_
   obtain rfl := sj H40
   exact r1 (i6 x1_2)
theorem k69 {a0 : (List Ta)} {v0 : Value} {a1 : Int} {r : Int} {w : World} {h : Js} (hw : Know h w Zk) (f0 : FrN h 6 v0 g_tag_Entry a0) (H : Jfe a0 a1 = some r) : Does prog 69 (List.toArray [v0, i6 a1]) w (fun v w' => v = (i6 r) ∧ Grow w w') := by
 obtain ⟨mm, hm⟩ := Jin (show Z8 (fun (self : ((List Ta) × Int) → Option (Int)) (s : (List Ta) × Int) => Zl self s.1 s.2) (a0, a1) = some r from H)
 exact k69_it mm hw f0 hm
theorem k35 {a0 : Tg} {v0_1 : Value} {r : Int} {w : World} {h : Js} (hw : Know h w Zk) (f0_1 : FrN h 1 v0_1 gs_tag_Entry a0.kal) (H : Jf7 a0 = some r) : Does prog 35 (List.toArray [.agg #[.bool a0.Big, v0_1]]) w (fun v w' => v = (i6 r) ∧ Grow w w') := by
 refine enter (n := 18) func35 rfl rfl rfl Zk [] (Sat.nil _ _)<|Jc<|Ja<|?_
 refine Jat (cs := [.bool a0.Big, v0_1]) rfl rfl rfl rfl (fun b1 => ?_)
 refine ag (i6 0)<|Jd<|Jc<|Ja<|ag (i6 8)<|Jd<|Jc<|Jc<|Ja<|lf Tryz.runUnderlying24 rfl sizeOf22 rfl<|ll 0 v0_1 isAgg22<|lv (Vk Tryz.underlying22 rfl f0_1)<|mv (i6 0)<|Jd<|Jq<|Uk 0<|?_
 try dsimp only [z1, z2, z3, z4, z5, z6, z7, z8]
 refine Yq (σ := Int × Int) (τ := Unit) (fun next1 s => Um a0 next1 s.1 s.2) (fun s t => [(3, i6 s.1), (7, v0_1), (8, i6 (a0.kal.length : Int)), (9, i6 s.2)]) (fun s t => []) (fun s t => True) (8, 0) () [] H (by exact trivial) (by exact ⟨rfl, rfl, rfl, rfl, trivial⟩) (by decide) rfl ?_
 rintro ⟨x3_2, x9_2⟩ _ m1 gg H7 _
 clear H
 try dsimp only at H7
 generalize hn1 : it (fun next1 s => Um a0 next1 s.1 s.2) m1 = next1 at H7
 try dsimp only
 refine Jc<|Ja<|lv (Yh rfl rfl)<|Jd<|Jc<|?_
 revert H7
 refine ci (decide (x9_2 < (a0.kal.length : Int))) rfl (fun hb H8=>?_) fun hb H12=>?_
 ·refine Jj<|Jc<|Jq<|Jc<|Ja<|?_
  obtain ⟨t11, h_t11, H9⟩ := Je H8; clear H8
  refine lv (Yz Tryz.underlying22 Tryz.sizeOf41 rfl rfl f0_1.frs (f0_1.ix h_t11))<|Q7 (fun w hF hS => Xv (f := (elC h v0_1 1)) (i := x9_2) (sz := 1) (j := 0) (v := (Xr h v0_1 1 (Int.toNat x9_2) 0)) isAgg41 rfl rfl (f0_1.frs.row (hw.now hF)) (f0_1.ix h_t11) (rg_of (Jbh (f0_1.at h_t11)) rfl)) rfl rfl rfl<|ag ((Xr h v0_1 1 (Int.toNat x9_2) 0))<|Jd<|Ja<|mv ((Xr h v0_1 1 (Int.toNat x9_2) 0))<|mv (i6 x3_2)<|?_
  obtain ⟨t15, h_t15, H10⟩ := Je H9; clear H9
  refine Qb (fun w hF hS => k69 (Jm w) ((show FrN h 6 (Xr h v0_1 1 (Int.toNat x9_2) 0) g_tag_Entry t11 from (f0_1.at h_t11)).mono (hw.now hF)) h_t15) call69 rfl rfl rfl<|ag (i6 t15)<|Jd<|Ja<|?_
  obtain ⟨t16, h_t16, H11⟩ := Je H10; clear H10
  refine lv (J8 rfl rfl h_t16)<|mv (i6 t16)<|Jd<|?_
  exact cl (t15, t16) () m1 [] (by exact ⟨(by subst hn1; exact H11), trivial⟩)
 ·refine Qo<|Jc<|Ja<|mv (i6 x3_2)<|ag (i6 x3_2)<|Jd<|Jh<|?_
  obtain rfl := sj H12
  exact r1 (i6 x3_2)
theorem k15 {a0 : Tg} {v0_1 : Value} {r : Int} {w : World} {h : Js} (hw : Know h w Zk) (f0_1 : FrN h 1 v0_1 gs_tag_Entry a0.kal) (H : Vt a0 = some r) : Does prog 15 (List.toArray [.agg #[.bool a0.Big, v0_1]]) w (fun v w' => v = (i6 r) ∧ Grow w w') := by
 refine enter (n := 26) func15 rfl rfl rfl Zk [] (Sat.nil _ _)<|Jc<|Ja<|?_
 refine Jat (cs := [.bool a0.Big, v0_1]) rfl rfl rfl rfl (fun b1 => ?_)
 refine ag (i6 0)<|Jd<|Jc<|Jc<|Ja<|lf Tryz.runUnderlying24 rfl sizeOf22 rfl<|ll 0 v0_1 isAgg22<|lv (Vk Tryz.underlying22 rfl f0_1)<|lv (Va rfl rfl)<|Jd<|?_
 revert H
 refine ci (decide (20 < (a0.kal.length : Int))) rfl (fun hb H15=>?_) fun hb H16=>?_
 ·refine Jc<|Ja<|ag (i6 4)<|Jd<|Jh<|?_
  obtain rfl := sj H15
  exact r1 (i6 4)
 ·refine Jj ?_
  refine Qm (r := r) (σ := Unit) (τ := Unit) (fun s => Jfk a0) (fun s t => [(1, pz b1)]) (fun s t => [Ji b1 [.bool a0.Big, v0_1] 24]) (fun s t => True) ?_ ?_
  ·refine Jc<|Ja<|lf Tryz.runUnderlying24 rfl sizeOf22 rfl<|ll 0 v0_1 isAgg22<|lv (Vk Tryz.underlying22 rfl f0_1)<|mv (i6 0)<|Jd<|Jq<|?_
   refine Yq (σ := Int) (τ := Unit) (fun next2 s => Wk a0 next2 s) (fun s t => [(1, pz b1), (11, v0_1), (12, i6 (a0.kal.length : Int)), (13, i6 s)]) (fun s t => [Ji b1 [.bool a0.Big, v0_1] 24]) (fun s t => True) 0 () [0] H16 (by exact trivial) (by exact ⟨rfl, rfl, rfl, rfl, trivial⟩) (by decide) rfl ?_
   rintro x13_2 _ m2 gg H21 _
   clear H16
   try dsimp only at H21
   generalize hn2 : it (fun next2 s => Wk a0 next2 s) m2 = next2 at H21
   try dsimp only
   refine Jc<|Ja<|lv (Yh rfl rfl)<|Jd<|Jc<|?_
   revert H21
   refine ci (decide (x13_2 < (a0.kal.length : Int))) rfl (fun hb H22=>?_) fun hb H28=>?_
   ·refine Jj<|Jc<|Jq<|Jc<|Ja<|?_
    obtain ⟨t15, h_t15, H23⟩ := Je H22; clear H22
    refine lv (Yz Tryz.underlying22 Tryz.sizeOf41 rfl rfl f0_1.frs (f0_1.ix h_t15))<|Q7 (fun w hF hS => Xv (f := (elC h v0_1 1)) (i := x13_2) (sz := 1) (j := 0) (v := (Xr h v0_1 1 (Int.toNat x13_2) 0)) isAgg41 rfl rfl (f0_1.frs.row (hw.now hF)) (f0_1.ix h_t15) (rg_of (Jbh (f0_1.at h_t15)) rfl)) rfl rfl rfl<|ag ((Xr h v0_1 1 (Int.toNat x13_2) 0))<|Jd<|Jc<|Ja<|mv ((Xr h v0_1 1 (Int.toNat x13_2) 0))<|?_
    obtain ⟨t18, h_t18, H24⟩ := Je H23; clear H23
    refine Qb (fun w hF hS => k34 (Jm w) ((show FrN h 6 (Xr h v0_1 1 (Int.toNat x13_2) 0) g_tag_Entry t15 from (f0_1.at h_t15)).mono (hw.now hF)) h_t18) call34 rfl rfl rfl<|ag (i6 t18)<|Jd<|Jc<|Ja<|mv (i6 t18)<|lv (Zm rfl rfl)<|Jd<|?_
    revert H24
    refine ci (decide (t18 ≠ 0)) rfl (fun hb H25=>?_) fun hb H26=>?_
    ·refine Jc<|Ja<|mv (i6 t18)<|ag (i6 t18)<|Jd<|Jh<|?_
     obtain rfl := sj H25
     exact r1 (i6 t18)
    ·refine Jj<|Ja<|?_
     obtain ⟨t22, h_t22, H27⟩ := Je H26; clear H26
     refine lv (J8 rfl rfl h_t22)<|mv (i6 t22)<|Jd<|?_
     exact cl t22 () m2 [0] (by exact ⟨(by subst hn2; exact H27), trivial⟩)
   ·refine Qo ?_
    exact cl () () 0 [0] (by exact ⟨H28, trivial⟩)
  ·rintro _ _ gg H17 _
   try dsimp only at H17
   try dsimp only
   refine Jc<|Jc<|Ja<|Qq (i := 0) (vs := [.bool a0.Big, v0_1]) Tryz.isAgg24 Tryz.sizeOf24 rfl rfl rfl rfl rfl<|?_
   obtain ⟨t24, h_t24, H18⟩ := Je H17; clear H17
   refine Qb (fun w hF hS => k35 (Jm w) (f0_1.mono (hw.now hF)) h_t24) call35 rfl rfl rfl<|lv (Va rfl rfl)<|Jd<|?_
   revert H18
   refine ci (decide (65000 < t24)) rfl (fun hb H19=>?_) fun hb H20=>?_
   ·refine Jc<|Ja<|ag (i6 4)<|Jd<|Jh<|?_
    obtain rfl := sj H19
    exact r1 (i6 4)
   ·refine Jj<|Jc<|Ja<|ag (i6 0)<|Jd<|Jh<|?_
    obtain rfl := sj H20
    exact r1 (i6 0)
theorem k93 {a0 : Tc} {v0_2 : Value} {v0_3 : Value} {v0_4 : Value} {r : Int} {w : World} {h : Js} (hw : Know h w Zk) (f0_2 : FrS h 1 v0_2 (a0.kaj.map Q5)) (f0_3 : FrS h 2 v0_3 (a0.kag.map Jp)) (f0_4 : FrN h 6 v0_4 g_tag_Entry a0.kaf) (H : Jcd a0 = some r) : Does prog 93 (List.toArray [.agg #[i6 a0.kah, str a0.kai, v0_2, v0_3, v0_4]]) w (fun v w' => v = (i6 r) ∧ Grow w w') := by
 refine enter (n := 17) func93 rfl rfl rfl Zk [] (Sat.nil _ _)<|Jc<|Ja<|?_
 refine Jat (cs := [i6 a0.kah, str a0.kai, v0_2, v0_3, v0_4]) rfl rfl rfl rfl (fun b1 => ?_)
 refine ag (i6 0)<|Jd<|Jc<|Jc<|Ja<|lf Tryz.runUnderlying81 rfl Tryz.sizeOf3 rfl<|ll 0 (i6 a0.kah) Tryz.isAgg3<|lv (Zm rfl rfl)<|Jd<|?_
 revert H
 refine ci (decide (a0.kah ≠ 13)) rfl (fun hb H8=>?_) fun hb H10=>?_
 ·refine Jc<|Ja<|Qq (i := 0) (vs := [i6 a0.kah, str a0.kai, v0_2, v0_3, v0_4]) Tryz.isAgg81 Tryz.sizeOf81 rfl rfl rfl rfl rfl<|?_
  obtain ⟨t8, h_t8, H9⟩ := Je H8; clear H8
  refine Qb (fun w hF hS => k67 (Jm w) (f0_2.mono (hw.now hF)) (f0_3.mono (hw.now hF)) (f0_4.mono (hw.now hF)) h_t8) call67 rfl rfl rfl<|ag (i6 t8)<|Jd<|Jh<|?_
  obtain rfl := sj H9
  exact r1 (i6 t8)
 ·refine Jj<|Jc<|Jc<|Ja<|Qq (i := 0) (vs := [i6 a0.kah, str a0.kai, v0_2, v0_3, v0_4]) Tryz.isAgg81 Tryz.sizeOf81 rfl rfl rfl rfl rfl<|?_
  obtain ⟨t10, h_t10, H11⟩ := Je H10; clear H10
  refine Qb (fun w hF hS => k68 (Jm w) (f0_2.mono (hw.now hF)) (f0_3.mono (hw.now hF)) (f0_4.mono (hw.now hF)) h_t10) call68 rfl rfl rfl<|ag (i6 t10)<|Jd<|Jc<|Ja<|mv (i6 t10)<|lv (Zm rfl rfl)<|Jd<|?_
  revert H11
  refine ci (decide (t10 ≠ 0)) rfl (fun hb H12=>?_) fun hb H13=>?_
  ·refine Jc<|Ja<|mv (i6 t10)<|ag (i6 t10)<|Jd<|Jh<|?_
   obtain rfl := sj H12
   exact r1 (i6 t10)
  ·refine Jj<|Jc<|Ja<|lf Tryz.runUnderlying81 rfl Tryz.sizeOf41 rfl<|ll 0 v0_4 isAgg41<|?_
   obtain ⟨t16, h_t16, H14⟩ := Je H13; clear H13
   refine Qb (fun w hF hS => k34 (Jm w) (f0_4.mono (hw.now hF)) h_t16) call34 rfl rfl rfl<|ag (i6 t16)<|Jd<|Jh<|?_
   obtain rfl := sj H14
   exact r1 (i6 t16)
theorem k142 {a0 : (List Int)} {v0 : Value} {r : (List Int)} {w : World} {h : Js} (hw : Know h w Zk) (f0 : FrS h 1 v0 (a0.map Q5)) (H : Yk a0 = some r) : Does prog 142 (List.toArray [v0]) w (fun v w' => ∃ x : AN, v = (sl x r.length) ∧ Turn w w' Zk (Ju 3 1 (sl x r.length) r.length (r.map Q5))) := by
 refine enter (n := 8) func142 rfl rfl rfl Zk [] (Sat.nil _ _)<|Jc<|Ja<|ag (z0s)<|Jd<|Jc<|Jc<|Ja<|mv v0<|lv (r_eqlNilS Tryz.underlying76 f0 rfl rfl)<|Jd<|?_
 refine Jd0 (b := Jfz v0) rfl (fun hb => ?_) (fun hb => ?_)
 ·have hn_ : a0 = [] := f0.nilV hb
  have H3 : some ([] : List Int) = some r := by have h_ := H; rw [hn_] at h_; exact h_
  refine Jc<|Ja<|ag (z0s)<|Jd<|Jh<|J1 3 1<|?_
  obtain rfl := sj H3
  refine Uh (v := sl nn ([] : List Int).length) rfl rfl (X5 nn (i := 0) rfl rfl (Imp.refl _))
 ·skip
  refine Jj<|Jc<|Ja<|?_
  refine Qj (vs := []) (cs := []) Tryz.underlying76 Tryz.sizeOf3 zeroValue3 rfl rfl rfl rfl rfl rfl rfl (fun b1 => ?_)
  refine mv v0<|J4 0 rfl (imp_box (m := 0) (E := 3) (sz := 1) (xs := (([] : List Int)).map Q5) rfl rfl rfl ⟨rfl, by decide⟩)<|?_
  obtain ⟨l7, h_l7, H4⟩ := Je H; clear H
  refine J7 (X4 (i := 0) (hn := rfl) (rds := []) (p := ((some ⟨b1, 0, none⟩, 0) : AN)) (sz := 1) (by_ := 8) (f := Q5) (ys := ([] : List Int)) (ls := a0) (V := v0) Tryz.underlying76 (Qn typeInfo3) rfl rfl rfl rfl rfl rfl rfl rfl f0.eq (List.length_map _) (fun w L' hF hS hi => (f0).row (hw.now hF)) (fun _ => rfl) (fun _ => rfl) h_l7) rfl rfl rfl (fun p => ?_)
  refine ag (sl p l7.length)<|Jd<|Jh<|?_
  obtain rfl := sj H4
  refine Uh (v := sl p l7.length) rfl rfl (X5 p (i := 0) rfl rfl (Imp.refl _))
theorem k141 {a : Option Addr} {n c : Nat} (hc : n ≤ c) : Ret prog 141 [.slice a n c] (.slice (Ya a 0 n 1) n n) := by
  refine Qi (n := 9) func141 rfl rfl rfl (fun wd => ?_)
  refine Jc<|Ja<|ag (z0s)<|Jd<|Jc<|Ja<|mv (.slice a n c)<|mv (.slice a n c)<|lv (U6 Tryz.underlying76 rfl)<|mv (.slice a n c)<|lv (U6 Tryz.underlying76 rfl)<|lv (r_sliceHM (a := a) (m := n) (c := c) (h := (n : Int)) (q := (n : Int)) Tryz.underlying76 Tryz.sizeOf3 rfl rfl rfl (Int.natCast_nonneg n) (Int.le_refl _) (Int.ofNat_le.2 hc))<|ag (.slice (Ya a 0 n 1) n n)<|Jd<|Jh<|?_
  exact Uh (v := .slice (Ya a 0 n 1) n n) rfl rfl (fin rfl)
theorem k144 {a0 : (List Td)} {v0 : Value} {r : (List Td)} {w : World} {h : Js} (hw : Know h w Zk) (f0 : FrS h 2 v0 (a0.map Jp)) (H : Ze a0 = some r) : Does prog 144 (List.toArray [v0]) w (fun v w' => ∃ x : AN, v = (sl x r.length) ∧ Turn w w' Zk (Ju 70 2 (sl x r.length) r.length (r.map Jp))) := by
 refine enter (n := 8) func144 rfl rfl rfl Zk [] (Sat.nil _ _)<|Jc<|Ja<|ag (z0s)<|Jd<|Jc<|Jc<|Ja<|mv v0<|lv (r_eqlNilS Tryz.underlying79 f0 rfl rfl)<|Jd<|?_
 refine Jd0 (b := Jfz v0) rfl (fun hb => ?_) (fun hb => ?_)
 ·have hn_ : a0 = [] := f0.nilV hb
  have H3 : some ([] : List Td) = some r := by have h_ := H; rw [hn_] at h_; exact h_
  refine Jc<|Ja<|ag (z0s)<|Jd<|Jh<|J1 70 2<|?_
  obtain rfl := sj H3
  refine Uh (v := sl nn ([] : List Td).length) rfl rfl (X5 nn (i := 0) rfl rfl (Imp.refl _))
 ·skip
  refine Jj<|Jc<|Ja<|?_
  refine Qj (vs := []) (cs := []) Tryz.underlying79 Tryz.sizeOf70 zeroValue70 rfl rfl rfl rfl rfl rfl rfl (fun b1 => ?_)
  refine mv v0<|J4 0 rfl (imp_box (m := 0) (E := 70) (sz := 2) (xs := (([] : List Td)).map Jp) rfl rfl rfl ⟨rfl, by decide⟩)<|?_
  obtain ⟨l7, h_l7, H4⟩ := Je H; clear H
  refine J7 (X4 (i := 0) (hn := rfl) (rds := []) (p := ((some ⟨b1, 0, none⟩, 0) : AN)) (sz := 2) (by_ := 16) (f := Jp) (ys := ([] : List Td)) (ls := a0) (V := v0) Tryz.underlying79 (Qn typeInfo70) rfl rfl rfl rfl rfl rfl rfl rfl f0.eq (List.length_map _) (fun w L' hF hS hi => (f0).row (hw.now hF)) (fun _ => rfl) (fun _ => rfl) h_l7) rfl rfl rfl (fun p => ?_)
  refine ag (sl p l7.length)<|Jd<|Jh<|?_
  obtain rfl := sj H4
  refine Uh (v := sl p l7.length) rfl rfl (X5 p (i := 0) rfl rfl (Imp.refl _))
theorem k143 {a : Option Addr} {n c : Nat} (hc : n ≤ c) : Ret prog 143 [.slice a n c] (.slice (Ya a 0 n 2) n n) := by
  refine Qi (n := 9) func143 rfl rfl rfl (fun wd => ?_)
  refine Jc<|Ja<|ag (z0s)<|Jd<|Jc<|Ja<|mv (.slice a n c)<|mv (.slice a n c)<|lv (U6 Tryz.underlying79 rfl)<|mv (.slice a n c)<|lv (U6 Tryz.underlying79 rfl)<|lv (r_sliceHM (a := a) (m := n) (c := c) (h := (n : Int)) (q := (n : Int)) Tryz.underlying79 Tryz.sizeOf70 rfl rfl rfl (Int.natCast_nonneg n) (Int.le_refl _) (Int.ofNat_le.2 hc))<|ag (.slice (Ya a 0 n 2) n n)<|Jd<|Jh<|?_
  exact Uh (v := .slice (Ya a 0 n 2) n n) rfl rfl (fin rfl)
theorem ext162 (s : List UInt8) (c r : Int) (h : gIxB s c = some r) (w : World) : (callFunc 162 (List.toArray [str s, .int .u8 c])).run prog w = .ok (.value (i6 r)) w := by
  have h0 : (callFunc 162 #[str s, .int .u8 c]).run prog w = (do pure (.value (← Extern.BytealgIndexByte.indexByte #[str s, .int .u8 c])) : Sem Next).run prog w := by kernel_rfl
  rw [h0]
  simp only [Sem.run_bind, Go.Lx.run_ixB h, Result.andThen_ok, Sem.run_pure]
theorem k119 {a0 : (List UInt8)} {a1 : Int} {r : Int} (H : Xm a0 a1 = some r) : Ret prog 119 [str a0, .int .u8 a1] (i6 r) := by
 refine Qi (n := 8) func119 rfl rfl rfl (fun wd => ?_)
 refine Jc<|Ja<|ag (i6 0)<|Jd<|Jc<|Ja<|mv (str a0)<|mv (.int .u8 a1)<|?_
 obtain ⟨t7, h_t7, H2⟩ := Je H; clear H
 refine lv (r_ext (args := [str a0, .int .u8 a1]) (ext162 _ _ _ h_t7) rfl)<|ag (i6 t7)<|Jd<|Jh<|?_
 obtain rfl := sj H2
 exact r1 (i6 t7)
theorem k86 {a0 : (List UInt8)} {a1 : (List UInt8)} {r : Int} (H : Yd a0 a1 = some r) : Ret prog 86 [str a0, str a1] (i6 r) := by
 refine Qi (n := 143) func86 rfl rfl rfl (fun wd => ?_)
 refine Jc<|Ja<|ag (i6 0)<|Jd<|Jc<|Ja<|mv (str a1)<|lv (Q8 Tryz.underlying9 rfl)<|ag (i6 (a1.length : Int))<|Jd<|Jc<|Jq<|Jc<|Ja<|mv (i6 (a1.length : Int))<|lv (Qg rfl rfl)<|mv (.bool (decide ((a1.length : Int) = 0)))<|?_
 revert H
 refine sp (fun hb H11=>?_) fun hb H12=>?_
 ·refine pa<|pa<|pa<|pT (.bool true)<|ag (.bool true)<|Jd<|Y4 rfl<|Jc<|Ja<|ag (i6 0)<|Jd<|Jh<|?_
  obtain rfl := sj H11
  exact r1 (i6 0)
 ·refine mv (str a1)<|mv (str a0)<|lv (Ud rfl rfl)<|pF (.bool (decide (a1 = a0)))<|ag (.bool (decide (a1 = a0)))<|Jd<|?_
  revert H12
  refine ci (decide (a1 = a0)) rfl (fun hb H13=>?_) fun hb H14=>?_
  ·refine Jc<|Ja<|ag (i6 0)<|Jd<|Jh<|?_
   obtain rfl := sj H13
   exact r1 (i6 0)
  ·refine Jc<|Ja<|mv (i6 (a1.length : Int))<|lv (Qg rfl rfl)<|ag (.bool (decide ((a1.length : Int) = 1)))<|Jd<|?_
   revert H14
   refine ci (decide ((a1.length : Int) = 1)) rfl (fun hb H15=>?_) fun hb H18=>?_
   ·refine Jc<|Ja<|mv (str a0)<|mv (str a1)<|?_
    obtain ⟨t29, h_t29, H16⟩ := Je H15; clear H15
    refine lv (Zz Tryz.underlying9 rfl rfl h_t29) ?_
    obtain ⟨t30, h_t30, H17⟩ := Je H16; clear H16
    refine Qk (k119 h_t30) call119 rfl rfl rfl<|ag (i6 t30)<|Jd<|Jh<|?_
    obtain rfl := sj H17
    exact r1 (i6 t30)
   ·refine Jc<|Ja<|mv (i6 (a1.length : Int))<|mv (str a0)<|lv (Q8 Tryz.underlying9 rfl)<|lv (Jhf rfl rfl)<|ag (.bool (decide ((a0.length : Int) ≤ (a1.length : Int))))<|Jd<|?_
    revert H18
    refine ci (decide ((a0.length : Int) ≤ (a1.length : Int))) rfl (fun hb H19=>?_) fun hb H20=>?_
    ·refine Jc<|Ja<|ag (i6 (-1))<|Jd<|Jh<|?_
     obtain rfl := sj H19
     exact r1 (i6 (-1))
    ·exact absurd (show (none : Option (Int)) = some r from H20) (fun h => by cases h)
theorem k45 {a0 : (List UInt8)} {a1 : (List UInt8)} {r : (List UInt8) × (List UInt8) × Bool} (H : Wx a0 a1 = some r) : Ret prog 45 [str a0, str a1] (.tuple #[str r.1, str r.2.1, .bool r.2.2]) := by
 refine Qi (n := 23) func45 rfl rfl rfl (fun wd => ?_)
 refine Jc<|Ja<|ag (str [])<|ag (str [])<|ag (.bool false)<|Jd<|Jc<|Jc<|Ja<|mv (str a0)<|mv (str a1)<|?_
 obtain ⟨t10, h_t10, H7⟩ := Je H; clear H
 refine Qk (k86 h_t10) call86 rfl rfl rfl<|ag (i6 t10)<|Jd<|Jc<|Ja<|mv (i6 t10)<|lv (Jhf rfl rfl)<|Jd<|?_
 revert H7
 refine ci (decide (0 ≤ t10)) rfl (fun hb H8=>?_) fun hb H12=>?_
 ·refine Jc ?_
  exact Q1 (Kd.p :: Kd.p :: Kd.p :: Kd.p :: Kd.p :: Kd.p :: Kd.p :: Kd.p :: Kd.p :: Kd.p :: Kd.p :: Kd.p :: []) 0 mixed (by
   refine dm (str a0)<|dm (i6 t10)<|?_
   have h_t15 := Qc H8
   have H9 := J2 H8
   refine dv (Jbg Tryz.underlying9 rfl rfl h_t15)<|dm (str a0)<|dm (i6 t10)<|dm (str a1)<|dv (Q8 Tryz.underlying9 rfl)<|?_
   have h_t20 := Qc H9
   have H10 := J2 H9
   refine dv (J8 rfl rfl h_t20) ?_
   have h_t21 := Qc H10
   have H11 := J2 H10
   refine dv (Wy Tryz.underlying9 rfl rfl h_t21)<|Qy rfl rfl (Jr (v := str (val (Yw a0 0 t10))) rfl)<|Qy rfl rfl (Jr (v := str (val (Yw a0 (val (gI (t10 + (a1.length : Int)))) a0.length))) rfl)<|Qy rfl rfl (Jr (v := .bool true) rfl)<|Vz<|Jh<|?_
   obtain rfl := sj H11
   refine ret3 (v1 := str (val (Yw a0 0 t10))) (v2 := str (val (Yw a0 (val (gI (t10 + (a1.length : Int)))) a0.length))) (v3 := .bool true) rfl rfl rfl rfl (fin rfl)
   ) (by kernel_rfl)
 ·refine Jj<|Jc<|Ja<|mv (str a0)<|ag (str a0)<|ag (str [])<|ag (.bool false)<|Jd<|Jh<|?_
  obtain rfl := sj H12
  refine ret3 (v1 := str a0) (v2 := str []) (v3 := .bool false) rfl rfl rfl rfl (fin rfl)
theorem k24 {a0 : (List UInt8)} {a1 : (List UInt8)} {r : (List UInt8) × (List UInt8) × Bool} (H : Zx a0 a1 = some r) : Ret prog 24 [str a0, str a1] (.tuple #[str r.1, str r.2.1, .bool r.2.2]) := by
 refine Qi (n := 13) func24 rfl rfl rfl (fun wd => ?_)
 refine Jc<|Ja<|ag (str [])<|ag (str [])<|ag (.bool false)<|Jd<|Jc<|Ja<|mv (str a0)<|mv (str a1)<|?_
 obtain ⟨t9, h_t9, H2⟩ := Je H; clear H
 refine Qk (k45 h_t9) call45 rfl rfl rfl<|lv (Jk (v := str t9.1) rfl rfl)<|lv (Jk (v := str t9.2.1) rfl rfl)<|lv (Jk (v := .bool t9.2.2) rfl rfl)<|ag (str t9.1)<|ag (str t9.2.1)<|ag (.bool t9.2.2)<|Jd<|Jh<|?_
 obtain rfl := sj H2
 refine ret3 (v1 := str t9.1) (v2 := str t9.2.1) (v3 := .bool t9.2.2) rfl rfl rfl rfl (fin rfl)
theorem k40 {a0 : (List UInt8)} {a1 : Int} {r : (List UInt8)} (H : gRep a0 a1 = some r) : Ret prog 40 [str a0, i6 a1] (str r) :=
  rep_ret (ρ := Go.Proofs.Tryz.lays105_ren) Go.Proofs.Tryz.lays105 Go.Proofs.Tryz.Builder_Extra_105 H
theorem k122 {a0 : (List UInt8)} {a1 : (List UInt8)} {r : Bool} (H : Q6 a0 a1 = some r) : Ret prog 122 [str a0, str a1] (.bool r) := by
 refine Qi (n := 18) func122 rfl rfl rfl (fun wd => ?_)
 refine Jc<|Ja<|ag (.bool false)<|Jd<|Jc<|Ja<|mv (str a0)<|lv (Q8 Tryz.underlying9 rfl)<|mv (str a1)<|lv (Q8 Tryz.underlying9 rfl)<|lv (Jhf rfl rfl)<|mv (.bool (decide ((a1.length : Int) ≤ (a0.length : Int))))<|?_
 revert H
 refine sp (fun hb H4=>?_) fun hb H6=>?_
 ·refine mv (str a0)<|mv (str a1)<|lv (Q8 Tryz.underlying9 rfl)<|?_
  obtain ⟨t14, h_t14, H5⟩ := Je H4; clear H4
  refine lv (Jbg Tryz.underlying9 rfl rfl h_t14)<|mv (str a1)<|lv (Ud rfl rfl)<|pT (.bool (decide (t14 = a1)))<|ag (.bool (decide (t14 = a1)))<|Jd<|Jh<|?_
  obtain rfl := sj H5
  exact r1 (.bool (decide (t14 = a1)))
 ·refine pa<|pa<|pa<|pa<|pa<|pa<|pF (.bool false)<|ag (.bool false)<|Jd<|Jh<|?_
  obtain rfl := sj H6
  exact r1 (.bool false)
theorem k87 {a0 : (List UInt8)} {a1 : (List UInt8)} {r : (List UInt8) × Bool} (H : Zs a0 a1 = some r) : Ret prog 87 [str a0, str a1] (.tuple #[str r.1, .bool r.2]) := by
 refine Qi (n := 15) func87 rfl rfl rfl (fun wd => ?_)
 refine Jc<|Ja<|ag (str [])<|ag (.bool false)<|Jd<|Jc<|Jc<|Ja<|mv (str a0)<|mv (str a1)<|?_
 obtain ⟨t8, h_t8, H5⟩ := Je H; clear H
 refine Qk (k122 h_t8) call122 rfl rfl rfl<|lv (Jb8 rfl)<|Jd<|?_
 revert H5
 refine ci (!t8) rfl (fun hb H6=>?_) fun hb H7=>?_
 ·refine Jc<|Ja<|mv (str a0)<|ag (str a0)<|ag (.bool false)<|Jd<|Jh<|?_
  obtain rfl := sj H6
  refine Jba (v1 := str a0) (v2 := .bool false) rfl rfl rfl (fin rfl)
 ·refine Jj<|Jc<|Ja<|mv (str a0)<|mv (str a1)<|lv (Q8 Tryz.underlying9 rfl)<|?_
  obtain ⟨t14, h_t14, H8⟩ := Je H7; clear H7
  refine lv (Wy Tryz.underlying9 rfl rfl h_t14)<|ag (str t14)<|ag (.bool true)<|Jd<|Jh<|?_
  obtain rfl := sj H8
  refine Jba (v1 := str t14) (v2 := .bool true) rfl rfl rfl (fin rfl)
theorem k47 {a0 : (List UInt8)} {a1 : (List UInt8)} {r : (List UInt8) × Bool} (H : Jak a0 a1 = some r) : Ret prog 47 [str a0, str a1] (.tuple #[str r.1, .bool r.2]) := by
 refine Qi (n := 11) func47 rfl rfl rfl (fun wd => ?_)
 refine Jc<|Ja<|ag (str [])<|ag (.bool false)<|Jd<|Jc<|Ja<|mv (str a0)<|mv (str a1)<|?_
 obtain ⟨t8, h_t8, H2⟩ := Je H; clear H
 refine Qk (k87 h_t8) call87 rfl rfl rfl<|lv (Jk (v := str t8.1) rfl rfl)<|lv (Jk (v := .bool t8.2) rfl rfl)<|ag (str t8.1)<|ag (.bool t8.2)<|Jd<|Jh<|?_
 obtain rfl := sj H2
 refine Jba (v1 := str t8.1) (v2 := .bool t8.2) rfl rfl rfl (fin rfl)
theorem k41 {a0 : Int} {r : (List UInt8)} {w : World} {h : Js} (hw : Know h w Zk) (tb_pow10 : TabH prog h "internal/strconv.uint64pow10" .u64 Lib.pow10Tab) (H : Uq a0 = some r) : Does prog 41 (List.toArray [i6 a0]) w (fun v w' => v = (str r) ∧ Grow w w') :=
  itoa_does (ρ := Go.Proofs.Tryz.laysM171_ren) Go.Proofs.Tryz.laysM171 hw tb_pow10 H
theorem k129 {a0 : (List UInt8)} {a1 : (List UInt8)} {r : (List UInt8)} (H : Zo a0 a1 = some r) : Ret prog 129 [str a0, str a1] (str r) := by
 refine Qi (n := 13) func129 rfl rfl rfl (fun wd => ?_)
 refine Jc<|Ja<|ag (str [])<|Jd<|Jc<|Jc<|Ja<|mv (str a0)<|mv (str a1)<|?_
 obtain ⟨t7, h_t7, H5⟩ := Je H; clear H
 refine Qk (k122 h_t7) call122 rfl rfl rfl<|Jd<|?_
 revert H5
 refine ci t7 rfl (fun hb H6=>?_) fun hb H8=>?_
 ·refine Jc<|Ja<|mv (str a0)<|mv (str a1)<|lv (Q8 Tryz.underlying9 rfl)<|?_
  obtain ⟨t11, h_t11, H7⟩ := Je H6; clear H6
  refine lv (Wy Tryz.underlying9 rfl rfl h_t11)<|ag (str t11)<|Jd<|Jh<|?_
  obtain rfl := sj H7
  exact r1 (str t11)
 ·refine Jj<|Jc<|Ja<|mv (str a0)<|ag (str a0)<|Jd<|Jh<|?_
  obtain rfl := sj H8
  exact r1 (str a0)
theorem k88 {a0 : (List UInt8)} {a1 : (List UInt8)} {r : (List UInt8)} (H : U0 a0 a1 = some r) : Ret prog 88 [str a0, str a1] (str r) := by
 refine Qi (n := 8) func88 rfl rfl rfl (fun wd => ?_)
 refine Jc<|Ja<|ag (str [])<|Jd<|Jc<|Ja<|mv (str a0)<|mv (str a1)<|?_
 obtain ⟨t7, h_t7, H2⟩ := Je H; clear H
 refine Qk (k129 h_t7) call129 rfl rfl rfl<|ag (str t7)<|Jd<|Jh<|?_
 obtain rfl := sj H2
 exact r1 (str t7)
theorem k130 {a0 : (List UInt8)} {a1 : Int} {r : (List UInt8)} (H : We a0 a1 = some r) : Ret prog 130 [str a0, .int .u8 a1] (str r) := by
 refine Qi (n := 17) func130 rfl rfl rfl (fun wd => ?_)
 refine Jc<|Ja<|ag (str [])<|Jd<|Jc<|Jq<|?_
 refine Yq (σ := (List UInt8)) (τ := Unit) (fun next1 s => W9 a1 next1 s) (fun s t => [(0, str s), (1, .int .u8 a1)]) (fun s t => []) (fun s t => True) a0 () [] H (by exact trivial) (by exact ⟨rfl, rfl, trivial⟩) (by decide) rfl ?_
 rintro x0_2 _ m1 gg H8 _
 clear H
 try dsimp only at H8
 generalize hn1 : it (fun next1 s => W9 a1 next1 s) m1 = next1 at H8
 try dsimp only
 refine Jc<|Jc<|Ja<|mv (str x0_2)<|lv (Q8 Tryz.underlying9 rfl)<|lv (Va rfl rfl)<|mv (.bool (decide (0 < (x0_2.length : Int))))<|?_
 revert H8
 refine sp (fun hb H9=>?_) fun hb H14=>?_
 ·refine mv (str x0_2) ?_
  obtain ⟨t10, h_t10, H10⟩ := Je H9; clear H9
  refine lv (Zz Tryz.underlying9 rfl rfl h_t10)<|mv (.int .u8 a1)<|lv (Qg rfl rfl)<|pT (.bool (decide (t10 = a1)))<|Jd<|?_
  revert H10
  refine ci (decide (t10 = a1)) rfl (fun hb H11=>?_) fun hb H13=>?_
  ·refine Jj<|Jq<|Ja<|mv (str x0_2)<|?_
   obtain ⟨t15, h_t15, H12⟩ := Je H11; clear H11
   refine lv (Wy Tryz.underlying9 rfl rfl h_t15)<|ag (str t15)<|Jd<|?_
   exact cl t15 () m1 [] (by exact ⟨(by subst hn1; exact H12), trivial⟩)
  ·refine Qo<|Jc<|Ja<|mv (str x0_2)<|ag (str x0_2)<|Jd<|Jh<|?_
   obtain rfl := sj H13
   exact r1 (str x0_2)
 ·refine pa<|pa<|pa<|pa<|pF (.bool false)<|Jd<|Zq rfl<|Qo<|Jc<|Ja<|mv (str x0_2)<|ag (str x0_2)<|Jd<|Jh<|?_
  obtain rfl := sj H14
  exact r1 (str x0_2)
theorem k131 {a0 : (List UInt8)} {a1 : Int} {r : (List UInt8)} (H : V7 a0 a1 = some r) : Ret prog 131 [str a0, .int .u8 a1] (str r) := by
 refine Qi (n := 23) func131 rfl rfl rfl (fun wd => ?_)
 refine Jc<|Ja<|ag (str [])<|Jd<|Jc<|Jq<|?_
 refine Yq (σ := (List UInt8)) (τ := Unit) (fun next1 s => W0 a1 next1 s) (fun s t => [(0, str s), (1, .int .u8 a1)]) (fun s t => []) (fun s t => True) a0 () [] H (by exact trivial) (by exact ⟨rfl, rfl, trivial⟩) (by decide) rfl ?_
 rintro x0_2 _ m1 gg H10 _
 clear H
 try dsimp only at H10
 generalize hn1 : it (fun next1 s => W0 a1 next1 s) m1 = next1 at H10
 try dsimp only
 refine Jc<|Jc<|Ja<|mv (str x0_2)<|lv (Q8 Tryz.underlying9 rfl)<|lv (Va rfl rfl)<|mv (.bool (decide (0 < (x0_2.length : Int))))<|?_
 revert H10
 refine sp (fun hb H11=>?_) fun hb H18=>?_
 ·refine mv (str x0_2)<|mv (str x0_2)<|lv (Q8 Tryz.underlying9 rfl)<|?_
  obtain ⟨t12, h_t12, H12⟩ := Je H11; clear H11
  refine lv (Zb rfl rfl h_t12) ?_
  obtain ⟨t13, h_t13, H13⟩ := Je H12; clear H12
  refine lv (Zz Tryz.underlying9 rfl rfl h_t13)<|mv (.int .u8 a1)<|lv (Qg rfl rfl)<|pT (.bool (decide (t13 = a1)))<|Jd<|?_
  revert H13
  refine ci (decide (t13 = a1)) rfl (fun hb H14=>?_) fun hb H17=>?_
  ·refine Jj<|Jq<|Ja<|mv (str x0_2)<|mv (str x0_2)<|lv (Q8 Tryz.underlying9 rfl)<|?_
   obtain ⟨t20, h_t20, H15⟩ := Je H14; clear H14
   refine lv (Zb rfl rfl h_t20) ?_
   obtain ⟨t21, h_t21, H16⟩ := Je H15; clear H15
   refine lv (Jbg Tryz.underlying9 rfl rfl h_t21)<|ag (str t21)<|Jd<|?_
   exact cl t21 () m1 [] (by exact ⟨(by subst hn1; exact H16), trivial⟩)
  ·refine Qo<|Jc<|Ja<|mv (str x0_2)<|ag (str x0_2)<|Jd<|Jh<|?_
   obtain rfl := sj H17
   exact r1 (str x0_2)
 ·refine pa<|pa<|pa<|pa<|pa<|pa<|pa<|pF (.bool false)<|Jd<|Zq rfl<|Qo<|Jc<|Ja<|mv (str x0_2)<|ag (str x0_2)<|Jd<|Jh<|?_
  obtain rfl := sj H18
  exact r1 (str x0_2)
theorem k132 {a0 : (List UInt8)} {r : (Nat → Bool) × Bool} (H : Wt a0 = some r) : Ret prog 132 [str a0] (.tuple #[.agg (List.toArray (U2 256 (fun j_ => [.bool (r.1 j_)]))), .bool r.2]) := by
 refine Qi (n := 21) func132 rfl rfl rfl (fun wd => ?_)
 refine Jc<|Ja<|?_
 refine Q2 (cs := (U2 256 (fun j_ => [.bool ((fun _ => false) j_)]))) zeroValue177 (by kernel_rfl) rfl rfl (fun b1 => ?_)
 refine ag (.bool false)<|Jd<|?_
 refine Qm (r := r) (σ := (Nat → Bool)) (τ := Unit) (fun s => Jbx s) (fun s t => [(2, pz b1)]) (fun s t => [Ji b1 (U2 256 (fun j_ => [.bool (s j_)])) 177]) (fun s t => True) ?_ ?_
 ·refine Jc<|Ja<|ag (i6 0)<|Jd<|Jq<|?_
  refine Yq (σ := Int × (Nat → Bool)) (τ := Unit) (fun next2 s => Xb a0 next2 s.1 s.2) (fun s t => [(0, str a0), (2, pz b1), (4, i6 s.1)]) (fun s t => [Ji b1 (U2 256 (fun j_ => [.bool (s.2 j_)])) 177]) (fun s t => True) (0, (fun _ => false)) () [0] H (by exact trivial) (by exact ⟨rfl, rfl, rfl, trivial⟩) (by decide) rfl ?_
  rintro ⟨x4_2, m_3⟩ _ m2 gg H11 _
  clear H
  try dsimp only at H11
  generalize hn2 : it (fun next2 s => Xb a0 next2 s.1 s.2) m2 = next2 at H11
  try dsimp only
  refine Jc<|Jc<|Ja<|mv (i6 x4_2)<|mv (str a0)<|lv (Q8 Tryz.underlying9 rfl)<|lv (Yh rfl rfl)<|Jd<|?_
  revert H11
  refine ci (decide (x4_2 < (a0.length : Int))) rfl (fun hb H12=>?_) fun hb H18=>?_
  ·refine Jj<|Jc<|Jq<|Jc<|Ja<|mv (str a0)<|mv (i6 x4_2)<|?_
   obtain ⟨t14, h_t14, H13⟩ := Je H12; clear H12
   refine lv (Zz Tryz.underlying9 rfl rfl h_t14)<|ag (.int .u8 t14)<|Jd<|Jc<|Jc<|Ja<|mv (.int .u8 t14)<|lv (Jhf rfl rfl)<|Jd<|?_
   revert H13
   refine ci (decide (128 ≤ t14)) rfl (fun hb H14=>?_) fun hb H15=>?_
   ·refine Jc<|Ja<|Qq (i := 0) (vs := (U2 256 (fun j_ => [.bool (m_3 j_)]))) isAgg177 sizeOf177 rfl rfl rfl rfl (Jhw (Uf (fun _ => rfl)))<|Xl (i := 0) (vs := (U2 256 (fun j_ => [.bool (m_3 j_)]))) (cs' := (U2 256 (fun j_ => [.bool (m_3 j_)]))) sizeOf177 rfl rfl rfl rfl (Uf (fun _ => rfl)) rfl (Jjf (fun _ => rfl)) rfl (Jj5 ((Uf (fun _ => rfl)).trans (Uf (fun _ => rfl)).symm))<|ag (.bool false)<|Jd<|Jh<|?_
    obtain rfl := sj H14
    refine Jco (i := 0) (vs := (U2 256 (fun j_ => [.bool (m_3 j_)]))) (v2 := .bool false) isAgg177 sizeOf177 rfl rfl rfl (Jhw (Uf (fun _ => rfl))) rfl (fin rfl)
   ·refine Jj<|Ja<|mv (.int .u8 t14)<|?_
    obtain ⟨k19, h_k19, H16⟩ := Je H15; clear H15
    refine lv (r_indexPG runUnderlying177 Tryz.sizeOf4 rfl rfl h_k19)<|Xl (i := 0) (vs := [.bool true]) (cs' := (U2 256 (fun j_ => [.bool ((setA m_3 k19 true) j_)]))) Tryz.sizeOf4 rfl rfl rfl rfl rfl rfl rfl rfl (wr_arr (pre := []) (post := []) (f := fun (j_ : Bool) => [.bool j_]) (n := 256) (sz := 1) (a := m_3) (x := true) (Jim _ _) rfl (fun _ => rfl) (gIx_lt h_k19) rfl (Jim _ _))<|Jd<|Ja<|mv (i6 x4_2)<|?_
    obtain ⟨t11, h_t11, H17⟩ := Je H16; clear H16
    refine lv (J8 rfl rfl h_t11)<|ag (i6 t11)<|Jd<|?_
    exact cl (t11, (setA m_3 k19 true)) () m2 [0] (by exact ⟨(by subst hn2; exact H17), trivial⟩)
  ·refine Qo ?_
   exact cl m_3 () 0 [0] (by exact ⟨H18, trivial⟩)
 ·rintro m _ gg H10 _
  try dsimp only at H10
  try dsimp only
  refine Jc<|Ja<|Qq (i := 0) (vs := (U2 256 (fun j_ => [.bool (m j_)]))) isAgg177 sizeOf177 rfl rfl rfl rfl (Jhw (Uf (fun _ => rfl)))<|Xl (i := 0) (vs := (U2 256 (fun j_ => [.bool (m j_)]))) (cs' := (U2 256 (fun j_ => [.bool (m j_)]))) sizeOf177 rfl rfl rfl rfl (Uf (fun _ => rfl)) rfl (Jjf (fun _ => rfl)) rfl (Jj5 ((Uf (fun _ => rfl)).trans (Uf (fun _ => rfl)).symm))<|ag (.bool true)<|Jd<|Jh<|?_
  obtain rfl := sj H10
  refine Jco (i := 0) (vs := (U2 256 (fun j_ => [.bool (m j_)]))) (v2 := .bool true) isAgg177 sizeOf177 rfl rfl rfl (Jhw (Uf (fun _ => rfl))) rfl (fin rfl)
theorem k169 {a0 : (Nat → Bool)} {pb0 : Nat} {a1 : Int} {r : Bool × (Nat → Bool)} {w : World} {h : Js} {S : Nat → Prop} (hcs : (Ji pb0 (U2 256 (fun j_ => [.bool (a0 j_)])) 177).P S w) (hlt : ∀ b, S b → b < w.heap.size) (hw : Know h w S) (H : Yr a0 a1 = some r) : Does prog 169 (List.toArray [pz pb0, .int .u8 a1]) w (fun v w' => ∃ x : Unit, v = (.bool r.1) ∧ Turn w w' S (Ji pb0 (U2 256 (fun j_ => [.bool (r.2 j_)])) 177)) := by
 refine enter (n := 10) func169 rfl rfl rfl S [Ji pb0 (U2 256 (fun j_ => [.bool (a0 j_)])) 177] (Sat.one hcs hlt)<|Jc<|Ja<|ag (.bool false)<|Jd<|Jc<|Ja<|mv (pz pb0)<|mv (.int .u8 a1)<|lv (Jg rfl)<|?_
 obtain ⟨k8, h_k8, H2⟩ := Je H; clear H
 refine lv (r_indexPG runUnderlying177 Tryz.sizeOf4 rfl rfl h_k8)<|Ws (i := 0) (v := .bool (a0 k8)) isAgg4 rfl rfl rfl rfl (rg_arr (pre := []) (post := []) (f := fun j_ => [.bool (a0 j_)]) (n := 256) (sz := 1) (q := 0) (Jim _ _) rfl (fun _ => rfl) (gIx_lt h_k8) rfl)<|ag (.bool (a0 k8))<|Jd<|Jh<|?_
 obtain rfl := sj H2
 refine Uh (v := .bool (a0 k8)) rfl rfl (X5 () (i := 0) rfl rfl (Imp.refl _))
theorem k133 {a0 : (List UInt8)} {a1 : (Nat → Bool)} {pb1 : Nat} {r : (List UInt8) × (Nat → Bool)} {w : World} {h : Js} {S : Nat → Prop} (hcs : (Ji pb1 (U2 256 (fun j_ => [.bool (a1 j_)])) 177).P S w) (hlt : ∀ b, S b → b < w.heap.size) (hw : Know h w S) (H : V8 a0 a1 = some r) : Does prog 133 (List.toArray [str a0, pz pb1]) w (fun v w' => ∃ x : Unit, v = (str r.1) ∧ Turn w w' S (Ji pb1 (U2 256 (fun j_ => [.bool (r.2 j_)])) 177)) := by
 refine enter (n := 16) func133 rfl rfl rfl S [Ji pb1 (U2 256 (fun j_ => [.bool (a1 j_)])) 177] (Sat.one hcs hlt)<|Jc<|Ja<|ag (str [])<|Jd<|Jc<|Jq<|?_
 refine Yq (σ := (List UInt8) × (Nat → Bool)) (τ := Unit) (fun next1 s => Yy next1 s.1 s.2) (fun s t => [(0, str s.1), (1, pz pb1)]) (fun s t => [Ji pb1 (U2 256 (fun j_ => [.bool (s.2 j_)])) 177]) (fun s t => True) (a0, a1) () [0] H (by exact trivial) (by exact ⟨rfl, rfl, trivial⟩) (by decide) rfl ?_
 rintro ⟨x0_2, m_2⟩ _ m1 gg H9 _
 clear H
 try dsimp only at H9
 generalize hn1 : it (fun next1 s => Yy next1 s.1 s.2) m1 = next1 at H9
 try dsimp only
 refine Jc<|Jc<|Ja<|mv (str x0_2)<|lv (Q8 Tryz.underlying9 rfl)<|lv (Va rfl rfl)<|Jd<|?_
 revert H9
 refine ci (decide (0 < (x0_2.length : Int))) rfl (fun hb H10=>?_) fun hb H16=>?_
 ·refine Jj<|Jq<|Jc<|Jc<|Ja<|mv (pz pb1)<|mv (str x0_2)<|?_
  obtain ⟨t10, h_t10, H11⟩ := Je H10; clear H10
  refine lv (Zz Tryz.underlying9 rfl rfl h_t10) ?_
  obtain ⟨t11, h_t11, H12⟩ := Je H11; clear H11
  refine J7 (Jw (i := 0) (rds := []) (G := fun x : Unit => .bool t11.1) (C := fun x : Unit => Ji pb1 (U2 256 (fun j_ => [.bool (t11.2 j_)])) 177) rfl (fun w L' S hF hS hi hp hlt ho hA => k169 hp hlt (Qe w S)  h_t11) call169 rfl) rfl rfl rfl (fun _ => ?_)
  refine lv (Jb8 rfl)<|Jd<|?_
  revert H12
  refine ci (!t11.1) rfl (fun hb H13=>?_) fun hb H14=>?_
  ·refine Qo<|Jc<|Ja<|mv (str x0_2)<|ag (str x0_2)<|Jd<|Jh<|?_
   obtain rfl := sj H13
   refine Uh (v := str x0_2) rfl rfl (X5 () (i := 0) rfl rfl (Imp.refl _))
  ·refine Jj<|Ja<|mv (str x0_2)<|?_
   obtain ⟨t14, h_t14, H15⟩ := Je H14; clear H14
   refine lv (Wy Tryz.underlying9 rfl rfl h_t14)<|ag (str t14)<|Jd<|?_
   exact cl (t14, t11.2) () m1 [0] (by exact ⟨(by subst hn1; exact H15), trivial⟩)
 ·refine Qo<|Jc<|Ja<|mv (str x0_2)<|ag (str x0_2)<|Jd<|Jh<|?_
  obtain rfl := sj H16
  refine Uh (v := str x0_2) rfl rfl (X5 () (i := 0) rfl rfl (Imp.refl _))
theorem k134 {a0 : (List UInt8)} {a1 : (Nat → Bool)} {pb1 : Nat} {r : (List UInt8) × (Nat → Bool)} {w : World} {h : Js} {S : Nat → Prop} (hcs : (Ji pb1 (U2 256 (fun j_ => [.bool (a1 j_)])) 177).P S w) (hlt : ∀ b, S b → b < w.heap.size) (hw : Know h w S) (H : Vi a0 a1 = some r) : Does prog 134 (List.toArray [str a0, pz pb1]) w (fun v w' => ∃ x : Unit, v = (str r.1) ∧ Turn w w' S (Ji pb1 (U2 256 (fun j_ => [.bool (r.2 j_)])) 177)) := by
 refine enter (n := 22) func134 rfl rfl rfl S [Ji pb1 (U2 256 (fun j_ => [.bool (a1 j_)])) 177] (Sat.one hcs hlt)<|Jc<|Ja<|ag (str [])<|Jd<|Jc<|Jq<|?_
 refine Yq (σ := (List UInt8) × (Nat → Bool)) (τ := Unit) (fun next1 s => Yp next1 s.1 s.2) (fun s t => [(0, str s.1), (1, pz pb1)]) (fun s t => [Ji pb1 (U2 256 (fun j_ => [.bool (s.2 j_)])) 177]) (fun s t => True) (a0, a1) () [0] H (by exact trivial) (by exact ⟨rfl, rfl, trivial⟩) (by decide) rfl ?_
 rintro ⟨x0_2, m_2⟩ _ m1 gg H11 _
 clear H
 try dsimp only at H11
 generalize hn1 : it (fun next1 s => Yp next1 s.1 s.2) m1 = next1 at H11
 try dsimp only
 refine Jc<|Jc<|Ja<|mv (str x0_2)<|lv (Q8 Tryz.underlying9 rfl)<|lv (Va rfl rfl)<|Jd<|?_
 revert H11
 refine ci (decide (0 < (x0_2.length : Int))) rfl (fun hb H12=>?_) fun hb H20=>?_
 ·refine Jj<|Jq<|Jc<|Jc<|Ja<|mv (pz pb1)<|mv (str x0_2)<|mv (str x0_2)<|lv (Q8 Tryz.underlying9 rfl)<|?_
  obtain ⟨t12, h_t12, H13⟩ := Je H12; clear H12
  refine lv (Zb rfl rfl h_t12) ?_
  obtain ⟨t13, h_t13, H14⟩ := Je H13; clear H13
  refine lv (Zz Tryz.underlying9 rfl rfl h_t13) ?_
  obtain ⟨t14, h_t14, H15⟩ := Je H14; clear H14
  refine J7 (Jw (i := 0) (rds := []) (G := fun x : Unit => .bool t14.1) (C := fun x : Unit => Ji pb1 (U2 256 (fun j_ => [.bool (t14.2 j_)])) 177) rfl (fun w L' S hF hS hi hp hlt ho hA => k169 hp hlt (Qe w S)  h_t14) call169 rfl) rfl rfl rfl (fun _ => ?_)
  refine lv (Jb8 rfl)<|Jd<|?_
  revert H15
  refine ci (!t14.1) rfl (fun hb H16=>?_) fun hb H17=>?_
  ·refine Qo<|Jc<|Ja<|mv (str x0_2)<|ag (str x0_2)<|Jd<|Jh<|?_
   obtain rfl := sj H16
   refine Uh (v := str x0_2) rfl rfl (X5 () (i := 0) rfl rfl (Imp.refl _))
  ·refine Jj<|Ja<|mv (str x0_2)<|mv (str x0_2)<|lv (Q8 Tryz.underlying9 rfl)<|?_
   obtain ⟨t19, h_t19, H18⟩ := Je H17; clear H17
   refine lv (Zb rfl rfl h_t19) ?_
   obtain ⟨t20, h_t20, H19⟩ := Je H18; clear H18
   refine lv (Jbg Tryz.underlying9 rfl rfl h_t20)<|ag (str t20)<|Jd<|?_
   exact cl (t20, t14.2) () m1 [0] (by exact ⟨(by subst hn1; exact H19), trivial⟩)
 ·refine Qo<|Jc<|Ja<|mv (str x0_2)<|ag (str x0_2)<|Jd<|Jh<|?_
  obtain rfl := sj H20
  refine Uh (v := str x0_2) rfl rfl (X5 () (i := 0) rfl rfl (Imp.refl _))
theorem k177 {a0 : (List UInt8)} {r : Int × Int} (H : Vs a0 = some r) : Ret prog 177 [str a0] (.tuple #[.int .i32 r.1, i6 r.2]) := by
 refine Qi (n := 117) func177 rfl rfl rfl (fun wd => ?_)
 refine Jc<|Ja<|ag (.int .i32 0)<|ag (i6 0)<|Jd<|Jc<|Ja<|mv (str a0)<|lv (Q8 Tryz.underlying9 rfl)<|ag (i6 (a0.length : Int))<|Jd<|Jc<|Jc<|Ja<|mv (i6 (a0.length : Int))<|lv (Yh rfl rfl)<|Jd<|?_
 revert H
 refine ci (decide ((a0.length : Int) < 1)) rfl (fun hb H3=>?_) fun hb H4=>?_
 ·refine Jc<|Ja<|ag (.int .i32 65533)<|ag (i6 0)<|Jd<|Jh<|?_
  obtain rfl := sj H3
  refine Jba (v1 := .int .i32 65533) (v2 := i6 0) rfl rfl rfl (fin rfl)
 ·exact absurd (show (none : Option (Int × Int)) = some r from H4) (fun h => by cases h)
theorem k146 {a0 : (List UInt8)} {r : Int × Int} (H : Yc a0 = some r) : Ret prog 146 [str a0] (.tuple #[.int .i32 r.1, i6 r.2]) := by
 refine Qi (n := 19) func146 rfl rfl rfl (fun wd => ?_)
 refine Jc<|Ja<|ag (.int .i32 0)<|ag (i6 0)<|Jd<|Jc<|?_
 refine Qm (r := r) (σ := Bool) (τ := Unit) (fun s => Y6 a0 s) (fun s t => [(0, str a0), (10, .bool s)]) (fun s t => []) (fun s t => True) ?_ ?_
 ·refine Ja<|mv (str a0)<|lv (Jfc rfl rfl)<|mv (.bool (decide (a0 ≠ [])))<|?_
  revert H
  refine sp (fun hb H16=>?_) fun hb H18=>?_
  ·refine mv (str a0) ?_
   obtain ⟨t8, h_t8, H17⟩ := Je H16; clear H16
   refine lv (Zz Tryz.underlying9 rfl rfl h_t8)<|lv (Yh rfl rfl)<|pT (.bool (decide (t8 < 128)))<|Jd<|?_
   exact cl (decide (t8 < 128)) () 0 [] (by exact ⟨H17, trivial⟩)
  ·refine pa<|pa<|pa<|pF (.bool false)<|Jd<|?_
   exact cl false () 0 [] (by exact ⟨H18, trivial⟩)
 ·rintro x10 _ gg H10 _
  try dsimp only at H10
  try dsimp only
  revert H10
  refine ci x10 rfl (fun hb H11=>?_) fun hb H14=>?_
  ·refine Jc<|Ja<|mv (str a0)<|?_
   obtain ⟨t12, h_t12, H12⟩ := Je H11; clear H11
   refine lv (Zz Tryz.underlying9 rfl rfl h_t12) ?_
   obtain ⟨t13, h_t13, H13⟩ := Je H12; clear H12
   refine lv (Jdm Tryz.runUnderlying5 Tryz.runUnderlying21 rfl (gK_i32 h_t13))<|ag (.int .i32 t13)<|ag (i6 1)<|Jd<|Jh<|?_
   obtain rfl := sj H13
   refine Jba (v1 := .int .i32 t13) (v2 := i6 1) rfl rfl rfl (fin rfl)
  ·refine Ja<|mv (str a0)<|?_
   obtain ⟨t16, h_t16, H15⟩ := Je H14; clear H14
   refine Qk (k177 h_t16) call177 rfl rfl rfl<|mv (.tuple #[.int .i32 t16.1, i6 t16.2])<|lv (Jk (v := .int .i32 t16.1) rfl rfl)<|lv (Jk (v := i6 t16.2) rfl rfl)<|ag (.int .i32 t16.1)<|ag (i6 t16.2)<|Jd<|Jh<|?_
   obtain rfl := sj H15
   refine Jba (v1 := .int .i32 t16.1) (v2 := i6 t16.2) rfl rfl rfl (fin rfl)
theorem k72 {a0 : (List UInt8)} {a1 : Int} {r : Int} (H : Qd a0 a1 = some r) : Ret prog 72 [str a0, .int .u8 a1] (i6 r) := by
 refine Qi (n := 8) func72 rfl rfl rfl (fun wd => ?_)
 refine Jc<|Ja<|ag (i6 0)<|Jd<|Jc<|Ja<|mv (str a0)<|mv (.int .u8 a1)<|?_
 obtain ⟨t7, h_t7, H2⟩ := Je H; clear H
 refine Qk (k119 h_t7) call119 rfl rfl rfl<|ag (i6 t7)<|Jd<|Jh<|?_
 obtain rfl := sj H2
 exact r1 (i6 t7)
theorem k196 {a0 : Int} {r : Bool} (H : Jck a0 = some r) : Ret prog 196 [.int .i32 a0] (.bool r) := by
 refine Qi (n := 17) func196 rfl rfl rfl (fun wd => ?_)
 refine Jc<|Ja<|ag (.bool false)<|Jd<|Jc<|Jq<|?_
 refine Qm (r := r) (σ := Bool) (τ := Unit) (fun s => V9 a0 s) (fun s t => [(0, .int .i32 a0), (3, .bool s)]) (fun s t => []) (fun s t => True) ?_ ?_
 ·refine Ja<|mv (.int .i32 a0)<|lv (r_leq rfl rfl)<|mv (.bool (decide (0 ≤ a0)))<|?_
  revert H
  refine sp (fun hb H17=>?_) fun hb H18=>?_
  ·refine mv (.int .i32 a0)<|lv (Yh rfl rfl)<|pT (.bool (decide (a0 < 55296)))<|ag (.bool (decide (a0 < 55296)))<|Jd<|?_
   exact cl (decide (a0 < 55296)) () 0 [] (by exact ⟨H17, trivial⟩)
  ·refine pa<|pa<|pF (.bool false)<|ag (.bool false)<|Jd<|?_
   exact cl false () 0 [] (by exact ⟨H18, trivial⟩)
 ·rintro x3 _ gg H10 _
  try dsimp only at H10
  try dsimp only
  revert H10
  refine ci x3 rfl (fun hb H11=>?_) fun hb H12=>?_
  ·refine Jc<|Ja<|ag (.bool true)<|Jd<|Jh<|?_
   obtain rfl := sj H11
   exact r1 (.bool true)
  ·refine Jc<|Ja<|mv (.int .i32 a0)<|lv (Yh rfl rfl)<|mv (.bool (decide (57343 < a0)))<|?_
   revert H12
   refine sp (fun hb H13=>?_) fun hb H16=>?_
   ·refine mv (.int .i32 a0)<|lv (r_leq rfl rfl)<|pT (.bool (decide (a0 ≤ 1114111)))<|ag (.bool (decide (a0 ≤ 1114111)))<|Jd<|?_
    revert H13
    refine ci (decide (a0 ≤ 1114111)) rfl (fun hb H14=>?_) fun hb H15=>?_
    ·refine Jc<|Ja<|ag (.bool true)<|Jd<|Jh<|?_
     obtain rfl := sj H14
     exact r1 (.bool true)
    ·refine Jj<|Jc<|Ja<|ag (.bool false)<|Jd<|Jh<|?_
     obtain rfl := sj H15
     exact r1 (.bool false)
   ·refine pa<|pa<|pF (.bool false)<|ag (.bool false)<|Jd<|Zq rfl<|Jj<|Jc<|Ja<|ag (.bool false)<|Jd<|Jh<|?_
    obtain rfl := sj H16
    exact r1 (.bool false)
theorem k188 {a0 : (List UInt8)} {a1 : Int} {r : Int} (H : Jed a0 a1 = some r) : Ret prog 188 [str a0, .int .i32 a1] (i6 r) := by
 refine Qi (n := 187) func188 rfl rfl rfl (fun wd => ?_)
 refine Jc<|Ja<|ag (i6 0)<|Jd<|Jq<|?_
 refine Qm (r := r) (σ := Bool) (τ := Unit) (fun s => Jaw a0 a1 s) (fun s t => [(0, str a0), (1, .int .i32 a1), (160, .bool s)]) (fun s t => []) (fun s t => True) ?_ ?_
 ·refine Ja<|mv (.int .i32 a1)<|lv (r_leq rfl rfl)<|mv (.bool (decide (0 ≤ a1)))<|?_
  revert H
  refine sp (fun hb H33=>?_) fun hb H34=>?_
  ·refine mv (.int .i32 a1)<|lv (Yh rfl rfl)<|pT (.bool (decide (a1 < 128)))<|ag (.bool (decide (a1 < 128)))<|Jd<|?_
   exact cl (decide (a1 < 128)) () 0 [] (by exact ⟨H33, trivial⟩)
  ·refine pa<|pa<|pF (.bool false)<|ag (.bool false)<|Jd<|?_
   exact cl false () 0 [] (by exact ⟨H34, trivial⟩)
 ·rintro x160 _ gg H18 _
  try dsimp only at H18
  try dsimp only
  revert H18
  refine ci x160 rfl (fun hb H19=>?_) fun hb H21=>?_
  ·refine Jc<|Ja<|mv (str a0)<|mv (.int .i32 a1)<|lv (Jdm Tryz.runUnderlying21 Tryz.runUnderlying5 rfl (wr_u8 _))<|?_
   obtain ⟨t170, h_t170, H20⟩ := Je H19; clear H19
   refine Qk (k72 h_t170) call72 rfl rfl rfl<|ag (i6 t170)<|Jd<|Jh<|?_
   obtain rfl := sj H20
   exact r1 (i6 t170)
  ·refine Jc<|Ja<|mv (.int .i32 a1)<|lv (Qg rfl rfl)<|ag (.bool (decide (a1 = 65533)))<|Jd<|?_
   revert H21
   refine ci (decide (a1 = 65533)) rfl (fun hb H22=>?_) fun hb H29=>?_
   ·refine Jc<|Jc<|Ja<|mv (str a0)<|?_
    refine Yi (rds := []) (Jiy (s := a0) Tryz.underlying9 rfl) rfl rfl rfl (fun b1 => ?_)
    refine Jd<|Jq<|?_
    refine Yq (σ := Nat) (τ := Unit) (fun next2 s => Jas a0 next2 s) (fun s t => [(175, pz b1)]) (fun s t => [iterC b1 a0 s]) (fun s t => True) 0 () [0] H22 (by exact trivial) (by exact ⟨rfl, trivial⟩) (by decide) rfl ?_
    rintro k_2 _ m2 gg H23 _
    clear H22
    try dsimp only at H23
    generalize hn2 : it (fun next2 s => Jas a0 next2 s) m2 = next2 at H23
    try dsimp only
    refine Jc<|Ja<|?_
    refine caseB (decide (k_2 < a0.length)) (fun hb => ?_) (fun hb => ?_)
    ·have H24 := Un hb H23; clear H23
     obtain ⟨t176, h_t176, H25⟩ := Je H24; clear H24
     refine J7 (Jj1 (i := 0) (rds := []) rfl rfl h_t176) rfl rfl rfl (fun _ => ?_)
     refine lv (Jk (v := .bool true) rfl rfl)<|Jd<|Jc<|Y4 rfl<|Jj<|Jq<|Jc<|Ja<|lv (Jk (v := i6 ((k_2 : Nat) : Int)) rfl rfl)<|lv (Jk (v := .int .i32 t176) rfl rfl)<|ag (i6 ((k_2 : Nat) : Int))<|ag (.int .i32 t176)<|Jd<|Jc<|Ja<|mv (.int .i32 t176)<|lv (Qg rfl rfl)<|Jd<|?_
     revert H25
     refine ci (decide (t176 = 65533)) rfl (fun hb H26=>?_) fun hb H27=>?_
     ·refine Jc<|Ja<|mv (i6 ((k_2 : Nat) : Int))<|ag (i6 ((k_2 : Nat) : Int))<|Jd<|Jh<|?_
      obtain rfl := sj H26
      exact r1 (i6 ((k_2 : Nat) : Int))
     ·refine Jj ?_
      exact cl (k_2 + 1) () m2 [0] (by exact ⟨(by subst hn2; exact H27), trivial⟩)
    ·have H28 := W4 hb H23; clear H23
     refine Q7 (fun w hF hS => Jjo (i := 0) hS rfl rfl hb) rfl rfl rfl<|lv (Jk (v := .bool false) rfl rfl)<|Jd<|Jc<|Zq rfl<|Qo<|Jc<|Ja<|ag (i6 (-1))<|Jd<|Jh<|?_
     obtain rfl := sj H28
     exact r1 (i6 (-1))
   ·refine Jc<|Ja<|mv (.int .i32 a1)<|?_
    obtain ⟨t185, h_t185, H30⟩ := Je H29; clear H29
    refine Qk (k196 h_t185) call196 rfl rfl rfl<|lv (Jb8 rfl)<|ag (.bool (!t185))<|Jd<|?_
    revert H30
    refine ci (!t185) rfl (fun hb H31=>?_) fun hb H32=>?_
    ·refine Jc<|Ja<|ag (i6 (-1))<|Jd<|Jh<|?_
     obtain rfl := sj H31
     exact r1 (i6 (-1))
    ·exact absurd (show (none : Option (Int)) = some r from H32) (fun h => by cases h)
theorem k170 {a0 : (List UInt8)} {a1 : Int} {r : Bool} (H : Jap a0 a1 = some r) : Ret prog 170 [str a0, .int .i32 a1] (.bool r) := by
 refine Qi (n := 9) func170 rfl rfl rfl (fun wd => ?_)
 refine Jc<|Ja<|ag (.bool false)<|Jd<|Jc<|Ja<|mv (str a0)<|mv (.int .i32 a1)<|?_
 obtain ⟨t7, h_t7, H2⟩ := Je H; clear H
 refine Qk (k188 h_t7) call188 rfl rfl rfl<|lv (Jhf rfl rfl)<|ag (.bool (decide (0 ≤ t7)))<|Jd<|Jh<|?_
 obtain rfl := sj H2
 exact r1 (.bool (decide (0 ≤ t7)))
theorem k135 {a0 : (List UInt8)} {a1 : (List UInt8)} {r : (List UInt8)} (H : Jbz a0 a1 = some r) : Ret prog 135 [str a0, str a1] (str r) := by
 refine Qi (n := 23) func135 rfl rfl rfl (fun wd => ?_)
 refine Jc<|Ja<|ag (str [])<|Jd<|Jc<|Jq<|?_
 refine Yq (σ := (List UInt8)) (τ := Unit) (fun next1 s => V3 a1 next1 s) (fun s t => [(0, str s), (1, str a1)]) (fun s t => []) (fun s t => True) a0 () [] H (by exact trivial) (by exact ⟨rfl, rfl, trivial⟩) (by decide) rfl ?_
 rintro x0_2 _ m1 gg H9 _
 clear H
 try dsimp only at H9
 generalize hn1 : it (fun next1 s => V3 a1 next1 s) m1 = next1 at H9
 try dsimp only
 refine Jc<|Jc<|Ja<|mv (str x0_2)<|lv (Q8 Tryz.underlying9 rfl)<|lv (Va rfl rfl)<|Jd<|?_
 revert H9
 refine ci (decide (0 < (x0_2.length : Int))) rfl (fun hb H10=>?_) fun hb H16=>?_
 ·refine Jj<|Jq<|Jc<|Ja<|mv (str x0_2)<|?_
  obtain ⟨t12, h_t12, H11⟩ := Je H10; clear H10
  refine Qk (k146 h_t12) call146 rfl rfl rfl<|mv (.tuple #[.int .i32 t12.1, i6 t12.2])<|lv (Jk (v := .int .i32 t12.1) rfl rfl)<|lv (Jk (v := i6 t12.2) rfl rfl)<|ag (.int .i32 t12.1)<|ag (i6 t12.2)<|Jd<|Jc<|Jc<|Ja<|mv (str a1)<|mv (.int .i32 t12.1)<|?_
  obtain ⟨t17, h_t17, H12⟩ := Je H11; clear H11
  refine Qk (k170 h_t17) call170 rfl rfl rfl<|lv (Jb8 rfl)<|Jd<|?_
  revert H12
  refine ci (!t17) rfl (fun hb H13=>?_) fun hb H14=>?_
  ·refine Qo<|Jc<|Ja<|mv (str x0_2)<|ag (str x0_2)<|Jd<|Jh<|?_
   obtain rfl := sj H13
   exact r1 (str x0_2)
  ·refine Jj<|Ja<|mv (str x0_2)<|mv (i6 t12.2)<|?_
   obtain ⟨t21, h_t21, H15⟩ := Je H14; clear H14
   refine lv (Wy Tryz.underlying9 rfl rfl h_t21)<|ag (str t21)<|Jd<|?_
   exact cl t21 () m1 [] (by exact ⟨(by subst hn1; exact H15), trivial⟩)
 ·refine Qo<|Jc<|Ja<|mv (str x0_2)<|ag (str x0_2)<|Jd<|Jh<|?_
  obtain rfl := sj H16
  exact r1 (str x0_2)
theorem k189 {a0 : Int} {r : Bool} (H : Jcl a0 = some r) : Ret prog 189 [.int .u8 a0] (.bool r) := by
 refine Qi (n := 6) func189 rfl rfl rfl (fun wd => ?_)
 refine Jc<|Ja<|ag (.bool false)<|Jd<|Jc<|Ja<|mv (.int .u8 a0)<|lv (r_bitsAnd (bits := 8) rfl rfl rfl (wr_u8 _))<|lv (Zm rfl rfl)<|ag (.bool (decide ((wU8 (bAnd 8 a0 192)) ≠ 128)))<|Jd<|Jh<|?_
 obtain rfl := sj H
 exact r1 (.bool (decide ((wU8 (bAnd 8 a0 192)) ≠ 128)))
theorem k171 {a0 : (List UInt8)} {r : Int × Int} (H : Vr a0 = some r) : Ret prog 171 [str a0] (.tuple #[.int .i32 r.1, i6 r.2]) := by
 refine Qi (n := 51) func171 rfl rfl rfl (fun wd => ?_)
 refine Jc<|Ja<|ag (.int .i32 0)<|ag (i6 0)<|Jd<|Jc<|Ja<|mv (str a0)<|lv (Q8 Tryz.underlying9 rfl)<|ag (i6 (a0.length : Int))<|Jd<|Jc<|Jc<|Ja<|mv (i6 (a0.length : Int))<|lv (Qg rfl rfl)<|Jd<|?_
 revert H
 refine ci (decide ((a0.length : Int) = 0)) rfl (fun hb H27=>?_) fun hb H28=>?_
 ·refine Jc<|Ja<|ag (.int .i32 65533)<|ag (i6 0)<|Jd<|Jh<|?_
  obtain rfl := sj H27
  refine Jba (v1 := .int .i32 65533) (v2 := i6 0) rfl rfl rfl (fin rfl)
 ·refine Jj<|Jc<|Ja<|mv (i6 (a0.length : Int))<|?_
  obtain ⟨t12, h_t12, H29⟩ := Je H28; clear H28
  refine lv (Zb rfl rfl h_t12)<|ag (i6 t12)<|Jd<|Jc<|Ja<|mv (str a0)<|mv (i6 t12)<|?_
  obtain ⟨t15, h_t15, H30⟩ := Je H29; clear H29
  refine lv (Zz Tryz.underlying9 rfl rfl h_t15) ?_
  obtain ⟨t16, h_t16, H31⟩ := Je H30; clear H30
  refine lv (Jdm Tryz.runUnderlying5 Tryz.runUnderlying21 rfl (gK_i32 h_t16))<|ag (.int .i32 t16)<|Jd<|Jc<|Jc<|Ja<|mv (.int .i32 t16)<|lv (Yh rfl rfl)<|Jd<|?_
  revert H31
  refine ci (decide (t16 < 128)) rfl (fun hb H32=>?_) fun hb H33=>?_
  ·refine Jc<|Ja<|mv (.int .i32 t16)<|ag (.int .i32 t16)<|ag (i6 1)<|Jd<|Jh<|?_
   obtain rfl := sj H32
   refine Jba (v1 := .int .i32 t16) (v2 := i6 1) rfl rfl rfl (fin rfl)
  ·refine Jj<|Jc<|Ja<|mv (i6 (a0.length : Int))<|?_
   obtain ⟨t21, h_t21, H34⟩ := Je H33; clear H33
   refine lv (Zb rfl rfl h_t21)<|lv (r_max rfl rfl)<|ag (i6 (max t21 0))<|Jd<|?_
   refine Qm (r := r) (σ := Int) (τ := Unit) (fun s => Yg a0 s) (fun s t => [(0, str a0), (4, i6 (a0.length : Int)), (5, i6 s)]) (fun s t => []) (fun s t => True) ?_ ?_
   ·refine Jc<|Ja<|mv (i6 t12)<|?_
    obtain ⟨t24, h_t24, H44⟩ := Je H34; clear H34
    refine lv (Zb rfl rfl h_t24)<|ag (i6 t24)<|Jd<|Jq<|?_
    refine Yq (σ := Int) (τ := Unit) (fun next3 s => Yj a0 t21 next3 s) (fun s t => [(0, str a0), (4, i6 (a0.length : Int)), (5, i6 s), (6, i6 (max t21 0))]) (fun s t => []) (fun s t => True) t24 () [] H44 (by exact trivial) (by exact ⟨rfl, rfl, rfl, rfl, trivial⟩) (by decide) rfl ?_
    rintro x5_4 _ m3 gg H45 _
    clear H44
    try dsimp only at H45
    generalize hn3 : it (fun next3 s => Yj a0 t21 next3 s) m3 = next3 at H45
    try dsimp only
    refine Jc<|Jc<|Ja<|mv (i6 x5_4)<|mv (i6 (max t21 0))<|lv (Jhf rfl rfl)<|Jd<|?_
    revert H45
    refine ci (decide ((max t21 0) ≤ x5_4)) rfl (fun hb H46=>?_) fun hb H52=>?_
    ·refine Jj<|Jc<|Jq<|Jc<|Ja<|mv (str a0)<|mv (i6 x5_4)<|?_
     obtain ⟨t32, h_t32, H47⟩ := Je H46; clear H46
     refine lv (Zz Tryz.underlying9 rfl rfl h_t32) ?_
     obtain ⟨t33, h_t33, H48⟩ := Je H47; clear H47
     refine Qk (k189 h_t33) call189 rfl rfl rfl<|Jd<|?_
     revert H48
     refine ci t33 rfl (fun hb H49=>?_) fun hb H50=>?_
     ·refine Qo ?_
      exact cl x5_4 () 0 [] (by exact ⟨H49, trivial⟩)
     ·refine Jj<|Ja<|mv (i6 x5_4)<|?_
      obtain ⟨t29, h_t29, H51⟩ := Je H50; clear H50
      refine lv (Zb rfl rfl h_t29)<|ag (i6 t29)<|Jd<|?_
      exact cl t29 () m3 [] (by exact ⟨(by subst hn3; exact H51), trivial⟩)
    ·refine Qo ?_
     exact cl x5_4 () 0 [] (by exact ⟨H52, trivial⟩)
   ·rintro x5 _ gg H35 _
    try dsimp only at H35
    try dsimp only
    refine Qm (r := r) (σ := Int) (τ := Unit) (fun s => Ye a0 s) (fun s t => [(0, str a0), (4, i6 (a0.length : Int)), (5, i6 s)]) (fun s t => []) (fun s t => True) ?_ ?_
    ·refine Jc<|Ja<|mv (i6 x5)<|lv (Yh rfl rfl)<|Jd<|?_
     revert H35
     refine ci (decide (x5 < 0)) rfl (fun hb H42=>?_) fun hb H43=>?_
     ·refine Ja<|ag (i6 0)<|Jd<|?_
      exact cl 0 () 0 [] (by exact ⟨H42, trivial⟩)
     ·refine Jj ?_
      exact cl x5 () 0 [] (by exact ⟨H43, trivial⟩)
    ·rintro x5_2 _ gg H36 _
     try dsimp only at H36
     try dsimp only
     refine Jc<|Ja<|mv (str a0)<|mv (i6 x5_2)<|mv (i6 (a0.length : Int))<|?_
     obtain ⟨t40, h_t40, H37⟩ := Je H36; clear H36
     refine lv (r_cutTG Tryz.underlying9 rfl rfl rfl h_t40) ?_
     obtain ⟨t41, h_t41, H38⟩ := Je H37; clear H37
     refine Qk (k146 h_t41) call146 rfl rfl rfl<|mv (.tuple #[.int .i32 t41.1, i6 t41.2])<|lv (Jk (v := .int .i32 t41.1) rfl rfl)<|lv (Jk (v := i6 t41.2) rfl rfl)<|ag (.int .i32 t41.1)<|ag (i6 t41.2)<|Jd<|Jc<|Jc<|Ja<|mv (i6 x5_2)<|mv (i6 t41.2)<|?_
     obtain ⟨t46, h_t46, H39⟩ := Je H38; clear H38
     refine lv (J8 rfl rfl h_t46)<|mv (i6 (a0.length : Int))<|lv (Zm rfl rfl)<|Jd<|?_
     revert H39
     refine ci (decide (t46 ≠ (a0.length : Int))) rfl (fun hb H40=>?_) fun hb H41=>?_
     ·refine Jc<|Ja<|ag (.int .i32 65533)<|ag (i6 1)<|Jd<|Jh<|?_
      obtain rfl := sj H40
      refine Jba (v1 := .int .i32 65533) (v2 := i6 1) rfl rfl rfl (fin rfl)
     ·refine Jj<|Jc<|Ja<|mv (.int .i32 t41.1)<|mv (i6 t41.2)<|ag (.int .i32 t41.1)<|ag (i6 t41.2)<|Jd<|Jh<|?_
      obtain rfl := sj H41
      refine Jba (v1 := .int .i32 t41.1) (v2 := i6 t41.2) rfl rfl rfl (fin rfl)
theorem k136 {a0 : (List UInt8)} {a1 : (List UInt8)} {r : (List UInt8)} (H : Jbi a0 a1 = some r) : Ret prog 136 [str a0, str a1] (str r) := by
 refine Qi (n := 34) func136 rfl rfl rfl (fun wd => ?_)
 refine Jc<|Ja<|ag (str [])<|Jd<|Jc<|Jq<|?_
 refine Yq (σ := (List UInt8)) (τ := Unit) (fun next1 s => Vm a1 next1 s) (fun s t => [(0, str s), (1, str a1)]) (fun s t => []) (fun s t => True) a0 () [] H (by exact trivial) (by exact ⟨rfl, rfl, trivial⟩) (by decide) rfl ?_
 rintro x0_2 _ m1 gg H16 _
 clear H
 try dsimp only at H16
 generalize hn1 : it (fun next1 s => Vm a1 next1 s) m1 = next1 at H16
 try dsimp only
 refine Jc<|Jc<|Ja<|mv (str x0_2)<|lv (Q8 Tryz.underlying9 rfl)<|lv (Va rfl rfl)<|Jd<|?_
 revert H16
 refine ci (decide (0 < (x0_2.length : Int))) rfl (fun hb H17=>?_) fun hb H30=>?_
 ·refine Jj<|Jq<|Jc<|Ja<|mv (str x0_2)<|mv (str x0_2)<|lv (Q8 Tryz.underlying9 rfl)<|?_
  obtain ⟨t13, h_t13, H18⟩ := Je H17; clear H17
  refine lv (Zb rfl rfl h_t13) ?_
  obtain ⟨t14, h_t14, H19⟩ := Je H18; clear H18
  refine lv (Zz Tryz.underlying9 rfl rfl h_t14) ?_
  obtain ⟨t15, h_t15, H20⟩ := Je H19; clear H19
  refine lv (Jdm Tryz.runUnderlying5 Tryz.runUnderlying21 rfl (gK_i32 h_t15))<|ag (.int .i32 t15)<|ag (i6 1)<|Jd<|?_
  refine Qm (r := r) (σ := Int × Int) (τ := Unit) (fun s => Vj a1 x0_2 next1 s.1 s.2) (fun s t => [(0, str x0_2), (1, str a1), (5, .int .i32 s.1), (6, i6 s.2)]) (fun s t => []) (fun s t => True) ?_ ?_
  ·refine Jc<|Ja<|mv (.int .i32 t15)<|lv (Jhf rfl rfl)<|Jd<|?_
   revert H20
   refine ci (decide (128 ≤ t15)) rfl (fun hb H27=>?_) fun hb H29=>?_
   ·refine Ja<|mv (str x0_2)<|?_
    obtain ⟨t20, h_t20, H28⟩ := Je H27; clear H27
    refine Qk (k171 h_t20) call171 rfl rfl rfl<|mv (.tuple #[.int .i32 t20.1, i6 t20.2])<|lv (Jk (v := .int .i32 t20.1) rfl rfl)<|lv (Jk (v := i6 t20.2) rfl rfl)<|ag (.int .i32 t20.1)<|ag (i6 t20.2)<|Jd<|?_
    exact cl (t20.1, t20.2) () 0 [] (by exact ⟨H28, trivial⟩)
   ·refine Jj ?_
    exact cl (t15, 1) () 0 [] (by exact ⟨H29, trivial⟩)
  ·rintro ⟨x5, x6⟩ _ gg H21 _
   try dsimp only at H21
   try dsimp only
   refine Jc<|Jc<|Ja<|mv (str a1)<|mv (.int .i32 x5)<|?_
   obtain ⟨t25, h_t25, H22⟩ := Je H21; clear H21
   refine Qk (k170 h_t25) call170 rfl rfl rfl<|lv (Jb8 rfl)<|Jd<|?_
   revert H22
   refine ci (!t25) rfl (fun hb H23=>?_) fun hb H24=>?_
   ·refine Qo<|Jc<|Ja<|mv (str x0_2)<|ag (str x0_2)<|Jd<|Jh<|?_
    obtain rfl := sj H23
    exact r1 (str x0_2)
   ·refine Jj<|Ja<|mv (str x0_2)<|mv (str x0_2)<|lv (Q8 Tryz.underlying9 rfl)<|mv (i6 x6)<|?_
    obtain ⟨t31, h_t31, H25⟩ := Je H24; clear H24
    refine lv (Zb rfl rfl h_t31) ?_
    obtain ⟨t32, h_t32, H26⟩ := Je H25; clear H25
    refine lv (Jbg Tryz.underlying9 rfl rfl h_t32)<|ag (str t32)<|Jd<|?_
    exact cl t32 () m1 [] (by exact ⟨(by subst hn1; exact H26), trivial⟩)
 ·refine Qo<|Jc<|Ja<|mv (str x0_2)<|ag (str x0_2)<|Jd<|Jh<|?_
  obtain rfl := sj H30
  exact r1 (str x0_2)
theorem k89 {a0 : (List UInt8)} {a1 : (List UInt8)} {r : (List UInt8)} (H : Jcc a0 a1 = some r) : Ret prog 89 [str a0, str a1] (str r) := by
 refine Qi (n := 43) func89 rfl rfl rfl (fun wd => ?_)
 refine Jc<|Ja<|ag (str [])<|Jd<|Jc<|Jc<|Ja<|mv (str a0)<|lv (Ud rfl rfl)<|mv (.bool (decide (a0 = [])))<|?_
 revert H
 refine sp (fun hb H22=>?_) fun hb H23=>?_
 ·refine pa<|pa<|pT (.bool true)<|Jd<|Y4 rfl<|Jc<|Ja<|mv (str a0)<|ag (str a0)<|Jd<|Jh<|?_
  obtain rfl := sj H22
  exact r1 (str a0)
 ·refine mv (str a1)<|lv (Ud rfl rfl)<|pF (.bool (decide (a1 = [])))<|Jd<|?_
  revert H23
  refine ci (decide (a1 = [])) rfl (fun hb H24=>?_) fun hb H25=>?_
  ·refine Jc<|Ja<|mv (str a0)<|ag (str a0)<|Jd<|Jh<|?_
   obtain rfl := sj H24
   exact r1 (str a0)
  ·refine Jj ?_
   refine Qm (r := r) (σ := Unit) (τ := Unit) (fun s => Jbj a0 a1) (fun s t => [(0, str a0), (1, str a1)]) (fun s t => []) (fun s t => True) ?_ ?_
   ·refine Jc<|Ja<|mv (str a1)<|lv (Q8 Tryz.underlying9 rfl)<|lv (Qg rfl rfl)<|mv (.bool (decide ((a1.length : Int) = 1)))<|?_
    revert H25
    refine sp (fun hb H34=>?_) fun hb H42=>?_
    ·refine mv (str a1) ?_
     obtain ⟨t19, h_t19, H35⟩ := Je H34; clear H34
     refine lv (Zz Tryz.underlying9 rfl rfl h_t19)<|lv (Yh rfl rfl)<|pT (.bool (decide (t19 < 128)))<|Jd<|?_
     revert H35
     refine ci (decide (t19 < 128)) rfl (fun hb H36=>?_) fun hb H41=>?_
     ·refine Jc ?_
      exact Q1 (Kd.p :: Kd.p :: Kd.p :: Kd.d [] _ :: Kd.p :: Kd.p :: Kd.d [] _ :: Kd.p :: []) 0 mixed (by
       refine dm (str a0)<|dm (str a1)<|?_
       have h_t24 := Qc H36
       have H37 := J2 H36
       refine dv (Zz Tryz.underlying9 rfl rfl h_t24) ?_
       have h_t25 := Qc H37
       have H38 := J2 H37
       refine Jg7 (k131 h_t25) call131 rfl rfl<|dm (str a1)<|?_
       have h_t27 := Qc H38
       have H39 := J2 H38
       refine dv (Zz Tryz.underlying9 rfl rfl h_t27) ?_
       have h_t28 := Qc H39
       have H40 := J2 H39
       refine Jg7 (k130 h_t28) call130 rfl rfl<|Qy rfl rfl (Jr (v := str (val (We (val (V7 a0 (val (Zp a1 0)))) (val (Zp a1 0))))) rfl)<|Vz<|Jh<|?_
       obtain rfl := sj H40
       exact r1 (str (val (We (val (V7 a0 (val (Zp a1 0)))) (val (Zp a1 0)))))
       ) (by kernel_rfl)
     ·refine Jj ?_
      exact cl () () 0 [] (by exact ⟨H41, trivial⟩)
    ·refine pa<|pa<|pa<|pF (.bool false)<|Jd<|Zq rfl<|Jj<|?_
     exact cl () () 0 [] (by exact ⟨H42, trivial⟩)
   ·rintro _ _ gg H26 _
    try dsimp only at H26
    try dsimp only
    refine Jc<|Jc<|Ja<|mv (str a1)<|?_
    obtain ⟨t31, h_t31, H27⟩ := Je H26; clear H26
    refine Qk (k132 h_t31) call132 rfl rfl rfl<|mv (.tuple #[.agg (List.toArray (U2 256 (fun j_ => [.bool (t31.1 j_)]))), .bool t31.2])<|lv (Jk (v := .agg (List.toArray (U2 256 (fun j_ => [.bool (t31.1 j_)])))) rfl rfl)<|lv (Jk (v := .bool t31.2) rfl rfl)<|?_
    refine Q2 (cs := (U2 256 (fun j_ => [.bool ((fun _ => false) j_)]))) zeroValue177 (by kernel_rfl) rfl rfl (fun b1 => ?_)
    refine Xl (i := 0) (vs := (U2 256 (fun j_ => [.bool (t31.1 j_)]))) (cs' := (U2 256 (fun j_ => [.bool (t31.1 j_)]))) sizeOf177 rfl rfl rfl rfl (Uf (fun _ => rfl)) rfl (Jjf (fun _ => rfl)) rfl (Jj5 ((Uf (fun _ => rfl)).trans (Uf (fun _ => rfl)).symm))<|ag (.bool t31.2)<|Jd<|Jc<|Ja<|mv (.bool t31.2)<|Jd<|?_
    revert H27
    refine ci (t31.2) rfl (fun hb H28=>?_) fun hb H31=>?_
    ·refine Jc<|Ja<|mv (str a0)<|?_
     obtain ⟨t36, h_t36, H29⟩ := Je H28; clear H28
     refine J7 (Jw (i := 0) (rds := []) (G := fun x : Unit => str t36.1) (C := fun x : Unit => Ji b1 (U2 256 (fun j_ => [.bool (t36.2 j_)])) 177) rfl (fun w L' S hF hS hi hp hlt ho hA => k134 hp hlt (Qe w S)  h_t36) call134 rfl) rfl rfl rfl (fun _ => ?_)
     obtain ⟨t37, h_t37, H30⟩ := Je H29; clear H29
     refine J7 (Jw (i := 0) (rds := []) (G := fun x : Unit => str t37.1) (C := fun x : Unit => Ji b1 (U2 256 (fun j_ => [.bool (t37.2 j_)])) 177) rfl (fun w L' S hF hS hi hp hlt ho hA => k133 hp hlt (Qe w S)  h_t37) call133 rfl) rfl rfl rfl (fun _ => ?_)
     refine ag (str t37.1)<|Jd<|Jh<|?_
     obtain rfl := sj H30
     exact r1 (str t37.1)
    ·refine Jj<|Jc<|Ja<|mv (str a0)<|mv (str a1)<|?_
     obtain ⟨t40, h_t40, H32⟩ := Je H31; clear H31
     refine Qk (k136 h_t40) call136 rfl rfl rfl<|mv (str a1)<|?_
     obtain ⟨t42, h_t42, H33⟩ := Je H32; clear H32
     refine Qk (k135 h_t42) call135 rfl rfl rfl<|ag (str t42)<|Jd<|Jh<|?_
     obtain rfl := sj H33
     exact r1 (str t42)
theorem k90 {a0 : (List UInt8)} {r : Int} (H : gAtoi a0 = some r) : Ret prog 90 [str a0] (.tuple #[i6 r, .nilIface]) :=
  atoi_ret (ρ := Go.Proofs.Tryz.lays172_ren) Go.Proofs.Tryz.lays172 H
theorem k48 {a0 : (List UInt8)} {a1 : Bool} {r : Int × Bool} {w : World} {h : Js} (hw : Know h w Zk) (tb_pow10 : TabH prog h "internal/strconv.uint64pow10" .u64 Lib.pow10Tab) (H : Xy a0 a1 = some r) : Does prog 48 (List.toArray [str a0, .bool a1]) w (fun v w' => v = (.tuple #[i6 r.1, .bool r.2]) ∧ Grow w w') := by
 refine enter (n := 39) func48 rfl rfl rfl Zk [] (Sat.nil _ _)<|Jc<|Ja<|ag (i6 0)<|ag (.bool false)<|Jd<|Jc<|Ja<|mv (str a0)<|ag (str a0)<|Jd<|?_
 refine Qm (r := r) (σ := (List UInt8)) (τ := Unit) (fun s => Y5 a0 s) (fun s t => [(0, str a0), (6, str s)]) (fun s t => []) (fun s t => True) ?_ ?_
 ·refine Jc<|Ja<|mv (.bool a1)<|Jd<|?_
  revert H
  refine ci a1 rfl (fun hb H24=>?_) fun hb H26=>?_
  ·refine Ja<|mv (str a0)<|?_
   obtain ⟨t12, h_t12, H25⟩ := Je H24; clear H24
   refine Qk (k88 h_t12) call88 rfl rfl rfl<|ag (str t12)<|Jd<|?_
   exact cl t12 () 0 [] (by exact ⟨H25, trivial⟩)
  ·refine Jj ?_
   exact cl a0 () 0 [] (by exact ⟨H26, trivial⟩)
 ·rintro x6 _ gg H14 _
  try dsimp only at H14
  try dsimp only
  refine Jc<|Jc<|Ja<|mv (str x6)<|lv (Ud rfl rfl)<|mv (.bool (decide (x6 = [])))<|?_
  revert H14
  refine sp (fun hb H15=>?_) fun hb H16=>?_
  ·refine pa<|pa<|pa<|pT (.bool true)<|mv (.bool true)<|pa<|pa<|pa<|pT (.bool true)<|Jd<|Y4 rfl<|Jc<|Ja<|ag (i6 0)<|ag (.bool false)<|Jd<|Jh<|?_
   obtain rfl := sj H15
   refine Jba (v1 := i6 0) (v2 := .bool false) rfl rfl rfl (fin rfl)
  ·refine mv (str x6)<|lv (Q8 Tryz.underlying9 rfl)<|lv (Va rfl rfl)<|pF (.bool (decide (10 < (x6.length : Int))))<|mv (.bool (decide (10 < (x6.length : Int))))<|?_
   revert H16
   refine sp (fun hb H17=>?_) fun hb H18=>?_
   ·refine pa<|pa<|pa<|pT (.bool true)<|Jd<|Y4 rfl<|Jc<|Ja<|ag (i6 0)<|ag (.bool false)<|Jd<|Jh<|?_
    obtain rfl := sj H17
    refine Jba (v1 := i6 0) (v2 := .bool false) rfl rfl rfl (fin rfl)
   ·refine mv (str x6) ?_
    obtain ⟨t22, h_t22, H19⟩ := Je H18; clear H18
    refine Qk (k89 h_t22) call89 rfl rfl rfl<|lv (Jfc rfl rfl)<|pF (.bool (decide (t22 ≠ [])))<|Jd<|?_
    revert H19
    refine ci (decide (t22 ≠ [])) rfl (fun hb H20=>?_) fun hb H21=>?_
    ·refine Jc<|Ja<|ag (i6 0)<|ag (.bool false)<|Jd<|Jh<|?_
     obtain rfl := sj H20
     refine Jba (v1 := i6 0) (v2 := .bool false) rfl rfl rfl (fin rfl)
    ·refine Jj<|Jc<|Ja<|mv (str a0)<|?_
     obtain ⟨t27, h_t27, H22⟩ := Je H21; clear H21
     refine Qk (k90 h_t27) call90 rfl rfl rfl<|mv (.tuple #[i6 t27, .nilIface])<|lv (Jk (v := i6 t27) rfl rfl)<|lv (Jk (v := .nilIface) rfl rfl)<|ag (i6 t27)<|ag (.nilIface)<|Jd<|Jc<|Ja<|mv (i6 t27)<|mv (.nilIface)<|lv (r_eqlErr rfl (by intro w; kernel_rfl))<|mv (.bool true)<|mv (i6 t27)<|?_
     obtain ⟨t35, h_t35, H23⟩ := Je H22; clear H22
     refine Qb (fun w hF hS => k41 (Jm w) (tb_pow10.mono (hw.now hF)) h_t35) call41 rfl rfl rfl<|mv (str a0)<|lv (Ud rfl rfl)<|pT (.bool (decide (t35 = a0)))<|ag (i6 t27)<|ag (.bool (decide (t35 = a0)))<|Jd<|Jh<|?_
     obtain rfl := sj H23
     refine Jba (v1 := i6 t27) (v2 := .bool (decide (t35 = a0))) rfl rfl rfl (fin rfl)
theorem k145 {a0 : (List UInt8)} {r : Int} (H : Zu a0 = some r) : Ret prog 145 [str a0] (i6 r) := by
 refine Qi (n := 10) func145 rfl rfl rfl (fun wd => ?_)
 refine Jc<|Ja<|ag (i6 0)<|Jd<|Jc<|Jc<|Ja<|mv (str a0)<|?_
 refine Yi (rds := []) (Jiy (s := a0) Tryz.underlying9 rfl) rfl rfl rfl (fun b1 => ?_)
 refine Jd<|Jq<|?_
 refine Yq (σ := Int × Nat) (τ := Unit) (fun next1 s => Y9 a0 next1 s.1 s.2) (fun s t => [(2, i6 s.1), (4, pz b1)]) (fun s t => [iterC b1 a0 s.2]) (fun s t => True) (0, 0) () [0] H (by exact trivial) (by exact ⟨rfl, rfl, trivial⟩) (by decide) rfl ?_
 rintro ⟨x2_2, k_2⟩ _ m1 gg H6 _
 clear H
 try dsimp only at H6
 generalize hn1 : it (fun next1 s => Y9 a0 next1 s.1 s.2) m1 = next1 at H6
 try dsimp only
 refine Jc<|Ja<|?_
 refine caseB (decide (k_2 < a0.length)) (fun hb => ?_) (fun hb => ?_)
 ·have H7 := Un hb H6; clear H6
  obtain ⟨t5, h_t5, H8⟩ := Je H7; clear H7
  refine J7 (Jj1 (i := 0) (rds := []) rfl rfl h_t5) rfl rfl rfl (fun _ => ?_)
  refine lv (Jk (v := .bool true) rfl rfl)<|Jd<|Jc<|Y4 rfl<|Jj<|Jq<|Ja<|mv (i6 x2_2)<|?_
  obtain ⟨t8, h_t8, H9⟩ := Je H8; clear H8
  refine lv (J8 rfl rfl h_t8)<|ag (i6 t8)<|Jd<|?_
  exact cl (t8, (k_2 + 1)) () m1 [0] (by exact ⟨(by subst hn1; exact H9), trivial⟩)
 ·have H10 := W4 hb H6; clear H6
  refine Q7 (fun w hF hS => Jjo (i := 0) hS rfl rfl hb) rfl rfl rfl<|lv (Jk (v := .bool false) rfl rfl)<|Jd<|Jc<|Zq rfl<|Qo<|Jc<|Ja<|mv (i6 x2_2)<|ag (i6 x2_2)<|Jd<|Jh<|?_
  obtain rfl := sj H10
  exact r1 (i6 x2_2)
theorem k95 {a0 : (List UInt8)} {a1 : Int} {r : (List (List UInt8))} {w : World} {h : Js} (hw : Know h w Zk) (H : Jfx a0 a1 = some r) : Does prog 95 (List.toArray [str a0, i6 a1]) w (fun v w' => ∃ x : AN, v = (sl x r.length) ∧ Turn w w' Zk (Ju 9 1 (sl x r.length) r.length (r.map Xj))) := by
 refine enter (n := 50) func95 rfl rfl rfl Zk [] (Sat.nil _ _)<|Jc<|Ja<|ag (z0s)<|Jd<|Jc<|Ja<|mv (str a0)<|?_
 obtain ⟨t11, h_t11, H24⟩ := Je H; clear H
 refine Qk (k145 h_t11) call145 rfl rfl rfl<|ag (i6 t11)<|Jd<|?_
 refine Qm (r := r) (σ := Int) (τ := Unit) (fun s => Uy a0 s) (fun s t => [(0, str a0), (1, i6 s)]) (fun s t => []) (fun s t => True) ?_ ?_
 ·refine Jc<|Ja<|mv (i6 a1)<|lv (Yh rfl rfl)<|mv (.bool (decide (a1 < 0)))<|?_
  revert H24
  refine sp (fun hb H43=>?_) fun hb H44=>?_
  ·refine pa<|pa<|pa<|pT (.bool true)<|Jd<|Y4 rfl<|Ja<|mv (i6 t11)<|ag (i6 t11)<|Jd<|?_
   exact cl t11 () 0 [] (by exact ⟨H43, trivial⟩)
  ·refine mv (i6 a1)<|mv (i6 t11)<|lv (Va rfl rfl)<|pF (.bool (decide (t11 < a1)))<|Jd<|?_
   revert H44
   refine ci (decide (t11 < a1)) rfl (fun hb H45=>?_) fun hb H46=>?_
   ·refine Ja<|mv (i6 t11)<|ag (i6 t11)<|Jd<|?_
    exact cl t11 () 0 [] (by exact ⟨H45, trivial⟩)
   ·refine Jj ?_
    exact cl a1 () 0 [] (by exact ⟨H46, trivial⟩)
 ·rintro x1 _ gg H25 _
  try dsimp only at H25
  try dsimp only
  refine Jc<|Ja<|mv (i6 x1)<|?_
  obtain ⟨t21, h_t21, H26⟩ := Je H25; clear H25
  refine Yi (rds := []) (Jgd (E := 9) (sz := 1) (f := Xj) (xs := t21) Tryz.underlying31 (Qn typeInfo9) rfl rfl rfl rfl rfl rfl ⟨rfl, rfl⟩ h_t21) rfl rfl rfl (fun p => ?_)
  refine ag (sl p t21.length)<|Jd<|?_
  refine Qm (r := r) (σ := (List UInt8) × (List (List UInt8))) (τ := Unit) (fun s => Jdz x1 s.1 s.2) (fun s t => [(0, str s.1), (1, i6 x1), (6, sl p t21.length)]) (fun s t => [Ju 9 1 (sl p t21.length) t21.length (s.2.map Xj)]) (fun s t => t21.length = s.2.length) ?_ ?_
  ·refine Jc<|Ja<|ag (i6 0)<|Jd<|Jq<|?_
   refine Yq (σ := (List UInt8) × Int × (List (List UInt8))) (τ := Unit) (fun next3 s => Jbw x1 next3 s.1 s.2.1 s.2.2) (fun s t => [(0, str s.1), (1, i6 x1), (6, sl p t21.length), (7, i6 s.2.1)]) (fun s t => [Ju 9 1 (sl p t21.length) t21.length (s.2.2.map Xj)]) (fun s t => t21.length = s.2.2.length) (a0, 0, t21) () [0] H26 (by exact rfl) (by exact ⟨rfl, rfl, rfl, rfl, trivial⟩) (by decide) rfl ?_
   rintro ⟨x0_3, x7_2, l_3⟩ _ m3 gg H33 hl_3
   clear H26
   try dsimp only at H33
   generalize hn3 : it (fun next3 s => Jbw x1 next3 s.1 s.2.1 s.2.2) m3 = next3 at H33
   try dsimp only
   refine Jc<|Jc<|Ja<|mv (i6 x7_2)<|mv (i6 x1)<|?_
   obtain ⟨t24, h_t24, H34⟩ := Je H33; clear H33
   refine lv (Zb rfl rfl h_t24)<|lv (Yh rfl rfl)<|Jd<|?_
   revert H34
   refine ci (decide (x7_2 < t24)) rfl (fun hb H35=>?_) fun hb H42=>?_
   ·refine Jj<|Jc<|Jq<|Jc<|Ja<|mv (str x0_3)<|?_
    obtain ⟨t30, h_t30, H36⟩ := Je H35; clear H35
    refine Qk (k146 h_t30) call146 rfl rfl rfl<|mv (.tuple #[.int .i32 t30.1, i6 t30.2])<|lv (Jk (v := .int .i32 t30.1) rfl rfl)<|lv (Jk (v := i6 t30.2) rfl rfl)<|ag (.int .i32 t30.1)<|ag (i6 t30.2)<|Jd<|Jc<|Ja<|mv (sl p t21.length)<|mv (i6 x7_2)<|mv (str x0_3)<|mv (i6 t30.2)<|?_
    obtain ⟨t37, h_t37, H37⟩ := Je H36; clear H36
    refine lv (Jbg Tryz.underlying9 rfl rfl h_t37) ?_
    obtain ⟨t38, h_t38, H38⟩ := Je H37; clear H37
    refine Q7 (fun w hF hS => Xu Tryz.underlying31 Tryz.sizeOf9 rfl rfl (Yf (i := 0) hS rfl) hl_3 h_t38) rfl rfl rfl ?_
    obtain ⟨l0_2, h_l0_2, H39⟩ := Je H38; clear H38
    refine Jde (q := 0) (j := 0) (i := x7_2) (sz := 1) (hm := hl_3) (f := Xj) (vs := [str t37]) Tryz.sizeOf9 rfl rfl rfl rfl rfl rfl rfl rfl rfl (fun y_ hy_ => by first | rfl | (cases hy_.symm.trans h_t38; rfl)) h_l0_2<|Jd<|Ja<|mv (str x0_3)<|mv (i6 t30.2)<|?_
    obtain ⟨t41, h_t41, H40⟩ := Je H39; clear H39
    refine lv (Wy Tryz.underlying9 rfl rfl h_t41)<|ag (str t41)<|Jd<|Ja<|mv (i6 x7_2)<|?_
    obtain ⟨t27, h_t27, H41⟩ := Je H40; clear H40
    refine lv (J8 rfl rfl h_t27)<|ag (i6 t27)<|Jd<|?_
    exact cl (t41, t27, l0_2) () m3 [0] (by exact ⟨(by subst hn3; exact H41), (Jg6 hl_3 h_l0_2)⟩)
   ·refine Qo ?_
    exact cl (x0_3, l_3) () 0 [0] (by exact ⟨H42, hl_3⟩)
  ·rintro ⟨x0, l⟩ _ gg H27 hl
   try dsimp only at H27
   try dsimp only
   refine Jc<|Jc<|Ja<|mv (i6 x1)<|lv (Va rfl rfl)<|Jd<|?_
   revert H27
   refine ci (decide (0 < x1)) rfl (fun hb H28=>?_) fun hb H32=>?_
   ·refine Ja<|mv (sl p t21.length)<|mv (i6 x1)<|?_
    obtain ⟨t46, h_t46, H29⟩ := Je H28; clear H28
    refine lv (Zb rfl rfl h_t46)<|mv (str x0)<|?_
    obtain ⟨t48, h_t48, H30⟩ := Je H29; clear H29
    refine Q7 (fun w hF hS => Xu Tryz.underlying31 Tryz.sizeOf9 rfl rfl (Yf (i := 0) hS rfl) hl h_t48) rfl rfl rfl ?_
    obtain ⟨l0, h_l0, H31⟩ := Je H30; clear H30
    refine Jde (q := 0) (j := 0) (i := t46) (sz := 1) (hm := hl) (f := Xj) (vs := [str x0]) Tryz.sizeOf9 rfl rfl rfl rfl rfl rfl rfl rfl rfl (fun y_ hy_ => by first | rfl | (cases hy_.symm.trans h_t48; rfl)) h_l0<|Jd<|Jc<|Ja<|mv (sl p t21.length)<|ag (sl p t21.length)<|Jd<|Jh<|?_
    obtain rfl := sj H31
    refine Uh (v := sl p t21.length) rfl rfl (X5 p (i := 0) rfl (by first | rfl | rw [(show t21.length = l0.length from (Jg6 hl h_l0))]) (by first | exact Imp.refl _ | exact Imp.of (by rw [(show t21.length = l0.length from (Jg6 hl h_l0))] <;> rfl)))
   ·refine Jj<|Jc<|Ja<|mv (sl p t21.length)<|ag (sl p t21.length)<|Jd<|Jh<|?_
    obtain rfl := sj H32
    refine Uh (v := sl p t21.length) rfl rfl (X5 p (i := 0) rfl (by first | rfl | rw [(show t21.length = l.length from hl)]) (by first | exact Imp.refl _ | exact Imp.of (by rw [(show t21.length = l.length from hl)] <;> rfl)))
theorem k97 {a0 : (List UInt8)} {a1 : (List UInt8)} {r : Int} (H : Jbf a0 a1 = some r) : Ret prog 97 [str a0, str a1] (i6 r) := by
 refine Qi (n := 8) func97 rfl rfl rfl (fun wd => ?_)
 refine Jc<|Ja<|ag (i6 0)<|Jd<|Jc<|Ja<|mv (str a0)<|mv (str a1)<|?_
 obtain ⟨t7, h_t7, H2⟩ := Je H; clear H
 refine Qk (k86 h_t7) call86 rfl rfl rfl<|ag (i6 t7)<|Jd<|Jh<|?_
 obtain rfl := sj H2
 exact r1 (i6 t7)
theorem ext147 (s : List UInt8) (c r : Int) (h : gCnB s c = some r) (w : World) : (callFunc 147 (List.toArray [str s, .int .u8 c])).run prog w = .ok (.value (i6 r)) w := by
  have h0 : (callFunc 147 #[str s, .int .u8 c]).run prog w = (do pure (.value (← Extern.BytealgCount.count #[str s, .int .u8 c])) : Sem Next).run prog w := by kernel_rfl
  rw [h0]
  simp only [Sem.run_bind, Go.Lx.run_cnB h, Result.andThen_ok, Sem.run_pure]
theorem k96 {a0 : (List UInt8)} {a1 : (List UInt8)} {r : Int} (H : Jc0 a0 a1 = some r) : Ret prog 96 [str a0, str a1] (i6 r) := by
 refine Qi (n := 34) func96 rfl rfl rfl (fun wd => ?_)
 refine Jc<|Ja<|ag (i6 0)<|Jd<|Jc<|Jc<|Ja<|mv (str a1)<|lv (Q8 Tryz.underlying9 rfl)<|lv (Qg rfl rfl)<|Jd<|?_
 revert H
 refine ci (decide ((a1.length : Int) = 0)) rfl (fun hb H16=>?_) fun hb H19=>?_
 ·refine Jc<|Ja<|mv (str a0)<|?_
  obtain ⟨t11, h_t11, H17⟩ := Je H16; clear H16
  refine Qk (k145 h_t11) call145 rfl rfl rfl ?_
  obtain ⟨t12, h_t12, H18⟩ := Je H17; clear H17
  refine lv (J8 rfl rfl h_t12)<|ag (i6 t12)<|Jd<|Jh<|?_
  obtain rfl := sj H18
  exact r1 (i6 t12)
 ·refine Jj<|Jc<|Jc<|Ja<|mv (str a1)<|lv (Q8 Tryz.underlying9 rfl)<|lv (Qg rfl rfl)<|Jd<|?_
  revert H19
  refine ci (decide ((a1.length : Int) = 1)) rfl (fun hb H20=>?_) fun hb H23=>?_
  ·refine Jc<|Ja<|mv (str a0)<|mv (str a1)<|?_
   obtain ⟨t18, h_t18, H21⟩ := Je H20; clear H20
   refine lv (Zz Tryz.underlying9 rfl rfl h_t18) ?_
   obtain ⟨t19, h_t19, H22⟩ := Je H21; clear H21
   refine lv (r_ext (args := [str a0, .int .u8 t18]) (ext147 _ _ _ h_t19) rfl)<|ag (i6 t19)<|Jd<|Jh<|?_
   obtain rfl := sj H22
   exact r1 (i6 t19)
  ·refine Jj<|Jc<|Ja<|ag (i6 0)<|Jd<|Jq<|?_
   refine Yq (σ := (List UInt8) × Int) (τ := Unit) (fun next1 s => Jcx a1 next1 s.1 s.2) (fun s t => [(0, str s.1), (1, str a1), (5, i6 s.2)]) (fun s t => []) (fun s t => True) (a0, 0) () [] H23 (by exact trivial) (by exact ⟨rfl, rfl, rfl, trivial⟩) (by decide) rfl ?_
   rintro ⟨x0_2, x5_2⟩ _ m1 gg H24 _
   clear H23
   try dsimp only at H24
   generalize hn1 : it (fun next1 s => Jcx a1 next1 s.1 s.2) m1 = next1 at H24
   try dsimp only
   refine Jq<|Jc<|Ja<|mv (str x0_2)<|mv (str a1)<|?_
   obtain ⟨t22, h_t22, H25⟩ := Je H24; clear H24
   refine Qk (k97 h_t22) call97 rfl rfl rfl<|ag (i6 t22)<|Jd<|Jc<|Jc<|Ja<|mv (i6 t22)<|lv (Qg rfl rfl)<|Jd<|?_
   revert H25
   refine ci (decide (t22 = (-1))) rfl (fun hb H26=>?_) fun hb H27=>?_
   ·refine Jc<|Ja<|mv (i6 x5_2)<|ag (i6 x5_2)<|Jd<|Jh<|?_
    obtain rfl := sj H26
    exact r1 (i6 x5_2)
   ·refine Jj<|Jc<|Ja<|mv (i6 x5_2)<|?_
    obtain ⟨t27, h_t27, H28⟩ := Je H27; clear H27
    refine lv (J8 rfl rfl h_t27)<|ag (i6 t27)<|Jd<|Ja<|mv (str x0_2)<|mv (i6 t22)<|mv (str a1)<|lv (Q8 Tryz.underlying9 rfl)<|?_
    obtain ⟨t32, h_t32, H29⟩ := Je H28; clear H28
    refine lv (J8 rfl rfl h_t32) ?_
    obtain ⟨t33, h_t33, H30⟩ := Je H29; clear H29
    refine lv (Wy Tryz.underlying9 rfl rfl h_t33)<|ag (str t33)<|Jd<|?_
    exact cl (t33, t27) () m1 [] (by exact ⟨(by subst hn1; exact H30), trivial⟩)
theorem k51 {a0 : (List UInt8)} {a1 : (List UInt8)} {a2 : Int} {a3 : Int} {r : (List (List UInt8))} {w : World} {h : Js} (hw : Know h w Zk) (H : Ja3 a0 a1 a2 a3 = some r) : Does prog 51 (List.toArray [str a0, str a1, i6 a2, i6 a3]) w (fun v w' => ∃ x : AN, v = (sl x r.length) ∧ Turn w w' Zk (Ju 9 1 (sl x r.length) r.length (r.map Xj))) := by
 refine enter (n := 66) func51 rfl rfl rfl Zk [] (Sat.nil _ _)<|Jc<|Ja<|ag (z0s)<|Jd<|Jc<|Jc<|Ja<|mv (i6 a3)<|lv (Qg rfl rfl)<|Jd<|?_
 revert H
 refine ci (decide (a3 = 0)) rfl (fun hb H32=>?_) fun hb H33=>?_
 ·refine Jc<|Ja<|ag (z0s)<|Jd<|Jh<|J1 9 1<|?_
  obtain rfl := sj H32
  refine Uh (v := sl nn ([] : List (List UInt8)).length) rfl rfl (X5 nn (i := 0) rfl rfl (Imp.refl _))
 ·refine Jj<|Jc<|Jc<|Ja<|mv (str a1)<|lv (Ud rfl rfl)<|Jd<|?_
  revert H33
  refine ci (decide (a1 = [])) rfl (fun hb H34=>?_) fun hb H36=>?_
  ·refine Jc<|Ja<|mv (str a0)<|mv (i6 a3)<|?_
   obtain ⟨t18, h_t18, H35⟩ := Je H34; clear H34
   refine Yi (Qh (rds := []) (fun w L' hF hS hi => k95 (Jm w)  h_t18) call95 rfl) rfl rfl rfl (fun p => ?_)
   refine ag (sl p t18.length)<|Jd<|Jh<|?_
   obtain rfl := sj H35
   refine Uh (v := sl p t18.length) rfl rfl (X5 p (i := 0) rfl rfl (Imp.refl _))
  ·refine Jj ?_
   refine Qm (r := r) (σ := Int) (τ := Unit) (fun s => W6 a0 a1 a2 s) (fun s t => [(0, str a0), (1, str a1), (2, i6 a2), (3, i6 s)]) (fun s t => []) (fun s t => True) ?_ ?_
   ·refine Jc<|Ja<|mv (i6 a3)<|lv (Yh rfl rfl)<|Jd<|?_
    revert H36
    refine ci (decide (a3 < 0)) rfl (fun hb H59=>?_) fun hb H62=>?_
    ·refine Ja<|mv (str a0)<|mv (str a1)<|?_
     obtain ⟨t23, h_t23, H60⟩ := Je H59; clear H59
     refine Qk (k96 h_t23) call96 rfl rfl rfl ?_
     obtain ⟨t24, h_t24, H61⟩ := Je H60; clear H60
     refine lv (J8 rfl rfl h_t24)<|ag (i6 t24)<|Jd<|?_
     exact cl t24 () 0 [] (by exact ⟨H61, trivial⟩)
    ·refine Jj ?_
     exact cl a3 () 0 [] (by exact ⟨H62, trivial⟩)
   ·rintro x3 _ gg H37 _
    try dsimp only at H37
    try dsimp only
    refine Jc<|Ja<|mv (i6 x3)<|mv (str a0)<|lv (Q8 Tryz.underlying9 rfl)<|?_
    obtain ⟨t28, h_t28, H38⟩ := Je H37; clear H37
    refine lv (J8 rfl rfl h_t28)<|lv (r_min rfl rfl)<|ag (i6 (min x3 t28))<|Jd<|Jc<|Ja<|mv (i6 (min x3 t28))<|?_
    obtain ⟨t31, h_t31, H39⟩ := Je H38; clear H38
    refine Yi (rds := []) (Jgd (E := 9) (sz := 1) (f := Xj) (xs := t31) Tryz.underlying31 (Qn typeInfo9) rfl rfl rfl rfl rfl rfl ⟨rfl, rfl⟩ h_t31) rfl rfl rfl (fun p_2 => ?_)
    refine ag (sl p_2 t31.length)<|Jd<|Jc<|Ja<|mv (i6 (min x3 t28))<|?_
    obtain ⟨t33, h_t33, H40⟩ := Je H39; clear H39
    refine lv (Zb rfl rfl h_t33)<|ag (i6 t33)<|Jd<|Jc<|Ja<|ag (i6 0)<|Jd<|?_
    refine Qm (r := r) (σ := (List UInt8) × Int × (List (List UInt8))) (τ := Unit) (fun s => Vf s.1 s.2.1 s.2.2) (fun s t => [(0, str s.1), (9, sl p_2 t31.length), (10, i6 s.2.1)]) (fun s t => [Ju 9 1 (sl p_2 t31.length) t31.length (s.2.2.map Xj)]) (fun s t => t31.length = s.2.2.length) ?_ ?_
    ·refine Jq ?_
     refine Yq (σ := (List UInt8) × Int × (List (List UInt8))) (τ := Unit) (fun next3 s => Xe a1 a2 t33 next3 s.1 s.2.1 s.2.2) (fun s t => [(0, str s.1), (1, str a1), (2, i6 a2), (3, i6 t33), (9, sl p_2 t31.length), (10, i6 s.2.1)]) (fun s t => [Ju 9 1 (sl p_2 t31.length) t31.length (s.2.2.map Xj)]) (fun s t => t31.length = s.2.2.length) (a0, 0, t31) () [0] H40 (by exact rfl) (by exact ⟨rfl, rfl, rfl, rfl, rfl, rfl, trivial⟩) (by decide) rfl ?_
     rintro ⟨x0_3, x10_3, l_3⟩ _ m3 gg H46 hl_3
     clear H40
     try dsimp only at H46
     generalize hn3 : it (fun next3 s => Xe a1 a2 t33 next3 s.1 s.2.1 s.2.2) m3 = next3 at H46
     try dsimp only
     refine Jc<|Jc<|Ja<|mv (i6 x10_3)<|mv (i6 t33)<|lv (Yh rfl rfl)<|Jd<|?_
     revert H46
     refine ci (decide (x10_3 < t33)) rfl (fun hb H47=>?_) fun hb H58=>?_
     ·refine Jj<|Jq<|Jc<|Ja<|mv (str x0_3)<|mv (str a1)<|?_
      obtain ⟨t39, h_t39, H48⟩ := Je H47; clear H47
      refine Qk (k97 h_t39) call97 rfl rfl rfl<|ag (i6 t39)<|Jd<|Jc<|Jc<|Ja<|mv (i6 t39)<|lv (Yh rfl rfl)<|Jd<|?_
      revert H48
      refine ci (decide (t39 < 0)) rfl (fun hb H49=>?_) fun hb H50=>?_
      ·refine Qo ?_
       exact cl (x0_3, x10_3, l_3) () 0 [0] (by exact ⟨H49, hl_3⟩)
      ·refine Jj<|Jc<|Ja<|mv (sl p_2 t31.length)<|mv (i6 x10_3)<|mv (str x0_3)<|mv (i6 t39)<|mv (i6 a2)<|?_
       obtain ⟨t47, h_t47, H51⟩ := Je H50; clear H50
       refine lv (J8 rfl rfl h_t47) ?_
       obtain ⟨t48, h_t48, H52⟩ := Je H51; clear H51
       refine lv (Jbg Tryz.underlying9 rfl rfl h_t48) ?_
       obtain ⟨t49, h_t49, H53⟩ := Je H52; clear H52
       refine Q7 (fun w hF hS => Xu Tryz.underlying31 Tryz.sizeOf9 rfl rfl (Yf (i := 0) hS rfl) hl_3 h_t49) rfl rfl rfl ?_
       obtain ⟨l0_2, h_l0_2, H54⟩ := Je H53; clear H53
       refine Jde (q := 0) (j := 0) (i := x10_3) (sz := 1) (hm := hl_3) (f := Xj) (vs := [str t48]) Tryz.sizeOf9 rfl rfl rfl rfl rfl rfl rfl rfl rfl (fun y_ hy_ => by first | rfl | (cases hy_.symm.trans h_t49; rfl)) h_l0_2<|Jd<|Jc<|Ja<|mv (str x0_3)<|mv (i6 t39)<|mv (str a1)<|lv (Q8 Tryz.underlying9 rfl)<|?_
       obtain ⟨t54, h_t54, H55⟩ := Je H54; clear H54
       refine lv (J8 rfl rfl h_t54) ?_
       obtain ⟨t55, h_t55, H56⟩ := Je H55; clear H55
       refine lv (Wy Tryz.underlying9 rfl rfl h_t55)<|ag (str t55)<|Jd<|Ja<|mv (i6 x10_3)<|?_
       obtain ⟨t57, h_t57, H57⟩ := Je H56; clear H56
       refine lv (J8 rfl rfl h_t57)<|ag (i6 t57)<|Jd<|?_
       exact cl (t55, t57, l0_2) () m3 [0] (by exact ⟨(by subst hn3; exact H57), (Jg6 hl_3 h_l0_2)⟩)
     ·refine Qo ?_
      exact cl (x0_3, x10_3, l_3) () 0 [0] (by exact ⟨H58, hl_3⟩)
    ·rintro ⟨x0, x10, l⟩ _ gg H41 hl
     try dsimp only at H41
     try dsimp only
     refine Jc<|Ja<|mv (sl p_2 t31.length)<|mv (i6 x10)<|mv (str x0)<|?_
     obtain ⟨t61, h_t61, H42⟩ := Je H41; clear H41
     refine Q7 (fun w hF hS => Xu Tryz.underlying31 Tryz.sizeOf9 rfl rfl (Yf (i := 0) hS rfl) hl h_t61) rfl rfl rfl ?_
     obtain ⟨l0, h_l0, H43⟩ := Je H42; clear H42
     refine Jde (q := 0) (j := 0) (i := x10) (sz := 1) (hm := hl) (f := Xj) (vs := [str x0]) Tryz.sizeOf9 rfl rfl rfl rfl rfl rfl rfl rfl rfl (fun y_ hy_ => by first | rfl | (cases hy_.symm.trans h_t61; rfl)) h_l0<|Jd<|Jc<|Ja<|mv (sl p_2 t31.length)<|mv (i6 x10)<|?_
     obtain ⟨t64, h_t64, H44⟩ := Je H43; clear H43
     refine lv (J8 rfl rfl h_t64) ?_
     obtain ⟨t65, h_t65, H45⟩ := Je H44; clear H44
     refine Q7 (v := sl p_2 t65.length) (fun w hF hS => run_sliceHO0 (xs := l0) Tryz.underlying31 Tryz.sizeOf9 rfl rfl (Jg6 hl h_l0) (capOf (i := 0) hS rfl) h_t65) rfl rfl rfl<|ag (sl p_2 t65.length)<|Jd<|Jh<|J4 0 rfl (imp_shrink (Jg6 hl h_l0) h_t65)<|?_
     obtain rfl := sj H45
     refine J4 0 rfl (imp_rowC _ _ _ _ _ _) ?_
     refine Uh (v := sl p_2 t65.length) rfl rfl (X5 p_2 (i := 0) rfl rfl (Imp.refl _))
theorem k27 {a0 : (List UInt8)} {a1 : (List UInt8)} {r : (List (List UInt8))} {w : World} {h : Js} (hw : Know h w Zk) (H : Jc2 a0 a1 = some r) : Does prog 27 (List.toArray [str a0, str a1]) w (fun v w' => ∃ x : AN, v = (sl x r.length) ∧ Turn w w' Zk (Ju 9 1 (sl x r.length) r.length (r.map Xj))) := by
 refine enter (n := 8) func27 rfl rfl rfl Zk [] (Sat.nil _ _)<|Jc<|Ja<|ag (z0s)<|Jd<|Jc<|Ja<|mv (str a0)<|mv (str a1)<|?_
 obtain ⟨t7, h_t7, H2⟩ := Je H; clear H
 refine Yi (Qh (rds := []) (fun w L' hF hS hi => k51 (Jm w)  h_t7) call51 rfl) rfl rfl rfl (fun p => ?_)
 refine ag (sl p t7.length)<|Jd<|Jh<|?_
 obtain rfl := sj H2
 refine Uh (v := sl p t7.length) rfl rfl (X5 p (i := 0) rfl rfl (Imp.refl _))
theorem k84 {a0 : Int} {r : (List UInt8)} (H : Jf6 a0 = some r) : Ret prog 84 [i6 a0] (str r) := by
 refine Qi (n := 16) func84 rfl rfl rfl (fun wd => ?_)
 refine Jc<|Ja<|ag (str [])<|Jd<|Jc<|Jc<|Ja<|mv (i6 a0)<|Jd<|Jq<|Jc<|Ja<|lv (Qg rfl rfl)<|ag (.bool (decide (a0 = 1)))<|Jd<|?_
 revert H
 refine ci (decide (a0 = 1)) rfl (fun hb H13=>?_) fun hb H14=>?_
 ·refine Jc<|Ja<|ag (str [98, 121, 116, 101])<|Jd<|Jh<|?_
  obtain rfl := sj H13
  exact r1 (str [98, 121, 116, 101])
 ·refine Jc<|Ja<|lv (Qg rfl rfl)<|ag (.bool (decide (a0 = 2)))<|Jd<|?_
  revert H14
  refine ci (decide (a0 = 2)) rfl (fun hb H15=>?_) fun hb H16=>?_
  ·refine Jc<|Ja<|ag (str [97, 115, 99, 105, 105])<|Jd<|Jh<|?_
   obtain rfl := sj H15
   exact r1 (str [97, 115, 99, 105, 105])
  ·refine Jc<|Ja<|lv (Qg rfl rfl)<|ag (.bool (decide (a0 = 3)))<|Jd<|?_
   revert H16
   refine ci (decide (a0 = 3)) rfl (fun hb H17=>?_) fun hb H18=>?_
   ·refine Jc<|Ja<|ag (str [115, 104, 111, 114, 116])<|Jd<|Jh<|?_
    obtain rfl := sj H17
    exact r1 (str [115, 104, 111, 114, 116])
   ·refine Jc<|Ja<|lv (Qg rfl rfl)<|ag (.bool (decide (a0 = 4)))<|Jd<|?_
    revert H18
    refine ci (decide (a0 = 4)) rfl (fun hb H19=>?_) fun hb H20=>?_
    ·refine Jc<|Ja<|ag (str [108, 111, 110, 103])<|Jd<|Jh<|?_
     obtain rfl := sj H19
     exact r1 (str [108, 111, 110, 103])
    ·refine Jc<|Ja<|lv (Qg rfl rfl)<|ag (.bool (decide (a0 = 5)))<|Jd<|?_
     revert H20
     refine ci (decide (a0 = 5)) rfl (fun hb H21=>?_) fun hb H22=>?_
     ·refine Jc<|Ja<|ag (str [114, 97, 116, 105, 111])<|Jd<|Jh<|?_
      obtain rfl := sj H21
      exact r1 (str [114, 97, 116, 105, 111])
     ·refine Jc<|Ja<|lv (Qg rfl rfl)<|ag (.bool (decide (a0 = 7)))<|Jd<|?_
      revert H22
      refine ci (decide (a0 = 7)) rfl (fun hb H23=>?_) fun hb H24=>?_
      ·refine Jc<|Ja<|ag (str [111, 112, 97, 113, 117, 101])<|Jd<|Jh<|?_
       obtain rfl := sj H23
       exact r1 (str [111, 112, 97, 113, 117, 101])
      ·refine Jj<|Jc<|Ja<|ag (str [115, 105, 103, 110, 101, 100])<|Jd<|Jh<|?_
       obtain rfl := sj H24
       exact r1 (str [115, 105, 103, 110, 101, 100])
theorem k91 {a0 : (List UInt8)} {r : Int} (H : Jfb a0 = some r) : Ret prog 91 [str a0] (i6 r) := by
 refine Qi (n := 17) func91 rfl rfl rfl (fun wd => ?_)
 refine Jc<|Ja<|ag (i6 0)<|Jd<|Jc<|Jc<|Ja<|?_
 refine Qj (vs := [i6 1, i6 2, i6 3, i6 4, i6 5, i6 7, i6 9]) (cs := [i6 1, i6 2, i6 3, i6 4, i6 5, i6 7, i6 9]) Tryz.underlying76 Tryz.sizeOf3 zeroValue3 rfl rfl rfl rfl rfl rfl rfl (fun b1 => ?_)
 refine lv (U6 Tryz.underlying76 rfl)<|mv (i6 0)<|Jd<|Jq<|?_
 refine Yq (σ := Int) (τ := Unit) (fun next1 s => Zc a0 next1 s) (fun s t => [(0, str a0), (5, .slice (some ⟨b1, 0, none⟩) 7 7), (6, i6 7), (7, i6 s)]) (fun s t => [Ji b1 [i6 1, i6 2, i6 3, i6 4, i6 5, i6 7, i6 9] 3]) (fun s t => True) 0 () [0] H (by exact trivial) (by exact ⟨rfl, rfl, rfl, rfl, trivial⟩) (by decide) rfl ?_
 rintro x7_2 _ m1 gg H9 _
 clear H
 try dsimp only at H9
 generalize hn1 : it (fun next1 s => Zc a0 next1 s) m1 = next1 at H9
 try dsimp only
 refine Jc<|Ja<|lv (Yh rfl rfl)<|Jd<|Jc<|?_
 revert H9
 refine ci (decide (x7_2 < 7)) rfl (fun hb H10=>?_) fun hb H16=>?_
 ·refine Jj<|Jc<|Jq<|Jc<|Ja<|?_
  obtain ⟨t9, h_t9, H11⟩ := Je H10; clear H10
  refine lv (r_indexS Tryz.underlying76 Tryz.sizeOf3 rfl rfl h_t9 rfl)<|Q7 (fun w hF hS => Xv (f := Q5) (i := x7_2) (sz := 1) (j := 0) (v := i6 t9) Tryz.isAgg3 rfl rfl (Vl (sz := 1) (xs := ([1, 2, 3, 4, 5, 7, 9] : List Int).map Q5) (i := 0) hS rfl rfl rfl) h_t9 rfl) rfl rfl rfl<|ag (i6 t9)<|Jd<|Jc<|Ja<|mv (i6 t9)<|?_
  obtain ⟨t12, h_t12, H12⟩ := Je H11; clear H11
  refine Qk (k84 h_t12) call84 rfl rfl rfl<|mv (str a0)<|lv (Ud rfl rfl)<|Jd<|?_
  revert H12
  refine ci (decide (t12 = a0)) rfl (fun hb H13=>?_) fun hb H14=>?_
  ·refine Jc<|Ja<|mv (i6 t9)<|ag (i6 t9)<|Jd<|Jh<|?_
   obtain rfl := sj H13
   exact r1 (i6 t9)
  ·refine Jj<|Ja<|?_
   obtain ⟨t16, h_t16, H15⟩ := Je H14; clear H14
   refine lv (J8 rfl rfl h_t16)<|mv (i6 t16)<|Jd<|?_
   exact cl t16 () m1 [0] (by exact ⟨(by subst hn1; exact H15), trivial⟩)
 ·refine Qo<|Jc<|Ja<|ag (i6 0)<|Jd<|Jh<|?_
  obtain rfl := sj H16
  exact r1 (i6 0)
theorem k82 {a0 : List (List UInt8)} {a1 : (List UInt8)} {v0 : Value} {r : (List UInt8)} {w : World} {h : Js} (hw : Know h w Zk) (f0 : FrS h 1 v0 (a0.map Xj)) (H : Jgq a0 a1 = some r) : Does prog 82 (List.toArray [v0, str a1]) w (fun v w' => v = (str r) ∧ Grow w w') :=
  join_does (ρ := Go.Proofs.Tryz.lays156_ren) Go.Proofs.Tryz.lays156 Go.Proofs.Tryz.Builder_Extra_156 hw f0 H
theorem k139 {a0 : (List UInt8)} {r : (List UInt8) × Bool} (H : Jgo a0 = some r) : Ret prog 139 [str a0] (.tuple #[str r.1, .bool r.2]) := by
 refine Qi (n := 36) func139 rfl rfl rfl (fun wd => ?_)
 refine Jc<|Ja<|ag (str [])<|ag (.bool false)<|Jd<|Jc<|Ja<|ag (z0s)<|Jd<|?_
 refine Qm (r := r) (σ := (List UInt8) × (List Int)) (τ := AN) (fun s => Jfj s.1 s.2) (fun s t => [(0, str s.1), (4, sl t s.2.length)]) (fun s t => [Ju 5 1 (sl t s.2.length) s.2.length (s.2.map Ys)]) (fun s t => True) ?_ ?_
 ·refine Jq<|J1 5 1<|?_
  refine Yq (σ := (List UInt8) × (List Int)) (τ := AN) (fun next2 s => Wi next2 s.1 s.2) (fun s t => [(0, str s.1), (4, sl t s.2.length)]) (fun s t => [Ju 5 1 (sl t s.2.length) s.2.length (s.2.map Ys)]) (fun s t => True) (a0, ([] : List Int)) nn [0] H (by exact trivial) (by exact ⟨rfl, rfl, trivial⟩) (by decide) rfl ?_
  rintro ⟨x0_3, l_3⟩ p_2 m2 gg H17 _
  clear H
  try dsimp only at H17
  generalize hn2 : it (fun next2 s => Wi next2 s.1 s.2) m2 = next2 at H17
  try dsimp only
  refine Jc<|Jc<|Ja<|mv (str x0_3)<|lv (Q8 Tryz.underlying9 rfl)<|lv (Jhf rfl rfl)<|Jd<|?_
  revert H17
  refine ci (decide (2 ≤ (x0_3.length : Int))) rfl (fun hb H18=>?_) fun hb H30=>?_
  ·refine Jj<|Jc<|Jq<|Jc<|?_
   exact Q1 (Kd.p :: Kd.p :: Kd.d [] _ :: Kd.p :: Kd.p :: Kd.d [] _ :: Kd.p :: Kd.p :: []) 0 mixed (by
    refine dm (str x0_3) ?_
    have h_t13 := Qc H18
    have H19 := J2 H18
    refine dv (Zz Tryz.underlying9 rfl rfl h_t13) ?_
    have h_t14 := Qc H19
    have H20 := J2 H19
    refine Jg7 (k72 h_t14) call72 rfl rfl<|dm (str x0_3)<|?_
    have h_t16 := Qc H20
    have H21 := J2 H20
    refine dv (Zz Tryz.underlying9 rfl rfl h_t16) ?_
    have h_t17 := Qc H21
    have H22 := J2 H21
    refine Jg7 (k72 h_t17) call72 rfl rfl<|Qy rfl rfl (Jr (v := i6 (val (Qd [48, 49, 50, 51, 52, 53, 54, 55, 56, 57, 97, 98, 99, 100, 101, 102] (val (Zp x0_3 0))))) rfl)<|Qy rfl rfl (Jr (v := i6 (val (Qd [48, 49, 50, 51, 52, 53, 54, 55, 56, 57, 97, 98, 99, 100, 101, 102] (val (Zp x0_3 1))))) rfl)<|Vz<|Jc<|Jc<|Ja<|mv (i6 (val (Qd [48, 49, 50, 51, 52, 53, 54, 55, 56, 57, 97, 98, 99, 100, 101, 102] (val (Zp x0_3 0)))))<|lv (Yh rfl rfl)<|mv (.bool (decide ((val (Qd [48, 49, 50, 51, 52, 53, 54, 55, 56, 57, 97, 98, 99, 100, 101, 102] (val (Zp x0_3 0)))) < 0)))<|?_
    revert H22
    refine sp (fun hb H23=>?_) fun hb H24=>?_
    ·refine pa<|pa<|pT (.bool true)<|Jd<|Y4 rfl<|Jc<|Ja<|ag (str [])<|ag (.bool false)<|Jd<|Jh<|?_
     obtain rfl := sj H23
     refine Jba (v1 := str []) (v2 := .bool false) rfl rfl rfl (fin rfl)
    ·refine mv (i6 (val (Qd [48, 49, 50, 51, 52, 53, 54, 55, 56, 57, 97, 98, 99, 100, 101, 102] (val (Zp x0_3 1)))))<|lv (Yh rfl rfl)<|pF (.bool (decide ((val (Qd [48, 49, 50, 51, 52, 53, 54, 55, 56, 57, 97, 98, 99, 100, 101, 102] (val (Zp x0_3 1)))) < 0)))<|Jd<|?_
     revert H24
     refine ci (decide ((val (Qd [48, 49, 50, 51, 52, 53, 54, 55, 56, 57, 97, 98, 99, 100, 101, 102] (val (Zp x0_3 1)))) < 0)) rfl (fun hb H25=>?_) fun hb H26=>?_
     ·refine Jc<|Ja<|ag (str [])<|ag (.bool false)<|Jd<|Jh<|?_
      obtain rfl := sj H25
      refine Jba (v1 := str []) (v2 := .bool false) rfl rfl rfl (fin rfl)
     ·refine Jj<|Ja<|mv (sl p_2 l_3.length)<|mv (i6 (val (Qd [48, 49, 50, 51, 52, 53, 54, 55, 56, 57, 97, 98, 99, 100, 101, 102] (val (Zp x0_3 0)))))<|?_
      obtain ⟨t26, h_t26, H27⟩ := Je H26; clear H26
      refine lv (r_shlG rfl rfl h_t26)<|mv (i6 (val (Qd [48, 49, 50, 51, 52, 53, 54, 55, 56, 57, 97, 98, 99, 100, 101, 102] (val (Zp x0_3 1)))))<|lv (r_bitsOr (bits := 64) rfl rfl rfl (wr_i64 _))<|lv (Jdm runUnderlying3 Tryz.runUnderlying5 rfl (wr_u8 _))<|?_
      refine Qj (vs := [.int .u8 (wU8 (wI64 (bOr 64 t26 (val (Qd [48, 49, 50, 51, 52, 53, 54, 55, 56, 57, 97, 98, 99, 100, 101, 102] (val (Zp x0_3 1)))))))]) (cs := [.int .u8 (wU8 (wI64 (bOr 64 t26 (val (Qd [48, 49, 50, 51, 52, 53, 54, 55, 56, 57, 97, 98, 99, 100, 101, 102] (val (Zp x0_3 1)))))))]) Tryz.underlying45 sizeOf5 zeroValue5 rfl rfl rfl rfl rfl rfl rfl (fun b1 => ?_)
      obtain ⟨l31, h_l31, H28⟩ := Je H27; clear H27
      refine J7 (X4 (i := 0) (hn := rfl) (rds := [1]) (p := p_2) (sz := 1) (by_ := 1) (f := Ys) (ys := l_3) (ls := ([(wU8 (wI64 (bOr 64 t26 (val (Qd [48, 49, 50, 51, 52, 53, 54, 55, 56, 57, 97, 98, 99, 100, 101, 102] (val (Zp x0_3 1)))))))] : List Int)) (V := .slice (some ⟨b1, 0, none⟩) 1 1) Tryz.underlying45 (Qn Tryz.typeInfo5) rfl rfl rfl rfl rfl rfl rfl rfl rfl rfl (fun w L' hF hS hi => Vl (i := 1) hS ((hi 1 (by simp)).trans rfl) rfl rfl) (fun _ => rfl) (fun _ => rfl) h_l31) rfl rfl rfl (fun p_3 => ?_)
      refine ag (sl p_3 l31.length)<|Jd<|Ja<|mv (str x0_3)<|?_
      obtain ⟨t11, h_t11, H29⟩ := Je H28; clear H28
      refine lv (Wy Tryz.underlying9 rfl rfl h_t11)<|ag (str t11)<|Jd<|?_
      exact cl (t11, l31) p_3 m2 [0] (by exact ⟨(by subst hn2; exact H29), trivial⟩)
    ) (by kernel_rfl)
  ·refine Qo ?_
   exact cl (x0_3, l_3) p_2 0 [0] (by exact ⟨H30, trivial⟩)
 ·rintro ⟨x0, l⟩ p gg H16 _
  try dsimp only at H16
  try dsimp only
  refine Jc<|Ja<|mv (sl p l.length)<|Q7 (fun w hF hS => run_bytes (f := Ys) (xs := l) rfl Tryz.underlying45 underlying5 Tryz.underlying9 rfl (fun _ => rfl) (Yf (i := 0) hS rfl)) rfl rfl rfl<|mv (str x0)<|lv (Ud rfl rfl)<|ag (str (W2 l))<|ag (.bool (decide (x0 = [])))<|Jd<|Jh<|?_
  obtain rfl := sj H16
  refine Jba (v1 := str (W2 l)) (v2 := .bool (decide (x0 = []))) rfl rfl rfl (fin rfl)
theorem k140 {a0 : (List UInt8)} {r : Td × Bool} {w : World} {h : Js} (hw : Know h w Zk) (tb_pow10 : TabH prog h "internal/strconv.uint64pow10" .u64 Lib.pow10Tab) (H : Jc6 a0 = some r) : Does prog 140 (List.toArray [str a0]) w (fun v w' => v = (.tuple #[.agg #[i6 r.1.Num, i6 r.1.Den], .bool r.2]) ∧ Grow w w') := by
 refine enter (n := 37) func140 rfl rfl rfl Zk [] (Sat.nil _ _)<|Jc<|Ja<|?_
 refine Q2 (cs := [i6 0, i6 0]) zeroValue70 rfl rfl rfl (fun b1 => ?_)
 refine ag (.bool false)<|Jd<|Jc<|Ja<|mv (str a0)<|?_
 obtain ⟨t13, h_t13, H8⟩ := Je H; clear H
 refine Qk (k24 h_t13) call24 rfl rfl rfl<|mv (.tuple #[str t13.1, str t13.2.1, .bool t13.2.2])<|lv (Jk (v := str t13.1) rfl rfl)<|lv (Jk (v := str t13.2.1) rfl rfl)<|lv (Jk (v := .bool t13.2.2) rfl rfl)<|ag (str t13.1)<|ag (str t13.2.1)<|ag (.bool t13.2.2)<|Jd<|Jc<|Ja<|mv (str t13.1)<|?_
 obtain ⟨t19, h_t19, H9⟩ := Je H8; clear H8
 refine Qb (fun w hF hS => k48 (Jm w) (tb_pow10.mono (hw.now hF)) h_t19) call48 rfl rfl rfl<|mv (.tuple #[i6 t19.1, .bool t19.2])<|lv (Jk (v := i6 t19.1) rfl rfl)<|lv (Jk (v := .bool t19.2) rfl rfl)<|ag (i6 t19.1)<|ag (.bool t19.2)<|Jd<|Jc<|Ja<|mv (str t13.2.1)<|?_
 obtain ⟨t24, h_t24, H10⟩ := Je H9; clear H9
 refine Qb (fun w hF hS => k48 (Jm w) (tb_pow10.mono (hw.now hF)) h_t24) call48 rfl rfl rfl<|mv (.tuple #[i6 t24.1, .bool t24.2])<|lv (Jk (v := i6 t24.1) rfl rfl)<|lv (Jk (v := .bool t24.2) rfl rfl)<|ag (i6 t24.1)<|ag (.bool t24.2)<|Jd<|Jc<|Ja<|mv (i6 t19.1)<|mv (i6 t24.1)<|lv (Xh (pl := #[(0, 1), (1, 1)]) (ps := [(0, i6 t19.1), (1, i6 t24.1)]) (cells := #[i6 t19.1, i6 t24.1]) zeroValue70 Tryz.runUnderlying70 (fun w => by kernel_rfl) rfl rfl)<|mv (.bool t13.2.2)<|mv (.bool t13.2.2)<|?_
 revert H10
 refine sp (fun hb H11=>?_) fun hb H14=>?_
 ·refine mv (.bool t19.2)<|pT (.bool t19.2)<|mv (.bool t19.2)<|?_
  revert H11
  refine sp (fun hb H12=>?_) fun hb H13=>?_
  ·refine mv (.bool t24.2)<|pT (.bool t24.2)<|st (i := 0) [i6 t19.1, i6 t24.1] [i6 t19.1, i6 t24.1] Tryz.sizeOf70 rfl rfl<|ag (.bool t24.2)<|Jd<|Jh<|?_
   obtain rfl := sj H12
   refine Jco (i := 0) (vs := [i6 t19.1, i6 t24.1]) (v2 := .bool t24.2) isAgg70 Tryz.sizeOf70 rfl rfl rfl rfl rfl (fin rfl)
  ·refine pa<|pF (.bool false)<|st (i := 0) [i6 t19.1, i6 t24.1] [i6 t19.1, i6 t24.1] Tryz.sizeOf70 rfl rfl<|ag (.bool false)<|Jd<|Jh<|?_
   obtain rfl := sj H13
   refine Jco (i := 0) (vs := [i6 t19.1, i6 t24.1]) (v2 := .bool false) isAgg70 Tryz.sizeOf70 rfl rfl rfl rfl rfl (fin rfl)
 ·refine pa<|pF (.bool false)<|mv (.bool false)<|pa<|pF (.bool false)<|st (i := 0) [i6 t19.1, i6 t24.1] [i6 t19.1, i6 t24.1] Tryz.sizeOf70 rfl rfl<|ag (.bool false)<|Jd<|Jh<|?_
  obtain rfl := sj H14
  refine Jco (i := 0) (vs := [i6 t19.1, i6 t24.1]) (v2 := .bool false) isAgg70 Tryz.sizeOf70 rfl rfl rfl rfl rfl (fin rfl)
theorem k92 {a0 : Int} {a1 : (List (List UInt8))} {v1 : Value} {r : Tc × Bool} {w : World} {h : Js} (hw : Know h w Zk) (f1 : FrS h 1 v1 (a1.map Xj)) (tb_pow10 : TabH prog h "internal/strconv.uint64pow10" .u64 Lib.pow10Tab) (H : Jc5 a0 a1 = some r) : Does prog 92 (List.toArray [i6 a0, v1]) w (fun v w' => ∃ x : AN × AN × AN, v = (.tuple #[.agg #[i6 r.1.kah, str r.1.kai, .slice x.1.1 r.1.kaj.length x.1.2, .slice x.2.1.1 r.1.kag.length x.2.1.2, .slice x.2.2.1 r.1.kaf.length x.2.2.2], .bool r.2]) ∧ Turn w w' Zk (Jz (Ju 3 1 (.slice x.1.1 r.1.kaj.length x.1.2) r.1.kaj.length (r.1.kaj.map Q5)) (Jz (Ju 70 2 (.slice x.2.1.1 r.1.kag.length x.2.1.2) r.1.kag.length (r.1.kag.map Jp)) (Jdb 83 6 g_tag_Entry (.slice x.2.2.1 r.1.kaf.length x.2.2.2) r.1.kaf.length r.1.kaf)))) := by
 refine enter (n := 80) func92 rfl rfl rfl Zk [] (Sat.nil _ _)<|Zt Y2<|Jc<|Ja<|?_
 refine Q2 (cs := [i6 0, str [], z0s, z0s, z0s]) zeroValue81 rfl rfl rfl (fun b5 => ?_)
 refine ag (.bool false)<|Jd<|Jc<|Ja<|mv (i6 a0)<|lv (Xh (pl := #[(0, 1), (1, 1), (2, 1), (3, 1), (4, 1)]) (ps := [(0, i6 a0)]) (cells := #[i6 a0, str [], z0s, z0s, z0s]) zeroValue81 Tryz.runUnderlying81 (fun w => by kernel_rfl) rfl rfl)<|?_
 refine Q2 (cs := [i6 0, str [], z0s, z0s, z0s]) zeroValue81 rfl rfl rfl (fun b6 => ?_)
 refine st (i := 2) [i6 a0, str [], z0s, z0s, z0s] [i6 a0, str [], z0s, z0s, z0s] Tryz.sizeOf81 rfl rfl<|Jd<|Jc<|Jc<|?_
 try dsimp only [z1,z2,z5,z6,z7,z8]
 refine Ja<|mv (i6 a0)<|?_
 obtain ⟨t17, h_t17, H29⟩ := Je H; clear H
 refine Qk (k116 h_t17) call116 rfl rfl rfl<|Jd<|?_
 revert H29
 refine ci t17 rfl (fun hb H30=>?_) fun hb H41=>?_
 ·refine Qm (r := r) (σ := Unit) (τ := Unit) (fun s => Uc a0 a1) (fun s t => [(0, i6 a0), (1, v1), (4, pz b5), (6, pz b6)]) (fun s t => [Y7 Y2 Y2, Ji b5 [i6 0, str [], z0s, z0s, z0s] 81, Ji b6 [i6 a0, str [], z0s, z0s, z0s] 81]) (fun s t => True) ?_ ?_
  ·refine Jc<|Ja<|mv v1<|lv (Jbs Tryz.underlying31 rfl f1 rfl)<|lv (Va rfl rfl)<|mv (.bool (decide (1 < (a1.length : Int))))<|?_
   revert H30
   refine sp (fun hb H34=>?_) fun hb H35=>?_
   ·refine pa<|pa<|pa<|pa<|pa<|pa<|pa<|pa<|pa<|pT (.bool true)<|Jd<|Y4 rfl<|Jc<|Ja<|lv (Xh (pl := #[(0, 1), (1, 1), (2, 1), (3, 1), (4, 1)]) (ps := []) (cells := #[i6 0, str [], z0s, z0s, z0s]) zeroValue81 Tryz.runUnderlying81 (fun w => by kernel_rfl) rfl rfl)<|st (i := 1) [i6 0, str [], z0s, z0s, z0s] [i6 0, str [], z0s, z0s, z0s] Tryz.sizeOf81 rfl rfl<|ag (.bool false)<|Jd<|Jh<|Uk 2<|?_
    try dsimp only [z1, z2, z3, z4, z5, z6, z7, z8]
    refine J1 3 1<|J1 70 2<|J1 83 6<|?_
    try dsimp only [z1,z2,z5,z6,z7,z8]
    obtain rfl := sj H34
    refine bo 0 4 rfl rfl<|J4 0 rfl (Yo (p := nn) rfl (AllC.nil (G := g_tag_Entry) (h := Y2) (sz := 6)))<|bo 3 0 rfl rfl<|bo 2 3 rfl rfl<|?_
    refine Jco (i := 1) (vs := [i6 0, str [], sl nn ([] : List Int).length, sl nn ([] : List Td).length, sl nn (([] : List (List Value)).length)]) (v2 := .bool false) Tryz.isAgg81 Tryz.sizeOf81 rfl rfl rfl rfl rfl (X5 (nn, nn, nn) (i := 2) rfl (by first | rfl | rw [(show (([] : List (List Value)).length) = ([] : List Ta).length from (AllC.nil (G := g_tag_Entry) (h := Y2) (sz := 6)).len)]) (by first | exact Imp.refl _ | exact Imp.of (by rw [(show (([] : List (List Value)).length) = ([] : List Ta).length from (AllC.nil (G := g_tag_Entry) (h := Y2) (sz := 6)).len)] <;> rfl)))
   ·refine mv v1<|lv (Jbs Tryz.underlying31 rfl f1 rfl)<|lv (Qg rfl rfl)<|mv (.bool (decide ((a1.length : Int) = 1)))<|?_
    revert H35
    refine sp (fun hb H36=>?_) fun hb H40=>?_
    ·refine mv v1 ?_
     obtain ⟨t27, h_t27, H37⟩ := Je H36; clear H36
     refine lv (Yz Tryz.underlying31 Tryz.sizeOf9 rfl rfl f1 h_t27)<|Q7 (fun w hF hS => Xv (f := Xj) (i := 0) (sz := 1) (j := 0) (v := str t27) isAgg9 rfl rfl (f1.row (hw.now hF)) h_t27 rfl) rfl rfl rfl<|lv (Ud rfl rfl)<|pT (.bool (decide (t27 = [])))<|pF (.bool (decide (t27 = [])))<|Jd<|?_
     revert H37
     refine ci (decide (t27 = [])) rfl (fun hb H38=>?_) fun hb H39=>?_
     ·refine Jc<|Ja<|lv (Xh (pl := #[(0, 1), (1, 1), (2, 1), (3, 1), (4, 1)]) (ps := []) (cells := #[i6 0, str [], z0s, z0s, z0s]) zeroValue81 Tryz.runUnderlying81 (fun w => by kernel_rfl) rfl rfl)<|st (i := 1) [i6 0, str [], z0s, z0s, z0s] [i6 0, str [], z0s, z0s, z0s] Tryz.sizeOf81 rfl rfl<|ag (.bool false)<|Jd<|Jh<|Uk 2<|?_
      try dsimp only [z1, z2, z3, z4, z5, z6, z7, z8]
      refine J1 3 1<|J1 70 2<|J1 83 6<|?_
      try dsimp only [z1,z2,z5,z6,z7,z8]
      obtain rfl := sj H38
      refine bo 0 4 rfl rfl<|J4 0 rfl (Yo (p := nn) rfl (AllC.nil (G := g_tag_Entry) (h := Y2) (sz := 6)))<|bo 3 0 rfl rfl<|bo 2 3 rfl rfl<|?_
      refine Jco (i := 1) (vs := [i6 0, str [], sl nn ([] : List Int).length, sl nn ([] : List Td).length, sl nn (([] : List (List Value)).length)]) (v2 := .bool false) Tryz.isAgg81 Tryz.sizeOf81 rfl rfl rfl rfl rfl (X5 (nn, nn, nn) (i := 2) rfl (by first | rfl | rw [(show (([] : List (List Value)).length) = ([] : List Ta).length from (AllC.nil (G := g_tag_Entry) (h := Y2) (sz := 6)).len)]) (by first | exact Imp.refl _ | exact Imp.of (by rw [(show (([] : List (List Value)).length) = ([] : List Ta).length from (AllC.nil (G := g_tag_Entry) (h := Y2) (sz := 6)).len)] <;> rfl)))
     ·refine Jj ?_
      exact cl () () 0 [0, 1, 2] (by exact ⟨H39, trivial⟩)
    ·refine pa<|pa<|pa<|pa<|pF (.bool false)<|pF (.bool false)<|Jd<|Zq rfl<|Jj<|?_
     exact cl () () 0 [0, 1, 2] (by exact ⟨H40, trivial⟩)
  ·rintro _ _ gg H31 _
   try dsimp only at H31
   try dsimp only
   refine Jc<|Ja<|mv v1<|?_
   obtain ⟨t35, h_t35, H32⟩ := Je H31; clear H31
   refine Qb (fun w hF hS => k82 (Jm w) (f1.mono (hw.now hF)) h_t35) call82 rfl rfl rfl ?_
   obtain ⟨t36, h_t36, H33⟩ := Je H32; clear H32
   refine Qk (k139 h_t36) call139 rfl rfl rfl<|mv (.tuple #[str t36.1, .bool t36.2])<|lv (Jk (v := str t36.1) rfl rfl)<|lv (Jk (v := .bool t36.2) rfl rfl)<|ag (str t36.1)<|ag (.bool t36.2)<|Jd<|Jc<|Ja<|mv (str t36.1)<|lf Tryz.runUnderlying81 rfl Tryz.sizeOf9 rfl<|st (i := 2) [str t36.1] [i6 a0, str t36.1, z0s, z0s, z0s] Tryz.sizeOf9 rfl rfl<|Jd<|Jc<|Ja<|Qq (i := 2) (vs := [i6 a0, str t36.1, z0s, z0s, z0s]) Tryz.isAgg81 Tryz.sizeOf81 rfl rfl rfl rfl rfl<|mv (.bool t36.2)<|st (i := 1) [i6 a0, str t36.1, z0s, z0s, z0s] [i6 a0, str t36.1, z0s, z0s, z0s] Tryz.sizeOf81 rfl rfl<|ag (.bool t36.2)<|Jd<|Jh<|Uk 2<|?_
   try dsimp only [z1, z2, z3, z4, z5, z6, z7, z8]
   refine J1 3 1<|J1 70 2<|J1 83 6<|?_
   try dsimp only [z1,z2,z5,z6,z7,z8]
   obtain rfl := sj H33
   refine bo 0 4 rfl rfl<|J4 0 rfl (Yo (p := nn) rfl (AllC.nil (G := g_tag_Entry) (h := Y2) (sz := 6)))<|bo 3 0 rfl rfl<|bo 2 3 rfl rfl<|?_
   refine Jco (i := 1) (vs := [i6 a0, str t36.1, sl nn ([] : List Int).length, sl nn ([] : List Td).length, sl nn (([] : List (List Value)).length)]) (v2 := .bool t36.2) Tryz.isAgg81 Tryz.sizeOf81 rfl rfl rfl rfl rfl (X5 (nn, nn, nn) (i := 2) rfl (by first | rfl | rw [(show (([] : List (List Value)).length) = ([] : List Ta).length from (AllC.nil (G := g_tag_Entry) (h := Y2) (sz := 6)).len)]) (by first | exact Imp.refl _ | exact Imp.of (by rw [(show (([] : List (List Value)).length) = ([] : List Ta).length from (AllC.nil (G := g_tag_Entry) (h := Y2) (sz := 6)).len)] <;> rfl)))
 ·refine Jj ?_
  refine Qm (r := r) (σ := (List Int) × (List Td)) (τ := AN × AN) (fun s => Jcq a0 s.1 s.2) (fun s t => [(4, pz b5), (6, pz b6)]) (fun s t => [Y7 Y2 Y2, Ji b5 [i6 0, str [], z0s, z0s, z0s] 81, Ji b6 [i6 a0, str [], .slice t.1.1 s.1.length t.1.2, .slice t.2.1 s.2.length t.2.2, z0s] 81, Ju 3 1 (.slice t.1.1 s.1.length t.1.2) s.1.length (s.1.map Q5), Ju 70 2 (.slice t.2.1 s.2.length t.2.2) s.2.length (s.2.map Jp)]) (fun s t => True) ?_ ?_
  ·refine Jc<|Ja<|mv v1<|lv (Jbs Tryz.underlying31 rfl f1 rfl)<|mv (i6 0)<|Jd<|Jq<|J1 3 1<|J1 70 2<|?_
   refine Yq (σ := Int × (List Int) × (List Td)) (τ := AN × AN) (fun next3 s => Xz a0 a1 next3 s.1 s.2.1 s.2.2) (fun s t => [(0, i6 a0), (4, pz b5), (6, pz b6), (43, v1), (44, i6 (a1.length : Int)), (45, i6 s.1)]) (fun s t => [Y7 Y2 Y2, Ji b5 [i6 0, str [], z0s, z0s, z0s] 81, Ji b6 [i6 a0, str [], .slice t.1.1 s.2.1.length t.1.2, .slice t.2.1 s.2.2.length t.2.2, z0s] 81, Ju 3 1 (.slice t.1.1 s.2.1.length t.1.2) s.2.1.length (s.2.1.map Q5), Ju 70 2 (.slice t.2.1 s.2.2.length t.2.2) s.2.2.length (s.2.2.map Jp)]) (fun s t => True) (0, ([] : List Int), ([] : List Td)) (nn, nn) [0, 1, 2, 3, 4] H41 (by exact trivial) (by exact ⟨rfl, rfl, rfl, rfl, rfl, rfl, trivial⟩) (by decide) rfl ?_
   rintro ⟨x45_2, l_5, l_6⟩ ⟨p_3, p_4⟩ m3 gg H43 _
   clear H41
   try dsimp only at H43
   generalize hn3 : it (fun next3 s => Xz a0 a1 next3 s.1 s.2.1 s.2.2) m3 = next3 at H43
   try dsimp only
   refine Jc ?_
   try dsimp only [z1,z2,z5,z6,z7,z8]
   refine Ja<|lv (Yh rfl rfl)<|Jd<|Jc<|?_
   revert H43
   refine ci (decide (x45_2 < (a1.length : Int))) rfl (fun hb H44=>?_) fun hb H56=>?_
   ·refine Jj<|Jc<|Jq<|Jc<|Ja<|?_
    obtain ⟨t47, h_t47, H45⟩ := Je H44; clear H44
    refine lv (Yz Tryz.underlying31 Tryz.sizeOf9 rfl rfl f1 h_t47)<|Q7 (fun w hF hS => Xv (f := Xj) (i := x45_2) (sz := 1) (j := 0) (v := str t47) isAgg9 rfl rfl (f1.row (hw.now hF)) h_t47 rfl) rfl rfl rfl<|ag (str t47)<|Jd<|Jc<|Ja<|ag (.bool false)<|Jd<|?_
    refine Qm (r := r) (σ := Bool × (List Int) × (List Td)) (τ := AN × AN) (fun s => Ug x45_2 next3 s.1 s.2.1 s.2.2) (fun s t => [(0, i6 a0), (4, pz b5), (6, pz b6), (11, .bool s.1), (43, v1), (44, i6 (a1.length : Int)), (45, i6 x45_2)]) (fun s t => [Y7 Y2 Y2, Ji b5 [i6 0, str [], z0s, z0s, z0s] 81, Ji b6 [i6 a0, str [], .slice t.1.1 s.2.1.length t.1.2, .slice t.2.1 s.2.2.length t.2.2, z0s] 81, Ju 3 1 (.slice t.1.1 s.2.1.length t.1.2) s.2.1.length (s.2.1.map Q5), Ju 70 2 (.slice t.2.1 s.2.2.length t.2.2) s.2.2.length (s.2.2.map Jp)]) (fun s t => True) ?_ ?_
    ·refine Jc<|Ja<|mv (i6 a0)<|lv (Qg rfl rfl)<|Jd<|?_
     revert H45
     refine ci (decide (a0 = 5)) rfl (fun hb H50=>?_) fun hb H53=>?_
     ·refine Jc<|Ja<|?_
      refine Q2 (cs := [i6 0, i6 0]) zeroValue70 rfl rfl rfl (fun b7 => ?_)
      refine Jd<|Jc<|Ja<|mv (str t47)<|?_
      obtain ⟨t53, h_t53, H51⟩ := Je H50; clear H50
      refine Qb (fun w hF hS => k140 (Jm w) (tb_pow10.mono (hw.now hF)) h_t53) call140 rfl rfl rfl<|mv (.tuple #[.agg #[i6 t53.1.Num, i6 t53.1.Den], .bool t53.2])<|lv (Jk (v := .agg #[i6 t53.1.Num, i6 t53.1.Den]) rfl rfl)<|lv (Jk (v := .bool t53.2) rfl rfl)<|st (i := 5) [i6 t53.1.Num, i6 t53.1.Den] [i6 t53.1.Num, i6 t53.1.Den] Tryz.sizeOf70 rfl rfl<|ag (.bool t53.2)<|Jd<|?_
      try dsimp only [z1,z2,z5,z6,z7,z8]
      refine Ja<|lf Tryz.runUnderlying81 rfl Tryz.sizeOf79 rfl<|ll 2 (sl p_4 l_6.length) isAgg79<|Qq (i := 5) (vs := [i6 t53.1.Num, i6 t53.1.Den]) isAgg70 Tryz.sizeOf70 rfl rfl rfl rfl rfl<|?_
      refine Qj (vs := [.agg #[i6 t53.1.Num, i6 t53.1.Den]]) (cs := [i6 t53.1.Num, i6 t53.1.Den]) Tryz.underlying79 Tryz.sizeOf70 zeroValue70 rfl rfl rfl rfl rfl rfl rfl (fun b8 => ?_)
      obtain ⟨l60, h_l60, H52⟩ := Je H51; clear H51
      refine J7 (X4 (i := 4) (hn := rfl) (rds := [6]) (p := p_4) (sz := 2) (by_ := 16) (f := Jp) (ys := l_6) (ls := ([t53.1] : List Td)) (V := .slice (some ⟨b8, 0, none⟩) 1 1) Tryz.underlying79 (Qn typeInfo70) rfl rfl rfl rfl rfl rfl rfl rfl rfl rfl (fun w L' hF hS hi => Vl (i := 6) hS ((hi 6 (by simp)).trans rfl) rfl rfl) (fun _ => rfl) (fun _ => rfl) h_l60) rfl rfl rfl (fun p_7 => ?_)
      refine lf Tryz.runUnderlying81 rfl Tryz.sizeOf79 rfl<|st (i := 2) [sl p_7 l60.length] [i6 a0, str [], sl p_3 l_5.length, sl p_7 l60.length, z0s] Tryz.sizeOf79 rfl rfl<|Jd<|?_
      exact cl (t53.2, l_5, l60) (p_3, p_7) 0 [0, 1, 2, 3, 4] (by exact ⟨H52, trivial⟩)
     ·refine Jc<|Ja<|ag (i6 0)<|Jd<|Jc<|Ja<|mv (str t47)<|mv (i6 a0)<|lv (Qg rfl rfl)<|?_
      obtain ⟨t66, h_t66, H54⟩ := Je H53; clear H53
      refine Qb (fun w hF hS => k48 (Jm w) (tb_pow10.mono (hw.now hF)) h_t66) call48 rfl rfl rfl<|mv (.tuple #[i6 t66.1, .bool t66.2])<|lv (Jk (v := i6 t66.1) rfl rfl)<|lv (Jk (v := .bool t66.2) rfl rfl)<|ag (i6 t66.1)<|ag (.bool t66.2)<|Jd<|Ja<|lf Tryz.runUnderlying81 rfl Tryz.sizeOf76 rfl<|ll 2 (sl p_3 l_5.length) isAgg76<|mv (i6 t66.1)<|?_
      refine Qj (vs := [i6 t66.1]) (cs := [i6 t66.1]) Tryz.underlying76 Tryz.sizeOf3 zeroValue3 rfl rfl rfl rfl rfl rfl rfl (fun b9 => ?_)
      obtain ⟨l73, h_l73, H55⟩ := Je H54; clear H54
      refine J7 (X4 (i := 3) (hn := rfl) (rds := [5]) (p := p_3) (sz := 1) (by_ := 8) (f := Q5) (ys := l_5) (ls := ([t66.1] : List Int)) (V := .slice (some ⟨b9, 0, none⟩) 1 1) Tryz.underlying76 (Qn typeInfo3) rfl rfl rfl rfl rfl rfl rfl rfl rfl rfl (fun w L' hF hS hi => Vl (i := 5) hS ((hi 5 (by simp)).trans rfl) rfl rfl) (fun _ => rfl) (fun _ => rfl) h_l73) rfl rfl rfl (fun p_8 => ?_)
      refine lf Tryz.runUnderlying81 rfl Tryz.sizeOf76 rfl<|st (i := 2) [sl p_8 l73.length] [i6 a0, str [], sl p_8 l73.length, sl p_4 l_6.length, z0s] Tryz.sizeOf76 rfl rfl<|Jd<|?_
      exact cl (t66.2, l73, l_6) (p_8, p_4) 0 [0, 1, 2, 3, 4] (by exact ⟨H55, trivial⟩)
    ·rintro ⟨x11, l_7, l_8⟩ ⟨p_5, p_6⟩ gg H46 _
     try dsimp only at H46
     try dsimp only
     refine Jc<|Ja<|mv (.bool x11)<|lv (Jb8 rfl)<|Jd<|?_
     revert H46
     refine ci (!x11) rfl (fun hb H47=>?_) fun hb H48=>?_
     ·refine Jc<|Ja<|lv (Xh (pl := #[(0, 1), (1, 1), (2, 1), (3, 1), (4, 1)]) (ps := []) (cells := #[i6 0, str [], z0s, z0s, z0s]) zeroValue81 Tryz.runUnderlying81 (fun w => by kernel_rfl) rfl rfl)<|st (i := 1) [i6 0, str [], z0s, z0s, z0s] [i6 0, str [], z0s, z0s, z0s] Tryz.sizeOf81 rfl rfl<|ag (.bool false)<|Jd<|Jh<|?_
      refine Uk 4 <| Uk 3 <| Uk 2 ?_
      try dsimp only [z1, z2, z3, z4, z5, z6, z7, z8]
      refine J1 3 1<|J1 70 2<|J1 83 6<|?_
      try dsimp only [z1,z2,z5,z6,z7,z8]
      obtain rfl := sj H47
      refine bo 0 4 rfl rfl<|J4 0 rfl (Yo (p := nn) rfl (AllC.nil (G := g_tag_Entry) (h := Y2) (sz := 6)))<|bo 3 0 rfl rfl<|bo 2 3 rfl rfl<|?_
      refine Jco (i := 1) (vs := [i6 0, str [], sl nn ([] : List Int).length, sl nn ([] : List Td).length, sl nn (([] : List (List Value)).length)]) (v2 := .bool false) Tryz.isAgg81 Tryz.sizeOf81 rfl rfl rfl rfl rfl (X5 (nn, nn, nn) (i := 2) rfl (by first | rfl | rw [(show (([] : List (List Value)).length) = ([] : List Ta).length from (AllC.nil (G := g_tag_Entry) (h := Y2) (sz := 6)).len)]) (by first | exact Imp.refl _ | exact Imp.of (by rw [(show (([] : List (List Value)).length) = ([] : List Ta).length from (AllC.nil (G := g_tag_Entry) (h := Y2) (sz := 6)).len)] <;> rfl)))
     ·refine Jj<|Ja<|?_
      obtain ⟨t78, h_t78, H49⟩ := Je H48; clear H48
      refine lv (J8 rfl rfl h_t78)<|mv (i6 t78)<|Jd<|?_
      exact cl (t78, l_7, l_8) (p_5, p_6) m3 [0, 1, 2, 3, 4] (by exact ⟨(by subst hn3; exact H49), trivial⟩)
   ·refine Qo ?_
    exact cl (l_5, l_6) (p_3, p_4) 0 [0, 1, 2, 3, 4] (by exact ⟨H56, trivial⟩)
  ·rintro ⟨l, l_2⟩ ⟨p, p_2⟩ gg H42 _
   try dsimp only at H42
   try dsimp only
   refine Jc<|Ja<|Qq (i := 2) (vs := [i6 a0, str [], sl p l.length, sl p_2 l_2.length, z0s]) Tryz.isAgg81 Tryz.sizeOf81 rfl rfl rfl rfl rfl<|st (i := 1) [i6 a0, str [], sl p l.length, sl p_2 l_2.length, z0s] [i6 a0, str [], sl p l.length, sl p_2 l_2.length, z0s] Tryz.sizeOf81 rfl rfl<|ag (.bool true)<|Jd<|Jh<|Uk 2<|?_
   try dsimp only [z1, z2, z3, z4, z5, z6, z7, z8]
   refine J1 83 6 ?_
   obtain rfl := sj H42
   refine bo 0 4 rfl rfl<|J4 0 rfl (Yo (p := nn) rfl (AllC.nil (G := g_tag_Entry) (h := Y2) (sz := 6)))<|bo 3 0 rfl rfl<|bo 2 3 rfl rfl<|?_
   refine Jco (i := 1) (vs := [i6 a0, str [], sl p l.length, sl p_2 l_2.length, sl nn (([] : List (List Value)).length)]) (v2 := .bool true) Tryz.isAgg81 Tryz.sizeOf81 rfl rfl rfl rfl rfl (X5 (p, p_2, nn) (i := 2) rfl (by first | rfl | rw [(show (([] : List (List Value)).length) = ([] : List Ta).length from (AllC.nil (G := g_tag_Entry) (h := Y2) (sz := 6)).len)]) (by first | exact Imp.refl _ | exact Imp.of (by rw [(show (([] : List (List Value)).length) = ([] : List Ta).length from (AllC.nil (G := g_tag_Entry) (h := Y2) (sz := 6)).len)] <;> rfl)))
theorem k50 {a0 : (List Ta)} {v0 : Value} {r : (List Ta)} {w : World} {h : Js} (hw : Know h w Zk) (f0 : FrN h 6 v0 g_tag_Entry a0) (H : U5 a0 = some r) : Does prog 50 (List.toArray [v0]) w (fun v w' => ∃ x : AN, v = (sl x r.length) ∧ Turn w w' Zk (Jdb 83 6 g_tag_Entry (sl x r.length) r.length r)) := by
 refine enter (n := 31) func50 rfl rfl rfl Zk [] (Sat.nil _ _)<|Zt Y2<|Jc<|Ja<|ag (z0s)<|Jd<|Jc<|Jc<|Ja<|mv v0<|lv (Vk Tryz.underlying41 rfl f0)<|lv (Qg rfl rfl)<|Jd<|?_
 revert H
 refine ci (decide ((a0.length : Int) = 0)) rfl (fun hb H3=>?_) fun hb H4=>?_
 ·refine Jc<|Ja<|ag (z0s)<|Jd<|Jh<|J1 83 6<|?_
  obtain rfl := sj H3
  refine bo 0 1 rfl rfl<|J4 0 rfl (Yo (p := nn) rfl (AllC.nil (G := g_tag_Entry) (h := Y2) (sz := 6)))<|?_
  refine Uh (v := sl nn (([] : List (List Value)).length)) rfl rfl (X5 nn (i := 0) rfl (by first | rfl | rw [(show (([] : List (List Value)).length) = ([] : List Ta).length from (AllC.nil (G := g_tag_Entry) (h := Y2) (sz := 6)).len)]) (by first | exact Imp.refl _ | exact Imp.of (by rw [(show (([] : List (List Value)).length) = ([] : List Ta).length from (AllC.nil (G := g_tag_Entry) (h := Y2) (sz := 6)).len)] <;> rfl)))
 ·exact absurd (show (none : Option ((List Ta))) = some r from H4) (fun h => by cases h)
theorem k94 {a0 : Tc} {v0_2 : Value} {v0_3 : Value} {v0_4 : Value} {r : Tc} {w : World} {h : Js} (hw : Know h w Zk) (f0_2 : FrS h 1 v0_2 (a0.kaj.map Q5)) (f0_3 : FrS h 2 v0_3 (a0.kag.map Jp)) (f0_4 : FrN h 6 v0_4 g_tag_Entry a0.kaf) (H : Jac a0 = some r) : Does prog 94 (List.toArray [.agg #[i6 a0.kah, str a0.kai, v0_2, v0_3, v0_4]]) w (fun v w' => ∃ x : AN × AN × AN, v = (.agg #[i6 r.kah, str r.kai, .slice x.1.1 r.kaj.length x.1.2, .slice x.2.1.1 r.kag.length x.2.1.2, .slice x.2.2.1 r.kaf.length x.2.2.2]) ∧ Turn w w' Zk (Jz (roV 1 (.slice x.1.1 r.kaj.length x.1.2) r.kaj.length (r.kaj.map Q5)) (Jz (roV 2 (.slice x.2.1.1 r.kag.length x.2.1.2) r.kag.length (r.kag.map Jp)) (Jdb 83 6 g_tag_Entry (.slice x.2.2.1 r.kaf.length x.2.2.2) r.kaf.length r.kaf)))) := by
 refine enter (n := 18) func94 rfl rfl rfl Zk [] (Sat.nil _ _)<|Zt Y2<|Jc<|Ja<|?_
 refine Jat (cs := [i6 a0.kah, str a0.kai, v0_2, v0_3, v0_4]) rfl rfl rfl rfl (fun b4 => ?_)
 refine Q2 (cs := [i6 0, str [], z0s, z0s, z0s]) zeroValue81 rfl rfl rfl (fun b5 => ?_)
 refine Jd<|Jc<|Ja<|lf Tryz.runUnderlying81 rfl Tryz.sizeOf76 rfl<|ll 1 v0_2 isAgg76<|?_
 obtain ⟨t5, h_t5, H7⟩ := Je H; clear H
 refine Yi (Qh (rds := []) (fun w L' hF hS hi => k142 (Jm w) (f0_2.mono (hw.now hF)) h_t5) call142 rfl) rfl rfl rfl (fun p => ?_)
 refine Qb (fun w hF hS => k141 (capOf (i := 3) hS rfl) w) call141 rfl rfl rfl<|lf Tryz.runUnderlying81 rfl Tryz.sizeOf76 rfl<|st (i := 1) [.slice (Ya p.1 0 t5.length 1) t5.length t5.length] [i6 a0.kah, str a0.kai, .slice (Ya p.1 0 t5.length 1) t5.length t5.length, v0_3, v0_4] Tryz.sizeOf76 rfl rfl<|Jd<|Jc<|Ja<|lf Tryz.runUnderlying81 rfl Tryz.sizeOf79 rfl<|ll 1 v0_3 isAgg79<|?_
 obtain ⟨t10, h_t10, H8⟩ := Je H7; clear H7
 refine Yi (Qh (rds := []) (fun w L' hF hS hi => k144 (Jm w) (f0_3.mono (hw.now hF)) h_t10) call144 rfl) rfl rfl rfl (fun p_2 => ?_)
 refine Qb (fun w hF hS => k143 (capOf (i := 4) hS rfl) w) call143 rfl rfl rfl<|lf Tryz.runUnderlying81 rfl Tryz.sizeOf79 rfl<|st (i := 1) [.slice (Ya p_2.1 0 t10.length 2) t10.length t10.length] [i6 a0.kah, str a0.kai, .slice (Ya p.1 0 t5.length 1) t5.length t5.length, .slice (Ya p_2.1 0 t10.length 2) t10.length t10.length, v0_4] Tryz.sizeOf79 rfl rfl<|Jd<|Jc<|?_
 try dsimp only [z1,z2,z5,z6,z7,z8]
 refine Ja<|lf Tryz.runUnderlying81 rfl Tryz.sizeOf41 rfl<|ll 1 v0_4 isAgg41<|?_
 obtain ⟨t15, h_t15, H9⟩ := Je H8; clear H8
 refine Yi (Qh (rds := []) (fun w L' hF hS hi => k50 (Jm w) (f0_4.mono (hw.now hF)) h_t15) call50 rfl) rfl rfl rfl (fun p_3 => ?_)
 refine Jep 5 rfl (fun hp css hn pf => ?_)
 rw [hn]
 refine Qa 5 rfl ?_
 refine Z7 0 5 rfl rfl (by decide) (fun _ _ => Yx) (fun hp_2 hle hle_2 => ?_)
 refine lf Tryz.runUnderlying81 rfl Tryz.sizeOf41 rfl<|st (i := 1) [sl p_3 css.length] [i6 a0.kah, str a0.kai, .slice (Ya p.1 0 t5.length 1) t5.length t5.length, .slice (Ya p_2.1 0 t10.length 2) t10.length t10.length, sl p_3 css.length] Tryz.sizeOf41 rfl rfl<|Jd<|?_
 try dsimp only [z1,z2,z5,z6,z7,z8]
 refine Jc<|Ja<|Qq (i := 1) (vs := [i6 a0.kah, str a0.kai, .slice (Ya p.1 0 t5.length 1) t5.length t5.length, .slice (Ya p_2.1 0 t10.length 2) t10.length t10.length, sl p_3 css.length]) Tryz.isAgg81 Tryz.sizeOf81 rfl rfl rfl rfl rfl<|st (i := 2) [i6 a0.kah, str a0.kai, .slice (Ya p.1 0 t5.length 1) t5.length t5.length, .slice (Ya p_2.1 0 t10.length 2) t10.length t10.length, sl p_3 css.length] [i6 a0.kah, str a0.kai, .slice (Ya p.1 0 t5.length 1) t5.length t5.length, .slice (Ya p_2.1 0 t10.length 2) t10.length t10.length, sl p_3 css.length] Tryz.sizeOf81 rfl rfl<|Jd<|?_
 try dsimp only [z1,z2,z5,z6,z7,z8]
 refine Jh ?_
 refine Uk 5 <| Uk 1 ?_
 try dsimp only [z1, z2, z3, z4, z5, z6, z7, z8]
 obtain rfl := sj H9
 refine J4 2 rfl (Jgi _ _ _ _ _ _)<|J4 3 rfl (Jgi _ _ _ _ _ _)<|bo 0 4 rfl rfl<|J4 0 rfl (Yo (p := p_3) rfl (pf.mono hle_2))<|bo 3 0 rfl rfl<|bo 2 3 rfl rfl<|?_
 refine retC (i := 1) (vs := [i6 a0.kah, str a0.kai, .slice (Ya p.1 0 t5.length 1) t5.length t5.length, .slice (Ya p_2.1 0 t10.length 2) t10.length t10.length, sl p_3 css.length]) Tryz.isAgg81 Tryz.sizeOf81 rfl rfl rfl rfl (X5 ((Ya p.1 0 t5.length 1, t5.length), (Ya p_2.1 0 t10.length 2, t10.length), p_3) (i := 2) rfl (by first | rfl | rw [(show css.length = t15.length from hn.symm)]) (by first | exact Imp.refl _ | exact Imp.of (by rw [(show css.length = t15.length from hn.symm)] <;> rfl)))
theorem k49 {a0 : (List UInt8)} {r : Tc × Int} {w : World} {h : Js} (hw : Know h w Zk) (tb_pow10 : TabH prog h "internal/strconv.uint64pow10" .u64 Lib.pow10Tab) (H : Jaa a0 = some r) : Does prog 49 (List.toArray [str a0]) w (fun v w' => ∃ x : AN × AN × AN, v = (.tuple #[.agg #[i6 r.1.kah, str r.1.kai, .slice x.1.1 r.1.kaj.length x.1.2, .slice x.2.1.1 r.1.kag.length x.2.1.2, .slice x.2.2.1 r.1.kaf.length x.2.2.2], i6 r.2]) ∧ Turn w w' Zk (Jz (roV 1 (.slice x.1.1 r.1.kaj.length x.1.2) r.1.kaj.length (r.1.kaj.map Q5)) (Jz (roV 2 (.slice x.2.1.1 r.1.kag.length x.2.1.2) r.1.kag.length (r.1.kag.map Jp)) (Jdb 83 6 g_tag_Entry (.slice x.2.2.1 r.1.kaf.length x.2.2.2) r.1.kaf.length r.1.kaf)))) := by
 refine enter (n := 40) func49 rfl rfl rfl Zk [] (Sat.nil _ _)<|Zt Y2<|Jc<|Ja<|?_
 refine Q2 (cs := [i6 0, str [], z0s, z0s, z0s]) zeroValue81 rfl rfl rfl (fun b4 => ?_)
 refine ag (i6 0)<|Jd<|Jc<|Jc<|Ja<|mv (str a0)<|lv (Q8 Tryz.underlying9 rfl)<|lv (Va rfl rfl)<|Jd<|?_
 revert H
 refine ci (decide (1000000 < (a0.length : Int))) rfl (fun hb H31=>?_) fun hb H32=>?_
 ·refine Jc<|Ja<|lv (Xh (pl := #[(0, 1), (1, 1), (2, 1), (3, 1), (4, 1)]) (ps := []) (cells := #[i6 0, str [], z0s, z0s, z0s]) zeroValue81 Tryz.runUnderlying81 (fun w => by kernel_rfl) rfl rfl)<|st (i := 1) [i6 0, str [], z0s, z0s, z0s] [i6 0, str [], z0s, z0s, z0s] Tryz.sizeOf81 rfl rfl<|ag (i6 4)<|Jd<|Jh<|?_
  try dsimp only [z1, z2, z3, z4, z5, z6, z7, z8]
  refine J1 3 1<|J1 70 2<|J1 83 6<|?_
  try dsimp only [z1,z2,z5,z6,z7,z8]
  obtain rfl := sj H31
  refine J4 2 rfl (Jfd _ _ _ _ _)<|J4 3 rfl (Jfd _ _ _ _ _)<|bo 0 4 rfl rfl<|J4 0 rfl (Yo (p := nn) rfl (AllC.nil (G := g_tag_Entry) (h := Y2) (sz := 6)))<|bo 3 0 rfl rfl<|bo 2 3 rfl rfl<|?_
  refine Jco (i := 1) (vs := [i6 0, str [], sl nn ([] : List Int).length, sl nn ([] : List Td).length, sl nn (([] : List (List Value)).length)]) (v2 := i6 4) Tryz.isAgg81 Tryz.sizeOf81 rfl rfl rfl rfl rfl (X5 (nn, nn, nn) (i := 2) rfl (by first | rfl | rw [(show (([] : List (List Value)).length) = ([] : List Ta).length from (AllC.nil (G := g_tag_Entry) (h := Y2) (sz := 6)).len)]) (by first | exact Imp.refl _ | exact Imp.of (by rw [(show (([] : List (List Value)).length) = ([] : List Ta).length from (AllC.nil (G := g_tag_Entry) (h := Y2) (sz := 6)).len)] <;> rfl)))
 ·refine Jj<|Jc<|Ja<|mv (str a0)<|?_
  obtain ⟨t14, h_t14, H33⟩ := Je H32; clear H32
  refine Yi (Qh (rds := []) (fun w L' hF hS hi => k27 (Jm w)  h_t14) call27 rfl) rfl rfl rfl (fun p => ?_)
  refine ag (sl p t14.length)<|Jd<|Jc<|?_
  try dsimp only [z1,z2,z5,z6,z7,z8]
  refine Ja<|mv (sl p t14.length)<|?_
  obtain ⟨t16, h_t16, H34⟩ := Je H33; clear H33
  refine Q7 (fun w hF hS => Xu Tryz.underlying31 Tryz.sizeOf9 rfl rfl (Yf (i := 2) hS rfl) rfl h_t16) rfl rfl rfl<|Q7 (fun w hF hS => Xv (f := Xj) (i := 0) (sz := 1) (j := 0) (v := str t16) isAgg9 rfl rfl (Yf (i := 2) hS rfl) h_t16 rfl) rfl rfl rfl<|?_
  obtain ⟨t18, h_t18, H35⟩ := Je H34; clear H34
  refine Qk (k91 h_t18) call91 rfl rfl rfl<|ag (i6 t18)<|Jd<|Jc<|Jc<|Ja<|mv (i6 t18)<|lv (Qg rfl rfl)<|Jd<|?_
  revert H35
  refine ci (decide (t18 = 0)) rfl (fun hb H36=>?_) fun hb H37=>?_
  ·refine Jc<|Ja<|lv (Xh (pl := #[(0, 1), (1, 1), (2, 1), (3, 1), (4, 1)]) (ps := []) (cells := #[i6 0, str [], z0s, z0s, z0s]) zeroValue81 Tryz.runUnderlying81 (fun w => by kernel_rfl) rfl rfl)<|st (i := 1) [i6 0, str [], z0s, z0s, z0s] [i6 0, str [], z0s, z0s, z0s] Tryz.sizeOf81 rfl rfl<|ag (i6 8)<|Jd<|Jh<|Uk 2<|?_
   try dsimp only [z1, z2, z3, z4, z5, z6, z7, z8]
   refine J1 3 1<|J1 70 2<|J1 83 6<|?_
   try dsimp only [z1,z2,z5,z6,z7,z8]
   obtain rfl := sj H36
   refine J4 2 rfl (Jfd _ _ _ _ _)<|J4 3 rfl (Jfd _ _ _ _ _)<|bo 0 4 rfl rfl<|J4 0 rfl (Yo (p := nn) rfl (AllC.nil (G := g_tag_Entry) (h := Y2) (sz := 6)))<|bo 3 0 rfl rfl<|bo 2 3 rfl rfl<|?_
   refine Jco (i := 1) (vs := [i6 0, str [], sl nn ([] : List Int).length, sl nn ([] : List Td).length, sl nn (([] : List (List Value)).length)]) (v2 := i6 8) Tryz.isAgg81 Tryz.sizeOf81 rfl rfl rfl rfl rfl (X5 (nn, nn, nn) (i := 2) rfl (by first | rfl | rw [(show (([] : List (List Value)).length) = ([] : List Ta).length from (AllC.nil (G := g_tag_Entry) (h := Y2) (sz := 6)).len)]) (by first | exact Imp.refl _ | exact Imp.of (by rw [(show (([] : List (List Value)).length) = ([] : List Ta).length from (AllC.nil (G := g_tag_Entry) (h := Y2) (sz := 6)).len)] <;> rfl)))
  ·refine Jj<|Jc<|?_
   try dsimp only [z1,z2,z5,z6,z7,z8]
   refine Ja<|mv (i6 t18)<|mv (sl p t14.length)<|?_
   obtain ⟨t25, h_t25, H38⟩ := Je H37; clear H37
   refine Q7 (v := .slice (Ya p.1 (Int.toNat 1) p.2 1) t25.length (p.2 - Int.toNat 1)) (fun w hF hS => Jge (xs := t14) Tryz.underlying31 Tryz.sizeOf9 rfl rfl rfl (capOf (i := 2) hS rfl) h_t25) rfl rfl rfl ?_
   obtain ⟨t26, h_t26, H39⟩ := Je H38; clear H38
   refine Yi (Qh (rds := [2]) (fun w L' hF hS hi => k92 (Jm w) (FrS.cutL (Xw (i := 2) rfl hS ((hi 2 (by simp)).trans rfl)) h_t25) (tb_pow10.mono (hw.now hF)) h_t26) call92 rfl) rfl rfl rfl (fun ⟨p_2, p_3, p_4⟩ => ?_)
   refine Qa 3 rfl<|Qa 4 rfl<|?_
   refine Jep 5 rfl (fun hp css hn pf => ?_)
   rw [hn]
   refine Qa 5 rfl ?_
   refine Z7 0 5 rfl rfl (by decide) (fun _ _ => Yx) (fun hp_2 hle hle_2 => ?_)
   refine mv (.tuple #[.agg #[i6 t26.1.kah, str t26.1.kai, sl p_2 t26.1.kaj.length, sl p_3 t26.1.kag.length, sl p_4 css.length], .bool t26.2])<|lv (Jk (v := .agg #[i6 t26.1.kah, str t26.1.kai, sl p_2 t26.1.kaj.length, sl p_3 t26.1.kag.length, sl p_4 css.length]) rfl rfl)<|lv (Jk (v := .bool t26.2) rfl rfl)<|?_
   refine Q2 (cs := [i6 0, str [], z0s, z0s, z0s]) zeroValue81 rfl rfl rfl (fun b5 => ?_)
   refine st (i := 7) [i6 t26.1.kah, str t26.1.kai, sl p_2 t26.1.kaj.length, sl p_3 t26.1.kag.length, sl p_4 css.length] [i6 t26.1.kah, str t26.1.kai, sl p_2 t26.1.kaj.length, sl p_3 t26.1.kag.length, sl p_4 css.length] Tryz.sizeOf81 rfl rfl<|ag (.bool t26.2)<|Jd<|?_
   try dsimp only [z1,z2,z5,z6,z7,z8]
   refine Jc<|Jc<|Ja<|mv (.bool t26.2)<|lv (Jb8 rfl)<|Jd<|?_
   try dsimp only [z1,z2,z5,z6,z7,z8]
   revert H39
   refine ci (!t26.2) rfl (fun hb H40=>?_) fun hb H41=>?_
   ·refine Jc<|Ja<|lv (Xh (pl := #[(0, 1), (1, 1), (2, 1), (3, 1), (4, 1)]) (ps := []) (cells := #[i6 0, str [], z0s, z0s, z0s]) zeroValue81 Tryz.runUnderlying81 (fun w => by kernel_rfl) rfl rfl)<|st (i := 1) [i6 0, str [], z0s, z0s, z0s] [i6 0, str [], z0s, z0s, z0s] Tryz.sizeOf81 rfl rfl<|ag (i6 8)<|Jd<|?_
    try dsimp only [z1,z2,z5,z6,z7,z8]
    refine Jh ?_
    refine Uk 7 <| Uk 6 <| Uk 5 <| Uk 4 <| Uk 3 <| Uk 2 ?_
    try dsimp only [z1, z2, z3, z4, z5, z6, z7, z8]
    refine J1 3 1<|J1 70 2<|J1 83 6<|?_
    try dsimp only [z1,z2,z5,z6,z7,z8]
    obtain rfl := sj H40
    refine J4 2 rfl (Jfd _ _ _ _ _)<|J4 3 rfl (Jfd _ _ _ _ _)<|bo 0 4 rfl rfl<|J4 0 rfl (Yo (p := nn) rfl (AllC.nil (G := g_tag_Entry) (h := hp_2) (sz := 6)))<|bo 3 0 rfl rfl<|bo 2 3 rfl rfl<|?_
    refine Jco (i := 1) (vs := [i6 0, str [], sl nn ([] : List Int).length, sl nn ([] : List Td).length, sl nn (([] : List (List Value)).length)]) (v2 := i6 8) Tryz.isAgg81 Tryz.sizeOf81 rfl rfl rfl rfl rfl (X5 (nn, nn, nn) (i := 2) rfl (by first | rfl | rw [(show (([] : List (List Value)).length) = ([] : List Ta).length from (AllC.nil (G := g_tag_Entry) (h := hp_2) (sz := 6)).len)]) (by first | exact Imp.refl _ | exact Imp.of (by rw [(show (([] : List (List Value)).length) = ([] : List Ta).length from (AllC.nil (G := g_tag_Entry) (h := hp_2) (sz := 6)).len)] <;> rfl)))
   ·refine Jj<|Jc<|Jc<|?_
    try dsimp only [z1,z2,z5,z6,z7,z8]
    refine Ja<|Qq (i := 7) (vs := [i6 t26.1.kah, str t26.1.kai, sl p_2 t26.1.kaj.length, sl p_3 t26.1.kag.length, sl p_4 css.length]) Tryz.isAgg81 Tryz.sizeOf81 rfl rfl rfl rfl rfl<|?_
    obtain ⟨t33, h_t33, H42⟩ := Je H41; clear H41
    refine Qb (fun w hF hS => k93 (Jm w) (Xw (i := 3) rfl hS rfl) (Xw (i := 4) rfl hS rfl) (Ja8 (xs := t26.1.kaf) (Xw (i := 6) rfl hS rfl) ((pf.mono hle_2).mono (Ui (i := 0) hS rfl Yx))) h_t33) call93 rfl rfl rfl<|ag (i6 t33)<|Jd<|?_
    try dsimp only [z1,z2,z5,z6,z7,z8]
    refine Jc<|Ja<|mv (i6 t33)<|lv (Zm rfl rfl)<|Jd<|?_
    try dsimp only [z1,z2,z5,z6,z7,z8]
    revert H42
    refine ci (decide (t33 ≠ 0)) rfl (fun hb H43=>?_) fun hb H44=>?_
    ·refine Jc<|Ja<|lv (Xh (pl := #[(0, 1), (1, 1), (2, 1), (3, 1), (4, 1)]) (ps := []) (cells := #[i6 0, str [], z0s, z0s, z0s]) zeroValue81 Tryz.runUnderlying81 (fun w => by kernel_rfl) rfl rfl)<|mv (i6 t33)<|st (i := 1) [i6 0, str [], z0s, z0s, z0s] [i6 0, str [], z0s, z0s, z0s] Tryz.sizeOf81 rfl rfl<|ag (i6 t33)<|Jd<|?_
     try dsimp only [z1,z2,z5,z6,z7,z8]
     refine Jh ?_
     refine Uk 7 <| Uk 6 <| Uk 5 <| Uk 4 <| Uk 3 <| Uk 2 ?_
     try dsimp only [z1, z2, z3, z4, z5, z6, z7, z8]
     refine J1 3 1<|J1 70 2<|J1 83 6<|?_
     try dsimp only [z1,z2,z5,z6,z7,z8]
     obtain rfl := sj H43
     refine J4 2 rfl (Jfd _ _ _ _ _)<|J4 3 rfl (Jfd _ _ _ _ _)<|bo 0 4 rfl rfl<|J4 0 rfl (Yo (p := nn) rfl (AllC.nil (G := g_tag_Entry) (h := hp_2) (sz := 6)))<|bo 3 0 rfl rfl<|bo 2 3 rfl rfl<|?_
     refine Jco (i := 1) (vs := [i6 0, str [], sl nn ([] : List Int).length, sl nn ([] : List Td).length, sl nn (([] : List (List Value)).length)]) (v2 := i6 t33) Tryz.isAgg81 Tryz.sizeOf81 rfl rfl rfl rfl rfl (X5 (nn, nn, nn) (i := 2) rfl (by first | rfl | rw [(show (([] : List (List Value)).length) = ([] : List Ta).length from (AllC.nil (G := g_tag_Entry) (h := hp_2) (sz := 6)).len)]) (by first | exact Imp.refl _ | exact Imp.of (by rw [(show (([] : List (List Value)).length) = ([] : List Ta).length from (AllC.nil (G := g_tag_Entry) (h := hp_2) (sz := 6)).len)] <;> rfl)))
    ·refine Jj<|Jc<|?_
     try dsimp only [z1,z2,z5,z6,z7,z8]
     refine Ja<|Qq (i := 7) (vs := [i6 t26.1.kah, str t26.1.kai, sl p_2 t26.1.kaj.length, sl p_3 t26.1.kag.length, sl p_4 css.length]) Tryz.isAgg81 Tryz.sizeOf81 rfl rfl rfl rfl rfl<|?_
     obtain ⟨t39, h_t39, H45⟩ := Je H44; clear H44
     refine Yi (Qh (rds := [0, 3, 4, 6]) (fun w L' hF hS hi => k94 (Jm w) (Xw (i := 3) rfl hS ((hi 3 (by simp)).trans rfl)) (Xw (i := 4) rfl hS ((hi 4 (by simp)).trans rfl)) (Ja8 (xs := t26.1.kaf) (Xw (i := 6) rfl hS ((hi 6 (by simp)).trans rfl)) ((pf.mono hle_2).mono (Ui (i := 0) hS ((hi 0 (by simp)).trans rfl) Yx))) h_t39) call94 rfl) rfl rfl rfl (fun ⟨p_5, p_6, p_7⟩ => ?_)
     refine Qa 8 rfl<|Qa 9 rfl<|?_
     refine Jep 10 rfl (fun hp_3 css_2 hn_2 pf_2 => ?_)
     rw [hn_2]
     refine Qa 10 rfl ?_
     try dsimp only [z1,z2,z5,z6,z7,z8]
     refine Z7 0 10 rfl rfl (by decide) (fun _ _ => Yx) (fun hp_4 hle_3 hle_4 => ?_)
     refine st (i := 1) [i6 t39.kah, str t39.kai, sl p_5 t39.kaj.length, sl p_6 t39.kag.length, sl p_7 css_2.length] [i6 t39.kah, str t39.kai, sl p_5 t39.kaj.length, sl p_6 t39.kag.length, sl p_7 css_2.length] Tryz.sizeOf81 rfl rfl<|ag (i6 0)<|Jd<|?_
     try dsimp only [z1,z2,z5,z6,z7,z8]
     refine Jh ?_
     refine Uk 10 <| Uk 7 <| Uk 6 <| Uk 5 <| Uk 4 <| Uk 3 <| Uk 2 ?_
     try dsimp only [z1, z2, z3, z4, z5, z6, z7, z8]
     obtain rfl := sj H45
     refine bo 0 4 rfl rfl<|J4 0 rfl (Yo (p := p_7) rfl (pf_2.mono hle_4))<|bo 3 0 rfl rfl<|bo 2 3 rfl rfl<|?_
     refine Jco (i := 1) (vs := [i6 t39.kah, str t39.kai, sl p_5 t39.kaj.length, sl p_6 t39.kag.length, sl p_7 css_2.length]) (v2 := i6 0) Tryz.isAgg81 Tryz.sizeOf81 rfl rfl rfl rfl rfl (X5 (p_5, p_6, p_7) (i := 2) rfl (by first | rfl | rw [(show css_2.length = t39.kaf.length from hn_2.symm)]) (by first | exact Imp.refl _ | exact Imp.of (by rw [(show css_2.length = t39.kaf.length from hn_2.symm)] <;> rfl)))
end Go.Proofs.YtkbiccgjkiifpaaGreatDoor
