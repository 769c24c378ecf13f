/- TagTexts, checks and values: the walks, printed by our generator; each follows its model. Conditions: the model yields a value. -/
import Derived.Test.YtkbiccgjkiifpaaGreatDoorMd
import Derived.Test.YtkbiccgjkiifpaaGreatDoorProg
import Derived.Test.YtkbiccgjkiifpaaGreatDoorLx2
set_option linter.unusedVariables false
namespace Go.Proofs.YtkbiccgjkiifpaaGreatDoor
open Go Go.Vc Go.Md Go.M Go.Lx Tryz
set_option maxRecDepth 100000
set_option maxHeartbeats 4000000
theorem mixed : prog.follows .mixedOrders = true := by kernel_rfl
abbrev Qz (x : Int) : List Value := [i6 x]
abbrev Jl (x : Tc) : List Value := [i6 x.Num, i6 x.Den]
abbrev Jz (x : (List UInt8)) : List Value := [str x]
abbrev e_u8 (x : Int) : List Value := [.int .u8 x]
inductive g_tag_Entry (h : Jw) : (Nat → Value) → Ta → Prop
  | mk {c : Nat → Value} {x : Ta} (h0 : c 0 = i6 x.Tag) (h1 : c 1 = i6 x.Value.kad) (h2 : c 2 = str x.Value.kae) (h3 : FrS h 1 (c 3) (x.Value.kaf.map Qz)) (h4 : FrS h 2 (c 4) (x.Value.kac.map Jl)) (h5 : FrS h 6 (c 5) ((List.range x.Value.kab.length).map (elC h (c 5) 6))) (h6 : ∀ (i : Nat) (y : Ta), x.Value.kab[i]? = some y → g_tag_Entry h (Qq h (c 5) 6 i) y) : g_tag_Entry h c x
instance : Mon g_tag_Entry := ⟨fun k c x f => by
  induction f with
  | mk h0 h1 h2 h3 h4 h5 h6 ih => exact .mk h0 h1 h2 (h3.mono k) (h4.mono k) (frsMono h5 k) (fun i y hy => by have e_ := elMonoE h5 k hy; rw [← e_]; exact ih i y hy)⟩
def gs_int (h : Jw) (c : Nat → Value) (x : (List Int)) : Prop := FrS h 1 (c 0) (x.map Qz)
instance : Mon gs_int := ⟨fun k _ _ f => FrS.mono f k⟩
def gs_tag_Ratio (h : Jw) (c : Nat → Value) (x : (List Tc)) : Prop := FrS h 2 (c 0) (x.map Jl)
instance : Mon gs_tag_Ratio := ⟨fun k _ _ f => FrS.mono f k⟩
def gs_tag_Entry (h : Jw) (c : Nat → Value) (x : (List Ta)) : Prop := FrN h 6 (c 0) g_tag_Entry x
instance : Mon gs_tag_Entry := ⟨fun k _ _ f => FrN.mono f k⟩
theorem Vd {h : Jw} {c : Nat → Value} {x : (List Ta)} (_ : gs_tag_Entry h c x) : (List.range 1).map c = [c 0] := rfl
def g_tag_Value (h : Jw) (c : Nat → Value) (x : Tb) : Prop := c 0 = i6 x.kad ∧ c 1 = str x.kae ∧ gs_int h (fun j => c (2 + j)) x.kaf ∧ gs_tag_Ratio h (fun j => c (3 + j)) x.kac ∧ gs_tag_Entry h (fun j => c (4 + j)) x.kab
instance : Mon g_tag_Value := ⟨fun k _ _ f => by obtain ⟨h0, h1, h2, h3, h4⟩ := f; exact ⟨h0, h1, Mon.mono k _ _ h2, Mon.mono k _ _ h3, Mon.mono k _ _ h4⟩⟩
theorem cg_tag_Value {h : Jw} {c : Nat → Value} {x : Tb} (f : g_tag_Value h c x) : (List.range 5).map c = [i6 x.kad, str x.kae, c 2, c 3, c 4] := by
  obtain ⟨h0, h1, h2, h3, h4⟩ := f
  show [c 0, c 1, c 2, c 3, c 4] = _
  simp only [h0, h1]
theorem Qi {h : Jw} {c : Nat → Value} {x : Tb} (f : g_tag_Value h c x) : gs_int h (fun j => c (2 + j)) x.kaf := by
  obtain ⟨h0, h1, h2, h3, h4⟩ := f; exact h2
theorem Qj {h : Jw} {c : Nat → Value} {x : Tb} (f : g_tag_Value h c x) : gs_tag_Ratio h (fun j => c (3 + j)) x.kac := by
  obtain ⟨h0, h1, h2, h3, h4⟩ := f; exact h3
theorem J6 {h : Jw} {c : Nat → Value} {x : Tb} (f : g_tag_Value h c x) : gs_tag_Entry h (fun j => c (4 + j)) x.kab := by
  obtain ⟨h0, h1, h2, h3, h4⟩ := f; exact h4
theorem g_tag_Entry_iff {h : Jw} {c : Nat → Value} {x : Ta} : g_tag_Entry h c x ↔ (c 0 = i6 x.Tag ∧ g_tag_Value h (fun j => c (1 + j)) x.Value) :=
  ⟨fun f => by cases f with | mk h0 h1 h2 h3 h4 h5 h6 => exact ⟨h0, ⟨h1, h2, h3, h4, ⟨h5, h6⟩⟩⟩, fun ⟨h0, ⟨h1, h2, h3, h4, ⟨h5, h6⟩⟩⟩ => .mk h0 h1 h2 h3 h4 h5 h6⟩
theorem Zt {h : Jw} {c : Nat → Value} {x : Ta} (f : g_tag_Entry h c x) : (List.range 6).map c = [i6 x.Tag, i6 x.Value.kad, str x.Value.kae, c 3, c 4, c 5] := by
  obtain ⟨h0, h1⟩ := g_tag_Entry_iff.1 f
  have hc1 := cg_tag_Value h1
  simp only [List.range, List.range.loop, List.map_cons, List.map_nil, Nat.reduceAdd, List.cons.injEq, and_true] at hc1
  show [c 0, c 1, c 2, c 3, c 4, c 5] = _
  simp only [h0, hc1]
theorem Jj {h : Jw} {c : Nat → Value} {x : Ta} (f : g_tag_Entry h c x) : g_tag_Value h (fun j => c (1 + j)) x.Value := by
  obtain ⟨h0, h1⟩ := g_tag_Entry_iff.1 f; exact h1
def Wr (m : ((List Ta) → (List Ta) → Option (Bool))) (w : World) (args : List Value) (post : Value → World → Prop) : Prop :=
  ∃ (a0 : (List Ta)) (v0 : Value) (a1 : (List Ta)) (v1 : Value) (r : Bool), FrN (fun b => w.heap[b]?) 6 v0 g_tag_Entry a0 ∧ FrN (fun b => w.heap[b]?) 6 v1 g_tag_Entry a1 ∧ args = [v0, v1] ∧ m a0 a1 = some r ∧ post = fun v' w' => v' = (.bool r) ∧ Grow w w'
def Vj (m : (Ta → Ta → Option (Bool))) (w : World) (args : List Value) (post : Value → World → Prop) : Prop :=
  ∃ (a0 : Ta) (v0_1_2 : Value) (v0_1_3 : Value) (v0_1_4 : Value) (a1 : Ta) (v1_1_2 : Value) (v1_1_3 : Value) (v1_1_4 : Value) (r : Bool), FrS (fun b => w.heap[b]?) 1 v0_1_2 (a0.Value.kaf.map Qz) ∧ FrS (fun b => w.heap[b]?) 2 v0_1_3 (a0.Value.kac.map Jl) ∧ FrN (fun b => w.heap[b]?) 6 v0_1_4 g_tag_Entry a0.Value.kab ∧ FrS (fun b => w.heap[b]?) 1 v1_1_2 (a1.Value.kaf.map Qz) ∧ FrS (fun b => w.heap[b]?) 2 v1_1_3 (a1.Value.kac.map Jl) ∧ FrN (fun b => w.heap[b]?) 6 v1_1_4 g_tag_Entry a1.Value.kab ∧ args = [.agg #[i6 a0.Tag, i6 a0.Value.kad, str a0.Value.kae, v0_1_2, v0_1_3, v0_1_4], .agg #[i6 a1.Tag, i6 a1.Value.kad, str a1.Value.kae, v1_1_2, v1_1_3, v1_1_4]] ∧ m a0 a1 = some r ∧ post = fun v' w' => v' = (.bool r) ∧ Grow w w'
theorem run_eqT70 (d : Nat) (w : World) (a0 b0 : Int) (a1 b1 : Int) : (Op.equalIn (d + 2) 70 (.agg #[i6 a0, i6 a1]) (.agg #[i6 b0, i6 b1])).run prog w = .ok (decide (a0 = b0 ∧ a1 = b1)) w := by
  rw [run_equalIn_struct w (d + 1) 70 _ _ (by simp only [Program.fieldsOf, underlying70]) stoodInHeld70]
  simp only [Program.fieldsOf, underlying70, Op.eqFields]
  simp [part, run_equalIn_int, Jir, run_equalIn_bool', Tryz.underlying3]
  repeat' split
  all_goals simp_all
theorem Jio (w : World) (x y : Tc) : (Op.equalIn Op.maxDepth 70 (.agg #[i6 x.Num, i6 x.Den]) (.agg #[i6 y.Num, i6 y.Den])).run prog w = .ok (Jcj x y) w :=
  run_eqT70 9998 w _ _ _ _
theorem k66 {a0 : Int} {a1 : Int} {a2 : Int} {r : Bool} (H : Jbb a0 a1 a2 = some r) : Ret prog 66 [i6 a0, i6 a1, i6 a2] (.bool r) := by
 refine Qr (n := 15) func66 rfl rfl rfl (fun wd => ?_)
 refine Jc<|Ja<|ag (.bool false)<|Jd<|Jc<|Ja<|mv (i6 a0)<|mv (i6 a1)<|lv (Xk rfl rfl)<|mv (.bool (decide (a0 < a1)))<|?_
 revert H
 refine sp (fun hb H3=>?_) fun hb H4=>?_
 ·refine pa<|pa<|pa<|pT (.bool true)<|ag (.bool true)<|Jd<|Ji<|?_
  obtain rfl := sj H3
  exact r1 (.bool true)
 ·refine mv (i6 a0)<|mv (i6 a2)<|lv (Ye rfl rfl)<|pF (.bool (decide (a2 < a0)))<|ag (.bool (decide (a2 < a0)))<|Jd<|Ji<|?_
  obtain rfl := sj H4
  exact r1 (.bool (decide (a2 < a0)))
theorem k114 {a0 : Int} {r : Int} (H : Jb4 a0 = some r) : Ret prog 114 [i6 a0] (i6 r) := by
 refine Qr (n := 16) func114 rfl rfl rfl (fun wd => ?_)
 refine Jc<|Ja<|ag (i6 0)<|Jd<|Jc<|Jc<|Ja<|mv (i6 a0)<|Jd<|Jp<|?_
 refine Qe (r := r) (σ := Bool) (τ := Unit) (fun s => Jap a0 s) (fun s t => [(3, i6 a0), (4, .bool s)]) (fun s t => []) (fun s t => True) ?_ ?_
 ·refine Jc<|Ja<|lv (Qd rfl rfl)<|ag (.bool (decide (a0 = 1)))<|Jd<|?_
  revert H
  refine ci (decide (a0 = 1)) rfl (fun hb H37=>?_) fun hb H38=>?_
  ·refine Jh ?_
   exact cl (decide (a0 = 1)) () 0 [] (by exact ⟨H37, trivial⟩)
  ·refine Jc<|Ja<|lv (Qd rfl rfl)<|ag (.bool (decide (a0 = 2)))<|Jd<|?_
   revert H38
   refine ci (decide (a0 = 2)) rfl (fun hb H39=>?_) fun hb H40=>?_
   ·refine Jh ?_
    exact cl (decide (a0 = 2)) () 0 [] (by exact ⟨H39, trivial⟩)
   ·refine Jc<|Ja<|lv (Qd rfl rfl)<|ag (.bool (decide (a0 = 7)))<|Jd<|?_
    revert H40
    refine ci (decide (a0 = 7)) rfl (fun hb H41=>?_) fun hb H42=>?_
    ·refine Jh ?_
     exact cl (decide (a0 = 7)) () 0 [] (by exact ⟨H41, trivial⟩)
    ·refine Ja<|lv (Qd rfl rfl)<|ag (.bool (decide (a0 = 13)))<|Jd<|?_
     exact cl (decide (a0 = 13)) () 0 [] (by exact ⟨H42, trivial⟩)
 ·rintro x4 _ gg H22 _
  try dsimp only at H22
  try dsimp only
  revert H22
  refine ci x4 rfl (fun hb H23=>?_) fun hb H24=>?_
  ·refine Jc<|Ja<|ag (i6 1)<|Jd<|Ji<|?_
   obtain rfl := sj H23
   exact r1 (i6 1)
  ·refine Jc<|Ja<|lv (Qd rfl rfl)<|ag (.bool (decide (a0 = 3)))<|Jd<|?_
   revert H24
   refine ci (decide (a0 = 3)) rfl (fun hb H25=>?_) fun hb H26=>?_
   ·refine Jc<|Ja<|ag (i6 2)<|Jd<|Ji<|?_
    obtain rfl := sj H25
    exact r1 (i6 2)
   ·refine Jc<|Jc<|Ja<|lv (Qd rfl rfl)<|ag (.bool (decide (a0 = 4)))<|Jd<|?_
    revert H26
    refine ci (decide (a0 = 4)) rfl (fun hb H27=>?_) fun hb H32=>?_
    ·refine Jh ?_
     revert H27
     refine ci (decide (a0 = 4)) rfl (fun hb H28=>?_) fun hb H29=>?_
     ·refine Jc<|Ja<|ag (i6 4)<|Jd<|Ji<|?_
      obtain rfl := sj H28
      exact r1 (i6 4)
     ·refine Jc<|Ja<|lv (Qd rfl rfl)<|ag (.bool (decide (a0 = 5)))<|Jd<|?_
      revert H29
      refine ci (decide (a0 = 5)) rfl (fun hb H30=>?_) fun hb H31=>?_
      ·refine Jc<|Ja<|ag (i6 8)<|Jd<|Ji<|?_
       obtain rfl := sj H30
       exact r1 (i6 8)
      ·refine Jh<|Jc<|Ja<|ag (i6 0)<|Jd<|Ji<|?_
       obtain rfl := sj H31
       exact r1 (i6 0)
    ·refine Ja<|lv (Qd rfl rfl)<|ag (.bool (decide (a0 = 9)))<|Jd<|?_
     revert H32
     refine ci (decide (a0 = 9)) rfl (fun hb H33=>?_) fun hb H34=>?_
     ·refine Jc<|Ja<|ag (i6 4)<|Jd<|Ji<|?_
      obtain rfl := sj H33
      exact r1 (i6 4)
     ·refine Jc<|Ja<|lv (Qd rfl rfl)<|ag (.bool (decide (a0 = 5)))<|Jd<|?_
      revert H34
      refine ci (decide (a0 = 5)) rfl (fun hb H35=>?_) fun hb H36=>?_
      ·refine Jc<|Ja<|ag (i6 8)<|Jd<|Ji<|?_
       obtain rfl := sj H35
       exact r1 (i6 8)
      ·refine Jh<|Jc<|Ja<|ag (i6 0)<|Jd<|Ji<|?_
       obtain rfl := sj H36
       exact r1 (i6 0)
theorem k115 {a0 : Int} {r : Bool} (H : Jfq a0 = some r) : Ret prog 115 [i6 a0] (.bool r) := by
 refine Qr (n := 17) func115 rfl rfl rfl (fun wd => ?_)
 refine Jc<|Ja<|ag (.bool false)<|Jd<|Jc<|Ja<|mv (i6 a0)<|lv (Qd rfl rfl)<|mv (.bool (decide (a0 = 1)))<|?_
 revert H
 refine sp (fun hb H7=>?_) fun hb H8=>?_
 ·refine pa<|pa<|pT (.bool true)<|mv (.bool true)<|pa<|pa<|pT (.bool true)<|mv (.bool true)<|pa<|pa<|pT (.bool true)<|ag (.bool true)<|Jd<|Ji<|?_
  obtain rfl := sj H7
  exact r1 (.bool true)
 ·refine mv (i6 a0)<|lv (Qd rfl rfl)<|pF (.bool (decide (a0 = 3)))<|mv (.bool (decide (a0 = 3)))<|?_
  revert H8
  refine sp (fun hb H9=>?_) fun hb H10=>?_
  ·refine pa<|pa<|pT (.bool true)<|mv (.bool true)<|pa<|pa<|pT (.bool true)<|ag (.bool true)<|Jd<|Ji<|?_
   obtain rfl := sj H9
   exact r1 (.bool true)
  ·refine mv (i6 a0)<|lv (Qd rfl rfl)<|pF (.bool (decide (a0 = 4)))<|mv (.bool (decide (a0 = 4)))<|?_
   revert H10
   refine sp (fun hb H11=>?_) fun hb H12=>?_
   ·refine pa<|pa<|pT (.bool true)<|ag (.bool true)<|Jd<|Ji<|?_
    obtain rfl := sj H11
    exact r1 (.bool true)
   ·refine mv (i6 a0)<|lv (Qd rfl rfl)<|pF (.bool (decide (a0 = 9)))<|ag (.bool (decide (a0 = 9)))<|Jd<|Ji<|?_
    obtain rfl := sj H12
    exact r1 (.bool (decide (a0 = 9)))
theorem k116 {a0 : Int} {r : Bool} (H : Jb7 a0 = some r) : Ret prog 116 [i6 a0] (.bool r) := by
 refine Qr (n := 9) func116 rfl rfl rfl (fun wd => ?_)
 refine Jc<|Ja<|ag (.bool false)<|Jd<|Jc<|Ja<|mv (i6 a0)<|lv (Qd rfl rfl)<|mv (.bool (decide (a0 = 2)))<|?_
 revert H
 refine sp (fun hb H3=>?_) fun hb H4=>?_
 ·refine pa<|pa<|pT (.bool true)<|ag (.bool true)<|Jd<|Ji<|?_
  obtain rfl := sj H3
  exact r1 (.bool true)
 ·refine mv (i6 a0)<|lv (Qd rfl rfl)<|pF (.bool (decide (a0 = 7)))<|ag (.bool (decide (a0 = 7)))<|Jd<|Ji<|?_
  obtain rfl := sj H4
  exact r1 (.bool (decide (a0 = 7)))
theorem k68 {a0 : Tb} {v0_2 : Value} {v0_3 : Value} {v0_4 : Value} {r : Int} {w : World} {h : Jw} (hw : Know h w Ys) (f0_2 : FrS h 1 v0_2 (a0.kaf.map Qz)) (f0_3 : FrS h 2 v0_3 (a0.kac.map Jl)) (f0_4 : FrN h 6 v0_4 g_tag_Entry a0.kab) (H : Wv a0 = some r) : Does prog 68 (List.toArray [.agg #[i6 a0.kad, str a0.kae, v0_2, v0_3, v0_4]]) w (fun v w' => v = (i6 r) ∧ Grow w w') := by
 refine enter (n := 46) func68 rfl rfl rfl Ys [] (Sat.nil _ _)<|Jc<|Ja<|?_
 refine Vv (cs := [i6 a0.kad, str a0.kae, v0_2, v0_3, v0_4]) rfl rfl rfl rfl (fun b1 => ?_)
 refine ag (i6 0)<|Jd<|Jc<|Jp<|Jc<|Ja<|lf Tryz.runUnderlying81 rfl Tryz.sizeOf3 rfl<|ll 0 (i6 a0.kad) Tryz.isAgg3<|?_
 obtain ⟨t6, h_t6, H31⟩ := Je H; clear H
 refine Qm (k114 h_t6) call114 rfl rfl rfl<|lv (Qd rfl rfl)<|ag (.bool (decide (t6 = 0)))<|Jd<|?_
 revert H31
 refine ci (decide (t6 = 0)) rfl (fun hb H32=>?_) fun hb H33=>?_
 ·refine Jc<|Ja<|ag (i6 10)<|Jd<|Ji<|?_
  obtain rfl := sj H32
  exact r1 (i6 10)
 ·refine Jc ?_
  refine Qe (r := r) (σ := Bool) (τ := Unit) (fun s => Wc a0 s) (fun s t => [(1, pz b1), (8, .bool s)]) (fun s t => [Jn b1 [i6 a0.kad, str a0.kae, v0_2, v0_3, v0_4] 81]) (fun s t => True) ?_ ?_
  ·refine Ja<|lf Tryz.runUnderlying81 rfl Tryz.sizeOf3 rfl<|ll 0 (i6 a0.kad) Tryz.isAgg3<|?_
   obtain ⟨t11, h_t11, H58⟩ := Je H33; clear H33
   refine Qm (k115 h_t11) call115 rfl rfl rfl<|lv (Jay rfl)<|mv (.bool (!t11))<|?_
   revert H58
   refine sp (fun hb H59=>?_) fun hb H60=>?_
   ·refine lf Tryz.runUnderlying81 rfl Tryz.sizeOf76 rfl<|ll 0 v0_2 Tryz.isAgg76<|lv (Z8 Tryz.underlying76 rfl f0_2 rfl)<|lv (Ye rfl rfl)<|pT (.bool (decide (0 < (a0.kaf.length : Int))))<|ag (.bool (decide (0 < (a0.kaf.length : Int))))<|Jd<|?_
    exact cl (decide (0 < (a0.kaf.length : Int))) () 0 [0] (by exact ⟨H59, trivial⟩)
   ·refine pa<|pa<|pa<|pa<|pF (.bool false)<|ag (.bool false)<|Jd<|?_
    exact cl false () 0 [0] (by exact ⟨H60, trivial⟩)
  ·rintro x8 _ gg H34 _
   try dsimp only at H34
   try dsimp only
   revert H34
   refine ci x8 rfl (fun hb H35=>?_) fun hb H38=>?_
   ·refine Jh ?_
    revert H35
    refine ci x8 rfl (fun hb H36=>?_) fun hb H37=>?_
    ·refine Jc<|Ja<|ag (i6 1)<|Jd<|Ji<|?_
     obtain rfl := sj H36
     exact r1 (i6 1)
    ·refine Jh<|Jc<|Ja<|ag (i6 0)<|Jd<|Ji<|?_
     obtain rfl := sj H37
     exact r1 (i6 0)
   ·refine Qe (r := r) (σ := Bool) (τ := Unit) (fun s => Wf a0 s) (fun s t => [(1, pz b1), (8, .bool s)]) (fun s t => [Jn b1 [i6 a0.kad, str a0.kae, v0_2, v0_3, v0_4] 81]) (fun s t => True) ?_ ?_
    ·refine Ja<|lf Tryz.runUnderlying81 rfl Tryz.sizeOf3 rfl<|ll 0 (i6 a0.kad) Tryz.isAgg3<|?_
     obtain ⟨t21, h_t21, H55⟩ := Je H38; clear H38
     refine Qm (k116 h_t21) call116 rfl rfl rfl<|lv (Jay rfl)<|mv (.bool (!t21))<|?_
     revert H55
     refine sp (fun hb H56=>?_) fun hb H57=>?_
     ·refine lf Tryz.runUnderlying81 rfl Tryz.sizeOf9 rfl<|ll 0 (str a0.kae) Tryz.isAgg9<|lv (Ja3 rfl rfl)<|pT (.bool (decide (a0.kae ≠ [])))<|ag (.bool (decide (a0.kae ≠ [])))<|Jd<|?_
      exact cl (decide (a0.kae ≠ [])) () 0 [0] (by exact ⟨H56, trivial⟩)
     ·refine pa<|pa<|pa<|pF (.bool false)<|ag (.bool false)<|Jd<|?_
      exact cl false () 0 [0] (by exact ⟨H57, trivial⟩)
    ·rintro x8_2 _ gg H39 _
     try dsimp only at H39
     try dsimp only
     revert H39
     refine ci x8_2 rfl (fun hb H40=>?_) fun hb H43=>?_
     ·refine Jh ?_
      revert H40
      refine ci x8_2 rfl (fun hb H41=>?_) fun hb H42=>?_
      ·refine Jc<|Ja<|ag (i6 1)<|Jd<|Ji<|?_
       obtain rfl := sj H41
       exact r1 (i6 1)
      ·refine Jh<|Jc<|Ja<|ag (i6 0)<|Jd<|Ji<|?_
       obtain rfl := sj H42
       exact r1 (i6 0)
     ·refine Qe (r := r) (σ := Bool) (τ := Unit) (fun s => Wd a0 s) (fun s t => [(1, pz b1), (8, .bool s)]) (fun s t => [Jn b1 [i6 a0.kad, str a0.kae, v0_2, v0_3, v0_4] 81]) (fun s t => True) ?_ ?_
      ·refine Ja<|lf Tryz.runUnderlying81 rfl Tryz.sizeOf3 rfl<|ll 0 (i6 a0.kad) Tryz.isAgg3<|lv (Vk rfl rfl)<|mv (.bool (decide (a0.kad ≠ 5)))<|?_
       revert H43
       refine sp (fun hb H53=>?_) fun hb H54=>?_
       ·refine lf Tryz.runUnderlying81 rfl Tryz.sizeOf79 rfl<|ll 0 v0_3 Tryz.isAgg79<|lv (Z8 Tryz.underlying79 rfl f0_3 rfl)<|lv (Ye rfl rfl)<|pT (.bool (decide (0 < (a0.kac.length : Int))))<|ag (.bool (decide (0 < (a0.kac.length : Int))))<|Jd<|?_
        exact cl (decide (0 < (a0.kac.length : Int))) () 0 [0] (by exact ⟨H53, trivial⟩)
       ·refine pa<|pa<|pa<|pa<|pF (.bool false)<|ag (.bool false)<|Jd<|?_
        exact cl false () 0 [0] (by exact ⟨H54, trivial⟩)
      ·rintro x8_3 _ gg H44 _
       try dsimp only at H44
       try dsimp only
       revert H44
       refine ci x8_3 rfl (fun hb H45=>?_) fun hb H48=>?_
       ·refine Jh ?_
        revert H45
        refine ci x8_3 rfl (fun hb H46=>?_) fun hb H47=>?_
        ·refine Jc<|Ja<|ag (i6 1)<|Jd<|Ji<|?_
         obtain rfl := sj H46
         exact r1 (i6 1)
        ·refine Jh<|Jc<|Ja<|ag (i6 0)<|Jd<|Ji<|?_
         obtain rfl := sj H47
         exact r1 (i6 0)
       ·refine Ja<|lf Tryz.runUnderlying81 rfl Tryz.sizeOf3 rfl<|ll 0 (i6 a0.kad) Tryz.isAgg3<|lv (Vk rfl rfl)<|mv (.bool (decide (a0.kad ≠ 13)))<|?_
        revert H48
        refine sp (fun hb H49=>?_) fun hb H52=>?_
        ·refine lf Tryz.runUnderlying81 rfl Tryz.sizeOf41 rfl<|ll 0 v0_4 Tryz.isAgg41<|lv (Xw Tryz.underlying41 rfl f0_4)<|lv (Ye rfl rfl)<|pT (.bool (decide (0 < (a0.kab.length : Int))))<|ag (.bool (decide (0 < (a0.kab.length : Int))))<|Jd<|?_
         revert H49
         refine ci (decide (0 < (a0.kab.length : Int))) rfl (fun hb H50=>?_) fun hb H51=>?_
         ·refine Jc<|Ja<|ag (i6 1)<|Jd<|Ji<|?_
          obtain rfl := sj H50
          exact r1 (i6 1)
         ·refine Jh<|Jc<|Ja<|ag (i6 0)<|Jd<|Ji<|?_
          obtain rfl := sj H51
          exact r1 (i6 0)
        ·refine pa<|pa<|pa<|pa<|pF (.bool false)<|ag (.bool false)<|Jd<|Zc rfl<|Jh<|Jc<|Ja<|ag (i6 0)<|Jd<|Ji<|?_
         obtain rfl := sj H52
         exact r1 (i6 0)
theorem k113 {a0 : Int} {r : Int × Int} (H : Jf4 a0 = some r) : Ret prog 113 [i6 a0] (.tuple #[i6 r.1, i6 r.2]) := by
 refine Qr (n := 11) func113 rfl rfl rfl (fun wd => ?_)
 refine Jc<|Ja<|ag (i6 0)<|ag (i6 0)<|Jd<|Jc<|Jc<|Ja<|mv (i6 a0)<|Jd<|Jp<|Jc<|Ja<|lv (Qd rfl rfl)<|ag (.bool (decide (a0 = 1)))<|Jd<|?_
 revert H
 refine ci (decide (a0 = 1)) rfl (fun hb H7=>?_) fun hb H8=>?_
 ·refine Jc<|Ja<|ag (i6 0)<|ag (i6 255)<|Jd<|Ji<|?_
  obtain rfl := sj H7
  refine Wh (v1 := i6 0) (v2 := i6 255) rfl rfl rfl (fin rfl)
 ·refine Jc<|Ja<|lv (Qd rfl rfl)<|ag (.bool (decide (a0 = 3)))<|Jd<|?_
  revert H8
  refine ci (decide (a0 = 3)) rfl (fun hb H9=>?_) fun hb H10=>?_
  ·refine Jc<|Ja<|ag (i6 0)<|ag (i6 65535)<|Jd<|Ji<|?_
   obtain rfl := sj H9
   refine Wh (v1 := i6 0) (v2 := i6 65535) rfl rfl rfl (fin rfl)
  ·refine Jc<|Ja<|lv (Qd rfl rfl)<|ag (.bool (decide (a0 = 9)))<|Jd<|?_
   revert H10
   refine ci (decide (a0 = 9)) rfl (fun hb H11=>?_) fun hb H12=>?_
   ·refine Jc<|Ja<|ag (i6 (-2147483648))<|ag (i6 2147483647)<|Jd<|Ji<|?_
    obtain rfl := sj H11
    refine Wh (v1 := i6 (-2147483648)) (v2 := i6 2147483647) rfl rfl rfl (fin rfl)
   ·refine Jh<|Jc<|Ja<|ag (i6 0)<|ag (i6 4294967295)<|Jd<|Ji<|?_
    obtain rfl := sj H12
    refine Wh (v1 := i6 0) (v2 := i6 4294967295) rfl rfl rfl (fin rfl)
theorem k67 {a0 : Tb} {v0_2 : Value} {v0_3 : Value} {v0_4 : Value} {r : Int} {w : World} {h : Jw} (hw : Know h w Ys) (f0_2 : FrS h 1 v0_2 (a0.kaf.map Qz)) (f0_3 : FrS h 2 v0_3 (a0.kac.map Jl)) (f0_4 : FrN h 6 v0_4 g_tag_Entry a0.kab) (H : Ja2 a0 = some r) : Does prog 67 (List.toArray [.agg #[i6 a0.kad, str a0.kae, v0_2, v0_3, v0_4]]) w (fun v w' => v = (i6 r) ∧ Grow w w') := by
 refine enter (n := 65) func67 rfl rfl rfl Ys [] (Sat.nil _ _)<|Jc<|Ja<|?_
 refine Vv (cs := [i6 a0.kad, str a0.kae, v0_2, v0_3, v0_4]) rfl rfl rfl rfl (fun b2 => ?_)
 refine ag (i6 0)<|Jd<|Jc<|Jc<|Ja<|Q0 (i := 0) (vs := [i6 a0.kad, str a0.kae, v0_2, v0_3, v0_4]) Tryz.isAgg81 Tryz.sizeOf81 rfl rfl rfl rfl rfl<|?_
 obtain ⟨t12, h_t12, H35⟩ := Je H; clear H
 refine Qt (fun w hF hS => k68 (Ju w) (f0_2.mono (hw.now hF)) (f0_3.mono (hw.now hF)) (f0_4.mono (hw.now hF)) h_t12) call68 rfl rfl rfl<|ag (i6 t12)<|Jd<|Jc<|Ja<|mv (i6 t12)<|lv (Vk rfl rfl)<|Jd<|?_
 revert H35
 refine ci (decide (t12 ≠ 0)) rfl (fun hb H36=>?_) fun hb H37=>?_
 ·refine Jc<|Ja<|mv (i6 t12)<|ag (i6 t12)<|Jd<|Ji<|?_
  obtain rfl := sj H36
  exact r1 (i6 t12)
 ·refine Jh<|Jc<|Ja<|lf Tryz.runUnderlying81 rfl Tryz.sizeOf3 rfl<|ll 0 (i6 a0.kad) Tryz.isAgg3<|?_
  obtain ⟨t19, h_t19, H38⟩ := Je H37; clear H37
  refine Qm (k113 h_t19) call113 rfl rfl rfl<|mv (.tuple #[i6 t19.1, i6 t19.2])<|lv (Jo (v := i6 t19.1) rfl rfl)<|lv (Jo (v := i6 t19.2) rfl rfl)<|ag (i6 t19.1)<|ag (i6 t19.2)<|Jd<|?_
  refine Qe (r := r) (σ := Unit) (τ := Unit) (fun s => W1 a0) (fun s t => [(1, pz b2)]) (fun s t => [Jn b2 [i6 a0.kad, str a0.kae, v0_2, v0_3, v0_4] 81]) (fun s t => True) ?_ ?_
  ·refine Jc<|Ja<|lf Tryz.runUnderlying81 rfl Tryz.sizeOf76 rfl<|ll 0 v0_2 Tryz.isAgg76<|lv (Z8 Tryz.underlying76 rfl f0_2 rfl)<|mv (i6 0)<|Jd<|Jp<|?_
   refine Xu (σ := Int) (τ := Unit) (fun next5 s => Yf a0 t19 next5 s) (fun s t => [(1, pz b2), (4, i6 t19.1), (5, i6 t19.2), (23, v0_2), (24, i6 (a0.kaf.length : Int)), (25, i6 s)]) (fun s t => [Jn b2 [i6 a0.kad, str a0.kae, v0_2, v0_3, v0_4] 81]) (fun s t => True) 0 () [0] H38 (by exact trivial) (by exact ⟨rfl, rfl, rfl, rfl, rfl, rfl, trivial⟩) (by decide) rfl ?_
   rintro x25_2 _ m5 gg H61 _
   clear H38
   try dsimp only at H61
   generalize hn5 : it (fun next5 s => Yf a0 t19 next5 s) m5 = next5 at H61
   try dsimp only
   refine Jc<|Ja<|lv (Xk rfl rfl)<|Jd<|Jc<|?_
   revert H61
   refine ci (decide (x25_2 < (a0.kaf.length : Int))) rfl (fun hb H62=>?_) fun hb H68=>?_
   ·refine Jh<|Jc<|Jp<|Jc<|Ja<|?_
    obtain ⟨t27, h_t27, H63⟩ := Je H62; clear H62
    refine lv (Q7 Tryz.underlying76 Tryz.sizeOf3 rfl rfl f0_2 h_t27)<|Qf (fun w hF hS => Qb (f := Qz) (i := x25_2) (sz := 1) (j := 0) (v := i6 t27) Tryz.isAgg3 rfl rfl (f0_2.row (hw.now hF)) h_t27 rfl) rfl rfl rfl<|ag (i6 t27)<|Jd<|Jc<|Ja<|mv (i6 t27)<|mv (i6 t19.1)<|mv (i6 t19.2)<|?_
    obtain ⟨t32, h_t32, H64⟩ := Je H63; clear H63
    refine Qm (k66 h_t32) call66 rfl rfl rfl<|Jd<|?_
    revert H64
    refine ci t32 rfl (fun hb H65=>?_) fun hb H66=>?_
    ·refine Jc<|Ja<|ag (i6 2)<|Jd<|Ji<|?_
     obtain rfl := sj H65
     exact r1 (i6 2)
    ·refine Jh<|Ja<|?_
     obtain ⟨t33, h_t33, H67⟩ := Je H66; clear H66
     refine lv (J8 rfl rfl h_t33)<|mv (i6 t33)<|Jd<|?_
     exact cl t33 () m5 [0] (by exact ⟨(by subst hn5; exact H67), trivial⟩)
   ·refine Qp ?_
    exact cl () () 0 [0] (by exact ⟨H68, trivial⟩)
  ·rintro _ _ gg H39 _
   try dsimp only at H39
   try dsimp only
   refine Qe (r := r) (σ := Unit) (τ := Unit) (fun s => W5 a0) (fun s t => [(1, pz b2)]) (fun s t => [Jn b2 [i6 a0.kad, str a0.kae, v0_2, v0_3, v0_4] 81]) (fun s t => True) ?_ ?_
   ·refine Jc<|Ja<|lf Tryz.runUnderlying81 rfl Tryz.sizeOf79 rfl<|ll 0 v0_3 Tryz.isAgg79<|lv (Z8 Tryz.underlying79 rfl f0_3 rfl)<|mv (i6 0)<|Jd<|Jp<|?_
    refine Xu (σ := Int) (τ := Unit) (fun next4 s => Yd a0 next4 s) (fun s t => [(1, pz b2), (35, v0_3), (36, i6 (a0.kac.length : Int)), (37, i6 s)]) (fun s t => [Jn b2 [i6 a0.kad, str a0.kae, v0_2, v0_3, v0_4] 81]) (fun s t => True) 0 () [0] H39 (by exact trivial) (by exact ⟨rfl, rfl, rfl, rfl, trivial⟩) (by decide) rfl ?_
    rintro x37_2 _ m4 gg H50 _
    clear H39
    try dsimp only at H50
    generalize hn4 : it (fun next4 s => Yd a0 next4 s) m4 = next4 at H50
    try dsimp only
    refine Jc<|Ja<|lv (Xk rfl rfl)<|Jd<|Jc<|?_
    revert H50
    refine ci (decide (x37_2 < (a0.kac.length : Int))) rfl (fun hb H51=>?_) fun hb H60=>?_
    ·refine Jh<|Jc<|Jp<|Jc<|Ja<|?_
     obtain ⟨t39, h_t39, H52⟩ := Je H51; clear H51
     refine lv (Q7 Tryz.underlying79 Tryz.sizeOf70 rfl rfl f0_3 h_t39)<|Qf (fun w hF hS => Yl (f := Jl) (i := x37_2) (sz := 2) (j := 0) (vs := [i6 t39.Num, i6 t39.Den]) isAgg70 Tryz.sizeOf70 rfl rfl (f0_3.row (hw.now hF)) h_t39 rfl) rfl rfl rfl<|?_
     refine Xi (cs := [i6 0, i6 0]) zeroValue70 rfl rfl rfl (fun b3 => ?_)
     refine st (i := 1) [i6 t39.Num, i6 t39.Den] [i6 t39.Num, i6 t39.Den] Tryz.sizeOf70 rfl rfl<|Jd<|Jc<|Ja<|lf Tryz.runUnderlying70 rfl Tryz.sizeOf3 rfl<|ll 1 (i6 t39.Num) Tryz.isAgg3<|?_
     obtain ⟨t43, h_t43, H53⟩ := Je H52; clear H52
     refine Qm (k66 h_t43) call66 rfl rfl rfl<|mv (.bool t43)<|?_
     revert H53
     refine sp (fun hb H54=>?_) fun hb H55=>?_
     ·refine pa<|pa<|pa<|pT (.bool true)<|Jd<|Yc rfl<|Jc<|Ja<|ag (i6 2)<|Jd<|Ji<|?_
      obtain rfl := sj H54
      exact r1 (i6 2)
     ·refine lf Tryz.runUnderlying70 rfl Tryz.sizeOf3 rfl<|ll 1 (i6 t39.Den) Tryz.isAgg3<|?_
      obtain ⟨t47, h_t47, H56⟩ := Je H55; clear H55
      refine Qm (k66 h_t47) call66 rfl rfl rfl<|pF (.bool t47)<|Jd<|?_
      revert H56
      refine ci t47 rfl (fun hb H57=>?_) fun hb H58=>?_
      ·refine Jc<|Ja<|ag (i6 2)<|Jd<|Ji<|?_
       obtain rfl := sj H57
       exact r1 (i6 2)
      ·refine Jh<|Ja<|?_
       obtain ⟨t49, h_t49, H59⟩ := Je H58; clear H58
       refine lv (J8 rfl rfl h_t49)<|mv (i6 t49)<|Jd<|?_
       exact cl t49 () m4 [0] (by exact ⟨(by subst hn4; exact H59), trivial⟩)
    ·refine Qp ?_
     exact cl () () 0 [0] (by exact ⟨H60, trivial⟩)
   ·rintro _ _ gg H40 _
    try dsimp only at H40
    try dsimp only
    refine Jc<|Jc<|Ja<|lf Tryz.runUnderlying81 rfl Tryz.sizeOf3 rfl<|ll 0 (i6 a0.kad) Tryz.isAgg3<|lv (Qd rfl rfl)<|Jd<|?_
    revert H40
    refine ci (decide (a0.kad = 2)) rfl (fun hb H41=>?_) fun hb H49=>?_
    ·refine Jc<|Ja<|lf Tryz.runUnderlying81 rfl Tryz.sizeOf9 rfl<|ll 0 (str a0.kae) Tryz.isAgg9<|lv (Xc Tryz.underlying9 rfl)<|mv (i6 0)<|Jd<|Jp<|?_
     refine Xu (σ := Int) (τ := Unit) (fun next3 s => Y6 a0 next3 s) (fun s t => [(1, pz b2), (55, i6 (a0.kae.length : Int)), (56, i6 s)]) (fun s t => [Jn b2 [i6 a0.kad, str a0.kae, v0_2, v0_3, v0_4] 81]) (fun s t => True) 0 () [0] H41 (by exact trivial) (by exact ⟨rfl, rfl, rfl, trivial⟩) (by decide) rfl ?_
     rintro x56_2 _ m3 gg H42 _
     clear H41
     try dsimp only at H42
     generalize hn3 : it (fun next3 s => Y6 a0 next3 s) m3 = next3 at H42
     try dsimp only
     refine Jc<|Ja<|lv (Xk rfl rfl)<|Jd<|Jc<|?_
     revert H42
     refine ci (decide (x56_2 < (a0.kae.length : Int))) rfl (fun hb H43=>?_) fun hb H48=>?_
     ·refine Jh<|Jc<|Jp<|Jc<|Ja<|mv (i6 x56_2)<|ag (i6 x56_2)<|Jd<|Jc<|Ja<|lf Tryz.runUnderlying81 rfl Tryz.sizeOf9 rfl<|ll 0 (str a0.kae) Tryz.isAgg9<|mv (i6 x56_2)<|?_
      obtain ⟨t62, h_t62, H44⟩ := Je H43; clear H43
      refine lv (Zs Tryz.underlying9 rfl rfl h_t62)<|lv (Qd rfl rfl)<|Jd<|?_
      revert H44
      refine ci (decide (t62 = 0)) rfl (fun hb H45=>?_) fun hb H46=>?_
      ·refine Jc<|Ja<|ag (i6 9)<|Jd<|Ji<|?_
       obtain rfl := sj H45
       exact r1 (i6 9)
      ·refine Jh<|Ja<|?_
       obtain ⟨t64, h_t64, H47⟩ := Je H46; clear H46
       refine lv (J8 rfl rfl h_t64)<|mv (i6 t64)<|Jd<|?_
       exact cl t64 () m3 [0] (by exact ⟨(by subst hn3; exact H47), trivial⟩)
     ·refine Qp<|Jc<|Ja<|ag (i6 0)<|Jd<|Ji<|?_
      obtain rfl := sj H48
      exact r1 (i6 0)
    ·refine Jh<|Jc<|Ja<|ag (i6 0)<|Jd<|Ji<|?_
     obtain rfl := sj H49
     exact r1 (i6 0)
theorem k34_it (mm : Nat) : ∀ {a0 : (List Ta)} {v0 : Value} {a1 : Int} {r : Int} {w : World} {h : Jw} (hw : Know h w Ys) (f0 : FrN h 6 v0 g_tag_Entry a0) (H : it (fun (self : ((List Ta) × Int) → Option (Int)) (s : (List Ta) × Int) => Y9 self s.1 s.2) mm (a0, a1) = some r), Does prog 34 (List.toArray [v0, i6 a1]) w (fun v w' => v = (i6 r) ∧ Grow w w') := by
 induction mm with
 | zero => intros; rename_i H; exact absurd H (by simp [it])
 | succ mm ih =>
  intro a0 v0 a1 r w h hw f0 H
  replace H : Y9 (it (fun (self : ((List Ta) × Int) → Option (Int)) (s : (List Ta) × Int) => Y9 self s.1 s.2) mm) a0 a1 = some r := H
  generalize it (fun (self : ((List Ta) × Int) → Option (Int)) (s : (List Ta) × Int) => Y9 self s.1 s.2) mm = self at H ih
  refine enter (n := 62) func34 rfl rfl rfl Ys [] (Sat.nil _ _)<|Jc<|Ja<|ag (i6 0)<|Jd<|Jc<|Jc<|Ja<|mv (i6 a1)<|lv (Ye rfl rfl)<|mv (.bool (decide (5 < a1)))<|?_
  revert H
  refine sp (fun hb H31=>?_) fun hb H32=>?_
  ·refine pa<|pa<|pa<|pT (.bool true)<|Jd<|Yc rfl<|Jc<|Ja<|ag (i6 4)<|Jd<|Ji<|?_
   obtain rfl := sj H31
   exact r1 (i6 4)
  ·refine mv v0<|lv (Xw Tryz.underlying41 rfl f0)<|lv (Ye rfl rfl)<|pF (.bool (decide (200 < (a0.length : Int))))<|Jd<|?_
   revert H32
   refine ci (decide (200 < (a0.length : Int))) rfl (fun hb H33=>?_) fun hb H34=>?_
   ·refine Jc<|Ja<|ag (i6 4)<|Jd<|Ji<|?_
    obtain rfl := sj H33
    exact r1 (i6 4)
   ·refine Jh<|Jc<|Jc<|Ja<|mv v0<|lv (Xw Tryz.underlying41 rfl f0)<|mv (i6 0)<|Jd<|Jp<|?_
    refine Xu (σ := Int) (τ := Unit) (fun next1 s => Jal a0 a1 self next1 s) (fun s t => [(0, v0), (1, i6 a1), (15, v0), (16, i6 (a0.length : Int)), (17, i6 s)]) (fun s t => []) (fun s t => True) 0 () [] H34 (by exact trivial) (by exact ⟨rfl, rfl, rfl, rfl, rfl, trivial⟩) (by decide) rfl ?_
    rintro x17_2 _ m1 gg H35 _
    clear H34
    try dsimp only at H35
    generalize hn1 : it (fun next1 s => Jal a0 a1 self next1 s) m1 = next1 at H35
    try dsimp only
    refine Jc<|Ja<|lv (Xk rfl rfl)<|Jd<|Jc<|?_
    revert H35
    refine ci (decide (x17_2 < (a0.length : Int))) rfl (fun hb H36=>?_) fun hb H60=>?_
    ·refine Jh<|Jc<|Jp<|Jc<|Ja<|mv (i6 x17_2)<|?_
     obtain ⟨t20, h_t20, H37⟩ := Je H36; clear H36
     refine lv (Q7 Tryz.underlying41 Tryz.sizeOf83 rfl rfl f0.frs (f0.ix h_t20))<|Qf (fun w hF hS => Yl (f := (elC h v0 6)) (i := x17_2) (sz := 6) (j := 0) (vs := [i6 t20.Tag, i6 t20.Value.kad, str t20.Value.kae, (Qq h v0 6 (Int.toNat x17_2) 3), (Qq h v0 6 (Int.toNat x17_2) 4), (Qq h v0 6 (Int.toNat x17_2) 5)]) isAgg83 Tryz.sizeOf83 rfl rfl (f0.frs.row (hw.now hF)) (f0.ix h_t20) (rd_of (Zt (f0.at h_t20)) rfl)) rfl rfl rfl<|?_
     refine Xi (cs := [i6 0, i6 0, str [], z0s, z0s, z0s]) zeroValue83 rfl rfl rfl (fun b1 => ?_)
     refine ag (i6 x17_2)<|Qu (i := 0) (vs := [i6 t20.Tag, i6 t20.Value.kad, str t20.Value.kae, (Qq h v0 6 (Int.toNat x17_2) 3), (Qq h v0 6 (Int.toNat x17_2) 4), (Qq h v0 6 (Int.toNat x17_2) 5)]) (cs' := [i6 t20.Tag, i6 t20.Value.kad, str t20.Value.kae, (Qq h v0 6 (Int.toNat x17_2) 3), (Qq h v0 6 (Int.toNat x17_2) 4), (Qq h v0 6 (Int.toNat x17_2) 5)]) Tryz.sizeOf83 rfl rfl rfl rfl rfl rfl (by simp only [List.all_cons, List.all_nil, (show FrN h 6 (Qq h v0 6 (Int.toNat x17_2) 5) g_tag_Entry t20.Value.kab from (J6 (Jj (f0.at h_t20)))).one, (show FrS h 1 (Qq h v0 6 (Int.toNat x17_2) 3) (t20.Value.kaf.map Qz) from (Qi (Jj (f0.at h_t20)))).one, (show FrS h 2 (Qq h v0 6 (Int.toNat x17_2) 4) (t20.Value.kac.map Jl) from (Qj (Jj (f0.at h_t20)))).one] <;> rfl) rfl rfl<|Jd<|?_
     refine Qe (r := r) (σ := Unit) (τ := Unit) (fun s => Jb1 a1 self x17_2 next1 t20) (fun s t => [(0, v0), (1, i6 a1), (6, pz b1), (15, v0), (16, i6 (a0.length : Int)), (17, i6 x17_2)]) (fun s t => [Jn b1 [i6 t20.Tag, i6 t20.Value.kad, str t20.Value.kae, (Qq h v0 6 (Int.toNat x17_2) 3), (Qq h v0 6 (Int.toNat x17_2) 4), (Qq h v0 6 (Int.toNat x17_2) 5)] 83]) (fun s t => True) ?_ ?_
     ·refine Jp<|Jc<|Ja<|lf Tryz.runUnderlying83 rfl Tryz.sizeOf3 rfl<|ll 0 (i6 t20.Tag) Tryz.isAgg3<|?_
      obtain ⟨t25, h_t25, H51⟩ := Je H37; clear H37
      refine Qm (k66 h_t25) call66 rfl rfl rfl<|ag (.bool t25)<|Jd<|?_
      revert H51
      refine ci t25 rfl (fun hb H52=>?_) fun hb H53=>?_
      ·refine Jc<|Ja<|ag (i6 2)<|Jd<|Ji<|?_
       obtain rfl := sj H52
       exact r1 (i6 2)
      ·refine Jc ?_
       exact Qv (Kd.p :: Kd.p :: Kd.p :: Kd.p :: Kd.d [0] _ :: Kd.p :: Kd.p :: Kd.p :: Kd.p :: Kd.p :: Kd.d [] _ :: Kd.p :: Kd.p :: Kd.p :: []) 0 mixed (by
        refine dm (i6 x17_2)<|dv (Ye rfl rfl)<|dm (.bool (decide (0 < x17_2)))<|?_
        refine Jc5 (fun hb => ?_) (fun hb => ?_)
        ·have H54 := Xn hb H53
         refine dv (Jr Tryz.runUnderlying83 rfl Tryz.sizeOf3 rfl rfl)<|dl (i6 t20.Tag) Tryz.isAgg3<|dm v0<|dm (i6 x17_2)<|?_
         have h_t34 := J4 H54
         have H55 := J0 H54
         refine dv (Vh rfl rfl h_t34) ?_
         have h_t35 := J4 H55
         have H56 := J0 H55
         refine dv (Q7 Tryz.underlying41 Tryz.sizeOf83 rfl rfl f0.frs (f0.ix h_t35))<|dv (Jjs Tryz.runUnderlying83 rfl Tryz.sizeOf3 rfl rfl (Jj1 f0.frs (f0.ix h_t35)))<|Jit (fun w hF => Qb (f := (elC h v0 6)) (i := (val (gI (x17_2 - 1)))) (sz := 6) (j := 0) (v := i6 (val (Yv a0 (val (gI (x17_2 - 1))))).Tag) Tryz.isAgg3 rfl rfl (f0.frs.row (hw.now hF)) (f0.ix h_t35) (Jgi (Zt (f0.at h_t35)) rfl)) rfl rfl<|dv (r_leq rfl rfl)<|dv (Xp (v := .bool (decide (t20.Tag ≤ (val (Yv a0 (val (gI (x17_2 - 1))))).Tag))) rfl rfl)<|Jq rfl rfl (Jg (v := .bool (decide (t20.Tag ≤ (val (Yv a0 (val (gI (x17_2 - 1))))).Tag))) rfl)<|X6<|?_
         revert H56
         refine ci (decide (t20.Tag ≤ (val (Yv a0 (val (gI (x17_2 - 1))))).Tag)) rfl (fun hb H57=>?_) fun hb H58=>?_
         ·refine Jc<|Ja<|ag (i6 5)<|Jd<|Ji<|?_
          obtain rfl := sj H57
          exact r1 (i6 5)
         ·refine Jh ?_
          exact cl () () 0 [0] (by exact ⟨H58, trivial⟩)
        ·have H59 := Xg hb H53
         refine dp<|dp<|dp<|dp<|dp<|dp<|dp<|dp<|dp<|dv (X4 (v := .bool false) rfl rfl)<|Jq rfl rfl (Jg (v := .bool false) rfl)<|X6<|Zc rfl<|Jh<|?_
         exact cl () () 0 [0] (by exact ⟨H59, trivial⟩)
        ) (by kernel_rfl)
     ·rintro _ _ gg H38 _
      try dsimp only at H38
      try dsimp only
      refine Jc<|Ja<|ag (i6 0)<|Jd<|?_
      refine Qe (r := r) (σ := Int) (τ := Unit) (fun s => Wx x17_2 next1 s) (fun s t => [(0, v0), (1, i6 a1), (7, i6 s), (15, v0), (16, i6 (a0.length : Int)), (17, i6 x17_2)]) (fun s t => []) (fun s t => True) ?_ ?_
      ·refine Jc<|Ja<|lf Tryz.runUnderlying83 rfl Tryz.sizeOf81 rfl<|lf Tryz.runUnderlying81 rfl Tryz.sizeOf3 rfl<|ll 0 (i6 t20.Value.kad) Tryz.isAgg3<|lv (Vk rfl rfl)<|Jd<|?_
       revert H38
       refine ci (decide (t20.Value.kad ≠ 13)) rfl (fun hb H43=>?_) fun hb H45=>?_
       ·refine Ja<|lf Tryz.runUnderlying83 rfl Tryz.sizeOf81 rfl<|Q0 (i := 0) (vs := [i6 t20.Value.kad, str t20.Value.kae, (Qq h v0 6 (Int.toNat x17_2) 3), (Qq h v0 6 (Int.toNat x17_2) 4), (Qq h v0 6 (Int.toNat x17_2) 5)]) Tryz.isAgg81 Tryz.sizeOf81 rfl rfl rfl rfl rfl<|?_
        obtain ⟨t46, h_t46, H44⟩ := Je H43; clear H43
        refine Qt (fun w hF hS => k67 (Ju w) ((show FrS h 1 (Qq h v0 6 (Int.toNat x17_2) 3) (t20.Value.kaf.map Qz) from (Qi (Jj (f0.at h_t20)))).mono (hw.now hF)) ((show FrS h 2 (Qq h v0 6 (Int.toNat x17_2) 4) (t20.Value.kac.map Jl) from (Qj (Jj (f0.at h_t20)))).mono (hw.now hF)) ((show FrN h 6 (Qq h v0 6 (Int.toNat x17_2) 5) g_tag_Entry t20.Value.kab from (J6 (Jj (f0.at h_t20)))).mono (hw.now hF)) h_t46) call67 rfl rfl rfl<|ag (i6 t46)<|Jd<|?_
        exact cl t46 () 0 [] (by exact ⟨H44, trivial⟩)
       ·refine Jc<|Ja<|lf Tryz.runUnderlying83 rfl Tryz.sizeOf81 rfl<|Q0 (i := 0) (vs := [i6 t20.Value.kad, str t20.Value.kae, (Qq h v0 6 (Int.toNat x17_2) 3), (Qq h v0 6 (Int.toNat x17_2) 4), (Qq h v0 6 (Int.toNat x17_2) 5)]) Tryz.isAgg81 Tryz.sizeOf81 rfl rfl rfl rfl rfl<|?_
        obtain ⟨t49, h_t49, H46⟩ := Je H45; clear H45
        refine Qt (fun w hF hS => k68 (Ju w) ((show FrS h 1 (Qq h v0 6 (Int.toNat x17_2) 3) (t20.Value.kaf.map Qz) from (Qi (Jj (f0.at h_t20)))).mono (hw.now hF)) ((show FrS h 2 (Qq h v0 6 (Int.toNat x17_2) 4) (t20.Value.kac.map Jl) from (Qj (Jj (f0.at h_t20)))).mono (hw.now hF)) ((show FrN h 6 (Qq h v0 6 (Int.toNat x17_2) 5) g_tag_Entry t20.Value.kab from (J6 (Jj (f0.at h_t20)))).mono (hw.now hF)) h_t49) call68 rfl rfl rfl<|ag (i6 t49)<|Jd<|Jc<|Ja<|mv (i6 t49)<|lv (Qd rfl rfl)<|Jd<|?_
        revert H46
        refine ci (decide (t49 = 0)) rfl (fun hb H47=>?_) fun hb H50=>?_
        ·refine Ja<|lf Tryz.runUnderlying83 rfl Tryz.sizeOf81 rfl<|lf Tryz.runUnderlying81 rfl Tryz.sizeOf41 rfl<|ll 0 (Qq h v0 6 (Int.toNat x17_2) 5) Tryz.isAgg41<|mv (i6 a1)<|?_
         obtain ⟨t56, h_t56, H48⟩ := Je H47; clear H47
         refine lv (J8 rfl rfl h_t56) ?_
         obtain ⟨t57, h_t57, H49⟩ := Je H48; clear H48
         refine Qt (fun w hF hS => ih (Ju w) ((show FrN h 6 (Qq h v0 6 (Int.toNat x17_2) 5) g_tag_Entry t20.Value.kab from (J6 (Jj (f0.at h_t20)))).mono (hw.now hF)) h_t57) call34 rfl rfl rfl<|ag (i6 t57)<|Jd<|?_
         exact cl t57 () 0 [] (by exact ⟨H49, trivial⟩)
        ·refine Jh ?_
         exact cl t49 () 0 [] (by exact ⟨H50, trivial⟩)
      ·rintro x7 _ gg H39 _
       try dsimp only at H39
       try dsimp only
       refine Jc<|Ja<|mv (i6 x7)<|lv (Vk rfl rfl)<|Jd<|?_
       revert H39
       refine ci (decide (x7 ≠ 0)) rfl (fun hb H40=>?_) fun hb H41=>?_
       ·refine Jc<|Ja<|mv (i6 x7)<|ag (i6 x7)<|Jd<|Ji<|?_
        obtain rfl := sj H40
        exact r1 (i6 x7)
       ·refine Jh<|Ja<|?_
        obtain ⟨t61, h_t61, H42⟩ := Je H41; clear H41
        refine lv (J8 rfl rfl h_t61)<|mv (i6 t61)<|Jd<|?_
        exact cl t61 () m1 [] (by exact ⟨(by subst hn1; exact H42), trivial⟩)
    ·refine Qp<|Jc<|Ja<|ag (i6 0)<|Jd<|Ji<|?_
     obtain rfl := sj H60
     exact r1 (i6 0)
theorem k34 {a0 : (List Ta)} {v0 : Value} {a1 : Int} {r : Int} {w : World} {h : Jw} (hw : Know h w Ys) (f0 : FrN h 6 v0 g_tag_Entry a0) (H : Jcm a0 a1 = some r) : Does prog 34 (List.toArray [v0, i6 a1]) w (fun v w' => v = (i6 r) ∧ Grow w w') := by
 obtain ⟨mm, hm⟩ := Jfz (show Yz (fun (self : ((List Ta) × Int) → Option (Int)) (s : (List Ta) × Int) => Y9 self s.1 s.2) (a0, a1) = some r from H)
 exact k34_it mm hw f0 hm
theorem k117 {a0 : Int} {r : Int} (H : Jer a0 = some r) : Ret prog 117 [i6 a0] (i6 r) := by
 refine Qr (n := 7) func117 rfl rfl rfl (fun wd => ?_)
 refine Jc<|Ja<|ag (i6 0)<|Jd<|Jc<|Ja<|mv (i6 a0)<|mv (i6 a0)<|?_
 obtain ⟨t5, h_t5, H3⟩ := Je H; clear H
 refine lv (r_remG rfl rfl h_t5) ?_
 obtain ⟨t6, h_t6, H4⟩ := Je H3; clear H3
 refine lv (J8 rfl rfl h_t6)<|ag (i6 t6)<|Jd<|Ji<|?_
 obtain rfl := sj H4
 exact r1 (i6 t6)
theorem k111 {a0 : Tb} {v0_2 : Value} {v0_3 : Value} {v0_4 : Value} {r : Int} {w : World} {h : Jw} (hw : Know h w Ys) (f0_2 : FrS h 1 v0_2 (a0.kaf.map Qz)) (f0_3 : FrS h 2 v0_3 (a0.kac.map Jl)) (f0_4 : FrN h 6 v0_4 g_tag_Entry a0.kab) (H : Jea a0 = some r) : Does prog 111 (List.toArray [.agg #[i6 a0.kad, str a0.kae, v0_2, v0_3, v0_4]]) w (fun v w' => v = (i6 r) ∧ Grow w w') := by
 refine enter (n := 26) func111 rfl rfl rfl Ys [] (Sat.nil _ _)<|Jc<|Ja<|?_
 refine Vv (cs := [i6 a0.kad, str a0.kae, v0_2, v0_3, v0_4]) rfl rfl rfl rfl (fun b1 => ?_)
 refine ag (i6 0)<|Jd<|Jc<|Jc<|Ja<|lf Tryz.runUnderlying81 rfl Tryz.sizeOf3 rfl<|ll 0 (i6 a0.kad) Tryz.isAgg3<|Jd<|Jp<|Jc<|Ja<|lv (Qd rfl rfl)<|ag (.bool (decide (a0.kad = 2)))<|Jd<|?_
 revert H
 refine ci (decide (a0.kad = 2)) rfl (fun hb H10=>?_) fun hb H12=>?_
 ·refine Jc<|Ja<|lf Tryz.runUnderlying81 rfl Tryz.sizeOf9 rfl<|ll 0 (str a0.kae) Tryz.isAgg9<|lv (Xc Tryz.underlying9 rfl)<|?_
  obtain ⟨t10, h_t10, H11⟩ := Je H10; clear H10
  refine lv (J8 rfl rfl h_t10)<|ag (i6 t10)<|Jd<|Ji<|?_
  obtain rfl := sj H11
  exact r1 (i6 t10)
 ·refine Jc<|Ja<|lv (Qd rfl rfl)<|ag (.bool (decide (a0.kad = 7)))<|Jd<|?_
  revert H12
  refine ci (decide (a0.kad = 7)) rfl (fun hb H13=>?_) fun hb H14=>?_
  ·refine Jc<|Ja<|lf Tryz.runUnderlying81 rfl Tryz.sizeOf9 rfl<|ll 0 (str a0.kae) Tryz.isAgg9<|lv (Xc Tryz.underlying9 rfl)<|ag (i6 (a0.kae.length : Int))<|Jd<|Ji<|?_
   obtain rfl := sj H13
   exact r1 (i6 (a0.kae.length : Int))
  ·refine Jc<|Ja<|lv (Qd rfl rfl)<|ag (.bool (decide (a0.kad = 5)))<|Jd<|?_
   revert H14
   refine ci (decide (a0.kad = 5)) rfl (fun hb H15=>?_) fun hb H16=>?_
   ·refine Jc<|Ja<|lf Tryz.runUnderlying81 rfl Tryz.sizeOf79 rfl<|ll 0 v0_3 Tryz.isAgg79<|lv (Z8 Tryz.underlying79 rfl f0_3 rfl)<|ag (i6 (a0.kac.length : Int))<|Jd<|Ji<|?_
    obtain rfl := sj H15
    exact r1 (i6 (a0.kac.length : Int))
   ·refine Jc<|Ja<|lv (Qd rfl rfl)<|ag (.bool (decide (a0.kad = 13)))<|Jd<|?_
    revert H16
    refine ci (decide (a0.kad = 13)) rfl (fun hb H17=>?_) fun hb H18=>?_
    ·refine Jc<|Ja<|ag (i6 1)<|Jd<|Ji<|?_
     obtain rfl := sj H17
     exact r1 (i6 1)
    ·refine Jh<|Jc<|Ja<|lf Tryz.runUnderlying81 rfl Tryz.sizeOf76 rfl<|ll 0 v0_2 Tryz.isAgg76<|lv (Z8 Tryz.underlying76 rfl f0_2 rfl)<|ag (i6 (a0.kaf.length : Int))<|Jd<|Ji<|?_
     obtain rfl := sj H18
     exact r1 (i6 (a0.kaf.length : Int))
theorem k118 {a0 : Tb} {v0_2 : Value} {v0_3 : Value} {v0_4 : Value} {r : Int} {w : World} {h : Jw} (hw : Know h w Ys) (f0_2 : FrS h 1 v0_2 (a0.kaf.map Qz)) (f0_3 : FrS h 2 v0_3 (a0.kac.map Jl)) (f0_4 : FrN h 6 v0_4 g_tag_Entry a0.kab) (H : U8 a0 = some r) : Does prog 118 (List.toArray [.agg #[i6 a0.kad, str a0.kae, v0_2, v0_3, v0_4]]) w (fun v w' => v = (i6 r) ∧ Grow w w') := by
 refine enter (n := 9) func118 rfl rfl rfl Ys [] (Sat.nil _ _)<|Jc<|Ja<|?_
 refine Vv (cs := [i6 a0.kad, str a0.kae, v0_2, v0_3, v0_4]) rfl rfl rfl rfl (fun b1 => ?_)
 refine ag (i6 0)<|Jd<|Jc<|?_
 exact Qv (Kd.d [0] _ :: Kd.d [] _ :: Kd.p :: Kd.d [0] _ :: Kd.d [] _ :: Kd.p :: Kd.p :: []) 0 mixed (by
  refine Jfs (i := 0) (vs := [i6 a0.kad, str a0.kae, v0_2, v0_3, v0_4]) Tryz.isAgg81 Tryz.sizeOf81 rfl rfl rfl rfl ?_
  have h_t4 := J4 H
  have H4 := J0 H
  refine Je0 (fun w L' hF hS hi => k111 (Ju w) (f0_2.mono (hw.now hF)) (f0_3.mono (hw.now hF)) (f0_4.mono (hw.now hF)) h_t4) call111 rfl rfl<|dv (Jr Tryz.runUnderlying81 rfl Tryz.sizeOf3 rfl rfl)<|dl (i6 a0.kad) Tryz.isAgg3<|?_
  have h_t7 := J4 H4
  have H5 := J0 H4
  refine Jb9 (k114 h_t7) call114 rfl rfl ?_
  have h_t8 := J4 H5
  have H6 := J0 H5
  refine dv (Jhj rfl rfl h_t8)<|Jq rfl rfl (Jg (v := i6 (val (gI ((val (Jea a0)) * (val (Jb4 a0.kad)))))) rfl)<|X6<|Ji<|?_
  obtain rfl := sj H6
  exact r1 (i6 (val (gI ((val (Jea a0)) * (val (Jb4 a0.kad))))))
  ) (by kernel_rfl)
theorem k69_it (mm : Nat) : ∀ {a0 : (List Ta)} {v0 : Value} {a1 : Int} {r : Int} {w : World} {h : Jw} (hw : Know h w Ys) (f0 : FrN h 6 v0 g_tag_Entry a0) (H : it (fun (self : ((List Ta) × Int) → Option (Int)) (s : (List Ta) × Int) => Z4 self s.1 s.2) mm (a0, a1) = some r), Does prog 69 (List.toArray [v0, i6 a1]) w (fun v w' => v = (i6 r) ∧ Grow w w') := by
 induction mm with
 | zero => intros; rename_i H; exact absurd H (by simp [it])
 | succ mm ih =>
  intro a0 v0 a1 r w h hw f0 H
  replace H : Z4 (it (fun (self : ((List Ta) × Int) → Option (Int)) (s : (List Ta) × Int) => Z4 self s.1 s.2) mm) a0 a1 = some r := H
  generalize it (fun (self : ((List Ta) × Int) → Option (Int)) (s : (List Ta) × Int) => Z4 self s.1 s.2) mm = self at H ih
  refine enter (n := 44) func69 rfl rfl rfl Ys [] (Sat.nil _ _)<|Jc<|Ja<|ag (i6 0)<|Jd<|Jc<|Ja<|mv (i6 a1)<|?_
  obtain ⟨t8, h_t8, H21⟩ := Je H; clear H
  refine Qm (k117 h_t8) call117 rfl rfl rfl ?_
  obtain ⟨t9, h_t9, H22⟩ := Je H21; clear H21
  refine lv (J8 rfl rfl h_t9)<|mv v0<|lv (Xw Tryz.underlying41 rfl f0)<|?_
  obtain ⟨t12, h_t12, H23⟩ := Je H22; clear H22
  refine lv (Jhj rfl rfl h_t12) ?_
  obtain ⟨t13, h_t13, H24⟩ := Je H23; clear H23
  refine lv (J8 rfl rfl h_t13) ?_
  obtain ⟨t14, h_t14, H25⟩ := Je H24; clear H24
  refine lv (J8 rfl rfl h_t14)<|ag (i6 t14)<|Jd<|Jc<|Jc<|Ja<|mv v0<|lv (Xw Tryz.underlying41 rfl f0)<|mv (i6 0)<|Jd<|Jp<|?_
  refine Xu (σ := Int × Int) (τ := Unit) (fun next1 s => Vz a0 self next1 s.1 s.2) (fun s t => [(1, i6 s.1), (15, v0), (16, i6 (a0.length : Int)), (17, i6 s.2)]) (fun s t => []) (fun s t => True) (t14, 0) () [] H25 (by exact trivial) (by exact ⟨rfl, rfl, rfl, rfl, trivial⟩) (by decide) rfl ?_
  rintro ⟨x1_2, x17_2⟩ _ m1 gg H26 _
  clear H25
  try dsimp only at H26
  generalize hn1 : it (fun next1 s => Vz a0 self next1 s.1 s.2) m1 = next1 at H26
  try dsimp only
  refine Jc<|Ja<|lv (Xk rfl rfl)<|Jd<|Jc<|?_
  revert H26
  refine ci (decide (x17_2 < (a0.length : Int))) rfl (fun hb H27=>?_) fun hb H40=>?_
  ·refine Jh ?_
   refine Qe (r := r) (σ := Int) (τ := Unit) (fun s => Jao x17_2 next1 s) (fun s t => [(1, i6 s), (15, v0), (16, i6 (a0.length : Int)), (17, i6 x17_2)]) (fun s t => []) (fun s t => True) ?_ ?_
   ·refine Jp<|Jc<|Ja<|?_
    obtain ⟨t19, h_t19, H30⟩ := Je H27; clear H27
    refine lv (Q7 Tryz.underlying41 Tryz.sizeOf83 rfl rfl f0.frs (f0.ix h_t19))<|Qf (fun w hF hS => Yl (f := (elC h v0 6)) (i := x17_2) (sz := 6) (j := 0) (vs := [i6 t19.Tag, i6 t19.Value.kad, str t19.Value.kae, (Qq h v0 6 (Int.toNat x17_2) 3), (Qq h v0 6 (Int.toNat x17_2) 4), (Qq h v0 6 (Int.toNat x17_2) 5)]) isAgg83 Tryz.sizeOf83 rfl rfl (f0.frs.row (hw.now hF)) (f0.ix h_t19) (rd_of (Zt (f0.at h_t19)) rfl)) rfl rfl rfl<|?_
    refine Xi (cs := [i6 0, i6 0, str [], z0s, z0s, z0s]) zeroValue83 rfl rfl rfl (fun b1 => ?_)
    refine Qu (i := 0) (vs := [i6 t19.Tag, i6 t19.Value.kad, str t19.Value.kae, (Qq h v0 6 (Int.toNat x17_2) 3), (Qq h v0 6 (Int.toNat x17_2) 4), (Qq h v0 6 (Int.toNat x17_2) 5)]) (cs' := [i6 t19.Tag, i6 t19.Value.kad, str t19.Value.kae, (Qq h v0 6 (Int.toNat x17_2) 3), (Qq h v0 6 (Int.toNat x17_2) 4), (Qq h v0 6 (Int.toNat x17_2) 5)]) Tryz.sizeOf83 rfl rfl rfl rfl rfl rfl (by simp only [List.all_cons, List.all_nil, (show FrN h 6 (Qq h v0 6 (Int.toNat x17_2) 5) g_tag_Entry t19.Value.kab from (J6 (Jj (f0.at h_t19)))).one, (show FrS h 1 (Qq h v0 6 (Int.toNat x17_2) 3) (t19.Value.kaf.map Qz) from (Qi (Jj (f0.at h_t19)))).one, (show FrS h 2 (Qq h v0 6 (Int.toNat x17_2) 4) (t19.Value.kac.map Jl) from (Qj (Jj (f0.at h_t19)))).one] <;> rfl) rfl rfl<|Jd<|Jp<|Jc<|Ja<|lf Tryz.runUnderlying83 rfl Tryz.sizeOf81 rfl<|lf Tryz.runUnderlying81 rfl Tryz.sizeOf3 rfl<|ll 0 (i6 t19.Value.kad) Tryz.isAgg3<|lv (Qd rfl rfl)<|ag (.bool (decide (t19.Value.kad = 13)))<|Jd<|?_
    revert H30
    refine ci (decide (t19.Value.kad = 13)) rfl (fun hb H31=>?_) fun hb H33=>?_
    ·refine Ja<|lf Tryz.runUnderlying83 rfl Tryz.sizeOf81 rfl<|lf Tryz.runUnderlying81 rfl Tryz.sizeOf41 rfl<|ll 0 (Qq h v0 6 (Int.toNat x17_2) 5) Tryz.isAgg41<|mv (i6 x1_2)<|?_
     obtain ⟨t30, h_t30, H32⟩ := Je H31; clear H31
     refine Qt (fun w hF hS => ih (Ju w) ((show FrN h 6 (Qq h v0 6 (Int.toNat x17_2) 5) g_tag_Entry t19.Value.kab from (J6 (Jj (f0.at h_t19)))).mono (hw.now hF)) h_t30) call69 rfl rfl rfl<|ag (i6 t30)<|Jd<|?_
     exact cl t30 () 0 [] (by exact ⟨H32, trivial⟩)
    ·refine Jc<|Ja<|lf Tryz.runUnderlying83 rfl Tryz.sizeOf81 rfl<|Q0 (i := 0) (vs := [i6 t19.Value.kad, str t19.Value.kae, (Qq h v0 6 (Int.toNat x17_2) 3), (Qq h v0 6 (Int.toNat x17_2) 4), (Qq h v0 6 (Int.toNat x17_2) 5)]) Tryz.isAgg81 Tryz.sizeOf81 rfl rfl rfl rfl rfl<|?_
     obtain ⟨t34, h_t34, H34⟩ := Je H33; clear H33
     refine Qt (fun w hF hS => k118 (Ju w) ((show FrS h 1 (Qq h v0 6 (Int.toNat x17_2) 3) (t19.Value.kaf.map Qz) from (Qi (Jj (f0.at h_t19)))).mono (hw.now hF)) ((show FrS h 2 (Qq h v0 6 (Int.toNat x17_2) 4) (t19.Value.kac.map Jl) from (Qj (Jj (f0.at h_t19)))).mono (hw.now hF)) ((show FrN h 6 (Qq h v0 6 (Int.toNat x17_2) 5) g_tag_Entry t19.Value.kab from (J6 (Jj (f0.at h_t19)))).mono (hw.now hF)) h_t34) call118 rfl rfl rfl<|lv (Ye rfl rfl)<|ag (.bool (decide (4 < t34)))<|Jd<|?_
     revert H34
     refine ci (decide (4 < t34)) rfl (fun hb H35=>?_) fun hb H39=>?_
     ·exact Qv (Kd.p :: Kd.d [] _ :: Kd.p :: Kd.d [0] _ :: Kd.d [] _ :: Kd.p :: Kd.p :: []) 0 mixed (by
       refine dm (i6 x1_2) ?_
       have h_t37 := J4 H35
       have H36 := J0 H35
       refine Jb9 (k117 h_t37) call117 rfl rfl<|dv (Jr Tryz.runUnderlying83 rfl Tryz.sizeOf81 rfl rfl)<|Jfs (i := 0) (vs := [i6 t19.Value.kad, str t19.Value.kae, (Qq h v0 6 (Int.toNat x17_2) 3), (Qq h v0 6 (Int.toNat x17_2) 4), (Qq h v0 6 (Int.toNat x17_2) 5)]) Tryz.isAgg81 Tryz.sizeOf81 rfl rfl rfl rfl<|?_
       have h_t40 := J4 H36
       have H37 := J0 H36
       refine Je0 (fun w L' hF hS hi => k118 (Ju w) ((show FrS h 1 (Qq h v0 6 (Int.toNat x17_2) 3) (t19.Value.kaf.map Qz) from (Qi (Jj (f0.at h_t19)))).mono (hw.now hF)) ((show FrS h 2 (Qq h v0 6 (Int.toNat x17_2) 4) (t19.Value.kac.map Jl) from (Qj (Jj (f0.at h_t19)))).mono (hw.now hF)) ((show FrN h 6 (Qq h v0 6 (Int.toNat x17_2) 5) g_tag_Entry t19.Value.kab from (J6 (Jj (f0.at h_t19)))).mono (hw.now hF)) h_t40) call118 rfl rfl ?_
       have h_t41 := J4 H37
       have H38 := J0 H37
       refine dv (J8 rfl rfl h_t41)<|Jq rfl rfl (Jg (v := i6 (val (gI ((val (Jer x1_2)) + (val (U8 t19.Value)))))) rfl)<|X6<|?_
       exact cl (val (gI ((val (Jer x1_2)) + (val (U8 t19.Value))))) () 0 [] (by exact ⟨H38, trivial⟩)
       ) (by kernel_rfl)
     ·refine Jh ?_
      exact cl x1_2 () 0 [] (by exact ⟨H39, trivial⟩)
   ·rintro x1_3 _ gg H28 _
    try dsimp only at H28
    try dsimp only
    refine Ja ?_
    obtain ⟨t42, h_t42, H29⟩ := Je H28; clear H28
    refine lv (J8 rfl rfl h_t42)<|mv (i6 t42)<|Jd<|?_
    exact cl (x1_3, t42) () m1 [] (by exact ⟨(by subst hn1; exact H29), trivial⟩)
  ·refine Qp<|Jc<|Ja<|mv (i6 x1_2)<|ag (i6 x1_2)<|Jd<|Ji<|?_
   obtain rfl := sj H40
   exact r1 (i6 x1_2)
theorem k69 {a0 : (List Ta)} {v0 : Value} {a1 : Int} {r : Int} {w : World} {h : Jw} (hw : Know h w Ys) (f0 : FrN h 6 v0 g_tag_Entry a0) (H : Jfn a0 a1 = some r) : Does prog 69 (List.toArray [v0, i6 a1]) w (fun v w' => v = (i6 r) ∧ Grow w w') := by
 obtain ⟨mm, hm⟩ := Jfz (show Yz (fun (self : ((List Ta) × Int) → Option (Int)) (s : (List Ta) × Int) => Z4 self s.1 s.2) (a0, a1) = some r from H)
 exact k69_it mm hw f0 hm
theorem k35 {a0 : Td} {v0_1 : Value} {r : Int} {w : World} {h : Jw} (hw : Know h w Ys) (f0_1 : FrN h 1 v0_1 gs_tag_Entry a0.kag) (H : Jia a0 = some r) : Does prog 35 (List.toArray [.agg #[.bool a0.Big, v0_1]]) w (fun v w' => v = (i6 r) ∧ Grow w w') := by
 refine enter (n := 18) func35 rfl rfl rfl Ys [] (Sat.nil _ _)<|Jc<|Ja<|?_
 refine Vv (cs := [.bool a0.Big, v0_1]) rfl rfl rfl rfl (fun b1 => ?_)
 refine ag (i6 0)<|Jd<|Jc<|Ja<|ag (i6 8)<|Jd<|Jc<|Jc<|Ja<|lf Tryz.runUnderlying24 rfl sizeOf22 rfl<|ll 0 v0_1 isAgg22<|lv (Xw Tryz.underlying22 rfl f0_1)<|mv (i6 0)<|Jd<|Jp<|Ur 0<|?_
 try dsimp only [z1, z2, z3, z4, z5, z6, z7, z8]
 refine Xu (σ := Int × Int) (τ := Unit) (fun next1 s => Uw a0 next1 s.1 s.2) (fun s t => [(3, i6 s.1), (7, v0_1), (8, i6 (a0.kag.length : Int)), (9, i6 s.2)]) (fun s t => []) (fun s t => True) (8, 0) () [] H (by exact trivial) (by exact ⟨rfl, rfl, rfl, rfl, trivial⟩) (by decide) rfl ?_
 rintro ⟨x3_2, x9_2⟩ _ m1 gg H7 _
 clear H
 try dsimp only at H7
 generalize hn1 : it (fun next1 s => Uw a0 next1 s.1 s.2) m1 = next1 at H7
 try dsimp only
 refine Jc<|Ja<|lv (Xk rfl rfl)<|Jd<|Jc<|?_
 revert H7
 refine ci (decide (x9_2 < (a0.kag.length : Int))) rfl (fun hb H8=>?_) fun hb H12=>?_
 ·refine Jh<|Jc<|Jp<|Jc<|Ja<|?_
  obtain ⟨t11, h_t11, H9⟩ := Je H8; clear H8
  refine lv (Q7 Tryz.underlying22 Tryz.sizeOf41 rfl rfl f0_1.frs (f0_1.ix h_t11))<|Qf (fun w hF hS => Qb (f := (elC h v0_1 1)) (i := x9_2) (sz := 1) (j := 0) (v := (Qq h v0_1 1 (Int.toNat x9_2) 0)) Tryz.isAgg41 rfl rfl (f0_1.frs.row (hw.now hF)) (f0_1.ix h_t11) (Jgi (Vd (f0_1.at h_t11)) rfl)) rfl rfl rfl<|ag ((Qq h v0_1 1 (Int.toNat x9_2) 0))<|Jd<|Ja<|mv ((Qq h v0_1 1 (Int.toNat x9_2) 0))<|mv (i6 x3_2)<|?_
  obtain ⟨t15, h_t15, H10⟩ := Je H9; clear H9
  refine Qt (fun w hF hS => k69 (Ju w) ((show FrN h 6 (Qq h v0_1 1 (Int.toNat x9_2) 0) g_tag_Entry t11 from (f0_1.at h_t11)).mono (hw.now hF)) h_t15) call69 rfl rfl rfl<|ag (i6 t15)<|Jd<|Ja<|?_
  obtain ⟨t16, h_t16, H11⟩ := Je H10; clear H10
  refine lv (J8 rfl rfl h_t16)<|mv (i6 t16)<|Jd<|?_
  exact cl (t15, t16) () m1 [] (by exact ⟨(by subst hn1; exact H11), trivial⟩)
 ·refine Qp<|Jc<|Ja<|mv (i6 x3_2)<|ag (i6 x3_2)<|Jd<|Ji<|?_
  obtain rfl := sj H12
  exact r1 (i6 x3_2)
theorem k15 {a0 : Td} {v0_1 : Value} {r : Int} {w : World} {h : Jw} (hw : Know h w Ys) (f0_1 : FrN h 1 v0_1 gs_tag_Entry a0.kag) (H : Jc1 a0 = some r) : Does prog 15 (List.toArray [.agg #[.bool a0.Big, v0_1]]) w (fun v w' => v = (i6 r) ∧ Grow w w') := by
 refine enter (n := 26) func15 rfl rfl rfl Ys [] (Sat.nil _ _)<|Jc<|Ja<|?_
 refine Vv (cs := [.bool a0.Big, v0_1]) rfl rfl rfl rfl (fun b1 => ?_)
 refine ag (i6 0)<|Jd<|Jc<|Jc<|Ja<|lf Tryz.runUnderlying24 rfl sizeOf22 rfl<|ll 0 v0_1 isAgg22<|lv (Xw Tryz.underlying22 rfl f0_1)<|lv (Ye rfl rfl)<|Jd<|?_
 revert H
 refine ci (decide (20 < (a0.kag.length : Int))) rfl (fun hb H15=>?_) fun hb H16=>?_
 ·refine Jc<|Ja<|ag (i6 4)<|Jd<|Ji<|?_
  obtain rfl := sj H15
  exact r1 (i6 4)
 ·refine Jh ?_
  refine Qe (r := r) (σ := Unit) (τ := Unit) (fun s => Jfw a0) (fun s t => [(1, pz b1)]) (fun s t => [Jn b1 [.bool a0.Big, v0_1] 24]) (fun s t => True) ?_ ?_
  ·refine Jc<|Ja<|lf Tryz.runUnderlying24 rfl sizeOf22 rfl<|ll 0 v0_1 isAgg22<|lv (Xw Tryz.underlying22 rfl f0_1)<|mv (i6 0)<|Jd<|Jp<|?_
   refine Xu (σ := Int) (τ := Unit) (fun next2 s => W2 a0 next2 s) (fun s t => [(1, pz b1), (11, v0_1), (12, i6 (a0.kag.length : Int)), (13, i6 s)]) (fun s t => [Jn b1 [.bool a0.Big, v0_1] 24]) (fun s t => True) 0 () [0] H16 (by exact trivial) (by exact ⟨rfl, rfl, rfl, rfl, trivial⟩) (by decide) rfl ?_
   rintro x13_2 _ m2 gg H21 _
   clear H16
   try dsimp only at H21
   generalize hn2 : it (fun next2 s => W2 a0 next2 s) m2 = next2 at H21
   try dsimp only
   refine Jc<|Ja<|lv (Xk rfl rfl)<|Jd<|Jc<|?_
   revert H21
   refine ci (decide (x13_2 < (a0.kag.length : Int))) rfl (fun hb H22=>?_) fun hb H28=>?_
   ·refine Jh<|Jc<|Jp<|Jc<|Ja<|?_
    obtain ⟨t15, h_t15, H23⟩ := Je H22; clear H22
    refine lv (Q7 Tryz.underlying22 Tryz.sizeOf41 rfl rfl f0_1.frs (f0_1.ix h_t15))<|Qf (fun w hF hS => Qb (f := (elC h v0_1 1)) (i := x13_2) (sz := 1) (j := 0) (v := (Qq h v0_1 1 (Int.toNat x13_2) 0)) Tryz.isAgg41 rfl rfl (f0_1.frs.row (hw.now hF)) (f0_1.ix h_t15) (Jgi (Vd (f0_1.at h_t15)) rfl)) rfl rfl rfl<|ag ((Qq h v0_1 1 (Int.toNat x13_2) 0))<|Jd<|Jc<|Ja<|mv ((Qq h v0_1 1 (Int.toNat x13_2) 0))<|?_
    obtain ⟨t18, h_t18, H24⟩ := Je H23; clear H23
    refine Qt (fun w hF hS => k34 (Ju w) ((show FrN h 6 (Qq h v0_1 1 (Int.toNat x13_2) 0) g_tag_Entry t15 from (f0_1.at h_t15)).mono (hw.now hF)) h_t18) call34 rfl rfl rfl<|ag (i6 t18)<|Jd<|Jc<|Ja<|mv (i6 t18)<|lv (Vk rfl rfl)<|Jd<|?_
    revert H24
    refine ci (decide (t18 ≠ 0)) rfl (fun hb H25=>?_) fun hb H26=>?_
    ·refine Jc<|Ja<|mv (i6 t18)<|ag (i6 t18)<|Jd<|Ji<|?_
     obtain rfl := sj H25
     exact r1 (i6 t18)
    ·refine Jh<|Ja<|?_
     obtain ⟨t22, h_t22, H27⟩ := Je H26; clear H26
     refine lv (J8 rfl rfl h_t22)<|mv (i6 t22)<|Jd<|?_
     exact cl t22 () m2 [0] (by exact ⟨(by subst hn2; exact H27), trivial⟩)
   ·refine Qp ?_
    exact cl () () 0 [0] (by exact ⟨H28, trivial⟩)
  ·rintro _ _ gg H17 _
   try dsimp only at H17
   try dsimp only
   refine Jc<|Jc<|Ja<|Q0 (i := 0) (vs := [.bool a0.Big, v0_1]) isAgg24 Tryz.sizeOf24 rfl rfl rfl rfl rfl<|?_
   obtain ⟨t24, h_t24, H18⟩ := Je H17; clear H17
   refine Qt (fun w hF hS => k35 (Ju w) (f0_1.mono (hw.now hF)) h_t24) call35 rfl rfl rfl<|lv (Ye rfl rfl)<|Jd<|?_
   revert H18
   refine ci (decide (65000 < t24)) rfl (fun hb H19=>?_) fun hb H20=>?_
   ·refine Jc<|Ja<|ag (i6 4)<|Jd<|Ji<|?_
    obtain rfl := sj H19
    exact r1 (i6 4)
   ·refine Jh<|Jc<|Ja<|ag (i6 0)<|Jd<|Ji<|?_
    obtain rfl := sj H20
    exact r1 (i6 0)
theorem k93 {a0 : Tb} {v0_2 : Value} {v0_3 : Value} {v0_4 : Value} {r : Int} {w : World} {h : Jw} (hw : Know h w Ys) (f0_2 : FrS h 1 v0_2 (a0.kaf.map Qz)) (f0_3 : FrS h 2 v0_3 (a0.kac.map Jl)) (f0_4 : FrN h 6 v0_4 g_tag_Entry a0.kab) (H : Up a0 = some r) : Does prog 93 (List.toArray [.agg #[i6 a0.kad, str a0.kae, v0_2, v0_3, v0_4]]) w (fun v w' => v = (i6 r) ∧ Grow w w') := by
 refine enter (n := 17) func93 rfl rfl rfl Ys [] (Sat.nil _ _)<|Jc<|Ja<|?_
 refine Vv (cs := [i6 a0.kad, str a0.kae, v0_2, v0_3, v0_4]) rfl rfl rfl rfl (fun b1 => ?_)
 refine ag (i6 0)<|Jd<|Jc<|Jc<|Ja<|lf Tryz.runUnderlying81 rfl Tryz.sizeOf3 rfl<|ll 0 (i6 a0.kad) Tryz.isAgg3<|lv (Vk rfl rfl)<|Jd<|?_
 revert H
 refine ci (decide (a0.kad ≠ 13)) rfl (fun hb H8=>?_) fun hb H10=>?_
 ·refine Jc<|Ja<|Q0 (i := 0) (vs := [i6 a0.kad, str a0.kae, v0_2, v0_3, v0_4]) Tryz.isAgg81 Tryz.sizeOf81 rfl rfl rfl rfl rfl<|?_
  obtain ⟨t8, h_t8, H9⟩ := Je H8; clear H8
  refine Qt (fun w hF hS => k67 (Ju w) (f0_2.mono (hw.now hF)) (f0_3.mono (hw.now hF)) (f0_4.mono (hw.now hF)) h_t8) call67 rfl rfl rfl<|ag (i6 t8)<|Jd<|Ji<|?_
  obtain rfl := sj H9
  exact r1 (i6 t8)
 ·refine Jh<|Jc<|Jc<|Ja<|Q0 (i := 0) (vs := [i6 a0.kad, str a0.kae, v0_2, v0_3, v0_4]) Tryz.isAgg81 Tryz.sizeOf81 rfl rfl rfl rfl rfl<|?_
  obtain ⟨t10, h_t10, H11⟩ := Je H10; clear H10
  refine Qt (fun w hF hS => k68 (Ju w) (f0_2.mono (hw.now hF)) (f0_3.mono (hw.now hF)) (f0_4.mono (hw.now hF)) h_t10) call68 rfl rfl rfl<|ag (i6 t10)<|Jd<|Jc<|Ja<|mv (i6 t10)<|lv (Vk rfl rfl)<|Jd<|?_
  revert H11
  refine ci (decide (t10 ≠ 0)) rfl (fun hb H12=>?_) fun hb H13=>?_
  ·refine Jc<|Ja<|mv (i6 t10)<|ag (i6 t10)<|Jd<|Ji<|?_
   obtain rfl := sj H12
   exact r1 (i6 t10)
  ·refine Jh<|Jc<|Ja<|lf Tryz.runUnderlying81 rfl Tryz.sizeOf41 rfl<|ll 0 v0_4 Tryz.isAgg41<|?_
   obtain ⟨t16, h_t16, H14⟩ := Je H13; clear H13
   refine Qt (fun w hF hS => k34 (Ju w) (f0_4.mono (hw.now hF)) h_t16) call34 rfl rfl rfl<|ag (i6 t16)<|Jd<|Ji<|?_
   obtain rfl := sj H14
   exact r1 (i6 t16)
theorem k142 {a0 : (List Int)} {v0 : Value} {r : (List Int)} {w : World} {h : Jw} (hw : Know h w Ys) (f0 : FrS h 1 v0 (a0.map Qz)) (H : Um a0 = some r) : Does prog 142 (List.toArray [v0]) w (fun v w' => ∃ x : AN, v = (sl x r.length) ∧ Turn w w' Ys (J3 3 1 (sl x r.length) r.length (r.map Qz))) := by
 refine enter (n := 8) func142 rfl rfl rfl Ys [] (Sat.nil _ _)<|Jc<|Ja<|ag (z0s)<|Jd<|Jc<|Jc<|Ja<|mv v0<|lv (r_eqlNilS Tryz.underlying76 f0 rfl rfl)<|Jd<|?_
 refine Jak (b := Jf9 v0) rfl (fun hb => ?_) (fun hb => ?_)
 ·have hn_ : a0 = [] := f0.nilV hb
  have H3 : some ([] : List Int) = some r := by have h_ := H; rw [hn_] at h_; exact h_
  refine Jc<|Ja<|ag (z0s)<|Jd<|Ji<|J9 3 1<|?_
  obtain rfl := sj H3
  refine Ja1 (v := sl nn ([] : List Int).length) rfl rfl (Yg nn (i := 0) rfl rfl (Imp.refl _))
 ·skip
  refine Jh<|Jc<|Ja<|?_
  refine Q9 (vs := []) (cs := []) Tryz.underlying76 Tryz.sizeOf3 zeroValue3 rfl rfl rfl rfl rfl rfl rfl (fun b1 => ?_)
  refine mv v0<|J1 0 rfl (Jh5 (m := 0) (E := 3) (sz := 1) (xs := (([] : List Int)).map Qz) rfl rfl rfl ⟨rfl, by decide⟩)<|?_
  obtain ⟨l7, h_l7, H4⟩ := Je H; clear H
  refine Q1 (Y0 (i := 0) (hn := rfl) (rds := []) (p := ((some ⟨b1, 0, none⟩, 0) : AN)) (sz := 1) (by_ := 8) (f := Qz) (ys := ([] : List Int)) (ls := a0) (V := v0) Tryz.underlying76 (Xv typeInfo3) rfl rfl rfl rfl rfl rfl rfl rfl f0.eq (List.length_map _) (fun w L' hF hS hi => (f0).row (hw.now hF)) (fun _ => rfl) (fun _ => rfl) h_l7) rfl rfl rfl (fun p => ?_)
  refine ag (sl p l7.length)<|Jd<|Ji<|?_
  obtain rfl := sj H4
  refine Ja1 (v := sl p l7.length) rfl rfl (Yg p (i := 0) rfl rfl (Imp.refl _))
theorem k141 {a : Option Addr} {n c : Nat} (hc : n ≤ c) : Ret prog 141 [.slice a n c] (.slice (X0 a 0 n 1) n n) := by
  refine Qr (n := 9) func141 rfl rfl rfl (fun wd => ?_)
  refine Jc<|Ja<|ag (z0s)<|Jd<|Jc<|Ja<|mv (.slice a n c)<|mv (.slice a n c)<|lv (Wl Tryz.underlying76 rfl)<|mv (.slice a n c)<|lv (Wl Tryz.underlying76 rfl)<|lv (r_sliceHM (a := a) (m := n) (c := c) (h := (n : Int)) (q := (n : Int)) Tryz.underlying76 Tryz.sizeOf3 rfl rfl rfl (Int.natCast_nonneg n) (Int.le_refl _) (Int.ofNat_le.2 hc))<|ag (.slice (X0 a 0 n 1) n n)<|Jd<|Ji<|?_
  exact Ja1 (v := .slice (X0 a 0 n 1) n n) rfl rfl (fin rfl)
theorem k144 {a0 : (List Tc)} {v0 : Value} {r : (List Tc)} {w : World} {h : Jw} (hw : Know h w Ys) (f0 : FrS h 2 v0 (a0.map Jl)) (H : Zx a0 = some r) : Does prog 144 (List.toArray [v0]) w (fun v w' => ∃ x : AN, v = (sl x r.length) ∧ Turn w w' Ys (J3 70 2 (sl x r.length) r.length (r.map Jl))) := by
 refine enter (n := 8) func144 rfl rfl rfl Ys [] (Sat.nil _ _)<|Jc<|Ja<|ag (z0s)<|Jd<|Jc<|Jc<|Ja<|mv v0<|lv (r_eqlNilS Tryz.underlying79 f0 rfl rfl)<|Jd<|?_
 refine Jak (b := Jf9 v0) rfl (fun hb => ?_) (fun hb => ?_)
 ·have hn_ : a0 = [] := f0.nilV hb
  have H3 : some ([] : List Tc) = some r := by have h_ := H; rw [hn_] at h_; exact h_
  refine Jc<|Ja<|ag (z0s)<|Jd<|Ji<|J9 70 2<|?_
  obtain rfl := sj H3
  refine Ja1 (v := sl nn ([] : List Tc).length) rfl rfl (Yg nn (i := 0) rfl rfl (Imp.refl _))
 ·skip
  refine Jh<|Jc<|Ja<|?_
  refine Q9 (vs := []) (cs := []) Tryz.underlying79 Tryz.sizeOf70 zeroValue70 rfl rfl rfl rfl rfl rfl rfl (fun b1 => ?_)
  refine mv v0<|J1 0 rfl (Jh5 (m := 0) (E := 70) (sz := 2) (xs := (([] : List Tc)).map Jl) rfl rfl rfl ⟨rfl, by decide⟩)<|?_
  obtain ⟨l7, h_l7, H4⟩ := Je H; clear H
  refine Q1 (Y0 (i := 0) (hn := rfl) (rds := []) (p := ((some ⟨b1, 0, none⟩, 0) : AN)) (sz := 2) (by_ := 16) (f := Jl) (ys := ([] : List Tc)) (ls := a0) (V := v0) Tryz.underlying79 (Xv typeInfo70) rfl rfl rfl rfl rfl rfl rfl rfl f0.eq (List.length_map _) (fun w L' hF hS hi => (f0).row (hw.now hF)) (fun _ => rfl) (fun _ => rfl) h_l7) rfl rfl rfl (fun p => ?_)
  refine ag (sl p l7.length)<|Jd<|Ji<|?_
  obtain rfl := sj H4
  refine Ja1 (v := sl p l7.length) rfl rfl (Yg p (i := 0) rfl rfl (Imp.refl _))
theorem k143 {a : Option Addr} {n c : Nat} (hc : n ≤ c) : Ret prog 143 [.slice a n c] (.slice (X0 a 0 n 2) n n) := by
  refine Qr (n := 9) func143 rfl rfl rfl (fun wd => ?_)
  refine Jc<|Ja<|ag (z0s)<|Jd<|Jc<|Ja<|mv (.slice a n c)<|mv (.slice a n c)<|lv (Wl Tryz.underlying79 rfl)<|mv (.slice a n c)<|lv (Wl Tryz.underlying79 rfl)<|lv (r_sliceHM (a := a) (m := n) (c := c) (h := (n : Int)) (q := (n : Int)) Tryz.underlying79 Tryz.sizeOf70 rfl rfl rfl (Int.natCast_nonneg n) (Int.le_refl _) (Int.ofNat_le.2 hc))<|ag (.slice (X0 a 0 n 2) n n)<|Jd<|Ji<|?_
  exact Ja1 (v := .slice (X0 a 0 n 2) n n) rfl rfl (fin rfl)
theorem ext162 (s : List UInt8) (c r : Int) (h : gIxB s c = some r) (w : World) : (callFunc 162 (List.toArray [str s, .int .u8 c])).run prog w = .ok (.value (i6 r)) w := by
  have h0 : (callFunc 162 #[str s, .int .u8 c]).run prog w = (do pure (.value (← Extern.BytealgIndexByte.indexByte #[str s, .int .u8 c])) : Sem Next).run prog w := by kernel_rfl
  rw [h0]
  simp only [Sem.run_bind, Go.Lx.run_ixB h, Result.andThen_ok, Sem.run_pure]
theorem k119 {a0 : (List UInt8)} {a1 : Int} {r : Int} (H : Q4 a0 a1 = some r) : Ret prog 119 [str a0, .int .u8 a1] (i6 r) := by
 refine Qr (n := 8) func119 rfl rfl rfl (fun wd => ?_)
 refine Jc<|Ja<|ag (i6 0)<|Jd<|Jc<|Ja<|mv (str a0)<|mv (.int .u8 a1)<|?_
 obtain ⟨t7, h_t7, H2⟩ := Je H; clear H
 refine lv (r_ext (args := [str a0, .int .u8 a1]) (ext162 _ _ _ h_t7) rfl)<|ag (i6 t7)<|Jd<|Ji<|?_
 obtain rfl := sj H2
 exact r1 (i6 t7)
theorem k86 {a0 : (List UInt8)} {a1 : (List UInt8)} {r : Int} (H : Yn a0 a1 = some r) : Ret prog 86 [str a0, str a1] (i6 r) := by
 refine Qr (n := 143) func86 rfl rfl rfl (fun wd => ?_)
 refine Jc<|Ja<|ag (i6 0)<|Jd<|Jc<|Ja<|mv (str a1)<|lv (Xc Tryz.underlying9 rfl)<|ag (i6 (a1.length : Int))<|Jd<|Jc<|Jp<|Jc<|Ja<|mv (i6 (a1.length : Int))<|lv (Qd rfl rfl)<|mv (.bool (decide ((a1.length : Int) = 0)))<|?_
 revert H
 refine sp (fun hb H11=>?_) fun hb H12=>?_
 ·refine pa<|pa<|pa<|pT (.bool true)<|ag (.bool true)<|Jd<|Yc rfl<|Jc<|Ja<|ag (i6 0)<|Jd<|Ji<|?_
  obtain rfl := sj H11
  exact r1 (i6 0)
 ·refine mv (str a1)<|mv (str a0)<|lv (Vl rfl rfl)<|pF (.bool (decide (a1 = a0)))<|ag (.bool (decide (a1 = a0)))<|Jd<|?_
  revert H12
  refine ci (decide (a1 = a0)) rfl (fun hb H13=>?_) fun hb H14=>?_
  ·refine Jc<|Ja<|ag (i6 0)<|Jd<|Ji<|?_
   obtain rfl := sj H13
   exact r1 (i6 0)
  ·refine Jc<|Ja<|mv (i6 (a1.length : Int))<|lv (Qd rfl rfl)<|ag (.bool (decide ((a1.length : Int) = 1)))<|Jd<|?_
   revert H14
   refine ci (decide ((a1.length : Int) = 1)) rfl (fun hb H15=>?_) fun hb H18=>?_
   ·refine Jc<|Ja<|mv (str a0)<|mv (str a1)<|?_
    obtain ⟨t29, h_t29, H16⟩ := Je H15; clear H15
    refine lv (Zs Tryz.underlying9 rfl rfl h_t29) ?_
    obtain ⟨t30, h_t30, H17⟩ := Je H16; clear H16
    refine Qm (k119 h_t30) call119 rfl rfl rfl<|ag (i6 t30)<|Jd<|Ji<|?_
    obtain rfl := sj H17
    exact r1 (i6 t30)
   ·refine Jc<|Ja<|mv (i6 (a1.length : Int))<|mv (str a0)<|lv (Xc Tryz.underlying9 rfl)<|lv (Jg5 rfl rfl)<|ag (.bool (decide ((a0.length : Int) ≤ (a1.length : Int))))<|Jd<|?_
    revert H18
    refine ci (decide ((a0.length : Int) ≤ (a1.length : Int))) rfl (fun hb H19=>?_) fun hb H20=>?_
    ·refine Jc<|Ja<|ag (i6 (-1))<|Jd<|Ji<|?_
     obtain rfl := sj H19
     exact r1 (i6 (-1))
    ·exact absurd (show (none : Option (Int)) = some r from H20) (fun h => by cases h)
theorem k45 {a0 : (List UInt8)} {a1 : (List UInt8)} {r : (List UInt8) × (List UInt8) × Bool} (H : Uc a0 a1 = some r) : Ret prog 45 [str a0, str a1] (.tuple #[str r.1, str r.2.1, .bool r.2.2]) := by
 refine Qr (n := 23) func45 rfl rfl rfl (fun wd => ?_)
 refine Jc<|Ja<|ag (str [])<|ag (str [])<|ag (.bool false)<|Jd<|Jc<|Jc<|Ja<|mv (str a0)<|mv (str a1)<|?_
 obtain ⟨t10, h_t10, H7⟩ := Je H; clear H
 refine Qm (k86 h_t10) call86 rfl rfl rfl<|ag (i6 t10)<|Jd<|Jc<|Ja<|mv (i6 t10)<|lv (Jg5 rfl rfl)<|Jd<|?_
 revert H7
 refine ci (decide (0 ≤ t10)) rfl (fun hb H8=>?_) fun hb H12=>?_
 ·refine Jc ?_
  exact Qv (Kd.p :: Kd.p :: Kd.p :: Kd.p :: Kd.p :: Kd.p :: Kd.p :: Kd.p :: Kd.p :: Kd.p :: Kd.p :: Kd.p :: []) 0 mixed (by
   refine dm (str a0)<|dm (i6 t10)<|?_
   have h_t15 := J4 H8
   have H9 := J0 H8
   refine dv (Jco Tryz.underlying9 rfl rfl h_t15)<|dm (str a0)<|dm (i6 t10)<|dm (str a1)<|dv (Xc Tryz.underlying9 rfl)<|?_
   have h_t20 := J4 H9
   have H10 := J0 H9
   refine dv (J8 rfl rfl h_t20) ?_
   have h_t21 := J4 H10
   have H11 := J0 H10
   refine dv (Zi Tryz.underlying9 rfl rfl h_t21)<|Jq rfl rfl (Jg (v := str (val (Xx a0 0 t10))) rfl)<|Jq rfl rfl (Jg (v := str (val (Xx a0 (val (gI (t10 + (a1.length : Int)))) a0.length))) rfl)<|Jq rfl rfl (Jg (v := .bool true) rfl)<|X6<|Ji<|?_
   obtain rfl := sj H11
   refine ret3 (v1 := str (val (Xx a0 0 t10))) (v2 := str (val (Xx a0 (val (gI (t10 + (a1.length : Int)))) a0.length))) (v3 := .bool true) rfl rfl rfl rfl (fin rfl)
   ) (by kernel_rfl)
 ·refine Jh<|Jc<|Ja<|mv (str a0)<|ag (str a0)<|ag (str [])<|ag (.bool false)<|Jd<|Ji<|?_
  obtain rfl := sj H12
  refine ret3 (v1 := str a0) (v2 := str []) (v3 := .bool false) rfl rfl rfl rfl (fin rfl)
theorem k24 {a0 : (List UInt8)} {a1 : (List UInt8)} {r : (List UInt8) × (List UInt8) × Bool} (H : Ym a0 a1 = some r) : Ret prog 24 [str a0, str a1] (.tuple #[str r.1, str r.2.1, .bool r.2.2]) := by
 refine Qr (n := 13) func24 rfl rfl rfl (fun wd => ?_)
 refine Jc<|Ja<|ag (str [])<|ag (str [])<|ag (.bool false)<|Jd<|Jc<|Ja<|mv (str a0)<|mv (str a1)<|?_
 obtain ⟨t9, h_t9, H2⟩ := Je H; clear H
 refine Qm (k45 h_t9) call45 rfl rfl rfl<|lv (Jo (v := str t9.1) rfl rfl)<|lv (Jo (v := str t9.2.1) rfl rfl)<|lv (Jo (v := .bool t9.2.2) rfl rfl)<|ag (str t9.1)<|ag (str t9.2.1)<|ag (.bool t9.2.2)<|Jd<|Ji<|?_
 obtain rfl := sj H2
 refine ret3 (v1 := str t9.1) (v2 := str t9.2.1) (v3 := .bool t9.2.2) rfl rfl rfl rfl (fin rfl)
theorem k40 {a0 : (List UInt8)} {a1 : Int} {r : (List UInt8)} (H : gRep a0 a1 = some r) : Ret prog 40 [str a0, i6 a1] (str r) :=
  rep_ret (ρ := Go.Proofs.Tryz.lays105_ren) Go.Proofs.Tryz.lays105 Go.Proofs.Tryz.Builder_Extra_105 H
theorem k122 {a0 : (List UInt8)} {a1 : (List UInt8)} {r : Bool} (H : Xf a0 a1 = some r) : Ret prog 122 [str a0, str a1] (.bool r) := by
 refine Qr (n := 18) func122 rfl rfl rfl (fun wd => ?_)
 refine Jc<|Ja<|ag (.bool false)<|Jd<|Jc<|Ja<|mv (str a0)<|lv (Xc Tryz.underlying9 rfl)<|mv (str a1)<|lv (Xc Tryz.underlying9 rfl)<|lv (Jg5 rfl rfl)<|mv (.bool (decide ((a1.length : Int) ≤ (a0.length : Int))))<|?_
 revert H
 refine sp (fun hb H4=>?_) fun hb H6=>?_
 ·refine mv (str a0)<|mv (str a1)<|lv (Xc Tryz.underlying9 rfl)<|?_
  obtain ⟨t14, h_t14, H5⟩ := Je H4; clear H4
  refine lv (Jco Tryz.underlying9 rfl rfl h_t14)<|mv (str a1)<|lv (Vl rfl rfl)<|pT (.bool (decide (t14 = a1)))<|ag (.bool (decide (t14 = a1)))<|Jd<|Ji<|?_
  obtain rfl := sj H5
  exact r1 (.bool (decide (t14 = a1)))
 ·refine pa<|pa<|pa<|pa<|pa<|pa<|pF (.bool false)<|ag (.bool false)<|Jd<|Ji<|?_
  obtain rfl := sj H6
  exact r1 (.bool false)
theorem k87 {a0 : (List UInt8)} {a1 : (List UInt8)} {r : (List UInt8) × Bool} (H : Z6 a0 a1 = some r) : Ret prog 87 [str a0, str a1] (.tuple #[str r.1, .bool r.2]) := by
 refine Qr (n := 15) func87 rfl rfl rfl (fun wd => ?_)
 refine Jc<|Ja<|ag (str [])<|ag (.bool false)<|Jd<|Jc<|Jc<|Ja<|mv (str a0)<|mv (str a1)<|?_
 obtain ⟨t8, h_t8, H5⟩ := Je H; clear H
 refine Qm (k122 h_t8) call122 rfl rfl rfl<|lv (Jay rfl)<|Jd<|?_
 revert H5
 refine ci (!t8) rfl (fun hb H6=>?_) fun hb H7=>?_
 ·refine Jc<|Ja<|mv (str a0)<|ag (str a0)<|ag (.bool false)<|Jd<|Ji<|?_
  obtain rfl := sj H6
  refine Wh (v1 := str a0) (v2 := .bool false) rfl rfl rfl (fin rfl)
 ·refine Jh<|Jc<|Ja<|mv (str a0)<|mv (str a1)<|lv (Xc Tryz.underlying9 rfl)<|?_
  obtain ⟨t14, h_t14, H8⟩ := Je H7; clear H7
  refine lv (Zi Tryz.underlying9 rfl rfl h_t14)<|ag (str t14)<|ag (.bool true)<|Jd<|Ji<|?_
  obtain rfl := sj H8
  refine Wh (v1 := str t14) (v2 := .bool true) rfl rfl rfl (fin rfl)
theorem k47 {a0 : (List UInt8)} {a1 : (List UInt8)} {r : (List UInt8) × Bool} (H : W9 a0 a1 = some r) : Ret prog 47 [str a0, str a1] (.tuple #[str r.1, .bool r.2]) := by
 refine Qr (n := 11) func47 rfl rfl rfl (fun wd => ?_)
 refine Jc<|Ja<|ag (str [])<|ag (.bool false)<|Jd<|Jc<|Ja<|mv (str a0)<|mv (str a1)<|?_
 obtain ⟨t8, h_t8, H2⟩ := Je H; clear H
 refine Qm (k87 h_t8) call87 rfl rfl rfl<|lv (Jo (v := str t8.1) rfl rfl)<|lv (Jo (v := .bool t8.2) rfl rfl)<|ag (str t8.1)<|ag (.bool t8.2)<|Jd<|Ji<|?_
 obtain rfl := sj H2
 refine Wh (v1 := str t8.1) (v2 := .bool t8.2) rfl rfl rfl (fin rfl)
theorem k41 {a0 : Int} {r : (List UInt8)} {w : World} {h : Jw} (hw : Know h w Ys) (tb_pow10 : TabH prog h "internal/strconv.uint64pow10" .u64 Lib.pow10Tab) (H : Y8 a0 = some r) : Does prog 41 (List.toArray [i6 a0]) w (fun v w' => v = (str r) ∧ Grow w w') :=
  itoa_does (ρ := Go.Proofs.Tryz.laysM171_ren) Go.Proofs.Tryz.laysM171 hw tb_pow10 H
theorem k129 {a0 : (List UInt8)} {a1 : (List UInt8)} {r : (List UInt8)} (H : Z5 a0 a1 = some r) : Ret prog 129 [str a0, str a1] (str r) := by
 refine Qr (n := 13) func129 rfl rfl rfl (fun wd => ?_)
 refine Jc<|Ja<|ag (str [])<|Jd<|Jc<|Jc<|Ja<|mv (str a0)<|mv (str a1)<|?_
 obtain ⟨t7, h_t7, H5⟩ := Je H; clear H
 refine Qm (k122 h_t7) call122 rfl rfl rfl<|Jd<|?_
 revert H5
 refine ci t7 rfl (fun hb H6=>?_) fun hb H8=>?_
 ·refine Jc<|Ja<|mv (str a0)<|mv (str a1)<|lv (Xc Tryz.underlying9 rfl)<|?_
  obtain ⟨t11, h_t11, H7⟩ := Je H6; clear H6
  refine lv (Zi Tryz.underlying9 rfl rfl h_t11)<|ag (str t11)<|Jd<|Ji<|?_
  obtain rfl := sj H7
  exact r1 (str t11)
 ·refine Jh<|Jc<|Ja<|mv (str a0)<|ag (str a0)<|Jd<|Ji<|?_
  obtain rfl := sj H8
  exact r1 (str a0)
theorem k88 {a0 : (List UInt8)} {a1 : (List UInt8)} {r : (List UInt8)} (H : Wg a0 a1 = some r) : Ret prog 88 [str a0, str a1] (str r) := by
 refine Qr (n := 8) func88 rfl rfl rfl (fun wd => ?_)
 refine Jc<|Ja<|ag (str [])<|Jd<|Jc<|Ja<|mv (str a0)<|mv (str a1)<|?_
 obtain ⟨t7, h_t7, H2⟩ := Je H; clear H
 refine Qm (k129 h_t7) call129 rfl rfl rfl<|ag (str t7)<|Jd<|Ji<|?_
 obtain rfl := sj H2
 exact r1 (str t7)
theorem k130 {a0 : (List UInt8)} {a1 : Int} {r : (List UInt8)} (H : W0 a0 a1 = some r) : Ret prog 130 [str a0, .int .u8 a1] (str r) := by
 refine Qr (n := 17) func130 rfl rfl rfl (fun wd => ?_)
 refine Jc<|Ja<|ag (str [])<|Jd<|Jc<|Jp<|?_
 refine Xu (σ := (List UInt8)) (τ := Unit) (fun next1 s => Un a1 next1 s) (fun s t => [(0, str s), (1, .int .u8 a1)]) (fun s t => []) (fun s t => True) a0 () [] H (by exact trivial) (by exact ⟨rfl, rfl, trivial⟩) (by decide) rfl ?_
 rintro x0_2 _ m1 gg H8 _
 clear H
 try dsimp only at H8
 generalize hn1 : it (fun next1 s => Un a1 next1 s) m1 = next1 at H8
 try dsimp only
 refine Jc<|Jc<|Ja<|mv (str x0_2)<|lv (Xc Tryz.underlying9 rfl)<|lv (Ye rfl rfl)<|mv (.bool (decide (0 < (x0_2.length : Int))))<|?_
 revert H8
 refine sp (fun hb H9=>?_) fun hb H14=>?_
 ·refine mv (str x0_2) ?_
  obtain ⟨t10, h_t10, H10⟩ := Je H9; clear H9
  refine lv (Zs Tryz.underlying9 rfl rfl h_t10)<|mv (.int .u8 a1)<|lv (Qd rfl rfl)<|pT (.bool (decide (t10 = a1)))<|Jd<|?_
  revert H10
  refine ci (decide (t10 = a1)) rfl (fun hb H11=>?_) fun hb H13=>?_
  ·refine Jh<|Jp<|Ja<|mv (str x0_2)<|?_
   obtain ⟨t15, h_t15, H12⟩ := Je H11; clear H11
   refine lv (Zi Tryz.underlying9 rfl rfl h_t15)<|ag (str t15)<|Jd<|?_
   exact cl t15 () m1 [] (by exact ⟨(by subst hn1; exact H12), trivial⟩)
  ·refine Qp<|Jc<|Ja<|mv (str x0_2)<|ag (str x0_2)<|Jd<|Ji<|?_
   obtain rfl := sj H13
   exact r1 (str x0_2)
 ·refine pa<|pa<|pa<|pa<|pF (.bool false)<|Jd<|Zc rfl<|Qp<|Jc<|Ja<|mv (str x0_2)<|ag (str x0_2)<|Jd<|Ji<|?_
  obtain rfl := sj H14
  exact r1 (str x0_2)
theorem k131 {a0 : (List UInt8)} {a1 : Int} {r : (List UInt8)} (H : Wm a0 a1 = some r) : Ret prog 131 [str a0, .int .u8 a1] (str r) := by
 refine Qr (n := 23) func131 rfl rfl rfl (fun wd => ?_)
 refine Jc<|Ja<|ag (str [])<|Jd<|Jc<|Jp<|?_
 refine Xu (σ := (List UInt8)) (τ := Unit) (fun next1 s => Uh a1 next1 s) (fun s t => [(0, str s), (1, .int .u8 a1)]) (fun s t => []) (fun s t => True) a0 () [] H (by exact trivial) (by exact ⟨rfl, rfl, trivial⟩) (by decide) rfl ?_
 rintro x0_2 _ m1 gg H10 _
 clear H
 try dsimp only at H10
 generalize hn1 : it (fun next1 s => Uh a1 next1 s) m1 = next1 at H10
 try dsimp only
 refine Jc<|Jc<|Ja<|mv (str x0_2)<|lv (Xc Tryz.underlying9 rfl)<|lv (Ye rfl rfl)<|mv (.bool (decide (0 < (x0_2.length : Int))))<|?_
 revert H10
 refine sp (fun hb H11=>?_) fun hb H18=>?_
 ·refine mv (str x0_2)<|mv (str x0_2)<|lv (Xc Tryz.underlying9 rfl)<|?_
  obtain ⟨t12, h_t12, H12⟩ := Je H11; clear H11
  refine lv (Vh rfl rfl h_t12) ?_
  obtain ⟨t13, h_t13, H13⟩ := Je H12; clear H12
  refine lv (Zs Tryz.underlying9 rfl rfl h_t13)<|mv (.int .u8 a1)<|lv (Qd rfl rfl)<|pT (.bool (decide (t13 = a1)))<|Jd<|?_
  revert H13
  refine ci (decide (t13 = a1)) rfl (fun hb H14=>?_) fun hb H17=>?_
  ·refine Jh<|Jp<|Ja<|mv (str x0_2)<|mv (str x0_2)<|lv (Xc Tryz.underlying9 rfl)<|?_
   obtain ⟨t20, h_t20, H15⟩ := Je H14; clear H14
   refine lv (Vh rfl rfl h_t20) ?_
   obtain ⟨t21, h_t21, H16⟩ := Je H15; clear H15
   refine lv (Jco Tryz.underlying9 rfl rfl h_t21)<|ag (str t21)<|Jd<|?_
   exact cl t21 () m1 [] (by exact ⟨(by subst hn1; exact H16), trivial⟩)
  ·refine Qp<|Jc<|Ja<|mv (str x0_2)<|ag (str x0_2)<|Jd<|Ji<|?_
   obtain rfl := sj H17
   exact r1 (str x0_2)
 ·refine pa<|pa<|pa<|pa<|pa<|pa<|pa<|pF (.bool false)<|Jd<|Zc rfl<|Qp<|Jc<|Ja<|mv (str x0_2)<|ag (str x0_2)<|Jd<|Ji<|?_
  obtain rfl := sj H18
  exact r1 (str x0_2)
theorem k132 {a0 : (List UInt8)} {r : (Nat → Bool) × Bool} (H : Ub a0 = some r) : Ret prog 132 [str a0] (.tuple #[.agg (List.toArray (Jae 256 (fun j_ => [.bool (r.1 j_)]))), .bool r.2]) := by
 refine Qr (n := 21) func132 rfl rfl rfl (fun wd => ?_)
 refine Jc<|Ja<|?_
 refine Xi (cs := (Jae 256 (fun j_ => [.bool ((fun _ => false) j_)]))) zeroValue177 (by kernel_rfl) rfl rfl (fun b1 => ?_)
 refine ag (.bool false)<|Jd<|?_
 refine Qe (r := r) (σ := (Nat → Bool)) (τ := Unit) (fun s => Jcc s) (fun s t => [(2, pz b1)]) (fun s t => [Jn b1 (Jae 256 (fun j_ => [.bool (s j_)])) 177]) (fun s t => True) ?_ ?_
 ·refine Jc<|Ja<|ag (i6 0)<|Jd<|Jp<|?_
  refine Xu (σ := Int × (Nat → Bool)) (τ := Unit) (fun next2 s => Xj a0 next2 s.1 s.2) (fun s t => [(0, str a0), (2, pz b1), (4, i6 s.1)]) (fun s t => [Jn b1 (Jae 256 (fun j_ => [.bool (s.2 j_)])) 177]) (fun s t => True) (0, (fun _ => false)) () [0] H (by exact trivial) (by exact ⟨rfl, rfl, rfl, trivial⟩) (by decide) rfl ?_
  rintro ⟨x4_2, m_3⟩ _ m2 gg H11 _
  clear H
  try dsimp only at H11
  generalize hn2 : it (fun next2 s => Xj a0 next2 s.1 s.2) m2 = next2 at H11
  try dsimp only
  refine Jc<|Jc<|Ja<|mv (i6 x4_2)<|mv (str a0)<|lv (Xc Tryz.underlying9 rfl)<|lv (Xk rfl rfl)<|Jd<|?_
  revert H11
  refine ci (decide (x4_2 < (a0.length : Int))) rfl (fun hb H12=>?_) fun hb H18=>?_
  ·refine Jh<|Jc<|Jp<|Jc<|Ja<|mv (str a0)<|mv (i6 x4_2)<|?_
   obtain ⟨t14, h_t14, H13⟩ := Je H12; clear H12
   refine lv (Zs Tryz.underlying9 rfl rfl h_t14)<|ag (.int .u8 t14)<|Jd<|Jc<|Jc<|Ja<|mv (.int .u8 t14)<|lv (Jg5 rfl rfl)<|Jd<|?_
   revert H13
   refine ci (decide (128 ≤ t14)) rfl (fun hb H14=>?_) fun hb H15=>?_
   ·refine Jc<|Ja<|Q0 (i := 0) (vs := (Jae 256 (fun j_ => [.bool (m_3 j_)]))) isAgg177 sizeOf177 rfl rfl rfl rfl (Jh9 (Us (fun _ => rfl)))<|Qu (i := 0) (vs := (Jae 256 (fun j_ => [.bool (m_3 j_)]))) (cs' := (Jae 256 (fun j_ => [.bool (m_3 j_)]))) sizeOf177 rfl rfl rfl rfl (Us (fun _ => rfl)) rfl (Jjr (fun _ => rfl)) rfl (Jke ((Us (fun _ => rfl)).trans (Us (fun _ => rfl)).symm))<|ag (.bool false)<|Jd<|Ji<|?_
    obtain rfl := sj H14
    refine Jcq (i := 0) (vs := (Jae 256 (fun j_ => [.bool (m_3 j_)]))) (v2 := .bool false) isAgg177 sizeOf177 rfl rfl rfl (Jh9 (Us (fun _ => rfl))) rfl (fin rfl)
   ·refine Jh<|Ja<|mv (.int .u8 t14)<|?_
    obtain ⟨k19, h_k19, H16⟩ := Je H15; clear H15
    refine lv (r_indexPG runUnderlying177 sizeOf4 rfl rfl h_k19)<|Qu (i := 0) (vs := [.bool true]) (cs' := (Jae 256 (fun j_ => [.bool ((setA m_3 k19 true) j_)]))) sizeOf4 rfl rfl rfl rfl rfl rfl rfl rfl (wr_arr (pre := []) (post := []) (f := fun (j_ : Bool) => [.bool j_]) (n := 256) (sz := 1) (a := m_3) (x := true) (Jiw _ _) rfl (fun _ => rfl) (gIx_lt h_k19) rfl (Jiw _ _))<|Jd<|Ja<|mv (i6 x4_2)<|?_
    obtain ⟨t11, h_t11, H17⟩ := Je H16; clear H16
    refine lv (J8 rfl rfl h_t11)<|ag (i6 t11)<|Jd<|?_
    exact cl (t11, (setA m_3 k19 true)) () m2 [0] (by exact ⟨(by subst hn2; exact H17), trivial⟩)
  ·refine Qp ?_
   exact cl m_3 () 0 [0] (by exact ⟨H18, trivial⟩)
 ·rintro m _ gg H10 _
  try dsimp only at H10
  try dsimp only
  refine Jc<|Ja<|Q0 (i := 0) (vs := (Jae 256 (fun j_ => [.bool (m j_)]))) isAgg177 sizeOf177 rfl rfl rfl rfl (Jh9 (Us (fun _ => rfl)))<|Qu (i := 0) (vs := (Jae 256 (fun j_ => [.bool (m j_)]))) (cs' := (Jae 256 (fun j_ => [.bool (m j_)]))) sizeOf177 rfl rfl rfl rfl (Us (fun _ => rfl)) rfl (Jjr (fun _ => rfl)) rfl (Jke ((Us (fun _ => rfl)).trans (Us (fun _ => rfl)).symm))<|ag (.bool true)<|Jd<|Ji<|?_
  obtain rfl := sj H10
  refine Jcq (i := 0) (vs := (Jae 256 (fun j_ => [.bool (m j_)]))) (v2 := .bool true) isAgg177 sizeOf177 rfl rfl rfl (Jh9 (Us (fun _ => rfl))) rfl (fin rfl)
theorem k169 {a0 : (Nat → Bool)} {pb0 : Nat} {a1 : Int} {r : Bool × (Nat → Bool)} {w : World} {h : Jw} {S : Nat → Prop} (hcs : (Jn pb0 (Jae 256 (fun j_ => [.bool (a0 j_)])) 177).P S w) (hlt : ∀ b, S b → b < w.heap.size) (hw : Know h w S) (H : Yy a0 a1 = some r) : Does prog 169 (List.toArray [pz pb0, .int .u8 a1]) w (fun v w' => ∃ x : Unit, v = (.bool r.1) ∧ Turn w w' S (Jn pb0 (Jae 256 (fun j_ => [.bool (r.2 j_)])) 177)) := by
 refine enter (n := 10) func169 rfl rfl rfl S [Jn pb0 (Jae 256 (fun j_ => [.bool (a0 j_)])) 177] (Sat.one hcs hlt)<|Jc<|Ja<|ag (.bool false)<|Jd<|Jc<|Ja<|mv (pz pb0)<|mv (.int .u8 a1)<|lv (Jm rfl)<|?_
 obtain ⟨k8, h_k8, H2⟩ := Je H; clear H
 refine lv (r_indexPG runUnderlying177 sizeOf4 rfl rfl h_k8)<|Y7 (i := 0) (v := .bool (a0 k8)) isAgg4 rfl rfl rfl rfl (rg_arr (pre := []) (post := []) (f := fun j_ => [.bool (a0 j_)]) (n := 256) (sz := 1) (q := 0) (Jiw _ _) rfl (fun _ => rfl) (gIx_lt h_k8) rfl)<|ag (.bool (a0 k8))<|Jd<|Ji<|?_
 obtain rfl := sj H2
 refine Ja1 (v := .bool (a0 k8)) rfl rfl (Yg () (i := 0) rfl rfl (Imp.refl _))
theorem k133 {a0 : (List UInt8)} {a1 : (Nat → Bool)} {pb1 : Nat} {r : (List UInt8) × (Nat → Bool)} {w : World} {h : Jw} {S : Nat → Prop} (hcs : (Jn pb1 (Jae 256 (fun j_ => [.bool (a1 j_)])) 177).P S w) (hlt : ∀ b, S b → b < w.heap.size) (hw : Know h w S) (H : Wn a0 a1 = some r) : Does prog 133 (List.toArray [str a0, pz pb1]) w (fun v w' => ∃ x : Unit, v = (str r.1) ∧ Turn w w' S (Jn pb1 (Jae 256 (fun j_ => [.bool (r.2 j_)])) 177)) := by
 refine enter (n := 16) func133 rfl rfl rfl S [Jn pb1 (Jae 256 (fun j_ => [.bool (a1 j_)])) 177] (Sat.one hcs hlt)<|Jc<|Ja<|ag (str [])<|Jd<|Jc<|Jp<|?_
 refine Xu (σ := (List UInt8) × (Nat → Bool)) (τ := Unit) (fun next1 s => Za next1 s.1 s.2) (fun s t => [(0, str s.1), (1, pz pb1)]) (fun s t => [Jn pb1 (Jae 256 (fun j_ => [.bool (s.2 j_)])) 177]) (fun s t => True) (a0, a1) () [0] H (by exact trivial) (by exact ⟨rfl, rfl, trivial⟩) (by decide) rfl ?_
 rintro ⟨x0_2, m_2⟩ _ m1 gg H9 _
 clear H
 try dsimp only at H9
 generalize hn1 : it (fun next1 s => Za next1 s.1 s.2) m1 = next1 at H9
 try dsimp only
 refine Jc<|Jc<|Ja<|mv (str x0_2)<|lv (Xc Tryz.underlying9 rfl)<|lv (Ye rfl rfl)<|Jd<|?_
 revert H9
 refine ci (decide (0 < (x0_2.length : Int))) rfl (fun hb H10=>?_) fun hb H16=>?_
 ·refine Jh<|Jp<|Jc<|Jc<|Ja<|mv (pz pb1)<|mv (str x0_2)<|?_
  obtain ⟨t10, h_t10, H11⟩ := Je H10; clear H10
  refine lv (Zs Tryz.underlying9 rfl rfl h_t10) ?_
  obtain ⟨t11, h_t11, H12⟩ := Je H11; clear H11
  refine Q1 (Qa (i := 0) (rds := []) (G := fun x : Unit => .bool t11.1) (C := fun x : Unit => Jn pb1 (Jae 256 (fun j_ => [.bool (t11.2 j_)])) 177) rfl (fun w L' S hF hS hi hp hlt ho hA => k169 hp hlt (Xm w S)  h_t11) call169 rfl) rfl rfl rfl (fun _ => ?_)
  refine lv (Jay rfl)<|Jd<|?_
  revert H12
  refine ci (!t11.1) rfl (fun hb H13=>?_) fun hb H14=>?_
  ·refine Qp<|Jc<|Ja<|mv (str x0_2)<|ag (str x0_2)<|Jd<|Ji<|?_
   obtain rfl := sj H13
   refine Ja1 (v := str x0_2) rfl rfl (Yg () (i := 0) rfl rfl (Imp.refl _))
  ·refine Jh<|Ja<|mv (str x0_2)<|?_
   obtain ⟨t14, h_t14, H15⟩ := Je H14; clear H14
   refine lv (Zi Tryz.underlying9 rfl rfl h_t14)<|ag (str t14)<|Jd<|?_
   exact cl (t14, t11.2) () m1 [0] (by exact ⟨(by subst hn1; exact H15), trivial⟩)
 ·refine Qp<|Jc<|Ja<|mv (str x0_2)<|ag (str x0_2)<|Jd<|Ji<|?_
  obtain rfl := sj H16
  refine Ja1 (v := str x0_2) rfl rfl (Yg () (i := 0) rfl rfl (Imp.refl _))
theorem k134 {a0 : (List UInt8)} {a1 : (Nat → Bool)} {pb1 : Nat} {r : (List UInt8) × (Nat → Bool)} {w : World} {h : Jw} {S : Nat → Prop} (hcs : (Jn pb1 (Jae 256 (fun j_ => [.bool (a1 j_)])) 177).P S w) (hlt : ∀ b, S b → b < w.heap.size) (hw : Know h w S) (H : Vq a0 a1 = some r) : Does prog 134 (List.toArray [str a0, pz pb1]) w (fun v w' => ∃ x : Unit, v = (str r.1) ∧ Turn w w' S (Jn pb1 (Jae 256 (fun j_ => [.bool (r.2 j_)])) 177)) := by
 refine enter (n := 22) func134 rfl rfl rfl S [Jn pb1 (Jae 256 (fun j_ => [.bool (a1 j_)])) 177] (Sat.one hcs hlt)<|Jc<|Ja<|ag (str [])<|Jd<|Jc<|Jp<|?_
 refine Xu (σ := (List UInt8) × (Nat → Bool)) (τ := Unit) (fun next1 s => Yx next1 s.1 s.2) (fun s t => [(0, str s.1), (1, pz pb1)]) (fun s t => [Jn pb1 (Jae 256 (fun j_ => [.bool (s.2 j_)])) 177]) (fun s t => True) (a0, a1) () [0] H (by exact trivial) (by exact ⟨rfl, rfl, trivial⟩) (by decide) rfl ?_
 rintro ⟨x0_2, m_2⟩ _ m1 gg H11 _
 clear H
 try dsimp only at H11
 generalize hn1 : it (fun next1 s => Yx next1 s.1 s.2) m1 = next1 at H11
 try dsimp only
 refine Jc<|Jc<|Ja<|mv (str x0_2)<|lv (Xc Tryz.underlying9 rfl)<|lv (Ye rfl rfl)<|Jd<|?_
 revert H11
 refine ci (decide (0 < (x0_2.length : Int))) rfl (fun hb H12=>?_) fun hb H20=>?_
 ·refine Jh<|Jp<|Jc<|Jc<|Ja<|mv (pz pb1)<|mv (str x0_2)<|mv (str x0_2)<|lv (Xc Tryz.underlying9 rfl)<|?_
  obtain ⟨t12, h_t12, H13⟩ := Je H12; clear H12
  refine lv (Vh rfl rfl h_t12) ?_
  obtain ⟨t13, h_t13, H14⟩ := Je H13; clear H13
  refine lv (Zs Tryz.underlying9 rfl rfl h_t13) ?_
  obtain ⟨t14, h_t14, H15⟩ := Je H14; clear H14
  refine Q1 (Qa (i := 0) (rds := []) (G := fun x : Unit => .bool t14.1) (C := fun x : Unit => Jn pb1 (Jae 256 (fun j_ => [.bool (t14.2 j_)])) 177) rfl (fun w L' S hF hS hi hp hlt ho hA => k169 hp hlt (Xm w S)  h_t14) call169 rfl) rfl rfl rfl (fun _ => ?_)
  refine lv (Jay rfl)<|Jd<|?_
  revert H15
  refine ci (!t14.1) rfl (fun hb H16=>?_) fun hb H17=>?_
  ·refine Qp<|Jc<|Ja<|mv (str x0_2)<|ag (str x0_2)<|Jd<|Ji<|?_
   obtain rfl := sj H16
   refine Ja1 (v := str x0_2) rfl rfl (Yg () (i := 0) rfl rfl (Imp.refl _))
  ·refine Jh<|Ja<|mv (str x0_2)<|mv (str x0_2)<|lv (Xc Tryz.underlying9 rfl)<|?_
   obtain ⟨t19, h_t19, H18⟩ := Je H17; clear H17
   refine lv (Vh rfl rfl h_t19) ?_
   obtain ⟨t20, h_t20, H19⟩ := Je H18; clear H18
   refine lv (Jco Tryz.underlying9 rfl rfl h_t20)<|ag (str t20)<|Jd<|?_
   exact cl (t20, t14.2) () m1 [0] (by exact ⟨(by subst hn1; exact H19), trivial⟩)
 ·refine Qp<|Jc<|Ja<|mv (str x0_2)<|ag (str x0_2)<|Jd<|Ji<|?_
  obtain rfl := sj H20
  refine Ja1 (v := str x0_2) rfl rfl (Yg () (i := 0) rfl rfl (Imp.refl _))
theorem k177 {a0 : (List UInt8)} {r : Int × Int} (H : V1 a0 = some r) : Ret prog 177 [str a0] (.tuple #[.int .i32 r.1, i6 r.2]) := by
 refine Qr (n := 117) func177 rfl rfl rfl (fun wd => ?_)
 refine Jc<|Ja<|ag (.int .i32 0)<|ag (i6 0)<|Jd<|Jc<|Ja<|mv (str a0)<|lv (Xc Tryz.underlying9 rfl)<|ag (i6 (a0.length : Int))<|Jd<|Jc<|Jc<|Ja<|mv (i6 (a0.length : Int))<|lv (Xk rfl rfl)<|Jd<|?_
 revert H
 refine ci (decide ((a0.length : Int) < 1)) rfl (fun hb H3=>?_) fun hb H4=>?_
 ·refine Jc<|Ja<|ag (.int .i32 65533)<|ag (i6 0)<|Jd<|Ji<|?_
  obtain rfl := sj H3
  refine Wh (v1 := .int .i32 65533) (v2 := i6 0) rfl rfl rfl (fin rfl)
 ·exact absurd (show (none : Option (Int × Int)) = some r from H4) (fun h => by cases h)
theorem k146 {a0 : (List UInt8)} {r : Int × Int} (H : Yh a0 = some r) : Ret prog 146 [str a0] (.tuple #[.int .i32 r.1, i6 r.2]) := by
 refine Qr (n := 19) func146 rfl rfl rfl (fun wd => ?_)
 refine Jc<|Ja<|ag (.int .i32 0)<|ag (i6 0)<|Jd<|Jc<|?_
 refine Qe (r := r) (σ := Bool) (τ := Unit) (fun s => Zk a0 s) (fun s t => [(0, str a0), (10, .bool s)]) (fun s t => []) (fun s t => True) ?_ ?_
 ·refine Ja<|mv (str a0)<|lv (Ja3 rfl rfl)<|mv (.bool (decide (a0 ≠ [])))<|?_
  revert H
  refine sp (fun hb H16=>?_) fun hb H18=>?_
  ·refine mv (str a0) ?_
   obtain ⟨t8, h_t8, H17⟩ := Je H16; clear H16
   refine lv (Zs Tryz.underlying9 rfl rfl h_t8)<|lv (Xk rfl rfl)<|pT (.bool (decide (t8 < 128)))<|Jd<|?_
   exact cl (decide (t8 < 128)) () 0 [] (by exact ⟨H17, trivial⟩)
  ·refine pa<|pa<|pa<|pF (.bool false)<|Jd<|?_
   exact cl false () 0 [] (by exact ⟨H18, trivial⟩)
 ·rintro x10 _ gg H10 _
  try dsimp only at H10
  try dsimp only
  revert H10
  refine ci x10 rfl (fun hb H11=>?_) fun hb H14=>?_
  ·refine Jc<|Ja<|mv (str a0)<|?_
   obtain ⟨t12, h_t12, H12⟩ := Je H11; clear H11
   refine lv (Zs Tryz.underlying9 rfl rfl h_t12) ?_
   obtain ⟨t13, h_t13, H13⟩ := Je H12; clear H12
   refine lv (Jfm Tryz.runUnderlying5 runUnderlying21 rfl (gK_i32 h_t13))<|ag (.int .i32 t13)<|ag (i6 1)<|Jd<|Ji<|?_
   obtain rfl := sj H13
   refine Wh (v1 := .int .i32 t13) (v2 := i6 1) rfl rfl rfl (fin rfl)
  ·refine Ja<|mv (str a0)<|?_
   obtain ⟨t16, h_t16, H15⟩ := Je H14; clear H14
   refine Qm (k177 h_t16) call177 rfl rfl rfl<|mv (.tuple #[.int .i32 t16.1, i6 t16.2])<|lv (Jo (v := .int .i32 t16.1) rfl rfl)<|lv (Jo (v := i6 t16.2) rfl rfl)<|ag (.int .i32 t16.1)<|ag (i6 t16.2)<|Jd<|Ji<|?_
   obtain rfl := sj H15
   refine Wh (v1 := .int .i32 t16.1) (v2 := i6 t16.2) rfl rfl rfl (fin rfl)
theorem k72 {a0 : (List UInt8)} {a1 : Int} {r : Int} (H : Jv a0 a1 = some r) : Ret prog 72 [str a0, .int .u8 a1] (i6 r) := by
 refine Qr (n := 8) func72 rfl rfl rfl (fun wd => ?_)
 refine Jc<|Ja<|ag (i6 0)<|Jd<|Jc<|Ja<|mv (str a0)<|mv (.int .u8 a1)<|?_
 obtain ⟨t7, h_t7, H2⟩ := Je H; clear H
 refine Qm (k119 h_t7) call119 rfl rfl rfl<|ag (i6 t7)<|Jd<|Ji<|?_
 obtain rfl := sj H2
 exact r1 (i6 t7)
theorem k196 {a0 : Int} {r : Bool} (H : Jcr a0 = some r) : Ret prog 196 [.int .i32 a0] (.bool r) := by
 refine Qr (n := 17) func196 rfl rfl rfl (fun wd => ?_)
 refine Jc<|Ja<|ag (.bool false)<|Jd<|Jc<|Jp<|?_
 refine Qe (r := r) (σ := Bool) (τ := Unit) (fun s => Ws a0 s) (fun s t => [(0, .int .i32 a0), (3, .bool s)]) (fun s t => []) (fun s t => True) ?_ ?_
 ·refine Ja<|mv (.int .i32 a0)<|lv (r_leq rfl rfl)<|mv (.bool (decide (0 ≤ a0)))<|?_
  revert H
  refine sp (fun hb H17=>?_) fun hb H18=>?_
  ·refine mv (.int .i32 a0)<|lv (Xk rfl rfl)<|pT (.bool (decide (a0 < 55296)))<|ag (.bool (decide (a0 < 55296)))<|Jd<|?_
   exact cl (decide (a0 < 55296)) () 0 [] (by exact ⟨H17, trivial⟩)
  ·refine pa<|pa<|pF (.bool false)<|ag (.bool false)<|Jd<|?_
   exact cl false () 0 [] (by exact ⟨H18, trivial⟩)
 ·rintro x3 _ gg H10 _
  try dsimp only at H10
  try dsimp only
  revert H10
  refine ci x3 rfl (fun hb H11=>?_) fun hb H12=>?_
  ·refine Jc<|Ja<|ag (.bool true)<|Jd<|Ji<|?_
   obtain rfl := sj H11
   exact r1 (.bool true)
  ·refine Jc<|Ja<|mv (.int .i32 a0)<|lv (Xk rfl rfl)<|mv (.bool (decide (57343 < a0)))<|?_
   revert H12
   refine sp (fun hb H13=>?_) fun hb H16=>?_
   ·refine mv (.int .i32 a0)<|lv (r_leq rfl rfl)<|pT (.bool (decide (a0 ≤ 1114111)))<|ag (.bool (decide (a0 ≤ 1114111)))<|Jd<|?_
    revert H13
    refine ci (decide (a0 ≤ 1114111)) rfl (fun hb H14=>?_) fun hb H15=>?_
    ·refine Jc<|Ja<|ag (.bool true)<|Jd<|Ji<|?_
     obtain rfl := sj H14
     exact r1 (.bool true)
    ·refine Jh<|Jc<|Ja<|ag (.bool false)<|Jd<|Ji<|?_
     obtain rfl := sj H15
     exact r1 (.bool false)
   ·refine pa<|pa<|pF (.bool false)<|ag (.bool false)<|Jd<|Zc rfl<|Jh<|Jc<|Ja<|ag (.bool false)<|Jd<|Ji<|?_
    obtain rfl := sj H16
    exact r1 (.bool false)
theorem k188 {a0 : (List UInt8)} {a1 : Int} {r : Int} (H : Jeu a0 a1 = some r) : Ret prog 188 [str a0, .int .i32 a1] (i6 r) := by
 refine Qr (n := 187) func188 rfl rfl rfl (fun wd => ?_)
 refine Jc<|Ja<|ag (i6 0)<|Jd<|Jp<|?_
 refine Qe (r := r) (σ := Bool) (τ := Unit) (fun s => Jbd a0 a1 s) (fun s t => [(0, str a0), (1, .int .i32 a1), (160, .bool s)]) (fun s t => []) (fun s t => True) ?_ ?_
 ·refine Ja<|mv (.int .i32 a1)<|lv (r_leq rfl rfl)<|mv (.bool (decide (0 ≤ a1)))<|?_
  revert H
  refine sp (fun hb H33=>?_) fun hb H34=>?_
  ·refine mv (.int .i32 a1)<|lv (Xk rfl rfl)<|pT (.bool (decide (a1 < 128)))<|ag (.bool (decide (a1 < 128)))<|Jd<|?_
   exact cl (decide (a1 < 128)) () 0 [] (by exact ⟨H33, trivial⟩)
  ·refine pa<|pa<|pF (.bool false)<|ag (.bool false)<|Jd<|?_
   exact cl false () 0 [] (by exact ⟨H34, trivial⟩)
 ·rintro x160 _ gg H18 _
  try dsimp only at H18
  try dsimp only
  revert H18
  refine ci x160 rfl (fun hb H19=>?_) fun hb H21=>?_
  ·refine Jc<|Ja<|mv (str a0)<|mv (.int .i32 a1)<|lv (Jfm runUnderlying21 Tryz.runUnderlying5 rfl (Jg8 _))<|?_
   obtain ⟨t170, h_t170, H20⟩ := Je H19; clear H19
   refine Qm (k72 h_t170) call72 rfl rfl rfl<|ag (i6 t170)<|Jd<|Ji<|?_
   obtain rfl := sj H20
   exact r1 (i6 t170)
  ·refine Jc<|Ja<|mv (.int .i32 a1)<|lv (Qd rfl rfl)<|ag (.bool (decide (a1 = 65533)))<|Jd<|?_
   revert H21
   refine ci (decide (a1 = 65533)) rfl (fun hb H22=>?_) fun hb H29=>?_
   ·refine Jc<|Jc<|Ja<|mv (str a0)<|?_
    refine Zy (rds := []) (Jjb (s := a0) Tryz.underlying9 rfl) rfl rfl rfl (fun b1 => ?_)
    refine Jd<|Jp<|?_
    refine Xu (σ := Nat) (τ := Unit) (fun next2 s => Jba a0 next2 s) (fun s t => [(175, pz b1)]) (fun s t => [iterC b1 a0 s]) (fun s t => True) 0 () [0] H22 (by exact trivial) (by exact ⟨rfl, trivial⟩) (by decide) rfl ?_
    rintro k_2 _ m2 gg H23 _
    clear H22
    try dsimp only at H23
    generalize hn2 : it (fun next2 s => Jba a0 next2 s) m2 = next2 at H23
    try dsimp only
    refine Jc<|Ja<|?_
    refine caseB (decide (k_2 < a0.length)) (fun hb => ?_) (fun hb => ?_)
    ·have H24 := Xn hb H23; clear H23
     obtain ⟨t176, h_t176, H25⟩ := Je H24; clear H24
     refine Q1 (Jkb (i := 0) (rds := []) rfl rfl h_t176) rfl rfl rfl (fun _ => ?_)
     refine lv (Jo (v := .bool true) rfl rfl)<|Jd<|Jc<|Yc rfl<|Jh<|Jp<|Jc<|Ja<|lv (Jo (v := i6 ((k_2 : Nat) : Int)) rfl rfl)<|lv (Jo (v := .int .i32 t176) rfl rfl)<|ag (i6 ((k_2 : Nat) : Int))<|ag (.int .i32 t176)<|Jd<|Jc<|Ja<|mv (.int .i32 t176)<|lv (Qd rfl rfl)<|Jd<|?_
     revert H25
     refine ci (decide (t176 = 65533)) rfl (fun hb H26=>?_) fun hb H27=>?_
     ·refine Jc<|Ja<|mv (i6 ((k_2 : Nat) : Int))<|ag (i6 ((k_2 : Nat) : Int))<|Jd<|Ji<|?_
      obtain rfl := sj H26
      exact r1 (i6 ((k_2 : Nat) : Int))
     ·refine Jh ?_
      exact cl (k_2 + 1) () m2 [0] (by exact ⟨(by subst hn2; exact H27), trivial⟩)
    ·have H28 := Xg hb H23; clear H23
     refine Qf (fun w hF hS => Jj2 (i := 0) hS rfl rfl hb) rfl rfl rfl<|lv (Jo (v := .bool false) rfl rfl)<|Jd<|Jc<|Zc rfl<|Qp<|Jc<|Ja<|ag (i6 (-1))<|Jd<|Ji<|?_
     obtain rfl := sj H28
     exact r1 (i6 (-1))
   ·refine Jc<|Ja<|mv (.int .i32 a1)<|?_
    obtain ⟨t185, h_t185, H30⟩ := Je H29; clear H29
    refine Qm (k196 h_t185) call196 rfl rfl rfl<|lv (Jay rfl)<|ag (.bool (!t185))<|Jd<|?_
    revert H30
    refine ci (!t185) rfl (fun hb H31=>?_) fun hb H32=>?_
    ·refine Jc<|Ja<|ag (i6 (-1))<|Jd<|Ji<|?_
     obtain rfl := sj H31
     exact r1 (i6 (-1))
    ·exact absurd (show (none : Option (Int)) = some r from H32) (fun h => by cases h)
theorem k170 {a0 : (List UInt8)} {a1 : Int} {r : Bool} (H : Ja4 a0 a1 = some r) : Ret prog 170 [str a0, .int .i32 a1] (.bool r) := by
 refine Qr (n := 9) func170 rfl rfl rfl (fun wd => ?_)
 refine Jc<|Ja<|ag (.bool false)<|Jd<|Jc<|Ja<|mv (str a0)<|mv (.int .i32 a1)<|?_
 obtain ⟨t7, h_t7, H2⟩ := Je H; clear H
 refine Qm (k188 h_t7) call188 rfl rfl rfl<|lv (Jg5 rfl rfl)<|ag (.bool (decide (0 ≤ t7)))<|Jd<|Ji<|?_
 obtain rfl := sj H2
 exact r1 (.bool (decide (0 ≤ t7)))
theorem k135 {a0 : (List UInt8)} {a1 : (List UInt8)} {r : (List UInt8)} (H : Jcf a0 a1 = some r) : Ret prog 135 [str a0, str a1] (str r) := by
 refine Qr (n := 23) func135 rfl rfl rfl (fun wd => ?_)
 refine Jc<|Ja<|ag (str [])<|Jd<|Jc<|Jp<|?_
 refine Xu (σ := (List UInt8)) (τ := Unit) (fun next1 s => We a1 next1 s) (fun s t => [(0, str s), (1, str a1)]) (fun s t => []) (fun s t => True) a0 () [] H (by exact trivial) (by exact ⟨rfl, rfl, trivial⟩) (by decide) rfl ?_
 rintro x0_2 _ m1 gg H9 _
 clear H
 try dsimp only at H9
 generalize hn1 : it (fun next1 s => We a1 next1 s) m1 = next1 at H9
 try dsimp only
 refine Jc<|Jc<|Ja<|mv (str x0_2)<|lv (Xc Tryz.underlying9 rfl)<|lv (Ye rfl rfl)<|Jd<|?_
 revert H9
 refine ci (decide (0 < (x0_2.length : Int))) rfl (fun hb H10=>?_) fun hb H16=>?_
 ·refine Jh<|Jp<|Jc<|Ja<|mv (str x0_2)<|?_
  obtain ⟨t12, h_t12, H11⟩ := Je H10; clear H10
  refine Qm (k146 h_t12) call146 rfl rfl rfl<|mv (.tuple #[.int .i32 t12.1, i6 t12.2])<|lv (Jo (v := .int .i32 t12.1) rfl rfl)<|lv (Jo (v := i6 t12.2) rfl rfl)<|ag (.int .i32 t12.1)<|ag (i6 t12.2)<|Jd<|Jc<|Jc<|Ja<|mv (str a1)<|mv (.int .i32 t12.1)<|?_
  obtain ⟨t17, h_t17, H12⟩ := Je H11; clear H11
  refine Qm (k170 h_t17) call170 rfl rfl rfl<|lv (Jay rfl)<|Jd<|?_
  revert H12
  refine ci (!t17) rfl (fun hb H13=>?_) fun hb H14=>?_
  ·refine Qp<|Jc<|Ja<|mv (str x0_2)<|ag (str x0_2)<|Jd<|Ji<|?_
   obtain rfl := sj H13
   exact r1 (str x0_2)
  ·refine Jh<|Ja<|mv (str x0_2)<|mv (i6 t12.2)<|?_
   obtain ⟨t21, h_t21, H15⟩ := Je H14; clear H14
   refine lv (Zi Tryz.underlying9 rfl rfl h_t21)<|ag (str t21)<|Jd<|?_
   exact cl t21 () m1 [] (by exact ⟨(by subst hn1; exact H15), trivial⟩)
 ·refine Qp<|Jc<|Ja<|mv (str x0_2)<|ag (str x0_2)<|Jd<|Ji<|?_
  obtain rfl := sj H16
  exact r1 (str x0_2)
theorem k189 {a0 : Int} {r : Bool} (H : Jcx a0 = some r) : Ret prog 189 [.int .u8 a0] (.bool r) := by
 refine Qr (n := 6) func189 rfl rfl rfl (fun wd => ?_)
 refine Jc<|Ja<|ag (.bool false)<|Jd<|Jc<|Ja<|mv (.int .u8 a0)<|lv (Jgu (bits := 8) rfl rfl rfl (Jg8 _))<|lv (Vk rfl rfl)<|ag (.bool (decide ((wU8 (bAnd 8 a0 192)) ≠ 128)))<|Jd<|Ji<|?_
 obtain rfl := sj H
 exact r1 (.bool (decide ((wU8 (bAnd 8 a0 192)) ≠ 128)))
theorem k171 {a0 : (List UInt8)} {r : Int × Int} (H : V0 a0 = some r) : Ret prog 171 [str a0] (.tuple #[.int .i32 r.1, i6 r.2]) := by
 refine Qr (n := 51) func171 rfl rfl rfl (fun wd => ?_)
 refine Jc<|Ja<|ag (.int .i32 0)<|ag (i6 0)<|Jd<|Jc<|Ja<|mv (str a0)<|lv (Xc Tryz.underlying9 rfl)<|ag (i6 (a0.length : Int))<|Jd<|Jc<|Jc<|Ja<|mv (i6 (a0.length : Int))<|lv (Qd rfl rfl)<|Jd<|?_
 revert H
 refine ci (decide ((a0.length : Int) = 0)) rfl (fun hb H27=>?_) fun hb H28=>?_
 ·refine Jc<|Ja<|ag (.int .i32 65533)<|ag (i6 0)<|Jd<|Ji<|?_
  obtain rfl := sj H27
  refine Wh (v1 := .int .i32 65533) (v2 := i6 0) rfl rfl rfl (fin rfl)
 ·refine Jh<|Jc<|Ja<|mv (i6 (a0.length : Int))<|?_
  obtain ⟨t12, h_t12, H29⟩ := Je H28; clear H28
  refine lv (Vh rfl rfl h_t12)<|ag (i6 t12)<|Jd<|Jc<|Ja<|mv (str a0)<|mv (i6 t12)<|?_
  obtain ⟨t15, h_t15, H30⟩ := Je H29; clear H29
  refine lv (Zs Tryz.underlying9 rfl rfl h_t15) ?_
  obtain ⟨t16, h_t16, H31⟩ := Je H30; clear H30
  refine lv (Jfm Tryz.runUnderlying5 runUnderlying21 rfl (gK_i32 h_t16))<|ag (.int .i32 t16)<|Jd<|Jc<|Jc<|Ja<|mv (.int .i32 t16)<|lv (Xk rfl rfl)<|Jd<|?_
  revert H31
  refine ci (decide (t16 < 128)) rfl (fun hb H32=>?_) fun hb H33=>?_
  ·refine Jc<|Ja<|mv (.int .i32 t16)<|ag (.int .i32 t16)<|ag (i6 1)<|Jd<|Ji<|?_
   obtain rfl := sj H32
   refine Wh (v1 := .int .i32 t16) (v2 := i6 1) rfl rfl rfl (fin rfl)
  ·refine Jh<|Jc<|Ja<|mv (i6 (a0.length : Int))<|?_
   obtain ⟨t21, h_t21, H34⟩ := Je H33; clear H33
   refine lv (Vh rfl rfl h_t21)<|lv (r_max rfl rfl)<|ag (i6 (max t21 0))<|Jd<|?_
   refine Qe (r := r) (σ := Int) (τ := Unit) (fun s => Yp a0 s) (fun s t => [(0, str a0), (4, i6 (a0.length : Int)), (5, i6 s)]) (fun s t => []) (fun s t => True) ?_ ?_
   ·refine Jc<|Ja<|mv (i6 t12)<|?_
    obtain ⟨t24, h_t24, H44⟩ := Je H34; clear H34
    refine lv (Vh rfl rfl h_t24)<|ag (i6 t24)<|Jd<|Jp<|?_
    refine Xu (σ := Int) (τ := Unit) (fun next3 s => Yr a0 t21 next3 s) (fun s t => [(0, str a0), (4, i6 (a0.length : Int)), (5, i6 s), (6, i6 (max t21 0))]) (fun s t => []) (fun s t => True) t24 () [] H44 (by exact trivial) (by exact ⟨rfl, rfl, rfl, rfl, trivial⟩) (by decide) rfl ?_
    rintro x5_4 _ m3 gg H45 _
    clear H44
    try dsimp only at H45
    generalize hn3 : it (fun next3 s => Yr a0 t21 next3 s) m3 = next3 at H45
    try dsimp only
    refine Jc<|Jc<|Ja<|mv (i6 x5_4)<|mv (i6 (max t21 0))<|lv (Jg5 rfl rfl)<|Jd<|?_
    revert H45
    refine ci (decide ((max t21 0) ≤ x5_4)) rfl (fun hb H46=>?_) fun hb H52=>?_
    ·refine Jh<|Jc<|Jp<|Jc<|Ja<|mv (str a0)<|mv (i6 x5_4)<|?_
     obtain ⟨t32, h_t32, H47⟩ := Je H46; clear H46
     refine lv (Zs Tryz.underlying9 rfl rfl h_t32) ?_
     obtain ⟨t33, h_t33, H48⟩ := Je H47; clear H47
     refine Qm (k189 h_t33) call189 rfl rfl rfl<|Jd<|?_
     revert H48
     refine ci t33 rfl (fun hb H49=>?_) fun hb H50=>?_
     ·refine Qp ?_
      exact cl x5_4 () 0 [] (by exact ⟨H49, trivial⟩)
     ·refine Jh<|Ja<|mv (i6 x5_4)<|?_
      obtain ⟨t29, h_t29, H51⟩ := Je H50; clear H50
      refine lv (Vh rfl rfl h_t29)<|ag (i6 t29)<|Jd<|?_
      exact cl t29 () m3 [] (by exact ⟨(by subst hn3; exact H51), trivial⟩)
    ·refine Qp ?_
     exact cl x5_4 () 0 [] (by exact ⟨H52, trivial⟩)
   ·rintro x5 _ gg H35 _
    try dsimp only at H35
    try dsimp only
    refine Qe (r := r) (σ := Int) (τ := Unit) (fun s => Yo a0 s) (fun s t => [(0, str a0), (4, i6 (a0.length : Int)), (5, i6 s)]) (fun s t => []) (fun s t => True) ?_ ?_
    ·refine Jc<|Ja<|mv (i6 x5)<|lv (Xk rfl rfl)<|Jd<|?_
     revert H35
     refine ci (decide (x5 < 0)) rfl (fun hb H42=>?_) fun hb H43=>?_
     ·refine Ja<|ag (i6 0)<|Jd<|?_
      exact cl 0 () 0 [] (by exact ⟨H42, trivial⟩)
     ·refine Jh ?_
      exact cl x5 () 0 [] (by exact ⟨H43, trivial⟩)
    ·rintro x5_2 _ gg H36 _
     try dsimp only at H36
     try dsimp only
     refine Jc<|Ja<|mv (str a0)<|mv (i6 x5_2)<|mv (i6 (a0.length : Int))<|?_
     obtain ⟨t40, h_t40, H37⟩ := Je H36; clear H36
     refine lv (r_cutTG Tryz.underlying9 rfl rfl rfl h_t40) ?_
     obtain ⟨t41, h_t41, H38⟩ := Je H37; clear H37
     refine Qm (k146 h_t41) call146 rfl rfl rfl<|mv (.tuple #[.int .i32 t41.1, i6 t41.2])<|lv (Jo (v := .int .i32 t41.1) rfl rfl)<|lv (Jo (v := i6 t41.2) rfl rfl)<|ag (.int .i32 t41.1)<|ag (i6 t41.2)<|Jd<|Jc<|Jc<|Ja<|mv (i6 x5_2)<|mv (i6 t41.2)<|?_
     obtain ⟨t46, h_t46, H39⟩ := Je H38; clear H38
     refine lv (J8 rfl rfl h_t46)<|mv (i6 (a0.length : Int))<|lv (Vk rfl rfl)<|Jd<|?_
     revert H39
     refine ci (decide (t46 ≠ (a0.length : Int))) rfl (fun hb H40=>?_) fun hb H41=>?_
     ·refine Jc<|Ja<|ag (.int .i32 65533)<|ag (i6 1)<|Jd<|Ji<|?_
      obtain rfl := sj H40
      refine Wh (v1 := .int .i32 65533) (v2 := i6 1) rfl rfl rfl (fin rfl)
     ·refine Jh<|Jc<|Ja<|mv (.int .i32 t41.1)<|mv (i6 t41.2)<|ag (.int .i32 t41.1)<|ag (i6 t41.2)<|Jd<|Ji<|?_
      obtain rfl := sj H41
      refine Wh (v1 := .int .i32 t41.1) (v2 := i6 t41.2) rfl rfl rfl (fin rfl)
theorem k136 {a0 : (List UInt8)} {a1 : (List UInt8)} {r : (List UInt8)} (H : Jbx a0 a1 = some r) : Ret prog 136 [str a0, str a1] (str r) := by
 refine Qr (n := 34) func136 rfl rfl rfl (fun wd => ?_)
 refine Jc<|Ja<|ag (str [])<|Jd<|Jc<|Jp<|?_
 refine Xu (σ := (List UInt8)) (τ := Unit) (fun next1 s => Vt a1 next1 s) (fun s t => [(0, str s), (1, str a1)]) (fun s t => []) (fun s t => True) a0 () [] H (by exact trivial) (by exact ⟨rfl, rfl, trivial⟩) (by decide) rfl ?_
 rintro x0_2 _ m1 gg H16 _
 clear H
 try dsimp only at H16
 generalize hn1 : it (fun next1 s => Vt a1 next1 s) m1 = next1 at H16
 try dsimp only
 refine Jc<|Jc<|Ja<|mv (str x0_2)<|lv (Xc Tryz.underlying9 rfl)<|lv (Ye rfl rfl)<|Jd<|?_
 revert H16
 refine ci (decide (0 < (x0_2.length : Int))) rfl (fun hb H17=>?_) fun hb H30=>?_
 ·refine Jh<|Jp<|Jc<|Ja<|mv (str x0_2)<|mv (str x0_2)<|lv (Xc Tryz.underlying9 rfl)<|?_
  obtain ⟨t13, h_t13, H18⟩ := Je H17; clear H17
  refine lv (Vh rfl rfl h_t13) ?_
  obtain ⟨t14, h_t14, H19⟩ := Je H18; clear H18
  refine lv (Zs Tryz.underlying9 rfl rfl h_t14) ?_
  obtain ⟨t15, h_t15, H20⟩ := Je H19; clear H19
  refine lv (Jfm Tryz.runUnderlying5 runUnderlying21 rfl (gK_i32 h_t15))<|ag (.int .i32 t15)<|ag (i6 1)<|Jd<|?_
  refine Qe (r := r) (σ := Int × Int) (τ := Unit) (fun s => Vr a1 x0_2 next1 s.1 s.2) (fun s t => [(0, str x0_2), (1, str a1), (5, .int .i32 s.1), (6, i6 s.2)]) (fun s t => []) (fun s t => True) ?_ ?_
  ·refine Jc<|Ja<|mv (.int .i32 t15)<|lv (Jg5 rfl rfl)<|Jd<|?_
   revert H20
   refine ci (decide (128 ≤ t15)) rfl (fun hb H27=>?_) fun hb H29=>?_
   ·refine Ja<|mv (str x0_2)<|?_
    obtain ⟨t20, h_t20, H28⟩ := Je H27; clear H27
    refine Qm (k171 h_t20) call171 rfl rfl rfl<|mv (.tuple #[.int .i32 t20.1, i6 t20.2])<|lv (Jo (v := .int .i32 t20.1) rfl rfl)<|lv (Jo (v := i6 t20.2) rfl rfl)<|ag (.int .i32 t20.1)<|ag (i6 t20.2)<|Jd<|?_
    exact cl (t20.1, t20.2) () 0 [] (by exact ⟨H28, trivial⟩)
   ·refine Jh ?_
    exact cl (t15, 1) () 0 [] (by exact ⟨H29, trivial⟩)
  ·rintro ⟨x5, x6⟩ _ gg H21 _
   try dsimp only at H21
   try dsimp only
   refine Jc<|Jc<|Ja<|mv (str a1)<|mv (.int .i32 x5)<|?_
   obtain ⟨t25, h_t25, H22⟩ := Je H21; clear H21
   refine Qm (k170 h_t25) call170 rfl rfl rfl<|lv (Jay rfl)<|Jd<|?_
   revert H22
   refine ci (!t25) rfl (fun hb H23=>?_) fun hb H24=>?_
   ·refine Qp<|Jc<|Ja<|mv (str x0_2)<|ag (str x0_2)<|Jd<|Ji<|?_
    obtain rfl := sj H23
    exact r1 (str x0_2)
   ·refine Jh<|Ja<|mv (str x0_2)<|mv (str x0_2)<|lv (Xc Tryz.underlying9 rfl)<|mv (i6 x6)<|?_
    obtain ⟨t31, h_t31, H25⟩ := Je H24; clear H24
    refine lv (Vh rfl rfl h_t31) ?_
    obtain ⟨t32, h_t32, H26⟩ := Je H25; clear H25
    refine lv (Jco Tryz.underlying9 rfl rfl h_t32)<|ag (str t32)<|Jd<|?_
    exact cl t32 () m1 [] (by exact ⟨(by subst hn1; exact H26), trivial⟩)
 ·refine Qp<|Jc<|Ja<|mv (str x0_2)<|ag (str x0_2)<|Jd<|Ji<|?_
  obtain rfl := sj H30
  exact r1 (str x0_2)
theorem k89 {a0 : (List UInt8)} {a1 : (List UInt8)} {r : (List UInt8)} (H : Jbk a0 a1 = some r) : Ret prog 89 [str a0, str a1] (str r) := by
 refine Qr (n := 43) func89 rfl rfl rfl (fun wd => ?_)
 refine Jc<|Ja<|ag (str [])<|Jd<|Jc<|Jc<|Ja<|mv (str a0)<|lv (Vl rfl rfl)<|mv (.bool (decide (a0 = [])))<|?_
 revert H
 refine sp (fun hb H22=>?_) fun hb H23=>?_
 ·refine pa<|pa<|pT (.bool true)<|Jd<|Yc rfl<|Jc<|Ja<|mv (str a0)<|ag (str a0)<|Jd<|Ji<|?_
  obtain rfl := sj H22
  exact r1 (str a0)
 ·refine mv (str a1)<|lv (Vl rfl rfl)<|pF (.bool (decide (a1 = [])))<|Jd<|?_
  revert H23
  refine ci (decide (a1 = [])) rfl (fun hb H24=>?_) fun hb H25=>?_
  ·refine Jc<|Ja<|mv (str a0)<|ag (str a0)<|Jd<|Ji<|?_
   obtain rfl := sj H24
   exact r1 (str a0)
  ·refine Jh ?_
   refine Qe (r := r) (σ := Unit) (τ := Unit) (fun s => Jbz a0 a1) (fun s t => [(0, str a0), (1, str a1)]) (fun s t => []) (fun s t => True) ?_ ?_
   ·refine Jc<|Ja<|mv (str a1)<|lv (Xc Tryz.underlying9 rfl)<|lv (Qd rfl rfl)<|mv (.bool (decide ((a1.length : Int) = 1)))<|?_
    revert H25
    refine sp (fun hb H34=>?_) fun hb H42=>?_
    ·refine mv (str a1) ?_
     obtain ⟨t19, h_t19, H35⟩ := Je H34; clear H34
     refine lv (Zs Tryz.underlying9 rfl rfl h_t19)<|lv (Xk rfl rfl)<|pT (.bool (decide (t19 < 128)))<|Jd<|?_
     revert H35
     refine ci (decide (t19 < 128)) rfl (fun hb H36=>?_) fun hb H41=>?_
     ·refine Jc ?_
      exact Qv (Kd.p :: Kd.p :: Kd.p :: Kd.d [] _ :: Kd.p :: Kd.p :: Kd.d [] _ :: Kd.p :: []) 0 mixed (by
       refine dm (str a0)<|dm (str a1)<|?_
       have h_t24 := J4 H36
       have H37 := J0 H36
       refine dv (Zs Tryz.underlying9 rfl rfl h_t24) ?_
       have h_t25 := J4 H37
       have H38 := J0 H37
       refine Jb9 (k131 h_t25) call131 rfl rfl<|dm (str a1)<|?_
       have h_t27 := J4 H38
       have H39 := J0 H38
       refine dv (Zs Tryz.underlying9 rfl rfl h_t27) ?_
       have h_t28 := J4 H39
       have H40 := J0 H39
       refine Jb9 (k130 h_t28) call130 rfl rfl<|Jq rfl rfl (Jg (v := str (val (W0 (val (Wm a0 (val (Xy a1 0)))) (val (Xy a1 0))))) rfl)<|X6<|Ji<|?_
       obtain rfl := sj H40
       exact r1 (str (val (W0 (val (Wm a0 (val (Xy a1 0)))) (val (Xy a1 0)))))
       ) (by kernel_rfl)
     ·refine Jh ?_
      exact cl () () 0 [] (by exact ⟨H41, trivial⟩)
    ·refine pa<|pa<|pa<|pF (.bool false)<|Jd<|Zc rfl<|Jh<|?_
     exact cl () () 0 [] (by exact ⟨H42, trivial⟩)
   ·rintro _ _ gg H26 _
    try dsimp only at H26
    try dsimp only
    refine Jc<|Jc<|Ja<|mv (str a1)<|?_
    obtain ⟨t31, h_t31, H27⟩ := Je H26; clear H26
    refine Qm (k132 h_t31) call132 rfl rfl rfl<|mv (.tuple #[.agg (List.toArray (Jae 256 (fun j_ => [.bool (t31.1 j_)]))), .bool t31.2])<|lv (Jo (v := .agg (List.toArray (Jae 256 (fun j_ => [.bool (t31.1 j_)])))) rfl rfl)<|lv (Jo (v := .bool t31.2) rfl rfl)<|?_
    refine Xi (cs := (Jae 256 (fun j_ => [.bool ((fun _ => false) j_)]))) zeroValue177 (by kernel_rfl) rfl rfl (fun b1 => ?_)
    refine Qu (i := 0) (vs := (Jae 256 (fun j_ => [.bool (t31.1 j_)]))) (cs' := (Jae 256 (fun j_ => [.bool (t31.1 j_)]))) sizeOf177 rfl rfl rfl rfl (Us (fun _ => rfl)) rfl (Jjr (fun _ => rfl)) rfl (Jke ((Us (fun _ => rfl)).trans (Us (fun _ => rfl)).symm))<|ag (.bool t31.2)<|Jd<|Jc<|Ja<|mv (.bool t31.2)<|Jd<|?_
    revert H27
    refine ci (t31.2) rfl (fun hb H28=>?_) fun hb H31=>?_
    ·refine Jc<|Ja<|mv (str a0)<|?_
     obtain ⟨t36, h_t36, H29⟩ := Je H28; clear H28
     refine Q1 (Qa (i := 0) (rds := []) (G := fun x : Unit => str t36.1) (C := fun x : Unit => Jn b1 (Jae 256 (fun j_ => [.bool (t36.2 j_)])) 177) rfl (fun w L' S hF hS hi hp hlt ho hA => k134 hp hlt (Xm w S)  h_t36) call134 rfl) rfl rfl rfl (fun _ => ?_)
     obtain ⟨t37, h_t37, H30⟩ := Je H29; clear H29
     refine Q1 (Qa (i := 0) (rds := []) (G := fun x : Unit => str t37.1) (C := fun x : Unit => Jn b1 (Jae 256 (fun j_ => [.bool (t37.2 j_)])) 177) rfl (fun w L' S hF hS hi hp hlt ho hA => k133 hp hlt (Xm w S)  h_t37) call133 rfl) rfl rfl rfl (fun _ => ?_)
     refine ag (str t37.1)<|Jd<|Ji<|?_
     obtain rfl := sj H30
     exact r1 (str t37.1)
    ·refine Jh<|Jc<|Ja<|mv (str a0)<|mv (str a1)<|?_
     obtain ⟨t40, h_t40, H32⟩ := Je H31; clear H31
     refine Qm (k136 h_t40) call136 rfl rfl rfl<|mv (str a1)<|?_
     obtain ⟨t42, h_t42, H33⟩ := Je H32; clear H32
     refine Qm (k135 h_t42) call135 rfl rfl rfl<|ag (str t42)<|Jd<|Ji<|?_
     obtain rfl := sj H33
     exact r1 (str t42)
theorem k90 {a0 : (List UInt8)} {r : Int} (H : Jhx a0 = some r) : Ret prog 90 [str a0] (.tuple #[i6 r, .nilIface]) :=
  atoi_ret (ρ := Go.Proofs.Tryz.lays172_ren) Go.Proofs.Tryz.lays172 H
theorem k48 {a0 : (List UInt8)} {a1 : Bool} {r : Int × Bool} {w : World} {h : Jw} (hw : Know h w Ys) (tb_pow10 : TabH prog h "internal/strconv.uint64pow10" .u64 Lib.pow10Tab) (H : Zh a0 a1 = some r) : Does prog 48 (List.toArray [str a0, .bool a1]) w (fun v w' => v = (.tuple #[i6 r.1, .bool r.2]) ∧ Grow w w') := by
 refine enter (n := 39) func48 rfl rfl rfl Ys [] (Sat.nil _ _)<|Jc<|Ja<|ag (i6 0)<|ag (.bool false)<|Jd<|Jc<|Ja<|mv (str a0)<|ag (str a0)<|Jd<|?_
 refine Qe (r := r) (σ := (List UInt8)) (τ := Unit) (fun s => Zj a0 s) (fun s t => [(0, str a0), (6, str s)]) (fun s t => []) (fun s t => True) ?_ ?_
 ·refine Jc<|Ja<|mv (.bool a1)<|Jd<|?_
  revert H
  refine ci a1 rfl (fun hb H24=>?_) fun hb H26=>?_
  ·refine Ja<|mv (str a0)<|?_
   obtain ⟨t12, h_t12, H25⟩ := Je H24; clear H24
   refine Qm (k88 h_t12) call88 rfl rfl rfl<|ag (str t12)<|Jd<|?_
   exact cl t12 () 0 [] (by exact ⟨H25, trivial⟩)
  ·refine Jh ?_
   exact cl a0 () 0 [] (by exact ⟨H26, trivial⟩)
 ·rintro x6 _ gg H14 _
  try dsimp only at H14
  try dsimp only
  refine Jc<|Jc<|Ja<|mv (str x6)<|lv (Vl rfl rfl)<|mv (.bool (decide (x6 = [])))<|?_
  revert H14
  refine sp (fun hb H15=>?_) fun hb H16=>?_
  ·refine pa<|pa<|pa<|pT (.bool true)<|mv (.bool true)<|pa<|pa<|pa<|pT (.bool true)<|Jd<|Yc rfl<|Jc<|Ja<|ag (i6 0)<|ag (.bool false)<|Jd<|Ji<|?_
   obtain rfl := sj H15
   refine Wh (v1 := i6 0) (v2 := .bool false) rfl rfl rfl (fin rfl)
  ·refine mv (str x6)<|lv (Xc Tryz.underlying9 rfl)<|lv (Ye rfl rfl)<|pF (.bool (decide (10 < (x6.length : Int))))<|mv (.bool (decide (10 < (x6.length : Int))))<|?_
   revert H16
   refine sp (fun hb H17=>?_) fun hb H18=>?_
   ·refine pa<|pa<|pa<|pT (.bool true)<|Jd<|Yc rfl<|Jc<|Ja<|ag (i6 0)<|ag (.bool false)<|Jd<|Ji<|?_
    obtain rfl := sj H17
    refine Wh (v1 := i6 0) (v2 := .bool false) rfl rfl rfl (fin rfl)
   ·refine mv (str x6) ?_
    obtain ⟨t22, h_t22, H19⟩ := Je H18; clear H18
    refine Qm (k89 h_t22) call89 rfl rfl rfl<|lv (Ja3 rfl rfl)<|pF (.bool (decide (t22 ≠ [])))<|Jd<|?_
    revert H19
    refine ci (decide (t22 ≠ [])) rfl (fun hb H20=>?_) fun hb H21=>?_
    ·refine Jc<|Ja<|ag (i6 0)<|ag (.bool false)<|Jd<|Ji<|?_
     obtain rfl := sj H20
     refine Wh (v1 := i6 0) (v2 := .bool false) rfl rfl rfl (fin rfl)
    ·refine Jh<|Jc<|Ja<|mv (str a0)<|?_
     obtain ⟨t27, h_t27, H22⟩ := Je H21; clear H21
     refine Qm (k90 h_t27) call90 rfl rfl rfl<|mv (.tuple #[i6 t27, .nilIface])<|lv (Jo (v := i6 t27) rfl rfl)<|lv (Jo (v := .nilIface) rfl rfl)<|ag (i6 t27)<|ag (.nilIface)<|Jd<|Jc<|Ja<|mv (i6 t27)<|mv (.nilIface)<|lv (r_eqlErr rfl (by intro w; kernel_rfl))<|mv (.bool true)<|mv (i6 t27)<|?_
     obtain ⟨t35, h_t35, H23⟩ := Je H22; clear H22
     refine Qt (fun w hF hS => k41 (Ju w) (tb_pow10.mono (hw.now hF)) h_t35) call41 rfl rfl rfl<|mv (str a0)<|lv (Vl rfl rfl)<|pT (.bool (decide (t35 = a0)))<|ag (i6 t27)<|ag (.bool (decide (t35 = a0)))<|Jd<|Ji<|?_
     obtain rfl := sj H23
     refine Wh (v1 := i6 t27) (v2 := .bool (decide (t35 = a0))) rfl rfl rfl (fin rfl)
theorem k145 {a0 : (List UInt8)} {r : Int} (H : Z9 a0 = some r) : Ret prog 145 [str a0] (i6 r) := by
 refine Qr (n := 10) func145 rfl rfl rfl (fun wd => ?_)
 refine Jc<|Ja<|ag (i6 0)<|Jd<|Jc<|Jc<|Ja<|mv (str a0)<|?_
 refine Zy (rds := []) (Jjb (s := a0) Tryz.underlying9 rfl) rfl rfl rfl (fun b1 => ?_)
 refine Jd<|Jp<|?_
 refine Xu (σ := Int × Nat) (τ := Unit) (fun next1 s => Zq a0 next1 s.1 s.2) (fun s t => [(2, i6 s.1), (4, pz b1)]) (fun s t => [iterC b1 a0 s.2]) (fun s t => True) (0, 0) () [0] H (by exact trivial) (by exact ⟨rfl, rfl, trivial⟩) (by decide) rfl ?_
 rintro ⟨x2_2, k_2⟩ _ m1 gg H6 _
 clear H
 try dsimp only at H6
 generalize hn1 : it (fun next1 s => Zq a0 next1 s.1 s.2) m1 = next1 at H6
 try dsimp only
 refine Jc<|Ja<|?_
 refine caseB (decide (k_2 < a0.length)) (fun hb => ?_) (fun hb => ?_)
 ·have H7 := Xn hb H6; clear H6
  obtain ⟨t5, h_t5, H8⟩ := Je H7; clear H7
  refine Q1 (Jkb (i := 0) (rds := []) rfl rfl h_t5) rfl rfl rfl (fun _ => ?_)
  refine lv (Jo (v := .bool true) rfl rfl)<|Jd<|Jc<|Yc rfl<|Jh<|Jp<|Ja<|mv (i6 x2_2)<|?_
  obtain ⟨t8, h_t8, H9⟩ := Je H8; clear H8
  refine lv (J8 rfl rfl h_t8)<|ag (i6 t8)<|Jd<|?_
  exact cl (t8, (k_2 + 1)) () m1 [0] (by exact ⟨(by subst hn1; exact H9), trivial⟩)
 ·have H10 := Xg hb H6; clear H6
  refine Qf (fun w hF hS => Jj2 (i := 0) hS rfl rfl hb) rfl rfl rfl<|lv (Jo (v := .bool false) rfl rfl)<|Jd<|Jc<|Zc rfl<|Qp<|Jc<|Ja<|mv (i6 x2_2)<|ag (i6 x2_2)<|Jd<|Ji<|?_
  obtain rfl := sj H10
  exact r1 (i6 x2_2)
theorem k95 {a0 : (List UInt8)} {a1 : Int} {r : (List (List UInt8))} {w : World} {h : Jw} (hw : Know h w Ys) (H : Jf8 a0 a1 = some r) : Does prog 95 (List.toArray [str a0, i6 a1]) w (fun v w' => ∃ x : AN, v = (sl x r.length) ∧ Turn w w' Ys (J3 9 1 (sl x r.length) r.length (r.map Jz))) := by
 refine enter (n := 50) func95 rfl rfl rfl Ys [] (Sat.nil _ _)<|Jc<|Ja<|ag (z0s)<|Jd<|Jc<|Ja<|mv (str a0)<|?_
 obtain ⟨t11, h_t11, H24⟩ := Je H; clear H
 refine Qm (k145 h_t11) call145 rfl rfl rfl<|ag (i6 t11)<|Jd<|?_
 refine Qe (r := r) (σ := Int) (τ := Unit) (fun s => Jaa a0 s) (fun s t => [(0, str a0), (1, i6 s)]) (fun s t => []) (fun s t => True) ?_ ?_
 ·refine Jc<|Ja<|mv (i6 a1)<|lv (Xk rfl rfl)<|mv (.bool (decide (a1 < 0)))<|?_
  revert H24
  refine sp (fun hb H43=>?_) fun hb H44=>?_
  ·refine pa<|pa<|pa<|pT (.bool true)<|Jd<|Yc rfl<|Ja<|mv (i6 t11)<|ag (i6 t11)<|Jd<|?_
   exact cl t11 () 0 [] (by exact ⟨H43, trivial⟩)
  ·refine mv (i6 a1)<|mv (i6 t11)<|lv (Ye rfl rfl)<|pF (.bool (decide (t11 < a1)))<|Jd<|?_
   revert H44
   refine ci (decide (t11 < a1)) rfl (fun hb H45=>?_) fun hb H46=>?_
   ·refine Ja<|mv (i6 t11)<|ag (i6 t11)<|Jd<|?_
    exact cl t11 () 0 [] (by exact ⟨H45, trivial⟩)
   ·refine Jh ?_
    exact cl a1 () 0 [] (by exact ⟨H46, trivial⟩)
 ·rintro x1 _ gg H25 _
  try dsimp only at H25
  try dsimp only
  refine Jc<|Ja<|mv (i6 x1)<|?_
  obtain ⟨t21, h_t21, H26⟩ := Je H25; clear H25
  refine Zy (rds := []) (Jgr (E := 9) (sz := 1) (f := Jz) (xs := t21) Tryz.underlying31 (Xv typeInfo9) rfl rfl rfl rfl rfl rfl ⟨rfl, rfl⟩ h_t21) rfl rfl rfl (fun p => ?_)
  refine ag (sl p t21.length)<|Jd<|?_
  refine Qe (r := r) (σ := (List UInt8) × (List (List UInt8))) (τ := Unit) (fun s => Jef x1 s.1 s.2) (fun s t => [(0, str s.1), (1, i6 x1), (6, sl p t21.length)]) (fun s t => [J3 9 1 (sl p t21.length) t21.length (s.2.map Jz)]) (fun s t => t21.length = s.2.length) ?_ ?_
  ·refine Jc<|Ja<|ag (i6 0)<|Jd<|Jp<|?_
   refine Xu (σ := (List UInt8) × Int × (List (List UInt8))) (τ := Unit) (fun next3 s => Jcb x1 next3 s.1 s.2.1 s.2.2) (fun s t => [(0, str s.1), (1, i6 x1), (6, sl p t21.length), (7, i6 s.2.1)]) (fun s t => [J3 9 1 (sl p t21.length) t21.length (s.2.2.map Jz)]) (fun s t => t21.length = s.2.2.length) (a0, 0, t21) () [0] H26 (by exact rfl) (by exact ⟨rfl, rfl, rfl, rfl, trivial⟩) (by decide) rfl ?_
   rintro ⟨x0_3, x7_2, l_3⟩ _ m3 gg H33 hl_3
   clear H26
   try dsimp only at H33
   generalize hn3 : it (fun next3 s => Jcb x1 next3 s.1 s.2.1 s.2.2) m3 = next3 at H33
   try dsimp only
   refine Jc<|Jc<|Ja<|mv (i6 x7_2)<|mv (i6 x1)<|?_
   obtain ⟨t24, h_t24, H34⟩ := Je H33; clear H33
   refine lv (Vh rfl rfl h_t24)<|lv (Xk rfl rfl)<|Jd<|?_
   revert H34
   refine ci (decide (x7_2 < t24)) rfl (fun hb H35=>?_) fun hb H42=>?_
   ·refine Jh<|Jc<|Jp<|Jc<|Ja<|mv (str x0_3)<|?_
    obtain ⟨t30, h_t30, H36⟩ := Je H35; clear H35
    refine Qm (k146 h_t30) call146 rfl rfl rfl<|mv (.tuple #[.int .i32 t30.1, i6 t30.2])<|lv (Jo (v := .int .i32 t30.1) rfl rfl)<|lv (Jo (v := i6 t30.2) rfl rfl)<|ag (.int .i32 t30.1)<|ag (i6 t30.2)<|Jd<|Jc<|Ja<|mv (sl p t21.length)<|mv (i6 x7_2)<|mv (str x0_3)<|mv (i6 t30.2)<|?_
    obtain ⟨t37, h_t37, H37⟩ := Je H36; clear H36
    refine lv (Jco Tryz.underlying9 rfl rfl h_t37) ?_
    obtain ⟨t38, h_t38, H38⟩ := Je H37; clear H37
    refine Qf (fun w hF hS => Qx Tryz.underlying31 Tryz.sizeOf9 rfl rfl (Xd (i := 0) hS rfl) hl_3 h_t38) rfl rfl rfl ?_
    obtain ⟨l0_2, h_l0_2, H39⟩ := Je H38; clear H38
    refine Jds (q := 0) (j := 0) (i := x7_2) (sz := 1) (hm := hl_3) (f := Jz) (vs := [str t37]) Tryz.sizeOf9 rfl rfl rfl rfl rfl rfl rfl rfl rfl (fun y_ hy_ => by first | rfl | (cases hy_.symm.trans h_t38; rfl)) h_l0_2<|Jd<|Ja<|mv (str x0_3)<|mv (i6 t30.2)<|?_
    obtain ⟨t41, h_t41, H40⟩ := Je H39; clear H39
    refine lv (Zi Tryz.underlying9 rfl rfl h_t41)<|ag (str t41)<|Jd<|Ja<|mv (i6 x7_2)<|?_
    obtain ⟨t27, h_t27, H41⟩ := Je H40; clear H40
    refine lv (J8 rfl rfl h_t27)<|ag (i6 t27)<|Jd<|?_
    exact cl (t41, t27, l0_2) () m3 [0] (by exact ⟨(by subst hn3; exact H41), (Jhk hl_3 h_l0_2)⟩)
   ·refine Qp ?_
    exact cl (x0_3, l_3) () 0 [0] (by exact ⟨H42, hl_3⟩)
  ·rintro ⟨x0, l⟩ _ gg H27 hl
   try dsimp only at H27
   try dsimp only
   refine Jc<|Jc<|Ja<|mv (i6 x1)<|lv (Ye rfl rfl)<|Jd<|?_
   revert H27
   refine ci (decide (0 < x1)) rfl (fun hb H28=>?_) fun hb H32=>?_
   ·refine Ja<|mv (sl p t21.length)<|mv (i6 x1)<|?_
    obtain ⟨t46, h_t46, H29⟩ := Je H28; clear H28
    refine lv (Vh rfl rfl h_t46)<|mv (str x0)<|?_
    obtain ⟨t48, h_t48, H30⟩ := Je H29; clear H29
    refine Qf (fun w hF hS => Qx Tryz.underlying31 Tryz.sizeOf9 rfl rfl (Xd (i := 0) hS rfl) hl h_t48) rfl rfl rfl ?_
    obtain ⟨l0, h_l0, H31⟩ := Je H30; clear H30
    refine Jds (q := 0) (j := 0) (i := t46) (sz := 1) (hm := hl) (f := Jz) (vs := [str x0]) Tryz.sizeOf9 rfl rfl rfl rfl rfl rfl rfl rfl rfl (fun y_ hy_ => by first | rfl | (cases hy_.symm.trans h_t48; rfl)) h_l0<|Jd<|Jc<|Ja<|mv (sl p t21.length)<|ag (sl p t21.length)<|Jd<|Ji<|?_
    obtain rfl := sj H31
    refine Ja1 (v := sl p t21.length) rfl rfl (Yg p (i := 0) rfl (by first | rfl | rw [(show t21.length = l0.length from (Jhk hl h_l0))]) (by first | exact Imp.refl _ | exact Imp.of (by rw [(show t21.length = l0.length from (Jhk hl h_l0))] <;> rfl)))
   ·refine Jh<|Jc<|Ja<|mv (sl p t21.length)<|ag (sl p t21.length)<|Jd<|Ji<|?_
    obtain rfl := sj H32
    refine Ja1 (v := sl p t21.length) rfl rfl (Yg p (i := 0) rfl (by first | rfl | rw [(show t21.length = l.length from hl)]) (by first | exact Imp.refl _ | exact Imp.of (by rw [(show t21.length = l.length from hl)] <;> rfl)))
theorem k97 {a0 : (List UInt8)} {a1 : (List UInt8)} {r : Int} (H : Ug a0 a1 = some r) : Ret prog 97 [str a0, str a1] (i6 r) := by
 refine Qr (n := 8) func97 rfl rfl rfl (fun wd => ?_)
 refine Jc<|Ja<|ag (i6 0)<|Jd<|Jc<|Ja<|mv (str a0)<|mv (str a1)<|?_
 obtain ⟨t7, h_t7, H2⟩ := Je H; clear H
 refine Qm (k86 h_t7) call86 rfl rfl rfl<|ag (i6 t7)<|Jd<|Ji<|?_
 obtain rfl := sj H2
 exact r1 (i6 t7)
theorem ext147 (s : List UInt8) (c r : Int) (h : gCnB s c = some r) (w : World) : (callFunc 147 (List.toArray [str s, .int .u8 c])).run prog w = .ok (.value (i6 r)) w := by
  have h0 : (callFunc 147 #[str s, .int .u8 c]).run prog w = (do pure (.value (← Extern.BytealgCount.count #[str s, .int .u8 c])) : Sem Next).run prog w := by kernel_rfl
  rw [h0]
  simp only [Sem.run_bind, Go.Lx.run_cnB h, Result.andThen_ok, Sem.run_pure]
theorem k96 {a0 : (List UInt8)} {a1 : (List UInt8)} {r : Int} (H : Jaq a0 a1 = some r) : Ret prog 96 [str a0, str a1] (i6 r) := by
 refine Qr (n := 34) func96 rfl rfl rfl (fun wd => ?_)
 refine Jc<|Ja<|ag (i6 0)<|Jd<|Jc<|Jc<|Ja<|mv (str a1)<|lv (Xc Tryz.underlying9 rfl)<|lv (Qd rfl rfl)<|Jd<|?_
 revert H
 refine ci (decide ((a1.length : Int) = 0)) rfl (fun hb H16=>?_) fun hb H19=>?_
 ·refine Jc<|Ja<|mv (str a0)<|?_
  obtain ⟨t11, h_t11, H17⟩ := Je H16; clear H16
  refine Qm (k145 h_t11) call145 rfl rfl rfl ?_
  obtain ⟨t12, h_t12, H18⟩ := Je H17; clear H17
  refine lv (J8 rfl rfl h_t12)<|ag (i6 t12)<|Jd<|Ji<|?_
  obtain rfl := sj H18
  exact r1 (i6 t12)
 ·refine Jh<|Jc<|Jc<|Ja<|mv (str a1)<|lv (Xc Tryz.underlying9 rfl)<|lv (Qd rfl rfl)<|Jd<|?_
  revert H19
  refine ci (decide ((a1.length : Int) = 1)) rfl (fun hb H20=>?_) fun hb H23=>?_
  ·refine Jc<|Ja<|mv (str a0)<|mv (str a1)<|?_
   obtain ⟨t18, h_t18, H21⟩ := Je H20; clear H20
   refine lv (Zs Tryz.underlying9 rfl rfl h_t18) ?_
   obtain ⟨t19, h_t19, H22⟩ := Je H21; clear H21
   refine lv (r_ext (args := [str a0, .int .u8 t18]) (ext147 _ _ _ h_t19) rfl)<|ag (i6 t19)<|Jd<|Ji<|?_
   obtain rfl := sj H22
   exact r1 (i6 t19)
  ·refine Jh<|Jc<|Ja<|ag (i6 0)<|Jd<|Jp<|?_
   refine Xu (σ := (List UInt8) × Int) (τ := Unit) (fun next1 s => Jc6 a1 next1 s.1 s.2) (fun s t => [(0, str s.1), (1, str a1), (5, i6 s.2)]) (fun s t => []) (fun s t => True) (a0, 0) () [] H23 (by exact trivial) (by exact ⟨rfl, rfl, rfl, trivial⟩) (by decide) rfl ?_
   rintro ⟨x0_2, x5_2⟩ _ m1 gg H24 _
   clear H23
   try dsimp only at H24
   generalize hn1 : it (fun next1 s => Jc6 a1 next1 s.1 s.2) m1 = next1 at H24
   try dsimp only
   refine Jp<|Jc<|Ja<|mv (str x0_2)<|mv (str a1)<|?_
   obtain ⟨t22, h_t22, H25⟩ := Je H24; clear H24
   refine Qm (k97 h_t22) call97 rfl rfl rfl<|ag (i6 t22)<|Jd<|Jc<|Jc<|Ja<|mv (i6 t22)<|lv (Qd rfl rfl)<|Jd<|?_
   revert H25
   refine ci (decide (t22 = (-1))) rfl (fun hb H26=>?_) fun hb H27=>?_
   ·refine Jc<|Ja<|mv (i6 x5_2)<|ag (i6 x5_2)<|Jd<|Ji<|?_
    obtain rfl := sj H26
    exact r1 (i6 x5_2)
   ·refine Jh<|Jc<|Ja<|mv (i6 x5_2)<|?_
    obtain ⟨t27, h_t27, H28⟩ := Je H27; clear H27
    refine lv (J8 rfl rfl h_t27)<|ag (i6 t27)<|Jd<|Ja<|mv (str x0_2)<|mv (i6 t22)<|mv (str a1)<|lv (Xc Tryz.underlying9 rfl)<|?_
    obtain ⟨t32, h_t32, H29⟩ := Je H28; clear H28
    refine lv (J8 rfl rfl h_t32) ?_
    obtain ⟨t33, h_t33, H30⟩ := Je H29; clear H29
    refine lv (Zi Tryz.underlying9 rfl rfl h_t33)<|ag (str t33)<|Jd<|?_
    exact cl (t33, t27) () m1 [] (by exact ⟨(by subst hn1; exact H30), trivial⟩)
theorem k51 {a0 : (List UInt8)} {a1 : (List UInt8)} {a2 : Int} {a3 : Int} {r : (List (List UInt8))} {w : World} {h : Jw} (hw : Know h w Ys) (H : Uo a0 a1 a2 a3 = some r) : Does prog 51 (List.toArray [str a0, str a1, i6 a2, i6 a3]) w (fun v w' => ∃ x : AN, v = (sl x r.length) ∧ Turn w w' Ys (J3 9 1 (sl x r.length) r.length (r.map Jz))) := by
 refine enter (n := 66) func51 rfl rfl rfl Ys [] (Sat.nil _ _)<|Jc<|Ja<|ag (z0s)<|Jd<|Jc<|Jc<|Ja<|mv (i6 a3)<|lv (Qd rfl rfl)<|Jd<|?_
 revert H
 refine ci (decide (a3 = 0)) rfl (fun hb H32=>?_) fun hb H33=>?_
 ·refine Jc<|Ja<|ag (z0s)<|Jd<|Ji<|J9 9 1<|?_
  obtain rfl := sj H32
  refine Ja1 (v := sl nn ([] : List (List UInt8)).length) rfl rfl (Yg nn (i := 0) rfl rfl (Imp.refl _))
 ·refine Jh<|Jc<|Jc<|Ja<|mv (str a1)<|lv (Vl rfl rfl)<|Jd<|?_
  revert H33
  refine ci (decide (a1 = [])) rfl (fun hb H34=>?_) fun hb H36=>?_
  ·refine Jc<|Ja<|mv (str a0)<|mv (i6 a3)<|?_
   obtain ⟨t18, h_t18, H35⟩ := Je H34; clear H34
   refine Zy (Xr (rds := []) (fun w L' hF hS hi => k95 (Ju w)  h_t18) call95 rfl) rfl rfl rfl (fun p => ?_)
   refine ag (sl p t18.length)<|Jd<|Ji<|?_
   obtain rfl := sj H35
   refine Ja1 (v := sl p t18.length) rfl rfl (Yg p (i := 0) rfl rfl (Imp.refl _))
  ·refine Jh ?_
   refine Qe (r := r) (σ := Int) (τ := Unit) (fun s => Vo a0 a1 a2 s) (fun s t => [(0, str a0), (1, str a1), (2, i6 a2), (3, i6 s)]) (fun s t => []) (fun s t => True) ?_ ?_
   ·refine Jc<|Ja<|mv (i6 a3)<|lv (Xk rfl rfl)<|Jd<|?_
    revert H36
    refine ci (decide (a3 < 0)) rfl (fun hb H59=>?_) fun hb H62=>?_
    ·refine Ja<|mv (str a0)<|mv (str a1)<|?_
     obtain ⟨t23, h_t23, H60⟩ := Je H59; clear H59
     refine Qm (k96 h_t23) call96 rfl rfl rfl ?_
     obtain ⟨t24, h_t24, H61⟩ := Je H60; clear H60
     refine lv (J8 rfl rfl h_t24)<|ag (i6 t24)<|Jd<|?_
     exact cl t24 () 0 [] (by exact ⟨H61, trivial⟩)
    ·refine Jh ?_
     exact cl a3 () 0 [] (by exact ⟨H62, trivial⟩)
   ·rintro x3 _ gg H37 _
    try dsimp only at H37
    try dsimp only
    refine Jc<|Ja<|mv (i6 x3)<|mv (str a0)<|lv (Xc Tryz.underlying9 rfl)<|?_
    obtain ⟨t28, h_t28, H38⟩ := Je H37; clear H37
    refine lv (J8 rfl rfl h_t28)<|lv (r_min rfl rfl)<|ag (i6 (min x3 t28))<|Jd<|Jc<|Ja<|mv (i6 (min x3 t28))<|?_
    obtain ⟨t31, h_t31, H39⟩ := Je H38; clear H38
    refine Zy (rds := []) (Jgr (E := 9) (sz := 1) (f := Jz) (xs := t31) Tryz.underlying31 (Xv typeInfo9) rfl rfl rfl rfl rfl rfl ⟨rfl, rfl⟩ h_t31) rfl rfl rfl (fun p_2 => ?_)
    refine ag (sl p_2 t31.length)<|Jd<|Jc<|Ja<|mv (i6 (min x3 t28))<|?_
    obtain ⟨t33, h_t33, H40⟩ := Je H39; clear H39
    refine lv (Vh rfl rfl h_t33)<|ag (i6 t33)<|Jd<|Jc<|Ja<|ag (i6 0)<|Jd<|?_
    refine Qe (r := r) (σ := (List UInt8) × Int × (List (List UInt8))) (τ := Unit) (fun s => Y3 s.1 s.2.1 s.2.2) (fun s t => [(0, str s.1), (9, sl p_2 t31.length), (10, i6 s.2.1)]) (fun s t => [J3 9 1 (sl p_2 t31.length) t31.length (s.2.2.map Jz)]) (fun s t => t31.length = s.2.2.length) ?_ ?_
    ·refine Jp ?_
     refine Xu (σ := (List UInt8) × Int × (List (List UInt8))) (τ := Unit) (fun next3 s => Qg a1 a2 t33 next3 s.1 s.2.1 s.2.2) (fun s t => [(0, str s.1), (1, str a1), (2, i6 a2), (3, i6 t33), (9, sl p_2 t31.length), (10, i6 s.2.1)]) (fun s t => [J3 9 1 (sl p_2 t31.length) t31.length (s.2.2.map Jz)]) (fun s t => t31.length = s.2.2.length) (a0, 0, t31) () [0] H40 (by exact rfl) (by exact ⟨rfl, rfl, rfl, rfl, rfl, rfl, trivial⟩) (by decide) rfl ?_
     rintro ⟨x0_3, x10_3, l_3⟩ _ m3 gg H46 hl_3
     clear H40
     try dsimp only at H46
     generalize hn3 : it (fun next3 s => Qg a1 a2 t33 next3 s.1 s.2.1 s.2.2) m3 = next3 at H46
     try dsimp only
     refine Jc<|Jc<|Ja<|mv (i6 x10_3)<|mv (i6 t33)<|lv (Xk rfl rfl)<|Jd<|?_
     revert H46
     refine ci (decide (x10_3 < t33)) rfl (fun hb H47=>?_) fun hb H58=>?_
     ·refine Jh<|Jp<|Jc<|Ja<|mv (str x0_3)<|mv (str a1)<|?_
      obtain ⟨t39, h_t39, H48⟩ := Je H47; clear H47
      refine Qm (k97 h_t39) call97 rfl rfl rfl<|ag (i6 t39)<|Jd<|Jc<|Jc<|Ja<|mv (i6 t39)<|lv (Xk rfl rfl)<|Jd<|?_
      revert H48
      refine ci (decide (t39 < 0)) rfl (fun hb H49=>?_) fun hb H50=>?_
      ·refine Qp ?_
       exact cl (x0_3, x10_3, l_3) () 0 [0] (by exact ⟨H49, hl_3⟩)
      ·refine Jh<|Jc<|Ja<|mv (sl p_2 t31.length)<|mv (i6 x10_3)<|mv (str x0_3)<|mv (i6 t39)<|mv (i6 a2)<|?_
       obtain ⟨t47, h_t47, H51⟩ := Je H50; clear H50
       refine lv (J8 rfl rfl h_t47) ?_
       obtain ⟨t48, h_t48, H52⟩ := Je H51; clear H51
       refine lv (Jco Tryz.underlying9 rfl rfl h_t48) ?_
       obtain ⟨t49, h_t49, H53⟩ := Je H52; clear H52
       refine Qf (fun w hF hS => Qx Tryz.underlying31 Tryz.sizeOf9 rfl rfl (Xd (i := 0) hS rfl) hl_3 h_t49) rfl rfl rfl ?_
       obtain ⟨l0_2, h_l0_2, H54⟩ := Je H53; clear H53
       refine Jds (q := 0) (j := 0) (i := x10_3) (sz := 1) (hm := hl_3) (f := Jz) (vs := [str t48]) Tryz.sizeOf9 rfl rfl rfl rfl rfl rfl rfl rfl rfl (fun y_ hy_ => by first | rfl | (cases hy_.symm.trans h_t49; rfl)) h_l0_2<|Jd<|Jc<|Ja<|mv (str x0_3)<|mv (i6 t39)<|mv (str a1)<|lv (Xc Tryz.underlying9 rfl)<|?_
       obtain ⟨t54, h_t54, H55⟩ := Je H54; clear H54
       refine lv (J8 rfl rfl h_t54) ?_
       obtain ⟨t55, h_t55, H56⟩ := Je H55; clear H55
       refine lv (Zi Tryz.underlying9 rfl rfl h_t55)<|ag (str t55)<|Jd<|Ja<|mv (i6 x10_3)<|?_
       obtain ⟨t57, h_t57, H57⟩ := Je H56; clear H56
       refine lv (J8 rfl rfl h_t57)<|ag (i6 t57)<|Jd<|?_
       exact cl (t55, t57, l0_2) () m3 [0] (by exact ⟨(by subst hn3; exact H57), (Jhk hl_3 h_l0_2)⟩)
     ·refine Qp ?_
      exact cl (x0_3, x10_3, l_3) () 0 [0] (by exact ⟨H58, hl_3⟩)
    ·rintro ⟨x0, x10, l⟩ _ gg H41 hl
     try dsimp only at H41
     try dsimp only
     refine Jc<|Ja<|mv (sl p_2 t31.length)<|mv (i6 x10)<|mv (str x0)<|?_
     obtain ⟨t61, h_t61, H42⟩ := Je H41; clear H41
     refine Qf (fun w hF hS => Qx Tryz.underlying31 Tryz.sizeOf9 rfl rfl (Xd (i := 0) hS rfl) hl h_t61) rfl rfl rfl ?_
     obtain ⟨l0, h_l0, H43⟩ := Je H42; clear H42
     refine Jds (q := 0) (j := 0) (i := x10) (sz := 1) (hm := hl) (f := Jz) (vs := [str x0]) Tryz.sizeOf9 rfl rfl rfl rfl rfl rfl rfl rfl rfl (fun y_ hy_ => by first | rfl | (cases hy_.symm.trans h_t61; rfl)) h_l0<|Jd<|Jc<|Ja<|mv (sl p_2 t31.length)<|mv (i6 x10)<|?_
     obtain ⟨t64, h_t64, H44⟩ := Je H43; clear H43
     refine lv (J8 rfl rfl h_t64) ?_
     obtain ⟨t65, h_t65, H45⟩ := Je H44; clear H44
     refine Qf (v := sl p_2 t65.length) (fun w hF hS => run_sliceHO0 (xs := l0) Tryz.underlying31 Tryz.sizeOf9 rfl rfl (Jhk hl h_l0) (Jdt (i := 0) hS rfl) h_t65) rfl rfl rfl<|ag (sl p_2 t65.length)<|Jd<|Ji<|J1 0 rfl (imp_shrink (Jhk hl h_l0) h_t65)<|?_
     obtain rfl := sj H45
     refine J1 0 rfl (imp_rowC _ _ _ _ _ _) ?_
     refine Ja1 (v := sl p_2 t65.length) rfl rfl (Yg p_2 (i := 0) rfl rfl (Imp.refl _))
theorem k27 {a0 : (List UInt8)} {a1 : (List UInt8)} {r : (List (List UInt8))} {w : World} {h : Jw} (hw : Know h w Ys) (H : Vx a0 a1 = some r) : Does prog 27 (List.toArray [str a0, str a1]) w (fun v w' => ∃ x : AN, v = (sl x r.length) ∧ Turn w w' Ys (J3 9 1 (sl x r.length) r.length (r.map Jz))) := by
 refine enter (n := 8) func27 rfl rfl rfl Ys [] (Sat.nil _ _)<|Jc<|Ja<|ag (z0s)<|Jd<|Jc<|Ja<|mv (str a0)<|mv (str a1)<|?_
 obtain ⟨t7, h_t7, H2⟩ := Je H; clear H
 refine Zy (Xr (rds := []) (fun w L' hF hS hi => k51 (Ju w)  h_t7) call51 rfl) rfl rfl rfl (fun p => ?_)
 refine ag (sl p t7.length)<|Jd<|Ji<|?_
 obtain rfl := sj H2
 refine Ja1 (v := sl p t7.length) rfl rfl (Yg p (i := 0) rfl rfl (Imp.refl _))
theorem k84 {a0 : Int} {r : (List UInt8)} (H : Jgh a0 = some r) : Ret prog 84 [i6 a0] (str r) := by
 refine Qr (n := 16) func84 rfl rfl rfl (fun wd => ?_)
 refine Jc<|Ja<|ag (str [])<|Jd<|Jc<|Jc<|Ja<|mv (i6 a0)<|Jd<|Jp<|Jc<|Ja<|lv (Qd rfl rfl)<|ag (.bool (decide (a0 = 1)))<|Jd<|?_
 revert H
 refine ci (decide (a0 = 1)) rfl (fun hb H13=>?_) fun hb H14=>?_
 ·refine Jc<|Ja<|ag (str [98, 121, 116, 101])<|Jd<|Ji<|?_
  obtain rfl := sj H13
  exact r1 (str [98, 121, 116, 101])
 ·refine Jc<|Ja<|lv (Qd rfl rfl)<|ag (.bool (decide (a0 = 2)))<|Jd<|?_
  revert H14
  refine ci (decide (a0 = 2)) rfl (fun hb H15=>?_) fun hb H16=>?_
  ·refine Jc<|Ja<|ag (str [97, 115, 99, 105, 105])<|Jd<|Ji<|?_
   obtain rfl := sj H15
   exact r1 (str [97, 115, 99, 105, 105])
  ·refine Jc<|Ja<|lv (Qd rfl rfl)<|ag (.bool (decide (a0 = 3)))<|Jd<|?_
   revert H16
   refine ci (decide (a0 = 3)) rfl (fun hb H17=>?_) fun hb H18=>?_
   ·refine Jc<|Ja<|ag (str [115, 104, 111, 114, 116])<|Jd<|Ji<|?_
    obtain rfl := sj H17
    exact r1 (str [115, 104, 111, 114, 116])
   ·refine Jc<|Ja<|lv (Qd rfl rfl)<|ag (.bool (decide (a0 = 4)))<|Jd<|?_
    revert H18
    refine ci (decide (a0 = 4)) rfl (fun hb H19=>?_) fun hb H20=>?_
    ·refine Jc<|Ja<|ag (str [108, 111, 110, 103])<|Jd<|Ji<|?_
     obtain rfl := sj H19
     exact r1 (str [108, 111, 110, 103])
    ·refine Jc<|Ja<|lv (Qd rfl rfl)<|ag (.bool (decide (a0 = 5)))<|Jd<|?_
     revert H20
     refine ci (decide (a0 = 5)) rfl (fun hb H21=>?_) fun hb H22=>?_
     ·refine Jc<|Ja<|ag (str [114, 97, 116, 105, 111])<|Jd<|Ji<|?_
      obtain rfl := sj H21
      exact r1 (str [114, 97, 116, 105, 111])
     ·refine Jc<|Ja<|lv (Qd rfl rfl)<|ag (.bool (decide (a0 = 7)))<|Jd<|?_
      revert H22
      refine ci (decide (a0 = 7)) rfl (fun hb H23=>?_) fun hb H24=>?_
      ·refine Jc<|Ja<|ag (str [111, 112, 97, 113, 117, 101])<|Jd<|Ji<|?_
       obtain rfl := sj H23
       exact r1 (str [111, 112, 97, 113, 117, 101])
      ·refine Jh<|Jc<|Ja<|ag (str [115, 105, 103, 110, 101, 100])<|Jd<|Ji<|?_
       obtain rfl := sj H24
       exact r1 (str [115, 105, 103, 110, 101, 100])
theorem k91 {a0 : (List UInt8)} {r : Int} (H : Jfl a0 = some r) : Ret prog 91 [str a0] (i6 r) := by
 refine Qr (n := 17) func91 rfl rfl rfl (fun wd => ?_)
 refine Jc<|Ja<|ag (i6 0)<|Jd<|Jc<|Jc<|Ja<|?_
 refine Q9 (vs := [i6 1, i6 2, i6 3, i6 4, i6 5, i6 7, i6 9]) (cs := [i6 1, i6 2, i6 3, i6 4, i6 5, i6 7, i6 9]) Tryz.underlying76 Tryz.sizeOf3 zeroValue3 rfl rfl rfl rfl rfl rfl rfl (fun b1 => ?_)
 refine lv (Wl Tryz.underlying76 rfl)<|mv (i6 0)<|Jd<|Jp<|?_
 refine Xu (σ := Int) (τ := Unit) (fun next1 s => Zr a0 next1 s) (fun s t => [(0, str a0), (5, .slice (some ⟨b1, 0, none⟩) 7 7), (6, i6 7), (7, i6 s)]) (fun s t => [Jn b1 [i6 1, i6 2, i6 3, i6 4, i6 5, i6 7, i6 9] 3]) (fun s t => True) 0 () [0] H (by exact trivial) (by exact ⟨rfl, rfl, rfl, rfl, trivial⟩) (by decide) rfl ?_
 rintro x7_2 _ m1 gg H9 _
 clear H
 try dsimp only at H9
 generalize hn1 : it (fun next1 s => Zr a0 next1 s) m1 = next1 at H9
 try dsimp only
 refine Jc<|Ja<|lv (Xk rfl rfl)<|Jd<|Jc<|?_
 revert H9
 refine ci (decide (x7_2 < 7)) rfl (fun hb H10=>?_) fun hb H16=>?_
 ·refine Jh<|Jc<|Jp<|Jc<|Ja<|?_
  obtain ⟨t9, h_t9, H11⟩ := Je H10; clear H10
  refine lv (r_indexS Tryz.underlying76 Tryz.sizeOf3 rfl rfl h_t9 rfl)<|Qf (fun w hF hS => Qb (f := Qz) (i := x7_2) (sz := 1) (j := 0) (v := i6 t9) Tryz.isAgg3 rfl rfl (W8 (sz := 1) (xs := ([1, 2, 3, 4, 5, 7, 9] : List Int).map Qz) (i := 0) hS rfl rfl rfl) h_t9 rfl) rfl rfl rfl<|ag (i6 t9)<|Jd<|Jc<|Ja<|mv (i6 t9)<|?_
  obtain ⟨t12, h_t12, H12⟩ := Je H11; clear H11
  refine Qm (k84 h_t12) call84 rfl rfl rfl<|mv (str a0)<|lv (Vl rfl rfl)<|Jd<|?_
  revert H12
  refine ci (decide (t12 = a0)) rfl (fun hb H13=>?_) fun hb H14=>?_
  ·refine Jc<|Ja<|mv (i6 t9)<|ag (i6 t9)<|Jd<|Ji<|?_
   obtain rfl := sj H13
   exact r1 (i6 t9)
  ·refine Jh<|Ja<|?_
   obtain ⟨t16, h_t16, H15⟩ := Je H14; clear H14
   refine lv (J8 rfl rfl h_t16)<|mv (i6 t16)<|Jd<|?_
   exact cl t16 () m1 [0] (by exact ⟨(by subst hn1; exact H15), trivial⟩)
 ·refine Qp<|Jc<|Ja<|ag (i6 0)<|Jd<|Ji<|?_
  obtain rfl := sj H16
  exact r1 (i6 0)
theorem k82 {a0 : List (List UInt8)} {a1 : (List UInt8)} {v0 : Value} {r : (List UInt8)} {w : World} {h : Jw} (hw : Know h w Ys) (f0 : FrS h 1 v0 (a0.map Jz)) (H : Jev a0 a1 = some r) : Does prog 82 (List.toArray [v0, str a1]) w (fun v w' => v = (str r) ∧ Grow w w') :=
  join_does (ρ := Go.Proofs.Tryz.lays156_ren) Go.Proofs.Tryz.lays156 Go.Proofs.Tryz.Builder_Extra_156 hw f0 H
theorem k139 {a0 : (List UInt8)} {r : (List UInt8) × Bool} (H : Uv a0 = some r) : Ret prog 139 [str a0] (.tuple #[str r.1, .bool r.2]) := by
 refine Qr (n := 36) func139 rfl rfl rfl (fun wd => ?_)
 refine Jc<|Ja<|ag (str [])<|ag (.bool false)<|Jd<|Jc<|Ja<|ag (z0s)<|Jd<|?_
 refine Qe (r := r) (σ := (List UInt8) × (List Int)) (τ := AN) (fun s => Jd1 s.1 s.2) (fun s t => [(0, str s.1), (4, sl t s.2.length)]) (fun s t => [J3 5 1 (sl t s.2.length) s.2.length (s.2.map e_u8)]) (fun s t => True) ?_ ?_
 ·refine Jp<|J9 5 1<|?_
  refine Xu (σ := (List UInt8) × (List Int)) (τ := AN) (fun next2 s => Q2 next2 s.1 s.2) (fun s t => [(0, str s.1), (4, sl t s.2.length)]) (fun s t => [J3 5 1 (sl t s.2.length) s.2.length (s.2.map e_u8)]) (fun s t => True) (a0, ([] : List Int)) nn [0] H (by exact trivial) (by exact ⟨rfl, rfl, trivial⟩) (by decide) rfl ?_
  rintro ⟨x0_3, l_3⟩ p_2 m2 gg H17 _
  clear H
  try dsimp only at H17
  generalize hn2 : it (fun next2 s => Q2 next2 s.1 s.2) m2 = next2 at H17
  try dsimp only
  refine Jc<|Jc<|Ja<|mv (str x0_3)<|lv (Xc Tryz.underlying9 rfl)<|lv (Jg5 rfl rfl)<|Jd<|?_
  revert H17
  refine ci (decide (2 ≤ (x0_3.length : Int))) rfl (fun hb H18=>?_) fun hb H30=>?_
  ·refine Jh<|Jc<|Jp<|Jc<|?_
   exact Qv (Kd.p :: Kd.p :: Kd.d [] _ :: Kd.p :: Kd.p :: Kd.d [] _ :: Kd.p :: Kd.p :: []) 0 mixed (by
    refine dm (str x0_3) ?_
    have h_t13 := J4 H18
    have H19 := J0 H18
    refine dv (Zs Tryz.underlying9 rfl rfl h_t13) ?_
    have h_t14 := J4 H19
    have H20 := J0 H19
    refine Jb9 (k72 h_t14) call72 rfl rfl<|dm (str x0_3)<|?_
    have h_t16 := J4 H20
    have H21 := J0 H20
    refine dv (Zs Tryz.underlying9 rfl rfl h_t16) ?_
    have h_t17 := J4 H21
    have H22 := J0 H21
    refine Jb9 (k72 h_t17) call72 rfl rfl<|Jq rfl rfl (Jg (v := i6 (val (Jv [48, 49, 50, 51, 52, 53, 54, 55, 56, 57, 97, 98, 99, 100, 101, 102] (val (Xy x0_3 0))))) rfl)<|Jq rfl rfl (Jg (v := i6 (val (Jv [48, 49, 50, 51, 52, 53, 54, 55, 56, 57, 97, 98, 99, 100, 101, 102] (val (Xy x0_3 1))))) rfl)<|X6<|Jc<|Jc<|Ja<|mv (i6 (val (Jv [48, 49, 50, 51, 52, 53, 54, 55, 56, 57, 97, 98, 99, 100, 101, 102] (val (Xy x0_3 0)))))<|lv (Xk rfl rfl)<|mv (.bool (decide ((val (Jv [48, 49, 50, 51, 52, 53, 54, 55, 56, 57, 97, 98, 99, 100, 101, 102] (val (Xy x0_3 0)))) < 0)))<|?_
    revert H22
    refine sp (fun hb H23=>?_) fun hb H24=>?_
    ·refine pa<|pa<|pT (.bool true)<|Jd<|Yc rfl<|Jc<|Ja<|ag (str [])<|ag (.bool false)<|Jd<|Ji<|?_
     obtain rfl := sj H23
     refine Wh (v1 := str []) (v2 := .bool false) rfl rfl rfl (fin rfl)
    ·refine mv (i6 (val (Jv [48, 49, 50, 51, 52, 53, 54, 55, 56, 57, 97, 98, 99, 100, 101, 102] (val (Xy x0_3 1)))))<|lv (Xk rfl rfl)<|pF (.bool (decide ((val (Jv [48, 49, 50, 51, 52, 53, 54, 55, 56, 57, 97, 98, 99, 100, 101, 102] (val (Xy x0_3 1)))) < 0)))<|Jd<|?_
     revert H24
     refine ci (decide ((val (Jv [48, 49, 50, 51, 52, 53, 54, 55, 56, 57, 97, 98, 99, 100, 101, 102] (val (Xy x0_3 1)))) < 0)) rfl (fun hb H25=>?_) fun hb H26=>?_
     ·refine Jc<|Ja<|ag (str [])<|ag (.bool false)<|Jd<|Ji<|?_
      obtain rfl := sj H25
      refine Wh (v1 := str []) (v2 := .bool false) rfl rfl rfl (fin rfl)
     ·refine Jh<|Ja<|mv (sl p_2 l_3.length)<|mv (i6 (val (Jv [48, 49, 50, 51, 52, 53, 54, 55, 56, 57, 97, 98, 99, 100, 101, 102] (val (Xy x0_3 0)))))<|?_
      obtain ⟨t26, h_t26, H27⟩ := Je H26; clear H26
      refine lv (r_shlG rfl rfl h_t26)<|mv (i6 (val (Jv [48, 49, 50, 51, 52, 53, 54, 55, 56, 57, 97, 98, 99, 100, 101, 102] (val (Xy x0_3 1)))))<|lv (r_bitsOr (bits := 64) rfl rfl rfl (wr_i64 _))<|lv (Jfm runUnderlying3 Tryz.runUnderlying5 rfl (Jg8 _))<|?_
      refine Q9 (vs := [.int .u8 (wU8 (wI64 (bOr 64 t26 (val (Jv [48, 49, 50, 51, 52, 53, 54, 55, 56, 57, 97, 98, 99, 100, 101, 102] (val (Xy x0_3 1)))))))]) (cs := [.int .u8 (wU8 (wI64 (bOr 64 t26 (val (Jv [48, 49, 50, 51, 52, 53, 54, 55, 56, 57, 97, 98, 99, 100, 101, 102] (val (Xy x0_3 1)))))))]) Tryz.underlying45 sizeOf5 zeroValue5 rfl rfl rfl rfl rfl rfl rfl (fun b1 => ?_)
      obtain ⟨l31, h_l31, H28⟩ := Je H27; clear H27
      refine Q1 (Y0 (i := 0) (hn := rfl) (rds := [1]) (p := p_2) (sz := 1) (by_ := 1) (f := e_u8) (ys := l_3) (ls := ([(wU8 (wI64 (bOr 64 t26 (val (Jv [48, 49, 50, 51, 52, 53, 54, 55, 56, 57, 97, 98, 99, 100, 101, 102] (val (Xy x0_3 1)))))))] : List Int)) (V := .slice (some ⟨b1, 0, none⟩) 1 1) Tryz.underlying45 (Xv typeInfo5) rfl rfl rfl rfl rfl rfl rfl rfl rfl rfl (fun w L' hF hS hi => W8 (i := 1) hS ((hi 1 (by simp)).trans rfl) rfl rfl) (fun _ => rfl) (fun _ => rfl) h_l31) rfl rfl rfl (fun p_3 => ?_)
      refine ag (sl p_3 l31.length)<|Jd<|Ja<|mv (str x0_3)<|?_
      obtain ⟨t11, h_t11, H29⟩ := Je H28; clear H28
      refine lv (Zi Tryz.underlying9 rfl rfl h_t11)<|ag (str t11)<|Jd<|?_
      exact cl (t11, l31) p_3 m2 [0] (by exact ⟨(by subst hn2; exact H29), trivial⟩)
    ) (by kernel_rfl)
  ·refine Qp ?_
   exact cl (x0_3, l_3) p_2 0 [0] (by exact ⟨H30, trivial⟩)
 ·rintro ⟨x0, l⟩ p gg H16 _
  try dsimp only at H16
  try dsimp only
  refine Jc<|Ja<|mv (sl p l.length)<|Qf (fun w hF hS => Ji1 (f := e_u8) (xs := l) rfl Tryz.underlying45 underlying5 Tryz.underlying9 rfl (fun _ => rfl) (Xd (i := 0) hS rfl)) rfl rfl rfl<|mv (str x0)<|lv (Vl rfl rfl)<|ag (str (Jaz l))<|ag (.bool (decide (x0 = [])))<|Jd<|Ji<|?_
  obtain rfl := sj H16
  refine Wh (v1 := str (Jaz l)) (v2 := .bool (decide (x0 = []))) rfl rfl rfl (fin rfl)
theorem k140 {a0 : (List UInt8)} {r : Tc × Bool} {w : World} {h : Jw} (hw : Know h w Ys) (tb_pow10 : TabH prog h "internal/strconv.uint64pow10" .u64 Lib.pow10Tab) (H : Jav a0 = some r) : Does prog 140 (List.toArray [str a0]) w (fun v w' => v = (.tuple #[.agg #[i6 r.1.Num, i6 r.1.Den], .bool r.2]) ∧ Grow w w') := by
 refine enter (n := 37) func140 rfl rfl rfl Ys [] (Sat.nil _ _)<|Jc<|Ja<|?_
 refine Xi (cs := [i6 0, i6 0]) zeroValue70 rfl rfl rfl (fun b1 => ?_)
 refine ag (.bool false)<|Jd<|Jc<|Ja<|mv (str a0)<|?_
 obtain ⟨t13, h_t13, H8⟩ := Je H; clear H
 refine Qm (k24 h_t13) call24 rfl rfl rfl<|mv (.tuple #[str t13.1, str t13.2.1, .bool t13.2.2])<|lv (Jo (v := str t13.1) rfl rfl)<|lv (Jo (v := str t13.2.1) rfl rfl)<|lv (Jo (v := .bool t13.2.2) rfl rfl)<|ag (str t13.1)<|ag (str t13.2.1)<|ag (.bool t13.2.2)<|Jd<|Jc<|Ja<|mv (str t13.1)<|?_
 obtain ⟨t19, h_t19, H9⟩ := Je H8; clear H8
 refine Qt (fun w hF hS => k48 (Ju w) (tb_pow10.mono (hw.now hF)) h_t19) call48 rfl rfl rfl<|mv (.tuple #[i6 t19.1, .bool t19.2])<|lv (Jo (v := i6 t19.1) rfl rfl)<|lv (Jo (v := .bool t19.2) rfl rfl)<|ag (i6 t19.1)<|ag (.bool t19.2)<|Jd<|Jc<|Ja<|mv (str t13.2.1)<|?_
 obtain ⟨t24, h_t24, H10⟩ := Je H9; clear H9
 refine Qt (fun w hF hS => k48 (Ju w) (tb_pow10.mono (hw.now hF)) h_t24) call48 rfl rfl rfl<|mv (.tuple #[i6 t24.1, .bool t24.2])<|lv (Jo (v := i6 t24.1) rfl rfl)<|lv (Jo (v := .bool t24.2) rfl rfl)<|ag (i6 t24.1)<|ag (.bool t24.2)<|Jd<|Jc<|Ja<|mv (i6 t19.1)<|mv (i6 t24.1)<|lv (Yi (pl := #[(0, 1), (1, 1)]) (ps := [(0, i6 t19.1), (1, i6 t24.1)]) (cells := #[i6 t19.1, i6 t24.1]) zeroValue70 Tryz.runUnderlying70 (fun w => by kernel_rfl) rfl rfl)<|mv (.bool t13.2.2)<|mv (.bool t13.2.2)<|?_
 revert H10
 refine sp (fun hb H11=>?_) fun hb H14=>?_
 ·refine mv (.bool t19.2)<|pT (.bool t19.2)<|mv (.bool t19.2)<|?_
  revert H11
  refine sp (fun hb H12=>?_) fun hb H13=>?_
  ·refine mv (.bool t24.2)<|pT (.bool t24.2)<|st (i := 0) [i6 t19.1, i6 t24.1] [i6 t19.1, i6 t24.1] Tryz.sizeOf70 rfl rfl<|ag (.bool t24.2)<|Jd<|Ji<|?_
   obtain rfl := sj H12
   refine Jcq (i := 0) (vs := [i6 t19.1, i6 t24.1]) (v2 := .bool t24.2) isAgg70 Tryz.sizeOf70 rfl rfl rfl rfl rfl (fin rfl)
  ·refine pa<|pF (.bool false)<|st (i := 0) [i6 t19.1, i6 t24.1] [i6 t19.1, i6 t24.1] Tryz.sizeOf70 rfl rfl<|ag (.bool false)<|Jd<|Ji<|?_
   obtain rfl := sj H13
   refine Jcq (i := 0) (vs := [i6 t19.1, i6 t24.1]) (v2 := .bool false) isAgg70 Tryz.sizeOf70 rfl rfl rfl rfl rfl (fin rfl)
 ·refine pa<|pF (.bool false)<|mv (.bool false)<|pa<|pF (.bool false)<|st (i := 0) [i6 t19.1, i6 t24.1] [i6 t19.1, i6 t24.1] Tryz.sizeOf70 rfl rfl<|ag (.bool false)<|Jd<|Ji<|?_
  obtain rfl := sj H14
  refine Jcq (i := 0) (vs := [i6 t19.1, i6 t24.1]) (v2 := .bool false) isAgg70 Tryz.sizeOf70 rfl rfl rfl rfl rfl (fin rfl)
theorem k92 {a0 : Int} {a1 : (List (List UInt8))} {v1 : Value} {r : Tb × Bool} {w : World} {h : Jw} (hw : Know h w Ys) (f1 : FrS h 1 v1 (a1.map Jz)) (tb_pow10 : TabH prog h "internal/strconv.uint64pow10" .u64 Lib.pow10Tab) (H : Jau a0 a1 = some r) : Does prog 92 (List.toArray [i6 a0, v1]) w (fun v w' => ∃ x : AN × AN × AN, v = (.tuple #[.agg #[i6 r.1.kad, str r.1.kae, .slice x.1.1 r.1.kaf.length x.1.2, .slice x.2.1.1 r.1.kac.length x.2.1.2, .slice x.2.2.1 r.1.kab.length x.2.2.2], .bool r.2]) ∧ Turn w w' Ys (Qy (J3 3 1 (.slice x.1.1 r.1.kaf.length x.1.2) r.1.kaf.length (r.1.kaf.map Qz)) (Qy (J3 70 2 (.slice x.2.1.1 r.1.kac.length x.2.1.2) r.1.kac.length (r.1.kac.map Jl)) (rowD 83 6 g_tag_Entry (.slice x.2.2.1 r.1.kab.length x.2.2.2) r.1.kab.length r.1.kab)))) := by
 refine enter (n := 80) func92 rfl rfl rfl Ys [] (Sat.nil _ _)<|Jcy Wa<|Jc<|Ja<|?_
 refine Xi (cs := [i6 0, str [], z0s, z0s, z0s]) zeroValue81 rfl rfl rfl (fun b5 => ?_)
 refine ag (.bool false)<|Jd<|Jc<|Ja<|mv (i6 a0)<|lv (Yi (pl := #[(0, 1), (1, 1), (2, 1), (3, 1), (4, 1)]) (ps := [(0, i6 a0)]) (cells := #[i6 a0, str [], z0s, z0s, z0s]) zeroValue81 Tryz.runUnderlying81 (fun w => by kernel_rfl) rfl rfl)<|?_
 refine Xi (cs := [i6 0, str [], z0s, z0s, z0s]) zeroValue81 rfl rfl rfl (fun b6 => ?_)
 refine st (i := 2) [i6 a0, str [], z0s, z0s, z0s] [i6 a0, str [], z0s, z0s, z0s] Tryz.sizeOf81 rfl rfl<|Jd<|Jc<|Jc<|?_
 try dsimp only [z1,z2,z5,z6,z7,z8]
 refine Ja<|mv (i6 a0)<|?_
 obtain ⟨t17, h_t17, H29⟩ := Je H; clear H
 refine Qm (k116 h_t17) call116 rfl rfl rfl<|Jd<|?_
 revert H29
 refine ci t17 rfl (fun hb H30=>?_) fun hb H41=>?_
 ·refine Qe (r := r) (σ := Unit) (τ := Unit) (fun s => Va a0 a1) (fun s t => [(0, i6 a0), (1, v1), (4, pz b5), (6, pz b6)]) (fun s t => [Vi Wa Wa, Jn b5 [i6 0, str [], z0s, z0s, z0s] 81, Jn b6 [i6 a0, str [], z0s, z0s, z0s] 81]) (fun s t => True) ?_ ?_
  ·refine Jc<|Ja<|mv v1<|lv (Z8 Tryz.underlying31 rfl f1 rfl)<|lv (Ye rfl rfl)<|mv (.bool (decide (1 < (a1.length : Int))))<|?_
   revert H30
   refine sp (fun hb H34=>?_) fun hb H35=>?_
   ·refine pa<|pa<|pa<|pa<|pa<|pa<|pa<|pa<|pa<|pT (.bool true)<|Jd<|Yc rfl<|Jc<|Ja<|lv (Yi (pl := #[(0, 1), (1, 1), (2, 1), (3, 1), (4, 1)]) (ps := []) (cells := #[i6 0, str [], z0s, z0s, z0s]) zeroValue81 Tryz.runUnderlying81 (fun w => by kernel_rfl) rfl rfl)<|st (i := 1) [i6 0, str [], z0s, z0s, z0s] [i6 0, str [], z0s, z0s, z0s] Tryz.sizeOf81 rfl rfl<|ag (.bool false)<|Jd<|Ji<|Ur 2<|?_
    try dsimp only [z1, z2, z3, z4, z5, z6, z7, z8]
    refine J9 3 1<|J9 70 2<|J9 83 6<|?_
    try dsimp only [z1,z2,z5,z6,z7,z8]
    obtain rfl := sj H34
    refine bo 0 4 rfl rfl<|J1 0 rfl (Vm (p := nn) rfl (AllC.nil (G := g_tag_Entry) (h := Wa) (sz := 6)))<|bo 3 0 rfl rfl<|bo 2 3 rfl rfl<|?_
    refine Jcq (i := 1) (vs := [i6 0, str [], sl nn ([] : List Int).length, sl nn ([] : List Tc).length, sl nn (([] : List (List Value)).length)]) (v2 := .bool false) Tryz.isAgg81 Tryz.sizeOf81 rfl rfl rfl rfl rfl (Yg (nn, nn, nn) (i := 2) rfl (by first | rfl | rw [(show (([] : List (List Value)).length) = ([] : List Ta).length from (AllC.nil (G := g_tag_Entry) (h := Wa) (sz := 6)).len)]) (by first | exact Imp.refl _ | exact Imp.of (by rw [(show (([] : List (List Value)).length) = ([] : List Ta).length from (AllC.nil (G := g_tag_Entry) (h := Wa) (sz := 6)).len)] <;> rfl)))
   ·refine mv v1<|lv (Z8 Tryz.underlying31 rfl f1 rfl)<|lv (Qd rfl rfl)<|mv (.bool (decide ((a1.length : Int) = 1)))<|?_
    revert H35
    refine sp (fun hb H36=>?_) fun hb H40=>?_
    ·refine mv v1 ?_
     obtain ⟨t27, h_t27, H37⟩ := Je H36; clear H36
     refine lv (Q7 Tryz.underlying31 Tryz.sizeOf9 rfl rfl f1 h_t27)<|Qf (fun w hF hS => Qb (f := Jz) (i := 0) (sz := 1) (j := 0) (v := str t27) Tryz.isAgg9 rfl rfl (f1.row (hw.now hF)) h_t27 rfl) rfl rfl rfl<|lv (Vl rfl rfl)<|pT (.bool (decide (t27 = [])))<|pF (.bool (decide (t27 = [])))<|Jd<|?_
     revert H37
     refine ci (decide (t27 = [])) rfl (fun hb H38=>?_) fun hb H39=>?_
     ·refine Jc<|Ja<|lv (Yi (pl := #[(0, 1), (1, 1), (2, 1), (3, 1), (4, 1)]) (ps := []) (cells := #[i6 0, str [], z0s, z0s, z0s]) zeroValue81 Tryz.runUnderlying81 (fun w => by kernel_rfl) rfl rfl)<|st (i := 1) [i6 0, str [], z0s, z0s, z0s] [i6 0, str [], z0s, z0s, z0s] Tryz.sizeOf81 rfl rfl<|ag (.bool false)<|Jd<|Ji<|Ur 2<|?_
      try dsimp only [z1, z2, z3, z4, z5, z6, z7, z8]
      refine J9 3 1<|J9 70 2<|J9 83 6<|?_
      try dsimp only [z1,z2,z5,z6,z7,z8]
      obtain rfl := sj H38
      refine bo 0 4 rfl rfl<|J1 0 rfl (Vm (p := nn) rfl (AllC.nil (G := g_tag_Entry) (h := Wa) (sz := 6)))<|bo 3 0 rfl rfl<|bo 2 3 rfl rfl<|?_
      refine Jcq (i := 1) (vs := [i6 0, str [], sl nn ([] : List Int).length, sl nn ([] : List Tc).length, sl nn (([] : List (List Value)).length)]) (v2 := .bool false) Tryz.isAgg81 Tryz.sizeOf81 rfl rfl rfl rfl rfl (Yg (nn, nn, nn) (i := 2) rfl (by first | rfl | rw [(show (([] : List (List Value)).length) = ([] : List Ta).length from (AllC.nil (G := g_tag_Entry) (h := Wa) (sz := 6)).len)]) (by first | exact Imp.refl _ | exact Imp.of (by rw [(show (([] : List (List Value)).length) = ([] : List Ta).length from (AllC.nil (G := g_tag_Entry) (h := Wa) (sz := 6)).len)] <;> rfl)))
     ·refine Jh ?_
      exact cl () () 0 [0, 1, 2] (by exact ⟨H39, trivial⟩)
    ·refine pa<|pa<|pa<|pa<|pF (.bool false)<|pF (.bool false)<|Jd<|Zc rfl<|Jh<|?_
     exact cl () () 0 [0, 1, 2] (by exact ⟨H40, trivial⟩)
  ·rintro _ _ gg H31 _
   try dsimp only at H31
   try dsimp only
   refine Jc<|Ja<|mv v1<|?_
   obtain ⟨t35, h_t35, H32⟩ := Je H31; clear H31
   refine Qt (fun w hF hS => k82 (Ju w) (f1.mono (hw.now hF)) h_t35) call82 rfl rfl rfl ?_
   obtain ⟨t36, h_t36, H33⟩ := Je H32; clear H32
   refine Qm (k139 h_t36) call139 rfl rfl rfl<|mv (.tuple #[str t36.1, .bool t36.2])<|lv (Jo (v := str t36.1) rfl rfl)<|lv (Jo (v := .bool t36.2) rfl rfl)<|ag (str t36.1)<|ag (.bool t36.2)<|Jd<|Jc<|Ja<|mv (str t36.1)<|lf Tryz.runUnderlying81 rfl Tryz.sizeOf9 rfl<|st (i := 2) [str t36.1] [i6 a0, str t36.1, z0s, z0s, z0s] Tryz.sizeOf9 rfl rfl<|Jd<|Jc<|Ja<|Q0 (i := 2) (vs := [i6 a0, str t36.1, z0s, z0s, z0s]) Tryz.isAgg81 Tryz.sizeOf81 rfl rfl rfl rfl rfl<|mv (.bool t36.2)<|st (i := 1) [i6 a0, str t36.1, z0s, z0s, z0s] [i6 a0, str t36.1, z0s, z0s, z0s] Tryz.sizeOf81 rfl rfl<|ag (.bool t36.2)<|Jd<|Ji<|Ur 2<|?_
   try dsimp only [z1, z2, z3, z4, z5, z6, z7, z8]
   refine J9 3 1<|J9 70 2<|J9 83 6<|?_
   try dsimp only [z1,z2,z5,z6,z7,z8]
   obtain rfl := sj H33
   refine bo 0 4 rfl rfl<|J1 0 rfl (Vm (p := nn) rfl (AllC.nil (G := g_tag_Entry) (h := Wa) (sz := 6)))<|bo 3 0 rfl rfl<|bo 2 3 rfl rfl<|?_
   refine Jcq (i := 1) (vs := [i6 a0, str t36.1, sl nn ([] : List Int).length, sl nn ([] : List Tc).length, sl nn (([] : List (List Value)).length)]) (v2 := .bool t36.2) Tryz.isAgg81 Tryz.sizeOf81 rfl rfl rfl rfl rfl (Yg (nn, nn, nn) (i := 2) rfl (by first | rfl | rw [(show (([] : List (List Value)).length) = ([] : List Ta).length from (AllC.nil (G := g_tag_Entry) (h := Wa) (sz := 6)).len)]) (by first | exact Imp.refl _ | exact Imp.of (by rw [(show (([] : List (List Value)).length) = ([] : List Ta).length from (AllC.nil (G := g_tag_Entry) (h := Wa) (sz := 6)).len)] <;> rfl)))
 ·refine Jh ?_
  refine Qe (r := r) (σ := (List Int) × (List Tc)) (τ := AN × AN) (fun s => Jbg a0 s.1 s.2) (fun s t => [(4, pz b5), (6, pz b6)]) (fun s t => [Vi Wa Wa, Jn b5 [i6 0, str [], z0s, z0s, z0s] 81, Jn b6 [i6 a0, str [], .slice t.1.1 s.1.length t.1.2, .slice t.2.1 s.2.length t.2.2, z0s] 81, J3 3 1 (.slice t.1.1 s.1.length t.1.2) s.1.length (s.1.map Qz), J3 70 2 (.slice t.2.1 s.2.length t.2.2) s.2.length (s.2.map Jl)]) (fun s t => True) ?_ ?_
  ·refine Jc<|Ja<|mv v1<|lv (Z8 Tryz.underlying31 rfl f1 rfl)<|mv (i6 0)<|Jd<|Jp<|J9 3 1<|J9 70 2<|?_
   refine Xu (σ := Int × (List Int) × (List Tc)) (τ := AN × AN) (fun next3 s => Qo a0 a1 next3 s.1 s.2.1 s.2.2) (fun s t => [(0, i6 a0), (4, pz b5), (6, pz b6), (43, v1), (44, i6 (a1.length : Int)), (45, i6 s.1)]) (fun s t => [Vi Wa Wa, Jn b5 [i6 0, str [], z0s, z0s, z0s] 81, Jn b6 [i6 a0, str [], .slice t.1.1 s.2.1.length t.1.2, .slice t.2.1 s.2.2.length t.2.2, z0s] 81, J3 3 1 (.slice t.1.1 s.2.1.length t.1.2) s.2.1.length (s.2.1.map Qz), J3 70 2 (.slice t.2.1 s.2.2.length t.2.2) s.2.2.length (s.2.2.map Jl)]) (fun s t => True) (0, ([] : List Int), ([] : List Tc)) (nn, nn) [0, 1, 2, 3, 4] H41 (by exact trivial) (by exact ⟨rfl, rfl, rfl, rfl, rfl, rfl, trivial⟩) (by decide) rfl ?_
   rintro ⟨x45_2, l_5, l_6⟩ ⟨p_3, p_4⟩ m3 gg H43 _
   clear H41
   try dsimp only at H43
   generalize hn3 : it (fun next3 s => Qo a0 a1 next3 s.1 s.2.1 s.2.2) m3 = next3 at H43
   try dsimp only
   refine Jc ?_
   try dsimp only [z1,z2,z5,z6,z7,z8]
   refine Ja<|lv (Xk rfl rfl)<|Jd<|Jc<|?_
   revert H43
   refine ci (decide (x45_2 < (a1.length : Int))) rfl (fun hb H44=>?_) fun hb H56=>?_
   ·refine Jh<|Jc<|Jp<|Jc<|Ja<|?_
    obtain ⟨t47, h_t47, H45⟩ := Je H44; clear H44
    refine lv (Q7 Tryz.underlying31 Tryz.sizeOf9 rfl rfl f1 h_t47)<|Qf (fun w hF hS => Qb (f := Jz) (i := x45_2) (sz := 1) (j := 0) (v := str t47) Tryz.isAgg9 rfl rfl (f1.row (hw.now hF)) h_t47 rfl) rfl rfl rfl<|ag (str t47)<|Jd<|Jc<|Ja<|ag (.bool false)<|Jd<|?_
    refine Qe (r := r) (σ := Bool × (List Int) × (List Tc)) (τ := AN × AN) (fun s => Vb x45_2 next3 s.1 s.2.1 s.2.2) (fun s t => [(0, i6 a0), (4, pz b5), (6, pz b6), (11, .bool s.1), (43, v1), (44, i6 (a1.length : Int)), (45, i6 x45_2)]) (fun s t => [Vi Wa Wa, Jn b5 [i6 0, str [], z0s, z0s, z0s] 81, Jn b6 [i6 a0, str [], .slice t.1.1 s.2.1.length t.1.2, .slice t.2.1 s.2.2.length t.2.2, z0s] 81, J3 3 1 (.slice t.1.1 s.2.1.length t.1.2) s.2.1.length (s.2.1.map Qz), J3 70 2 (.slice t.2.1 s.2.2.length t.2.2) s.2.2.length (s.2.2.map Jl)]) (fun s t => True) ?_ ?_
    ·refine Jc<|Ja<|mv (i6 a0)<|lv (Qd rfl rfl)<|Jd<|?_
     revert H45
     refine ci (decide (a0 = 5)) rfl (fun hb H50=>?_) fun hb H53=>?_
     ·refine Jc<|Ja<|?_
      refine Xi (cs := [i6 0, i6 0]) zeroValue70 rfl rfl rfl (fun b7 => ?_)
      refine Jd<|Jc<|Ja<|mv (str t47)<|?_
      obtain ⟨t53, h_t53, H51⟩ := Je H50; clear H50
      refine Qt (fun w hF hS => k140 (Ju w) (tb_pow10.mono (hw.now hF)) h_t53) call140 rfl rfl rfl<|mv (.tuple #[.agg #[i6 t53.1.Num, i6 t53.1.Den], .bool t53.2])<|lv (Jo (v := .agg #[i6 t53.1.Num, i6 t53.1.Den]) rfl rfl)<|lv (Jo (v := .bool t53.2) rfl rfl)<|st (i := 5) [i6 t53.1.Num, i6 t53.1.Den] [i6 t53.1.Num, i6 t53.1.Den] Tryz.sizeOf70 rfl rfl<|ag (.bool t53.2)<|Jd<|?_
      try dsimp only [z1,z2,z5,z6,z7,z8]
      refine Ja<|lf Tryz.runUnderlying81 rfl Tryz.sizeOf79 rfl<|ll 2 (sl p_4 l_6.length) Tryz.isAgg79<|Q0 (i := 5) (vs := [i6 t53.1.Num, i6 t53.1.Den]) isAgg70 Tryz.sizeOf70 rfl rfl rfl rfl rfl<|?_
      refine Q9 (vs := [.agg #[i6 t53.1.Num, i6 t53.1.Den]]) (cs := [i6 t53.1.Num, i6 t53.1.Den]) Tryz.underlying79 Tryz.sizeOf70 zeroValue70 rfl rfl rfl rfl rfl rfl rfl (fun b8 => ?_)
      obtain ⟨l60, h_l60, H52⟩ := Je H51; clear H51
      refine Q1 (Y0 (i := 4) (hn := rfl) (rds := [6]) (p := p_4) (sz := 2) (by_ := 16) (f := Jl) (ys := l_6) (ls := ([t53.1] : List Tc)) (V := .slice (some ⟨b8, 0, none⟩) 1 1) Tryz.underlying79 (Xv typeInfo70) rfl rfl rfl rfl rfl rfl rfl rfl rfl rfl (fun w L' hF hS hi => W8 (i := 6) hS ((hi 6 (by simp)).trans rfl) rfl rfl) (fun _ => rfl) (fun _ => rfl) h_l60) rfl rfl rfl (fun p_7 => ?_)
      refine lf Tryz.runUnderlying81 rfl Tryz.sizeOf79 rfl<|st (i := 2) [sl p_7 l60.length] [i6 a0, str [], sl p_3 l_5.length, sl p_7 l60.length, z0s] Tryz.sizeOf79 rfl rfl<|Jd<|?_
      exact cl (t53.2, l_5, l60) (p_3, p_7) 0 [0, 1, 2, 3, 4] (by exact ⟨H52, trivial⟩)
     ·refine Jc<|Ja<|ag (i6 0)<|Jd<|Jc<|Ja<|mv (str t47)<|mv (i6 a0)<|lv (Qd rfl rfl)<|?_
      obtain ⟨t66, h_t66, H54⟩ := Je H53; clear H53
      refine Qt (fun w hF hS => k48 (Ju w) (tb_pow10.mono (hw.now hF)) h_t66) call48 rfl rfl rfl<|mv (.tuple #[i6 t66.1, .bool t66.2])<|lv (Jo (v := i6 t66.1) rfl rfl)<|lv (Jo (v := .bool t66.2) rfl rfl)<|ag (i6 t66.1)<|ag (.bool t66.2)<|Jd<|Ja<|lf Tryz.runUnderlying81 rfl Tryz.sizeOf76 rfl<|ll 2 (sl p_3 l_5.length) Tryz.isAgg76<|mv (i6 t66.1)<|?_
      refine Q9 (vs := [i6 t66.1]) (cs := [i6 t66.1]) Tryz.underlying76 Tryz.sizeOf3 zeroValue3 rfl rfl rfl rfl rfl rfl rfl (fun b9 => ?_)
      obtain ⟨l73, h_l73, H55⟩ := Je H54; clear H54
      refine Q1 (Y0 (i := 3) (hn := rfl) (rds := [5]) (p := p_3) (sz := 1) (by_ := 8) (f := Qz) (ys := l_5) (ls := ([t66.1] : List Int)) (V := .slice (some ⟨b9, 0, none⟩) 1 1) Tryz.underlying76 (Xv typeInfo3) rfl rfl rfl rfl rfl rfl rfl rfl rfl rfl (fun w L' hF hS hi => W8 (i := 5) hS ((hi 5 (by simp)).trans rfl) rfl rfl) (fun _ => rfl) (fun _ => rfl) h_l73) rfl rfl rfl (fun p_8 => ?_)
      refine lf Tryz.runUnderlying81 rfl Tryz.sizeOf76 rfl<|st (i := 2) [sl p_8 l73.length] [i6 a0, str [], sl p_8 l73.length, sl p_4 l_6.length, z0s] Tryz.sizeOf76 rfl rfl<|Jd<|?_
      exact cl (t66.2, l73, l_6) (p_8, p_4) 0 [0, 1, 2, 3, 4] (by exact ⟨H55, trivial⟩)
    ·rintro ⟨x11, l_7, l_8⟩ ⟨p_5, p_6⟩ gg H46 _
     try dsimp only at H46
     try dsimp only
     refine Jc<|Ja<|mv (.bool x11)<|lv (Jay rfl)<|Jd<|?_
     revert H46
     refine ci (!x11) rfl (fun hb H47=>?_) fun hb H48=>?_
     ·refine Jc<|Ja<|lv (Yi (pl := #[(0, 1), (1, 1), (2, 1), (3, 1), (4, 1)]) (ps := []) (cells := #[i6 0, str [], z0s, z0s, z0s]) zeroValue81 Tryz.runUnderlying81 (fun w => by kernel_rfl) rfl rfl)<|st (i := 1) [i6 0, str [], z0s, z0s, z0s] [i6 0, str [], z0s, z0s, z0s] Tryz.sizeOf81 rfl rfl<|ag (.bool false)<|Jd<|Ji<|?_
      refine Ur 4 <| Ur 3 <| Ur 2 ?_
      try dsimp only [z1, z2, z3, z4, z5, z6, z7, z8]
      refine J9 3 1<|J9 70 2<|J9 83 6<|?_
      try dsimp only [z1,z2,z5,z6,z7,z8]
      obtain rfl := sj H47
      refine bo 0 4 rfl rfl<|J1 0 rfl (Vm (p := nn) rfl (AllC.nil (G := g_tag_Entry) (h := Wa) (sz := 6)))<|bo 3 0 rfl rfl<|bo 2 3 rfl rfl<|?_
      refine Jcq (i := 1) (vs := [i6 0, str [], sl nn ([] : List Int).length, sl nn ([] : List Tc).length, sl nn (([] : List (List Value)).length)]) (v2 := .bool false) Tryz.isAgg81 Tryz.sizeOf81 rfl rfl rfl rfl rfl (Yg (nn, nn, nn) (i := 2) rfl (by first | rfl | rw [(show (([] : List (List Value)).length) = ([] : List Ta).length from (AllC.nil (G := g_tag_Entry) (h := Wa) (sz := 6)).len)]) (by first | exact Imp.refl _ | exact Imp.of (by rw [(show (([] : List (List Value)).length) = ([] : List Ta).length from (AllC.nil (G := g_tag_Entry) (h := Wa) (sz := 6)).len)] <;> rfl)))
     ·refine Jh<|Ja<|?_
      obtain ⟨t78, h_t78, H49⟩ := Je H48; clear H48
      refine lv (J8 rfl rfl h_t78)<|mv (i6 t78)<|Jd<|?_
      exact cl (t78, l_7, l_8) (p_5, p_6) m3 [0, 1, 2, 3, 4] (by exact ⟨(by subst hn3; exact H49), trivial⟩)
   ·refine Qp ?_
    exact cl (l_5, l_6) (p_3, p_4) 0 [0, 1, 2, 3, 4] (by exact ⟨H56, trivial⟩)
  ·rintro ⟨l, l_2⟩ ⟨p, p_2⟩ gg H42 _
   try dsimp only at H42
   try dsimp only
   refine Jc<|Ja<|Q0 (i := 2) (vs := [i6 a0, str [], sl p l.length, sl p_2 l_2.length, z0s]) Tryz.isAgg81 Tryz.sizeOf81 rfl rfl rfl rfl rfl<|st (i := 1) [i6 a0, str [], sl p l.length, sl p_2 l_2.length, z0s] [i6 a0, str [], sl p l.length, sl p_2 l_2.length, z0s] Tryz.sizeOf81 rfl rfl<|ag (.bool true)<|Jd<|Ji<|Ur 2<|?_
   try dsimp only [z1, z2, z3, z4, z5, z6, z7, z8]
   refine J9 83 6 ?_
   obtain rfl := sj H42
   refine bo 0 4 rfl rfl<|J1 0 rfl (Vm (p := nn) rfl (AllC.nil (G := g_tag_Entry) (h := Wa) (sz := 6)))<|bo 3 0 rfl rfl<|bo 2 3 rfl rfl<|?_
   refine Jcq (i := 1) (vs := [i6 a0, str [], sl p l.length, sl p_2 l_2.length, sl nn (([] : List (List Value)).length)]) (v2 := .bool true) Tryz.isAgg81 Tryz.sizeOf81 rfl rfl rfl rfl rfl (Yg (p, p_2, nn) (i := 2) rfl (by first | rfl | rw [(show (([] : List (List Value)).length) = ([] : List Ta).length from (AllC.nil (G := g_tag_Entry) (h := Wa) (sz := 6)).len)]) (by first | exact Imp.refl _ | exact Imp.of (by rw [(show (([] : List (List Value)).length) = ([] : List Ta).length from (AllC.nil (G := g_tag_Entry) (h := Wa) (sz := 6)).len)] <;> rfl)))
theorem k50 {a0 : (List Ta)} {v0 : Value} {r : (List Ta)} {w : World} {h : Jw} (hw : Know h w Ys) (f0 : FrN h 6 v0 g_tag_Entry a0) (H : Jam a0 = some r) : Does prog 50 (List.toArray [v0]) w (fun v w' => ∃ x : AN, v = (sl x r.length) ∧ Turn w w' Ys (rowD 83 6 g_tag_Entry (sl x r.length) r.length r)) := by
 refine enter (n := 31) func50 rfl rfl rfl Ys [] (Sat.nil _ _)<|Jcy Wa<|Jc<|Ja<|ag (z0s)<|Jd<|Jc<|Jc<|Ja<|mv v0<|lv (Xw Tryz.underlying41 rfl f0)<|lv (Qd rfl rfl)<|Jd<|?_
 revert H
 refine ci (decide ((a0.length : Int) = 0)) rfl (fun hb H3=>?_) fun hb H4=>?_
 ·refine Jc<|Ja<|ag (z0s)<|Jd<|Ji<|J9 83 6<|?_
  obtain rfl := sj H3
  refine bo 0 1 rfl rfl<|J1 0 rfl (Vm (p := nn) rfl (AllC.nil (G := g_tag_Entry) (h := Wa) (sz := 6)))<|?_
  refine Ja1 (v := sl nn (([] : List (List Value)).length)) rfl rfl (Yg nn (i := 0) rfl (by first | rfl | rw [(show (([] : List (List Value)).length) = ([] : List Ta).length from (AllC.nil (G := g_tag_Entry) (h := Wa) (sz := 6)).len)]) (by first | exact Imp.refl _ | exact Imp.of (by rw [(show (([] : List (List Value)).length) = ([] : List Ta).length from (AllC.nil (G := g_tag_Entry) (h := Wa) (sz := 6)).len)] <;> rfl)))
 ·exact absurd (show (none : Option ((List Ta))) = some r from H4) (fun h => by cases h)
theorem k94 {a0 : Tb} {v0_2 : Value} {v0_3 : Value} {v0_4 : Value} {r : Tb} {w : World} {h : Jw} (hw : Know h w Ys) (f0_2 : FrS h 1 v0_2 (a0.kaf.map Qz)) (f0_3 : FrS h 2 v0_3 (a0.kac.map Jl)) (f0_4 : FrN h 6 v0_4 g_tag_Entry a0.kab) (H : Vw a0 = some r) : Does prog 94 (List.toArray [.agg #[i6 a0.kad, str a0.kae, v0_2, v0_3, v0_4]]) w (fun v w' => ∃ x : AN × AN × AN, v = (.agg #[i6 r.kad, str r.kae, .slice x.1.1 r.kaf.length x.1.2, .slice x.2.1.1 r.kac.length x.2.1.2, .slice x.2.2.1 r.kab.length x.2.2.2]) ∧ Turn w w' Ys (Qy (roV 1 (.slice x.1.1 r.kaf.length x.1.2) r.kaf.length (r.kaf.map Qz)) (Qy (roV 2 (.slice x.2.1.1 r.kac.length x.2.1.2) r.kac.length (r.kac.map Jl)) (rowD 83 6 g_tag_Entry (.slice x.2.2.1 r.kab.length x.2.2.2) r.kab.length r.kab)))) := by
 refine enter (n := 18) func94 rfl rfl rfl Ys [] (Sat.nil _ _)<|Jcy Wa<|Jc<|Ja<|?_
 refine Vv (cs := [i6 a0.kad, str a0.kae, v0_2, v0_3, v0_4]) rfl rfl rfl rfl (fun b4 => ?_)
 refine Xi (cs := [i6 0, str [], z0s, z0s, z0s]) zeroValue81 rfl rfl rfl (fun b5 => ?_)
 refine Jd<|Jc<|Ja<|lf Tryz.runUnderlying81 rfl Tryz.sizeOf76 rfl<|ll 1 v0_2 Tryz.isAgg76<|?_
 obtain ⟨t5, h_t5, H7⟩ := Je H; clear H
 refine Zy (Xr (rds := []) (fun w L' hF hS hi => k142 (Ju w) (f0_2.mono (hw.now hF)) h_t5) call142 rfl) rfl rfl rfl (fun p => ?_)
 refine Qt (fun w hF hS => k141 (Jdt (i := 3) hS rfl) w) call141 rfl rfl rfl<|lf Tryz.runUnderlying81 rfl Tryz.sizeOf76 rfl<|st (i := 1) [.slice (X0 p.1 0 t5.length 1) t5.length t5.length] [i6 a0.kad, str a0.kae, .slice (X0 p.1 0 t5.length 1) t5.length t5.length, v0_3, v0_4] Tryz.sizeOf76 rfl rfl<|Jd<|Jc<|Ja<|lf Tryz.runUnderlying81 rfl Tryz.sizeOf79 rfl<|ll 1 v0_3 Tryz.isAgg79<|?_
 obtain ⟨t10, h_t10, H8⟩ := Je H7; clear H7
 refine Zy (Xr (rds := []) (fun w L' hF hS hi => k144 (Ju w) (f0_3.mono (hw.now hF)) h_t10) call144 rfl) rfl rfl rfl (fun p_2 => ?_)
 refine Qt (fun w hF hS => k143 (Jdt (i := 4) hS rfl) w) call143 rfl rfl rfl<|lf Tryz.runUnderlying81 rfl Tryz.sizeOf79 rfl<|st (i := 1) [.slice (X0 p_2.1 0 t10.length 2) t10.length t10.length] [i6 a0.kad, str a0.kae, .slice (X0 p.1 0 t5.length 1) t5.length t5.length, .slice (X0 p_2.1 0 t10.length 2) t10.length t10.length, v0_4] Tryz.sizeOf79 rfl rfl<|Jd<|Jc<|?_
 try dsimp only [z1,z2,z5,z6,z7,z8]
 refine Ja<|lf Tryz.runUnderlying81 rfl Tryz.sizeOf41 rfl<|ll 1 v0_4 Tryz.isAgg41<|?_
 obtain ⟨t15, h_t15, H9⟩ := Je H8; clear H8
 refine Zy (Xr (rds := []) (fun w L' hF hS hi => k50 (Ju w) (f0_4.mono (hw.now hF)) h_t15) call50 rfl) rfl rfl rfl (fun p_3 => ?_)
 refine c_rowD 5 rfl (fun hp css hn pf => ?_)
 rw [hn]
 refine Xo 5 rfl ?_
 refine Jem 0 5 rfl rfl (by decide) (fun _ _ => Jbr) (fun hp_2 hle hle_2 => ?_)
 refine lf Tryz.runUnderlying81 rfl Tryz.sizeOf41 rfl<|st (i := 1) [sl p_3 css.length] [i6 a0.kad, str a0.kae, .slice (X0 p.1 0 t5.length 1) t5.length t5.length, .slice (X0 p_2.1 0 t10.length 2) t10.length t10.length, sl p_3 css.length] Tryz.sizeOf41 rfl rfl<|Jd<|?_
 try dsimp only [z1,z2,z5,z6,z7,z8]
 refine Jc<|Ja<|Q0 (i := 1) (vs := [i6 a0.kad, str a0.kae, .slice (X0 p.1 0 t5.length 1) t5.length t5.length, .slice (X0 p_2.1 0 t10.length 2) t10.length t10.length, sl p_3 css.length]) Tryz.isAgg81 Tryz.sizeOf81 rfl rfl rfl rfl rfl<|st (i := 2) [i6 a0.kad, str a0.kae, .slice (X0 p.1 0 t5.length 1) t5.length t5.length, .slice (X0 p_2.1 0 t10.length 2) t10.length t10.length, sl p_3 css.length] [i6 a0.kad, str a0.kae, .slice (X0 p.1 0 t5.length 1) t5.length t5.length, .slice (X0 p_2.1 0 t10.length 2) t10.length t10.length, sl p_3 css.length] Tryz.sizeOf81 rfl rfl<|Jd<|?_
 try dsimp only [z1,z2,z5,z6,z7,z8]
 refine Ji ?_
 refine Ur 5 <| Ur 1 ?_
 try dsimp only [z1, z2, z3, z4, z5, z6, z7, z8]
 obtain rfl := sj H9
 refine J1 2 rfl (Jgx _ _ _ _ _ _)<|J1 3 rfl (Jgx _ _ _ _ _ _)<|bo 0 4 rfl rfl<|J1 0 rfl (Vm (p := p_3) rfl (pf.mono hle_2))<|bo 3 0 rfl rfl<|bo 2 3 rfl rfl<|?_
 refine retC (i := 1) (vs := [i6 a0.kad, str a0.kae, .slice (X0 p.1 0 t5.length 1) t5.length t5.length, .slice (X0 p_2.1 0 t10.length 2) t10.length t10.length, sl p_3 css.length]) Tryz.isAgg81 Tryz.sizeOf81 rfl rfl rfl rfl (Yg ((X0 p.1 0 t5.length 1, t5.length), (X0 p_2.1 0 t10.length 2, t10.length), p_3) (i := 2) rfl (by first | rfl | rw [(show css.length = t15.length from hn.symm)]) (by first | exact Imp.refl _ | exact Imp.of (by rw [(show css.length = t15.length from hn.symm)] <;> rfl)))
theorem k49 {a0 : (List UInt8)} {r : Tb × Int} {w : World} {h : Jw} (hw : Know h w Ys) (tb_pow10 : TabH prog h "internal/strconv.uint64pow10" .u64 Lib.pow10Tab) (H : Vu a0 = some r) : Does prog 49 (List.toArray [str a0]) w (fun v w' => ∃ x : AN × AN × AN, v = (.tuple #[.agg #[i6 r.1.kad, str r.1.kae, .slice x.1.1 r.1.kaf.length x.1.2, .slice x.2.1.1 r.1.kac.length x.2.1.2, .slice x.2.2.1 r.1.kab.length x.2.2.2], i6 r.2]) ∧ Turn w w' Ys (Qy (roV 1 (.slice x.1.1 r.1.kaf.length x.1.2) r.1.kaf.length (r.1.kaf.map Qz)) (Qy (roV 2 (.slice x.2.1.1 r.1.kac.length x.2.1.2) r.1.kac.length (r.1.kac.map Jl)) (rowD 83 6 g_tag_Entry (.slice x.2.2.1 r.1.kab.length x.2.2.2) r.1.kab.length r.1.kab)))) := by
 refine enter (n := 40) func49 rfl rfl rfl Ys [] (Sat.nil _ _)<|Jcy Wa<|Jc<|Ja<|?_
 refine Xi (cs := [i6 0, str [], z0s, z0s, z0s]) zeroValue81 rfl rfl rfl (fun b4 => ?_)
 refine ag (i6 0)<|Jd<|Jc<|Jc<|Ja<|mv (str a0)<|lv (Xc Tryz.underlying9 rfl)<|lv (Ye rfl rfl)<|Jd<|?_
 revert H
 refine ci (decide (1000000 < (a0.length : Int))) rfl (fun hb H31=>?_) fun hb H32=>?_
 ·refine Jc<|Ja<|lv (Yi (pl := #[(0, 1), (1, 1), (2, 1), (3, 1), (4, 1)]) (ps := []) (cells := #[i6 0, str [], z0s, z0s, z0s]) zeroValue81 Tryz.runUnderlying81 (fun w => by kernel_rfl) rfl rfl)<|st (i := 1) [i6 0, str [], z0s, z0s, z0s] [i6 0, str [], z0s, z0s, z0s] Tryz.sizeOf81 rfl rfl<|ag (i6 4)<|Jd<|Ji<|?_
  try dsimp only [z1, z2, z3, z4, z5, z6, z7, z8]
  refine J9 3 1<|J9 70 2<|J9 83 6<|?_
  try dsimp only [z1,z2,z5,z6,z7,z8]
  obtain rfl := sj H31
  refine J1 2 rfl (Je2 _ _ _ _ _)<|J1 3 rfl (Je2 _ _ _ _ _)<|bo 0 4 rfl rfl<|J1 0 rfl (Vm (p := nn) rfl (AllC.nil (G := g_tag_Entry) (h := Wa) (sz := 6)))<|bo 3 0 rfl rfl<|bo 2 3 rfl rfl<|?_
  refine Jcq (i := 1) (vs := [i6 0, str [], sl nn ([] : List Int).length, sl nn ([] : List Tc).length, sl nn (([] : List (List Value)).length)]) (v2 := i6 4) Tryz.isAgg81 Tryz.sizeOf81 rfl rfl rfl rfl rfl (Yg (nn, nn, nn) (i := 2) rfl (by first | rfl | rw [(show (([] : List (List Value)).length) = ([] : List Ta).length from (AllC.nil (G := g_tag_Entry) (h := Wa) (sz := 6)).len)]) (by first | exact Imp.refl _ | exact Imp.of (by rw [(show (([] : List (List Value)).length) = ([] : List Ta).length from (AllC.nil (G := g_tag_Entry) (h := Wa) (sz := 6)).len)] <;> rfl)))
 ·refine Jh<|Jc<|Ja<|mv (str a0)<|?_
  obtain ⟨t14, h_t14, H33⟩ := Je H32; clear H32
  refine Zy (Xr (rds := []) (fun w L' hF hS hi => k27 (Ju w)  h_t14) call27 rfl) rfl rfl rfl (fun p => ?_)
  refine ag (sl p t14.length)<|Jd<|Jc<|?_
  try dsimp only [z1,z2,z5,z6,z7,z8]
  refine Ja<|mv (sl p t14.length)<|?_
  obtain ⟨t16, h_t16, H34⟩ := Je H33; clear H33
  refine Qf (fun w hF hS => Qx Tryz.underlying31 Tryz.sizeOf9 rfl rfl (Xd (i := 2) hS rfl) rfl h_t16) rfl rfl rfl<|Qf (fun w hF hS => Qb (f := Jz) (i := 0) (sz := 1) (j := 0) (v := str t16) Tryz.isAgg9 rfl rfl (Xd (i := 2) hS rfl) h_t16 rfl) rfl rfl rfl<|?_
  obtain ⟨t18, h_t18, H35⟩ := Je H34; clear H34
  refine Qm (k91 h_t18) call91 rfl rfl rfl<|ag (i6 t18)<|Jd<|Jc<|Jc<|Ja<|mv (i6 t18)<|lv (Qd rfl rfl)<|Jd<|?_
  revert H35
  refine ci (decide (t18 = 0)) rfl (fun hb H36=>?_) fun hb H37=>?_
  ·refine Jc<|Ja<|lv (Yi (pl := #[(0, 1), (1, 1), (2, 1), (3, 1), (4, 1)]) (ps := []) (cells := #[i6 0, str [], z0s, z0s, z0s]) zeroValue81 Tryz.runUnderlying81 (fun w => by kernel_rfl) rfl rfl)<|st (i := 1) [i6 0, str [], z0s, z0s, z0s] [i6 0, str [], z0s, z0s, z0s] Tryz.sizeOf81 rfl rfl<|ag (i6 8)<|Jd<|Ji<|Ur 2<|?_
   try dsimp only [z1, z2, z3, z4, z5, z6, z7, z8]
   refine J9 3 1<|J9 70 2<|J9 83 6<|?_
   try dsimp only [z1,z2,z5,z6,z7,z8]
   obtain rfl := sj H36
   refine J1 2 rfl (Je2 _ _ _ _ _)<|J1 3 rfl (Je2 _ _ _ _ _)<|bo 0 4 rfl rfl<|J1 0 rfl (Vm (p := nn) rfl (AllC.nil (G := g_tag_Entry) (h := Wa) (sz := 6)))<|bo 3 0 rfl rfl<|bo 2 3 rfl rfl<|?_
   refine Jcq (i := 1) (vs := [i6 0, str [], sl nn ([] : List Int).length, sl nn ([] : List Tc).length, sl nn (([] : List (List Value)).length)]) (v2 := i6 8) Tryz.isAgg81 Tryz.sizeOf81 rfl rfl rfl rfl rfl (Yg (nn, nn, nn) (i := 2) rfl (by first | rfl | rw [(show (([] : List (List Value)).length) = ([] : List Ta).length from (AllC.nil (G := g_tag_Entry) (h := Wa) (sz := 6)).len)]) (by first | exact Imp.refl _ | exact Imp.of (by rw [(show (([] : List (List Value)).length) = ([] : List Ta).length from (AllC.nil (G := g_tag_Entry) (h := Wa) (sz := 6)).len)] <;> rfl)))
  ·refine Jh<|Jc<|?_
   try dsimp only [z1,z2,z5,z6,z7,z8]
   refine Ja<|mv (i6 t18)<|mv (sl p t14.length)<|?_
   obtain ⟨t25, h_t25, H38⟩ := Je H37; clear H37
   refine Qf (v := .slice (X0 p.1 (Int.toNat 1) p.2 1) t25.length (p.2 - Int.toNat 1)) (fun w hF hS => Jjd (xs := t14) Tryz.underlying31 Tryz.sizeOf9 rfl rfl rfl (Jdt (i := 2) hS rfl) h_t25) rfl rfl rfl ?_
   obtain ⟨t26, h_t26, H39⟩ := Je H38; clear H38
   refine Zy (Xr (rds := [2]) (fun w L' hF hS hi => k92 (Ju w) (FrS.cutL (Jct (i := 2) rfl hS ((hi 2 (by simp)).trans rfl)) h_t25) (tb_pow10.mono (hw.now hF)) h_t26) call92 rfl) rfl rfl rfl (fun ⟨p_2, p_3, p_4⟩ => ?_)
   refine Xo 3 rfl<|Xo 4 rfl<|?_
   refine c_rowD 5 rfl (fun hp css hn pf => ?_)
   rw [hn]
   refine Xo 5 rfl ?_
   refine Jem 0 5 rfl rfl (by decide) (fun _ _ => Jbr) (fun hp_2 hle hle_2 => ?_)
   refine mv (.tuple #[.agg #[i6 t26.1.kad, str t26.1.kae, sl p_2 t26.1.kaf.length, sl p_3 t26.1.kac.length, sl p_4 css.length], .bool t26.2])<|lv (Jo (v := .agg #[i6 t26.1.kad, str t26.1.kae, sl p_2 t26.1.kaf.length, sl p_3 t26.1.kac.length, sl p_4 css.length]) rfl rfl)<|lv (Jo (v := .bool t26.2) rfl rfl)<|?_
   refine Xi (cs := [i6 0, str [], z0s, z0s, z0s]) zeroValue81 rfl rfl rfl (fun b5 => ?_)
   refine st (i := 7) [i6 t26.1.kad, str t26.1.kae, sl p_2 t26.1.kaf.length, sl p_3 t26.1.kac.length, sl p_4 css.length] [i6 t26.1.kad, str t26.1.kae, sl p_2 t26.1.kaf.length, sl p_3 t26.1.kac.length, sl p_4 css.length] Tryz.sizeOf81 rfl rfl<|ag (.bool t26.2)<|Jd<|?_
   try dsimp only [z1,z2,z5,z6,z7,z8]
   refine Jc<|Jc<|Ja<|mv (.bool t26.2)<|lv (Jay rfl)<|Jd<|?_
   try dsimp only [z1,z2,z5,z6,z7,z8]
   revert H39
   refine ci (!t26.2) rfl (fun hb H40=>?_) fun hb H41=>?_
   ·refine Jc<|Ja<|lv (Yi (pl := #[(0, 1), (1, 1), (2, 1), (3, 1), (4, 1)]) (ps := []) (cells := #[i6 0, str [], z0s, z0s, z0s]) zeroValue81 Tryz.runUnderlying81 (fun w => by kernel_rfl) rfl rfl)<|st (i := 1) [i6 0, str [], z0s, z0s, z0s] [i6 0, str [], z0s, z0s, z0s] Tryz.sizeOf81 rfl rfl<|ag (i6 8)<|Jd<|?_
    try dsimp only [z1,z2,z5,z6,z7,z8]
    refine Ji ?_
    refine Ur 7 <| Ur 6 <| Ur 5 <| Ur 4 <| Ur 3 <| Ur 2 ?_
    try dsimp only [z1, z2, z3, z4, z5, z6, z7, z8]
    refine J9 3 1<|J9 70 2<|J9 83 6<|?_
    try dsimp only [z1,z2,z5,z6,z7,z8]
    obtain rfl := sj H40
    refine J1 2 rfl (Je2 _ _ _ _ _)<|J1 3 rfl (Je2 _ _ _ _ _)<|bo 0 4 rfl rfl<|J1 0 rfl (Vm (p := nn) rfl (AllC.nil (G := g_tag_Entry) (h := hp_2) (sz := 6)))<|bo 3 0 rfl rfl<|bo 2 3 rfl rfl<|?_
    refine Jcq (i := 1) (vs := [i6 0, str [], sl nn ([] : List Int).length, sl nn ([] : List Tc).length, sl nn (([] : List (List Value)).length)]) (v2 := i6 8) Tryz.isAgg81 Tryz.sizeOf81 rfl rfl rfl rfl rfl (Yg (nn, nn, nn) (i := 2) rfl (by first | rfl | rw [(show (([] : List (List Value)).length) = ([] : List Ta).length from (AllC.nil (G := g_tag_Entry) (h := hp_2) (sz := 6)).len)]) (by first | exact Imp.refl _ | exact Imp.of (by rw [(show (([] : List (List Value)).length) = ([] : List Ta).length from (AllC.nil (G := g_tag_Entry) (h := hp_2) (sz := 6)).len)] <;> rfl)))
   ·refine Jh<|Jc<|Jc<|?_
    try dsimp only [z1,z2,z5,z6,z7,z8]
    refine Ja<|Q0 (i := 7) (vs := [i6 t26.1.kad, str t26.1.kae, sl p_2 t26.1.kaf.length, sl p_3 t26.1.kac.length, sl p_4 css.length]) Tryz.isAgg81 Tryz.sizeOf81 rfl rfl rfl rfl rfl<|?_
    obtain ⟨t33, h_t33, H42⟩ := Je H41; clear H41
    refine Qt (fun w hF hS => k93 (Ju w) (Jct (i := 3) rfl hS rfl) (Jct (i := 4) rfl hS rfl) (frn_of (xs := t26.1.kab) (Jct (i := 6) rfl hS rfl) ((pf.mono hle_2).mono (Jdq (i := 0) hS rfl Jbr))) h_t33) call93 rfl rfl rfl<|ag (i6 t33)<|Jd<|?_
    try dsimp only [z1,z2,z5,z6,z7,z8]
    refine Jc<|Ja<|mv (i6 t33)<|lv (Vk rfl rfl)<|Jd<|?_
    try dsimp only [z1,z2,z5,z6,z7,z8]
    revert H42
    refine ci (decide (t33 ≠ 0)) rfl (fun hb H43=>?_) fun hb H44=>?_
    ·refine Jc<|Ja<|lv (Yi (pl := #[(0, 1), (1, 1), (2, 1), (3, 1), (4, 1)]) (ps := []) (cells := #[i6 0, str [], z0s, z0s, z0s]) zeroValue81 Tryz.runUnderlying81 (fun w => by kernel_rfl) rfl rfl)<|mv (i6 t33)<|st (i := 1) [i6 0, str [], z0s, z0s, z0s] [i6 0, str [], z0s, z0s, z0s] Tryz.sizeOf81 rfl rfl<|ag (i6 t33)<|Jd<|?_
     try dsimp only [z1,z2,z5,z6,z7,z8]
     refine Ji ?_
     refine Ur 7 <| Ur 6 <| Ur 5 <| Ur 4 <| Ur 3 <| Ur 2 ?_
     try dsimp only [z1, z2, z3, z4, z5, z6, z7, z8]
     refine J9 3 1<|J9 70 2<|J9 83 6<|?_
     try dsimp only [z1,z2,z5,z6,z7,z8]
     obtain rfl := sj H43
     refine J1 2 rfl (Je2 _ _ _ _ _)<|J1 3 rfl (Je2 _ _ _ _ _)<|bo 0 4 rfl rfl<|J1 0 rfl (Vm (p := nn) rfl (AllC.nil (G := g_tag_Entry) (h := hp_2) (sz := 6)))<|bo 3 0 rfl rfl<|bo 2 3 rfl rfl<|?_
     refine Jcq (i := 1) (vs := [i6 0, str [], sl nn ([] : List Int).length, sl nn ([] : List Tc).length, sl nn (([] : List (List Value)).length)]) (v2 := i6 t33) Tryz.isAgg81 Tryz.sizeOf81 rfl rfl rfl rfl rfl (Yg (nn, nn, nn) (i := 2) rfl (by first | rfl | rw [(show (([] : List (List Value)).length) = ([] : List Ta).length from (AllC.nil (G := g_tag_Entry) (h := hp_2) (sz := 6)).len)]) (by first | exact Imp.refl _ | exact Imp.of (by rw [(show (([] : List (List Value)).length) = ([] : List Ta).length from (AllC.nil (G := g_tag_Entry) (h := hp_2) (sz := 6)).len)] <;> rfl)))
    ·refine Jh<|Jc<|?_
     try dsimp only [z1,z2,z5,z6,z7,z8]
     refine Ja<|Q0 (i := 7) (vs := [i6 t26.1.kad, str t26.1.kae, sl p_2 t26.1.kaf.length, sl p_3 t26.1.kac.length, sl p_4 css.length]) Tryz.isAgg81 Tryz.sizeOf81 rfl rfl rfl rfl rfl<|?_
     obtain ⟨t39, h_t39, H45⟩ := Je H44; clear H44
     refine Zy (Xr (rds := [0, 3, 4, 6]) (fun w L' hF hS hi => k94 (Ju w) (Jct (i := 3) rfl hS ((hi 3 (by simp)).trans rfl)) (Jct (i := 4) rfl hS ((hi 4 (by simp)).trans rfl)) (frn_of (xs := t26.1.kab) (Jct (i := 6) rfl hS ((hi 6 (by simp)).trans rfl)) ((pf.mono hle_2).mono (Jdq (i := 0) hS ((hi 0 (by simp)).trans rfl) Jbr))) h_t39) call94 rfl) rfl rfl rfl (fun ⟨p_5, p_6, p_7⟩ => ?_)
     refine Xo 8 rfl<|Xo 9 rfl<|?_
     refine c_rowD 10 rfl (fun hp_3 css_2 hn_2 pf_2 => ?_)
     rw [hn_2]
     refine Xo 10 rfl ?_
     try dsimp only [z1,z2,z5,z6,z7,z8]
     refine Jem 0 10 rfl rfl (by decide) (fun _ _ => Jbr) (fun hp_4 hle_3 hle_4 => ?_)
     refine st (i := 1) [i6 t39.kad, str t39.kae, sl p_5 t39.kaf.length, sl p_6 t39.kac.length, sl p_7 css_2.length] [i6 t39.kad, str t39.kae, sl p_5 t39.kaf.length, sl p_6 t39.kac.length, sl p_7 css_2.length] Tryz.sizeOf81 rfl rfl<|ag (i6 0)<|Jd<|?_
     try dsimp only [z1,z2,z5,z6,z7,z8]
     refine Ji ?_
     refine Ur 10 <| Ur 7 <| Ur 6 <| Ur 5 <| Ur 4 <| Ur 3 <| Ur 2 ?_
     try dsimp only [z1, z2, z3, z4, z5, z6, z7, z8]
     obtain rfl := sj H45
     refine bo 0 4 rfl rfl<|J1 0 rfl (Vm (p := p_7) rfl (pf_2.mono hle_4))<|bo 3 0 rfl rfl<|bo 2 3 rfl rfl<|?_
     refine Jcq (i := 1) (vs := [i6 t39.kad, str t39.kae, sl p_5 t39.kaf.length, sl p_6 t39.kac.length, sl p_7 css_2.length]) (v2 := i6 0) Tryz.isAgg81 Tryz.sizeOf81 rfl rfl rfl rfl rfl (Yg (p_5, p_6, p_7) (i := 2) rfl (by first | rfl | rw [(show css_2.length = t39.kab.length from hn_2.symm)]) (by first | exact Imp.refl _ | exact Imp.of (by rw [(show css_2.length = t39.kab.length from hn_2.symm)] <;> rfl)))
theorem k70 {a0 : Int} {r : Int} (H : Jgk a0 = some r) : Ret prog 70 [i6 a0] (i6 r) := by
 refine Qr (n := 16) func70 rfl rfl rfl (fun wd => ?_)
 refine Jc<|Ja<|ag (i6 0)<|Jd<|Jc<|Jc<|Ja<|mv (i6 a0)<|Jd<|Jp<|?_
 refine Qe (r := r) (σ := Bool) (τ := Unit) (fun s => Je5 a0 s) (fun s t => [(3, i6 a0), (4, .bool s)]) (fun s t => []) (fun s t => True) ?_ ?_
 ·refine Jc<|Ja<|lv (Qd rfl rfl)<|ag (.bool (decide (a0 = 1)))<|Jd<|?_
  revert H
  refine ci (decide (a0 = 1)) rfl (fun hb H47=>?_) fun hb H48=>?_
  ·refine Jh ?_
   exact cl (decide (a0 = 1)) () 0 [] (by exact ⟨H47, trivial⟩)
  ·refine Jc<|Ja<|lv (Qd rfl rfl)<|ag (.bool (decide (a0 = 2)))<|Jd<|?_
   revert H48
   refine ci (decide (a0 = 2)) rfl (fun hb H49=>?_) fun hb H50=>?_
   ·refine Jh ?_
    exact cl (decide (a0 = 2)) () 0 [] (by exact ⟨H49, trivial⟩)
   ·refine Ja<|lv (Qd rfl rfl)<|ag (.bool (decide (a0 = 7)))<|Jd<|?_
    exact cl (decide (a0 = 7)) () 0 [] (by exact ⟨H50, trivial⟩)
 ·rintro x4 _ gg H26 _
  try dsimp only at H26
  try dsimp only
  revert H26
  refine ci x4 rfl (fun hb H27=>?_) fun hb H28=>?_
  ·refine Jc<|Ja<|ag (i6 1)<|Jd<|Ji<|?_
   obtain rfl := sj H27
   exact r1 (i6 1)
  ·refine Jc<|Ja<|lv (Qd rfl rfl)<|ag (.bool (decide (a0 = 3)))<|Jd<|?_
   revert H28
   refine ci (decide (a0 = 3)) rfl (fun hb H29=>?_) fun hb H30=>?_
   ·refine Jc<|Ja<|ag (i6 2)<|Jd<|Ji<|?_
    obtain rfl := sj H29
    exact r1 (i6 2)
   ·refine Jc<|Jc<|Ja<|lv (Qd rfl rfl)<|ag (.bool (decide (a0 = 4)))<|Jd<|?_
    revert H30
    refine ci (decide (a0 = 4)) rfl (fun hb H31=>?_) fun hb H36=>?_
    ·refine Jh ?_
     revert H31
     refine ci (decide (a0 = 4)) rfl (fun hb H32=>?_) fun hb H33=>?_
     ·refine Jc<|Ja<|ag (i6 4)<|Jd<|Ji<|?_
      obtain rfl := sj H32
      exact r1 (i6 4)
     ·refine Jc<|Ja<|lv (Qd rfl rfl)<|ag (.bool (decide (a0 = 5)))<|Jd<|?_
      revert H33
      refine ci (decide (a0 = 5)) rfl (fun hb H34=>?_) fun hb H35=>?_
      ·refine Jc<|Ja<|ag (i6 8)<|Jd<|Ji<|?_
       obtain rfl := sj H34
       exact r1 (i6 8)
      ·refine Jh<|Jc<|Ja<|ag (i6 0)<|Jd<|Ji<|?_
       obtain rfl := sj H35
       exact r1 (i6 0)
    ·refine Jc<|Ja<|lv (Qd rfl rfl)<|ag (.bool (decide (a0 = 9)))<|Jd<|?_
     revert H36
     refine ci (decide (a0 = 9)) rfl (fun hb H37=>?_) fun hb H42=>?_
     ·refine Jh ?_
      revert H37
      refine ci (decide (a0 = 9)) rfl (fun hb H38=>?_) fun hb H39=>?_
      ·refine Jc<|Ja<|ag (i6 4)<|Jd<|Ji<|?_
       obtain rfl := sj H38
       exact r1 (i6 4)
      ·refine Jc<|Ja<|lv (Qd rfl rfl)<|ag (.bool (decide (a0 = 5)))<|Jd<|?_
       revert H39
       refine ci (decide (a0 = 5)) rfl (fun hb H40=>?_) fun hb H41=>?_
       ·refine Jc<|Ja<|ag (i6 8)<|Jd<|Ji<|?_
        obtain rfl := sj H40
        exact r1 (i6 8)
       ·refine Jh<|Jc<|Ja<|ag (i6 0)<|Jd<|Ji<|?_
        obtain rfl := sj H41
        exact r1 (i6 0)
     ·refine Ja<|lv (Qd rfl rfl)<|ag (.bool (decide (a0 = 13)))<|Jd<|?_
      revert H42
      refine ci (decide (a0 = 13)) rfl (fun hb H43=>?_) fun hb H44=>?_
      ·refine Jc<|Ja<|ag (i6 4)<|Jd<|Ji<|?_
       obtain rfl := sj H43
       exact r1 (i6 4)
      ·refine Jc<|Ja<|lv (Qd rfl rfl)<|ag (.bool (decide (a0 = 5)))<|Jd<|?_
       revert H44
       refine ci (decide (a0 = 5)) rfl (fun hb H45=>?_) fun hb H46=>?_
       ·refine Jc<|Ja<|ag (i6 8)<|Jd<|Ji<|?_
        obtain rfl := sj H45
        exact r1 (i6 8)
       ·refine Jh<|Jc<|Ja<|ag (i6 0)<|Jd<|Ji<|?_
        obtain rfl := sj H46
        exact r1 (i6 0)
theorem k71 {a0 : Int} {r : Int × Int} (H : Jhv a0 = some r) : Ret prog 71 [i6 a0] (.tuple #[i6 r.1, i6 r.2]) := by
 refine Qr (n := 11) func71 rfl rfl rfl (fun wd => ?_)
 refine Jc<|Ja<|ag (i6 0)<|ag (i6 0)<|Jd<|Jc<|Jc<|Ja<|mv (i6 a0)<|Jd<|Jp<|Jc<|Ja<|lv (Qd rfl rfl)<|ag (.bool (decide (a0 = 1)))<|Jd<|?_
 revert H
 refine ci (decide (a0 = 1)) rfl (fun hb H7=>?_) fun hb H8=>?_
 ·refine Jc<|Ja<|ag (i6 0)<|ag (i6 255)<|Jd<|Ji<|?_
  obtain rfl := sj H7
  refine Wh (v1 := i6 0) (v2 := i6 255) rfl rfl rfl (fin rfl)
 ·refine Jc<|Ja<|lv (Qd rfl rfl)<|ag (.bool (decide (a0 = 3)))<|Jd<|?_
  revert H8
  refine ci (decide (a0 = 3)) rfl (fun hb H9=>?_) fun hb H10=>?_
  ·refine Jc<|Ja<|ag (i6 0)<|ag (i6 65535)<|Jd<|Ji<|?_
   obtain rfl := sj H9
   refine Wh (v1 := i6 0) (v2 := i6 65535) rfl rfl rfl (fin rfl)
  ·refine Jc<|Ja<|lv (Qd rfl rfl)<|ag (.bool (decide (a0 = 9)))<|Jd<|?_
   revert H10
   refine ci (decide (a0 = 9)) rfl (fun hb H11=>?_) fun hb H12=>?_
   ·refine Jc<|Ja<|ag (i6 (-2147483648))<|ag (i6 2147483647)<|Jd<|Ji<|?_
    obtain rfl := sj H11
    refine Wh (v1 := i6 (-2147483648)) (v2 := i6 2147483647) rfl rfl rfl (fin rfl)
   ·refine Jh<|Jc<|Ja<|ag (i6 0)<|ag (i6 4294967295)<|Jd<|Ji<|?_
    obtain rfl := sj H12
    refine Wh (v1 := i6 0) (v2 := i6 4294967295) rfl rfl rfl (fin rfl)
theorem k36 {a0 : Tb} {v0_2 : Value} {v0_3 : Value} {v0_4 : Value} {r : Int} {w : World} {h : Jw} (hw : Know h w Ys) (f0_2 : FrS h 1 v0_2 (a0.kaf.map Qz)) (f0_3 : FrS h 2 v0_3 (a0.kac.map Jl)) (f0_4 : FrN h 6 v0_4 g_tag_Entry a0.kab) (H : Jac a0 = some r) : Does prog 36 (List.toArray [.agg #[i6 a0.kad, str a0.kae, v0_2, v0_3, v0_4]]) w (fun v w' => v = (i6 r) ∧ Grow w w') := by
 refine enter (n := 139) func36 rfl rfl rfl Ys [] (Sat.nil _ _)<|Jc<|Ja<|?_
 refine Vv (cs := [i6 a0.kad, str a0.kae, v0_2, v0_3, v0_4]) rfl rfl rfl rfl (fun b2 => ?_)
 refine ag (i6 0)<|Jd<|?_
 refine Qe (r := r) (σ := Bool × Bool) (τ := Unit) (fun s => X7 a0 s.1 s.2) (fun s t => [(1, pz b2), (3, .bool s.1), (4, .bool s.2)]) (fun s t => [Jn b2 [i6 a0.kad, str a0.kae, v0_2, v0_3, v0_4] 81]) (fun s t => True) ?_ ?_
 ·exact Qv (Kd.p :: Kd.d [0] _ :: Kd.p :: Kd.p :: Kd.p :: Kd.d [0] _ :: Kd.p :: Kd.p :: Kd.p :: Kd.d [0] _ :: Kd.p :: Kd.p :: Kd.p :: Kd.d [0] _ :: Kd.p :: Kd.p :: Kd.p :: Kd.p :: Kd.d [0] _ :: Kd.p :: Kd.p :: Kd.p :: Kd.p :: Kd.d [0] _ :: Kd.p :: Kd.p :: Kd.p :: Kd.p :: []) 0 mixed (by
   refine dv (Jr Tryz.runUnderlying81 rfl Tryz.sizeOf3 rfl rfl)<|dl (i6 a0.kad) Tryz.isAgg3<|dv (Qd rfl rfl)<|dm (.bool (decide (a0.kad = 2)))<|?_
   refine Jc5 (fun hb => ?_) (fun hb => ?_)
   ·have H141 := Xn hb H
    refine dp<|dp<|dp<|dv (Xp (v := .bool true) rfl rfl)<|dv (Jr Tryz.runUnderlying81 rfl Tryz.sizeOf3 rfl rfl)<|dl (i6 a0.kad) Tryz.isAgg3<|dv (Qd rfl rfl)<|dm (.bool (decide (a0.kad = 1)))<|?_
    refine Jc5 (fun hb => ?_) (fun hb => ?_)
    ·have H142 := Xn hb H141
     refine dp<|dp<|dp<|dv (Xp (v := .bool true) rfl rfl)<|dm (.bool true)<|dp<|dp<|dp<|dv (Xp (v := .bool true) rfl rfl)<|dm (.bool true)<|dp<|dp<|dp<|dv (Xp (v := .bool true) rfl rfl)<|Jq rfl rfl (Jg (v := .bool true) rfl)<|Jq rfl rfl (Jg (v := .bool true) rfl)<|X6<|?_
     exact cl (true, true) () 0 [0] (by exact ⟨H142, trivial⟩)
    ·have H143 := Xg hb H141
     refine dv (Jr Tryz.runUnderlying81 rfl Tryz.sizeOf3 rfl rfl)<|dl (i6 a0.kad) Tryz.isAgg3<|dv (Qd rfl rfl)<|dv (X4 (v := .bool (decide (a0.kad = 3))) rfl rfl)<|dm (.bool (decide (a0.kad = 3)))<|?_
     refine Jc5 (fun hb => ?_) (fun hb => ?_)
     ·have H144 := Xn hb H143
      refine dp<|dp<|dp<|dv (Xp (v := .bool true) rfl rfl)<|dm (.bool true)<|dp<|dp<|dp<|dv (Xp (v := .bool true) rfl rfl)<|Jq rfl rfl (Jg (v := .bool true) rfl)<|Jq rfl rfl (Jg (v := .bool true) rfl)<|X6<|?_
      exact cl (true, true) () 0 [0] (by exact ⟨H144, trivial⟩)
     ·have H145 := Xg hb H143
      refine dv (Jr Tryz.runUnderlying81 rfl Tryz.sizeOf3 rfl rfl)<|dl (i6 a0.kad) Tryz.isAgg3<|dv (Qd rfl rfl)<|dv (X4 (v := .bool (decide (a0.kad = 4))) rfl rfl)<|dm (.bool (decide (a0.kad = 4)))<|?_
      refine Jc5 (fun hb => ?_) (fun hb => ?_)
      ·have H146 := Xn hb H145
       refine dp<|dp<|dp<|dv (Xp (v := .bool true) rfl rfl)<|Jq rfl rfl (Jg (v := .bool true) rfl)<|Jq rfl rfl (Jg (v := .bool true) rfl)<|X6<|?_
       exact cl (true, true) () 0 [0] (by exact ⟨H146, trivial⟩)
      ·have H147 := Xg hb H145
       refine dv (Jr Tryz.runUnderlying81 rfl Tryz.sizeOf3 rfl rfl)<|dl (i6 a0.kad) Tryz.isAgg3<|dv (Qd rfl rfl)<|dv (X4 (v := .bool (decide (a0.kad = 9))) rfl rfl)<|Jq rfl rfl (Jg (v := .bool true) rfl)<|Jq rfl rfl (Jg (v := .bool (decide (a0.kad = 9))) rfl)<|X6<|?_
       exact cl (true, (decide (a0.kad = 9))) () 0 [0] (by exact ⟨H147, trivial⟩)
   ·have H148 := Xg hb H
    refine dv (Jr Tryz.runUnderlying81 rfl Tryz.sizeOf3 rfl rfl)<|dl (i6 a0.kad) Tryz.isAgg3<|dv (Qd rfl rfl)<|dv (X4 (v := .bool (decide (a0.kad = 7))) rfl rfl)<|dv (Jr Tryz.runUnderlying81 rfl Tryz.sizeOf3 rfl rfl)<|dl (i6 a0.kad) Tryz.isAgg3<|dv (Qd rfl rfl)<|dm (.bool (decide (a0.kad = 1)))<|?_
    refine Jc5 (fun hb => ?_) (fun hb => ?_)
    ·have H149 := Xn hb H148
     refine dp<|dp<|dp<|dv (Xp (v := .bool true) rfl rfl)<|dm (.bool true)<|dp<|dp<|dp<|dv (Xp (v := .bool true) rfl rfl)<|dm (.bool true)<|dp<|dp<|dp<|dv (Xp (v := .bool true) rfl rfl)<|Jq rfl rfl (Jg (v := .bool (decide (a0.kad = 7))) rfl)<|Jq rfl rfl (Jg (v := .bool true) rfl)<|X6<|?_
     exact cl ((decide (a0.kad = 7)), true) () 0 [0] (by exact ⟨H149, trivial⟩)
    ·have H150 := Xg hb H148
     refine dv (Jr Tryz.runUnderlying81 rfl Tryz.sizeOf3 rfl rfl)<|dl (i6 a0.kad) Tryz.isAgg3<|dv (Qd rfl rfl)<|dv (X4 (v := .bool (decide (a0.kad = 3))) rfl rfl)<|dm (.bool (decide (a0.kad = 3)))<|?_
     refine Jc5 (fun hb => ?_) (fun hb => ?_)
     ·have H151 := Xn hb H150
      refine dp<|dp<|dp<|dv (Xp (v := .bool true) rfl rfl)<|dm (.bool true)<|dp<|dp<|dp<|dv (Xp (v := .bool true) rfl rfl)<|Jq rfl rfl (Jg (v := .bool (decide (a0.kad = 7))) rfl)<|Jq rfl rfl (Jg (v := .bool true) rfl)<|X6<|?_
      exact cl ((decide (a0.kad = 7)), true) () 0 [0] (by exact ⟨H151, trivial⟩)
     ·have H152 := Xg hb H150
      refine dv (Jr Tryz.runUnderlying81 rfl Tryz.sizeOf3 rfl rfl)<|dl (i6 a0.kad) Tryz.isAgg3<|dv (Qd rfl rfl)<|dv (X4 (v := .bool (decide (a0.kad = 4))) rfl rfl)<|dm (.bool (decide (a0.kad = 4)))<|?_
      refine Jc5 (fun hb => ?_) (fun hb => ?_)
      ·have H153 := Xn hb H152
       refine dp<|dp<|dp<|dv (Xp (v := .bool true) rfl rfl)<|Jq rfl rfl (Jg (v := .bool (decide (a0.kad = 7))) rfl)<|Jq rfl rfl (Jg (v := .bool true) rfl)<|X6<|?_
       exact cl ((decide (a0.kad = 7)), true) () 0 [0] (by exact ⟨H153, trivial⟩)
      ·have H154 := Xg hb H152
       refine dv (Jr Tryz.runUnderlying81 rfl Tryz.sizeOf3 rfl rfl)<|dl (i6 a0.kad) Tryz.isAgg3<|dv (Qd rfl rfl)<|dv (X4 (v := .bool (decide (a0.kad = 9))) rfl rfl)<|Jq rfl rfl (Jg (v := .bool (decide (a0.kad = 7))) rfl)<|Jq rfl rfl (Jg (v := .bool (decide (a0.kad = 9))) rfl)<|X6<|?_
       exact cl ((decide (a0.kad = 7)), (decide (a0.kad = 9))) () 0 [0] (by exact ⟨H154, trivial⟩)
   ) (by kernel_rfl)
 ·rintro ⟨x3, x4⟩ _ gg H78 _
  try dsimp only at H78
  try dsimp only
  refine Qe (r := r) (σ := Unit) (τ := Unit) (fun s => X5 a0) (fun s t => [(1, pz b2)]) (fun s t => [Jn b2 [i6 a0.kad, str a0.kae, v0_2, v0_3, v0_4] 81]) (fun s t => True) ?_ ?_
  ·refine Jp<|Jc<|Ja<|lf Tryz.runUnderlying81 rfl Tryz.sizeOf3 rfl<|ll 0 (i6 a0.kad) Tryz.isAgg3<|?_
   obtain ⟨t40, h_t40, H113⟩ := Je H78; clear H78
   refine Qm (k70 h_t40) call70 rfl rfl rfl<|lv (Qd rfl rfl)<|ag (.bool (decide (t40 = 0)))<|Jd<|?_
   revert H113
   refine ci (decide (t40 = 0)) rfl (fun hb H114=>?_) fun hb H115=>?_
   ·refine Jc<|Ja<|ag (i6 10)<|Jd<|Ji<|?_
    obtain rfl := sj H114
    exact r1 (i6 10)
   ·refine Jc ?_
    refine Qe (r := r) (σ := Bool) (τ := Unit) (fun s => Jaj a0 x4 s) (fun s t => [(1, pz b2), (4, .bool x4), (42, .bool s)]) (fun s t => [Jn b2 [i6 a0.kad, str a0.kae, v0_2, v0_3, v0_4] 81]) (fun s t => True) ?_ ?_
    ·refine Ja<|lf Tryz.runUnderlying81 rfl Tryz.sizeOf9 rfl<|ll 0 (str a0.kae) Tryz.isAgg9<|lv (Ja3 rfl rfl)<|mv (.bool (decide (a0.kae ≠ [])))<|?_
     revert H115
     refine sp (fun hb H139=>?_) fun hb H140=>?_
     ·refine mv (.bool x3)<|lv (Jay rfl)<|pT (.bool (!x3))<|ag (.bool (!x3))<|Jd<|?_
      exact cl (!x3) () 0 [0] (by exact ⟨H139, trivial⟩)
     ·refine pa<|pa<|pF (.bool false)<|ag (.bool false)<|Jd<|?_
      exact cl false () 0 [0] (by exact ⟨H140, trivial⟩)
    ·rintro x42 _ gg H116 _
     try dsimp only at H116
     try dsimp only
     revert H116
     refine ci x42 rfl (fun hb H117=>?_) fun hb H120=>?_
     ·refine Jh ?_
      revert H117
      refine ci x42 rfl (fun hb H118=>?_) fun hb H119=>?_
      ·refine Jc<|Ja<|ag (i6 1)<|Jd<|Ji<|?_
       obtain rfl := sj H118
       exact r1 (i6 1)
      ·refine Jh ?_
       exact cl () () 0 [0] (by exact ⟨H119, trivial⟩)
     ·refine Qe (r := r) (σ := Bool) (τ := Unit) (fun s => Jan a0 s) (fun s t => [(1, pz b2), (42, .bool s)]) (fun s t => [Jn b2 [i6 a0.kad, str a0.kae, v0_2, v0_3, v0_4] 81]) (fun s t => True) ?_ ?_
      ·refine Ja<|lf Tryz.runUnderlying81 rfl Tryz.sizeOf76 rfl<|ll 0 v0_2 Tryz.isAgg76<|lv (Z8 Tryz.underlying76 rfl f0_2 rfl)<|lv (Ye rfl rfl)<|mv (.bool (decide (0 < (a0.kaf.length : Int))))<|?_
       revert H120
       refine sp (fun hb H137=>?_) fun hb H138=>?_
       ·refine mv (.bool x4)<|lv (Jay rfl)<|pT (.bool (!x4))<|ag (.bool (!x4))<|Jd<|?_
        exact cl (!x4) () 0 [0] (by exact ⟨H137, trivial⟩)
       ·refine pa<|pa<|pF (.bool false)<|ag (.bool false)<|Jd<|?_
        exact cl false () 0 [0] (by exact ⟨H138, trivial⟩)
      ·rintro x42_2 _ gg H121 _
       try dsimp only at H121
       try dsimp only
       revert H121
       refine ci x42_2 rfl (fun hb H122=>?_) fun hb H125=>?_
       ·refine Jh ?_
        revert H122
        refine ci x42_2 rfl (fun hb H123=>?_) fun hb H124=>?_
        ·refine Jc<|Ja<|ag (i6 1)<|Jd<|Ji<|?_
         obtain rfl := sj H123
         exact r1 (i6 1)
        ·refine Jh ?_
         exact cl () () 0 [0] (by exact ⟨H124, trivial⟩)
       ·refine Qe (r := r) (σ := Bool) (τ := Unit) (fun s => Ul a0 s) (fun s t => [(1, pz b2), (42, .bool s)]) (fun s t => [Jn b2 [i6 a0.kad, str a0.kae, v0_2, v0_3, v0_4] 81]) (fun s t => True) ?_ ?_
        ·refine Ja<|lf Tryz.runUnderlying81 rfl Tryz.sizeOf79 rfl<|ll 0 v0_3 Tryz.isAgg79<|lv (Z8 Tryz.underlying79 rfl f0_3 rfl)<|lv (Ye rfl rfl)<|mv (.bool (decide (0 < (a0.kac.length : Int))))<|?_
         revert H125
         refine sp (fun hb H135=>?_) fun hb H136=>?_
         ·refine lf Tryz.runUnderlying81 rfl Tryz.sizeOf3 rfl<|ll 0 (i6 a0.kad) Tryz.isAgg3<|lv (Vk rfl rfl)<|pT (.bool (decide (a0.kad ≠ 5)))<|ag (.bool (decide (a0.kad ≠ 5)))<|Jd<|?_
          exact cl (decide (a0.kad ≠ 5)) () 0 [0] (by exact ⟨H135, trivial⟩)
         ·refine pa<|pa<|pa<|pF (.bool false)<|ag (.bool false)<|Jd<|?_
          exact cl false () 0 [0] (by exact ⟨H136, trivial⟩)
        ·rintro x42_3 _ gg H126 _
         try dsimp only at H126
         try dsimp only
         revert H126
         refine ci x42_3 rfl (fun hb H127=>?_) fun hb H130=>?_
         ·refine Jh ?_
          revert H127
          refine ci x42_3 rfl (fun hb H128=>?_) fun hb H129=>?_
          ·refine Jc<|Ja<|ag (i6 1)<|Jd<|Ji<|?_
           obtain rfl := sj H128
           exact r1 (i6 1)
          ·refine Jh ?_
           exact cl () () 0 [0] (by exact ⟨H129, trivial⟩)
         ·refine Ja<|lf Tryz.runUnderlying81 rfl Tryz.sizeOf41 rfl<|ll 0 v0_4 Tryz.isAgg41<|lv (Xw Tryz.underlying41 rfl f0_4)<|lv (Ye rfl rfl)<|mv (.bool (decide (0 < (a0.kab.length : Int))))<|?_
          revert H130
          refine sp (fun hb H131=>?_) fun hb H134=>?_
          ·refine lf Tryz.runUnderlying81 rfl Tryz.sizeOf3 rfl<|ll 0 (i6 a0.kad) Tryz.isAgg3<|lv (Vk rfl rfl)<|pT (.bool (decide (a0.kad ≠ 13)))<|ag (.bool (decide (a0.kad ≠ 13)))<|Jd<|?_
           revert H131
           refine ci (decide (a0.kad ≠ 13)) rfl (fun hb H132=>?_) fun hb H133=>?_
           ·refine Jc<|Ja<|ag (i6 1)<|Jd<|Ji<|?_
            obtain rfl := sj H132
            exact r1 (i6 1)
           ·refine Jh ?_
            exact cl () () 0 [0] (by exact ⟨H133, trivial⟩)
          ·refine pa<|pa<|pa<|pF (.bool false)<|ag (.bool false)<|Jd<|Zc rfl<|Jh<|?_
           exact cl () () 0 [0] (by exact ⟨H134, trivial⟩)
  ·rintro _ _ gg H79 _
   try dsimp only at H79
   try dsimp only
   refine Jc<|Ja<|lf Tryz.runUnderlying81 rfl Tryz.sizeOf3 rfl<|ll 0 (i6 a0.kad) Tryz.isAgg3<|?_
   obtain ⟨t79, h_t79, H80⟩ := Je H79; clear H79
   refine Qm (k71 h_t79) call71 rfl rfl rfl<|mv (.tuple #[i6 t79.1, i6 t79.2])<|lv (Jo (v := i6 t79.1) rfl rfl)<|lv (Jo (v := i6 t79.2) rfl rfl)<|ag (i6 t79.1)<|ag (i6 t79.2)<|Jd<|?_
   refine Qe (r := r) (σ := Unit) (τ := Unit) (fun s => Jaf a0) (fun s t => [(1, pz b2)]) (fun s t => [Jn b2 [i6 a0.kad, str a0.kae, v0_2, v0_3, v0_4] 81]) (fun s t => True) ?_ ?_
   ·refine Jc<|Ja<|lf Tryz.runUnderlying81 rfl Tryz.sizeOf76 rfl<|ll 0 v0_2 Tryz.isAgg76<|lv (Z8 Tryz.underlying76 rfl f0_2 rfl)<|mv (i6 0)<|Jd<|Jp<|?_
    refine Xu (σ := Int) (τ := Unit) (fun next7 s => Zf a0 t79 next7 s) (fun s t => [(1, pz b2), (5, i6 t79.1), (6, i6 t79.2), (83, v0_2), (84, i6 (a0.kaf.length : Int)), (85, i6 s)]) (fun s t => [Jn b2 [i6 a0.kad, str a0.kae, v0_2, v0_3, v0_4] 81]) (fun s t => True) 0 () [0] H80 (by exact trivial) (by exact ⟨rfl, rfl, rfl, rfl, rfl, rfl, trivial⟩) (by decide) rfl ?_
    rintro x85_2 _ m7 gg H104 _
    clear H80
    try dsimp only at H104
    generalize hn7 : it (fun next7 s => Zf a0 t79 next7 s) m7 = next7 at H104
    try dsimp only
    refine Jc<|Ja<|lv (Xk rfl rfl)<|Jd<|Jc<|?_
    revert H104
    refine ci (decide (x85_2 < (a0.kaf.length : Int))) rfl (fun hb H105=>?_) fun hb H112=>?_
    ·refine Jh<|Jc<|Jp<|Jc<|Ja<|?_
     obtain ⟨t87, h_t87, H106⟩ := Je H105; clear H105
     refine lv (Q7 Tryz.underlying76 Tryz.sizeOf3 rfl rfl f0_2 h_t87)<|Qf (fun w hF hS => Qb (f := Qz) (i := x85_2) (sz := 1) (j := 0) (v := i6 t87) Tryz.isAgg3 rfl rfl (f0_2.row (hw.now hF)) h_t87 rfl) rfl rfl rfl<|ag (i6 t87)<|Jd<|Jc<|Ja<|mv (i6 t87)<|mv (i6 t79.1)<|lv (Xk rfl rfl)<|mv (.bool (decide (t87 < t79.1)))<|?_
     revert H106
     refine sp (fun hb H107=>?_) fun hb H108=>?_
     ·refine pa<|pa<|pa<|pT (.bool true)<|Jd<|Yc rfl<|Jc<|Ja<|ag (i6 2)<|Jd<|Ji<|?_
      obtain rfl := sj H107
      exact r1 (i6 2)
     ·refine mv (i6 t87)<|mv (i6 t79.2)<|lv (Ye rfl rfl)<|pF (.bool (decide (t79.2 < t87)))<|Jd<|?_
      revert H108
      refine ci (decide (t79.2 < t87)) rfl (fun hb H109=>?_) fun hb H110=>?_
      ·refine Jc<|Ja<|ag (i6 2)<|Jd<|Ji<|?_
       obtain rfl := sj H109
       exact r1 (i6 2)
      ·refine Jh<|Ja<|?_
       obtain ⟨t97, h_t97, H111⟩ := Je H110; clear H110
       refine lv (J8 rfl rfl h_t97)<|mv (i6 t97)<|Jd<|?_
       exact cl t97 () m7 [0] (by exact ⟨(by subst hn7; exact H111), trivial⟩)
    ·refine Qp ?_
     exact cl () () 0 [0] (by exact ⟨H112, trivial⟩)
   ·rintro _ _ gg H81 _
    try dsimp only at H81
    try dsimp only
    refine Qe (r := r) (σ := Unit) (τ := Unit) (fun s => Jah a0) (fun s t => [(1, pz b2)]) (fun s t => [Jn b2 [i6 a0.kad, str a0.kae, v0_2, v0_3, v0_4] 81]) (fun s t => True) ?_ ?_
    ·refine Jc<|Ja<|lf Tryz.runUnderlying81 rfl Tryz.sizeOf79 rfl<|ll 0 v0_3 Tryz.isAgg79<|lv (Z8 Tryz.underlying79 rfl f0_3 rfl)<|mv (i6 0)<|Jd<|Jp<|?_
     refine Xu (σ := Int) (τ := Unit) (fun next6 s => Zg a0 next6 s) (fun s t => [(1, pz b2), (99, v0_3), (100, i6 (a0.kac.length : Int)), (101, i6 s)]) (fun s t => [Jn b2 [i6 a0.kad, str a0.kae, v0_2, v0_3, v0_4] 81]) (fun s t => True) 0 () [0] H81 (by exact trivial) (by exact ⟨rfl, rfl, rfl, rfl, trivial⟩) (by decide) rfl ?_
     rintro x101_2 _ m6 gg H91 _
     clear H81
     try dsimp only at H91
     generalize hn6 : it (fun next6 s => Zg a0 next6 s) m6 = next6 at H91
     try dsimp only
     refine Jc<|Ja<|lv (Xk rfl rfl)<|Jd<|Jc<|?_
     revert H91
     refine ci (decide (x101_2 < (a0.kac.length : Int))) rfl (fun hb H92=>?_) fun hb H103=>?_
     ·refine Jh<|Jc<|Jp<|Jc<|Ja<|?_
      obtain ⟨t103, h_t103, H93⟩ := Je H92; clear H92
      refine lv (Q7 Tryz.underlying79 Tryz.sizeOf70 rfl rfl f0_3 h_t103)<|Qf (fun w hF hS => Yl (f := Jl) (i := x101_2) (sz := 2) (j := 0) (vs := [i6 t103.Num, i6 t103.Den]) isAgg70 Tryz.sizeOf70 rfl rfl (f0_3.row (hw.now hF)) h_t103 rfl) rfl rfl rfl<|?_
      refine Xi (cs := [i6 0, i6 0]) zeroValue70 rfl rfl rfl (fun b3 => ?_)
      refine st (i := 1) [i6 t103.Num, i6 t103.Den] [i6 t103.Num, i6 t103.Den] Tryz.sizeOf70 rfl rfl<|Jd<|Jc<|Ja<|lf Tryz.runUnderlying70 rfl Tryz.sizeOf3 rfl<|ll 1 (i6 t103.Num) Tryz.isAgg3<|lv (Xk rfl rfl)<|mv (.bool (decide (t103.Num < 0)))<|?_
      revert H93
      refine sp (fun hb H94=>?_) fun hb H95=>?_
      ·refine pa<|pa<|pa<|pT (.bool true)<|mv (.bool true)<|pa<|pa<|pa<|pT (.bool true)<|mv (.bool true)<|pa<|pa<|pa<|pT (.bool true)<|Jd<|Yc rfl<|Jc<|Ja<|ag (i6 2)<|Jd<|Ji<|?_
       obtain rfl := sj H94
       exact r1 (i6 2)
      ·refine lf Tryz.runUnderlying70 rfl Tryz.sizeOf3 rfl<|ll 1 (i6 t103.Num) Tryz.isAgg3<|lv (Ye rfl rfl)<|pF (.bool (decide (4294967295 < t103.Num)))<|mv (.bool (decide (4294967295 < t103.Num)))<|?_
       revert H95
       refine sp (fun hb H96=>?_) fun hb H97=>?_
       ·refine pa<|pa<|pa<|pT (.bool true)<|mv (.bool true)<|pa<|pa<|pa<|pT (.bool true)<|Jd<|Yc rfl<|Jc<|Ja<|ag (i6 2)<|Jd<|Ji<|?_
        obtain rfl := sj H96
        exact r1 (i6 2)
       ·refine lf Tryz.runUnderlying70 rfl Tryz.sizeOf3 rfl<|ll 1 (i6 t103.Den) Tryz.isAgg3<|lv (Xk rfl rfl)<|pF (.bool (decide (t103.Den < 0)))<|mv (.bool (decide (t103.Den < 0)))<|?_
        revert H97
        refine sp (fun hb H98=>?_) fun hb H99=>?_
        ·refine pa<|pa<|pa<|pT (.bool true)<|Jd<|Yc rfl<|Jc<|Ja<|ag (i6 2)<|Jd<|Ji<|?_
         obtain rfl := sj H98
         exact r1 (i6 2)
        ·refine lf Tryz.runUnderlying70 rfl Tryz.sizeOf3 rfl<|ll 1 (i6 t103.Den) Tryz.isAgg3<|lv (Ye rfl rfl)<|pF (.bool (decide (4294967295 < t103.Den)))<|Jd<|?_
         revert H99
         refine ci (decide (4294967295 < t103.Den)) rfl (fun hb H100=>?_) fun hb H101=>?_
         ·refine Jc<|Ja<|ag (i6 2)<|Jd<|Ji<|?_
          obtain rfl := sj H100
          exact r1 (i6 2)
         ·refine Jh<|Ja<|?_
          obtain ⟨t123, h_t123, H102⟩ := Je H101; clear H101
          refine lv (J8 rfl rfl h_t123)<|mv (i6 t123)<|Jd<|?_
          exact cl t123 () m6 [0] (by exact ⟨(by subst hn6; exact H102), trivial⟩)
     ·refine Qp ?_
      exact cl () () 0 [0] (by exact ⟨H103, trivial⟩)
    ·rintro _ _ gg H82 _
     try dsimp only at H82
     try dsimp only
     refine Qe (r := r) (σ := Unit) (τ := Unit) (fun s => Jb0 a0) (fun s t => [(1, pz b2)]) (fun s t => [Jn b2 [i6 a0.kad, str a0.kae, v0_2, v0_3, v0_4] 81]) (fun s t => True) ?_ ?_
     ·refine Jc<|Ja<|lf Tryz.runUnderlying81 rfl Tryz.sizeOf3 rfl<|ll 0 (i6 a0.kad) Tryz.isAgg3<|lv (Qd rfl rfl)<|mv (.bool (decide (a0.kad = 2)))<|?_
      revert H82
      refine sp (fun hb H86=>?_) fun hb H90=>?_
      ·refine lf Tryz.runUnderlying81 rfl Tryz.sizeOf9 rfl<|ll 0 (str a0.kae) Tryz.isAgg9<|?_
       obtain ⟨t130, h_t130, H87⟩ := Je H86; clear H86
       refine Qm (k72 h_t130) call72 rfl rfl rfl<|lv (Jg5 rfl rfl)<|pT (.bool (decide (0 ≤ t130)))<|Jd<|?_
       revert H87
       refine ci (decide (0 ≤ t130)) rfl (fun hb H88=>?_) fun hb H89=>?_
       ·refine Jc<|Ja<|ag (i6 9)<|Jd<|Ji<|?_
        obtain rfl := sj H88
        exact r1 (i6 9)
       ·refine Jh ?_
        exact cl () () 0 [0] (by exact ⟨H89, trivial⟩)
      ·refine pa<|pa<|pa<|pa<|pF (.bool false)<|Jd<|Zc rfl<|Jh<|?_
       exact cl () () 0 [0] (by exact ⟨H90, trivial⟩)
     ·rintro _ _ gg H83 _
      try dsimp only at H83
      try dsimp only
      refine Jc<|Jc<|Ja<|lf Tryz.runUnderlying81 rfl Tryz.sizeOf3 rfl<|ll 0 (i6 a0.kad) Tryz.isAgg3<|lv (Qd rfl rfl)<|Jd<|?_
      revert H83
      refine ci (decide (a0.kad = 13)) rfl (fun hb H84=>?_) fun hb H85=>?_
      ·exact absurd (show (none : Option (Int)) = some r from H84) (fun h => by cases h)
      ·refine Jh<|Jc<|Ja<|ag (i6 0)<|Jd<|Ji<|?_
       obtain rfl := sj H85
       exact r1 (i6 0)
theorem k17_it (mm : Nat) : ∀ {a0 : (List Ta)} {v0 : Value} {a1 : Int} {r : Int} {w : World} {h : Jw} (hw : Know h w Ys) (f0 : FrN h 6 v0 g_tag_Entry a0) (H : it (fun (self : ((List Ta) × Int) → Option (Int)) (s : (List Ta) × Int) => Z1 self s.1 s.2) mm (a0, a1) = some r), Does prog 17 (List.toArray [v0, i6 a1]) w (fun v w' => v = (i6 r) ∧ Grow w w') := by
 induction mm with
 | zero => intros; rename_i H; exact absurd H (by simp [it])
 | succ mm ih =>
  intro a0 v0 a1 r w h hw f0 H
  replace H : Z1 (it (fun (self : ((List Ta) × Int) → Option (Int)) (s : (List Ta) × Int) => Z1 self s.1 s.2) mm) a0 a1 = some r := H
  generalize it (fun (self : ((List Ta) × Int) → Option (Int)) (s : (List Ta) × Int) => Z1 self s.1 s.2) mm = self at H ih
  refine enter (n := 79) func17 rfl rfl rfl Ys [] (Sat.nil _ _)<|Jc<|Ja<|ag (i6 0)<|Jd<|Jc<|Jc<|Ja<|mv (i6 a1)<|lv (Ye rfl rfl)<|mv (.bool (decide (5 < a1)))<|?_
  revert H
  refine sp (fun hb H37=>?_) fun hb H38=>?_
  ·refine pa<|pa<|pa<|pT (.bool true)<|Jd<|Yc rfl<|Jc<|Ja<|ag (i6 4)<|Jd<|Ji<|?_
   obtain rfl := sj H37
   exact r1 (i6 4)
  ·refine mv v0<|lv (Xw Tryz.underlying41 rfl f0)<|lv (Ye rfl rfl)<|pF (.bool (decide (200 < (a0.length : Int))))<|Jd<|?_
   revert H38
   refine ci (decide (200 < (a0.length : Int))) rfl (fun hb H39=>?_) fun hb H40=>?_
   ·refine Jc<|Ja<|ag (i6 4)<|Jd<|Ji<|?_
    obtain rfl := sj H39
    exact r1 (i6 4)
   ·refine Jh<|Jc<|Jc<|Ja<|mv v0<|lv (Xw Tryz.underlying41 rfl f0)<|mv (i6 0)<|Jd<|Jp<|?_
    refine Xu (σ := Int) (τ := Unit) (fun next1 s => Jbw a0 a1 self next1 s) (fun s t => [(0, v0), (1, i6 a1), (17, v0), (18, i6 (a0.length : Int)), (19, i6 s)]) (fun s t => []) (fun s t => True) 0 () [] H40 (by exact trivial) (by exact ⟨rfl, rfl, rfl, rfl, rfl, trivial⟩) (by decide) rfl ?_
    rintro x19_2 _ m1 gg H41 _
    clear H40
    try dsimp only at H41
    generalize hn1 : it (fun next1 s => Jbw a0 a1 self next1 s) m1 = next1 at H41
    try dsimp only
    refine Jc<|Ja<|lv (Xk rfl rfl)<|Jd<|Jc<|?_
    revert H41
    refine ci (decide (x19_2 < (a0.length : Int))) rfl (fun hb H42=>?_) fun hb H72=>?_
    ·refine Jh ?_
     refine Qe (r := r) (σ := Int × Bool × Int × Int × (List UInt8) × (List Int) × (List Tc) × (List Ta)) (τ := Value × Value × Value × Nat) (fun s => Jbu x19_2 next1 s.1 s.2.1 s.2.2.1 s.2.2.2.1 s.2.2.2.2.1 s.2.2.2.2.2.1 s.2.2.2.2.2.2.1 s.2.2.2.2.2.2.2) (fun s t => [(0, v0), (1, i6 a1), (17, v0), (18, i6 (a0.length : Int)), (19, i6 x19_2), (28, .pointer (some ⟨t.2.2.2, 0, none⟩)), (29, i6 s.1), (30, .bool s.2.1)]) (fun s t => [Jn t.2.2.2 [i6 s.2.2.1, i6 s.2.2.2.1, str s.2.2.2.2.1, t.1, t.2.1, t.2.2.1] 83]) (fun s t => FrS h 1 t.1 (s.2.2.2.2.2.1.map Qz) ∧ FrS h 2 t.2.1 (s.2.2.2.2.2.2.1.map Jl) ∧ FrN h 6 t.2.2.1 g_tag_Entry s.2.2.2.2.2.2.2) ?_ ?_
     ·refine Jp<|Jc<|Ja<|mv (i6 x19_2)<|?_
      obtain ⟨t22, h_t22, H45⟩ := Je H42; clear H42
      refine lv (Q7 Tryz.underlying41 Tryz.sizeOf83 rfl rfl f0.frs (f0.ix h_t22))<|Qf (fun w hF hS => Yl (f := (elC h v0 6)) (i := x19_2) (sz := 6) (j := 0) (vs := [i6 t22.Tag, i6 t22.Value.kad, str t22.Value.kae, (Qq h v0 6 (Int.toNat x19_2) 3), (Qq h v0 6 (Int.toNat x19_2) 4), (Qq h v0 6 (Int.toNat x19_2) 5)]) isAgg83 Tryz.sizeOf83 rfl rfl (f0.frs.row (hw.now hF)) (f0.ix h_t22) (rd_of (Zt (f0.at h_t22)) rfl)) rfl rfl rfl<|?_
      refine Xi (cs := [i6 0, i6 0, str [], z0s, z0s, z0s]) zeroValue83 rfl rfl rfl (fun b2 => ?_)
      refine ag (i6 x19_2)<|Qu (i := 0) (vs := [i6 t22.Tag, i6 t22.Value.kad, str t22.Value.kae, (Qq h v0 6 (Int.toNat x19_2) 3), (Qq h v0 6 (Int.toNat x19_2) 4), (Qq h v0 6 (Int.toNat x19_2) 5)]) (cs' := [i6 t22.Tag, i6 t22.Value.kad, str t22.Value.kae, (Qq h v0 6 (Int.toNat x19_2) 3), (Qq h v0 6 (Int.toNat x19_2) 4), (Qq h v0 6 (Int.toNat x19_2) 5)]) Tryz.sizeOf83 rfl rfl rfl rfl rfl rfl (by simp only [List.all_cons, List.all_nil, (show FrN h 6 (Qq h v0 6 (Int.toNat x19_2) 5) g_tag_Entry t22.Value.kab from (J6 (Jj (f0.at h_t22)))).one, (show FrS h 1 (Qq h v0 6 (Int.toNat x19_2) 3) (t22.Value.kaf.map Qz) from (Qi (Jj (f0.at h_t22)))).one, (show FrS h 2 (Qq h v0 6 (Int.toNat x19_2) 4) (t22.Value.kac.map Jl) from (Qj (Jj (f0.at h_t22)))).one] <;> rfl) rfl rfl<|Jd<|Jc<|Jc<|Ja<|lf Tryz.runUnderlying83 rfl Tryz.sizeOf3 rfl<|ll 0 (i6 t22.Tag) Tryz.isAgg3<|lv (Xk rfl rfl)<|mv (.bool (decide (t22.Tag < 0)))<|?_
      revert H45
      refine sp (fun hb H46=>?_) fun hb H47=>?_
      ·refine pa<|pa<|pa<|pT (.bool true)<|Jd<|Yc rfl<|Jc<|Ja<|ag (i6 2)<|Jd<|Ji<|?_
       obtain rfl := sj H46
       exact r1 (i6 2)
      ·refine lf Tryz.runUnderlying83 rfl Tryz.sizeOf3 rfl<|ll 0 (i6 t22.Tag) Tryz.isAgg3<|lv (Ye rfl rfl)<|pF (.bool (decide (65535 < t22.Tag)))<|Jd<|?_
       revert H47
       refine ci (decide (65535 < t22.Tag)) rfl (fun hb H48=>?_) fun hb H49=>?_
       ·refine Jc<|Ja<|ag (i6 2)<|Jd<|Ji<|?_
        obtain rfl := sj H48
        exact r1 (i6 2)
       ·refine Jh ?_
        refine Qe (r := r) (σ := Unit) (τ := Unit) (fun s => Jda a1 self x19_2 next1 t22) (fun s t => [(0, v0), (1, i6 a1), (6, pz b2), (17, v0), (18, i6 (a0.length : Int)), (19, i6 x19_2), (28, pz b2), (29, i6 t22.Tag), (30, .bool (decide (65535 < t22.Tag)))]) (fun s t => [Jn b2 [i6 t22.Tag, i6 t22.Value.kad, str t22.Value.kae, (Qq h v0 6 (Int.toNat x19_2) 3), (Qq h v0 6 (Int.toNat x19_2) 4), (Qq h v0 6 (Int.toNat x19_2) 5)] 83]) (fun s t => True) ?_ ?_
        ·refine Jc ?_
         exact Qv (Kd.p :: Kd.p :: Kd.p :: Kd.p :: Kd.d [0] _ :: Kd.p :: Kd.p :: Kd.p :: Kd.p :: Kd.p :: Kd.d [] _ :: Kd.p :: Kd.p :: []) 0 mixed (by
          refine dm (i6 x19_2)<|dv (Ye rfl rfl)<|dm (.bool (decide (0 < x19_2)))<|?_
          refine Jc5 (fun hb => ?_) (fun hb => ?_)
          ·have H66 := Xn hb H49
           refine dv (Jr Tryz.runUnderlying83 rfl Tryz.sizeOf3 rfl rfl)<|dl (i6 t22.Tag) Tryz.isAgg3<|dm v0<|dm (i6 x19_2)<|?_
           have h_t39 := J4 H66
           have H67 := J0 H66
           refine dv (Vh rfl rfl h_t39) ?_
           have h_t40 := J4 H67
           have H68 := J0 H67
           refine dv (Q7 Tryz.underlying41 Tryz.sizeOf83 rfl rfl f0.frs (f0.ix h_t40))<|dv (Jjs Tryz.runUnderlying83 rfl Tryz.sizeOf3 rfl rfl (Jj1 f0.frs (f0.ix h_t40)))<|Jit (fun w hF => Qb (f := (elC h v0 6)) (i := (val (gI (x19_2 - 1)))) (sz := 6) (j := 0) (v := i6 (val (Yv a0 (val (gI (x19_2 - 1))))).Tag) Tryz.isAgg3 rfl rfl (f0.frs.row (hw.now hF)) (f0.ix h_t40) (Jgi (Zt (f0.at h_t40)) rfl)) rfl rfl<|dv (r_leq rfl rfl)<|dv (Xp (v := .bool (decide (t22.Tag ≤ (val (Yv a0 (val (gI (x19_2 - 1))))).Tag))) rfl rfl)<|X6<|?_
           revert H68
           refine ci (decide (t22.Tag ≤ (val (Yv a0 (val (gI (x19_2 - 1))))).Tag)) rfl (fun hb H69=>?_) fun hb H70=>?_
           ·refine Jc<|Ja<|ag (i6 5)<|Jd<|Ji<|?_
            obtain rfl := sj H69
            exact r1 (i6 5)
           ·refine Jh ?_
            exact cl () () 0 [0] (by exact ⟨H70, trivial⟩)
          ·have H71 := Xg hb H49
           refine dp<|dp<|dp<|dp<|dp<|dp<|dp<|dp<|dp<|dv (X4 (v := .bool false) rfl rfl)<|X6<|Zc rfl<|Jh<|?_
           exact cl () () 0 [0] (by exact ⟨H71, trivial⟩)
          ) (by kernel_rfl)
        ·rintro _ _ gg H50 _
         try dsimp only at H50
         try dsimp only
         refine Jc<|Ja<|lf Tryz.runUnderlying83 rfl Tryz.sizeOf81 rfl<|Q0 (i := 0) (vs := [i6 t22.Value.kad, str t22.Value.kae, (Qq h v0 6 (Int.toNat x19_2) 3), (Qq h v0 6 (Int.toNat x19_2) 4), (Qq h v0 6 (Int.toNat x19_2) 5)]) Tryz.isAgg81 Tryz.sizeOf81 rfl rfl rfl rfl rfl<|?_
         refine Xi (cs := [i6 0, str [], z0s, z0s, z0s]) zeroValue81 rfl rfl rfl (fun b3 => ?_)
         refine Qu (i := 1) (vs := [i6 t22.Value.kad, str t22.Value.kae, (Qq h v0 6 (Int.toNat x19_2) 3), (Qq h v0 6 (Int.toNat x19_2) 4), (Qq h v0 6 (Int.toNat x19_2) 5)]) (cs' := [i6 t22.Value.kad, str t22.Value.kae, (Qq h v0 6 (Int.toNat x19_2) 3), (Qq h v0 6 (Int.toNat x19_2) 4), (Qq h v0 6 (Int.toNat x19_2) 5)]) Tryz.sizeOf81 rfl rfl rfl rfl rfl rfl (by simp only [List.all_cons, List.all_nil, (show FrN h 6 (Qq h v0 6 (Int.toNat x19_2) 5) g_tag_Entry t22.Value.kab from (J6 (Jj (f0.at h_t22)))).one, (show FrS h 1 (Qq h v0 6 (Int.toNat x19_2) 3) (t22.Value.kaf.map Qz) from (Qi (Jj (f0.at h_t22)))).one, (show FrS h 2 (Qq h v0 6 (Int.toNat x19_2) 4) (t22.Value.kac.map Jl) from (Qj (Jj (f0.at h_t22)))).one] <;> rfl) rfl rfl<|Jd<|Jc<|Jc<|Ja<|lf Tryz.runUnderlying81 rfl Tryz.sizeOf3 rfl<|ll 1 (i6 t22.Value.kad) Tryz.isAgg3<|lv (Vk rfl rfl)<|Jd<|?_
         revert H50
         refine ci (decide (t22.Value.kad ≠ 13)) rfl (fun hb H51=>?_) fun hb H55=>?_
         ·refine Jc<|Jc<|Ja<|Q0 (i := 1) (vs := [i6 t22.Value.kad, str t22.Value.kae, (Qq h v0 6 (Int.toNat x19_2) 3), (Qq h v0 6 (Int.toNat x19_2) 4), (Qq h v0 6 (Int.toNat x19_2) 5)]) Tryz.isAgg81 Tryz.sizeOf81 rfl rfl rfl rfl rfl<|?_
          obtain ⟨t51, h_t51, H52⟩ := Je H51; clear H51
          refine Qt (fun w hF hS => k36 (Ju w) ((show FrS h 1 (Qq h v0 6 (Int.toNat x19_2) 3) (t22.Value.kaf.map Qz) from (Qi (Jj (f0.at h_t22)))).mono (hw.now hF)) ((show FrS h 2 (Qq h v0 6 (Int.toNat x19_2) 4) (t22.Value.kac.map Jl) from (Qj (Jj (f0.at h_t22)))).mono (hw.now hF)) ((show FrN h 6 (Qq h v0 6 (Int.toNat x19_2) 5) g_tag_Entry t22.Value.kab from (J6 (Jj (f0.at h_t22)))).mono (hw.now hF)) h_t51) call36 rfl rfl rfl<|ag (i6 t51)<|Jd<|Jc<|Ja<|mv (i6 t51)<|lv (Vk rfl rfl)<|Jd<|?_
          revert H52
          refine ci (decide (t51 ≠ 0)) rfl (fun hb H53=>?_) fun hb H54=>?_
          ·refine Jc<|Ja<|mv (i6 t51)<|ag (i6 t51)<|Jd<|Ji<|?_
           obtain rfl := sj H53
           exact r1 (i6 t51)
          ·refine Jh<|Qp<|?_
           exact cl (t22.Tag, (decide (65535 < t22.Tag)), t22.Tag, t22.Value.kad, t22.Value.kae, t22.Value.kaf, t22.Value.kac, t22.Value.kab) ((Qq h v0 6 (Int.toNat x19_2) 3), (Qq h v0 6 (Int.toNat x19_2) 4), (Qq h v0 6 (Int.toNat x19_2) 5), b2) 0 [0] (by exact ⟨H54, ⟨(show FrS h 1 (Qq h v0 6 (Int.toNat x19_2) 3) (t22.Value.kaf.map Qz) from (Qi (Jj (f0.at h_t22)))), (show FrS h 2 (Qq h v0 6 (Int.toNat x19_2) 4) (t22.Value.kac.map Jl) from (Qj (Jj (f0.at h_t22)))), (show FrN h 6 (Qq h v0 6 (Int.toNat x19_2) 5) g_tag_Entry t22.Value.kab from (J6 (Jj (f0.at h_t22))))⟩⟩)
         ·refine Jh<|Jc<|Jc<|Ja<|lf Tryz.runUnderlying81 rfl Tryz.sizeOf9 rfl<|ll 1 (str t22.Value.kae) Tryz.isAgg9<|lv (Ja3 rfl rfl)<|mv (.bool (decide (t22.Value.kae ≠ [])))<|?_
          revert H55
          refine sp (fun hb H56=>?_) fun hb H57=>?_
          ·refine pa<|pa<|pa<|pa<|pT (.bool true)<|mv (.bool true)<|pa<|pa<|pa<|pa<|pT (.bool true)<|Jd<|Yc rfl<|Jc<|Ja<|ag (i6 1)<|Jd<|Ji<|?_
           obtain rfl := sj H56
           exact r1 (i6 1)
          ·refine lf Tryz.runUnderlying81 rfl Tryz.sizeOf76 rfl<|ll 1 (Qq h v0 6 (Int.toNat x19_2) 3) Tryz.isAgg76<|lv (Z8 Tryz.underlying76 rfl (show FrS h 1 (Qq h v0 6 (Int.toNat x19_2) 3) (t22.Value.kaf.map Qz) from (Qi (Jj (f0.at h_t22)))) rfl)<|lv (Ye rfl rfl)<|pF (.bool (decide (0 < (t22.Value.kaf.length : Int))))<|mv (.bool (decide (0 < (t22.Value.kaf.length : Int))))<|?_
           revert H57
           refine sp (fun hb H58=>?_) fun hb H59=>?_
           ·refine pa<|pa<|pa<|pa<|pT (.bool true)<|Jd<|Yc rfl<|Jc<|Ja<|ag (i6 1)<|Jd<|Ji<|?_
            obtain rfl := sj H58
            exact r1 (i6 1)
           ·refine lf Tryz.runUnderlying81 rfl Tryz.sizeOf79 rfl<|ll 1 (Qq h v0 6 (Int.toNat x19_2) 4) Tryz.isAgg79<|lv (Z8 Tryz.underlying79 rfl (show FrS h 2 (Qq h v0 6 (Int.toNat x19_2) 4) (t22.Value.kac.map Jl) from (Qj (Jj (f0.at h_t22)))) rfl)<|lv (Ye rfl rfl)<|pF (.bool (decide (0 < (t22.Value.kac.length : Int))))<|Jd<|?_
            revert H59
            refine ci (decide (0 < (t22.Value.kac.length : Int))) rfl (fun hb H60=>?_) fun hb H61=>?_
            ·refine Jc<|Ja<|ag (i6 1)<|Jd<|Ji<|?_
             obtain rfl := sj H60
             exact r1 (i6 1)
            ·refine Jh<|Jc<|Ja<|lf Tryz.runUnderlying81 rfl Tryz.sizeOf41 rfl<|ll 1 (Qq h v0 6 (Int.toNat x19_2) 5) Tryz.isAgg41<|mv (i6 a1)<|?_
             obtain ⟨t73, h_t73, H62⟩ := Je H61; clear H61
             refine lv (J8 rfl rfl h_t73) ?_
             obtain ⟨t74, h_t74, H63⟩ := Je H62; clear H62
             refine Qt (fun w hF hS => ih (Ju w) ((show FrN h 6 (Qq h v0 6 (Int.toNat x19_2) 5) g_tag_Entry t22.Value.kab from (J6 (Jj (f0.at h_t22)))).mono (hw.now hF)) h_t74) call17 rfl rfl rfl<|ag (i6 t74)<|Jd<|Jc<|Ja<|mv (i6 t74)<|lv (Vk rfl rfl)<|Jd<|?_
             revert H63
             refine ci (decide (t74 ≠ 0)) rfl (fun hb H64=>?_) fun hb H65=>?_
             ·refine Jc<|Ja<|mv (i6 t74)<|ag (i6 t74)<|Jd<|Ji<|?_
              obtain rfl := sj H64
              exact r1 (i6 t74)
             ·refine Jh ?_
              exact cl (t22.Tag, (decide (65535 < t22.Tag)), t22.Tag, t22.Value.kad, t22.Value.kae, t22.Value.kaf, t22.Value.kac, t22.Value.kab) ((Qq h v0 6 (Int.toNat x19_2) 3), (Qq h v0 6 (Int.toNat x19_2) 4), (Qq h v0 6 (Int.toNat x19_2) 5), b2) 0 [0] (by exact ⟨H65, ⟨(show FrS h 1 (Qq h v0 6 (Int.toNat x19_2) 3) (t22.Value.kaf.map Qz) from (Qi (Jj (f0.at h_t22)))), (show FrS h 2 (Qq h v0 6 (Int.toNat x19_2) 4) (t22.Value.kac.map Jl) from (Qj (Jj (f0.at h_t22)))), (show FrN h 6 (Qq h v0 6 (Int.toNat x19_2) 5) g_tag_Entry t22.Value.kab from (J6 (Jj (f0.at h_t22))))⟩⟩)
     ·rintro ⟨x29, x30, m, m_2, m_3, m_4, m_5, m_6⟩ ⟨gv, gv_2, gv_3, b⟩ gg H43 ⟨gf, gf_2, gf_3⟩
      try dsimp only at H43
      try dsimp only
      refine Ja ?_
      obtain ⟨t78, h_t78, H44⟩ := Je H43; clear H43
      refine lv (J8 rfl rfl h_t78)<|mv (i6 t78)<|Jd<|?_
      exact cl t78 () m1 [] (by exact ⟨(by subst hn1; exact H44), trivial⟩)
    ·refine Qp<|Jc<|Ja<|ag (i6 0)<|Jd<|Ji<|?_
     obtain rfl := sj H72
     exact r1 (i6 0)
theorem k17 {a0 : (List Ta)} {v0 : Value} {a1 : Int} {r : Int} {w : World} {h : Jw} (hw : Know h w Ys) (f0 : FrN h 6 v0 g_tag_Entry a0) (H : Jfu a0 a1 = some r) : Does prog 17 (List.toArray [v0, i6 a1]) w (fun v w' => v = (i6 r) ∧ Grow w w') := by
 obtain ⟨mm, hm⟩ := Jfz (show Yz (fun (self : ((List Ta) × Int) → Option (Int)) (s : (List Ta) × Int) => Z1 self s.1 s.2) (a0, a1) = some r from H)
 exact k17_it mm hw f0 hm
theorem k37 {a0 : Bool} {a1 : Int} {a2 : Int} {r : (List UInt8)} (H : X8 a0 a1 a2 = some r) : Ret prog 37 [.bool a0, i6 a1, i6 a2] (str r) := by
 refine Qr (n := 34) func37 rfl rfl rfl (fun wd => ?_)
 refine Jc<|Ja<|ag (str [])<|Jd<|Jc<|Ja<|mv (i6 a2)<|?_
 obtain ⟨t11, h_t11, H16⟩ := Je H; clear H
 refine Zy (rds := []) (Jgr (E := 5) (sz := 1) (f := e_u8) (xs := t11) Tryz.underlying45 (Xv typeInfo5) rfl rfl rfl rfl rfl rfl ⟨rfl, rfl⟩ h_t11) rfl rfl rfl (fun p => ?_)
 refine ag (sl p t11.length)<|Jd<|?_
 refine Qe (r := r) (σ := (List Int)) (τ := Unit) (fun s => Ji6 s) (fun s t => [(7, sl p t11.length)]) (fun s t => [J3 5 1 (sl p t11.length) t11.length (s.map e_u8)]) (fun s t => t11.length = s.length) ?_ ?_
 ·refine Jc<|Ja<|mv (sl p t11.length)<|lv (Wl Tryz.underlying45 rfl)<|mv (i6 0)<|Jd<|Jp<|?_
  refine Xu (σ := Int × (List Int)) (τ := Unit) (fun next2 s => W3 a0 a1 a2 t11 next2 s.1 s.2) (fun s t => [(0, .bool a0), (1, i6 a1), (2, i6 a2), (7, sl p t11.length), (13, i6 (t11.length : Int)), (14, i6 s.1)]) (fun s t => [J3 5 1 (sl p t11.length) t11.length (s.2.map e_u8)]) (fun s t => t11.length = s.2.length) (0, t11) () [0] H16 (by exact rfl) (by exact ⟨rfl, rfl, rfl, rfl, rfl, rfl, trivial⟩) (by decide) rfl ?_
  rintro ⟨x14_2, l_3⟩ _ m2 gg H18 hl_3
  clear H16
  try dsimp only at H18
  generalize hn2 : it (fun next2 s => W3 a0 a1 a2 t11 next2 s.1 s.2) m2 = next2 at H18
  try dsimp only
  refine Jc<|Ja<|lv (Xk rfl rfl)<|Jd<|Jc<|?_
  revert H18
  refine ci (decide (x14_2 < (t11.length : Int))) rfl (fun hb H19=>?_) fun hb H30=>?_
  ·refine Jh<|Jc<|Jp<|Jc<|Ja<|mv (i6 x14_2)<|ag (i6 x14_2)<|Jd<|Jc<|Ja<|mv (i6 x14_2)<|ag (i6 x14_2)<|Jd<|?_
   refine Qe (r := r) (σ := Int) (τ := Unit) (fun s => Jdj a1 x14_2 l_3 next2 s) (fun s t => [(0, .bool a0), (1, i6 a1), (2, i6 a2), (7, sl p t11.length), (8, i6 x14_2), (9, i6 s), (13, i6 (t11.length : Int)), (14, i6 x14_2)]) (fun s t => [J3 5 1 (sl p t11.length) t11.length (l_3.map e_u8)]) (fun s t => True) ?_ ?_
   ·refine Jc<|Ja<|mv (.bool a0)<|Jd<|?_
    revert H19
    refine ci a0 rfl (fun hb H26=>?_) fun hb H29=>?_
    ·refine Ja<|mv (i6 a2)<|?_
     obtain ⟨t20, h_t20, H27⟩ := Je H26; clear H26
     refine lv (Vh rfl rfl h_t20)<|mv (i6 x14_2)<|?_
     obtain ⟨t22, h_t22, H28⟩ := Je H27; clear H27
     refine lv (Vh rfl rfl h_t22)<|ag (i6 t22)<|Jd<|?_
     exact cl t22 () 0 [0] (by exact ⟨H28, trivial⟩)
    ·refine Jh ?_
     exact cl x14_2 () 0 [0] (by exact ⟨H29, trivial⟩)
   ·rintro x9 _ gg H20 _
    try dsimp only at H20
    try dsimp only
    refine Ja<|mv (sl p t11.length)<|mv (i6 x9)<|mv (i6 a1)<|mv (i6 x14_2)<|?_
    obtain ⟨t27, h_t27, H21⟩ := Je H20; clear H20
    refine lv (Jhj rfl rfl h_t27) ?_
    obtain ⟨t28, h_t28, H22⟩ := Je H21; clear H21
    refine lv (r_shrG rfl rfl rfl h_t28)<|lv (Jfm runUnderlying3 Tryz.runUnderlying5 rfl (Jg8 _))<|?_
    obtain ⟨t30, h_t30, H23⟩ := Je H22; clear H22
    refine Qf (fun w hF hS => Qx Tryz.underlying45 sizeOf5 rfl rfl (Xd (i := 0) hS rfl) hl_3 h_t30) rfl rfl rfl ?_
    obtain ⟨l0, h_l0, H24⟩ := Je H23; clear H23
    refine Jds (q := 0) (j := 0) (i := x9) (sz := 1) (hm := hl_3) (f := e_u8) (vs := [.int .u8 (wU8 t28)]) sizeOf5 rfl rfl rfl rfl rfl rfl rfl rfl rfl (fun y_ hy_ => by first | rfl | (cases hy_.symm.trans h_t30; rfl)) h_l0<|Jd<|Ja<|?_
    obtain ⟨t31, h_t31, H25⟩ := Je H24; clear H24
    refine lv (J8 rfl rfl h_t31)<|mv (i6 t31)<|Jd<|?_
    exact cl (t31, l0) () m2 [0] (by exact ⟨(by subst hn2; exact H25), (Jhk hl_3 h_l0)⟩)
  ·refine Qp ?_
   exact cl l_3 () 0 [0] (by exact ⟨H30, hl_3⟩)
 ·rintro l _ gg H17 hl
  try dsimp only at H17
  try dsimp only
  refine Jc<|Ja<|mv (sl p t11.length)<|Qf (fun w hF hS => Ji1 (f := e_u8) (xs := l) hl Tryz.underlying45 underlying5 Tryz.underlying9 rfl (fun _ => rfl) (Xd (i := 0) hS rfl)) rfl rfl rfl<|ag (str (Jaz l))<|Jd<|Ji<|?_
  obtain rfl := sj H17
  exact r1 (str (Jaz l))
theorem k39 {a0 : Te} {pb0 : Nat} {a1 : Int} {a2 : Int} {a3 : Int} {r : Te} {w : World} {h : Jw} {S : Nat → Prop} (hcs : (Jn pb0 [str a0.s_, .bool a0.kaa] 87).P S w) (hlt : ∀ b, S b → b < w.heap.size) (hw : Know h w S) (H : Yb a0 a1 a2 a3 = some r) : Does prog 39 (List.toArray [pz pb0, i6 a1, i6 a2, i6 a3]) w (fun v w' => ∃ x : Unit, v = (.tuple #[]) ∧ Turn w w' S (Jn pb0 [str r.s_, .bool r.kaa] 87)) := by
 refine enter (n := 34) func39 rfl rfl rfl S [Jn pb0 [str a0.s_, .bool a0.kaa] 87] (Sat.one hcs hlt) ?_
 exact Qv (Kd.p :: Kd.p :: Kd.p :: Kd.p :: Kd.d [0] _ :: Kd.p :: Kd.p :: Kd.p :: Kd.p :: Kd.p :: Kd.d [0] _ :: Kd.p :: Kd.p :: Kd.d [] _ :: Kd.p :: Kd.p :: Kd.p :: Kd.p :: Kd.d [0] _ :: Kd.p :: Kd.p :: Kd.p :: Kd.p :: Kd.p :: Kd.p :: Kd.p :: Kd.st 33 0 [_, _] 87 :: []) 0 mixed (by
  refine dm (pz pb0)<|dm (pz pb0)<|dv (Jm rfl)<|dv (Jr Tryz.runUnderlying87 rfl Tryz.sizeOf9 rfl rfl)<|dl (str a0.s_) Tryz.isAgg9<|dm (i6 a1)<|?_
  have h_t14 := J4 H
  have H7 := J0 H
  refine dv (Jco Tryz.underlying9 rfl rfl h_t14)<|dm (pz pb0)<|dv (Jm rfl)<|dv (Jr Tryz.runUnderlying87 rfl sizeOf4 rfl rfl)<|dl (.bool a0.kaa) isAgg4<|dm (i6 a2)<|dm (i6 a3)<|?_
  have h_t21 := J4 H7
  have H8 := J0 H7
  refine Jb9 (k37 h_t21) call37 rfl rfl ?_
  have h_t22 := J4 H8
  have H9 := J0 H8
  refine dv (Qw rfl rfl h_t22)<|dm (pz pb0)<|dv (Jm rfl)<|dv (Jr Tryz.runUnderlying87 rfl Tryz.sizeOf9 rfl rfl)<|dl (str a0.s_) Tryz.isAgg9<|dm (i6 a1)<|dm (i6 a3)<|?_
  have h_t29 := J4 H9
  have H10 := J0 H9
  refine dv (J8 rfl rfl h_t29) ?_
  have h_t30 := J4 H10
  have H11 := J0 H10
  refine dv (Zi Tryz.underlying9 rfl rfl h_t30) ?_
  have h_t31 := J4 H11
  have H12 := J0 H11
  refine dv (Qw rfl rfl h_t31)<|dv (Jm rfl)<|dv (Jr Tryz.runUnderlying87 rfl Tryz.sizeOf9 rfl rfl)<|Jgz (i := 0) (vs := [str (val (Xh (val (Xh (val (Xx a0.s_ 0 a1)) (val (X8 a0.kaa a2 a3)))) (val (Xx a0.s_ (val (gI (a1 + a3))) a0.s_.length))))]) (cs' := [str (val (Xh (val (Xh (val (Xx a0.s_ 0 a1)) (val (X8 a0.kaa a2 a3)))) (val (Xx a0.s_ (val (gI (a1 + a3))) a0.s_.length)))), .bool a0.kaa]) Tryz.sizeOf9 rfl rfl rfl rfl rfl rfl rfl rfl rfl<|X6<|?_
  obtain rfl := sj H12
  refine ret0n rfl (Yg () (i := 0) rfl rfl (Imp.refl _))
  ) (by kernel_rfl)
theorem k73 {a0 : Te} {pb0 : Nat} {a1 : (List UInt8)} {r : Int × Te} {w : World} {h : Jw} {S : Nat → Prop} (hcs : (Jn pb0 [str a0.s_, .bool a0.kaa] 87).P S w) (hlt : ∀ b, S b → b < w.heap.size) (hw : Know h w S) (H : Jbt a0 a1 = some r) : Does prog 73 (List.toArray [pz pb0, str a1]) w (fun v w' => ∃ x : Unit, v = (i6 r.1) ∧ Turn w w' S (Jn pb0 [str r.2.s_, .bool r.2.kaa] 87)) := by
 refine enter (n := 34) func73 rfl rfl rfl S [Jn pb0 [str a0.s_, .bool a0.kaa] 87] (Sat.one hcs hlt)<|Jc<|Ja<|ag (i6 0)<|Jd<|?_
 refine Qe (r := r) (σ := (List UInt8)) (τ := Unit) (fun s => Jbi a0 a1 s) (fun s t => [(0, pz pb0), (1, str a1)]) (fun s t => [Jn pb0 [str s, .bool a0.kaa] 87]) (fun s t => True) ?_ ?_
 ·refine Jc<|Ja<|mv (pz pb0)<|lv (Jm rfl)<|lf Tryz.runUnderlying87 rfl Tryz.sizeOf9 rfl<|ll 0 (str a0.s_) Tryz.isAgg9<|lv (Xc Tryz.underlying9 rfl)<|?_
  obtain ⟨t11, h_t11, H9⟩ := Je H; clear H
  refine lv (r_remG rfl rfl h_t11)<|lv (Qd rfl rfl)<|Jd<|?_
  revert H9
  refine ci (decide (t11 = 1)) rfl (fun hb H10=>?_) fun hb H12=>?_
  ·refine Ja<|mv (pz pb0)<|lv (Jm rfl)<|lf Tryz.runUnderlying87 rfl Tryz.sizeOf9 rfl<|ll 0 (str a0.s_) Tryz.isAgg9<|?_
   obtain ⟨t17, h_t17, H11⟩ := Je H10; clear H10
   refine lv (Qw rfl rfl h_t17)<|lv (Jm rfl)<|lf Tryz.runUnderlying87 rfl Tryz.sizeOf9 rfl<|st (i := 0) [str t17] [str t17, .bool a0.kaa] Tryz.sizeOf9 rfl rfl<|Jd<|?_
   exact cl t17 () 0 [0] (by exact ⟨H11, trivial⟩)
  ·refine Jh ?_
   exact cl a0.s_ () 0 [0] (by exact ⟨H12, trivial⟩)
 ·rintro m _ gg H7 _
  try dsimp only at H7
  try dsimp only
  refine Jc<|Ja<|mv (pz pb0)<|lv (Jm rfl)<|lf Tryz.runUnderlying87 rfl Tryz.sizeOf9 rfl<|ll 0 (str m) Tryz.isAgg9<|lv (Xc Tryz.underlying9 rfl)<|ag (i6 (m.length : Int))<|Jd<|Jc<|Ja<|mv (pz pb0)<|lv (Jm rfl)<|lf Tryz.runUnderlying87 rfl Tryz.sizeOf9 rfl<|ll 0 (str m) Tryz.isAgg9<|mv (str a1)<|?_
  obtain ⟨t30, h_t30, H8⟩ := Je H7; clear H7
  refine lv (Qw rfl rfl h_t30)<|lv (Jm rfl)<|lf Tryz.runUnderlying87 rfl Tryz.sizeOf9 rfl<|st (i := 0) [str t30] [str t30, .bool a0.kaa] Tryz.sizeOf9 rfl rfl<|Jd<|Jc<|Ja<|mv (i6 (m.length : Int))<|ag (i6 (m.length : Int))<|Jd<|Ji<|?_
  obtain rfl := sj H8
  refine Ja1 (v := i6 (m.length : Int)) rfl rfl (Yg () (i := 0) rfl rfl (Imp.refl _))
theorem k75 {a0 : Bool} {a1 : Tb} {v1_2 : Value} {v1_3 : Value} {v1_4 : Value} {r : (List UInt8)} {w : World} {h : Jw} (hw : Know h w Ys) (f1_2 : FrS h 1 v1_2 (a1.kaf.map Qz)) (f1_3 : FrS h 2 v1_3 (a1.kac.map Jl)) (f1_4 : FrN h 6 v1_4 g_tag_Entry a1.kab) (H : Zz a0 a1 = some r) : Does prog 75 (List.toArray [.bool a0, .agg #[i6 a1.kad, str a1.kae, v1_2, v1_3, v1_4]]) w (fun v w' => v = (str r) ∧ Grow w w') := by
 refine enter (n := 53) func75 rfl rfl rfl Ys [] (Sat.nil _ _)<|Jc<|Ja<|?_
 refine Vv (cs := [i6 a1.kad, str a1.kae, v1_2, v1_3, v1_4]) rfl rfl rfl rfl (fun b2 => ?_)
 refine ag (str [])<|Jd<|Jc<|Ja<|lf Tryz.runUnderlying81 rfl Tryz.sizeOf9 rfl<|ll 0 (str a1.kae) Tryz.isAgg9<|ag (str a1.kae)<|Jd<|?_
 refine Qe (r := r) (σ := (List UInt8)) (τ := Unit) (fun s => Jdf a0 a1 s) (fun s t => [(0, .bool a0), (3, pz b2), (5, str s)]) (fun s t => [Jn b2 [i6 a1.kad, str a1.kae, v1_2, v1_3, v1_4] 81]) (fun s t => True) ?_ ?_
 ·refine Jc<|Ja<|lf Tryz.runUnderlying81 rfl Tryz.sizeOf3 rfl<|ll 0 (i6 a1.kad) Tryz.isAgg3<|lv (Qd rfl rfl)<|Jd<|?_
  revert H
  refine ci (decide (a1.kad = 2)) rfl (fun hb H42=>?_) fun hb H44=>?_
  ·refine Ja<|mv (str a1.kae)<|?_
   obtain ⟨t16, h_t16, H43⟩ := Je H42; clear H42
   refine lv (Qw rfl rfl h_t16)<|ag (str t16)<|Jd<|?_
   exact cl t16 () 0 [0] (by exact ⟨H43, trivial⟩)
  ·refine Jh ?_
   exact cl a1.kae () 0 [0] (by exact ⟨H44, trivial⟩)
 ·rintro x5 _ gg H23 _
  try dsimp only at H23
  try dsimp only
  refine Qe (r := r) (σ := (List UInt8)) (τ := Unit) (fun s => Jdb a0 a1 s) (fun s t => [(0, .bool a0), (3, pz b2), (5, str s)]) (fun s t => [Jn b2 [i6 a1.kad, str a1.kae, v1_2, v1_3, v1_4] 81]) (fun s t => True) ?_ ?_
  ·refine Jc<|Ja<|lf Tryz.runUnderlying81 rfl Tryz.sizeOf76 rfl<|ll 0 v1_2 Tryz.isAgg76<|lv (Z8 Tryz.underlying76 rfl f1_2 rfl)<|mv (i6 0)<|Jd<|Jp<|?_
   refine Xu (σ := (List UInt8) × Int) (τ := Unit) (fun next4 s => Uz a0 a1 next4 s.1 s.2) (fun s t => [(0, .bool a0), (3, pz b2), (5, str s.1), (18, v1_2), (19, i6 (a1.kaf.length : Int)), (20, i6 s.2)]) (fun s t => [Jn b2 [i6 a1.kad, str a1.kae, v1_2, v1_3, v1_4] 81]) (fun s t => True) (x5, 0) () [0] H23 (by exact trivial) (by exact ⟨rfl, rfl, rfl, rfl, rfl, rfl, trivial⟩) (by decide) rfl ?_
   rintro ⟨x5_6, x20_2⟩ _ m4 gg H34 _
   clear H23
   try dsimp only at H34
   generalize hn4 : it (fun next4 s => Uz a0 a1 next4 s.1 s.2) m4 = next4 at H34
   try dsimp only
   refine Jc<|Ja<|lv (Xk rfl rfl)<|Jd<|Jc<|?_
   revert H34
   refine ci (decide (x20_2 < (a1.kaf.length : Int))) rfl (fun hb H35=>?_) fun hb H41=>?_
   ·refine Jh<|Jc<|Jp<|Jc<|Ja<|?_
    obtain ⟨t22, h_t22, H36⟩ := Je H35; clear H35
    refine lv (Q7 Tryz.underlying76 Tryz.sizeOf3 rfl rfl f1_2 h_t22)<|Qf (fun w hF hS => Qb (f := Qz) (i := x20_2) (sz := 1) (j := 0) (v := i6 t22) Tryz.isAgg3 rfl rfl (f1_2.row (hw.now hF)) h_t22 rfl) rfl rfl rfl<|ag (i6 t22)<|Jd<|Ja<|mv (str x5_6)<|mv (.bool a0)<|mv (i6 t22)<|lf Tryz.runUnderlying81 rfl Tryz.sizeOf3 rfl<|ll 0 (i6 a1.kad) Tryz.isAgg3<|?_
    obtain ⟨t29, h_t29, H37⟩ := Je H36; clear H36
    refine Qm (k70 h_t29) call70 rfl rfl rfl ?_
    obtain ⟨t30, h_t30, H38⟩ := Je H37; clear H37
    refine Qm (k37 h_t30) call37 rfl rfl rfl ?_
    obtain ⟨t31, h_t31, H39⟩ := Je H38; clear H38
    refine lv (Qw rfl rfl h_t31)<|ag (str t31)<|Jd<|Ja<|?_
    obtain ⟨t32, h_t32, H40⟩ := Je H39; clear H39
    refine lv (J8 rfl rfl h_t32)<|mv (i6 t32)<|Jd<|?_
    exact cl (t31, t32) () m4 [0] (by exact ⟨(by subst hn4; exact H40), trivial⟩)
   ·refine Qp ?_
    exact cl x5_6 () 0 [0] (by exact ⟨H41, trivial⟩)
  ·rintro x5_2 _ gg H24 _
   try dsimp only at H24
   try dsimp only
   refine Jc<|Jc<|Ja<|lf Tryz.runUnderlying81 rfl Tryz.sizeOf79 rfl<|ll 0 v1_3 Tryz.isAgg79<|lv (Z8 Tryz.underlying79 rfl f1_3 rfl)<|mv (i6 0)<|Jd<|Jp<|Ur 0<|?_
   try dsimp only [z1, z2, z3, z4, z5, z6, z7, z8]
   refine Xu (σ := (List UInt8) × Int) (τ := Unit) (fun next3 s => U1 a0 a1 next3 s.1 s.2) (fun s t => [(0, .bool a0), (5, str s.1), (34, v1_3), (35, i6 (a1.kac.length : Int)), (36, i6 s.2)]) (fun s t => []) (fun s t => True) (x5_2, 0) () [] H24 (by exact trivial) (by exact ⟨rfl, rfl, rfl, rfl, rfl, trivial⟩) (by decide) rfl ?_
   rintro ⟨x5_4, x36_2⟩ _ m3 gg H25 _
   clear H24
   try dsimp only at H25
   generalize hn3 : it (fun next3 s => U1 a0 a1 next3 s.1 s.2) m3 = next3 at H25
   try dsimp only
   refine Jc<|Ja<|lv (Xk rfl rfl)<|Jd<|Jc<|?_
   revert H25
   refine ci (decide (x36_2 < (a1.kac.length : Int))) rfl (fun hb H26=>?_) fun hb H33=>?_
   ·refine Jh<|Jc<|Jp<|Jc<|Ja<|?_
    obtain ⟨t38, h_t38, H27⟩ := Je H26; clear H26
    refine lv (Q7 Tryz.underlying79 Tryz.sizeOf70 rfl rfl f1_3 h_t38)<|Qf (fun w hF hS => Yl (f := Jl) (i := x36_2) (sz := 2) (j := 0) (vs := [i6 t38.Num, i6 t38.Den]) isAgg70 Tryz.sizeOf70 rfl rfl (f1_3.row (hw.now hF)) h_t38 rfl) rfl rfl rfl<|?_
    refine Xi (cs := [i6 0, i6 0]) zeroValue70 rfl rfl rfl (fun b3 => ?_)
    refine st (i := 0) [i6 t38.Num, i6 t38.Den] [i6 t38.Num, i6 t38.Den] Tryz.sizeOf70 rfl rfl<|Jd<|?_
    exact Qv (Kd.p :: Kd.p :: Kd.p :: Kd.d [0] _ :: Kd.d [] _ :: Kd.p :: Kd.p :: Kd.d [0] _ :: Kd.d [] _ :: Kd.p :: Kd.p :: Kd.p :: []) 0 mixed (by
     refine dm (str x5_4)<|dm (.bool a0)<|dv (Jr Tryz.runUnderlying70 rfl Tryz.sizeOf3 rfl rfl)<|dl (i6 t38.Num) Tryz.isAgg3<|?_
     have h_t44 := J4 H27
     have H28 := J0 H27
     refine Jb9 (k37 h_t44) call37 rfl rfl<|dm (.bool a0)<|dv (Jr Tryz.runUnderlying70 rfl Tryz.sizeOf3 rfl rfl)<|dl (i6 t38.Den) Tryz.isAgg3<|?_
     have h_t48 := J4 H28
     have H29 := J0 H28
     refine Jb9 (k37 h_t48) call37 rfl rfl ?_
     have h_t49 := J4 H29
     have H30 := J0 H29
     refine dv (Qw rfl rfl h_t49) ?_
     have h_t50 := J4 H30
     have H31 := J0 H30
     refine dv (Qw rfl rfl h_t50)<|Jq rfl rfl (Jg (v := str (val (Xh x5_4 (val (Xh (val (X8 a0 t38.Num 4)) (val (X8 a0 t38.Den 4))))))) rfl)<|X6<|Ja<|?_
     obtain ⟨t51, h_t51, H32⟩ := Je H31; clear H31
     refine lv (J8 rfl rfl h_t51)<|mv (i6 t51)<|Jd<|?_
     exact cl ((val (Xh x5_4 (val (Xh (val (X8 a0 t38.Num 4)) (val (X8 a0 t38.Den 4)))))), t51) () m3 [] (by exact ⟨(by subst hn3; exact H32), trivial⟩)
     ) (by kernel_rfl)
   ·refine Qp<|Jc<|Ja<|mv (str x5_4)<|ag (str x5_4)<|Jd<|Ji<|?_
    obtain rfl := sj H33
    exact r1 (str x5_4)
theorem k74 {a0 : Tb} {v0_2 : Value} {v0_3 : Value} {v0_4 : Value} {r : Int} {w : World} {h : Jw} (hw : Know h w Ys) (f0_2 : FrS h 1 v0_2 (a0.kaf.map Qz)) (f0_3 : FrS h 2 v0_3 (a0.kac.map Jl)) (f0_4 : FrN h 6 v0_4 g_tag_Entry a0.kab) (H : Jjh a0 = some r) : Does prog 74 (List.toArray [.agg #[i6 a0.kad, str a0.kae, v0_2, v0_3, v0_4]]) w (fun v w' => v = (i6 r) ∧ Grow w w') := by
 refine enter (n := 13) func74 rfl rfl rfl Ys [] (Sat.nil _ _)<|Jc<|Ja<|?_
 refine Vv (cs := [i6 a0.kad, str a0.kae, v0_2, v0_3, v0_4]) rfl rfl rfl rfl (fun b1 => ?_)
 refine ag (i6 0)<|Jd<|Jc<|Jc<|Ja<|lf Tryz.runUnderlying81 rfl Tryz.sizeOf3 rfl<|ll 0 (i6 a0.kad) Tryz.isAgg3<|lv (Qd rfl rfl)<|Jd<|?_
 revert H
 refine ci (decide (a0.kad = 13)) rfl (fun hb H6=>?_) fun hb H7=>?_
 ·refine Jc<|Ja<|ag (i6 1)<|Jd<|Ji<|?_
  obtain rfl := sj H6
  exact r1 (i6 1)
 ·refine Jh<|Jc<|?_
  exact Qv (Kd.d [0] _ :: Kd.d [] _ :: Kd.p :: Kd.p :: Kd.d [0] _ :: Kd.d [] _ :: Kd.p :: Kd.p :: []) 0 mixed (by
   refine Jfs (i := 0) (vs := [i6 a0.kad, str a0.kae, v0_2, v0_3, v0_4]) Tryz.isAgg81 Tryz.sizeOf81 rfl rfl rfl rfl ?_
   have h_t7 := J4 H7
   have H8 := J0 H7
   refine Je0 (fun w L' hF hS hi => k75 (Ju w) (f0_2.mono (hw.now hF)) (f0_3.mono (hw.now hF)) (f0_4.mono (hw.now hF)) h_t7) call75 rfl rfl<|dv (Xc Tryz.underlying9 rfl)<|dv (Jr Tryz.runUnderlying81 rfl Tryz.sizeOf3 rfl rfl)<|dl (i6 a0.kad) Tryz.isAgg3<|?_
   have h_t11 := J4 H8
   have H9 := J0 H8
   refine Jb9 (k70 h_t11) call70 rfl rfl ?_
   have h_t12 := J4 H9
   have H10 := J0 H9
   refine dv (r_quoG rfl rfl h_t12)<|Jq rfl rfl (Jg (v := i6 (val (gQuo ((val (Zz false a0)).length : Int) (val (Jgk a0.kad))))) rfl)<|X6<|Ji<|?_
   obtain rfl := sj H10
   exact r1 (i6 (val (gQuo ((val (Zz false a0)).length : Int) (val (Jgk a0.kad)))))
   ) (by kernel_rfl)
theorem k38_it (mm : Nat) : ∀ {a0 : Te} {pb0 : Nat} {a1 : (List Ta)} {v1 : Value} {r : Int × Te} {w : World} {h : Jw} {S : Nat → Prop} (hcs : (Jn pb0 [str a0.s_, .bool a0.kaa] 87).P S w) (hlt : ∀ b, S b → b < w.heap.size) (hw : Know h w S) (f1 : FrN h 6 v1 g_tag_Entry a1) (H : it (fun (self : (Te × (List Ta)) → Option (Int × Te)) (s : Te × (List Ta)) => Yq self s.1 s.2) mm (a0, a1) = some r), Does prog 38 (List.toArray [pz pb0, v1]) w (fun v w' => ∃ x : Unit, v = (i6 r.1) ∧ Turn w w' S (Jn pb0 [str r.2.s_, .bool r.2.kaa] 87)) := by
 induction mm with
 | zero => intros; rename_i H; exact absurd H (by simp [it])
 | succ mm ih =>
  intro a0 pb0 a1 v1 r w h S hcs hlt hw f1 H
  replace H : Yq (it (fun (self : (Te × (List Ta)) → Option (Int × Te)) (s : Te × (List Ta)) => Yq self s.1 s.2) mm) a0 a1 = some r := H
  generalize it (fun (self : (Te × (List Ta)) → Option (Int × Te)) (s : Te × (List Ta)) => Yq self s.1 s.2) mm = self at H ih
  refine enter (n := 109) func38 rfl rfl rfl S [Jn pb0 [str a0.s_, .bool a0.kaa] 87] (Sat.one hcs hlt)<|Jc<|Ja<|ag (i6 0)<|Jd<|Jc<|Ja<|mv (pz pb0)<|mv v1<|lv (Xw Tryz.underlying41 rfl f1)<|?_
  obtain ⟨t13, h_t13, H40⟩ := Je H; clear H
  refine lv (Jhj rfl rfl h_t13) ?_
  obtain ⟨t14, h_t14, H41⟩ := Je H40; clear H40
  refine lv (J8 rfl rfl h_t14) ?_
  obtain ⟨t15, h_t15, H42⟩ := Je H41; clear H41
  refine lv (J8 rfl rfl h_t15) ?_
  obtain ⟨t16, h_t16, H43⟩ := Je H42; clear H42
  refine Qm (k40 h_t16) call40 rfl rfl rfl ?_
  obtain ⟨t17, h_t17, H44⟩ := Je H43; clear H43
  refine Q1 (Qa (i := 0) (rds := []) (G := fun x : Unit => i6 t17.1) (C := fun x : Unit => Jn pb0 [str t17.2.s_, .bool t17.2.kaa] 87) rfl (fun w L' S hF hS hi hp hlt ho hA => k73 hp hlt (Xm w S)  h_t17) call73 rfl) rfl rfl rfl (fun _ => ?_)
  refine ag (i6 t17.1)<|Jd<|Jc<|Ja<|mv (pz pb0)<|mv (i6 t17.1)<|mv v1<|lv (Xw Tryz.underlying41 rfl f1)<|?_
  obtain ⟨t22, h_t22, H45⟩ := Je H44; clear H44
  refine Q1 (Qa (i := 0) (rds := []) (G := fun x : Unit => .tuple #[]) (C := fun x : Unit => Jn pb0 [str t22.s_, .bool t22.kaa] 87) rfl (fun w L' S hF hS hi hp hlt ho hA => k39 hp hlt (Xm w S)  h_t22) call39 rfl) rfl rfl rfl (fun _ => ?_)
  refine Jd<|Jc<|Jc<|Ja<|mv v1<|lv (Xw Tryz.underlying41 rfl f1)<|mv (i6 0)<|Jd<|Jp<|?_
  refine Xu (σ := Int × (List UInt8) × Bool) (τ := Unit) (fun next1 s => Zm a1 self t17 next1 s.1 s.2.1 s.2.2) (fun s t => [(0, pz pb0), (5, i6 t17.1), (23, v1), (24, i6 (a1.length : Int)), (25, i6 s.1)]) (fun s t => [Jn pb0 [str s.2.1, .bool s.2.2] 87]) (fun s t => True) (0, t22.s_, t22.kaa) () [0] H45 (by exact trivial) (by exact ⟨rfl, rfl, rfl, rfl, rfl, trivial⟩) (by decide) rfl ?_
  rintro ⟨x25_2, m_3, m_4⟩ _ m1 gg H46 _
  clear H45
  try dsimp only at H46
  generalize hn1 : it (fun next1 s => Zm a1 self t17 next1 s.1 s.2.1 s.2.2) m1 = next1 at H46
  try dsimp only
  refine Jc<|Ja<|lv (Xk rfl rfl)<|Jd<|Jc<|?_
  revert H46
  refine ci (decide (x25_2 < (a1.length : Int))) rfl (fun hb H47=>?_) fun hb H78=>?_
  ·refine Jh ?_
   refine Qe (r := r) (σ := (List UInt8) × Bool) (τ := Unit) (fun s => V4 x25_2 next1 s.1 s.2) (fun s t => [(0, pz pb0), (5, i6 t17.1), (23, v1), (24, i6 (a1.length : Int)), (25, i6 x25_2)]) (fun s t => [Jn pb0 [str s.1, .bool s.2] 87]) (fun s t => True) ?_ ?_
   ·refine Jp<|Jc<|Ja<|mv (i6 x25_2)<|?_
    obtain ⟨t28, h_t28, H50⟩ := Je H47; clear H47
    refine lv (Q7 Tryz.underlying41 Tryz.sizeOf83 rfl rfl f1.frs (f1.ix h_t28))<|Qf (fun w hF hS => Yl (f := (elC h v1 6)) (i := x25_2) (sz := 6) (j := 0) (vs := [i6 t28.Tag, i6 t28.Value.kad, str t28.Value.kae, (Qq h v1 6 (Int.toNat x25_2) 3), (Qq h v1 6 (Int.toNat x25_2) 4), (Qq h v1 6 (Int.toNat x25_2) 5)]) isAgg83 Tryz.sizeOf83 rfl rfl (f1.frs.row (hw.now hF)) (f1.ix h_t28) (rd_of (Zt (f1.at h_t28)) rfl)) rfl rfl rfl<|?_
    refine Xi (cs := [i6 0, i6 0, str [], z0s, z0s, z0s]) zeroValue83 rfl rfl rfl (fun b1 => ?_)
    refine ag (i6 x25_2)<|Qu (i := 1) (vs := [i6 t28.Tag, i6 t28.Value.kad, str t28.Value.kae, (Qq h v1 6 (Int.toNat x25_2) 3), (Qq h v1 6 (Int.toNat x25_2) 4), (Qq h v1 6 (Int.toNat x25_2) 5)]) (cs' := [i6 t28.Tag, i6 t28.Value.kad, str t28.Value.kae, (Qq h v1 6 (Int.toNat x25_2) 3), (Qq h v1 6 (Int.toNat x25_2) 4), (Qq h v1 6 (Int.toNat x25_2) 5)]) Tryz.sizeOf83 rfl rfl rfl rfl rfl rfl (by simp only [List.all_cons, List.all_nil, (show FrN h 6 (Qq h v1 6 (Int.toNat x25_2) 5) g_tag_Entry t28.Value.kab from (J6 (Jj (f1.at h_t28)))).one, (show FrS h 1 (Qq h v1 6 (Int.toNat x25_2) 3) (t28.Value.kaf.map Qz) from (Qi (Jj (f1.at h_t28)))).one, (show FrS h 2 (Qq h v1 6 (Int.toNat x25_2) 4) (t28.Value.kac.map Jl) from (Qj (Jj (f1.at h_t28)))).one] <;> rfl) rfl rfl<|Jd<|Jc<|Ja<|mv (i6 t17.1)<|?_
    obtain ⟨t31, h_t31, H51⟩ := Je H50; clear H50
    refine lv (J8 rfl rfl h_t31)<|mv (i6 x25_2)<|?_
    obtain ⟨t33, h_t33, H52⟩ := Je H51; clear H51
    refine lv (Jhj rfl rfl h_t33) ?_
    obtain ⟨t34, h_t34, H53⟩ := Je H52; clear H52
    refine lv (J8 rfl rfl h_t34)<|ag (i6 t34)<|Jd<|Jc<|Ja<|mv (pz pb0)<|mv (i6 t34)<|lf Tryz.runUnderlying83 rfl Tryz.sizeOf3 rfl<|ll 1 (i6 t28.Tag) Tryz.isAgg3<|?_
    obtain ⟨t39, h_t39, H54⟩ := Je H53; clear H53
    refine Q1 (Qa (i := 0) (rds := []) (G := fun x : Unit => .tuple #[]) (C := fun x : Unit => Jn pb0 [str t39.s_, .bool t39.kaa] 87) rfl (fun w L' S hF hS hi hp hlt ho hA => k39 (a0 := (⟨m_3, m_4⟩ : Te)) hp hlt (Xm w S)  h_t39) call39 rfl) rfl rfl rfl (fun _ => ?_)
    refine Jd<|Jc<|Ja<|mv (pz pb0)<|mv (i6 t34)<|?_
    obtain ⟨t42, h_t42, H55⟩ := Je H54; clear H54
    refine lv (J8 rfl rfl h_t42)<|lf Tryz.runUnderlying83 rfl Tryz.sizeOf81 rfl<|lf Tryz.runUnderlying81 rfl Tryz.sizeOf3 rfl<|ll 1 (i6 t28.Value.kad) Tryz.isAgg3<|?_
    obtain ⟨t46, h_t46, H56⟩ := Je H55; clear H55
    refine Q1 (Qa (i := 0) (rds := []) (G := fun x : Unit => .tuple #[]) (C := fun x : Unit => Jn pb0 [str t46.s_, .bool t46.kaa] 87) rfl (fun w L' S hF hS hi hp hlt ho hA => k39 hp hlt (Xm w S)  h_t46) call39 rfl) rfl rfl rfl (fun _ => ?_)
    refine Jd<|Jc<|Ja<|mv (pz pb0)<|mv (i6 t34)<|?_
    obtain ⟨t49, h_t49, H57⟩ := Je H56; clear H56
    refine lv (J8 rfl rfl h_t49)<|lf Tryz.runUnderlying83 rfl Tryz.sizeOf81 rfl<|Q0 (i := 1) (vs := [i6 t28.Value.kad, str t28.Value.kae, (Qq h v1 6 (Int.toNat x25_2) 3), (Qq h v1 6 (Int.toNat x25_2) 4), (Qq h v1 6 (Int.toNat x25_2) 5)]) Tryz.isAgg81 Tryz.sizeOf81 rfl rfl rfl rfl rfl<|?_
    obtain ⟨t52, h_t52, H58⟩ := Je H57; clear H57
    refine Qt (fun w hF hS => k74 (Ju w) ((show FrS h 1 (Qq h v1 6 (Int.toNat x25_2) 3) (t28.Value.kaf.map Qz) from (Qi (Jj (f1.at h_t28)))).mono (hw.now hF)) ((show FrS h 2 (Qq h v1 6 (Int.toNat x25_2) 4) (t28.Value.kac.map Jl) from (Qj (Jj (f1.at h_t28)))).mono (hw.now hF)) ((show FrN h 6 (Qq h v1 6 (Int.toNat x25_2) 5) g_tag_Entry t28.Value.kab from (J6 (Jj (f1.at h_t28)))).mono (hw.now hF)) h_t52) call74 rfl rfl rfl ?_
    obtain ⟨t53, h_t53, H59⟩ := Je H58; clear H58
    refine Q1 (Qa (i := 0) (rds := []) (G := fun x : Unit => .tuple #[]) (C := fun x : Unit => Jn pb0 [str t53.s_, .bool t53.kaa] 87) rfl (fun w L' S hF hS hi hp hlt ho hA => k39 hp hlt (Xm w S)  h_t53) call39 rfl) rfl rfl rfl (fun _ => ?_)
    refine Jd<|Jc<|Jc<|Ja<|lf Tryz.runUnderlying83 rfl Tryz.sizeOf81 rfl<|lf Tryz.runUnderlying81 rfl Tryz.sizeOf3 rfl<|ll 1 (i6 t28.Value.kad) Tryz.isAgg3<|lv (Qd rfl rfl)<|Jd<|?_
    revert H59
    refine ci (decide (t28.Value.kad = 13)) rfl (fun hb H60=>?_) fun hb H64=>?_
    ·refine Jc<|Ja<|mv (pz pb0)<|mv (i6 t34)<|?_
     obtain ⟨t60, h_t60, H61⟩ := Je H60; clear H60
     refine lv (J8 rfl rfl h_t60)<|mv (pz pb0)<|lf Tryz.runUnderlying83 rfl Tryz.sizeOf81 rfl<|lf Tryz.runUnderlying81 rfl Tryz.sizeOf41 rfl<|ll 1 (Qq h v1 6 (Int.toNat x25_2) 5) Tryz.isAgg41<|?_
     obtain ⟨t65, h_t65, H62⟩ := Je H61; clear H61
     refine Q1 (Qa (i := 0) (rds := []) (G := fun x : Unit => i6 t65.1) (C := fun x : Unit => Jn pb0 [str t65.2.s_, .bool t65.2.kaa] 87) rfl (fun w L' S hF hS hi hp hlt ho hA => ih hp hlt (Xm w S) ((show FrN h 6 (Qq h v1 6 (Int.toNat x25_2) 5) g_tag_Entry t28.Value.kab from (J6 (Jj (f1.at h_t28)))).mono (hw.but hF ho)) h_t65) call38 rfl) rfl rfl rfl (fun _ => ?_)
     obtain ⟨t66, h_t66, H63⟩ := Je H62; clear H62
     refine Q1 (Qa (i := 0) (rds := []) (G := fun x : Unit => .tuple #[]) (C := fun x : Unit => Jn pb0 [str t66.s_, .bool t66.kaa] 87) rfl (fun w L' S hF hS hi hp hlt ho hA => k39 hp hlt (Xm w S)  h_t66) call39 rfl) rfl rfl rfl (fun _ => ?_)
     refine Jd<|Qp<|?_
     exact cl (t66.s_, t66.kaa) () 0 [0] (by exact ⟨H63, trivial⟩)
    ·refine Jh<|Jc<|?_
     exact Qv (Kd.p :: Kd.p :: Kd.p :: Kd.d [0] _ :: Kd.p :: Kd.d [1] _ :: Kd.d [] _ :: Kd.p :: []) 0 mixed (by
      refine dm (pz pb0)<|dv (Jm rfl)<|dv (Jr Tryz.runUnderlying87 rfl sizeOf4 rfl rfl)<|dl (.bool t53.kaa) isAgg4<|dv (Jr Tryz.runUnderlying83 rfl Tryz.sizeOf81 rfl rfl)<|Jfs (i := 1) (vs := [i6 t28.Value.kad, str t28.Value.kae, (Qq h v1 6 (Int.toNat x25_2) 3), (Qq h v1 6 (Int.toNat x25_2) 4), (Qq h v1 6 (Int.toNat x25_2) 5)]) Tryz.isAgg81 Tryz.sizeOf81 rfl rfl rfl rfl<|?_
      have h_t73 := J4 H64
      have H65 := J0 H64
      refine Je0 (fun w L' hF hS hi => k75 (Ju w) ((show FrS h 1 (Qq h v1 6 (Int.toNat x25_2) 3) (t28.Value.kaf.map Qz) from (Qi (Jj (f1.at h_t28)))).mono (hw.now hF)) ((show FrS h 2 (Qq h v1 6 (Int.toNat x25_2) 4) (t28.Value.kac.map Jl) from (Qj (Jj (f1.at h_t28)))).mono (hw.now hF)) ((show FrN h 6 (Qq h v1 6 (Int.toNat x25_2) 5) g_tag_Entry t28.Value.kab from (J6 (Jj (f1.at h_t28)))).mono (hw.now hF)) h_t73) call75 rfl rfl<|Jq rfl rfl (Jg (v := str (val (Zz t53.kaa t28.Value))) rfl)<|X6<|Jc<|Jc<|Ja<|mv (str (val (Zz t53.kaa t28.Value)))<|lv (Xc Tryz.underlying9 rfl)<|lv (Ye rfl rfl)<|Jd<|?_
      revert H65
      refine ci (decide (4 < ((val (Zz t53.kaa t28.Value)).length : Int))) rfl (fun hb H66=>?_) fun hb H70=>?_
      ·refine Jc<|Ja<|mv (pz pb0)<|mv (i6 t34)<|?_
       obtain ⟨t79, h_t79, H67⟩ := Je H66; clear H66
       refine lv (J8 rfl rfl h_t79)<|mv (pz pb0)<|mv (str (val (Zz t53.kaa t28.Value)))<|?_
       obtain ⟨t82, h_t82, H68⟩ := Je H67; clear H67
       refine Q1 (Qa (i := 0) (rds := []) (G := fun x : Unit => i6 t82.1) (C := fun x : Unit => Jn pb0 [str t82.2.s_, .bool t82.2.kaa] 87) rfl (fun w L' S hF hS hi hp hlt ho hA => k73 hp hlt (Xm w S)  h_t82) call73 rfl) rfl rfl rfl (fun _ => ?_)
       obtain ⟨t83, h_t83, H69⟩ := Je H68; clear H68
       refine Q1 (Qa (i := 0) (rds := []) (G := fun x : Unit => .tuple #[]) (C := fun x : Unit => Jn pb0 [str t83.s_, .bool t83.kaa] 87) rfl (fun w L' S hF hS hi hp hlt ho hA => k39 hp hlt (Xm w S)  h_t83) call39 rfl) rfl rfl rfl (fun _ => ?_)
       refine Jd<|Qp<|?_
       exact cl (t83.s_, t83.kaa) () 0 [0] (by exact ⟨H69, trivial⟩)
      ·refine Jh ?_
       exact Qv (Kd.p :: Kd.p :: Kd.p :: Kd.p :: Kd.d [0] _ :: Kd.p :: Kd.p :: Kd.p :: Kd.p :: Kd.p :: Kd.p :: Kd.p :: Kd.p :: Kd.d [0] _ :: Kd.p :: Kd.p :: Kd.p :: Kd.p :: Kd.p :: Kd.p :: Kd.p :: Kd.p :: Kd.p :: Kd.st 106 0 [_, _] 87 :: []) 0 mixed (by
        refine dm (pz pb0)<|dm (pz pb0)<|dv (Jm rfl)<|dv (Jr Tryz.runUnderlying87 rfl Tryz.sizeOf9 rfl rfl)<|dl (str t53.s_) Tryz.isAgg9<|dm (i6 t34)<|?_
        have h_t90 := J4 H70
        have H71 := J0 H70
        refine dv (J8 rfl rfl h_t90) ?_
        have h_t91 := J4 H71
        have H72 := J0 H71
        refine dv (Jco Tryz.underlying9 rfl rfl h_t91)<|dm (str (val (Zz t53.kaa t28.Value)))<|?_
        have h_t93 := J4 H72
        have H73 := J0 H72
        refine dv (Qw rfl rfl h_t93)<|dm (pz pb0)<|dv (Jm rfl)<|dv (Jr Tryz.runUnderlying87 rfl Tryz.sizeOf9 rfl rfl)<|dl (str t53.s_) Tryz.isAgg9<|dm (i6 t34)<|?_
        have h_t99 := J4 H73
        have H74 := J0 H73
        refine dv (J8 rfl rfl h_t99)<|dm (str (val (Zz t53.kaa t28.Value)))<|dv (Xc Tryz.underlying9 rfl)<|?_
        have h_t102 := J4 H74
        have H75 := J0 H74
        refine dv (J8 rfl rfl h_t102) ?_
        have h_t103 := J4 H75
        have H76 := J0 H75
        refine dv (Zi Tryz.underlying9 rfl rfl h_t103) ?_
        have h_t104 := J4 H76
        have H77 := J0 H76
        refine dv (Qw rfl rfl h_t104)<|dv (Jm rfl)<|dv (Jr Tryz.runUnderlying87 rfl Tryz.sizeOf9 rfl rfl)<|Jgz (i := 0) (vs := [str (val (Xh (val (Xh (val (Xx t53.s_ 0 (val (gI (t34 + 8))))) (val (Zz t53.kaa t28.Value)))) (val (Xx t53.s_ (val (gI ((val (gI (t34 + 8))) + ((val (Zz t53.kaa t28.Value)).length : Int)))) t53.s_.length))))]) (cs' := [str (val (Xh (val (Xh (val (Xx t53.s_ 0 (val (gI (t34 + 8))))) (val (Zz t53.kaa t28.Value)))) (val (Xx t53.s_ (val (gI ((val (gI (t34 + 8))) + ((val (Zz t53.kaa t28.Value)).length : Int)))) t53.s_.length)))), .bool t53.kaa]) Tryz.sizeOf9 rfl rfl rfl rfl rfl rfl rfl rfl rfl<|X6<|?_
        exact cl ((val (Xh (val (Xh (val (Xx t53.s_ 0 (val (gI (t34 + 8))))) (val (Zz t53.kaa t28.Value)))) (val (Xx t53.s_ (val (gI ((val (gI (t34 + 8))) + ((val (Zz t53.kaa t28.Value)).length : Int)))) t53.s_.length)))), t53.kaa) () 0 [0] (by exact ⟨H77, trivial⟩)
        ) (by kernel_rfl)
      ) (by kernel_rfl)
   ·rintro ⟨m_5, m_6⟩ _ gg H48 _
    try dsimp only at H48
    try dsimp only
    refine Ja ?_
    obtain ⟨t107, h_t107, H49⟩ := Je H48; clear H48
    refine lv (J8 rfl rfl h_t107)<|mv (i6 t107)<|Jd<|?_
    exact cl (t107, m_5, m_6) () m1 [0] (by exact ⟨(by subst hn1; exact H49), trivial⟩)
  ·refine Qp<|Jc<|Ja<|mv (i6 t17.1)<|ag (i6 t17.1)<|Jd<|Ji<|?_
   obtain rfl := sj H78
   refine Ja1 (v := i6 t17.1) rfl rfl (Yg () (i := 0) rfl rfl (Imp.refl _))
theorem k38 {a0 : Te} {pb0 : Nat} {a1 : (List Ta)} {v1 : Value} {r : Int × Te} {w : World} {h : Jw} {S : Nat → Prop} (hcs : (Jn pb0 [str a0.s_, .bool a0.kaa] 87).P S w) (hlt : ∀ b, S b → b < w.heap.size) (hw : Know h w S) (f1 : FrN h 6 v1 g_tag_Entry a1) (H : Jc9 a0 a1 = some r) : Does prog 38 (List.toArray [pz pb0, v1]) w (fun v w' => ∃ x : Unit, v = (i6 r.1) ∧ Turn w w' S (Jn pb0 [str r.2.s_, .bool r.2.kaa] 87)) := by
 obtain ⟨mm, hm⟩ := Jfz (show Yz (fun (self : (Te × (List Ta)) → Option (Int × Te)) (s : Te × (List Ta)) => Yq self s.1 s.2) (a0, a1) = some r from H)
 exact k38_it mm hcs hlt hw f1 hm
theorem k18 {a0 : Td} {v0_1 : Value} {r : (List UInt8)} {w : World} {h : Jw} (hw : Know h w Ys) (f0_1 : FrN h 1 v0_1 gs_tag_Entry a0.kag) (H : Jhr a0 = some r) : Does prog 18 (List.toArray [.agg #[.bool a0.Big, v0_1]]) w (fun v w' => v = (str r) ∧ Grow w w') := by
 refine enter (n := 59) func18 rfl rfl rfl Ys [] (Sat.nil _ _)<|Jc<|Ja<|?_
 refine Vv (cs := [.bool a0.Big, v0_1]) rfl rfl rfl rfl (fun b2 => ?_)
 refine ag (str [])<|Jd<|Jc<|Ja<|lf Tryz.runUnderlying24 rfl sizeOf4 rfl<|ll 0 (.bool a0.Big) isAgg4<|lv (Yi (pl := #[(0, 1), (1, 1)]) (ps := [(1, .bool a0.Big)]) (cells := #[str [], .bool a0.Big]) zeroValue87 Tryz.runUnderlying87 (fun w => by kernel_rfl) rfl rfl)<|?_
 refine Vv (cs := [str [], .bool a0.Big]) rfl rfl rfl rfl (fun b3 => ?_)
 refine ag (pz b3)<|Jd<|Jc<|Ja<|mv (pz b3)<|lv (Jm rfl)<|lf Tryz.runUnderlying87 rfl Tryz.sizeOf9 rfl<|st (i := 1) [str [73, 73]] [str [73, 73], .bool a0.Big] Tryz.sizeOf9 rfl rfl<|Jd<|?_
 refine Qe (r := r) (σ := (List UInt8)) (τ := Unit) (fun s => Jdc a0 s) (fun s t => [(1, pz b2), (3, pz b3)]) (fun s t => [Jn b2 [.bool a0.Big, v0_1] 24, Jn b3 [str s, .bool a0.Big] 87]) (fun s t => True) ?_ ?_
 ·refine Jc<|Ja<|lf Tryz.runUnderlying24 rfl sizeOf4 rfl<|ll 0 (.bool a0.Big) isAgg4<|Jd<|?_
  revert H
  refine ci (a0.Big) rfl (fun hb H35=>?_) fun hb H36=>?_
  ·refine Ja<|mv (pz b3)<|lv (Jm rfl)<|lf Tryz.runUnderlying87 rfl Tryz.sizeOf9 rfl<|st (i := 1) [str [77, 77]] [str [77, 77], .bool a0.Big] Tryz.sizeOf9 rfl rfl<|Jd<|?_
   exact cl [77, 77] () 0 [0, 1] (by exact ⟨H35, trivial⟩)
  ·refine Jh ?_
   exact cl [73, 73] () 0 [0, 1] (by exact ⟨H36, trivial⟩)
 ·rintro m _ gg H19 _
  try dsimp only at H19
  try dsimp only
  refine Jc ?_
  exact Qv (Kd.p :: Kd.p :: Kd.p :: Kd.d [1] _ :: Kd.p :: Kd.d [0] _ :: Kd.d [] _ :: Kd.p :: Kd.d [0] _ :: Kd.d [] _ :: Kd.p :: Kd.p :: Kd.p :: Kd.p :: Kd.st 33 1 [_, _] 87 :: []) 0 mixed (by
   refine dm (pz b3)<|dv (Jm rfl)<|dv (Jr Tryz.runUnderlying87 rfl Tryz.sizeOf9 rfl rfl)<|dl (str m) Tryz.isAgg9<|dv (Jr Tryz.runUnderlying24 rfl sizeOf4 rfl rfl)<|dl (.bool a0.Big) isAgg4<|?_
   have h_t26 := J4 H19
   have H20 := J0 H19
   refine Jb9 (k37 h_t26) call37 rfl rfl<|dv (Jr Tryz.runUnderlying24 rfl sizeOf4 rfl rfl)<|dl (.bool a0.Big) isAgg4<|?_
   have h_t29 := J4 H20
   have H21 := J0 H20
   refine Jb9 (k37 h_t29) call37 rfl rfl ?_
   have h_t30 := J4 H21
   have H22 := J0 H21
   refine dv (Qw rfl rfl h_t30) ?_
   have h_t31 := J4 H22
   have H23 := J0 H22
   refine dv (Qw rfl rfl h_t31)<|dv (Jm rfl)<|dv (Jr Tryz.runUnderlying87 rfl Tryz.sizeOf9 rfl rfl)<|Jgz (i := 1) (vs := [str (val (Xh m (val (Xh (val (X8 a0.Big 42 2)) (val (X8 a0.Big 0 4))))))]) (cs' := [str (val (Xh m (val (Xh (val (X8 a0.Big 42 2)) (val (X8 a0.Big 0 4)))))), .bool a0.Big]) Tryz.sizeOf9 rfl rfl rfl rfl rfl rfl rfl rfl rfl<|X6<|Jc<|Ja<|ag (i6 4)<|Jd<|?_
   refine Qe (r := r) (σ := (List UInt8) × Bool) (τ := Unit) (fun s => Ji9 s.1 s.2) (fun s t => [(3, pz b3)]) (fun s t => [Jn b3 [str s.1, .bool s.2] 87]) (fun s t => True) ?_ ?_
   ·refine Jc<|Ja<|lf Tryz.runUnderlying24 rfl sizeOf22 rfl<|ll 0 v0_1 isAgg22<|lv (Xw Tryz.underlying22 rfl f0_1)<|mv (i6 0)<|Jd<|Jp<|Ur 0<|?_
    try dsimp only [z1, z2, z3, z4, z5, z6, z7, z8]
    refine Xu (σ := Int × Int × (List UInt8) × Bool) (τ := Unit) (fun next3 s => U2 a0 next3 s.1 s.2.1 s.2.2.1 s.2.2.2) (fun s t => [(3, pz b3), (4, i6 s.1), (35, v0_1), (36, i6 (a0.kag.length : Int)), (37, i6 s.2.1)]) (fun s t => [Jn b3 [str s.2.2.1, .bool s.2.2.2] 87]) (fun s t => True) (4, 0, (val (Xh m (val (Xh (val (X8 a0.Big 42 2)) (val (X8 a0.Big 0 4)))))), a0.Big) () [0] H23 (by exact trivial) (by exact ⟨rfl, rfl, rfl, rfl, rfl, trivial⟩) (by decide) rfl ?_
    rintro ⟨x4_2, x37_2, m_6, m_7⟩ _ m3 gg H25 _
    clear H23
    try dsimp only at H25
    generalize hn3 : it (fun next3 s => U2 a0 next3 s.1 s.2.1 s.2.2.1 s.2.2.2) m3 = next3 at H25
    try dsimp only
    refine Jc<|Ja<|lv (Xk rfl rfl)<|Jd<|Jc<|?_
    revert H25
    refine ci (decide (x37_2 < (a0.kag.length : Int))) rfl (fun hb H26=>?_) fun hb H34=>?_
    ·refine Jh<|Jc<|Jp<|Jc<|Ja<|?_
     obtain ⟨t39, h_t39, H27⟩ := Je H26; clear H26
     refine lv (Q7 Tryz.underlying22 Tryz.sizeOf41 rfl rfl f0_1.frs (f0_1.ix h_t39))<|Qf (fun w hF hS => Qb (f := (elC h v0_1 1)) (i := x37_2) (sz := 1) (j := 0) (v := (Qq h v0_1 1 (Int.toNat x37_2) 0)) Tryz.isAgg41 rfl rfl (f0_1.frs.row (hw.now hF)) (f0_1.ix h_t39) (Jgi (Vd (f0_1.at h_t39)) rfl)) rfl rfl rfl<|ag ((Qq h v0_1 1 (Int.toNat x37_2) 0))<|Jd<|Jc<|Ja<|mv (pz b3)<|mv ((Qq h v0_1 1 (Int.toNat x37_2) 0))<|?_
     obtain ⟨t43, h_t43, H28⟩ := Je H27; clear H27
     refine Q1 (Qa (i := 0) (rds := []) (G := fun x : Unit => i6 t43.1) (C := fun x : Unit => Jn b3 [str t43.2.s_, .bool t43.2.kaa] 87) rfl (fun w L' S hF hS hi hp hlt ho hA => k38 (a0 := (⟨m_6, m_7⟩ : Te)) hp hlt (Xm w S) ((show FrN h 6 (Qq h v0_1 1 (Int.toNat x37_2) 0) g_tag_Entry t39 from (f0_1.at h_t39)).mono (hw.but hF ho)) h_t43) call38 rfl) rfl rfl rfl (fun _ => ?_)
     refine ag (i6 t43.1)<|Jd<|Jc<|Ja<|mv (pz b3)<|mv (i6 x4_2)<|mv (i6 t43.1)<|?_
     obtain ⟨t47, h_t47, H29⟩ := Je H28; clear H28
     refine Q1 (Qa (i := 0) (rds := []) (G := fun x : Unit => .tuple #[]) (C := fun x : Unit => Jn b3 [str t47.s_, .bool t47.kaa] 87) rfl (fun w L' S hF hS hi hp hlt ho hA => k39 hp hlt (Xm w S)  h_t47) call39 rfl) rfl rfl rfl (fun _ => ?_)
     refine Jd<|Ja<|mv (i6 t43.1)<|?_
     obtain ⟨t49, h_t49, H30⟩ := Je H29; clear H29
     refine lv (J8 rfl rfl h_t49)<|mv ((Qq h v0_1 1 (Int.toNat x37_2) 0))<|lv (Xw Tryz.underlying41 rfl (show FrN h 6 (Qq h v0_1 1 (Int.toNat x37_2) 0) g_tag_Entry t39 from (f0_1.at h_t39)))<|?_
     obtain ⟨t52, h_t52, H31⟩ := Je H30; clear H30
     refine lv (Jhj rfl rfl h_t52) ?_
     obtain ⟨t53, h_t53, H32⟩ := Je H31; clear H31
     refine lv (J8 rfl rfl h_t53)<|ag (i6 t53)<|Jd<|Ja<|?_
     obtain ⟨t54, h_t54, H33⟩ := Je H32; clear H32
     refine lv (J8 rfl rfl h_t54)<|mv (i6 t54)<|Jd<|?_
     exact cl (t53, t54, t47.s_, t47.kaa) () m3 [0] (by exact ⟨(by subst hn3; exact H33), trivial⟩)
    ·refine Qp ?_
     exact cl (m_6, m_7) () 0 [0] (by exact ⟨H34, trivial⟩)
   ·rintro ⟨m_2, m_3⟩ _ gg H24 _
    try dsimp only at H24
    try dsimp only
    refine Jc<|Ja<|mv (pz b3)<|lv (Jm rfl)<|lf Tryz.runUnderlying87 rfl Tryz.sizeOf9 rfl<|ll 0 (str m_2) Tryz.isAgg9<|ag (str m_2)<|Jd<|Ji<|?_
    obtain rfl := sj H24
    exact r1 (str m_2)
   ) (by kernel_rfl)
theorem k5 {a0 : Td} {v0_1 : Value} {r : Int} {w : World} {h : Jw} (hw : Know h w Ys) (f0_1 : FrN h 1 v0_1 gs_tag_Entry a0.kag) (H : Uy a0 = some r) : Does prog 5 (List.toArray [.agg #[.bool a0.Big, v0_1]]) w (fun v w' => v = (i6 r) ∧ Grow w w') := by
 refine enter (n := 27) func5 rfl rfl rfl Ys [] (Sat.nil _ _)<|Jc<|Ja<|?_
 refine Vv (cs := [.bool a0.Big, v0_1]) rfl rfl rfl rfl (fun b1 => ?_)
 refine ag (i6 0)<|Jd<|Jc<|Jc<|Ja<|lf Tryz.runUnderlying24 rfl sizeOf22 rfl<|ll 0 v0_1 isAgg22<|lv (Xw Tryz.underlying22 rfl f0_1)<|lv (Ye rfl rfl)<|Jd<|?_
 revert H
 refine ci (decide (20 < (a0.kag.length : Int))) rfl (fun hb H15=>?_) fun hb H16=>?_
 ·refine Jc<|Ja<|ag (i6 4)<|Jd<|Ji<|?_
  obtain rfl := sj H15
  exact r1 (i6 4)
 ·refine Jh ?_
  refine Qe (r := r) (σ := Unit) (τ := Unit) (fun s => Jel a0) (fun s t => [(1, pz b1)]) (fun s t => [Jn b1 [.bool a0.Big, v0_1] 24]) (fun s t => True) ?_ ?_
  ·refine Jc<|Ja<|lf Tryz.runUnderlying24 rfl sizeOf22 rfl<|ll 0 v0_1 isAgg22<|lv (Xw Tryz.underlying22 rfl f0_1)<|mv (i6 0)<|Jd<|Jp<|?_
   refine Xu (σ := Int) (τ := Unit) (fun next2 s => Vg a0 next2 s) (fun s t => [(1, pz b1), (11, v0_1), (12, i6 (a0.kag.length : Int)), (13, i6 s)]) (fun s t => [Jn b1 [.bool a0.Big, v0_1] 24]) (fun s t => True) 0 () [0] H16 (by exact trivial) (by exact ⟨rfl, rfl, rfl, rfl, trivial⟩) (by decide) rfl ?_
   rintro x13_2 _ m2 gg H21 _
   clear H16
   try dsimp only at H21
   generalize hn2 : it (fun next2 s => Vg a0 next2 s) m2 = next2 at H21
   try dsimp only
   refine Jc<|Ja<|lv (Xk rfl rfl)<|Jd<|Jc<|?_
   revert H21
   refine ci (decide (x13_2 < (a0.kag.length : Int))) rfl (fun hb H22=>?_) fun hb H28=>?_
   ·refine Jh<|Jc<|Jp<|Jc<|Ja<|?_
    obtain ⟨t15, h_t15, H23⟩ := Je H22; clear H22
    refine lv (Q7 Tryz.underlying22 Tryz.sizeOf41 rfl rfl f0_1.frs (f0_1.ix h_t15))<|Qf (fun w hF hS => Qb (f := (elC h v0_1 1)) (i := x13_2) (sz := 1) (j := 0) (v := (Qq h v0_1 1 (Int.toNat x13_2) 0)) Tryz.isAgg41 rfl rfl (f0_1.frs.row (hw.now hF)) (f0_1.ix h_t15) (Jgi (Vd (f0_1.at h_t15)) rfl)) rfl rfl rfl<|ag ((Qq h v0_1 1 (Int.toNat x13_2) 0))<|Jd<|Jc<|Ja<|mv ((Qq h v0_1 1 (Int.toNat x13_2) 0))<|?_
    obtain ⟨t18, h_t18, H24⟩ := Je H23; clear H23
    refine Qt (fun w hF hS => k17 (Ju w) ((show FrN h 6 (Qq h v0_1 1 (Int.toNat x13_2) 0) g_tag_Entry t15 from (f0_1.at h_t15)).mono (hw.now hF)) h_t18) call17 rfl rfl rfl<|ag (i6 t18)<|Jd<|Jc<|Ja<|mv (i6 t18)<|lv (Vk rfl rfl)<|Jd<|?_
    revert H24
    refine ci (decide (t18 ≠ 0)) rfl (fun hb H25=>?_) fun hb H26=>?_
    ·refine Jc<|Ja<|mv (i6 t18)<|ag (i6 t18)<|Jd<|Ji<|?_
     obtain rfl := sj H25
     exact r1 (i6 t18)
    ·refine Jh<|Ja<|?_
     obtain ⟨t22, h_t22, H27⟩ := Je H26; clear H26
     refine lv (J8 rfl rfl h_t22)<|mv (i6 t22)<|Jd<|?_
     exact cl t22 () m2 [0] (by exact ⟨(by subst hn2; exact H27), trivial⟩)
   ·refine Qp ?_
    exact cl () () 0 [0] (by exact ⟨H28, trivial⟩)
  ·rintro _ _ gg H17 _
   try dsimp only at H17
   try dsimp only
   refine Jc<|Jc<|Ja<|Q0 (i := 0) (vs := [.bool a0.Big, v0_1]) isAgg24 Tryz.sizeOf24 rfl rfl rfl rfl rfl<|?_
   obtain ⟨t24, h_t24, H18⟩ := Je H17; clear H17
   refine Qt (fun w hF hS => k18 (Ju w) (f0_1.mono (hw.now hF)) h_t24) call18 rfl rfl rfl<|lv (Xc Tryz.underlying9 rfl)<|lv (Ye rfl rfl)<|Jd<|?_
   revert H18
   refine ci (decide (65000 < (t24.length : Int))) rfl (fun hb H19=>?_) fun hb H20=>?_
   ·refine Jc<|Ja<|ag (i6 4)<|Jd<|Ji<|?_
    obtain rfl := sj H19
    exact r1 (i6 4)
   ·refine Jh<|Jc<|Ja<|ag (i6 0)<|Jd<|Ji<|?_
    obtain rfl := sj H20
    exact r1 (i6 0)
theorem k52 {a0 : (List UInt8)} {a1 : Int} {a2 : Bool} {r : Int × Bool} (H : Jcl a0 a1 a2 = some r) : Ret prog 52 [str a0, i6 a1, .bool a2] (.tuple #[i6 r.1, .bool r.2]) := by
 refine Qr (n := 45) func52 rfl rfl rfl (fun wd => ?_)
 refine Jc<|Ja<|ag (i6 0)<|ag (.bool false)<|Jd<|Jc<|Ja<|mv (str a0)<|ag (str a0)<|Jd<|?_
 refine Qe (r := r) (σ := (List UInt8)) (τ := Unit) (fun s => Jca a0 a1 s) (fun s t => [(0, str a0), (1, i6 a1), (8, str s)]) (fun s t => []) (fun s t => True) ?_ ?_
 ·refine Jc<|Ja<|mv (.bool a2)<|Jd<|?_
  revert H
  refine ci a2 rfl (fun hb H34=>?_) fun hb H36=>?_
  ·refine Ja<|mv (str a0)<|?_
   obtain ⟨t14, h_t14, H35⟩ := Je H34; clear H34
   refine Qm (k88 h_t14) call88 rfl rfl rfl<|ag (str t14)<|Jd<|?_
   exact cl t14 () 0 [] (by exact ⟨H35, trivial⟩)
  ·refine Jh ?_
   exact cl a0 () 0 [] (by exact ⟨H36, trivial⟩)
 ·rintro x8 _ gg H19 _
  try dsimp only at H19
  try dsimp only
  refine Qe (r := r) (σ := Unit) (τ := Unit) (fun s => Jei a0) (fun s t => [(0, str a0)]) (fun s t => []) (fun s t => True) ?_ ?_
  ·refine Jc<|Ja<|mv (str x8)<|lv (Vl rfl rfl)<|mv (.bool (decide (x8 = [])))<|?_
   revert H19
   refine sp (fun hb H22=>?_) fun hb H23=>?_
   ·refine pa<|pa<|pa<|pa<|pT (.bool true)<|mv (.bool true)<|pa<|pa<|pa<|pT (.bool true)<|mv (.bool true)<|pa<|pa<|pa<|pa<|pa<|pa<|pa<|pT (.bool true)<|Jd<|Yc rfl<|Jc<|Ja<|ag (i6 0)<|ag (.bool false)<|Jd<|Ji<|?_
    obtain rfl := sj H22
    refine Wh (v1 := i6 0) (v2 := .bool false) rfl rfl rfl (fin rfl)
   ·refine mv (str x8)<|lv (Xc Tryz.underlying9 rfl)<|mv (i6 a1)<|lv (Ye rfl rfl)<|pF (.bool (decide (a1 < (x8.length : Int))))<|mv (.bool (decide (a1 < (x8.length : Int))))<|?_
    revert H23
    refine sp (fun hb H24=>?_) fun hb H25=>?_
    ·refine pa<|pa<|pa<|pT (.bool true)<|mv (.bool true)<|pa<|pa<|pa<|pa<|pa<|pa<|pa<|pT (.bool true)<|Jd<|Yc rfl<|Jc<|Ja<|ag (i6 0)<|ag (.bool false)<|Jd<|Ji<|?_
     obtain rfl := sj H24
     refine Wh (v1 := i6 0) (v2 := .bool false) rfl rfl rfl (fin rfl)
    ·refine mv (str x8) ?_
     obtain ⟨t25, h_t25, H26⟩ := Je H25; clear H25
     refine Qm (k89 h_t25) call89 rfl rfl rfl<|lv (Ja3 rfl rfl)<|pF (.bool (decide (t25 ≠ [])))<|mv (.bool (decide (t25 ≠ [])))<|?_
     revert H26
     refine sp (fun hb H27=>?_) fun hb H28=>?_
     ·refine pa<|pa<|pa<|pa<|pa<|pa<|pa<|pT (.bool true)<|Jd<|Yc rfl<|Jc<|Ja<|ag (i6 0)<|ag (.bool false)<|Jd<|Ji<|?_
      obtain rfl := sj H27
      refine Wh (v1 := i6 0) (v2 := .bool false) rfl rfl rfl (fin rfl)
     ·refine mv (str x8) ?_
      obtain ⟨t30, h_t30, H29⟩ := Je H28; clear H28
      refine lv (Zs Tryz.underlying9 rfl rfl h_t30)<|lv (Qd rfl rfl)<|mv (.bool (decide (t30 = 48)))<|?_
      revert H29
      refine sp (fun hb H30=>?_) fun hb H33=>?_
      ·refine mv (str a0)<|lv (Ja3 rfl rfl)<|pT (.bool (decide (a0 ≠ [48])))<|pF (.bool (decide (a0 ≠ [48])))<|Jd<|?_
       revert H30
       refine ci (decide (a0 ≠ [48])) rfl (fun hb H31=>?_) fun hb H32=>?_
       ·refine Jc<|Ja<|ag (i6 0)<|ag (.bool false)<|Jd<|Ji<|?_
        obtain rfl := sj H31
        refine Wh (v1 := i6 0) (v2 := .bool false) rfl rfl rfl (fin rfl)
       ·refine Jh ?_
        exact cl () () 0 [] (by exact ⟨H32, trivial⟩)
      ·refine pa<|pa<|pF (.bool false)<|pF (.bool false)<|Jd<|Zc rfl<|Jh<|?_
       exact cl () () 0 [] (by exact ⟨H33, trivial⟩)
  ·rintro _ _ gg H20 _
   try dsimp only at H20
   try dsimp only
   refine Jc<|Ja<|mv (str a0)<|?_
   obtain ⟨t39, h_t39, H21⟩ := Je H20; clear H20
   refine Qm (k90 h_t39) call90 rfl rfl rfl<|mv (.tuple #[i6 t39, .nilIface])<|lv (Jo (v := i6 t39) rfl rfl)<|lv (Jo (v := .nilIface) rfl rfl)<|ag (i6 t39)<|ag (.nilIface)<|Jd<|Jc<|?_
   exact Qv (Kd.p :: Kd.p :: Kd.p :: Kd.p :: Kd.p :: []) 0 mixed (by
    refine dm (i6 t39)<|dm (.nilIface)<|dv (r_eqlErr rfl (by intro w; kernel_rfl))<|Jq rfl rfl (Jg (v := i6 t39) rfl)<|Jq rfl rfl (Jg (v := .bool true) rfl)<|X6<|Ji<|?_
    obtain rfl := sj H21
    refine Wh (v1 := i6 t39) (v2 := .bool true) rfl rfl rfl (fin rfl)
    ) (by kernel_rfl)
theorem k80 {r : (List (Int × (List UInt8)))} {w : World} {h : Jw} (hw : Know h w Ys) (H : Z2 = some r) : Does prog 80 (List.toArray []) w (fun v w' => ∃ x : Nat, v = (.map (some x)) ∧ Turn w w' Ys (mapC i6 str x r)) := by
 refine enter (n := 3) func80 rfl rfl rfl Ys [] (Sat.nil _ _)<|Jc<|Ja<|ag (.map none)<|Jd<|Jc<|Ja<|?_
 refine Zy (rds := []) (makes_map (fk := i6) (fv := str)) rfl rfl rfl (fun b1 => ?_)
 refine Jf2 (Jb5 (u := true) (i := 0) (rds := []) (fk := i6) (fv := str) (k := 1) (v := [98, 121, 116, 101]) Jdd (.inl rfl) Tryz.underlying141 Tryz.underlying3 rfl rfl rfl rfl) rfl rfl (fun _ => ?_)
 refine Jf2 (Jb5 (u := true) (i := 0) (rds := []) (fk := i6) (fv := str) (k := 2) (v := [97, 115, 99, 105, 105]) Jdd (.inl rfl) Tryz.underlying141 Tryz.underlying3 rfl rfl rfl rfl) rfl rfl (fun _ => ?_)
 refine Jf2 (Jb5 (u := true) (i := 0) (rds := []) (fk := i6) (fv := str) (k := 3) (v := [115, 104, 111, 114, 116]) Jdd (.inl rfl) Tryz.underlying141 Tryz.underlying3 rfl rfl rfl rfl) rfl rfl (fun _ => ?_)
 refine Jf2 (Jb5 (u := true) (i := 0) (rds := []) (fk := i6) (fv := str) (k := 4) (v := [108, 111, 110, 103]) Jdd (.inl rfl) Tryz.underlying141 Tryz.underlying3 rfl rfl rfl rfl) rfl rfl (fun _ => ?_)
 refine Jf2 (Jb5 (u := true) (i := 0) (rds := []) (fk := i6) (fv := str) (k := 5) (v := [114, 97, 116, 105, 111]) Jdd (.inl rfl) Tryz.underlying141 Tryz.underlying3 rfl rfl rfl rfl) rfl rfl (fun _ => ?_)
 refine Jf2 (Jb5 (u := true) (i := 0) (rds := []) (fk := i6) (fv := str) (k := 7) (v := [111, 112, 97, 113, 117, 101]) Jdd (.inl rfl) Tryz.underlying141 Tryz.underlying3 rfl rfl rfl rfl) rfl rfl (fun _ => ?_)
 refine Jf2 (Jb5 (u := true) (i := 0) (rds := []) (fk := i6) (fv := str) (k := 9) (v := [115, 105, 103, 110, 101, 100]) Jdd (.inl rfl) Tryz.underlying141 Tryz.underlying3 rfl rfl rfl rfl) rfl rfl (fun _ => ?_)
 refine mv (.map (some b1))<|ag (.map (some b1))<|Jd<|Ji<|?_
 obtain rfl := sj H
 refine Ja1 (v := .map (some b1)) rfl rfl (Yg b1 (i := 0) rfl rfl (Imp.refl _))
theorem k98 {a0 : (List UInt8)} {r : (List UInt8) × Bool} (H : Jej a0 = some r) : Ret prog 98 [str a0] (.tuple #[str r.1, .bool r.2]) := by
 refine Qr (n := 36) func98 rfl rfl rfl (fun wd => ?_)
 refine Jc<|Ja<|ag (str [])<|ag (.bool false)<|Jd<|Jc<|Ja<|ag (z0s)<|Jd<|?_
 refine Qe (r := r) (σ := (List UInt8) × (List Int)) (τ := AN) (fun s => Jha s.1 s.2) (fun s t => [(0, str s.1), (4, sl t s.2.length)]) (fun s t => [J3 5 1 (sl t s.2.length) s.2.length (s.2.map e_u8)]) (fun s t => True) ?_ ?_
 ·refine Jp<|J9 5 1<|?_
  refine Xu (σ := (List UInt8) × (List Int)) (τ := AN) (fun next2 s => Jbv next2 s.1 s.2) (fun s t => [(0, str s.1), (4, sl t s.2.length)]) (fun s t => [J3 5 1 (sl t s.2.length) s.2.length (s.2.map e_u8)]) (fun s t => True) (a0, ([] : List Int)) nn [0] H (by exact trivial) (by exact ⟨rfl, rfl, trivial⟩) (by decide) rfl ?_
  rintro ⟨x0_3, l_3⟩ p_2 m2 gg H18 _
  clear H
  try dsimp only at H18
  generalize hn2 : it (fun next2 s => Jbv next2 s.1 s.2) m2 = next2 at H18
  try dsimp only
  refine Jc<|Jc<|Ja<|mv (str x0_3)<|lv (Xc Tryz.underlying9 rfl)<|lv (Jg5 rfl rfl)<|Jd<|?_
  revert H18
  refine ci (decide (2 ≤ (x0_3.length : Int))) rfl (fun hb H19=>?_) fun hb H32=>?_
  ·refine Jh<|Jc<|Jp<|Jc<|?_
   exact Qv (Kd.p :: Kd.p :: Kd.d [] _ :: Kd.p :: Kd.p :: Kd.d [] _ :: Kd.p :: Kd.p :: []) 0 mixed (by
    refine dm (str x0_3) ?_
    have h_t13 := J4 H19
    have H20 := J0 H19
    refine dv (Zs Tryz.underlying9 rfl rfl h_t13) ?_
    have h_t14 := J4 H20
    have H21 := J0 H20
    refine Jb9 (k72 h_t14) call72 rfl rfl<|dm (str x0_3)<|?_
    have h_t16 := J4 H21
    have H22 := J0 H21
    refine dv (Zs Tryz.underlying9 rfl rfl h_t16) ?_
    have h_t17 := J4 H22
    have H23 := J0 H22
    refine Jb9 (k72 h_t17) call72 rfl rfl<|Jq rfl rfl (Jg (v := i6 (val (Jv [48, 49, 50, 51, 52, 53, 54, 55, 56, 57, 97, 98, 99, 100, 101, 102] (val (Xy x0_3 0))))) rfl)<|Jq rfl rfl (Jg (v := i6 (val (Jv [48, 49, 50, 51, 52, 53, 54, 55, 56, 57, 97, 98, 99, 100, 101, 102] (val (Xy x0_3 1))))) rfl)<|X6<|Jc<|Jc<|Ja<|mv (i6 (val (Jv [48, 49, 50, 51, 52, 53, 54, 55, 56, 57, 97, 98, 99, 100, 101, 102] (val (Xy x0_3 0)))))<|lv (Xk rfl rfl)<|mv (.bool (decide ((val (Jv [48, 49, 50, 51, 52, 53, 54, 55, 56, 57, 97, 98, 99, 100, 101, 102] (val (Xy x0_3 0)))) < 0)))<|?_
    revert H23
    refine sp (fun hb H24=>?_) fun hb H25=>?_
    ·refine pa<|pa<|pT (.bool true)<|Jd<|Yc rfl<|Jc<|Ja<|ag (str [])<|ag (.bool false)<|Jd<|Ji<|?_
     obtain rfl := sj H24
     refine Wh (v1 := str []) (v2 := .bool false) rfl rfl rfl (fin rfl)
    ·refine mv (i6 (val (Jv [48, 49, 50, 51, 52, 53, 54, 55, 56, 57, 97, 98, 99, 100, 101, 102] (val (Xy x0_3 1)))))<|lv (Xk rfl rfl)<|pF (.bool (decide ((val (Jv [48, 49, 50, 51, 52, 53, 54, 55, 56, 57, 97, 98, 99, 100, 101, 102] (val (Xy x0_3 1)))) < 0)))<|Jd<|?_
     revert H25
     refine ci (decide ((val (Jv [48, 49, 50, 51, 52, 53, 54, 55, 56, 57, 97, 98, 99, 100, 101, 102] (val (Xy x0_3 1)))) < 0)) rfl (fun hb H26=>?_) fun hb H27=>?_
     ·refine Jc<|Ja<|ag (str [])<|ag (.bool false)<|Jd<|Ji<|?_
      obtain rfl := sj H26
      refine Wh (v1 := str []) (v2 := .bool false) rfl rfl rfl (fin rfl)
     ·refine Jh<|Ja<|mv (sl p_2 l_3.length)<|mv (i6 (val (Jv [48, 49, 50, 51, 52, 53, 54, 55, 56, 57, 97, 98, 99, 100, 101, 102] (val (Xy x0_3 0)))))<|?_
      obtain ⟨t26, h_t26, H28⟩ := Je H27; clear H27
      refine lv (Jhj rfl rfl h_t26)<|mv (i6 (val (Jv [48, 49, 50, 51, 52, 53, 54, 55, 56, 57, 97, 98, 99, 100, 101, 102] (val (Xy x0_3 1)))))<|?_
      obtain ⟨t28, h_t28, H29⟩ := Je H28; clear H28
      refine lv (J8 rfl rfl h_t28)<|lv (Jfm runUnderlying3 Tryz.runUnderlying5 rfl (Jg8 _))<|?_
      refine Q9 (vs := [.int .u8 (wU8 t28)]) (cs := [.int .u8 (wU8 t28)]) Tryz.underlying45 sizeOf5 zeroValue5 rfl rfl rfl rfl rfl rfl rfl (fun b1 => ?_)
      obtain ⟨l31, h_l31, H30⟩ := Je H29; clear H29
      refine Q1 (Y0 (i := 0) (hn := rfl) (rds := [1]) (p := p_2) (sz := 1) (by_ := 1) (f := e_u8) (ys := l_3) (ls := ([(wU8 t28)] : List Int)) (V := .slice (some ⟨b1, 0, none⟩) 1 1) Tryz.underlying45 (Xv typeInfo5) rfl rfl rfl rfl rfl rfl rfl rfl rfl rfl (fun w L' hF hS hi => W8 (i := 1) hS ((hi 1 (by simp)).trans rfl) rfl rfl) (fun _ => rfl) (fun _ => rfl) h_l31) rfl rfl rfl (fun p_3 => ?_)
      refine ag (sl p_3 l31.length)<|Jd<|Ja<|mv (str x0_3)<|?_
      obtain ⟨t11, h_t11, H31⟩ := Je H30; clear H30
      refine lv (Zi Tryz.underlying9 rfl rfl h_t11)<|ag (str t11)<|Jd<|?_
      exact cl (t11, l31) p_3 m2 [0] (by exact ⟨(by subst hn2; exact H31), trivial⟩)
    ) (by kernel_rfl)
  ·refine Qp ?_
   exact cl (x0_3, l_3) p_2 0 [0] (by exact ⟨H32, trivial⟩)
 ·rintro ⟨x0, l⟩ p gg H17 _
  try dsimp only at H17
  try dsimp only
  refine Jc<|Ja<|mv (sl p l.length)<|Qf (fun w hF hS => Ji1 (f := e_u8) (xs := l) rfl Tryz.underlying45 underlying5 Tryz.underlying9 rfl (fun _ => rfl) (Xd (i := 0) hS rfl)) rfl rfl rfl<|mv (str x0)<|lv (Vl rfl rfl)<|ag (str (Jaz l))<|ag (.bool (decide (x0 = [])))<|Jd<|Ji<|?_
  obtain rfl := sj H17
  refine Wh (v1 := str (Jaz l)) (v2 := .bool (decide (x0 = []))) rfl rfl rfl (fin rfl)
theorem k53 {a0 : (List UInt8)} {r : Tb × Int} {w : World} {h : Jw} (hw : Know h w Ys) (H : Jdo a0 = some r) : Does prog 53 (List.toArray [str a0]) w (fun v w' => ∃ x : AN × AN × AN, v = (.tuple #[.agg #[i6 r.1.kad, str r.1.kae, .slice x.1.1 r.1.kaf.length x.1.2, .slice x.2.1.1 r.1.kac.length x.2.1.2, .slice x.2.2.1 r.1.kab.length x.2.2.2], i6 r.2]) ∧ Turn w w' Ys (Qy (J3 3 1 (.slice x.1.1 r.1.kaf.length x.1.2) r.1.kaf.length (r.1.kaf.map Qz)) (Qy (J3 70 2 (.slice x.2.1.1 r.1.kac.length x.2.1.2) r.1.kac.length (r.1.kac.map Jl)) (rowD 83 6 g_tag_Entry (.slice x.2.2.1 r.1.kab.length x.2.2.2) r.1.kab.length r.1.kab)))) := by
 refine enter (n := 154) func53 rfl rfl rfl Ys [] (Sat.nil _ _)<|Jcy Wa<|Jc<|Ja<|?_
 refine Xi (cs := [i6 0, str [], z0s, z0s, z0s]) zeroValue81 rfl rfl rfl (fun b4 => ?_)
 refine ag (i6 0)<|Jd<|Jc<|Jc<|Ja<|mv (str a0)<|lv (Xc Tryz.underlying9 rfl)<|lv (Ye rfl rfl)<|Jd<|?_
 revert H
 refine ci (decide (1000000 < (a0.length : Int))) rfl (fun hb H62=>?_) fun hb H63=>?_
 ·refine Jc<|Ja<|Q0 (i := 1) (vs := [i6 0, str [], z0s, z0s, z0s]) Tryz.isAgg81 Tryz.sizeOf81 rfl rfl rfl rfl rfl<|st (i := 1) [i6 0, str [], z0s, z0s, z0s] [i6 0, str [], z0s, z0s, z0s] Tryz.sizeOf81 rfl rfl<|ag (i6 4)<|Jd<|Ji<|?_
  try dsimp only [z1, z2, z3, z4, z5, z6, z7, z8]
  refine J9 3 1<|J9 70 2<|J9 83 6<|?_
  try dsimp only [z1,z2,z5,z6,z7,z8]
  obtain rfl := sj H62
  refine bo 0 4 rfl rfl<|J1 0 rfl (Vm (p := nn) rfl (AllC.nil (G := g_tag_Entry) (h := Wa) (sz := 6)))<|bo 3 0 rfl rfl<|bo 2 3 rfl rfl<|?_
  refine Jcq (i := 1) (vs := [i6 0, str [], sl nn ([] : List Int).length, sl nn ([] : List Tc).length, sl nn (([] : List (List Value)).length)]) (v2 := i6 4) Tryz.isAgg81 Tryz.sizeOf81 rfl rfl rfl rfl rfl (Yg (nn, nn, nn) (i := 2) rfl (by first | rfl | rw [(show (([] : List (List Value)).length) = ([] : List Ta).length from (AllC.nil (G := g_tag_Entry) (h := Wa) (sz := 6)).len)]) (by first | exact Imp.refl _ | exact Imp.of (by rw [(show (([] : List (List Value)).length) = ([] : List Ta).length from (AllC.nil (G := g_tag_Entry) (h := Wa) (sz := 6)).len)] <;> rfl)))
 ·refine Jh<|Jc<|Ja<|mv (str a0)<|?_
  obtain ⟨t28, h_t28, H64⟩ := Je H63; clear H63
  refine Zy (Xr (rds := []) (fun w L' hF hS hi => k27 (Ju w)  h_t28) call27 rfl) rfl rfl rfl (fun p => ?_)
  refine ag (sl p t28.length)<|Jd<|?_
  refine Qe (r := r) (σ := Int) (τ := Unit) (fun s => Ja5 t28 s) (fun s t => [(2, pz b4), (4, sl p t28.length)]) (fun s t => [Vi Wa Wa, Jn b4 [i6 s, str [], z0s, z0s, z0s] 81, J3 9 1 (sl p t28.length) t28.length (t28.map Jz)]) (fun s t => True) ?_ ?_
  ·refine Jc<|Ja<|?_
   obtain ⟨t29, h_t29, H115⟩ := Je H64; clear H64
   refine Zy (Xr (rds := []) (G := fun x : Nat => .map (some x)) (C := fun x : Nat => mapC i6 str x t29) (fun w L' hF hS hi => k80 (Ju w)  h_t29) call80 rfl) rfl rfl rfl (fun p_8 => ?_)
   refine Q1 (turns_rangeM (i := 3) (rds := []) (fk := i6) (fv := str) Tryz.underlying141 rfl rfl) rfl rfl rfl (fun b7 => ?_)
   refine Jd<|Jp<|?_
   refine Xu (σ := Int × (List (Int × (List UInt8)))) (τ := Unit) (fun next8 s => Uk t28 next8 s.1 s.2) (fun s t => [(2, pz b4), (4, sl p t28.length), (30, pz b7)]) (fun s t => [Vi Wa Wa, Jn b4 [i6 s.1, str [], z0s, z0s, z0s] 81, J3 9 1 (sl p t28.length) t28.length (t28.map Jz), mitC i6 str p_8 b7 t29 s.2 none]) (fun s t => True) (0, t29) () [0, 1, 2, 3] H115 (by exact trivial) (by exact ⟨rfl, rfl, rfl, trivial⟩) (by decide) rfl ?_
   rintro ⟨m_4, rs_2⟩ _ m8 gg H116 _
   clear H115
   try dsimp only at H116
   generalize hn8 : it (fun next8 s => Uk t28 next8 s.1 s.2) m8 = next8 at H116
   try dsimp only
   refine Jc ?_
   try dsimp only [z1,z2,z5,z6,z7,z8]
   refine Ja ?_
   refine caseB (!rs_2.isEmpty) (fun hb => ?_) (fun hb => ?_)
   ·have H117 := Xn hb H116; clear H116
    refine l_nextM (i := 3) rfl rfl hb rfl rfl rfl (fun pe rs_3 hp_ => ?_)
    have H118 := gAll_some H117 hp_; clear H117 hp_
    refine lv (Jo (v := .bool true) rfl rfl)<|Jd<|Jc<|Yc rfl<|Jh<|Jp<|Jc<|Ja<|Qf (fun w hF hS => r_entryM (i := 3) hS rfl rfl) rfl rfl rfl<|J1 3 rfl (imp_mit _)<|lv (Jo (v := i6 pe.1) rfl rfl)<|lv (Jo (v := str pe.2) rfl rfl)<|ag (i6 pe.1)<|ag (str pe.2)<|Jd<|Jc<|Ja<|mv (str pe.2)<|mv (sl p t28.length)<|?_
    obtain ⟨t38, h_t38, H119⟩ := Je H118; clear H118
    refine Qf (fun w hF hS => Qx Tryz.underlying31 Tryz.sizeOf9 rfl rfl (Xd (i := 2) hS rfl) rfl h_t38) rfl rfl rfl<|Qf (fun w hF hS => Qb (f := Jz) (i := 0) (sz := 1) (j := 0) (v := str t38) Tryz.isAgg9 rfl rfl (Xd (i := 2) hS rfl) h_t38 rfl) rfl rfl rfl<|lv (Vl rfl rfl)<|Jd<|?_
    revert H119
    refine ci (decide (pe.2 = t38)) rfl (fun hb H120=>?_) fun hb H121=>?_
    ·refine Ja<|mv (i6 pe.1)<|lf Tryz.runUnderlying81 rfl Tryz.sizeOf3 rfl<|st (i := 1) [i6 pe.1] [i6 pe.1, str [], z0s, z0s, z0s] Tryz.sizeOf3 rfl rfl<|Jd<|?_
     exact cl (pe.1, rs_3) () m8 [0, 1, 2, 3] (by exact ⟨(by subst hn8; exact H120), trivial⟩)
    ·refine Jh ?_
     exact cl (m_4, rs_3) () m8 [0, 1, 2, 3] (by exact ⟨(by subst hn8; exact H121), trivial⟩)
   ·have H122 := Xg hb H116; clear H116
    refine Qf (fun w hF hS => r_nextOverM (i := 3) hS rfl rfl hb) rfl rfl rfl<|lv (Jo (v := .bool false) rfl rfl)<|Jd<|Jc<|Zc rfl<|Qp<|?_
    exact cl m_4 () 0 [0, 1, 2] (by exact ⟨H122, trivial⟩)
  ·rintro m _ gg H65 _
   try dsimp only at H65
   try dsimp only
   refine Jc<|Ja<|mv (sl p t28.length)<|?_
   obtain ⟨t44, h_t44, H66⟩ := Je H65; clear H65
   refine Qf (v := .slice (X0 p.1 (Int.toNat 1) p.2 1) t44.length (p.2 - Int.toNat 1)) (fun w hF hS => Jjd (xs := t28) Tryz.underlying31 Tryz.sizeOf9 rfl rfl rfl (Jdt (i := 2) hS rfl) h_t44) rfl rfl rfl<|ag (.slice (X0 p.1 (Int.toNat 1) p.2 1) t44.length (p.2 - Int.toNat 1))<|Jd<|Jc<|Ja<|lf Tryz.runUnderlying81 rfl Tryz.sizeOf3 rfl<|ll 1 (i6 m) Tryz.isAgg3<|lv (Ye rfl rfl)<|ag (.bool (decide (0 < m)))<|Jd<|?_
   refine Qe (r := r) (σ := Bool × (List UInt8) × (List Int) × (List Tc)) (τ := AN × AN) (fun s => Xt m s.1 s.2.1 s.2.2.1 s.2.2.2) (fun s t => [(2, pz b4), (7, .bool s.1)]) (fun s t => [Vi Wa Wa, Jn b4 [i6 m, str s.2.1, .slice t.1.1 s.2.2.1.length t.1.2, .slice t.2.1 s.2.2.2.length t.2.2, z0s] 81, J3 3 1 (.slice t.1.1 s.2.2.1.length t.1.2) s.2.2.1.length (s.2.2.1.map Qz), J3 70 2 (.slice t.2.1 s.2.2.2.length t.2.2) s.2.2.2.length (s.2.2.2.map Jl)]) (fun s t => True) ?_ ?_
   ·refine Jc<|Ja<|lf Tryz.runUnderlying81 rfl Tryz.sizeOf3 rfl<|ll 1 (i6 m) Tryz.isAgg3<|Jd<|Jp<|?_
    refine Qe (r := r) (σ := Bool) (τ := Unit) (fun s => Wk m t44 s) (fun s t => [(2, pz b4), (4, .slice (X0 p.1 (Int.toNat 1) p.2 1) t44.length (p.2 - Int.toNat 1)), (7, .bool (decide (0 < m))), (49, i6 m), (75, .bool s)]) (fun s t => [Vi Wa Wa, Jn b4 [i6 m, str [], z0s, z0s, z0s] 81, J3 9 1 (sl p t28.length) t28.length (t28.map Jz)]) (fun s t => True) ?_ ?_
    ·refine Jc<|Ja<|lv (Qd rfl rfl)<|ag (.bool (decide (m = 2)))<|Jd<|?_
     revert H66
     refine ci (decide (m = 2)) rfl (fun hb H113=>?_) fun hb H114=>?_
     ·refine Jh ?_
      exact cl (decide (m = 2)) () 0 [0, 1, 2] (by exact ⟨H113, trivial⟩)
     ·refine Ja<|lv (Qd rfl rfl)<|ag (.bool (decide (m = 7)))<|Jd<|?_
      exact cl (decide (m = 7)) () 0 [0, 1, 2] (by exact ⟨H114, trivial⟩)
    ·rintro x75 _ gg H73 _
     try dsimp only at H73
     try dsimp only
     revert H73
     refine ci x75 rfl (fun hb H74=>?_) fun hb H84=>?_
     ·refine Jc<|Ja<|mv (.slice (X0 p.1 (Int.toNat 1) p.2 1) t44.length (p.2 - Int.toNat 1))<|lv (Wl Tryz.underlying31 rfl)<|lv (Ye rfl rfl)<|Jd<|?_
      revert H74
      refine ci (decide (0 < (t44.length : Int))) rfl (fun hb H75=>?_) fun hb H83=>?_
      ·refine Jc<|Ja<|ag (.bool false)<|Jd<|Jc<|Ja<|mv (.slice (X0 p.1 (Int.toNat 1) p.2 1) t44.length (p.2 - Int.toNat 1))<|?_
       obtain ⟨t83, h_t83, H76⟩ := Je H75; clear H75
       refine Qf (fun w hF hS => Qx Tryz.underlying31 Tryz.sizeOf9 rfl rfl (Row.cutG (Xd (i := 2) hS rfl) rfl (Jdt (i := 2) hS rfl) h_t44) rfl h_t83) rfl rfl rfl<|Qf (fun w hF hS => Qb (f := Jz) (i := 0) (sz := 1) (j := 0) (v := str t83) Tryz.isAgg9 rfl rfl (Row.cutG (Xd (i := 2) hS rfl) rfl (Jdt (i := 2) hS rfl) h_t44) h_t83 rfl) rfl rfl rfl<|?_
       obtain ⟨t85, h_t85, H77⟩ := Je H76; clear H76
       refine Qm (k98 h_t85) call98 rfl rfl rfl<|mv (.tuple #[str t85.1, .bool t85.2])<|lv (Jo (v := str t85.1) rfl rfl)<|lv (Jo (v := .bool t85.2) rfl rfl)<|lf Tryz.runUnderlying81 rfl Tryz.sizeOf9 rfl<|st (i := 1) [str t85.1] [i6 m, str t85.1, z0s, z0s, z0s] Tryz.sizeOf9 rfl rfl<|ag (.bool t85.2)<|Jd<|?_
       try dsimp only [z1,z2,z5,z6,z7,z8]
       refine Ja<|mv (.bool t85.2)<|mv (.bool t85.2)<|?_
       revert H77
       refine sp (fun hb H78=>?_) fun hb H82=>?_
       ·refine mv (.slice (X0 p.1 (Int.toNat 1) p.2 1) t44.length (p.2 - Int.toNat 1))<|lv (Wl Tryz.underlying31 rfl)<|lv (Qd rfl rfl)<|pT (.bool (decide ((t44.length : Int) = 1)))<|mv (.bool (decide ((t44.length : Int) = 1)))<|?_
        revert H78
        refine sp (fun hb H79=>?_) fun hb H81=>?_
        ·refine mv (.slice (X0 p.1 (Int.toNat 1) p.2 1) t44.length (p.2 - Int.toNat 1)) ?_
         obtain ⟨t97, h_t97, H80⟩ := Je H79; clear H79
         refine Qf (fun w hF hS => Qx Tryz.underlying31 Tryz.sizeOf9 rfl rfl (Row.cutG (Xd (i := 2) hS rfl) rfl (Jdt (i := 2) hS rfl) h_t44) rfl h_t97) rfl rfl rfl<|Qf (fun w hF hS => Qb (f := Jz) (i := 0) (sz := 1) (j := 0) (v := str t97) Tryz.isAgg9 rfl rfl (Row.cutG (Xd (i := 2) hS rfl) rfl (Jdt (i := 2) hS rfl) h_t44) h_t97 rfl) rfl rfl rfl<|lv (Ja3 rfl rfl)<|pT (.bool (decide (t97 ≠ [])))<|ag (.bool (decide (t97 ≠ [])))<|Jd<|J9 3 1<|J9 70 2<|?_
         exact cl ((decide (t97 ≠ [])), t85.1, ([] : List Int), ([] : List Tc)) (nn, nn) 0 [0, 1, 3, 4] (by exact ⟨H80, trivial⟩)
        ·refine pa<|pa<|pa<|pa<|pF (.bool false)<|ag (.bool false)<|Jd<|J9 3 1<|J9 70 2<|?_
         exact cl (false, t85.1, ([] : List Int), ([] : List Tc)) (nn, nn) 0 [0, 1, 3, 4] (by exact ⟨H81, trivial⟩)
       ·refine pa<|pa<|pa<|pF (.bool false)<|mv (.bool false)<|pa<|pa<|pa<|pa<|pF (.bool false)<|ag (.bool false)<|Jd<|J9 3 1<|J9 70 2<|?_
        exact cl (false, t85.1, ([] : List Int), ([] : List Tc)) (nn, nn) 0 [0, 1, 3, 4] (by exact ⟨H82, trivial⟩)
      ·refine Jh<|J9 3 1<|J9 70 2<|?_
       exact cl ((decide (0 < m)), [], ([] : List Int), ([] : List Tc)) (nn, nn) 0 [0, 1, 3, 4] (by exact ⟨H83, trivial⟩)
     ·refine Jc ?_
      try dsimp only [z1,z2,z5,z6,z7,z8]
      refine Ja<|lv (Qd rfl rfl)<|ag (.bool (decide (m = 5)))<|Jd<|?_
      revert H84
      refine ci (decide (m = 5)) rfl (fun hb H85=>?_) fun hb H102=>?_
      ·refine Jc<|Ja<|mv (.slice (X0 p.1 (Int.toNat 1) p.2 1) t44.length (p.2 - Int.toNat 1))<|lv (Wl Tryz.underlying31 rfl)<|mv (i6 0)<|Jd<|Jp<|J9 70 2<|?_
       refine Xu (σ := Bool × Int × (List Tc)) (τ := AN) (fun next4 s => Zu m t44 next4 s.1 s.2.1 s.2.2) (fun s t => [(2, pz b4), (7, .bool s.1), (103, .slice (X0 p.1 (Int.toNat 1) p.2 1) t44.length (p.2 - Int.toNat 1)), (104, i6 (t44.length : Int)), (105, i6 s.2.1)]) (fun s t => [Vi Wa Wa, Jn b4 [i6 m, str [], z0s, sl t s.2.2.length, z0s] 81, J3 9 1 (sl p t28.length) t28.length (t28.map Jz), J3 70 2 (sl t s.2.2.length) s.2.2.length (s.2.2.map Jl)]) (fun s t => True) ((decide (0 < m)), 0, ([] : List Tc)) nn [0, 1, 2, 3] H85 (by exact trivial) (by exact ⟨rfl, rfl, rfl, rfl, rfl, trivial⟩) (by decide) rfl ?_
       rintro ⟨x7_3, x105_2, l_4⟩ p_4 m4 gg H86 _
       clear H85
       try dsimp only at H86
       generalize hn4 : it (fun next4 s => Zu m t44 next4 s.1 s.2.1 s.2.2) m4 = next4 at H86
       try dsimp only
       refine Jc<|Ja<|lv (Xk rfl rfl)<|Jd<|Jc<|?_
       revert H86
       refine ci (decide (x105_2 < (t44.length : Int))) rfl (fun hb H87=>?_) fun hb H101=>?_
       ·refine Jh<|Jc<|Jp<|Jc<|Ja<|?_
        obtain ⟨t107, h_t107, H88⟩ := Je H87; clear H87
        refine Qf (fun w hF hS => Qx Tryz.underlying31 Tryz.sizeOf9 rfl rfl (Row.cutG (Xd (i := 2) hS rfl) rfl (Jdt (i := 2) hS rfl) h_t44) rfl h_t107) rfl rfl rfl<|Qf (fun w hF hS => Qb (f := Jz) (i := x105_2) (sz := 1) (j := 0) (v := str t107) Tryz.isAgg9 rfl rfl (Row.cutG (Xd (i := 2) hS rfl) rfl (Jdt (i := 2) hS rfl) h_t44) h_t107 rfl) rfl rfl rfl<|ag (str t107)<|Jd<|Jc<|Ja<|mv (str t107)<|?_
        obtain ⟨t111, h_t111, H89⟩ := Je H88; clear H88
        refine Qm (k24 h_t111) call24 rfl rfl rfl<|mv (.tuple #[str t111.1, str t111.2.1, .bool t111.2.2])<|lv (Jo (v := str t111.1) rfl rfl)<|lv (Jo (v := str t111.2.1) rfl rfl)<|lv (Jo (v := .bool t111.2.2) rfl rfl)<|ag (str t111.1)<|ag (str t111.2.1)<|ag (.bool t111.2.2)<|Jd<|Jc<|Ja<|mv (str t111.1)<|?_
        obtain ⟨t117, h_t117, H90⟩ := Je H89; clear H89
        refine Qm (k52 h_t117) call52 rfl rfl rfl<|mv (.tuple #[i6 t117.1, .bool t117.2])<|lv (Jo (v := i6 t117.1) rfl rfl)<|lv (Jo (v := .bool t117.2) rfl rfl)<|ag (i6 t117.1)<|ag (.bool t117.2)<|Jd<|Jc<|Ja<|mv (str t111.2.1)<|?_
        obtain ⟨t122, h_t122, H91⟩ := Je H90; clear H90
        refine Qm (k52 h_t122) call52 rfl rfl rfl<|mv (.tuple #[i6 t122.1, .bool t122.2])<|lv (Jo (v := i6 t122.1) rfl rfl)<|lv (Jo (v := .bool t122.2) rfl rfl)<|ag (i6 t122.1)<|ag (.bool t122.2)<|Jd<|?_
        refine Qe (r := r) (σ := Bool) (τ := Unit) (fun s => V9 x105_2 l_4 next4 t117 t122 s) (fun s t => [(2, pz b4), (7, .bool s), (14, i6 t117.1), (16, i6 t122.1), (103, .slice (X0 p.1 (Int.toNat 1) p.2 1) t44.length (p.2 - Int.toNat 1)), (104, i6 (t44.length : Int)), (105, i6 x105_2)]) (fun s t => [Vi Wa Wa, Jn b4 [i6 m, str [], z0s, sl p_4 l_4.length, z0s] 81, J3 9 1 (sl p t28.length) t28.length (t28.map Jz), J3 70 2 (sl p_4 l_4.length) l_4.length (l_4.map Jl)]) (fun s t => True) ?_ ?_
        ·refine Ja<|mv (.bool x7_3)<|mv (.bool x7_3)<|?_
         revert H91
         refine sp (fun hb H95=>?_) fun hb H100=>?_
         ·refine mv (.bool t111.2.2)<|pT (.bool t111.2.2)<|mv (.bool t111.2.2)<|?_
          revert H95
          refine sp (fun hb H96=>?_) fun hb H99=>?_
          ·refine mv (.bool t117.2)<|pT (.bool t117.2)<|mv (.bool t117.2)<|?_
           revert H96
           refine sp (fun hb H97=>?_) fun hb H98=>?_
           ·refine mv (.bool t122.2)<|pT (.bool t122.2)<|ag (.bool t122.2)<|Jd<|?_
            exact cl t122.2 () 0 [0, 1, 2, 3] (by exact ⟨H97, trivial⟩)
           ·refine pa<|pF (.bool false)<|ag (.bool false)<|Jd<|?_
            exact cl false () 0 [0, 1, 2, 3] (by exact ⟨H98, trivial⟩)
          ·refine pa<|pF (.bool false)<|mv (.bool false)<|pa<|pF (.bool false)<|ag (.bool false)<|Jd<|?_
           exact cl false () 0 [0, 1, 2, 3] (by exact ⟨H99, trivial⟩)
         ·refine pa<|pF (.bool false)<|mv (.bool false)<|pa<|pF (.bool false)<|mv (.bool false)<|pa<|pF (.bool false)<|ag (.bool false)<|Jd<|?_
          exact cl false () 0 [0, 1, 2, 3] (by exact ⟨H100, trivial⟩)
        ·rintro x7_4 _ gg H92 _
         try dsimp only at H92
         try dsimp only
         refine Ja<|lf Tryz.runUnderlying81 rfl Tryz.sizeOf79 rfl<|ll 1 (sl p_4 l_4.length) Tryz.isAgg79<|mv (i6 t117.1)<|mv (i6 t122.1)<|lv (Yi (pl := #[(0, 1), (1, 1)]) (ps := [(0, i6 t117.1), (1, i6 t122.1)]) (cells := #[i6 t117.1, i6 t122.1]) zeroValue70 Tryz.runUnderlying70 (fun w => by kernel_rfl) rfl rfl)<|?_
         refine Q9 (vs := [.agg #[i6 t117.1, i6 t122.1]]) (cs := [i6 t117.1, i6 t122.1]) Tryz.underlying79 Tryz.sizeOf70 zeroValue70 rfl rfl rfl rfl rfl rfl rfl (fun b5 => ?_)
         obtain ⟨l141, h_l141, H93⟩ := Je H92; clear H92
         refine Q1 (Y0 (i := 3) (hn := rfl) (rds := [4]) (p := p_4) (sz := 2) (by_ := 16) (f := Jl) (ys := l_4) (ls := ([(⟨t117.1, t122.1⟩ : Tc)] : List Tc)) (V := .slice (some ⟨b5, 0, none⟩) 1 1) Tryz.underlying79 (Xv typeInfo70) rfl rfl rfl rfl rfl rfl rfl rfl rfl rfl (fun w L' hF hS hi => W8 (i := 4) hS ((hi 4 (by simp)).trans rfl) rfl rfl) (fun _ => rfl) (fun _ => rfl) h_l141) rfl rfl rfl (fun p_5 => ?_)
         refine lf Tryz.runUnderlying81 rfl Tryz.sizeOf79 rfl<|st (i := 1) [sl p_5 l141.length] [i6 m, str [], z0s, sl p_5 l141.length, z0s] Tryz.sizeOf79 rfl rfl<|Jd<|Ja<|?_
         obtain ⟨t143, h_t143, H94⟩ := Je H93; clear H93
         refine lv (J8 rfl rfl h_t143)<|mv (i6 t143)<|Jd<|?_
         exact cl (x7_4, t143, l141) p_5 m4 [0, 1, 2, 3] (by exact ⟨(by subst hn4; exact H94), trivial⟩)
       ·refine Qp<|J9 3 1<|?_
        exact cl (x7_3, [], ([] : List Int), l_4) (nn, p_4) 0 [0, 1, 4, 3] (by exact ⟨H101, trivial⟩)
      ·refine Jc<|Ja<|mv (.slice (X0 p.1 (Int.toNat 1) p.2 1) t44.length (p.2 - Int.toNat 1))<|lv (Wl Tryz.underlying31 rfl)<|mv (i6 0)<|Jd<|Jp<|J9 3 1<|?_
       refine Xu (σ := Bool × Int × (List Int)) (τ := AN) (fun next6 s => Zw m t44 next6 s.1 s.2.1 s.2.2) (fun s t => [(2, pz b4), (7, .bool s.1), (50, .slice (X0 p.1 (Int.toNat 1) p.2 1) t44.length (p.2 - Int.toNat 1)), (51, i6 (t44.length : Int)), (52, i6 s.2.1)]) (fun s t => [Vi Wa Wa, Jn b4 [i6 m, str [], sl t s.2.2.length, z0s, z0s] 81, J3 9 1 (sl p t28.length) t28.length (t28.map Jz), J3 3 1 (sl t s.2.2.length) s.2.2.length (s.2.2.map Qz)]) (fun s t => True) ((decide (0 < m)), 0, ([] : List Int)) nn [0, 1, 2, 3] H102 (by exact trivial) (by exact ⟨rfl, rfl, rfl, rfl, rfl, trivial⟩) (by decide) rfl ?_
       rintro ⟨x7_6, x52_2, l_6⟩ p_6 m6 gg H103 _
       clear H102
       try dsimp only at H103
       generalize hn6 : it (fun next6 s => Zw m t44 next6 s.1 s.2.1 s.2.2) m6 = next6 at H103
       try dsimp only
       refine Jc ?_
       try dsimp only [z1,z2,z5,z6,z7,z8]
       refine Ja<|lv (Xk rfl rfl)<|Jd<|Jc<|?_
       revert H103
       refine ci (decide (x52_2 < (t44.length : Int))) rfl (fun hb H104=>?_) fun hb H112=>?_
       ·refine Jh<|Jc<|Jp<|Jc<|Ja<|?_
        obtain ⟨t54, h_t54, H105⟩ := Je H104; clear H104
        refine Qf (fun w hF hS => Qx Tryz.underlying31 Tryz.sizeOf9 rfl rfl (Row.cutG (Xd (i := 2) hS rfl) rfl (Jdt (i := 2) hS rfl) h_t44) rfl h_t54) rfl rfl rfl<|Qf (fun w hF hS => Qb (f := Jz) (i := x52_2) (sz := 1) (j := 0) (v := str t54) Tryz.isAgg9 rfl rfl (Row.cutG (Xd (i := 2) hS rfl) rfl (Jdt (i := 2) hS rfl) h_t44) h_t54 rfl) rfl rfl rfl<|ag (str t54)<|Jd<|Jc<|Ja<|mv (str t54)<|lf Tryz.runUnderlying81 rfl Tryz.sizeOf3 rfl<|ll 1 (i6 m) Tryz.isAgg3<|lv (Qd rfl rfl)<|?_
        obtain ⟨t61, h_t61, H106⟩ := Je H105; clear H105
        refine Qm (k52 h_t61) call52 rfl rfl rfl<|mv (.tuple #[i6 t61.1, .bool t61.2])<|lv (Jo (v := i6 t61.1) rfl rfl)<|lv (Jo (v := .bool t61.2) rfl rfl)<|ag (i6 t61.1)<|ag (.bool t61.2)<|Jd<|?_
        refine Qe (r := r) (σ := Bool) (τ := Unit) (fun s => Ja9 x52_2 l_6 next6 t61 s) (fun s t => [(2, pz b4), (7, .bool s), (20, i6 t61.1), (50, .slice (X0 p.1 (Int.toNat 1) p.2 1) t44.length (p.2 - Int.toNat 1)), (51, i6 (t44.length : Int)), (52, i6 x52_2)]) (fun s t => [Vi Wa Wa, Jn b4 [i6 m, str [], sl p_6 l_6.length, z0s, z0s] 81, J3 9 1 (sl p t28.length) t28.length (t28.map Jz), J3 3 1 (sl p_6 l_6.length) l_6.length (l_6.map Qz)]) (fun s t => True) ?_ ?_
        ·refine Ja<|mv (.bool x7_6)<|mv (.bool x7_6)<|?_
         revert H106
         refine sp (fun hb H110=>?_) fun hb H111=>?_
         ·refine mv (.bool t61.2)<|pT (.bool t61.2)<|ag (.bool t61.2)<|Jd<|?_
          exact cl t61.2 () 0 [0, 1, 2, 3] (by exact ⟨H110, trivial⟩)
         ·refine pa<|pF (.bool false)<|ag (.bool false)<|Jd<|?_
          exact cl false () 0 [0, 1, 2, 3] (by exact ⟨H111, trivial⟩)
        ·rintro x7_7 _ gg H107 _
         try dsimp only at H107
         try dsimp only
         refine Ja<|lf Tryz.runUnderlying81 rfl Tryz.sizeOf76 rfl<|ll 1 (sl p_6 l_6.length) Tryz.isAgg76<|mv (i6 t61.1)<|?_
         refine Q9 (vs := [i6 t61.1]) (cs := [i6 t61.1]) Tryz.underlying76 Tryz.sizeOf3 zeroValue3 rfl rfl rfl rfl rfl rfl rfl (fun b6 => ?_)
         obtain ⟨l72, h_l72, H108⟩ := Je H107; clear H107
         refine Q1 (Y0 (i := 3) (hn := rfl) (rds := [4]) (p := p_6) (sz := 1) (by_ := 8) (f := Qz) (ys := l_6) (ls := ([t61.1] : List Int)) (V := .slice (some ⟨b6, 0, none⟩) 1 1) Tryz.underlying76 (Xv typeInfo3) rfl rfl rfl rfl rfl rfl rfl rfl rfl rfl (fun w L' hF hS hi => W8 (i := 4) hS ((hi 4 (by simp)).trans rfl) rfl rfl) (fun _ => rfl) (fun _ => rfl) h_l72) rfl rfl rfl (fun p_7 => ?_)
         refine lf Tryz.runUnderlying81 rfl Tryz.sizeOf76 rfl<|st (i := 1) [sl p_7 l72.length] [i6 m, str [], sl p_7 l72.length, z0s, z0s] Tryz.sizeOf76 rfl rfl<|Jd<|Ja<|?_
         obtain ⟨t74, h_t74, H109⟩ := Je H108; clear H108
         refine lv (J8 rfl rfl h_t74)<|mv (i6 t74)<|Jd<|?_
         exact cl (x7_7, t74, l72) p_7 m6 [0, 1, 2, 3] (by exact ⟨(by subst hn6; exact H109), trivial⟩)
       ·refine Qp<|J9 70 2<|?_
        exact cl (x7_6, [], l_6, ([] : List Tc)) (p_6, nn) 0 [0, 1, 3, 4] (by exact ⟨H112, trivial⟩)
   ·rintro ⟨x7, m_2, l, l_2⟩ ⟨p_2, p_3⟩ gg H67 _
    try dsimp only at H67
    try dsimp only
    refine Jc<|Jc<|Ja<|mv (.bool x7)<|lv (Jay rfl)<|Jd<|?_
    revert H67
    refine ci (!x7) rfl (fun hb H68=>?_) fun hb H69=>?_
    ·refine Jc<|Ja<|lv (Yi (pl := #[(0, 1), (1, 1), (2, 1), (3, 1), (4, 1)]) (ps := []) (cells := #[i6 0, str [], z0s, z0s, z0s]) zeroValue81 Tryz.runUnderlying81 (fun w => by kernel_rfl) rfl rfl)<|st (i := 1) [i6 0, str [], z0s, z0s, z0s] [i6 0, str [], z0s, z0s, z0s] Tryz.sizeOf81 rfl rfl<|ag (i6 8)<|Jd<|Ji<|?_
     refine Ur 3 <| Ur 2 ?_
     try dsimp only [z1, z2, z3, z4, z5, z6, z7, z8]
     refine J9 3 1<|J9 70 2<|J9 83 6<|?_
     try dsimp only [z1,z2,z5,z6,z7,z8]
     obtain rfl := sj H68
     refine bo 0 4 rfl rfl<|J1 0 rfl (Vm (p := nn) rfl (AllC.nil (G := g_tag_Entry) (h := Wa) (sz := 6)))<|bo 3 0 rfl rfl<|bo 2 3 rfl rfl<|?_
     refine Jcq (i := 1) (vs := [i6 0, str [], sl nn ([] : List Int).length, sl nn ([] : List Tc).length, sl nn (([] : List (List Value)).length)]) (v2 := i6 8) Tryz.isAgg81 Tryz.sizeOf81 rfl rfl rfl rfl rfl (Yg (nn, nn, nn) (i := 2) rfl (by first | rfl | rw [(show (([] : List (List Value)).length) = ([] : List Ta).length from (AllC.nil (G := g_tag_Entry) (h := Wa) (sz := 6)).len)]) (by first | exact Imp.refl _ | exact Imp.of (by rw [(show (([] : List (List Value)).length) = ([] : List Ta).length from (AllC.nil (G := g_tag_Entry) (h := Wa) (sz := 6)).len)] <;> rfl)))
    ·refine Jh<|Jc<|Jc<|Ja<|Q0 (i := 1) (vs := [i6 m, str m_2, sl p_2 l.length, sl p_3 l_2.length, z0s]) Tryz.isAgg81 Tryz.sizeOf81 rfl rfl rfl rfl rfl<|?_
     obtain ⟨t148, h_t148, H70⟩ := Je H69; clear H69
     refine Qt (fun w hF hS => k36 (Ju w) (Jct (i := 2) rfl hS rfl) (Jct (i := 3) rfl hS rfl) (FrN.nil _ _ _) h_t148) call36 rfl rfl rfl<|ag (i6 t148)<|Jd<|Jc<|Ja<|mv (i6 t148)<|lv (Vk rfl rfl)<|Jd<|?_
     revert H70
     refine ci (decide (t148 ≠ 0)) rfl (fun hb H71=>?_) fun hb H72=>?_
     ·refine Jc<|Ja<|lv (Yi (pl := #[(0, 1), (1, 1), (2, 1), (3, 1), (4, 1)]) (ps := []) (cells := #[i6 0, str [], z0s, z0s, z0s]) zeroValue81 Tryz.runUnderlying81 (fun w => by kernel_rfl) rfl rfl)<|mv (i6 t148)<|st (i := 1) [i6 0, str [], z0s, z0s, z0s] [i6 0, str [], z0s, z0s, z0s] Tryz.sizeOf81 rfl rfl<|ag (i6 t148)<|Jd<|Ji<|?_
      refine Ur 3 <| Ur 2 ?_
      try dsimp only [z1, z2, z3, z4, z5, z6, z7, z8]
      refine J9 3 1<|J9 70 2<|J9 83 6<|?_
      try dsimp only [z1,z2,z5,z6,z7,z8]
      obtain rfl := sj H71
      refine bo 0 4 rfl rfl<|J1 0 rfl (Vm (p := nn) rfl (AllC.nil (G := g_tag_Entry) (h := Wa) (sz := 6)))<|bo 3 0 rfl rfl<|bo 2 3 rfl rfl<|?_
      refine Jcq (i := 1) (vs := [i6 0, str [], sl nn ([] : List Int).length, sl nn ([] : List Tc).length, sl nn (([] : List (List Value)).length)]) (v2 := i6 t148) Tryz.isAgg81 Tryz.sizeOf81 rfl rfl rfl rfl rfl (Yg (nn, nn, nn) (i := 2) rfl (by first | rfl | rw [(show (([] : List (List Value)).length) = ([] : List Ta).length from (AllC.nil (G := g_tag_Entry) (h := Wa) (sz := 6)).len)]) (by first | exact Imp.refl _ | exact Imp.of (by rw [(show (([] : List (List Value)).length) = ([] : List Ta).length from (AllC.nil (G := g_tag_Entry) (h := Wa) (sz := 6)).len)] <;> rfl)))
     ·refine Jh<|Jc<|Ja<|Q0 (i := 1) (vs := [i6 m, str m_2, sl p_2 l.length, sl p_3 l_2.length, z0s]) Tryz.isAgg81 Tryz.sizeOf81 rfl rfl rfl rfl rfl<|st (i := 1) [i6 m, str m_2, sl p_2 l.length, sl p_3 l_2.length, z0s] [i6 m, str m_2, sl p_2 l.length, sl p_3 l_2.length, z0s] Tryz.sizeOf81 rfl rfl<|ag (i6 0)<|Jd<|Ji<|?_
      try dsimp only [z1, z2, z3, z4, z5, z6, z7, z8]
      refine J9 83 6 ?_
      obtain rfl := sj H72
      refine bo 0 4 rfl rfl<|J1 0 rfl (Vm (p := nn) rfl (AllC.nil (G := g_tag_Entry) (h := Wa) (sz := 6)))<|bo 3 0 rfl rfl<|bo 2 3 rfl rfl<|?_
      refine Jcq (i := 1) (vs := [i6 m, str m_2, sl p_2 l.length, sl p_3 l_2.length, sl nn (([] : List (List Value)).length)]) (v2 := i6 0) Tryz.isAgg81 Tryz.sizeOf81 rfl rfl rfl rfl rfl (Yg (p_2, p_3, nn) (i := 2) rfl (by first | rfl | rw [(show (([] : List (List Value)).length) = ([] : List Ta).length from (AllC.nil (G := g_tag_Entry) (h := Wa) (sz := 6)).len)]) (by first | exact Imp.refl _ | exact Imp.of (by rw [(show (([] : List (List Value)).length) = ([] : List Ta).length from (AllC.nil (G := g_tag_Entry) (h := Wa) (sz := 6)).len)] <;> rfl)))
end Go.Proofs.YtkbiccgjkiifpaaGreatDoor
