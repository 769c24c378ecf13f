/- TopCarried, checks: the walks, printed by our generator; each follows its model. Conditions: the model yields a value. -/
import Derived.Test.YtdcppgplkfkjiaaGreatDoorMd
import Derived.Test.YtdcppgplkfkjiaaGreatDoorLx2
import Derived.Test.YtdcppgplkfkjiaaGreatDoorProg
namespace Go.Proofs.YtdcppgplkfkjiaaGreatDoor
open Go Go.Vc Go.Md Go.M Go.Lx Tryz
set_option maxRecDepth 100000
set_option maxHeartbeats 4000000
set_option linter.unusedVariables false
theorem mixed : prog.follows .mixedOrders = true := by kernel_rfl
abbrev Qc (x : Int) : List Value := [i6 x]
abbrev J6 : Nat → Value
  | 0 => .func (.func 64) #[] #[]
  | _ => .nilFunc
def Jav (m : ((List Int) → Int → Option (Unit))) (w : World) (args : List Value) (post : Value → World → Prop) : Prop :=
  ∃ (a0 : (List Int)) (v0 : Value) (a1 : Int) (r : Unit), FrS (fun b => w.heap[b]?) 1 v0 (a0.map Qc) ∧ args = [v0, i6 a1] ∧ m a0 a1 = some r ∧ post = fun v' w' => v' = (.tuple #[]) ∧ Grow w w'
abbrev Jl (x : T_tag_Ratio) : List Value := [i6 x.Num, i6 x.Den]
abbrev Xc (x : Int) : List Value := [.int .u8 x]
def Ut (m : (T_tag_Segment → Option (Bool))) (w : World) (args : List Value) (post : Value → World → Prop) : Prop :=
  ∃ (a0 : T_tag_Segment) (r : Bool), args = [.agg #[i6 a0.Kind, str a0.Text]] ∧ m a0 = some r ∧ post = fun v' w' => v' = (.bool r) ∧ Grow w w'
abbrev Jm (x : T_tag_Span) : List Value := [i6 x.From, i6 x.To]
abbrev e_u64 (x : Int) : List Value := [.int .u64 x]
inductive g_tag_Entry (h : Jo) : (Nat → Value) → T_tag_Entry → Prop
  | mk {c : Nat → Value} {x : T_tag_Entry} (h0 : c 0 = i6 x.Tag) (h1 : c 1 = i6 x.Value.Kind) (h2 : c 2 = str x.Value.Text) (h3 : FrS h 1 (c 3) (x.Value.Ints.map Qc)) (h4 : FrS h 2 (c 4) (x.Value.Ratios.map Jl)) (h5 : FrS h 6 (c 5) ((List.range x.Value.Entries.length).map (elC h (c 5) 6))) (h6 : ∀ (i : Nat) (y : T_tag_Entry), x.Value.Entries[i]? = some y → g_tag_Entry h (Xt h (c 5) 6 i) y) : g_tag_Entry h c x
instance : Mon g_tag_Entry := ⟨fun k c x f => by
  induction f with
  | mk h0 h1 h2 h3 h4 h5 h6 ih => exact .mk h0 h1 h2 (h3.mono k) (h4.mono k) (frsMono h5 k) (fun i y hy => by have e_ := elMonoE h5 k hy; rw [← e_]; exact ih i y hy)⟩
def gs_int (h : Jo) (c : Nat → Value) (x : (List Int)) : Prop := FrS h 1 (c 0) (x.map Qc)
instance : Mon gs_int := ⟨fun k _ _ f => FrS.mono f k⟩
def gs_tag_Ratio (h : Jo) (c : Nat → Value) (x : (List T_tag_Ratio)) : Prop := FrS h 2 (c 0) (x.map Jl)
instance : Mon gs_tag_Ratio := ⟨fun k _ _ f => FrS.mono f k⟩
def gs_tag_Entry (h : Jo) (c : Nat → Value) (x : (List T_tag_Entry)) : Prop := FrN h 6 (c 0) g_tag_Entry x
instance : Mon gs_tag_Entry := ⟨fun k _ _ f => FrN.mono f k⟩
theorem U2 {h : Jo} {c : Nat → Value} {x : (List T_tag_Entry)} (_ : gs_tag_Entry h c x) : (List.range 1).map c = [c 0] := rfl
def g_tag_Value (h : Jo) (c : Nat → Value) (x : T_tag_Value) : Prop := c 0 = i6 x.Kind ∧ c 1 = str x.Text ∧ gs_int h (fun j => c (2 + j)) x.Ints ∧ gs_tag_Ratio h (fun j => c (3 + j)) x.Ratios ∧ gs_tag_Entry h (fun j => c (4 + j)) x.Entries
instance : Mon g_tag_Value := ⟨fun k _ _ f => by obtain ⟨h0, h1, h2, h3, h4⟩ := f; exact ⟨h0, h1, Mon.mono k _ _ h2, Mon.mono k _ _ h3, Mon.mono k _ _ h4⟩⟩
theorem cg_tag_Value {h : Jo} {c : Nat → Value} {x : T_tag_Value} (f : g_tag_Value h c x) : (List.range 5).map c = [i6 x.Kind, str x.Text, c 2, c 3, c 4] := by
  obtain ⟨h0, h1, h2, h3, h4⟩ := f
  show [c 0, c 1, c 2, c 3, c 4] = _
  simp only [h0, h1]
theorem Xj {h : Jo} {c : Nat → Value} {x : T_tag_Value} (f : g_tag_Value h c x) : gs_int h (fun j => c (2 + j)) x.Ints := by
  obtain ⟨h0, h1, h2, h3, h4⟩ := f; exact h2
theorem Xh {h : Jo} {c : Nat → Value} {x : T_tag_Value} (f : g_tag_Value h c x) : gs_tag_Ratio h (fun j => c (3 + j)) x.Ratios := by
  obtain ⟨h0, h1, h2, h3, h4⟩ := f; exact h3
theorem Qt {h : Jo} {c : Nat → Value} {x : T_tag_Value} (f : g_tag_Value h c x) : gs_tag_Entry h (fun j => c (4 + j)) x.Entries := by
  obtain ⟨h0, h1, h2, h3, h4⟩ := f; exact h4
theorem g_tag_Entry_iff {h : Jo} {c : Nat → Value} {x : T_tag_Entry} : g_tag_Entry h c x ↔ (c 0 = i6 x.Tag ∧ g_tag_Value h (fun j => c (1 + j)) x.Value) :=
  ⟨fun f => by cases f with | mk h0 h1 h2 h3 h4 h5 h6 => exact ⟨h0, ⟨h1, h2, h3, h4, ⟨h5, h6⟩⟩⟩, fun ⟨h0, ⟨h1, h2, h3, h4, ⟨h5, h6⟩⟩⟩ => .mk h0 h1 h2 h3 h4 h5 h6⟩
theorem Yh {h : Jo} {c : Nat → Value} {x : T_tag_Entry} (f : g_tag_Entry h c x) : (List.range 6).map c = [i6 x.Tag, i6 x.Value.Kind, str x.Value.Text, c 3, c 4, c 5] := by
  obtain ⟨h0, h1⟩ := g_tag_Entry_iff.1 f
  have hc1 := cg_tag_Value h1
  simp only [List.range, List.range.loop, List.map_cons, List.map_nil, Nat.reduceAdd, List.cons.injEq, and_true] at hc1
  show [c 0, c 1, c 2, c 3, c 4, c 5] = _
  simp only [h0, hc1]
theorem Jq {h : Jo} {c : Nat → Value} {x : T_tag_Entry} (f : g_tag_Entry h c x) : g_tag_Value h (fun j => c (1 + j)) x.Value := by
  obtain ⟨h0, h1⟩ := g_tag_Entry_iff.1 f; exact h1
def g_tag_Segment (h : Jo) (c : Nat → Value) (x : T_tag_Segment) : Prop := c 0 = i6 x.Kind ∧ c 1 = str x.Text
instance : Mon g_tag_Segment := ⟨fun k _ _ f => by obtain ⟨h0, h1⟩ := f; exact ⟨h0, h1⟩⟩
theorem cg_tag_Segment {h : Jo} {c : Nat → Value} {x : T_tag_Segment} (f : g_tag_Segment h c x) : (List.range 2).map c = [i6 x.Kind, str x.Text] := by
  obtain ⟨h0, h1⟩ := f
  show [c 0, c 1] = _
  simp only [h0, h1]
def Vl (m : (T_tag_Entry → Int → Option (Int))) (w : World) (args : List Value) (post : Value → World → Prop) : Prop :=
  ∃ (a0 : T_tag_Entry) (v0_1_2 : Value) (v0_1_3 : Value) (v0_1_4 : Value) (a1 : Int) (r : Int), FrS (fun b => w.heap[b]?) 1 v0_1_2 (a0.Value.Ints.map Qc) ∧ FrS (fun b => w.heap[b]?) 2 v0_1_3 (a0.Value.Ratios.map Jl) ∧ FrN (fun b => w.heap[b]?) 6 v0_1_4 g_tag_Entry a0.Value.Entries ∧ args = [.agg #[i6 a0.Tag, i6 a0.Value.Kind, str a0.Value.Text, v0_1_2, v0_1_3, v0_1_4], i6 a1] ∧ m a0 a1 = some r ∧ post = fun v' w' => v' = (i6 r) ∧ Grow w w'
theorem run_eqT26 (d : Nat) (w : World) (a0 b0 : Int) (a1 b1 : Int) : (Op.equalIn (d + 2) 26 (.agg #[i6 a0, i6 a1]) (.agg #[i6 b0, i6 b1])).run prog w = .ok (decide (a0 = b0 ∧ a1 = b1)) w := by
  rw [run_equalIn_struct w (d + 1) 26 _ _ (by simp only [Program.fieldsOf, underlying26]) stoodInHeld26]
  simp only [Program.fieldsOf, underlying26, Op.eqFields]
  simp [part, run_equalIn_int, run_equalIn_strL, run_equalIn_bool', underlying3]
  repeat' split
  all_goals simp_all
theorem run_eq_api_Place (w : World) (x y : T_api_Place) : (Op.equalIn Op.maxDepth 26 (.agg #[i6 x.Lat, i6 x.Lon]) (.agg #[i6 y.Lat, i6 y.Lon])).run prog w = .ok (Jat x y) w :=
  run_eqT26 9998 w _ _ _ _
theorem k49 {a0 : (List T_tag_Entry)} {v0 : Value} {a1 : Int} {a2 : (T_tag_Entry → Int → Option (Int))} {v2 : Value} {r : Int × Bool} {w : World} {h : Jo} (hw : Know h w Y2) (f0 : FrN h 6 v0 g_tag_Entry a0) (f2 : FnH prog h v2 (Vl a2)) (H : Yg a0 a1 a2 = some r) : Does prog 49 (List.toArray [v0, i6 a1, v2]) w (fun v w' => v = (.tuple #[i6 r.1, .bool r.2]) ∧ Grow w w') := by
 refine enter (n := 49) func49 rfl rfl rfl Y2 [] (Sat.nil _ _)<|Jc<|Ja<|ag (i6 0)<|ag (.bool false)<|Jd<|Jc<|Ja<|mv v0<|lv (Yv underlying36 rfl f0)<|ag (i6 (a0.length : Int))<|Jd<|Jc<|Ja<|mv (i6 (a0.length : Int))<|ag (i6 0)<|ag (i6 (a0.length : Int))<|Jd<|?_
 refine Q3 (r := r) (σ := Int) (τ := Unit) (fun s => Qu a0 a1 a2 s) (fun s t => [(0, v0), (1, i6 a1), (2, v2), (8, i6 (a0.length : Int)), (9, i6 s)]) (fun s t => []) (fun s t => True) ?_ ?_
 ·refine Jx ?_
  refine Zn (σ := Int × Int) (τ := Unit) (fun next2 s => Qg a0 a1 a2 next2 s.1 s.2) (fun s t => [(0, v0), (1, i6 a1), (2, v2), (8, i6 (a0.length : Int)), (9, i6 s.1), (10, i6 s.2)]) (fun s t => []) (fun s t => True) (0, (a0.length : Int)) () [] H (by exact trivial) (by exact ⟨rfl, rfl, rfl, rfl, rfl, rfl, trivial⟩) (by decide) rfl ?_
  rintro ⟨x9_3, x10_2⟩ _ m2 gg H21 _
  clear H
  try dsimp only at H21
  generalize hn2 : it (fun next2 s => Qg a0 a1 a2 next2 s.1 s.2) m2 = next2 at H21
  try dsimp only
  refine Jc<|Jc<|Ja<|mv (i6 x9_3)<|mv (i6 x10_2)<|lv (Yc rfl rfl)<|Jd<|?_
  revert H21
  refine ci (decide (x9_3 < x10_2)) rfl (fun hb H22=>?_) fun hb H30=>?_
  ·refine Ji<|Jx<|Jc<|Ja<|mv (i6 x9_3)<|mv (i6 x10_2)<|?_
   obtain ⟨t20, h_t20, H23⟩ := Je H22; clear H22
   refine lv (J1 rfl rfl h_t20)<|lv (W9 runUnderlying3 runUnderlying101 rfl (W5 _))<|?_
   obtain ⟨t22, h_t22, H24⟩ := Je H23; clear H23
   refine lv (r_shrG rfl rfl rfl h_t22)<|lv (W9 runUnderlying101 runUnderlying3 rfl (wr_i64 _))<|ag (i6 (V0 t22))<|Jd<|Jc<|Ja<|mv v2<|mv v0<|mv (i6 (V0 t22))<|?_
   obtain ⟨t27, h_t27, H25⟩ := Je H24; clear H24
   refine lv (Xq underlying36 sizeOf62 rfl rfl f0.frs (f0.ix h_t27))<|Qs (fun w hF hS => Zb (f := (elC h v0 6)) (i := (V0 t22)) (sz := 6) (j := 0) (vs := [i6 t27.Tag, i6 t27.Value.Kind, str t27.Value.Text, (Xt h v0 6 (Int.toNat (V0 t22)) 3), (Xt h v0 6 (Int.toNat (V0 t22)) 4), (Xt h v0 6 (Int.toNat (V0 t22)) 5)]) isAgg62 sizeOf62 rfl rfl (f0.frs.row (hw.now hF)) (f0.ix h_t27) (rd_of (Yh (f0.at h_t27)) rfl)) rfl rfl rfl<|mv (i6 a1)<|?_
   obtain ⟨t30, h_t30, H26⟩ := Je H25; clear H25
   refine l_callV (R := Vl a2) (r := i6 t30) (v := v2) (fun w hF hS => ⟨(f2.mono (hw.now hF)), ⟨t27, _, _, _, a1, _, ((show FrS h 1 (Xt h v0 6 (Int.toNat (V0 t22)) 3) (t27.Value.Ints.map Qc) from (Xj (Jq (f0.at h_t27)))).mono (hw.now hF)), ((show FrS h 2 (Xt h v0 6 (Int.toNat (V0 t22)) 4) (t27.Value.Ratios.map Jl) from (Xh (Jq (f0.at h_t27)))).mono (hw.now hF)), ((show FrN h 6 (Xt h v0 6 (Int.toNat (V0 t22)) 5) g_tag_Entry t27.Value.Entries from (Qt (Jq (f0.at h_t27)))).mono (hw.now hF)), rfl, h_t30, rfl⟩⟩) rfl rfl rfl rfl<|lv (Yc rfl rfl)<|Jd<|?_
   revert H26
   refine ci (decide (t30 < 0)) rfl (fun hb H27=>?_) fun hb H29=>?_
   ·refine Ja<|mv (i6 (V0 t22))<|?_
    obtain ⟨t33, h_t33, H28⟩ := Je H27; clear H27
    refine lv (J1 rfl rfl h_t33)<|ag (i6 t33)<|Jd<|?_
    exact cl (t33, x10_2) () m2 [] (by exact ⟨(by subst hn2; exact H28), trivial⟩)
   ·refine Ja<|mv (i6 (V0 t22))<|ag (i6 (V0 t22))<|Jd<|?_
    exact cl (x9_3, (V0 t22)) () m2 [] (by exact ⟨(by subst hn2; exact H29), trivial⟩)
  ·refine Xx ?_
   exact cl x9_3 () 0 [] (by exact ⟨H30, trivial⟩)
 ·rintro x9 _ gg H16 _
  try dsimp only at H16
  try dsimp only
  refine Jc<|Ja<|mv (i6 x9)<|mv (i6 x9)<|mv (i6 (a0.length : Int))<|lv (Yc rfl rfl)<|mv (.bool (decide (x9 < (a0.length : Int))))<|?_
  revert H16
  refine sp (fun hb H17=>?_) fun hb H20=>?_
  ·refine mv v2<|mv v0<|mv (i6 x9)<|?_
   obtain ⟨t43, h_t43, H18⟩ := Je H17; clear H17
   refine lv (Xq underlying36 sizeOf62 rfl rfl f0.frs (f0.ix h_t43))<|Qs (fun w hF hS => Zb (f := (elC h v0 6)) (i := x9) (sz := 6) (j := 0) (vs := [i6 t43.Tag, i6 t43.Value.Kind, str t43.Value.Text, (Xt h v0 6 (Int.toNat x9) 3), (Xt h v0 6 (Int.toNat x9) 4), (Xt h v0 6 (Int.toNat x9) 5)]) isAgg62 sizeOf62 rfl rfl (f0.frs.row (hw.now hF)) (f0.ix h_t43) (rd_of (Yh (f0.at h_t43)) rfl)) rfl rfl rfl<|mv (i6 a1)<|?_
   obtain ⟨t46, h_t46, H19⟩ := Je H18; clear H18
   refine l_callV (R := Vl a2) (r := i6 t46) (v := v2) (fun w hF hS => ⟨(f2.mono (hw.now hF)), ⟨t43, _, _, _, a1, _, ((show FrS h 1 (Xt h v0 6 (Int.toNat x9) 3) (t43.Value.Ints.map Qc) from (Xj (Jq (f0.at h_t43)))).mono (hw.now hF)), ((show FrS h 2 (Xt h v0 6 (Int.toNat x9) 4) (t43.Value.Ratios.map Jl) from (Xh (Jq (f0.at h_t43)))).mono (hw.now hF)), ((show FrN h 6 (Xt h v0 6 (Int.toNat x9) 5) g_tag_Entry t43.Value.Entries from (Qt (Jq (f0.at h_t43)))).mono (hw.now hF)), rfl, h_t46, rfl⟩⟩) rfl rfl rfl rfl<|lv (Xg rfl rfl)<|pT (.bool (decide (t46 = 0)))<|ag (i6 x9)<|ag (.bool (decide (t46 = 0)))<|Jd<|Jh<|?_
   obtain rfl := sj H19
   refine Z2 (v1 := i6 x9) (v2 := .bool (decide (t46 = 0))) rfl rfl rfl (fin rfl)
  ·refine pa<|pa<|pa<|pa<|pa<|pa<|pa<|pa<|pF (.bool false)<|ag (i6 x9)<|ag (.bool false)<|Jd<|Jh<|?_
   obtain rfl := sj H20
   refine Z2 (v1 := i6 x9) (v2 := .bool false) rfl rfl rfl (fin rfl)
theorem k50 {a0 : T_tag_Entry} {v0_1_2 : Value} {v0_1_3 : Value} {v0_1_4 : Value} {a1 : Int} {r : Int} {w : World} {h : Jo} (hw : Know h w Y2) (f0_1_2 : FrS h 1 v0_1_2 (a0.Value.Ints.map Qc)) (f0_1_3 : FrS h 2 v0_1_3 (a0.Value.Ratios.map Jl)) (f0_1_4 : FrN h 6 v0_1_4 g_tag_Entry a0.Value.Entries) (H : Uh a0 a1 = some r) : Does prog 50 (List.toArray [.agg #[i6 a0.Tag, i6 a0.Value.Kind, str a0.Value.Text, v0_1_2, v0_1_3, v0_1_4], i6 a1]) w (fun v w' => v = (i6 r) ∧ Grow w w') := by
 refine enter (n := 15) func50 rfl rfl rfl Y2 [] (Sat.nil _ _)<|Jc<|Ja<|?_
 refine Z5 (cs := [i6 a0.Tag, i6 a0.Value.Kind, str a0.Value.Text, v0_1_2, v0_1_3, v0_1_4]) rfl rfl rfl rfl (fun b1 => ?_)
 refine ag (i6 0)<|Jd<|Jc<|Jx<|Jc<|Ja<|lf runUnderlying62 rfl sizeOf3 rfl<|ll 0 (i6 a0.Tag) isAgg3<|mv (i6 a1)<|lv (Yc rfl rfl)<|ag (.bool (decide (a0.Tag < a1)))<|Jd<|?_
 revert H
 refine ci (decide (a0.Tag < a1)) rfl (fun hb H5=>?_) fun hb H6=>?_
 ·refine Jc<|Ja<|ag (i6 (-1))<|Jd<|Jh<|?_
  obtain rfl := sj H5
  exact r1 (i6 (-1))
 ·refine Jc<|Ja<|lf runUnderlying62 rfl sizeOf3 rfl<|ll 0 (i6 a0.Tag) isAgg3<|mv (i6 a1)<|lv (Vz rfl rfl)<|ag (.bool (decide (a1 < a0.Tag)))<|Jd<|?_
  revert H6
  refine ci (decide (a1 < a0.Tag)) rfl (fun hb H7=>?_) fun hb H8=>?_
  ·refine Jc<|Ja<|ag (i6 1)<|Jd<|Jh<|?_
   obtain rfl := sj H7
   exact r1 (i6 1)
  ·refine Ji<|Jc<|Ja<|ag (i6 0)<|Jd<|Jh<|?_
   obtain rfl := sj H8
   exact r1 (i6 0)
theorem k22 {a0 : (List T_tag_Entry)} {v0 : Value} {a1 : Int} {r : Int × Bool} {w : World} {h : Jo} (hw : Know h w Y2) (f0 : FrN h 6 v0 g_tag_Entry a0) (H : W2 a0 a1 = some r) : Does prog 22 (List.toArray [v0, i6 a1]) w (fun v w' => v = (.tuple #[i6 r.1, .bool r.2]) ∧ Grow w w') := by
 refine enter (n := 11) func22 rfl rfl rfl Y2 [] (Sat.nil _ _)<|Jc<|Ja<|ag (i6 0)<|ag (.bool false)<|Jd<|Jc<|Ja<|mv v0<|mv (i6 a1)<|?_
 obtain ⟨t8, h_t8, H2⟩ := Je H; clear H
 refine Qo (fun w hF hS => k49 (Jn w) (f0.mono (hw.now hF)) (FnH.mk ⟨50, #[], #[], rfl, call50, fun args2 post2 w2 hk2 hR2 => by obtain ⟨a0_, v0_1_2_, v0_1_3_, v0_1_4_, a1_, r_, fa0_1_2_, fa0_1_3_, fa0_1_4_, rfl, H_, rfl⟩ := hR2; exact k50 (Jn w2) fa0_1_2_ fa0_1_3_ fa0_1_4_ H_⟩) h_t8) call49 rfl rfl rfl<|lv (Jv (v := i6 t8.1) rfl rfl)<|lv (Jv (v := .bool t8.2) rfl rfl)<|ag (i6 t8.1)<|ag (.bool t8.2)<|Jd<|Jh<|?_
 obtain rfl := sj H2
 refine Z2 (v1 := i6 t8.1) (v2 := .bool t8.2) rfl rfl rfl (fin rfl)
theorem k16 {a0 : Int} {a1 : Int} {a2 : Int} {r : Bool} (H : Yk a0 a1 a2 = some r) : Ret prog 16 [i6 a0, i6 a1, i6 a2] (.bool r) := by
 refine Xr (n := 15) func16 rfl rfl rfl (fun wd => ?_)
 refine Jc<|Ja<|ag (.bool false)<|Jd<|Jc<|Ja<|mv (i6 a0)<|mv (i6 a1)<|lv (Yc rfl rfl)<|mv (.bool (decide (a0 < a1)))<|?_
 revert H
 refine sp (fun hb H3=>?_) fun hb H4=>?_
 ·refine pa<|pa<|pa<|pT (.bool true)<|ag (.bool true)<|Jd<|Jh<|?_
  obtain rfl := sj H3
  exact r1 (.bool true)
 ·refine mv (i6 a0)<|mv (i6 a2)<|lv (Vz rfl rfl)<|pF (.bool (decide (a2 < a0)))<|ag (.bool (decide (a2 < a0)))<|Jd<|Jh<|?_
  obtain rfl := sj H4
  exact r1 (.bool (decide (a2 < a0)))
theorem k71 {a0 : Int} {r : Int} (H : Zc a0 = some r) : Ret prog 71 [i6 a0] (i6 r) := by
 refine Xr (n := 16) func71 rfl rfl rfl (fun wd => ?_)
 refine Jc<|Ja<|ag (i6 0)<|Jd<|Jc<|Jc<|Ja<|mv (i6 a0)<|Jd<|Jx<|?_
 refine Q3 (r := r) (σ := Bool) (τ := Unit) (fun s => Wz a0 s) (fun s t => [(3, i6 a0), (4, .bool s)]) (fun s t => []) (fun s t => True) ?_ ?_
 ·refine Jc<|Ja<|lv (Xg rfl rfl)<|ag (.bool (decide (a0 = 1)))<|Jd<|?_
  revert H
  refine ci (decide (a0 = 1)) rfl (fun hb H37=>?_) fun hb H38=>?_
  ·refine Ji ?_
   exact cl (decide (a0 = 1)) () 0 [] (by exact ⟨H37, trivial⟩)
  ·refine Jc<|Ja<|lv (Xg rfl rfl)<|ag (.bool (decide (a0 = 2)))<|Jd<|?_
   revert H38
   refine ci (decide (a0 = 2)) rfl (fun hb H39=>?_) fun hb H40=>?_
   ·refine Ji ?_
    exact cl (decide (a0 = 2)) () 0 [] (by exact ⟨H39, trivial⟩)
   ·refine Jc<|Ja<|lv (Xg rfl rfl)<|ag (.bool (decide (a0 = 7)))<|Jd<|?_
    revert H40
    refine ci (decide (a0 = 7)) rfl (fun hb H41=>?_) fun hb H42=>?_
    ·refine Ji ?_
     exact cl (decide (a0 = 7)) () 0 [] (by exact ⟨H41, trivial⟩)
    ·refine Ja<|lv (Xg rfl rfl)<|ag (.bool (decide (a0 = 13)))<|Jd<|?_
     exact cl (decide (a0 = 13)) () 0 [] (by exact ⟨H42, trivial⟩)
 ·rintro x4 _ gg H22 _
  try dsimp only at H22
  try dsimp only
  revert H22
  refine ci x4 rfl (fun hb H23=>?_) fun hb H24=>?_
  ·refine Jc<|Ja<|ag (i6 1)<|Jd<|Jh<|?_
   obtain rfl := sj H23
   exact r1 (i6 1)
  ·refine Jc<|Ja<|lv (Xg rfl rfl)<|ag (.bool (decide (a0 = 3)))<|Jd<|?_
   revert H24
   refine ci (decide (a0 = 3)) rfl (fun hb H25=>?_) fun hb H26=>?_
   ·refine Jc<|Ja<|ag (i6 2)<|Jd<|Jh<|?_
    obtain rfl := sj H25
    exact r1 (i6 2)
   ·refine Jc<|Jc<|Ja<|lv (Xg rfl rfl)<|ag (.bool (decide (a0 = 4)))<|Jd<|?_
    revert H26
    refine ci (decide (a0 = 4)) rfl (fun hb H27=>?_) fun hb H32=>?_
    ·refine Ji ?_
     revert H27
     refine ci (decide (a0 = 4)) rfl (fun hb H28=>?_) fun hb H29=>?_
     ·refine Jc<|Ja<|ag (i6 4)<|Jd<|Jh<|?_
      obtain rfl := sj H28
      exact r1 (i6 4)
     ·refine Jc<|Ja<|lv (Xg rfl rfl)<|ag (.bool (decide (a0 = 5)))<|Jd<|?_
      revert H29
      refine ci (decide (a0 = 5)) rfl (fun hb H30=>?_) fun hb H31=>?_
      ·refine Jc<|Ja<|ag (i6 8)<|Jd<|Jh<|?_
       obtain rfl := sj H30
       exact r1 (i6 8)
      ·refine Ji<|Jc<|Ja<|ag (i6 0)<|Jd<|Jh<|?_
       obtain rfl := sj H31
       exact r1 (i6 0)
    ·refine Ja<|lv (Xg rfl rfl)<|ag (.bool (decide (a0 = 9)))<|Jd<|?_
     revert H32
     refine ci (decide (a0 = 9)) rfl (fun hb H33=>?_) fun hb H34=>?_
     ·refine Jc<|Ja<|ag (i6 4)<|Jd<|Jh<|?_
      obtain rfl := sj H33
      exact r1 (i6 4)
     ·refine Jc<|Ja<|lv (Xg rfl rfl)<|ag (.bool (decide (a0 = 5)))<|Jd<|?_
      revert H34
      refine ci (decide (a0 = 5)) rfl (fun hb H35=>?_) fun hb H36=>?_
      ·refine Jc<|Ja<|ag (i6 8)<|Jd<|Jh<|?_
       obtain rfl := sj H35
       exact r1 (i6 8)
      ·refine Ji<|Jc<|Ja<|ag (i6 0)<|Jd<|Jh<|?_
       obtain rfl := sj H36
       exact r1 (i6 0)
theorem k72 {a0 : Int} {r : Bool} (H : tag_isInts a0 = some r) : Ret prog 72 [i6 a0] (.bool r) := by
 refine Xr (n := 17) func72 rfl rfl rfl (fun wd => ?_)
 refine Jc<|Ja<|ag (.bool false)<|Jd<|Jc<|Ja<|mv (i6 a0)<|lv (Xg rfl rfl)<|mv (.bool (decide (a0 = 1)))<|?_
 revert H
 refine sp (fun hb H7=>?_) fun hb H8=>?_
 ·refine pa<|pa<|pT (.bool true)<|mv (.bool true)<|pa<|pa<|pT (.bool true)<|mv (.bool true)<|pa<|pa<|pT (.bool true)<|ag (.bool true)<|Jd<|Jh<|?_
  obtain rfl := sj H7
  exact r1 (.bool true)
 ·refine mv (i6 a0)<|lv (Xg rfl rfl)<|pF (.bool (decide (a0 = 3)))<|mv (.bool (decide (a0 = 3)))<|?_
  revert H8
  refine sp (fun hb H9=>?_) fun hb H10=>?_
  ·refine pa<|pa<|pT (.bool true)<|mv (.bool true)<|pa<|pa<|pT (.bool true)<|ag (.bool true)<|Jd<|Jh<|?_
   obtain rfl := sj H9
   exact r1 (.bool true)
  ·refine mv (i6 a0)<|lv (Xg rfl rfl)<|pF (.bool (decide (a0 = 4)))<|mv (.bool (decide (a0 = 4)))<|?_
   revert H10
   refine sp (fun hb H11=>?_) fun hb H12=>?_
   ·refine pa<|pa<|pT (.bool true)<|ag (.bool true)<|Jd<|Jh<|?_
    obtain rfl := sj H11
    exact r1 (.bool true)
   ·refine mv (i6 a0)<|lv (Xg rfl rfl)<|pF (.bool (decide (a0 = 9)))<|ag (.bool (decide (a0 = 9)))<|Jd<|Jh<|?_
    obtain rfl := sj H12
    exact r1 (.bool (decide (a0 = 9)))
theorem k73 {a0 : Int} {r : Bool} (H : tag_isText a0 = some r) : Ret prog 73 [i6 a0] (.bool r) := by
 refine Xr (n := 9) func73 rfl rfl rfl (fun wd => ?_)
 refine Jc<|Ja<|ag (.bool false)<|Jd<|Jc<|Ja<|mv (i6 a0)<|lv (Xg rfl rfl)<|mv (.bool (decide (a0 = 2)))<|?_
 revert H
 refine sp (fun hb H3=>?_) fun hb H4=>?_
 ·refine pa<|pa<|pT (.bool true)<|ag (.bool true)<|Jd<|Jh<|?_
  obtain rfl := sj H3
  exact r1 (.bool true)
 ·refine mv (i6 a0)<|lv (Xg rfl rfl)<|pF (.bool (decide (a0 = 7)))<|ag (.bool (decide (a0 = 7)))<|Jd<|Jh<|?_
  obtain rfl := sj H4
  exact r1 (.bool (decide (a0 = 7)))
theorem k43 {a0 : T_tag_Value} {v0_2 : Value} {v0_3 : Value} {v0_4 : Value} {r : Int} {w : World} {h : Jo} (hw : Know h w Y2) (f0_2 : FrS h 1 v0_2 (a0.Ints.map Qc)) (f0_3 : FrS h 2 v0_3 (a0.Ratios.map Jl)) (f0_4 : FrN h 6 v0_4 g_tag_Entry a0.Entries) (H : Vq a0 = some r) : Does prog 43 (List.toArray [.agg #[i6 a0.Kind, str a0.Text, v0_2, v0_3, v0_4]]) w (fun v w' => v = (i6 r) ∧ Grow w w') := by
 refine enter (n := 46) func43 rfl rfl rfl Y2 [] (Sat.nil _ _)<|Jc<|Ja<|?_
 refine Z5 (cs := [i6 a0.Kind, str a0.Text, v0_2, v0_3, v0_4]) rfl rfl rfl rfl (fun b1 => ?_)
 refine ag (i6 0)<|Jd<|Jc<|Jx<|Jc<|Ja<|lf runUnderlying38 rfl sizeOf3 rfl<|ll 0 (i6 a0.Kind) isAgg3<|?_
 obtain ⟨t6, h_t6, H31⟩ := Je H; clear H
 refine Xy (k71 h_t6) call71 rfl rfl rfl<|lv (Xg rfl rfl)<|ag (.bool (decide (t6 = 0)))<|Jd<|?_
 revert H31
 refine ci (decide (t6 = 0)) rfl (fun hb H32=>?_) fun hb H33=>?_
 ·refine Jc<|Ja<|ag (i6 10)<|Jd<|Jh<|?_
  obtain rfl := sj H32
  exact r1 (i6 10)
 ·refine Jc ?_
  refine Q3 (r := r) (σ := Bool) (τ := Unit) (fun s => Vg a0 s) (fun s t => [(1, .pointer (some ⟨b1, 0, none⟩)), (8, .bool s)]) (fun s t => [Jg b1 [i6 a0.Kind, str a0.Text, v0_2, v0_3, v0_4] 38]) (fun s t => True) ?_ ?_
  ·refine Ja<|lf runUnderlying38 rfl sizeOf3 rfl<|ll 0 (i6 a0.Kind) isAgg3<|?_
   obtain ⟨t11, h_t11, H58⟩ := Je H33; clear H33
   refine Xy (k72 h_t11) call72 rfl rfl rfl<|lv (Uu rfl)<|mv (.bool (!t11))<|?_
   revert H58
   refine sp (fun hb H59=>?_) fun hb H60=>?_
   ·refine lf runUnderlying38 rfl sizeOf30 rfl<|ll 0 v0_2 isAgg30<|lv (Wu underlying30 rfl f0_2 rfl)<|lv (Vz rfl rfl)<|pT (.bool (decide (0 < (a0.Ints.length : Int))))<|ag (.bool (decide (0 < (a0.Ints.length : Int))))<|Jd<|?_
    exact cl (decide (0 < (a0.Ints.length : Int))) () 0 [0] (by exact ⟨H59, trivial⟩)
   ·refine pa<|pa<|pa<|pa<|pF (.bool false)<|ag (.bool false)<|Jd<|?_
    exact cl false () 0 [0] (by exact ⟨H60, trivial⟩)
  ·rintro x8 _ gg H34 _
   try dsimp only at H34
   try dsimp only
   revert H34
   refine ci x8 rfl (fun hb H35=>?_) fun hb H38=>?_
   ·refine Ji ?_
    revert H35
    refine ci x8 rfl (fun hb H36=>?_) fun hb H37=>?_
    ·refine Jc<|Ja<|ag (i6 1)<|Jd<|Jh<|?_
     obtain rfl := sj H36
     exact r1 (i6 1)
    ·refine Ji<|Jc<|Ja<|ag (i6 0)<|Jd<|Jh<|?_
     obtain rfl := sj H37
     exact r1 (i6 0)
   ·refine Q3 (r := r) (σ := Bool) (τ := Unit) (fun s => Ve a0 s) (fun s t => [(1, .pointer (some ⟨b1, 0, none⟩)), (8, .bool s)]) (fun s t => [Jg b1 [i6 a0.Kind, str a0.Text, v0_2, v0_3, v0_4] 38]) (fun s t => True) ?_ ?_
    ·refine Ja<|lf runUnderlying38 rfl sizeOf3 rfl<|ll 0 (i6 a0.Kind) isAgg3<|?_
     obtain ⟨t21, h_t21, H55⟩ := Je H38; clear H38
     refine Xy (k73 h_t21) call73 rfl rfl rfl<|lv (Uu rfl)<|mv (.bool (!t21))<|?_
     revert H55
     refine sp (fun hb H56=>?_) fun hb H57=>?_
     ·refine lf runUnderlying38 rfl sizeOf9 rfl<|ll 0 (str a0.Text) isAgg9<|lv (r_neqT rfl rfl)<|pT (.bool (decide (a0.Text ≠ [])))<|ag (.bool (decide (a0.Text ≠ [])))<|Jd<|?_
      exact cl (decide (a0.Text ≠ [])) () 0 [0] (by exact ⟨H56, trivial⟩)
     ·refine pa<|pa<|pa<|pF (.bool false)<|ag (.bool false)<|Jd<|?_
      exact cl false () 0 [0] (by exact ⟨H57, trivial⟩)
    ·rintro x8_2 _ gg H39 _
     try dsimp only at H39
     try dsimp only
     revert H39
     refine ci x8_2 rfl (fun hb H40=>?_) fun hb H43=>?_
     ·refine Ji ?_
      revert H40
      refine ci x8_2 rfl (fun hb H41=>?_) fun hb H42=>?_
      ·refine Jc<|Ja<|ag (i6 1)<|Jd<|Jh<|?_
       obtain rfl := sj H41
       exact r1 (i6 1)
      ·refine Ji<|Jc<|Ja<|ag (i6 0)<|Jd<|Jh<|?_
       obtain rfl := sj H42
       exact r1 (i6 0)
     ·refine Q3 (r := r) (σ := Bool) (τ := Unit) (fun s => Vk a0 s) (fun s t => [(1, .pointer (some ⟨b1, 0, none⟩)), (8, .bool s)]) (fun s t => [Jg b1 [i6 a0.Kind, str a0.Text, v0_2, v0_3, v0_4] 38]) (fun s t => True) ?_ ?_
      ·refine Ja<|lf runUnderlying38 rfl sizeOf3 rfl<|ll 0 (i6 a0.Kind) isAgg3<|lv (Yo rfl rfl)<|mv (.bool (decide (a0.Kind ≠ 5)))<|?_
       revert H43
       refine sp (fun hb H53=>?_) fun hb H54=>?_
       ·refine lf runUnderlying38 rfl sizeOf31 rfl<|ll 0 v0_3 isAgg31<|lv (Wu underlying31 rfl f0_3 rfl)<|lv (Vz rfl rfl)<|pT (.bool (decide (0 < (a0.Ratios.length : Int))))<|ag (.bool (decide (0 < (a0.Ratios.length : Int))))<|Jd<|?_
        exact cl (decide (0 < (a0.Ratios.length : Int))) () 0 [0] (by exact ⟨H53, trivial⟩)
       ·refine pa<|pa<|pa<|pa<|pF (.bool false)<|ag (.bool false)<|Jd<|?_
        exact cl false () 0 [0] (by exact ⟨H54, trivial⟩)
      ·rintro x8_3 _ gg H44 _
       try dsimp only at H44
       try dsimp only
       revert H44
       refine ci x8_3 rfl (fun hb H45=>?_) fun hb H48=>?_
       ·refine Ji ?_
        revert H45
        refine ci x8_3 rfl (fun hb H46=>?_) fun hb H47=>?_
        ·refine Jc<|Ja<|ag (i6 1)<|Jd<|Jh<|?_
         obtain rfl := sj H46
         exact r1 (i6 1)
        ·refine Ji<|Jc<|Ja<|ag (i6 0)<|Jd<|Jh<|?_
         obtain rfl := sj H47
         exact r1 (i6 0)
       ·refine Ja<|lf runUnderlying38 rfl sizeOf3 rfl<|ll 0 (i6 a0.Kind) isAgg3<|lv (Yo rfl rfl)<|mv (.bool (decide (a0.Kind ≠ 13)))<|?_
        revert H48
        refine sp (fun hb H49=>?_) fun hb H52=>?_
        ·refine lf runUnderlying38 rfl sizeOf36 rfl<|ll 0 v0_4 isAgg36<|lv (Yv underlying36 rfl f0_4)<|lv (Vz rfl rfl)<|pT (.bool (decide (0 < (a0.Entries.length : Int))))<|ag (.bool (decide (0 < (a0.Entries.length : Int))))<|Jd<|?_
         revert H49
         refine ci (decide (0 < (a0.Entries.length : Int))) rfl (fun hb H50=>?_) fun hb H51=>?_
         ·refine Jc<|Ja<|ag (i6 1)<|Jd<|Jh<|?_
          obtain rfl := sj H50
          exact r1 (i6 1)
         ·refine Ji<|Jc<|Ja<|ag (i6 0)<|Jd<|Jh<|?_
          obtain rfl := sj H51
          exact r1 (i6 0)
        ·refine pa<|pa<|pa<|pa<|pF (.bool false)<|ag (.bool false)<|Jd<|U7 rfl<|Ji<|Jc<|Ja<|ag (i6 0)<|Jd<|Jh<|?_
         obtain rfl := sj H52
         exact r1 (i6 0)
theorem k70 {a0 : Int} {r : Int × Int} (H : tag_bounds a0 = some r) : Ret prog 70 [i6 a0] (.tuple #[i6 r.1, i6 r.2]) := by
 refine Xr (n := 11) func70 rfl rfl rfl (fun wd => ?_)
 refine Jc<|Ja<|ag (i6 0)<|ag (i6 0)<|Jd<|Jc<|Jc<|Ja<|mv (i6 a0)<|Jd<|Jx<|Jc<|Ja<|lv (Xg rfl rfl)<|ag (.bool (decide (a0 = 1)))<|Jd<|?_
 revert H
 refine ci (decide (a0 = 1)) rfl (fun hb H7=>?_) fun hb H8=>?_
 ·refine Jc<|Ja<|ag (i6 0)<|ag (i6 255)<|Jd<|Jh<|?_
  obtain rfl := sj H7
  refine Z2 (v1 := i6 0) (v2 := i6 255) rfl rfl rfl (fin rfl)
 ·refine Jc<|Ja<|lv (Xg rfl rfl)<|ag (.bool (decide (a0 = 3)))<|Jd<|?_
  revert H8
  refine ci (decide (a0 = 3)) rfl (fun hb H9=>?_) fun hb H10=>?_
  ·refine Jc<|Ja<|ag (i6 0)<|ag (i6 65535)<|Jd<|Jh<|?_
   obtain rfl := sj H9
   refine Z2 (v1 := i6 0) (v2 := i6 65535) rfl rfl rfl (fin rfl)
  ·refine Jc<|Ja<|lv (Xg rfl rfl)<|ag (.bool (decide (a0 = 9)))<|Jd<|?_
   revert H10
   refine ci (decide (a0 = 9)) rfl (fun hb H11=>?_) fun hb H12=>?_
   ·refine Jc<|Ja<|ag (i6 (-2147483648))<|ag (i6 2147483647)<|Jd<|Jh<|?_
    obtain rfl := sj H11
    refine Z2 (v1 := i6 (-2147483648)) (v2 := i6 2147483647) rfl rfl rfl (fin rfl)
   ·refine Ji<|Jc<|Ja<|ag (i6 0)<|ag (i6 4294967295)<|Jd<|Jh<|?_
    obtain rfl := sj H12
    refine Z2 (v1 := i6 0) (v2 := i6 4294967295) rfl rfl rfl (fin rfl)
theorem k42 {a0 : T_tag_Value} {v0_2 : Value} {v0_3 : Value} {v0_4 : Value} {r : Int} {w : World} {h : Jo} (hw : Know h w Y2) (f0_2 : FrS h 1 v0_2 (a0.Ints.map Qc)) (f0_3 : FrS h 2 v0_3 (a0.Ratios.map Jl)) (f0_4 : FrN h 6 v0_4 g_tag_Entry a0.Entries) (H : Ug a0 = some r) : Does prog 42 (List.toArray [.agg #[i6 a0.Kind, str a0.Text, v0_2, v0_3, v0_4]]) w (fun v w' => v = (i6 r) ∧ Grow w w') := by
 refine enter (n := 65) func42 rfl rfl rfl Y2 [] (Sat.nil _ _)<|Jc<|Ja<|?_
 refine Z5 (cs := [i6 a0.Kind, str a0.Text, v0_2, v0_3, v0_4]) rfl rfl rfl rfl (fun b2 => ?_)
 refine ag (i6 0)<|Jd<|Jc<|Jc<|Ja<|Qx (i := 0) (vs := [i6 a0.Kind, str a0.Text, v0_2, v0_3, v0_4]) isAgg38 sizeOf38 rfl rfl rfl rfl rfl<|?_
 obtain ⟨t12, h_t12, H35⟩ := Je H; clear H
 refine Qo (fun w hF hS => k43 (Jn w) (f0_2.mono (hw.now hF)) (f0_3.mono (hw.now hF)) (f0_4.mono (hw.now hF)) h_t12) call43 rfl rfl rfl<|ag (i6 t12)<|Jd<|Jc<|Ja<|mv (i6 t12)<|lv (Yo rfl rfl)<|Jd<|?_
 revert H35
 refine ci (decide (t12 ≠ 0)) rfl (fun hb H36=>?_) fun hb H37=>?_
 ·refine Jc<|Ja<|mv (i6 t12)<|ag (i6 t12)<|Jd<|Jh<|?_
  obtain rfl := sj H36
  exact r1 (i6 t12)
 ·refine Ji<|Jc<|Ja<|lf runUnderlying38 rfl sizeOf3 rfl<|ll 0 (i6 a0.Kind) isAgg3<|?_
  obtain ⟨t19, h_t19, H38⟩ := Je H37; clear H37
  refine Xy (k70 h_t19) call70 rfl rfl rfl<|mv (.tuple #[i6 t19.1, i6 t19.2])<|lv (Jv (v := i6 t19.1) rfl rfl)<|lv (Jv (v := i6 t19.2) rfl rfl)<|ag (i6 t19.1)<|ag (i6 t19.2)<|Jd<|?_
  refine Q3 (r := r) (σ := Unit) (τ := Unit) (fun s => V2 a0) (fun s t => [(1, .pointer (some ⟨b2, 0, none⟩))]) (fun s t => [Jg b2 [i6 a0.Kind, str a0.Text, v0_2, v0_3, v0_4] 38]) (fun s t => True) ?_ ?_
  ·refine Jc<|Ja<|lf runUnderlying38 rfl sizeOf30 rfl<|ll 0 v0_2 isAgg30<|lv (Wu underlying30 rfl f0_2 rfl)<|mv (i6 0)<|Jd<|Jx<|?_
   refine Zn (σ := Int) (τ := Unit) (fun next5 s => X7 a0 t19 next5 s) (fun s t => [(1, .pointer (some ⟨b2, 0, none⟩)), (4, i6 t19.1), (5, i6 t19.2), (23, v0_2), (24, i6 (a0.Ints.length : Int)), (25, i6 s)]) (fun s t => [Jg b2 [i6 a0.Kind, str a0.Text, v0_2, v0_3, v0_4] 38]) (fun s t => True) 0 () [0] H38 (by exact trivial) (by exact ⟨rfl, rfl, rfl, rfl, rfl, rfl, trivial⟩) (by decide) rfl ?_
   rintro x25_2 _ m5 gg H61 _
   clear H38
   try dsimp only at H61
   generalize hn5 : it (fun next5 s => X7 a0 t19 next5 s) m5 = next5 at H61
   try dsimp only
   refine Jc<|Ja<|lv (Yc rfl rfl)<|Jd<|Jc<|?_
   revert H61
   refine ci (decide (x25_2 < (a0.Ints.length : Int))) rfl (fun hb H62=>?_) fun hb H68=>?_
   ·refine Ji<|Jc<|Jx<|Jc<|Ja<|?_
    obtain ⟨t27, h_t27, H63⟩ := Je H62; clear H62
    refine lv (Xq underlying30 sizeOf3 rfl rfl f0_2 h_t27)<|Qs (fun w hF hS => Q9 (f := Qc) (i := x25_2) (sz := 1) (j := 0) (v := i6 t27) isAgg3 rfl rfl (f0_2.row (hw.now hF)) h_t27 rfl) rfl rfl rfl<|ag (i6 t27)<|Jd<|Jc<|Ja<|mv (i6 t27)<|mv (i6 t19.1)<|mv (i6 t19.2)<|?_
    obtain ⟨t32, h_t32, H64⟩ := Je H63; clear H63
    refine Xy (k16 h_t32) call16 rfl rfl rfl<|Jd<|?_
    revert H64
    refine ci t32 rfl (fun hb H65=>?_) fun hb H66=>?_
    ·refine Jc<|Ja<|ag (i6 2)<|Jd<|Jh<|?_
     obtain rfl := sj H65
     exact r1 (i6 2)
    ·refine Ji<|Ja<|?_
     obtain ⟨t33, h_t33, H67⟩ := Je H66; clear H66
     refine lv (J1 rfl rfl h_t33)<|mv (i6 t33)<|Jd<|?_
     exact cl t33 () m5 [0] (by exact ⟨(by subst hn5; exact H67), trivial⟩)
   ·refine Xx ?_
    exact cl () () 0 [0] (by exact ⟨H68, trivial⟩)
  ·rintro _ _ gg H39 _
   try dsimp only at H39
   try dsimp only
   refine Q3 (r := r) (σ := Unit) (τ := Unit) (fun s => V4 a0) (fun s t => [(1, .pointer (some ⟨b2, 0, none⟩))]) (fun s t => [Jg b2 [i6 a0.Kind, str a0.Text, v0_2, v0_3, v0_4] 38]) (fun s t => True) ?_ ?_
   ·refine Jc<|Ja<|lf runUnderlying38 rfl sizeOf31 rfl<|ll 0 v0_3 isAgg31<|lv (Wu underlying31 rfl f0_3 rfl)<|mv (i6 0)<|Jd<|Jx<|?_
    refine Zn (σ := Int) (τ := Unit) (fun next4 s => X5 a0 next4 s) (fun s t => [(1, .pointer (some ⟨b2, 0, none⟩)), (35, v0_3), (36, i6 (a0.Ratios.length : Int)), (37, i6 s)]) (fun s t => [Jg b2 [i6 a0.Kind, str a0.Text, v0_2, v0_3, v0_4] 38]) (fun s t => True) 0 () [0] H39 (by exact trivial) (by exact ⟨rfl, rfl, rfl, rfl, trivial⟩) (by decide) rfl ?_
    rintro x37_2 _ m4 gg H50 _
    clear H39
    try dsimp only at H50
    generalize hn4 : it (fun next4 s => X5 a0 next4 s) m4 = next4 at H50
    try dsimp only
    refine Jc<|Ja<|lv (Yc rfl rfl)<|Jd<|Jc<|?_
    revert H50
    refine ci (decide (x37_2 < (a0.Ratios.length : Int))) rfl (fun hb H51=>?_) fun hb H60=>?_
    ·refine Ji<|Jc<|Jx<|Jc<|Ja<|?_
     obtain ⟨t39, h_t39, H52⟩ := Je H51; clear H51
     refine lv (Xq underlying31 sizeOf52 rfl rfl f0_3 h_t39)<|Qs (fun w hF hS => Zb (f := Jl) (i := x37_2) (sz := 2) (j := 0) (vs := [i6 t39.Num, i6 t39.Den]) isAgg52 sizeOf52 rfl rfl (f0_3.row (hw.now hF)) h_t39 rfl) rfl rfl rfl<|?_
     refine Xf (cs := [i6 0, i6 0]) zeroValue52 rfl rfl rfl (fun b3 => ?_)
     refine st (i := 1) [i6 t39.Num, i6 t39.Den] [i6 t39.Num, i6 t39.Den] sizeOf52 rfl rfl<|Jd<|Jc<|Ja<|lf runUnderlying52 rfl sizeOf3 rfl<|ll 1 (i6 t39.Num) isAgg3<|?_
     obtain ⟨t43, h_t43, H53⟩ := Je H52; clear H52
     refine Xy (k16 h_t43) call16 rfl rfl rfl<|mv (.bool t43)<|?_
     revert H53
     refine sp (fun hb H54=>?_) fun hb H55=>?_
     ·refine pa<|pa<|pa<|pT (.bool true)<|Jd<|Ws rfl<|Jc<|Ja<|ag (i6 2)<|Jd<|Jh<|?_
      obtain rfl := sj H54
      exact r1 (i6 2)
     ·refine lf runUnderlying52 rfl sizeOf3 rfl<|ll 1 (i6 t39.Den) isAgg3<|?_
      obtain ⟨t47, h_t47, H56⟩ := Je H55; clear H55
      refine Xy (k16 h_t47) call16 rfl rfl rfl<|pF (.bool t47)<|Jd<|?_
      revert H56
      refine ci t47 rfl (fun hb H57=>?_) fun hb H58=>?_
      ·refine Jc<|Ja<|ag (i6 2)<|Jd<|Jh<|?_
       obtain rfl := sj H57
       exact r1 (i6 2)
      ·refine Ji<|Ja<|?_
       obtain ⟨t49, h_t49, H59⟩ := Je H58; clear H58
       refine lv (J1 rfl rfl h_t49)<|mv (i6 t49)<|Jd<|?_
       exact cl t49 () m4 [0] (by exact ⟨(by subst hn4; exact H59), trivial⟩)
    ·refine Xx ?_
     exact cl () () 0 [0] (by exact ⟨H60, trivial⟩)
   ·rintro _ _ gg H40 _
    try dsimp only at H40
    try dsimp only
    refine Jc<|Jc<|Ja<|lf runUnderlying38 rfl sizeOf3 rfl<|ll 0 (i6 a0.Kind) isAgg3<|lv (Xg rfl rfl)<|Jd<|?_
    revert H40
    refine ci (decide (a0.Kind = 2)) rfl (fun hb H41=>?_) fun hb H49=>?_
    ·refine Jc<|Ja<|lf runUnderlying38 rfl sizeOf9 rfl<|ll 0 (str a0.Text) isAgg9<|lv (Vn underlying9 rfl)<|mv (i6 0)<|Jd<|Jx<|?_
     refine Zn (σ := Int) (τ := Unit) (fun next3 s => Yi a0 next3 s) (fun s t => [(1, .pointer (some ⟨b2, 0, none⟩)), (55, i6 (a0.Text.length : Int)), (56, i6 s)]) (fun s t => [Jg b2 [i6 a0.Kind, str a0.Text, v0_2, v0_3, v0_4] 38]) (fun s t => True) 0 () [0] H41 (by exact trivial) (by exact ⟨rfl, rfl, rfl, trivial⟩) (by decide) rfl ?_
     rintro x56_2 _ m3 gg H42 _
     clear H41
     try dsimp only at H42
     generalize hn3 : it (fun next3 s => Yi a0 next3 s) m3 = next3 at H42
     try dsimp only
     refine Jc<|Ja<|lv (Yc rfl rfl)<|Jd<|Jc<|?_
     revert H42
     refine ci (decide (x56_2 < (a0.Text.length : Int))) rfl (fun hb H43=>?_) fun hb H48=>?_
     ·refine Ji<|Jc<|Jx<|Jc<|Ja<|mv (i6 x56_2)<|ag (i6 x56_2)<|Jd<|Jc<|Ja<|lf runUnderlying38 rfl sizeOf9 rfl<|ll 0 (str a0.Text) isAgg9<|mv (i6 x56_2)<|?_
      obtain ⟨t62, h_t62, H44⟩ := Je H43; clear H43
      refine lv (r_octG underlying9 rfl rfl h_t62)<|lv (Xg rfl rfl)<|Jd<|?_
      revert H44
      refine ci (decide (t62 = 0)) rfl (fun hb H45=>?_) fun hb H46=>?_
      ·refine Jc<|Ja<|ag (i6 9)<|Jd<|Jh<|?_
       obtain rfl := sj H45
       exact r1 (i6 9)
      ·refine Ji<|Ja<|?_
       obtain ⟨t64, h_t64, H47⟩ := Je H46; clear H46
       refine lv (J1 rfl rfl h_t64)<|mv (i6 t64)<|Jd<|?_
       exact cl t64 () m3 [0] (by exact ⟨(by subst hn3; exact H47), trivial⟩)
     ·refine Xx<|Jc<|Ja<|ag (i6 0)<|Jd<|Jh<|?_
      obtain rfl := sj H48
      exact r1 (i6 0)
    ·refine Ji<|Jc<|Ja<|ag (i6 0)<|Jd<|Jh<|?_
     obtain rfl := sj H49
     exact r1 (i6 0)
theorem k40_it (mm : Nat) : ∀ {a0 : (List T_tag_Entry)} {v0 : Value} {a1 : Int} {r : Int} {w : World} {h : Jo} (hw : Know h w Y2) (f0 : FrN h 6 v0 g_tag_Entry a0) (H : it (fun (self : ((List T_tag_Entry) × Int) → Option (Int)) (s : (List T_tag_Entry) × Int) => Yj self s.1 s.2) mm (a0, a1) = some r), Does prog 40 (List.toArray [v0, i6 a1]) w (fun v w' => v = (i6 r) ∧ Grow w w') := by
 induction mm with
 | zero => intros; rename_i H; exact absurd H (by simp [it])
 | succ mm ih =>
  intro a0 v0 a1 r w h hw f0 H
  replace H : Yj (it (fun (self : ((List T_tag_Entry) × Int) → Option (Int)) (s : (List T_tag_Entry) × Int) => Yj self s.1 s.2) mm) a0 a1 = some r := H
  generalize it (fun (self : ((List T_tag_Entry) × Int) → Option (Int)) (s : (List T_tag_Entry) × Int) => Yj self s.1 s.2) mm = self at H ih
  refine enter (n := 62) func40 rfl rfl rfl Y2 [] (Sat.nil _ _)<|Jc<|Ja<|ag (i6 0)<|Jd<|Jc<|Jc<|Ja<|mv (i6 a1)<|lv (Vz rfl rfl)<|mv (.bool (decide (5 < a1)))<|?_
  revert H
  refine sp (fun hb H31=>?_) fun hb H32=>?_
  ·refine pa<|pa<|pa<|pT (.bool true)<|Jd<|Ws rfl<|Jc<|Ja<|ag (i6 4)<|Jd<|Jh<|?_
   obtain rfl := sj H31
   exact r1 (i6 4)
  ·refine mv v0<|lv (Yv underlying36 rfl f0)<|lv (Vz rfl rfl)<|pF (.bool (decide (200 < (a0.length : Int))))<|Jd<|?_
   revert H32
   refine ci (decide (200 < (a0.length : Int))) rfl (fun hb H33=>?_) fun hb H34=>?_
   ·refine Jc<|Ja<|ag (i6 4)<|Jd<|Jh<|?_
    obtain rfl := sj H33
    exact r1 (i6 4)
   ·refine Ji<|Jc<|Jc<|Ja<|mv v0<|lv (Yv underlying36 rfl f0)<|mv (i6 0)<|Jd<|Jx<|?_
    refine Zn (σ := Int) (τ := Unit) (fun next1 s => Ww a0 a1 self next1 s) (fun s t => [(0, v0), (1, i6 a1), (15, v0), (16, i6 (a0.length : Int)), (17, i6 s)]) (fun s t => []) (fun s t => True) 0 () [] H34 (by exact trivial) (by exact ⟨rfl, rfl, rfl, rfl, rfl, trivial⟩) (by decide) rfl ?_
    rintro x17_2 _ m1 gg H35 _
    clear H34
    try dsimp only at H35
    generalize hn1 : it (fun next1 s => Ww a0 a1 self next1 s) m1 = next1 at H35
    try dsimp only
    refine Jc<|Ja<|lv (Yc rfl rfl)<|Jd<|Jc<|?_
    revert H35
    refine ci (decide (x17_2 < (a0.length : Int))) rfl (fun hb H36=>?_) fun hb H60=>?_
    ·refine Ji<|Jc<|Jx<|Jc<|Ja<|mv (i6 x17_2)<|?_
     obtain ⟨t20, h_t20, H37⟩ := Je H36; clear H36
     refine lv (Xq underlying36 sizeOf62 rfl rfl f0.frs (f0.ix h_t20))<|Qs (fun w hF hS => Zb (f := (elC h v0 6)) (i := x17_2) (sz := 6) (j := 0) (vs := [i6 t20.Tag, i6 t20.Value.Kind, str t20.Value.Text, (Xt h v0 6 (Int.toNat x17_2) 3), (Xt h v0 6 (Int.toNat x17_2) 4), (Xt h v0 6 (Int.toNat x17_2) 5)]) isAgg62 sizeOf62 rfl rfl (f0.frs.row (hw.now hF)) (f0.ix h_t20) (rd_of (Yh (f0.at h_t20)) rfl)) rfl rfl rfl<|?_
     refine Xf (cs := [i6 0, i6 0, str [], .slice none 0 0, .slice none 0 0, .slice none 0 0]) zeroValue62 rfl rfl rfl (fun b1 => ?_)
     refine ag (i6 x17_2)<|Ya (i := 0) (vs := [i6 t20.Tag, i6 t20.Value.Kind, str t20.Value.Text, (Xt h v0 6 (Int.toNat x17_2) 3), (Xt h v0 6 (Int.toNat x17_2) 4), (Xt h v0 6 (Int.toNat x17_2) 5)]) (cs' := [i6 t20.Tag, i6 t20.Value.Kind, str t20.Value.Text, (Xt h v0 6 (Int.toNat x17_2) 3), (Xt h v0 6 (Int.toNat x17_2) 4), (Xt h v0 6 (Int.toNat x17_2) 5)]) sizeOf62 rfl rfl rfl rfl rfl rfl (by simp only [List.all_cons, List.all_nil, (show FrN h 6 (Xt h v0 6 (Int.toNat x17_2) 5) g_tag_Entry t20.Value.Entries from (Qt (Jq (f0.at h_t20)))).one, (show FrS h 1 (Xt h v0 6 (Int.toNat x17_2) 3) (t20.Value.Ints.map Qc) from (Xj (Jq (f0.at h_t20)))).one, (show FrS h 2 (Xt h v0 6 (Int.toNat x17_2) 4) (t20.Value.Ratios.map Jl) from (Xh (Jq (f0.at h_t20)))).one] <;> rfl) rfl rfl<|Jd<|?_
     refine Q3 (r := r) (σ := Unit) (τ := Unit) (fun s => U9 a1 self x17_2 next1 t20) (fun s t => [(0, v0), (1, i6 a1), (6, .pointer (some ⟨b1, 0, none⟩)), (15, v0), (16, i6 (a0.length : Int)), (17, i6 x17_2)]) (fun s t => [Jg b1 [i6 t20.Tag, i6 t20.Value.Kind, str t20.Value.Text, (Xt h v0 6 (Int.toNat x17_2) 3), (Xt h v0 6 (Int.toNat x17_2) 4), (Xt h v0 6 (Int.toNat x17_2) 5)] 62]) (fun s t => True) ?_ ?_
     ·refine Jx<|Jc<|Ja<|lf runUnderlying62 rfl sizeOf3 rfl<|ll 0 (i6 t20.Tag) isAgg3<|?_
      obtain ⟨t25, h_t25, H51⟩ := Je H37; clear H37
      refine Xy (k16 h_t25) call16 rfl rfl rfl<|ag (.bool t25)<|Jd<|?_
      revert H51
      refine ci t25 rfl (fun hb H52=>?_) fun hb H53=>?_
      ·refine Jc<|Ja<|ag (i6 2)<|Jd<|Jh<|?_
       obtain rfl := sj H52
       exact r1 (i6 2)
      ·refine Jc ?_
       exact Qi (Kd.p :: Kd.p :: Kd.p :: Kd.p :: Kd.d [0] _ :: Kd.p :: Kd.p :: Kd.p :: Kd.p :: Kd.p :: Kd.d [] _ :: Kd.p :: Kd.p :: Kd.p :: []) 0 mixed (by
        refine dm (i6 x17_2)<|dv (Vz rfl rfl)<|dm (.bool (decide (0 < x17_2)))<|?_
        refine splitS (fun hb => ?_) (fun hb => ?_)
        ·have H54 := cnd_t hb H53
         refine dv (J3 runUnderlying62 rfl sizeOf3 rfl rfl)<|dl (i6 t20.Tag) isAgg3<|dm v0<|dm (i6 x17_2)<|?_
         have h_t34 := J0 H54
         have H55 := Ju H54
         refine dv (Vh rfl rfl h_t34) ?_
         have h_t35 := J0 H55
         have H56 := Ju H55
         refine dv (Xq underlying36 sizeOf62 rfl rfl f0.frs (f0.ix h_t35))<|dv (r_fieldP runUnderlying62 rfl sizeOf3 rfl rfl (some_of_at f0.frs (f0.ix h_t35)))<|d_read (fun w hF => Q9 (f := (elC h v0 6)) (i := (val (gI (x17_2 - 1)))) (sz := 6) (j := 0) (v := i6 (val (Yp a0 (val (gI (x17_2 - 1))))).Tag) isAgg3 rfl rfl (f0.frs.row (hw.now hF)) (f0.ix h_t35) (rg_of (Yh (f0.at h_t35)) rfl)) rfl rfl<|dv (r_leq rfl rfl)<|dv (r_pickT (v := .bool (decide (t20.Tag ≤ (val (Yp a0 (val (gI (x17_2 - 1))))).Tag))) rfl rfl)<|Qq rfl rfl (Jw (v := .bool (decide (t20.Tag ≤ (val (Yp a0 (val (gI (x17_2 - 1))))).Tag))) rfl)<|Y8<|?_
         revert H56
         refine ci (decide (t20.Tag ≤ (val (Yp a0 (val (gI (x17_2 - 1))))).Tag)) rfl (fun hb H57=>?_) fun hb H58=>?_
         ·refine Jc<|Ja<|ag (i6 5)<|Jd<|Jh<|?_
          obtain rfl := sj H57
          exact r1 (i6 5)
         ·refine Ji ?_
          exact cl () () 0 [0] (by exact ⟨H58, trivial⟩)
        ·have H59 := cnd_f hb H53
         refine dp<|dp<|dp<|dp<|dp<|dp<|dp<|dp<|dp<|dv (r_pickF (v := .bool false) rfl rfl)<|Qq rfl rfl (Jw (v := .bool false) rfl)<|Y8<|U7 rfl<|Ji<|?_
         exact cl () () 0 [0] (by exact ⟨H59, trivial⟩)
        ) (by kernel_rfl)
     ·rintro _ _ gg H38 _
      try dsimp only at H38
      try dsimp only
      refine Jc<|Ja<|ag (i6 0)<|Jd<|?_
      refine Q3 (r := r) (σ := Int) (τ := Unit) (fun s => Vp x17_2 next1 s) (fun s t => [(0, v0), (1, i6 a1), (7, i6 s), (15, v0), (16, i6 (a0.length : Int)), (17, i6 x17_2)]) (fun s t => []) (fun s t => True) ?_ ?_
      ·refine Jc<|Ja<|lf runUnderlying62 rfl sizeOf38 rfl<|lf runUnderlying38 rfl sizeOf3 rfl<|ll 0 (i6 t20.Value.Kind) isAgg3<|lv (Yo rfl rfl)<|Jd<|?_
       revert H38
       refine ci (decide (t20.Value.Kind ≠ 13)) rfl (fun hb H43=>?_) fun hb H45=>?_
       ·refine Ja<|lf runUnderlying62 rfl sizeOf38 rfl<|Qx (i := 0) (vs := [i6 t20.Value.Kind, str t20.Value.Text, (Xt h v0 6 (Int.toNat x17_2) 3), (Xt h v0 6 (Int.toNat x17_2) 4), (Xt h v0 6 (Int.toNat x17_2) 5)]) isAgg38 sizeOf38 rfl rfl rfl rfl rfl<|?_
        obtain ⟨t46, h_t46, H44⟩ := Je H43; clear H43
        refine Qo (fun w hF hS => k42 (Jn w) ((show FrS h 1 (Xt h v0 6 (Int.toNat x17_2) 3) (t20.Value.Ints.map Qc) from (Xj (Jq (f0.at h_t20)))).mono (hw.now hF)) ((show FrS h 2 (Xt h v0 6 (Int.toNat x17_2) 4) (t20.Value.Ratios.map Jl) from (Xh (Jq (f0.at h_t20)))).mono (hw.now hF)) ((show FrN h 6 (Xt h v0 6 (Int.toNat x17_2) 5) g_tag_Entry t20.Value.Entries from (Qt (Jq (f0.at h_t20)))).mono (hw.now hF)) h_t46) call42 rfl rfl rfl<|ag (i6 t46)<|Jd<|?_
        exact cl t46 () 0 [] (by exact ⟨H44, trivial⟩)
       ·refine Jc<|Ja<|lf runUnderlying62 rfl sizeOf38 rfl<|Qx (i := 0) (vs := [i6 t20.Value.Kind, str t20.Value.Text, (Xt h v0 6 (Int.toNat x17_2) 3), (Xt h v0 6 (Int.toNat x17_2) 4), (Xt h v0 6 (Int.toNat x17_2) 5)]) isAgg38 sizeOf38 rfl rfl rfl rfl rfl<|?_
        obtain ⟨t49, h_t49, H46⟩ := Je H45; clear H45
        refine Qo (fun w hF hS => k43 (Jn w) ((show FrS h 1 (Xt h v0 6 (Int.toNat x17_2) 3) (t20.Value.Ints.map Qc) from (Xj (Jq (f0.at h_t20)))).mono (hw.now hF)) ((show FrS h 2 (Xt h v0 6 (Int.toNat x17_2) 4) (t20.Value.Ratios.map Jl) from (Xh (Jq (f0.at h_t20)))).mono (hw.now hF)) ((show FrN h 6 (Xt h v0 6 (Int.toNat x17_2) 5) g_tag_Entry t20.Value.Entries from (Qt (Jq (f0.at h_t20)))).mono (hw.now hF)) h_t49) call43 rfl rfl rfl<|ag (i6 t49)<|Jd<|Jc<|Ja<|mv (i6 t49)<|lv (Xg rfl rfl)<|Jd<|?_
        revert H46
        refine ci (decide (t49 = 0)) rfl (fun hb H47=>?_) fun hb H50=>?_
        ·refine Ja<|lf runUnderlying62 rfl sizeOf38 rfl<|lf runUnderlying38 rfl sizeOf36 rfl<|ll 0 (Xt h v0 6 (Int.toNat x17_2) 5) isAgg36<|mv (i6 a1)<|?_
         obtain ⟨t56, h_t56, H48⟩ := Je H47; clear H47
         refine lv (J1 rfl rfl h_t56) ?_
         obtain ⟨t57, h_t57, H49⟩ := Je H48; clear H48
         refine Qo (fun w hF hS => ih (Jn w) ((show FrN h 6 (Xt h v0 6 (Int.toNat x17_2) 5) g_tag_Entry t20.Value.Entries from (Qt (Jq (f0.at h_t20)))).mono (hw.now hF)) h_t57) call40 rfl rfl rfl<|ag (i6 t57)<|Jd<|?_
         exact cl t57 () 0 [] (by exact ⟨H49, trivial⟩)
        ·refine Ji ?_
         exact cl t49 () 0 [] (by exact ⟨H50, trivial⟩)
      ·rintro x7 _ gg H39 _
       try dsimp only at H39
       try dsimp only
       refine Jc<|Ja<|mv (i6 x7)<|lv (Yo rfl rfl)<|Jd<|?_
       revert H39
       refine ci (decide (x7 ≠ 0)) rfl (fun hb H40=>?_) fun hb H41=>?_
       ·refine Jc<|Ja<|mv (i6 x7)<|ag (i6 x7)<|Jd<|Jh<|?_
        obtain rfl := sj H40
        exact r1 (i6 x7)
       ·refine Ji<|Ja<|?_
        obtain ⟨t61, h_t61, H42⟩ := Je H41; clear H41
        refine lv (J1 rfl rfl h_t61)<|mv (i6 t61)<|Jd<|?_
        exact cl t61 () m1 [] (by exact ⟨(by subst hn1; exact H42), trivial⟩)
    ·refine Xx<|Jc<|Ja<|ag (i6 0)<|Jd<|Jh<|?_
     obtain rfl := sj H60
     exact r1 (i6 0)
theorem k40 {a0 : (List T_tag_Entry)} {v0 : Value} {a1 : Int} {r : Int} {w : World} {h : Jo} (hw : Know h w Y2) (f0 : FrN h 6 v0 g_tag_Entry a0) (H : Jar a0 a1 = some r) : Does prog 40 (List.toArray [v0, i6 a1]) w (fun v w' => v = (i6 r) ∧ Grow w w') := by
 obtain ⟨mm, hm⟩ := fix_it (show V8 (fun (self : ((List T_tag_Entry) × Int) → Option (Int)) (s : (List T_tag_Entry) × Int) => Yj self s.1 s.2) (a0, a1) = some r from H)
 exact k40_it mm hw f0 hm
theorem k92 {a0 : Int} {r : Int} (H : tag_even a0 = some r) : Ret prog 92 [i6 a0] (i6 r) := by
 refine Xr (n := 7) func92 rfl rfl rfl (fun wd => ?_)
 refine Jc<|Ja<|ag (i6 0)<|Jd<|Jc<|Ja<|mv (i6 a0)<|mv (i6 a0)<|?_
 obtain ⟨t5, h_t5, H3⟩ := Je H; clear H
 refine lv (r_remG rfl rfl h_t5) ?_
 obtain ⟨t6, h_t6, H4⟩ := Je H3; clear H3
 refine lv (J1 rfl rfl h_t6)<|ag (i6 t6)<|Jd<|Jh<|?_
 obtain rfl := sj H4
 exact r1 (i6 t6)
theorem k76 {a0 : T_tag_Value} {v0_2 : Value} {v0_3 : Value} {v0_4 : Value} {r : Int} {w : World} {h : Jo} (hw : Know h w Y2) (f0_2 : FrS h 1 v0_2 (a0.Ints.map Qc)) (f0_3 : FrS h 2 v0_3 (a0.Ratios.map Jl)) (f0_4 : FrN h 6 v0_4 g_tag_Entry a0.Entries) (H : Yd a0 = some r) : Does prog 76 (List.toArray [.agg #[i6 a0.Kind, str a0.Text, v0_2, v0_3, v0_4]]) w (fun v w' => v = (i6 r) ∧ Grow w w') := by
 refine enter (n := 26) func76 rfl rfl rfl Y2 [] (Sat.nil _ _)<|Jc<|Ja<|?_
 refine Z5 (cs := [i6 a0.Kind, str a0.Text, v0_2, v0_3, v0_4]) rfl rfl rfl rfl (fun b1 => ?_)
 refine ag (i6 0)<|Jd<|Jc<|Jc<|Ja<|lf runUnderlying38 rfl sizeOf3 rfl<|ll 0 (i6 a0.Kind) isAgg3<|Jd<|Jx<|Jc<|Ja<|lv (Xg rfl rfl)<|ag (.bool (decide (a0.Kind = 2)))<|Jd<|?_
 revert H
 refine ci (decide (a0.Kind = 2)) rfl (fun hb H10=>?_) fun hb H12=>?_
 ·refine Jc<|Ja<|lf runUnderlying38 rfl sizeOf9 rfl<|ll 0 (str a0.Text) isAgg9<|lv (Vn underlying9 rfl)<|?_
  obtain ⟨t10, h_t10, H11⟩ := Je H10; clear H10
  refine lv (J1 rfl rfl h_t10)<|ag (i6 t10)<|Jd<|Jh<|?_
  obtain rfl := sj H11
  exact r1 (i6 t10)
 ·refine Jc<|Ja<|lv (Xg rfl rfl)<|ag (.bool (decide (a0.Kind = 7)))<|Jd<|?_
  revert H12
  refine ci (decide (a0.Kind = 7)) rfl (fun hb H13=>?_) fun hb H14=>?_
  ·refine Jc<|Ja<|lf runUnderlying38 rfl sizeOf9 rfl<|ll 0 (str a0.Text) isAgg9<|lv (Vn underlying9 rfl)<|ag (i6 (a0.Text.length : Int))<|Jd<|Jh<|?_
   obtain rfl := sj H13
   exact r1 (i6 (a0.Text.length : Int))
  ·refine Jc<|Ja<|lv (Xg rfl rfl)<|ag (.bool (decide (a0.Kind = 5)))<|Jd<|?_
   revert H14
   refine ci (decide (a0.Kind = 5)) rfl (fun hb H15=>?_) fun hb H16=>?_
   ·refine Jc<|Ja<|lf runUnderlying38 rfl sizeOf31 rfl<|ll 0 v0_3 isAgg31<|lv (Wu underlying31 rfl f0_3 rfl)<|ag (i6 (a0.Ratios.length : Int))<|Jd<|Jh<|?_
    obtain rfl := sj H15
    exact r1 (i6 (a0.Ratios.length : Int))
   ·refine Jc<|Ja<|lv (Xg rfl rfl)<|ag (.bool (decide (a0.Kind = 13)))<|Jd<|?_
    revert H16
    refine ci (decide (a0.Kind = 13)) rfl (fun hb H17=>?_) fun hb H18=>?_
    ·refine Jc<|Ja<|ag (i6 1)<|Jd<|Jh<|?_
     obtain rfl := sj H17
     exact r1 (i6 1)
    ·refine Ji<|Jc<|Ja<|lf runUnderlying38 rfl sizeOf30 rfl<|ll 0 v0_2 isAgg30<|lv (Wu underlying30 rfl f0_2 rfl)<|ag (i6 (a0.Ints.length : Int))<|Jd<|Jh<|?_
     obtain rfl := sj H18
     exact r1 (i6 (a0.Ints.length : Int))
theorem k93 {a0 : T_tag_Value} {v0_2 : Value} {v0_3 : Value} {v0_4 : Value} {r : Int} {w : World} {h : Jo} (hw : Know h w Y2) (f0_2 : FrS h 1 v0_2 (a0.Ints.map Qc)) (f0_3 : FrS h 2 v0_3 (a0.Ratios.map Jl)) (f0_4 : FrN h 6 v0_4 g_tag_Entry a0.Entries) (H : Wq a0 = some r) : Does prog 93 (List.toArray [.agg #[i6 a0.Kind, str a0.Text, v0_2, v0_3, v0_4]]) w (fun v w' => v = (i6 r) ∧ Grow w w') := by
 refine enter (n := 9) func93 rfl rfl rfl Y2 [] (Sat.nil _ _)<|Jc<|Ja<|?_
 refine Z5 (cs := [i6 a0.Kind, str a0.Text, v0_2, v0_3, v0_4]) rfl rfl rfl rfl (fun b1 => ?_)
 refine ag (i6 0)<|Jd<|Jc<|?_
 exact Qi (Kd.d [0] _ :: Kd.d [] _ :: Kd.p :: Kd.d [0] _ :: Kd.d [] _ :: Kd.p :: Kd.p :: []) 0 mixed (by
  refine d_loadN (i := 0) (vs := [i6 a0.Kind, str a0.Text, v0_2, v0_3, v0_4]) isAgg38 sizeOf38 rfl rfl rfl rfl ?_
  have h_t4 := J0 H
  have H4 := Ju H
  refine Ua (fun w L' hF hS hi => k76 (Jn w) (f0_2.mono (hw.now hF)) (f0_3.mono (hw.now hF)) (f0_4.mono (hw.now hF)) h_t4) call76 rfl rfl<|dv (J3 runUnderlying38 rfl sizeOf3 rfl rfl)<|dl (i6 a0.Kind) isAgg3<|?_
  have h_t7 := J0 H4
  have H5 := Ju H4
  refine d_call (k71 h_t7) call71 rfl rfl ?_
  have h_t8 := J0 H5
  have H6 := Ju H5
  refine dv (V5 rfl rfl h_t8)<|Qq rfl rfl (Jw (v := i6 (val (gI ((val (Yd a0)) * (val (Zc a0.Kind)))))) rfl)<|Y8<|Jh<|?_
  obtain rfl := sj H6
  exact r1 (i6 (val (gI ((val (Yd a0)) * (val (Zc a0.Kind))))))
  ) (by kernel_rfl)
theorem k69_it (mm : Nat) : ∀ {a0 : (List T_tag_Entry)} {v0 : Value} {a1 : Int} {r : Int} {w : World} {h : Jo} (hw : Know h w Y2) (f0 : FrN h 6 v0 g_tag_Entry a0) (H : it (fun (self : ((List T_tag_Entry) × Int) → Option (Int)) (s : (List T_tag_Entry) × Int) => Y7 self s.1 s.2) mm (a0, a1) = some r), Does prog 69 (List.toArray [v0, i6 a1]) w (fun v w' => v = (i6 r) ∧ Grow w w') := by
 induction mm with
 | zero => intros; rename_i H; exact absurd H (by simp [it])
 | succ mm ih =>
  intro a0 v0 a1 r w h hw f0 H
  replace H : Y7 (it (fun (self : ((List T_tag_Entry) × Int) → Option (Int)) (s : (List T_tag_Entry) × Int) => Y7 self s.1 s.2) mm) a0 a1 = some r := H
  generalize it (fun (self : ((List T_tag_Entry) × Int) → Option (Int)) (s : (List T_tag_Entry) × Int) => Y7 self s.1 s.2) mm = self at H ih
  refine enter (n := 44) func69 rfl rfl rfl Y2 [] (Sat.nil _ _)<|Jc<|Ja<|ag (i6 0)<|Jd<|Jc<|Ja<|mv (i6 a1)<|?_
  obtain ⟨t8, h_t8, H21⟩ := Je H; clear H
  refine Xy (k92 h_t8) call92 rfl rfl rfl ?_
  obtain ⟨t9, h_t9, H22⟩ := Je H21; clear H21
  refine lv (J1 rfl rfl h_t9)<|mv v0<|lv (Yv underlying36 rfl f0)<|?_
  obtain ⟨t12, h_t12, H23⟩ := Je H22; clear H22
  refine lv (V5 rfl rfl h_t12) ?_
  obtain ⟨t13, h_t13, H24⟩ := Je H23; clear H23
  refine lv (J1 rfl rfl h_t13) ?_
  obtain ⟨t14, h_t14, H25⟩ := Je H24; clear H24
  refine lv (J1 rfl rfl h_t14)<|ag (i6 t14)<|Jd<|Jc<|Jc<|Ja<|mv v0<|lv (Yv underlying36 rfl f0)<|mv (i6 0)<|Jd<|Jx<|?_
  refine Zn (σ := Int × Int) (τ := Unit) (fun next1 s => Z9 a0 self next1 s.1 s.2) (fun s t => [(1, i6 s.1), (15, v0), (16, i6 (a0.length : Int)), (17, i6 s.2)]) (fun s t => []) (fun s t => True) (t14, 0) () [] H25 (by exact trivial) (by exact ⟨rfl, rfl, rfl, rfl, trivial⟩) (by decide) rfl ?_
  rintro ⟨x1_2, x17_2⟩ _ m1 gg H26 _
  clear H25
  try dsimp only at H26
  generalize hn1 : it (fun next1 s => Z9 a0 self next1 s.1 s.2) m1 = next1 at H26
  try dsimp only
  refine Jc<|Ja<|lv (Yc rfl rfl)<|Jd<|Jc<|?_
  revert H26
  refine ci (decide (x17_2 < (a0.length : Int))) rfl (fun hb H27=>?_) fun hb H40=>?_
  ·refine Ji ?_
   refine Q3 (r := r) (σ := Int) (τ := Unit) (fun s => W0 x17_2 next1 s) (fun s t => [(1, i6 s), (15, v0), (16, i6 (a0.length : Int)), (17, i6 x17_2)]) (fun s t => []) (fun s t => True) ?_ ?_
   ·refine Jx<|Jc<|Ja<|?_
    obtain ⟨t19, h_t19, H30⟩ := Je H27; clear H27
    refine lv (Xq underlying36 sizeOf62 rfl rfl f0.frs (f0.ix h_t19))<|Qs (fun w hF hS => Zb (f := (elC h v0 6)) (i := x17_2) (sz := 6) (j := 0) (vs := [i6 t19.Tag, i6 t19.Value.Kind, str t19.Value.Text, (Xt h v0 6 (Int.toNat x17_2) 3), (Xt h v0 6 (Int.toNat x17_2) 4), (Xt h v0 6 (Int.toNat x17_2) 5)]) isAgg62 sizeOf62 rfl rfl (f0.frs.row (hw.now hF)) (f0.ix h_t19) (rd_of (Yh (f0.at h_t19)) rfl)) rfl rfl rfl<|?_
    refine Xf (cs := [i6 0, i6 0, str [], .slice none 0 0, .slice none 0 0, .slice none 0 0]) zeroValue62 rfl rfl rfl (fun b1 => ?_)
    refine Ya (i := 0) (vs := [i6 t19.Tag, i6 t19.Value.Kind, str t19.Value.Text, (Xt h v0 6 (Int.toNat x17_2) 3), (Xt h v0 6 (Int.toNat x17_2) 4), (Xt h v0 6 (Int.toNat x17_2) 5)]) (cs' := [i6 t19.Tag, i6 t19.Value.Kind, str t19.Value.Text, (Xt h v0 6 (Int.toNat x17_2) 3), (Xt h v0 6 (Int.toNat x17_2) 4), (Xt h v0 6 (Int.toNat x17_2) 5)]) sizeOf62 rfl rfl rfl rfl rfl rfl (by simp only [List.all_cons, List.all_nil, (show FrN h 6 (Xt h v0 6 (Int.toNat x17_2) 5) g_tag_Entry t19.Value.Entries from (Qt (Jq (f0.at h_t19)))).one, (show FrS h 1 (Xt h v0 6 (Int.toNat x17_2) 3) (t19.Value.Ints.map Qc) from (Xj (Jq (f0.at h_t19)))).one, (show FrS h 2 (Xt h v0 6 (Int.toNat x17_2) 4) (t19.Value.Ratios.map Jl) from (Xh (Jq (f0.at h_t19)))).one] <;> rfl) rfl rfl<|Jd<|Jx<|Jc<|Ja<|lf runUnderlying62 rfl sizeOf38 rfl<|lf runUnderlying38 rfl sizeOf3 rfl<|ll 0 (i6 t19.Value.Kind) isAgg3<|lv (Xg rfl rfl)<|ag (.bool (decide (t19.Value.Kind = 13)))<|Jd<|?_
    revert H30
    refine ci (decide (t19.Value.Kind = 13)) rfl (fun hb H31=>?_) fun hb H33=>?_
    ·refine Ja<|lf runUnderlying62 rfl sizeOf38 rfl<|lf runUnderlying38 rfl sizeOf36 rfl<|ll 0 (Xt h v0 6 (Int.toNat x17_2) 5) isAgg36<|mv (i6 x1_2)<|?_
     obtain ⟨t30, h_t30, H32⟩ := Je H31; clear H31
     refine Qo (fun w hF hS => ih (Jn w) ((show FrN h 6 (Xt h v0 6 (Int.toNat x17_2) 5) g_tag_Entry t19.Value.Entries from (Qt (Jq (f0.at h_t19)))).mono (hw.now hF)) h_t30) call69 rfl rfl rfl<|ag (i6 t30)<|Jd<|?_
     exact cl t30 () 0 [] (by exact ⟨H32, trivial⟩)
    ·refine Jc<|Ja<|lf runUnderlying62 rfl sizeOf38 rfl<|Qx (i := 0) (vs := [i6 t19.Value.Kind, str t19.Value.Text, (Xt h v0 6 (Int.toNat x17_2) 3), (Xt h v0 6 (Int.toNat x17_2) 4), (Xt h v0 6 (Int.toNat x17_2) 5)]) isAgg38 sizeOf38 rfl rfl rfl rfl rfl<|?_
     obtain ⟨t34, h_t34, H34⟩ := Je H33; clear H33
     refine Qo (fun w hF hS => k93 (Jn w) ((show FrS h 1 (Xt h v0 6 (Int.toNat x17_2) 3) (t19.Value.Ints.map Qc) from (Xj (Jq (f0.at h_t19)))).mono (hw.now hF)) ((show FrS h 2 (Xt h v0 6 (Int.toNat x17_2) 4) (t19.Value.Ratios.map Jl) from (Xh (Jq (f0.at h_t19)))).mono (hw.now hF)) ((show FrN h 6 (Xt h v0 6 (Int.toNat x17_2) 5) g_tag_Entry t19.Value.Entries from (Qt (Jq (f0.at h_t19)))).mono (hw.now hF)) h_t34) call93 rfl rfl rfl<|lv (Vz rfl rfl)<|ag (.bool (decide (4 < t34)))<|Jd<|?_
     revert H34
     refine ci (decide (4 < t34)) rfl (fun hb H35=>?_) fun hb H39=>?_
     ·exact Qi (Kd.p :: Kd.d [] _ :: Kd.p :: Kd.d [0] _ :: Kd.d [] _ :: Kd.p :: Kd.p :: []) 0 mixed (by
       refine dm (i6 x1_2) ?_
       have h_t37 := J0 H35
       have H36 := Ju H35
       refine d_call (k92 h_t37) call92 rfl rfl<|dv (J3 runUnderlying62 rfl sizeOf38 rfl rfl)<|d_loadN (i := 0) (vs := [i6 t19.Value.Kind, str t19.Value.Text, (Xt h v0 6 (Int.toNat x17_2) 3), (Xt h v0 6 (Int.toNat x17_2) 4), (Xt h v0 6 (Int.toNat x17_2) 5)]) isAgg38 sizeOf38 rfl rfl rfl rfl<|?_
       have h_t40 := J0 H36
       have H37 := Ju H36
       refine Ua (fun w L' hF hS hi => k93 (Jn w) ((show FrS h 1 (Xt h v0 6 (Int.toNat x17_2) 3) (t19.Value.Ints.map Qc) from (Xj (Jq (f0.at h_t19)))).mono (hw.now hF)) ((show FrS h 2 (Xt h v0 6 (Int.toNat x17_2) 4) (t19.Value.Ratios.map Jl) from (Xh (Jq (f0.at h_t19)))).mono (hw.now hF)) ((show FrN h 6 (Xt h v0 6 (Int.toNat x17_2) 5) g_tag_Entry t19.Value.Entries from (Qt (Jq (f0.at h_t19)))).mono (hw.now hF)) h_t40) call93 rfl rfl ?_
       have h_t41 := J0 H37
       have H38 := Ju H37
       refine dv (J1 rfl rfl h_t41)<|Qq rfl rfl (Jw (v := i6 (val (gI ((val (tag_even x1_2)) + (val (Wq t19.Value)))))) rfl)<|Y8<|?_
       exact cl (val (gI ((val (tag_even x1_2)) + (val (Wq t19.Value))))) () 0 [] (by exact ⟨H38, trivial⟩)
       ) (by kernel_rfl)
     ·refine Ji ?_
      exact cl x1_2 () 0 [] (by exact ⟨H39, trivial⟩)
   ·rintro x1_3 _ gg H28 _
    try dsimp only at H28
    try dsimp only
    refine Ja ?_
    obtain ⟨t42, h_t42, H29⟩ := Je H28; clear H28
    refine lv (J1 rfl rfl h_t42)<|mv (i6 t42)<|Jd<|?_
    exact cl (x1_3, t42) () m1 [] (by exact ⟨(by subst hn1; exact H29), trivial⟩)
  ·refine Xx<|Jc<|Ja<|mv (i6 x1_2)<|ag (i6 x1_2)<|Jd<|Jh<|?_
   obtain rfl := sj H40
   exact r1 (i6 x1_2)
theorem k69 {a0 : (List T_tag_Entry)} {v0 : Value} {a1 : Int} {r : Int} {w : World} {h : Jo} (hw : Know h w Y2) (f0 : FrN h 6 v0 g_tag_Entry a0) (H : tag_dirEnd a0 a1 = some r) : Does prog 69 (List.toArray [v0, i6 a1]) w (fun v w' => v = (i6 r) ∧ Grow w w') := by
 obtain ⟨mm, hm⟩ := fix_it (show V8 (fun (self : ((List T_tag_Entry) × Int) → Option (Int)) (s : (List T_tag_Entry) × Int) => Y7 self s.1 s.2) (a0, a1) = some r from H)
 exact k69_it mm hw f0 hm
theorem k41 {a0 : T_tag_File} {v0_1 : Value} {r : Int} {w : World} {h : Jo} (hw : Know h w Y2) (f0_1 : FrN h 1 v0_1 gs_tag_Entry a0.Dirs) (H : tag_size a0 = some r) : Does prog 41 (List.toArray [.agg #[.bool a0.Big, v0_1]]) w (fun v w' => v = (i6 r) ∧ Grow w w') := by
 refine enter (n := 18) func41 rfl rfl rfl Y2 [] (Sat.nil _ _)<|Jc<|Ja<|?_
 refine Z5 (cs := [.bool a0.Big, v0_1]) rfl rfl rfl rfl (fun b1 => ?_)
 refine ag (i6 0)<|Jd<|Jc<|Ja<|ag (i6 8)<|Jd<|Jc<|Jc<|Ja<|lf runUnderlying24 rfl sizeOf22 rfl<|ll 0 v0_1 isAgg22<|lv (Yv underlying22 rfl f0_1)<|mv (i6 0)<|Jd<|Jx<|c_dr 0<|?_
 try dsimp only [z1, z2, z3, z4, z5, z6, z7, z8]
 refine Zn (σ := Int × Int) (τ := Unit) (fun next1 s => Wm a0 next1 s.1 s.2) (fun s t => [(3, i6 s.1), (7, v0_1), (8, i6 (a0.Dirs.length : Int)), (9, i6 s.2)]) (fun s t => []) (fun s t => True) (8, 0) () [] H (by exact trivial) (by exact ⟨rfl, rfl, rfl, rfl, trivial⟩) (by decide) rfl ?_
 rintro ⟨x3_2, x9_2⟩ _ m1 gg H7 _
 clear H
 try dsimp only at H7
 generalize hn1 : it (fun next1 s => Wm a0 next1 s.1 s.2) m1 = next1 at H7
 try dsimp only
 refine Jc<|Ja<|lv (Yc rfl rfl)<|Jd<|Jc<|?_
 revert H7
 refine ci (decide (x9_2 < (a0.Dirs.length : Int))) rfl (fun hb H8=>?_) fun hb H12=>?_
 ·refine Ji<|Jc<|Jx<|Jc<|Ja<|?_
  obtain ⟨t11, h_t11, H9⟩ := Je H8; clear H8
  refine lv (Xq underlying22 sizeOf36 rfl rfl f0_1.frs (f0_1.ix h_t11))<|Qs (fun w hF hS => Q9 (f := (elC h v0_1 1)) (i := x9_2) (sz := 1) (j := 0) (v := (Xt h v0_1 1 (Int.toNat x9_2) 0)) isAgg36 rfl rfl (f0_1.frs.row (hw.now hF)) (f0_1.ix h_t11) (rg_of (U2 (f0_1.at h_t11)) rfl)) rfl rfl rfl<|ag ((Xt h v0_1 1 (Int.toNat x9_2) 0))<|Jd<|Ja<|mv ((Xt h v0_1 1 (Int.toNat x9_2) 0))<|mv (i6 x3_2)<|?_
  obtain ⟨t15, h_t15, H10⟩ := Je H9; clear H9
  refine Qo (fun w hF hS => k69 (Jn w) ((show FrN h 6 (Xt h v0_1 1 (Int.toNat x9_2) 0) g_tag_Entry t11 from (f0_1.at h_t11)).mono (hw.now hF)) h_t15) call69 rfl rfl rfl<|ag (i6 t15)<|Jd<|Ja<|?_
  obtain ⟨t16, h_t16, H11⟩ := Je H10; clear H10
  refine lv (J1 rfl rfl h_t16)<|mv (i6 t16)<|Jd<|?_
  exact cl (t15, t16) () m1 [] (by exact ⟨(by subst hn1; exact H11), trivial⟩)
 ·refine Xx<|Jc<|Ja<|mv (i6 x3_2)<|ag (i6 x3_2)<|Jd<|Jh<|?_
  obtain rfl := sj H12
  exact r1 (i6 x3_2)
theorem k17 {a0 : T_tag_File} {v0_1 : Value} {r : Int} {w : World} {h : Jo} (hw : Know h w Y2) (f0_1 : FrN h 1 v0_1 gs_tag_Entry a0.Dirs) (H : Jaf a0 = some r) : Does prog 17 (List.toArray [.agg #[.bool a0.Big, v0_1]]) w (fun v w' => v = (i6 r) ∧ Grow w w') := by
 refine enter (n := 26) func17 rfl rfl rfl Y2 [] (Sat.nil _ _)<|Jc<|Ja<|?_
 refine Z5 (cs := [.bool a0.Big, v0_1]) rfl rfl rfl rfl (fun b1 => ?_)
 refine ag (i6 0)<|Jd<|Jc<|Jc<|Ja<|lf runUnderlying24 rfl sizeOf22 rfl<|ll 0 v0_1 isAgg22<|lv (Yv underlying22 rfl f0_1)<|lv (Vz rfl rfl)<|Jd<|?_
 revert H
 refine ci (decide (20 < (a0.Dirs.length : Int))) rfl (fun hb H15=>?_) fun hb H16=>?_
 ·refine Jc<|Ja<|ag (i6 4)<|Jd<|Jh<|?_
  obtain rfl := sj H15
  exact r1 (i6 4)
 ·refine Ji ?_
  refine Q3 (r := r) (σ := Unit) (τ := Unit) (fun s => tag_Check_j1 a0) (fun s t => [(1, .pointer (some ⟨b1, 0, none⟩))]) (fun s t => [Jg b1 [.bool a0.Big, v0_1] 24]) (fun s t => True) ?_ ?_
  ·refine Jc<|Ja<|lf runUnderlying24 rfl sizeOf22 rfl<|ll 0 v0_1 isAgg22<|lv (Yv underlying22 rfl f0_1)<|mv (i6 0)<|Jd<|Jx<|?_
   refine Zn (σ := Int) (τ := Unit) (fun next2 s => Vx a0 next2 s) (fun s t => [(1, .pointer (some ⟨b1, 0, none⟩)), (11, v0_1), (12, i6 (a0.Dirs.length : Int)), (13, i6 s)]) (fun s t => [Jg b1 [.bool a0.Big, v0_1] 24]) (fun s t => True) 0 () [0] H16 (by exact trivial) (by exact ⟨rfl, rfl, rfl, rfl, trivial⟩) (by decide) rfl ?_
   rintro x13_2 _ m2 gg H21 _
   clear H16
   try dsimp only at H21
   generalize hn2 : it (fun next2 s => Vx a0 next2 s) m2 = next2 at H21
   try dsimp only
   refine Jc<|Ja<|lv (Yc rfl rfl)<|Jd<|Jc<|?_
   revert H21
   refine ci (decide (x13_2 < (a0.Dirs.length : Int))) rfl (fun hb H22=>?_) fun hb H28=>?_
   ·refine Ji<|Jc<|Jx<|Jc<|Ja<|?_
    obtain ⟨t15, h_t15, H23⟩ := Je H22; clear H22
    refine lv (Xq underlying22 sizeOf36 rfl rfl f0_1.frs (f0_1.ix h_t15))<|Qs (fun w hF hS => Q9 (f := (elC h v0_1 1)) (i := x13_2) (sz := 1) (j := 0) (v := (Xt h v0_1 1 (Int.toNat x13_2) 0)) isAgg36 rfl rfl (f0_1.frs.row (hw.now hF)) (f0_1.ix h_t15) (rg_of (U2 (f0_1.at h_t15)) rfl)) rfl rfl rfl<|ag ((Xt h v0_1 1 (Int.toNat x13_2) 0))<|Jd<|Jc<|Ja<|mv ((Xt h v0_1 1 (Int.toNat x13_2) 0))<|?_
    obtain ⟨t18, h_t18, H24⟩ := Je H23; clear H23
    refine Qo (fun w hF hS => k40 (Jn w) ((show FrN h 6 (Xt h v0_1 1 (Int.toNat x13_2) 0) g_tag_Entry t15 from (f0_1.at h_t15)).mono (hw.now hF)) h_t18) call40 rfl rfl rfl<|ag (i6 t18)<|Jd<|Jc<|Ja<|mv (i6 t18)<|lv (Yo rfl rfl)<|Jd<|?_
    revert H24
    refine ci (decide (t18 ≠ 0)) rfl (fun hb H25=>?_) fun hb H26=>?_
    ·refine Jc<|Ja<|mv (i6 t18)<|ag (i6 t18)<|Jd<|Jh<|?_
     obtain rfl := sj H25
     exact r1 (i6 t18)
    ·refine Ji<|Ja<|?_
     obtain ⟨t22, h_t22, H27⟩ := Je H26; clear H26
     refine lv (J1 rfl rfl h_t22)<|mv (i6 t22)<|Jd<|?_
     exact cl t22 () m2 [0] (by exact ⟨(by subst hn2; exact H27), trivial⟩)
   ·refine Xx ?_
    exact cl () () 0 [0] (by exact ⟨H28, trivial⟩)
  ·rintro _ _ gg H17 _
   try dsimp only at H17
   try dsimp only
   refine Jc<|Jc<|Ja<|Qx (i := 0) (vs := [.bool a0.Big, v0_1]) isAgg24 sizeOf24 rfl rfl rfl rfl rfl<|?_
   obtain ⟨t24, h_t24, H18⟩ := Je H17; clear H17
   refine Qo (fun w hF hS => k41 (Jn w) (f0_1.mono (hw.now hF)) h_t24) call41 rfl rfl rfl<|lv (Vz rfl rfl)<|Jd<|?_
   revert H18
   refine ci (decide (65000 < t24)) rfl (fun hb H19=>?_) fun hb H20=>?_
   ·refine Jc<|Ja<|ag (i6 4)<|Jd<|Jh<|?_
    obtain rfl := sj H19
    exact r1 (i6 4)
   ·refine Ji<|Jc<|Ja<|ag (i6 0)<|Jd<|Jh<|?_
    obtain rfl := sj H20
    exact r1 (i6 0)
theorem k18 {a0 : T_tag_Value} {v0_2 : Value} {v0_3 : Value} {v0_4 : Value} {r : Int} {w : World} {h : Jo} (hw : Know h w Y2) (f0_2 : FrS h 1 v0_2 (a0.Ints.map Qc)) (f0_3 : FrS h 2 v0_3 (a0.Ratios.map Jl)) (f0_4 : FrN h 6 v0_4 g_tag_Entry a0.Entries) (H : Jaq a0 = some r) : Does prog 18 (List.toArray [.agg #[i6 a0.Kind, str a0.Text, v0_2, v0_3, v0_4]]) w (fun v w' => v = (i6 r) ∧ Grow w w') := by
 refine enter (n := 17) func18 rfl rfl rfl Y2 [] (Sat.nil _ _)<|Jc<|Ja<|?_
 refine Z5 (cs := [i6 a0.Kind, str a0.Text, v0_2, v0_3, v0_4]) rfl rfl rfl rfl (fun b1 => ?_)
 refine ag (i6 0)<|Jd<|Jc<|Jc<|Ja<|lf runUnderlying38 rfl sizeOf3 rfl<|ll 0 (i6 a0.Kind) isAgg3<|lv (Yo rfl rfl)<|Jd<|?_
 revert H
 refine ci (decide (a0.Kind ≠ 13)) rfl (fun hb H8=>?_) fun hb H10=>?_
 ·refine Jc<|Ja<|Qx (i := 0) (vs := [i6 a0.Kind, str a0.Text, v0_2, v0_3, v0_4]) isAgg38 sizeOf38 rfl rfl rfl rfl rfl<|?_
  obtain ⟨t8, h_t8, H9⟩ := Je H8; clear H8
  refine Qo (fun w hF hS => k42 (Jn w) (f0_2.mono (hw.now hF)) (f0_3.mono (hw.now hF)) (f0_4.mono (hw.now hF)) h_t8) call42 rfl rfl rfl<|ag (i6 t8)<|Jd<|Jh<|?_
  obtain rfl := sj H9
  exact r1 (i6 t8)
 ·refine Ji<|Jc<|Jc<|Ja<|Qx (i := 0) (vs := [i6 a0.Kind, str a0.Text, v0_2, v0_3, v0_4]) isAgg38 sizeOf38 rfl rfl rfl rfl rfl<|?_
  obtain ⟨t10, h_t10, H11⟩ := Je H10; clear H10
  refine Qo (fun w hF hS => k43 (Jn w) (f0_2.mono (hw.now hF)) (f0_3.mono (hw.now hF)) (f0_4.mono (hw.now hF)) h_t10) call43 rfl rfl rfl<|ag (i6 t10)<|Jd<|Jc<|Ja<|mv (i6 t10)<|lv (Yo rfl rfl)<|Jd<|?_
  revert H11
  refine ci (decide (t10 ≠ 0)) rfl (fun hb H12=>?_) fun hb H13=>?_
  ·refine Jc<|Ja<|mv (i6 t10)<|ag (i6 t10)<|Jd<|Jh<|?_
   obtain rfl := sj H12
   exact r1 (i6 t10)
  ·refine Ji<|Jc<|Ja<|lf runUnderlying38 rfl sizeOf36 rfl<|ll 0 v0_4 isAgg36<|?_
   obtain ⟨t16, h_t16, H14⟩ := Je H13; clear H13
   refine Qo (fun w hF hS => k40 (Jn w) (f0_4.mono (hw.now hF)) h_t16) call40 rfl rfl rfl<|ag (i6 t16)<|Jd<|Jh<|?_
   obtain rfl := sj H14
   exact r1 (i6 t16)
theorem k46 {a0 : (List Int)} {v0 : Value} {r : (List Int)} {w : World} {h : Jo} (hw : Know h w Y2) (f0 : FrS h 1 v0 (a0.map Qc)) (H : Za a0 = some r) : Does prog 46 (List.toArray [v0]) w (fun v w' => ∃ x : (Option Addr × Nat), v = (sl x r.length) ∧ Turn w w' Y2 (Js 3 1 (sl x r.length) r.length (r.map Qc))) := by
 refine enter (n := 8) func46 rfl rfl rfl Y2 [] (Sat.nil _ _)<|Jc<|Ja<|ag (.slice none 0 0)<|Jd<|Jc<|Jc<|Ja<|mv v0<|lv (r_eqlNilS underlying30 f0 rfl rfl)<|Jd<|?_
 refine c_if (b := isNilV v0) rfl (fun hb => ?_) (fun hb => ?_)
 ·have hn_ : a0 = [] := f0.nilV hb
  have H3 : some ([] : List Int) = some r := by have h_ := H; rw [hn_] at h_; exact h_
  refine Jc<|Ja<|ag (.slice none 0 0)<|Jd<|Jh<|J5 3 1<|?_
  obtain rfl := sj H3
  refine ret1 (v := sl nn ([] : List Int).length) rfl rfl (Yy nn (i := 0) rfl rfl (Imp.refl _))
 ·skip
  refine Ji<|Jc<|Ja<|?_
  refine J9 (vs := []) (cs := []) underlying30 sizeOf3 zeroValue3 rfl rfl rfl rfl rfl rfl rfl (fun b1 => ?_)
  refine mv v0<|Qn 0 rfl (imp_box (m := 0) (E := 3) (sz := 1) (xs := (([] : List Int)).map Qc) rfl rfl rfl ⟨rfl, by decide⟩)<|?_
  obtain ⟨l7, h_l7, H4⟩ := Je H; clear H
  refine Qk (Xo (i := 0) (hn := rfl) (rds := []) (p := ((some ⟨b1, 0, none⟩, 0) : Option Addr × Nat)) (sz := 1) (by_ := 8) (f := Qc) (ys := ([] : List Int)) (ls := a0) (V := v0) underlying30 (Qp typeInfo3) rfl rfl rfl rfl rfl rfl rfl rfl f0.eq (List.length_map _) (fun w L' hF hS hi => (f0).row (hw.now hF)) (fun _ => rfl) (fun _ => rfl) h_l7) rfl rfl rfl (fun p => ?_)
  refine ag (sl p l7.length)<|Jd<|Jh<|?_
  obtain rfl := sj H4
  refine ret1 (v := sl p l7.length) rfl rfl (Yy p (i := 0) rfl rfl (Imp.refl _))
theorem k45 {a : Option Addr} {n c : Nat} (hc : n ≤ c) : Ret prog 45 [.slice a n c] (.slice (Q7 a 0 n 1) n n) := by
  refine Xr (n := 9) func45 rfl rfl rfl (fun wd => ?_)
  refine Jc<|Ja<|ag (.slice none 0 0)<|Jd<|Jc<|Ja<|mv (.slice a n c)<|mv (.slice a n c)<|lv (Uf underlying30 rfl)<|mv (.slice a n c)<|lv (Uf underlying30 rfl)<|lv (r_sliceHM (a := a) (m := n) (c := c) (h := (n : Int)) (q := (n : Int)) underlying30 sizeOf3 rfl rfl rfl (Int.natCast_nonneg n) (Int.le_refl _) (Int.ofNat_le.2 hc))<|ag (.slice (Q7 a 0 n 1) n n)<|Jd<|Jh<|?_
  exact ret1 (v := .slice (Q7 a 0 n 1) n n) rfl rfl (fin rfl)
theorem k48 {a0 : (List T_tag_Ratio)} {v0 : Value} {r : (List T_tag_Ratio)} {w : World} {h : Jo} (hw : Know h w Y2) (f0 : FrS h 2 v0 (a0.map Jl)) (H : Wt a0 = some r) : Does prog 48 (List.toArray [v0]) w (fun v w' => ∃ x : (Option Addr × Nat), v = (sl x r.length) ∧ Turn w w' Y2 (Js 52 2 (sl x r.length) r.length (r.map Jl))) := by
 refine enter (n := 8) func48 rfl rfl rfl Y2 [] (Sat.nil _ _)<|Jc<|Ja<|ag (.slice none 0 0)<|Jd<|Jc<|Jc<|Ja<|mv v0<|lv (r_eqlNilS underlying31 f0 rfl rfl)<|Jd<|?_
 refine c_if (b := isNilV v0) rfl (fun hb => ?_) (fun hb => ?_)
 ·have hn_ : a0 = [] := f0.nilV hb
  have H3 : some ([] : List T_tag_Ratio) = some r := by have h_ := H; rw [hn_] at h_; exact h_
  refine Jc<|Ja<|ag (.slice none 0 0)<|Jd<|Jh<|J5 52 2<|?_
  obtain rfl := sj H3
  refine ret1 (v := sl nn ([] : List T_tag_Ratio).length) rfl rfl (Yy nn (i := 0) rfl rfl (Imp.refl _))
 ·skip
  refine Ji<|Jc<|Ja<|?_
  refine J9 (vs := []) (cs := []) underlying31 sizeOf52 zeroValue52 rfl rfl rfl rfl rfl rfl rfl (fun b1 => ?_)
  refine mv v0<|Qn 0 rfl (imp_box (m := 0) (E := 52) (sz := 2) (xs := (([] : List T_tag_Ratio)).map Jl) rfl rfl rfl ⟨rfl, by decide⟩)<|?_
  obtain ⟨l7, h_l7, H4⟩ := Je H; clear H
  refine Qk (Xo (i := 0) (hn := rfl) (rds := []) (p := ((some ⟨b1, 0, none⟩, 0) : Option Addr × Nat)) (sz := 2) (by_ := 16) (f := Jl) (ys := ([] : List T_tag_Ratio)) (ls := a0) (V := v0) underlying31 (Qp typeInfo52) rfl rfl rfl rfl rfl rfl rfl rfl f0.eq (List.length_map _) (fun w L' hF hS hi => (f0).row (hw.now hF)) (fun _ => rfl) (fun _ => rfl) h_l7) rfl rfl rfl (fun p => ?_)
  refine ag (sl p l7.length)<|Jd<|Jh<|?_
  obtain rfl := sj H4
  refine ret1 (v := sl p l7.length) rfl rfl (Yy p (i := 0) rfl rfl (Imp.refl _))
theorem k47 {a : Option Addr} {n c : Nat} (hc : n ≤ c) : Ret prog 47 [.slice a n c] (.slice (Q7 a 0 n 2) n n) := by
  refine Xr (n := 9) func47 rfl rfl rfl (fun wd => ?_)
  refine Jc<|Ja<|ag (.slice none 0 0)<|Jd<|Jc<|Ja<|mv (.slice a n c)<|mv (.slice a n c)<|lv (Uf underlying31 rfl)<|mv (.slice a n c)<|lv (Uf underlying31 rfl)<|lv (r_sliceHM (a := a) (m := n) (c := c) (h := (n : Int)) (q := (n : Int)) underlying31 sizeOf52 rfl rfl rfl (Int.natCast_nonneg n) (Int.le_refl _) (Int.ofNat_le.2 hc))<|ag (.slice (Q7 a 0 n 2) n n)<|Jd<|Jh<|?_
  exact ret1 (v := .slice (Q7 a 0 n 2) n n) rfl rfl (fin rfl)
theorem ovl51 (x y : Value) (w : World) : (callFunc 51 (List.toArray [x, y])).run prog w = (do pure (.value (← Extern.SlicesOverlaps.overlaps #[36, 36] #[4] #[x, y])) : Sem Next).run prog w := by kernel_rfl
theorem k24 {css r : List (List Value)} {cs1 : List Value} {p0 : Option Addr × Nat} {n0 b2 T2 : Nat} {a1 : Int} {w : World} {h : Jo} {S : Nat → Prop} (hcs : (Zw 62 6 (sl p0 n0) n0 (css.map idC)).P S w) (hlt : ∀ b, S b → b < w.heap.size) (hw : Know h w S) (hn0 : n0 = css.length) (hone : ∀ cs ∈ css, ∀ u ∈ cs, u.oneCell' = true) (hone1 : (([cs1].map idC).all fun x => x.all Value.oneCell') = true) (hl1 : cs1.length = 6) (hb2 : h b2 = some (.cells cs1.toArray T2 (0, 0))) (H : gInsN 104 css a1 cs1 = some r) :
    Does prog 24 (List.toArray [sl p0 n0, i6 a1, .slice (some ⟨b2, 0, none⟩) 1 1]) w (fun v w' => ∃ x : Option Addr × Nat, v = sl x r.length ∧ Turn w w' S (Zw 62 6 (sl x r.length) r.length (r.map idC))) := by
 obtain ⟨rfl, g0, g1, g2, g3⟩ := gInsN_some H
 have f2r : RowH h (some ⟨b2, 0, none⟩) 6 ([cs1].map idC) := .inr ⟨b2, 0, cs1.toArray, T2, (0, 0), rfl, hb2, fun i x hx => by
  cases i with
  | zero => simp [idC] at hx; subst hx; exact ⟨hl1, fun j v hv => by simpa using hv⟩
  | succ i => simp at hx⟩
 have hone1 : ∀ u ∈ cs1, u.oneCell' = true := fun u hu => List.all_eq_true.1 (List.all_eq_true.1 hone1 cs1 (by simp [idC])) u hu
 have hins : (Zr css a1 cs1).length = css.length + 1 := insL_len g1 g0
 have h_hi : Yu css a1 css.length = some (css.drop a1.toNat) := Yb (by omega)
 have l_hi : (css.drop a1.toNat).length = css.length - a1.toNat := List.length_drop
 refine enter (n := 95) func24 rfl rfl rfl S [Zw 62 6 (sl p0 n0) n0 (css.map idC)] (Sat.one hcs hlt) ?_
 refine c_know (fun w hF hS => capOfO (i := 0) hS rfl) (fun hcap => ?_)
 refine c_know (fun w hF hS => rowO_all (i := 0) hS rfl) (fun hall => ?_)
 rw [Qv] at hall
 refine Jc<|Ja<|ag (.slice none 0 0)<|Jd<|Jc<|Ja<|mv (sl p0 n0)<|mv (i6 a1)<|Qs (fun w hF hS => Xn (xs := css) underlying36 sizeOf62 rfl rfl hn0 (by omega) h_hi) rfl rfl rfl<|Jd<|Jc<|Ja<|mv (.slice (some ⟨b2, 0, none⟩) 1 1)<|lv (Uf underlying36 rfl)<|ag (i6 ((1 : Nat) : Int))<|Jd<|Jc<|Jc<|Ja<|mv (i6 ((1 : Nat) : Int))<|lv (Xg rfl rfl)<|Jd<|?_
 refine c_if (b := (decide (((1 : Nat) : Int) = 0))) rfl (fun hb => absurd hb (by decide)) (fun hb => ?_)
 refine Ji<|Jc<|Ja<|mv (sl p0 n0)<|lv (r_lenN underlying36 rfl hn0)<|ag (i6 (css.length : Int))<|Jd<|Jc<|Jc<|Ja<|mv (i6 a1)<|mv (i6 (css.length : Int))<|lv (Xg rfl rfl)<|Jd<|?_
 refine c_if (b := (decide (a1 = (css.length : Int)))) rfl (fun hb => ?_) (fun hb => ?_)
 ·have hab : a1 = css.length := of_decide_eq_true hb
  have he : css ++ [cs1] = Zr css a1 cs1 := by
   have ht : a1.toNat = css.length := by omega
   unfold Zr; rw [ht, List.take_length, List.drop_length, List.append_nil]
  refine Jc<|Ja<|mv (sl p0 n0)<|mv (.slice (some ⟨b2, 0, none⟩) 1 1)<|?_
  refine Qk (turns_appendO (i := 0) (sz := 6) (by_ := 104) (rds := []) (news := [cs1].map idC) (m := n0) (q := 1) (p := p0) underlying36 (Qp typeInfo62) rfl rfl rfl rfl rfl rfl rfl rfl rfl (fun x hx => by rw [Qv] at hx; rw [List.mem_singleton.1 hx]; exact hl1) (fun w L' hF hS hj => f2r.row (hw.now hF)) (fun x hx => by rw [Qv] at hx; rw [List.mem_singleton.1 hx]; exact hone1) (by simp only [maxLen]; omega) (by rw [hn0]; exact g2)) rfl rfl rfl (fun p1 => ?_)
  refine ag (sl p1 (n0 + 1))<|Jd<|Jh<|?_
  refine ret1 (v := sl p1 (n0 + 1)) rfl rfl (Yy p1 (i := 0) rfl (by rw [hins, hn0]) (Imp.of (by rw [hins, hn0, ← List.map_append, he])))
 ·have hab : ¬ a1 = css.length := of_decide_eq_false hb
  refine Ji<|Jc<|Jc<|Ja<|mv (i6 (css.length : Int))<|mv (i6 ((1 : Nat) : Int))<|lv (r_add rfl rfl (by omega))<|mv (sl p0 n0)<|lv (r_cap underlying36 rfl)<|lv (Vz rfl rfl)<|Jd<|?_
  refine c_if (b := (decide ((p0.2 : Int) < (css.length : Int) + ((1 : Nat) : Int)))) rfl (fun hb => ?_) (fun hb => ?_)
  ·have hb1 := of_decide_eq_true hb
   have h_lo : Yu css 0 a1 = some (css.take a1.toNat) := gCut_to (by omega)
   have l_lo : (css.take a1.toNat).length = a1.toNat := by rw [List.length_take]; omega
   refine Jc<|Ja<|mv (sl p0 n0)<|mv (i6 a1)<|Qs (v := sl p0 (css.take a1.toNat).length) (fun w hF hS => run_sliceHO0 (xs := css) underlying36 sizeOf62 rfl rfl hn0 (by omega) h_lo) rfl rfl rfl<|mv (i6 (css.length : Int))<|mv (i6 ((1 : Nat) : Int))<|lv (r_add rfl rfl (by omega))<|mv (i6 a1)<|lv (r_sub rfl rfl (by omega))<|?_
   have hk : (css.length : Int) + ((1 : Nat) : Int) - a1 = ((css.length + 1 - a1.toNat : Nat) : Int) := by omega
   rw [l_lo, hk]
   have hsum : a1.toNat + (css.length + 1 - a1.toNat) = css.length + 1 := by omega
   refine Yw (makes_growZ (i := 0) (sz := 6) (by_ := 104) (xs := css.map idC) (p := p0) (m := n0) (a := a1.toNat) (k := css.length + 1 - a1.toNat) underlying36 underlying3 (Qp typeInfo62) rfl rfl rfl rfl rfl rfl rfl (by omega) rfl (by omega) (by omega) (by rw [hsum]; simp only [maxLen]; omega) (by rw [hsum]; exact g2)) rfl rfl rfl (fun p1 => ?_)
   refine ag (sl p1 (a1.toNat + (css.length + 1 - a1.toNat)))<|Jd<|?_
   have hr1 : (css.map idC).take a1.toNat ++ List.replicate (css.length + 1 - a1.toNat) [i6 0, i6 0, str [], .slice none 0 0, .slice none 0 0, .slice none 0 0] = (css.take a1.toNat ++ (List.replicate (css.length + 1 - a1.toNat) [i6 0, i6 0, str [], .slice none 0 0, .slice none 0 0, .slice none 0 0])) := by rw [Qv]
   refine Qn 1 rfl (Imp.of (congrArg (Js 62 6 (sl p1 (a1.toNat + (css.length + 1 - a1.toNat))) (a1.toNat + (css.length + 1 - a1.toNat))) hr1)) ?_
   have len1 : (css.take a1.toNat ++ (List.replicate (css.length + 1 - a1.toNat) [i6 0, i6 0, str [], .slice none 0 0, .slice none 0 0, .slice none 0 0])).length = (a1.toNat + (css.length + 1 - a1.toNat)) := by rw [List.length_append, l_lo, List.length_replicate]
   generalize hR1 : (css.take a1.toNat ++ (List.replicate (css.length + 1 - a1.toNat) [i6 0, i6 0, str [], .slice none 0 0, .slice none 0 0, .slice none 0 0])) = R1 at len1
   have hcut1 : Yu R1 a1 R1.length = some (R1.drop a1.toNat) := Yb (by omega)
   have ldr1 : (R1.drop a1.toNat).length = css.length + 1 - a1.toNat := by rw [List.length_drop, len1]; omega
   refine Jc<|Ja<|mv (sl p1 (a1.toNat + (css.length + 1 - a1.toNat)))<|mv (i6 a1)<|Qs (v := .slice (Q7 p1.1 a1.toNat p1.2 6) (R1.drop a1.toNat).length (p1.2 - a1.toNat)) (fun w hF hS => Xn (xs := R1) underlying36 sizeOf62 rfl rfl len1.symm (capOf (i := 1) hS rfl) hcut1) rfl rfl rfl<|mv (.slice (some ⟨b2, 0, none⟩) 1 1)<|?_
   refine Qk (turns_copyK (i := 1) (rds := []) (xs := R1) (news := [cs1].map idC) (sz := 6) (m := (a1.toNat + (css.length + 1 - a1.toNat))) (a := a1.toNat) (q := 1) (p := p1) underlying36 (Qp typeInfo62) rfl rfl len1.symm rfl (by omega) rfl (by omega) rfl (by omega) (fun w L' hF hS hj => f2r.row (hw.now hF)) (fun x hx => by rw [Qv] at hx; rw [List.mem_singleton.1 hx]; exact hl1) (fun x hx => by rw [Qv] at hx; rw [List.mem_singleton.1 hx]; exact hone1)) rfl rfl rfl (fun _ => ?_)
   refine Jd ?_
   have len2 : (R1.take a1.toNat ++ [cs1].map idC ++ R1.drop (a1.toNat + 1)).length = (a1.toNat + (css.length + 1 - a1.toNat)) := by simp only [List.length_append, List.length_take, List.length_drop, List.length_map, List.length_cons, List.length_nil, len1]; omega
   generalize hR2 : R1.take a1.toNat ++ [cs1].map idC ++ R1.drop (a1.toNat + 1) = R2 at len2
   have hcut2 : Yu R2 (a1 + ((1 : Nat) : Int)) R2.length = some (R2.drop (a1 + ((1 : Nat) : Int)).toNat) := Yb (by omega)
   have ht1 : (a1 + ((1 : Nat) : Int)).toNat = a1.toNat + 1 := by omega
   rw [ht1] at hcut2
   have ldr2 : (R2.drop (a1.toNat + 1)).length = css.length - a1.toNat := by rw [List.length_drop, len2]; omega
   refine Jc ?_
   exact Qi (Kd.p :: Kd.p :: Kd.p :: Kd.p :: Kd.d [1] _ :: Kd.p :: Kd.p :: Kd.d [0] _ :: Kd.t 1 [0] _ _ :: []) 0 mixed (by
    refine dm (sl p1 (a1.toNat + (css.length + 1 - a1.toNat)))<|dm (i6 a1)<|dm (i6 ((1 : Nat) : Int))<|dv (r_add rfl rfl (by omega))<|Zl (v := .slice (Q7 p1.1 (a1.toNat + 1) p1.2 6) (R2.drop (a1.toNat + 1)).length (p1.2 - (a1.toNat + 1))) (fun w L' hF hS hi => ht1 ▸ Xn (xs := R2) underlying36 sizeOf62 rfl rfl len2.symm (capOf (i := 1) hS ((hi 1 (by simp)).trans rfl)) (ht1.symm ▸ hcut2)) rfl rfl<|dm (sl p0 n0)<|dm (i6 a1)<|Zl (v := .slice (Q7 p0.1 a1.toNat p0.2 6) (css.drop a1.toNat).length (p0.2 - a1.toNat)) (fun w L' hF hS hi => Xn (xs := css) underlying36 sizeOf62 rfl rfl hn0 (by omega) h_hi) rfl rfl<|?_
    refine d_turn (Cv := fun _ => Js 62 6 (sl p1 (a1.toNat + (css.length + 1 - a1.toNat))) (a1.toNat + (css.length + 1 - a1.toNat)) (R2.take (a1.toNat + 1) ++ (css.drop a1.toNat).map idC ++ R2.drop (a1.toNat + 1 + (css.drop a1.toNat).length))) ()
     (turns_copyK (i := 1) (rds := [0]) (xs := R2) (news := (css.drop a1.toNat).map idC) (sz := 6) (m := (a1.toNat + (css.length + 1 - a1.toNat))) (a := a1.toNat + 1) (q := (css.drop a1.toNat).length) (p := p1) underlying36 (Qp typeInfo62) rfl rfl len2.symm rfl (by omega) rfl (by omega) (List.length_map _).symm (by omega)
      (fun w L' hF hS hj => Row.cutG (xs := css) (f := idC) (offOf (i := 0) hS ((hj 0 (by simp)).trans rfl)) hn0 (by omega) h_hi) (by rw [Qv]; exact fun x hx => hall x (List.mem_of_mem_drop hx)) (by rw [Qv]; exact fun x hx => hone x (List.mem_of_mem_drop hx))) (fun _ => rfl) rfl rfl (fun _ => ?_)
    refine Y8 ?_
    have hch : R2.take (a1.toNat + 1) ++ (css.drop a1.toNat).map idC ++ R2.drop (a1.toNat + 1 + (css.drop a1.toNat).length) = (Zr css a1 cs1).map idC := by
     have e3 : R2.drop (a1.toNat + 1 + (css.drop a1.toNat).length) = [] := List.eq_nil_of_length_eq_zero (by rw [List.length_drop, len2]; omega)
     have t1 : R1.take a1.toNat = css.take a1.toNat := by rw [← hR1, List.take_append_of_le_length (by omega), List.take_of_length_le (by omega)]
     have t2 : R2.take (a1.toNat + 1) = css.take a1.toNat ++ [cs1] := by
      rw [← hR2, t1, List.take_append_of_le_length (by simp only [List.length_append, List.length_map, List.length_cons, List.length_nil, l_lo]; omega), List.take_of_length_le (by simp only [List.length_append, List.length_map, List.length_cons, List.length_nil, l_lo]; omega), Qv]
     rw [e3, t2, List.append_nil, Qv, Qv, List.append_assoc]; rfl
    refine Jc<|Ja<|mv (sl p1 (a1.toNat + (css.length + 1 - a1.toNat)))<|ag (sl p1 (a1.toNat + (css.length + 1 - a1.toNat)))<|Jd<|Jh<|Qn 1 rfl (Zg _ _ _ _ _)<|?_
    refine ret1 (v := sl p1 (a1.toNat + (css.length + 1 - a1.toNat))) rfl rfl (Yy p1 (i := 1) rfl (by rw [hins, hsum]) (Imp.of (by rw [hins, hch, hsum])))
    ) (by kernel_rfl)
  ·have hroom : css.length + 1 ≤ p0.2 := by have := of_decide_eq_false hb; omega
   refine Ji<|Qn 0 rfl (imp_room1 (by omega))<|?_
   refine c_ex 0 rfl (fun y0 => ?_)
   refine c_know (fun w hF hS => rowO_all (i := 0) hS rfl) (fun hall1 => ?_)
   have hy0 : y0.length = 6 := hall1 y0 (by simp)
   have lenR : (css.map idC ++ [y0]).length = n0 + 1 := by rw [List.length_append, List.length_map, List.length_singleton, hn0]
   generalize hR1 : css.map idC ++ [y0] = R1 at lenR hall1
   refine Jc<|Ja<|mv (sl p0 n0)<|mv (i6 (css.length : Int))<|mv (i6 ((1 : Nat) : Int))<|lv (r_add rfl rfl (by omega))<|?_
   refine Jp (v := sl p0 (n0 + 1)) rfl rfl rfl (by
    have e1 : ((css.length : Int) + ((1 : Nat) : Int)).toNat = n0 + 1 := by omega
    rw [← e1]; exact run_sliceHRoom underlying36 sizeOf62 rfl rfl (by omega) (by omega)) ?_
   refine ag (sl p0 (n0 + 1))<|Jd<|?_
   have h_hi1 : Yu R1 a1 R1.length = some (R1.drop a1.toNat) := Yb (by omega)
   have ht1 : (a1 + ((1 : Nat) : Int)).toNat = a1.toNat + 1 := by omega
   have h_hi2 : Yu R1 (a1 + ((1 : Nat) : Int)) R1.length = some (R1.drop (a1.toNat + 1)) := by rw [← ht1]; exact Yb (by omega)
   have ld1 : (R1.drop a1.toNat).length = n0 + 1 - a1.toNat := by rw [List.length_drop, lenR]
   have ld2 : (R1.drop (a1.toNat + 1)).length = n0 - a1.toNat := by rw [List.length_drop, lenR]; omega
   have hd1 : R1.drop a1.toNat = (css.drop a1.toNat).map idC ++ [y0] := by
    rw [← hR1, List.drop_append_of_le_length (by rw [List.length_map]; omega), ← List.map_drop]
   refine Jc<|Jc<|Ja<|mv (.slice (some ⟨b2, 0, none⟩) 1 1)<|mv (sl p0 (n0 + 1))<|mv (i6 a1)<|mv (i6 ((1 : Nat) : Int))<|lv (r_add rfl rfl (by omega))<|Qs (v := .slice (Q7 p0.1 (a1.toNat + 1) p0.2 6) (R1.drop (a1.toNat + 1)).length (p0.2 - (a1.toNat + 1))) (fun w hF hS => ht1 ▸ Xn (xs := R1) underlying36 sizeOf62 rfl rfl lenR.symm (by omega) (ht1.symm ▸ h_hi2)) rfl rfl rfl<|?_
   refine Qs (v := .bool false) (fun W hF hS => by
    obtain ⟨S1, hC1, hS1⟩ := hS.at (i := 0) rfl
    obtain ⟨g1, g2⟩ := hw b2 _ hb2
    refine run_ovl (f := 51) (ovl51) underlying36 sizeOf62 rfl hC1 (by omega) (hw.now hF b2 _ hb2) (fun hs1 => ?_) rfl rfl
    rcases (hS1 b2 hs1).2 with hh | hh
    ·have hlt2 : b2 < w.heap.size := (Array.getElem?_eq_some_iff.1 g1).1
     exact absurd hh (by show ¬ w.heap.size ≤ b2; omega)
    ·exact g2 hh) rfl rfl rfl ?_
   refine lv (Uu rfl)<|Jd<|?_
   refine c_if (b := !false) rfl (fun _ => ?_) (fun hb => absurd hb (by decide))
   refine Jc ?_
   exact Qi (Kd.p :: Kd.p :: Kd.p :: Kd.p :: Kd.d [0] _ :: Kd.p :: Kd.p :: Kd.d [0] _ :: Kd.t 0 [] _ _ :: []) 0 mixed (by
    refine dm (sl p0 (n0 + 1))<|dm (i6 a1)<|dm (i6 ((1 : Nat) : Int))<|dv (r_add rfl rfl (by omega))<|Zl (v := .slice (Q7 p0.1 (a1.toNat + 1) p0.2 6) (R1.drop (a1.toNat + 1)).length (p0.2 - (a1.toNat + 1))) (fun w L' hF hS hi => ht1 ▸ Xn (xs := R1) underlying36 sizeOf62 rfl rfl lenR.symm (by omega) (ht1.symm ▸ h_hi2)) rfl rfl<|dm (sl p0 (n0 + 1))<|dm (i6 a1)<|Zl (v := .slice (Q7 p0.1 a1.toNat p0.2 6) (R1.drop a1.toNat).length (p0.2 - a1.toNat)) (fun w L' hF hS hi => Xn (xs := R1) underlying36 sizeOf62 rfl rfl lenR.symm (by omega) h_hi1) rfl rfl<|?_
    refine d_turn (Cv := fun _ => Zw 62 6 (sl p0 (n0 + 1)) (n0 + 1) (R1.take (a1.toNat + 1) ++ (css.drop a1.toNat).map idC ++ R1.drop (a1.toNat + 1 + (css.drop a1.toNat).length))) ()
     (turns_copyKO (i := 0) (rds := []) (xs := R1) (news := (css.drop a1.toNat).map idC) (sz := 6) (m := n0 + 1) (a := a1.toNat + 1) (k := (css.drop a1.toNat).length) (p := p0) underlying36 (Qp typeInfo62) rfl rfl lenR.symm rfl (by omega) rfl (by omega) (List.length_map _).symm (by omega)
      (fun w L' hF hS hj => by
       have hr := Row.cutG (xs := R1) (f := fun z : List Value => z) (by rw [List.map_id']; exact offOf (i := 0) hS ((hj 0 (.inr rfl)).trans rfl)) lenR.symm (show n0 + 1 ≤ p0.2 by omega) h_hi1
       rw [List.map_id', hd1] at hr
       exact Row.pre hr) (by rw [Qv]; exact fun x hx => hall x (List.mem_of_mem_drop hx)) (by rw [Qv]; exact fun x hx => hone x (List.mem_of_mem_drop hx))) (fun _ => rfl) rfl rfl (fun _ => ?_)
    refine Y8 ?_
    have len2 : (R1.take (a1.toNat + 1) ++ (css.drop a1.toNat).map idC ++ R1.drop (a1.toNat + 1 + (css.drop a1.toNat).length)).length = n0 + 1 := by simp only [List.length_append, List.length_take, List.length_drop, List.length_map, lenR]; omega
    generalize hR2 : R1.take (a1.toNat + 1) ++ (css.drop a1.toNat).map idC ++ R1.drop (a1.toNat + 1 + (css.drop a1.toNat).length) = R2 at len2
    have h_hi3 : Yu R2 a1 R2.length = some (R2.drop a1.toNat) := Yb (by omega)
    have ld3 : (R2.drop a1.toNat).length = n0 + 1 - a1.toNat := by rw [List.length_drop, len2]
    refine Jc<|Ja<|mv (sl p0 (n0 + 1))<|mv (i6 a1)<|Qs (v := .slice (Q7 p0.1 a1.toNat p0.2 6) (R2.drop a1.toNat).length (p0.2 - a1.toNat)) (fun w hF hS => Xn (xs := R2) underlying36 sizeOf62 rfl rfl len2.symm (by omega) h_hi3) rfl rfl rfl<|mv (.slice (some ⟨b2, 0, none⟩) 1 1)<|?_
    refine Qk (turns_copyKO (i := 0) (rds := []) (xs := R2) (news := [cs1].map idC) (sz := 6) (m := n0 + 1) (a := a1.toNat) (q := 1) (k := 1) (p := p0) underlying36 (Qp typeInfo62) rfl rfl len2.symm rfl (by omega) rfl (by omega) rfl (by omega) (fun w L' hF hS hj => f2r.row (hw.now hF)) (fun x hx => by rw [Qv] at hx; rw [List.mem_singleton.1 hx]; exact hl1) (fun x hx => by rw [Qv] at hx; rw [List.mem_singleton.1 hx]; exact hone1)) rfl rfl rfl (fun _ => ?_)
    refine Jd ?_
    have hch : R2.take a1.toNat ++ [cs1].map idC ++ R2.drop (a1.toNat + 1) = (Zr css a1 cs1).map idC := by
     have e3 : R1.drop (a1.toNat + 1 + (css.drop a1.toNat).length) = [] := List.eq_nil_of_length_eq_zero (by rw [List.length_drop, lenR]; omega)
     have l1 : (R1.take (a1.toNat + 1)).length = a1.toNat + 1 := by rw [List.length_take, lenR]; omega
     have t1 : R1.take a1.toNat = css.take a1.toNat := by rw [← hR1, Qv, List.take_append_of_le_length (by omega)]
     have t2 : R2.take a1.toNat = css.take a1.toNat := by
      rw [← hR2, List.append_assoc, List.take_append_of_le_length (by omega), List.take_take, Nat.min_eq_left (by omega), t1]
     have t3 : R2.drop (a1.toNat + 1) = css.drop a1.toNat := by
      rw [← hR2, e3, List.append_nil, List.drop_append_of_le_length (by omega), List.drop_eq_nil_of_le (by omega), List.nil_append, Qv]
     rw [t2, t3, Qv, Qv, List.append_assoc]; rfl
    refine Jc<|Ja<|mv (sl p0 (n0 + 1))<|ag (sl p0 (n0 + 1))<|Jd<|Jh<|?_
    refine ret1 (v := sl p0 (n0 + 1)) rfl rfl (Yy p0 (i := 0) rfl (by rw [hins, hn0]) (Imp.of (by rw [hins, hch, hn0])))
    ) (by kernel_rfl)
theorem k23 {a : Option Addr} {n c : Nat} (hc : n ≤ c) : Ret prog 23 [.slice a n c] (.slice (Q7 a 0 n 6) n n) := by
  refine Xr (n := 9) func23 rfl rfl rfl (fun wd => ?_)
  refine Jc<|Ja<|ag (.slice none 0 0)<|Jd<|Jc<|Ja<|mv (.slice a n c)<|mv (.slice a n c)<|lv (Uf underlying36 rfl)<|mv (.slice a n c)<|lv (Uf underlying36 rfl)<|lv (r_sliceHM (a := a) (m := n) (c := c) (h := (n : Int)) (q := (n : Int)) underlying36 sizeOf62 rfl rfl rfl (Int.natCast_nonneg n) (Int.le_refl _) (Int.ofNat_le.2 hc))<|ag (.slice (Q7 a 0 n 6) n n)<|Jd<|Jh<|?_
  exact ret1 (v := .slice (Q7 a 0 n 6) n n) rfl rfl (fin rfl)
end Go.Proofs.YtdcppgplkfkjiaaGreatDoor

/- TopCarried, read: the walks, printed by our generator; each follows its model. Conditions: the model yields a value. -/
namespace Go.Proofs.YtdcppgplkfkjiaaGreatDoor
open Go Go.Vc Go.Md Go.M Go.Lx Tryz
set_option maxRecDepth 100000
set_option maxHeartbeats 4000000
set_option linter.unusedVariables false
theorem k64 {a0 : (List Int)} {v0 : Value} {a1 : Int} {r : Unit} {w : World} {h : Jo} (hw : Know h w Y2) (f0 : FrS h 1 v0 (a0.map Qc)) (H : tag_Read_1 a0 a1 = some r) : Does prog 64 (List.toArray [v0, i6 a1]) w (fun v w' => v = (.tuple #[]) ∧ Grow w w') := by
 refine enter (n := 4) func64 rfl rfl rfl Y2 [] (Sat.nil _ _)<|Ji<|?_
 cases H
 refine ret0n rfl (fin rfl)
theorem hft118 (k : Nat) : FnV prog (J6 k) (mft118 k) (fun g => Jav g) :=
  match k with
  | 0 => (show FnV prog (J6 0) (mft118 0) _ from (FnV.mk (g := tag_Read_1) (R := fun g => Jav g) (fun h_ => (FnH.mk ⟨64, #[], #[], rfl, call64, fun args2 post2 w2 hk2 hR2 => by obtain ⟨a0_, v0_, a1_, r_, fa0_, rfl, H_, rfl⟩ := hR2; exact k64 (Jn w2) fa0_ H_⟩))))
  | _ + 1 => FnV.nil
theorem k55 {a0 : Bool} {a1 : Int} {a2 : Int} {r : (List Int)} {w : World} {h : Jo} (hw : Know h w Y2) (H : Jf a0 a1 a2 = some r) : Does prog 55 (List.toArray [.bool a0, i6 a1, i6 a2]) w (fun v w' => ∃ x : (Option Addr × Nat), v = (sl x r.length) ∧ Turn w w' Y2 (Js 5 1 (sl x r.length) r.length (r.map Xc))) := by
 refine enter (n := 33) func55 rfl rfl rfl Y2 [] (Sat.nil _ _)<|Jc<|Ja<|ag (.slice none 0 0)<|Jd<|Jc<|Ja<|mv (i6 a2)<|?_
 obtain ⟨t11, h_t11, H15⟩ := Je H; clear H
 refine Yw (rds := []) (makes_makeG (E := 5) (sz := 1) (f := Xc) (xs := t11) underlying91 (Qp typeInfo5) rfl rfl rfl rfl rfl rfl ⟨rfl, rfl⟩ h_t11) rfl rfl rfl (fun p => ?_)
 refine ag (sl p t11.length)<|Jd<|Jc<|Jc<|Ja<|mv (sl p t11.length)<|lv (Uf underlying91 rfl)<|mv (i6 0)<|Jd<|Jx<|?_
 refine Zn (σ := Int × (List Int)) (τ := Unit) (fun next1 s => Xu a0 a1 a2 t11 next1 s.1 s.2) (fun s t => [(0, .bool a0), (1, i6 a1), (2, i6 a2), (7, sl p t11.length), (13, i6 (t11.length : Int)), (14, i6 s.1)]) (fun s t => [Js 5 1 (sl p t11.length) t11.length (s.2.map Xc)]) (fun s t => t11.length = s.2.length) (0, t11) () [0] H15 (by exact rfl) (by exact ⟨rfl, rfl, rfl, rfl, rfl, rfl, trivial⟩) (by decide) rfl ?_
 rintro ⟨x14_2, l_2⟩ _ m1 gg H16 hl_2
 clear H15
 try dsimp only at H16
 generalize hn1 : it (fun next1 s => Xu a0 a1 a2 t11 next1 s.1 s.2) m1 = next1 at H16
 try dsimp only
 refine Jc<|Ja<|lv (Yc rfl rfl)<|Jd<|Jc<|?_
 revert H16
 refine ci (decide (x14_2 < (t11.length : Int))) rfl (fun hb H17=>?_) fun hb H28=>?_
 ·refine Ji<|Jc<|Jx<|Jc<|Ja<|mv (i6 x14_2)<|ag (i6 x14_2)<|Jd<|Jc<|Ja<|mv (i6 x14_2)<|ag (i6 x14_2)<|Jd<|?_
  refine Q3 (r := r) (σ := Int) (τ := Unit) (fun s => V6 a1 x14_2 l_2 next1 s) (fun s t => [(0, .bool a0), (1, i6 a1), (2, i6 a2), (7, sl p t11.length), (8, i6 x14_2), (9, i6 s), (13, i6 (t11.length : Int)), (14, i6 x14_2)]) (fun s t => [Js 5 1 (sl p t11.length) t11.length (l_2.map Xc)]) (fun s t => True) ?_ ?_
  ·refine Jc<|Ja<|mv (.bool a0)<|Jd<|?_
   revert H17
   refine ci a0 rfl (fun hb H24=>?_) fun hb H27=>?_
   ·refine Ja<|mv (i6 a2)<|?_
    obtain ⟨t20, h_t20, H25⟩ := Je H24; clear H24
    refine lv (Vh rfl rfl h_t20)<|mv (i6 x14_2)<|?_
    obtain ⟨t22, h_t22, H26⟩ := Je H25; clear H25
    refine lv (Vh rfl rfl h_t22)<|ag (i6 t22)<|Jd<|?_
    exact cl t22 () 0 [0] (by exact ⟨H26, trivial⟩)
   ·refine Ji ?_
    exact cl x14_2 () 0 [0] (by exact ⟨H27, trivial⟩)
  ·rintro x9 _ gg H18 _
   try dsimp only at H18
   try dsimp only
   refine Ja<|mv (sl p t11.length)<|mv (i6 x9)<|mv (i6 a1)<|mv (i6 x14_2)<|?_
   obtain ⟨t27, h_t27, H19⟩ := Je H18; clear H18
   refine lv (V5 rfl rfl h_t27) ?_
   obtain ⟨t28, h_t28, H20⟩ := Je H19; clear H19
   refine lv (r_shrG rfl rfl rfl h_t28)<|lv (W9 runUnderlying3 runUnderlying5 rfl (wr_u8 _))<|?_
   obtain ⟨t30, h_t30, H21⟩ := Je H20; clear H20
   refine Qs (fun w hF hS => Zt underlying91 sizeOf5 rfl rfl (V3 (i := 0) hS rfl) hl_2 h_t30) rfl rfl rfl ?_
   obtain ⟨l0, h_l0, H22⟩ := Je H21; clear H21
   refine l_storeG (q := 0) (j := 0) (i := x9) (sz := 1) (hm := hl_2) (f := Xc) (vs := [.int .u8 (wU8 t28)]) sizeOf5 rfl rfl rfl rfl rfl rfl rfl rfl rfl (fun y_ hy_ => by first | rfl | (cases hy_.symm.trans h_t30; rfl)) h_l0<|Jd<|Ja<|?_
   obtain ⟨t31, h_t31, H23⟩ := Je H22; clear H22
   refine lv (J1 rfl rfl h_t31)<|mv (i6 t31)<|Jd<|?_
   exact cl (t31, l0) () m1 [0] (by exact ⟨(by subst hn1; exact H23), (gSet_n hl_2 h_l0)⟩)
 ·refine Xx<|Jc<|Ja<|mv (sl p t11.length)<|ag (sl p t11.length)<|Jd<|Jh<|?_
  obtain rfl := sj H28
  refine ret1 (v := sl p t11.length) rfl rfl (Yy p (i := 0) rfl (by first | rfl | rw [(show t11.length = l_2.length from hl_2)]) (by first | exact Imp.refl _ | exact Imp.of (by rw [(show t11.length = l_2.length from hl_2)] <;> rfl)))
theorem k57 {a0 : T_tag_writer} {pb0 : Nat} {p0_1 : Option Addr × Nat} {n0_1 : Nat} {a1 : Int} {a2 : Int} {r : T_tag_writer} {w : World} {h : Jo} {S : Nat → Prop} (hcs : (Jt (Jg pb0 [.bool a0.big_, sl p0_1 n0_1] 105) (Js 5 1 (sl p0_1 n0_1) n0_1 (a0.out_.map Xc))).P S w) (hlt : ∀ b, S b → b < w.heap.size) (hw : Know h w S) (hn0_1 : n0_1 = a0.out_.length) (H : Vf a0 a1 a2 = some r) : Does prog 57 (List.toArray [.pointer (some ⟨pb0, 0, none⟩), i6 a1, i6 a2]) w (fun v w' => ∃ x : (Option Addr × Nat), v = (.tuple #[]) ∧ Turn w w' S (Jt (Jg pb0 [.bool r.big_, sl x r.out_.length] 105) (Js 5 1 (sl x r.out_.length) r.out_.length (r.out_.map Xc)))) := by
 refine enter (n := 19) func57 rfl rfl rfl S [Jt (Jg pb0 [.bool a0.big_, sl p0_1 n0_1] 105) (Js 5 1 (sl p0_1 n0_1) n0_1 (a0.out_.map Xc))] (Sat.one hcs hlt)<|Xv 0 rfl<|?_
 exact Qi (Kd.p :: Kd.p :: Kd.p :: Kd.d [0] _ :: Kd.p :: Kd.d [1] _ :: Kd.p :: Kd.p :: Kd.p :: Kd.d [0] _ :: Kd.p :: Kd.t 2 [] _ _ :: Kd.t 1 [2] _ _ :: []) 1 mixed (by
  refine dm (.pointer (some ⟨pb0, 0, none⟩))<|dv (Jj rfl)<|dv (J3 runUnderlying105 rfl sizeOf91 rfl rfl)<|dl (sl p0_1 n0_1) isAgg91<|dm (i6 a1)<|?_
  have h_t11 := J0 H
  have H3 := Ju H
  refine Zl (v := .slice (Q7 p0_1.1 (Int.toNat a1) p0_1.2 1) (val (Yu a0.out_ a1 a0.out_.length)).length (p0_1.2 - Int.toNat a1)) (fun w L' hF hS hi => Xn (xs := a0.out_) underlying91 sizeOf5 rfl rfl hn0_1 (capOf (i := 1) hS ((hi 1 (by simp)).trans rfl)) h_t11) rfl rfl<|dm (.pointer (some ⟨pb0, 0, none⟩))<|dv (Jj rfl)<|dv (J3 runUnderlying105 rfl sizeOf4 rfl rfl)<|dl (.bool a0.big_) isAgg4<|dm (i6 a2)<|?_
  have h_t17 := J0 H3
  have H4 := Ju H3
  refine d_make (Cv := fun v => Js 5 1 v (val (Jf a0.big_ a2 4)).length ((val (Jf a0.big_ a2 4)).map Xc)) (none, 0) (Qm (G := fun x : (Option Addr × Nat) => sl x (val (Jf a0.big_ a2 4)).length) (C := fun x : (Option Addr × Nat) => Js 5 1 (sl x (val (Jf a0.big_ a2 4)).length) (val (Jf a0.big_ a2 4)).length ((val (Jf a0.big_ a2 4)).map Xc)) (fun w L' hF hS hi => k55 (Jn w)  h_t17) call55 rfl) (fun _ => rfl) rfl rfl rfl (fun p => ?_)
  refine d_turn (Cv := fun _ => Js 5 1 (sl p0_1 n0_1) n0_1 ((cpyL a0.out_ a1 (val (Yu a0.out_ a1 a0.out_.length)).length (val (Jf a0.big_ a2 4))).map Xc)) () (turns_copyG (i := 1) (rds := _) (p := p0_1) (f := Xc) (xs := a0.out_) (ts := (val (Yu a0.out_ a1 a0.out_.length))) (ys := (val (Jf a0.big_ a2 4))) hn0_1 underlying91 (by rw [Qp typeInfo5]; rfl) rfl rfl h_t11 rfl rfl (fun w L' hF hS hi => V3 (i := 2) hS ((hi 2 (by simp)).trans rfl)) (fun _ => rfl) (fun _ => rfl)) (fun _ => rfl) rfl rfl (fun _ => ?_)
  refine Y8 ?_
  obtain rfl := sj H4
  refine bo 0 1 rfl rfl ?_
  refine ret0n rfl (Yy p0_1 (i := 0) rfl (by first | rfl | rw [(show n0_1 = (cpyL a0.out_ a1 (val (Yu a0.out_ a1 a0.out_.length)).length (val (Jf a0.big_ a2 4))).length from (cpyL_n hn0_1 h_t11))]) (by first | exact Imp.refl _ | exact Imp.of (by rw [(show n0_1 = (cpyL a0.out_ a1 (val (Yu a0.out_ a1 a0.out_.length)).length (val (Jf a0.big_ a2 4))).length from (cpyL_n hn0_1 h_t11))] <;> rfl)))
  ) (by kernel_rfl)
theorem k75 {a0 : T_tag_writer} {pb0 : Nat} {p0_1 : Option Addr × Nat} {n0_1 : Nat} {r : Int × T_tag_writer} {w : World} {h : Jo} {S : Nat → Prop} (hcs : (Jt (Jg pb0 [.bool a0.big_, sl p0_1 n0_1] 105) (Js 5 1 (sl p0_1 n0_1) n0_1 (a0.out_.map Xc))).P S w) (hlt : ∀ b, S b → b < w.heap.size) (hw : Know h w S) (hn0_1 : n0_1 = a0.out_.length) (H : Wi a0 = some r) : Does prog 75 (List.toArray [.pointer (some ⟨pb0, 0, none⟩)]) w (fun v w' => ∃ x : (Option Addr × Nat), v = (i6 r.1) ∧ Turn w w' S (Jt (Jg pb0 [.bool r.2.big_, sl x r.2.out_.length] 105) (Js 5 1 (sl x r.2.out_.length) r.2.out_.length (r.2.out_.map Xc)))) := by
 refine enter (n := 24) func75 rfl rfl rfl S [Jt (Jg pb0 [.bool a0.big_, sl p0_1 n0_1] 105) (Js 5 1 (sl p0_1 n0_1) n0_1 (a0.out_.map Xc))] (Sat.one hcs hlt)<|Xv 0 rfl<|Jc<|Ja<|ag (i6 0)<|Jd<|?_
 refine Q3 (r := r) (σ := (List Int)) (τ := (Option Addr × Nat) × Nat) (fun s => V9 a0 s) (fun s t => [(0, .pointer (some ⟨pb0, 0, none⟩))]) (fun s t => [Jg pb0 [.bool a0.big_, .slice t.1.1 t.2 t.1.2] 105, Js 5 1 (.slice t.1.1 t.2 t.1.2) t.2 (s.map Xc)]) (fun s t => t.2 = s.length) ?_ ?_
 ·refine Jc<|Ja<|mv (.pointer (some ⟨pb0, 0, none⟩))<|lv (Jj rfl)<|lf runUnderlying105 rfl sizeOf91 rfl<|ll 0 (sl p0_1 n0_1) isAgg91<|lv (r_lenN underlying91 rfl hn0_1)<|?_
  obtain ⟨t8, h_t8, H7⟩ := Je H; clear H
  refine lv (r_remG rfl rfl h_t8)<|lv (Yo rfl rfl)<|Jd<|?_
  revert H7
  refine ci (decide (t8 ≠ 0)) rfl (fun hb H8=>?_) fun hb H10=>?_
  ·refine Ja<|mv (.pointer (some ⟨pb0, 0, none⟩))<|mv (.pointer (some ⟨pb0, 0, none⟩))<|lv (Jj rfl)<|lf runUnderlying105 rfl sizeOf91 rfl<|ll 0 (sl p0_1 n0_1) isAgg91<|?_
   refine J9 (vs := [.int .u8 0]) (cs := [.int .u8 0]) underlying91 sizeOf5 zeroValue5 rfl rfl rfl rfl rfl rfl rfl (fun b1 => ?_)
   obtain ⟨l16, h_l16, H9⟩ := Je H8; clear H8
   refine Qk (Xo (i := 1) (hn := hn0_1) (rds := [2]) (p := p0_1) (sz := 1) (by_ := 1) (f := Xc) (ys := a0.out_) (ls := ([0] : List Int)) (V := .slice (some ⟨b1, 0, none⟩) 1 1) underlying91 (Qp typeInfo5) rfl rfl rfl rfl rfl rfl rfl rfl rfl rfl (fun w L' hF hS hi => Wr (i := 2) hS ((hi 2 (by simp)).trans rfl) rfl rfl) (fun _ => rfl) (fun _ => rfl) h_l16) rfl rfl rfl (fun p_2 => ?_)
   refine lv (Jj rfl)<|lf runUnderlying105 rfl sizeOf91 rfl<|st (i := 0) [sl p_2 l16.length] [.bool a0.big_, sl p_2 l16.length] sizeOf91 rfl rfl<|Jd<|?_
   exact cl l16 (p_2, l16.length) 0 [0, 1] (by exact ⟨H9, rfl⟩)
  ·refine Ji ?_
   exact cl a0.out_ (p0_1, n0_1) 0 [0, 1] (by exact ⟨H10, hn0_1⟩)
 ·rintro l ⟨p, n⟩ gg H6 hl
  try dsimp only at H6
  try dsimp only
  refine Jc<|Ja<|mv (.pointer (some ⟨pb0, 0, none⟩))<|lv (Jj rfl)<|lf runUnderlying105 rfl sizeOf91 rfl<|ll 0 (sl p n) isAgg91<|lv (r_lenN underlying91 rfl hl)<|ag (i6 (l.length : Int))<|Jd<|Jh<|?_
  obtain rfl := sj H6
  refine bo 0 1 rfl rfl ?_
  refine ret1 (v := i6 (l.length : Int)) rfl rfl (Yy p (i := 0) rfl (by first | rfl | rw [(show n = l.length from hl)]) (by first | exact Imp.refl _ | exact Imp.of (by rw [(show n = l.length from hl)] <;> rfl)))
theorem k77 {a0 : Bool} {a1 : T_tag_Value} {v1_2 : Value} {v1_3 : Value} {v1_4 : Value} {r : (List Int)} {w : World} {h : Jo} (hw : Know h w Y2) (f1_2 : FrS h 1 v1_2 (a1.Ints.map Qc)) (f1_3 : FrS h 2 v1_3 (a1.Ratios.map Jl)) (f1_4 : FrN h 6 v1_4 g_tag_Entry a1.Entries) (H : Xz a0 a1 = some r) : Does prog 77 (List.toArray [.bool a0, .agg #[i6 a1.Kind, str a1.Text, v1_2, v1_3, v1_4]]) w (fun v w' => ∃ x : (Option Addr × Nat), v = (sl x r.length) ∧ Turn w w' Y2 (roV 1 (sl x r.length) r.length (r.map Xc))) := by
 refine enter (n := 61) func77 rfl rfl rfl Y2 [] (Sat.nil _ _)<|Jc<|Ja<|?_
 refine Z5 (cs := [i6 a1.Kind, str a1.Text, v1_2, v1_3, v1_4]) rfl rfl rfl rfl (fun b6 => ?_)
 refine ag (.slice none 0 0)<|Jd<|Jc<|Jc<|Ja<|lf runUnderlying38 rfl sizeOf3 rfl<|ll 0 (i6 a1.Kind) isAgg3<|Jd<|Jx<|Jc<|Ja<|lv (Xg rfl rfl)<|ag (.bool (decide (a1.Kind = 2)))<|Jd<|?_
 revert H
 refine ci (decide (a1.Kind = 2)) rfl (fun hb H51=>?_) fun hb H54=>?_
 ·refine Jc<|Ja<|lf runUnderlying38 rfl sizeOf9 rfl<|ll 0 (str a1.Text) isAgg9<|?_
  obtain ⟨t16, h_t16, H52⟩ := Je H51; clear H51
  refine Yw (rds := []) (makes_byt (f := Xc) (s := a1.Text) underlying9 underlying91 underlying5 rfl (fun _ => rfl) h_t16) rfl rfl rfl (fun p => ?_)
  refine J9 (vs := [.int .u8 0]) (cs := [.int .u8 0]) underlying91 sizeOf5 zeroValue5 rfl rfl rfl rfl rfl rfl rfl (fun b7 => ?_)
  obtain ⟨l18, h_l18, H53⟩ := Je H52; clear H52
  refine Qk (turns_appM (i := 1) (hn := rfl) (rds := [2]) (p := p) (sz := 1) (by_ := 1) (f := Xc) (ys := t16) (ls := ([0] : List Int)) (V := .slice (some ⟨b7, 0, none⟩) 1 1) underlying91 (Qp typeInfo5) rfl rfl rfl rfl rfl rfl rfl rfl rfl rfl (fun w L' hF hS hi => Wr (i := 2) hS ((hi 2 (by simp)).trans rfl) rfl rfl) (fun _ => rfl) (fun _ => rfl) h_l18) rfl rfl rfl (fun p_2 => ?_)
  refine ag (sl p_2 l18.length)<|Jd<|Jh<|?_
  obtain rfl := sj H53
  refine Qn 1 rfl (imp_mkro _ _ _ _ _) ?_
  refine ret1 (v := sl p_2 l18.length) rfl rfl (Yy p_2 (i := 1) rfl rfl (Imp.refl _))
 ·refine Jc<|Ja<|lv (Xg rfl rfl)<|ag (.bool (decide (a1.Kind = 7)))<|Jd<|?_
  revert H54
  refine ci (decide (a1.Kind = 7)) rfl (fun hb H55=>?_) fun hb H57=>?_
  ·refine Jc<|Ja<|lf runUnderlying38 rfl sizeOf9 rfl<|ll 0 (str a1.Text) isAgg9<|?_
   obtain ⟨t23, h_t23, H56⟩ := Je H55; clear H55
   refine Yw (rds := []) (makes_byt (f := Xc) (s := a1.Text) underlying9 underlying91 underlying5 rfl (fun _ => rfl) h_t23) rfl rfl rfl (fun p_3 => ?_)
   refine ag (sl p_3 t23.length)<|Jd<|Jh<|?_
   obtain rfl := sj H56
   refine Qn 1 rfl (imp_mkro _ _ _ _ _) ?_
   refine ret1 (v := sl p_3 t23.length) rfl rfl (Yy p_3 (i := 1) rfl rfl (Imp.refl _))
  ·refine Ji<|Jc<|Ja<|ag (.slice none 0 0)<|Jd<|?_
   refine Q3 (r := r) (σ := (List Int)) (τ := (Option Addr × Nat)) (fun s => Uy a0 a1 s) (fun s t => [(0, .bool a0), (3, .pointer (some ⟨b6, 0, none⟩)), (5, sl t s.length)]) (fun s t => [Jg b6 [i6 a1.Kind, str a1.Text, v1_2, v1_3, v1_4] 38, Js 5 1 (sl t s.length) s.length (s.map Xc)]) (fun s t => True) ?_ ?_
   ·refine Jc<|Ja<|lf runUnderlying38 rfl sizeOf30 rfl<|ll 0 v1_2 isAgg30<|lv (Wu underlying30 rfl f1_2 rfl)<|mv (i6 0)<|Jd<|Jx<|J5 5 1<|?_
    refine Zn (σ := Int × (List Int)) (τ := (Option Addr × Nat)) (fun next3 s => Z3 a0 a1 next3 s.1 s.2) (fun s t => [(0, .bool a0), (3, .pointer (some ⟨b6, 0, none⟩)), (5, sl t s.2.length), (25, v1_2), (26, i6 (a1.Ints.length : Int)), (27, i6 s.1)]) (fun s t => [Jg b6 [i6 a1.Kind, str a1.Text, v1_2, v1_3, v1_4] 38, Js 5 1 (sl t s.2.length) s.2.length (s.2.map Xc)]) (fun s t => True) (0, ([] : List Int)) nn [0, 1] H57 (by exact trivial) (by exact ⟨rfl, rfl, rfl, rfl, rfl, rfl, trivial⟩) (by decide) rfl ?_
    rintro ⟨x27_2, l_5⟩ p_10 m3 gg H68 _
    clear H57
    try dsimp only at H68
    generalize hn3 : it (fun next3 s => Z3 a0 a1 next3 s.1 s.2) m3 = next3 at H68
    try dsimp only
    refine Jc<|Ja<|lv (Yc rfl rfl)<|Jd<|Jc<|?_
    revert H68
    refine ci (decide (x27_2 < (a1.Ints.length : Int))) rfl (fun hb H69=>?_) fun hb H75=>?_
    ·refine Ji<|Jc<|Jx<|Jc<|Ja<|?_
     obtain ⟨t29, h_t29, H70⟩ := Je H69; clear H69
     refine lv (Xq underlying30 sizeOf3 rfl rfl f1_2 h_t29)<|Qs (fun w hF hS => Q9 (f := Qc) (i := x27_2) (sz := 1) (j := 0) (v := i6 t29) isAgg3 rfl rfl (f1_2.row (hw.now hF)) h_t29 rfl) rfl rfl rfl<|ag (i6 t29)<|Jd<|Ja<|mv (sl p_10 l_5.length)<|mv (.bool a0)<|mv (i6 t29)<|lf runUnderlying38 rfl sizeOf3 rfl<|ll 0 (i6 a1.Kind) isAgg3<|?_
     obtain ⟨t36, h_t36, H71⟩ := Je H70; clear H70
     refine Xy (k71 h_t36) call71 rfl rfl rfl ?_
     obtain ⟨t37, h_t37, H72⟩ := Je H71; clear H71
     refine Yw (Qm (rds := []) (G := fun x : (Option Addr × Nat) => sl x t37.length) (C := fun x : (Option Addr × Nat) => Js 5 1 (sl x t37.length) t37.length (t37.map Xc)) (fun w L' hF hS hi => k55 (Jn w)  h_t37) call55 rfl) rfl rfl rfl (fun p_11 => ?_)
     obtain ⟨l38, h_l38, H73⟩ := Je H72; clear H72
     refine Qk (Xo (i := 1) (hn := rfl) (rds := [2]) (p := p_10) (sz := 1) (by_ := 1) (f := Xc) (ys := l_5) (ls := t37) (V := sl p_11 t37.length) underlying91 (Qp typeInfo5) rfl rfl rfl rfl rfl rfl rfl rfl rfl rfl (fun w L' hF hS hi => V3 (i := 2) hS ((hi 2 (by simp)).trans rfl)) (fun _ => rfl) (fun _ => rfl) h_l38) rfl rfl rfl (fun p_12 => ?_)
     refine ag (sl p_12 l38.length)<|Jd<|Ja<|?_
     obtain ⟨t39, h_t39, H74⟩ := Je H73; clear H73
     refine lv (J1 rfl rfl h_t39)<|mv (i6 t39)<|Jd<|?_
     exact cl (t39, l38) p_12 m3 [0, 1] (by exact ⟨(by subst hn3; exact H74), trivial⟩)
    ·refine Xx ?_
     exact cl l_5 p_10 0 [0, 1] (by exact ⟨H75, trivial⟩)
   ·rintro l p_4 gg H58 _
    try dsimp only at H58
    try dsimp only
    refine Jc<|Jc<|Ja<|lf runUnderlying38 rfl sizeOf31 rfl<|ll 0 v1_3 isAgg31<|lv (Wu underlying31 rfl f1_3 rfl)<|mv (i6 0)<|Jd<|Jx<|c_dr 0<|?_
    try dsimp only [z1, z2, z3, z4, z5, z6, z7, z8]
    refine Zn (σ := Int × (List Int)) (τ := (Option Addr × Nat)) (fun next2 s => Z7 a0 a1 next2 s.1 s.2) (fun s t => [(0, .bool a0), (5, sl t s.2.length), (41, v1_3), (42, i6 (a1.Ratios.length : Int)), (43, i6 s.1)]) (fun s t => [Js 5 1 (sl t s.2.length) s.2.length (s.2.map Xc)]) (fun s t => True) (0, l) p_4 [0] H58 (by exact trivial) (by exact ⟨rfl, rfl, rfl, rfl, rfl, trivial⟩) (by decide) rfl ?_
    rintro ⟨x43_2, l_3⟩ p_5 m2 gg H59 _
    clear H58
    try dsimp only at H59
    generalize hn2 : it (fun next2 s => Z7 a0 a1 next2 s.1 s.2) m2 = next2 at H59
    try dsimp only
    refine Jc<|Ja<|lv (Yc rfl rfl)<|Jd<|Jc<|?_
    revert H59
    refine ci (decide (x43_2 < (a1.Ratios.length : Int))) rfl (fun hb H60=>?_) fun hb H67=>?_
    ·refine Ji<|Jc<|Jx<|Jc<|Ja<|?_
     obtain ⟨t45, h_t45, H61⟩ := Je H60; clear H60
     refine lv (Xq underlying31 sizeOf52 rfl rfl f1_3 h_t45)<|Qs (fun w hF hS => Zb (f := Jl) (i := x43_2) (sz := 2) (j := 0) (vs := [i6 t45.Num, i6 t45.Den]) isAgg52 sizeOf52 rfl rfl (f1_3.row (hw.now hF)) h_t45 rfl) rfl rfl rfl<|?_
     refine Xf (cs := [i6 0, i6 0]) zeroValue52 rfl rfl rfl (fun b8 => ?_)
     refine st (i := 1) [i6 t45.Num, i6 t45.Den] [i6 t45.Num, i6 t45.Den] sizeOf52 rfl rfl<|Jd<|Jc<|Ja<|mv (sl p_5 l_3.length)<|mv (.bool a0)<|lf runUnderlying52 rfl sizeOf3 rfl<|ll 1 (i6 t45.Num) isAgg3<|?_
     obtain ⟨t51, h_t51, H62⟩ := Je H61; clear H61
     refine Yw (Qm (rds := []) (G := fun x : (Option Addr × Nat) => sl x t51.length) (C := fun x : (Option Addr × Nat) => Js 5 1 (sl x t51.length) t51.length (t51.map Xc)) (fun w L' hF hS hi => k55 (Jn w)  h_t51) call55 rfl) rfl rfl rfl (fun p_6 => ?_)
     obtain ⟨l52, h_l52, H63⟩ := Je H62; clear H62
     refine Qk (Xo (i := 0) (hn := rfl) (rds := [2]) (p := p_5) (sz := 1) (by_ := 1) (f := Xc) (ys := l_3) (ls := t51) (V := sl p_6 t51.length) underlying91 (Qp typeInfo5) rfl rfl rfl rfl rfl rfl rfl rfl rfl rfl (fun w L' hF hS hi => V3 (i := 2) hS ((hi 2 (by simp)).trans rfl)) (fun _ => rfl) (fun _ => rfl) h_l52) rfl rfl rfl (fun p_7 => ?_)
     refine ag (sl p_7 l52.length)<|Jd<|Ja<|mv (sl p_7 l52.length)<|mv (.bool a0)<|lf runUnderlying52 rfl sizeOf3 rfl<|ll 1 (i6 t45.Den) isAgg3<|?_
     obtain ⟨t57, h_t57, H64⟩ := Je H63; clear H63
     refine Yw (Qm (rds := []) (G := fun x : (Option Addr × Nat) => sl x t57.length) (C := fun x : (Option Addr × Nat) => Js 5 1 (sl x t57.length) t57.length (t57.map Xc)) (fun w L' hF hS hi => k55 (Jn w)  h_t57) call55 rfl) rfl rfl rfl (fun p_8 => ?_)
     obtain ⟨l58, h_l58, H65⟩ := Je H64; clear H64
     refine Qk (Xo (i := 0) (hn := rfl) (rds := [3]) (p := p_7) (sz := 1) (by_ := 1) (f := Xc) (ys := l52) (ls := t57) (V := sl p_8 t57.length) underlying91 (Qp typeInfo5) rfl rfl rfl rfl rfl rfl rfl rfl rfl rfl (fun w L' hF hS hi => V3 (i := 3) hS ((hi 3 (by simp)).trans rfl)) (fun _ => rfl) (fun _ => rfl) h_l58) rfl rfl rfl (fun p_9 => ?_)
     refine ag (sl p_9 l58.length)<|Jd<|?_
     try dsimp only [z1, z2, z5, z6, z7, z8]
     refine Ja ?_
     obtain ⟨t59, h_t59, H66⟩ := Je H65; clear H65
     refine lv (J1 rfl rfl h_t59)<|mv (i6 t59)<|Jd<|?_
     exact cl (t59, l58) p_9 m2 [0] (by exact ⟨(by subst hn2; exact H66), trivial⟩)
    ·refine Xx<|Jc<|Ja<|mv (sl p_5 l_3.length)<|ag (sl p_5 l_3.length)<|Jd<|Jh<|?_
     obtain rfl := sj H67
     refine Qn 0 rfl (row_ro _ _ _ _ _) ?_
     refine ret1 (v := sl p_5 l_3.length) rfl rfl (Yy p_5 (i := 0) rfl rfl (Imp.refl _))
theorem k56_it (mm : Nat) : ∀ {a0 : T_tag_writer} {pb0 : Nat} {p0_1 : Option Addr × Nat} {n0_1 : Nat} {a1 : (List T_tag_Entry)} {v1 : Value} {r : Int × Int × T_tag_writer} {w : World} {h : Jo} {S : Nat → Prop} (hcs : (Jt (Jg pb0 [.bool a0.big_, sl p0_1 n0_1] 105) (Js 5 1 (sl p0_1 n0_1) n0_1 (a0.out_.map Xc))).P S w) (hlt : ∀ b, S b → b < w.heap.size) (hw : Know h w S) (hn0_1 : n0_1 = a0.out_.length) (f1 : FrN h 6 v1 g_tag_Entry a1) (H : it (fun (self : (T_tag_writer × (List T_tag_Entry)) → Option (Int × Int × T_tag_writer)) (s : T_tag_writer × (List T_tag_Entry)) => X4 self s.1 s.2) mm (a0, a1) = some r), Does prog 56 (List.toArray [.pointer (some ⟨pb0, 0, none⟩), v1]) w (fun v w' => ∃ x : (Option Addr × Nat), v = (.tuple #[i6 r.1, i6 r.2.1]) ∧ Turn w w' S (Jt (Jg pb0 [.bool r.2.2.big_, sl x r.2.2.out_.length] 105) (Js 5 1 (sl x r.2.2.out_.length) r.2.2.out_.length (r.2.2.out_.map Xc)))) := by
 induction mm with
 | zero => intros; rename_i H; exact absurd H (by simp [it])
 | succ mm ih =>
  intro a0 pb0 p0_1 n0_1 a1 v1 r w h S hcs hlt hw hn0_1 f1 H
  replace H : X4 (it (fun (self : (T_tag_writer × (List T_tag_Entry)) → Option (Int × Int × T_tag_writer)) (s : T_tag_writer × (List T_tag_Entry)) => X4 self s.1 s.2) mm) a0 a1 = some r := H
  generalize it (fun (self : (T_tag_writer × (List T_tag_Entry)) → Option (Int × Int × T_tag_writer)) (s : T_tag_writer × (List T_tag_Entry)) => X4 self s.1 s.2) mm = self at H ih
  refine enter (n := 172) func56 rfl rfl rfl S [Jt (Jg pb0 [.bool a0.big_, sl p0_1 n0_1] 105) (Js 5 1 (sl p0_1 n0_1) n0_1 (a0.out_.map Xc))] (Sat.one hcs hlt)<|Xv 0 rfl<|Jc<|Ja<|ag (i6 0)<|ag (i6 0)<|Jd<|Jc<|Ja<|mv (.pointer (some ⟨pb0, 0, none⟩))<|?_
  obtain ⟨t15, h_t15, H41⟩ := Je H; clear H
  refine bo 0 1 rfl rfl ?_
  refine Qk (Qe (i := 0) (rds := []) (G := fun x : (Option Addr × Nat) => i6 t15.1) (C := fun x : (Option Addr × Nat) => Jt (Jg pb0 [.bool t15.2.big_, sl x t15.2.out_.length] 105) (Js 5 1 (sl x t15.2.out_.length) t15.2.out_.length (t15.2.out_.map Xc))) rfl (fun w L' S hF hS hi hp hlt ho hA => k75 hp hlt (Xi w S) hn0_1 h_t15) call75 rfl) rfl rfl rfl (fun p => ?_)
  refine ub 0 1 rfl rfl<|ag (i6 t15.1)<|Jd<|Jc<|?_
  exact Qi (Kd.p :: Kd.p :: Kd.p :: Kd.p :: Kd.d [0] _ :: Kd.p :: Kd.p :: Kd.p :: Kd.d [0] _ :: Kd.p :: Kd.p :: Kd.t 2 [] _ _ :: Kd.t 1 [2] _ _ :: Kd.p :: Kd.p :: Kd.sv 30 28 0 _ 105 :: []) 1 mixed (by
   refine dm (.pointer (some ⟨pb0, 0, none⟩))<|dm (.pointer (some ⟨pb0, 0, none⟩))<|dv (Jj rfl)<|dv (J3 runUnderlying105 rfl sizeOf91 rfl rfl)<|dl (sl p t15.2.out_.length) isAgg91<|dm (.pointer (some ⟨pb0, 0, none⟩))<|dv (Jj rfl)<|dv (J3 runUnderlying105 rfl sizeOf4 rfl rfl)<|dl (.bool t15.2.big_) isAgg4<|dm v1<|dv (Yv underlying36 rfl f1)<|?_
   have h_t27 := J0 H41
   have H42 := Ju H41
   refine d_make (Cv := fun v => Js 5 1 v (val (Jf t15.2.big_ (a1.length : Int) 2)).length ((val (Jf t15.2.big_ (a1.length : Int) 2)).map Xc)) (none, 0) (Qm (G := fun x : (Option Addr × Nat) => sl x (val (Jf t15.2.big_ (a1.length : Int) 2)).length) (C := fun x : (Option Addr × Nat) => Js 5 1 (sl x (val (Jf t15.2.big_ (a1.length : Int) 2)).length) (val (Jf t15.2.big_ (a1.length : Int) 2)).length ((val (Jf t15.2.big_ (a1.length : Int) 2)).map Xc)) (fun w L' hF hS hi => k55 (Jn w)  h_t27) call55 rfl) (fun _ => rfl) rfl rfl rfl (fun p_2 => ?_)
   have h_l28 := J0 H42
   have H43 := Ju H42
   refine d_turn (Cv := fun v => Js 5 1 v (val (Ye 1 t15.2.out_ (val (Jf t15.2.big_ (a1.length : Int) 2)))).length ((val (Ye 1 t15.2.out_ (val (Jf t15.2.big_ (a1.length : Int) 2)))).map Xc)) (none, 0) (Xo (i := 1) (hn := rfl) (rds := [2]) (p := p) (sz := 1) (by_ := 1) (f := Xc) (ys := t15.2.out_) (ls := (val (Jf t15.2.big_ (a1.length : Int) 2))) (V := sl p_2 (val (Jf t15.2.big_ (a1.length : Int) 2)).length) underlying91 (Qp typeInfo5) rfl rfl rfl rfl rfl rfl rfl rfl rfl rfl (fun w L' hF hS hi => V3 (i := 2) hS ((hi 2 (by simp)).trans rfl)) (fun _ => rfl) (fun _ => rfl) h_l28) (fun _ => rfl) rfl rfl (fun p_3 => ?_)
   refine dv (Jj rfl)<|dv (J3 runUnderlying105 rfl sizeOf91 rfl rfl)<|Jaj (i := 0) (vs := [.slice p_3.1 (val (Ye 1 t15.2.out_ (val (Jf t15.2.big_ (a1.length : Int) 2)))).length p_3.2]) (cs' := fun v_ => [.bool t15.2.big_, v_]) sizeOf91 rfl rfl rfl rfl rfl rfl rfl rfl rfl<|Y8<|?_
   refine Q3 (r := r) (σ := (List Int)) (τ := (Option Addr × Nat)) (fun s => Vt a1 self t15 s) (fun s t => [(0, .pointer (some ⟨pb0, 0, none⟩)), (1, v1), (4, i6 t15.1)]) (fun s t => [Jg pb0 [.bool t15.2.big_, sl t s.length] 105, Js 5 1 (sl t s.length) s.length (s.map Xc)]) (fun s t => True) ?_ ?_
   ·refine Jc<|Ja<|mv v1<|lv (Yv underlying36 rfl f1)<|mv (i6 0)<|Jd<|Jx<|c_dr 2<|?_
    try dsimp only [z1, z2, z3, z4, z5, z6, z7, z8]
    refine Zn (σ := Int × (List Int)) (τ := (Option Addr × Nat)) (fun next5 s => X9 a1 self t15 next5 s.1 s.2) (fun s t => [(0, .pointer (some ⟨pb0, 0, none⟩)), (1, v1), (4, i6 t15.1), (31, v1), (32, i6 (a1.length : Int)), (33, i6 s.1)]) (fun s t => [Jg pb0 [.bool t15.2.big_, sl t s.2.length] 105, Js 5 1 (sl t s.2.length) s.2.length (s.2.map Xc)]) (fun s t => True) (0, (val (Ye 1 t15.2.out_ (val (Jf t15.2.big_ (a1.length : Int) 2))))) p_3 [0, 1] H43 (by exact trivial) (by exact ⟨rfl, rfl, rfl, rfl, rfl, rfl, trivial⟩) (by decide) rfl ?_
    rintro ⟨x33_2, l_7⟩ p_15 m5 gg H68 _
    clear H43
    try dsimp only at H68
    generalize hn5 : it (fun next5 s => X9 a1 self t15 next5 s.1 s.2) m5 = next5 at H68
    try dsimp only
    refine Jc<|Ja<|lv (Yc rfl rfl)<|Jd<|Jc<|?_
    revert H68
    refine ci (decide (x33_2 < (a1.length : Int))) rfl (fun hb H69=>?_) fun hb H80=>?_
    ·refine Ji<|Jc<|Jx<|Jc<|Ja<|?_
     obtain ⟨t35, h_t35, H70⟩ := Je H69; clear H69
     refine lv (Xq underlying36 sizeOf62 rfl rfl f1.frs (f1.ix h_t35))<|Qs (fun w hF hS => Zb (f := (elC h v1 6)) (i := x33_2) (sz := 6) (j := 0) (vs := [i6 t35.Tag, i6 t35.Value.Kind, str t35.Value.Text, (Xt h v1 6 (Int.toNat x33_2) 3), (Xt h v1 6 (Int.toNat x33_2) 4), (Xt h v1 6 (Int.toNat x33_2) 5)]) isAgg62 sizeOf62 rfl rfl (f1.frs.row (hw.now hF)) (f1.ix h_t35) (rd_of (Yh (f1.at h_t35)) rfl)) rfl rfl rfl<|?_
     refine Xf (cs := [i6 0, i6 0, str [], .slice none 0 0, .slice none 0 0, .slice none 0 0]) zeroValue62 rfl rfl rfl (fun b6 => ?_)
     refine Ya (i := 2) (vs := [i6 t35.Tag, i6 t35.Value.Kind, str t35.Value.Text, (Xt h v1 6 (Int.toNat x33_2) 3), (Xt h v1 6 (Int.toNat x33_2) 4), (Xt h v1 6 (Int.toNat x33_2) 5)]) (cs' := [i6 t35.Tag, i6 t35.Value.Kind, str t35.Value.Text, (Xt h v1 6 (Int.toNat x33_2) 3), (Xt h v1 6 (Int.toNat x33_2) 4), (Xt h v1 6 (Int.toNat x33_2) 5)]) sizeOf62 rfl rfl rfl rfl rfl rfl (by simp only [List.all_cons, List.all_nil, (show FrN h 6 (Xt h v1 6 (Int.toNat x33_2) 5) g_tag_Entry t35.Value.Entries from (Qt (Jq (f1.at h_t35)))).one, (show FrS h 1 (Xt h v1 6 (Int.toNat x33_2) 3) (t35.Value.Ints.map Qc) from (Xj (Jq (f1.at h_t35)))).one, (show FrS h 2 (Xt h v1 6 (Int.toNat x33_2) 4) (t35.Value.Ratios.map Jl) from (Xh (Jq (f1.at h_t35)))).one] <;> rfl) rfl rfl<|Jd<|Jc<|?_
     exact Qi (Kd.p :: Kd.p :: Kd.p :: Kd.p :: Kd.d [0] _ :: Kd.p :: Kd.p :: Kd.p :: Kd.d [0] _ :: Kd.p :: Kd.d [2] _ :: Kd.t 3 [] _ _ :: Kd.t 1 [3] _ _ :: Kd.p :: Kd.p :: Kd.sv 51 49 0 _ 105 :: []) 1 mixed (by
      refine dm (.pointer (some ⟨pb0, 0, none⟩))<|dm (.pointer (some ⟨pb0, 0, none⟩))<|dv (Jj rfl)<|dv (J3 runUnderlying105 rfl sizeOf91 rfl rfl)<|dl (sl p_15 l_7.length) isAgg91<|dm (.pointer (some ⟨pb0, 0, none⟩))<|dv (Jj rfl)<|dv (J3 runUnderlying105 rfl sizeOf4 rfl rfl)<|dl (.bool t15.2.big_) isAgg4<|dv (J3 runUnderlying62 rfl sizeOf3 rfl rfl)<|dl (i6 t35.Tag) isAgg3<|?_
      have h_t48 := J0 H70
      have H71 := Ju H70
      refine d_make (Cv := fun v => Js 5 1 v (val (Jf t15.2.big_ t35.Tag 2)).length ((val (Jf t15.2.big_ t35.Tag 2)).map Xc)) (none, 0) (Qm (G := fun x : (Option Addr × Nat) => sl x (val (Jf t15.2.big_ t35.Tag 2)).length) (C := fun x : (Option Addr × Nat) => Js 5 1 (sl x (val (Jf t15.2.big_ t35.Tag 2)).length) (val (Jf t15.2.big_ t35.Tag 2)).length ((val (Jf t15.2.big_ t35.Tag 2)).map Xc)) (fun w L' hF hS hi => k55 (Jn w)  h_t48) call55 rfl) (fun _ => rfl) rfl rfl rfl (fun p_16 => ?_)
      have h_l49 := J0 H71
      have H72 := Ju H71
      refine d_turn (Cv := fun v => Js 5 1 v (val (Ye 1 l_7 (val (Jf t15.2.big_ t35.Tag 2)))).length ((val (Ye 1 l_7 (val (Jf t15.2.big_ t35.Tag 2)))).map Xc)) (none, 0) (Xo (i := 1) (hn := rfl) (rds := [3]) (p := p_15) (sz := 1) (by_ := 1) (f := Xc) (ys := l_7) (ls := (val (Jf t15.2.big_ t35.Tag 2))) (V := sl p_16 (val (Jf t15.2.big_ t35.Tag 2)).length) underlying91 (Qp typeInfo5) rfl rfl rfl rfl rfl rfl rfl rfl rfl rfl (fun w L' hF hS hi => V3 (i := 3) hS ((hi 3 (by simp)).trans rfl)) (fun _ => rfl) (fun _ => rfl) h_l49) (fun _ => rfl) rfl rfl (fun p_17 => ?_)
      refine dv (Jj rfl)<|dv (J3 runUnderlying105 rfl sizeOf91 rfl rfl)<|Jaj (i := 0) (vs := [sl p_17 (val (Ye 1 l_7 (val (Jf t15.2.big_ t35.Tag 2)))).length]) (cs' := fun v_ => [.bool t15.2.big_, v_]) sizeOf91 rfl rfl rfl rfl rfl rfl rfl rfl rfl<|Y8<|Jc<|?_
      exact Qi (Kd.p :: Kd.p :: Kd.p :: Kd.p :: Kd.d [0] _ :: Kd.p :: Kd.p :: Kd.p :: Kd.d [0] _ :: Kd.p :: Kd.p :: Kd.d [2] _ :: Kd.t 4 [] _ _ :: Kd.t 1 [4] _ _ :: Kd.p :: Kd.p :: Kd.sv 67 65 0 _ 105 :: []) 1 mixed (by
       refine dm (.pointer (some ⟨pb0, 0, none⟩))<|dm (.pointer (some ⟨pb0, 0, none⟩))<|dv (Jj rfl)<|dv (J3 runUnderlying105 rfl sizeOf91 rfl rfl)<|dl (sl p_17 (val (Ye 1 l_7 (val (Jf t15.2.big_ t35.Tag 2)))).length) isAgg91<|dm (.pointer (some ⟨pb0, 0, none⟩))<|dv (Jj rfl)<|dv (J3 runUnderlying105 rfl sizeOf4 rfl rfl)<|dl (.bool t15.2.big_) isAgg4<|dv (J3 runUnderlying62 rfl sizeOf38 rfl rfl)<|dv (J3 runUnderlying38 rfl sizeOf3 rfl rfl)<|dl (i6 t35.Value.Kind) isAgg3<|?_
       have h_t64 := J0 H72
       have H73 := Ju H72
       refine d_make (Cv := fun v => Js 5 1 v (val (Jf t15.2.big_ t35.Value.Kind 2)).length ((val (Jf t15.2.big_ t35.Value.Kind 2)).map Xc)) (none, 0) (Qm (G := fun x : (Option Addr × Nat) => sl x (val (Jf t15.2.big_ t35.Value.Kind 2)).length) (C := fun x : (Option Addr × Nat) => Js 5 1 (sl x (val (Jf t15.2.big_ t35.Value.Kind 2)).length) (val (Jf t15.2.big_ t35.Value.Kind 2)).length ((val (Jf t15.2.big_ t35.Value.Kind 2)).map Xc)) (fun w L' hF hS hi => k55 (Jn w)  h_t64) call55 rfl) (fun _ => rfl) rfl rfl rfl (fun p_18 => ?_)
       have h_l65 := J0 H73
       have H74 := Ju H73
       refine d_turn (Cv := fun v => Js 5 1 v (val (Ye 1 (val (Ye 1 l_7 (val (Jf t15.2.big_ t35.Tag 2)))) (val (Jf t15.2.big_ t35.Value.Kind 2)))).length ((val (Ye 1 (val (Ye 1 l_7 (val (Jf t15.2.big_ t35.Tag 2)))) (val (Jf t15.2.big_ t35.Value.Kind 2)))).map Xc)) (none, 0) (Xo (i := 1) (hn := rfl) (rds := [4]) (p := p_17) (sz := 1) (by_ := 1) (f := Xc) (ys := (val (Ye 1 l_7 (val (Jf t15.2.big_ t35.Tag 2))))) (ls := (val (Jf t15.2.big_ t35.Value.Kind 2))) (V := sl p_18 (val (Jf t15.2.big_ t35.Value.Kind 2)).length) underlying91 (Qp typeInfo5) rfl rfl rfl rfl rfl rfl rfl rfl rfl rfl (fun w L' hF hS hi => V3 (i := 4) hS ((hi 4 (by simp)).trans rfl)) (fun _ => rfl) (fun _ => rfl) h_l65) (fun _ => rfl) rfl rfl (fun p_19 => ?_)
       refine dv (Jj rfl)<|dv (J3 runUnderlying105 rfl sizeOf91 rfl rfl)<|Jaj (i := 0) (vs := [.slice p_19.1 (val (Ye 1 (val (Ye 1 l_7 (val (Jf t15.2.big_ t35.Tag 2)))) (val (Jf t15.2.big_ t35.Value.Kind 2)))).length p_19.2]) (cs' := fun v_ => [.bool t15.2.big_, v_]) sizeOf91 rfl rfl rfl rfl rfl rfl rfl rfl rfl<|Y8<|Jc<|?_
       exact Qi (Kd.p :: Kd.p :: Kd.p :: Kd.p :: Kd.d [0] _ :: Kd.p :: Kd.p :: Kd.p :: Kd.d [0] _ :: Kd.p :: Kd.d [2] _ :: Kd.d [] _ :: Kd.t 5 [] _ _ :: Kd.t 1 [5] _ _ :: Kd.p :: Kd.p :: Kd.sv 83 81 0 _ 105 :: []) 1 mixed (by
        refine dm (.pointer (some ⟨pb0, 0, none⟩))<|dm (.pointer (some ⟨pb0, 0, none⟩))<|dv (Jj rfl)<|dv (J3 runUnderlying105 rfl sizeOf91 rfl rfl)<|dl (.slice p_19.1 (val (Ye 1 (val (Ye 1 l_7 (val (Jf t15.2.big_ t35.Tag 2)))) (val (Jf t15.2.big_ t35.Value.Kind 2)))).length p_19.2) isAgg91<|dm (.pointer (some ⟨pb0, 0, none⟩))<|dv (Jj rfl)<|dv (J3 runUnderlying105 rfl sizeOf4 rfl rfl)<|dl (.bool t15.2.big_) isAgg4<|dv (J3 runUnderlying62 rfl sizeOf38 rfl rfl)<|d_loadN (i := 2) (vs := [i6 t35.Value.Kind, str t35.Value.Text, (Xt h v1 6 (Int.toNat x33_2) 3), (Xt h v1 6 (Int.toNat x33_2) 4), (Xt h v1 6 (Int.toNat x33_2) 5)]) isAgg38 sizeOf38 rfl rfl rfl rfl<|?_
        have h_t79 := J0 H74
        have H75 := Ju H74
        refine Ua (fun w L' hF hS hi => k76 (Jn w) ((show FrS h 1 (Xt h v1 6 (Int.toNat x33_2) 3) (t35.Value.Ints.map Qc) from (Xj (Jq (f1.at h_t35)))).mono (hw.now hF)) ((show FrS h 2 (Xt h v1 6 (Int.toNat x33_2) 4) (t35.Value.Ratios.map Jl) from (Xh (Jq (f1.at h_t35)))).mono (hw.now hF)) ((show FrN h 6 (Xt h v1 6 (Int.toNat x33_2) 5) g_tag_Entry t35.Value.Entries from (Qt (Jq (f1.at h_t35)))).mono (hw.now hF)) h_t79) call76 rfl rfl ?_
        have h_t80 := J0 H75
        have H76 := Ju H75
        refine d_make (Cv := fun v => Js 5 1 v (val (Jf t15.2.big_ (val (Yd t35.Value)) 4)).length ((val (Jf t15.2.big_ (val (Yd t35.Value)) 4)).map Xc)) (none, 0) (Qm (G := fun x : (Option Addr × Nat) => sl x (val (Jf t15.2.big_ (val (Yd t35.Value)) 4)).length) (C := fun x : (Option Addr × Nat) => Js 5 1 (sl x (val (Jf t15.2.big_ (val (Yd t35.Value)) 4)).length) (val (Jf t15.2.big_ (val (Yd t35.Value)) 4)).length ((val (Jf t15.2.big_ (val (Yd t35.Value)) 4)).map Xc)) (fun w L' hF hS hi => k55 (Jn w)  h_t80) call55 rfl) (fun _ => rfl) rfl rfl rfl (fun p_20 => ?_)
        have h_l81 := J0 H76
        have H77 := Ju H76
        refine d_turn (Cv := fun v => Js 5 1 v (val (Ye 1 (val (Ye 1 (val (Ye 1 l_7 (val (Jf t15.2.big_ t35.Tag 2)))) (val (Jf t15.2.big_ t35.Value.Kind 2)))) (val (Jf t15.2.big_ (val (Yd t35.Value)) 4)))).length ((val (Ye 1 (val (Ye 1 (val (Ye 1 l_7 (val (Jf t15.2.big_ t35.Tag 2)))) (val (Jf t15.2.big_ t35.Value.Kind 2)))) (val (Jf t15.2.big_ (val (Yd t35.Value)) 4)))).map Xc)) (none, 0) (Xo (i := 1) (hn := rfl) (rds := [5]) (p := p_19) (sz := 1) (by_ := 1) (f := Xc) (ys := (val (Ye 1 (val (Ye 1 l_7 (val (Jf t15.2.big_ t35.Tag 2)))) (val (Jf t15.2.big_ t35.Value.Kind 2))))) (ls := (val (Jf t15.2.big_ (val (Yd t35.Value)) 4))) (V := sl p_20 (val (Jf t15.2.big_ (val (Yd t35.Value)) 4)).length) underlying91 (Qp typeInfo5) rfl rfl rfl rfl rfl rfl rfl rfl rfl rfl (fun w L' hF hS hi => V3 (i := 5) hS ((hi 5 (by simp)).trans rfl)) (fun _ => rfl) (fun _ => rfl) h_l81) (fun _ => rfl) rfl rfl (fun p_21 => ?_)
        refine dv (Jj rfl)<|dv (J3 runUnderlying105 rfl sizeOf91 rfl rfl)<|Jaj (i := 0) (vs := [.slice p_21.1 (val (Ye 1 (val (Ye 1 (val (Ye 1 l_7 (val (Jf t15.2.big_ t35.Tag 2)))) (val (Jf t15.2.big_ t35.Value.Kind 2)))) (val (Jf t15.2.big_ (val (Yd t35.Value)) 4)))).length p_21.2]) (cs' := fun v_ => [.bool t15.2.big_, v_]) sizeOf91 rfl rfl rfl rfl rfl rfl rfl rfl rfl<|Y8<|Ja<|mv (.pointer (some ⟨pb0, 0, none⟩))<|mv (.pointer (some ⟨pb0, 0, none⟩))<|lv (Jj rfl)<|lf runUnderlying105 rfl sizeOf91 rfl<|ll 0 (.slice p_21.1 (val (Ye 1 (val (Ye 1 (val (Ye 1 l_7 (val (Jf t15.2.big_ t35.Tag 2)))) (val (Jf t15.2.big_ t35.Value.Kind 2)))) (val (Jf t15.2.big_ (val (Yd t35.Value)) 4)))).length p_21.2) isAgg91<|?_
        refine J9 (vs := [.int .u8 0, .int .u8 0, .int .u8 0, .int .u8 0]) (cs := [.int .u8 0, .int .u8 0, .int .u8 0, .int .u8 0]) underlying91 sizeOf5 zeroValue5 rfl rfl rfl rfl rfl rfl rfl (fun b7 => ?_)
        obtain ⟨l90, h_l90, H78⟩ := Je H77; clear H77
        refine Qk (Xo (i := 1) (hn := rfl) (rds := [6]) (p := p_21) (sz := 1) (by_ := 1) (f := Xc) (ys := (val (Ye 1 (val (Ye 1 (val (Ye 1 l_7 (val (Jf t15.2.big_ t35.Tag 2)))) (val (Jf t15.2.big_ t35.Value.Kind 2)))) (val (Jf t15.2.big_ (val (Yd t35.Value)) 4))))) (ls := ([0, 0, 0, 0] : List Int)) (V := .slice (some ⟨b7, 0, none⟩) 4 4) underlying91 (Qp typeInfo5) rfl rfl rfl rfl rfl rfl rfl rfl rfl rfl (fun w L' hF hS hi => Wr (i := 6) hS ((hi 6 (by simp)).trans rfl) rfl rfl) (fun _ => rfl) (fun _ => rfl) h_l90) rfl rfl rfl (fun p_22 => ?_)
        refine lv (Jj rfl)<|lf runUnderlying105 rfl sizeOf91 rfl<|st (i := 0) [sl p_22 l90.length] [.bool t15.2.big_, sl p_22 l90.length] sizeOf91 rfl rfl<|Jd<|Ja<|?_
        obtain ⟨t93, h_t93, H79⟩ := Je H78; clear H78
        refine lv (J1 rfl rfl h_t93)<|mv (i6 t93)<|Jd<|?_
        exact cl (t93, l90) p_22 m5 [0, 1] (by exact ⟨(by subst hn5; exact H79), trivial⟩)
        ) (by kernel_rfl)
       ) (by kernel_rfl)
      ) (by kernel_rfl)
    ·refine Xx ?_
     exact cl l_7 p_15 0 [0, 1] (by exact ⟨H80, trivial⟩)
   ·rintro l p_4 gg H44 _
    try dsimp only at H44
    try dsimp only
    refine Jc<|Ja<|mv (.pointer (some ⟨pb0, 0, none⟩))<|lv (Jj rfl)<|lf runUnderlying105 rfl sizeOf91 rfl<|ll 0 (sl p_4 l.length) isAgg91<|lv (Uf underlying91 rfl)<|ag (i6 (l.length : Int))<|Jd<|Jc<|Ja<|mv (.pointer (some ⟨pb0, 0, none⟩))<|mv (.pointer (some ⟨pb0, 0, none⟩))<|lv (Jj rfl)<|lf runUnderlying105 rfl sizeOf91 rfl<|ll 0 (sl p_4 l.length) isAgg91<|?_
    refine J9 (vs := [.int .u8 0, .int .u8 0, .int .u8 0, .int .u8 0]) (cs := [.int .u8 0, .int .u8 0, .int .u8 0, .int .u8 0]) underlying91 sizeOf5 zeroValue5 rfl rfl rfl rfl rfl rfl rfl (fun b4 => ?_)
    obtain ⟨l105, h_l105, H45⟩ := Je H44; clear H44
    refine Qk (Xo (i := 1) (hn := rfl) (rds := [2]) (p := p_4) (sz := 1) (by_ := 1) (f := Xc) (ys := l) (ls := ([0, 0, 0, 0] : List Int)) (V := .slice (some ⟨b4, 0, none⟩) 4 4) underlying91 (Qp typeInfo5) rfl rfl rfl rfl rfl rfl rfl rfl rfl rfl (fun w L' hF hS hi => Wr (i := 2) hS ((hi 2 (by simp)).trans rfl) rfl rfl) (fun _ => rfl) (fun _ => rfl) h_l105) rfl rfl rfl (fun p_5 => ?_)
    refine lv (Jj rfl)<|lf runUnderlying105 rfl sizeOf91 rfl<|st (i := 0) [sl p_5 l105.length] [.bool t15.2.big_, sl p_5 l105.length] sizeOf91 rfl rfl<|Jd<|?_
    refine Q3 (r := r) (σ := Bool × (List Int)) (τ := (Option Addr × Nat) × Nat) (fun s => Jal t15 l s.1 s.2) (fun s t => [(4, i6 t15.1), (5, i6 (l.length : Int))]) (fun s t => [Jg pb0 [.bool s.1, .slice t.1.1 t.2 t.1.2] 105, Js 5 1 (.slice t.1.1 t.2 t.1.2) t.2 (s.2.map Xc)]) (fun s t => t.2 = s.2.length) ?_ ?_
    ·refine Jc<|Ja<|mv v1<|lv (Yv underlying36 rfl f1)<|mv (i6 0)<|Jd<|Jx<|c_dr 2<|?_
     try dsimp only [z1, z2, z3, z4, z5, z6, z7, z8]
     refine Zn (σ := Int × Bool × (List Int)) (τ := (Option Addr × Nat) × Nat) (fun next3 s => Ym a1 self t15 l next3 s.1 s.2.1 s.2.2) (fun s t => [(0, .pointer (some ⟨pb0, 0, none⟩)), (4, i6 t15.1), (5, i6 (l.length : Int)), (108, v1), (109, i6 (a1.length : Int)), (110, i6 s.1)]) (fun s t => [Jg pb0 [.bool s.2.1, .slice t.1.1 t.2 t.1.2] 105, Js 5 1 (.slice t.1.1 t.2 t.1.2) t.2 (s.2.2.map Xc)]) (fun s t => t.2 = s.2.2.length) (0, t15.2.big_, l105) (p_5, l105.length) [0, 1] H45 (by exact rfl) (by exact ⟨rfl, rfl, rfl, rfl, rfl, rfl, trivial⟩) (by decide) rfl ?_
     rintro ⟨x110_2, m_3, l_4⟩ ⟨p_7, n_2⟩ m3 gg H47 hl_3
     clear H45
     try dsimp only at H47
     generalize hn3 : it (fun next3 s => Ym a1 self t15 l next3 s.1 s.2.1 s.2.2) m3 = next3 at H47
     try dsimp only
     refine Jc<|Ja<|lv (Yc rfl rfl)<|Jd<|Jc<|?_
     revert H47
     refine ci (decide (x110_2 < (a1.length : Int))) rfl (fun hb H48=>?_) fun hb H67=>?_
     ·refine Ji ?_
      refine Q3 (r := r) (σ := Bool × (List Int)) (τ := (Option Addr × Nat) × Nat) (fun s => Zq x110_2 next3 s.1 s.2) (fun s t => [(0, .pointer (some ⟨pb0, 0, none⟩)), (4, i6 t15.1), (5, i6 (l.length : Int)), (108, v1), (109, i6 (a1.length : Int)), (110, i6 x110_2)]) (fun s t => [Jg pb0 [.bool s.1, .slice t.1.1 t.2 t.1.2] 105, Js 5 1 (.slice t.1.1 t.2 t.1.2) t.2 (s.2.map Xc)]) (fun s t => t.2 = s.2.length) ?_ ?_
      ·refine Jx<|Jc<|Ja<|mv (i6 x110_2)<|?_
       obtain ⟨t113, h_t113, H51⟩ := Je H48; clear H48
       refine lv (Xq underlying36 sizeOf62 rfl rfl f1.frs (f1.ix h_t113))<|Qs (fun w hF hS => Zb (f := (elC h v1 6)) (i := x110_2) (sz := 6) (j := 0) (vs := [i6 t113.Tag, i6 t113.Value.Kind, str t113.Value.Text, (Xt h v1 6 (Int.toNat x110_2) 3), (Xt h v1 6 (Int.toNat x110_2) 4), (Xt h v1 6 (Int.toNat x110_2) 5)]) isAgg62 sizeOf62 rfl rfl (f1.frs.row (hw.now hF)) (f1.ix h_t113) (rd_of (Yh (f1.at h_t113)) rfl)) rfl rfl rfl<|?_
       refine Xf (cs := [i6 0, i6 0, str [], .slice none 0 0, .slice none 0 0, .slice none 0 0]) zeroValue62 rfl rfl rfl (fun b5 => ?_)
       refine ag (i6 x110_2)<|Ya (i := 2) (vs := [i6 t113.Tag, i6 t113.Value.Kind, str t113.Value.Text, (Xt h v1 6 (Int.toNat x110_2) 3), (Xt h v1 6 (Int.toNat x110_2) 4), (Xt h v1 6 (Int.toNat x110_2) 5)]) (cs' := [i6 t113.Tag, i6 t113.Value.Kind, str t113.Value.Text, (Xt h v1 6 (Int.toNat x110_2) 3), (Xt h v1 6 (Int.toNat x110_2) 4), (Xt h v1 6 (Int.toNat x110_2) 5)]) sizeOf62 rfl rfl rfl rfl rfl rfl (by simp only [List.all_cons, List.all_nil, (show FrN h 6 (Xt h v1 6 (Int.toNat x110_2) 5) g_tag_Entry t113.Value.Entries from (Qt (Jq (f1.at h_t113)))).one, (show FrS h 1 (Xt h v1 6 (Int.toNat x110_2) 3) (t113.Value.Ints.map Qc) from (Xj (Jq (f1.at h_t113)))).one, (show FrS h 2 (Xt h v1 6 (Int.toNat x110_2) 4) (t113.Value.Ratios.map Jl) from (Xh (Jq (f1.at h_t113)))).one] <;> rfl) rfl rfl<|Jd<|Jc<|Ja<|mv (i6 t15.1)<|?_
       obtain ⟨t116, h_t116, H52⟩ := Je H51; clear H51
       refine lv (J1 rfl rfl h_t116)<|mv (i6 x110_2)<|?_
       obtain ⟨t118, h_t118, H53⟩ := Je H52; clear H52
       refine lv (V5 rfl rfl h_t118) ?_
       obtain ⟨t119, h_t119, H54⟩ := Je H53; clear H53
       refine lv (J1 rfl rfl h_t119) ?_
       obtain ⟨t120, h_t120, H55⟩ := Je H54; clear H54
       refine lv (J1 rfl rfl h_t120)<|ag (i6 t120)<|Jd<|Jc<|Jc<|Ja<|lf runUnderlying62 rfl sizeOf38 rfl<|lf runUnderlying38 rfl sizeOf3 rfl<|ll 2 (i6 t113.Value.Kind) isAgg3<|lv (Xg rfl rfl)<|Jd<|?_
       revert H55
       refine ci (decide (t113.Value.Kind = 13)) rfl (fun hb H56=>?_) fun hb H59=>?_
       ·refine Jc<|Ja<|mv (.pointer (some ⟨pb0, 0, none⟩))<|lf runUnderlying62 rfl sizeOf38 rfl<|lf runUnderlying38 rfl sizeOf36 rfl<|ll 2 (Xt h v1 6 (Int.toNat x110_2) 5) isAgg36<|?_
        obtain ⟨t130, h_t130, H57⟩ := Je H56; clear H56
        refine bo 0 1 rfl rfl ?_
        refine Qk (Qe (i := 0) (rds := []) (G := fun x : (Option Addr × Nat) => .tuple #[i6 t130.1, i6 t130.2.1]) (C := fun x : (Option Addr × Nat) => Jt (Jg pb0 [.bool t130.2.2.big_, sl x t130.2.2.out_.length] 105) (Js 5 1 (sl x t130.2.2.out_.length) t130.2.2.out_.length (t130.2.2.out_.map Xc))) rfl (fun w L' S hF hS hi hp hlt ho hA => ih (a0 := (⟨m_3, l_4⟩ : T_tag_writer)) hp hlt (Xi w S) hl_3 ((show FrN h 6 (Xt h v1 6 (Int.toNat x110_2) 5) g_tag_Entry t113.Value.Entries from (Qt (Jq (f1.at h_t113)))).mono (hw.but hF ho)) h_t130) call56 rfl) rfl rfl rfl (fun p_9 => ?_)
        refine ub 0 1 rfl rfl<|mv (.tuple #[i6 t130.1, i6 t130.2.1])<|lv (Jv (v := i6 t130.1) rfl rfl)<|lv (Jv (v := i6 t130.2.1) rfl rfl)<|ag (i6 t130.1)<|ag (i6 t130.2.1)<|Jd<|Jc<|Ja<|mv (.pointer (some ⟨pb0, 0, none⟩))<|mv (i6 t120)<|mv (i6 t130.1)<|?_
        obtain ⟨t136, h_t136, H58⟩ := Je H57; clear H57
        refine bo 0 1 rfl rfl ?_
        refine Qk (Qe (i := 0) (rds := []) (G := fun x : (Option Addr × Nat) => .tuple #[]) (C := fun x : (Option Addr × Nat) => Jt (Jg pb0 [.bool t136.big_, sl x t136.out_.length] 105) (Js 5 1 (sl x t136.out_.length) t136.out_.length (t136.out_.map Xc))) rfl (fun w L' S hF hS hi hp hlt ho hA => k57 hp hlt (Xi w S) rfl h_t136) call57 rfl) rfl rfl rfl (fun p_10 => ?_)
        refine ub 0 1 rfl rfl<|Jd<|Xx<|?_
        exact cl (t136.big_, t136.out_) (p_10, t136.out_.length) 0 [0, 1] (by exact ⟨H58, rfl⟩)
       ·refine Ji<|Jc<|?_
        try dsimp only [z1, z2, z5, z6, z7, z8]
        exact Qi (Kd.p :: Kd.p :: Kd.p :: Kd.d [0] _ :: Kd.p :: Kd.d [2] _ :: Kd.t 3 [] _ _ :: Kd.p :: []) 1 mixed (by
         refine dm (.pointer (some ⟨pb0, 0, none⟩))<|dv (Jj rfl)<|dv (J3 runUnderlying105 rfl sizeOf4 rfl rfl)<|dl (.bool m_3) isAgg4<|dv (J3 runUnderlying62 rfl sizeOf38 rfl rfl)<|d_loadN (i := 2) (vs := [i6 t113.Value.Kind, str t113.Value.Text, (Xt h v1 6 (Int.toNat x110_2) 3), (Xt h v1 6 (Int.toNat x110_2) 4), (Xt h v1 6 (Int.toNat x110_2) 5)]) isAgg38 sizeOf38 rfl rfl rfl rfl<|?_
         have h_t143 := J0 H59
         have H60 := Ju H59
         refine d_make (Cv := fun v => roV 1 v (val (Xz m_3 t113.Value)).length ((val (Xz m_3 t113.Value)).map Xc)) (none, 0) (Qm (G := fun x : (Option Addr × Nat) => sl x (val (Xz m_3 t113.Value)).length) (C := fun x : (Option Addr × Nat) => roV 1 (sl x (val (Xz m_3 t113.Value)).length) (val (Xz m_3 t113.Value)).length ((val (Xz m_3 t113.Value)).map Xc)) (fun w L' hF hS hi => k77 (Jn w) ((show FrS h 1 (Xt h v1 6 (Int.toNat x110_2) 3) (t113.Value.Ints.map Qc) from (Xj (Jq (f1.at h_t113)))).mono (hw.now hF)) ((show FrS h 2 (Xt h v1 6 (Int.toNat x110_2) 4) (t113.Value.Ratios.map Jl) from (Xh (Jq (f1.at h_t113)))).mono (hw.now hF)) ((show FrN h 6 (Xt h v1 6 (Int.toNat x110_2) 5) g_tag_Entry t113.Value.Entries from (Qt (Jq (f1.at h_t113)))).mono (hw.now hF)) h_t143) call77 rfl) (fun _ => rfl) rfl rfl rfl (fun p_11 => ?_)
         refine Qq rfl rfl (Jw (v := sl p_11 (val (Xz m_3 t113.Value)).length) rfl)<|Y8<|Jc<|Jc<|Ja<|mv (sl p_11 (val (Xz m_3 t113.Value)).length)<|lv (Uf underlying91 rfl)<|lv (r_leq rfl rfl)<|Jd<|?_
         revert H60
         refine ci (decide (((val (Xz m_3 t113.Value)).length : Int) ≤ 4)) rfl (fun hb H61=>?_) fun hb H63=>?_
         ·refine Jc<|Ja<|mv (.pointer (some ⟨pb0, 0, none⟩))<|lv (Jj rfl)<|lf runUnderlying105 rfl sizeOf91 rfl<|ll 0 (sl p_7 n_2) isAgg91<|mv (i6 t120)<|?_
          obtain ⟨t152, h_t152, H62⟩ := Je H61; clear H61
          refine Qs (v := .slice (Q7 p_7.1 (Int.toNat t120) p_7.2 1) t152.length (p_7.2 - Int.toNat t120)) (fun w hF hS => Xn (xs := l_4) underlying91 sizeOf5 rfl rfl hl_3 (capOf (i := 1) hS rfl) h_t152) rfl rfl rfl<|mv (sl p_11 (val (Xz m_3 t113.Value)).length)<|?_
          refine Qk (turns_copyG (i := 1) (rds := [3]) (p := p_7) (f := Xc) (xs := l_4) (ts := t152) (ys := (val (Xz m_3 t113.Value))) hl_3 underlying91 (by rw [Qp typeInfo5]; rfl) rfl rfl h_t152 rfl rfl (fun w L' hF hS hi => roOf (i := 3) hS ((hi 3 (by simp)).trans rfl)) (fun _ => rfl) (fun _ => rfl)) rfl rfl rfl (fun _ => ?_)
          refine Jd<|Xx<|?_
          exact cl (m_3, (cpyL l_4 t120 t152.length (val (Xz m_3 t113.Value)))) (p_7, n_2) 0 [0, 1] (by exact ⟨H62, (cpyL_n hl_3 h_t152)⟩)
         ·refine Ji<|Jc<|Ja<|mv (.pointer (some ⟨pb0, 0, none⟩))<|mv (i6 t120)<|mv (.pointer (some ⟨pb0, 0, none⟩))<|?_
          obtain ⟨t158, h_t158, H64⟩ := Je H63; clear H63
          refine bo 0 1 rfl rfl ?_
          refine Qk (Qe (i := 0) (rds := []) (G := fun x : (Option Addr × Nat) => i6 t158.1) (C := fun x : (Option Addr × Nat) => Jt (Jg pb0 [.bool t158.2.big_, sl x t158.2.out_.length] 105) (Js 5 1 (sl x t158.2.out_.length) t158.2.out_.length (t158.2.out_.map Xc))) rfl (fun w L' S hF hS hi hp hlt ho hA => k75 (a0 := (⟨m_3, l_4⟩ : T_tag_writer)) hp hlt (Xi w S) hl_3 h_t158) call75 rfl) rfl rfl rfl (fun p_12 => ?_)
          refine ub 0 1 rfl rfl ?_
          obtain ⟨t159, h_t159, H65⟩ := Je H64; clear H64
          refine bo 0 1 rfl rfl ?_
          refine Qk (Qe (i := 0) (rds := []) (G := fun x : (Option Addr × Nat) => .tuple #[]) (C := fun x : (Option Addr × Nat) => Jt (Jg pb0 [.bool t159.big_, sl x t159.out_.length] 105) (Js 5 1 (sl x t159.out_.length) t159.out_.length (t159.out_.map Xc))) rfl (fun w L' S hF hS hi hp hlt ho hA => k57 hp hlt (Xi w S) rfl h_t159) call57 rfl) rfl rfl rfl (fun p_13 => ?_)
          refine ub 0 1 rfl rfl<|Jd<|?_
          try dsimp only [z1, z2, z5, z6, z7, z8]
          refine Ja<|mv (.pointer (some ⟨pb0, 0, none⟩))<|mv (.pointer (some ⟨pb0, 0, none⟩))<|lv (Jj rfl)<|lf runUnderlying105 rfl sizeOf91 rfl<|ll 0 (sl p_13 t159.out_.length) isAgg91<|mv (sl p_11 (val (Xz m_3 t113.Value)).length)<|?_
          obtain ⟨l166, h_l166, H66⟩ := Je H65; clear H65
          refine Qk (Xo (i := 1) (hn := rfl) (rds := [3]) (p := p_13) (sz := 1) (by_ := 1) (f := Xc) (ys := t159.out_) (ls := (val (Xz m_3 t113.Value))) (V := sl p_11 (val (Xz m_3 t113.Value)).length) underlying91 (Qp typeInfo5) rfl rfl rfl rfl rfl rfl rfl rfl rfl rfl (fun w L' hF hS hi => roOf (i := 3) hS ((hi 3 (by simp)).trans rfl)) (fun _ => rfl) (fun _ => rfl) h_l166) rfl rfl rfl (fun p_14 => ?_)
          refine lv (Jj rfl)<|lf runUnderlying105 rfl sizeOf91 rfl<|st (i := 0) [sl p_14 l166.length] [.bool t159.big_, sl p_14 l166.length] sizeOf91 rfl rfl<|Jd<|?_
          exact cl (t159.big_, l166) (p_14, l166.length) 0 [0, 1] (by exact ⟨H66, rfl⟩)
         ) (by kernel_rfl)
      ·rintro ⟨m_4, l_5⟩ ⟨p_8, n_3⟩ gg H49 hl_4
       try dsimp only at H49
       try dsimp only
       refine Ja ?_
       obtain ⟨t169, h_t169, H50⟩ := Je H49; clear H49
       refine lv (J1 rfl rfl h_t169)<|mv (i6 t169)<|Jd<|?_
       exact cl (t169, m_4, l_5) (p_8, n_3) m3 [0, 1] (by exact ⟨(by subst hn3; exact H50), hl_4⟩)
     ·refine Xx ?_
      exact cl (m_3, l_4) (p_7, n_2) 0 [0, 1] (by exact ⟨H67, hl_3⟩)
    ·rintro ⟨m, l_2⟩ ⟨p_6, n⟩ gg H46 hl
     try dsimp only at H46
     try dsimp only
     refine Jc<|Ja<|mv (i6 t15.1)<|mv (i6 (l.length : Int))<|ag (i6 t15.1)<|ag (i6 (l.length : Int))<|Jd<|Jh<|?_
     obtain rfl := sj H46
     refine bo 0 1 rfl rfl ?_
     refine Z2 (v1 := i6 t15.1) (v2 := i6 (l.length : Int)) rfl rfl rfl (Yy p_6 (i := 0) rfl (by first | rfl | rw [(show n = l_2.length from hl)]) (by first | exact Imp.refl _ | exact Imp.of (by rw [(show n = l_2.length from hl)] <;> rfl)))
   ) (by kernel_rfl)
theorem k56 {a0 : T_tag_writer} {pb0 : Nat} {p0_1 : Option Addr × Nat} {n0_1 : Nat} {a1 : (List T_tag_Entry)} {v1 : Value} {r : Int × Int × T_tag_writer} {w : World} {h : Jo} {S : Nat → Prop} (hcs : (Jt (Jg pb0 [.bool a0.big_, sl p0_1 n0_1] 105) (Js 5 1 (sl p0_1 n0_1) n0_1 (a0.out_.map Xc))).P S w) (hlt : ∀ b, S b → b < w.heap.size) (hw : Know h w S) (hn0_1 : n0_1 = a0.out_.length) (f1 : FrN h 6 v1 g_tag_Entry a1) (H : Jan a0 a1 = some r) : Does prog 56 (List.toArray [.pointer (some ⟨pb0, 0, none⟩), v1]) w (fun v w' => ∃ x : (Option Addr × Nat), v = (.tuple #[i6 r.1, i6 r.2.1]) ∧ Turn w w' S (Jt (Jg pb0 [.bool r.2.2.big_, sl x r.2.2.out_.length] 105) (Js 5 1 (sl x r.2.2.out_.length) r.2.2.out_.length (r.2.2.out_.map Xc)))) := by
 obtain ⟨mm, hm⟩ := fix_it (show V8 (fun (self : (T_tag_writer × (List T_tag_Entry)) → Option (Int × Int × T_tag_writer)) (s : T_tag_writer × (List T_tag_Entry)) => X4 self s.1 s.2) (a0, a1) = some r from H)
 exact k56_it mm hcs hlt hw hn0_1 f1 hm
theorem k26 {a0 : T_tag_File} {v0_1 : Value} {r : (List UInt8)} {w : World} {h : Jo} (hw : Know h w Y2) (f0_1 : FrN h 1 v0_1 gs_tag_Entry a0.Dirs) (H : tag_written a0 = some r) : Does prog 26 (List.toArray [.agg #[.bool a0.Big, v0_1]]) w (fun v w' => v = (str r) ∧ Grow w w') := by
 refine enter (n := 71) func26 rfl rfl rfl Y2 [] (Sat.nil _ _)<|Jc<|Ja<|?_
 refine Z5 (cs := [.bool a0.Big, v0_1]) rfl rfl rfl rfl (fun b5 => ?_)
 refine ag (str [])<|Jd<|Jc<|Ja<|lf runUnderlying24 rfl sizeOf4 rfl<|ll 0 (.bool a0.Big) isAgg4<|?_
 refine J9 (vs := [.int .u8 73, .int .u8 73]) (cs := [.int .u8 73, .int .u8 73]) underlying91 sizeOf5 zeroValue5 rfl rfl rfl rfl rfl rfl rfl (fun b6 => ?_)
 refine Qk (turns_mark (i := 1) (rds := []) (f := Xc) (xs := ([73, 73] : List Int)) (m := 2) (sz := 1) rfl underlying91 underlying5 rfl rfl rfl rfl rfl rfl) rfl rfl rfl (fun _ => ?_)
 refine lv (Q6 (pl := #[(0, 1), (1, 1)]) (ps := [(0, .bool a0.Big), (1, .slice ((some ⟨b6, 0, none⟩, 2) : Option Addr × Nat).1 2 ((some ⟨b6, 0, none⟩, 2) : Option Addr × Nat).2)]) (cells := #[.bool a0.Big, .slice ((some ⟨b6, 0, none⟩, 2) : Option Addr × Nat).1 2 ((some ⟨b6, 0, none⟩, 2) : Option Addr × Nat).2]) zeroValue105 runUnderlying105 (fun w => by kernel_rfl) rfl rfl) ?_
 refine Z5 (cs := [.bool a0.Big, .slice ((some ⟨b6, 0, none⟩, 2) : Option Addr × Nat).1 2 ((some ⟨b6, 0, none⟩, 2) : Option Addr × Nat).2]) rfl rfl rfl rfl (fun b7 => ?_)
 refine ag (.pointer (some ⟨b7, 0, none⟩))<|Jd<|?_
 refine Q3 (r := r) (σ := (List Int)) (τ := (Option Addr × Nat) × Nat) (fun s => Uj a0 s) (fun s t => [(1, .pointer (some ⟨b5, 0, none⟩)), (3, .pointer (some ⟨b7, 0, none⟩))]) (fun s t => [Jg b5 [.bool a0.Big, v0_1] 24, Jg b7 [.bool a0.Big, .slice t.1.1 t.2 t.1.2] 105, apV 5 1 (.slice t.1.1 t.2 t.1.2) t.2 (s.map Xc)]) (fun s t => t.2 = s.length) ?_ ?_
 ·refine Jc ?_
  try dsimp only [z1, z2, z5, z6, z7, z8]
  refine Ja<|lf runUnderlying24 rfl sizeOf4 rfl<|ll 0 (.bool a0.Big) isAgg4<|Jd<|?_
  revert H
  refine ci (a0.Big) rfl (fun hb H27=>?_) fun hb H28=>?_
  ·refine Ja<|mv (.pointer (some ⟨b7, 0, none⟩))<|?_
   refine J9 (vs := [.int .u8 77, .int .u8 77]) (cs := [.int .u8 77, .int .u8 77]) underlying91 sizeOf5 zeroValue5 rfl rfl rfl rfl rfl rfl rfl (fun b9 => ?_)
   refine Qk (turns_mark (i := 3) (rds := []) (f := Xc) (xs := ([77, 77] : List Int)) (m := 2) (sz := 1) rfl underlying91 underlying5 rfl rfl rfl rfl rfl rfl) rfl rfl rfl (fun _ => ?_)
   refine lv (Jj rfl)<|lf runUnderlying105 rfl sizeOf91 rfl<|st (i := 2) [.slice ((some ⟨b9, 0, none⟩, 2) : Option Addr × Nat).1 2 ((some ⟨b9, 0, none⟩, 2) : Option Addr × Nat).2] [.bool a0.Big, .slice ((some ⟨b9, 0, none⟩, 2) : Option Addr × Nat).1 2 ((some ⟨b9, 0, none⟩, 2) : Option Addr × Nat).2] sizeOf91 rfl rfl<|Jd<|?_
   exact cl ([77, 77] : List Int) (((some ⟨b9, 0, none⟩, 2) : Option Addr × Nat), 2) 0 [0, 2, 3] (by exact ⟨H27, rfl⟩)
  ·refine Ji ?_
   exact cl ([73, 73] : List Int) (((some ⟨b6, 0, none⟩, 2) : Option Addr × Nat), 2) 0 [0, 2, 1] (by exact ⟨H28, rfl⟩)
 ·rintro l ⟨p, n⟩ gg H15 hl
  try dsimp only at H15
  try dsimp only
  refine Jc ?_
  exact Qi (Kd.p :: Kd.p :: Kd.p :: Kd.p :: Kd.d [1] _ :: Kd.p :: Kd.d [0] _ :: Kd.t 3 [] _ _ :: Kd.t 2 [3] _ _ :: Kd.p :: Kd.p :: Kd.sv 32 30 1 _ 105 :: []) 1 mixed (by
   refine dm (.pointer (some ⟨b7, 0, none⟩))<|dm (.pointer (some ⟨b7, 0, none⟩))<|dv (Jj rfl)<|dv (J3 runUnderlying105 rfl sizeOf91 rfl rfl)<|dl (sl p n) isAgg91<|dv (J3 runUnderlying24 rfl sizeOf4 rfl rfl)<|dl (.bool a0.Big) isAgg4<|?_
   have h_t29 := J0 H15
   have H16 := Ju H15
   refine d_make (Cv := fun v => Js 5 1 v (val (Jf a0.Big 42 2)).length ((val (Jf a0.Big 42 2)).map Xc)) (none, 0) (Qm (G := fun x : (Option Addr × Nat) => sl x (val (Jf a0.Big 42 2)).length) (C := fun x : (Option Addr × Nat) => Js 5 1 (sl x (val (Jf a0.Big 42 2)).length) (val (Jf a0.Big 42 2)).length ((val (Jf a0.Big 42 2)).map Xc)) (fun w L' hF hS hi => k55 (Jn w)  h_t29) call55 rfl) (fun _ => rfl) rfl rfl rfl (fun p_2 => ?_)
   have h_l30 := J0 H16
   have H17 := Ju H16
   refine d_turn (Cv := fun v => Js 5 1 v (val (gApN 1 l (val (Jf a0.Big 42 2)))).length ((val (gApN 1 l (val (Jf a0.Big 42 2)))).map Xc)) (none, 0) (turns_appN (i := 2) (hn := hl) (rds := [3]) (p := p) (sz := 1) (by_ := 1) (f := Xc) (ys := l) (ls := (val (Jf a0.Big 42 2))) (V := sl p_2 (val (Jf a0.Big 42 2)).length) underlying91 (Qp typeInfo5) rfl rfl rfl rfl rfl rfl rfl rfl rfl rfl (fun w L' hF hS hi => V3 (i := 3) hS ((hi 3 (by simp)).trans rfl)) (fun _ => rfl) (fun _ => rfl) h_l30) (fun _ => rfl) rfl rfl (fun p_3 => ?_)
   refine dv (Jj rfl)<|dv (J3 runUnderlying105 rfl sizeOf91 rfl rfl)<|Jaj (i := 1) (vs := [sl p_3 (val (gApN 1 l (val (Jf a0.Big 42 2)))).length]) (cs' := fun v_ => [.bool a0.Big, v_]) sizeOf91 rfl rfl rfl rfl rfl rfl rfl rfl rfl<|Y8<|Jc<|Ja<|mv (.pointer (some ⟨b7, 0, none⟩))<|lv (Jj rfl)<|lf runUnderlying105 rfl sizeOf91 rfl<|ll 1 (sl p_3 (val (gApN 1 l (val (Jf a0.Big 42 2)))).length) isAgg91<|lv (Uf underlying91 rfl)<|ag (i6 ((val (gApN 1 l (val (Jf a0.Big 42 2)))).length : Int))<|Jd<|Jc<|Ja<|mv (.pointer (some ⟨b7, 0, none⟩))<|mv (.pointer (some ⟨b7, 0, none⟩))<|lv (Jj rfl)<|lf runUnderlying105 rfl sizeOf91 rfl<|ll 1 (sl p_3 (val (gApN 1 l (val (Jf a0.Big 42 2)))).length) isAgg91<|?_
   refine J9 (vs := [.int .u8 0, .int .u8 0, .int .u8 0, .int .u8 0]) (cs := [.int .u8 0, .int .u8 0, .int .u8 0, .int .u8 0]) underlying91 sizeOf5 zeroValue5 rfl rfl rfl rfl rfl rfl rfl (fun b8 => ?_)
   obtain ⟨l44, h_l44, H18⟩ := Je H17; clear H17
   refine Qk (Xo (i := 2) (hn := rfl) (rds := [4]) (p := p_3) (sz := 1) (by_ := 1) (f := Xc) (ys := (val (gApN 1 l (val (Jf a0.Big 42 2))))) (ls := ([0, 0, 0, 0] : List Int)) (V := .slice (some ⟨b8, 0, none⟩) 4 4) underlying91 (Qp typeInfo5) rfl rfl rfl rfl rfl rfl rfl rfl rfl rfl (fun w L' hF hS hi => Wr (i := 4) hS ((hi 4 (by simp)).trans rfl) rfl rfl) (fun _ => rfl) (fun _ => rfl) h_l44) rfl rfl rfl (fun p_4 => ?_)
   refine lv (Jj rfl)<|lf runUnderlying105 rfl sizeOf91 rfl<|st (i := 1) [sl p_4 l44.length] [.bool a0.Big, sl p_4 l44.length] sizeOf91 rfl rfl<|Jd<|?_
   refine Q3 (r := r) (σ := Bool × (List Int)) (τ := (Option Addr × Nat)) (fun s => tag_written_j2 s.1 s.2) (fun s t => [(3, .pointer (some ⟨b7, 0, none⟩))]) (fun s t => [Jg b7 [.bool s.1, sl t s.2.length] 105, Js 5 1 (sl t s.2.length) s.2.length (s.2.map Xc)]) (fun s t => True) ?_ ?_
   ·refine Jc<|Ja<|lf runUnderlying24 rfl sizeOf22 rfl<|ll 0 v0_1 isAgg22<|lv (Yv underlying22 rfl f0_1)<|mv (i6 0)<|Jd<|Jx<|?_
    refine c_dr 4 <| c_dr 3 <| c_dr 0 ?_
    try dsimp only [z1, z2, z3, z4, z5, z6, z7, z8]
    refine Zn (σ := Int × Int × Bool × (List Int)) (τ := (Option Addr × Nat)) (fun next3 s => Zf a0 next3 s.1 s.2.1 s.2.2.1 s.2.2.2) (fun s t => [(3, .pointer (some ⟨b7, 0, none⟩)), (4, i6 s.1), (48, v0_1), (49, i6 (a0.Dirs.length : Int)), (50, i6 s.2.1)]) (fun s t => [Jg b7 [.bool s.2.2.1, sl t s.2.2.2.length] 105, Js 5 1 (sl t s.2.2.2.length) s.2.2.2.length (s.2.2.2.map Xc)]) (fun s t => True) (((val (gApN 1 l (val (Jf a0.Big 42 2)))).length : Int), 0, a0.Big, l44) p_4 [0, 1] H18 (by exact trivial) (by exact ⟨rfl, rfl, rfl, rfl, rfl, trivial⟩) (by decide) rfl ?_
    rintro ⟨x4_2, x50_2, m_3, l_4⟩ p_6 m3 gg H20 _
    clear H18
    try dsimp only at H20
    generalize hn3 : it (fun next3 s => Zf a0 next3 s.1 s.2.1 s.2.2.1 s.2.2.2) m3 = next3 at H20
    try dsimp only
    refine Jc<|Ja<|lv (Yc rfl rfl)<|Jd<|Jc<|?_
    revert H20
    refine ci (decide (x50_2 < (a0.Dirs.length : Int))) rfl (fun hb H21=>?_) fun hb H26=>?_
    ·refine Ji<|Jc<|Jx<|Jc<|Ja<|?_
     obtain ⟨t52, h_t52, H22⟩ := Je H21; clear H21
     refine lv (Xq underlying22 sizeOf36 rfl rfl f0_1.frs (f0_1.ix h_t52))<|Qs (fun w hF hS => Q9 (f := (elC h v0_1 1)) (i := x50_2) (sz := 1) (j := 0) (v := (Xt h v0_1 1 (Int.toNat x50_2) 0)) isAgg36 rfl rfl (f0_1.frs.row (hw.now hF)) (f0_1.ix h_t52) (rg_of (U2 (f0_1.at h_t52)) rfl)) rfl rfl rfl<|ag ((Xt h v0_1 1 (Int.toNat x50_2) 0))<|Jd<|Jc<|Ja<|mv (.pointer (some ⟨b7, 0, none⟩))<|mv ((Xt h v0_1 1 (Int.toNat x50_2) 0))<|?_
     obtain ⟨t57, h_t57, H23⟩ := Je H22; clear H22
     refine bo 0 1 rfl rfl ?_
     refine Qk (Qe (i := 0) (rds := []) (G := fun x : (Option Addr × Nat) => .tuple #[i6 t57.1, i6 t57.2.1]) (C := fun x : (Option Addr × Nat) => Jt (Jg b7 [.bool t57.2.2.big_, sl x t57.2.2.out_.length] 105) (Js 5 1 (sl x t57.2.2.out_.length) t57.2.2.out_.length (t57.2.2.out_.map Xc))) rfl (fun w L' S hF hS hi hp hlt ho hA => k56 (a0 := (⟨m_3, l_4⟩ : T_tag_writer)) hp hlt (Xi w S) rfl ((show FrN h 6 (Xt h v0_1 1 (Int.toNat x50_2) 0) g_tag_Entry t52 from (f0_1.at h_t52)).mono (hw.but hF ho)) h_t57) call56 rfl) rfl rfl rfl (fun p_7 => ?_)
     refine ub 0 1 rfl rfl<|mv (.tuple #[i6 t57.1, i6 t57.2.1])<|lv (Jv (v := i6 t57.1) rfl rfl)<|lv (Jv (v := i6 t57.2.1) rfl rfl)<|ag (i6 t57.1)<|ag (i6 t57.2.1)<|Jd<|Jc<|Ja<|mv (.pointer (some ⟨b7, 0, none⟩))<|mv (i6 x4_2)<|mv (i6 t57.1)<|?_
     obtain ⟨t63, h_t63, H24⟩ := Je H23; clear H23
     refine bo 0 1 rfl rfl ?_
     refine Qk (Qe (i := 0) (rds := []) (G := fun x : (Option Addr × Nat) => .tuple #[]) (C := fun x : (Option Addr × Nat) => Jt (Jg b7 [.bool t63.big_, sl x t63.out_.length] 105) (Js 5 1 (sl x t63.out_.length) t63.out_.length (t63.out_.map Xc))) rfl (fun w L' S hF hS hi hp hlt ho hA => k57 hp hlt (Xi w S) rfl h_t63) call57 rfl) rfl rfl rfl (fun p_8 => ?_)
     refine ub 0 1 rfl rfl<|Jd<|Ja<|mv (i6 t57.2.1)<|ag (i6 t57.2.1)<|Jd<|Ja<|?_
     obtain ⟨t65, h_t65, H25⟩ := Je H24; clear H24
     refine lv (J1 rfl rfl h_t65)<|mv (i6 t65)<|Jd<|?_
     exact cl (t57.2.1, t65, t63.big_, t63.out_) p_8 m3 [0, 1] (by exact ⟨(by subst hn3; exact H25), trivial⟩)
    ·refine Xx ?_
     exact cl (m_3, l_4) p_6 0 [0, 1] (by exact ⟨H26, trivial⟩)
   ·rintro ⟨m, l_2⟩ p_5 gg H19 _
    try dsimp only at H19
    try dsimp only
    refine Jc<|Ja<|mv (.pointer (some ⟨b7, 0, none⟩))<|lv (Jj rfl)<|lf runUnderlying105 rfl sizeOf91 rfl<|ll 0 (sl p_5 l_2.length) isAgg91<|Qs (fun w hF hS => run_bytes (f := Xc) (xs := l_2) rfl underlying91 underlying5 underlying9 rfl (fun _ => rfl) (V3 (i := 1) hS rfl)) rfl rfl rfl<|ag (str (Z8 l_2))<|Jd<|Jh<|?_
    obtain rfl := sj H19
    exact r1 (str (Z8 l_2))
   ) (by kernel_rfl)
theorem k79 {a0 : (List UInt8)} {r : Bool} (H : tag_begins a0 = some r) : Ret prog 79 [str a0] (.bool r) := by
 refine Xr (n := 14) func79 rfl rfl rfl (fun wd => ?_)
 refine Jc<|Ja<|ag (.bool false)<|Jd<|Jc<|Jc<|Ja<|mv (str a0)<|lv (Vn underlying9 rfl)<|lv (Yc rfl rfl)<|Jd<|?_
 revert H
 refine ci (decide ((a0.length : Int) < 8)) rfl (fun hb H7=>?_) fun hb H8=>?_
 ·refine Jc<|Ja<|ag (.bool false)<|Jd<|Jh<|?_
  obtain rfl := sj H7
  exact r1 (.bool false)
 ·refine Ji<|Jc<|Ja<|mv (str a0)<|?_
  obtain ⟨t7, h_t7, H9⟩ := Je H8; clear H8
  refine lv (r_cutToG underlying9 rfl rfl h_t7)<|lv (r_eqlT rfl rfl)<|mv (.bool (decide (t7 = [73, 73, 42, 0])))<|?_
  revert H9
  refine sp (fun hb H10=>?_) fun hb H11=>?_
  ·refine pa<|pa<|pa<|pT (.bool true)<|ag (.bool true)<|Jd<|Jh<|?_
   obtain rfl := sj H10
   exact r1 (.bool true)
  ·refine mv (str a0) ?_
   obtain ⟨t11, h_t11, H12⟩ := Je H11; clear H11
   refine lv (r_cutToG underlying9 rfl rfl h_t11)<|lv (r_eqlT rfl rfl)<|pF (.bool (decide (t11 = [77, 77, 0, 42])))<|ag (.bool (decide (t11 = [77, 77, 0, 42])))<|Jd<|Jh<|?_
   obtain rfl := sj H12
   exact r1 (.bool (decide (t11 = [77, 77, 0, 42])))
theorem k96 {a0 : Bool} {a1 : (List UInt8)} {a2 : Int} {a3 : Int} {r : Int} (H : Um a0 a1 a2 a3 = some r) : Ret prog 96 [.bool a0, str a1, i6 a2, i6 a3] (i6 r) := by
 refine Xr (n := 33) func96 rfl rfl rfl (fun wd => ?_)
 refine Jc<|Ja<|ag (i6 0)<|Jd<|Jc<|Ja<|ag (i6 0)<|Jd<|Jc<|Jc<|Ja<|mv (i6 a3)<|mv (i6 0)<|Jd<|Jx<|?_
 refine Zn (σ := Int × Int) (τ := Unit) (fun next1 s => Y6 a0 a1 a2 a3 next1 s.1 s.2) (fun s t => [(0, .bool a0), (1, str a1), (2, i6 a2), (3, i6 a3), (9, i6 s.1), (12, i6 a3), (13, i6 s.2)]) (fun s t => []) (fun s t => True) (0, 0) () [] H (by exact trivial) (by exact ⟨rfl, rfl, rfl, rfl, rfl, rfl, rfl, trivial⟩) (by decide) rfl ?_
 rintro ⟨x9_2, x13_2⟩ _ m1 gg H14 _
 clear H
 try dsimp only at H14
 generalize hn1 : it (fun next1 s => Y6 a0 a1 a2 a3 next1 s.1 s.2) m1 = next1 at H14
 try dsimp only
 refine Jc<|Ja<|lv (Yc rfl rfl)<|Jd<|Jc<|?_
 revert H14
 refine ci (decide (x13_2 < a3)) rfl (fun hb H15=>?_) fun hb H26=>?_
 ·refine Ji<|Jc<|Jx<|Jc<|Ja<|mv (i6 x13_2)<|ag (i6 x13_2)<|Jd<|Jc<|Ja<|mv (i6 a3)<|?_
  obtain ⟨t17, h_t17, H16⟩ := Je H15; clear H15
  refine lv (Vh rfl rfl h_t17)<|mv (i6 x13_2)<|?_
  obtain ⟨t19, h_t19, H17⟩ := Je H16; clear H16
  refine lv (Vh rfl rfl h_t19)<|ag (i6 t19)<|Jd<|?_
  refine Q3 (r := r) (σ := Int) (τ := Unit) (fun s => Wx a1 a2 x9_2 x13_2 next1 s) (fun s t => [(0, .bool a0), (1, str a1), (2, i6 a2), (3, i6 a3), (9, i6 x9_2), (11, i6 s), (12, i6 a3), (13, i6 x13_2)]) (fun s t => []) (fun s t => True) ?_ ?_
  ·refine Jc<|Ja<|mv (.bool a0)<|Jd<|?_
   revert H17
   refine ci a0 rfl (fun hb H24=>?_) fun hb H25=>?_
   ·refine Ja<|mv (i6 x13_2)<|ag (i6 x13_2)<|Jd<|?_
    exact cl x13_2 () 0 [] (by exact ⟨H24, trivial⟩)
   ·refine Ji ?_
    exact cl t19 () 0 [] (by exact ⟨H25, trivial⟩)
  ·rintro x11 _ gg H18 _
   try dsimp only at H18
   try dsimp only
   refine Ja<|mv (i6 x9_2)<|?_
   obtain ⟨t23, h_t23, H19⟩ := Je H18; clear H18
   refine lv (r_shlG rfl rfl h_t23)<|mv (str a1)<|mv (i6 a2)<|mv (i6 x11)<|?_
   obtain ⟨t27, h_t27, H20⟩ := Je H19; clear H19
   refine lv (J1 rfl rfl h_t27) ?_
   obtain ⟨t28, h_t28, H21⟩ := Je H20; clear H20
   refine lv (r_octG underlying9 rfl rfl h_t28) ?_
   obtain ⟨t29, h_t29, H22⟩ := Je H21; clear H21
   refine lv (W9 runUnderlying5 runUnderlying3 rfl (gK_i64 h_t29))<|lv (r_bitsOr (bits := 64) rfl rfl rfl (wr_i64 _))<|ag (i6 (V0 (bOr 64 t23 t29)))<|Jd<|Ja<|?_
   obtain ⟨t31, h_t31, H23⟩ := Je H22; clear H22
   refine lv (J1 rfl rfl h_t31)<|mv (i6 t31)<|Jd<|?_
   exact cl ((V0 (bOr 64 t23 t29)), t31) () m1 [] (by exact ⟨(by subst hn1; exact H23), trivial⟩)
 ·refine Xx<|Jc<|Ja<|mv (i6 x9_2)<|ag (i6 x9_2)<|Jd<|Jh<|?_
  obtain rfl := sj H26
  exact r1 (i6 x9_2)
theorem k80 {a0 : T_tag_reader} {v0_2 : Value} {v0_3 : Value} {pb0 : Nat} {a1 : Int} {a2 : Int} {r : Int} {w : World} {h : Jo} (hw : Know h w Y2) (f0_2 : FrS h 2 v0_2 (a0.parts_.map Jm)) (f0_3 : FrM h (fun x_ : Int => i6 x_) (fun x_ : Bool => .bool x_) v0_3 a0.seen_) (hb0 : h pb0 = some (.cells (List.toArray [str a0.s_, .bool a0.big_, v0_2, v0_3, i6 a0.dirs_, (J6 a0.found_), i6 a0.no_]) 134 (0, 0))) (H : Jk a0 a1 a2 = some r) : Does prog 80 (List.toArray [.pointer (some ⟨pb0, 0, none⟩), i6 a1, i6 a2]) w (fun v w' => v = (i6 r) ∧ Grow w w') := by
 refine enter (n := 18) func80 rfl rfl rfl Y2 [] (Sat.nil _ _)<|Jc<|Ja<|ag (i6 0)<|Jd<|Jc<|?_
 exact Qi (Kd.p :: Kd.p :: Kd.p :: Kd.d [] _ :: Kd.p :: Kd.p :: Kd.p :: Kd.d [] _ :: Kd.p :: Kd.p :: Kd.d [] _ :: Kd.p :: []) 0 mixed (by
  refine dm (.pointer (some ⟨pb0, 0, none⟩))<|dv (Jj rfl)<|dv (J3 runUnderlying134 rfl sizeOf4 rfl rfl)<|d_read (fun w hF => Ub (v := .bool a0.big_) isAgg4 rfl (hw.now hF _ _ hb0) rfl) rfl rfl<|dm (.pointer (some ⟨pb0, 0, none⟩))<|dv (Jj rfl)<|dv (J3 runUnderlying134 rfl sizeOf9 rfl rfl)<|d_read (fun w hF => Ub (v := str a0.s_) isAgg9 rfl (hw.now hF _ _ hb0) rfl) rfl rfl<|dm (i6 a1)<|dm (i6 a2)<|?_
  have h_t17 := J0 H
  have H2 := Ju H
  refine d_call (k96 h_t17) call96 rfl rfl<|Qq rfl rfl (Jw (v := i6 (val (Um a0.big_ a0.s_ a1 a2))) rfl)<|Y8<|Jh<|?_
  obtain rfl := sj H2
  exact r1 (i6 (val (Um a0.big_ a0.s_ a1 a2)))
  ) (by kernel_rfl)
theorem k97 {a0 : T_tag_reader} {v0_2 : Value} {v0_3 : Value} {pb0 : Nat} {a1 : Int} {a2 : Int} {r : Bool} {w : World} {h : Jo} (hw : Know h w Y2) (f0_2 : FrS h 2 v0_2 (a0.parts_.map Jm)) (f0_3 : FrM h (fun x_ : Int => i6 x_) (fun x_ : Bool => .bool x_) v0_3 a0.seen_) (hb0 : h pb0 = some (.cells (List.toArray [str a0.s_, .bool a0.big_, v0_2, v0_3, i6 a0.dirs_, (J6 a0.found_), i6 a0.no_]) 134 (0, 0))) (H : Vb a0 a1 a2 = some r) : Does prog 97 (List.toArray [.pointer (some ⟨pb0, 0, none⟩), i6 a1, i6 a2]) w (fun v w' => v = (.bool r) ∧ Grow w w') := by
 refine enter (n := 29) func97 rfl rfl rfl Y2 [] (Sat.nil _ _)<|Jc<|Ja<|ag (.bool false)<|Jd<|Jc<|Ja<|mv (i6 a1)<|lv (r_geq rfl rfl)<|mv (.bool (decide (8 ≤ a1)))<|?_
 revert H
 refine sp (fun hb H6=>?_) fun hb H10=>?_
 ·refine mv (i6 a2)<|mv (.pointer (some ⟨pb0, 0, none⟩))<|lv (Jj rfl)<|lf runUnderlying134 rfl sizeOf9 rfl<|Qs (fun w hF hS => Ub (v := str a0.s_) isAgg9 rfl (hw.now hF _ _ hb0) rfl) rfl rfl rfl<|lv (Vn underlying9 rfl)<|lv (r_leq rfl rfl)<|pT (.bool (decide (a2 ≤ (a0.s_.length : Int))))<|mv (.bool (decide (a2 ≤ (a0.s_.length : Int))))<|?_
  revert H6
  refine sp (fun hb H7=>?_) fun hb H9=>?_
  ·refine mv (i6 a1)<|mv (.pointer (some ⟨pb0, 0, none⟩))<|lv (Jj rfl)<|lf runUnderlying134 rfl sizeOf9 rfl<|Qs (fun w hF hS => Ub (v := str a0.s_) isAgg9 rfl (hw.now hF _ _ hb0) rfl) rfl rfl rfl<|lv (Vn underlying9 rfl)<|mv (i6 a2)<|?_
   obtain ⟨t26, h_t26, H8⟩ := Je H7; clear H7
   refine lv (Vh rfl rfl h_t26)<|lv (r_leq rfl rfl)<|pT (.bool (decide (a1 ≤ t26)))<|ag (.bool (decide (a1 ≤ t26)))<|Jd<|Jh<|?_
   obtain rfl := sj H8
   exact r1 (.bool (decide (a1 ≤ t26)))
  ·refine pa<|pa<|pa<|pa<|pa<|pa<|pa<|pa<|pa<|pF (.bool false)<|ag (.bool false)<|Jd<|Jh<|?_
   obtain rfl := sj H9
   exact r1 (.bool false)
 ·refine pa<|pa<|pa<|pa<|pa<|pa<|pa<|pF (.bool false)<|mv (.bool false)<|pa<|pa<|pa<|pa<|pa<|pa<|pa<|pa<|pa<|pF (.bool false)<|ag (.bool false)<|Jd<|Jh<|?_
  obtain rfl := sj H10
  exact r1 (.bool false)
theorem k98 {a0 : T_tag_reader} {pb0 : Nat} {p0_2 : Option Addr × Nat} {n0_2 : Nat} {m0_3 : Nat} {a1 : Int} {r : T_tag_reader} {w : World} {h : Jo} {S : Nat → Prop} (hcs : (Jt (Jg pb0 [str a0.s_, .bool a0.big_, sl p0_2 n0_2, .map (some m0_3), i6 a0.dirs_, (J6 a0.found_), i6 a0.no_] 134) (Jt (Js 140 2 (sl p0_2 n0_2) n0_2 (a0.parts_.map Jm)) (Ys (fun x_ : Int => i6 x_) (fun x_ : Bool => .bool x_) m0_3 a0.seen_))).P S w) (hlt : ∀ b, S b → b < w.heap.size) (hw : Know h w S) (hn0_2 : n0_2 = a0.parts_.length) (H : Qr a0 a1 = some r) : Does prog 98 (List.toArray [.pointer (some ⟨pb0, 0, none⟩), i6 a1]) w (fun v w' => ∃ x : (Option Addr × Nat) × Nat, v = (.tuple #[]) ∧ Turn w w' S (Jt (Jg pb0 [str r.s_, .bool r.big_, .slice x.1.1 r.parts_.length x.1.2, .map (some x.2), i6 r.dirs_, (J6 r.found_), i6 r.no_] 134) (Jt (Js 140 2 (.slice x.1.1 r.parts_.length x.1.2) r.parts_.length (r.parts_.map Jm)) (Ys (fun x_ : Int => i6 x_) (fun x_ : Bool => .bool x_) x.2 r.seen_)))) := by
 refine enter (n := 13) func98 rfl rfl rfl S [Jt (Jg pb0 [str a0.s_, .bool a0.big_, sl p0_2 n0_2, .map (some m0_3), i6 a0.dirs_, (J6 a0.found_), i6 a0.no_] 134) (Jt (Js 140 2 (sl p0_2 n0_2) n0_2 (a0.parts_.map Jm)) (Ys (fun x_ : Int => i6 x_) (fun x_ : Bool => .bool x_) m0_3 a0.seen_))] (Sat.one hcs hlt)<|Xv 0 rfl<|Xv 1 rfl<|Jc<|Ja<|mv (.pointer (some ⟨pb0, 0, none⟩))<|lv (Jj rfl)<|lf runUnderlying134 rfl sizeOf28 rfl<|ll 0 (i6 a0.no_) isAgg28<|lv (Xg rfl rfl)<|Jd<|?_
 revert H
 refine ci (decide (a0.no_ = 0)) rfl (fun hb H3=>?_) fun hb H4=>?_
 ·refine Ja<|mv (.pointer (some ⟨pb0, 0, none⟩))<|mv (i6 a1)<|lv (Jj rfl)<|lf runUnderlying134 rfl sizeOf28 rfl<|st (i := 0) [i6 a1] [str a0.s_, .bool a0.big_, sl p0_2 n0_2, .map (some m0_3), i6 a0.dirs_, (J6 a0.found_), i6 a1] sizeOf28 rfl rfl<|Jd<|?_
  obtain rfl := sj H3
  refine bo 1 2 rfl rfl<|bo 0 1 rfl rfl<|?_
  refine ret0n rfl (Yy (p0_2, m0_3) (i := 0) rfl (by first | rfl | rw [(show n0_2 = a0.parts_.length from hn0_2)]) (by first | exact Imp.refl _ | exact Imp.of (by rw [(show n0_2 = a0.parts_.length from hn0_2)] <;> rfl)))
 ·refine Ji ?_
  obtain rfl := sj H4
  refine bo 1 2 rfl rfl<|bo 0 1 rfl rfl<|?_
  refine ret0n rfl (Yy (p0_2, m0_3) (i := 0) rfl (by first | rfl | rw [(show n0_2 = a0.parts_.length from hn0_2)]) (by first | exact Imp.refl _ | exact Imp.of (by rw [(show n0_2 = a0.parts_.length from hn0_2)] <;> rfl)))
theorem k127 {a0 : T_tag_reader} {pb0 : Nat} {p0_2 : Option Addr × Nat} {n0_2 : Nat} {m0_3 : Nat} {a1 : (List UInt8)} {r : (List UInt8) × T_tag_reader} {w : World} {h : Jo} {S : Nat → Prop} (hcs : (Jt (Jg pb0 [str a0.s_, .bool a0.big_, sl p0_2 n0_2, .map (some m0_3), i6 a0.dirs_, (J6 a0.found_), i6 a0.no_] 134) (Jt (Js 140 2 (sl p0_2 n0_2) n0_2 (a0.parts_.map Jm)) (Ys (fun x_ : Int => i6 x_) (fun x_ : Bool => .bool x_) m0_3 a0.seen_))).P S w) (hlt : ∀ b, S b → b < w.heap.size) (hw : Know h w S) (hn0_2 : n0_2 = a0.parts_.length) (H : Uo a0 a1 = some r) : Does prog 127 (List.toArray [.pointer (some ⟨pb0, 0, none⟩), str a1]) w (fun v w' => ∃ x : (Option Addr × Nat) × Nat, v = (str r.1) ∧ Turn w w' S (Jt (Jg pb0 [str r.2.s_, .bool r.2.big_, .slice x.1.1 r.2.parts_.length x.1.2, .map (some x.2), i6 r.2.dirs_, (J6 r.2.found_), i6 r.2.no_] 134) (Jt (Js 140 2 (.slice x.1.1 r.2.parts_.length x.1.2) r.2.parts_.length (r.2.parts_.map Jm)) (Ys (fun x_ : Int => i6 x_) (fun x_ : Bool => .bool x_) x.2 r.2.seen_)))) := by
 refine enter (n := 36) func127 rfl rfl rfl S [Jt (Jg pb0 [str a0.s_, .bool a0.big_, sl p0_2 n0_2, .map (some m0_3), i6 a0.dirs_, (J6 a0.found_), i6 a0.no_] 134) (Jt (Js 140 2 (sl p0_2 n0_2) n0_2 (a0.parts_.map Jm)) (Ys (fun x_ : Int => i6 x_) (fun x_ : Bool => .bool x_) m0_3 a0.seen_))] (Sat.one hcs hlt)<|Xv 0 rfl<|Xv 1 rfl<|Jc<|Ja<|ag (str [])<|Jd<|Jc<|Jc<|Ja<|mv (str a1)<|lv (r_eqlT rfl rfl)<|mv (.bool (decide (a1 = [])))<|?_
 revert H
 refine sp (fun hb H20=>?_) fun hb H22=>?_
 ·refine pa<|pa<|pa<|pa<|pa<|pa<|pT (.bool true)<|Jd<|Ws rfl<|Jc<|Ja<|mv (.pointer (some ⟨pb0, 0, none⟩))<|?_
  obtain ⟨t17, h_t17, H21⟩ := Je H20; clear H20
  refine bo 1 2 rfl rfl<|bo 0 1 rfl rfl<|?_
  refine Qk (Qe (i := 0) (rds := []) (G := fun x : (Option Addr × Nat) × Nat => .tuple #[]) (C := fun x : (Option Addr × Nat) × Nat => Jt (Jg pb0 [str t17.s_, .bool t17.big_, .slice x.1.1 t17.parts_.length x.1.2, .map (some x.2), i6 t17.dirs_, (J6 t17.found_), i6 t17.no_] 134) (Jt (Js 140 2 (.slice x.1.1 t17.parts_.length x.1.2) t17.parts_.length (t17.parts_.map Jm)) (Ys (fun x_ : Int => i6 x_) (fun x_ : Bool => .bool x_) x.2 t17.seen_))) rfl (fun w L' S hF hS hi hp hlt ho hA => k98 hp hlt (Xi w S) hn0_2 h_t17) call98 rfl) rfl rfl rfl (fun ⟨p, p_2⟩ => ?_)
  refine ub 0 1 rfl rfl<|ub 1 2 rfl rfl<|Jd<|Jc<|?_
  try dsimp only [z1, z2, z5, z6, z7, z8]
  refine Ja<|ag (str [])<|Jd<|Jh<|?_
  obtain rfl := sj H21
  refine bo 1 2 rfl rfl<|bo 0 1 rfl rfl<|?_
  refine ret1 (v := str []) rfl rfl (Yy (p, p_2) (i := 0) rfl rfl (Imp.refl _))
 ·refine mv (str a1)<|mv (str a1)<|lv (Vn underlying9 rfl)<|?_
  obtain ⟨t12, h_t12, H23⟩ := Je H22; clear H22
  refine lv (Vh rfl rfl h_t12) ?_
  obtain ⟨t13, h_t13, H24⟩ := Je H23; clear H23
  refine lv (r_octG underlying9 rfl rfl h_t13)<|lv (Yo rfl rfl)<|pF (.bool (decide (t13 ≠ 0)))<|Jd<|?_
  revert H24
  refine ci (decide (t13 ≠ 0)) rfl (fun hb H25=>?_) fun hb H27=>?_
  ·refine Jc<|Ja<|mv (.pointer (some ⟨pb0, 0, none⟩))<|?_
   obtain ⟨t17_2, h_t17_2, H26⟩ := Je H25; clear H25
   refine bo 1 2 rfl rfl<|bo 0 1 rfl rfl<|?_
   refine Qk (Qe (i := 0) (rds := []) (G := fun x : (Option Addr × Nat) × Nat => .tuple #[]) (C := fun x : (Option Addr × Nat) × Nat => Jt (Jg pb0 [str t17_2.s_, .bool t17_2.big_, .slice x.1.1 t17_2.parts_.length x.1.2, .map (some x.2), i6 t17_2.dirs_, (J6 t17_2.found_), i6 t17_2.no_] 134) (Jt (Js 140 2 (.slice x.1.1 t17_2.parts_.length x.1.2) t17_2.parts_.length (t17_2.parts_.map Jm)) (Ys (fun x_ : Int => i6 x_) (fun x_ : Bool => .bool x_) x.2 t17_2.seen_))) rfl (fun w L' S hF hS hi hp hlt ho hA => k98 hp hlt (Xi w S) hn0_2 h_t17_2) call98 rfl) rfl rfl rfl (fun ⟨p_3, p_4⟩ => ?_)
   refine ub 0 1 rfl rfl<|ub 1 2 rfl rfl<|Jd<|Jc<|?_
   try dsimp only [z1, z2, z5, z6, z7, z8]
   refine Ja<|ag (str [])<|Jd<|Jh<|?_
   obtain rfl := sj H26
   refine bo 1 2 rfl rfl<|bo 0 1 rfl rfl<|?_
   refine ret1 (v := str []) rfl rfl (Yy (p_3, p_4) (i := 0) rfl rfl (Imp.refl _))
  ·refine Ji<|Jc<|Ja<|mv (str a1)<|mv (str a1)<|lv (Vn underlying9 rfl)<|?_
   obtain ⟨t21, h_t21, H28⟩ := Je H27; clear H27
   refine lv (Vh rfl rfl h_t21) ?_
   obtain ⟨t22, h_t22, H29⟩ := Je H28; clear H28
   refine lv (r_cutToG underlying9 rfl rfl h_t22)<|ag (str t22)<|Jd<|Jc<|Jc<|Ja<|mv (str t22)<|lv (Vn underlying9 rfl)<|mv (i6 0)<|Jd<|Jx<|?_
   refine Zn (σ := Int × (List UInt8) × Bool × Int × Nat × Int × (List T_tag_Span) × (List (Int × Bool))) (τ := (Option Addr × Nat) × Nat × Nat) (fun next1 s => Xd t22 next1 s.1 s.2.1 s.2.2.1 s.2.2.2.1 s.2.2.2.2.1 s.2.2.2.2.2.1 s.2.2.2.2.2.2.1 s.2.2.2.2.2.2.2) (fun s t => [(0, .pointer (some ⟨pb0, 0, none⟩)), (1, str t22), (24, i6 (t22.length : Int)), (25, i6 s.1)]) (fun s t => [Jg pb0 [str s.2.1, .bool s.2.2.1, .slice t.1.1 t.2.1 t.1.2, .map (some t.2.2), i6 s.2.2.2.1, (J6 s.2.2.2.2.1), i6 s.2.2.2.2.2.1] 134, Js 140 2 (.slice t.1.1 t.2.1 t.1.2) t.2.1 (s.2.2.2.2.2.2.1.map Jm), Ys (fun x_ : Int => i6 x_) (fun x_ : Bool => .bool x_) t.2.2 s.2.2.2.2.2.2.2]) (fun s t => t.2.1 = s.2.2.2.2.2.2.1.length) (0, a0.s_, a0.big_, a0.dirs_, a0.found_, a0.no_, a0.parts_, a0.seen_) (p0_2, n0_2, m0_3) [0, 1, 2] H29 (by exact hn0_2) (by exact ⟨rfl, rfl, rfl, rfl, trivial⟩) (by decide) rfl ?_
   rintro ⟨x25_2, m_6, m_7, m_8, m_9, m_10, l_2, mp_2⟩ ⟨p_5, n, b⟩ m1 gg H30 hl_2
   clear H29
   try dsimp only at H30
   generalize hn1 : it (fun next1 s => Xd t22 next1 s.1 s.2.1 s.2.2.1 s.2.2.2.1 s.2.2.2.2.1 s.2.2.2.2.2.1 s.2.2.2.2.2.2.1 s.2.2.2.2.2.2.2) m1 = next1 at H30
   try dsimp only
   refine Jc<|Ja<|lv (Yc rfl rfl)<|Jd<|Jc<|?_
   revert H30
   refine ci (decide (x25_2 < (t22.length : Int))) rfl (fun hb H31=>?_) fun hb H38=>?_
   ·refine Ji ?_
    refine Q3 (r := r) (σ := (List UInt8) × Bool × Int × Nat × Int × (List T_tag_Span) × (List (Int × Bool))) (τ := (Option Addr × Nat) × Nat × Nat) (fun s => Zx x25_2 next1 s.1 s.2.1 s.2.2.1 s.2.2.2.1 s.2.2.2.2.1 s.2.2.2.2.2.1 s.2.2.2.2.2.2) (fun s t => [(0, .pointer (some ⟨pb0, 0, none⟩)), (1, str t22), (24, i6 (t22.length : Int)), (25, i6 x25_2)]) (fun s t => [Jg pb0 [str s.1, .bool s.2.1, .slice t.1.1 t.2.1 t.1.2, .map (some t.2.2), i6 s.2.2.1, (J6 s.2.2.2.1), i6 s.2.2.2.2.1] 134, Js 140 2 (.slice t.1.1 t.2.1 t.1.2) t.2.1 (s.2.2.2.2.2.1.map Jm), Ys (fun x_ : Int => i6 x_) (fun x_ : Bool => .bool x_) t.2.2 s.2.2.2.2.2.2]) (fun s t => t.2.1 = s.2.2.2.2.2.1.length) ?_ ?_
    ·refine Jx<|Jc<|Ja<|mv (i6 x25_2)<|ag (i6 x25_2)<|Jd<|Jc<|Ja<|mv (str t22)<|mv (i6 x25_2)<|?_
     obtain ⟨t30, h_t30, H34⟩ := Je H31; clear H31
     refine lv (r_octG underlying9 rfl rfl h_t30)<|lv (Xg rfl rfl)<|Jd<|?_
     revert H34
     refine ci (decide (t30 = 0)) rfl (fun hb H35=>?_) fun hb H37=>?_
     ·refine Ja<|mv (.pointer (some ⟨pb0, 0, none⟩))<|?_
      obtain ⟨t33, h_t33, H36⟩ := Je H35; clear H35
      refine bo 1 2 rfl rfl<|bo 0 1 rfl rfl<|?_
      refine Qk (Qe (i := 0) (rds := []) (G := fun x : (Option Addr × Nat) × Nat => .tuple #[]) (C := fun x : (Option Addr × Nat) × Nat => Jt (Jg pb0 [str t33.s_, .bool t33.big_, .slice x.1.1 t33.parts_.length x.1.2, .map (some x.2), i6 t33.dirs_, (J6 t33.found_), i6 t33.no_] 134) (Jt (Js 140 2 (.slice x.1.1 t33.parts_.length x.1.2) t33.parts_.length (t33.parts_.map Jm)) (Ys (fun x_ : Int => i6 x_) (fun x_ : Bool => .bool x_) x.2 t33.seen_))) rfl (fun w L' S hF hS hi hp hlt ho hA => k98 (a0 := (⟨m_6, m_7, l_2, mp_2, m_8, m_9, m_10⟩ : T_tag_reader)) hp hlt (Xi w S) hl_2 h_t33) call98 rfl) rfl rfl rfl (fun ⟨p_7, p_8⟩ => ?_)
      refine ub 0 1 rfl rfl<|ub 1 2 rfl rfl<|Jd<|?_
      exact cl (t33.s_, t33.big_, t33.dirs_, t33.found_, t33.no_, t33.parts_, t33.seen_) (p_7, t33.parts_.length, p_8) 0 [0, 1, 2] (by exact ⟨H36, rfl⟩)
     ·refine Ji ?_
      exact cl (m_6, m_7, m_8, m_9, m_10, l_2, mp_2) (p_5, n, b) 0 [0, 1, 2] (by exact ⟨H37, hl_2⟩)
    ·rintro ⟨m_11, m_12, m_13, m_14, m_15, l_3, mp_3⟩ ⟨p_6, n_2, b_2⟩ gg H32 hl_3
     try dsimp only at H32
     try dsimp only
     refine Ja ?_
     obtain ⟨t34, h_t34, H33⟩ := Je H32; clear H32
     refine lv (J1 rfl rfl h_t34)<|mv (i6 t34)<|Jd<|?_
     exact cl (t34, m_11, m_12, m_13, m_14, m_15, l_3, mp_3) (p_6, n_2, b_2) m1 [0, 1, 2] (by exact ⟨(by subst hn1; exact H33), hl_3⟩)
   ·refine Xx<|Jc<|?_
    try dsimp only [z1, z2, z5, z6, z7, z8]
    refine Ja<|mv (str t22)<|ag (str t22)<|Jd<|Jh<|?_
    obtain rfl := sj H38
    refine bo 1 2 rfl rfl<|bo 0 1 rfl rfl<|?_
    refine ret1 (v := str t22) rfl rfl (Yy (p_5, b) (i := 0) rfl (by first | rfl | rw [(show n = l_2.length from hl_2)]) (by first | exact Imp.refl _ | exact Imp.of (by rw [(show n = l_2.length from hl_2)] <;> rfl)))
theorem k109 {a0 : T_tag_reader} {pb0 : Nat} {p0_2 : Option Addr × Nat} {n0_2 : Nat} {m0_3 : Nat} {a1 : Int} {a2 : Int} {a3 : Int} {r : T_tag_Value × T_tag_reader} {w : World} {h : Jo} {S : Nat → Prop} (hcs : (Jt (Jg pb0 [str a0.s_, .bool a0.big_, sl p0_2 n0_2, .map (some m0_3), i6 a0.dirs_, (J6 a0.found_), i6 a0.no_] 134) (Jt (Js 140 2 (sl p0_2 n0_2) n0_2 (a0.parts_.map Jm)) (Ys (fun x_ : Int => i6 x_) (fun x_ : Bool => .bool x_) m0_3 a0.seen_))).P S w) (hlt : ∀ b, S b → b < w.heap.size) (hw : Know h w S) (hn0_2 : n0_2 = a0.parts_.length) (H : Us a0 a1 a2 a3 = some r) : Does prog 109 (List.toArray [.pointer (some ⟨pb0, 0, none⟩), i6 a1, i6 a2, i6 a3]) w (fun v w' => ∃ x : (Option Addr × Nat) × (Option Addr × Nat) × (Option Addr × Nat) × (Option Addr × Nat) × Nat, v = (.agg #[i6 r.1.Kind, str r.1.Text, .slice x.1.1 r.1.Ints.length x.1.2, .slice x.2.1.1 r.1.Ratios.length x.2.1.2, .slice x.2.2.1.1 r.1.Entries.length x.2.2.1.2]) ∧ Turn w w' S (Jt (Jg pb0 [str r.2.s_, .bool r.2.big_, .slice x.2.2.2.1.1 r.2.parts_.length x.2.2.2.1.2, .map (some x.2.2.2.2), i6 r.2.dirs_, (J6 r.2.found_), i6 r.2.no_] 134) (Jt (Js 140 2 (.slice x.2.2.2.1.1 r.2.parts_.length x.2.2.2.1.2) r.2.parts_.length (r.2.parts_.map Jm)) (Jt (Ys (fun x_ : Int => i6 x_) (fun x_ : Bool => .bool x_) x.2.2.2.2 r.2.seen_) (Jt (Js 3 1 (.slice x.1.1 r.1.Ints.length x.1.2) r.1.Ints.length (r.1.Ints.map Qc)) (Jt (Js 52 2 (.slice x.2.1.1 r.1.Ratios.length x.2.1.2) r.1.Ratios.length (r.1.Ratios.map Jl)) (rowD 62 6 g_tag_Entry (.slice x.2.2.1.1 r.1.Entries.length x.2.2.1.2) r.1.Entries.length r.1.Entries))))))) := by
 refine enter (n := 131) func109 rfl rfl rfl S [Jt (Jg pb0 [str a0.s_, .bool a0.big_, sl p0_2 n0_2, .map (some m0_3), i6 a0.dirs_, (J6 a0.found_), i6 a0.no_] 134) (Jt (Js 140 2 (sl p0_2 n0_2) n0_2 (a0.parts_.map Jm)) (Ys (fun x_ : Int => i6 x_) (fun x_ : Bool => .bool x_) m0_3 a0.seen_))] (Sat.one hcs hlt)<|Xv 0 rfl<|Xv 1 rfl<|Zp X1<|Jc<|Ja<|?_
 refine Xf (cs := [i6 0, str [], .slice none 0 0, .slice none 0 0, .slice none 0 0]) zeroValue38 rfl rfl rfl (fun b5 => ?_)
 refine Jd<|Jc<|Ja<|mv (i6 a2)<|mv (i6 a1)<|?_
 obtain ⟨t17, h_t17, H50⟩ := Je H; clear H
 refine Xy (k71 h_t17) call71 rfl rfl rfl ?_
 obtain ⟨t18, h_t18, H51⟩ := Je H50; clear H50
 refine lv (V5 rfl rfl h_t18)<|ag (i6 t18)<|Jd<|Jc<|Ja<|mv (i6 a3)<|ag (i6 a3)<|Jd<|?_
 refine Q3 (r := r) (σ := Int × (List T_tag_Span)) (τ := (Option Addr × Nat) × Nat) (fun s => Zu a0 a1 a2 t18 s.1 s.2) (fun s t => [(0, .pointer (some ⟨pb0, 0, none⟩)), (1, i6 a1), (2, i6 a2), (8, .pointer (some ⟨b5, 0, none⟩)), (9, i6 t18), (10, i6 s.1)]) (fun s t => [Jg pb0 [str a0.s_, .bool a0.big_, .slice t.1.1 t.2 t.1.2, .map (some m0_3), i6 a0.dirs_, (J6 a0.found_), i6 a0.no_] 134, Js 140 2 (.slice t.1.1 t.2 t.1.2) t.2 (s.2.map Jm), Ys (fun x_ : Int => i6 x_) (fun x_ : Bool => .bool x_) m0_3 a0.seen_, Xm X1 X1, Jg b5 [i6 0, str [], .slice none 0 0, .slice none 0 0, .slice none 0 0] 38]) (fun s t => t.2 = s.2.length) ?_ ?_
 ·refine Jc<|Ja<|mv (i6 t18)<|lv (Vz rfl rfl)<|Jd<|?_
  revert H51
  refine ci (decide (4 < t18)) rfl (fun hb H90=>?_) fun hb H98=>?_
  ·refine Jc<|Ja<|mv (.pointer (some ⟨pb0, 0, none⟩))<|mv (i6 a3)<|?_
   obtain ⟨t24, h_t24, H91⟩ := Je H90; clear H90
   refine Qo (fun w hF hS => k80 (a0 := a0) (Jn w) (Zm (i := 1) hn0_2 hS rfl) (Wn (fk := (fun x_ : Int => i6 x_)) (fv := (fun x_ : Bool => .bool x_)) (i := 2) hS rfl) (Q8 (i := 0) hS rfl) h_t24) call80 rfl rfl rfl<|ag (i6 t24)<|Jd<|Jc<|Jc<|Ja<|mv (.pointer (some ⟨pb0, 0, none⟩))<|mv (i6 t24)<|mv (i6 t18)<|?_
   obtain ⟨t28, h_t28, H92⟩ := Je H91; clear H91
   refine Qo (fun w hF hS => k97 (a0 := a0) (Jn w) (Zm (i := 1) hn0_2 hS rfl) (Wn (fk := (fun x_ : Int => i6 x_)) (fv := (fun x_ : Bool => .bool x_)) (i := 2) hS rfl) (Q8 (i := 0) hS rfl) h_t28) call97 rfl rfl rfl<|lv (Uu rfl)<|Jd<|?_
   revert H92
   refine ci (!t28) rfl (fun hb H93=>?_) fun hb H95=>?_
   ·refine Jc<|Ja<|mv (.pointer (some ⟨pb0, 0, none⟩))<|?_
    obtain ⟨t31, h_t31, H94⟩ := Je H93; clear H93
    refine bo 1 2 rfl rfl<|bo 0 1 rfl rfl<|?_
    refine Qk (Qe (i := 0) (rds := []) (G := fun x : (Option Addr × Nat) × Nat => .tuple #[]) (C := fun x : (Option Addr × Nat) × Nat => Jt (Jg pb0 [str t31.s_, .bool t31.big_, .slice x.1.1 t31.parts_.length x.1.2, .map (some x.2), i6 t31.dirs_, (J6 t31.found_), i6 t31.no_] 134) (Jt (Js 140 2 (.slice x.1.1 t31.parts_.length x.1.2) t31.parts_.length (t31.parts_.map Jm)) (Ys (fun x_ : Int => i6 x_) (fun x_ : Bool => .bool x_) x.2 t31.seen_))) rfl (fun w L' S hF hS hi hp hlt ho hA => k98 hp hlt (Xi w S) hn0_2 h_t31) call98 rfl) rfl rfl rfl (fun ⟨p_11, p_12⟩ => ?_)
    refine ub 0 1 rfl rfl<|ub 1 2 rfl rfl<|Jd<|Jc<|?_
    try dsimp only [z1, z2, z5, z6, z7, z8]
    refine Ja<|lv (Q6 (pl := #[(0, 1), (1, 1), (2, 1), (3, 1), (4, 1)]) (ps := []) (cells := #[i6 0, str [], .slice none 0 0, .slice none 0 0, .slice none 0 0]) zeroValue38 runUnderlying38 (fun w => by kernel_rfl) rfl rfl)<|st (i := 4) [i6 0, str [], .slice none 0 0, .slice none 0 0, .slice none 0 0] [i6 0, str [], .slice none 0 0, .slice none 0 0, .slice none 0 0] sizeOf38 rfl rfl<|Jd<|Jh<|?_
    try dsimp only [z1, z2, z3, z4, z5, z6, z7, z8]
    refine J5 3 1<|J5 52 2<|J5 62 6<|?_
    try dsimp only [z1, z2, z5, z6, z7, z8]
    obtain rfl := sj H94
    refine bo 3 7 rfl rfl<|Qn 3 rfl (Wj (p := nn) rfl (AllC.nil (G := g_tag_Entry) (h := X1) (sz := 6)))<|bo 6 3 rfl rfl<|bo 5 6 rfl rfl<|bo 2 5 rfl rfl<|bo 1 2 rfl rfl<|bo 0 1 rfl rfl<|?_
    refine retC (i := 4) (vs := [i6 0, str [], sl nn ([] : List Int).length, sl nn ([] : List T_tag_Ratio).length, sl nn (([] : List (List Value)).length)]) isAgg38 sizeOf38 rfl rfl rfl rfl (Yy (nn, nn, nn, p_11, p_12) (i := 0) rfl (by first | rfl | rw [(show (([] : List (List Value)).length) = ([] : List T_tag_Entry).length from (AllC.nil (G := g_tag_Entry) (h := X1) (sz := 6)).len)]) (by first | exact Imp.refl _ | exact Imp.of (by rw [(show (([] : List (List Value)).length) = ([] : List T_tag_Entry).length from (AllC.nil (G := g_tag_Entry) (h := X1) (sz := 6)).len)] <;> rfl)))
   ·refine Ji ?_
    try dsimp only [z1, z2, z5, z6, z7, z8]
    refine Ja<|mv (.pointer (some ⟨pb0, 0, none⟩))<|mv (.pointer (some ⟨pb0, 0, none⟩))<|lv (Jj rfl)<|lf runUnderlying134 rfl sizeOf115 rfl<|ll 0 (sl p0_2 n0_2) isAgg115<|mv (i6 t24)<|mv (i6 t24)<|mv (i6 t18)<|?_
    obtain ⟨t41, h_t41, H96⟩ := Je H95; clear H95
    refine lv (J1 rfl rfl h_t41)<|lv (Q6 (pl := #[(0, 1), (1, 1)]) (ps := [(0, i6 t24), (1, i6 t41)]) (cells := #[i6 t24, i6 t41]) zeroValue140 runUnderlying140 (fun w => by kernel_rfl) rfl rfl)<|?_
    refine J9 (vs := [.agg #[i6 t24, i6 t41]]) (cs := [i6 t24, i6 t41]) underlying115 sizeOf140 zeroValue140 rfl rfl rfl rfl rfl rfl rfl (fun b9 => ?_)
    obtain ⟨l44, h_l44, H97⟩ := Je H96; clear H96
    refine Qk (Xo (i := 1) (hn := hn0_2) (rds := [5]) (p := p0_2) (sz := 2) (by_ := 16) (f := Jm) (ys := a0.parts_) (ls := ([(⟨t24, t41⟩ : T_tag_Span)] : List T_tag_Span)) (V := .slice (some ⟨b9, 0, none⟩) 1 1) underlying115 (Qp typeInfo140) rfl rfl rfl rfl rfl rfl rfl rfl rfl rfl (fun w L' hF hS hi => Wr (i := 5) hS ((hi 5 (by simp)).trans rfl) rfl rfl) (fun _ => rfl) (fun _ => rfl) h_l44) rfl rfl rfl (fun p_13 => ?_)
    refine lv (Jj rfl)<|lf runUnderlying134 rfl sizeOf115 rfl<|st (i := 0) [sl p_13 l44.length] [str a0.s_, .bool a0.big_, sl p_13 l44.length, .map (some m0_3), i6 a0.dirs_, (J6 a0.found_), i6 a0.no_] sizeOf115 rfl rfl<|Jd<|?_
    exact cl (t24, l44) (p_13, l44.length) 0 [0, 1, 2, 3, 4] (by exact ⟨H97, rfl⟩)
  ·refine Ji ?_
   exact cl (a3, a0.parts_) (p0_2, n0_2) 0 [0, 1, 2, 3, 4] (by exact ⟨H98, hn0_2⟩)
 ·rintro ⟨x10, l⟩ ⟨p, n⟩ gg H52 hl
  try dsimp only at H52
  try dsimp only
  refine Jc<|Ja<|mv (i6 a1)<|lv (Q6 (pl := #[(0, 1), (1, 1), (2, 1), (3, 1), (4, 1)]) (ps := [(0, i6 a1)]) (cells := #[i6 a1, str [], .slice none 0 0, .slice none 0 0, .slice none 0 0]) zeroValue38 runUnderlying38 (fun w => by kernel_rfl) rfl rfl)<|?_
  refine Xf (cs := [i6 0, str [], .slice none 0 0, .slice none 0 0, .slice none 0 0]) zeroValue38 rfl rfl rfl (fun b6 => ?_)
  refine st (i := 5) [i6 a1, str [], .slice none 0 0, .slice none 0 0, .slice none 0 0] [i6 a1, str [], .slice none 0 0, .slice none 0 0, .slice none 0 0] sizeOf38 rfl rfl<|Jd<|?_
  refine Q3 (r := r) (σ := (List UInt8) × Bool × Int × Nat × Int × (List T_tag_Span) × (List (Int × Bool)) × (List UInt8) × (List Int) × (List T_tag_Ratio)) (τ := (Option Addr × Nat) × Nat × Nat × (Option Addr × Nat) × (Option Addr × Nat)) (fun s => Zz a1 s.1 s.2.1 s.2.2.1 s.2.2.2.1 s.2.2.2.2.1 s.2.2.2.2.2.1 s.2.2.2.2.2.2.1 s.2.2.2.2.2.2.2.1 s.2.2.2.2.2.2.2.2.1 s.2.2.2.2.2.2.2.2.2) (fun s t => [(8, .pointer (some ⟨b5, 0, none⟩)), (11, .pointer (some ⟨b6, 0, none⟩))]) (fun s t => [Jg pb0 [str s.1, .bool s.2.1, .slice t.1.1 t.2.1 t.1.2, .map (some t.2.2.1), i6 s.2.2.1, (J6 s.2.2.2.1), i6 s.2.2.2.2.1] 134, Js 140 2 (.slice t.1.1 t.2.1 t.1.2) t.2.1 (s.2.2.2.2.2.1.map Jm), Ys (fun x_ : Int => i6 x_) (fun x_ : Bool => .bool x_) t.2.2.1 s.2.2.2.2.2.2.1, Xm X1 X1, Jg b5 [i6 0, str [], .slice none 0 0, .slice none 0 0, .slice none 0 0] 38, Jg b6 [i6 a1, str s.2.2.2.2.2.2.2.1, .slice t.2.2.2.1.1 s.2.2.2.2.2.2.2.2.1.length t.2.2.2.1.2, .slice t.2.2.2.2.1 s.2.2.2.2.2.2.2.2.2.length t.2.2.2.2.2, .slice none 0 0] 38, Js 3 1 (.slice t.2.2.2.1.1 s.2.2.2.2.2.2.2.2.1.length t.2.2.2.1.2) s.2.2.2.2.2.2.2.2.1.length (s.2.2.2.2.2.2.2.2.1.map Qc), Js 52 2 (.slice t.2.2.2.2.1 s.2.2.2.2.2.2.2.2.2.length t.2.2.2.2.2) s.2.2.2.2.2.2.2.2.2.length (s.2.2.2.2.2.2.2.2.2.map Jl)]) (fun s t => t.2.1 = s.2.2.2.2.2.1.length) ?_ ?_
  ·refine Jx<|Jc<|?_
   try dsimp only [z1, z2, z5, z6, z7, z8]
   refine Ja<|mv (i6 a1)<|lv (Xg rfl rfl)<|ag (.bool (decide (a1 = 2)))<|Jd<|?_
   revert H52
   refine ci (decide (a1 = 2)) rfl (fun hb H54=>?_) fun hb H58=>?_
   ·refine Ja<|mv (.pointer (some ⟨pb0, 0, none⟩))<|mv (.pointer (some ⟨pb0, 0, none⟩))<|lv (Jj rfl)<|lf runUnderlying134 rfl sizeOf9 rfl<|ll 0 (str a0.s_) isAgg9<|mv (i6 x10)<|mv (i6 x10)<|mv (i6 t18)<|?_
    obtain ⟨t86, h_t86, H55⟩ := Je H54; clear H54
    refine lv (J1 rfl rfl h_t86) ?_
    obtain ⟨t87, h_t87, H56⟩ := Je H55; clear H55
    refine lv (r_cutTG underlying9 rfl rfl rfl h_t87) ?_
    obtain ⟨t88, h_t88, H57⟩ := Je H56; clear H56
    refine bo 1 2 rfl rfl<|bo 0 1 rfl rfl<|?_
    refine Qk (Qe (i := 0) (rds := []) (G := fun x : (Option Addr × Nat) × Nat => str t88.1) (C := fun x : (Option Addr × Nat) × Nat => Jt (Jg pb0 [str t88.2.s_, .bool t88.2.big_, .slice x.1.1 t88.2.parts_.length x.1.2, .map (some x.2), i6 t88.2.dirs_, (J6 t88.2.found_), i6 t88.2.no_] 134) (Jt (Js 140 2 (.slice x.1.1 t88.2.parts_.length x.1.2) t88.2.parts_.length (t88.2.parts_.map Jm)) (Ys (fun x_ : Int => i6 x_) (fun x_ : Bool => .bool x_) x.2 t88.2.seen_))) rfl (fun w L' S hF hS hi hp hlt ho hA => k127 (a0 := (⟨a0.s_, a0.big_, l, a0.seen_, a0.dirs_, a0.found_, a0.no_⟩ : T_tag_reader)) hp hlt (Xi w S) hl h_t88) call127 rfl) rfl rfl rfl (fun ⟨p_5, p_6⟩ => ?_)
    refine ub 0 1 rfl rfl<|ub 1 2 rfl rfl<|lf runUnderlying38 rfl sizeOf9 rfl<|st (i := 5) [str t88.1] [i6 a1, str t88.1, .slice none 0 0, .slice none 0 0, .slice none 0 0] sizeOf9 rfl rfl<|Jd<|J5 3 1<|J5 52 2<|?_
    exact cl (t88.2.s_, t88.2.big_, t88.2.dirs_, t88.2.found_, t88.2.no_, t88.2.parts_, t88.2.seen_, t88.1, ([] : List Int), ([] : List T_tag_Ratio)) (p_5, t88.2.parts_.length, p_6, nn, nn) 0 [0, 1, 2, 3, 4, 5, 6, 7] (by exact ⟨H57, rfl⟩)
   ·refine Jc ?_
    try dsimp only [z1, z2, z5, z6, z7, z8]
    refine Ja<|mv (i6 a1)<|lv (Xg rfl rfl)<|ag (.bool (decide (a1 = 7)))<|Jd<|?_
    revert H58
    refine ci (decide (a1 = 7)) rfl (fun hb H59=>?_) fun hb H62=>?_
    ·refine Ja<|mv (.pointer (some ⟨pb0, 0, none⟩))<|lv (Jj rfl)<|lf runUnderlying134 rfl sizeOf9 rfl<|ll 0 (str a0.s_) isAgg9<|mv (i6 x10)<|mv (i6 x10)<|mv (i6 t18)<|?_
     obtain ⟨t100, h_t100, H60⟩ := Je H59; clear H59
     refine lv (J1 rfl rfl h_t100) ?_
     obtain ⟨t101, h_t101, H61⟩ := Je H60; clear H60
     refine lv (r_cutTG underlying9 rfl rfl rfl h_t101)<|lf runUnderlying38 rfl sizeOf9 rfl<|st (i := 5) [str t101] [i6 a1, str t101, .slice none 0 0, .slice none 0 0, .slice none 0 0] sizeOf9 rfl rfl<|Jd<|J5 3 1<|J5 52 2<|?_
     exact cl (a0.s_, a0.big_, a0.dirs_, a0.found_, a0.no_, l, a0.seen_, t101, ([] : List Int), ([] : List T_tag_Ratio)) (p, n, m0_3, nn, nn) 0 [0, 1, 2, 3, 4, 5, 6, 7] (by exact ⟨H61, hl⟩)
    ·refine Jc<|Ja<|mv (i6 a1)<|lv (Xg rfl rfl)<|ag (.bool (decide (a1 = 5)))<|Jd<|?_
     revert H62
     refine ci (decide (a1 = 5)) rfl (fun hb H63=>?_) fun hb H76=>?_
     ·refine Jc<|Ja<|mv (i6 a2)<|mv (i6 0)<|Jd<|Jx<|J5 52 2<|?_
      refine Zn (σ := Int × (List T_tag_Ratio)) (τ := (Option Addr × Nat)) (fun next3 s => X3 a0 a1 a2 x10 l next3 s.1 s.2) (fun s t => [(0, .pointer (some ⟨pb0, 0, none⟩)), (8, .pointer (some ⟨b5, 0, none⟩)), (10, i6 x10), (11, .pointer (some ⟨b6, 0, none⟩)), (106, i6 a2), (107, i6 s.1)]) (fun s t => [Jg pb0 [str a0.s_, .bool a0.big_, sl p n, .map (some m0_3), i6 a0.dirs_, (J6 a0.found_), i6 a0.no_] 134, Js 140 2 (sl p n) n (l.map Jm), Ys (fun x_ : Int => i6 x_) (fun x_ : Bool => .bool x_) m0_3 a0.seen_, Xm X1 X1, Jg b5 [i6 0, str [], .slice none 0 0, .slice none 0 0, .slice none 0 0] 38, Jg b6 [i6 a1, str [], .slice none 0 0, sl t s.2.length, .slice none 0 0] 38, Js 52 2 (sl t s.2.length) s.2.length (s.2.map Jl)]) (fun s t => True) (0, ([] : List T_tag_Ratio)) nn [0, 1, 2, 3, 4, 5, 6] H63 (by exact trivial) (by exact ⟨rfl, rfl, rfl, rfl, rfl, rfl, trivial⟩) (by decide) rfl ?_
      rintro ⟨x107_2, l_6⟩ p_7 m3 gg H64 _
      clear H63
      try dsimp only at H64
      generalize hn3 : it (fun next3 s => X3 a0 a1 a2 x10 l next3 s.1 s.2) m3 = next3 at H64
      try dsimp only
      refine Jc<|Ja<|lv (Yc rfl rfl)<|Jd<|Jc<|?_
      revert H64
      refine ci (decide (x107_2 < a2)) rfl (fun hb H65=>?_) fun hb H75=>?_
      ·refine Ji<|Jc<|Jx<|Jc<|Ja<|mv (i6 x107_2)<|ag (i6 x107_2)<|Jd<|?_
       exact Qi (Kd.p :: Kd.d [5] _ :: Kd.p :: Kd.p :: Kd.p :: Kd.p :: Kd.p :: Kd.d [3, 0, 1, 2] _ :: Kd.p :: Kd.p :: Kd.p :: Kd.p :: Kd.p :: Kd.p :: Kd.d [3, 0, 1, 2] _ :: Kd.p :: Kd.ns 7 [_, _] 52 1 :: Kd.t 6 [7] _ _ :: Kd.p :: Kd.sv 128 127 5 _ 38 :: []) 1 mixed (by
        refine dv (J3 runUnderlying38 rfl sizeOf31 rfl rfl)<|dl (sl p_7 l_6.length) isAgg31<|dm (.pointer (some ⟨pb0, 0, none⟩))<|dm (i6 x10)<|dm (i6 x107_2)<|?_
        have h_t115 := J0 H65
        have H66 := Ju H65
        refine dv (V5 rfl rfl h_t115) ?_
        have h_t116 := J0 H66
        have H67 := Ju H66
        refine dv (J1 rfl rfl h_t116) ?_
        have h_t117 := J0 H67
        have H68 := Ju H67
        refine Ua (fun w L' hF hS hi => k80 (a0 := (⟨a0.s_, a0.big_, l, a0.seen_, a0.dirs_, a0.found_, a0.no_⟩ : T_tag_reader)) (Jn w) (Zm (i := 1) hl hS ((hi 1 (by simp)).trans rfl)) (Wn (fk := (fun x_ : Int => i6 x_)) (fv := (fun x_ : Bool => .bool x_)) (i := 2) hS ((hi 2 (by simp)).trans rfl)) (Q8 (i := 0) hS ((hi 0 (by simp)).trans rfl)) h_t117) call80 rfl rfl<|dm (.pointer (some ⟨pb0, 0, none⟩))<|dm (i6 x10)<|dm (i6 x107_2)<|?_
        have h_t121 := J0 H68
        have H69 := Ju H68
        refine dv (V5 rfl rfl h_t121) ?_
        have h_t122 := J0 H69
        have H70 := Ju H69
        refine dv (J1 rfl rfl h_t122) ?_
        have h_t123 := J0 H70
        have H71 := Ju H70
        refine dv (J1 rfl rfl h_t123) ?_
        have h_t124 := J0 H71
        have H72 := Ju H71
        refine Ua (fun w L' hF hS hi => k80 (a0 := (⟨a0.s_, a0.big_, l, a0.seen_, a0.dirs_, a0.found_, a0.no_⟩ : T_tag_reader)) (Jn w) (Zm (i := 1) hl hS ((hi 1 (by simp)).trans rfl)) (Wn (fk := (fun x_ : Int => i6 x_)) (fv := (fun x_ : Bool => .bool x_)) (i := 2) hS ((hi 2 (by simp)).trans rfl)) (Q8 (i := 0) hS ((hi 0 (by simp)).trans rfl)) h_t124) call80 rfl rfl<|dv (Q6 (pl := #[(0, 1), (1, 1)]) (ps := [(0, i6 (val (Jk (⟨a0.s_, a0.big_, l, a0.seen_, a0.dirs_, a0.found_, a0.no_⟩ : T_tag_reader) (val (gI (x10 + (val (gI (8 * x107_2)))))) 4))), (1, i6 (val (Jk (⟨a0.s_, a0.big_, l, a0.seen_, a0.dirs_, a0.found_, a0.no_⟩ : T_tag_reader) (val (gI ((val (gI (x10 + (val (gI (8 * x107_2)))))) + 4))) 4)))]) (cells := #[i6 (val (Jk (⟨a0.s_, a0.big_, l, a0.seen_, a0.dirs_, a0.found_, a0.no_⟩ : T_tag_reader) (val (gI (x10 + (val (gI (8 * x107_2)))))) 4)), i6 (val (Jk (⟨a0.s_, a0.big_, l, a0.seen_, a0.dirs_, a0.found_, a0.no_⟩ : T_tag_reader) (val (gI ((val (gI (x10 + (val (gI (8 * x107_2)))))) + 4))) 4))]) zeroValue52 runUnderlying52 (fun w => by kernel_rfl) rfl rfl)<|?_
        refine d_newS rfl rfl (Vm (vs := [.agg #[i6 (val (Jk (⟨a0.s_, a0.big_, l, a0.seen_, a0.dirs_, a0.found_, a0.no_⟩ : T_tag_reader) (val (gI (x10 + (val (gI (8 * x107_2)))))) 4)), i6 (val (Jk (⟨a0.s_, a0.big_, l, a0.seen_, a0.dirs_, a0.found_, a0.no_⟩ : T_tag_reader) (val (gI ((val (gI (x10 + (val (gI (8 * x107_2)))))) + 4))) 4))]]) (cs := [i6 (val (Jk (⟨a0.s_, a0.big_, l, a0.seen_, a0.dirs_, a0.found_, a0.no_⟩ : T_tag_reader) (val (gI (x10 + (val (gI (8 * x107_2)))))) 4)), i6 (val (Jk (⟨a0.s_, a0.big_, l, a0.seen_, a0.dirs_, a0.found_, a0.no_⟩ : T_tag_reader) (val (gI ((val (gI (x10 + (val (gI (8 * x107_2)))))) + 4))) 4))]) underlying31 sizeOf52 zeroValue52 rfl rfl rfl rfl rfl) rfl (fun b7 => ?_)
        have h_l127 := J0 H72
        have H73 := Ju H72
        refine d_turn (Cv := fun v => Js 52 2 v (val (Ye 16 l_6 ([(⟨(val (Jk (⟨a0.s_, a0.big_, l, a0.seen_, a0.dirs_, a0.found_, a0.no_⟩ : T_tag_reader) (val (gI (x10 + (val (gI (8 * x107_2)))))) 4)), (val (Jk (⟨a0.s_, a0.big_, l, a0.seen_, a0.dirs_, a0.found_, a0.no_⟩ : T_tag_reader) (val (gI ((val (gI (x10 + (val (gI (8 * x107_2)))))) + 4))) 4))⟩ : T_tag_Ratio)] : List T_tag_Ratio))).length ((val (Ye 16 l_6 ([(⟨(val (Jk (⟨a0.s_, a0.big_, l, a0.seen_, a0.dirs_, a0.found_, a0.no_⟩ : T_tag_reader) (val (gI (x10 + (val (gI (8 * x107_2)))))) 4)), (val (Jk (⟨a0.s_, a0.big_, l, a0.seen_, a0.dirs_, a0.found_, a0.no_⟩ : T_tag_reader) (val (gI ((val (gI (x10 + (val (gI (8 * x107_2)))))) + 4))) 4))⟩ : T_tag_Ratio)] : List T_tag_Ratio))).map Jl)) (none, 0) (Xo (i := 6) (hn := rfl) (rds := [7]) (p := p_7) (sz := 2) (by_ := 16) (f := Jl) (ys := l_6) (ls := ([(⟨(val (Jk (⟨a0.s_, a0.big_, l, a0.seen_, a0.dirs_, a0.found_, a0.no_⟩ : T_tag_reader) (val (gI (x10 + (val (gI (8 * x107_2)))))) 4)), (val (Jk (⟨a0.s_, a0.big_, l, a0.seen_, a0.dirs_, a0.found_, a0.no_⟩ : T_tag_reader) (val (gI ((val (gI (x10 + (val (gI (8 * x107_2)))))) + 4))) 4))⟩ : T_tag_Ratio)] : List T_tag_Ratio)) (V := .slice (some ⟨b7, 0, none⟩) 1 1) underlying31 (Qp typeInfo52) rfl rfl rfl rfl rfl rfl rfl rfl rfl rfl (fun w L' hF hS hi => Wr (i := 7) hS ((hi 7 (by simp)).trans rfl) rfl rfl) (fun _ => rfl) (fun _ => rfl) h_l127) (fun _ => rfl) rfl rfl (fun p_8 => ?_)
        refine dv (J3 runUnderlying38 rfl sizeOf31 rfl rfl)<|Jaj (i := 5) (vs := [.slice p_8.1 (val (Ye 16 l_6 ([(⟨(val (Jk (⟨a0.s_, a0.big_, l, a0.seen_, a0.dirs_, a0.found_, a0.no_⟩ : T_tag_reader) (val (gI (x10 + (val (gI (8 * x107_2)))))) 4)), (val (Jk (⟨a0.s_, a0.big_, l, a0.seen_, a0.dirs_, a0.found_, a0.no_⟩ : T_tag_reader) (val (gI ((val (gI (x10 + (val (gI (8 * x107_2)))))) + 4))) 4))⟩ : T_tag_Ratio)] : List T_tag_Ratio))).length p_8.2]) (cs' := fun v_ => [i6 a1, str [], .slice none 0 0, v_, .slice none 0 0]) sizeOf31 rfl rfl rfl rfl rfl rfl rfl rfl rfl<|Y8<|Ja<|?_
        obtain ⟨t129, h_t129, H74⟩ := Je H73; clear H73
        refine lv (J1 rfl rfl h_t129)<|mv (i6 t129)<|Jd<|?_
        exact cl (t129, (val (Ye 16 l_6 ([(⟨(val (Jk (⟨a0.s_, a0.big_, l, a0.seen_, a0.dirs_, a0.found_, a0.no_⟩ : T_tag_reader) (val (gI (x10 + (val (gI (8 * x107_2)))))) 4)), (val (Jk (⟨a0.s_, a0.big_, l, a0.seen_, a0.dirs_, a0.found_, a0.no_⟩ : T_tag_reader) (val (gI ((val (gI (x10 + (val (gI (8 * x107_2)))))) + 4))) 4))⟩ : T_tag_Ratio)] : List T_tag_Ratio)))) p_8 m3 [0, 1, 2, 3, 4, 5, 6] (by exact ⟨(by subst hn3; exact H74), trivial⟩)
        ) (by kernel_rfl)
      ·refine Xx<|J5 3 1<|?_
       exact cl (a0.s_, a0.big_, a0.dirs_, a0.found_, a0.no_, l, a0.seen_, [], ([] : List Int), l_6) (p, n, m0_3, nn, p_7) 0 [0, 1, 2, 3, 4, 5, 7, 6] (by exact ⟨H75, hl⟩)
     ·refine Jc<|Ja<|mv (i6 a2)<|mv (i6 0)<|Jd<|Jx<|J5 3 1<|?_
      refine Zn (σ := Int × (List Int)) (τ := (Option Addr × Nat)) (fun next4 s => X2 a0 a1 a2 x10 l next4 s.1 s.2) (fun s t => [(0, .pointer (some ⟨pb0, 0, none⟩)), (1, i6 a1), (8, .pointer (some ⟨b5, 0, none⟩)), (10, i6 x10), (11, .pointer (some ⟨b6, 0, none⟩)), (49, i6 a2), (50, i6 s.1)]) (fun s t => [Jg pb0 [str a0.s_, .bool a0.big_, sl p n, .map (some m0_3), i6 a0.dirs_, (J6 a0.found_), i6 a0.no_] 134, Js 140 2 (sl p n) n (l.map Jm), Ys (fun x_ : Int => i6 x_) (fun x_ : Bool => .bool x_) m0_3 a0.seen_, Xm X1 X1, Jg b5 [i6 0, str [], .slice none 0 0, .slice none 0 0, .slice none 0 0] 38, Jg b6 [i6 a1, str [], sl t s.2.length, .slice none 0 0, .slice none 0 0] 38, Js 3 1 (sl t s.2.length) s.2.length (s.2.map Qc)]) (fun s t => True) (0, ([] : List Int)) nn [0, 1, 2, 3, 4, 5, 6] H76 (by exact trivial) (by exact ⟨rfl, rfl, rfl, rfl, rfl, rfl, rfl, trivial⟩) (by decide) rfl ?_
      rintro ⟨x50_2, l_8⟩ p_9 m4 gg H77 _
      clear H76
      try dsimp only at H77
      generalize hn4 : it (fun next4 s => X2 a0 a1 a2 x10 l next4 s.1 s.2) m4 = next4 at H77
      try dsimp only
      refine Jc ?_
      try dsimp only [z1, z2, z5, z6, z7, z8]
      refine Ja<|lv (Yc rfl rfl)<|Jd<|Jc<|?_
      revert H77
      refine ci (decide (x50_2 < a2)) rfl (fun hb H78=>?_) fun hb H89=>?_
      ·refine Ji<|Jc<|Jx<|Jc<|Ja<|mv (i6 x50_2)<|ag (i6 x50_2)<|Jd<|Jc<|Ja<|mv (.pointer (some ⟨pb0, 0, none⟩))<|mv (i6 x10)<|mv (i6 x50_2)<|mv (i6 a1)<|?_
       obtain ⟨t57, h_t57, H79⟩ := Je H78; clear H78
       refine Xy (k71 h_t57) call71 rfl rfl rfl ?_
       obtain ⟨t58, h_t58, H80⟩ := Je H79; clear H79
       refine lv (V5 rfl rfl h_t58) ?_
       obtain ⟨t59, h_t59, H81⟩ := Je H80; clear H80
       refine lv (J1 rfl rfl h_t59)<|mv (i6 a1)<|?_
       obtain ⟨t61, h_t61, H82⟩ := Je H81; clear H81
       refine Xy (k71 h_t61) call71 rfl rfl rfl ?_
       obtain ⟨t62, h_t62, H83⟩ := Je H82; clear H82
       refine Qo (fun w hF hS => k80 (a0 := (⟨a0.s_, a0.big_, l, a0.seen_, a0.dirs_, a0.found_, a0.no_⟩ : T_tag_reader)) (Jn w) (Zm (i := 1) hl hS rfl) (Wn (fk := (fun x_ : Int => i6 x_)) (fv := (fun x_ : Bool => .bool x_)) (i := 2) hS rfl) (Q8 (i := 0) hS rfl) h_t62) call80 rfl rfl rfl<|ag (i6 t62)<|Jd<|?_
       refine Q3 (r := r) (σ := Int) (τ := Unit) (fun s => Zv x50_2 l_8 next4 s) (fun s t => [(0, .pointer (some ⟨pb0, 0, none⟩)), (1, i6 a1), (8, .pointer (some ⟨b5, 0, none⟩)), (10, i6 x10), (11, .pointer (some ⟨b6, 0, none⟩)), (14, i6 s), (49, i6 a2), (50, i6 x50_2)]) (fun s t => [Jg pb0 [str a0.s_, .bool a0.big_, sl p n, .map (some m0_3), i6 a0.dirs_, (J6 a0.found_), i6 a0.no_] 134, Js 140 2 (sl p n) n (l.map Jm), Ys (fun x_ : Int => i6 x_) (fun x_ : Bool => .bool x_) m0_3 a0.seen_, Xm X1 X1, Jg b5 [i6 0, str [], .slice none 0 0, .slice none 0 0, .slice none 0 0] 38, Jg b6 [i6 a1, str [], sl p_9 l_8.length, .slice none 0 0, .slice none 0 0] 38, Js 3 1 (sl p_9 l_8.length) l_8.length (l_8.map Qc)]) (fun s t => True) ?_ ?_
       ·refine Jc<|Ja<|mv (i6 a1)<|lv (Xg rfl rfl)<|Jd<|?_
        revert H83
        refine ci (decide (a1 = 9)) rfl (fun hb H87=>?_) fun hb H88=>?_
        ·refine Ja<|mv (i6 t62)<|lv (W9 runUnderlying3 runUnderlying21 rfl (wr_i32 _))<|lv (W9 runUnderlying21 runUnderlying3 rfl (wr_i64 _))<|ag (i6 (V0 (wI32 t62)))<|Jd<|?_
         exact cl (V0 (wI32 t62)) () 0 [0, 1, 2, 3, 4, 5, 6] (by exact ⟨H87, trivial⟩)
        ·refine Ji ?_
         exact cl t62 () 0 [0, 1, 2, 3, 4, 5, 6] (by exact ⟨H88, trivial⟩)
       ·rintro x14 _ gg H84 _
        try dsimp only at H84
        try dsimp only
        refine Ja<|lf runUnderlying38 rfl sizeOf30 rfl<|ll 5 (sl p_9 l_8.length) isAgg30<|mv (i6 x14)<|?_
        refine J9 (vs := [i6 x14]) (cs := [i6 x14]) underlying30 sizeOf3 zeroValue3 rfl rfl rfl rfl rfl rfl rfl (fun b8 => ?_)
        obtain ⟨l72, h_l72, H85⟩ := Je H84; clear H84
        refine Qk (Xo (i := 6) (hn := rfl) (rds := [7]) (p := p_9) (sz := 1) (by_ := 8) (f := Qc) (ys := l_8) (ls := ([x14] : List Int)) (V := .slice (some ⟨b8, 0, none⟩) 1 1) underlying30 (Qp typeInfo3) rfl rfl rfl rfl rfl rfl rfl rfl rfl rfl (fun w L' hF hS hi => Wr (i := 7) hS ((hi 7 (by simp)).trans rfl) rfl rfl) (fun _ => rfl) (fun _ => rfl) h_l72) rfl rfl rfl (fun p_10 => ?_)
        refine lf runUnderlying38 rfl sizeOf30 rfl<|st (i := 5) [sl p_10 l72.length] [i6 a1, str [], sl p_10 l72.length, .slice none 0 0, .slice none 0 0] sizeOf30 rfl rfl<|Jd<|Ja<|?_
        obtain ⟨t74, h_t74, H86⟩ := Je H85; clear H85
        refine lv (J1 rfl rfl h_t74)<|mv (i6 t74)<|Jd<|?_
        exact cl (t74, l72) p_10 m4 [0, 1, 2, 3, 4, 5, 6] (by exact ⟨(by subst hn4; exact H86), trivial⟩)
      ·refine Xx<|J5 52 2<|?_
       exact cl (a0.s_, a0.big_, a0.dirs_, a0.found_, a0.no_, l, a0.seen_, [], l_8, ([] : List T_tag_Ratio)) (p, n, m0_3, p_9, nn) 0 [0, 1, 2, 3, 4, 5, 6, 7] (by exact ⟨H89, hl⟩)
  ·rintro ⟨m, m_2, m_3, m_4, m_5, l_2, mp, m_6, l_3, l_4⟩ ⟨p_2, n_2, b, p_3, p_4⟩ gg H53 hl_2
   try dsimp only at H53
   try dsimp only
   refine Jc ?_
   try dsimp only [z1, z2, z5, z6, z7, z8]
   refine Ja<|Qx (i := 5) (vs := [i6 a1, str m_6, sl p_3 l_3.length, sl p_4 l_4.length, .slice none 0 0]) isAgg38 sizeOf38 rfl rfl rfl rfl rfl<|st (i := 4) [i6 a1, str m_6, sl p_3 l_3.length, sl p_4 l_4.length, .slice none 0 0] [i6 a1, str m_6, sl p_3 l_3.length, sl p_4 l_4.length, .slice none 0 0] sizeOf38 rfl rfl<|Jd<|Jh<|c_dr 5<|?_
   try dsimp only [z1, z2, z3, z4, z5, z6, z7, z8]
   refine J5 62 6 ?_
   obtain rfl := sj H53
   refine bo 3 7 rfl rfl<|Qn 3 rfl (Wj (p := nn) rfl (AllC.nil (G := g_tag_Entry) (h := X1) (sz := 6)))<|bo 6 3 rfl rfl<|bo 5 6 rfl rfl<|bo 2 5 rfl rfl<|bo 1 2 rfl rfl<|bo 0 1 rfl rfl<|?_
   refine retC (i := 4) (vs := [i6 a1, str m_6, sl p_3 l_3.length, sl p_4 l_4.length, sl nn (([] : List (List Value)).length)]) isAgg38 sizeOf38 rfl rfl rfl rfl (Yy (p_3, p_4, nn, p_2, b) (i := 0) rfl (by first | rfl | rw [(show (([] : List (List Value)).length) = ([] : List T_tag_Entry).length from (AllC.nil (G := g_tag_Entry) (h := X1) (sz := 6)).len), (show n_2 = l_2.length from hl_2)]) (by first | exact Imp.refl _ | exact Imp.of (by rw [(show (([] : List (List Value)).length) = ([] : List T_tag_Entry).length from (AllC.nil (G := g_tag_Entry) (h := X1) (sz := 6)).len), (show n_2 = l_2.length from hl_2)] <;> rfl)))
theorem k99_b {self : (T_tag_reader × Int × (List Int)) → Option ((List T_tag_Entry) × Int × T_tag_reader)} (ih : ∀ {a0 : T_tag_reader} {pb0 : Nat} {p0_2 : Option Addr × Nat} {n0_2 : Nat} {m0_3 : Nat} {a1 : Int} {a2 : (List Int)} {v2 : Value} {r : (List T_tag_Entry) × Int × T_tag_reader} {w : World} {h : Jo} {S : Nat → Prop} (hcs : (Jt (Jg pb0 [str a0.s_, .bool a0.big_, sl p0_2 n0_2, .map (some m0_3), i6 a0.dirs_, (J6 a0.found_), i6 a0.no_] 134) (Jt (Js 140 2 (sl p0_2 n0_2) n0_2 (a0.parts_.map Jm)) (Ys (fun x_ : Int => i6 x_) (fun x_ : Bool => .bool x_) m0_3 a0.seen_))).P S w) (hlt : ∀ b, S b → b < w.heap.size) (hw : Know h w S) (hn0_2 : n0_2 = a0.parts_.length) (f2 : FrS h 1 v2 (a2.map Qc)) (_ : self (a0, a1, a2) = some r), Does prog 81 (List.toArray [.pointer (some ⟨pb0, 0, none⟩), i6 a1, v2]) w (fun v w' => ∃ x : (Option Addr × Nat) × (Option Addr × Nat) × Nat, v = (.tuple #[.slice x.1.1 r.1.length x.1.2, i6 r.2.1]) ∧ Turn w w' S (Jt (Jg pb0 [str r.2.2.s_, .bool r.2.2.big_, .slice x.2.1.1 r.2.2.parts_.length x.2.1.2, .map (some x.2.2), i6 r.2.2.dirs_, (J6 r.2.2.found_), i6 r.2.2.no_] 134) (Jt (Js 140 2 (.slice x.2.1.1 r.2.2.parts_.length x.2.1.2) r.2.2.parts_.length (r.2.2.parts_.map Jm)) (Jt (Ys (fun x_ : Int => i6 x_) (fun x_ : Bool => .bool x_) x.2.2 r.2.2.seen_) (rowD 62 6 g_tag_Entry (.slice x.1.1 r.1.length x.1.2) r.1.length r.1)))))) {a0 : T_tag_reader} {pb0 : Nat} {p0_2 : Option Addr × Nat} {n0_2 : Nat} {m0_3 : Nat} {a1 : Int} {a2 : (List Int)} {v2 : Value} {r : T_tag_Entry × T_tag_reader} {w : World} {h : Jo} {S : Nat → Prop} (hcs : (Jt (Jg pb0 [str a0.s_, .bool a0.big_, sl p0_2 n0_2, .map (some m0_3), i6 a0.dirs_, (J6 a0.found_), i6 a0.no_] 134) (Jt (Js 140 2 (sl p0_2 n0_2) n0_2 (a0.parts_.map Jm)) (Ys (fun x_ : Int => i6 x_) (fun x_ : Bool => .bool x_) m0_3 a0.seen_))).P S w) (hlt : ∀ b, S b → b < w.heap.size) (hw : Know h w S) (hn0_2 : n0_2 = a0.parts_.length) (f2 : FrS h 1 v2 (a2.map Qc)) (H : Xa self a0 a1 a2 = some r) : Does prog 99 (List.toArray [.pointer (some ⟨pb0, 0, none⟩), i6 a1, v2]) w (fun v w' => ∃ x : (Option Addr × Nat) × (Option Addr × Nat) × (Option Addr × Nat) × (Option Addr × Nat) × Nat, v = (.agg #[i6 r.1.Tag, i6 r.1.Value.Kind, str r.1.Value.Text, .slice x.1.1 r.1.Value.Ints.length x.1.2, .slice x.2.1.1 r.1.Value.Ratios.length x.2.1.2, .slice x.2.2.1.1 r.1.Value.Entries.length x.2.2.1.2]) ∧ Turn w w' S (Jt (Jg pb0 [str r.2.s_, .bool r.2.big_, .slice x.2.2.2.1.1 r.2.parts_.length x.2.2.2.1.2, .map (some x.2.2.2.2), i6 r.2.dirs_, (J6 r.2.found_), i6 r.2.no_] 134) (Jt (Js 140 2 (.slice x.2.2.2.1.1 r.2.parts_.length x.2.2.2.1.2) r.2.parts_.length (r.2.parts_.map Jm)) (Jt (Ys (fun x_ : Int => i6 x_) (fun x_ : Bool => .bool x_) x.2.2.2.2 r.2.seen_) (Jt (Js 3 1 (.slice x.1.1 r.1.Value.Ints.length x.1.2) r.1.Value.Ints.length (r.1.Value.Ints.map Qc)) (Jt (Js 52 2 (.slice x.2.1.1 r.1.Value.Ratios.length x.2.1.2) r.1.Value.Ratios.length (r.1.Value.Ratios.map Jl)) (rowD 62 6 g_tag_Entry (.slice x.2.2.1.1 r.1.Value.Entries.length x.2.2.1.2) r.1.Value.Entries.length r.1.Value.Entries))))))) := by
 refine enter (n := 76) func99 rfl rfl rfl S [Jt (Jg pb0 [str a0.s_, .bool a0.big_, sl p0_2 n0_2, .map (some m0_3), i6 a0.dirs_, (J6 a0.found_), i6 a0.no_] 134) (Jt (Js 140 2 (sl p0_2 n0_2) n0_2 (a0.parts_.map Jm)) (Ys (fun x_ : Int => i6 x_) (fun x_ : Bool => .bool x_) m0_3 a0.seen_))] (Sat.one hcs hlt)<|Xv 0 rfl<|Xv 1 rfl<|Zp X1<|Jc<|Ja<|?_
 refine Xf (cs := [i6 0, i6 0, str [], .slice none 0 0, .slice none 0 0, .slice none 0 0]) zeroValue62 rfl rfl rfl (fun b3 => ?_)
 refine Jd<|Jc<|Ja<|mv (.pointer (some ⟨pb0, 0, none⟩))<|mv (i6 a1)<|?_
 obtain ⟨t13, h_t13, H28⟩ := Je H; clear H
 refine Qo (fun w hF hS => k80 (a0 := a0) (Jn w) (Zm (i := 1) hn0_2 hS rfl) (Wn (fk := (fun x_ : Int => i6 x_)) (fv := (fun x_ : Bool => .bool x_)) (i := 2) hS rfl) (Q8 (i := 0) hS rfl) h_t13) call80 rfl rfl rfl<|mv (.pointer (some ⟨pb0, 0, none⟩))<|mv (i6 a1)<|?_
 obtain ⟨t16, h_t16, H29⟩ := Je H28; clear H28
 refine lv (J1 rfl rfl h_t16) ?_
 obtain ⟨t17, h_t17, H30⟩ := Je H29; clear H29
 refine Qo (fun w hF hS => k80 (a0 := a0) (Jn w) (Zm (i := 1) hn0_2 hS rfl) (Wn (fk := (fun x_ : Int => i6 x_)) (fv := (fun x_ : Bool => .bool x_)) (i := 2) hS rfl) (Q8 (i := 0) hS rfl) h_t17) call80 rfl rfl rfl<|mv (.pointer (some ⟨pb0, 0, none⟩))<|mv (i6 a1)<|?_
 obtain ⟨t20, h_t20, H31⟩ := Je H30; clear H30
 refine lv (J1 rfl rfl h_t20) ?_
 obtain ⟨t21, h_t21, H32⟩ := Je H31; clear H31
 refine Qo (fun w hF hS => k80 (a0 := a0) (Jn w) (Zm (i := 1) hn0_2 hS rfl) (Wn (fk := (fun x_ : Int => i6 x_)) (fv := (fun x_ : Bool => .bool x_)) (i := 2) hS rfl) (Q8 (i := 0) hS rfl) h_t21) call80 rfl rfl rfl<|ag (i6 t13)<|ag (i6 t17)<|ag (i6 t21)<|Jd<|Jc<|Ja<|mv v2<|?_
 obtain ⟨t23, h_t23, H33⟩ := Je H32; clear H32
 refine Yw (Qm (rds := []) (G := fun x : (Option Addr × Nat) => sl x t23.length) (C := fun x : (Option Addr × Nat) => Js 3 1 (sl x t23.length) t23.length (t23.map Qc)) (fun w L' hF hS hi => k46 (Jn w) (f2.mono (hw.now hF)) h_t23) call46 rfl) rfl rfl rfl (fun p => ?_)
 refine mv (i6 t13) ?_
 refine J9 (vs := [i6 t13]) (cs := [i6 t13]) underlying30 sizeOf3 zeroValue3 rfl rfl rfl rfl rfl rfl rfl (fun b4 => ?_)
 obtain ⟨l26, h_l26, H34⟩ := Je H33; clear H33
 refine Qk (Xo (i := 5) (hn := rfl) (rds := [6]) (p := p) (sz := 1) (by_ := 8) (f := Qc) (ys := t23) (ls := ([t13] : List Int)) (V := .slice (some ⟨b4, 0, none⟩) 1 1) underlying30 (Qp typeInfo3) rfl rfl rfl rfl rfl rfl rfl rfl rfl rfl (fun w L' hF hS hi => Wr (i := 6) hS ((hi 6 (by simp)).trans rfl) rfl rfl) (fun _ => rfl) (fun _ => rfl) h_l26) rfl rfl rfl (fun p_2 => ?_)
 refine ag (sl p_2 l26.length)<|Jd<|Jc<|?_
 try dsimp only [z1, z2, z5, z6, z7, z8]
 refine Ja<|mv (.pointer (some ⟨pb0, 0, none⟩))<|lv (Jj rfl)<|lf runUnderlying134 rfl sizeOf118 rfl<|ll 0 (J6 a0.found_) isAgg118<|mv (sl p_2 l26.length)<|mv (i6 a1)<|?_
 obtain ⟨g33, h_g33, H35⟩ := Je H34; clear H34
 obtain ⟨t33, h_t33, H36⟩ := Je H35; clear H35
 refine l_callV (R := Jav g33) (r := .tuple #[]) (v := (J6 a0.found_)) (fun w hF hS => ⟨((hft118 a0.found_).fn (gFn_some h_g33) _), ⟨l26, _, a1, _, (Zm (i := 5) rfl hS rfl), rfl, h_t33, rfl⟩⟩) rfl rfl rfl rfl<|Jd<|Jc<|Ja<|mv (i6 t13)<|mv (i6 t17)<|lv (Q6 (pl := #[(0, 1), (1, 1), (2, 1), (3, 1), (4, 1)]) (ps := [(0, i6 t17)]) (cells := #[i6 t17, str [], .slice none 0 0, .slice none 0 0, .slice none 0 0]) zeroValue38 runUnderlying38 (fun w => by kernel_rfl) rfl rfl)<|lv (Q6 (pl := #[(0, 1), (1, 5)]) (ps := [(0, i6 t13), (1, .agg #[i6 t17, str [], .slice none 0 0, .slice none 0 0, .slice none 0 0])]) (cells := #[i6 t13, i6 t17, str [], .slice none 0 0, .slice none 0 0, .slice none 0 0]) zeroValue62 runUnderlying62 (fun w => by kernel_rfl) rfl (by kernel_rfl))<|?_
 refine Xf (cs := [i6 0, i6 0, str [], .slice none 0 0, .slice none 0 0, .slice none 0 0]) zeroValue62 rfl rfl rfl (fun b5 => ?_)
 refine st (i := 7) [i6 t13, i6 t17, str [], .slice none 0 0, .slice none 0 0, .slice none 0 0] [i6 t13, i6 t17, str [], .slice none 0 0, .slice none 0 0, .slice none 0 0] sizeOf62 rfl rfl<|Jd<|?_
 refine Q3 (r := r) (σ := Int × (List UInt8) × (List Int) × (List T_tag_Ratio) × (List T_tag_Entry) × (List UInt8) × Bool × Int × Nat × Int × (List T_tag_Span) × (List (Int × Bool))) (τ := (Option Addr × Nat) × (Option Addr × Nat) × (Option Addr × Nat) × (Option Addr × Nat) × Nat) (fun s => Y4 t13 s.1 s.2.1 s.2.2.1 s.2.2.2.1 s.2.2.2.2.1 s.2.2.2.2.2.1 s.2.2.2.2.2.2.1 s.2.2.2.2.2.2.2.1 s.2.2.2.2.2.2.2.2.1 s.2.2.2.2.2.2.2.2.2.1 s.2.2.2.2.2.2.2.2.2.2.1 s.2.2.2.2.2.2.2.2.2.2.2) (fun s t => [(6, .pointer (some ⟨b3, 0, none⟩)), (10, .pointer (some ⟨b5, 0, none⟩))]) (fun s t => [Jg pb0 [str s.2.2.2.2.2.1, .bool s.2.2.2.2.2.2.1, .slice t.2.2.2.1.1 s.2.2.2.2.2.2.2.2.2.2.1.length t.2.2.2.1.2, .map (some t.2.2.2.2), i6 s.2.2.2.2.2.2.2.1, (J6 s.2.2.2.2.2.2.2.2.1), i6 s.2.2.2.2.2.2.2.2.2.1] 134, Js 140 2 (.slice t.2.2.2.1.1 s.2.2.2.2.2.2.2.2.2.2.1.length t.2.2.2.1.2) s.2.2.2.2.2.2.2.2.2.2.1.length (s.2.2.2.2.2.2.2.2.2.2.1.map Jm), Ys (fun x_ : Int => i6 x_) (fun x_ : Bool => .bool x_) t.2.2.2.2 s.2.2.2.2.2.2.2.2.2.2.2, Xm X1 X1, Jg b3 [i6 0, i6 0, str [], .slice none 0 0, .slice none 0 0, .slice none 0 0] 62, Jg b5 [i6 t13, i6 s.1, str s.2.1, .slice t.1.1 s.2.2.1.length t.1.2, .slice t.2.1.1 s.2.2.2.1.length t.2.1.2, .slice t.2.2.1.1 s.2.2.2.2.1.length t.2.2.1.2] 62, Js 3 1 (.slice t.1.1 s.2.2.1.length t.1.2) s.2.2.1.length (s.2.2.1.map Qc), Js 52 2 (.slice t.2.1.1 s.2.2.2.1.length t.2.1.2) s.2.2.2.1.length (s.2.2.2.1.map Jl), rowD 62 6 g_tag_Entry (.slice t.2.2.1.1 s.2.2.2.2.1.length t.2.2.1.2) s.2.2.2.2.1.length s.2.2.2.2.1]) (fun s t => True) ?_ ?_
 ·refine Jx<|Jc<|Ja<|mv (i6 t17)<|?_
  obtain ⟨t47, h_t47, H38⟩ := Je H36; clear H36
  refine Xy (k71 h_t47) call71 rfl rfl rfl<|lv (Xg rfl rfl)<|ag (.bool (decide (t47 = 0)))<|Jd<|?_
  revert H38
  refine ci (decide (t47 = 0)) rfl (fun hb H39=>?_) fun hb H41=>?_
  ·refine Ja<|mv (.pointer (some ⟨pb0, 0, none⟩))<|?_
   obtain ⟨t50, h_t50, H40⟩ := Je H39; clear H39
   refine bo 1 2 rfl rfl<|bo 0 1 rfl rfl<|?_
   refine Qk (Qe (i := 0) (rds := []) (G := fun x : (Option Addr × Nat) × Nat => .tuple #[]) (C := fun x : (Option Addr × Nat) × Nat => Jt (Jg pb0 [str t50.s_, .bool t50.big_, .slice x.1.1 t50.parts_.length x.1.2, .map (some x.2), i6 t50.dirs_, (J6 t50.found_), i6 t50.no_] 134) (Jt (Js 140 2 (.slice x.1.1 t50.parts_.length x.1.2) t50.parts_.length (t50.parts_.map Jm)) (Ys (fun x_ : Int => i6 x_) (fun x_ : Bool => .bool x_) x.2 t50.seen_))) rfl (fun w L' S hF hS hi hp hlt ho hA => k98 hp hlt (Xi w S) hn0_2 h_t50) call98 rfl) rfl rfl rfl (fun ⟨p_7, p_8⟩ => ?_)
   refine ub 0 1 rfl rfl<|ub 1 2 rfl rfl<|Jd<|J5 3 1<|J5 52 2<|J5 62 6<|Zp X1<|?_
   try dsimp only [z1, z2, z5, z6, z7, z8]
   refine bo 11 10 rfl rfl ?_
   try dsimp only [z1, z2, z5, z6, z7, z8]
   refine Qn 11 rfl (imp_rowDx (css := []) (xs := ([] : List T_tag_Entry)) (p := nn) rfl (AllC.nil (G := g_tag_Entry) (h := X1) (sz := 6))) ?_
   exact cl (t17, [], ([] : List Int), ([] : List T_tag_Ratio), ([] : List T_tag_Entry), t50.s_, t50.big_, t50.dirs_, t50.found_, t50.no_, t50.parts_, t50.seen_) (nn, nn, nn, p_7, p_8) 0 [0, 1, 2, 3, 4, 7, 8, 9, 11] (by exact ⟨H40, trivial⟩)
  ·refine Q3 (r := r) (σ := Bool) (τ := Unit) (fun s => Y5 a0 a1 self t13 t17 t21 l26 s) (fun s t => [(0, .pointer (some ⟨pb0, 0, none⟩)), (1, i6 a1), (2, sl p_2 l26.length), (6, .pointer (some ⟨b3, 0, none⟩)), (8, i6 t17), (9, i6 t21), (10, .pointer (some ⟨b5, 0, none⟩)), (51, .bool s)]) (fun s t => [Jg pb0 [str a0.s_, .bool a0.big_, sl p0_2 n0_2, .map (some m0_3), i6 a0.dirs_, (J6 a0.found_), i6 a0.no_] 134, Js 140 2 (sl p0_2 n0_2) n0_2 (a0.parts_.map Jm), Ys (fun x_ : Int => i6 x_) (fun x_ : Bool => .bool x_) m0_3 a0.seen_, Xm X1 X1, Jg b3 [i6 0, i6 0, str [], .slice none 0 0, .slice none 0 0, .slice none 0 0] 62, Js 3 1 (sl p_2 l26.length) l26.length (l26.map Qc), Jg b5 [i6 t13, i6 t17, str [], .slice none 0 0, .slice none 0 0, .slice none 0 0] 62]) (fun s t => True) ?_ ?_
   ·try dsimp only [z1, z2, z5, z6, z7, z8]
    refine Ja<|mv (i6 t17)<|lv (Xg rfl rfl)<|mv (.bool (decide (t17 = 13)))<|?_
    revert H41
    refine sp (fun hb H53=>?_) fun hb H54=>?_
    ·refine mv (i6 t21)<|lv (Yo rfl rfl)<|pT (.bool (decide (t21 ≠ 1)))<|ag (.bool (decide (t21 ≠ 1)))<|Jd<|?_
     exact cl (decide (t21 ≠ 1)) () 0 [0, 1, 2, 3, 4, 5, 7] (by exact ⟨H53, trivial⟩)
    ·refine pa<|pa<|pF (.bool false)<|ag (.bool false)<|Jd<|?_
     exact cl false () 0 [0, 1, 2, 3, 4, 5, 7] (by exact ⟨H54, trivial⟩)
   ·rintro x51 _ gg H42 _
    try dsimp only at H42
    try dsimp only
    revert H42
    refine ci x51 rfl (fun hb H43=>?_) fun hb H45=>?_
    ·try dsimp only [z1, z2, z5, z6, z7, z8]
     refine Ja<|mv (.pointer (some ⟨pb0, 0, none⟩))<|?_
     obtain ⟨t59, h_t59, H44⟩ := Je H43; clear H43
     refine bo 1 2 rfl rfl<|bo 0 1 rfl rfl<|?_
     refine Qk (Qe (i := 0) (rds := []) (G := fun x : (Option Addr × Nat) × Nat => .tuple #[]) (C := fun x : (Option Addr × Nat) × Nat => Jt (Jg pb0 [str t59.s_, .bool t59.big_, .slice x.1.1 t59.parts_.length x.1.2, .map (some x.2), i6 t59.dirs_, (J6 t59.found_), i6 t59.no_] 134) (Jt (Js 140 2 (.slice x.1.1 t59.parts_.length x.1.2) t59.parts_.length (t59.parts_.map Jm)) (Ys (fun x_ : Int => i6 x_) (fun x_ : Bool => .bool x_) x.2 t59.seen_))) rfl (fun w L' S hF hS hi hp hlt ho hA => k98 hp hlt (Xi w S) hn0_2 h_t59) call98 rfl) rfl rfl rfl (fun ⟨p_9, p_10⟩ => ?_)
     refine ub 0 1 rfl rfl<|ub 1 2 rfl rfl<|Jd<|J5 3 1<|J5 52 2<|J5 62 6<|Zp X1<|?_
     try dsimp only [z1, z2, z5, z6, z7, z8]
     refine bo 10 9 rfl rfl ?_
     try dsimp only [z1, z2, z5, z6, z7, z8]
     refine Qn 10 rfl (imp_rowDx (css := []) (xs := ([] : List T_tag_Entry)) (p := nn) rfl (AllC.nil (G := g_tag_Entry) (h := X1) (sz := 6))) ?_
     exact cl (t17, [], ([] : List Int), ([] : List T_tag_Ratio), ([] : List T_tag_Entry), t59.s_, t59.big_, t59.dirs_, t59.found_, t59.no_, t59.parts_, t59.seen_) (nn, nn, nn, p_9, p_10) 0 [0, 1, 2, 3, 4, 6, 7, 8, 10] (by exact ⟨H44, trivial⟩)
    ·refine Jc ?_
     try dsimp only [z1, z2, z5, z6, z7, z8]
     refine Ja<|mv (i6 t17)<|lv (Xg rfl rfl)<|ag (.bool (decide (t17 = 13)))<|Jd<|?_
     revert H45
     refine ci (decide (t17 = 13)) rfl (fun hb H46=>?_) fun hb H50=>?_
     ·refine Ja<|mv (.pointer (some ⟨pb0, 0, none⟩))<|mv (.pointer (some ⟨pb0, 0, none⟩))<|mv (i6 a1)<|?_
      obtain ⟨t67, h_t67, H47⟩ := Je H46; clear H46
      refine lv (J1 rfl rfl h_t67) ?_
      obtain ⟨t68, h_t68, H48⟩ := Je H47; clear H47
      refine Qo (fun w hF hS => k80 (a0 := a0) (Jn w) (Zm (i := 1) hn0_2 hS rfl) (Wn (fk := (fun x_ : Int => i6 x_)) (fv := (fun x_ : Bool => .bool x_)) (i := 2) hS rfl) (Q8 (i := 0) hS rfl) h_t68) call80 rfl rfl rfl<|mv (sl p_2 l26.length)<|?_
      obtain ⟨t70, h_t70, H49⟩ := Je H48; clear H48
      refine bo 1 2 rfl rfl<|bo 0 1 rfl rfl<|?_
      refine Qk (Qe (i := 0) (rds := [5]) (G := fun x : (Option Addr × Nat) × (Option Addr × Nat) × Nat => .tuple #[.slice x.1.1 t70.1.length x.1.2, i6 t70.2.1]) (C := fun x : (Option Addr × Nat) × (Option Addr × Nat) × Nat => Jt (Jg pb0 [str t70.2.2.s_, .bool t70.2.2.big_, .slice x.2.1.1 t70.2.2.parts_.length x.2.1.2, .map (some x.2.2), i6 t70.2.2.dirs_, (J6 t70.2.2.found_), i6 t70.2.2.no_] 134) (Jt (Js 140 2 (.slice x.2.1.1 t70.2.2.parts_.length x.2.1.2) t70.2.2.parts_.length (t70.2.2.parts_.map Jm)) (Jt (Ys (fun x_ : Int => i6 x_) (fun x_ : Bool => .bool x_) x.2.2 t70.2.2.seen_) (rowD 62 6 g_tag_Entry (.slice x.1.1 t70.1.length x.1.2) t70.1.length t70.1)))) rfl (fun w L' S hF hS hi hp hlt ho hA => ih hp hlt (Xi w S) hn0_2 (frb_own (j := 5) rfl hA hS (by decide) ((hi 5 (by simp)).trans rfl)) h_t70) call81 rfl) rfl rfl rfl (fun ⟨p_11, p_12, p_13⟩ => ?_)
      refine ub 0 1 rfl rfl<|ub 1 2 rfl rfl<|Xv 2 rfl<|mv (.tuple #[sl p_11 t70.1.length, i6 t70.2.1])<|lv (Jv (v := sl p_11 t70.1.length) rfl rfl)<|lv (Jv (v := i6 t70.2.1) rfl rfl)<|lf runUnderlying62 rfl sizeOf38 rfl<|lf runUnderlying38 rfl sizeOf36 rfl<|st (i := 6) [sl p_11 t70.1.length] [i6 t13, i6 t17, str [], .slice none 0 0, .slice none 0 0, sl p_11 t70.1.length] sizeOf36 rfl rfl<|Jd<|J5 3 1<|J5 52 2<|?_
      exact cl (t17, [], ([] : List Int), ([] : List T_tag_Ratio), t70.1, t70.2.2.s_, t70.2.2.big_, t70.2.2.dirs_, t70.2.2.found_, t70.2.2.no_, t70.2.2.parts_, t70.2.2.seen_) (nn, nn, p_11, p_12, p_13) 0 [0, 1, 2, 3, 4, 6, 8, 9, 7] (by exact ⟨H49, trivial⟩)
     ·try dsimp only [z1, z2, z5, z6, z7, z8]
      refine Ja<|mv (.pointer (some ⟨pb0, 0, none⟩))<|mv (i6 t17)<|mv (i6 t21)<|mv (i6 a1)<|?_
      obtain ⟨t42, h_t42, H51⟩ := Je H50; clear H50
      refine lv (J1 rfl rfl h_t42) ?_
      obtain ⟨t43, h_t43, H52⟩ := Je H51; clear H51
      refine bo 1 2 rfl rfl<|bo 0 1 rfl rfl<|?_
      refine Qk (Qe (i := 0) (rds := []) (G := fun x : (Option Addr × Nat) × (Option Addr × Nat) × (Option Addr × Nat) × (Option Addr × Nat) × Nat => .agg #[i6 t43.1.Kind, str t43.1.Text, .slice x.1.1 t43.1.Ints.length x.1.2, .slice x.2.1.1 t43.1.Ratios.length x.2.1.2, .slice x.2.2.1.1 t43.1.Entries.length x.2.2.1.2]) (C := fun x : (Option Addr × Nat) × (Option Addr × Nat) × (Option Addr × Nat) × (Option Addr × Nat) × Nat => Jt (Jg pb0 [str t43.2.s_, .bool t43.2.big_, .slice x.2.2.2.1.1 t43.2.parts_.length x.2.2.2.1.2, .map (some x.2.2.2.2), i6 t43.2.dirs_, (J6 t43.2.found_), i6 t43.2.no_] 134) (Jt (Js 140 2 (.slice x.2.2.2.1.1 t43.2.parts_.length x.2.2.2.1.2) t43.2.parts_.length (t43.2.parts_.map Jm)) (Jt (Ys (fun x_ : Int => i6 x_) (fun x_ : Bool => .bool x_) x.2.2.2.2 t43.2.seen_) (Jt (Js 3 1 (.slice x.1.1 t43.1.Ints.length x.1.2) t43.1.Ints.length (t43.1.Ints.map Qc)) (Jt (Js 52 2 (.slice x.2.1.1 t43.1.Ratios.length x.2.1.2) t43.1.Ratios.length (t43.1.Ratios.map Jl)) (rowD 62 6 g_tag_Entry (.slice x.2.2.1.1 t43.1.Entries.length x.2.2.1.2) t43.1.Entries.length t43.1.Entries)))))) rfl (fun w L' S hF hS hi hp hlt ho hA => k109 hp hlt (Xi w S) hn0_2 h_t43) call109 rfl) rfl rfl rfl (fun ⟨p_14, p_15, p_16, p_17, p_18⟩ => ?_)
      refine ub 0 1 rfl rfl<|ub 1 2 rfl rfl<|Xv 2 rfl<|Xv 7 rfl<|Xv 8 rfl<|lf runUnderlying62 rfl sizeOf38 rfl<|st (i := 6) [i6 t43.1.Kind, str t43.1.Text, sl p_14 t43.1.Ints.length, sl p_15 t43.1.Ratios.length, sl p_16 t43.1.Entries.length] [i6 t13, i6 t43.1.Kind, str t43.1.Text, sl p_14 t43.1.Ints.length, sl p_15 t43.1.Ratios.length, sl p_16 t43.1.Entries.length] sizeOf38 rfl rfl<|Jd<|?_
      exact cl (t43.1.Kind, t43.1.Text, t43.1.Ints, t43.1.Ratios, t43.1.Entries, t43.2.s_, t43.2.big_, t43.2.dirs_, t43.2.found_, t43.2.no_, t43.2.parts_, t43.2.seen_) (p_14, p_15, p_16, p_17, p_18) 0 [0, 1, 2, 3, 4, 6, 7, 8, 9] (by exact ⟨H52, trivial⟩)
 ·rintro ⟨m, m_2, l, l_2, l_3, m_3, m_4, m_5, m_6, m_7, l_4, mp⟩ ⟨p_3, p_4, p_5, p_6, b⟩ gg H37 _
  try dsimp only at H37
  try dsimp only
  refine Jc<|Ja<|Qx (i := 5) (vs := [i6 t13, i6 m, str m_2, sl p_3 l.length, sl p_4 l_2.length, sl p_5 l_3.length]) isAgg62 sizeOf62 rfl rfl rfl rfl rfl<|st (i := 4) [i6 t13, i6 m, str m_2, sl p_3 l.length, sl p_4 l_2.length, sl p_5 l_3.length] [i6 t13, i6 m, str m_2, sl p_3 l.length, sl p_4 l_2.length, sl p_5 l_3.length] sizeOf62 rfl rfl<|Jd<|Jh<|c_dr 5<|?_
  try dsimp only [z1, z2, z3, z4, z5, z6, z7, z8]
  obtain rfl := sj H37
  refine bo 6 7 rfl rfl<|bo 5 6 rfl rfl<|bo 2 5 rfl rfl<|bo 1 2 rfl rfl<|bo 0 1 rfl rfl<|?_
  refine retC (i := 4) (vs := [i6 t13, i6 m, str m_2, sl p_3 l.length, sl p_4 l_2.length, sl p_5 l_3.length]) isAgg62 sizeOf62 rfl rfl rfl rfl (Yy (p_3, p_4, p_5, p_6, b) (i := 0) rfl rfl (Imp.refl _))
theorem k81_it (mm : Nat) : ∀ {a0 : T_tag_reader} {pb0 : Nat} {p0_2 : Option Addr × Nat} {n0_2 : Nat} {m0_3 : Nat} {a1 : Int} {a2 : (List Int)} {v2 : Value} {r : (List T_tag_Entry) × Int × T_tag_reader} {w : World} {h : Jo} {S : Nat → Prop} (hcs : (Jt (Jg pb0 [str a0.s_, .bool a0.big_, sl p0_2 n0_2, .map (some m0_3), i6 a0.dirs_, (J6 a0.found_), i6 a0.no_] 134) (Jt (Js 140 2 (sl p0_2 n0_2) n0_2 (a0.parts_.map Jm)) (Ys (fun x_ : Int => i6 x_) (fun x_ : Bool => .bool x_) m0_3 a0.seen_))).P S w) (hlt : ∀ b, S b → b < w.heap.size) (hw : Know h w S) (hn0_2 : n0_2 = a0.parts_.length) (f2 : FrS h 1 v2 (a2.map Qc)) (H : it (fun (self : (T_tag_reader × Int × (List Int)) → Option ((List T_tag_Entry) × Int × T_tag_reader)) (s : T_tag_reader × Int × (List Int)) => Qa self s.1 s.2.1 s.2.2) mm (a0, a1, a2) = some r), Does prog 81 (List.toArray [.pointer (some ⟨pb0, 0, none⟩), i6 a1, v2]) w (fun v w' => ∃ x : (Option Addr × Nat) × (Option Addr × Nat) × Nat, v = (.tuple #[.slice x.1.1 r.1.length x.1.2, i6 r.2.1]) ∧ Turn w w' S (Jt (Jg pb0 [str r.2.2.s_, .bool r.2.2.big_, .slice x.2.1.1 r.2.2.parts_.length x.2.1.2, .map (some x.2.2), i6 r.2.2.dirs_, (J6 r.2.2.found_), i6 r.2.2.no_] 134) (Jt (Js 140 2 (.slice x.2.1.1 r.2.2.parts_.length x.2.1.2) r.2.2.parts_.length (r.2.2.parts_.map Jm)) (Jt (Ys (fun x_ : Int => i6 x_) (fun x_ : Bool => .bool x_) x.2.2 r.2.2.seen_) (rowD 62 6 g_tag_Entry (.slice x.1.1 r.1.length x.1.2) r.1.length r.1))))) := by
 induction mm with
 | zero => intros; rename_i H; exact absurd H (by simp [it])
 | succ mm ih =>
  intro a0 pb0 p0_2 n0_2 m0_3 a1 a2 v2 r w h S hcs hlt hw hn0_2 f2 H
  replace H : Qa (it (fun (self : (T_tag_reader × Int × (List Int)) → Option ((List T_tag_Entry) × Int × T_tag_reader)) (s : T_tag_reader × Int × (List Int)) => Qa self s.1 s.2.1 s.2.2) mm) a0 a1 a2 = some r := H
  generalize it (fun (self : (T_tag_reader × Int × (List Int)) → Option ((List T_tag_Entry) × Int × T_tag_reader)) (s : T_tag_reader × Int × (List Int)) => Qa self s.1 s.2.1 s.2.2) mm = self at H ih
  refine enter (n := 145) func81 rfl rfl rfl S [Jt (Jg pb0 [str a0.s_, .bool a0.big_, sl p0_2 n0_2, .map (some m0_3), i6 a0.dirs_, (J6 a0.found_), i6 a0.no_] 134) (Jt (Js 140 2 (sl p0_2 n0_2) n0_2 (a0.parts_.map Jm)) (Ys (fun x_ : Int => i6 x_) (fun x_ : Bool => .bool x_) m0_3 a0.seen_))] (Sat.one hcs hlt)<|Xv 0 rfl<|Xv 1 rfl<|Zp X1<|Jc<|Ja<|ag (.slice none 0 0)<|ag (i6 0)<|Jd<|Jc<|Ja<|mv v2<|lv (Wu underlying30 rfl f2 rfl)<|ag (i6 (a2.length : Int))<|Jd<|Jc<|Jc<|Ja<|mv (.pointer (some ⟨pb0, 0, none⟩))<|mv (i6 a1)<|?_
  obtain ⟨t15, h_t15, H67⟩ := Je H; clear H
  refine Qo (fun w hF hS => k97 (a0 := a0) (Jn w) (Zm (i := 1) hn0_2 hS rfl) (Wn (fk := (fun x_ : Int => i6 x_)) (fv := (fun x_ : Bool => .bool x_)) (i := 2) hS rfl) (Q8 (i := 0) hS rfl) h_t15) call97 rfl rfl rfl<|lv (Uu rfl)<|Jd<|?_
  revert H67
  refine ci (!t15) rfl (fun hb H68=>?_) fun hb H70=>?_
  ·refine Jc<|Ja<|mv (.pointer (some ⟨pb0, 0, none⟩))<|?_
   obtain ⟨t18, h_t18, H69⟩ := Je H68; clear H68
   refine bo 1 2 rfl rfl<|bo 0 1 rfl rfl<|?_
   refine Qk (Qe (i := 0) (rds := []) (G := fun x : (Option Addr × Nat) × Nat => .tuple #[]) (C := fun x : (Option Addr × Nat) × Nat => Jt (Jg pb0 [str t18.s_, .bool t18.big_, .slice x.1.1 t18.parts_.length x.1.2, .map (some x.2), i6 t18.dirs_, (J6 t18.found_), i6 t18.no_] 134) (Jt (Js 140 2 (.slice x.1.1 t18.parts_.length x.1.2) t18.parts_.length (t18.parts_.map Jm)) (Ys (fun x_ : Int => i6 x_) (fun x_ : Bool => .bool x_) x.2 t18.seen_))) rfl (fun w L' S hF hS hi hp hlt ho hA => k98 hp hlt (Xi w S) hn0_2 h_t18) call98 rfl) rfl rfl rfl (fun ⟨p, p_2⟩ => ?_)
   refine ub 0 1 rfl rfl<|ub 1 2 rfl rfl<|Jd<|Jc<|?_
   try dsimp only [z1, z2, z5, z6, z7, z8]
   refine Ja<|ag (.slice none 0 0)<|ag (i6 0)<|Jd<|Jh<|J5 62 6<|?_
   obtain rfl := sj H69
   refine bo 3 4 rfl rfl<|Qn 3 rfl (Wj (p := nn) rfl (AllC.nil (G := g_tag_Entry) (h := X1) (sz := 6)))<|bo 2 3 rfl rfl<|bo 1 2 rfl rfl<|bo 0 1 rfl rfl<|?_
   refine Z2 (v1 := sl nn (([] : List (List Value)).length)) (v2 := i6 0) rfl rfl rfl (Yy (nn, p, p_2) (i := 0) rfl (by first | rfl | rw [(show (([] : List (List Value)).length) = ([] : List T_tag_Entry).length from (AllC.nil (G := g_tag_Entry) (h := X1) (sz := 6)).len)]) (by first | exact Imp.refl _ | exact Imp.of (by rw [(show (([] : List (List Value)).length) = ([] : List T_tag_Entry).length from (AllC.nil (G := g_tag_Entry) (h := X1) (sz := 6)).len)] <;> rfl)))
  ·refine Ji<|Jc<|?_
   try dsimp only [z1, z2, z5, z6, z7, z8]
   refine Ja<|mv (.pointer (some ⟨pb0, 0, none⟩))<|mv (i6 a1)<|?_
   obtain ⟨t21, h_t21, H71⟩ := Je H70; clear H70
   refine Qo (fun w hF hS => k80 (a0 := a0) (Jn w) (Zm (i := 1) hn0_2 hS rfl) (Wn (fk := (fun x_ : Int => i6 x_)) (fv := (fun x_ : Bool => .bool x_)) (i := 2) hS rfl) (Q8 (i := 0) hS rfl) h_t21) call80 rfl rfl rfl<|ag (i6 t21)<|Jd<|?_
   refine Q3 (r := r) (σ := (List UInt8) × Bool × Int × Nat × Int × (List T_tag_Span) × (List (Int × Bool))) (τ := (Option Addr × Nat) × Nat × Nat) (fun s => Q2 a1 a2 self t21 s.1 s.2.1 s.2.2.1 s.2.2.2.1 s.2.2.2.2.1 s.2.2.2.2.2.1 s.2.2.2.2.2.2) (fun s t => [(0, .pointer (some ⟨pb0, 0, none⟩)), (1, i6 a1), (2, v2), (6, .slice none 0 0), (8, i6 (a2.length : Int)), (9, i6 t21)]) (fun s t => [Jg pb0 [str s.1, .bool s.2.1, .slice t.1.1 t.2.1 t.1.2, .map (some t.2.2), i6 s.2.2.1, (J6 s.2.2.2.1), i6 s.2.2.2.2.1] 134, Js 140 2 (.slice t.1.1 t.2.1 t.1.2) t.2.1 (s.2.2.2.2.2.1.map Jm), Ys (fun x_ : Int => i6 x_) (fun x_ : Bool => .bool x_) t.2.2 s.2.2.2.2.2.2, Xm X1 X1]) (fun s t => t.2.1 = s.2.2.2.2.2.1.length) ?_ ?_
   ·refine Jx<|Jc<|Ja<|mv (.pointer (some ⟨pb0, 0, none⟩))<|lv (Jj rfl)<|lf runUnderlying134 rfl sizeOf132 rfl<|ll 0 (.map (some m0_3)) isAgg132<|mv (i6 a1)<|Qs (fun w hF hS => run_lookup (i := 2) (fk := (fun x_ : Int => i6 x_)) (fv := (fun x_ : Bool => .bool x_)) (k := a1) (z := false) keyF_int underlying132 underlying3 zeroValue4 rfl rfl hS rfl) rfl rfl rfl<|ag (.bool ((mGet a0.seen_ a1).getD false))<|Jd<|?_
    revert H71
    refine ci ((mGet a0.seen_ a1).getD false) rfl (fun hb H114=>?_) fun hb H116=>?_
    ·refine Ja<|mv (.pointer (some ⟨pb0, 0, none⟩))<|?_
     obtain ⟨t30, h_t30, H115⟩ := Je H114; clear H114
     refine bo 1 2 rfl rfl<|bo 0 1 rfl rfl<|?_
     refine Qk (Qe (i := 0) (rds := []) (G := fun x : (Option Addr × Nat) × Nat => .tuple #[]) (C := fun x : (Option Addr × Nat) × Nat => Jt (Jg pb0 [str t30.s_, .bool t30.big_, .slice x.1.1 t30.parts_.length x.1.2, .map (some x.2), i6 t30.dirs_, (J6 t30.found_), i6 t30.no_] 134) (Jt (Js 140 2 (.slice x.1.1 t30.parts_.length x.1.2) t30.parts_.length (t30.parts_.map Jm)) (Ys (fun x_ : Int => i6 x_) (fun x_ : Bool => .bool x_) x.2 t30.seen_))) rfl (fun w L' S hF hS hi hp hlt ho hA => k98 hp hlt (Xi w S) hn0_2 h_t30) call98 rfl) rfl rfl rfl (fun ⟨p_20, p_21⟩ => ?_)
     refine ub 0 1 rfl rfl<|ub 1 2 rfl rfl<|Jd<|?_
     exact cl (t30.s_, t30.big_, t30.dirs_, t30.found_, t30.no_, t30.parts_, t30.seen_) (p_20, t30.parts_.length, p_21) 0 [0, 1, 2, 3] (by exact ⟨H115, rfl⟩)
    ·refine Jc ?_
     try dsimp only [z1, z2, z5, z6, z7, z8]
     refine Ja<|mv (.pointer (some ⟨pb0, 0, none⟩))<|lv (Jj rfl)<|lf runUnderlying134 rfl sizeOf3 rfl<|ll 0 (i6 a0.dirs_) isAgg3<|lv (Vz rfl rfl)<|mv (.bool (decide (20 < a0.dirs_)))<|?_
     revert H116
     refine sp (fun hb H117=>?_) fun hb H119=>?_
     ·refine pa<|pa<|pT (.bool true)<|mv (.bool true)<|pa<|pa<|pT (.bool true)<|ag (.bool true)<|Jd<|Ws rfl<|Ja<|mv (.pointer (some ⟨pb0, 0, none⟩))<|?_
      obtain ⟨t46, h_t46, H118⟩ := Je H117; clear H117
      refine bo 1 2 rfl rfl<|bo 0 1 rfl rfl<|?_
      refine Qk (Qe (i := 0) (rds := []) (G := fun x : (Option Addr × Nat) × Nat => .tuple #[]) (C := fun x : (Option Addr × Nat) × Nat => Jt (Jg pb0 [str t46.s_, .bool t46.big_, .slice x.1.1 t46.parts_.length x.1.2, .map (some x.2), i6 t46.dirs_, (J6 t46.found_), i6 t46.no_] 134) (Jt (Js 140 2 (.slice x.1.1 t46.parts_.length x.1.2) t46.parts_.length (t46.parts_.map Jm)) (Ys (fun x_ : Int => i6 x_) (fun x_ : Bool => .bool x_) x.2 t46.seen_))) rfl (fun w L' S hF hS hi hp hlt ho hA => k98 hp hlt (Xi w S) hn0_2 h_t46) call98 rfl) rfl rfl rfl (fun ⟨p_22, p_23⟩ => ?_)
      refine ub 0 1 rfl rfl<|ub 1 2 rfl rfl<|Jd<|?_
      exact cl (t46.s_, t46.big_, t46.dirs_, t46.found_, t46.no_, t46.parts_, t46.seen_) (p_22, t46.parts_.length, p_23) 0 [0, 1, 2, 3] (by exact ⟨H118, rfl⟩)
     ·refine mv (i6 (a2.length : Int))<|lv (Vz rfl rfl)<|pF (.bool (decide (5 < (a2.length : Int))))<|mv (.bool (decide (5 < (a2.length : Int))))<|?_
      revert H119
      refine sp (fun hb H120=>?_) fun hb H122=>?_
      ·refine pa<|pa<|pT (.bool true)<|ag (.bool true)<|Jd<|Ws rfl<|Ja<|mv (.pointer (some ⟨pb0, 0, none⟩))<|?_
       obtain ⟨t46_2, h_t46_2, H121⟩ := Je H120; clear H120
       refine bo 1 2 rfl rfl<|bo 0 1 rfl rfl<|?_
       refine Qk (Qe (i := 0) (rds := []) (G := fun x : (Option Addr × Nat) × Nat => .tuple #[]) (C := fun x : (Option Addr × Nat) × Nat => Jt (Jg pb0 [str t46_2.s_, .bool t46_2.big_, .slice x.1.1 t46_2.parts_.length x.1.2, .map (some x.2), i6 t46_2.dirs_, (J6 t46_2.found_), i6 t46_2.no_] 134) (Jt (Js 140 2 (.slice x.1.1 t46_2.parts_.length x.1.2) t46_2.parts_.length (t46_2.parts_.map Jm)) (Ys (fun x_ : Int => i6 x_) (fun x_ : Bool => .bool x_) x.2 t46_2.seen_))) rfl (fun w L' S hF hS hi hp hlt ho hA => k98 hp hlt (Xi w S) hn0_2 h_t46_2) call98 rfl) rfl rfl rfl (fun ⟨p_24, p_25⟩ => ?_)
       refine ub 0 1 rfl rfl<|ub 1 2 rfl rfl<|Jd<|?_
       exact cl (t46_2.s_, t46_2.big_, t46_2.dirs_, t46_2.found_, t46_2.no_, t46_2.parts_, t46_2.seen_) (p_24, t46_2.parts_.length, p_25) 0 [0, 1, 2, 3] (by exact ⟨H121, rfl⟩)
      ·refine mv (i6 t21)<|lv (Vz rfl rfl)<|pF (.bool (decide (200 < t21)))<|ag (.bool (decide (200 < t21)))<|Jd<|?_
       revert H122
       refine ci (decide (200 < t21)) rfl (fun hb H123=>?_) fun hb H125=>?_
       ·try dsimp only [z1, z2, z5, z6, z7, z8]
        refine Ja<|mv (.pointer (some ⟨pb0, 0, none⟩))<|?_
        obtain ⟨t46_3, h_t46_3, H124⟩ := Je H123; clear H123
        refine bo 1 2 rfl rfl<|bo 0 1 rfl rfl<|?_
        refine Qk (Qe (i := 0) (rds := []) (G := fun x : (Option Addr × Nat) × Nat => .tuple #[]) (C := fun x : (Option Addr × Nat) × Nat => Jt (Jg pb0 [str t46_3.s_, .bool t46_3.big_, .slice x.1.1 t46_3.parts_.length x.1.2, .map (some x.2), i6 t46_3.dirs_, (J6 t46_3.found_), i6 t46_3.no_] 134) (Jt (Js 140 2 (.slice x.1.1 t46_3.parts_.length x.1.2) t46_3.parts_.length (t46_3.parts_.map Jm)) (Ys (fun x_ : Int => i6 x_) (fun x_ : Bool => .bool x_) x.2 t46_3.seen_))) rfl (fun w L' S hF hS hi hp hlt ho hA => k98 hp hlt (Xi w S) hn0_2 h_t46_3) call98 rfl) rfl rfl rfl (fun ⟨p_26, p_27⟩ => ?_)
        refine ub 0 1 rfl rfl<|ub 1 2 rfl rfl<|Jd<|?_
        exact cl (t46_3.s_, t46_3.big_, t46_3.dirs_, t46_3.found_, t46_3.no_, t46_3.parts_, t46_3.seen_) (p_26, t46_3.parts_.length, p_27) 0 [0, 1, 2, 3] (by exact ⟨H124, rfl⟩)
       ·refine Jc<|Ja<|mv (.pointer (some ⟨pb0, 0, none⟩))<|mv (i6 a1)<|mv (i6 t21)<|?_
        obtain ⟨t51, h_t51, H126⟩ := Je H125; clear H125
        refine lv (V5 rfl rfl h_t51) ?_
        obtain ⟨t52, h_t52, H127⟩ := Je H126; clear H126
        refine lv (J1 rfl rfl h_t52) ?_
        obtain ⟨t53, h_t53, H128⟩ := Je H127; clear H127
        refine lv (J1 rfl rfl h_t53) ?_
        obtain ⟨t54, h_t54, H129⟩ := Je H128; clear H128
        refine Qo (fun w hF hS => k97 (a0 := a0) (Jn w) (Zm (i := 1) hn0_2 hS rfl) (Wn (fk := (fun x_ : Int => i6 x_)) (fv := (fun x_ : Bool => .bool x_)) (i := 2) hS rfl) (Q8 (i := 0) hS rfl) h_t54) call97 rfl rfl rfl<|lv (Uu rfl)<|ag (.bool (!t54))<|Jd<|?_
        revert H129
        refine ci (!t54) rfl (fun hb H130=>?_) fun hb H132=>?_
        ·refine Ja<|mv (.pointer (some ⟨pb0, 0, none⟩))<|?_
         obtain ⟨t57, h_t57, H131⟩ := Je H130; clear H130
         refine bo 1 2 rfl rfl<|bo 0 1 rfl rfl<|?_
         refine Qk (Qe (i := 0) (rds := []) (G := fun x : (Option Addr × Nat) × Nat => .tuple #[]) (C := fun x : (Option Addr × Nat) × Nat => Jt (Jg pb0 [str t57.s_, .bool t57.big_, .slice x.1.1 t57.parts_.length x.1.2, .map (some x.2), i6 t57.dirs_, (J6 t57.found_), i6 t57.no_] 134) (Jt (Js 140 2 (.slice x.1.1 t57.parts_.length x.1.2) t57.parts_.length (t57.parts_.map Jm)) (Ys (fun x_ : Int => i6 x_) (fun x_ : Bool => .bool x_) x.2 t57.seen_))) rfl (fun w L' S hF hS hi hp hlt ho hA => k98 hp hlt (Xi w S) hn0_2 h_t57) call98 rfl) rfl rfl rfl (fun ⟨p_28, p_29⟩ => ?_)
         refine ub 0 1 rfl rfl<|ub 1 2 rfl rfl<|Jd<|?_
         exact cl (t57.s_, t57.big_, t57.dirs_, t57.found_, t57.no_, t57.parts_, t57.seen_) (p_28, t57.parts_.length, p_29) 0 [0, 1, 2, 3] (by exact ⟨H131, rfl⟩)
        ·refine Ji ?_
         exact cl (a0.s_, a0.big_, a0.dirs_, a0.found_, a0.no_, a0.parts_, a0.seen_) (p0_2, n0_2, m0_3) 0 [0, 1, 2, 3] (by exact ⟨H132, hn0_2⟩)
   ·rintro ⟨m, m_2, m_3, m_4, m_5, l, mp⟩ ⟨p_3, n, b⟩ gg H72 hl
    try dsimp only at H72
    try dsimp only
    refine Jc<|Jc<|Ja<|mv (.pointer (some ⟨pb0, 0, none⟩))<|lv (Jj rfl)<|lf runUnderlying134 rfl sizeOf28 rfl<|ll 0 (i6 m_5) isAgg28<|lv (Yo rfl rfl)<|Jd<|?_
    revert H72
    refine ci (decide (m_5 ≠ 0)) rfl (fun hb H73=>?_) fun hb H74=>?_
    ·refine Jc<|Ja<|ag (.slice none 0 0)<|ag (i6 0)<|Jd<|Jh<|J5 62 6<|?_
     obtain rfl := sj H73
     refine bo 3 4 rfl rfl<|Qn 3 rfl (Wj (p := nn) rfl (AllC.nil (G := g_tag_Entry) (h := X1) (sz := 6)))<|bo 2 3 rfl rfl<|bo 1 2 rfl rfl<|bo 0 1 rfl rfl<|?_
     refine Z2 (v1 := sl nn (([] : List (List Value)).length)) (v2 := i6 0) rfl rfl rfl (Yy (nn, p_3, b) (i := 0) rfl (by first | rfl | rw [(show (([] : List (List Value)).length) = ([] : List T_tag_Entry).length from (AllC.nil (G := g_tag_Entry) (h := X1) (sz := 6)).len), (show n = l.length from hl)]) (by first | exact Imp.refl _ | exact Imp.of (by rw [(show (([] : List (List Value)).length) = ([] : List T_tag_Entry).length from (AllC.nil (G := g_tag_Entry) (h := X1) (sz := 6)).len), (show n = l.length from hl)] <;> rfl)))
    ·refine Ji<|Jc<|?_
     try dsimp only [z1, z2, z5, z6, z7, z8]
     refine Ja<|mv (.pointer (some ⟨pb0, 0, none⟩))<|lv (Jj rfl)<|lf runUnderlying134 rfl sizeOf132 rfl<|ll 0 (.map (some b)) isAgg132<|mv (i6 a1)<|?_
     refine l_turn0 (turns_mset (u := true) (i := 2) (rds := []) (fk := (fun x_ : Int => i6 x_)) (fv := (fun x_ : Bool => .bool x_)) (k := a1) (v := true) keyF_int (.inr rfl) underlying132 underlying3 rfl rfl rfl rfl) rfl rfl (fun _ => ?_)
     refine Jd<|Jc<|Ja<|mv (.pointer (some ⟨pb0, 0, none⟩))<|mv (.pointer (some ⟨pb0, 0, none⟩))<|lv (Jj rfl)<|lf runUnderlying134 rfl sizeOf115 rfl<|ll 0 (sl p_3 n) isAgg115<|mv (i6 a1)<|mv (i6 a1)<|?_
     obtain ⟨t75, h_t75, H75⟩ := Je H74; clear H74
     refine lv (J1 rfl rfl h_t75)<|mv (i6 t21)<|?_
     obtain ⟨t77, h_t77, H76⟩ := Je H75; clear H75
     refine lv (V5 rfl rfl h_t77) ?_
     obtain ⟨t78, h_t78, H77⟩ := Je H76; clear H76
     refine lv (J1 rfl rfl h_t78) ?_
     obtain ⟨t79, h_t79, H78⟩ := Je H77; clear H77
     refine lv (J1 rfl rfl h_t79)<|lv (Q6 (pl := #[(0, 1), (1, 1)]) (ps := [(0, i6 a1), (1, i6 t79)]) (cells := #[i6 a1, i6 t79]) zeroValue140 runUnderlying140 (fun w => by kernel_rfl) rfl rfl)<|?_
     refine J9 (vs := [.agg #[i6 a1, i6 t79]]) (cs := [i6 a1, i6 t79]) underlying115 sizeOf140 zeroValue140 rfl rfl rfl rfl rfl rfl rfl (fun b2 => ?_)
     obtain ⟨l82, h_l82, H79⟩ := Je H78; clear H78
     refine Qk (Xo (i := 1) (hn := hl) (rds := [4]) (p := p_3) (sz := 2) (by_ := 16) (f := Jm) (ys := l) (ls := ([(⟨a1, t79⟩ : T_tag_Span)] : List T_tag_Span)) (V := .slice (some ⟨b2, 0, none⟩) 1 1) underlying115 (Qp typeInfo140) rfl rfl rfl rfl rfl rfl rfl rfl rfl rfl (fun w L' hF hS hi => Wr (i := 4) hS ((hi 4 (by simp)).trans rfl) rfl rfl) (fun _ => rfl) (fun _ => rfl) h_l82) rfl rfl rfl (fun p_4 => ?_)
     refine lv (Jj rfl)<|lf runUnderlying134 rfl sizeOf115 rfl<|st (i := 0) [sl p_4 l82.length] [str m, .bool m_2, sl p_4 l82.length, .map (some b), i6 m_3, (J6 m_4), i6 m_5] sizeOf115 rfl rfl<|Jd<|Jc<|Ja<|mv (.pointer (some ⟨pb0, 0, none⟩))<|mv (i6 a1)<|?_
     obtain ⟨t87, h_t87, H80⟩ := Je H79; clear H79
     refine lv (J1 rfl rfl h_t87)<|mv (i6 t21)<|?_
     obtain ⟨t89, h_t89, H81⟩ := Je H80; clear H80
     refine lv (V5 rfl rfl h_t89) ?_
     obtain ⟨t90, h_t90, H82⟩ := Je H81; clear H81
     refine lv (J1 rfl rfl h_t90) ?_
     obtain ⟨t91, h_t91, H83⟩ := Je H82; clear H82
     refine Qo (fun w hF hS => k80 (a0 := (⟨m, m_2, l82, (mSet mp a1 true), m_3, m_4, m_5⟩ : T_tag_reader)) (Jn w) (Zm (i := 1) rfl hS rfl) (Wn (fk := (fun x_ : Int => i6 x_)) (fv := (fun x_ : Bool => .bool x_)) (i := 2) hS rfl) (Q8 (i := 0) hS rfl) h_t91) call80 rfl rfl rfl<|ag (i6 t91)<|Jd<|?_
     refine Q3 (r := r) (σ := (List UInt8) × Bool × Int × Nat × Int × (List T_tag_Span) × (List (Int × Bool))) (τ := (Option Addr × Nat) × Nat) (fun s => Vs a1 a2 self t21 t91 s.1 s.2.1 s.2.2.1 s.2.2.2.1 s.2.2.2.2.1 s.2.2.2.2.2.1 s.2.2.2.2.2.2) (fun s t => [(0, .pointer (some ⟨pb0, 0, none⟩)), (1, i6 a1), (2, v2), (6, .slice none 0 0), (7, i6 t91), (9, i6 t21)]) (fun s t => [Jg pb0 [str s.1, .bool s.2.1, .slice t.1.1 s.2.2.2.2.2.1.length t.1.2, .map (some t.2), i6 s.2.2.1, (J6 s.2.2.2.1), i6 s.2.2.2.2.1] 134, Js 140 2 (.slice t.1.1 s.2.2.2.2.2.1.length t.1.2) s.2.2.2.2.2.1.length (s.2.2.2.2.2.1.map Jm), Ys (fun x_ : Int => i6 x_) (fun x_ : Bool => .bool x_) t.2 s.2.2.2.2.2.2, Xm X1 X1]) (fun s t => True) ?_ ?_
     ·refine Jc<|Ja<|mv (i6 (a2.length : Int))<|lv (Vz rfl rfl)<|mv (.bool (decide (1 < (a2.length : Int))))<|?_
      revert H83
      refine sp (fun hb H109=>?_) fun hb H113=>?_
      ·refine mv (i6 t91)<|lv (Yo rfl rfl)<|pT (.bool (decide (t91 ≠ 0)))<|Jd<|?_
       revert H109
       refine ci (decide (t91 ≠ 0)) rfl (fun hb H110=>?_) fun hb H112=>?_
       ·refine Ja<|mv (.pointer (some ⟨pb0, 0, none⟩))<|?_
        obtain ⟨t99, h_t99, H111⟩ := Je H110; clear H110
        refine bo 1 2 rfl rfl<|bo 0 1 rfl rfl<|?_
        refine Qk (Qe (i := 0) (rds := []) (G := fun x : (Option Addr × Nat) × Nat => .tuple #[]) (C := fun x : (Option Addr × Nat) × Nat => Jt (Jg pb0 [str t99.s_, .bool t99.big_, .slice x.1.1 t99.parts_.length x.1.2, .map (some x.2), i6 t99.dirs_, (J6 t99.found_), i6 t99.no_] 134) (Jt (Js 140 2 (.slice x.1.1 t99.parts_.length x.1.2) t99.parts_.length (t99.parts_.map Jm)) (Ys (fun x_ : Int => i6 x_) (fun x_ : Bool => .bool x_) x.2 t99.seen_))) rfl (fun w L' S hF hS hi hp hlt ho hA => k98 (a0 := (⟨m, m_2, l82, (mSet mp a1 true), m_3, m_4, m_5⟩ : T_tag_reader)) hp hlt (Xi w S) rfl h_t99) call98 rfl) rfl rfl rfl (fun ⟨p_18, p_19⟩ => ?_)
        refine ub 0 1 rfl rfl<|ub 1 2 rfl rfl<|Jd<|?_
        exact cl (t99.s_, t99.big_, t99.dirs_, t99.found_, t99.no_, t99.parts_, t99.seen_) (p_18, p_19) 0 [0, 1, 2, 3] (by exact ⟨H111, trivial⟩)
       ·refine Ji ?_
        exact cl (m, m_2, m_3, m_4, m_5, l82, (mSet mp a1 true)) (p_4, b) 0 [0, 1, 2, 3] (by exact ⟨H112, trivial⟩)
      ·refine pa<|pa<|pF (.bool false)<|Jd<|U7 rfl<|Ji<|?_
       exact cl (m, m_2, m_3, m_4, m_5, l82, (mSet mp a1 true)) (p_4, b) 0 [0, 1, 2, 3] (by exact ⟨H113, trivial⟩)
     ·rintro ⟨m_6, m_7, m_8, m_9, m_10, l_2, mp_2⟩ ⟨p_5, b_2⟩ gg H84 _
      try dsimp only at H84
      try dsimp only
      refine Q3 (r := r) (σ := Int × (List UInt8) × Bool × Int × Nat × Int × (List T_tag_Span) × (List (Int × Bool)) × (List T_tag_Entry)) (τ := Jo × (Option Addr × Nat) × Nat × (List (List Value)) × (Option Addr × Nat)) (fun s => W6 s.1 s.2.1 s.2.2.1 s.2.2.2.1 s.2.2.2.2.1 s.2.2.2.2.2.1 s.2.2.2.2.2.2.1 s.2.2.2.2.2.2.2.1 s.2.2.2.2.2.2.2.2) (fun s t => [(6, .slice t.2.2.2.2.1 t.2.2.2.1.length t.2.2.2.2.2), (7, i6 s.1)]) (fun s t => [Jg pb0 [str s.2.1, .bool s.2.2.1, .slice t.2.1.1 s.2.2.2.2.2.2.1.length t.2.1.2, .map (some t.2.2.1), i6 s.2.2.2.1, (J6 s.2.2.2.2.1), i6 s.2.2.2.2.2.1] 134, Js 140 2 (.slice t.2.1.1 s.2.2.2.2.2.2.1.length t.2.1.2) s.2.2.2.2.2.2.1.length (s.2.2.2.2.2.2.1.map Jm), Ys (fun x_ : Int => i6 x_) (fun x_ : Bool => .bool x_) t.2.2.1 s.2.2.2.2.2.2.2.1, Xm X1 t.1, Js 62 6 (.slice t.2.2.2.2.1 t.2.2.2.1.length t.2.2.2.2.2) t.2.2.2.1.length (t.2.2.2.1.map idC)]) (fun s t => AllC g_tag_Entry t.1 6 t.2.2.2.1 s.2.2.2.2.2.2.2.2) ?_ ?_
      ·refine Jc<|Ja<|ag (i6 0)<|Jd<|Jx<|J5 62 6<|?_
       refine Zn (σ := Int × Int × Int × Int × (List UInt8) × Bool × Int × Nat × Int × (List T_tag_Span) × (List (Int × Bool)) × (List T_tag_Entry)) (τ := Jo × (Option Addr × Nat) × Nat × (List (List Value)) × (Option Addr × Nat)) (fun next4 s => Xk a2 self next4 s.1 s.2.1 s.2.2.1 s.2.2.2.1 s.2.2.2.2.1 s.2.2.2.2.2.1 s.2.2.2.2.2.2.1 s.2.2.2.2.2.2.2.1 s.2.2.2.2.2.2.2.2.1 s.2.2.2.2.2.2.2.2.2.1 s.2.2.2.2.2.2.2.2.2.2.1 s.2.2.2.2.2.2.2.2.2.2.2) (fun s t => [(0, .pointer (some ⟨pb0, 0, none⟩)), (1, i6 s.1), (2, v2), (6, .slice t.2.2.2.2.1 t.2.2.2.1.length t.2.2.2.2.2), (7, i6 s.2.1), (9, i6 s.2.2.1), (10, i6 s.2.2.2.1)]) (fun s t => [Jg pb0 [str s.2.2.2.2.1, .bool s.2.2.2.2.2.1, .slice t.2.1.1 s.2.2.2.2.2.2.2.2.2.1.length t.2.1.2, .map (some t.2.2.1), i6 s.2.2.2.2.2.2.1, (J6 s.2.2.2.2.2.2.2.1), i6 s.2.2.2.2.2.2.2.2.1] 134, Js 140 2 (.slice t.2.1.1 s.2.2.2.2.2.2.2.2.2.1.length t.2.1.2) s.2.2.2.2.2.2.2.2.2.1.length (s.2.2.2.2.2.2.2.2.2.1.map Jm), Ys (fun x_ : Int => i6 x_) (fun x_ : Bool => .bool x_) t.2.2.1 s.2.2.2.2.2.2.2.2.2.2.1, Xm X1 t.1, Js 62 6 (.slice t.2.2.2.2.1 t.2.2.2.1.length t.2.2.2.2.2) t.2.2.2.1.length (t.2.2.2.1.map idC)]) (fun s t => AllC g_tag_Entry t.1 6 t.2.2.2.1 s.2.2.2.2.2.2.2.2.2.2.2) (a1, t91, t21, 0, m_6, m_7, m_8, m_9, m_10, l_2, mp_2, ([] : List T_tag_Entry)) (X1, p_5, b_2, ([] : List (List Value)), nn) [0, 1, 2, 3, 4] H84 (by exact (AllC.nil (G := g_tag_Entry) (h := X1) (sz := 6))) (by exact ⟨rfl, rfl, rfl, rfl, rfl, rfl, rfl, trivial⟩) (by decide) rfl ?_
       rintro ⟨x1_2, x7_3, x9_2, x10_2, m_21, m_22, m_23, m_24, m_25, l_7, mp_5, l_8⟩ ⟨hp_2, p_8, b_4, css_2, p_9⟩ m4 gg H86 pf_3
       clear H84
       try dsimp only at H86
       generalize hn4 : it (fun next4 s => Xk a2 self next4 s.1 s.2.1 s.2.2.1 s.2.2.2.1 s.2.2.2.2.1 s.2.2.2.2.2.1 s.2.2.2.2.2.2.1 s.2.2.2.2.2.2.2.1 s.2.2.2.2.2.2.2.2.1 s.2.2.2.2.2.2.2.2.2.1 s.2.2.2.2.2.2.2.2.2.2.1 s.2.2.2.2.2.2.2.2.2.2.2) m4 = next4 at H86
       try dsimp only
       refine Jc<|Jc<|?_
       try dsimp only [z1, z2, z5, z6, z7, z8]
       refine Ja<|mv (i6 x10_2)<|mv (i6 x9_2)<|lv (Yc rfl rfl)<|mv (.bool (decide (x10_2 < x9_2)))<|?_
       revert H86
       refine sp (fun hb H87=>?_) fun hb H108=>?_
       ·refine mv (.pointer (some ⟨pb0, 0, none⟩))<|lv (Jj rfl)<|lf runUnderlying134 rfl sizeOf28 rfl<|ll 0 (i6 m_25) isAgg28<|lv (Xg rfl rfl)<|pT (.bool (decide (m_25 = 0)))<|Jd<|?_
        try dsimp only [z1, z2, z5, z6, z7, z8]
        revert H87
        refine ci (decide (m_25 = 0)) rfl (fun hb H88=>?_) fun hb H107=>?_
        ·refine Ji<|Jc<|Jx<|?_
         refine Q3 (r := r) (σ := Unit) (τ := Unit) (fun s => Zo a2 self x1_2 x7_3 x9_2 x10_2 m_21 m_22 m_23 m_24 m_25 l_7 mp_5 l_8 next4) (fun s t => [(0, .pointer (some ⟨pb0, 0, none⟩)), (1, i6 x1_2), (2, v2), (6, sl p_9 css_2.length), (7, i6 x7_3), (9, i6 x9_2), (10, i6 x10_2), (104, .pointer (some ⟨pb0, 0, none⟩)), (105, .pointer (some ⟨pb0, 0, none⟩)), (106, .pointer (some ⟨pb0, 6, none⟩)), (107, i6 m_25), (108, .bool (decide (m_25 = 0)))]) (fun s t => [Jg pb0 [str m_21, .bool m_22, sl p_8 l_7.length, .map (some b_4), i6 m_23, (J6 m_24), i6 m_25] 134, Js 140 2 (sl p_8 l_7.length) l_7.length (l_7.map Jm), Ys (fun x_ : Int => i6 x_) (fun x_ : Bool => .bool x_) b_4 mp_5, Xm X1 hp_2, Js 62 6 (sl p_9 css_2.length) css_2.length (css_2.map idC)]) (fun s t => True) ?_ ?_
         ·refine Jc ?_
          exact Qi (Kd.p :: Kd.p :: Kd.p :: Kd.p :: Kd.p :: Kd.p :: Kd.p :: Kd.p :: Kd.p :: Kd.d [3, 0, 1, 2] _ :: Kd.p :: Kd.p :: Kd.p :: Kd.d [4] _ :: Kd.d [4] _ :: Kd.d [4] _ :: Kd.p :: Kd.p :: []) 0 mixed (by
           refine dm (i6 x10_2)<|dv (Vz rfl rfl)<|dm (.bool (decide (0 < x10_2)))<|?_
           refine splitS (fun hb => ?_) (fun hb => ?_)
           ·have H96 := cnd_t hb H88
            refine dm (.pointer (some ⟨pb0, 0, none⟩))<|dm (i6 x1_2)<|?_
            have h_t117 := J0 H96
            have H97 := Ju H96
            refine dv (J1 rfl rfl h_t117)<|dm (i6 x10_2)<|?_
            have h_t119 := J0 H97
            have H98 := Ju H97
            refine dv (V5 rfl rfl h_t119) ?_
            have h_t120 := J0 H98
            have H99 := Ju H98
            refine dv (J1 rfl rfl h_t120) ?_
            have h_t121 := J0 H99
            have H100 := Ju H99
            refine Ua (fun w L' hF hS hi => k80 (a0 := (⟨m_21, m_22, l_7, mp_5, m_23, m_24, m_25⟩ : T_tag_reader)) (Jn w) (Zm (i := 1) rfl hS ((hi 1 (by simp)).trans rfl)) (Wn (fk := (fun x_ : Int => i6 x_)) (fv := (fun x_ : Bool => .bool x_)) (i := 2) hS ((hi 2 (by simp)).trans rfl)) (Q8 (i := 0) hS ((hi 0 (by simp)).trans rfl)) h_t121) call80 rfl rfl<|dm (sl p_9 css_2.length)<|dm (i6 x10_2)<|?_
            have h_t124 := J0 H100
            have H101 := Ju H100
            refine dv (Vh rfl rfl h_t124) ?_
            have h_t125 := J0 H101
            have H102 := Ju H101
            refine Zl (fun w L' hF hS hi => Zt underlying36 sizeOf62 rfl rfl (V3 (i := 4) (E := 62) (sz := 6) (n := css_2.length) (a := p_9.1) (c := p_9.2) hS ((hi 4 (by simp)).trans rfl)) rfl (pf_3.ix h_t125)) rfl rfl<|d_readE rfl rfl (fun w L' hF hS hi => run_fieldG runUnderlying62 rfl sizeOf3 rfl rfl (V3 (i := 4) (E := 62) (sz := 6) (n := css_2.length) (a := p_9.1) (c := p_9.2) hS ((hi 4 (by simp)).trans rfl)) (pf_3.ix h_t125))<|Zl (fun w L' hF hS hi => Q9 (f := idC) (i := (val (gI (x10_2 - 1)))) (sz := 6) (j := 0) (v := i6 (val (Yp l_8 (val (gI (x10_2 - 1))))).Tag) isAgg3 rfl rfl (V3 (i := 4) (E := 62) (sz := 6) (n := css_2.length) (a := p_9.1) (c := p_9.2) hS ((hi 4 (by simp)).trans rfl)) (pf_3.ix h_t125) (rg_of ((pf_3.eta h_t125).trans (Yh (pf_3.at h_t125))) rfl)) rfl rfl<|dv (r_leq rfl rfl)<|dv (r_pickT (v := .bool (decide ((val (Jk (⟨m_21, m_22, l_7, mp_5, m_23, m_24, m_25⟩ : T_tag_reader) (val (gI ((val (gI (x1_2 + 2))) + (val (gI (12 * x10_2)))))) 2)) ≤ (val (Yp l_8 (val (gI (x10_2 - 1))))).Tag))) rfl rfl)<|Y8<|?_
            try dsimp only [z1, z2, z5, z6, z7, z8]
            revert H102
            refine ci (decide ((val (Jk (⟨m_21, m_22, l_7, mp_5, m_23, m_24, m_25⟩ : T_tag_reader) (val (gI ((val (gI (x1_2 + 2))) + (val (gI (12 * x10_2)))))) 2)) ≤ (val (Yp l_8 (val (gI (x10_2 - 1))))).Tag)) rfl (fun hb H103=>?_) fun hb H105=>?_
            ·refine Jc<|Ja<|mv (.pointer (some ⟨pb0, 0, none⟩))<|?_
             obtain ⟨t131, h_t131, H104⟩ := Je H103; clear H103
             refine bo 1 2 rfl rfl<|bo 0 1 rfl rfl<|?_
             refine Qk (Qe (i := 0) (rds := []) (G := fun x : (Option Addr × Nat) × Nat => .tuple #[]) (C := fun x : (Option Addr × Nat) × Nat => Jt (Jg pb0 [str t131.s_, .bool t131.big_, .slice x.1.1 t131.parts_.length x.1.2, .map (some x.2), i6 t131.dirs_, (J6 t131.found_), i6 t131.no_] 134) (Jt (Js 140 2 (.slice x.1.1 t131.parts_.length x.1.2) t131.parts_.length (t131.parts_.map Jm)) (Ys (fun x_ : Int => i6 x_) (fun x_ : Bool => .bool x_) x.2 t131.seen_))) rfl (fun w L' S hF hS hi hp hlt ho hA => k98 (a0 := (⟨m_21, m_22, l_7, mp_5, m_23, m_24, m_25⟩ : T_tag_reader)) hp hlt (Xi w S) rfl h_t131) call98 rfl) rfl rfl rfl (fun ⟨p_16, p_17⟩ => ?_)
             refine ub 0 1 rfl rfl<|ub 1 2 rfl rfl<|Jd<|?_
             try dsimp only [z1, z2, z5, z6, z7, z8]
             refine Xx ?_
             exact cl (x7_3, t131.s_, t131.big_, t131.dirs_, t131.found_, t131.no_, t131.parts_, t131.seen_, l_8) (hp_2, p_16, p_17, css_2, p_9) 0 [0, 1, 2, 3, 4] (by exact ⟨H104, pf_3⟩)
            ·refine Ji ?_
             exact cl () () 0 [0, 1, 2, 3, 4] (by exact ⟨H105, trivial⟩)
           ·have H106 := cnd_f hb H88
            refine dp<|dp<|dp<|dp<|dp<|dp<|dp<|dp<|dp<|dp<|dp<|dp<|dp<|dp<|dv (r_pickF (v := .bool false) rfl rfl)<|Y8<|?_
            try dsimp only [z1, z2, z5, z6, z7, z8]
            refine U7 rfl<|Ji<|?_
            exact cl () () 0 [0, 1, 2, 3, 4] (by exact ⟨H106, trivial⟩)
           ) (by kernel_rfl)
         ·rintro _ _ gg H89 _
          try dsimp only at H89
          try dsimp only
          refine Ja<|mv (sl p_9 css_2.length)<|mv (.pointer (some ⟨pb0, 0, none⟩))<|mv (i6 x1_2)<|?_
          obtain ⟨t135, h_t135, H90⟩ := Je H89; clear H89
          refine lv (J1 rfl rfl h_t135)<|mv (i6 x10_2)<|?_
          obtain ⟨t137, h_t137, H91⟩ := Je H90; clear H90
          refine lv (V5 rfl rfl h_t137) ?_
          obtain ⟨t138, h_t138, H92⟩ := Je H91; clear H91
          refine lv (J1 rfl rfl h_t138)<|mv v2<|?_
          obtain ⟨t140, h_t140, H93⟩ := Je H92; clear H92
          refine bo 1 2 rfl rfl<|bo 0 1 rfl rfl<|?_
          refine Qk (Qe (i := 0) (rds := []) (G := fun x : (Option Addr × Nat) × (Option Addr × Nat) × (Option Addr × Nat) × (Option Addr × Nat) × Nat => .agg #[i6 t140.1.Tag, i6 t140.1.Value.Kind, str t140.1.Value.Text, .slice x.1.1 t140.1.Value.Ints.length x.1.2, .slice x.2.1.1 t140.1.Value.Ratios.length x.2.1.2, .slice x.2.2.1.1 t140.1.Value.Entries.length x.2.2.1.2]) (C := fun x : (Option Addr × Nat) × (Option Addr × Nat) × (Option Addr × Nat) × (Option Addr × Nat) × Nat => Jt (Jg pb0 [str t140.2.s_, .bool t140.2.big_, .slice x.2.2.2.1.1 t140.2.parts_.length x.2.2.2.1.2, .map (some x.2.2.2.2), i6 t140.2.dirs_, (J6 t140.2.found_), i6 t140.2.no_] 134) (Jt (Js 140 2 (.slice x.2.2.2.1.1 t140.2.parts_.length x.2.2.2.1.2) t140.2.parts_.length (t140.2.parts_.map Jm)) (Jt (Ys (fun x_ : Int => i6 x_) (fun x_ : Bool => .bool x_) x.2.2.2.2 t140.2.seen_) (Jt (Js 3 1 (.slice x.1.1 t140.1.Value.Ints.length x.1.2) t140.1.Value.Ints.length (t140.1.Value.Ints.map Qc)) (Jt (Js 52 2 (.slice x.2.1.1 t140.1.Value.Ratios.length x.2.1.2) t140.1.Value.Ratios.length (t140.1.Value.Ratios.map Jl)) (rowD 62 6 g_tag_Entry (.slice x.2.2.1.1 t140.1.Value.Entries.length x.2.2.1.2) t140.1.Value.Entries.length t140.1.Value.Entries)))))) rfl (fun w L' S hF hS hi hp hlt ho hA => k99_b ih (a0 := (⟨m_21, m_22, l_7, mp_5, m_23, m_24, m_25⟩ : T_tag_reader)) hp hlt (Xi w S) rfl (f2.mono (hw.but hF ho)) h_t140) call99 rfl) rfl rfl rfl (fun ⟨p_10, p_11, p_12, p_13, p_14⟩ => ?_)
          refine ub 0 1 rfl rfl<|ub 1 2 rfl rfl<|Xv 2 rfl<|Xv 5 rfl<|Xv 6 rfl<|?_
          refine J9 (vs := [.agg #[i6 t140.1.Tag, i6 t140.1.Value.Kind, str t140.1.Value.Text, sl p_10 t140.1.Value.Ints.length, sl p_11 t140.1.Value.Ratios.length, sl p_12 t140.1.Value.Entries.length]]) (cs := [i6 t140.1.Tag, i6 t140.1.Value.Kind, str t140.1.Value.Text, sl p_10 t140.1.Value.Ints.length, sl p_11 t140.1.Value.Ratios.length, sl p_12 t140.1.Value.Entries.length]) underlying36 sizeOf62 zeroValue62 rfl rfl rfl rfl rfl rfl rfl (fun b3 => ?_)
          try dsimp only [z1, z2, z5, z6, z7, z8]
          refine c_freeze (Φ := fun H_ => FrS H_ 1 (sl p_10 t140.1.Value.Ints.length) (t140.1.Value.Ints.map Qc)) 3 5 rfl rfl (by decide) (fun _ _ => Yx) (fz_own _) (fun hp_3 hle hf => ?_)
          try dsimp only [z1, z2, z5, z6, z7, z8]
          refine c_freeze (Φ := fun H_ => FrS H_ 2 (sl p_11 t140.1.Value.Ratios.length) (t140.1.Value.Ratios.map Jl)) 3 6 rfl rfl (by decide) (fun _ _ => Yx) (fz_own _) (fun hp_4 hle_2 hf_2 => ?_)
          refine c_rowD 7 rfl (fun hp_5 css_3 hn pf_4 => ?_)
          rw [hn]
          try dsimp only [z1, z2, z5, z6, z7, z8]
          refine Xv 7 rfl ?_
          try dsimp only [z1, z2, z5, z6, z7, z8]
          refine Y0 3 7 rfl rfl (by decide) (fun _ _ => Yx) (fun hp_6 hle_3 hle_4 => ?_)
          try dsimp only [z1, z2, z5, z6, z7, z8]
          refine c_freeze (Φ := fun H_ => FrS H_ 6 (sl p_12 css_3.length) (css_3.map idC)) 3 9 rfl rfl (by decide) (fun _ _ => Yx) (fz_own _) (fun hp_7 hle_5 hf_3 => ?_)
          obtain ⟨l142, h_l142, H94⟩ := Je H93; clear H93
          refine Qk (Jaw (i := 4) (k := 8) (p := p_9) (f := idC) (ys := css_2) (ls := [[i6 t140.1.Tag, i6 t140.1.Value.Kind, str t140.1.Value.Text, sl p_10 t140.1.Value.Ints.length, sl p_11 t140.1.Value.Ratios.length, sl p_12 css_3.length]]) underlying36 (Qp typeInfo62) rfl rfl rfl rfl rfl rfl rfl rfl rfl rfl rfl rfl rfl rfl (by simp only [idC, List.map_cons, List.map_nil, List.all_cons, List.all_nil, (((hf.mono hle_2).mono hle_3).mono hle_5).one, ((hf_2.mono hle_3).mono hle_5).one, (Ux (xs := t140.1.Value.Entries) hf_3 ((pf_4.mono hle_4).mono hle_5)).one] <;> rfl) (app63 (((((pf_3.mono hle).mono hle_2).mono hle_3).mono hle_5).app h_l142 (nc := [[i6 t140.1.Tag, i6 t140.1.Value.Kind, str t140.1.Value.Text, sl p_10 t140.1.Value.Ints.length, sl p_11 t140.1.Value.Ratios.length, sl p_12 css_3.length]]) rfl)) rfl) rfl rfl rfl (fun p_15 => ?_)
          have pf_5 : AllC g_tag_Entry hp_7 6 (css_2 ++ [[i6 t140.1.Tag, i6 t140.1.Value.Kind, str t140.1.Value.Text, sl p_10 t140.1.Value.Ints.length, sl p_11 t140.1.Value.Ratios.length, sl p_12 css_3.length]]) l142 := AllC.snocG ((((pf_3.mono hle).mono hle_2).mono hle_3).mono hle_5) h_l142 rfl ((g_tag_Entry_iff.2 ⟨rfl, ⟨rfl, rfl, (((hf.mono hle_2).mono hle_3).mono hle_5), ((hf_2.mono hle_3).mono hle_5), (Ux (xs := t140.1.Value.Entries) hf_3 ((pf_4.mono hle_4).mono hle_5))⟩⟩))
          refine ag (sl p_15 ((css_2 ++ [[i6 t140.1.Tag, i6 t140.1.Value.Kind, str t140.1.Value.Text, .slice p_10.1 t140.1.Value.Ints.length p_10.2, .slice p_11.1 t140.1.Value.Ratios.length p_11.2, .slice p_12.1 css_3.length p_12.2]]).length))<|Jd<|?_
          try dsimp only [z1, z2, z5, z6, z7, z8]
          refine Ja<|mv (i6 x10_2)<|?_
          obtain ⟨t111, h_t111, H95⟩ := Je H94; clear H94
          refine lv (J1 rfl rfl h_t111)<|ag (i6 t111)<|Jd<|?_
          try dsimp only [z1, z2, z5, z6, z7, z8]
          exact cl (x1_2, x7_3, x9_2, t111, t140.2.s_, t140.2.big_, t140.2.dirs_, t140.2.found_, t140.2.no_, t140.2.parts_, t140.2.seen_, l142) (hp_7, p_13, p_14, (css_2 ++ [[i6 t140.1.Tag, i6 t140.1.Value.Kind, str t140.1.Value.Text, sl p_10 t140.1.Value.Ints.length, sl p_11 t140.1.Value.Ratios.length, sl p_12 css_3.length]]), p_15) m4 [0, 1, 2, 3, 4] (by exact ⟨(by subst hn4; exact H95), pf_5⟩)
        ·refine Xx ?_
         exact cl (x7_3, m_21, m_22, m_23, m_24, m_25, l_7, mp_5, l_8) (hp_2, p_8, b_4, css_2, p_9) 0 [0, 1, 2, 3, 4] (by exact ⟨H107, pf_3⟩)
       ·refine pa<|pa<|pa<|pa<|pa<|pF (.bool false)<|Jd<|?_
        try dsimp only [z1, z2, z5, z6, z7, z8]
        refine U7 rfl<|Xx<|?_
        exact cl (x7_3, m_21, m_22, m_23, m_24, m_25, l_7, mp_5, l_8) (hp_2, p_8, b_4, css_2, p_9) 0 [0, 1, 2, 3, 4] (by exact ⟨H108, pf_3⟩)
      ·rintro ⟨x7, m_11, m_12, m_13, m_14, m_15, l_3, mp_3, l_4⟩ ⟨hp, p_6, b_3, css, p_7⟩ gg H85 pf
       try dsimp only at H85
       try dsimp only
       refine Jc<|Ja<|mv (sl p_7 css.length)<|mv (i6 x7)<|ag (sl p_7 css.length)<|ag (i6 x7)<|Jd<|?_
       try dsimp only [z1, z2, z5, z6, z7, z8]
       refine Jh ?_
       obtain rfl := sj H85
       refine bo 3 4 rfl rfl<|Qn 3 rfl (Wj (p := p_7) rfl pf)<|bo 2 3 rfl rfl<|bo 1 2 rfl rfl<|bo 0 1 rfl rfl<|?_
       refine Z2 (v1 := sl p_7 css.length) (v2 := i6 x7) rfl rfl rfl (Yy (p_7, p_6, b_3) (i := 0) rfl (by first | rfl | rw [(show css.length = l_4.length from pf.len)]) (by first | exact Imp.refl _ | exact Imp.of (by rw [(show css.length = l_4.length from pf.len)] <;> rfl)))
theorem k81 {a0 : T_tag_reader} {pb0 : Nat} {p0_2 : Option Addr × Nat} {n0_2 : Nat} {m0_3 : Nat} {a1 : Int} {a2 : (List Int)} {v2 : Value} {r : (List T_tag_Entry) × Int × T_tag_reader} {w : World} {h : Jo} {S : Nat → Prop} (hcs : (Jt (Jg pb0 [str a0.s_, .bool a0.big_, sl p0_2 n0_2, .map (some m0_3), i6 a0.dirs_, (J6 a0.found_), i6 a0.no_] 134) (Jt (Js 140 2 (sl p0_2 n0_2) n0_2 (a0.parts_.map Jm)) (Ys (fun x_ : Int => i6 x_) (fun x_ : Bool => .bool x_) m0_3 a0.seen_))).P S w) (hlt : ∀ b, S b → b < w.heap.size) (hw : Know h w S) (hn0_2 : n0_2 = a0.parts_.length) (f2 : FrS h 1 v2 (a2.map Qc)) (H : Wh a0 a1 a2 = some r) : Does prog 81 (List.toArray [.pointer (some ⟨pb0, 0, none⟩), i6 a1, v2]) w (fun v w' => ∃ x : (Option Addr × Nat) × (Option Addr × Nat) × Nat, v = (.tuple #[.slice x.1.1 r.1.length x.1.2, i6 r.2.1]) ∧ Turn w w' S (Jt (Jg pb0 [str r.2.2.s_, .bool r.2.2.big_, .slice x.2.1.1 r.2.2.parts_.length x.2.1.2, .map (some x.2.2), i6 r.2.2.dirs_, (J6 r.2.2.found_), i6 r.2.2.no_] 134) (Jt (Js 140 2 (.slice x.2.1.1 r.2.2.parts_.length x.2.1.2) r.2.2.parts_.length (r.2.2.parts_.map Jm)) (Jt (Ys (fun x_ : Int => i6 x_) (fun x_ : Bool => .bool x_) x.2.2 r.2.2.seen_) (rowD 62 6 g_tag_Entry (.slice x.1.1 r.1.length x.1.2) r.1.length r.1))))) := by
 obtain ⟨mm, hm⟩ := fix_it (show V8 (fun (self : (T_tag_reader × Int × (List Int)) → Option ((List T_tag_Entry) × Int × T_tag_reader)) (s : T_tag_reader × Int × (List Int)) => Qa self s.1 s.2.1 s.2.2) (a0, a1, a2) = some r from H)
 exact k81_it mm hcs hlt hw hn0_2 f2 hm
theorem k82_83 {a0 : (List T_tag_Span)} {p0 : Option Addr × Nat} {n0 : Nat} {r : (List T_tag_Span)} {w : World} {h : Jo} {S : Nat → Prop} (hcs : (Js 140 2 (sl p0 n0) n0 (a0.map Jm)).P S w) (hlt : ∀ b, S b → b < w.heap.size) (_ : Know h w S) (hn0 : n0 = a0.length) (H : gSortF a0 Xs = some r) : Does prog 82 (List.toArray [sl p0 n0, .func (.func 83) #[] #[]]) w (fun v w' => ∃ x : Unit, v = (.tuple #[]) ∧ Turn w w' S (Js 140 2 (sl p0 n0) n0 (r.map Jm))) :=
  sort_func (ρ := Go.Proofs.Tryz.sortFP_ren) Go.Proofs.Tryz.sortFP (k := 2) (fun w => isAgg140 w) (fun w => sizeOf140 w) Jm (fun _ => rfl) (fun x v hv => by simp [Jm] at hv; rcases hv with rfl | rfl <;> rfl) Go.Proofs.Tryz.entersP (fun x y v W hv => Go.Proofs.Tryz.cmpP x y v W hv) hcs hlt hn0 H
theorem k84 {a0 : (List T_tag_Span)} {v0 : Value} {r : Bool} {w : World} {h : Jo} (hw : Know h w Y2) (f0 : FrS h 2 v0 (a0.map Jm)) (H : tag_overlap a0 = some r) : Does prog 84 (List.toArray [v0]) w (fun v w' => v = (.bool r) ∧ Grow w w') := by
 refine enter (n := 22) func84 rfl rfl rfl Y2 [] (Sat.nil _ _)<|Jc<|Ja<|ag (.bool false)<|Jd<|Jc<|Jc<|Ja<|ag (i6 1)<|Jd<|Jx<|?_
 refine Zn (σ := Int) (τ := Unit) (fun next1 s => Ze a0 next1 s) (fun s t => [(0, v0), (3, i6 s)]) (fun s t => []) (fun s t => True) 1 () [] H (by exact trivial) (by exact ⟨rfl, rfl, trivial⟩) (by decide) rfl ?_
 rintro x3_2 _ m1 gg H10 _
 clear H
 try dsimp only at H10
 generalize hn1 : it (fun next1 s => Ze a0 next1 s) m1 = next1 at H10
 try dsimp only
 refine Jc<|Jc<|Ja<|mv (i6 x3_2)<|mv v0<|lv (Wu underlying115 rfl f0 rfl)<|lv (Yc rfl rfl)<|Jd<|?_
 revert H10
 refine ci (decide (x3_2 < (a0.length : Int))) rfl (fun hb H11=>?_) fun hb H18=>?_
 ·refine Ji<|Jc<|Jx<|Jc<|?_
  exact Qi (Kd.p :: Kd.p :: Kd.p :: Kd.p :: Kd.d [] _ :: Kd.p :: Kd.p :: Kd.p :: Kd.p :: Kd.p :: Kd.d [] _ :: Kd.p :: []) 0 mixed (by
   refine dm v0<|dm (i6 x3_2)<|?_
   have h_t12 := J0 H11
   have H12 := Ju H11
   refine dv (Xq underlying115 sizeOf140 rfl rfl f0 h_t12)<|dv (r_fieldP runUnderlying140 rfl sizeOf3 rfl rfl (some_of_at f0 h_t12))<|d_read (fun w hF => Q9 (f := Jm) (i := x3_2) (sz := 2) (j := 0) (v := i6 (val (Yp a0 x3_2)).From) isAgg3 rfl rfl (f0.row (hw.now hF)) h_t12 rfl) rfl rfl<|dm v0<|dm (i6 x3_2)<|?_
   have h_t17 := J0 H12
   have H13 := Ju H12
   refine dv (Vh rfl rfl h_t17) ?_
   have h_t18 := J0 H13
   have H14 := Ju H13
   refine dv (Xq underlying115 sizeOf140 rfl rfl f0 h_t18)<|dv (r_fieldP runUnderlying140 rfl sizeOf3 rfl rfl (some_of_at f0 h_t18))<|d_read (fun w hF => Q9 (f := Jm) (i := (val (gI (x3_2 - 1)))) (sz := 2) (j := 1) (v := i6 (val (Yp a0 (val (gI (x3_2 - 1))))).To) isAgg3 rfl rfl (f0.row (hw.now hF)) h_t18 rfl) rfl rfl<|dv (Yc rfl rfl)<|Y8<|?_
   revert H14
   refine ci (decide ((val (Yp a0 x3_2)).From < (val (Yp a0 (val (gI (x3_2 - 1))))).To)) rfl (fun hb H15=>?_) fun hb H16=>?_
   ·refine Jc<|Ja<|ag (.bool true)<|Jd<|Jh<|?_
    obtain rfl := sj H15
    exact r1 (.bool true)
   ·refine Ji<|Ja<|mv (i6 x3_2)<|?_
    obtain ⟨t9, h_t9, H17⟩ := Je H16; clear H16
    refine lv (J1 rfl rfl h_t9)<|ag (i6 t9)<|Jd<|?_
    exact cl t9 () m1 [] (by exact ⟨(by subst hn1; exact H17), trivial⟩)
   ) (by kernel_rfl)
 ·refine Xx<|Jc<|Ja<|ag (.bool false)<|Jd<|Jh<|?_
  obtain rfl := sj H18
  exact r1 (.bool false)
theorem k63 {a0 : (List UInt8)} {a1 : Nat} {r : T_tag_File × (List T_tag_Span) × Int} {w : World} {h : Jo} (hw : Know h w Y2) (H : tag_read a0 a1 = some r) : Does prog 63 (List.toArray [str a0, (J6 a1)]) w (fun v w' => ∃ x : (Option Addr × Nat) × (Option Addr × Nat), v = (.tuple #[.agg #[.bool r.1.Big, .slice x.1.1 r.1.Dirs.length x.1.2], .slice x.2.1 r.2.1.length x.2.2, i6 r.2.2]) ∧ Turn w w' Y2 (Jt (rowD 36 1 gs_tag_Entry (.slice x.1.1 r.1.Dirs.length x.1.2) r.1.Dirs.length r.1.Dirs) (Js 140 2 (.slice x.2.1 r.2.1.length x.2.2) r.2.1.length (r.2.1.map Jm)))) := by
 refine enter (n := 113) func63 rfl rfl rfl Y2 [] (Sat.nil _ _)<|Zp X1<|Jc<|Ja<|?_
 refine Xf (cs := [.bool false, .slice none 0 0]) zeroValue24 rfl rfl rfl (fun b6 => ?_)
 refine ag (.slice none 0 0)<|ag (i6 0)<|Jd<|Jc<|Jc<|Ja<|mv (str a0)<|lv (Vn underlying9 rfl)<|lv (Vz rfl rfl)<|Jd<|?_
 revert H
 refine ci (decide (65000 < (a0.length : Int))) rfl (fun hb H30=>?_) fun hb H31=>?_
 ·refine Jc<|Ja<|lv (Q6 (pl := #[(0, 1), (1, 1)]) (ps := []) (cells := #[.bool false, .slice none 0 0]) zeroValue24 runUnderlying24 (fun w => by kernel_rfl) rfl rfl)<|st (i := 1) [.bool false, .slice none 0 0] [.bool false, .slice none 0 0] sizeOf24 rfl rfl<|ag (.slice none 0 0)<|ag (i6 4)<|Jd<|Jh<|J5 36 1<|J5 140 2<|?_
  obtain rfl := sj H30
  refine bo 0 2 rfl rfl<|Qn 0 rfl (Wj (p := nn) rfl (AllC.nil (G := gs_tag_Entry) (h := X1) (sz := 1)))<|bo 0 3 rfl rfl<|?_
  refine retCtt (i := 1) (vs := [.bool false, sl nn (([] : List (List Value)).length)]) (v2 := sl nn ([] : List T_tag_Span).length) (v3 := i6 4) isAgg24 sizeOf24 rfl rfl rfl rfl rfl rfl (Yy (nn, nn) (i := 0) rfl (by first | rfl | rw [(show (([] : List (List Value)).length) = ([] : List (List T_tag_Entry)).length from (AllC.nil (G := gs_tag_Entry) (h := X1) (sz := 1)).len)]) (by first | exact Imp.refl _ | exact Imp.of (by rw [(show (([] : List (List Value)).length) = ([] : List (List T_tag_Entry)).length from (AllC.nil (G := gs_tag_Entry) (h := X1) (sz := 1)).len)] <;> rfl)))
 ·refine Ji<|Jc<|Jc<|Ja<|mv (str a0)<|?_
  obtain ⟨t17, h_t17, H32⟩ := Je H31; clear H31
  refine Xy (k79 h_t17) call79 rfl rfl rfl<|lv (Uu rfl)<|Jd<|?_
  revert H32
  refine ci (!t17) rfl (fun hb H33=>?_) fun hb H34=>?_
  ·refine Jc<|Ja<|lv (Q6 (pl := #[(0, 1), (1, 1)]) (ps := []) (cells := #[.bool false, .slice none 0 0]) zeroValue24 runUnderlying24 (fun w => by kernel_rfl) rfl rfl)<|st (i := 1) [.bool false, .slice none 0 0] [.bool false, .slice none 0 0] sizeOf24 rfl rfl<|ag (.slice none 0 0)<|ag (i6 8)<|Jd<|Jh<|J5 36 1<|J5 140 2<|?_
   obtain rfl := sj H33
   refine bo 0 2 rfl rfl<|Qn 0 rfl (Wj (p := nn) rfl (AllC.nil (G := gs_tag_Entry) (h := X1) (sz := 1)))<|bo 0 3 rfl rfl<|?_
   refine retCtt (i := 1) (vs := [.bool false, sl nn (([] : List (List Value)).length)]) (v2 := sl nn ([] : List T_tag_Span).length) (v3 := i6 8) isAgg24 sizeOf24 rfl rfl rfl rfl rfl rfl (Yy (nn, nn) (i := 0) rfl (by first | rfl | rw [(show (([] : List (List Value)).length) = ([] : List (List T_tag_Entry)).length from (AllC.nil (G := gs_tag_Entry) (h := X1) (sz := 1)).len)]) (by first | exact Imp.refl _ | exact Imp.of (by rw [(show (([] : List (List Value)).length) = ([] : List (List T_tag_Entry)).length from (AllC.nil (G := gs_tag_Entry) (h := X1) (sz := 1)).len)] <;> rfl)))
  ·refine Ji<|Jc<|Ja<|mv (str a0)<|mv (str a0)<|?_
   obtain ⟨t22, h_t22, H35⟩ := Je H34; clear H34
   refine lv (r_octG underlying9 rfl rfl h_t22)<|lv (Xg rfl rfl)<|?_
   refine Yw (rds := []) (makes_map (fk := (fun x_ : Int => i6 x_)) (fv := (fun x_ : Bool => .bool x_))) rfl rfl rfl (fun b7 => ?_)
   refine mv ((J6 a1))<|lv (Q6 (pl := #[(0, 1), (1, 1), (2, 1), (3, 1), (4, 1), (5, 1), (6, 1)]) (ps := [(0, str a0), (1, .bool (decide (t22 = 77))), (3, .map (some b7)), (5, (J6 a1))]) (cells := #[str a0, .bool (decide (t22 = 77)), .slice none 0 0, .map (some b7), i6 0, (J6 a1), i6 0]) zeroValue134 runUnderlying134 (fun w => by kernel_rfl) rfl (by generalize (a1 : Nat) = fz0_; rcases fz0_ with _ | _ <;> rfl))<|?_
   refine Z5 (cs := [str a0, .bool (decide (t22 = 77)), .slice none 0 0, .map (some b7), i6 0, (J6 a1), i6 0]) rfl rfl rfl rfl (fun b8 => ?_)
   refine ag (.pointer (some ⟨b8, 0, none⟩))<|Jd<|Jc<|?_
   try dsimp only [z1, z2, z5, z6, z7, z8]
   refine Ja<|mv (.pointer (some ⟨b8, 0, none⟩))<|lv (Jj rfl)<|lf runUnderlying134 rfl sizeOf4 rfl<|ll 3 (.bool (decide (t22 = 77))) isAgg4<|lv (Q6 (pl := #[(0, 1), (1, 1)]) (ps := [(0, .bool (decide (t22 = 77)))]) (cells := #[.bool (decide (t22 = 77)), .slice none 0 0]) zeroValue24 runUnderlying24 (fun w => by kernel_rfl) rfl rfl)<|?_
   refine Xf (cs := [.bool false, .slice none 0 0]) zeroValue24 rfl rfl rfl (fun b9 => ?_)
   refine st (i := 4) [.bool (decide (t22 = 77)), .slice none 0 0] [.bool (decide (t22 = 77)), .slice none 0 0] sizeOf24 rfl rfl<|Jd<|?_
   refine Q3 (r := r) (σ := (List UInt8) × Bool × Int × Nat × Int × (List T_tag_Span) × (List (List T_tag_Entry)) × (List (Int × Bool))) (τ := (Option Addr × Nat) × (Option Addr × Nat) × Nat) (fun s => Jag t22 s.1 s.2.1 s.2.2.1 s.2.2.2.1 s.2.2.2.2.1 s.2.2.2.2.2.1 s.2.2.2.2.2.2.1 s.2.2.2.2.2.2.2) (fun s t => [(4, .pointer (some ⟨b6, 0, none⟩)), (7, .pointer (some ⟨b8, 0, none⟩)), (8, .pointer (some ⟨b9, 0, none⟩))]) (fun s t => [Xm X1 X1, Jg b6 [.bool false, .slice none 0 0] 24, Ys (fun x_ : Int => i6 x_) (fun x_ : Bool => .bool x_) t.2.2 s.2.2.2.2.2.2.2, Jg b8 [str s.1, .bool s.2.1, .slice t.1.1 s.2.2.2.2.2.1.length t.1.2, .map (some t.2.2), i6 s.2.2.1, (J6 s.2.2.2.1), i6 s.2.2.2.2.1] 134, Jg b9 [.bool (decide (t22 = 77)), .slice t.2.1.1 s.2.2.2.2.2.2.1.length t.2.1.2] 24, Js 140 2 (.slice t.1.1 s.2.2.2.2.2.1.length t.1.2) s.2.2.2.2.2.1.length (s.2.2.2.2.2.1.map Jm), rowD 36 1 gs_tag_Entry (.slice t.2.1.1 s.2.2.2.2.2.2.1.length t.2.1.2) s.2.2.2.2.2.2.1.length s.2.2.2.2.2.2.1]) (fun s t => True) ?_ ?_
   ·refine Jc<|Ja<|mv (.pointer (some ⟨b8, 0, none⟩))<|?_
    obtain ⟨t34, h_t34, H50⟩ := Je H35; clear H35
    refine Qo (fun w hF hS => k80 (a0 := (⟨a0, (decide (t22 = 77)), ([] : (List T_tag_Span)), ([] : (List (Int × Bool))), 0, a1, 0⟩ : T_tag_reader)) (Jn w) (FrS.nil _ _) (Wn (fk := (fun x_ : Int => i6 x_)) (fv := (fun x_ : Bool => .bool x_)) (i := 2) hS rfl) (Q8 (i := 3) hS rfl) h_t34) call80 rfl rfl rfl<|ag (i6 t34)<|Jd<|Jx<|J5 140 2<|J5 36 1<|Zp X1<|?_
    try dsimp only [z1, z2, z5, z6, z7, z8]
    refine bo 7 6 rfl rfl ?_
    try dsimp only [z1, z2, z5, z6, z7, z8]
    refine Qn 7 rfl (imp_rowDx (css := []) (xs := ([] : List (List T_tag_Entry))) (p := nn) rfl (AllC.nil (G := gs_tag_Entry) (h := X1) (sz := 1))) ?_
    refine Zn (σ := Int × (List UInt8) × Bool × Int × Nat × Int × (List T_tag_Span) × (List (List T_tag_Entry)) × (List (Int × Bool))) (τ := (Option Addr × Nat) × (Option Addr × Nat) × Nat) (fun next4 s => Wl t22 next4 s.1 s.2.1 s.2.2.1 s.2.2.2.1 s.2.2.2.2.1 s.2.2.2.2.2.1 s.2.2.2.2.2.2.1 s.2.2.2.2.2.2.2.1 s.2.2.2.2.2.2.2.2) (fun s t => [(4, .pointer (some ⟨b6, 0, none⟩)), (7, .pointer (some ⟨b8, 0, none⟩)), (8, .pointer (some ⟨b9, 0, none⟩)), (9, i6 s.1)]) (fun s t => [Xm X1 X1, Jg b6 [.bool false, .slice none 0 0] 24, Ys (fun x_ : Int => i6 x_) (fun x_ : Bool => .bool x_) t.2.2 s.2.2.2.2.2.2.2.2, Jg b8 [str s.2.1, .bool s.2.2.1, .slice t.1.1 s.2.2.2.2.2.2.1.length t.1.2, .map (some t.2.2), i6 s.2.2.2.1, (J6 s.2.2.2.2.1), i6 s.2.2.2.2.2.1] 134, Jg b9 [.bool (decide (t22 = 77)), .slice t.2.1.1 s.2.2.2.2.2.2.2.1.length t.2.1.2] 24, Js 140 2 (.slice t.1.1 s.2.2.2.2.2.2.1.length t.1.2) s.2.2.2.2.2.2.1.length (s.2.2.2.2.2.2.1.map Jm), rowD 36 1 gs_tag_Entry (.slice t.2.1.1 s.2.2.2.2.2.2.2.1.length t.2.1.2) s.2.2.2.2.2.2.2.1.length s.2.2.2.2.2.2.2.1]) (fun s t => True) (t34, a0, (decide (t22 = 77)), 0, a1, 0, ([] : List T_tag_Span), ([] : List (List T_tag_Entry)), ([] : (List (Int × Bool)))) (nn, nn, b7) [0, 1, 2, 3, 4, 5, 7] H50 (by exact trivial) (by exact ⟨rfl, rfl, rfl, rfl, trivial⟩) (by decide) rfl ?_
    rintro ⟨x9_2, m_13, m_14, m_15, m_16, m_17, l_5, l_6, mp_3⟩ ⟨p_3, p_4, b_2⟩ m4 gg H51 _
    clear H50
    try dsimp only at H51
    generalize hn4 : it (fun next4 s => Wl t22 next4 s.1 s.2.1 s.2.2.1 s.2.2.2.1 s.2.2.2.2.1 s.2.2.2.2.2.1 s.2.2.2.2.2.2.1 s.2.2.2.2.2.2.2.1 s.2.2.2.2.2.2.2.2) m4 = next4 at H51
    try dsimp only
    refine Jc<|Jc<|?_
    try dsimp only [z1, z2, z5, z6, z7, z8]
    refine Ja<|mv (i6 x9_2)<|lv (Yo rfl rfl)<|mv (.bool (decide (x9_2 ≠ 0)))<|?_
    revert H51
    refine sp (fun hb H52=>?_) fun hb H58=>?_
    ·refine mv (.pointer (some ⟨b8, 0, none⟩))<|lv (Jj rfl)<|lf runUnderlying134 rfl sizeOf28 rfl<|ll 3 (i6 m_17) isAgg28<|lv (Xg rfl rfl)<|pT (.bool (decide (m_17 = 0)))<|Jd<|?_
     revert H52
     refine ci (decide (m_17 = 0)) rfl (fun hb H53=>?_) fun hb H57=>?_
     ·refine Ji<|Jx<|Jc<|Ja<|mv (.pointer (some ⟨b8, 0, none⟩))<|lv (Jj rfl)<|lf runUnderlying134 rfl sizeOf3 rfl<|ll 3 (i6 m_15) isAgg3<|?_
      obtain ⟨t48, h_t48, H54⟩ := Je H53; clear H53
      refine lv (J1 rfl rfl h_t48)<|lv (Jj rfl)<|lf runUnderlying134 rfl sizeOf3 rfl<|st (i := 3) [i6 t48] [str m_13, .bool m_14, sl p_3 l_5.length, .map (some b_2), i6 t48, (J6 m_16), i6 m_17] sizeOf3 rfl rfl<|Jd<|Jc<|Ja<|mv (.pointer (some ⟨b8, 0, none⟩))<|mv (i6 x9_2)<|lf runUnderlying24 rfl sizeOf22 rfl<|ll 4 (sl p_4 l_6.length) isAgg22<|lv (Uf underlying22 rfl)<|?_
      refine J9 (vs := [i6 (l_6.length : Int)]) (cs := [i6 (l_6.length : Int)]) underlying30 sizeOf3 zeroValue3 rfl rfl rfl rfl rfl rfl rfl (fun b10 => ?_)
      obtain ⟨t58, h_t58, H55⟩ := Je H54; clear H54
      refine bo 5 2 rfl rfl<|bo 3 5 rfl rfl<|?_
      refine Qk (Qe (i := 3) (rds := [7]) (G := fun x : (Option Addr × Nat) × (Option Addr × Nat) × Nat => .tuple #[.slice x.1.1 t58.1.length x.1.2, i6 t58.2.1]) (C := fun x : (Option Addr × Nat) × (Option Addr × Nat) × Nat => Jt (Jg b8 [str t58.2.2.s_, .bool t58.2.2.big_, .slice x.2.1.1 t58.2.2.parts_.length x.2.1.2, .map (some x.2.2), i6 t58.2.2.dirs_, (J6 t58.2.2.found_), i6 t58.2.2.no_] 134) (Jt (Js 140 2 (.slice x.2.1.1 t58.2.2.parts_.length x.2.1.2) t58.2.2.parts_.length (t58.2.2.parts_.map Jm)) (Jt (Ys (fun x_ : Int => i6 x_) (fun x_ : Bool => .bool x_) x.2.2 t58.2.2.seen_) (rowD 62 6 g_tag_Entry (.slice x.1.1 t58.1.length x.1.2) t58.1.length t58.1)))) rfl (fun w L' S hF hS hi hp hlt ho hA => k81 (a0 := (⟨m_13, m_14, l_5, mp_3, t48, m_16, m_17⟩ : T_tag_reader)) hp hlt (Xi w S) rfl (frb_box (j := 7) (xs := ([(l_6.length : Int)] : List Int)) (f := Qc) hA hS (by decide) ((hi 7 (by simp)).trans rfl) rfl rfl rfl rfl) h_t58) call81 rfl) rfl rfl rfl (fun ⟨p_5, p_6, p_7⟩ => ?_)
      refine ub 3 5 rfl rfl<|ub 5 2 rfl rfl<|Xv 2 rfl<|mv (.tuple #[sl p_5 t58.1.length, i6 t58.2.1])<|lv (Jv (v := sl p_5 t58.1.length) rfl rfl)<|lv (Jv (v := i6 t58.2.1) rfl rfl)<|ag (sl p_5 t58.1.length)<|ag (i6 t58.2.1)<|Jd<|Jc<|?_
      refine c_rowD 6 rfl (fun hp css hn pf => ?_)
      rw [hn]
      try dsimp only [z1, z2, z5, z6, z7, z8]
      refine Xv 6 rfl ?_
      try dsimp only [z1, z2, z5, z6, z7, z8]
      refine Y0 0 6 rfl rfl (by decide) (fun _ _ => Yx) (fun hp_2 hle hle_2 => ?_)
      try dsimp only [z1, z2, z5, z6, z7, z8]
      refine Ja<|lf runUnderlying24 rfl sizeOf22 rfl<|ll 4 (sl p_4 css.length) isAgg22<|mv (sl p_5 t58.1.length)<|?_
      refine J9 (vs := [sl p_5 t58.1.length]) (cs := [sl p_5 t58.1.length]) underlying22 sizeOf36 zeroValue36 rfl rfl rfl rfl rfl rfl rfl (fun b11 => ?_)
      refine c_rowD 8 rfl (fun hp_3 css_2 hn_2 pf_2 => ?_)
      rw [hn_2]
      try dsimp only [z1, z2, z5, z6, z7, z8]
      refine Xv 8 rfl ?_
      try dsimp only [z1, z2, z5, z6, z7, z8]
      refine Y0 0 8 rfl rfl (by decide) (fun _ _ => Yx) (fun hp_4 hle_3 hle_4 => ?_)
      try dsimp only [z1, z2, z5, z6, z7, z8]
      refine c_freeze (Φ := fun H_ => FrS H_ 6 (sl p_5 css_2.length) (css_2.map idC)) 0 11 rfl rfl (by decide) (fun _ _ => Yx) (fz_own _) (fun hp_5 hle_5 hf => ?_)
      obtain ⟨l65, h_l65, H56⟩ := Je H55; clear H55
      refine Qk (Jaw (i := 9) (k := 10) (p := p_4) (f := idC) (ys := css) (ls := [[sl p_5 css_2.length]]) underlying22 (Qp typeInfo36) rfl rfl rfl rfl rfl rfl rfl rfl rfl rfl rfl rfl rfl rfl (by simp only [idC, List.map_cons, List.map_nil, List.all_cons, List.all_nil, (Ux (xs := t58.1) hf ((pf_2.mono hle_4).mono hle_5)).one] <;> rfl) (app63 ((((pf.mono hle_2).mono hle_3).mono hle_5).app h_l65 (nc := [[sl p_5 css_2.length]]) rfl)) rfl) rfl rfl rfl (fun p_8 => ?_)
      have pf_3 : AllC gs_tag_Entry hp_5 1 (css ++ [[Value.slice p_5.1 css_2.length p_5.2]]) l65 := AllC.snocG (((pf.mono hle_2).mono hle_3).mono hle_5) h_l65 rfl ((Ux (xs := t58.1) hf ((pf_2.mono hle_4).mono hle_5)))
      refine lf runUnderlying24 rfl sizeOf22 rfl<|st (i := 4) [sl p_8 ((css ++ [[Value.slice p_5.1 css_2.length p_5.2]]).length)] [.bool (decide (t22 = 77)), sl p_8 ((css ++ [[Value.slice p_5.1 css_2.length p_5.2]]).length)] sizeOf22 rfl rfl<|Jd<|?_
      try dsimp only [z1, z2, z5, z6, z7, z8]
      refine bo 0 9 rfl rfl ?_
      try dsimp only [z1, z2, z5, z6, z7, z8]
      refine Qn 0 rfl (imp_rowDx (p := p_8) rfl pf_3) ?_
      (try rw [show ((css ++ [[Value.slice p_5.1 css_2.length p_5.2]]).length) = l65.length from pf_3.len])
      refine Zp X1<|c_sel [12, 1, 2, 3, 4, 5, 6, 7, 8, 0, 10, 11] [Xm X1 X1, Jg b6 [.bool false, .slice none 0 0] 24, Ys (fun x_ : Int => i6 x_) (fun x_ : Bool => .bool x_) p_7 t58.2.2.seen_, Jg b8 [str t58.2.2.s_, .bool t58.2.2.big_, sl p_6 t58.2.2.parts_.length, .map (some p_7), i6 t58.2.2.dirs_, (J6 t58.2.2.found_), i6 t58.2.2.no_] 134, Jg b9 [.bool (decide (t22 = 77)), sl p_8 l65.length] 24, Js 140 2 (sl p_6 t58.2.2.parts_.length) t58.2.2.parts_.length (t58.2.2.parts_.map Jm), _, Jg b10 [i6 (css.length : Int)] 3, _, rowD 36 1 gs_tag_Entry (sl p_8 l65.length) l65.length l65, Jg b11 [sl p_5 css_2.length] 36, _] rfl (by decide)<|?_
      try dsimp only [z1, z2, z5, z6, z7, z8]
      refine Ja<|mv (i6 t58.2.1)<|ag (i6 t58.2.1)<|Jd<|?_
      exact cl (t58.2.1, t58.2.2.s_, t58.2.2.big_, t58.2.2.dirs_, t58.2.2.found_, t58.2.2.no_, t58.2.2.parts_, l65, t58.2.2.seen_) (p_6, p_8, p_7) m4 [0, 1, 2, 3, 4, 5, 9] (by exact ⟨(by subst hn4; exact H56), trivial⟩)
     ·refine Xx ?_
      exact cl (m_13, m_14, m_15, m_16, m_17, l_5, l_6, mp_3) (p_3, p_4, b_2) 0 [0, 1, 2, 3, 4, 5, 6] (by exact ⟨H57, trivial⟩)
    ·refine pa<|pa<|pa<|pa<|pa<|pF (.bool false)<|Jd<|U7 rfl<|Xx<|?_
     exact cl (m_13, m_14, m_15, m_16, m_17, l_5, l_6, mp_3) (p_3, p_4, b_2) 0 [0, 1, 2, 3, 4, 5, 6] (by exact ⟨H58, trivial⟩)
   ·rintro ⟨m, m_2, m_3, m_4, m_5, l, l_2, mp⟩ ⟨p, p_2, b⟩ gg H36 _
    try dsimp only at H36
    try dsimp only
    refine Jc<|Ja<|mv (.pointer (some ⟨b8, 0, none⟩))<|lv (Jj rfl)<|lf runUnderlying134 rfl sizeOf115 rfl<|ll 3 (sl p l.length) isAgg115<|?_
    obtain ⟨t72, h_t72, H37⟩ := Je H36; clear H36
    refine Qk (Qe (i := 5) (rds := []) (G := fun x : Unit => .tuple #[]) (C := fun x : Unit => Js 140 2 (sl p l.length) l.length (t72.map Jm)) rfl (fun w L' S hF hS hi hp hlt ho hA => k82_83 hp hlt (Xi w S) rfl h_t72) call82 rfl) rfl rfl rfl (fun _ => ?_)
    refine c_know (fun w hF hS => lenOf (i := 5) hS rfl) (fun hl_ => ?_)
    have hl : l.length = t72.length := by simpa using hl_.symm
    refine Jd ?_
    refine Q3 (r := r) (σ := Int) (τ := Unit) (fun s => tag_read_j2 t22 l_2 t72 s) (fun s t => [(4, .pointer (some ⟨b6, 0, none⟩)), (7, .pointer (some ⟨b8, 0, none⟩)), (8, .pointer (some ⟨b9, 0, none⟩))]) (fun s t => [Xm X1 X1, Jg b6 [.bool false, .slice none 0 0] 24, Ys (fun x_ : Int => i6 x_) (fun x_ : Bool => .bool x_) b mp, Jg b8 [str m, .bool m_2, sl p l.length, .map (some b), i6 m_3, (J6 m_4), i6 s] 134, Jg b9 [.bool (decide (t22 = 77)), sl p_2 l_2.length] 24, Js 140 2 (sl p l.length) l.length (t72.map Jm), rowD 36 1 gs_tag_Entry (sl p_2 l_2.length) l_2.length l_2]) (fun s t => True) ?_ ?_
    ·refine Jc<|Ja<|mv (.pointer (some ⟨b8, 0, none⟩))<|lv (Jj rfl)<|lf runUnderlying134 rfl sizeOf28 rfl<|ll 3 (i6 m_5) isAgg28<|lv (Xg rfl rfl)<|mv (.bool (decide (m_5 = 0)))<|?_
     revert H37
     refine sp (fun hb H45=>?_) fun hb H49=>?_
     ·refine mv (.pointer (some ⟨b8, 0, none⟩))<|lv (Jj rfl)<|lf runUnderlying134 rfl sizeOf115 rfl<|ll 3 (sl p l.length) isAgg115<|?_
      obtain ⟨t83, h_t83, H46⟩ := Je H45; clear H45
      refine Qo (fun w hF hS => k84 (Jn w) (Zm (i := 5) hl hS rfl) h_t83) call84 rfl rfl rfl<|pT (.bool t83)<|Jd<|?_
      revert H46
      refine ci t83 rfl (fun hb H47=>?_) fun hb H48=>?_
      ·refine Ja<|mv (.pointer (some ⟨b8, 0, none⟩))<|lv (Jj rfl)<|lf runUnderlying134 rfl sizeOf28 rfl<|st (i := 3) [i6 6] [str m, .bool m_2, sl p l.length, .map (some b), i6 m_3, (J6 m_4), i6 6] sizeOf28 rfl rfl<|Jd<|?_
       exact cl 6 () 0 [0, 1, 2, 3, 4, 5, 6] (by exact ⟨H47, trivial⟩)
      ·refine Ji ?_
       exact cl m_5 () 0 [0, 1, 2, 3, 4, 5, 6] (by exact ⟨H48, trivial⟩)
     ·refine pa<|pa<|pa<|pa<|pa<|pF (.bool false)<|Jd<|U7 rfl<|Ji<|?_
      exact cl m_5 () 0 [0, 1, 2, 3, 4, 5, 6] (by exact ⟨H49, trivial⟩)
    ·rintro m_6 _ gg H38 _
     try dsimp only at H38
     try dsimp only
     refine Q3 (r := r) (σ := Int) (τ := Unit) (fun s => tag_read_j3 t22 l_2 t72 s) (fun s t => [(4, .pointer (some ⟨b6, 0, none⟩)), (7, .pointer (some ⟨b8, 0, none⟩)), (8, .pointer (some ⟨b9, 0, none⟩))]) (fun s t => [Xm X1 X1, Jg b6 [.bool false, .slice none 0 0] 24, Ys (fun x_ : Int => i6 x_) (fun x_ : Bool => .bool x_) b mp, Jg b8 [str m, .bool m_2, sl p l.length, .map (some b), i6 m_3, (J6 m_4), i6 s] 134, Jg b9 [.bool (decide (t22 = 77)), sl p_2 l_2.length] 24, Js 140 2 (sl p l.length) l.length (t72.map Jm), rowD 36 1 gs_tag_Entry (sl p_2 l_2.length) l_2.length l_2]) (fun s t => True) ?_ ?_
     ·refine Jc<|Ja<|mv (.pointer (some ⟨b8, 0, none⟩))<|lv (Jj rfl)<|lf runUnderlying134 rfl sizeOf28 rfl<|ll 3 (i6 m_6) isAgg28<|lv (Xg rfl rfl)<|Jd<|?_
      revert H38
      refine ci (decide (m_6 = 0)) rfl (fun hb H42=>?_) fun hb H44=>?_
      ·refine Ja<|mv (.pointer (some ⟨b8, 0, none⟩))<|Qx (i := 4) (vs := [.bool (decide (t22 = 77)), sl p_2 l_2.length]) isAgg24 sizeOf24 rfl rfl rfl rfl rfl<|?_
       obtain ⟨t95, h_t95, H43⟩ := Je H42; clear H42
       refine Qo (fun w hF hS => k17 (Jn w) (frn_rowD (i := 6) hS rfl) h_t95) call17 rfl rfl rfl<|lv (Jj rfl)<|lf runUnderlying134 rfl sizeOf28 rfl<|st (i := 3) [i6 t95] [str m, .bool m_2, sl p l.length, .map (some b), i6 m_3, (J6 m_4), i6 t95] sizeOf28 rfl rfl<|Jd<|?_
       exact cl t95 () 0 [0, 1, 2, 3, 4, 5, 6] (by exact ⟨H43, trivial⟩)
      ·refine Ji ?_
       exact cl m_6 () 0 [0, 1, 2, 3, 4, 5, 6] (by exact ⟨H44, trivial⟩)
     ·rintro m_7 _ gg H39 _
      try dsimp only at H39
      try dsimp only
      refine Jc<|Jc<|Ja<|mv (.pointer (some ⟨b8, 0, none⟩))<|lv (Jj rfl)<|lf runUnderlying134 rfl sizeOf28 rfl<|ll 3 (i6 m_7) isAgg28<|lv (Yo rfl rfl)<|Jd<|?_
      revert H39
      refine ci (decide (m_7 ≠ 0)) rfl (fun hb H40=>?_) fun hb H41=>?_
      ·refine Jc ?_
       exact Qi (Kd.p :: Kd.p :: Kd.p :: Kd.p :: Kd.d [3] _ :: Kd.sv 4 103 1 _ 24 :: Kd.p :: Kd.p :: []) 0 mixed (by
        refine dv (Q6 (pl := #[(0, 1), (1, 1)]) (ps := []) (cells := #[.bool false, .slice none 0 0]) zeroValue24 runUnderlying24 (fun w => by kernel_rfl) rfl rfl)<|dm (.pointer (some ⟨b8, 0, none⟩))<|dv (Jj rfl)<|dv (J3 runUnderlying134 rfl sizeOf28 rfl rfl)<|dl (i6 m_7) isAgg28<|Jaj (i := 1) (vs := [.bool false, .slice none 0 0]) (cs' := fun v_ => [(vcell v_ 0), (vcell v_ 1)]) sizeOf24 rfl rfl rfl rfl rfl rfl rfl rfl rfl<|Qq rfl rfl (Jw (v := .slice none 0 0) rfl)<|Qq rfl rfl (Jw (v := i6 m_7) rfl)<|Y8<|Jh<|J5 36 1<|J5 140 2<|?_
        obtain rfl := sj H40
        refine bo 0 7 rfl rfl<|Qn 0 rfl (Wj (p := nn) rfl (AllC.nil (G := gs_tag_Entry) (h := X1) (sz := 1)))<|bo 0 8 rfl rfl<|?_
        refine retCtt (i := 1) (vs := [.bool false, sl nn (([] : List (List Value)).length)]) (v2 := sl nn ([] : List T_tag_Span).length) (v3 := i6 m_7) isAgg24 sizeOf24 rfl rfl rfl rfl rfl rfl (Yy (nn, nn) (i := 0) rfl (by first | rfl | rw [(show (([] : List (List Value)).length) = ([] : List (List T_tag_Entry)).length from (AllC.nil (G := gs_tag_Entry) (h := X1) (sz := 1)).len)]) (by first | exact Imp.refl _ | exact Imp.of (by rw [(show (([] : List (List Value)).length) = ([] : List (List T_tag_Entry)).length from (AllC.nil (G := gs_tag_Entry) (h := X1) (sz := 1)).len)] <;> rfl)))
        ) (by kernel_rfl)
      ·refine Ji<|Jc<|?_
       try dsimp only [z1, z2, z5, z6, z7, z8]
       exact Qi (Kd.d [4] _ :: Kd.p :: Kd.p :: Kd.p :: Kd.d [3] _ :: Kd.sv 4 108 1 _ 24 :: Kd.p :: Kd.p :: []) 0 mixed (by
        refine d_loadN (i := 4) (vs := [.bool (decide (t22 = 77)), sl p_2 l_2.length]) isAgg24 sizeOf24 rfl rfl rfl rfl<|dm (.pointer (some ⟨b8, 0, none⟩))<|dv (Jj rfl)<|dv (J3 runUnderlying134 rfl sizeOf115 rfl rfl)<|dl (sl p l.length) isAgg115<|Jaj (i := 1) (vs := [.bool (decide (t22 = 77)), sl p_2 l_2.length]) (cs' := fun v_ => [(vcell v_ 0), (vcell v_ 1)]) sizeOf24 rfl rfl rfl rfl rfl rfl rfl rfl rfl<|Qq rfl rfl (Jw (v := sl p l.length) rfl)<|Qq rfl rfl (Jw (v := i6 0) rfl)<|Y8<|Jh<|?_
        obtain rfl := sj H41
        refine bo 6 5 rfl rfl ?_
        refine retCtt (i := 1) (vs := [.bool (decide (t22 = 77)), sl p_2 l_2.length]) (v2 := sl p l.length) (v3 := i6 0) isAgg24 sizeOf24 rfl rfl rfl rfl rfl rfl (Yy (p_2, p) (i := 6) rfl (by first | rfl | rw [(show l.length = t72.length from hl)]) (by first | exact Imp.refl _ | exact Imp.of (by rw [(show l.length = t72.length from hl)] <;> rfl)))
        ) (by kernel_rfl)
end Go.Proofs.YtdcppgplkfkjiaaGreatDoor
