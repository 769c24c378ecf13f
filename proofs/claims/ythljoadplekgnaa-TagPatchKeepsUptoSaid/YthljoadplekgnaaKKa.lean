/- TagPatchKeeps, checks: the walks, printed by our generator; each follows its model. Conditions: the model yields a value. -/
import Derived.Test.YthljoadplekgnaaMd
import Derived.Test.YthljoadplekgnaaLx3
import Derived.Test.YthljoadplekgnaaProg
namespace Go.Proofs.Ythljoadplekgnaa
open Go Go.Vc Go.Md Go.M Go.Lx Try
set_option maxRecDepth 100000
set_option maxHeartbeats 4000000
theorem mixed : prog.follows .mixedOrders = true := by kernel_rfl
abbrev Qa (x : Int) : List Value := [i6 x]
abbrev X6 : Nat → Value
  | 0 => .func (.func 23) #[] #[]
  | _ => .nilFunc
def Jbf (m : ((List Int) → Int → Option (Unit))) (w : World) (args : List Value) (post : Value → World → Prop) : Prop :=
  ∃ (a0 : (List Int)) (v0 : Value) (a1 : Int) (r : Unit), FrS (fun b => w.heap[b]?) 1 v0 (a0.map Qa) ∧ args = [v0, i6 a1] ∧ m a0 a1 = some r ∧ post = fun v' w' => v' = (.tuple #[]) ∧ Grow w w'
abbrev Jl (x : Tf) : List Value := [i6 x.Num, i6 x.Den]
abbrev Jk (x : Tc) : List Value := [i6 x.From, i6 x.To]
abbrev Yd (x : Int) : List Value := [.int .u8 x]
inductive g_tag_Entry (h : Jt) : (Nat → Value) → Ta → Prop
  | mk {c : Nat → Value} {x : Ta} (h0 : c 0 = i6 x.Tag) (h1 : c 1 = i6 x.Value.kah) (h2 : c 2 = str x.Value.kai) (h3 : FrS h 1 (c 3) (x.Value.kaj.map Qa)) (h4 : FrS h 2 (c 4) (x.Value.kag.map Jl)) (h5 : FrS h 6 (c 5) ((List.range x.Value.kaf.length).map (elC h (c 5) 6))) (h6 : ∀ (i : Nat) (y : Ta), x.Value.kaf[i]? = some y → g_tag_Entry h (Xj h (c 5) 6 i) y) : g_tag_Entry h c x
instance : Mon g_tag_Entry := ⟨fun k c x f => by
  induction f with
  | mk h0 h1 h2 h3 h4 h5 h6 ih => exact .mk h0 h1 h2 (h3.mono k) (h4.mono k) (frsMono h5 k) (fun i y hy => by have e_ := elMonoE h5 k hy; rw [← e_]; exact ih i y hy)⟩
def gs_int (h : Jt) (c : Nat → Value) (x : (List Int)) : Prop := FrS h 1 (c 0) (x.map Qa)
instance : Mon gs_int := ⟨fun k _ _ f => FrS.mono f k⟩
theorem cgs_int {h : Jt} {c : Nat → Value} {x : (List Int)} (_ : gs_int h c x) : (List.range 1).map c = [c 0] := rfl
def gs_tag_Ratio (h : Jt) (c : Nat → Value) (x : (List Tf)) : Prop := FrS h 2 (c 0) (x.map Jl)
instance : Mon gs_tag_Ratio := ⟨fun k _ _ f => FrS.mono f k⟩
def gs_tag_Entry (h : Jt) (c : Nat → Value) (x : (List Ta)) : Prop := FrN h 6 (c 0) g_tag_Entry x
instance : Mon gs_tag_Entry := ⟨fun k _ _ f => FrN.mono f k⟩
theorem Wm {h : Jt} {c : Nat → Value} {x : (List Ta)} (_ : gs_tag_Entry h c x) : (List.range 1).map c = [c 0] := rfl
def g_tag_Value (h : Jt) (c : Nat → Value) (x : Td) : Prop := c 0 = i6 x.kah ∧ c 1 = str x.kai ∧ gs_int h (fun j => c (2 + j)) x.kaj ∧ gs_tag_Ratio h (fun j => c (3 + j)) x.kag ∧ gs_tag_Entry h (fun j => c (4 + j)) x.kaf
instance : Mon g_tag_Value := ⟨fun k _ _ f => by obtain ⟨h0, h1, h2, h3, h4⟩ := f; exact ⟨h0, h1, Mon.mono k _ _ h2, Mon.mono k _ _ h3, Mon.mono k _ _ h4⟩⟩
theorem cg_tag_Value {h : Jt} {c : Nat → Value} {x : Td} (f : g_tag_Value h c x) : (List.range 5).map c = [i6 x.kah, str x.kai, c 2, c 3, c 4] := by
  obtain ⟨h0, h1, h2, h3, h4⟩ := f
  show [c 0, c 1, c 2, c 3, c 4] = _
  simp only [h0, h1]
theorem Q4 {h : Jt} {c : Nat → Value} {x : Td} (f : g_tag_Value h c x) : gs_int h (fun j => c (2 + j)) x.kaj := by
  obtain ⟨h0, h1, h2, h3, h4⟩ := f; exact h2
theorem Q5 {h : Jt} {c : Nat → Value} {x : Td} (f : g_tag_Value h c x) : gs_tag_Ratio h (fun j => c (3 + j)) x.kag := by
  obtain ⟨h0, h1, h2, h3, h4⟩ := f; exact h3
theorem Qk {h : Jt} {c : Nat → Value} {x : Td} (f : g_tag_Value h c x) : gs_tag_Entry h (fun j => c (4 + j)) x.kaf := by
  obtain ⟨h0, h1, h2, h3, h4⟩ := f; exact h4
theorem g_tag_Entry_iff {h : Jt} {c : Nat → Value} {x : Ta} : g_tag_Entry h c x ↔ (c 0 = i6 x.Tag ∧ g_tag_Value h (fun j => c (1 + j)) x.Value) :=
  ⟨fun f => by cases f with | mk h0 h1 h2 h3 h4 h5 h6 => exact ⟨h0, ⟨h1, h2, h3, h4, ⟨h5, h6⟩⟩⟩, fun ⟨h0, ⟨h1, h2, h3, h4, ⟨h5, h6⟩⟩⟩ => .mk h0 h1 h2 h3 h4 h5 h6⟩
theorem Qy {h : Jt} {c : Nat → Value} {x : Ta} (f : g_tag_Entry h c x) : (List.range 6).map c = [i6 x.Tag, i6 x.Value.kah, str x.Value.kai, c 3, c 4, c 5] := by
  obtain ⟨h0, h1⟩ := g_tag_Entry_iff.1 f
  have hc1 := cg_tag_Value h1
  simp only [List.range, List.range.loop, List.map_cons, List.map_nil, Nat.reduceAdd, List.cons.injEq, and_true] at hc1
  show [c 0, c 1, c 2, c 3, c 4, c 5] = _
  simp only [h0, hc1]
theorem Jo {h : Jt} {c : Nat → Value} {x : Ta} (f : g_tag_Entry h c x) : g_tag_Value h (fun j => c (1 + j)) x.Value := by
  obtain ⟨h0, h1⟩ := g_tag_Entry_iff.1 f; exact h1
def gss_tag_Entry (h : Jt) (c : Nat → Value) (x : (List (List Ta))) : Prop := FrN h 1 (c 0) gs_tag_Entry x
instance : Mon gss_tag_Entry := ⟨fun k _ _ f => FrN.mono f k⟩
def g_tag_File (h : Jt) (c : Nat → Value) (x : Tg) : Prop := c 0 = .bool x.Big ∧ gss_tag_Entry h (fun j => c (1 + j)) x.kal
instance : Mon g_tag_File := ⟨fun k _ _ f => by obtain ⟨h0, h1⟩ := f; exact ⟨h0, Mon.mono k _ _ h1⟩⟩
theorem cg_tag_File {h : Jt} {c : Nat → Value} {x : Tg} (f : g_tag_File h c x) : (List.range 2).map c = [.bool x.Big, c 1] := by
  obtain ⟨h0, h1⟩ := f
  show [c 0, c 1] = _
  simp only [h0]
theorem Je6 {h : Jt} {c : Nat → Value} {x : Tg} (f : g_tag_File h c x) : gss_tag_Entry h (fun j => c (1 + j)) x.kal := by
  obtain ⟨h0, h1⟩ := f; exact h1
def V1 (m : (Ta → Int → Option (Int))) (w : World) (args : List Value) (post : Value → World → Prop) : Prop :=
  ∃ (a0 : Ta) (v0_1_2 : Value) (v0_1_3 : Value) (v0_1_4 : Value) (a1 : Int) (r : Int), FrS (fun b => w.heap[b]?) 1 v0_1_2 (a0.Value.kaj.map Qa) ∧ FrS (fun b => w.heap[b]?) 2 v0_1_3 (a0.Value.kag.map Jl) ∧ FrN (fun b => w.heap[b]?) 6 v0_1_4 g_tag_Entry a0.Value.kaf ∧ args = [.agg #[i6 a0.Tag, i6 a0.Value.kah, str a0.Value.kai, v0_1_2, v0_1_3, v0_1_4], i6 a1] ∧ m a0 a1 = some r ∧ post = fun v' w' => v' = (i6 r) ∧ Grow w w'
theorem run_eqT46 (d : Nat) (w : World) (a0 b0 : Int) (a1 b1 : Int) : (Op.equalIn (d + 2) 46 (.agg #[i6 a0, i6 a1]) (.agg #[i6 b0, i6 b1])).run prog w = .ok (decide (a0 = b0 ∧ a1 = b1)) w := by
  rw [run_equalIn_struct w (d + 1) 46 _ _ (by simp only [Program.fieldsOf, underlying46]) stoodInHeld46]
  simp only [Program.fieldsOf, underlying46, Op.eqFields]
  simp [part, run_equalIn_int, Jg9, run_equalIn_bool', underlying3]
  repeat' split
  all_goals simp_all
theorem Jc4 (w : World) (x y : Tf) : (Op.equalIn Op.maxDepth 46 (.agg #[i6 x.Num, i6 x.Den]) (.agg #[i6 y.Num, i6 y.Den])).run prog w = .ok (Vd x y) w :=
  run_eqT46 9998 w _ _ _ _
theorem k23 {a0 : (List Int)} {v0 : Value} {a1 : Int} {r : Unit} {w : World} {h : Jt} (hw : Know h w Z2) (f0 : FrS h 1 v0 (a0.map Qa)) (H : Jfy a0 a1 = some r) : Does prog 23 (List.toArray [v0, i6 a1]) w (fun v w' => v = (.tuple #[]) ∧ Grow w w') := by
 refine enter (n := 4) func23 rfl rfl rfl Z2 [] (Sat.nil _ _)<|Jp<|?_
 cases H
 refine Je4 rfl (fin rfl)
theorem hft52 (k : Nat) : FnV prog (X6 k) (mft52 k) (fun g => Jbf g) :=
  match k with
  | 0 => (show FnV prog (X6 0) (mft52 0) _ from (FnV.mk (g := Jfy) (R := fun g => Jbf g) (fun h_ => (FnH.mk ⟨23, #[], #[], rfl, call23, fun args2 post2 w2 hk2 hR2 => by obtain ⟨a0_, v0_, a1_, r_, fa0_, rfl, H_, rfl⟩ := hR2; exact k23 (Jm w2) fa0_ H_⟩))))
  | _ + 1 => FnV.nil
theorem k53 {a0 : (List Ta)} {v0 : Value} {a1 : Int} {a2 : (Ta → Int → Option (Int))} {v2 : Value} {r : Int × Bool} {w : World} {h : Jt} (hw : Know h w Z2) (f0 : FrN h 6 v0 g_tag_Entry a0) (f2 : FnH prog h v2 (V1 a2)) (H : X0 a0 a1 a2 = some r) : Does prog 53 (List.toArray [v0, i6 a1, v2]) w (fun v w' => v = (.tuple #[i6 r.1, .bool r.2]) ∧ Grow w w') := by
 refine enter (n := 49) func53 rfl rfl rfl Z2 [] (Sat.nil _ _)<|Jc<|Ja<|ag (i6 0)<|ag (.bool false)<|Jd<|Jc<|Ja<|mv v0<|lv (Yw Try.underlying24 rfl f0)<|ag (i6 (a0.length : Int))<|Jd<|Jc<|Ja<|mv (i6 (a0.length : Int))<|ag (i6 0)<|ag (i6 (a0.length : Int))<|Jd<|?_
 refine Qx (r := r) (σ := Int) (τ := Unit) (fun s => Q6 a0 a1 a2 s) (fun s t => [(0, v0), (1, i6 a1), (2, v2), (8, i6 (a0.length : Int)), (9, i6 s)]) (fun s t => []) (fun s t => True) ?_ ?_
 ·refine J0 ?_
  refine Zz (σ := Int × Int) (τ := Unit) (fun next2 s => Qq a0 a1 a2 next2 s.1 s.2) (fun s t => [(0, v0), (1, i6 a1), (2, v2), (8, i6 (a0.length : Int)), (9, i6 s.1), (10, i6 s.2)]) (fun s t => []) (fun s t => True) (0, (a0.length : Int)) () [] H (by exact trivial) (by exact ⟨rfl, rfl, rfl, rfl, rfl, rfl, trivial⟩) (by decide) rfl ?_
  rintro ⟨x9_3, x10_2⟩ _ m2 gg H21 _
  clear H
  try dsimp only at H21
  generalize hn2 : it (fun next2 s => Qq a0 a1 a2 next2 s.1 s.2) m2 = next2 at H21
  try dsimp only
  refine Jc<|Jc<|Ja<|mv (i6 x9_3)<|mv (i6 x10_2)<|lv (Ym rfl rfl)<|Jd<|?_
  revert H21
  refine ci (decide (x9_3 < x10_2)) rfl (fun hb H22=>?_) fun hb H30=>?_
  ·refine Jp<|J0<|Jc<|Ja<|mv (i6 x9_3)<|mv (i6 x10_2)<|?_
   obtain ⟨t20, h_t20, H23⟩ := Je H22; clear H22
   refine lv (J4 rfl rfl h_t20)<|lv (Jco Try.runUnderlying3 runUnderlying99 rfl (wr_u64 _))<|?_
   obtain ⟨t22, h_t22, H24⟩ := Je H23; clear H23
   refine lv (r_shrG rfl rfl rfl h_t22)<|lv (Jco runUnderlying99 Try.runUnderlying3 rfl (wr_i64 _))<|ag (i6 (U6 t22))<|Jd<|Jc<|Ja<|mv v2<|mv v0<|mv (i6 (U6 t22))<|?_
   obtain ⟨t27, h_t27, H25⟩ := Je H24; clear H24
   refine lv (Q2 Try.underlying24 Try.sizeOf72 rfl rfl f0.frs (f0.ix h_t27))<|Xn (fun w hF hS => Y2 (f := (elC h v0 6)) (i := (U6 t22)) (sz := 6) (j := 0) (vs := [i6 t27.Tag, i6 t27.Value.kah, str t27.Value.kai, (Xj h v0 6 (Int.toNat (U6 t22)) 3), (Xj h v0 6 (Int.toNat (U6 t22)) 4), (Xj h v0 6 (Int.toNat (U6 t22)) 5)]) isAgg72 Try.sizeOf72 rfl rfl (f0.frs.row (hw.now hF)) (f0.ix h_t27) (Jfb (Qy (f0.at h_t27)) rfl)) rfl rfl rfl<|mv (i6 a1)<|?_
   obtain ⟨t30, h_t30, H26⟩ := Je H25; clear H25
   refine l_callV (R := V1 a2) (r := i6 t30) (v := v2) (fun w hF hS => ⟨(f2.mono (hw.now hF)), ⟨t27, _, _, _, a1, _, ((show FrS h 1 (Xj h v0 6 (Int.toNat (U6 t22)) 3) (t27.Value.kaj.map Qa) from (Q4 (Jo (f0.at h_t27)))).mono (hw.now hF)), ((show FrS h 2 (Xj h v0 6 (Int.toNat (U6 t22)) 4) (t27.Value.kag.map Jl) from (Q5 (Jo (f0.at h_t27)))).mono (hw.now hF)), ((show FrN h 6 (Xj h v0 6 (Int.toNat (U6 t22)) 5) g_tag_Entry t27.Value.kaf from (Qk (Jo (f0.at h_t27)))).mono (hw.now hF)), rfl, h_t30, rfl⟩⟩) rfl rfl rfl rfl<|lv (Ym rfl rfl)<|Jd<|?_
   revert H26
   refine ci (decide (t30 < 0)) rfl (fun hb H27=>?_) fun hb H29=>?_
   ·refine Ja<|mv (i6 (U6 t22))<|?_
    obtain ⟨t33, h_t33, H28⟩ := Je H27; clear H27
    refine lv (J4 rfl rfl h_t33)<|ag (i6 t33)<|Jd<|?_
    exact cl (t33, x10_2) () m2 [] (by exact ⟨(by subst hn2; exact H28), trivial⟩)
   ·refine Ja<|mv (i6 (U6 t22))<|ag (i6 (U6 t22))<|Jd<|?_
    exact cl (x9_3, (U6 t22)) () m2 [] (by exact ⟨(by subst hn2; exact H29), trivial⟩)
  ·refine Xy ?_
   exact cl x9_3 () 0 [] (by exact ⟨H30, trivial⟩)
 ·rintro x9 _ gg H16 _
  try dsimp only at H16
  try dsimp only
  refine Jc<|Ja<|mv (i6 x9)<|mv (i6 x9)<|mv (i6 (a0.length : Int))<|lv (Ym rfl rfl)<|mv (.bool (decide (x9 < (a0.length : Int))))<|?_
  revert H16
  refine sp (fun hb H17=>?_) fun hb H20=>?_
  ·refine mv v2<|mv v0<|mv (i6 x9)<|?_
   obtain ⟨t43, h_t43, H18⟩ := Je H17; clear H17
   refine lv (Q2 Try.underlying24 Try.sizeOf72 rfl rfl f0.frs (f0.ix h_t43))<|Xn (fun w hF hS => Y2 (f := (elC h v0 6)) (i := x9) (sz := 6) (j := 0) (vs := [i6 t43.Tag, i6 t43.Value.kah, str t43.Value.kai, (Xj h v0 6 (Int.toNat x9) 3), (Xj h v0 6 (Int.toNat x9) 4), (Xj h v0 6 (Int.toNat x9) 5)]) isAgg72 Try.sizeOf72 rfl rfl (f0.frs.row (hw.now hF)) (f0.ix h_t43) (Jfb (Qy (f0.at h_t43)) rfl)) rfl rfl rfl<|mv (i6 a1)<|?_
   obtain ⟨t46, h_t46, H19⟩ := Je H18; clear H18
   refine l_callV (R := V1 a2) (r := i6 t46) (v := v2) (fun w hF hS => ⟨(f2.mono (hw.now hF)), ⟨t43, _, _, _, a1, _, ((show FrS h 1 (Xj h v0 6 (Int.toNat x9) 3) (t43.Value.kaj.map Qa) from (Q4 (Jo (f0.at h_t43)))).mono (hw.now hF)), ((show FrS h 2 (Xj h v0 6 (Int.toNat x9) 4) (t43.Value.kag.map Jl) from (Q5 (Jo (f0.at h_t43)))).mono (hw.now hF)), ((show FrN h 6 (Xj h v0 6 (Int.toNat x9) 5) g_tag_Entry t43.Value.kaf from (Qk (Jo (f0.at h_t43)))).mono (hw.now hF)), rfl, h_t46, rfl⟩⟩) rfl rfl rfl rfl<|lv (Xe rfl rfl)<|pT (.bool (decide (t46 = 0)))<|ag (i6 x9)<|ag (.bool (decide (t46 = 0)))<|Jd<|Jr<|?_
   obtain rfl := sj H19
   refine Jah (v1 := i6 x9) (v2 := .bool (decide (t46 = 0))) rfl rfl rfl (fin rfl)
  ·refine pa<|pa<|pa<|pa<|pa<|pa<|pa<|pa<|pF (.bool false)<|ag (i6 x9)<|ag (.bool false)<|Jd<|Jr<|?_
   obtain rfl := sj H20
   refine Jah (v1 := i6 x9) (v2 := .bool false) rfl rfl rfl (fin rfl)
theorem k54 {a0 : Ta} {v0_1_2 : Value} {v0_1_3 : Value} {v0_1_4 : Value} {a1 : Int} {r : Int} {w : World} {h : Jt} (hw : Know h w Z2) (f0_1_2 : FrS h 1 v0_1_2 (a0.Value.kaj.map Qa)) (f0_1_3 : FrS h 2 v0_1_3 (a0.Value.kag.map Jl)) (f0_1_4 : FrN h 6 v0_1_4 g_tag_Entry a0.Value.kaf) (H : Jcq a0 a1 = some r) : Does prog 54 (List.toArray [.agg #[i6 a0.Tag, i6 a0.Value.kah, str a0.Value.kai, v0_1_2, v0_1_3, v0_1_4], i6 a1]) w (fun v w' => v = (i6 r) ∧ Grow w w') := by
 refine enter (n := 15) func54 rfl rfl rfl Z2 [] (Sat.nil _ _)<|Jc<|Ja<|?_
 refine We (cs := [i6 a0.Tag, i6 a0.Value.kah, str a0.Value.kai, v0_1_2, v0_1_3, v0_1_4]) rfl rfl rfl rfl (fun b1 => ?_)
 refine ag (i6 0)<|Jd<|Jc<|J0<|Jc<|Ja<|lf Try.runUnderlying72 rfl Try.sizeOf3 rfl<|ll 0 (i6 a0.Tag) Try.isAgg3<|mv (i6 a1)<|lv (Ym rfl rfl)<|ag (.bool (decide (a0.Tag < a1)))<|Jd<|?_
 revert H
 refine ci (decide (a0.Tag < a1)) rfl (fun hb H5=>?_) fun hb H6=>?_
 ·refine Jc<|Ja<|ag (i6 (-1))<|Jd<|Jr<|?_
  obtain rfl := sj H5
  exact r1 (i6 (-1))
 ·refine Jc<|Ja<|lf Try.runUnderlying72 rfl Try.sizeOf3 rfl<|ll 0 (i6 a0.Tag) Try.isAgg3<|mv (i6 a1)<|lv (V6 rfl rfl)<|ag (.bool (decide (a1 < a0.Tag)))<|Jd<|?_
  revert H6
  refine ci (decide (a1 < a0.Tag)) rfl (fun hb H7=>?_) fun hb H8=>?_
  ·refine Jc<|Ja<|ag (i6 1)<|Jd<|Jr<|?_
   obtain rfl := sj H7
   exact r1 (i6 1)
  ·refine Jp<|Jc<|Ja<|ag (i6 0)<|Jd<|Jr<|?_
   obtain rfl := sj H8
   exact r1 (i6 0)
theorem k28 {a0 : (List Ta)} {v0 : Value} {a1 : Int} {r : Int × Bool} {w : World} {h : Jt} (hw : Know h w Z2) (f0 : FrN h 6 v0 g_tag_Entry a0) (H : Jb4 a0 a1 = some r) : Does prog 28 (List.toArray [v0, i6 a1]) w (fun v w' => v = (.tuple #[i6 r.1, .bool r.2]) ∧ Grow w w') := by
 refine enter (n := 11) func28 rfl rfl rfl Z2 [] (Sat.nil _ _)<|Jc<|Ja<|ag (i6 0)<|ag (.bool false)<|Jd<|Jc<|Ja<|mv v0<|mv (i6 a1)<|?_
 obtain ⟨t8, h_t8, H2⟩ := Je H; clear H
 refine Qg (fun w hF hS => k53 (Jm w) (f0.mono (hw.now hF)) (FnH.mk ⟨54, #[], #[], rfl, call54, fun args2 post2 w2 hk2 hR2 => by obtain ⟨a0_, v0_1_2_, v0_1_3_, v0_1_4_, a1_, r_, fa0_1_2_, fa0_1_3_, fa0_1_4_, rfl, H_, rfl⟩ := hR2; exact k54 (Jm w2) fa0_1_2_ fa0_1_3_ fa0_1_4_ H_⟩) h_t8) call53 rfl rfl rfl<|lv (J7 (v := i6 t8.1) rfl rfl)<|lv (J7 (v := .bool t8.2) rfl rfl)<|ag (i6 t8.1)<|ag (.bool t8.2)<|Jd<|Jr<|?_
 obtain rfl := sj H2
 refine Jah (v1 := i6 t8.1) (v2 := .bool t8.2) rfl rfl rfl (fin rfl)
theorem k50 {a0 : Int} {a1 : Int} {a2 : Int} {r : Bool} (H : Vk a0 a1 a2 = some r) : Ret prog 50 [i6 a0, i6 a1, i6 a2] (.bool r) := by
 refine Vz (n := 15) func50 rfl rfl rfl (fun wd => ?_)
 refine Jc<|Ja<|ag (.bool false)<|Jd<|Jc<|Ja<|mv (i6 a0)<|mv (i6 a1)<|lv (Ym rfl rfl)<|mv (.bool (decide (a0 < a1)))<|?_
 revert H
 refine sp (fun hb H3=>?_) fun hb H4=>?_
 ·refine pa<|pa<|pa<|pT (.bool true)<|ag (.bool true)<|Jd<|Jr<|?_
  obtain rfl := sj H3
  exact r1 (.bool true)
 ·refine mv (i6 a0)<|mv (i6 a2)<|lv (V6 rfl rfl)<|pF (.bool (decide (a2 < a0)))<|ag (.bool (decide (a2 < a0)))<|Jd<|Jr<|?_
  obtain rfl := sj H4
  exact r1 (.bool (decide (a2 < a0)))
theorem k47 {a0 : Int} {r : Int} (H : Zb a0 = some r) : Ret prog 47 [i6 a0] (i6 r) := by
 refine Vz (n := 16) func47 rfl rfl rfl (fun wd => ?_)
 refine Jc<|Ja<|ag (i6 0)<|Jd<|Jc<|Jc<|Ja<|mv (i6 a0)<|Jd<|J0<|?_
 refine Qx (r := r) (σ := Bool) (τ := Unit) (fun s => Ug a0 s) (fun s t => [(3, i6 a0), (4, .bool s)]) (fun s t => []) (fun s t => True) ?_ ?_
 ·refine Jc<|Ja<|lv (Xe rfl rfl)<|ag (.bool (decide (a0 = 1)))<|Jd<|?_
  revert H
  refine ci (decide (a0 = 1)) rfl (fun hb H37=>?_) fun hb H38=>?_
  ·refine Jp ?_
   exact cl (decide (a0 = 1)) () 0 [] (by exact ⟨H37, trivial⟩)
  ·refine Jc<|Ja<|lv (Xe rfl rfl)<|ag (.bool (decide (a0 = 2)))<|Jd<|?_
   revert H38
   refine ci (decide (a0 = 2)) rfl (fun hb H39=>?_) fun hb H40=>?_
   ·refine Jp ?_
    exact cl (decide (a0 = 2)) () 0 [] (by exact ⟨H39, trivial⟩)
   ·refine Jc<|Ja<|lv (Xe rfl rfl)<|ag (.bool (decide (a0 = 7)))<|Jd<|?_
    revert H40
    refine ci (decide (a0 = 7)) rfl (fun hb H41=>?_) fun hb H42=>?_
    ·refine Jp ?_
     exact cl (decide (a0 = 7)) () 0 [] (by exact ⟨H41, trivial⟩)
    ·refine Ja<|lv (Xe rfl rfl)<|ag (.bool (decide (a0 = 13)))<|Jd<|?_
     exact cl (decide (a0 = 13)) () 0 [] (by exact ⟨H42, trivial⟩)
 ·rintro x4 _ gg H22 _
  try dsimp only at H22
  try dsimp only
  revert H22
  refine ci x4 rfl (fun hb H23=>?_) fun hb H24=>?_
  ·refine Jc<|Ja<|ag (i6 1)<|Jd<|Jr<|?_
   obtain rfl := sj H23
   exact r1 (i6 1)
  ·refine Jc<|Ja<|lv (Xe rfl rfl)<|ag (.bool (decide (a0 = 3)))<|Jd<|?_
   revert H24
   refine ci (decide (a0 = 3)) rfl (fun hb H25=>?_) fun hb H26=>?_
   ·refine Jc<|Ja<|ag (i6 2)<|Jd<|Jr<|?_
    obtain rfl := sj H25
    exact r1 (i6 2)
   ·refine Jc<|Jc<|Ja<|lv (Xe rfl rfl)<|ag (.bool (decide (a0 = 4)))<|Jd<|?_
    revert H26
    refine ci (decide (a0 = 4)) rfl (fun hb H27=>?_) fun hb H32=>?_
    ·refine Jp ?_
     revert H27
     refine ci (decide (a0 = 4)) rfl (fun hb H28=>?_) fun hb H29=>?_
     ·refine Jc<|Ja<|ag (i6 4)<|Jd<|Jr<|?_
      obtain rfl := sj H28
      exact r1 (i6 4)
     ·refine Jc<|Ja<|lv (Xe rfl rfl)<|ag (.bool (decide (a0 = 5)))<|Jd<|?_
      revert H29
      refine ci (decide (a0 = 5)) rfl (fun hb H30=>?_) fun hb H31=>?_
      ·refine Jc<|Ja<|ag (i6 8)<|Jd<|Jr<|?_
       obtain rfl := sj H30
       exact r1 (i6 8)
      ·refine Jp<|Jc<|Ja<|ag (i6 0)<|Jd<|Jr<|?_
       obtain rfl := sj H31
       exact r1 (i6 0)
    ·refine Ja<|lv (Xe rfl rfl)<|ag (.bool (decide (a0 = 9)))<|Jd<|?_
     revert H32
     refine ci (decide (a0 = 9)) rfl (fun hb H33=>?_) fun hb H34=>?_
     ·refine Jc<|Ja<|ag (i6 4)<|Jd<|Jr<|?_
      obtain rfl := sj H33
      exact r1 (i6 4)
     ·refine Jc<|Ja<|lv (Xe rfl rfl)<|ag (.bool (decide (a0 = 5)))<|Jd<|?_
      revert H34
      refine ci (decide (a0 = 5)) rfl (fun hb H35=>?_) fun hb H36=>?_
      ·refine Jc<|Ja<|ag (i6 8)<|Jd<|Jr<|?_
       obtain rfl := sj H35
       exact r1 (i6 8)
      ·refine Jp<|Jc<|Ja<|ag (i6 0)<|Jd<|Jr<|?_
       obtain rfl := sj H36
       exact r1 (i6 0)
theorem k67 {a0 : Int} {r : Bool} (H : Jdq a0 = some r) : Ret prog 67 [i6 a0] (.bool r) := by
 refine Vz (n := 17) func67 rfl rfl rfl (fun wd => ?_)
 refine Jc<|Ja<|ag (.bool false)<|Jd<|Jc<|Ja<|mv (i6 a0)<|lv (Xe rfl rfl)<|mv (.bool (decide (a0 = 1)))<|?_
 revert H
 refine sp (fun hb H7=>?_) fun hb H8=>?_
 ·refine pa<|pa<|pT (.bool true)<|mv (.bool true)<|pa<|pa<|pT (.bool true)<|mv (.bool true)<|pa<|pa<|pT (.bool true)<|ag (.bool true)<|Jd<|Jr<|?_
  obtain rfl := sj H7
  exact r1 (.bool true)
 ·refine mv (i6 a0)<|lv (Xe rfl rfl)<|pF (.bool (decide (a0 = 3)))<|mv (.bool (decide (a0 = 3)))<|?_
  revert H8
  refine sp (fun hb H9=>?_) fun hb H10=>?_
  ·refine pa<|pa<|pT (.bool true)<|mv (.bool true)<|pa<|pa<|pT (.bool true)<|ag (.bool true)<|Jd<|Jr<|?_
   obtain rfl := sj H9
   exact r1 (.bool true)
  ·refine mv (i6 a0)<|lv (Xe rfl rfl)<|pF (.bool (decide (a0 = 4)))<|mv (.bool (decide (a0 = 4)))<|?_
   revert H10
   refine sp (fun hb H11=>?_) fun hb H12=>?_
   ·refine pa<|pa<|pT (.bool true)<|ag (.bool true)<|Jd<|Jr<|?_
    obtain rfl := sj H11
    exact r1 (.bool true)
   ·refine mv (i6 a0)<|lv (Xe rfl rfl)<|pF (.bool (decide (a0 = 9)))<|ag (.bool (decide (a0 = 9)))<|Jd<|Jr<|?_
    obtain rfl := sj H12
    exact r1 (.bool (decide (a0 = 9)))
theorem k68 {a0 : Int} {r : Bool} (H : Jds a0 = some r) : Ret prog 68 [i6 a0] (.bool r) := by
 refine Vz (n := 9) func68 rfl rfl rfl (fun wd => ?_)
 refine Jc<|Ja<|ag (.bool false)<|Jd<|Jc<|Ja<|mv (i6 a0)<|lv (Xe rfl rfl)<|mv (.bool (decide (a0 = 2)))<|?_
 revert H
 refine sp (fun hb H3=>?_) fun hb H4=>?_
 ·refine pa<|pa<|pT (.bool true)<|ag (.bool true)<|Jd<|Jr<|?_
  obtain rfl := sj H3
  exact r1 (.bool true)
 ·refine mv (i6 a0)<|lv (Xe rfl rfl)<|pF (.bool (decide (a0 = 7)))<|ag (.bool (decide (a0 = 7)))<|Jd<|Jr<|?_
  obtain rfl := sj H4
  exact r1 (.bool (decide (a0 = 7)))
theorem k45 {a0 : Td} {v0_2 : Value} {v0_3 : Value} {v0_4 : Value} {r : Int} {w : World} {h : Jt} (hw : Know h w Z2) (f0_2 : FrS h 1 v0_2 (a0.kaj.map Qa)) (f0_3 : FrS h 2 v0_3 (a0.kag.map Jl)) (f0_4 : FrN h 6 v0_4 g_tag_Entry a0.kaf) (H : V3 a0 = some r) : Does prog 45 (List.toArray [.agg #[i6 a0.kah, str a0.kai, v0_2, v0_3, v0_4]]) w (fun v w' => v = (i6 r) ∧ Grow w w') := by
 refine enter (n := 46) func45 rfl rfl rfl Z2 [] (Sat.nil _ _)<|Jc<|Ja<|?_
 refine We (cs := [i6 a0.kah, str a0.kai, v0_2, v0_3, v0_4]) rfl rfl rfl rfl (fun b1 => ?_)
 refine ag (i6 0)<|Jd<|Jc<|J0<|Jc<|Ja<|lf Try.runUnderlying26 rfl Try.sizeOf3 rfl<|ll 0 (i6 a0.kah) Try.isAgg3<|?_
 obtain ⟨t6, h_t6, H31⟩ := Je H; clear H
 refine Vb (k47 h_t6) call47 rfl rfl rfl<|lv (Xe rfl rfl)<|ag (.bool (decide (t6 = 0)))<|Jd<|?_
 revert H31
 refine ci (decide (t6 = 0)) rfl (fun hb H32=>?_) fun hb H33=>?_
 ·refine Jc<|Ja<|ag (i6 10)<|Jd<|Jr<|?_
  obtain rfl := sj H32
  exact r1 (i6 10)
 ·refine Jc ?_
  refine Qx (r := r) (σ := Bool) (τ := Unit) (fun s => Vt a0 s) (fun s t => [(1, pz b1), (8, .bool s)]) (fun s t => [Jf b1 [i6 a0.kah, str a0.kai, v0_2, v0_3, v0_4] 26]) (fun s t => True) ?_ ?_
  ·refine Ja<|lf Try.runUnderlying26 rfl Try.sizeOf3 rfl<|ll 0 (i6 a0.kah) Try.isAgg3<|?_
   obtain ⟨t11, h_t11, H58⟩ := Je H33; clear H33
   refine Vb (k67 h_t11) call67 rfl rfl rfl<|lv (Ja6 rfl)<|mv (.bool (!t11))<|?_
   revert H58
   refine sp (fun hb H59=>?_) fun hb H60=>?_
   ·refine lf Try.runUnderlying26 rfl Try.sizeOf22 rfl<|ll 0 v0_2 isAgg22<|lv (Va Try.underlying22 rfl f0_2 rfl)<|lv (V6 rfl rfl)<|pT (.bool (decide (0 < (a0.kaj.length : Int))))<|ag (.bool (decide (0 < (a0.kaj.length : Int))))<|Jd<|?_
    exact cl (decide (0 < (a0.kaj.length : Int))) () 0 [0] (by exact ⟨H59, trivial⟩)
   ·refine pa<|pa<|pa<|pa<|pF (.bool false)<|ag (.bool false)<|Jd<|?_
    exact cl false () 0 [0] (by exact ⟨H60, trivial⟩)
  ·rintro x8 _ gg H34 _
   try dsimp only at H34
   try dsimp only
   revert H34
   refine ci x8 rfl (fun hb H35=>?_) fun hb H38=>?_
   ·refine Jp ?_
    revert H35
    refine ci x8 rfl (fun hb H36=>?_) fun hb H37=>?_
    ·refine Jc<|Ja<|ag (i6 1)<|Jd<|Jr<|?_
     obtain rfl := sj H36
     exact r1 (i6 1)
    ·refine Jp<|Jc<|Ja<|ag (i6 0)<|Jd<|Jr<|?_
     obtain rfl := sj H37
     exact r1 (i6 0)
   ·refine Qx (r := r) (σ := Bool) (τ := Unit) (fun s => Vv a0 s) (fun s t => [(1, pz b1), (8, .bool s)]) (fun s t => [Jf b1 [i6 a0.kah, str a0.kai, v0_2, v0_3, v0_4] 26]) (fun s t => True) ?_ ?_
    ·refine Ja<|lf Try.runUnderlying26 rfl Try.sizeOf3 rfl<|ll 0 (i6 a0.kah) Try.isAgg3<|?_
     obtain ⟨t21, h_t21, H55⟩ := Je H38; clear H38
     refine Vb (k68 h_t21) call68 rfl rfl rfl<|lv (Ja6 rfl)<|mv (.bool (!t21))<|?_
     revert H55
     refine sp (fun hb H56=>?_) fun hb H57=>?_
     ·refine lf Try.runUnderlying26 rfl Try.sizeOf9 rfl<|ll 0 (str a0.kai) Try.isAgg9<|lv (r_neqT rfl rfl)<|pT (.bool (decide (a0.kai ≠ [])))<|ag (.bool (decide (a0.kai ≠ [])))<|Jd<|?_
      exact cl (decide (a0.kai ≠ [])) () 0 [0] (by exact ⟨H56, trivial⟩)
     ·refine pa<|pa<|pa<|pF (.bool false)<|ag (.bool false)<|Jd<|?_
      exact cl false () 0 [0] (by exact ⟨H57, trivial⟩)
    ·rintro x8_2 _ gg H39 _
     try dsimp only at H39
     try dsimp only
     revert H39
     refine ci x8_2 rfl (fun hb H40=>?_) fun hb H43=>?_
     ·refine Jp ?_
      revert H40
      refine ci x8_2 rfl (fun hb H41=>?_) fun hb H42=>?_
      ·refine Jc<|Ja<|ag (i6 1)<|Jd<|Jr<|?_
       obtain rfl := sj H41
       exact r1 (i6 1)
      ·refine Jp<|Jc<|Ja<|ag (i6 0)<|Jd<|Jr<|?_
       obtain rfl := sj H42
       exact r1 (i6 0)
     ·refine Qx (r := r) (σ := Bool) (τ := Unit) (fun s => Vu a0 s) (fun s t => [(1, pz b1), (8, .bool s)]) (fun s t => [Jf b1 [i6 a0.kah, str a0.kai, v0_2, v0_3, v0_4] 26]) (fun s t => True) ?_ ?_
      ·refine Ja<|lf Try.runUnderlying26 rfl Try.sizeOf3 rfl<|ll 0 (i6 a0.kah) Try.isAgg3<|lv (Yn rfl rfl)<|mv (.bool (decide (a0.kah ≠ 5)))<|?_
       revert H43
       refine sp (fun hb H53=>?_) fun hb H54=>?_
       ·refine lf Try.runUnderlying26 rfl Try.sizeOf23 rfl<|ll 0 v0_3 isAgg23<|lv (Va Try.underlying23 rfl f0_3 rfl)<|lv (V6 rfl rfl)<|pT (.bool (decide (0 < (a0.kag.length : Int))))<|ag (.bool (decide (0 < (a0.kag.length : Int))))<|Jd<|?_
        exact cl (decide (0 < (a0.kag.length : Int))) () 0 [0] (by exact ⟨H53, trivial⟩)
       ·refine pa<|pa<|pa<|pa<|pF (.bool false)<|ag (.bool false)<|Jd<|?_
        exact cl false () 0 [0] (by exact ⟨H54, trivial⟩)
      ·rintro x8_3 _ gg H44 _
       try dsimp only at H44
       try dsimp only
       revert H44
       refine ci x8_3 rfl (fun hb H45=>?_) fun hb H48=>?_
       ·refine Jp ?_
        revert H45
        refine ci x8_3 rfl (fun hb H46=>?_) fun hb H47=>?_
        ·refine Jc<|Ja<|ag (i6 1)<|Jd<|Jr<|?_
         obtain rfl := sj H46
         exact r1 (i6 1)
        ·refine Jp<|Jc<|Ja<|ag (i6 0)<|Jd<|Jr<|?_
         obtain rfl := sj H47
         exact r1 (i6 0)
       ·refine Ja<|lf Try.runUnderlying26 rfl Try.sizeOf3 rfl<|ll 0 (i6 a0.kah) Try.isAgg3<|lv (Yn rfl rfl)<|mv (.bool (decide (a0.kah ≠ 13)))<|?_
        revert H48
        refine sp (fun hb H49=>?_) fun hb H52=>?_
        ·refine lf Try.runUnderlying26 rfl Try.sizeOf24 rfl<|ll 0 v0_4 isAgg24<|lv (Yw Try.underlying24 rfl f0_4)<|lv (V6 rfl rfl)<|pT (.bool (decide (0 < (a0.kaf.length : Int))))<|ag (.bool (decide (0 < (a0.kaf.length : Int))))<|Jd<|?_
         revert H49
         refine ci (decide (0 < (a0.kaf.length : Int))) rfl (fun hb H50=>?_) fun hb H51=>?_
         ·refine Jc<|Ja<|ag (i6 1)<|Jd<|Jr<|?_
          obtain rfl := sj H50
          exact r1 (i6 1)
         ·refine Jp<|Jc<|Ja<|ag (i6 0)<|Jd<|Jr<|?_
          obtain rfl := sj H51
          exact r1 (i6 0)
        ·refine pa<|pa<|pa<|pa<|pF (.bool false)<|ag (.bool false)<|Jd<|Wr rfl<|Jp<|Jc<|Ja<|ag (i6 0)<|Jd<|Jr<|?_
         obtain rfl := sj H52
         exact r1 (i6 0)
theorem k66 {a0 : Int} {r : Int × Int} (H : Jd0 a0 = some r) : Ret prog 66 [i6 a0] (.tuple #[i6 r.1, i6 r.2]) := by
 refine Vz (n := 11) func66 rfl rfl rfl (fun wd => ?_)
 refine Jc<|Ja<|ag (i6 0)<|ag (i6 0)<|Jd<|Jc<|Jc<|Ja<|mv (i6 a0)<|Jd<|J0<|Jc<|Ja<|lv (Xe rfl rfl)<|ag (.bool (decide (a0 = 1)))<|Jd<|?_
 revert H
 refine ci (decide (a0 = 1)) rfl (fun hb H7=>?_) fun hb H8=>?_
 ·refine Jc<|Ja<|ag (i6 0)<|ag (i6 255)<|Jd<|Jr<|?_
  obtain rfl := sj H7
  refine Jah (v1 := i6 0) (v2 := i6 255) rfl rfl rfl (fin rfl)
 ·refine Jc<|Ja<|lv (Xe rfl rfl)<|ag (.bool (decide (a0 = 3)))<|Jd<|?_
  revert H8
  refine ci (decide (a0 = 3)) rfl (fun hb H9=>?_) fun hb H10=>?_
  ·refine Jc<|Ja<|ag (i6 0)<|ag (i6 65535)<|Jd<|Jr<|?_
   obtain rfl := sj H9
   refine Jah (v1 := i6 0) (v2 := i6 65535) rfl rfl rfl (fin rfl)
  ·refine Jc<|Ja<|lv (Xe rfl rfl)<|ag (.bool (decide (a0 = 9)))<|Jd<|?_
   revert H10
   refine ci (decide (a0 = 9)) rfl (fun hb H11=>?_) fun hb H12=>?_
   ·refine Jc<|Ja<|ag (i6 (-2147483648))<|ag (i6 2147483647)<|Jd<|Jr<|?_
    obtain rfl := sj H11
    refine Jah (v1 := i6 (-2147483648)) (v2 := i6 2147483647) rfl rfl rfl (fin rfl)
   ·refine Jp<|Jc<|Ja<|ag (i6 0)<|ag (i6 4294967295)<|Jd<|Jr<|?_
    obtain rfl := sj H12
    refine Jah (v1 := i6 0) (v2 := i6 4294967295) rfl rfl rfl (fin rfl)
theorem k44 {a0 : Td} {v0_2 : Value} {v0_3 : Value} {v0_4 : Value} {r : Int} {w : World} {h : Jt} (hw : Know h w Z2) (f0_2 : FrS h 1 v0_2 (a0.kaj.map Qa)) (f0_3 : FrS h 2 v0_3 (a0.kag.map Jl)) (f0_4 : FrN h 6 v0_4 g_tag_Entry a0.kaf) (H : Ut a0 = some r) : Does prog 44 (List.toArray [.agg #[i6 a0.kah, str a0.kai, v0_2, v0_3, v0_4]]) w (fun v w' => v = (i6 r) ∧ Grow w w') := by
 refine enter (n := 65) func44 rfl rfl rfl Z2 [] (Sat.nil _ _)<|Jc<|Ja<|?_
 refine We (cs := [i6 a0.kah, str a0.kai, v0_2, v0_3, v0_4]) rfl rfl rfl rfl (fun b2 => ?_)
 refine ag (i6 0)<|Jd<|Jc<|Jc<|Ja<|Q1 (i := 0) (vs := [i6 a0.kah, str a0.kai, v0_2, v0_3, v0_4]) Try.isAgg26 Try.sizeOf26 rfl rfl rfl rfl rfl<|?_
 obtain ⟨t12, h_t12, H35⟩ := Je H; clear H
 refine Qg (fun w hF hS => k45 (Jm w) (f0_2.mono (hw.now hF)) (f0_3.mono (hw.now hF)) (f0_4.mono (hw.now hF)) h_t12) call45 rfl rfl rfl<|ag (i6 t12)<|Jd<|Jc<|Ja<|mv (i6 t12)<|lv (Yn rfl rfl)<|Jd<|?_
 revert H35
 refine ci (decide (t12 ≠ 0)) rfl (fun hb H36=>?_) fun hb H37=>?_
 ·refine Jc<|Ja<|mv (i6 t12)<|ag (i6 t12)<|Jd<|Jr<|?_
  obtain rfl := sj H36
  exact r1 (i6 t12)
 ·refine Jp<|Jc<|Ja<|lf Try.runUnderlying26 rfl Try.sizeOf3 rfl<|ll 0 (i6 a0.kah) Try.isAgg3<|?_
  obtain ⟨t19, h_t19, H38⟩ := Je H37; clear H37
  refine Vb (k66 h_t19) call66 rfl rfl rfl<|mv (.tuple #[i6 t19.1, i6 t19.2])<|lv (J7 (v := i6 t19.1) rfl rfl)<|lv (J7 (v := i6 t19.2) rfl rfl)<|ag (i6 t19.1)<|ag (i6 t19.2)<|Jd<|?_
  refine Qx (r := r) (σ := Unit) (τ := Unit) (fun s => V7 a0) (fun s t => [(1, pz b2)]) (fun s t => [Jf b2 [i6 a0.kah, str a0.kai, v0_2, v0_3, v0_4] 26]) (fun s t => True) ?_ ?_
  ·refine Jc<|Ja<|lf Try.runUnderlying26 rfl Try.sizeOf22 rfl<|ll 0 v0_2 isAgg22<|lv (Va Try.underlying22 rfl f0_2 rfl)<|mv (i6 0)<|Jd<|J0<|?_
   refine Zz (σ := Int) (τ := Unit) (fun next5 s => Yl a0 t19 next5 s) (fun s t => [(1, pz b2), (4, i6 t19.1), (5, i6 t19.2), (23, v0_2), (24, i6 (a0.kaj.length : Int)), (25, i6 s)]) (fun s t => [Jf b2 [i6 a0.kah, str a0.kai, v0_2, v0_3, v0_4] 26]) (fun s t => True) 0 () [0] H38 (by exact trivial) (by exact ⟨rfl, rfl, rfl, rfl, rfl, rfl, trivial⟩) (by decide) rfl ?_
   rintro x25_2 _ m5 gg H61 _
   clear H38
   try dsimp only at H61
   generalize hn5 : it (fun next5 s => Yl a0 t19 next5 s) m5 = next5 at H61
   try dsimp only
   refine Jc<|Ja<|lv (Ym rfl rfl)<|Jd<|Jc<|?_
   revert H61
   refine ci (decide (x25_2 < (a0.kaj.length : Int))) rfl (fun hb H62=>?_) fun hb H68=>?_
   ·refine Jp<|Jc<|J0<|Jc<|Ja<|?_
    obtain ⟨t27, h_t27, H63⟩ := Je H62; clear H62
    refine lv (Q2 Try.underlying22 Try.sizeOf3 rfl rfl f0_2 h_t27)<|Xn (fun w hF hS => Qt (f := Qa) (i := x25_2) (sz := 1) (j := 0) (v := i6 t27) Try.isAgg3 rfl rfl (f0_2.row (hw.now hF)) h_t27 rfl) rfl rfl rfl<|ag (i6 t27)<|Jd<|Jc<|Ja<|mv (i6 t27)<|mv (i6 t19.1)<|mv (i6 t19.2)<|?_
    obtain ⟨t32, h_t32, H64⟩ := Je H63; clear H63
    refine Vb (k50 h_t32) call50 rfl rfl rfl<|Jd<|?_
    revert H64
    refine ci t32 rfl (fun hb H65=>?_) fun hb H66=>?_
    ·refine Jc<|Ja<|ag (i6 2)<|Jd<|Jr<|?_
     obtain rfl := sj H65
     exact r1 (i6 2)
    ·refine Jp<|Ja<|?_
     obtain ⟨t33, h_t33, H67⟩ := Je H66; clear H66
     refine lv (J4 rfl rfl h_t33)<|mv (i6 t33)<|Jd<|?_
     exact cl t33 () m5 [0] (by exact ⟨(by subst hn5; exact H67), trivial⟩)
   ·refine Xy ?_
    exact cl () () 0 [0] (by exact ⟨H68, trivial⟩)
  ·rintro _ _ gg H39 _
   try dsimp only at H39
   try dsimp only
   refine Qx (r := r) (σ := Unit) (τ := Unit) (fun s => Wf a0) (fun s t => [(1, pz b2)]) (fun s t => [Jf b2 [i6 a0.kah, str a0.kai, v0_2, v0_3, v0_4] 26]) (fun s t => True) ?_ ?_
   ·refine Jc<|Ja<|lf Try.runUnderlying26 rfl Try.sizeOf23 rfl<|ll 0 v0_3 isAgg23<|lv (Va Try.underlying23 rfl f0_3 rfl)<|mv (i6 0)<|Jd<|J0<|?_
    refine Zz (σ := Int) (τ := Unit) (fun next4 s => Yj a0 next4 s) (fun s t => [(1, pz b2), (35, v0_3), (36, i6 (a0.kag.length : Int)), (37, i6 s)]) (fun s t => [Jf b2 [i6 a0.kah, str a0.kai, v0_2, v0_3, v0_4] 26]) (fun s t => True) 0 () [0] H39 (by exact trivial) (by exact ⟨rfl, rfl, rfl, rfl, trivial⟩) (by decide) rfl ?_
    rintro x37_2 _ m4 gg H50 _
    clear H39
    try dsimp only at H50
    generalize hn4 : it (fun next4 s => Yj a0 next4 s) m4 = next4 at H50
    try dsimp only
    refine Jc<|Ja<|lv (Ym rfl rfl)<|Jd<|Jc<|?_
    revert H50
    refine ci (decide (x37_2 < (a0.kag.length : Int))) rfl (fun hb H51=>?_) fun hb H60=>?_
    ·refine Jp<|Jc<|J0<|Jc<|Ja<|?_
     obtain ⟨t39, h_t39, H52⟩ := Je H51; clear H51
     refine lv (Q2 Try.underlying23 Try.sizeOf46 rfl rfl f0_3 h_t39)<|Xn (fun w hF hS => Y2 (f := Jl) (i := x37_2) (sz := 2) (j := 0) (vs := [i6 t39.Num, i6 t39.Den]) isAgg46 Try.sizeOf46 rfl rfl (f0_3.row (hw.now hF)) h_t39 rfl) rfl rfl rfl<|?_
     refine Xw (cs := [i6 0, i6 0]) zeroValue46 rfl rfl rfl (fun b3 => ?_)
     refine st (i := 1) [i6 t39.Num, i6 t39.Den] [i6 t39.Num, i6 t39.Den] Try.sizeOf46 rfl rfl<|Jd<|Jc<|Ja<|lf Try.runUnderlying46 rfl Try.sizeOf3 rfl<|ll 1 (i6 t39.Num) Try.isAgg3<|?_
     obtain ⟨t43, h_t43, H53⟩ := Je H52; clear H52
     refine Vb (k50 h_t43) call50 rfl rfl rfl<|mv (.bool t43)<|?_
     revert H53
     refine sp (fun hb H54=>?_) fun hb H55=>?_
     ·refine pa<|pa<|pa<|pT (.bool true)<|Jd<|Ve rfl<|Jc<|Ja<|ag (i6 2)<|Jd<|Jr<|?_
      obtain rfl := sj H54
      exact r1 (i6 2)
     ·refine lf Try.runUnderlying46 rfl Try.sizeOf3 rfl<|ll 1 (i6 t39.Den) Try.isAgg3<|?_
      obtain ⟨t47, h_t47, H56⟩ := Je H55; clear H55
      refine Vb (k50 h_t47) call50 rfl rfl rfl<|pF (.bool t47)<|Jd<|?_
      revert H56
      refine ci t47 rfl (fun hb H57=>?_) fun hb H58=>?_
      ·refine Jc<|Ja<|ag (i6 2)<|Jd<|Jr<|?_
       obtain rfl := sj H57
       exact r1 (i6 2)
      ·refine Jp<|Ja<|?_
       obtain ⟨t49, h_t49, H59⟩ := Je H58; clear H58
       refine lv (J4 rfl rfl h_t49)<|mv (i6 t49)<|Jd<|?_
       exact cl t49 () m4 [0] (by exact ⟨(by subst hn4; exact H59), trivial⟩)
    ·refine Xy ?_
     exact cl () () 0 [0] (by exact ⟨H60, trivial⟩)
   ·rintro _ _ gg H40 _
    try dsimp only at H40
    try dsimp only
    refine Jc<|Jc<|Ja<|lf Try.runUnderlying26 rfl Try.sizeOf3 rfl<|ll 0 (i6 a0.kah) Try.isAgg3<|lv (Xe rfl rfl)<|Jd<|?_
    revert H40
    refine ci (decide (a0.kah = 2)) rfl (fun hb H41=>?_) fun hb H49=>?_
    ·refine Jc<|Ja<|lf Try.runUnderlying26 rfl Try.sizeOf9 rfl<|ll 0 (str a0.kai) Try.isAgg9<|lv (Ww Try.underlying9 rfl)<|mv (i6 0)<|Jd<|J0<|?_
     refine Zz (σ := Int) (τ := Unit) (fun next3 s => Yu a0 next3 s) (fun s t => [(1, pz b2), (55, i6 (a0.kai.length : Int)), (56, i6 s)]) (fun s t => [Jf b2 [i6 a0.kah, str a0.kai, v0_2, v0_3, v0_4] 26]) (fun s t => True) 0 () [0] H41 (by exact trivial) (by exact ⟨rfl, rfl, rfl, trivial⟩) (by decide) rfl ?_
     rintro x56_2 _ m3 gg H42 _
     clear H41
     try dsimp only at H42
     generalize hn3 : it (fun next3 s => Yu a0 next3 s) m3 = next3 at H42
     try dsimp only
     refine Jc<|Ja<|lv (Ym rfl rfl)<|Jd<|Jc<|?_
     revert H42
     refine ci (decide (x56_2 < (a0.kai.length : Int))) rfl (fun hb H43=>?_) fun hb H48=>?_
     ·refine Jp<|Jc<|J0<|Jc<|Ja<|mv (i6 x56_2)<|ag (i6 x56_2)<|Jd<|Jc<|Ja<|lf Try.runUnderlying26 rfl Try.sizeOf9 rfl<|ll 0 (str a0.kai) Try.isAgg9<|mv (i6 x56_2)<|?_
      obtain ⟨t62, h_t62, H44⟩ := Je H43; clear H43
      refine lv (Jcv Try.underlying9 rfl rfl h_t62)<|lv (Xe rfl rfl)<|Jd<|?_
      revert H44
      refine ci (decide (t62 = 0)) rfl (fun hb H45=>?_) fun hb H46=>?_
      ·refine Jc<|Ja<|ag (i6 9)<|Jd<|Jr<|?_
       obtain rfl := sj H45
       exact r1 (i6 9)
      ·refine Jp<|Ja<|?_
       obtain ⟨t64, h_t64, H47⟩ := Je H46; clear H46
       refine lv (J4 rfl rfl h_t64)<|mv (i6 t64)<|Jd<|?_
       exact cl t64 () m3 [0] (by exact ⟨(by subst hn3; exact H47), trivial⟩)
     ·refine Xy<|Jc<|Ja<|ag (i6 0)<|Jd<|Jr<|?_
      obtain rfl := sj H48
      exact r1 (i6 0)
    ·refine Jp<|Jc<|Ja<|ag (i6 0)<|Jd<|Jr<|?_
     obtain rfl := sj H49
     exact r1 (i6 0)
theorem k46_it (mm : Nat) : ∀ {a0 : (List Ta)} {v0 : Value} {a1 : Int} {r : Int} {w : World} {h : Jt} (hw : Know h w Z2) (f0 : FrN h 6 v0 g_tag_Entry a0) (H : it (fun (self : ((List Ta) × Int) → Option (Int)) (s : (List Ta) × Int) => Yy self s.1 s.2) mm (a0, a1) = some r), Does prog 46 (List.toArray [v0, i6 a1]) w (fun v w' => v = (i6 r) ∧ Grow w w') := by
 induction mm with
 | zero => intros; rename_i H; exact absurd H (by simp [it])
 | succ mm ih =>
  intro a0 v0 a1 r w h hw f0 H
  replace H : Yy (it (fun (self : ((List Ta) × Int) → Option (Int)) (s : (List Ta) × Int) => Yy self s.1 s.2) mm) a0 a1 = some r := H
  generalize it (fun (self : ((List Ta) × Int) → Option (Int)) (s : (List Ta) × Int) => Yy self s.1 s.2) mm = self at H ih
  refine enter (n := 62) func46 rfl rfl rfl Z2 [] (Sat.nil _ _)<|Jc<|Ja<|ag (i6 0)<|Jd<|Jc<|Jc<|Ja<|mv (i6 a1)<|lv (V6 rfl rfl)<|mv (.bool (decide (5 < a1)))<|?_
  revert H
  refine sp (fun hb H31=>?_) fun hb H32=>?_
  ·refine pa<|pa<|pa<|pT (.bool true)<|Jd<|Ve rfl<|Jc<|Ja<|ag (i6 4)<|Jd<|Jr<|?_
   obtain rfl := sj H31
   exact r1 (i6 4)
  ·refine mv v0<|lv (Yw Try.underlying24 rfl f0)<|lv (V6 rfl rfl)<|pF (.bool (decide (200 < (a0.length : Int))))<|Jd<|?_
   revert H32
   refine ci (decide (200 < (a0.length : Int))) rfl (fun hb H33=>?_) fun hb H34=>?_
   ·refine Jc<|Ja<|ag (i6 4)<|Jd<|Jr<|?_
    obtain rfl := sj H33
    exact r1 (i6 4)
   ·refine Jp<|Jc<|Jc<|Ja<|mv v0<|lv (Yw Try.underlying24 rfl f0)<|mv (i6 0)<|Jd<|J0<|?_
    refine Zz (σ := Int) (τ := Unit) (fun next1 s => Uc a0 a1 self next1 s) (fun s t => [(0, v0), (1, i6 a1), (15, v0), (16, i6 (a0.length : Int)), (17, i6 s)]) (fun s t => []) (fun s t => True) 0 () [] H34 (by exact trivial) (by exact ⟨rfl, rfl, rfl, rfl, rfl, trivial⟩) (by decide) rfl ?_
    rintro x17_2 _ m1 gg H35 _
    clear H34
    try dsimp only at H35
    generalize hn1 : it (fun next1 s => Uc a0 a1 self next1 s) m1 = next1 at H35
    try dsimp only
    refine Jc<|Ja<|lv (Ym rfl rfl)<|Jd<|Jc<|?_
    revert H35
    refine ci (decide (x17_2 < (a0.length : Int))) rfl (fun hb H36=>?_) fun hb H60=>?_
    ·refine Jp<|Jc<|J0<|Jc<|Ja<|mv (i6 x17_2)<|?_
     obtain ⟨t20, h_t20, H37⟩ := Je H36; clear H36
     refine lv (Q2 Try.underlying24 Try.sizeOf72 rfl rfl f0.frs (f0.ix h_t20))<|Xn (fun w hF hS => Y2 (f := (elC h v0 6)) (i := x17_2) (sz := 6) (j := 0) (vs := [i6 t20.Tag, i6 t20.Value.kah, str t20.Value.kai, (Xj h v0 6 (Int.toNat x17_2) 3), (Xj h v0 6 (Int.toNat x17_2) 4), (Xj h v0 6 (Int.toNat x17_2) 5)]) isAgg72 Try.sizeOf72 rfl rfl (f0.frs.row (hw.now hF)) (f0.ix h_t20) (Jfb (Qy (f0.at h_t20)) rfl)) rfl rfl rfl<|?_
     refine Xw (cs := [i6 0, i6 0, str [], z0s, z0s, z0s]) zeroValue72 rfl rfl rfl (fun b1 => ?_)
     refine ag (i6 x17_2)<|Yq (i := 0) (vs := [i6 t20.Tag, i6 t20.Value.kah, str t20.Value.kai, (Xj h v0 6 (Int.toNat x17_2) 3), (Xj h v0 6 (Int.toNat x17_2) 4), (Xj h v0 6 (Int.toNat x17_2) 5)]) (cs' := [i6 t20.Tag, i6 t20.Value.kah, str t20.Value.kai, (Xj h v0 6 (Int.toNat x17_2) 3), (Xj h v0 6 (Int.toNat x17_2) 4), (Xj h v0 6 (Int.toNat x17_2) 5)]) Try.sizeOf72 rfl rfl rfl rfl rfl rfl (by simp only [List.all_cons, List.all_nil, (show FrN h 6 (Xj h v0 6 (Int.toNat x17_2) 5) g_tag_Entry t20.Value.kaf from (Qk (Jo (f0.at h_t20)))).one, (show FrS h 1 (Xj h v0 6 (Int.toNat x17_2) 3) (t20.Value.kaj.map Qa) from (Q4 (Jo (f0.at h_t20)))).one, (show FrS h 2 (Xj h v0 6 (Int.toNat x17_2) 4) (t20.Value.kag.map Jl) from (Q5 (Jo (f0.at h_t20)))).one] <;> rfl) rfl rfl<|Jd<|?_
     refine Qx (r := r) (σ := Unit) (τ := Unit) (fun s => Jan a1 self x17_2 next1 t20) (fun s t => [(0, v0), (1, i6 a1), (6, pz b1), (15, v0), (16, i6 (a0.length : Int)), (17, i6 x17_2)]) (fun s t => [Jf b1 [i6 t20.Tag, i6 t20.Value.kah, str t20.Value.kai, (Xj h v0 6 (Int.toNat x17_2) 3), (Xj h v0 6 (Int.toNat x17_2) 4), (Xj h v0 6 (Int.toNat x17_2) 5)] 72]) (fun s t => True) ?_ ?_
     ·refine J0<|Jc<|Ja<|lf Try.runUnderlying72 rfl Try.sizeOf3 rfl<|ll 0 (i6 t20.Tag) Try.isAgg3<|?_
      obtain ⟨t25, h_t25, H51⟩ := Je H37; clear H37
      refine Vb (k50 h_t25) call50 rfl rfl rfl<|ag (.bool t25)<|Jd<|?_
      revert H51
      refine ci t25 rfl (fun hb H52=>?_) fun hb H53=>?_
      ·refine Jc<|Ja<|ag (i6 2)<|Jd<|Jr<|?_
       obtain rfl := sj H52
       exact r1 (i6 2)
      ·refine Jc ?_
       exact Qc (Kd.p :: Kd.p :: Kd.p :: Kd.p :: Kd.d [0] _ :: Kd.p :: Kd.p :: Kd.p :: Kd.p :: Kd.p :: Kd.d [] _ :: Kd.p :: Kd.p :: Kd.p :: []) 0 mixed (by
        refine dm (i6 x17_2)<|dv (V6 rfl rfl)<|dm (.bool (decide (0 < x17_2)))<|?_
        refine Jee (fun hb => ?_) (fun hb => ?_)
        ·have H54 := Jbm hb H53
         refine dv (Qd Try.runUnderlying72 rfl Try.sizeOf3 rfl rfl)<|dl (i6 t20.Tag) Try.isAgg3<|dm v0<|dm (i6 x17_2)<|?_
         have h_t34 := Jx H54
         have H55 := Jq H54
         refine dv (Un rfl rfl h_t34) ?_
         have h_t35 := Jx H55
         have H56 := Jq H55
         refine dv (Q2 Try.underlying24 Try.sizeOf72 rfl rfl f0.frs (f0.ix h_t35))<|dv (Wt Try.runUnderlying72 rfl Try.sizeOf3 rfl rfl (Z9 f0.frs (f0.ix h_t35)))<|Ze (fun w hF => Qt (f := (elC h v0 6)) (i := (val (gI (x17_2 - 1)))) (sz := 6) (j := 0) (v := i6 (val (Q9 a0 (val (gI (x17_2 - 1))))).Tag) Try.isAgg3 rfl rfl (f0.frs.row (hw.now hF)) (f0.ix h_t35) (Jat (Qy (f0.at h_t35)) rfl)) rfl rfl<|dv (Je3 rfl rfl)<|dv (Jbz (v := .bool (decide (t20.Tag ≤ (val (Q9 a0 (val (gI (x17_2 - 1))))).Tag))) rfl rfl)<|Qr rfl rfl (Jy (v := .bool (decide (t20.Tag ≤ (val (Q9 a0 (val (gI (x17_2 - 1))))).Tag))) rfl)<|X2<|?_
         revert H56
         refine ci (decide (t20.Tag ≤ (val (Q9 a0 (val (gI (x17_2 - 1))))).Tag)) rfl (fun hb H57=>?_) fun hb H58=>?_
         ·refine Jc<|Ja<|ag (i6 5)<|Jd<|Jr<|?_
          obtain rfl := sj H57
          exact r1 (i6 5)
         ·refine Jp ?_
          exact cl () () 0 [0] (by exact ⟨H58, trivial⟩)
        ·have H59 := Jbr hb H53
         refine dp<|dp<|dp<|dp<|dp<|dp<|dp<|dp<|dp<|dv (Jbj (v := .bool false) rfl rfl)<|Qr rfl rfl (Jy (v := .bool false) rfl)<|X2<|Wr rfl<|Jp<|?_
         exact cl () () 0 [0] (by exact ⟨H59, trivial⟩)
        ) (by kernel_rfl)
     ·rintro _ _ gg H38 _
      try dsimp only at H38
      try dsimp only
      refine Jc<|Ja<|ag (i6 0)<|Jd<|?_
      refine Qx (r := r) (σ := Int) (τ := Unit) (fun s => V5 x17_2 next1 s) (fun s t => [(0, v0), (1, i6 a1), (7, i6 s), (15, v0), (16, i6 (a0.length : Int)), (17, i6 x17_2)]) (fun s t => []) (fun s t => True) ?_ ?_
      ·refine Jc<|Ja<|lf Try.runUnderlying72 rfl Try.sizeOf26 rfl<|lf Try.runUnderlying26 rfl Try.sizeOf3 rfl<|ll 0 (i6 t20.Value.kah) Try.isAgg3<|lv (Yn rfl rfl)<|Jd<|?_
       revert H38
       refine ci (decide (t20.Value.kah ≠ 13)) rfl (fun hb H43=>?_) fun hb H45=>?_
       ·refine Ja<|lf Try.runUnderlying72 rfl Try.sizeOf26 rfl<|Q1 (i := 0) (vs := [i6 t20.Value.kah, str t20.Value.kai, (Xj h v0 6 (Int.toNat x17_2) 3), (Xj h v0 6 (Int.toNat x17_2) 4), (Xj h v0 6 (Int.toNat x17_2) 5)]) Try.isAgg26 Try.sizeOf26 rfl rfl rfl rfl rfl<|?_
        obtain ⟨t46, h_t46, H44⟩ := Je H43; clear H43
        refine Qg (fun w hF hS => k44 (Jm w) ((show FrS h 1 (Xj h v0 6 (Int.toNat x17_2) 3) (t20.Value.kaj.map Qa) from (Q4 (Jo (f0.at h_t20)))).mono (hw.now hF)) ((show FrS h 2 (Xj h v0 6 (Int.toNat x17_2) 4) (t20.Value.kag.map Jl) from (Q5 (Jo (f0.at h_t20)))).mono (hw.now hF)) ((show FrN h 6 (Xj h v0 6 (Int.toNat x17_2) 5) g_tag_Entry t20.Value.kaf from (Qk (Jo (f0.at h_t20)))).mono (hw.now hF)) h_t46) call44 rfl rfl rfl<|ag (i6 t46)<|Jd<|?_
        exact cl t46 () 0 [] (by exact ⟨H44, trivial⟩)
       ·refine Jc<|Ja<|lf Try.runUnderlying72 rfl Try.sizeOf26 rfl<|Q1 (i := 0) (vs := [i6 t20.Value.kah, str t20.Value.kai, (Xj h v0 6 (Int.toNat x17_2) 3), (Xj h v0 6 (Int.toNat x17_2) 4), (Xj h v0 6 (Int.toNat x17_2) 5)]) Try.isAgg26 Try.sizeOf26 rfl rfl rfl rfl rfl<|?_
        obtain ⟨t49, h_t49, H46⟩ := Je H45; clear H45
        refine Qg (fun w hF hS => k45 (Jm w) ((show FrS h 1 (Xj h v0 6 (Int.toNat x17_2) 3) (t20.Value.kaj.map Qa) from (Q4 (Jo (f0.at h_t20)))).mono (hw.now hF)) ((show FrS h 2 (Xj h v0 6 (Int.toNat x17_2) 4) (t20.Value.kag.map Jl) from (Q5 (Jo (f0.at h_t20)))).mono (hw.now hF)) ((show FrN h 6 (Xj h v0 6 (Int.toNat x17_2) 5) g_tag_Entry t20.Value.kaf from (Qk (Jo (f0.at h_t20)))).mono (hw.now hF)) h_t49) call45 rfl rfl rfl<|ag (i6 t49)<|Jd<|Jc<|Ja<|mv (i6 t49)<|lv (Xe rfl rfl)<|Jd<|?_
        revert H46
        refine ci (decide (t49 = 0)) rfl (fun hb H47=>?_) fun hb H50=>?_
        ·refine Ja<|lf Try.runUnderlying72 rfl Try.sizeOf26 rfl<|lf Try.runUnderlying26 rfl Try.sizeOf24 rfl<|ll 0 (Xj h v0 6 (Int.toNat x17_2) 5) isAgg24<|mv (i6 a1)<|?_
         obtain ⟨t56, h_t56, H48⟩ := Je H47; clear H47
         refine lv (J4 rfl rfl h_t56) ?_
         obtain ⟨t57, h_t57, H49⟩ := Je H48; clear H48
         refine Qg (fun w hF hS => ih (Jm w) ((show FrN h 6 (Xj h v0 6 (Int.toNat x17_2) 5) g_tag_Entry t20.Value.kaf from (Qk (Jo (f0.at h_t20)))).mono (hw.now hF)) h_t57) call46 rfl rfl rfl<|ag (i6 t57)<|Jd<|?_
         exact cl t57 () 0 [] (by exact ⟨H49, trivial⟩)
        ·refine Jp ?_
         exact cl t49 () 0 [] (by exact ⟨H50, trivial⟩)
      ·rintro x7 _ gg H39 _
       try dsimp only at H39
       try dsimp only
       refine Jc<|Ja<|mv (i6 x7)<|lv (Yn rfl rfl)<|Jd<|?_
       revert H39
       refine ci (decide (x7 ≠ 0)) rfl (fun hb H40=>?_) fun hb H41=>?_
       ·refine Jc<|Ja<|mv (i6 x7)<|ag (i6 x7)<|Jd<|Jr<|?_
        obtain rfl := sj H40
        exact r1 (i6 x7)
       ·refine Jp<|Ja<|?_
        obtain ⟨t61, h_t61, H42⟩ := Je H41; clear H41
        refine lv (J4 rfl rfl h_t61)<|mv (i6 t61)<|Jd<|?_
        exact cl t61 () m1 [] (by exact ⟨(by subst hn1; exact H42), trivial⟩)
    ·refine Xy<|Jc<|Ja<|ag (i6 0)<|Jd<|Jr<|?_
     obtain rfl := sj H60
     exact r1 (i6 0)
theorem k46 {a0 : (List Ta)} {v0 : Value} {a1 : Int} {r : Int} {w : World} {h : Jt} (hw : Know h w Z2) (f0 : FrN h 6 v0 g_tag_Entry a0) (H : Jaz a0 a1 = some r) : Does prog 46 (List.toArray [v0, i6 a1]) w (fun v w' => v = (i6 r) ∧ Grow w w') := by
 obtain ⟨mm, hm⟩ := Jfx (show Wq (fun (self : ((List Ta) × Int) → Option (Int)) (s : (List Ta) × Int) => Yy self s.1 s.2) (a0, a1) = some r from H)
 exact k46_it mm hw f0 hm
theorem k19 {a0 : Td} {v0_2 : Value} {v0_3 : Value} {v0_4 : Value} {r : Int} {w : World} {h : Jt} (hw : Know h w Z2) (f0_2 : FrS h 1 v0_2 (a0.kaj.map Qa)) (f0_3 : FrS h 2 v0_3 (a0.kag.map Jl)) (f0_4 : FrN h 6 v0_4 g_tag_Entry a0.kaf) (H : Qe a0 = some r) : Does prog 19 (List.toArray [.agg #[i6 a0.kah, str a0.kai, v0_2, v0_3, v0_4]]) w (fun v w' => v = (i6 r) ∧ Grow w w') := by
 refine enter (n := 26) func19 rfl rfl rfl Z2 [] (Sat.nil _ _)<|Jc<|Ja<|?_
 refine We (cs := [i6 a0.kah, str a0.kai, v0_2, v0_3, v0_4]) rfl rfl rfl rfl (fun b1 => ?_)
 refine ag (i6 0)<|Jd<|Jc<|Jc<|Ja<|lf Try.runUnderlying26 rfl Try.sizeOf3 rfl<|ll 0 (i6 a0.kah) Try.isAgg3<|Jd<|J0<|Jc<|Ja<|lv (Xe rfl rfl)<|ag (.bool (decide (a0.kah = 2)))<|Jd<|?_
 revert H
 refine ci (decide (a0.kah = 2)) rfl (fun hb H10=>?_) fun hb H12=>?_
 ·refine Jc<|Ja<|lf Try.runUnderlying26 rfl Try.sizeOf9 rfl<|ll 0 (str a0.kai) Try.isAgg9<|lv (Ww Try.underlying9 rfl)<|?_
  obtain ⟨t10, h_t10, H11⟩ := Je H10; clear H10
  refine lv (J4 rfl rfl h_t10)<|ag (i6 t10)<|Jd<|Jr<|?_
  obtain rfl := sj H11
  exact r1 (i6 t10)
 ·refine Jc<|Ja<|lv (Xe rfl rfl)<|ag (.bool (decide (a0.kah = 7)))<|Jd<|?_
  revert H12
  refine ci (decide (a0.kah = 7)) rfl (fun hb H13=>?_) fun hb H14=>?_
  ·refine Jc<|Ja<|lf Try.runUnderlying26 rfl Try.sizeOf9 rfl<|ll 0 (str a0.kai) Try.isAgg9<|lv (Ww Try.underlying9 rfl)<|ag (i6 (a0.kai.length : Int))<|Jd<|Jr<|?_
   obtain rfl := sj H13
   exact r1 (i6 (a0.kai.length : Int))
  ·refine Jc<|Ja<|lv (Xe rfl rfl)<|ag (.bool (decide (a0.kah = 5)))<|Jd<|?_
   revert H14
   refine ci (decide (a0.kah = 5)) rfl (fun hb H15=>?_) fun hb H16=>?_
   ·refine Jc<|Ja<|lf Try.runUnderlying26 rfl Try.sizeOf23 rfl<|ll 0 v0_3 isAgg23<|lv (Va Try.underlying23 rfl f0_3 rfl)<|ag (i6 (a0.kag.length : Int))<|Jd<|Jr<|?_
    obtain rfl := sj H15
    exact r1 (i6 (a0.kag.length : Int))
   ·refine Jc<|Ja<|lv (Xe rfl rfl)<|ag (.bool (decide (a0.kah = 13)))<|Jd<|?_
    revert H16
    refine ci (decide (a0.kah = 13)) rfl (fun hb H17=>?_) fun hb H18=>?_
    ·refine Jc<|Ja<|ag (i6 1)<|Jd<|Jr<|?_
     obtain rfl := sj H17
     exact r1 (i6 1)
    ·refine Jp<|Jc<|Ja<|lf Try.runUnderlying26 rfl Try.sizeOf22 rfl<|ll 0 v0_2 isAgg22<|lv (Va Try.underlying22 rfl f0_2 rfl)<|ag (i6 (a0.kaj.length : Int))<|Jd<|Jr<|?_
     obtain rfl := sj H18
     exact r1 (i6 (a0.kaj.length : Int))
theorem k20 {a0 : Td} {v0_2 : Value} {v0_3 : Value} {v0_4 : Value} {r : Int} {w : World} {h : Jt} (hw : Know h w Z2) (f0_2 : FrS h 1 v0_2 (a0.kaj.map Qa)) (f0_3 : FrS h 2 v0_3 (a0.kag.map Jl)) (f0_4 : FrN h 6 v0_4 g_tag_Entry a0.kaf) (H : Vf a0 = some r) : Does prog 20 (List.toArray [.agg #[i6 a0.kah, str a0.kai, v0_2, v0_3, v0_4]]) w (fun v w' => v = (i6 r) ∧ Grow w w') := by
 refine enter (n := 9) func20 rfl rfl rfl Z2 [] (Sat.nil _ _)<|Jc<|Ja<|?_
 refine We (cs := [i6 a0.kah, str a0.kai, v0_2, v0_3, v0_4]) rfl rfl rfl rfl (fun b1 => ?_)
 refine ag (i6 0)<|Jd<|Jc<|?_
 exact Qc (Kd.d [0] _ :: Kd.d [] _ :: Kd.p :: Kd.d [0] _ :: Kd.d [] _ :: Kd.p :: Kd.p :: []) 0 mixed (by
  refine Jbh (i := 0) (vs := [i6 a0.kah, str a0.kai, v0_2, v0_3, v0_4]) Try.isAgg26 Try.sizeOf26 rfl rfl rfl rfl ?_
  have h_t4 := Jx H
  have H4 := Jq H
  refine Jam (fun w L' hF hS hi => k19 (Jm w) (f0_2.mono (hw.now hF)) (f0_3.mono (hw.now hF)) (f0_4.mono (hw.now hF)) h_t4) call19 rfl rfl<|dv (Qd Try.runUnderlying26 rfl Try.sizeOf3 rfl rfl)<|dl (i6 a0.kah) Try.isAgg3<|?_
  have h_t7 := Jx H4
  have H5 := Jq H4
  refine Jdx (k47 h_t7) call47 rfl rfl ?_
  have h_t8 := Jx H5
  have H6 := Jq H5
  refine dv (Vs rfl rfl h_t8)<|Qr rfl rfl (Jy (v := i6 (val (gI ((val (Qe a0)) * (val (Zb a0.kah)))))) rfl)<|X2<|Jr<|?_
  obtain rfl := sj H6
  exact r1 (i6 (val (gI ((val (Qe a0)) * (val (Zb a0.kah))))))
  ) (by kernel_rfl)
theorem k84 {a0 : Int} {r : Int} (H : Jcm a0 = some r) : Ret prog 84 [i6 a0] (i6 r) := by
 refine Vz (n := 7) func84 rfl rfl rfl (fun wd => ?_)
 refine Jc<|Ja<|ag (i6 0)<|Jd<|Jc<|Ja<|mv (i6 a0)<|mv (i6 a0)<|?_
 obtain ⟨t5, h_t5, H3⟩ := Je H; clear H
 refine lv (r_remG rfl rfl h_t5) ?_
 obtain ⟨t6, h_t6, H4⟩ := Je H3; clear H3
 refine lv (J4 rfl rfl h_t6)<|ag (i6 t6)<|Jd<|Jr<|?_
 obtain rfl := sj H4
 exact r1 (i6 t6)
theorem k69_it (mm : Nat) : ∀ {a0 : (List Ta)} {v0 : Value} {a1 : Int} {r : Int} {w : World} {h : Jt} (hw : Know h w Z2) (f0 : FrN h 6 v0 g_tag_Entry a0) (H : it (fun (self : ((List Ta) × Int) → Option (Int)) (s : (List Ta) × Int) => Zr self s.1 s.2) mm (a0, a1) = some r), Does prog 69 (List.toArray [v0, i6 a1]) w (fun v w' => v = (i6 r) ∧ Grow w w') := by
 induction mm with
 | zero => intros; rename_i H; exact absurd H (by simp [it])
 | succ mm ih =>
  intro a0 v0 a1 r w h hw f0 H
  replace H : Zr (it (fun (self : ((List Ta) × Int) → Option (Int)) (s : (List Ta) × Int) => Zr self s.1 s.2) mm) a0 a1 = some r := H
  generalize it (fun (self : ((List Ta) × Int) → Option (Int)) (s : (List Ta) × Int) => Zr self s.1 s.2) mm = self at H ih
  refine enter (n := 44) func69 rfl rfl rfl Z2 [] (Sat.nil _ _)<|Jc<|Ja<|ag (i6 0)<|Jd<|Jc<|Ja<|mv (i6 a1)<|?_
  obtain ⟨t8, h_t8, H21⟩ := Je H; clear H
  refine Vb (k84 h_t8) call84 rfl rfl rfl ?_
  obtain ⟨t9, h_t9, H22⟩ := Je H21; clear H21
  refine lv (J4 rfl rfl h_t9)<|mv v0<|lv (Yw Try.underlying24 rfl f0)<|?_
  obtain ⟨t12, h_t12, H23⟩ := Je H22; clear H22
  refine lv (Vs rfl rfl h_t12) ?_
  obtain ⟨t13, h_t13, H24⟩ := Je H23; clear H23
  refine lv (J4 rfl rfl h_t13) ?_
  obtain ⟨t14, h_t14, H25⟩ := Je H24; clear H24
  refine lv (J4 rfl rfl h_t14)<|ag (i6 t14)<|Jd<|Jc<|Jc<|Ja<|mv v0<|lv (Yw Try.underlying24 rfl f0)<|mv (i6 0)<|Jd<|J0<|?_
  refine Zz (σ := Int × Int) (τ := Unit) (fun next1 s => Vn a0 self next1 s.1 s.2) (fun s t => [(1, i6 s.1), (15, v0), (16, i6 (a0.length : Int)), (17, i6 s.2)]) (fun s t => []) (fun s t => True) (t14, 0) () [] H25 (by exact trivial) (by exact ⟨rfl, rfl, rfl, rfl, trivial⟩) (by decide) rfl ?_
  rintro ⟨x1_2, x17_2⟩ _ m1 gg H26 _
  clear H25
  try dsimp only at H26
  generalize hn1 : it (fun next1 s => Vn a0 self next1 s.1 s.2) m1 = next1 at H26
  try dsimp only
  refine Jc<|Ja<|lv (Ym rfl rfl)<|Jd<|Jc<|?_
  revert H26
  refine ci (decide (x17_2 < (a0.length : Int))) rfl (fun hb H27=>?_) fun hb H40=>?_
  ·refine Jp ?_
   refine Qx (r := r) (σ := Int) (τ := Unit) (fun s => Uf x17_2 next1 s) (fun s t => [(1, i6 s), (15, v0), (16, i6 (a0.length : Int)), (17, i6 x17_2)]) (fun s t => []) (fun s t => True) ?_ ?_
   ·refine J0<|Jc<|Ja<|?_
    obtain ⟨t19, h_t19, H30⟩ := Je H27; clear H27
    refine lv (Q2 Try.underlying24 Try.sizeOf72 rfl rfl f0.frs (f0.ix h_t19))<|Xn (fun w hF hS => Y2 (f := (elC h v0 6)) (i := x17_2) (sz := 6) (j := 0) (vs := [i6 t19.Tag, i6 t19.Value.kah, str t19.Value.kai, (Xj h v0 6 (Int.toNat x17_2) 3), (Xj h v0 6 (Int.toNat x17_2) 4), (Xj h v0 6 (Int.toNat x17_2) 5)]) isAgg72 Try.sizeOf72 rfl rfl (f0.frs.row (hw.now hF)) (f0.ix h_t19) (Jfb (Qy (f0.at h_t19)) rfl)) rfl rfl rfl<|?_
    refine Xw (cs := [i6 0, i6 0, str [], z0s, z0s, z0s]) zeroValue72 rfl rfl rfl (fun b1 => ?_)
    refine Yq (i := 0) (vs := [i6 t19.Tag, i6 t19.Value.kah, str t19.Value.kai, (Xj h v0 6 (Int.toNat x17_2) 3), (Xj h v0 6 (Int.toNat x17_2) 4), (Xj h v0 6 (Int.toNat x17_2) 5)]) (cs' := [i6 t19.Tag, i6 t19.Value.kah, str t19.Value.kai, (Xj h v0 6 (Int.toNat x17_2) 3), (Xj h v0 6 (Int.toNat x17_2) 4), (Xj h v0 6 (Int.toNat x17_2) 5)]) Try.sizeOf72 rfl rfl rfl rfl rfl rfl (by simp only [List.all_cons, List.all_nil, (show FrN h 6 (Xj h v0 6 (Int.toNat x17_2) 5) g_tag_Entry t19.Value.kaf from (Qk (Jo (f0.at h_t19)))).one, (show FrS h 1 (Xj h v0 6 (Int.toNat x17_2) 3) (t19.Value.kaj.map Qa) from (Q4 (Jo (f0.at h_t19)))).one, (show FrS h 2 (Xj h v0 6 (Int.toNat x17_2) 4) (t19.Value.kag.map Jl) from (Q5 (Jo (f0.at h_t19)))).one] <;> rfl) rfl rfl<|Jd<|J0<|Jc<|Ja<|lf Try.runUnderlying72 rfl Try.sizeOf26 rfl<|lf Try.runUnderlying26 rfl Try.sizeOf3 rfl<|ll 0 (i6 t19.Value.kah) Try.isAgg3<|lv (Xe rfl rfl)<|ag (.bool (decide (t19.Value.kah = 13)))<|Jd<|?_
    revert H30
    refine ci (decide (t19.Value.kah = 13)) rfl (fun hb H31=>?_) fun hb H33=>?_
    ·refine Ja<|lf Try.runUnderlying72 rfl Try.sizeOf26 rfl<|lf Try.runUnderlying26 rfl Try.sizeOf24 rfl<|ll 0 (Xj h v0 6 (Int.toNat x17_2) 5) isAgg24<|mv (i6 x1_2)<|?_
     obtain ⟨t30, h_t30, H32⟩ := Je H31; clear H31
     refine Qg (fun w hF hS => ih (Jm w) ((show FrN h 6 (Xj h v0 6 (Int.toNat x17_2) 5) g_tag_Entry t19.Value.kaf from (Qk (Jo (f0.at h_t19)))).mono (hw.now hF)) h_t30) call69 rfl rfl rfl<|ag (i6 t30)<|Jd<|?_
     exact cl t30 () 0 [] (by exact ⟨H32, trivial⟩)
    ·refine Jc<|Ja<|lf Try.runUnderlying72 rfl Try.sizeOf26 rfl<|Q1 (i := 0) (vs := [i6 t19.Value.kah, str t19.Value.kai, (Xj h v0 6 (Int.toNat x17_2) 3), (Xj h v0 6 (Int.toNat x17_2) 4), (Xj h v0 6 (Int.toNat x17_2) 5)]) Try.isAgg26 Try.sizeOf26 rfl rfl rfl rfl rfl<|?_
     obtain ⟨t34, h_t34, H34⟩ := Je H33; clear H33
     refine Qg (fun w hF hS => k20 (Jm w) ((show FrS h 1 (Xj h v0 6 (Int.toNat x17_2) 3) (t19.Value.kaj.map Qa) from (Q4 (Jo (f0.at h_t19)))).mono (hw.now hF)) ((show FrS h 2 (Xj h v0 6 (Int.toNat x17_2) 4) (t19.Value.kag.map Jl) from (Q5 (Jo (f0.at h_t19)))).mono (hw.now hF)) ((show FrN h 6 (Xj h v0 6 (Int.toNat x17_2) 5) g_tag_Entry t19.Value.kaf from (Qk (Jo (f0.at h_t19)))).mono (hw.now hF)) h_t34) call20 rfl rfl rfl<|lv (V6 rfl rfl)<|ag (.bool (decide (4 < t34)))<|Jd<|?_
     revert H34
     refine ci (decide (4 < t34)) rfl (fun hb H35=>?_) fun hb H39=>?_
     ·exact Qc (Kd.p :: Kd.d [] _ :: Kd.p :: Kd.d [0] _ :: Kd.d [] _ :: Kd.p :: Kd.p :: []) 0 mixed (by
       refine dm (i6 x1_2) ?_
       have h_t37 := Jx H35
       have H36 := Jq H35
       refine Jdx (k84 h_t37) call84 rfl rfl<|dv (Qd Try.runUnderlying72 rfl Try.sizeOf26 rfl rfl)<|Jbh (i := 0) (vs := [i6 t19.Value.kah, str t19.Value.kai, (Xj h v0 6 (Int.toNat x17_2) 3), (Xj h v0 6 (Int.toNat x17_2) 4), (Xj h v0 6 (Int.toNat x17_2) 5)]) Try.isAgg26 Try.sizeOf26 rfl rfl rfl rfl<|?_
       have h_t40 := Jx H36
       have H37 := Jq H36
       refine Jam (fun w L' hF hS hi => k20 (Jm w) ((show FrS h 1 (Xj h v0 6 (Int.toNat x17_2) 3) (t19.Value.kaj.map Qa) from (Q4 (Jo (f0.at h_t19)))).mono (hw.now hF)) ((show FrS h 2 (Xj h v0 6 (Int.toNat x17_2) 4) (t19.Value.kag.map Jl) from (Q5 (Jo (f0.at h_t19)))).mono (hw.now hF)) ((show FrN h 6 (Xj h v0 6 (Int.toNat x17_2) 5) g_tag_Entry t19.Value.kaf from (Qk (Jo (f0.at h_t19)))).mono (hw.now hF)) h_t40) call20 rfl rfl ?_
       have h_t41 := Jx H37
       have H38 := Jq H37
       refine dv (J4 rfl rfl h_t41)<|Qr rfl rfl (Jy (v := i6 (val (gI ((val (Jcm x1_2)) + (val (Vf t19.Value)))))) rfl)<|X2<|?_
       exact cl (val (gI ((val (Jcm x1_2)) + (val (Vf t19.Value))))) () 0 [] (by exact ⟨H38, trivial⟩)
       ) (by kernel_rfl)
     ·refine Jp ?_
      exact cl x1_2 () 0 [] (by exact ⟨H39, trivial⟩)
   ·rintro x1_3 _ gg H28 _
    try dsimp only at H28
    try dsimp only
    refine Ja ?_
    obtain ⟨t42, h_t42, H29⟩ := Je H28; clear H28
    refine lv (J4 rfl rfl h_t42)<|mv (i6 t42)<|Jd<|?_
    exact cl (x1_3, t42) () m1 [] (by exact ⟨(by subst hn1; exact H29), trivial⟩)
  ·refine Xy<|Jc<|Ja<|mv (i6 x1_2)<|ag (i6 x1_2)<|Jd<|Jr<|?_
   obtain rfl := sj H40
   exact r1 (i6 x1_2)
theorem k69 {a0 : (List Ta)} {v0 : Value} {a1 : Int} {r : Int} {w : World} {h : Jt} (hw : Know h w Z2) (f0 : FrN h 6 v0 g_tag_Entry a0) (H : Jdn a0 a1 = some r) : Does prog 69 (List.toArray [v0, i6 a1]) w (fun v w' => v = (i6 r) ∧ Grow w w') := by
 obtain ⟨mm, hm⟩ := Jfx (show Wq (fun (self : ((List Ta) × Int) → Option (Int)) (s : (List Ta) × Int) => Zr self s.1 s.2) (a0, a1) = some r from H)
 exact k69_it mm hw f0 hm
theorem k48 {a0 : Tg} {v0_1 : Value} {r : Int} {w : World} {h : Jt} (hw : Know h w Z2) (f0_1 : FrN h 1 v0_1 gs_tag_Entry a0.kal) (H : Jgl a0 = some r) : Does prog 48 (List.toArray [.agg #[.bool a0.Big, v0_1]]) w (fun v w' => v = (i6 r) ∧ Grow w w') := by
 refine enter (n := 18) func48 rfl rfl rfl Z2 [] (Sat.nil _ _)<|Jc<|Ja<|?_
 refine We (cs := [.bool a0.Big, v0_1]) rfl rfl rfl rfl (fun b1 => ?_)
 refine ag (i6 0)<|Jd<|Jc<|Ja<|ag (i6 8)<|Jd<|Jc<|Jc<|Ja<|lf Try.runUnderlying33 rfl Try.sizeOf31 rfl<|ll 0 v0_1 isAgg31<|lv (Yw Try.underlying31 rfl f0_1)<|mv (i6 0)<|Jd<|J0<|Jce 0<|?_
 try dsimp only [z1, z2, z3, z4, z5, z6, z7, z8]
 refine Zz (σ := Int × Int) (τ := Unit) (fun next1 s => Wy a0 next1 s.1 s.2) (fun s t => [(3, i6 s.1), (7, v0_1), (8, i6 (a0.kal.length : Int)), (9, i6 s.2)]) (fun s t => []) (fun s t => True) (8, 0) () [] H (by exact trivial) (by exact ⟨rfl, rfl, rfl, rfl, trivial⟩) (by decide) rfl ?_
 rintro ⟨x3_2, x9_2⟩ _ m1 gg H7 _
 clear H
 try dsimp only at H7
 generalize hn1 : it (fun next1 s => Wy a0 next1 s.1 s.2) m1 = next1 at H7
 try dsimp only
 refine Jc<|Ja<|lv (Ym rfl rfl)<|Jd<|Jc<|?_
 revert H7
 refine ci (decide (x9_2 < (a0.kal.length : Int))) rfl (fun hb H8=>?_) fun hb H12=>?_
 ·refine Jp<|Jc<|J0<|Jc<|Ja<|?_
  obtain ⟨t11, h_t11, H9⟩ := Je H8; clear H8
  refine lv (Q2 Try.underlying31 Try.sizeOf24 rfl rfl f0_1.frs (f0_1.ix h_t11))<|Xn (fun w hF hS => Qt (f := (elC h v0_1 1)) (i := x9_2) (sz := 1) (j := 0) (v := (Xj h v0_1 1 (Int.toNat x9_2) 0)) isAgg24 rfl rfl (f0_1.frs.row (hw.now hF)) (f0_1.ix h_t11) (Jat (Wm (f0_1.at h_t11)) rfl)) rfl rfl rfl<|ag ((Xj h v0_1 1 (Int.toNat x9_2) 0))<|Jd<|Ja<|mv ((Xj h v0_1 1 (Int.toNat x9_2) 0))<|mv (i6 x3_2)<|?_
  obtain ⟨t15, h_t15, H10⟩ := Je H9; clear H9
  refine Qg (fun w hF hS => k69 (Jm w) ((show FrN h 6 (Xj h v0_1 1 (Int.toNat x9_2) 0) g_tag_Entry t11 from (f0_1.at h_t11)).mono (hw.now hF)) h_t15) call69 rfl rfl rfl<|ag (i6 t15)<|Jd<|Ja<|?_
  obtain ⟨t16, h_t16, H11⟩ := Je H10; clear H10
  refine lv (J4 rfl rfl h_t16)<|mv (i6 t16)<|Jd<|?_
  exact cl (t15, t16) () m1 [] (by exact ⟨(by subst hn1; exact H11), trivial⟩)
 ·refine Xy<|Jc<|Ja<|mv (i6 x3_2)<|ag (i6 x3_2)<|Jd<|Jr<|?_
  obtain rfl := sj H12
  exact r1 (i6 x3_2)
theorem k24 {a0 : Tg} {v0_1 : Value} {r : Int} {w : World} {h : Jt} (hw : Know h w Z2) (f0_1 : FrN h 1 v0_1 gs_tag_Entry a0.kal) (H : Zw a0 = some r) : Does prog 24 (List.toArray [.agg #[.bool a0.Big, v0_1]]) w (fun v w' => v = (i6 r) ∧ Grow w w') := by
 refine enter (n := 26) func24 rfl rfl rfl Z2 [] (Sat.nil _ _)<|Jc<|Ja<|?_
 refine We (cs := [.bool a0.Big, v0_1]) rfl rfl rfl rfl (fun b1 => ?_)
 refine ag (i6 0)<|Jd<|Jc<|Jc<|Ja<|lf Try.runUnderlying33 rfl Try.sizeOf31 rfl<|ll 0 v0_1 isAgg31<|lv (Yw Try.underlying31 rfl f0_1)<|lv (V6 rfl rfl)<|Jd<|?_
 revert H
 refine ci (decide (20 < (a0.kal.length : Int))) rfl (fun hb H15=>?_) fun hb H16=>?_
 ·refine Jc<|Ja<|ag (i6 4)<|Jd<|Jr<|?_
  obtain rfl := sj H15
  exact r1 (i6 4)
 ·refine Jp ?_
  refine Qx (r := r) (σ := Unit) (τ := Unit) (fun s => Jdt a0) (fun s t => [(1, pz b1)]) (fun s t => [Jf b1 [.bool a0.Big, v0_1] 33]) (fun s t => True) ?_ ?_
  ·refine Jc<|Ja<|lf Try.runUnderlying33 rfl Try.sizeOf31 rfl<|ll 0 v0_1 isAgg31<|lv (Yw Try.underlying31 rfl f0_1)<|mv (i6 0)<|Jd<|J0<|?_
   refine Zz (σ := Int) (τ := Unit) (fun next2 s => V9 a0 next2 s) (fun s t => [(1, pz b1), (11, v0_1), (12, i6 (a0.kal.length : Int)), (13, i6 s)]) (fun s t => [Jf b1 [.bool a0.Big, v0_1] 33]) (fun s t => True) 0 () [0] H16 (by exact trivial) (by exact ⟨rfl, rfl, rfl, rfl, trivial⟩) (by decide) rfl ?_
   rintro x13_2 _ m2 gg H21 _
   clear H16
   try dsimp only at H21
   generalize hn2 : it (fun next2 s => V9 a0 next2 s) m2 = next2 at H21
   try dsimp only
   refine Jc<|Ja<|lv (Ym rfl rfl)<|Jd<|Jc<|?_
   revert H21
   refine ci (decide (x13_2 < (a0.kal.length : Int))) rfl (fun hb H22=>?_) fun hb H28=>?_
   ·refine Jp<|Jc<|J0<|Jc<|Ja<|?_
    obtain ⟨t15, h_t15, H23⟩ := Je H22; clear H22
    refine lv (Q2 Try.underlying31 Try.sizeOf24 rfl rfl f0_1.frs (f0_1.ix h_t15))<|Xn (fun w hF hS => Qt (f := (elC h v0_1 1)) (i := x13_2) (sz := 1) (j := 0) (v := (Xj h v0_1 1 (Int.toNat x13_2) 0)) isAgg24 rfl rfl (f0_1.frs.row (hw.now hF)) (f0_1.ix h_t15) (Jat (Wm (f0_1.at h_t15)) rfl)) rfl rfl rfl<|ag ((Xj h v0_1 1 (Int.toNat x13_2) 0))<|Jd<|Jc<|Ja<|mv ((Xj h v0_1 1 (Int.toNat x13_2) 0))<|?_
    obtain ⟨t18, h_t18, H24⟩ := Je H23; clear H23
    refine Qg (fun w hF hS => k46 (Jm w) ((show FrN h 6 (Xj h v0_1 1 (Int.toNat x13_2) 0) g_tag_Entry t15 from (f0_1.at h_t15)).mono (hw.now hF)) h_t18) call46 rfl rfl rfl<|ag (i6 t18)<|Jd<|Jc<|Ja<|mv (i6 t18)<|lv (Yn rfl rfl)<|Jd<|?_
    revert H24
    refine ci (decide (t18 ≠ 0)) rfl (fun hb H25=>?_) fun hb H26=>?_
    ·refine Jc<|Ja<|mv (i6 t18)<|ag (i6 t18)<|Jd<|Jr<|?_
     obtain rfl := sj H25
     exact r1 (i6 t18)
    ·refine Jp<|Ja<|?_
     obtain ⟨t22, h_t22, H27⟩ := Je H26; clear H26
     refine lv (J4 rfl rfl h_t22)<|mv (i6 t22)<|Jd<|?_
     exact cl t22 () m2 [0] (by exact ⟨(by subst hn2; exact H27), trivial⟩)
   ·refine Xy ?_
    exact cl () () 0 [0] (by exact ⟨H28, trivial⟩)
  ·rintro _ _ gg H17 _
   try dsimp only at H17
   try dsimp only
   refine Jc<|Jc<|Ja<|Q1 (i := 0) (vs := [.bool a0.Big, v0_1]) Try.isAgg33 Try.sizeOf33 rfl rfl rfl rfl rfl<|?_
   obtain ⟨t24, h_t24, H18⟩ := Je H17; clear H17
   refine Qg (fun w hF hS => k48 (Jm w) (f0_1.mono (hw.now hF)) h_t24) call48 rfl rfl rfl<|lv (V6 rfl rfl)<|Jd<|?_
   revert H18
   refine ci (decide (65000 < t24)) rfl (fun hb H19=>?_) fun hb H20=>?_
   ·refine Jc<|Ja<|ag (i6 4)<|Jd<|Jr<|?_
    obtain rfl := sj H19
    exact r1 (i6 4)
   ·refine Jp<|Jc<|Ja<|ag (i6 0)<|Jd<|Jr<|?_
    obtain rfl := sj H20
    exact r1 (i6 0)
theorem k15 {a0 : Td} {v0_2 : Value} {v0_3 : Value} {v0_4 : Value} {r : Int} {w : World} {h : Jt} (hw : Know h w Z2) (f0_2 : FrS h 1 v0_2 (a0.kaj.map Qa)) (f0_3 : FrS h 2 v0_3 (a0.kag.map Jl)) (f0_4 : FrN h 6 v0_4 g_tag_Entry a0.kaf) (H : Uy a0 = some r) : Does prog 15 (List.toArray [.agg #[i6 a0.kah, str a0.kai, v0_2, v0_3, v0_4]]) w (fun v w' => v = (i6 r) ∧ Grow w w') := by
 refine enter (n := 17) func15 rfl rfl rfl Z2 [] (Sat.nil _ _)<|Jc<|Ja<|?_
 refine We (cs := [i6 a0.kah, str a0.kai, v0_2, v0_3, v0_4]) rfl rfl rfl rfl (fun b1 => ?_)
 refine ag (i6 0)<|Jd<|Jc<|Jc<|Ja<|lf Try.runUnderlying26 rfl Try.sizeOf3 rfl<|ll 0 (i6 a0.kah) Try.isAgg3<|lv (Yn rfl rfl)<|Jd<|?_
 revert H
 refine ci (decide (a0.kah ≠ 13)) rfl (fun hb H8=>?_) fun hb H10=>?_
 ·refine Jc<|Ja<|Q1 (i := 0) (vs := [i6 a0.kah, str a0.kai, v0_2, v0_3, v0_4]) Try.isAgg26 Try.sizeOf26 rfl rfl rfl rfl rfl<|?_
  obtain ⟨t8, h_t8, H9⟩ := Je H8; clear H8
  refine Qg (fun w hF hS => k44 (Jm w) (f0_2.mono (hw.now hF)) (f0_3.mono (hw.now hF)) (f0_4.mono (hw.now hF)) h_t8) call44 rfl rfl rfl<|ag (i6 t8)<|Jd<|Jr<|?_
  obtain rfl := sj H9
  exact r1 (i6 t8)
 ·refine Jp<|Jc<|Jc<|Ja<|Q1 (i := 0) (vs := [i6 a0.kah, str a0.kai, v0_2, v0_3, v0_4]) Try.isAgg26 Try.sizeOf26 rfl rfl rfl rfl rfl<|?_
  obtain ⟨t10, h_t10, H11⟩ := Je H10; clear H10
  refine Qg (fun w hF hS => k45 (Jm w) (f0_2.mono (hw.now hF)) (f0_3.mono (hw.now hF)) (f0_4.mono (hw.now hF)) h_t10) call45 rfl rfl rfl<|ag (i6 t10)<|Jd<|Jc<|Ja<|mv (i6 t10)<|lv (Yn rfl rfl)<|Jd<|?_
  revert H11
  refine ci (decide (t10 ≠ 0)) rfl (fun hb H12=>?_) fun hb H13=>?_
  ·refine Jc<|Ja<|mv (i6 t10)<|ag (i6 t10)<|Jd<|Jr<|?_
   obtain rfl := sj H12
   exact r1 (i6 t10)
  ·refine Jp<|Jc<|Ja<|lf Try.runUnderlying26 rfl Try.sizeOf24 rfl<|ll 0 v0_4 isAgg24<|?_
   obtain ⟨t16, h_t16, H14⟩ := Je H13; clear H13
   refine Qg (fun w hF hS => k46 (Jm w) (f0_4.mono (hw.now hF)) h_t16) call46 rfl rfl rfl<|ag (i6 t16)<|Jd<|Jr<|?_
   obtain rfl := sj H14
   exact r1 (i6 t16)
theorem k35 {a0 : (List Int)} {v0 : Value} {r : (List Int)} {w : World} {h : Jt} (hw : Know h w Z2) (f0 : FrS h 1 v0 (a0.map Qa)) (H : Jj a0 = some r) : Does prog 35 (List.toArray [v0]) w (fun v w' => ∃ x : AN, v = (sl x r.length) ∧ Turn w w' Z2 (J3 3 1 (sl x r.length) r.length (r.map Qa))) := by
 refine enter (n := 8) func35 rfl rfl rfl Z2 [] (Sat.nil _ _)<|Jc<|Ja<|ag (z0s)<|Jd<|Jc<|Jc<|Ja<|mv v0<|lv (r_eqlNilS Try.underlying22 f0 rfl rfl)<|Jd<|?_
 refine Jcx (b := Jd2 v0) rfl (fun hb => ?_) (fun hb => ?_)
 ·have hn_ : a0 = [] := f0.nilV hb
  have H3 : some ([] : List Int) = some r := by have h_ := H; rw [hn_] at h_; exact h_
  refine Jc<|Ja<|ag (z0s)<|Jd<|Jr<|J5 3 1<|?_
  obtain rfl := sj H3
  refine Jbw (v := sl nn ([] : List Int).length) rfl rfl (Y9 nn (i := 0) rfl rfl (Imp.refl _))
 ·skip
  refine Jp<|Jc<|Ja<|?_
  refine Qw (vs := []) (cs := []) Try.underlying22 Try.sizeOf3 zeroValue3 rfl rfl rfl rfl rfl rfl rfl (fun b1 => ?_)
  refine mv v0<|Xl 0 rfl (imp_box (m := 0) (E := 3) (sz := 1) (xs := (([] : List Int)).map Qa) rfl rfl rfl ⟨rfl, by decide⟩)<|?_
  obtain ⟨l7, h_l7, H4⟩ := Je H; clear H
  refine Qf (Ys (i := 0) (hn := rfl) (rds := []) (p := ((some ⟨b1, 0, none⟩, 0) : AN)) (sz := 1) (by_ := 8) (f := Qa) (ys := ([] : List Int)) (ls := a0) (V := v0) Try.underlying22 (Qu typeInfo3) rfl rfl rfl rfl rfl rfl rfl rfl f0.eq (List.length_map _) (fun w L' hF hS hi => (f0).row (hw.now hF)) (fun _ => rfl) (fun _ => rfl) h_l7) rfl rfl rfl (fun p => ?_)
  refine ag (sl p l7.length)<|Jd<|Jr<|?_
  obtain rfl := sj H4
  refine Jbw (v := sl p l7.length) rfl rfl (Y9 p (i := 0) rfl rfl (Imp.refl _))
theorem k34 {a : Option Addr} {n c : Nat} (hc : n ≤ c) : Ret prog 34 [.slice a n c] (.slice (Xg a 0 n 1) n n) := by
  refine Vz (n := 9) func34 rfl rfl rfl (fun wd => ?_)
  refine Jc<|Ja<|ag (z0s)<|Jd<|Jc<|Ja<|mv (.slice a n c)<|mv (.slice a n c)<|lv (Ur Try.underlying22 rfl)<|mv (.slice a n c)<|lv (Ur Try.underlying22 rfl)<|lv (Jem (a := a) (m := n) (c := c) (h := (n : Int)) (q := (n : Int)) Try.underlying22 Try.sizeOf3 rfl rfl rfl (Int.natCast_nonneg n) (Int.le_refl _) (Int.ofNat_le.2 hc))<|ag (.slice (Xg a 0 n 1) n n)<|Jd<|Jr<|?_
  exact Jbw (v := .slice (Xg a 0 n 1) n n) rfl rfl (fin rfl)
theorem kF34 {H : Jt} {v : Value} {xs : List (List Value)} (s : FrS H 1 v xs) : Ret prog 34 [v] (clipV 1 v) := by
  obtain ⟨a, c, rfl, h1, _, _⟩ := s.out
  exact k34 h1
theorem k52 {a0 : (List Tf)} {v0 : Value} {r : (List Tf)} {w : World} {h : Jt} (hw : Know h w Z2) (f0 : FrS h 2 v0 (a0.map Jl)) (H : W7 a0 = some r) : Does prog 52 (List.toArray [v0]) w (fun v w' => ∃ x : AN, v = (sl x r.length) ∧ Turn w w' Z2 (J3 46 2 (sl x r.length) r.length (r.map Jl))) := by
 refine enter (n := 8) func52 rfl rfl rfl Z2 [] (Sat.nil _ _)<|Jc<|Ja<|ag (z0s)<|Jd<|Jc<|Jc<|Ja<|mv v0<|lv (r_eqlNilS Try.underlying23 f0 rfl rfl)<|Jd<|?_
 refine Jcx (b := Jd2 v0) rfl (fun hb => ?_) (fun hb => ?_)
 ·have hn_ : a0 = [] := f0.nilV hb
  have H3 : some ([] : List Tf) = some r := by have h_ := H; rw [hn_] at h_; exact h_
  refine Jc<|Ja<|ag (z0s)<|Jd<|Jr<|J5 46 2<|?_
  obtain rfl := sj H3
  refine Jbw (v := sl nn ([] : List Tf).length) rfl rfl (Y9 nn (i := 0) rfl rfl (Imp.refl _))
 ·skip
  refine Jp<|Jc<|Ja<|?_
  refine Qw (vs := []) (cs := []) Try.underlying23 Try.sizeOf46 zeroValue46 rfl rfl rfl rfl rfl rfl rfl (fun b1 => ?_)
  refine mv v0<|Xl 0 rfl (imp_box (m := 0) (E := 46) (sz := 2) (xs := (([] : List Tf)).map Jl) rfl rfl rfl ⟨rfl, by decide⟩)<|?_
  obtain ⟨l7, h_l7, H4⟩ := Je H; clear H
  refine Qf (Ys (i := 0) (hn := rfl) (rds := []) (p := ((some ⟨b1, 0, none⟩, 0) : AN)) (sz := 2) (by_ := 16) (f := Jl) (ys := ([] : List Tf)) (ls := a0) (V := v0) Try.underlying23 (Qu typeInfo46) rfl rfl rfl rfl rfl rfl rfl rfl f0.eq (List.length_map _) (fun w L' hF hS hi => (f0).row (hw.now hF)) (fun _ => rfl) (fun _ => rfl) h_l7) rfl rfl rfl (fun p => ?_)
  refine ag (sl p l7.length)<|Jd<|Jr<|?_
  obtain rfl := sj H4
  refine Jbw (v := sl p l7.length) rfl rfl (Y9 p (i := 0) rfl rfl (Imp.refl _))
theorem k51 {a : Option Addr} {n c : Nat} (hc : n ≤ c) : Ret prog 51 [.slice a n c] (.slice (Xg a 0 n 2) n n) := by
  refine Vz (n := 9) func51 rfl rfl rfl (fun wd => ?_)
  refine Jc<|Ja<|ag (z0s)<|Jd<|Jc<|Ja<|mv (.slice a n c)<|mv (.slice a n c)<|lv (Ur Try.underlying23 rfl)<|mv (.slice a n c)<|lv (Ur Try.underlying23 rfl)<|lv (Jem (a := a) (m := n) (c := c) (h := (n : Int)) (q := (n : Int)) Try.underlying23 Try.sizeOf46 rfl rfl rfl (Int.natCast_nonneg n) (Int.le_refl _) (Int.ofNat_le.2 hc))<|ag (.slice (Xg a 0 n 2) n n)<|Jd<|Jr<|?_
  exact Jbw (v := .slice (Xg a 0 n 2) n n) rfl rfl (fin rfl)
theorem ovl55 (x y : Value) (w : World) : (callFunc 55 (List.toArray [x, y])).run prog w = (do pure (.value (← Extern.SlicesOverlaps.overlaps #[24, 24] #[4] #[x, y])) : Sem Next).run prog w := by kernel_rfl
theorem k30 {css r : List (List Value)} {cs1 : List Value} {p0 : AN} {n0 b2 T2 : Nat} {a1 : Int} {w : World} {h : Jt} {S : Nat → Prop} (hcs : (Jav 72 6 (sl p0 n0) n0 (css.map idC)).P S w) (hlt : ∀ b, S b → b < w.heap.size) (hw : Know h w S) (hn0 : n0 = css.length) (hone : ∀ cs ∈ css, ∀ u ∈ cs, u.oneCell' = true) (hone1 : (([cs1].map idC).all fun x => x.all Value.oneCell') = true) (hl1 : cs1.length = 6) (hb2 : h b2 = some (.cells cs1.toArray T2 (0, 0))) (H : gInsN 104 css a1 cs1 = some r) :
    Does prog 30 (List.toArray [sl p0 n0, i6 a1, .slice (some ⟨b2, 0, none⟩) 1 1]) w (fun v w' => ∃ x : AN, v = sl x r.length ∧ Turn w w' S (Jav 72 6 (sl x r.length) r.length (r.map idC))) := by
 obtain ⟨rfl, g0, g1, g2, g3⟩ := Jf1 H
 have f2r : RowH h (some ⟨b2, 0, none⟩) 6 ([cs1].map idC) := .inr ⟨b2, 0, cs1.toArray, T2, (0, 0), rfl, hb2, fun i x hx => by
  cases i with
  | zero => simp [idC] at hx; subst hx; exact ⟨hl1, fun j v hv => by simpa using hv⟩
  | succ i => simp at hx⟩
 have hone1 : ∀ u ∈ cs1, u.oneCell' = true := fun u hu => List.all_eq_true.1 (List.all_eq_true.1 hone1 cs1 (by simp [idC])) u hu
 have hins : (Um css a1 cs1).length = css.length + 1 := insL_len g1 g0
 have h_hi : Xr css a1 css.length = some (css.drop a1.toNat) := Uh (by omega)
 have l_hi : (css.drop a1.toNat).length = css.length - a1.toNat := List.length_drop
 refine enter (n := 95) func30 rfl rfl rfl S [Jav 72 6 (sl p0 n0) n0 (css.map idC)] (Sat.one hcs hlt) ?_
 refine c_know (fun w hF hS => capOfO (i := 0) hS rfl) (fun hcap => ?_)
 refine c_know (fun w hF hS => rowO_all (i := 0) hS rfl) (fun hall => ?_)
 rw [Y1] at hall
 refine Jc<|Ja<|ag (z0s)<|Jd<|Jc<|Ja<|mv (sl p0 n0)<|mv (i6 a1)<|Xn (fun w hF hS => Y8 (xs := css) Try.underlying24 Try.sizeOf72 rfl rfl hn0 (by omega) h_hi) rfl rfl rfl<|Jd<|Jc<|Ja<|mv (.slice (some ⟨b2, 0, none⟩) 1 1)<|lv (Ur Try.underlying24 rfl)<|ag (i6 ((1 : Nat) : Int))<|Jd<|Jc<|Jc<|Ja<|mv (i6 ((1 : Nat) : Int))<|lv (Xe rfl rfl)<|Jd<|?_
 refine Jcx (b := (decide (((1 : Nat) : Int) = 0))) rfl (fun hb => absurd hb (by decide)) (fun hb => ?_)
 refine Jp<|Jc<|Ja<|mv (sl p0 n0)<|lv (r_lenN Try.underlying24 rfl hn0)<|ag (i6 (css.length : Int))<|Jd<|Jc<|Jc<|Ja<|mv (i6 a1)<|mv (i6 (css.length : Int))<|lv (Xe rfl rfl)<|Jd<|?_
 refine Jcx (b := (decide (a1 = (css.length : Int)))) rfl (fun hb => ?_) (fun hb => ?_)
 ·have hab : a1 = css.length := of_decide_eq_true hb
  have he : css ++ [cs1] = Um css a1 cs1 := by
   have ht : a1.toNat = css.length := by omega
   unfold Um; rw [ht, List.take_length, List.drop_length, List.append_nil]
  refine Jc<|Ja<|mv (sl p0 n0)<|mv (.slice (some ⟨b2, 0, none⟩) 1 1)<|?_
  refine Qf (Jjb (i := 0) (sz := 6) (by_ := 104) (rds := []) (news := [cs1].map idC) (m := n0) (q := 1) (p := p0) Try.underlying24 (Qu Try.typeInfo72) rfl rfl rfl rfl rfl rfl rfl rfl rfl (fun x hx => by rw [Y1] at hx; rw [List.mem_singleton.1 hx]; exact hl1) (fun w L' hF hS hj => f2r.row (hw.now hF)) (fun x hx => by rw [Y1] at hx; rw [List.mem_singleton.1 hx]; exact hone1) (by simp only [maxLen]; omega) (by rw [hn0]; exact g2)) rfl rfl rfl (fun p1 => ?_)
  refine ag (sl p1 (n0 + 1))<|Jd<|Jr<|?_
  refine Jbw (v := sl p1 (n0 + 1)) rfl rfl (Y9 p1 (i := 0) rfl (by rw [hins, hn0]) (Imp.of (by rw [hins, hn0, ← List.map_append, he])))
 ·have hab : ¬ a1 = css.length := of_decide_eq_false hb
  refine Jp<|Jc<|Jc<|Ja<|mv (i6 (css.length : Int))<|mv (i6 ((1 : Nat) : Int))<|lv (r_add rfl rfl (by omega))<|mv (sl p0 n0)<|lv (r_cap Try.underlying24 rfl)<|lv (V6 rfl rfl)<|Jd<|?_
  refine Jcx (b := (decide ((p0.2 : Int) < (css.length : Int) + ((1 : Nat) : Int)))) rfl (fun hb => ?_) (fun hb => ?_)
  ·have hb1 := of_decide_eq_true hb
   have h_lo : Xr css 0 a1 = some (css.take a1.toNat) := Jhu (by omega)
   have l_lo : (css.take a1.toNat).length = a1.toNat := by rw [List.length_take]; omega
   refine Jc<|Ja<|mv (sl p0 n0)<|mv (i6 a1)<|Xn (v := sl p0 (css.take a1.toNat).length) (fun w hF hS => run_sliceHO0 (xs := css) Try.underlying24 Try.sizeOf72 rfl rfl hn0 (by omega) h_lo) rfl rfl rfl<|mv (i6 (css.length : Int))<|mv (i6 ((1 : Nat) : Int))<|lv (r_add rfl rfl (by omega))<|mv (i6 a1)<|lv (r_sub rfl rfl (by omega))<|?_
   have hk : (css.length : Int) + ((1 : Nat) : Int) - a1 = ((css.length + 1 - a1.toNat : Nat) : Int) := by omega
   rw [l_lo, hk]
   have hsum : a1.toNat + (css.length + 1 - a1.toNat) = css.length + 1 := by omega
   refine Za (makes_growZ (i := 0) (sz := 6) (by_ := 104) (xs := css.map idC) (p := p0) (m := n0) (a := a1.toNat) (k := css.length + 1 - a1.toNat) Try.underlying24 underlying3 (Qu Try.typeInfo72) rfl rfl rfl rfl rfl rfl rfl (by omega) rfl (by omega) (by omega) (by rw [hsum]; simp only [maxLen]; omega) (by rw [hsum]; exact g2)) rfl rfl rfl (fun p1 => ?_)
   refine ag (sl p1 (a1.toNat + (css.length + 1 - a1.toNat)))<|Jd<|?_
   have hr1 : (css.map idC).take a1.toNat ++ List.replicate (css.length + 1 - a1.toNat) [i6 0, i6 0, str [], z0s, z0s, z0s] = (css.take a1.toNat ++ (List.replicate (css.length + 1 - a1.toNat) [i6 0, i6 0, str [], z0s, z0s, z0s])) := by rw [Y1]
   refine Xl 1 rfl (Imp.of (congrArg (J3 72 6 (sl p1 (a1.toNat + (css.length + 1 - a1.toNat))) (a1.toNat + (css.length + 1 - a1.toNat))) hr1)) ?_
   have len1 : (css.take a1.toNat ++ (List.replicate (css.length + 1 - a1.toNat) [i6 0, i6 0, str [], z0s, z0s, z0s])).length = (a1.toNat + (css.length + 1 - a1.toNat)) := by rw [List.length_append, l_lo, List.length_replicate]
   generalize hR1 : (css.take a1.toNat ++ (List.replicate (css.length + 1 - a1.toNat) [i6 0, i6 0, str [], z0s, z0s, z0s])) = R1 at len1
   have hcut1 : Xr R1 a1 R1.length = some (R1.drop a1.toNat) := Uh (by omega)
   have ldr1 : (R1.drop a1.toNat).length = css.length + 1 - a1.toNat := by rw [List.length_drop, len1]; omega
   refine Jc<|Ja<|mv (sl p1 (a1.toNat + (css.length + 1 - a1.toNat)))<|mv (i6 a1)<|Xn (v := .slice (Xg p1.1 a1.toNat p1.2 6) (R1.drop a1.toNat).length (p1.2 - a1.toNat)) (fun w hF hS => Y8 (xs := R1) Try.underlying24 Try.sizeOf72 rfl rfl len1.symm (capOf (i := 1) hS rfl) hcut1) rfl rfl rfl<|mv (.slice (some ⟨b2, 0, none⟩) 1 1)<|?_
   refine Qf (Jd9 (i := 1) (rds := []) (xs := R1) (news := [cs1].map idC) (sz := 6) (m := (a1.toNat + (css.length + 1 - a1.toNat))) (a := a1.toNat) (q := 1) (p := p1) Try.underlying24 (Qu Try.typeInfo72) rfl rfl len1.symm rfl (by omega) rfl (by omega) rfl (by omega) (fun w L' hF hS hj => f2r.row (hw.now hF)) (fun x hx => by rw [Y1] at hx; rw [List.mem_singleton.1 hx]; exact hl1) (fun x hx => by rw [Y1] at hx; rw [List.mem_singleton.1 hx]; exact hone1)) rfl rfl rfl (fun _ => ?_)
   refine Jd ?_
   have len2 : (R1.take a1.toNat ++ [cs1].map idC ++ R1.drop (a1.toNat + 1)).length = (a1.toNat + (css.length + 1 - a1.toNat)) := by simp only [List.length_append, List.length_take, List.length_drop, List.length_map, List.length_cons, List.length_nil, len1]; omega
   generalize hR2 : R1.take a1.toNat ++ [cs1].map idC ++ R1.drop (a1.toNat + 1) = R2 at len2
   have hcut2 : Xr R2 (a1 + ((1 : Nat) : Int)) R2.length = some (R2.drop (a1 + ((1 : Nat) : Int)).toNat) := Uh (by omega)
   have ht1 : (a1 + ((1 : Nat) : Int)).toNat = a1.toNat + 1 := by omega
   rw [ht1] at hcut2
   have ldr2 : (R2.drop (a1.toNat + 1)).length = css.length - a1.toNat := by rw [List.length_drop, len2]; omega
   refine Jc ?_
   exact Qc (Kd.p :: Kd.p :: Kd.p :: Kd.p :: Kd.d [1] _ :: Kd.p :: Kd.p :: Kd.d [0] _ :: Kd.t 1 [0] _ _ :: []) 0 mixed (by
    refine dm (sl p1 (a1.toNat + (css.length + 1 - a1.toNat)))<|dm (i6 a1)<|dm (i6 ((1 : Nat) : Int))<|dv (r_add rfl rfl (by omega))<|Wj (v := .slice (Xg p1.1 (a1.toNat + 1) p1.2 6) (R2.drop (a1.toNat + 1)).length (p1.2 - (a1.toNat + 1))) (fun w L' hF hS hi => ht1 ▸ Y8 (xs := R2) Try.underlying24 Try.sizeOf72 rfl rfl len2.symm (capOf (i := 1) hS ((hi 1 (by simp)).trans rfl)) (ht1.symm ▸ hcut2)) rfl rfl<|dm (sl p0 n0)<|dm (i6 a1)<|Wj (v := .slice (Xg p0.1 a1.toNat p0.2 6) (css.drop a1.toNat).length (p0.2 - a1.toNat)) (fun w L' hF hS hi => Y8 (xs := css) Try.underlying24 Try.sizeOf72 rfl rfl hn0 (by omega) h_hi) rfl rfl<|?_
    refine U8 (Cv := fun _ => J3 72 6 (sl p1 (a1.toNat + (css.length + 1 - a1.toNat))) (a1.toNat + (css.length + 1 - a1.toNat)) (R2.take (a1.toNat + 1) ++ (css.drop a1.toNat).map idC ++ R2.drop (a1.toNat + 1 + (css.drop a1.toNat).length))) ()
     (Jd9 (i := 1) (rds := [0]) (xs := R2) (news := (css.drop a1.toNat).map idC) (sz := 6) (m := (a1.toNat + (css.length + 1 - a1.toNat))) (a := a1.toNat + 1) (q := (css.drop a1.toNat).length) (p := p1) Try.underlying24 (Qu Try.typeInfo72) rfl rfl len2.symm rfl (by omega) rfl (by omega) (List.length_map _).symm (by omega)
      (fun w L' hF hS hj => Row.cutG (xs := css) (f := idC) (offOf (i := 0) hS ((hj 0 (by simp)).trans rfl)) hn0 (by omega) h_hi) (by rw [Y1]; exact fun x hx => hall x (List.mem_of_mem_drop hx)) (by rw [Y1]; exact fun x hx => hone x (List.mem_of_mem_drop hx))) (fun _ => rfl) rfl rfl (fun _ => ?_)
    refine X2 ?_
    have hch : R2.take (a1.toNat + 1) ++ (css.drop a1.toNat).map idC ++ R2.drop (a1.toNat + 1 + (css.drop a1.toNat).length) = (Um css a1 cs1).map idC := by
     have e3 : R2.drop (a1.toNat + 1 + (css.drop a1.toNat).length) = [] := List.eq_nil_of_length_eq_zero (by rw [List.length_drop, len2]; omega)
     have t1 : R1.take a1.toNat = css.take a1.toNat := by rw [← hR1, List.take_append_of_le_length (by omega), List.take_of_length_le (by omega)]
     have t2 : R2.take (a1.toNat + 1) = css.take a1.toNat ++ [cs1] := by
      rw [← hR2, t1, List.take_append_of_le_length (by simp only [List.length_append, List.length_map, List.length_cons, List.length_nil, l_lo]; omega), List.take_of_length_le (by simp only [List.length_append, List.length_map, List.length_cons, List.length_nil, l_lo]; omega), Y1]
     rw [e3, t2, List.append_nil, Y1, Y1, List.append_assoc]; rfl
    refine Jc<|Ja<|mv (sl p1 (a1.toNat + (css.length + 1 - a1.toNat)))<|ag (sl p1 (a1.toNat + (css.length + 1 - a1.toNat)))<|Jd<|Jr<|Xl 1 rfl (Ji1 _ _ _ _ _)<|?_
    refine Jbw (v := sl p1 (a1.toNat + (css.length + 1 - a1.toNat))) rfl rfl (Y9 p1 (i := 1) rfl (by rw [hins, hsum]) (Imp.of (by rw [hins, hch, hsum])))
    ) (by kernel_rfl)
  ·have hroom : css.length + 1 ≤ p0.2 := by have := of_decide_eq_false hb; omega
   refine Jp<|Xl 0 rfl (imp_room1 (by omega))<|?_
   refine c_ex 0 rfl (fun y0 => ?_)
   refine c_know (fun w hF hS => rowO_all (i := 0) hS rfl) (fun hall1 => ?_)
   have hy0 : y0.length = 6 := hall1 y0 (by simp)
   have lenR : (css.map idC ++ [y0]).length = n0 + 1 := by rw [List.length_append, List.length_map, List.length_singleton, hn0]
   generalize hR1 : css.map idC ++ [y0] = R1 at lenR hall1
   refine Jc<|Ja<|mv (sl p0 n0)<|mv (i6 (css.length : Int))<|mv (i6 ((1 : Nat) : Int))<|lv (r_add rfl rfl (by omega))<|?_
   refine Ju (v := sl p0 (n0 + 1)) rfl rfl rfl (by
    have e1 : ((css.length : Int) + ((1 : Nat) : Int)).toNat = n0 + 1 := by omega
    rw [← e1]; exact Jis Try.underlying24 Try.sizeOf72 rfl rfl (by omega) (by omega)) ?_
   refine ag (sl p0 (n0 + 1))<|Jd<|?_
   have h_hi1 : Xr R1 a1 R1.length = some (R1.drop a1.toNat) := Uh (by omega)
   have ht1 : (a1 + ((1 : Nat) : Int)).toNat = a1.toNat + 1 := by omega
   have h_hi2 : Xr R1 (a1 + ((1 : Nat) : Int)) R1.length = some (R1.drop (a1.toNat + 1)) := by rw [← ht1]; exact Uh (by omega)
   have ld1 : (R1.drop a1.toNat).length = n0 + 1 - a1.toNat := by rw [List.length_drop, lenR]
   have ld2 : (R1.drop (a1.toNat + 1)).length = n0 - a1.toNat := by rw [List.length_drop, lenR]; omega
   have hd1 : R1.drop a1.toNat = (css.drop a1.toNat).map idC ++ [y0] := by
    rw [← hR1, List.drop_append_of_le_length (by rw [List.length_map]; omega), ← List.map_drop]
   refine Jc<|Jc<|Ja<|mv (.slice (some ⟨b2, 0, none⟩) 1 1)<|mv (sl p0 (n0 + 1))<|mv (i6 a1)<|mv (i6 ((1 : Nat) : Int))<|lv (r_add rfl rfl (by omega))<|Xn (v := .slice (Xg p0.1 (a1.toNat + 1) p0.2 6) (R1.drop (a1.toNat + 1)).length (p0.2 - (a1.toNat + 1))) (fun w hF hS => ht1 ▸ Y8 (xs := R1) Try.underlying24 Try.sizeOf72 rfl rfl lenR.symm (by omega) (ht1.symm ▸ h_hi2)) rfl rfl rfl<|?_
   refine Xn (v := .bool false) (fun W hF hS => by
    obtain ⟨S1, hC1, hS1⟩ := hS.at (i := 0) rfl
    obtain ⟨g1, g2⟩ := hw b2 _ hb2
    refine run_ovl (f := 55) (ovl55) Try.underlying24 Try.sizeOf72 rfl hC1 (by omega) (hw.now hF b2 _ hb2) (fun hs1 => ?_) rfl rfl
    rcases (hS1 b2 hs1).2 with hh | hh
    ·have hlt2 : b2 < w.heap.size := (Array.getElem?_eq_some_iff.1 g1).1
     exact absurd hh (by show ¬ w.heap.size ≤ b2; omega)
    ·exact g2 hh) rfl rfl rfl ?_
   refine lv (Ja6 rfl)<|Jd<|?_
   refine Jcx (b := !false) rfl (fun _ => ?_) (fun hb => absurd hb (by decide))
   refine Jc ?_
   exact Qc (Kd.p :: Kd.p :: Kd.p :: Kd.p :: Kd.d [0] _ :: Kd.p :: Kd.p :: Kd.d [0] _ :: Kd.t 0 [] _ _ :: []) 0 mixed (by
    refine dm (sl p0 (n0 + 1))<|dm (i6 a1)<|dm (i6 ((1 : Nat) : Int))<|dv (r_add rfl rfl (by omega))<|Wj (v := .slice (Xg p0.1 (a1.toNat + 1) p0.2 6) (R1.drop (a1.toNat + 1)).length (p0.2 - (a1.toNat + 1))) (fun w L' hF hS hi => ht1 ▸ Y8 (xs := R1) Try.underlying24 Try.sizeOf72 rfl rfl lenR.symm (by omega) (ht1.symm ▸ h_hi2)) rfl rfl<|dm (sl p0 (n0 + 1))<|dm (i6 a1)<|Wj (v := .slice (Xg p0.1 a1.toNat p0.2 6) (R1.drop a1.toNat).length (p0.2 - a1.toNat)) (fun w L' hF hS hi => Y8 (xs := R1) Try.underlying24 Try.sizeOf72 rfl rfl lenR.symm (by omega) h_hi1) rfl rfl<|?_
    refine U8 (Cv := fun _ => Jav 72 6 (sl p0 (n0 + 1)) (n0 + 1) (R1.take (a1.toNat + 1) ++ (css.drop a1.toNat).map idC ++ R1.drop (a1.toNat + 1 + (css.drop a1.toNat).length))) ()
     (Jga (i := 0) (rds := []) (xs := R1) (news := (css.drop a1.toNat).map idC) (sz := 6) (m := n0 + 1) (a := a1.toNat + 1) (k := (css.drop a1.toNat).length) (p := p0) Try.underlying24 (Qu Try.typeInfo72) rfl rfl lenR.symm rfl (by omega) rfl (by omega) (List.length_map _).symm (by omega)
      (fun w L' hF hS hj => by
       have hr := Row.cutG (xs := R1) (f := fun z : List Value => z) (by rw [List.map_id']; exact offOf (i := 0) hS ((hj 0 (.inr rfl)).trans rfl)) lenR.symm (show n0 + 1 ≤ p0.2 by omega) h_hi1
       rw [List.map_id', hd1] at hr
       exact Row.pre hr) (by rw [Y1]; exact fun x hx => hall x (List.mem_of_mem_drop hx)) (by rw [Y1]; exact fun x hx => hone x (List.mem_of_mem_drop hx))) (fun _ => rfl) rfl rfl (fun _ => ?_)
    refine X2 ?_
    have len2 : (R1.take (a1.toNat + 1) ++ (css.drop a1.toNat).map idC ++ R1.drop (a1.toNat + 1 + (css.drop a1.toNat).length)).length = n0 + 1 := by simp only [List.length_append, List.length_take, List.length_drop, List.length_map, lenR]; omega
    generalize hR2 : R1.take (a1.toNat + 1) ++ (css.drop a1.toNat).map idC ++ R1.drop (a1.toNat + 1 + (css.drop a1.toNat).length) = R2 at len2
    have h_hi3 : Xr R2 a1 R2.length = some (R2.drop a1.toNat) := Uh (by omega)
    have ld3 : (R2.drop a1.toNat).length = n0 + 1 - a1.toNat := by rw [List.length_drop, len2]
    refine Jc<|Ja<|mv (sl p0 (n0 + 1))<|mv (i6 a1)<|Xn (v := .slice (Xg p0.1 a1.toNat p0.2 6) (R2.drop a1.toNat).length (p0.2 - a1.toNat)) (fun w hF hS => Y8 (xs := R2) Try.underlying24 Try.sizeOf72 rfl rfl len2.symm (by omega) h_hi3) rfl rfl rfl<|mv (.slice (some ⟨b2, 0, none⟩) 1 1)<|?_
    refine Qf (Jga (i := 0) (rds := []) (xs := R2) (news := [cs1].map idC) (sz := 6) (m := n0 + 1) (a := a1.toNat) (q := 1) (k := 1) (p := p0) Try.underlying24 (Qu Try.typeInfo72) rfl rfl len2.symm rfl (by omega) rfl (by omega) rfl (by omega) (fun w L' hF hS hj => f2r.row (hw.now hF)) (fun x hx => by rw [Y1] at hx; rw [List.mem_singleton.1 hx]; exact hl1) (fun x hx => by rw [Y1] at hx; rw [List.mem_singleton.1 hx]; exact hone1)) rfl rfl rfl (fun _ => ?_)
    refine Jd ?_
    have hch : R2.take a1.toNat ++ [cs1].map idC ++ R2.drop (a1.toNat + 1) = (Um css a1 cs1).map idC := by
     have e3 : R1.drop (a1.toNat + 1 + (css.drop a1.toNat).length) = [] := List.eq_nil_of_length_eq_zero (by rw [List.length_drop, lenR]; omega)
     have l1 : (R1.take (a1.toNat + 1)).length = a1.toNat + 1 := by rw [List.length_take, lenR]; omega
     have t1 : R1.take a1.toNat = css.take a1.toNat := by rw [← hR1, Y1, List.take_append_of_le_length (by omega)]
     have t2 : R2.take a1.toNat = css.take a1.toNat := by
      rw [← hR2, List.append_assoc, List.take_append_of_le_length (by omega), List.take_take, Nat.min_eq_left (by omega), t1]
     have t3 : R2.drop (a1.toNat + 1) = css.drop a1.toNat := by
      rw [← hR2, e3, List.append_nil, List.drop_append_of_le_length (by omega), List.drop_eq_nil_of_le (by omega), List.nil_append, Y1]
     rw [t2, t3, Y1, Y1, List.append_assoc]; rfl
    refine Jc<|Ja<|mv (sl p0 (n0 + 1))<|ag (sl p0 (n0 + 1))<|Jd<|Jr<|?_
    refine Jbw (v := sl p0 (n0 + 1)) rfl rfl (Y9 p0 (i := 0) rfl (by rw [hins, hn0]) (Imp.of (by rw [hins, hch, hn0])))
    ) (by kernel_rfl)
theorem k29 {a : Option Addr} {n c : Nat} (hc : n ≤ c) : Ret prog 29 [.slice a n c] (.slice (Xg a 0 n 6) n n) := by
  refine Vz (n := 9) func29 rfl rfl rfl (fun wd => ?_)
  refine Jc<|Ja<|ag (z0s)<|Jd<|Jc<|Ja<|mv (.slice a n c)<|mv (.slice a n c)<|lv (Ur Try.underlying24 rfl)<|mv (.slice a n c)<|lv (Ur Try.underlying24 rfl)<|lv (Jem (a := a) (m := n) (c := c) (h := (n : Int)) (q := (n : Int)) Try.underlying24 Try.sizeOf72 rfl rfl rfl (Int.natCast_nonneg n) (Int.le_refl _) (Int.ofNat_le.2 hc))<|ag (.slice (Xg a 0 n 6) n n)<|Jd<|Jr<|?_
  exact Jbw (v := .slice (Xg a 0 n 6) n n) rfl rfl (fin rfl)
end Go.Proofs.Ythljoadplekgnaa

namespace Go.Proofs.Ythljoadplekgnaa
open Go Go.Vc Go.Md Go.M Go.Lx Try
set_option maxRecDepth 100000
set_option maxHeartbeats 4000000
theorem k21 {a0 : Bool} {a1 : (List UInt8)} {a2 : Int} {a3 : Int} {r : Int} (H : Xx a0 a1 a2 a3 = some r) : Ret prog 21 [.bool a0, str a1, i6 a2, i6 a3] (i6 r) := by
 refine Vz (n := 33) func21 rfl rfl rfl (fun wd => ?_)
 refine Jc<|Ja<|ag (i6 0)<|Jd<|Jc<|Ja<|ag (i6 0)<|Jd<|Jc<|Jc<|Ja<|mv (i6 a3)<|mv (i6 0)<|Jd<|J0<|?_
 refine Zz (σ := Int × Int) (τ := Unit) (fun next1 s => Zp a0 a1 a2 a3 next1 s.1 s.2) (fun s t => [(0, .bool a0), (1, str a1), (2, i6 a2), (3, i6 a3), (9, i6 s.1), (12, i6 a3), (13, i6 s.2)]) (fun s t => []) (fun s t => True) (0, 0) () [] H (by exact trivial) (by exact ⟨rfl, rfl, rfl, rfl, rfl, rfl, rfl, trivial⟩) (by decide) rfl ?_
 rintro ⟨x9_2, x13_2⟩ _ m1 gg H14 _
 clear H
 try dsimp only at H14
 generalize hn1 : it (fun next1 s => Zp a0 a1 a2 a3 next1 s.1 s.2) m1 = next1 at H14
 try dsimp only
 refine Jc<|Ja<|lv (Ym rfl rfl)<|Jd<|Jc<|?_
 revert H14
 refine ci (decide (x13_2 < a3)) rfl (fun hb H15=>?_) fun hb H26=>?_
 ·refine Jp<|Jc<|J0<|Jc<|Ja<|mv (i6 x13_2)<|ag (i6 x13_2)<|Jd<|Jc<|Ja<|mv (i6 a3)<|?_
  obtain ⟨t17, h_t17, H16⟩ := Je H15; clear H15
  refine lv (Un rfl rfl h_t17)<|mv (i6 x13_2)<|?_
  obtain ⟨t19, h_t19, H17⟩ := Je H16; clear H16
  refine lv (Un rfl rfl h_t19)<|ag (i6 t19)<|Jd<|?_
  refine Qx (r := r) (σ := Int) (τ := Unit) (fun s => W9 a1 a2 x9_2 x13_2 next1 s) (fun s t => [(0, .bool a0), (1, str a1), (2, i6 a2), (3, i6 a3), (9, i6 x9_2), (11, i6 s), (12, i6 a3), (13, i6 x13_2)]) (fun s t => []) (fun s t => True) ?_ ?_
  ·refine Jc<|Ja<|mv (.bool a0)<|Jd<|?_
   revert H17
   refine ci a0 rfl (fun hb H24=>?_) fun hb H25=>?_
   ·refine Ja<|mv (i6 x13_2)<|ag (i6 x13_2)<|Jd<|?_
    exact cl x13_2 () 0 [] (by exact ⟨H24, trivial⟩)
   ·refine Jp ?_
    exact cl t19 () 0 [] (by exact ⟨H25, trivial⟩)
  ·rintro x11 _ gg H18 _
   try dsimp only at H18
   try dsimp only
   refine Ja<|mv (i6 x9_2)<|?_
   obtain ⟨t23, h_t23, H19⟩ := Je H18; clear H18
   refine lv (r_shlG rfl rfl h_t23)<|mv (str a1)<|mv (i6 a2)<|mv (i6 x11)<|?_
   obtain ⟨t27, h_t27, H20⟩ := Je H19; clear H19
   refine lv (J4 rfl rfl h_t27) ?_
   obtain ⟨t28, h_t28, H21⟩ := Je H20; clear H20
   refine lv (Jcv Try.underlying9 rfl rfl h_t28) ?_
   obtain ⟨t29, h_t29, H22⟩ := Je H21; clear H21
   refine lv (Jco runUnderlying5 Try.runUnderlying3 rfl (gK_i64 h_t29))<|lv (r_bitsOr (bits := 64) rfl rfl rfl (wr_i64 _))<|ag (i6 (U6 (bOr 64 t23 t29)))<|Jd<|Ja<|?_
   obtain ⟨t31, h_t31, H23⟩ := Je H22; clear H22
   refine lv (J4 rfl rfl h_t31)<|mv (i6 t31)<|Jd<|?_
   exact cl ((U6 (bOr 64 t23 t29)), t31) () m1 [] (by exact ⟨(by subst hn1; exact H23), trivial⟩)
 ·refine Xy<|Jc<|Ja<|mv (i6 x9_2)<|ag (i6 x9_2)<|Jd<|Jr<|?_
  obtain rfl := sj H26
  exact r1 (i6 x9_2)
theorem k39 {a0 : Tb} {v0_2 : Value} {v0_3 : Value} {pb0 : Nat} {a1 : Int} {a2 : Int} {r : Int} {w : World} {h : Jt} (hw : Know h w Z2) (f0_2 : FrS h 2 v0_2 (a0.kaa.map Jk)) (f0_3 : FrM h i6 Value.bool v0_3 a0.kae) (hb0 : h pb0 = some (.cells (List.toArray [str a0.s_, .bool a0.kab, v0_2, v0_3, i6 a0.kad, (X6 a0.kac), i6 a0.no_]) 88 (0, 0))) (H : Jg a0 a1 a2 = some r) : Does prog 39 (List.toArray [pz pb0, i6 a1, i6 a2]) w (fun v w' => v = (i6 r) ∧ Grow w w') := by
 refine enter (n := 18) func39 rfl rfl rfl Z2 [] (Sat.nil _ _)<|Jc<|Ja<|ag (i6 0)<|Jd<|Jc<|?_
 exact Qc (Kd.p :: Kd.p :: Kd.p :: Kd.d [] _ :: Kd.p :: Kd.p :: Kd.p :: Kd.d [] _ :: Kd.p :: Kd.p :: Kd.d [] _ :: Kd.p :: []) 0 mixed (by
  refine dm (pz pb0)<|dv (Ji rfl)<|dv (Qd Try.runUnderlying88 rfl Try.sizeOf4 rfl rfl)<|Ze (fun w hF => Zx (v := .bool a0.kab) isAgg4 rfl (hw.now hF _ _ hb0) rfl) rfl rfl<|dm (pz pb0)<|dv (Ji rfl)<|dv (Qd Try.runUnderlying88 rfl Try.sizeOf9 rfl rfl)<|Ze (fun w hF => Zx (v := str a0.s_) Try.isAgg9 rfl (hw.now hF _ _ hb0) rfl) rfl rfl<|dm (i6 a1)<|dm (i6 a2)<|?_
  have h_t17 := Jx H
  have H2 := Jq H
  refine Jdx (k21 h_t17) call21 rfl rfl<|Qr rfl rfl (Jy (v := i6 (val (Xx a0.kab a0.s_ a1 a2))) rfl)<|X2<|Jr<|?_
  obtain rfl := sj H2
  exact r1 (i6 (val (Xx a0.kab a0.s_ a1 a2)))
  ) (by kernel_rfl)
theorem k59 {a0 : Tb} {v0_2 : Value} {v0_3 : Value} {pb0 : Nat} {a1 : Int} {a2 : Int} {r : Bool} {w : World} {h : Jt} (hw : Know h w Z2) (f0_2 : FrS h 2 v0_2 (a0.kaa.map Jk)) (f0_3 : FrM h i6 Value.bool v0_3 a0.kae) (hb0 : h pb0 = some (.cells (List.toArray [str a0.s_, .bool a0.kab, v0_2, v0_3, i6 a0.kad, (X6 a0.kac), i6 a0.no_]) 88 (0, 0))) (H : Yp a0 a1 a2 = some r) : Does prog 59 (List.toArray [pz pb0, i6 a1, i6 a2]) w (fun v w' => v = (.bool r) ∧ Grow w w') := by
 refine enter (n := 29) func59 rfl rfl rfl Z2 [] (Sat.nil _ _)<|Jc<|Ja<|ag (.bool false)<|Jd<|Jc<|Ja<|mv (i6 a1)<|lv (r_geq rfl rfl)<|mv (.bool (decide (8 ≤ a1)))<|?_
 revert H
 refine sp (fun hb H6=>?_) fun hb H10=>?_
 ·refine mv (i6 a2)<|mv (pz pb0)<|lv (Ji rfl)<|lf Try.runUnderlying88 rfl Try.sizeOf9 rfl<|Xn (fun w hF hS => Zx (v := str a0.s_) Try.isAgg9 rfl (hw.now hF _ _ hb0) rfl) rfl rfl rfl<|lv (Ww Try.underlying9 rfl)<|lv (Je3 rfl rfl)<|pT (.bool (decide (a2 ≤ (a0.s_.length : Int))))<|mv (.bool (decide (a2 ≤ (a0.s_.length : Int))))<|?_
  revert H6
  refine sp (fun hb H7=>?_) fun hb H9=>?_
  ·refine mv (i6 a1)<|mv (pz pb0)<|lv (Ji rfl)<|lf Try.runUnderlying88 rfl Try.sizeOf9 rfl<|Xn (fun w hF hS => Zx (v := str a0.s_) Try.isAgg9 rfl (hw.now hF _ _ hb0) rfl) rfl rfl rfl<|lv (Ww Try.underlying9 rfl)<|mv (i6 a2)<|?_
   obtain ⟨t26, h_t26, H8⟩ := Je H7; clear H7
   refine lv (Un rfl rfl h_t26)<|lv (Je3 rfl rfl)<|pT (.bool (decide (a1 ≤ t26)))<|ag (.bool (decide (a1 ≤ t26)))<|Jd<|Jr<|?_
   obtain rfl := sj H8
   exact r1 (.bool (decide (a1 ≤ t26)))
  ·refine pa<|pa<|pa<|pa<|pa<|pa<|pa<|pa<|pa<|pF (.bool false)<|ag (.bool false)<|Jd<|Jr<|?_
   obtain rfl := sj H9
   exact r1 (.bool false)
 ·refine pa<|pa<|pa<|pa<|pa<|pa<|pa<|pF (.bool false)<|mv (.bool false)<|pa<|pa<|pa<|pa<|pa<|pa<|pa<|pa<|pa<|pF (.bool false)<|ag (.bool false)<|Jd<|Jr<|?_
  obtain rfl := sj H10
  exact r1 (.bool false)
theorem k60 {a0 : Tb} {pb0 : Nat} {p0_2 : AN} {n0_2 : Nat} {m0_3 : Nat} {a1 : Int} {r : Tb} {w : World} {h : Jt} {S : Nat → Prop} (hcs : (Jv (Jf pb0 [str a0.s_, .bool a0.kab, sl p0_2 n0_2, .map (some m0_3), i6 a0.kad, (X6 a0.kac), i6 a0.no_] 88) (Jv (J3 94 2 (sl p0_2 n0_2) n0_2 (a0.kaa.map Jk)) (X8 i6 Value.bool m0_3 a0.kae))).P S w) (hlt : ∀ b, S b → b < w.heap.size) (hw : Know h w S) (hn0_2 : n0_2 = a0.kaa.length) (H : J9 a0 a1 = some r) : Does prog 60 (List.toArray [pz pb0, i6 a1]) w (fun v w' => ∃ x : AN × Nat, v = (.tuple #[]) ∧ Turn w w' S (Jv (Jf pb0 [str r.s_, .bool r.kab, .slice x.1.1 r.kaa.length x.1.2, .map (some x.2), i6 r.kad, (X6 r.kac), i6 r.no_] 88) (Jv (J3 94 2 (.slice x.1.1 r.kaa.length x.1.2) r.kaa.length (r.kaa.map Jk)) (X8 i6 Value.bool x.2 r.kae)))) := by
 refine enter (n := 13) func60 rfl rfl rfl S [Jv (Jf pb0 [str a0.s_, .bool a0.kab, sl p0_2 n0_2, .map (some m0_3), i6 a0.kad, (X6 a0.kac), i6 a0.no_] 88) (Jv (J3 94 2 (sl p0_2 n0_2) n0_2 (a0.kaa.map Jk)) (X8 i6 Value.bool m0_3 a0.kae))] (Sat.one hcs hlt)<|Qj 0 rfl<|Qj 1 rfl<|Jc<|Ja<|mv (pz pb0)<|lv (Ji rfl)<|lf Try.runUnderlying88 rfl Try.sizeOf28 rfl<|ll 0 (i6 a0.no_) Try.isAgg28<|lv (Xe rfl rfl)<|Jd<|?_
 revert H
 refine ci (decide (a0.no_ = 0)) rfl (fun hb H3=>?_) fun hb H4=>?_
 ·refine Ja<|mv (pz pb0)<|mv (i6 a1)<|lv (Ji rfl)<|lf Try.runUnderlying88 rfl Try.sizeOf28 rfl<|st (i := 0) [i6 a1] [str a0.s_, .bool a0.kab, sl p0_2 n0_2, .map (some m0_3), i6 a0.kad, (X6 a0.kac), i6 a1] Try.sizeOf28 rfl rfl<|Jd<|?_
  obtain rfl := sj H3
  refine bo 1 2 rfl rfl<|bo 0 1 rfl rfl<|?_
  refine Je4 rfl (Y9 (p0_2, m0_3) (i := 0) rfl (by first | rfl | rw [(show n0_2 = a0.kaa.length from hn0_2)]) (by first | exact Imp.refl _ | exact Imp.of (by rw [(show n0_2 = a0.kaa.length from hn0_2)] <;> rfl)))
 ·refine Jp ?_
  obtain rfl := sj H4
  refine bo 1 2 rfl rfl<|bo 0 1 rfl rfl<|?_
  refine Je4 rfl (Y9 (p0_2, m0_3) (i := 0) rfl (by first | rfl | rw [(show n0_2 = a0.kaa.length from hn0_2)]) (by first | exact Imp.refl _ | exact Imp.of (by rw [(show n0_2 = a0.kaa.length from hn0_2)] <;> rfl)))
theorem k86 {a0 : Tb} {pb0 : Nat} {p0_2 : AN} {n0_2 : Nat} {m0_3 : Nat} {a1 : (List UInt8)} {r : (List UInt8) × Tb} {w : World} {h : Jt} {S : Nat → Prop} (hcs : (Jv (Jf pb0 [str a0.s_, .bool a0.kab, sl p0_2 n0_2, .map (some m0_3), i6 a0.kad, (X6 a0.kac), i6 a0.no_] 88) (Jv (J3 94 2 (sl p0_2 n0_2) n0_2 (a0.kaa.map Jk)) (X8 i6 Value.bool m0_3 a0.kae))).P S w) (hlt : ∀ b, S b → b < w.heap.size) (hw : Know h w S) (hn0_2 : n0_2 = a0.kaa.length) (H : Wx a0 a1 = some r) : Does prog 86 (List.toArray [pz pb0, str a1]) w (fun v w' => ∃ x : AN × Nat, v = (str r.1) ∧ Turn w w' S (Jv (Jf pb0 [str r.2.s_, .bool r.2.kab, .slice x.1.1 r.2.kaa.length x.1.2, .map (some x.2), i6 r.2.kad, (X6 r.2.kac), i6 r.2.no_] 88) (Jv (J3 94 2 (.slice x.1.1 r.2.kaa.length x.1.2) r.2.kaa.length (r.2.kaa.map Jk)) (X8 i6 Value.bool x.2 r.2.kae)))) := by
 refine enter (n := 36) func86 rfl rfl rfl S [Jv (Jf pb0 [str a0.s_, .bool a0.kab, sl p0_2 n0_2, .map (some m0_3), i6 a0.kad, (X6 a0.kac), i6 a0.no_] 88) (Jv (J3 94 2 (sl p0_2 n0_2) n0_2 (a0.kaa.map Jk)) (X8 i6 Value.bool m0_3 a0.kae))] (Sat.one hcs hlt)<|Qj 0 rfl<|Qj 1 rfl<|Jc<|Ja<|ag (str [])<|Jd<|Jc<|Jc<|Ja<|mv (str a1)<|lv (Jhe rfl rfl)<|mv (.bool (decide (a1 = [])))<|?_
 revert H
 refine sp (fun hb H20=>?_) fun hb H22=>?_
 ·refine pa<|pa<|pa<|pa<|pa<|pa<|pT (.bool true)<|Jd<|Ve rfl<|Jc<|Ja<|mv (pz pb0)<|?_
  obtain ⟨t17, h_t17, H21⟩ := Je H20; clear H20
  refine bo 1 2 rfl rfl<|bo 0 1 rfl rfl<|?_
  refine Qf (Jw (i := 0) (rds := []) rfl (fun w L' S hF hS hi hp hlt ho hA => k60 hp hlt (Qb w S) hn0_2 h_t17) Try.call60 rfl) rfl rfl rfl (fun ⟨p, p_2⟩ => ?_)
  refine ub 0 1 rfl rfl<|ub 1 2 rfl rfl<|Jd<|Jc<|?_
  try dsimp only [z1,z2,z5,z6,z7,z8]
  refine Ja<|ag (str [])<|Jd<|Jr<|?_
  obtain rfl := sj H21
  refine bo 1 2 rfl rfl<|bo 0 1 rfl rfl<|?_
  refine Jbw (v := str []) rfl rfl (Y9 (p, p_2) (i := 0) rfl rfl (Imp.refl _))
 ·refine mv (str a1)<|mv (str a1)<|lv (Ww Try.underlying9 rfl)<|?_
  obtain ⟨t12, h_t12, H23⟩ := Je H22; clear H22
  refine lv (Un rfl rfl h_t12) ?_
  obtain ⟨t13, h_t13, H24⟩ := Je H23; clear H23
  refine lv (Jcv Try.underlying9 rfl rfl h_t13)<|lv (Yn rfl rfl)<|pF (.bool (decide (t13 ≠ 0)))<|Jd<|?_
  revert H24
  refine ci (decide (t13 ≠ 0)) rfl (fun hb H25=>?_) fun hb H27=>?_
  ·refine Jc<|Ja<|mv (pz pb0)<|?_
   obtain ⟨t17_2, h_t17_2, H26⟩ := Je H25; clear H25
   refine bo 1 2 rfl rfl<|bo 0 1 rfl rfl<|?_
   refine Qf (Jw (i := 0) (rds := []) rfl (fun w L' S hF hS hi hp hlt ho hA => k60 hp hlt (Qb w S) hn0_2 h_t17_2) Try.call60 rfl) rfl rfl rfl (fun ⟨p_3, p_4⟩ => ?_)
   refine ub 0 1 rfl rfl<|ub 1 2 rfl rfl<|Jd<|Jc<|?_
   try dsimp only [z1,z2,z5,z6,z7,z8]
   refine Ja<|ag (str [])<|Jd<|Jr<|?_
   obtain rfl := sj H26
   refine bo 1 2 rfl rfl<|bo 0 1 rfl rfl<|?_
   refine Jbw (v := str []) rfl rfl (Y9 (p_3, p_4) (i := 0) rfl rfl (Imp.refl _))
  ·refine Jp<|Jc<|Ja<|mv (str a1)<|mv (str a1)<|lv (Ww Try.underlying9 rfl)<|?_
   obtain ⟨t21, h_t21, H28⟩ := Je H27; clear H27
   refine lv (Un rfl rfl h_t21) ?_
   obtain ⟨t22, h_t22, H29⟩ := Je H28; clear H28
   refine lv (Jgk Try.underlying9 rfl rfl h_t22)<|ag (str t22)<|Jd<|Jc<|Jc<|Ja<|mv (str t22)<|lv (Ww Try.underlying9 rfl)<|mv (i6 0)<|Jd<|J0<|?_
   refine Zz (σ := Int × (List UInt8) × Bool × Int × Nat × Int × (List Tc) × (List (Int × Bool))) (τ := AN × Nat × Nat) (fun next1 s => Xa t22 next1 s.1 s.2.1 s.2.2.1 s.2.2.2.1 s.2.2.2.2.1 s.2.2.2.2.2.1 s.2.2.2.2.2.2.1 s.2.2.2.2.2.2.2) (fun s t => [(0, pz pb0), (1, str t22), (24, i6 (t22.length : Int)), (25, i6 s.1)]) (fun s t => [Jf pb0 [str s.2.1, .bool s.2.2.1, .slice t.1.1 t.2.1 t.1.2, .map (some t.2.2), i6 s.2.2.2.1, (X6 s.2.2.2.2.1), i6 s.2.2.2.2.2.1] 88, J3 94 2 (.slice t.1.1 t.2.1 t.1.2) t.2.1 (s.2.2.2.2.2.2.1.map Jk), X8 i6 Value.bool t.2.2 s.2.2.2.2.2.2.2]) (fun s t => t.2.1 = s.2.2.2.2.2.2.1.length) (0, a0.s_, a0.kab, a0.kad, a0.kac, a0.no_, a0.kaa, a0.kae) (p0_2, n0_2, m0_3) [0, 1, 2] H29 (by exact hn0_2) (by exact ⟨rfl, rfl, rfl, rfl, trivial⟩) (by decide) rfl ?_
   rintro ⟨x25_2, m_6, m_7, m_8, m_9, m_10, l_2, mp_2⟩ ⟨p_5, n, b⟩ m1 gg H30 hl_2
   clear H29
   try dsimp only at H30
   generalize hn1 : it (fun next1 s => Xa t22 next1 s.1 s.2.1 s.2.2.1 s.2.2.2.1 s.2.2.2.2.1 s.2.2.2.2.2.1 s.2.2.2.2.2.2.1 s.2.2.2.2.2.2.2) m1 = next1 at H30
   try dsimp only
   refine Jc<|Ja<|lv (Ym rfl rfl)<|Jd<|Jc<|?_
   revert H30
   refine ci (decide (x25_2 < (t22.length : Int))) rfl (fun hb H31=>?_) fun hb H38=>?_
   ·refine Jp ?_
    refine Qx (r := r) (σ := (List UInt8) × Bool × Int × Nat × Int × (List Tc) × (List (Int × Bool))) (τ := AN × Nat × Nat) (fun s => Zm x25_2 next1 s.1 s.2.1 s.2.2.1 s.2.2.2.1 s.2.2.2.2.1 s.2.2.2.2.2.1 s.2.2.2.2.2.2) (fun s t => [(0, pz pb0), (1, str t22), (24, i6 (t22.length : Int)), (25, i6 x25_2)]) (fun s t => [Jf pb0 [str s.1, .bool s.2.1, .slice t.1.1 t.2.1 t.1.2, .map (some t.2.2), i6 s.2.2.1, (X6 s.2.2.2.1), i6 s.2.2.2.2.1] 88, J3 94 2 (.slice t.1.1 t.2.1 t.1.2) t.2.1 (s.2.2.2.2.2.1.map Jk), X8 i6 Value.bool t.2.2 s.2.2.2.2.2.2]) (fun s t => t.2.1 = s.2.2.2.2.2.1.length) ?_ ?_
    ·refine J0<|Jc<|Ja<|mv (i6 x25_2)<|ag (i6 x25_2)<|Jd<|Jc<|Ja<|mv (str t22)<|mv (i6 x25_2)<|?_
     obtain ⟨t30, h_t30, H34⟩ := Je H31; clear H31
     refine lv (Jcv Try.underlying9 rfl rfl h_t30)<|lv (Xe rfl rfl)<|Jd<|?_
     revert H34
     refine ci (decide (t30 = 0)) rfl (fun hb H35=>?_) fun hb H37=>?_
     ·refine Ja<|mv (pz pb0)<|?_
      obtain ⟨t33, h_t33, H36⟩ := Je H35; clear H35
      refine bo 1 2 rfl rfl<|bo 0 1 rfl rfl<|?_
      refine Qf (Jw (i := 0) (rds := []) rfl (fun w L' S hF hS hi hp hlt ho hA => k60 (a0 := (⟨m_6, m_7, l_2, mp_2, m_8, m_9, m_10⟩ : Tb)) hp hlt (Qb w S) hl_2 h_t33) Try.call60 rfl) rfl rfl rfl (fun ⟨p_7, p_8⟩ => ?_)
      refine ub 0 1 rfl rfl<|ub 1 2 rfl rfl<|Jd<|?_
      exact cl (t33.s_, t33.kab, t33.kad, t33.kac, t33.no_, t33.kaa, t33.kae) (p_7, t33.kaa.length, p_8) 0 [0, 1, 2] (by exact ⟨H36, rfl⟩)
     ·refine Jp ?_
      exact cl (m_6, m_7, m_8, m_9, m_10, l_2, mp_2) (p_5, n, b) 0 [0, 1, 2] (by exact ⟨H37, hl_2⟩)
    ·rintro ⟨m_11, m_12, m_13, m_14, m_15, l_3, mp_3⟩ ⟨p_6, n_2, b_2⟩ gg H32 hl_3
     try dsimp only at H32
     try dsimp only
     refine Ja ?_
     obtain ⟨t34, h_t34, H33⟩ := Je H32; clear H32
     refine lv (J4 rfl rfl h_t34)<|mv (i6 t34)<|Jd<|?_
     exact cl (t34, m_11, m_12, m_13, m_14, m_15, l_3, mp_3) (p_6, n_2, b_2) m1 [0, 1, 2] (by exact ⟨(by subst hn1; exact H33), hl_3⟩)
   ·refine Xy<|Jc<|?_
    try dsimp only [z1,z2,z5,z6,z7,z8]
    refine Ja<|mv (str t22)<|ag (str t22)<|Jd<|Jr<|?_
    obtain rfl := sj H38
    refine bo 1 2 rfl rfl<|bo 0 1 rfl rfl<|?_
    refine Jbw (v := str t22) rfl rfl (Y9 (p_5, b) (i := 0) rfl (by first | rfl | rw [(show n = l_2.length from hl_2)]) (by first | exact Imp.refl _ | exact Imp.of (by rw [(show n = l_2.length from hl_2)] <;> rfl)))
theorem k72 {a0 : Tb} {pb0 : Nat} {p0_2 : AN} {n0_2 : Nat} {m0_3 : Nat} {a1 : Int} {a2 : Int} {a3 : Int} {r : Td × Tb} {w : World} {h : Jt} {S : Nat → Prop} (hcs : (Jv (Jf pb0 [str a0.s_, .bool a0.kab, sl p0_2 n0_2, .map (some m0_3), i6 a0.kad, (X6 a0.kac), i6 a0.no_] 88) (Jv (J3 94 2 (sl p0_2 n0_2) n0_2 (a0.kaa.map Jk)) (X8 i6 Value.bool m0_3 a0.kae))).P S w) (hlt : ∀ b, S b → b < w.heap.size) (hw : Know h w S) (hn0_2 : n0_2 = a0.kaa.length) (H : Vo a0 a1 a2 a3 = some r) : Does prog 72 (List.toArray [pz pb0, i6 a1, i6 a2, i6 a3]) w (fun v w' => ∃ x : AN × AN × AN × AN × Nat, v = (.agg #[i6 r.1.kah, str r.1.kai, .slice x.1.1 r.1.kaj.length x.1.2, .slice x.2.1.1 r.1.kag.length x.2.1.2, .slice x.2.2.1.1 r.1.kaf.length x.2.2.1.2]) ∧ Turn w w' S (Jv (Jf pb0 [str r.2.s_, .bool r.2.kab, .slice x.2.2.2.1.1 r.2.kaa.length x.2.2.2.1.2, .map (some x.2.2.2.2), i6 r.2.kad, (X6 r.2.kac), i6 r.2.no_] 88) (Jv (J3 94 2 (.slice x.2.2.2.1.1 r.2.kaa.length x.2.2.2.1.2) r.2.kaa.length (r.2.kaa.map Jk)) (Jv (X8 i6 Value.bool x.2.2.2.2 r.2.kae) (Jv (J3 3 1 (.slice x.1.1 r.1.kaj.length x.1.2) r.1.kaj.length (r.1.kaj.map Qa)) (Jv (J3 46 2 (.slice x.2.1.1 r.1.kag.length x.2.1.2) r.1.kag.length (r.1.kag.map Jl)) (Vw 72 6 g_tag_Entry (.slice x.2.2.1.1 r.1.kaf.length x.2.2.1.2) r.1.kaf.length r.1.kaf))))))) := by
 refine enter (n := 131) func72 rfl rfl rfl S [Jv (Jf pb0 [str a0.s_, .bool a0.kab, sl p0_2 n0_2, .map (some m0_3), i6 a0.kad, (X6 a0.kac), i6 a0.no_] 88) (Jv (J3 94 2 (sl p0_2 n0_2) n0_2 (a0.kaa.map Jk)) (X8 i6 Value.bool m0_3 a0.kae))] (Sat.one hcs hlt)<|Qj 0 rfl<|Qj 1 rfl<|X7 Xo<|Jc<|Ja<|?_
 refine Xw (cs := [i6 0, str [], z0s, z0s, z0s]) zeroValue26 rfl rfl rfl (fun b5 => ?_)
 refine Jd<|Jc<|Ja<|mv (i6 a2)<|mv (i6 a1)<|?_
 obtain ⟨t17, h_t17, H50⟩ := Je H; clear H
 refine Vb (k47 h_t17) call47 rfl rfl rfl ?_
 obtain ⟨t18, h_t18, H51⟩ := Je H50; clear H50
 refine lv (Vs rfl rfl h_t18)<|ag (i6 t18)<|Jd<|Jc<|Ja<|mv (i6 a3)<|ag (i6 a3)<|Jd<|?_
 refine Qx (r := r) (σ := Int × (List Tc)) (τ := AN × Nat) (fun s => Zk a0 a1 a2 t18 s.1 s.2) (fun s t => [(0, pz pb0), (1, i6 a1), (2, i6 a2), (8, pz b5), (9, i6 t18), (10, i6 s.1)]) (fun s t => [Jf pb0 [str a0.s_, .bool a0.kab, .slice t.1.1 t.2 t.1.2, .map (some m0_3), i6 a0.kad, (X6 a0.kac), i6 a0.no_] 88, J3 94 2 (.slice t.1.1 t.2 t.1.2) t.2 (s.2.map Jk), X8 i6 Value.bool m0_3 a0.kae, Q3 Xo Xo, Jf b5 [i6 0, str [], z0s, z0s, z0s] 26]) (fun s t => t.2 = s.2.length) ?_ ?_
 ·refine Jc<|Ja<|mv (i6 t18)<|lv (V6 rfl rfl)<|Jd<|?_
  revert H51
  refine ci (decide (4 < t18)) rfl (fun hb H90=>?_) fun hb H98=>?_
  ·refine Jc<|Ja<|mv (pz pb0)<|mv (i6 a3)<|?_
   obtain ⟨t24, h_t24, H91⟩ := Je H90; clear H90
   refine Qg (fun w hF hS => k39 (a0 := a0) (Jm w) (Xq (i := 1) hn0_2 hS rfl) (Ye (fk := i6) (fv := Value.bool) (i := 2) hS rfl) (Qp (i := 0) hS rfl) h_t24) Try.call39 rfl rfl rfl<|ag (i6 t24)<|Jd<|Jc<|Jc<|Ja<|mv (pz pb0)<|mv (i6 t24)<|mv (i6 t18)<|?_
   obtain ⟨t28, h_t28, H92⟩ := Je H91; clear H91
   refine Qg (fun w hF hS => k59 (a0 := a0) (Jm w) (Xq (i := 1) hn0_2 hS rfl) (Ye (fk := i6) (fv := Value.bool) (i := 2) hS rfl) (Qp (i := 0) hS rfl) h_t28) call59 rfl rfl rfl<|lv (Ja6 rfl)<|Jd<|?_
   revert H92
   refine ci (!t28) rfl (fun hb H93=>?_) fun hb H95=>?_
   ·refine Jc<|Ja<|mv (pz pb0)<|?_
    obtain ⟨t31, h_t31, H94⟩ := Je H93; clear H93
    refine bo 1 2 rfl rfl<|bo 0 1 rfl rfl<|?_
    refine Qf (Jw (i := 0) (rds := []) rfl (fun w L' S hF hS hi hp hlt ho hA => k60 hp hlt (Qb w S) hn0_2 h_t31) Try.call60 rfl) rfl rfl rfl (fun ⟨p_11, p_12⟩ => ?_)
    refine ub 0 1 rfl rfl<|ub 1 2 rfl rfl<|Jd<|Jc<|?_
    try dsimp only [z1,z2,z5,z6,z7,z8]
    refine Ja<|lv (Xm (pl := #[(0, 1), (1, 1), (2, 1), (3, 1), (4, 1)]) (ps := []) (cells := #[i6 0, str [], z0s, z0s, z0s]) zeroValue26 Try.runUnderlying26 (fun w => by kernel_rfl) rfl rfl)<|st (i := 4) [i6 0, str [], z0s, z0s, z0s] [i6 0, str [], z0s, z0s, z0s] Try.sizeOf26 rfl rfl<|Jd<|Jr<|?_
    try dsimp only [z1, z2, z3, z4, z5, z6, z7, z8]
    refine J5 3 1<|J5 46 2<|J5 72 6<|?_
    try dsimp only [z1,z2,z5,z6,z7,z8]
    obtain rfl := sj H94
    refine bo 3 7 rfl rfl<|Xl 3 rfl (Zc (p := nn) rfl (AllC.nil (G := g_tag_Entry) (h := Xo) (sz := 6)))<|bo 6 3 rfl rfl<|bo 5 6 rfl rfl<|bo 2 5 rfl rfl<|bo 1 2 rfl rfl<|bo 0 1 rfl rfl<|?_
    refine retC (i := 4) (vs := [i6 0, str [], sl nn ([] : List Int).length, sl nn ([] : List Tf).length, sl nn (([] : List (List Value)).length)]) Try.isAgg26 Try.sizeOf26 rfl rfl rfl rfl (Y9 (nn, nn, nn, p_11, p_12) (i := 0) rfl (by first | rfl | rw [(show (([] : List (List Value)).length) = ([] : List Ta).length from (AllC.nil (G := g_tag_Entry) (h := Xo) (sz := 6)).len)]) (by first | exact Imp.refl _ | exact Imp.of (by rw [(show (([] : List (List Value)).length) = ([] : List Ta).length from (AllC.nil (G := g_tag_Entry) (h := Xo) (sz := 6)).len)] <;> rfl)))
   ·refine Jp ?_
    try dsimp only [z1,z2,z5,z6,z7,z8]
    refine Ja<|mv (pz pb0)<|mv (pz pb0)<|lv (Ji rfl)<|lf Try.runUnderlying88 rfl Try.sizeOf49 rfl<|ll 0 (sl p0_2 n0_2) isAgg49<|mv (i6 t24)<|mv (i6 t24)<|mv (i6 t18)<|?_
    obtain ⟨t41, h_t41, H96⟩ := Je H95; clear H95
    refine lv (J4 rfl rfl h_t41)<|lv (Xm (pl := #[(0, 1), (1, 1)]) (ps := [(0, i6 t24), (1, i6 t41)]) (cells := #[i6 t24, i6 t41]) zeroValue94 Try.runUnderlying94 (fun w => by kernel_rfl) rfl rfl)<|?_
    refine Qw (vs := [.agg #[i6 t24, i6 t41]]) (cs := [i6 t24, i6 t41]) Try.underlying49 sizeOf94 zeroValue94 rfl rfl rfl rfl rfl rfl rfl (fun b9 => ?_)
    obtain ⟨l44, h_l44, H97⟩ := Je H96; clear H96
    refine Qf (Ys (i := 1) (hn := hn0_2) (rds := [5]) (p := p0_2) (sz := 2) (by_ := 16) (f := Jk) (ys := a0.kaa) (ls := ([(⟨t24, t41⟩ : Tc)] : List Tc)) (V := .slice (some ⟨b9, 0, none⟩) 1 1) Try.underlying49 (Qu typeInfo94) rfl rfl rfl rfl rfl rfl rfl rfl rfl rfl (fun w L' hF hS hi => Z8 (i := 5) hS ((hi 5 (by simp)).trans rfl) rfl rfl) (fun _ => rfl) (fun _ => rfl) h_l44) rfl rfl rfl (fun p_13 => ?_)
    refine lv (Ji rfl)<|lf Try.runUnderlying88 rfl Try.sizeOf49 rfl<|st (i := 0) [sl p_13 l44.length] [str a0.s_, .bool a0.kab, sl p_13 l44.length, .map (some m0_3), i6 a0.kad, (X6 a0.kac), i6 a0.no_] Try.sizeOf49 rfl rfl<|Jd<|?_
    exact cl (t24, l44) (p_13, l44.length) 0 [0, 1, 2, 3, 4] (by exact ⟨H97, rfl⟩)
  ·refine Jp ?_
   exact cl (a3, a0.kaa) (p0_2, n0_2) 0 [0, 1, 2, 3, 4] (by exact ⟨H98, hn0_2⟩)
 ·rintro ⟨x10, l⟩ ⟨p, n⟩ gg H52 hl
  try dsimp only at H52
  try dsimp only
  refine Jc<|Ja<|mv (i6 a1)<|lv (Xm (pl := #[(0, 1), (1, 1), (2, 1), (3, 1), (4, 1)]) (ps := [(0, i6 a1)]) (cells := #[i6 a1, str [], z0s, z0s, z0s]) zeroValue26 Try.runUnderlying26 (fun w => by kernel_rfl) rfl rfl)<|?_
  refine Xw (cs := [i6 0, str [], z0s, z0s, z0s]) zeroValue26 rfl rfl rfl (fun b6 => ?_)
  refine st (i := 5) [i6 a1, str [], z0s, z0s, z0s] [i6 a1, str [], z0s, z0s, z0s] Try.sizeOf26 rfl rfl<|Jd<|?_
  refine Qx (r := r) (σ := (List UInt8) × Bool × Int × Nat × Int × (List Tc) × (List (Int × Bool)) × (List UInt8) × (List Int) × (List Tf)) (τ := AN × Nat × Nat × AN × AN) (fun s => Zi a1 s.1 s.2.1 s.2.2.1 s.2.2.2.1 s.2.2.2.2.1 s.2.2.2.2.2.1 s.2.2.2.2.2.2.1 s.2.2.2.2.2.2.2.1 s.2.2.2.2.2.2.2.2.1 s.2.2.2.2.2.2.2.2.2) (fun s t => [(8, pz b5), (11, pz b6)]) (fun s t => [Jf pb0 [str s.1, .bool s.2.1, .slice t.1.1 t.2.1 t.1.2, .map (some t.2.2.1), i6 s.2.2.1, (X6 s.2.2.2.1), i6 s.2.2.2.2.1] 88, J3 94 2 (.slice t.1.1 t.2.1 t.1.2) t.2.1 (s.2.2.2.2.2.1.map Jk), X8 i6 Value.bool t.2.2.1 s.2.2.2.2.2.2.1, Q3 Xo Xo, Jf b5 [i6 0, str [], z0s, z0s, z0s] 26, Jf b6 [i6 a1, str s.2.2.2.2.2.2.2.1, .slice t.2.2.2.1.1 s.2.2.2.2.2.2.2.2.1.length t.2.2.2.1.2, .slice t.2.2.2.2.1 s.2.2.2.2.2.2.2.2.2.length t.2.2.2.2.2, z0s] 26, J3 3 1 (.slice t.2.2.2.1.1 s.2.2.2.2.2.2.2.2.1.length t.2.2.2.1.2) s.2.2.2.2.2.2.2.2.1.length (s.2.2.2.2.2.2.2.2.1.map Qa), J3 46 2 (.slice t.2.2.2.2.1 s.2.2.2.2.2.2.2.2.2.length t.2.2.2.2.2) s.2.2.2.2.2.2.2.2.2.length (s.2.2.2.2.2.2.2.2.2.map Jl)]) (fun s t => t.2.1 = s.2.2.2.2.2.1.length) ?_ ?_
  ·refine J0<|Jc<|?_
   try dsimp only [z1,z2,z5,z6,z7,z8]
   refine Ja<|mv (i6 a1)<|lv (Xe rfl rfl)<|ag (.bool (decide (a1 = 2)))<|Jd<|?_
   revert H52
   refine ci (decide (a1 = 2)) rfl (fun hb H54=>?_) fun hb H58=>?_
   ·refine Ja<|mv (pz pb0)<|mv (pz pb0)<|lv (Ji rfl)<|lf Try.runUnderlying88 rfl Try.sizeOf9 rfl<|ll 0 (str a0.s_) Try.isAgg9<|mv (i6 x10)<|mv (i6 x10)<|mv (i6 t18)<|?_
    obtain ⟨t86, h_t86, H55⟩ := Je H54; clear H54
    refine lv (J4 rfl rfl h_t86) ?_
    obtain ⟨t87, h_t87, H56⟩ := Je H55; clear H55
    refine lv (Jhv Try.underlying9 rfl rfl rfl h_t87) ?_
    obtain ⟨t88, h_t88, H57⟩ := Je H56; clear H56
    refine bo 1 2 rfl rfl<|bo 0 1 rfl rfl<|?_
    refine Qf (Jw (i := 0) (rds := []) rfl (fun w L' S hF hS hi hp hlt ho hA => k86 (a0 := (⟨a0.s_, a0.kab, l, a0.kae, a0.kad, a0.kac, a0.no_⟩ : Tb)) hp hlt (Qb w S) hl h_t88) call86 rfl) rfl rfl rfl (fun ⟨p_5, p_6⟩ => ?_)
    refine ub 0 1 rfl rfl<|ub 1 2 rfl rfl<|lf Try.runUnderlying26 rfl Try.sizeOf9 rfl<|st (i := 5) [str t88.1] [i6 a1, str t88.1, z0s, z0s, z0s] Try.sizeOf9 rfl rfl<|Jd<|J5 3 1<|J5 46 2<|?_
    exact cl (t88.2.s_, t88.2.kab, t88.2.kad, t88.2.kac, t88.2.no_, t88.2.kaa, t88.2.kae, t88.1, ([] : List Int), ([] : List Tf)) (p_5, t88.2.kaa.length, p_6, nn, nn) 0 [0, 1, 2, 3, 4, 5, 6, 7] (by exact ⟨H57, rfl⟩)
   ·refine Jc ?_
    try dsimp only [z1,z2,z5,z6,z7,z8]
    refine Ja<|mv (i6 a1)<|lv (Xe rfl rfl)<|ag (.bool (decide (a1 = 7)))<|Jd<|?_
    revert H58
    refine ci (decide (a1 = 7)) rfl (fun hb H59=>?_) fun hb H62=>?_
    ·refine Ja<|mv (pz pb0)<|lv (Ji rfl)<|lf Try.runUnderlying88 rfl Try.sizeOf9 rfl<|ll 0 (str a0.s_) Try.isAgg9<|mv (i6 x10)<|mv (i6 x10)<|mv (i6 t18)<|?_
     obtain ⟨t100, h_t100, H60⟩ := Je H59; clear H59
     refine lv (J4 rfl rfl h_t100) ?_
     obtain ⟨t101, h_t101, H61⟩ := Je H60; clear H60
     refine lv (Jhv Try.underlying9 rfl rfl rfl h_t101)<|lf Try.runUnderlying26 rfl Try.sizeOf9 rfl<|st (i := 5) [str t101] [i6 a1, str t101, z0s, z0s, z0s] Try.sizeOf9 rfl rfl<|Jd<|J5 3 1<|J5 46 2<|?_
     exact cl (a0.s_, a0.kab, a0.kad, a0.kac, a0.no_, l, a0.kae, t101, ([] : List Int), ([] : List Tf)) (p, n, m0_3, nn, nn) 0 [0, 1, 2, 3, 4, 5, 6, 7] (by exact ⟨H61, hl⟩)
    ·refine Jc<|Ja<|mv (i6 a1)<|lv (Xe rfl rfl)<|ag (.bool (decide (a1 = 5)))<|Jd<|?_
     revert H62
     refine ci (decide (a1 = 5)) rfl (fun hb H63=>?_) fun hb H76=>?_
     ·refine Jc<|Ja<|mv (i6 a2)<|mv (i6 0)<|Jd<|J0<|J5 46 2<|?_
      refine Zz (σ := Int × (List Tf)) (τ := AN) (fun next3 s => Xt a0 a1 a2 x10 l next3 s.1 s.2) (fun s t => [(0, pz pb0), (8, pz b5), (10, i6 x10), (11, pz b6), (106, i6 a2), (107, i6 s.1)]) (fun s t => [Jf pb0 [str a0.s_, .bool a0.kab, sl p n, .map (some m0_3), i6 a0.kad, (X6 a0.kac), i6 a0.no_] 88, J3 94 2 (sl p n) n (l.map Jk), X8 i6 Value.bool m0_3 a0.kae, Q3 Xo Xo, Jf b5 [i6 0, str [], z0s, z0s, z0s] 26, Jf b6 [i6 a1, str [], z0s, sl t s.2.length, z0s] 26, J3 46 2 (sl t s.2.length) s.2.length (s.2.map Jl)]) (fun s t => True) (0, ([] : List Tf)) nn [0, 1, 2, 3, 4, 5, 6] H63 (by exact trivial) (by exact ⟨rfl, rfl, rfl, rfl, rfl, rfl, trivial⟩) (by decide) rfl ?_
      rintro ⟨x107_2, l_6⟩ p_7 m3 gg H64 _
      clear H63
      try dsimp only at H64
      generalize hn3 : it (fun next3 s => Xt a0 a1 a2 x10 l next3 s.1 s.2) m3 = next3 at H64
      try dsimp only
      refine Jc<|Ja<|lv (Ym rfl rfl)<|Jd<|Jc<|?_
      revert H64
      refine ci (decide (x107_2 < a2)) rfl (fun hb H65=>?_) fun hb H75=>?_
      ·refine Jp<|Jc<|J0<|Jc<|Ja<|mv (i6 x107_2)<|ag (i6 x107_2)<|Jd<|?_
       exact Qc (Kd.p :: Kd.d [5] _ :: Kd.p :: Kd.p :: Kd.p :: Kd.p :: Kd.p :: Kd.d [3, 0, 1, 2] _ :: Kd.p :: Kd.p :: Kd.p :: Kd.p :: Kd.p :: Kd.p :: Kd.d [3, 0, 1, 2] _ :: Kd.p :: Kd.ns 7 [_, _] 46 1 :: Kd.t 6 [7] _ _ :: Kd.p :: Kd.sv 128 127 5 _ 26 :: []) 1 mixed (by
        refine dv (Qd Try.runUnderlying26 rfl Try.sizeOf23 rfl rfl)<|dl (sl p_7 l_6.length) isAgg23<|dm (pz pb0)<|dm (i6 x10)<|dm (i6 x107_2)<|?_
        have h_t115 := Jx H65
        have H66 := Jq H65
        refine dv (Vs rfl rfl h_t115) ?_
        have h_t116 := Jx H66
        have H67 := Jq H66
        refine dv (J4 rfl rfl h_t116) ?_
        have h_t117 := Jx H67
        have H68 := Jq H67
        refine Jam (fun w L' hF hS hi => k39 (a0 := (⟨a0.s_, a0.kab, l, a0.kae, a0.kad, a0.kac, a0.no_⟩ : Tb)) (Jm w) (Xq (i := 1) hl hS ((hi 1 (by simp)).trans rfl)) (Ye (fk := i6) (fv := Value.bool) (i := 2) hS ((hi 2 (by simp)).trans rfl)) (Qp (i := 0) hS ((hi 0 (by simp)).trans rfl)) h_t117) Try.call39 rfl rfl<|dm (pz pb0)<|dm (i6 x10)<|dm (i6 x107_2)<|?_
        have h_t121 := Jx H68
        have H69 := Jq H68
        refine dv (Vs rfl rfl h_t121) ?_
        have h_t122 := Jx H69
        have H70 := Jq H69
        refine dv (J4 rfl rfl h_t122) ?_
        have h_t123 := Jx H70
        have H71 := Jq H70
        refine dv (J4 rfl rfl h_t123) ?_
        have h_t124 := Jx H71
        have H72 := Jq H71
        refine Jam (fun w L' hF hS hi => k39 (a0 := (⟨a0.s_, a0.kab, l, a0.kae, a0.kad, a0.kac, a0.no_⟩ : Tb)) (Jm w) (Xq (i := 1) hl hS ((hi 1 (by simp)).trans rfl)) (Ye (fk := i6) (fv := Value.bool) (i := 2) hS ((hi 2 (by simp)).trans rfl)) (Qp (i := 0) hS ((hi 0 (by simp)).trans rfl)) h_t124) Try.call39 rfl rfl<|dv (Xm (pl := #[(0, 1), (1, 1)]) (ps := [(0, i6 (val (Jg (⟨a0.s_, a0.kab, l, a0.kae, a0.kad, a0.kac, a0.no_⟩ : Tb) (val (gI (x10 + (val (gI (8 * x107_2)))))) 4))), (1, i6 (val (Jg (⟨a0.s_, a0.kab, l, a0.kae, a0.kad, a0.kac, a0.no_⟩ : Tb) (val (gI ((val (gI (x10 + (val (gI (8 * x107_2)))))) + 4))) 4)))]) (cells := #[i6 (val (Jg (⟨a0.s_, a0.kab, l, a0.kae, a0.kad, a0.kac, a0.no_⟩ : Tb) (val (gI (x10 + (val (gI (8 * x107_2)))))) 4)), i6 (val (Jg (⟨a0.s_, a0.kab, l, a0.kae, a0.kad, a0.kac, a0.no_⟩ : Tb) (val (gI ((val (gI (x10 + (val (gI (8 * x107_2)))))) + 4))) 4))]) zeroValue46 Try.runUnderlying46 (fun w => by kernel_rfl) rfl rfl)<|?_
        refine Jfz rfl rfl (Zd (vs := [.agg #[i6 (val (Jg (⟨a0.s_, a0.kab, l, a0.kae, a0.kad, a0.kac, a0.no_⟩ : Tb) (val (gI (x10 + (val (gI (8 * x107_2)))))) 4)), i6 (val (Jg (⟨a0.s_, a0.kab, l, a0.kae, a0.kad, a0.kac, a0.no_⟩ : Tb) (val (gI ((val (gI (x10 + (val (gI (8 * x107_2)))))) + 4))) 4))]]) (cs := [i6 (val (Jg (⟨a0.s_, a0.kab, l, a0.kae, a0.kad, a0.kac, a0.no_⟩ : Tb) (val (gI (x10 + (val (gI (8 * x107_2)))))) 4)), i6 (val (Jg (⟨a0.s_, a0.kab, l, a0.kae, a0.kad, a0.kac, a0.no_⟩ : Tb) (val (gI ((val (gI (x10 + (val (gI (8 * x107_2)))))) + 4))) 4))]) Try.underlying23 Try.sizeOf46 zeroValue46 rfl rfl rfl rfl rfl) rfl (fun b7 => ?_)
        have h_l127 := Jx H72
        have H73 := Jq H72
        refine U8 (Cv := fun v => J3 46 2 v (val (Xd 16 l_6 ([(⟨(val (Jg (⟨a0.s_, a0.kab, l, a0.kae, a0.kad, a0.kac, a0.no_⟩ : Tb) (val (gI (x10 + (val (gI (8 * x107_2)))))) 4)), (val (Jg (⟨a0.s_, a0.kab, l, a0.kae, a0.kad, a0.kac, a0.no_⟩ : Tb) (val (gI ((val (gI (x10 + (val (gI (8 * x107_2)))))) + 4))) 4))⟩ : Tf)] : List Tf))).length ((val (Xd 16 l_6 ([(⟨(val (Jg (⟨a0.s_, a0.kab, l, a0.kae, a0.kad, a0.kac, a0.no_⟩ : Tb) (val (gI (x10 + (val (gI (8 * x107_2)))))) 4)), (val (Jg (⟨a0.s_, a0.kab, l, a0.kae, a0.kad, a0.kac, a0.no_⟩ : Tb) (val (gI ((val (gI (x10 + (val (gI (8 * x107_2)))))) + 4))) 4))⟩ : Tf)] : List Tf))).map Jl)) (none, 0) (Ys (i := 6) (hn := rfl) (rds := [7]) (p := p_7) (sz := 2) (by_ := 16) (f := Jl) (ys := l_6) (ls := ([(⟨(val (Jg (⟨a0.s_, a0.kab, l, a0.kae, a0.kad, a0.kac, a0.no_⟩ : Tb) (val (gI (x10 + (val (gI (8 * x107_2)))))) 4)), (val (Jg (⟨a0.s_, a0.kab, l, a0.kae, a0.kad, a0.kac, a0.no_⟩ : Tb) (val (gI ((val (gI (x10 + (val (gI (8 * x107_2)))))) + 4))) 4))⟩ : Tf)] : List Tf)) (V := .slice (some ⟨b7, 0, none⟩) 1 1) Try.underlying23 (Qu typeInfo46) rfl rfl rfl rfl rfl rfl rfl rfl rfl rfl (fun w L' hF hS hi => Z8 (i := 7) hS ((hi 7 (by simp)).trans rfl) rfl rfl) (fun _ => rfl) (fun _ => rfl) h_l127) (fun _ => rfl) rfl rfl (fun p_8 => ?_)
        refine dv (Qd Try.runUnderlying26 rfl Try.sizeOf23 rfl rfl)<|Vx (i := 5) (vs := [.slice p_8.1 (val (Xd 16 l_6 ([(⟨(val (Jg (⟨a0.s_, a0.kab, l, a0.kae, a0.kad, a0.kac, a0.no_⟩ : Tb) (val (gI (x10 + (val (gI (8 * x107_2)))))) 4)), (val (Jg (⟨a0.s_, a0.kab, l, a0.kae, a0.kad, a0.kac, a0.no_⟩ : Tb) (val (gI ((val (gI (x10 + (val (gI (8 * x107_2)))))) + 4))) 4))⟩ : Tf)] : List Tf))).length p_8.2]) (cs' := fun v_ => [i6 a1, str [], z0s, v_, z0s]) Try.sizeOf23 rfl rfl rfl rfl rfl rfl rfl rfl rfl<|X2<|Ja<|?_
        obtain ⟨t129, h_t129, H74⟩ := Je H73; clear H73
        refine lv (J4 rfl rfl h_t129)<|mv (i6 t129)<|Jd<|?_
        exact cl (t129, (val (Xd 16 l_6 ([(⟨(val (Jg (⟨a0.s_, a0.kab, l, a0.kae, a0.kad, a0.kac, a0.no_⟩ : Tb) (val (gI (x10 + (val (gI (8 * x107_2)))))) 4)), (val (Jg (⟨a0.s_, a0.kab, l, a0.kae, a0.kad, a0.kac, a0.no_⟩ : Tb) (val (gI ((val (gI (x10 + (val (gI (8 * x107_2)))))) + 4))) 4))⟩ : Tf)] : List Tf)))) p_8 m3 [0, 1, 2, 3, 4, 5, 6] (by exact ⟨(by subst hn3; exact H74), trivial⟩)
        ) (by kernel_rfl)
      ·refine Xy<|J5 3 1<|?_
       exact cl (a0.s_, a0.kab, a0.kad, a0.kac, a0.no_, l, a0.kae, [], ([] : List Int), l_6) (p, n, m0_3, nn, p_7) 0 [0, 1, 2, 3, 4, 5, 7, 6] (by exact ⟨H75, hl⟩)
     ·refine Jc<|Ja<|mv (i6 a2)<|mv (i6 0)<|Jd<|J0<|J5 3 1<|?_
      refine Zz (σ := Int × (List Int)) (τ := AN) (fun next4 s => Xu a0 a1 a2 x10 l next4 s.1 s.2) (fun s t => [(0, pz pb0), (1, i6 a1), (8, pz b5), (10, i6 x10), (11, pz b6), (49, i6 a2), (50, i6 s.1)]) (fun s t => [Jf pb0 [str a0.s_, .bool a0.kab, sl p n, .map (some m0_3), i6 a0.kad, (X6 a0.kac), i6 a0.no_] 88, J3 94 2 (sl p n) n (l.map Jk), X8 i6 Value.bool m0_3 a0.kae, Q3 Xo Xo, Jf b5 [i6 0, str [], z0s, z0s, z0s] 26, Jf b6 [i6 a1, str [], sl t s.2.length, z0s, z0s] 26, J3 3 1 (sl t s.2.length) s.2.length (s.2.map Qa)]) (fun s t => True) (0, ([] : List Int)) nn [0, 1, 2, 3, 4, 5, 6] H76 (by exact trivial) (by exact ⟨rfl, rfl, rfl, rfl, rfl, rfl, rfl, trivial⟩) (by decide) rfl ?_
      rintro ⟨x50_2, l_8⟩ p_9 m4 gg H77 _
      clear H76
      try dsimp only at H77
      generalize hn4 : it (fun next4 s => Xu a0 a1 a2 x10 l next4 s.1 s.2) m4 = next4 at H77
      try dsimp only
      refine Jc ?_
      try dsimp only [z1,z2,z5,z6,z7,z8]
      refine Ja<|lv (Ym rfl rfl)<|Jd<|Jc<|?_
      revert H77
      refine ci (decide (x50_2 < a2)) rfl (fun hb H78=>?_) fun hb H89=>?_
      ·refine Jp<|Jc<|J0<|Jc<|Ja<|mv (i6 x50_2)<|ag (i6 x50_2)<|Jd<|Jc<|Ja<|mv (pz pb0)<|mv (i6 x10)<|mv (i6 x50_2)<|mv (i6 a1)<|?_
       obtain ⟨t57, h_t57, H79⟩ := Je H78; clear H78
       refine Vb (k47 h_t57) call47 rfl rfl rfl ?_
       obtain ⟨t58, h_t58, H80⟩ := Je H79; clear H79
       refine lv (Vs rfl rfl h_t58) ?_
       obtain ⟨t59, h_t59, H81⟩ := Je H80; clear H80
       refine lv (J4 rfl rfl h_t59)<|mv (i6 a1)<|?_
       obtain ⟨t61, h_t61, H82⟩ := Je H81; clear H81
       refine Vb (k47 h_t61) call47 rfl rfl rfl ?_
       obtain ⟨t62, h_t62, H83⟩ := Je H82; clear H82
       refine Qg (fun w hF hS => k39 (a0 := (⟨a0.s_, a0.kab, l, a0.kae, a0.kad, a0.kac, a0.no_⟩ : Tb)) (Jm w) (Xq (i := 1) hl hS rfl) (Ye (fk := i6) (fv := Value.bool) (i := 2) hS rfl) (Qp (i := 0) hS rfl) h_t62) Try.call39 rfl rfl rfl<|ag (i6 t62)<|Jd<|?_
       refine Qx (r := r) (σ := Int) (τ := Unit) (fun s => Zo x50_2 l_8 next4 s) (fun s t => [(0, pz pb0), (1, i6 a1), (8, pz b5), (10, i6 x10), (11, pz b6), (14, i6 s), (49, i6 a2), (50, i6 x50_2)]) (fun s t => [Jf pb0 [str a0.s_, .bool a0.kab, sl p n, .map (some m0_3), i6 a0.kad, (X6 a0.kac), i6 a0.no_] 88, J3 94 2 (sl p n) n (l.map Jk), X8 i6 Value.bool m0_3 a0.kae, Q3 Xo Xo, Jf b5 [i6 0, str [], z0s, z0s, z0s] 26, Jf b6 [i6 a1, str [], sl p_9 l_8.length, z0s, z0s] 26, J3 3 1 (sl p_9 l_8.length) l_8.length (l_8.map Qa)]) (fun s t => True) ?_ ?_
       ·refine Jc<|Ja<|mv (i6 a1)<|lv (Xe rfl rfl)<|Jd<|?_
        revert H83
        refine ci (decide (a1 = 9)) rfl (fun hb H87=>?_) fun hb H88=>?_
        ·refine Ja<|mv (i6 t62)<|lv (Jco Try.runUnderlying3 runUnderlying21 rfl (wr_i32 _))<|lv (Jco runUnderlying21 Try.runUnderlying3 rfl (wr_i64 _))<|ag (i6 (U6 (wI32 t62)))<|Jd<|?_
         exact cl (U6 (wI32 t62)) () 0 [0, 1, 2, 3, 4, 5, 6] (by exact ⟨H87, trivial⟩)
        ·refine Jp ?_
         exact cl t62 () 0 [0, 1, 2, 3, 4, 5, 6] (by exact ⟨H88, trivial⟩)
       ·rintro x14 _ gg H84 _
        try dsimp only at H84
        try dsimp only
        refine Ja<|lf Try.runUnderlying26 rfl Try.sizeOf22 rfl<|ll 5 (sl p_9 l_8.length) isAgg22<|mv (i6 x14)<|?_
        refine Qw (vs := [i6 x14]) (cs := [i6 x14]) Try.underlying22 Try.sizeOf3 zeroValue3 rfl rfl rfl rfl rfl rfl rfl (fun b8 => ?_)
        obtain ⟨l72, h_l72, H85⟩ := Je H84; clear H84
        refine Qf (Ys (i := 6) (hn := rfl) (rds := [7]) (p := p_9) (sz := 1) (by_ := 8) (f := Qa) (ys := l_8) (ls := ([x14] : List Int)) (V := .slice (some ⟨b8, 0, none⟩) 1 1) Try.underlying22 (Qu typeInfo3) rfl rfl rfl rfl rfl rfl rfl rfl rfl rfl (fun w L' hF hS hi => Z8 (i := 7) hS ((hi 7 (by simp)).trans rfl) rfl rfl) (fun _ => rfl) (fun _ => rfl) h_l72) rfl rfl rfl (fun p_10 => ?_)
        refine lf Try.runUnderlying26 rfl Try.sizeOf22 rfl<|st (i := 5) [sl p_10 l72.length] [i6 a1, str [], sl p_10 l72.length, z0s, z0s] Try.sizeOf22 rfl rfl<|Jd<|Ja<|?_
        obtain ⟨t74, h_t74, H86⟩ := Je H85; clear H85
        refine lv (J4 rfl rfl h_t74)<|mv (i6 t74)<|Jd<|?_
        exact cl (t74, l72) p_10 m4 [0, 1, 2, 3, 4, 5, 6] (by exact ⟨(by subst hn4; exact H86), trivial⟩)
      ·refine Xy<|J5 46 2<|?_
       exact cl (a0.s_, a0.kab, a0.kad, a0.kac, a0.no_, l, a0.kae, [], l_8, ([] : List Tf)) (p, n, m0_3, p_9, nn) 0 [0, 1, 2, 3, 4, 5, 6, 7] (by exact ⟨H89, hl⟩)
  ·rintro ⟨m, m_2, m_3, m_4, m_5, l_2, mp, m_6, l_3, l_4⟩ ⟨p_2, n_2, b, p_3, p_4⟩ gg H53 hl_2
   try dsimp only at H53
   try dsimp only
   refine Jc ?_
   try dsimp only [z1,z2,z5,z6,z7,z8]
   refine Ja<|Q1 (i := 5) (vs := [i6 a1, str m_6, sl p_3 l_3.length, sl p_4 l_4.length, z0s]) Try.isAgg26 Try.sizeOf26 rfl rfl rfl rfl rfl<|st (i := 4) [i6 a1, str m_6, sl p_3 l_3.length, sl p_4 l_4.length, z0s] [i6 a1, str m_6, sl p_3 l_3.length, sl p_4 l_4.length, z0s] Try.sizeOf26 rfl rfl<|Jd<|Jr<|Jce 5<|?_
   try dsimp only [z1, z2, z3, z4, z5, z6, z7, z8]
   refine J5 72 6 ?_
   obtain rfl := sj H53
   refine bo 3 7 rfl rfl<|Xl 3 rfl (Zc (p := nn) rfl (AllC.nil (G := g_tag_Entry) (h := Xo) (sz := 6)))<|bo 6 3 rfl rfl<|bo 5 6 rfl rfl<|bo 2 5 rfl rfl<|bo 1 2 rfl rfl<|bo 0 1 rfl rfl<|?_
   refine retC (i := 4) (vs := [i6 a1, str m_6, sl p_3 l_3.length, sl p_4 l_4.length, sl nn (([] : List (List Value)).length)]) Try.isAgg26 Try.sizeOf26 rfl rfl rfl rfl (Y9 (p_3, p_4, nn, p_2, b) (i := 0) rfl (by first | rfl | rw [(show (([] : List (List Value)).length) = ([] : List Ta).length from (AllC.nil (G := g_tag_Entry) (h := Xo) (sz := 6)).len), (show n_2 = l_2.length from hl_2)]) (by first | exact Imp.refl _ | exact Imp.of (by rw [(show (([] : List (List Value)).length) = ([] : List Ta).length from (AllC.nil (G := g_tag_Entry) (h := Xo) (sz := 6)).len), (show n_2 = l_2.length from hl_2)] <;> rfl)))
theorem k61_b {self : (Tb × Int × (List Int)) → Option ((List Ta) × Int × Tb)} (ih : ∀ {a0 : Tb} {pb0 : Nat} {p0_2 : AN} {n0_2 : Nat} {m0_3 : Nat} {a1 : Int} {a2 : (List Int)} {v2 : Value} {r : (List Ta) × Int × Tb} {w : World} {h : Jt} {S : Nat → Prop} (hcs : (Jv (Jf pb0 [str a0.s_, .bool a0.kab, sl p0_2 n0_2, .map (some m0_3), i6 a0.kad, (X6 a0.kac), i6 a0.no_] 88) (Jv (J3 94 2 (sl p0_2 n0_2) n0_2 (a0.kaa.map Jk)) (X8 i6 Value.bool m0_3 a0.kae))).P S w) (hlt : ∀ b, S b → b < w.heap.size) (hw : Know h w S) (hn0_2 : n0_2 = a0.kaa.length) (f2 : FrS h 1 v2 (a2.map Qa)) (_ : self (a0, a1, a2) = some r), Does prog 40 (List.toArray [pz pb0, i6 a1, v2]) w (fun v w' => ∃ x : AN × AN × Nat, v = (.tuple #[.slice x.1.1 r.1.length x.1.2, i6 r.2.1]) ∧ Turn w w' S (Jv (Jf pb0 [str r.2.2.s_, .bool r.2.2.kab, .slice x.2.1.1 r.2.2.kaa.length x.2.1.2, .map (some x.2.2), i6 r.2.2.kad, (X6 r.2.2.kac), i6 r.2.2.no_] 88) (Jv (J3 94 2 (.slice x.2.1.1 r.2.2.kaa.length x.2.1.2) r.2.2.kaa.length (r.2.2.kaa.map Jk)) (Jv (X8 i6 Value.bool x.2.2 r.2.2.kae) (Vw 72 6 g_tag_Entry (.slice x.1.1 r.1.length x.1.2) r.1.length r.1)))))) {a0 : Tb} {pb0 : Nat} {p0_2 : AN} {n0_2 : Nat} {m0_3 : Nat} {a1 : Int} {a2 : (List Int)} {v2 : Value} {r : Ta × Tb} {w : World} {h : Jt} {S : Nat → Prop} (hcs : (Jv (Jf pb0 [str a0.s_, .bool a0.kab, sl p0_2 n0_2, .map (some m0_3), i6 a0.kad, (X6 a0.kac), i6 a0.no_] 88) (Jv (J3 94 2 (sl p0_2 n0_2) n0_2 (a0.kaa.map Jk)) (X8 i6 Value.bool m0_3 a0.kae))).P S w) (hlt : ∀ b, S b → b < w.heap.size) (hw : Know h w S) (hn0_2 : n0_2 = a0.kaa.length) (f2 : FrS h 1 v2 (a2.map Qa)) (H : Xp self a0 a1 a2 = some r) : Does prog 61 (List.toArray [pz pb0, i6 a1, v2]) w (fun v w' => ∃ x : AN × AN × AN × AN × Nat, v = (.agg #[i6 r.1.Tag, i6 r.1.Value.kah, str r.1.Value.kai, .slice x.1.1 r.1.Value.kaj.length x.1.2, .slice x.2.1.1 r.1.Value.kag.length x.2.1.2, .slice x.2.2.1.1 r.1.Value.kaf.length x.2.2.1.2]) ∧ Turn w w' S (Jv (Jf pb0 [str r.2.s_, .bool r.2.kab, .slice x.2.2.2.1.1 r.2.kaa.length x.2.2.2.1.2, .map (some x.2.2.2.2), i6 r.2.kad, (X6 r.2.kac), i6 r.2.no_] 88) (Jv (J3 94 2 (.slice x.2.2.2.1.1 r.2.kaa.length x.2.2.2.1.2) r.2.kaa.length (r.2.kaa.map Jk)) (Jv (X8 i6 Value.bool x.2.2.2.2 r.2.kae) (Jv (J3 3 1 (.slice x.1.1 r.1.Value.kaj.length x.1.2) r.1.Value.kaj.length (r.1.Value.kaj.map Qa)) (Jv (J3 46 2 (.slice x.2.1.1 r.1.Value.kag.length x.2.1.2) r.1.Value.kag.length (r.1.Value.kag.map Jl)) (Vw 72 6 g_tag_Entry (.slice x.2.2.1.1 r.1.Value.kaf.length x.2.2.1.2) r.1.Value.kaf.length r.1.Value.kaf))))))) := by
 refine enter (n := 76) func61 rfl rfl rfl S [Jv (Jf pb0 [str a0.s_, .bool a0.kab, sl p0_2 n0_2, .map (some m0_3), i6 a0.kad, (X6 a0.kac), i6 a0.no_] 88) (Jv (J3 94 2 (sl p0_2 n0_2) n0_2 (a0.kaa.map Jk)) (X8 i6 Value.bool m0_3 a0.kae))] (Sat.one hcs hlt)<|Qj 0 rfl<|Qj 1 rfl<|X7 Xo<|Jc<|Ja<|?_
 refine Xw (cs := [i6 0, i6 0, str [], z0s, z0s, z0s]) zeroValue72 rfl rfl rfl (fun b3 => ?_)
 refine Jd<|Jc<|Ja<|mv (pz pb0)<|mv (i6 a1)<|?_
 obtain ⟨t13, h_t13, H28⟩ := Je H; clear H
 refine Qg (fun w hF hS => k39 (a0 := a0) (Jm w) (Xq (i := 1) hn0_2 hS rfl) (Ye (fk := i6) (fv := Value.bool) (i := 2) hS rfl) (Qp (i := 0) hS rfl) h_t13) Try.call39 rfl rfl rfl<|mv (pz pb0)<|mv (i6 a1)<|?_
 obtain ⟨t16, h_t16, H29⟩ := Je H28; clear H28
 refine lv (J4 rfl rfl h_t16) ?_
 obtain ⟨t17, h_t17, H30⟩ := Je H29; clear H29
 refine Qg (fun w hF hS => k39 (a0 := a0) (Jm w) (Xq (i := 1) hn0_2 hS rfl) (Ye (fk := i6) (fv := Value.bool) (i := 2) hS rfl) (Qp (i := 0) hS rfl) h_t17) Try.call39 rfl rfl rfl<|mv (pz pb0)<|mv (i6 a1)<|?_
 obtain ⟨t20, h_t20, H31⟩ := Je H30; clear H30
 refine lv (J4 rfl rfl h_t20) ?_
 obtain ⟨t21, h_t21, H32⟩ := Je H31; clear H31
 refine Qg (fun w hF hS => k39 (a0 := a0) (Jm w) (Xq (i := 1) hn0_2 hS rfl) (Ye (fk := i6) (fv := Value.bool) (i := 2) hS rfl) (Qp (i := 0) hS rfl) h_t21) Try.call39 rfl rfl rfl<|ag (i6 t13)<|ag (i6 t17)<|ag (i6 t21)<|Jd<|Jc<|Ja<|mv v2<|?_
 obtain ⟨t23, h_t23, H33⟩ := Je H32; clear H32
 refine Za (Qs (rds := []) (fun w L' hF hS hi => k35 (Jm w) (f2.mono (hw.now hF)) h_t23) call35 rfl) rfl rfl rfl (fun p => ?_)
 refine mv (i6 t13) ?_
 refine Qw (vs := [i6 t13]) (cs := [i6 t13]) Try.underlying22 Try.sizeOf3 zeroValue3 rfl rfl rfl rfl rfl rfl rfl (fun b4 => ?_)
 obtain ⟨l26, h_l26, H34⟩ := Je H33; clear H33
 refine Qf (Ys (i := 5) (hn := rfl) (rds := [6]) (p := p) (sz := 1) (by_ := 8) (f := Qa) (ys := t23) (ls := ([t13] : List Int)) (V := .slice (some ⟨b4, 0, none⟩) 1 1) Try.underlying22 (Qu typeInfo3) rfl rfl rfl rfl rfl rfl rfl rfl rfl rfl (fun w L' hF hS hi => Z8 (i := 6) hS ((hi 6 (by simp)).trans rfl) rfl rfl) (fun _ => rfl) (fun _ => rfl) h_l26) rfl rfl rfl (fun p_2 => ?_)
 refine ag (sl p_2 l26.length)<|Jd<|Jc<|?_
 try dsimp only [z1,z2,z5,z6,z7,z8]
 refine Ja<|mv (pz pb0)<|lv (Ji rfl)<|lf Try.runUnderlying88 rfl sizeOf52 rfl<|ll 0 (X6 a0.kac) isAgg52<|mv (sl p_2 l26.length)<|mv (i6 a1)<|?_
 obtain ⟨g33, h_g33, H35⟩ := Je H34; clear H34
 obtain ⟨t33, h_t33, H36⟩ := Je H35; clear H35
 refine l_callV (R := Jbf g33) (r := .tuple #[]) (v := (X6 a0.kac)) (fun w hF hS => ⟨((hft52 a0.kac).fn (gFn_some h_g33) _), ⟨l26, _, a1, _, (Xq (i := 5) rfl hS rfl), rfl, h_t33, rfl⟩⟩) rfl rfl rfl rfl<|Jd<|Jc<|Ja<|mv (i6 t13)<|mv (i6 t17)<|lv (Xm (pl := #[(0, 1), (1, 1), (2, 1), (3, 1), (4, 1)]) (ps := [(0, i6 t17)]) (cells := #[i6 t17, str [], z0s, z0s, z0s]) zeroValue26 Try.runUnderlying26 (fun w => by kernel_rfl) rfl rfl)<|lv (Xm (pl := #[(0, 1), (1, 5)]) (ps := [(0, i6 t13), (1, .agg #[i6 t17, str [], z0s, z0s, z0s])]) (cells := #[i6 t13, i6 t17, str [], z0s, z0s, z0s]) zeroValue72 Try.runUnderlying72 (fun w => by kernel_rfl) rfl (by kernel_rfl))<|?_
 refine Xw (cs := [i6 0, i6 0, str [], z0s, z0s, z0s]) zeroValue72 rfl rfl rfl (fun b5 => ?_)
 refine st (i := 7) [i6 t13, i6 t17, str [], z0s, z0s, z0s] [i6 t13, i6 t17, str [], z0s, z0s, z0s] Try.sizeOf72 rfl rfl<|Jd<|?_
 refine Qx (r := r) (σ := Int × (List UInt8) × (List Int) × (List Tf) × (List Ta) × (List UInt8) × Bool × Int × Nat × Int × (List Tc) × (List (Int × Bool))) (τ := AN × AN × AN × AN × Nat) (fun s => Zj t13 s.1 s.2.1 s.2.2.1 s.2.2.2.1 s.2.2.2.2.1 s.2.2.2.2.2.1 s.2.2.2.2.2.2.1 s.2.2.2.2.2.2.2.1 s.2.2.2.2.2.2.2.2.1 s.2.2.2.2.2.2.2.2.2.1 s.2.2.2.2.2.2.2.2.2.2.1 s.2.2.2.2.2.2.2.2.2.2.2) (fun s t => [(6, pz b3), (10, pz b5)]) (fun s t => [Jf pb0 [str s.2.2.2.2.2.1, .bool s.2.2.2.2.2.2.1, .slice t.2.2.2.1.1 s.2.2.2.2.2.2.2.2.2.2.1.length t.2.2.2.1.2, .map (some t.2.2.2.2), i6 s.2.2.2.2.2.2.2.1, (X6 s.2.2.2.2.2.2.2.2.1), i6 s.2.2.2.2.2.2.2.2.2.1] 88, J3 94 2 (.slice t.2.2.2.1.1 s.2.2.2.2.2.2.2.2.2.2.1.length t.2.2.2.1.2) s.2.2.2.2.2.2.2.2.2.2.1.length (s.2.2.2.2.2.2.2.2.2.2.1.map Jk), X8 i6 Value.bool t.2.2.2.2 s.2.2.2.2.2.2.2.2.2.2.2, Q3 Xo Xo, Jf b3 [i6 0, i6 0, str [], z0s, z0s, z0s] 72, Jf b5 [i6 t13, i6 s.1, str s.2.1, .slice t.1.1 s.2.2.1.length t.1.2, .slice t.2.1.1 s.2.2.2.1.length t.2.1.2, .slice t.2.2.1.1 s.2.2.2.2.1.length t.2.2.1.2] 72, J3 3 1 (.slice t.1.1 s.2.2.1.length t.1.2) s.2.2.1.length (s.2.2.1.map Qa), J3 46 2 (.slice t.2.1.1 s.2.2.2.1.length t.2.1.2) s.2.2.2.1.length (s.2.2.2.1.map Jl), Vw 72 6 g_tag_Entry (.slice t.2.2.1.1 s.2.2.2.2.1.length t.2.2.1.2) s.2.2.2.2.1.length s.2.2.2.2.1]) (fun s t => True) ?_ ?_
 ·refine J0<|Jc<|Ja<|mv (i6 t17)<|?_
  obtain ⟨t47, h_t47, H38⟩ := Je H36; clear H36
  refine Vb (k47 h_t47) call47 rfl rfl rfl<|lv (Xe rfl rfl)<|ag (.bool (decide (t47 = 0)))<|Jd<|?_
  revert H38
  refine ci (decide (t47 = 0)) rfl (fun hb H39=>?_) fun hb H41=>?_
  ·refine Ja<|mv (pz pb0)<|?_
   obtain ⟨t50, h_t50, H40⟩ := Je H39; clear H39
   refine bo 1 2 rfl rfl<|bo 0 1 rfl rfl<|?_
   refine Qf (Jw (i := 0) (rds := []) rfl (fun w L' S hF hS hi hp hlt ho hA => k60 hp hlt (Qb w S) hn0_2 h_t50) Try.call60 rfl) rfl rfl rfl (fun ⟨p_7, p_8⟩ => ?_)
   refine ub 0 1 rfl rfl<|ub 1 2 rfl rfl<|Jd<|J5 3 1<|J5 46 2<|J5 72 6<|X7 Xo<|?_
   try dsimp only [z1,z2,z5,z6,z7,z8]
   refine bo 11 10 rfl rfl ?_
   try dsimp only [z1,z2,z5,z6,z7,z8]
   refine Xl 11 rfl (U1 (css := []) (xs := ([] : List Ta)) (p := nn) rfl (AllC.nil (G := g_tag_Entry) (h := Xo) (sz := 6))) ?_
   exact cl (t17, [], ([] : List Int), ([] : List Tf), ([] : List Ta), t50.s_, t50.kab, t50.kad, t50.kac, t50.no_, t50.kaa, t50.kae) (nn, nn, nn, p_7, p_8) 0 [0, 1, 2, 3, 4, 7, 8, 9, 11] (by exact ⟨H40, trivial⟩)
  ·refine Qx (r := r) (σ := Bool) (τ := Unit) (fun s => Zl a0 a1 self t13 t17 t21 l26 s) (fun s t => [(0, pz pb0), (1, i6 a1), (2, sl p_2 l26.length), (6, pz b3), (8, i6 t17), (9, i6 t21), (10, pz b5), (51, .bool s)]) (fun s t => [Jf pb0 [str a0.s_, .bool a0.kab, sl p0_2 n0_2, .map (some m0_3), i6 a0.kad, (X6 a0.kac), i6 a0.no_] 88, J3 94 2 (sl p0_2 n0_2) n0_2 (a0.kaa.map Jk), X8 i6 Value.bool m0_3 a0.kae, Q3 Xo Xo, Jf b3 [i6 0, i6 0, str [], z0s, z0s, z0s] 72, J3 3 1 (sl p_2 l26.length) l26.length (l26.map Qa), Jf b5 [i6 t13, i6 t17, str [], z0s, z0s, z0s] 72]) (fun s t => True) ?_ ?_
   ·try dsimp only [z1,z2,z5,z6,z7,z8]
    refine Ja<|mv (i6 t17)<|lv (Xe rfl rfl)<|mv (.bool (decide (t17 = 13)))<|?_
    revert H41
    refine sp (fun hb H53=>?_) fun hb H54=>?_
    ·refine mv (i6 t21)<|lv (Yn rfl rfl)<|pT (.bool (decide (t21 ≠ 1)))<|ag (.bool (decide (t21 ≠ 1)))<|Jd<|?_
     exact cl (decide (t21 ≠ 1)) () 0 [0, 1, 2, 3, 4, 5, 7] (by exact ⟨H53, trivial⟩)
    ·refine pa<|pa<|pF (.bool false)<|ag (.bool false)<|Jd<|?_
     exact cl false () 0 [0, 1, 2, 3, 4, 5, 7] (by exact ⟨H54, trivial⟩)
   ·rintro x51 _ gg H42 _
    try dsimp only at H42
    try dsimp only
    revert H42
    refine ci x51 rfl (fun hb H43=>?_) fun hb H45=>?_
    ·try dsimp only [z1,z2,z5,z6,z7,z8]
     refine Ja<|mv (pz pb0)<|?_
     obtain ⟨t59, h_t59, H44⟩ := Je H43; clear H43
     refine bo 1 2 rfl rfl<|bo 0 1 rfl rfl<|?_
     refine Qf (Jw (i := 0) (rds := []) rfl (fun w L' S hF hS hi hp hlt ho hA => k60 hp hlt (Qb w S) hn0_2 h_t59) Try.call60 rfl) rfl rfl rfl (fun ⟨p_9, p_10⟩ => ?_)
     refine ub 0 1 rfl rfl<|ub 1 2 rfl rfl<|Jd<|J5 3 1<|J5 46 2<|J5 72 6<|X7 Xo<|?_
     try dsimp only [z1,z2,z5,z6,z7,z8]
     refine bo 10 9 rfl rfl ?_
     try dsimp only [z1,z2,z5,z6,z7,z8]
     refine Xl 10 rfl (U1 (css := []) (xs := ([] : List Ta)) (p := nn) rfl (AllC.nil (G := g_tag_Entry) (h := Xo) (sz := 6))) ?_
     exact cl (t17, [], ([] : List Int), ([] : List Tf), ([] : List Ta), t59.s_, t59.kab, t59.kad, t59.kac, t59.no_, t59.kaa, t59.kae) (nn, nn, nn, p_9, p_10) 0 [0, 1, 2, 3, 4, 6, 7, 8, 10] (by exact ⟨H44, trivial⟩)
    ·refine Jc ?_
     try dsimp only [z1,z2,z5,z6,z7,z8]
     refine Ja<|mv (i6 t17)<|lv (Xe rfl rfl)<|ag (.bool (decide (t17 = 13)))<|Jd<|?_
     revert H45
     refine ci (decide (t17 = 13)) rfl (fun hb H46=>?_) fun hb H50=>?_
     ·refine Ja<|mv (pz pb0)<|mv (pz pb0)<|mv (i6 a1)<|?_
      obtain ⟨t67, h_t67, H47⟩ := Je H46; clear H46
      refine lv (J4 rfl rfl h_t67) ?_
      obtain ⟨t68, h_t68, H48⟩ := Je H47; clear H47
      refine Qg (fun w hF hS => k39 (a0 := a0) (Jm w) (Xq (i := 1) hn0_2 hS rfl) (Ye (fk := i6) (fv := Value.bool) (i := 2) hS rfl) (Qp (i := 0) hS rfl) h_t68) Try.call39 rfl rfl rfl<|mv (sl p_2 l26.length)<|?_
      obtain ⟨t70, h_t70, H49⟩ := Je H48; clear H48
      refine bo 1 2 rfl rfl<|bo 0 1 rfl rfl<|?_
      refine Qf (Jw (i := 0) (rds := [5]) rfl (fun w L' S hF hS hi hp hlt ho hA => ih hp hlt (Qb w S) hn0_2 (Jdj (j := 5) rfl hA hS (by decide) ((hi 5 (by simp)).trans rfl)) h_t70) call40 rfl) rfl rfl rfl (fun ⟨p_11, p_12, p_13⟩ => ?_)
      refine ub 0 1 rfl rfl<|ub 1 2 rfl rfl<|Qj 2 rfl<|mv (.tuple #[sl p_11 t70.1.length, i6 t70.2.1])<|lv (J7 (v := sl p_11 t70.1.length) rfl rfl)<|lv (J7 (v := i6 t70.2.1) rfl rfl)<|lf Try.runUnderlying72 rfl Try.sizeOf26 rfl<|lf Try.runUnderlying26 rfl Try.sizeOf24 rfl<|st (i := 6) [sl p_11 t70.1.length] [i6 t13, i6 t17, str [], z0s, z0s, sl p_11 t70.1.length] Try.sizeOf24 rfl rfl<|Jd<|J5 3 1<|J5 46 2<|?_
      exact cl (t17, [], ([] : List Int), ([] : List Tf), t70.1, t70.2.2.s_, t70.2.2.kab, t70.2.2.kad, t70.2.2.kac, t70.2.2.no_, t70.2.2.kaa, t70.2.2.kae) (nn, nn, p_11, p_12, p_13) 0 [0, 1, 2, 3, 4, 6, 8, 9, 7] (by exact ⟨H49, trivial⟩)
     ·try dsimp only [z1,z2,z5,z6,z7,z8]
      refine Ja<|mv (pz pb0)<|mv (i6 t17)<|mv (i6 t21)<|mv (i6 a1)<|?_
      obtain ⟨t42, h_t42, H51⟩ := Je H50; clear H50
      refine lv (J4 rfl rfl h_t42) ?_
      obtain ⟨t43, h_t43, H52⟩ := Je H51; clear H51
      refine bo 1 2 rfl rfl<|bo 0 1 rfl rfl<|?_
      refine Qf (Jw (i := 0) (rds := []) rfl (fun w L' S hF hS hi hp hlt ho hA => k72 hp hlt (Qb w S) hn0_2 h_t43) call72 rfl) rfl rfl rfl (fun ⟨p_14, p_15, p_16, p_17, p_18⟩ => ?_)
      refine ub 0 1 rfl rfl<|ub 1 2 rfl rfl<|Qj 2 rfl<|Qj 7 rfl<|Qj 8 rfl<|lf Try.runUnderlying72 rfl Try.sizeOf26 rfl<|st (i := 6) [i6 t43.1.kah, str t43.1.kai, sl p_14 t43.1.kaj.length, sl p_15 t43.1.kag.length, sl p_16 t43.1.kaf.length] [i6 t13, i6 t43.1.kah, str t43.1.kai, sl p_14 t43.1.kaj.length, sl p_15 t43.1.kag.length, sl p_16 t43.1.kaf.length] Try.sizeOf26 rfl rfl<|Jd<|?_
      exact cl (t43.1.kah, t43.1.kai, t43.1.kaj, t43.1.kag, t43.1.kaf, t43.2.s_, t43.2.kab, t43.2.kad, t43.2.kac, t43.2.no_, t43.2.kaa, t43.2.kae) (p_14, p_15, p_16, p_17, p_18) 0 [0, 1, 2, 3, 4, 6, 7, 8, 9] (by exact ⟨H52, trivial⟩)
 ·rintro ⟨m, m_2, l, l_2, l_3, m_3, m_4, m_5, m_6, m_7, l_4, mp⟩ ⟨p_3, p_4, p_5, p_6, b⟩ gg H37 _
  try dsimp only at H37
  try dsimp only
  refine Jc<|Ja<|Q1 (i := 5) (vs := [i6 t13, i6 m, str m_2, sl p_3 l.length, sl p_4 l_2.length, sl p_5 l_3.length]) isAgg72 Try.sizeOf72 rfl rfl rfl rfl rfl<|st (i := 4) [i6 t13, i6 m, str m_2, sl p_3 l.length, sl p_4 l_2.length, sl p_5 l_3.length] [i6 t13, i6 m, str m_2, sl p_3 l.length, sl p_4 l_2.length, sl p_5 l_3.length] Try.sizeOf72 rfl rfl<|Jd<|Jr<|Jce 5<|?_
  try dsimp only [z1, z2, z3, z4, z5, z6, z7, z8]
  obtain rfl := sj H37
  refine bo 6 7 rfl rfl<|bo 5 6 rfl rfl<|bo 2 5 rfl rfl<|bo 1 2 rfl rfl<|bo 0 1 rfl rfl<|?_
  refine retC (i := 4) (vs := [i6 t13, i6 m, str m_2, sl p_3 l.length, sl p_4 l_2.length, sl p_5 l_3.length]) isAgg72 Try.sizeOf72 rfl rfl rfl rfl (Y9 (p_3, p_4, p_5, p_6, b) (i := 0) rfl rfl (Imp.refl _))
theorem k40_it (mm : Nat) : ∀ {a0 : Tb} {pb0 : Nat} {p0_2 : AN} {n0_2 : Nat} {m0_3 : Nat} {a1 : Int} {a2 : (List Int)} {v2 : Value} {r : (List Ta) × Int × Tb} {w : World} {h : Jt} {S : Nat → Prop} (hcs : (Jv (Jf pb0 [str a0.s_, .bool a0.kab, sl p0_2 n0_2, .map (some m0_3), i6 a0.kad, (X6 a0.kac), i6 a0.no_] 88) (Jv (J3 94 2 (sl p0_2 n0_2) n0_2 (a0.kaa.map Jk)) (X8 i6 Value.bool m0_3 a0.kae))).P S w) (hlt : ∀ b, S b → b < w.heap.size) (hw : Know h w S) (hn0_2 : n0_2 = a0.kaa.length) (f2 : FrS h 1 v2 (a2.map Qa)) (H : it (fun (self : (Tb × Int × (List Int)) → Option ((List Ta) × Int × Tb)) (s : Tb × Int × (List Int)) => J1 self s.1 s.2.1 s.2.2) mm (a0, a1, a2) = some r), Does prog 40 (List.toArray [pz pb0, i6 a1, v2]) w (fun v w' => ∃ x : AN × AN × Nat, v = (.tuple #[.slice x.1.1 r.1.length x.1.2, i6 r.2.1]) ∧ Turn w w' S (Jv (Jf pb0 [str r.2.2.s_, .bool r.2.2.kab, .slice x.2.1.1 r.2.2.kaa.length x.2.1.2, .map (some x.2.2), i6 r.2.2.kad, (X6 r.2.2.kac), i6 r.2.2.no_] 88) (Jv (J3 94 2 (.slice x.2.1.1 r.2.2.kaa.length x.2.1.2) r.2.2.kaa.length (r.2.2.kaa.map Jk)) (Jv (X8 i6 Value.bool x.2.2 r.2.2.kae) (Vw 72 6 g_tag_Entry (.slice x.1.1 r.1.length x.1.2) r.1.length r.1))))) := by
 induction mm with
 | zero => intros; rename_i H; exact absurd H (by simp [it])
 | succ mm ih =>
  intro a0 pb0 p0_2 n0_2 m0_3 a1 a2 v2 r w h S hcs hlt hw hn0_2 f2 H
  replace H : J1 (it (fun (self : (Tb × Int × (List Int)) → Option ((List Ta) × Int × Tb)) (s : Tb × Int × (List Int)) => J1 self s.1 s.2.1 s.2.2) mm) a0 a1 a2 = some r := H
  generalize it (fun (self : (Tb × Int × (List Int)) → Option ((List Ta) × Int × Tb)) (s : Tb × Int × (List Int)) => J1 self s.1 s.2.1 s.2.2) mm = self at H ih
  refine enter (n := 145) func40 rfl rfl rfl S [Jv (Jf pb0 [str a0.s_, .bool a0.kab, sl p0_2 n0_2, .map (some m0_3), i6 a0.kad, (X6 a0.kac), i6 a0.no_] 88) (Jv (J3 94 2 (sl p0_2 n0_2) n0_2 (a0.kaa.map Jk)) (X8 i6 Value.bool m0_3 a0.kae))] (Sat.one hcs hlt)<|Qj 0 rfl<|Qj 1 rfl<|X7 Xo<|Jc<|Ja<|ag (z0s)<|ag (i6 0)<|Jd<|Jc<|Ja<|mv v2<|lv (Va Try.underlying22 rfl f2 rfl)<|ag (i6 (a2.length : Int))<|Jd<|Jc<|Jc<|Ja<|mv (pz pb0)<|mv (i6 a1)<|?_
  obtain ⟨t15, h_t15, H67⟩ := Je H; clear H
  refine Qg (fun w hF hS => k59 (a0 := a0) (Jm w) (Xq (i := 1) hn0_2 hS rfl) (Ye (fk := i6) (fv := Value.bool) (i := 2) hS rfl) (Qp (i := 0) hS rfl) h_t15) call59 rfl rfl rfl<|lv (Ja6 rfl)<|Jd<|?_
  revert H67
  refine ci (!t15) rfl (fun hb H68=>?_) fun hb H70=>?_
  ·refine Jc<|Ja<|mv (pz pb0)<|?_
   obtain ⟨t18, h_t18, H69⟩ := Je H68; clear H68
   refine bo 1 2 rfl rfl<|bo 0 1 rfl rfl<|?_
   refine Qf (Jw (i := 0) (rds := []) rfl (fun w L' S hF hS hi hp hlt ho hA => k60 hp hlt (Qb w S) hn0_2 h_t18) Try.call60 rfl) rfl rfl rfl (fun ⟨p, p_2⟩ => ?_)
   refine ub 0 1 rfl rfl<|ub 1 2 rfl rfl<|Jd<|Jc<|?_
   try dsimp only [z1,z2,z5,z6,z7,z8]
   refine Ja<|ag (z0s)<|ag (i6 0)<|Jd<|Jr<|J5 72 6<|?_
   obtain rfl := sj H69
   refine bo 3 4 rfl rfl<|Xl 3 rfl (Zc (p := nn) rfl (AllC.nil (G := g_tag_Entry) (h := Xo) (sz := 6)))<|bo 2 3 rfl rfl<|bo 1 2 rfl rfl<|bo 0 1 rfl rfl<|?_
   refine Jah (v1 := sl nn (([] : List (List Value)).length)) (v2 := i6 0) rfl rfl rfl (Y9 (nn, p, p_2) (i := 0) rfl (by first | rfl | rw [(show (([] : List (List Value)).length) = ([] : List Ta).length from (AllC.nil (G := g_tag_Entry) (h := Xo) (sz := 6)).len)]) (by first | exact Imp.refl _ | exact Imp.of (by rw [(show (([] : List (List Value)).length) = ([] : List Ta).length from (AllC.nil (G := g_tag_Entry) (h := Xo) (sz := 6)).len)] <;> rfl)))
  ·refine Jp<|Jc<|?_
   try dsimp only [z1,z2,z5,z6,z7,z8]
   refine Ja<|mv (pz pb0)<|mv (i6 a1)<|?_
   obtain ⟨t21, h_t21, H71⟩ := Je H70; clear H70
   refine Qg (fun w hF hS => k39 (a0 := a0) (Jm w) (Xq (i := 1) hn0_2 hS rfl) (Ye (fk := i6) (fv := Value.bool) (i := 2) hS rfl) (Qp (i := 0) hS rfl) h_t21) Try.call39 rfl rfl rfl<|ag (i6 t21)<|Jd<|?_
   refine Qx (r := r) (σ := (List UInt8) × Bool × Int × Nat × Int × (List Tc) × (List (Int × Bool))) (τ := AN × Nat × Nat) (fun s => Xk a1 a2 self t21 s.1 s.2.1 s.2.2.1 s.2.2.2.1 s.2.2.2.2.1 s.2.2.2.2.2.1 s.2.2.2.2.2.2) (fun s t => [(0, pz pb0), (1, i6 a1), (2, v2), (6, z0s), (8, i6 (a2.length : Int)), (9, i6 t21)]) (fun s t => [Jf pb0 [str s.1, .bool s.2.1, .slice t.1.1 t.2.1 t.1.2, .map (some t.2.2), i6 s.2.2.1, (X6 s.2.2.2.1), i6 s.2.2.2.2.1] 88, J3 94 2 (.slice t.1.1 t.2.1 t.1.2) t.2.1 (s.2.2.2.2.2.1.map Jk), X8 i6 Value.bool t.2.2 s.2.2.2.2.2.2, Q3 Xo Xo]) (fun s t => t.2.1 = s.2.2.2.2.2.1.length) ?_ ?_
   ·refine J0<|Jc<|Ja<|mv (pz pb0)<|lv (Ji rfl)<|lf Try.runUnderlying88 rfl sizeOf86 rfl<|ll 0 (.map (some m0_3)) isAgg86<|mv (i6 a1)<|Xn (fun w hF hS => Jiu (i := 2) (fk := i6) (fv := Value.bool) (k := a1) (z := false) Jf7 underlying86 underlying3 zeroValue4 rfl rfl hS rfl) rfl rfl rfl<|ag (.bool ((Jdm a0.kae a1).getD false))<|Jd<|?_
    revert H71
    refine ci ((Jdm a0.kae a1).getD false) rfl (fun hb H114=>?_) fun hb H116=>?_
    ·refine Ja<|mv (pz pb0)<|?_
     obtain ⟨t30, h_t30, H115⟩ := Je H114; clear H114
     refine bo 1 2 rfl rfl<|bo 0 1 rfl rfl<|?_
     refine Qf (Jw (i := 0) (rds := []) rfl (fun w L' S hF hS hi hp hlt ho hA => k60 hp hlt (Qb w S) hn0_2 h_t30) Try.call60 rfl) rfl rfl rfl (fun ⟨p_20, p_21⟩ => ?_)
     refine ub 0 1 rfl rfl<|ub 1 2 rfl rfl<|Jd<|?_
     exact cl (t30.s_, t30.kab, t30.kad, t30.kac, t30.no_, t30.kaa, t30.kae) (p_20, t30.kaa.length, p_21) 0 [0, 1, 2, 3] (by exact ⟨H115, rfl⟩)
    ·refine Jc ?_
     try dsimp only [z1,z2,z5,z6,z7,z8]
     refine Ja<|mv (pz pb0)<|lv (Ji rfl)<|lf Try.runUnderlying88 rfl Try.sizeOf3 rfl<|ll 0 (i6 a0.kad) Try.isAgg3<|lv (V6 rfl rfl)<|mv (.bool (decide (20 < a0.kad)))<|?_
     revert H116
     refine sp (fun hb H117=>?_) fun hb H119=>?_
     ·refine pa<|pa<|pT (.bool true)<|mv (.bool true)<|pa<|pa<|pT (.bool true)<|ag (.bool true)<|Jd<|Ve rfl<|Ja<|mv (pz pb0)<|?_
      obtain ⟨t46, h_t46, H118⟩ := Je H117; clear H117
      refine bo 1 2 rfl rfl<|bo 0 1 rfl rfl<|?_
      refine Qf (Jw (i := 0) (rds := []) rfl (fun w L' S hF hS hi hp hlt ho hA => k60 hp hlt (Qb w S) hn0_2 h_t46) Try.call60 rfl) rfl rfl rfl (fun ⟨p_22, p_23⟩ => ?_)
      refine ub 0 1 rfl rfl<|ub 1 2 rfl rfl<|Jd<|?_
      exact cl (t46.s_, t46.kab, t46.kad, t46.kac, t46.no_, t46.kaa, t46.kae) (p_22, t46.kaa.length, p_23) 0 [0, 1, 2, 3] (by exact ⟨H118, rfl⟩)
     ·refine mv (i6 (a2.length : Int))<|lv (V6 rfl rfl)<|pF (.bool (decide (5 < (a2.length : Int))))<|mv (.bool (decide (5 < (a2.length : Int))))<|?_
      revert H119
      refine sp (fun hb H120=>?_) fun hb H122=>?_
      ·refine pa<|pa<|pT (.bool true)<|ag (.bool true)<|Jd<|Ve rfl<|Ja<|mv (pz pb0)<|?_
       obtain ⟨t46_2, h_t46_2, H121⟩ := Je H120; clear H120
       refine bo 1 2 rfl rfl<|bo 0 1 rfl rfl<|?_
       refine Qf (Jw (i := 0) (rds := []) rfl (fun w L' S hF hS hi hp hlt ho hA => k60 hp hlt (Qb w S) hn0_2 h_t46_2) Try.call60 rfl) rfl rfl rfl (fun ⟨p_24, p_25⟩ => ?_)
       refine ub 0 1 rfl rfl<|ub 1 2 rfl rfl<|Jd<|?_
       exact cl (t46_2.s_, t46_2.kab, t46_2.kad, t46_2.kac, t46_2.no_, t46_2.kaa, t46_2.kae) (p_24, t46_2.kaa.length, p_25) 0 [0, 1, 2, 3] (by exact ⟨H121, rfl⟩)
      ·refine mv (i6 t21)<|lv (V6 rfl rfl)<|pF (.bool (decide (200 < t21)))<|ag (.bool (decide (200 < t21)))<|Jd<|?_
       revert H122
       refine ci (decide (200 < t21)) rfl (fun hb H123=>?_) fun hb H125=>?_
       ·try dsimp only [z1,z2,z5,z6,z7,z8]
        refine Ja<|mv (pz pb0)<|?_
        obtain ⟨t46_3, h_t46_3, H124⟩ := Je H123; clear H123
        refine bo 1 2 rfl rfl<|bo 0 1 rfl rfl<|?_
        refine Qf (Jw (i := 0) (rds := []) rfl (fun w L' S hF hS hi hp hlt ho hA => k60 hp hlt (Qb w S) hn0_2 h_t46_3) Try.call60 rfl) rfl rfl rfl (fun ⟨p_26, p_27⟩ => ?_)
        refine ub 0 1 rfl rfl<|ub 1 2 rfl rfl<|Jd<|?_
        exact cl (t46_3.s_, t46_3.kab, t46_3.kad, t46_3.kac, t46_3.no_, t46_3.kaa, t46_3.kae) (p_26, t46_3.kaa.length, p_27) 0 [0, 1, 2, 3] (by exact ⟨H124, rfl⟩)
       ·refine Jc<|Ja<|mv (pz pb0)<|mv (i6 a1)<|mv (i6 t21)<|?_
        obtain ⟨t51, h_t51, H126⟩ := Je H125; clear H125
        refine lv (Vs rfl rfl h_t51) ?_
        obtain ⟨t52, h_t52, H127⟩ := Je H126; clear H126
        refine lv (J4 rfl rfl h_t52) ?_
        obtain ⟨t53, h_t53, H128⟩ := Je H127; clear H127
        refine lv (J4 rfl rfl h_t53) ?_
        obtain ⟨t54, h_t54, H129⟩ := Je H128; clear H128
        refine Qg (fun w hF hS => k59 (a0 := a0) (Jm w) (Xq (i := 1) hn0_2 hS rfl) (Ye (fk := i6) (fv := Value.bool) (i := 2) hS rfl) (Qp (i := 0) hS rfl) h_t54) call59 rfl rfl rfl<|lv (Ja6 rfl)<|ag (.bool (!t54))<|Jd<|?_
        revert H129
        refine ci (!t54) rfl (fun hb H130=>?_) fun hb H132=>?_
        ·refine Ja<|mv (pz pb0)<|?_
         obtain ⟨t57, h_t57, H131⟩ := Je H130; clear H130
         refine bo 1 2 rfl rfl<|bo 0 1 rfl rfl<|?_
         refine Qf (Jw (i := 0) (rds := []) rfl (fun w L' S hF hS hi hp hlt ho hA => k60 hp hlt (Qb w S) hn0_2 h_t57) Try.call60 rfl) rfl rfl rfl (fun ⟨p_28, p_29⟩ => ?_)
         refine ub 0 1 rfl rfl<|ub 1 2 rfl rfl<|Jd<|?_
         exact cl (t57.s_, t57.kab, t57.kad, t57.kac, t57.no_, t57.kaa, t57.kae) (p_28, t57.kaa.length, p_29) 0 [0, 1, 2, 3] (by exact ⟨H131, rfl⟩)
        ·refine Jp ?_
         exact cl (a0.s_, a0.kab, a0.kad, a0.kac, a0.no_, a0.kaa, a0.kae) (p0_2, n0_2, m0_3) 0 [0, 1, 2, 3] (by exact ⟨H132, hn0_2⟩)
   ·rintro ⟨m, m_2, m_3, m_4, m_5, l, mp⟩ ⟨p_3, n, b⟩ gg H72 hl
    try dsimp only at H72
    try dsimp only
    refine Jc<|Jc<|Ja<|mv (pz pb0)<|lv (Ji rfl)<|lf Try.runUnderlying88 rfl Try.sizeOf28 rfl<|ll 0 (i6 m_5) Try.isAgg28<|lv (Yn rfl rfl)<|Jd<|?_
    revert H72
    refine ci (decide (m_5 ≠ 0)) rfl (fun hb H73=>?_) fun hb H74=>?_
    ·refine Jc<|Ja<|ag (z0s)<|ag (i6 0)<|Jd<|Jr<|J5 72 6<|?_
     obtain rfl := sj H73
     refine bo 3 4 rfl rfl<|Xl 3 rfl (Zc (p := nn) rfl (AllC.nil (G := g_tag_Entry) (h := Xo) (sz := 6)))<|bo 2 3 rfl rfl<|bo 1 2 rfl rfl<|bo 0 1 rfl rfl<|?_
     refine Jah (v1 := sl nn (([] : List (List Value)).length)) (v2 := i6 0) rfl rfl rfl (Y9 (nn, p_3, b) (i := 0) rfl (by first | rfl | rw [(show (([] : List (List Value)).length) = ([] : List Ta).length from (AllC.nil (G := g_tag_Entry) (h := Xo) (sz := 6)).len), (show n = l.length from hl)]) (by first | exact Imp.refl _ | exact Imp.of (by rw [(show (([] : List (List Value)).length) = ([] : List Ta).length from (AllC.nil (G := g_tag_Entry) (h := Xo) (sz := 6)).len), (show n = l.length from hl)] <;> rfl)))
    ·refine Jp<|Jc<|?_
     try dsimp only [z1,z2,z5,z6,z7,z8]
     refine Ja<|mv (pz pb0)<|lv (Ji rfl)<|lf Try.runUnderlying88 rfl sizeOf86 rfl<|ll 0 (.map (some b)) isAgg86<|mv (i6 a1)<|?_
     refine l_turn0 (Jh1 (u := true) (i := 2) (rds := []) (fk := i6) (fv := Value.bool) (k := a1) (v := true) Jf7 (.inr rfl) underlying86 underlying3 rfl rfl rfl rfl) rfl rfl (fun _ => ?_)
     refine Jd<|Jc<|Ja<|mv (pz pb0)<|mv (pz pb0)<|lv (Ji rfl)<|lf Try.runUnderlying88 rfl Try.sizeOf49 rfl<|ll 0 (sl p_3 n) isAgg49<|mv (i6 a1)<|mv (i6 a1)<|?_
     obtain ⟨t75, h_t75, H75⟩ := Je H74; clear H74
     refine lv (J4 rfl rfl h_t75)<|mv (i6 t21)<|?_
     obtain ⟨t77, h_t77, H76⟩ := Je H75; clear H75
     refine lv (Vs rfl rfl h_t77) ?_
     obtain ⟨t78, h_t78, H77⟩ := Je H76; clear H76
     refine lv (J4 rfl rfl h_t78) ?_
     obtain ⟨t79, h_t79, H78⟩ := Je H77; clear H77
     refine lv (J4 rfl rfl h_t79)<|lv (Xm (pl := #[(0, 1), (1, 1)]) (ps := [(0, i6 a1), (1, i6 t79)]) (cells := #[i6 a1, i6 t79]) zeroValue94 Try.runUnderlying94 (fun w => by kernel_rfl) rfl rfl)<|?_
     refine Qw (vs := [.agg #[i6 a1, i6 t79]]) (cs := [i6 a1, i6 t79]) Try.underlying49 sizeOf94 zeroValue94 rfl rfl rfl rfl rfl rfl rfl (fun b2 => ?_)
     obtain ⟨l82, h_l82, H79⟩ := Je H78; clear H78
     refine Qf (Ys (i := 1) (hn := hl) (rds := [4]) (p := p_3) (sz := 2) (by_ := 16) (f := Jk) (ys := l) (ls := ([(⟨a1, t79⟩ : Tc)] : List Tc)) (V := .slice (some ⟨b2, 0, none⟩) 1 1) Try.underlying49 (Qu typeInfo94) rfl rfl rfl rfl rfl rfl rfl rfl rfl rfl (fun w L' hF hS hi => Z8 (i := 4) hS ((hi 4 (by simp)).trans rfl) rfl rfl) (fun _ => rfl) (fun _ => rfl) h_l82) rfl rfl rfl (fun p_4 => ?_)
     refine lv (Ji rfl)<|lf Try.runUnderlying88 rfl Try.sizeOf49 rfl<|st (i := 0) [sl p_4 l82.length] [str m, .bool m_2, sl p_4 l82.length, .map (some b), i6 m_3, (X6 m_4), i6 m_5] Try.sizeOf49 rfl rfl<|Jd<|Jc<|Ja<|mv (pz pb0)<|mv (i6 a1)<|?_
     obtain ⟨t87, h_t87, H80⟩ := Je H79; clear H79
     refine lv (J4 rfl rfl h_t87)<|mv (i6 t21)<|?_
     obtain ⟨t89, h_t89, H81⟩ := Je H80; clear H80
     refine lv (Vs rfl rfl h_t89) ?_
     obtain ⟨t90, h_t90, H82⟩ := Je H81; clear H81
     refine lv (J4 rfl rfl h_t90) ?_
     obtain ⟨t91, h_t91, H83⟩ := Je H82; clear H82
     refine Qg (fun w hF hS => k39 (a0 := (⟨m, m_2, l82, (W0 mp a1 true), m_3, m_4, m_5⟩ : Tb)) (Jm w) (Xq (i := 1) rfl hS rfl) (Ye (fk := i6) (fv := Value.bool) (i := 2) hS rfl) (Qp (i := 0) hS rfl) h_t91) Try.call39 rfl rfl rfl<|ag (i6 t91)<|Jd<|?_
     refine Qx (r := r) (σ := (List UInt8) × Bool × Int × Nat × Int × (List Tc) × (List (Int × Bool))) (τ := AN × Nat) (fun s => Wb a1 a2 self t21 t91 s.1 s.2.1 s.2.2.1 s.2.2.2.1 s.2.2.2.2.1 s.2.2.2.2.2.1 s.2.2.2.2.2.2) (fun s t => [(0, pz pb0), (1, i6 a1), (2, v2), (6, z0s), (7, i6 t91), (9, i6 t21)]) (fun s t => [Jf pb0 [str s.1, .bool s.2.1, .slice t.1.1 s.2.2.2.2.2.1.length t.1.2, .map (some t.2), i6 s.2.2.1, (X6 s.2.2.2.1), i6 s.2.2.2.2.1] 88, J3 94 2 (.slice t.1.1 s.2.2.2.2.2.1.length t.1.2) s.2.2.2.2.2.1.length (s.2.2.2.2.2.1.map Jk), X8 i6 Value.bool t.2 s.2.2.2.2.2.2, Q3 Xo Xo]) (fun s t => True) ?_ ?_
     ·refine Jc<|Ja<|mv (i6 (a2.length : Int))<|lv (V6 rfl rfl)<|mv (.bool (decide (1 < (a2.length : Int))))<|?_
      revert H83
      refine sp (fun hb H109=>?_) fun hb H113=>?_
      ·refine mv (i6 t91)<|lv (Yn rfl rfl)<|pT (.bool (decide (t91 ≠ 0)))<|Jd<|?_
       revert H109
       refine ci (decide (t91 ≠ 0)) rfl (fun hb H110=>?_) fun hb H112=>?_
       ·refine Ja<|mv (pz pb0)<|?_
        obtain ⟨t99, h_t99, H111⟩ := Je H110; clear H110
        refine bo 1 2 rfl rfl<|bo 0 1 rfl rfl<|?_
        refine Qf (Jw (i := 0) (rds := []) rfl (fun w L' S hF hS hi hp hlt ho hA => k60 (a0 := (⟨m, m_2, l82, (W0 mp a1 true), m_3, m_4, m_5⟩ : Tb)) hp hlt (Qb w S) rfl h_t99) Try.call60 rfl) rfl rfl rfl (fun ⟨p_18, p_19⟩ => ?_)
        refine ub 0 1 rfl rfl<|ub 1 2 rfl rfl<|Jd<|?_
        exact cl (t99.s_, t99.kab, t99.kad, t99.kac, t99.no_, t99.kaa, t99.kae) (p_18, p_19) 0 [0, 1, 2, 3] (by exact ⟨H111, trivial⟩)
       ·refine Jp ?_
        exact cl (m, m_2, m_3, m_4, m_5, l82, (W0 mp a1 true)) (p_4, b) 0 [0, 1, 2, 3] (by exact ⟨H112, trivial⟩)
      ·refine pa<|pa<|pF (.bool false)<|Jd<|Wr rfl<|Jp<|?_
       exact cl (m, m_2, m_3, m_4, m_5, l82, (W0 mp a1 true)) (p_4, b) 0 [0, 1, 2, 3] (by exact ⟨H113, trivial⟩)
     ·rintro ⟨m_6, m_7, m_8, m_9, m_10, l_2, mp_2⟩ ⟨p_5, b_2⟩ gg H84 _
      try dsimp only at H84
      try dsimp only
      refine Qx (r := r) (σ := Int × (List UInt8) × Bool × Int × Nat × Int × (List Tc) × (List (Int × Bool)) × (List Ta)) (τ := Jt × AN × Nat × (List (List Value)) × AN) (fun s => Uo s.1 s.2.1 s.2.2.1 s.2.2.2.1 s.2.2.2.2.1 s.2.2.2.2.2.1 s.2.2.2.2.2.2.1 s.2.2.2.2.2.2.2.1 s.2.2.2.2.2.2.2.2) (fun s t => [(6, .slice t.2.2.2.2.1 t.2.2.2.1.length t.2.2.2.2.2), (7, i6 s.1)]) (fun s t => [Jf pb0 [str s.2.1, .bool s.2.2.1, .slice t.2.1.1 s.2.2.2.2.2.2.1.length t.2.1.2, .map (some t.2.2.1), i6 s.2.2.2.1, (X6 s.2.2.2.2.1), i6 s.2.2.2.2.2.1] 88, J3 94 2 (.slice t.2.1.1 s.2.2.2.2.2.2.1.length t.2.1.2) s.2.2.2.2.2.2.1.length (s.2.2.2.2.2.2.1.map Jk), X8 i6 Value.bool t.2.2.1 s.2.2.2.2.2.2.2.1, Q3 Xo t.1, J3 72 6 (.slice t.2.2.2.2.1 t.2.2.2.1.length t.2.2.2.2.2) t.2.2.2.1.length (t.2.2.2.1.map idC)]) (fun s t => AllC g_tag_Entry t.1 6 t.2.2.2.1 s.2.2.2.2.2.2.2.2) ?_ ?_
      ·refine Jc<|Ja<|ag (i6 0)<|Jd<|J0<|J5 72 6<|?_
       refine Zz (σ := Int × Int × Int × Int × (List UInt8) × Bool × Int × Nat × Int × (List Tc) × (List (Int × Bool)) × (List Ta)) (τ := Jt × AN × Nat × (List (List Value)) × AN) (fun next4 s => Xi a2 self next4 s.1 s.2.1 s.2.2.1 s.2.2.2.1 s.2.2.2.2.1 s.2.2.2.2.2.1 s.2.2.2.2.2.2.1 s.2.2.2.2.2.2.2.1 s.2.2.2.2.2.2.2.2.1 s.2.2.2.2.2.2.2.2.2.1 s.2.2.2.2.2.2.2.2.2.2.1 s.2.2.2.2.2.2.2.2.2.2.2) (fun s t => [(0, pz pb0), (1, i6 s.1), (2, v2), (6, .slice t.2.2.2.2.1 t.2.2.2.1.length t.2.2.2.2.2), (7, i6 s.2.1), (9, i6 s.2.2.1), (10, i6 s.2.2.2.1)]) (fun s t => [Jf pb0 [str s.2.2.2.2.1, .bool s.2.2.2.2.2.1, .slice t.2.1.1 s.2.2.2.2.2.2.2.2.2.1.length t.2.1.2, .map (some t.2.2.1), i6 s.2.2.2.2.2.2.1, (X6 s.2.2.2.2.2.2.2.1), i6 s.2.2.2.2.2.2.2.2.1] 88, J3 94 2 (.slice t.2.1.1 s.2.2.2.2.2.2.2.2.2.1.length t.2.1.2) s.2.2.2.2.2.2.2.2.2.1.length (s.2.2.2.2.2.2.2.2.2.1.map Jk), X8 i6 Value.bool t.2.2.1 s.2.2.2.2.2.2.2.2.2.2.1, Q3 Xo t.1, J3 72 6 (.slice t.2.2.2.2.1 t.2.2.2.1.length t.2.2.2.2.2) t.2.2.2.1.length (t.2.2.2.1.map idC)]) (fun s t => AllC g_tag_Entry t.1 6 t.2.2.2.1 s.2.2.2.2.2.2.2.2.2.2.2) (a1, t91, t21, 0, m_6, m_7, m_8, m_9, m_10, l_2, mp_2, ([] : List Ta)) (Xo, p_5, b_2, ([] : List (List Value)), nn) [0, 1, 2, 3, 4] H84 (by exact (AllC.nil (G := g_tag_Entry) (h := Xo) (sz := 6))) (by exact ⟨rfl, rfl, rfl, rfl, rfl, rfl, rfl, trivial⟩) (by decide) rfl ?_
       rintro ⟨x1_2, x7_3, x9_2, x10_2, m_21, m_22, m_23, m_24, m_25, l_7, mp_5, l_8⟩ ⟨hp_2, p_8, b_4, css_2, p_9⟩ m4 gg H86 pf_3
       clear H84
       try dsimp only at H86
       generalize hn4 : it (fun next4 s => Xi a2 self next4 s.1 s.2.1 s.2.2.1 s.2.2.2.1 s.2.2.2.2.1 s.2.2.2.2.2.1 s.2.2.2.2.2.2.1 s.2.2.2.2.2.2.2.1 s.2.2.2.2.2.2.2.2.1 s.2.2.2.2.2.2.2.2.2.1 s.2.2.2.2.2.2.2.2.2.2.1 s.2.2.2.2.2.2.2.2.2.2.2) m4 = next4 at H86
       try dsimp only
       refine Jc<|Jc<|?_
       try dsimp only [z1,z2,z5,z6,z7,z8]
       refine Ja<|mv (i6 x10_2)<|mv (i6 x9_2)<|lv (Ym rfl rfl)<|mv (.bool (decide (x10_2 < x9_2)))<|?_
       revert H86
       refine sp (fun hb H87=>?_) fun hb H108=>?_
       ·refine mv (pz pb0)<|lv (Ji rfl)<|lf Try.runUnderlying88 rfl Try.sizeOf28 rfl<|ll 0 (i6 m_25) Try.isAgg28<|lv (Xe rfl rfl)<|pT (.bool (decide (m_25 = 0)))<|Jd<|?_
        try dsimp only [z1,z2,z5,z6,z7,z8]
        revert H87
        refine ci (decide (m_25 = 0)) rfl (fun hb H88=>?_) fun hb H107=>?_
        ·refine Jp<|Jc<|J0<|?_
         refine Qx (r := r) (σ := Unit) (τ := Unit) (fun s => Z6 a2 self x1_2 x7_3 x9_2 x10_2 m_21 m_22 m_23 m_24 m_25 l_7 mp_5 l_8 next4) (fun s t => [(0, pz pb0), (1, i6 x1_2), (2, v2), (6, sl p_9 css_2.length), (7, i6 x7_3), (9, i6 x9_2), (10, i6 x10_2), (104, pz pb0), (105, pz pb0), (106, .pointer (some ⟨pb0, 6, none⟩)), (107, i6 m_25), (108, .bool (decide (m_25 = 0)))]) (fun s t => [Jf pb0 [str m_21, .bool m_22, sl p_8 l_7.length, .map (some b_4), i6 m_23, (X6 m_24), i6 m_25] 88, J3 94 2 (sl p_8 l_7.length) l_7.length (l_7.map Jk), X8 i6 Value.bool b_4 mp_5, Q3 Xo hp_2, J3 72 6 (sl p_9 css_2.length) css_2.length (css_2.map idC)]) (fun s t => True) ?_ ?_
         ·refine Jc ?_
          exact Qc (Kd.p :: Kd.p :: Kd.p :: Kd.p :: Kd.p :: Kd.p :: Kd.p :: Kd.p :: Kd.p :: Kd.d [3, 0, 1, 2] _ :: Kd.p :: Kd.p :: Kd.p :: Kd.d [4] _ :: Kd.d [4] _ :: Kd.d [4] _ :: Kd.p :: Kd.p :: []) 0 mixed (by
           refine dm (i6 x10_2)<|dv (V6 rfl rfl)<|dm (.bool (decide (0 < x10_2)))<|?_
           refine Jee (fun hb => ?_) (fun hb => ?_)
           ·have H96 := Jbm hb H88
            refine dm (pz pb0)<|dm (i6 x1_2)<|?_
            have h_t117 := Jx H96
            have H97 := Jq H96
            refine dv (J4 rfl rfl h_t117)<|dm (i6 x10_2)<|?_
            have h_t119 := Jx H97
            have H98 := Jq H97
            refine dv (Vs rfl rfl h_t119) ?_
            have h_t120 := Jx H98
            have H99 := Jq H98
            refine dv (J4 rfl rfl h_t120) ?_
            have h_t121 := Jx H99
            have H100 := Jq H99
            refine Jam (fun w L' hF hS hi => k39 (a0 := (⟨m_21, m_22, l_7, mp_5, m_23, m_24, m_25⟩ : Tb)) (Jm w) (Xq (i := 1) rfl hS ((hi 1 (by simp)).trans rfl)) (Ye (fk := i6) (fv := Value.bool) (i := 2) hS ((hi 2 (by simp)).trans rfl)) (Qp (i := 0) hS ((hi 0 (by simp)).trans rfl)) h_t121) Try.call39 rfl rfl<|dm (sl p_9 css_2.length)<|dm (i6 x10_2)<|?_
            have h_t124 := Jx H100
            have H101 := Jq H100
            refine dv (Un rfl rfl h_t124) ?_
            have h_t125 := Jx H101
            have H102 := Jq H101
            refine Wj (fun w L' hF hS hi => Ux Try.underlying24 Try.sizeOf72 rfl rfl (Up (i := 4) (E := 72) (sz := 6) (n := css_2.length) (a := p_9.1) (c := p_9.2) hS ((hi 4 (by simp)).trans rfl)) rfl (pf_3.ix h_t125)) rfl rfl<|d_readE rfl rfl (fun w L' hF hS hi => Jdu Try.runUnderlying72 rfl Try.sizeOf3 rfl rfl (Up (i := 4) (E := 72) (sz := 6) (n := css_2.length) (a := p_9.1) (c := p_9.2) hS ((hi 4 (by simp)).trans rfl)) (pf_3.ix h_t125))<|Wj (fun w L' hF hS hi => Qt (f := idC) (i := (val (gI (x10_2 - 1)))) (sz := 6) (j := 0) (v := i6 (val (Q9 l_8 (val (gI (x10_2 - 1))))).Tag) Try.isAgg3 rfl rfl (Up (i := 4) (E := 72) (sz := 6) (n := css_2.length) (a := p_9.1) (c := p_9.2) hS ((hi 4 (by simp)).trans rfl)) (pf_3.ix h_t125) (Jat ((pf_3.eta h_t125).trans (Qy (pf_3.at h_t125))) rfl)) rfl rfl<|dv (Je3 rfl rfl)<|dv (Jbz (v := .bool (decide ((val (Jg (⟨m_21, m_22, l_7, mp_5, m_23, m_24, m_25⟩ : Tb) (val (gI ((val (gI (x1_2 + 2))) + (val (gI (12 * x10_2)))))) 2)) ≤ (val (Q9 l_8 (val (gI (x10_2 - 1))))).Tag))) rfl rfl)<|X2<|?_
            try dsimp only [z1,z2,z5,z6,z7,z8]
            revert H102
            refine ci (decide ((val (Jg (⟨m_21, m_22, l_7, mp_5, m_23, m_24, m_25⟩ : Tb) (val (gI ((val (gI (x1_2 + 2))) + (val (gI (12 * x10_2)))))) 2)) ≤ (val (Q9 l_8 (val (gI (x10_2 - 1))))).Tag)) rfl (fun hb H103=>?_) fun hb H105=>?_
            ·refine Jc<|Ja<|mv (pz pb0)<|?_
             obtain ⟨t131, h_t131, H104⟩ := Je H103; clear H103
             refine bo 1 2 rfl rfl<|bo 0 1 rfl rfl<|?_
             refine Qf (Jw (i := 0) (rds := []) rfl (fun w L' S hF hS hi hp hlt ho hA => k60 (a0 := (⟨m_21, m_22, l_7, mp_5, m_23, m_24, m_25⟩ : Tb)) hp hlt (Qb w S) rfl h_t131) Try.call60 rfl) rfl rfl rfl (fun ⟨p_16, p_17⟩ => ?_)
             refine ub 0 1 rfl rfl<|ub 1 2 rfl rfl<|Jd<|?_
             try dsimp only [z1,z2,z5,z6,z7,z8]
             refine Xy ?_
             exact cl (x7_3, t131.s_, t131.kab, t131.kad, t131.kac, t131.no_, t131.kaa, t131.kae, l_8) (hp_2, p_16, p_17, css_2, p_9) 0 [0, 1, 2, 3, 4] (by exact ⟨H104, pf_3⟩)
            ·refine Jp ?_
             exact cl () () 0 [0, 1, 2, 3, 4] (by exact ⟨H105, trivial⟩)
           ·have H106 := Jbr hb H88
            refine dp<|dp<|dp<|dp<|dp<|dp<|dp<|dp<|dp<|dp<|dp<|dp<|dp<|dp<|dv (Jbj (v := .bool false) rfl rfl)<|X2<|?_
            try dsimp only [z1,z2,z5,z6,z7,z8]
            refine Wr rfl<|Jp<|?_
            exact cl () () 0 [0, 1, 2, 3, 4] (by exact ⟨H106, trivial⟩)
           ) (by kernel_rfl)
         ·rintro _ _ gg H89 _
          try dsimp only at H89
          try dsimp only
          refine Ja<|mv (sl p_9 css_2.length)<|mv (pz pb0)<|mv (i6 x1_2)<|?_
          obtain ⟨t135, h_t135, H90⟩ := Je H89; clear H89
          refine lv (J4 rfl rfl h_t135)<|mv (i6 x10_2)<|?_
          obtain ⟨t137, h_t137, H91⟩ := Je H90; clear H90
          refine lv (Vs rfl rfl h_t137) ?_
          obtain ⟨t138, h_t138, H92⟩ := Je H91; clear H91
          refine lv (J4 rfl rfl h_t138)<|mv v2<|?_
          obtain ⟨t140, h_t140, H93⟩ := Je H92; clear H92
          refine bo 1 2 rfl rfl<|bo 0 1 rfl rfl<|?_
          refine Qf (Jw (i := 0) (rds := []) rfl (fun w L' S hF hS hi hp hlt ho hA => k61_b ih (a0 := (⟨m_21, m_22, l_7, mp_5, m_23, m_24, m_25⟩ : Tb)) hp hlt (Qb w S) rfl (f2.mono (hw.but hF ho)) h_t140) call61 rfl) rfl rfl rfl (fun ⟨p_10, p_11, p_12, p_13, p_14⟩ => ?_)
          refine ub 0 1 rfl rfl<|ub 1 2 rfl rfl<|Qj 2 rfl<|Qj 5 rfl<|Qj 6 rfl<|?_
          refine Qw (vs := [.agg #[i6 t140.1.Tag, i6 t140.1.Value.kah, str t140.1.Value.kai, sl p_10 t140.1.Value.kaj.length, sl p_11 t140.1.Value.kag.length, sl p_12 t140.1.Value.kaf.length]]) (cs := [i6 t140.1.Tag, i6 t140.1.Value.kah, str t140.1.Value.kai, sl p_10 t140.1.Value.kaj.length, sl p_11 t140.1.Value.kag.length, sl p_12 t140.1.Value.kaf.length]) Try.underlying24 Try.sizeOf72 zeroValue72 rfl rfl rfl rfl rfl rfl rfl (fun b3 => ?_)
          try dsimp only [z1,z2,z5,z6,z7,z8]
          refine Ua (Φ := fun H_ => FrS H_ 1 (sl p_10 t140.1.Value.kaj.length) (t140.1.Value.kaj.map Qa)) 3 5 rfl rfl (by decide) (fun _ _ => Xb) (Jdl _) (fun hp_3 hle hf => ?_)
          try dsimp only [z1,z2,z5,z6,z7,z8]
          refine Ua (Φ := fun H_ => FrS H_ 2 (sl p_11 t140.1.Value.kag.length) (t140.1.Value.kag.map Jl)) 3 6 rfl rfl (by decide) (fun _ _ => Xb) (Jdl _) (fun hp_4 hle_2 hf_2 => ?_)
          refine Jbt 7 rfl (fun hp_5 css_3 hn pf_4 => ?_)
          rw [hn]
          try dsimp only [z1,z2,z5,z6,z7,z8]
          refine Qj 7 rfl ?_
          try dsimp only [z1,z2,z5,z6,z7,z8]
          refine Yi 3 7 rfl rfl (by decide) (fun _ _ => Xb) (fun hp_6 hle_3 hle_4 => ?_)
          try dsimp only [z1,z2,z5,z6,z7,z8]
          refine Ua (Φ := fun H_ => FrS H_ 6 (sl p_12 css_3.length) (css_3.map idC)) 3 9 rfl rfl (by decide) (fun _ _ => Xb) (Jdl _) (fun hp_7 hle_5 hf_3 => ?_)
          obtain ⟨l142, h_l142, H94⟩ := Je H93; clear H93
          refine Qf (Jad (i := 4) (k := 8) (p := p_9) (f := idC) (ys := css_2) (ls := [[i6 t140.1.Tag, i6 t140.1.Value.kah, str t140.1.Value.kai, sl p_10 t140.1.Value.kaj.length, sl p_11 t140.1.Value.kag.length, sl p_12 css_3.length]]) Try.underlying24 (Qu Try.typeInfo72) rfl rfl rfl rfl rfl rfl rfl rfl rfl rfl rfl rfl rfl rfl (by simp only [idC, List.map_cons, List.map_nil, List.all_cons, List.all_nil, (((hf.mono hle_2).mono hle_3).mono hle_5).one, ((hf_2.mono hle_3).mono hle_5).one, (Wu (xs := t140.1.Value.kaf) hf_3 ((pf_4.mono hle_4).mono hle_5)).one] <;> rfl) (app63 (((((pf_3.mono hle).mono hle_2).mono hle_3).mono hle_5).app h_l142 (nc := [[i6 t140.1.Tag, i6 t140.1.Value.kah, str t140.1.Value.kai, sl p_10 t140.1.Value.kaj.length, sl p_11 t140.1.Value.kag.length, sl p_12 css_3.length]]) rfl)) rfl) rfl rfl rfl (fun p_15 => ?_)
          have pf_5 : AllC g_tag_Entry hp_7 6 (css_2 ++ [[i6 t140.1.Tag, i6 t140.1.Value.kah, str t140.1.Value.kai, sl p_10 t140.1.Value.kaj.length, sl p_11 t140.1.Value.kag.length, sl p_12 css_3.length]]) l142 := AllC.snocG ((((pf_3.mono hle).mono hle_2).mono hle_3).mono hle_5) h_l142 rfl ((g_tag_Entry_iff.2 ⟨rfl, ⟨rfl, rfl, (((hf.mono hle_2).mono hle_3).mono hle_5), ((hf_2.mono hle_3).mono hle_5), (Wu (xs := t140.1.Value.kaf) hf_3 ((pf_4.mono hle_4).mono hle_5))⟩⟩))
          refine ag (sl p_15 ((css_2 ++ [[i6 t140.1.Tag, i6 t140.1.Value.kah, str t140.1.Value.kai, .slice p_10.1 t140.1.Value.kaj.length p_10.2, .slice p_11.1 t140.1.Value.kag.length p_11.2, .slice p_12.1 css_3.length p_12.2]]).length))<|Jd<|?_
          try dsimp only [z1,z2,z5,z6,z7,z8]
          refine Ja<|mv (i6 x10_2)<|?_
          obtain ⟨t111, h_t111, H95⟩ := Je H94; clear H94
          refine lv (J4 rfl rfl h_t111)<|ag (i6 t111)<|Jd<|?_
          try dsimp only [z1,z2,z5,z6,z7,z8]
          exact cl (x1_2, x7_3, x9_2, t111, t140.2.s_, t140.2.kab, t140.2.kad, t140.2.kac, t140.2.no_, t140.2.kaa, t140.2.kae, l142) (hp_7, p_13, p_14, (css_2 ++ [[i6 t140.1.Tag, i6 t140.1.Value.kah, str t140.1.Value.kai, sl p_10 t140.1.Value.kaj.length, sl p_11 t140.1.Value.kag.length, sl p_12 css_3.length]]), p_15) m4 [0, 1, 2, 3, 4] (by exact ⟨(by subst hn4; exact H95), pf_5⟩)
        ·refine Xy ?_
         exact cl (x7_3, m_21, m_22, m_23, m_24, m_25, l_7, mp_5, l_8) (hp_2, p_8, b_4, css_2, p_9) 0 [0, 1, 2, 3, 4] (by exact ⟨H107, pf_3⟩)
       ·refine pa<|pa<|pa<|pa<|pa<|pF (.bool false)<|Jd<|?_
        try dsimp only [z1,z2,z5,z6,z7,z8]
        refine Wr rfl<|Xy<|?_
        exact cl (x7_3, m_21, m_22, m_23, m_24, m_25, l_7, mp_5, l_8) (hp_2, p_8, b_4, css_2, p_9) 0 [0, 1, 2, 3, 4] (by exact ⟨H108, pf_3⟩)
      ·rintro ⟨x7, m_11, m_12, m_13, m_14, m_15, l_3, mp_3, l_4⟩ ⟨hp, p_6, b_3, css, p_7⟩ gg H85 pf
       try dsimp only at H85
       try dsimp only
       refine Jc<|Ja<|mv (sl p_7 css.length)<|mv (i6 x7)<|ag (sl p_7 css.length)<|ag (i6 x7)<|Jd<|?_
       try dsimp only [z1,z2,z5,z6,z7,z8]
       refine Jr ?_
       obtain rfl := sj H85
       refine bo 3 4 rfl rfl<|Xl 3 rfl (Zc (p := p_7) rfl pf)<|bo 2 3 rfl rfl<|bo 1 2 rfl rfl<|bo 0 1 rfl rfl<|?_
       refine Jah (v1 := sl p_7 css.length) (v2 := i6 x7) rfl rfl rfl (Y9 (p_7, p_6, b_3) (i := 0) rfl (by first | rfl | rw [(show css.length = l_4.length from pf.len)]) (by first | exact Imp.refl _ | exact Imp.of (by rw [(show css.length = l_4.length from pf.len)] <;> rfl)))
theorem k40 {a0 : Tb} {pb0 : Nat} {p0_2 : AN} {n0_2 : Nat} {m0_3 : Nat} {a1 : Int} {a2 : (List Int)} {v2 : Value} {r : (List Ta) × Int × Tb} {w : World} {h : Jt} {S : Nat → Prop} (hcs : (Jv (Jf pb0 [str a0.s_, .bool a0.kab, sl p0_2 n0_2, .map (some m0_3), i6 a0.kad, (X6 a0.kac), i6 a0.no_] 88) (Jv (J3 94 2 (sl p0_2 n0_2) n0_2 (a0.kaa.map Jk)) (X8 i6 Value.bool m0_3 a0.kae))).P S w) (hlt : ∀ b, S b → b < w.heap.size) (hw : Know h w S) (hn0_2 : n0_2 = a0.kaa.length) (f2 : FrS h 1 v2 (a2.map Qa)) (H : Z5 a0 a1 a2 = some r) : Does prog 40 (List.toArray [pz pb0, i6 a1, v2]) w (fun v w' => ∃ x : AN × AN × Nat, v = (.tuple #[.slice x.1.1 r.1.length x.1.2, i6 r.2.1]) ∧ Turn w w' S (Jv (Jf pb0 [str r.2.2.s_, .bool r.2.2.kab, .slice x.2.1.1 r.2.2.kaa.length x.2.1.2, .map (some x.2.2), i6 r.2.2.kad, (X6 r.2.2.kac), i6 r.2.2.no_] 88) (Jv (J3 94 2 (.slice x.2.1.1 r.2.2.kaa.length x.2.1.2) r.2.2.kaa.length (r.2.2.kaa.map Jk)) (Jv (X8 i6 Value.bool x.2.2 r.2.2.kae) (Vw 72 6 g_tag_Entry (.slice x.1.1 r.1.length x.1.2) r.1.length r.1))))) := by
 obtain ⟨mm, hm⟩ := Jfx (show Wq (fun (self : (Tb × Int × (List Int)) → Option ((List Ta) × Int × Tb)) (s : Tb × Int × (List Int)) => J1 self s.1 s.2.1 s.2.2) (a0, a1, a2) = some r from H)
 exact k40_it mm hcs hlt hw hn0_2 f2 hm
theorem k10 {a0 : (List Int)} {v0 : Value} {a1 : (List Int)} {v1 : Value} {r : Bool} {w : World} {h : Jt} (hw : Know h w Z2) (f0 : FrS h 1 v0 (a0.map Qa)) (f1 : FrS h 1 v1 (a1.map Qa)) (H : Vp a0 a1 = some r) : Does prog 10 (List.toArray [v0, v1]) w (fun v w' => v = (.bool r) ∧ Grow w w') := by
 refine enter (n := 26) func10 rfl rfl rfl Z2 [] (Sat.nil _ _)<|Jc<|Ja<|ag (.bool false)<|Jd<|Jc<|Jc<|Ja<|mv v0<|lv (Va Try.underlying22 rfl f0 rfl)<|mv v1<|lv (Va Try.underlying22 rfl f1 rfl)<|lv (Yn rfl rfl)<|Jd<|?_
 revert H
 refine ci (decide ((a0.length : Int) ≠ (a1.length : Int))) rfl (fun hb H11=>?_) fun hb H12=>?_
 ·refine Jc<|Ja<|ag (.bool false)<|Jd<|Jr<|?_
  obtain rfl := sj H11
  exact r1 (.bool false)
 ·refine Jp<|Jc<|Jc<|Ja<|mv v0<|lv (Va Try.underlying22 rfl f0 rfl)<|mv (i6 0)<|Jd<|J0<|?_
  refine Zz (σ := Int) (τ := Unit) (fun next1 s => Zn a0 a1 next1 s) (fun s t => [(0, v0), (1, v1), (12, i6 (a0.length : Int)), (13, i6 s)]) (fun s t => []) (fun s t => True) 0 () [] H12 (by exact trivial) (by exact ⟨rfl, rfl, rfl, rfl, trivial⟩) (by decide) rfl ?_
  rintro x13_2 _ m1 gg H13 _
  clear H12
  try dsimp only at H13
  generalize hn1 : it (fun next1 s => Zn a0 a1 next1 s) m1 = next1 at H13
  try dsimp only
  refine Jc<|Ja<|lv (Ym rfl rfl)<|Jd<|Jc<|?_
  revert H13
  refine ci (decide (x13_2 < (a0.length : Int))) rfl (fun hb H14=>?_) fun hb H20=>?_
  ·refine Jp<|Jc<|J0<|Jc<|Ja<|mv (i6 x13_2)<|ag (i6 x13_2)<|Jd<|Jc<|?_
   exact Qc (Kd.p :: Kd.p :: Kd.p :: Kd.d [] _ :: Kd.p :: Kd.p :: Kd.p :: Kd.d [] _ :: Kd.p :: []) 0 mixed (by
    refine dm v0<|dm (i6 x13_2)<|?_
    have h_t18 := Jx H14
    have H15 := Jq H14
    refine dv (Q2 Try.underlying22 Try.sizeOf3 rfl rfl f0 h_t18)<|Ze (fun w hF => Qt (f := Qa) (i := x13_2) (sz := 1) (j := 0) (v := i6 (val (Q9 a0 x13_2))) Try.isAgg3 rfl rfl (f0.row (hw.now hF)) h_t18 rfl) rfl rfl<|dm v1<|dm (i6 x13_2)<|?_
    have h_t22 := Jx H15
    have H16 := Jq H15
    refine dv (Q2 Try.underlying22 Try.sizeOf3 rfl rfl f1 h_t22)<|Ze (fun w hF => Qt (f := Qa) (i := x13_2) (sz := 1) (j := 0) (v := i6 (val (Q9 a1 x13_2))) Try.isAgg3 rfl rfl (f1.row (hw.now hF)) h_t22 rfl) rfl rfl<|dv (Yn rfl rfl)<|X2<|?_
    revert H16
    refine ci (decide ((val (Q9 a0 x13_2)) ≠ (val (Q9 a1 x13_2)))) rfl (fun hb H17=>?_) fun hb H18=>?_
    ·refine Jc<|Ja<|ag (.bool false)<|Jd<|Jr<|?_
     obtain rfl := sj H17
     exact r1 (.bool false)
    ·refine Jp<|Ja<|?_
     obtain ⟨t25, h_t25, H19⟩ := Je H18; clear H18
     refine lv (J4 rfl rfl h_t25)<|mv (i6 t25)<|Jd<|?_
     exact cl t25 () m1 [] (by exact ⟨(by subst hn1; exact H19), trivial⟩)
    ) (by kernel_rfl)
  ·refine Xy<|Jc<|Ja<|ag (.bool true)<|Jd<|Jr<|?_
   obtain rfl := sj H20
   exact r1 (.bool true)
theorem k14 {q0 : (List Int)} {vq0 : Value} {c0 : Nat} {q1 : Int} {pbq1 : Nat} {a0 : (List Int)} {v0 : Value} {a1 : Int} {r : Int} {w : World} {h : Jt} {S : Nat → Prop} (hcs : (Jf pbq1 [i6 q1] 3).P S w) (hlt : ∀ b, S b → b < w.heap.size) (hw : Know h w S) (fq0 : FrS h 1 vq0 (q0.map Qa)) (hc0 : h c0 = some (.cells (List.toArray [vq0]) 22 (0, 0))) (f0 : FrS h 1 v0 (a0.map Qa)) (H : Jct q0 q1 a0 a1 = some r) : Does prog 14 (List.toArray [v0, i6 a1, pz c0, pz pbq1]) w (fun v w' => ∃ x : Unit, v = (.tuple #[]) ∧ Turn w w' S (Jf pbq1 [i6 r] 3)) := by
 refine enter (n := 10) func14 rfl rfl rfl S [Jf pbq1 [i6 q1] 3] (Sat.one hcs hlt)<|Jc<|Ja<|mv v0<|Xn (fun w hF hS => Zx (v := vq0) isAgg22 rfl (hw.now hF _ _ hc0) rfl) rfl rfl rfl<|?_
 obtain ⟨t8, h_t8, H4⟩ := Je H; clear H
 refine Qg (fun w hF hS => k10 (Jm w) (f0.mono (hw.now hF)) (fq0.mono (hw.now hF)) h_t8) call10 rfl rfl rfl<|Jd<|?_
 revert H4
 refine ci t8 rfl (fun hb H5=>?_) fun hb H6=>?_
 ·refine Ja<|mv (i6 a1)<|st (i := 0) [i6 a1] [i6 a1] Try.sizeOf3 rfl rfl<|Jd<|?_
  obtain rfl := sj H5
  refine Je4 rfl (Y9 () (i := 0) rfl rfl (Imp.refl _))
 ·refine Jp ?_
  obtain rfl := sj H6
  refine Je4 rfl (Y9 () (i := 0) rfl rfl (Imp.refl _))
theorem k17 {a0 : Bool} {a1 : Int} {a2 : Int} {r : (List Int)} {w : World} {h : Jt} (hw : Know h w Z2) (H : Jh a0 a1 a2 = some r) : Does prog 17 (List.toArray [.bool a0, i6 a1, i6 a2]) w (fun v w' => ∃ x : AN, v = (sl x r.length) ∧ Turn w w' Z2 (J3 5 1 (sl x r.length) r.length (r.map Yd))) := by
 refine enter (n := 33) func17 rfl rfl rfl Z2 [] (Sat.nil _ _)<|Jc<|Ja<|ag (z0s)<|Jd<|Jc<|Ja<|mv (i6 a2)<|?_
 obtain ⟨t11, h_t11, H15⟩ := Je H; clear H
 refine Za (rds := []) (makes_makeG (E := 5) (sz := 1) (f := Yd) (xs := t11) Try.underlying55 (Qu Try.typeInfo5) rfl rfl rfl rfl rfl rfl ⟨rfl, rfl⟩ h_t11) rfl rfl rfl (fun p => ?_)
 refine ag (sl p t11.length)<|Jd<|Jc<|Jc<|Ja<|mv (sl p t11.length)<|lv (Ur Try.underlying55 rfl)<|mv (i6 0)<|Jd<|J0<|?_
 refine Zz (σ := Int × (List Int)) (τ := Unit) (fun next1 s => X9 a0 a1 a2 t11 next1 s.1 s.2) (fun s t => [(0, .bool a0), (1, i6 a1), (2, i6 a2), (7, sl p t11.length), (13, i6 (t11.length : Int)), (14, i6 s.1)]) (fun s t => [J3 5 1 (sl p t11.length) t11.length (s.2.map Yd)]) (fun s t => t11.length = s.2.length) (0, t11) () [0] H15 (by exact rfl) (by exact ⟨rfl, rfl, rfl, rfl, rfl, rfl, trivial⟩) (by decide) rfl ?_
 rintro ⟨x14_2, l_2⟩ _ m1 gg H16 hl_2
 clear H15
 try dsimp only at H16
 generalize hn1 : it (fun next1 s => X9 a0 a1 a2 t11 next1 s.1 s.2) m1 = next1 at H16
 try dsimp only
 refine Jc<|Ja<|lv (Ym rfl rfl)<|Jd<|Jc<|?_
 revert H16
 refine ci (decide (x14_2 < (t11.length : Int))) rfl (fun hb H17=>?_) fun hb H28=>?_
 ·refine Jp<|Jc<|J0<|Jc<|Ja<|mv (i6 x14_2)<|ag (i6 x14_2)<|Jd<|Jc<|Ja<|mv (i6 x14_2)<|ag (i6 x14_2)<|Jd<|?_
  refine Qx (r := r) (σ := Int) (τ := Unit) (fun s => Wl a1 x14_2 l_2 next1 s) (fun s t => [(0, .bool a0), (1, i6 a1), (2, i6 a2), (7, sl p t11.length), (8, i6 x14_2), (9, i6 s), (13, i6 (t11.length : Int)), (14, i6 x14_2)]) (fun s t => [J3 5 1 (sl p t11.length) t11.length (l_2.map Yd)]) (fun s t => True) ?_ ?_
  ·refine Jc<|Ja<|mv (.bool a0)<|Jd<|?_
   revert H17
   refine ci a0 rfl (fun hb H24=>?_) fun hb H27=>?_
   ·refine Ja<|mv (i6 a2)<|?_
    obtain ⟨t20, h_t20, H25⟩ := Je H24; clear H24
    refine lv (Un rfl rfl h_t20)<|mv (i6 x14_2)<|?_
    obtain ⟨t22, h_t22, H26⟩ := Je H25; clear H25
    refine lv (Un rfl rfl h_t22)<|ag (i6 t22)<|Jd<|?_
    exact cl t22 () 0 [0] (by exact ⟨H26, trivial⟩)
   ·refine Jp ?_
    exact cl x14_2 () 0 [0] (by exact ⟨H27, trivial⟩)
  ·rintro x9 _ gg H18 _
   try dsimp only at H18
   try dsimp only
   refine Ja<|mv (sl p t11.length)<|mv (i6 x9)<|mv (i6 a1)<|mv (i6 x14_2)<|?_
   obtain ⟨t27, h_t27, H19⟩ := Je H18; clear H18
   refine lv (Vs rfl rfl h_t27) ?_
   obtain ⟨t28, h_t28, H20⟩ := Je H19; clear H19
   refine lv (r_shrG rfl rfl rfl h_t28)<|lv (Jco Try.runUnderlying3 runUnderlying5 rfl (wr_u8 _))<|?_
   obtain ⟨t30, h_t30, H21⟩ := Je H20; clear H20
   refine Xn (fun w hF hS => Ux Try.underlying55 Try.sizeOf5 rfl rfl (Up (i := 0) hS rfl) hl_2 h_t30) rfl rfl rfl ?_
   obtain ⟨l0, h_l0, H22⟩ := Je H21; clear H21
   refine Ji5 (q := 0) (j := 0) (i := x9) (sz := 1) (hm := hl_2) (f := Yd) (vs := [.int .u8 (wU8 t28)]) Try.sizeOf5 rfl rfl rfl rfl rfl rfl rfl rfl rfl (fun y_ hy_ => by first | rfl | (cases hy_.symm.trans h_t30; rfl)) h_l0<|Jd<|Ja<|?_
   obtain ⟨t31, h_t31, H23⟩ := Je H22; clear H22
   refine lv (J4 rfl rfl h_t31)<|mv (i6 t31)<|Jd<|?_
   exact cl (t31, l0) () m1 [0] (by exact ⟨(by subst hn1; exact H23), (gSet_n hl_2 h_l0)⟩)
 ·refine Xy<|Jc<|Ja<|mv (sl p t11.length)<|ag (sl p t11.length)<|Jd<|Jr<|?_
  obtain rfl := sj H28
  refine Jbw (v := sl p t11.length) rfl rfl (Y9 p (i := 0) rfl (by first | rfl | rw [(show t11.length = l_2.length from hl_2)]) (by first | exact Imp.refl _ | exact Imp.of (by rw [(show t11.length = l_2.length from hl_2)] <;> rfl)))
theorem k16 {a0 : Bool} {a1 : Td} {v1_2 : Value} {v1_3 : Value} {v1_4 : Value} {r : (List Int)} {w : World} {h : Jt} (hw : Know h w Z2) (f1_2 : FrS h 1 v1_2 (a1.kaj.map Qa)) (f1_3 : FrS h 2 v1_3 (a1.kag.map Jl)) (f1_4 : FrN h 6 v1_4 g_tag_Entry a1.kaf) (H : Yr a0 a1 = some r) : Does prog 16 (List.toArray [.bool a0, .agg #[i6 a1.kah, str a1.kai, v1_2, v1_3, v1_4]]) w (fun v w' => ∃ x : AN, v = (sl x r.length) ∧ Turn w w' Z2 (wrV 5 1 (sl x r.length) r.length (r.map Yd))) := by
 refine enter (n := 61) func16 rfl rfl rfl Z2 [] (Sat.nil _ _)<|Jc<|Ja<|?_
 refine We (cs := [i6 a1.kah, str a1.kai, v1_2, v1_3, v1_4]) rfl rfl rfl rfl (fun b6 => ?_)
 refine ag (z0s)<|Jd<|Jc<|Jc<|Ja<|lf Try.runUnderlying26 rfl Try.sizeOf3 rfl<|ll 0 (i6 a1.kah) Try.isAgg3<|Jd<|J0<|Jc<|Ja<|lv (Xe rfl rfl)<|ag (.bool (decide (a1.kah = 2)))<|Jd<|?_
 revert H
 refine ci (decide (a1.kah = 2)) rfl (fun hb H51=>?_) fun hb H54=>?_
 ·refine Jc<|Ja<|lf Try.runUnderlying26 rfl Try.sizeOf9 rfl<|ll 0 (str a1.kai) Try.isAgg9<|?_
  obtain ⟨t16, h_t16, H52⟩ := Je H51; clear H51
  refine Za (rds := []) (Jfr (f := Yd) (s := a1.kai) Try.underlying9 Try.underlying55 Try.underlying5 rfl (fun _ => rfl) h_t16) rfl rfl rfl (fun p => ?_)
  refine Qw (vs := [.int .u8 0]) (cs := [.int .u8 0]) Try.underlying55 Try.sizeOf5 zeroValue5 rfl rfl rfl rfl rfl rfl rfl (fun b7 => ?_)
  obtain ⟨l18, h_l18, H53⟩ := Je H52; clear H52
  refine Qf (Wk (i := 1) (hn := rfl) (rds := [2]) (p := p) (sz := 1) (by_ := 1) (f := Yd) (ys := t16) (ls := ([0] : List Int)) (V := .slice (some ⟨b7, 0, none⟩) 1 1) Try.underlying55 (Qu Try.typeInfo5) rfl rfl rfl rfl rfl rfl rfl rfl rfl rfl (fun w L' hF hS hi => Z8 (i := 2) hS ((hi 2 (by simp)).trans rfl) rfl rfl) (fun _ => rfl) (fun _ => rfl) h_l18) rfl rfl rfl (fun p_2 => ?_)
  refine ag (sl p_2 l18.length)<|Jd<|Jr<|?_
  obtain rfl := sj H53
  refine Jbw (v := sl p_2 l18.length) rfl rfl (Y9 p_2 (i := 1) rfl rfl (Imp.refl _))
 ·refine Jc<|Ja<|lv (Xe rfl rfl)<|ag (.bool (decide (a1.kah = 7)))<|Jd<|?_
  revert H54
  refine ci (decide (a1.kah = 7)) rfl (fun hb H55=>?_) fun hb H57=>?_
  ·refine Jc<|Ja<|lf Try.runUnderlying26 rfl Try.sizeOf9 rfl<|ll 0 (str a1.kai) Try.isAgg9<|?_
   obtain ⟨t23, h_t23, H56⟩ := Je H55; clear H55
   refine Za (rds := []) (Jfr (f := Yd) (s := a1.kai) Try.underlying9 Try.underlying55 Try.underlying5 rfl (fun _ => rfl) h_t23) rfl rfl rfl (fun p_3 => ?_)
   refine ag (sl p_3 t23.length)<|Jd<|Jr<|?_
   obtain rfl := sj H56
   refine Jbw (v := sl p_3 t23.length) rfl rfl (Y9 p_3 (i := 1) rfl rfl (Imp.refl _))
  ·refine Jp<|Jc<|Ja<|ag (z0s)<|Jd<|?_
   refine Qx (r := r) (σ := (List Int)) (τ := AN) (fun s => Jaa a0 a1 s) (fun s t => [(0, .bool a0), (3, pz b6), (5, sl t s.length)]) (fun s t => [Jf b6 [i6 a1.kah, str a1.kai, v1_2, v1_3, v1_4] 26, J3 5 1 (sl t s.length) s.length (s.map Yd)]) (fun s t => True) ?_ ?_
   ·refine Jc<|Ja<|lf Try.runUnderlying26 rfl Try.sizeOf22 rfl<|ll 0 v1_2 isAgg22<|lv (Va Try.underlying22 rfl f1_2 rfl)<|mv (i6 0)<|Jd<|J0<|J5 5 1<|?_
    refine Zz (σ := Int × (List Int)) (τ := AN) (fun next3 s => Vm a0 a1 next3 s.1 s.2) (fun s t => [(0, .bool a0), (3, pz b6), (5, sl t s.2.length), (25, v1_2), (26, i6 (a1.kaj.length : Int)), (27, i6 s.1)]) (fun s t => [Jf b6 [i6 a1.kah, str a1.kai, v1_2, v1_3, v1_4] 26, J3 5 1 (sl t s.2.length) s.2.length (s.2.map Yd)]) (fun s t => True) (0, ([] : List Int)) nn [0, 1] H57 (by exact trivial) (by exact ⟨rfl, rfl, rfl, rfl, rfl, rfl, trivial⟩) (by decide) rfl ?_
    rintro ⟨x27_2, l_5⟩ p_10 m3 gg H68 _
    clear H57
    try dsimp only at H68
    generalize hn3 : it (fun next3 s => Vm a0 a1 next3 s.1 s.2) m3 = next3 at H68
    try dsimp only
    refine Jc<|Ja<|lv (Ym rfl rfl)<|Jd<|Jc<|?_
    revert H68
    refine ci (decide (x27_2 < (a1.kaj.length : Int))) rfl (fun hb H69=>?_) fun hb H75=>?_
    ·refine Jp<|Jc<|J0<|Jc<|Ja<|?_
     obtain ⟨t29, h_t29, H70⟩ := Je H69; clear H69
     refine lv (Q2 Try.underlying22 Try.sizeOf3 rfl rfl f1_2 h_t29)<|Xn (fun w hF hS => Qt (f := Qa) (i := x27_2) (sz := 1) (j := 0) (v := i6 t29) Try.isAgg3 rfl rfl (f1_2.row (hw.now hF)) h_t29 rfl) rfl rfl rfl<|ag (i6 t29)<|Jd<|Ja<|mv (sl p_10 l_5.length)<|mv (.bool a0)<|mv (i6 t29)<|lf Try.runUnderlying26 rfl Try.sizeOf3 rfl<|ll 0 (i6 a1.kah) Try.isAgg3<|?_
     obtain ⟨t36, h_t36, H71⟩ := Je H70; clear H70
     refine Vb (k47 h_t36) call47 rfl rfl rfl ?_
     obtain ⟨t37, h_t37, H72⟩ := Je H71; clear H71
     refine Za (Qs (rds := []) (fun w L' hF hS hi => k17 (Jm w)  h_t37) call17 rfl) rfl rfl rfl (fun p_11 => ?_)
     obtain ⟨l38, h_l38, H73⟩ := Je H72; clear H72
     refine Qf (Ys (i := 1) (hn := rfl) (rds := [2]) (p := p_10) (sz := 1) (by_ := 1) (f := Yd) (ys := l_5) (ls := t37) (V := sl p_11 t37.length) Try.underlying55 (Qu Try.typeInfo5) rfl rfl rfl rfl rfl rfl rfl rfl rfl rfl (fun w L' hF hS hi => Up (i := 2) hS ((hi 2 (by simp)).trans rfl)) (fun _ => rfl) (fun _ => rfl) h_l38) rfl rfl rfl (fun p_12 => ?_)
     refine ag (sl p_12 l38.length)<|Jd<|Ja<|?_
     obtain ⟨t39, h_t39, H74⟩ := Je H73; clear H73
     refine lv (J4 rfl rfl h_t39)<|mv (i6 t39)<|Jd<|?_
     exact cl (t39, l38) p_12 m3 [0, 1] (by exact ⟨(by subst hn3; exact H74), trivial⟩)
    ·refine Xy ?_
     exact cl l_5 p_10 0 [0, 1] (by exact ⟨H75, trivial⟩)
   ·rintro l p_4 gg H58 _
    try dsimp only at H58
    try dsimp only
    refine Jc<|Jc<|Ja<|lf Try.runUnderlying26 rfl Try.sizeOf23 rfl<|ll 0 v1_3 isAgg23<|lv (Va Try.underlying23 rfl f1_3 rfl)<|mv (i6 0)<|Jd<|J0<|Jce 0<|?_
    try dsimp only [z1, z2, z3, z4, z5, z6, z7, z8]
    refine Zz (σ := Int × (List Int)) (τ := AN) (fun next2 s => Vj a0 a1 next2 s.1 s.2) (fun s t => [(0, .bool a0), (5, sl t s.2.length), (41, v1_3), (42, i6 (a1.kag.length : Int)), (43, i6 s.1)]) (fun s t => [J3 5 1 (sl t s.2.length) s.2.length (s.2.map Yd)]) (fun s t => True) (0, l) p_4 [0] H58 (by exact trivial) (by exact ⟨rfl, rfl, rfl, rfl, rfl, trivial⟩) (by decide) rfl ?_
    rintro ⟨x43_2, l_3⟩ p_5 m2 gg H59 _
    clear H58
    try dsimp only at H59
    generalize hn2 : it (fun next2 s => Vj a0 a1 next2 s.1 s.2) m2 = next2 at H59
    try dsimp only
    refine Jc<|Ja<|lv (Ym rfl rfl)<|Jd<|Jc<|?_
    revert H59
    refine ci (decide (x43_2 < (a1.kag.length : Int))) rfl (fun hb H60=>?_) fun hb H67=>?_
    ·refine Jp<|Jc<|J0<|Jc<|Ja<|?_
     obtain ⟨t45, h_t45, H61⟩ := Je H60; clear H60
     refine lv (Q2 Try.underlying23 Try.sizeOf46 rfl rfl f1_3 h_t45)<|Xn (fun w hF hS => Y2 (f := Jl) (i := x43_2) (sz := 2) (j := 0) (vs := [i6 t45.Num, i6 t45.Den]) isAgg46 Try.sizeOf46 rfl rfl (f1_3.row (hw.now hF)) h_t45 rfl) rfl rfl rfl<|?_
     refine Xw (cs := [i6 0, i6 0]) zeroValue46 rfl rfl rfl (fun b8 => ?_)
     refine st (i := 1) [i6 t45.Num, i6 t45.Den] [i6 t45.Num, i6 t45.Den] Try.sizeOf46 rfl rfl<|Jd<|Jc<|Ja<|mv (sl p_5 l_3.length)<|mv (.bool a0)<|lf Try.runUnderlying46 rfl Try.sizeOf3 rfl<|ll 1 (i6 t45.Num) Try.isAgg3<|?_
     obtain ⟨t51, h_t51, H62⟩ := Je H61; clear H61
     refine Za (Qs (rds := []) (fun w L' hF hS hi => k17 (Jm w)  h_t51) call17 rfl) rfl rfl rfl (fun p_6 => ?_)
     obtain ⟨l52, h_l52, H63⟩ := Je H62; clear H62
     refine Qf (Ys (i := 0) (hn := rfl) (rds := [2]) (p := p_5) (sz := 1) (by_ := 1) (f := Yd) (ys := l_3) (ls := t51) (V := sl p_6 t51.length) Try.underlying55 (Qu Try.typeInfo5) rfl rfl rfl rfl rfl rfl rfl rfl rfl rfl (fun w L' hF hS hi => Up (i := 2) hS ((hi 2 (by simp)).trans rfl)) (fun _ => rfl) (fun _ => rfl) h_l52) rfl rfl rfl (fun p_7 => ?_)
     refine ag (sl p_7 l52.length)<|Jd<|Ja<|mv (sl p_7 l52.length)<|mv (.bool a0)<|lf Try.runUnderlying46 rfl Try.sizeOf3 rfl<|ll 1 (i6 t45.Den) Try.isAgg3<|?_
     obtain ⟨t57, h_t57, H64⟩ := Je H63; clear H63
     refine Za (Qs (rds := []) (fun w L' hF hS hi => k17 (Jm w)  h_t57) call17 rfl) rfl rfl rfl (fun p_8 => ?_)
     obtain ⟨l58, h_l58, H65⟩ := Je H64; clear H64
     refine Qf (Ys (i := 0) (hn := rfl) (rds := [3]) (p := p_7) (sz := 1) (by_ := 1) (f := Yd) (ys := l52) (ls := t57) (V := sl p_8 t57.length) Try.underlying55 (Qu Try.typeInfo5) rfl rfl rfl rfl rfl rfl rfl rfl rfl rfl (fun w L' hF hS hi => Up (i := 3) hS ((hi 3 (by simp)).trans rfl)) (fun _ => rfl) (fun _ => rfl) h_l58) rfl rfl rfl (fun p_9 => ?_)
     refine ag (sl p_9 l58.length)<|Jd<|?_
     try dsimp only [z1,z2,z5,z6,z7,z8]
     refine Ja ?_
     obtain ⟨t59, h_t59, H66⟩ := Je H65; clear H65
     refine lv (J4 rfl rfl h_t59)<|mv (i6 t59)<|Jd<|?_
     exact cl (t59, l58) p_9 m2 [0] (by exact ⟨(by subst hn2; exact H66), trivial⟩)
    ·refine Xy<|Jc<|Ja<|mv (sl p_5 l_3.length)<|ag (sl p_5 l_3.length)<|Jd<|Jr<|?_
     obtain rfl := sj H67
     refine Xl 0 rfl (imp_wr _ _ _ _ _) ?_
     refine Jbw (v := sl p_5 l_3.length) rfl rfl (Y9 p_5 (i := 0) rfl rfl (Imp.refl _))
theorem k18 {a0 : Te} {pb0 : Nat} {p0_1 : AN} {n0_1 : Nat} {a1 : Int} {a2 : Int} {r : Te} {w : World} {h : Jt} {S : Nat → Prop} (hcs : (Jv (Jf pb0 [.bool a0.kab, sl p0_1 n0_1] 57) (wrV 5 1 (sl p0_1 n0_1) n0_1 (a0.kak.map Yd))).P S w) (hlt : ∀ b, S b → b < w.heap.size) (hw : Know h w S) (hn0_1 : n0_1 = a0.kak.length) (H : Js a0 a1 a2 = some r) : Does prog 18 (List.toArray [pz pb0, i6 a1, i6 a2]) w (fun v w' => ∃ x : AN, v = (.tuple #[]) ∧ Turn w w' S (Jv (Jf pb0 [.bool r.kab, sl x r.kak.length] 57) (wrV 5 1 (sl x r.kak.length) r.kak.length (r.kak.map Yd)))) := by
 refine enter (n := 19) func18 rfl rfl rfl S [Jv (Jf pb0 [.bool a0.kab, sl p0_1 n0_1] 57) (wrV 5 1 (sl p0_1 n0_1) n0_1 (a0.kak.map Yd))] (Sat.one hcs hlt)<|Qj 0 rfl<|?_
 exact Qc (Kd.p :: Kd.p :: Kd.p :: Kd.d [0] _ :: Kd.p :: Kd.d [1] _ :: Kd.p :: Kd.p :: Kd.p :: Kd.d [0] _ :: Kd.p :: Kd.t 2 [] _ _ :: Kd.t 1 [2] _ _ :: []) 1 mixed (by
  refine dm (pz pb0)<|dv (Ji rfl)<|dv (Qd Try.runUnderlying57 rfl Try.sizeOf55 rfl rfl)<|dl (sl p0_1 n0_1) Try.isAgg55<|dm (i6 a1)<|?_
  have h_t11 := Jx H
  have H3 := Jq H
  refine Wj (v := .slice (Xg p0_1.1 (Int.toNat a1) p0_1.2 1) (val (Xr a0.kak a1 a0.kak.length)).length (p0_1.2 - Int.toNat a1)) (fun w L' hF hS hi => Y8 (xs := a0.kak) Try.underlying55 Try.sizeOf5 rfl rfl hn0_1 (capOfW (i := 1) hS ((hi 1 (by simp)).trans rfl)) h_t11) rfl rfl<|dm (pz pb0)<|dv (Ji rfl)<|dv (Qd Try.runUnderlying57 rfl Try.sizeOf4 rfl rfl)<|dl (.bool a0.kab) isAgg4<|dm (i6 a2)<|?_
  have h_t17 := Jx H3
  have H4 := Jq H3
  refine Ja8 (Cv := fun v => J3 5 1 v (val (Jh a0.kab a2 4)).length ((val (Jh a0.kab a2 4)).map Yd)) (none, 0) (Qs (fun w L' hF hS hi => k17 (Jm w)  h_t17) call17 rfl) (fun _ => rfl) rfl rfl rfl (fun p => ?_)
  refine U8 (Cv := fun _ => wrV 5 1 (sl p0_1 n0_1) n0_1 ((Zf a0.kak a1 (val (Xr a0.kak a1 a0.kak.length)).length (val (Jh a0.kab a2 4))).map Yd)) () (Jbn (i := 1) (rds := _) (p := p0_1) (f := Yd) (xs := a0.kak) (ts := (val (Xr a0.kak a1 a0.kak.length))) (ys := (val (Jh a0.kab a2 4))) hn0_1 Try.underlying55 (by rw [Qu Try.typeInfo5]; rfl) rfl rfl h_t11 rfl rfl (fun w L' hF hS hi => Up (i := 2) hS ((hi 2 (by simp)).trans rfl)) (fun _ => rfl) (fun _ => rfl)) (fun _ => rfl) rfl rfl (fun _ => ?_)
  refine X2 ?_
  obtain rfl := sj H4
  refine bo 0 1 rfl rfl ?_
  refine Je4 rfl (Y9 p0_1 (i := 0) rfl (by first | rfl | rw [(show n0_1 = (Zf a0.kak a1 (val (Xr a0.kak a1 a0.kak.length)).length (val (Jh a0.kab a2 4))).length from (Jg8 hn0_1 h_t11))]) (by first | exact Imp.refl _ | exact Imp.of (by rw [(show n0_1 = (Zf a0.kak a1 (val (Xr a0.kak a1 a0.kak.length)).length (val (Jh a0.kab a2 4))).length from (Jg8 hn0_1 h_t11))] <;> rfl)))
  ) (by kernel_rfl)
theorem k22 {a0 : Te} {pb0 : Nat} {p0_1 : AN} {n0_1 : Nat} {r : Int × Te} {w : World} {h : Jt} {S : Nat → Prop} (hcs : (Jv (Jf pb0 [.bool a0.kab, sl p0_1 n0_1] 57) (wrV 5 1 (sl p0_1 n0_1) n0_1 (a0.kak.map Yd))).P S w) (hlt : ∀ b, S b → b < w.heap.size) (hw : Know h w S) (hn0_1 : n0_1 = a0.kak.length) (H : Q0 a0 = some r) : Does prog 22 (List.toArray [pz pb0]) w (fun v w' => ∃ x : AN, v = (i6 r.1) ∧ Turn w w' S (Jv (Jf pb0 [.bool r.2.kab, sl x r.2.kak.length] 57) (wrV 5 1 (sl x r.2.kak.length) r.2.kak.length (r.2.kak.map Yd)))) := by
 refine enter (n := 24) func22 rfl rfl rfl S [Jv (Jf pb0 [.bool a0.kab, sl p0_1 n0_1] 57) (wrV 5 1 (sl p0_1 n0_1) n0_1 (a0.kak.map Yd))] (Sat.one hcs hlt)<|Qj 0 rfl<|Jc<|Ja<|ag (i6 0)<|Jd<|?_
 refine Qx (r := r) (σ := (List Int)) (τ := AN × Nat) (fun s => Zh a0 s) (fun s t => [(0, pz pb0)]) (fun s t => [Jf pb0 [.bool a0.kab, .slice t.1.1 t.2 t.1.2] 57, wrV 5 1 (.slice t.1.1 t.2 t.1.2) t.2 (s.map Yd)]) (fun s t => t.2 = s.length) ?_ ?_
 ·refine Jc<|Ja<|mv (pz pb0)<|lv (Ji rfl)<|lf Try.runUnderlying57 rfl Try.sizeOf55 rfl<|ll 0 (sl p0_1 n0_1) Try.isAgg55<|lv (r_lenN Try.underlying55 rfl hn0_1)<|?_
  obtain ⟨t8, h_t8, H7⟩ := Je H; clear H
  refine lv (r_remG rfl rfl h_t8)<|lv (Yn rfl rfl)<|Jd<|?_
  revert H7
  refine ci (decide (t8 ≠ 0)) rfl (fun hb H8=>?_) fun hb H10=>?_
  ·refine Ja<|mv (pz pb0)<|mv (pz pb0)<|lv (Ji rfl)<|lf Try.runUnderlying57 rfl Try.sizeOf55 rfl<|ll 0 (sl p0_1 n0_1) Try.isAgg55<|?_
   refine Qw (vs := [.int .u8 0]) (cs := [.int .u8 0]) Try.underlying55 Try.sizeOf5 zeroValue5 rfl rfl rfl rfl rfl rfl rfl (fun b1 => ?_)
   obtain ⟨l16, h_l16, H9⟩ := Je H8; clear H8
   refine Qf (Wk (i := 1) (hn := hn0_1) (rds := [2]) (p := p0_1) (sz := 1) (by_ := 1) (f := Yd) (ys := a0.kak) (ls := ([0] : List Int)) (V := .slice (some ⟨b1, 0, none⟩) 1 1) Try.underlying55 (Qu Try.typeInfo5) rfl rfl rfl rfl rfl rfl rfl rfl rfl rfl (fun w L' hF hS hi => Z8 (i := 2) hS ((hi 2 (by simp)).trans rfl) rfl rfl) (fun _ => rfl) (fun _ => rfl) h_l16) rfl rfl rfl (fun p_2 => ?_)
   refine lv (Ji rfl)<|lf Try.runUnderlying57 rfl Try.sizeOf55 rfl<|st (i := 0) [sl p_2 l16.length] [.bool a0.kab, sl p_2 l16.length] Try.sizeOf55 rfl rfl<|Jd<|?_
   exact cl l16 (p_2, l16.length) 0 [0, 1] (by exact ⟨H9, rfl⟩)
  ·refine Jp ?_
   exact cl a0.kak (p0_1, n0_1) 0 [0, 1] (by exact ⟨H10, hn0_1⟩)
 ·rintro l ⟨p, n⟩ gg H6 hl
  try dsimp only at H6
  try dsimp only
  refine Jc<|Ja<|mv (pz pb0)<|lv (Ji rfl)<|lf Try.runUnderlying57 rfl Try.sizeOf55 rfl<|ll 0 (sl p n) Try.isAgg55<|lv (r_lenN Try.underlying55 rfl hl)<|ag (i6 (l.length : Int))<|Jd<|Jr<|?_
  obtain rfl := sj H6
  refine bo 0 1 rfl rfl ?_
  refine Jbw (v := i6 (l.length : Int)) rfl rfl (Y9 p (i := 0) rfl (by first | rfl | rw [(show n = l.length from hl)]) (by first | exact Imp.refl _ | exact Imp.of (by rw [(show n = l.length from hl)] <;> rfl)))
theorem k39c {x0_ x1_ : Value} {a0 : Tb} {v0_2 : Value} {v0_3 : Value} {pb0 : Nat} {a1 : Int} {a2 : Int} {r : Int} {w : World} {h : Jt} (hw : Know h w Z2) (f0_2 : FrS h 2 v0_2 (a0.kaa.map Jk)) (f0_3 : FrM h i6 Value.bool v0_3 a0.kae) (hb0 : h pb0 = some (.cells (List.toArray [str a0.s_, .bool a0.kab, v0_2, v0_3, i6 a0.kad, .func (.func 14) #[] #[x0_, x1_], i6 a0.no_]) 88 (0, 0))) (H : Jg a0 a1 a2 = some r) : Does prog 39 (List.toArray [pz pb0, i6 a1, i6 a2]) w (fun v w' => v = (i6 r) ∧ Grow w w') := by
 refine enter (n := 18) func39 rfl rfl rfl Z2 [] (Sat.nil _ _)<|Jc<|Ja<|ag (i6 0)<|Jd<|Jc<|?_
 exact Qc (Kd.p :: Kd.p :: Kd.p :: Kd.d [] _ :: Kd.p :: Kd.p :: Kd.p :: Kd.d [] _ :: Kd.p :: Kd.p :: Kd.d [] _ :: Kd.p :: []) 0 mixed (by
  refine dm (pz pb0)<|dv (Ji rfl)<|dv (Qd Try.runUnderlying88 rfl Try.sizeOf4 rfl rfl)<|Ze (fun w hF => Zx (v := .bool a0.kab) isAgg4 rfl (hw.now hF _ _ hb0) rfl) rfl rfl<|dm (pz pb0)<|dv (Ji rfl)<|dv (Qd Try.runUnderlying88 rfl Try.sizeOf9 rfl rfl)<|Ze (fun w hF => Zx (v := str a0.s_) Try.isAgg9 rfl (hw.now hF _ _ hb0) rfl) rfl rfl<|dm (i6 a1)<|dm (i6 a2)<|?_
  have h_t17 := Jx H
  have H2 := Jq H
  refine Jdx (k21 h_t17) call21 rfl rfl<|Qr rfl rfl (Jy (v := i6 (val (Xx a0.kab a0.s_ a1 a2))) rfl)<|X2<|Jr<|?_
  obtain rfl := sj H2
  exact r1 (i6 (val (Xx a0.kab a0.s_ a1 a2)))
  ) (by kernel_rfl)
theorem k59c {x0_ x1_ : Value} {a0 : Tb} {v0_2 : Value} {v0_3 : Value} {pb0 : Nat} {a1 : Int} {a2 : Int} {r : Bool} {w : World} {h : Jt} (hw : Know h w Z2) (f0_2 : FrS h 2 v0_2 (a0.kaa.map Jk)) (f0_3 : FrM h i6 Value.bool v0_3 a0.kae) (hb0 : h pb0 = some (.cells (List.toArray [str a0.s_, .bool a0.kab, v0_2, v0_3, i6 a0.kad, .func (.func 14) #[] #[x0_, x1_], i6 a0.no_]) 88 (0, 0))) (H : Yp a0 a1 a2 = some r) : Does prog 59 (List.toArray [pz pb0, i6 a1, i6 a2]) w (fun v w' => v = (.bool r) ∧ Grow w w') := by
 refine enter (n := 29) func59 rfl rfl rfl Z2 [] (Sat.nil _ _)<|Jc<|Ja<|ag (.bool false)<|Jd<|Jc<|Ja<|mv (i6 a1)<|lv (r_geq rfl rfl)<|mv (.bool (decide (8 ≤ a1)))<|?_
 revert H
 refine sp (fun hb H6=>?_) fun hb H10=>?_
 ·refine mv (i6 a2)<|mv (pz pb0)<|lv (Ji rfl)<|lf Try.runUnderlying88 rfl Try.sizeOf9 rfl<|Xn (fun w hF hS => Zx (v := str a0.s_) Try.isAgg9 rfl (hw.now hF _ _ hb0) rfl) rfl rfl rfl<|lv (Ww Try.underlying9 rfl)<|lv (Je3 rfl rfl)<|pT (.bool (decide (a2 ≤ (a0.s_.length : Int))))<|mv (.bool (decide (a2 ≤ (a0.s_.length : Int))))<|?_
  revert H6
  refine sp (fun hb H7=>?_) fun hb H9=>?_
  ·refine mv (i6 a1)<|mv (pz pb0)<|lv (Ji rfl)<|lf Try.runUnderlying88 rfl Try.sizeOf9 rfl<|Xn (fun w hF hS => Zx (v := str a0.s_) Try.isAgg9 rfl (hw.now hF _ _ hb0) rfl) rfl rfl rfl<|lv (Ww Try.underlying9 rfl)<|mv (i6 a2)<|?_
   obtain ⟨t26, h_t26, H8⟩ := Je H7; clear H7
   refine lv (Un rfl rfl h_t26)<|lv (Je3 rfl rfl)<|pT (.bool (decide (a1 ≤ t26)))<|ag (.bool (decide (a1 ≤ t26)))<|Jd<|Jr<|?_
   obtain rfl := sj H8
   exact r1 (.bool (decide (a1 ≤ t26)))
  ·refine pa<|pa<|pa<|pa<|pa<|pa<|pa<|pa<|pa<|pF (.bool false)<|ag (.bool false)<|Jd<|Jr<|?_
   obtain rfl := sj H9
   exact r1 (.bool false)
 ·refine pa<|pa<|pa<|pa<|pa<|pa<|pa<|pF (.bool false)<|mv (.bool false)<|pa<|pa<|pa<|pa<|pa<|pa<|pa<|pa<|pa<|pF (.bool false)<|ag (.bool false)<|Jd<|Jr<|?_
  obtain rfl := sj H10
  exact r1 (.bool false)
theorem k60c {x0_ x1_ : Value} {a0 : Tb} {pb0 : Nat} {p0_2 : AN} {n0_2 : Nat} {m0_3 : Nat} {a1 : Int} {r : Tb} {w : World} {h : Jt} {S : Nat → Prop} (hcs : (Jv (Jf pb0 [str a0.s_, .bool a0.kab, sl p0_2 n0_2, .map (some m0_3), i6 a0.kad, .func (.func 14) #[] #[x0_, x1_], i6 a0.no_] 88) (Jv (J3 94 2 (sl p0_2 n0_2) n0_2 (a0.kaa.map Jk)) (X8 i6 Value.bool m0_3 a0.kae))).P S w) (hlt : ∀ b, S b → b < w.heap.size) (hw : Know h w S) (hn0_2 : n0_2 = a0.kaa.length) (H : J9 a0 a1 = some r) : Does prog 60 (List.toArray [pz pb0, i6 a1]) w (fun v w' => ∃ x : AN × Nat, v = (.tuple #[]) ∧ Turn w w' S (Jv (Jf pb0 [str r.s_, .bool r.kab, .slice x.1.1 r.kaa.length x.1.2, .map (some x.2), i6 r.kad, .func (.func 14) #[] #[x0_, x1_], i6 r.no_] 88) (Jv (J3 94 2 (.slice x.1.1 r.kaa.length x.1.2) r.kaa.length (r.kaa.map Jk)) (X8 i6 Value.bool x.2 r.kae)))) := by
 refine enter (n := 13) func60 rfl rfl rfl S [Jv (Jf pb0 [str a0.s_, .bool a0.kab, sl p0_2 n0_2, .map (some m0_3), i6 a0.kad, .func (.func 14) #[] #[x0_, x1_], i6 a0.no_] 88) (Jv (J3 94 2 (sl p0_2 n0_2) n0_2 (a0.kaa.map Jk)) (X8 i6 Value.bool m0_3 a0.kae))] (Sat.one hcs hlt)<|Qj 0 rfl<|Qj 1 rfl<|Jc<|Ja<|mv (pz pb0)<|lv (Ji rfl)<|lf Try.runUnderlying88 rfl Try.sizeOf28 rfl<|ll 0 (i6 a0.no_) Try.isAgg28<|lv (Xe rfl rfl)<|Jd<|?_
 revert H
 refine ci (decide (a0.no_ = 0)) rfl (fun hb H3=>?_) fun hb H4=>?_
 ·refine Ja<|mv (pz pb0)<|mv (i6 a1)<|lv (Ji rfl)<|lf Try.runUnderlying88 rfl Try.sizeOf28 rfl<|st (i := 0) [i6 a1] [str a0.s_, .bool a0.kab, sl p0_2 n0_2, .map (some m0_3), i6 a0.kad, .func (.func 14) #[] #[x0_, x1_], i6 a1] Try.sizeOf28 rfl rfl<|Jd<|?_
  obtain rfl := sj H3
  refine bo 1 2 rfl rfl<|bo 0 1 rfl rfl<|?_
  refine Je4 rfl (Y9 (p0_2, m0_3) (i := 0) rfl (by first | rfl | rw [(show n0_2 = a0.kaa.length from hn0_2)]) (by first | exact Imp.refl _ | exact Imp.of (by rw [(show n0_2 = a0.kaa.length from hn0_2)] <;> rfl)))
 ·refine Jp ?_
  obtain rfl := sj H4
  refine bo 1 2 rfl rfl<|bo 0 1 rfl rfl<|?_
  refine Je4 rfl (Y9 (p0_2, m0_3) (i := 0) rfl (by first | rfl | rw [(show n0_2 = a0.kaa.length from hn0_2)]) (by first | exact Imp.refl _ | exact Imp.of (by rw [(show n0_2 = a0.kaa.length from hn0_2)] <;> rfl)))
theorem k86c {x0_ x1_ : Value} {a0 : Tb} {pb0 : Nat} {p0_2 : AN} {n0_2 : Nat} {m0_3 : Nat} {a1 : (List UInt8)} {r : (List UInt8) × Tb} {w : World} {h : Jt} {S : Nat → Prop} (hcs : (Jv (Jf pb0 [str a0.s_, .bool a0.kab, sl p0_2 n0_2, .map (some m0_3), i6 a0.kad, .func (.func 14) #[] #[x0_, x1_], i6 a0.no_] 88) (Jv (J3 94 2 (sl p0_2 n0_2) n0_2 (a0.kaa.map Jk)) (X8 i6 Value.bool m0_3 a0.kae))).P S w) (hlt : ∀ b, S b → b < w.heap.size) (hw : Know h w S) (hn0_2 : n0_2 = a0.kaa.length) (H : Wx a0 a1 = some r) : Does prog 86 (List.toArray [pz pb0, str a1]) w (fun v w' => ∃ x : AN × Nat, v = (str r.1) ∧ Turn w w' S (Jv (Jf pb0 [str r.2.s_, .bool r.2.kab, .slice x.1.1 r.2.kaa.length x.1.2, .map (some x.2), i6 r.2.kad, .func (.func 14) #[] #[x0_, x1_], i6 r.2.no_] 88) (Jv (J3 94 2 (.slice x.1.1 r.2.kaa.length x.1.2) r.2.kaa.length (r.2.kaa.map Jk)) (X8 i6 Value.bool x.2 r.2.kae)))) := by
 refine enter (n := 36) func86 rfl rfl rfl S [Jv (Jf pb0 [str a0.s_, .bool a0.kab, sl p0_2 n0_2, .map (some m0_3), i6 a0.kad, .func (.func 14) #[] #[x0_, x1_], i6 a0.no_] 88) (Jv (J3 94 2 (sl p0_2 n0_2) n0_2 (a0.kaa.map Jk)) (X8 i6 Value.bool m0_3 a0.kae))] (Sat.one hcs hlt)<|Qj 0 rfl<|Qj 1 rfl<|Jc<|Ja<|ag (str [])<|Jd<|Jc<|Jc<|Ja<|mv (str a1)<|lv (Jhe rfl rfl)<|mv (.bool (decide (a1 = [])))<|?_
 revert H
 refine sp (fun hb H20=>?_) fun hb H22=>?_
 ·refine pa<|pa<|pa<|pa<|pa<|pa<|pT (.bool true)<|Jd<|Ve rfl<|Jc<|Ja<|mv (pz pb0)<|?_
  obtain ⟨t17, h_t17, H21⟩ := Je H20; clear H20
  refine bo 1 2 rfl rfl<|bo 0 1 rfl rfl<|?_
  refine Qf (Jw (i := 0) (rds := []) rfl (fun w L' S hF hS hi hp hlt ho hA => k60c hp hlt (Qb w S) hn0_2 h_t17) Try.call60 rfl) rfl rfl rfl (fun ⟨p, p_2⟩ => ?_)
  refine ub 0 1 rfl rfl<|ub 1 2 rfl rfl<|Jd<|Jc<|?_
  try dsimp only [z1,z2,z5,z6,z7,z8]
  refine Ja<|ag (str [])<|Jd<|Jr<|?_
  obtain rfl := sj H21
  refine bo 1 2 rfl rfl<|bo 0 1 rfl rfl<|?_
  refine Jbw (v := str []) rfl rfl (Y9 (p, p_2) (i := 0) rfl rfl (Imp.refl _))
 ·refine mv (str a1)<|mv (str a1)<|lv (Ww Try.underlying9 rfl)<|?_
  obtain ⟨t12, h_t12, H23⟩ := Je H22; clear H22
  refine lv (Un rfl rfl h_t12) ?_
  obtain ⟨t13, h_t13, H24⟩ := Je H23; clear H23
  refine lv (Jcv Try.underlying9 rfl rfl h_t13)<|lv (Yn rfl rfl)<|pF (.bool (decide (t13 ≠ 0)))<|Jd<|?_
  revert H24
  refine ci (decide (t13 ≠ 0)) rfl (fun hb H25=>?_) fun hb H27=>?_
  ·refine Jc<|Ja<|mv (pz pb0)<|?_
   obtain ⟨t17_2, h_t17_2, H26⟩ := Je H25; clear H25
   refine bo 1 2 rfl rfl<|bo 0 1 rfl rfl<|?_
   refine Qf (Jw (i := 0) (rds := []) rfl (fun w L' S hF hS hi hp hlt ho hA => k60c hp hlt (Qb w S) hn0_2 h_t17_2) Try.call60 rfl) rfl rfl rfl (fun ⟨p_3, p_4⟩ => ?_)
   refine ub 0 1 rfl rfl<|ub 1 2 rfl rfl<|Jd<|Jc<|?_
   try dsimp only [z1,z2,z5,z6,z7,z8]
   refine Ja<|ag (str [])<|Jd<|Jr<|?_
   obtain rfl := sj H26
   refine bo 1 2 rfl rfl<|bo 0 1 rfl rfl<|?_
   refine Jbw (v := str []) rfl rfl (Y9 (p_3, p_4) (i := 0) rfl rfl (Imp.refl _))
  ·refine Jp<|Jc<|Ja<|mv (str a1)<|mv (str a1)<|lv (Ww Try.underlying9 rfl)<|?_
   obtain ⟨t21, h_t21, H28⟩ := Je H27; clear H27
   refine lv (Un rfl rfl h_t21) ?_
   obtain ⟨t22, h_t22, H29⟩ := Je H28; clear H28
   refine lv (Jgk Try.underlying9 rfl rfl h_t22)<|ag (str t22)<|Jd<|Jc<|Jc<|Ja<|mv (str t22)<|lv (Ww Try.underlying9 rfl)<|mv (i6 0)<|Jd<|J0<|?_
   refine Zz (σ := Int × (List UInt8) × Bool × Int × Nat × Int × (List Tc) × (List (Int × Bool))) (τ := AN × Nat × Nat) (fun next1 s => Xa t22 next1 s.1 s.2.1 s.2.2.1 s.2.2.2.1 s.2.2.2.2.1 s.2.2.2.2.2.1 s.2.2.2.2.2.2.1 s.2.2.2.2.2.2.2) (fun s t => [(0, pz pb0), (1, str t22), (24, i6 (t22.length : Int)), (25, i6 s.1)]) (fun s t => [Jf pb0 [str s.2.1, .bool s.2.2.1, .slice t.1.1 t.2.1 t.1.2, .map (some t.2.2), i6 s.2.2.2.1, .func (.func 14) #[] #[x0_, x1_], i6 s.2.2.2.2.2.1] 88, J3 94 2 (.slice t.1.1 t.2.1 t.1.2) t.2.1 (s.2.2.2.2.2.2.1.map Jk), X8 i6 Value.bool t.2.2 s.2.2.2.2.2.2.2]) (fun s t => t.2.1 = s.2.2.2.2.2.2.1.length) (0, a0.s_, a0.kab, a0.kad, a0.kac, a0.no_, a0.kaa, a0.kae) (p0_2, n0_2, m0_3) [0, 1, 2] H29 (by exact hn0_2) (by exact ⟨rfl, rfl, rfl, rfl, trivial⟩) (by decide) rfl ?_
   rintro ⟨x25_2, m_6, m_7, m_8, m_9, m_10, l_2, mp_2⟩ ⟨p_5, n, b⟩ m1 gg H30 hl_2
   clear H29
   try dsimp only at H30
   generalize hn1 : it (fun next1 s => Xa t22 next1 s.1 s.2.1 s.2.2.1 s.2.2.2.1 s.2.2.2.2.1 s.2.2.2.2.2.1 s.2.2.2.2.2.2.1 s.2.2.2.2.2.2.2) m1 = next1 at H30
   try dsimp only
   refine Jc<|Ja<|lv (Ym rfl rfl)<|Jd<|Jc<|?_
   revert H30
   refine ci (decide (x25_2 < (t22.length : Int))) rfl (fun hb H31=>?_) fun hb H38=>?_
   ·refine Jp ?_
    refine Qx (r := r) (σ := (List UInt8) × Bool × Int × Nat × Int × (List Tc) × (List (Int × Bool))) (τ := AN × Nat × Nat) (fun s => Zm x25_2 next1 s.1 s.2.1 s.2.2.1 s.2.2.2.1 s.2.2.2.2.1 s.2.2.2.2.2.1 s.2.2.2.2.2.2) (fun s t => [(0, pz pb0), (1, str t22), (24, i6 (t22.length : Int)), (25, i6 x25_2)]) (fun s t => [Jf pb0 [str s.1, .bool s.2.1, .slice t.1.1 t.2.1 t.1.2, .map (some t.2.2), i6 s.2.2.1, .func (.func 14) #[] #[x0_, x1_], i6 s.2.2.2.2.1] 88, J3 94 2 (.slice t.1.1 t.2.1 t.1.2) t.2.1 (s.2.2.2.2.2.1.map Jk), X8 i6 Value.bool t.2.2 s.2.2.2.2.2.2]) (fun s t => t.2.1 = s.2.2.2.2.2.1.length) ?_ ?_
    ·refine J0<|Jc<|Ja<|mv (i6 x25_2)<|ag (i6 x25_2)<|Jd<|Jc<|Ja<|mv (str t22)<|mv (i6 x25_2)<|?_
     obtain ⟨t30, h_t30, H34⟩ := Je H31; clear H31
     refine lv (Jcv Try.underlying9 rfl rfl h_t30)<|lv (Xe rfl rfl)<|Jd<|?_
     revert H34
     refine ci (decide (t30 = 0)) rfl (fun hb H35=>?_) fun hb H37=>?_
     ·refine Ja<|mv (pz pb0)<|?_
      obtain ⟨t33, h_t33, H36⟩ := Je H35; clear H35
      refine bo 1 2 rfl rfl<|bo 0 1 rfl rfl<|?_
      refine Qf (Jw (i := 0) (rds := []) rfl (fun w L' S hF hS hi hp hlt ho hA => k60c (a0 := (⟨m_6, m_7, l_2, mp_2, m_8, m_9, m_10⟩ : Tb)) hp hlt (Qb w S) hl_2 h_t33) Try.call60 rfl) rfl rfl rfl (fun ⟨p_7, p_8⟩ => ?_)
      refine ub 0 1 rfl rfl<|ub 1 2 rfl rfl<|Jd<|?_
      exact cl (t33.s_, t33.kab, t33.kad, t33.kac, t33.no_, t33.kaa, t33.kae) (p_7, t33.kaa.length, p_8) 0 [0, 1, 2] (by exact ⟨H36, rfl⟩)
     ·refine Jp ?_
      exact cl (m_6, m_7, m_8, m_9, m_10, l_2, mp_2) (p_5, n, b) 0 [0, 1, 2] (by exact ⟨H37, hl_2⟩)
    ·rintro ⟨m_11, m_12, m_13, m_14, m_15, l_3, mp_3⟩ ⟨p_6, n_2, b_2⟩ gg H32 hl_3
     try dsimp only at H32
     try dsimp only
     refine Ja ?_
     obtain ⟨t34, h_t34, H33⟩ := Je H32; clear H32
     refine lv (J4 rfl rfl h_t34)<|mv (i6 t34)<|Jd<|?_
     exact cl (t34, m_11, m_12, m_13, m_14, m_15, l_3, mp_3) (p_6, n_2, b_2) m1 [0, 1, 2] (by exact ⟨(by subst hn1; exact H33), hl_3⟩)
   ·refine Xy<|Jc<|?_
    try dsimp only [z1,z2,z5,z6,z7,z8]
    refine Ja<|mv (str t22)<|ag (str t22)<|Jd<|Jr<|?_
    obtain rfl := sj H38
    refine bo 1 2 rfl rfl<|bo 0 1 rfl rfl<|?_
    refine Jbw (v := str t22) rfl rfl (Y9 (p_5, b) (i := 0) rfl (by first | rfl | rw [(show n = l_2.length from hl_2)]) (by first | exact Imp.refl _ | exact Imp.of (by rw [(show n = l_2.length from hl_2)] <;> rfl)))
theorem k72c {x0_ x1_ : Value} {a0 : Tb} {pb0 : Nat} {p0_2 : AN} {n0_2 : Nat} {m0_3 : Nat} {a1 : Int} {a2 : Int} {a3 : Int} {r : Td × Tb} {w : World} {h : Jt} {S : Nat → Prop} (hcs : (Jv (Jf pb0 [str a0.s_, .bool a0.kab, sl p0_2 n0_2, .map (some m0_3), i6 a0.kad, .func (.func 14) #[] #[x0_, x1_], i6 a0.no_] 88) (Jv (J3 94 2 (sl p0_2 n0_2) n0_2 (a0.kaa.map Jk)) (X8 i6 Value.bool m0_3 a0.kae))).P S w) (hlt : ∀ b, S b → b < w.heap.size) (hw : Know h w S) (hn0_2 : n0_2 = a0.kaa.length) (H : Vo a0 a1 a2 a3 = some r) : Does prog 72 (List.toArray [pz pb0, i6 a1, i6 a2, i6 a3]) w (fun v w' => ∃ x : AN × AN × AN × AN × Nat, v = (.agg #[i6 r.1.kah, str r.1.kai, .slice x.1.1 r.1.kaj.length x.1.2, .slice x.2.1.1 r.1.kag.length x.2.1.2, .slice x.2.2.1.1 r.1.kaf.length x.2.2.1.2]) ∧ Turn w w' S (Jv (Jf pb0 [str r.2.s_, .bool r.2.kab, .slice x.2.2.2.1.1 r.2.kaa.length x.2.2.2.1.2, .map (some x.2.2.2.2), i6 r.2.kad, .func (.func 14) #[] #[x0_, x1_], i6 r.2.no_] 88) (Jv (J3 94 2 (.slice x.2.2.2.1.1 r.2.kaa.length x.2.2.2.1.2) r.2.kaa.length (r.2.kaa.map Jk)) (Jv (X8 i6 Value.bool x.2.2.2.2 r.2.kae) (Jv (J3 3 1 (.slice x.1.1 r.1.kaj.length x.1.2) r.1.kaj.length (r.1.kaj.map Qa)) (Jv (J3 46 2 (.slice x.2.1.1 r.1.kag.length x.2.1.2) r.1.kag.length (r.1.kag.map Jl)) (Vw 72 6 g_tag_Entry (.slice x.2.2.1.1 r.1.kaf.length x.2.2.1.2) r.1.kaf.length r.1.kaf))))))) := by
 refine enter (n := 131) func72 rfl rfl rfl S [Jv (Jf pb0 [str a0.s_, .bool a0.kab, sl p0_2 n0_2, .map (some m0_3), i6 a0.kad, .func (.func 14) #[] #[x0_, x1_], i6 a0.no_] 88) (Jv (J3 94 2 (sl p0_2 n0_2) n0_2 (a0.kaa.map Jk)) (X8 i6 Value.bool m0_3 a0.kae))] (Sat.one hcs hlt)<|Qj 0 rfl<|Qj 1 rfl<|X7 Xo<|Jc<|Ja<|?_
 refine Xw (cs := [i6 0, str [], z0s, z0s, z0s]) zeroValue26 rfl rfl rfl (fun b5 => ?_)
 refine Jd<|Jc<|Ja<|mv (i6 a2)<|mv (i6 a1)<|?_
 obtain ⟨t17, h_t17, H50⟩ := Je H; clear H
 refine Vb (k47 h_t17) call47 rfl rfl rfl ?_
 obtain ⟨t18, h_t18, H51⟩ := Je H50; clear H50
 refine lv (Vs rfl rfl h_t18)<|ag (i6 t18)<|Jd<|Jc<|Ja<|mv (i6 a3)<|ag (i6 a3)<|Jd<|?_
 refine Qx (r := r) (σ := Int × (List Tc)) (τ := AN × Nat) (fun s => Zk a0 a1 a2 t18 s.1 s.2) (fun s t => [(0, pz pb0), (1, i6 a1), (2, i6 a2), (8, pz b5), (9, i6 t18), (10, i6 s.1)]) (fun s t => [Jf pb0 [str a0.s_, .bool a0.kab, .slice t.1.1 t.2 t.1.2, .map (some m0_3), i6 a0.kad, .func (.func 14) #[] #[x0_, x1_], i6 a0.no_] 88, J3 94 2 (.slice t.1.1 t.2 t.1.2) t.2 (s.2.map Jk), X8 i6 Value.bool m0_3 a0.kae, Q3 Xo Xo, Jf b5 [i6 0, str [], z0s, z0s, z0s] 26]) (fun s t => t.2 = s.2.length) ?_ ?_
 ·refine Jc<|Ja<|mv (i6 t18)<|lv (V6 rfl rfl)<|Jd<|?_
  revert H51
  refine ci (decide (4 < t18)) rfl (fun hb H90=>?_) fun hb H98=>?_
  ·refine Jc<|Ja<|mv (pz pb0)<|mv (i6 a3)<|?_
   obtain ⟨t24, h_t24, H91⟩ := Je H90; clear H90
   refine Qg (fun w hF hS => k39c (a0 := a0) (Jm w) (Xq (i := 1) hn0_2 hS rfl) (Ye (fk := i6) (fv := Value.bool) (i := 2) hS rfl) (Qp (i := 0) hS rfl) h_t24) Try.call39 rfl rfl rfl<|ag (i6 t24)<|Jd<|Jc<|Jc<|Ja<|mv (pz pb0)<|mv (i6 t24)<|mv (i6 t18)<|?_
   obtain ⟨t28, h_t28, H92⟩ := Je H91; clear H91
   refine Qg (fun w hF hS => k59c (a0 := a0) (Jm w) (Xq (i := 1) hn0_2 hS rfl) (Ye (fk := i6) (fv := Value.bool) (i := 2) hS rfl) (Qp (i := 0) hS rfl) h_t28) call59 rfl rfl rfl<|lv (Ja6 rfl)<|Jd<|?_
   revert H92
   refine ci (!t28) rfl (fun hb H93=>?_) fun hb H95=>?_
   ·refine Jc<|Ja<|mv (pz pb0)<|?_
    obtain ⟨t31, h_t31, H94⟩ := Je H93; clear H93
    refine bo 1 2 rfl rfl<|bo 0 1 rfl rfl<|?_
    refine Qf (Jw (i := 0) (rds := []) rfl (fun w L' S hF hS hi hp hlt ho hA => k60c hp hlt (Qb w S) hn0_2 h_t31) Try.call60 rfl) rfl rfl rfl (fun ⟨p_11, p_12⟩ => ?_)
    refine ub 0 1 rfl rfl<|ub 1 2 rfl rfl<|Jd<|Jc<|?_
    try dsimp only [z1,z2,z5,z6,z7,z8]
    refine Ja<|lv (Xm (pl := #[(0, 1), (1, 1), (2, 1), (3, 1), (4, 1)]) (ps := []) (cells := #[i6 0, str [], z0s, z0s, z0s]) zeroValue26 Try.runUnderlying26 (fun w => by kernel_rfl) rfl rfl)<|st (i := 4) [i6 0, str [], z0s, z0s, z0s] [i6 0, str [], z0s, z0s, z0s] Try.sizeOf26 rfl rfl<|Jd<|Jr<|?_
    try dsimp only [z1, z2, z3, z4, z5, z6, z7, z8]
    refine J5 3 1<|J5 46 2<|J5 72 6<|?_
    try dsimp only [z1,z2,z5,z6,z7,z8]
    obtain rfl := sj H94
    refine bo 3 7 rfl rfl<|Xl 3 rfl (Zc (p := nn) rfl (AllC.nil (G := g_tag_Entry) (h := Xo) (sz := 6)))<|bo 6 3 rfl rfl<|bo 5 6 rfl rfl<|bo 2 5 rfl rfl<|bo 1 2 rfl rfl<|bo 0 1 rfl rfl<|?_
    refine retC (i := 4) (vs := [i6 0, str [], sl nn ([] : List Int).length, sl nn ([] : List Tf).length, sl nn (([] : List (List Value)).length)]) Try.isAgg26 Try.sizeOf26 rfl rfl rfl rfl (Y9 (nn, nn, nn, p_11, p_12) (i := 0) rfl (by first | rfl | rw [(show (([] : List (List Value)).length) = ([] : List Ta).length from (AllC.nil (G := g_tag_Entry) (h := Xo) (sz := 6)).len)]) (by first | exact Imp.refl _ | exact Imp.of (by rw [(show (([] : List (List Value)).length) = ([] : List Ta).length from (AllC.nil (G := g_tag_Entry) (h := Xo) (sz := 6)).len)] <;> rfl)))
   ·refine Jp ?_
    try dsimp only [z1,z2,z5,z6,z7,z8]
    refine Ja<|mv (pz pb0)<|mv (pz pb0)<|lv (Ji rfl)<|lf Try.runUnderlying88 rfl Try.sizeOf49 rfl<|ll 0 (sl p0_2 n0_2) isAgg49<|mv (i6 t24)<|mv (i6 t24)<|mv (i6 t18)<|?_
    obtain ⟨t41, h_t41, H96⟩ := Je H95; clear H95
    refine lv (J4 rfl rfl h_t41)<|lv (Xm (pl := #[(0, 1), (1, 1)]) (ps := [(0, i6 t24), (1, i6 t41)]) (cells := #[i6 t24, i6 t41]) zeroValue94 Try.runUnderlying94 (fun w => by kernel_rfl) rfl rfl)<|?_
    refine Qw (vs := [.agg #[i6 t24, i6 t41]]) (cs := [i6 t24, i6 t41]) Try.underlying49 sizeOf94 zeroValue94 rfl rfl rfl rfl rfl rfl rfl (fun b9 => ?_)
    obtain ⟨l44, h_l44, H97⟩ := Je H96; clear H96
    refine Qf (Ys (i := 1) (hn := hn0_2) (rds := [5]) (p := p0_2) (sz := 2) (by_ := 16) (f := Jk) (ys := a0.kaa) (ls := ([(⟨t24, t41⟩ : Tc)] : List Tc)) (V := .slice (some ⟨b9, 0, none⟩) 1 1) Try.underlying49 (Qu typeInfo94) rfl rfl rfl rfl rfl rfl rfl rfl rfl rfl (fun w L' hF hS hi => Z8 (i := 5) hS ((hi 5 (by simp)).trans rfl) rfl rfl) (fun _ => rfl) (fun _ => rfl) h_l44) rfl rfl rfl (fun p_13 => ?_)
    refine lv (Ji rfl)<|lf Try.runUnderlying88 rfl Try.sizeOf49 rfl<|st (i := 0) [sl p_13 l44.length] [str a0.s_, .bool a0.kab, sl p_13 l44.length, .map (some m0_3), i6 a0.kad, .func (.func 14) #[] #[x0_, x1_], i6 a0.no_] Try.sizeOf49 rfl rfl<|Jd<|?_
    exact cl (t24, l44) (p_13, l44.length) 0 [0, 1, 2, 3, 4] (by exact ⟨H97, rfl⟩)
  ·refine Jp ?_
   exact cl (a3, a0.kaa) (p0_2, n0_2) 0 [0, 1, 2, 3, 4] (by exact ⟨H98, hn0_2⟩)
 ·rintro ⟨x10, l⟩ ⟨p, n⟩ gg H52 hl
  try dsimp only at H52
  try dsimp only
  refine Jc<|Ja<|mv (i6 a1)<|lv (Xm (pl := #[(0, 1), (1, 1), (2, 1), (3, 1), (4, 1)]) (ps := [(0, i6 a1)]) (cells := #[i6 a1, str [], z0s, z0s, z0s]) zeroValue26 Try.runUnderlying26 (fun w => by kernel_rfl) rfl rfl)<|?_
  refine Xw (cs := [i6 0, str [], z0s, z0s, z0s]) zeroValue26 rfl rfl rfl (fun b6 => ?_)
  refine st (i := 5) [i6 a1, str [], z0s, z0s, z0s] [i6 a1, str [], z0s, z0s, z0s] Try.sizeOf26 rfl rfl<|Jd<|?_
  refine Qx (r := r) (σ := (List UInt8) × Bool × Int × Nat × Int × (List Tc) × (List (Int × Bool)) × (List UInt8) × (List Int) × (List Tf)) (τ := AN × Nat × Nat × AN × AN) (fun s => Zi a1 s.1 s.2.1 s.2.2.1 s.2.2.2.1 s.2.2.2.2.1 s.2.2.2.2.2.1 s.2.2.2.2.2.2.1 s.2.2.2.2.2.2.2.1 s.2.2.2.2.2.2.2.2.1 s.2.2.2.2.2.2.2.2.2) (fun s t => [(8, pz b5), (11, pz b6)]) (fun s t => [Jf pb0 [str s.1, .bool s.2.1, .slice t.1.1 t.2.1 t.1.2, .map (some t.2.2.1), i6 s.2.2.1, .func (.func 14) #[] #[x0_, x1_], i6 s.2.2.2.2.1] 88, J3 94 2 (.slice t.1.1 t.2.1 t.1.2) t.2.1 (s.2.2.2.2.2.1.map Jk), X8 i6 Value.bool t.2.2.1 s.2.2.2.2.2.2.1, Q3 Xo Xo, Jf b5 [i6 0, str [], z0s, z0s, z0s] 26, Jf b6 [i6 a1, str s.2.2.2.2.2.2.2.1, .slice t.2.2.2.1.1 s.2.2.2.2.2.2.2.2.1.length t.2.2.2.1.2, .slice t.2.2.2.2.1 s.2.2.2.2.2.2.2.2.2.length t.2.2.2.2.2, z0s] 26, J3 3 1 (.slice t.2.2.2.1.1 s.2.2.2.2.2.2.2.2.1.length t.2.2.2.1.2) s.2.2.2.2.2.2.2.2.1.length (s.2.2.2.2.2.2.2.2.1.map Qa), J3 46 2 (.slice t.2.2.2.2.1 s.2.2.2.2.2.2.2.2.2.length t.2.2.2.2.2) s.2.2.2.2.2.2.2.2.2.length (s.2.2.2.2.2.2.2.2.2.map Jl)]) (fun s t => t.2.1 = s.2.2.2.2.2.1.length) ?_ ?_
  ·refine J0<|Jc<|?_
   try dsimp only [z1,z2,z5,z6,z7,z8]
   refine Ja<|mv (i6 a1)<|lv (Xe rfl rfl)<|ag (.bool (decide (a1 = 2)))<|Jd<|?_
   revert H52
   refine ci (decide (a1 = 2)) rfl (fun hb H54=>?_) fun hb H58=>?_
   ·refine Ja<|mv (pz pb0)<|mv (pz pb0)<|lv (Ji rfl)<|lf Try.runUnderlying88 rfl Try.sizeOf9 rfl<|ll 0 (str a0.s_) Try.isAgg9<|mv (i6 x10)<|mv (i6 x10)<|mv (i6 t18)<|?_
    obtain ⟨t86, h_t86, H55⟩ := Je H54; clear H54
    refine lv (J4 rfl rfl h_t86) ?_
    obtain ⟨t87, h_t87, H56⟩ := Je H55; clear H55
    refine lv (Jhv Try.underlying9 rfl rfl rfl h_t87) ?_
    obtain ⟨t88, h_t88, H57⟩ := Je H56; clear H56
    refine bo 1 2 rfl rfl<|bo 0 1 rfl rfl<|?_
    refine Qf (Jw (i := 0) (rds := []) rfl (fun w L' S hF hS hi hp hlt ho hA => k86c (a0 := (⟨a0.s_, a0.kab, l, a0.kae, a0.kad, a0.kac, a0.no_⟩ : Tb)) hp hlt (Qb w S) hl h_t88) call86 rfl) rfl rfl rfl (fun ⟨p_5, p_6⟩ => ?_)
    refine ub 0 1 rfl rfl<|ub 1 2 rfl rfl<|lf Try.runUnderlying26 rfl Try.sizeOf9 rfl<|st (i := 5) [str t88.1] [i6 a1, str t88.1, z0s, z0s, z0s] Try.sizeOf9 rfl rfl<|Jd<|J5 3 1<|J5 46 2<|?_
    exact cl (t88.2.s_, t88.2.kab, t88.2.kad, t88.2.kac, t88.2.no_, t88.2.kaa, t88.2.kae, t88.1, ([] : List Int), ([] : List Tf)) (p_5, t88.2.kaa.length, p_6, nn, nn) 0 [0, 1, 2, 3, 4, 5, 6, 7] (by exact ⟨H57, rfl⟩)
   ·refine Jc ?_
    try dsimp only [z1,z2,z5,z6,z7,z8]
    refine Ja<|mv (i6 a1)<|lv (Xe rfl rfl)<|ag (.bool (decide (a1 = 7)))<|Jd<|?_
    revert H58
    refine ci (decide (a1 = 7)) rfl (fun hb H59=>?_) fun hb H62=>?_
    ·refine Ja<|mv (pz pb0)<|lv (Ji rfl)<|lf Try.runUnderlying88 rfl Try.sizeOf9 rfl<|ll 0 (str a0.s_) Try.isAgg9<|mv (i6 x10)<|mv (i6 x10)<|mv (i6 t18)<|?_
     obtain ⟨t100, h_t100, H60⟩ := Je H59; clear H59
     refine lv (J4 rfl rfl h_t100) ?_
     obtain ⟨t101, h_t101, H61⟩ := Je H60; clear H60
     refine lv (Jhv Try.underlying9 rfl rfl rfl h_t101)<|lf Try.runUnderlying26 rfl Try.sizeOf9 rfl<|st (i := 5) [str t101] [i6 a1, str t101, z0s, z0s, z0s] Try.sizeOf9 rfl rfl<|Jd<|J5 3 1<|J5 46 2<|?_
     exact cl (a0.s_, a0.kab, a0.kad, a0.kac, a0.no_, l, a0.kae, t101, ([] : List Int), ([] : List Tf)) (p, n, m0_3, nn, nn) 0 [0, 1, 2, 3, 4, 5, 6, 7] (by exact ⟨H61, hl⟩)
    ·refine Jc<|Ja<|mv (i6 a1)<|lv (Xe rfl rfl)<|ag (.bool (decide (a1 = 5)))<|Jd<|?_
     revert H62
     refine ci (decide (a1 = 5)) rfl (fun hb H63=>?_) fun hb H76=>?_
     ·refine Jc<|Ja<|mv (i6 a2)<|mv (i6 0)<|Jd<|J0<|J5 46 2<|?_
      refine Zz (σ := Int × (List Tf)) (τ := AN) (fun next3 s => Xt a0 a1 a2 x10 l next3 s.1 s.2) (fun s t => [(0, pz pb0), (8, pz b5), (10, i6 x10), (11, pz b6), (106, i6 a2), (107, i6 s.1)]) (fun s t => [Jf pb0 [str a0.s_, .bool a0.kab, sl p n, .map (some m0_3), i6 a0.kad, .func (.func 14) #[] #[x0_, x1_], i6 a0.no_] 88, J3 94 2 (sl p n) n (l.map Jk), X8 i6 Value.bool m0_3 a0.kae, Q3 Xo Xo, Jf b5 [i6 0, str [], z0s, z0s, z0s] 26, Jf b6 [i6 a1, str [], z0s, sl t s.2.length, z0s] 26, J3 46 2 (sl t s.2.length) s.2.length (s.2.map Jl)]) (fun s t => True) (0, ([] : List Tf)) nn [0, 1, 2, 3, 4, 5, 6] H63 (by exact trivial) (by exact ⟨rfl, rfl, rfl, rfl, rfl, rfl, trivial⟩) (by decide) rfl ?_
      rintro ⟨x107_2, l_6⟩ p_7 m3 gg H64 _
      clear H63
      try dsimp only at H64
      generalize hn3 : it (fun next3 s => Xt a0 a1 a2 x10 l next3 s.1 s.2) m3 = next3 at H64
      try dsimp only
      refine Jc<|Ja<|lv (Ym rfl rfl)<|Jd<|Jc<|?_
      revert H64
      refine ci (decide (x107_2 < a2)) rfl (fun hb H65=>?_) fun hb H75=>?_
      ·refine Jp<|Jc<|J0<|Jc<|Ja<|mv (i6 x107_2)<|ag (i6 x107_2)<|Jd<|?_
       exact Qc (Kd.p :: Kd.d [5] _ :: Kd.p :: Kd.p :: Kd.p :: Kd.p :: Kd.p :: Kd.d [3, 0, 1, 2] _ :: Kd.p :: Kd.p :: Kd.p :: Kd.p :: Kd.p :: Kd.p :: Kd.d [3, 0, 1, 2] _ :: Kd.p :: Kd.ns 7 [_, _] 46 1 :: Kd.t 6 [7] _ _ :: Kd.p :: Kd.sv 128 127 5 _ 26 :: []) 1 mixed (by
        refine dv (Qd Try.runUnderlying26 rfl Try.sizeOf23 rfl rfl)<|dl (sl p_7 l_6.length) isAgg23<|dm (pz pb0)<|dm (i6 x10)<|dm (i6 x107_2)<|?_
        have h_t115 := Jx H65
        have H66 := Jq H65
        refine dv (Vs rfl rfl h_t115) ?_
        have h_t116 := Jx H66
        have H67 := Jq H66
        refine dv (J4 rfl rfl h_t116) ?_
        have h_t117 := Jx H67
        have H68 := Jq H67
        refine Jam (fun w L' hF hS hi => k39c (a0 := (⟨a0.s_, a0.kab, l, a0.kae, a0.kad, a0.kac, a0.no_⟩ : Tb)) (Jm w) (Xq (i := 1) hl hS ((hi 1 (by simp)).trans rfl)) (Ye (fk := i6) (fv := Value.bool) (i := 2) hS ((hi 2 (by simp)).trans rfl)) (Qp (i := 0) hS ((hi 0 (by simp)).trans rfl)) h_t117) Try.call39 rfl rfl<|dm (pz pb0)<|dm (i6 x10)<|dm (i6 x107_2)<|?_
        have h_t121 := Jx H68
        have H69 := Jq H68
        refine dv (Vs rfl rfl h_t121) ?_
        have h_t122 := Jx H69
        have H70 := Jq H69
        refine dv (J4 rfl rfl h_t122) ?_
        have h_t123 := Jx H70
        have H71 := Jq H70
        refine dv (J4 rfl rfl h_t123) ?_
        have h_t124 := Jx H71
        have H72 := Jq H71
        refine Jam (fun w L' hF hS hi => k39c (a0 := (⟨a0.s_, a0.kab, l, a0.kae, a0.kad, a0.kac, a0.no_⟩ : Tb)) (Jm w) (Xq (i := 1) hl hS ((hi 1 (by simp)).trans rfl)) (Ye (fk := i6) (fv := Value.bool) (i := 2) hS ((hi 2 (by simp)).trans rfl)) (Qp (i := 0) hS ((hi 0 (by simp)).trans rfl)) h_t124) Try.call39 rfl rfl<|dv (Xm (pl := #[(0, 1), (1, 1)]) (ps := [(0, i6 (val (Jg (⟨a0.s_, a0.kab, l, a0.kae, a0.kad, a0.kac, a0.no_⟩ : Tb) (val (gI (x10 + (val (gI (8 * x107_2)))))) 4))), (1, i6 (val (Jg (⟨a0.s_, a0.kab, l, a0.kae, a0.kad, a0.kac, a0.no_⟩ : Tb) (val (gI ((val (gI (x10 + (val (gI (8 * x107_2)))))) + 4))) 4)))]) (cells := #[i6 (val (Jg (⟨a0.s_, a0.kab, l, a0.kae, a0.kad, a0.kac, a0.no_⟩ : Tb) (val (gI (x10 + (val (gI (8 * x107_2)))))) 4)), i6 (val (Jg (⟨a0.s_, a0.kab, l, a0.kae, a0.kad, a0.kac, a0.no_⟩ : Tb) (val (gI ((val (gI (x10 + (val (gI (8 * x107_2)))))) + 4))) 4))]) zeroValue46 Try.runUnderlying46 (fun w => by kernel_rfl) rfl rfl)<|?_
        refine Jfz rfl rfl (Zd (vs := [.agg #[i6 (val (Jg (⟨a0.s_, a0.kab, l, a0.kae, a0.kad, a0.kac, a0.no_⟩ : Tb) (val (gI (x10 + (val (gI (8 * x107_2)))))) 4)), i6 (val (Jg (⟨a0.s_, a0.kab, l, a0.kae, a0.kad, a0.kac, a0.no_⟩ : Tb) (val (gI ((val (gI (x10 + (val (gI (8 * x107_2)))))) + 4))) 4))]]) (cs := [i6 (val (Jg (⟨a0.s_, a0.kab, l, a0.kae, a0.kad, a0.kac, a0.no_⟩ : Tb) (val (gI (x10 + (val (gI (8 * x107_2)))))) 4)), i6 (val (Jg (⟨a0.s_, a0.kab, l, a0.kae, a0.kad, a0.kac, a0.no_⟩ : Tb) (val (gI ((val (gI (x10 + (val (gI (8 * x107_2)))))) + 4))) 4))]) Try.underlying23 Try.sizeOf46 zeroValue46 rfl rfl rfl rfl rfl) rfl (fun b7 => ?_)
        have h_l127 := Jx H72
        have H73 := Jq H72
        refine U8 (Cv := fun v => J3 46 2 v (val (Xd 16 l_6 ([(⟨(val (Jg (⟨a0.s_, a0.kab, l, a0.kae, a0.kad, a0.kac, a0.no_⟩ : Tb) (val (gI (x10 + (val (gI (8 * x107_2)))))) 4)), (val (Jg (⟨a0.s_, a0.kab, l, a0.kae, a0.kad, a0.kac, a0.no_⟩ : Tb) (val (gI ((val (gI (x10 + (val (gI (8 * x107_2)))))) + 4))) 4))⟩ : Tf)] : List Tf))).length ((val (Xd 16 l_6 ([(⟨(val (Jg (⟨a0.s_, a0.kab, l, a0.kae, a0.kad, a0.kac, a0.no_⟩ : Tb) (val (gI (x10 + (val (gI (8 * x107_2)))))) 4)), (val (Jg (⟨a0.s_, a0.kab, l, a0.kae, a0.kad, a0.kac, a0.no_⟩ : Tb) (val (gI ((val (gI (x10 + (val (gI (8 * x107_2)))))) + 4))) 4))⟩ : Tf)] : List Tf))).map Jl)) (none, 0) (Ys (i := 6) (hn := rfl) (rds := [7]) (p := p_7) (sz := 2) (by_ := 16) (f := Jl) (ys := l_6) (ls := ([(⟨(val (Jg (⟨a0.s_, a0.kab, l, a0.kae, a0.kad, a0.kac, a0.no_⟩ : Tb) (val (gI (x10 + (val (gI (8 * x107_2)))))) 4)), (val (Jg (⟨a0.s_, a0.kab, l, a0.kae, a0.kad, a0.kac, a0.no_⟩ : Tb) (val (gI ((val (gI (x10 + (val (gI (8 * x107_2)))))) + 4))) 4))⟩ : Tf)] : List Tf)) (V := .slice (some ⟨b7, 0, none⟩) 1 1) Try.underlying23 (Qu typeInfo46) rfl rfl rfl rfl rfl rfl rfl rfl rfl rfl (fun w L' hF hS hi => Z8 (i := 7) hS ((hi 7 (by simp)).trans rfl) rfl rfl) (fun _ => rfl) (fun _ => rfl) h_l127) (fun _ => rfl) rfl rfl (fun p_8 => ?_)
        refine dv (Qd Try.runUnderlying26 rfl Try.sizeOf23 rfl rfl)<|Vx (i := 5) (vs := [.slice p_8.1 (val (Xd 16 l_6 ([(⟨(val (Jg (⟨a0.s_, a0.kab, l, a0.kae, a0.kad, a0.kac, a0.no_⟩ : Tb) (val (gI (x10 + (val (gI (8 * x107_2)))))) 4)), (val (Jg (⟨a0.s_, a0.kab, l, a0.kae, a0.kad, a0.kac, a0.no_⟩ : Tb) (val (gI ((val (gI (x10 + (val (gI (8 * x107_2)))))) + 4))) 4))⟩ : Tf)] : List Tf))).length p_8.2]) (cs' := fun v_ => [i6 a1, str [], z0s, v_, z0s]) Try.sizeOf23 rfl rfl rfl rfl rfl rfl rfl rfl rfl<|X2<|Ja<|?_
        obtain ⟨t129, h_t129, H74⟩ := Je H73; clear H73
        refine lv (J4 rfl rfl h_t129)<|mv (i6 t129)<|Jd<|?_
        exact cl (t129, (val (Xd 16 l_6 ([(⟨(val (Jg (⟨a0.s_, a0.kab, l, a0.kae, a0.kad, a0.kac, a0.no_⟩ : Tb) (val (gI (x10 + (val (gI (8 * x107_2)))))) 4)), (val (Jg (⟨a0.s_, a0.kab, l, a0.kae, a0.kad, a0.kac, a0.no_⟩ : Tb) (val (gI ((val (gI (x10 + (val (gI (8 * x107_2)))))) + 4))) 4))⟩ : Tf)] : List Tf)))) p_8 m3 [0, 1, 2, 3, 4, 5, 6] (by exact ⟨(by subst hn3; exact H74), trivial⟩)
        ) (by kernel_rfl)
      ·refine Xy<|J5 3 1<|?_
       exact cl (a0.s_, a0.kab, a0.kad, a0.kac, a0.no_, l, a0.kae, [], ([] : List Int), l_6) (p, n, m0_3, nn, p_7) 0 [0, 1, 2, 3, 4, 5, 7, 6] (by exact ⟨H75, hl⟩)
     ·refine Jc<|Ja<|mv (i6 a2)<|mv (i6 0)<|Jd<|J0<|J5 3 1<|?_
      refine Zz (σ := Int × (List Int)) (τ := AN) (fun next4 s => Xu a0 a1 a2 x10 l next4 s.1 s.2) (fun s t => [(0, pz pb0), (1, i6 a1), (8, pz b5), (10, i6 x10), (11, pz b6), (49, i6 a2), (50, i6 s.1)]) (fun s t => [Jf pb0 [str a0.s_, .bool a0.kab, sl p n, .map (some m0_3), i6 a0.kad, .func (.func 14) #[] #[x0_, x1_], i6 a0.no_] 88, J3 94 2 (sl p n) n (l.map Jk), X8 i6 Value.bool m0_3 a0.kae, Q3 Xo Xo, Jf b5 [i6 0, str [], z0s, z0s, z0s] 26, Jf b6 [i6 a1, str [], sl t s.2.length, z0s, z0s] 26, J3 3 1 (sl t s.2.length) s.2.length (s.2.map Qa)]) (fun s t => True) (0, ([] : List Int)) nn [0, 1, 2, 3, 4, 5, 6] H76 (by exact trivial) (by exact ⟨rfl, rfl, rfl, rfl, rfl, rfl, rfl, trivial⟩) (by decide) rfl ?_
      rintro ⟨x50_2, l_8⟩ p_9 m4 gg H77 _
      clear H76
      try dsimp only at H77
      generalize hn4 : it (fun next4 s => Xu a0 a1 a2 x10 l next4 s.1 s.2) m4 = next4 at H77
      try dsimp only
      refine Jc ?_
      try dsimp only [z1,z2,z5,z6,z7,z8]
      refine Ja<|lv (Ym rfl rfl)<|Jd<|Jc<|?_
      revert H77
      refine ci (decide (x50_2 < a2)) rfl (fun hb H78=>?_) fun hb H89=>?_
      ·refine Jp<|Jc<|J0<|Jc<|Ja<|mv (i6 x50_2)<|ag (i6 x50_2)<|Jd<|Jc<|Ja<|mv (pz pb0)<|mv (i6 x10)<|mv (i6 x50_2)<|mv (i6 a1)<|?_
       obtain ⟨t57, h_t57, H79⟩ := Je H78; clear H78
       refine Vb (k47 h_t57) call47 rfl rfl rfl ?_
       obtain ⟨t58, h_t58, H80⟩ := Je H79; clear H79
       refine lv (Vs rfl rfl h_t58) ?_
       obtain ⟨t59, h_t59, H81⟩ := Je H80; clear H80
       refine lv (J4 rfl rfl h_t59)<|mv (i6 a1)<|?_
       obtain ⟨t61, h_t61, H82⟩ := Je H81; clear H81
       refine Vb (k47 h_t61) call47 rfl rfl rfl ?_
       obtain ⟨t62, h_t62, H83⟩ := Je H82; clear H82
       refine Qg (fun w hF hS => k39c (a0 := (⟨a0.s_, a0.kab, l, a0.kae, a0.kad, a0.kac, a0.no_⟩ : Tb)) (Jm w) (Xq (i := 1) hl hS rfl) (Ye (fk := i6) (fv := Value.bool) (i := 2) hS rfl) (Qp (i := 0) hS rfl) h_t62) Try.call39 rfl rfl rfl<|ag (i6 t62)<|Jd<|?_
       refine Qx (r := r) (σ := Int) (τ := Unit) (fun s => Zo x50_2 l_8 next4 s) (fun s t => [(0, pz pb0), (1, i6 a1), (8, pz b5), (10, i6 x10), (11, pz b6), (14, i6 s), (49, i6 a2), (50, i6 x50_2)]) (fun s t => [Jf pb0 [str a0.s_, .bool a0.kab, sl p n, .map (some m0_3), i6 a0.kad, .func (.func 14) #[] #[x0_, x1_], i6 a0.no_] 88, J3 94 2 (sl p n) n (l.map Jk), X8 i6 Value.bool m0_3 a0.kae, Q3 Xo Xo, Jf b5 [i6 0, str [], z0s, z0s, z0s] 26, Jf b6 [i6 a1, str [], sl p_9 l_8.length, z0s, z0s] 26, J3 3 1 (sl p_9 l_8.length) l_8.length (l_8.map Qa)]) (fun s t => True) ?_ ?_
       ·refine Jc<|Ja<|mv (i6 a1)<|lv (Xe rfl rfl)<|Jd<|?_
        revert H83
        refine ci (decide (a1 = 9)) rfl (fun hb H87=>?_) fun hb H88=>?_
        ·refine Ja<|mv (i6 t62)<|lv (Jco Try.runUnderlying3 runUnderlying21 rfl (wr_i32 _))<|lv (Jco runUnderlying21 Try.runUnderlying3 rfl (wr_i64 _))<|ag (i6 (U6 (wI32 t62)))<|Jd<|?_
         exact cl (U6 (wI32 t62)) () 0 [0, 1, 2, 3, 4, 5, 6] (by exact ⟨H87, trivial⟩)
        ·refine Jp ?_
         exact cl t62 () 0 [0, 1, 2, 3, 4, 5, 6] (by exact ⟨H88, trivial⟩)
       ·rintro x14 _ gg H84 _
        try dsimp only at H84
        try dsimp only
        refine Ja<|lf Try.runUnderlying26 rfl Try.sizeOf22 rfl<|ll 5 (sl p_9 l_8.length) isAgg22<|mv (i6 x14)<|?_
        refine Qw (vs := [i6 x14]) (cs := [i6 x14]) Try.underlying22 Try.sizeOf3 zeroValue3 rfl rfl rfl rfl rfl rfl rfl (fun b8 => ?_)
        obtain ⟨l72, h_l72, H85⟩ := Je H84; clear H84
        refine Qf (Ys (i := 6) (hn := rfl) (rds := [7]) (p := p_9) (sz := 1) (by_ := 8) (f := Qa) (ys := l_8) (ls := ([x14] : List Int)) (V := .slice (some ⟨b8, 0, none⟩) 1 1) Try.underlying22 (Qu typeInfo3) rfl rfl rfl rfl rfl rfl rfl rfl rfl rfl (fun w L' hF hS hi => Z8 (i := 7) hS ((hi 7 (by simp)).trans rfl) rfl rfl) (fun _ => rfl) (fun _ => rfl) h_l72) rfl rfl rfl (fun p_10 => ?_)
        refine lf Try.runUnderlying26 rfl Try.sizeOf22 rfl<|st (i := 5) [sl p_10 l72.length] [i6 a1, str [], sl p_10 l72.length, z0s, z0s] Try.sizeOf22 rfl rfl<|Jd<|Ja<|?_
        obtain ⟨t74, h_t74, H86⟩ := Je H85; clear H85
        refine lv (J4 rfl rfl h_t74)<|mv (i6 t74)<|Jd<|?_
        exact cl (t74, l72) p_10 m4 [0, 1, 2, 3, 4, 5, 6] (by exact ⟨(by subst hn4; exact H86), trivial⟩)
      ·refine Xy<|J5 46 2<|?_
       exact cl (a0.s_, a0.kab, a0.kad, a0.kac, a0.no_, l, a0.kae, [], l_8, ([] : List Tf)) (p, n, m0_3, p_9, nn) 0 [0, 1, 2, 3, 4, 5, 6, 7] (by exact ⟨H89, hl⟩)
  ·rintro ⟨m, m_2, m_3, m_4, m_5, l_2, mp, m_6, l_3, l_4⟩ ⟨p_2, n_2, b, p_3, p_4⟩ gg H53 hl_2
   try dsimp only at H53
   try dsimp only
   refine Jc ?_
   try dsimp only [z1,z2,z5,z6,z7,z8]
   refine Ja<|Q1 (i := 5) (vs := [i6 a1, str m_6, sl p_3 l_3.length, sl p_4 l_4.length, z0s]) Try.isAgg26 Try.sizeOf26 rfl rfl rfl rfl rfl<|st (i := 4) [i6 a1, str m_6, sl p_3 l_3.length, sl p_4 l_4.length, z0s] [i6 a1, str m_6, sl p_3 l_3.length, sl p_4 l_4.length, z0s] Try.sizeOf26 rfl rfl<|Jd<|Jr<|Jce 5<|?_
   try dsimp only [z1, z2, z3, z4, z5, z6, z7, z8]
   refine J5 72 6 ?_
   obtain rfl := sj H53
   refine bo 3 7 rfl rfl<|Xl 3 rfl (Zc (p := nn) rfl (AllC.nil (G := g_tag_Entry) (h := Xo) (sz := 6)))<|bo 6 3 rfl rfl<|bo 5 6 rfl rfl<|bo 2 5 rfl rfl<|bo 1 2 rfl rfl<|bo 0 1 rfl rfl<|?_
   refine retC (i := 4) (vs := [i6 a1, str m_6, sl p_3 l_3.length, sl p_4 l_4.length, sl nn (([] : List (List Value)).length)]) Try.isAgg26 Try.sizeOf26 rfl rfl rfl rfl (Y9 (p_3, p_4, nn, p_2, b) (i := 0) rfl (by first | rfl | rw [(show (([] : List (List Value)).length) = ([] : List Ta).length from (AllC.nil (G := g_tag_Entry) (h := Xo) (sz := 6)).len), (show n_2 = l_2.length from hl_2)]) (by first | exact Imp.refl _ | exact Imp.of (by rw [(show (([] : List (List Value)).length) = ([] : List Ta).length from (AllC.nil (G := g_tag_Entry) (h := Xo) (sz := 6)).len), (show n_2 = l_2.length from hl_2)] <;> rfl)))
theorem k61c_b {self : ((List Int) × Int × Tb × Int × (List Int)) → Option ((List Ta) × Int × Int × Tb)} (ih : ∀ {q0 : (List Int)} {vq0 : Value} {c0 : Nat} {q1 : Int} {pbq1 : Nat} {a0 : Tb} {pb0 : Nat} {p0_2 : AN} {n0_2 : Nat} {m0_3 : Nat} {a1 : Int} {a2 : (List Int)} {v2 : Value} {r : (List Ta) × Int × Int × Tb} {w : World} {h : Jt} {S : Nat → Prop} (hcs : (Jv (Jf pbq1 [i6 q1] 3) (Jv (Jf pb0 [str a0.s_, .bool a0.kab, sl p0_2 n0_2, .map (some m0_3), i6 a0.kad, .func (.func 14) #[] #[pz c0, pz pbq1], i6 a0.no_] 88) (Jv (J3 94 2 (sl p0_2 n0_2) n0_2 (a0.kaa.map Jk)) (X8 i6 Value.bool m0_3 a0.kae)))).P S w) (hlt : ∀ b, S b → b < w.heap.size) (hw : Know h w S) (fq0 : FrS h 1 vq0 (q0.map Qa)) (hc0 : h c0 = some (.cells (List.toArray [vq0]) 22 (0, 0))) (hn0_2 : n0_2 = a0.kaa.length) (f2 : FrS h 1 v2 (a2.map Qa)) (_ : self (q0, q1, a0, a1, a2) = some r), Does prog 40 (List.toArray [pz pb0, i6 a1, v2]) w (fun v w' => ∃ x : AN × AN × Nat, v = (.tuple #[.slice x.1.1 r.1.length x.1.2, i6 r.2.1]) ∧ Turn w w' S (Jv (Jf pbq1 [i6 r.2.2.1] 3) (Jv (Jf pb0 [str r.2.2.2.s_, .bool r.2.2.2.kab, .slice x.2.1.1 r.2.2.2.kaa.length x.2.1.2, .map (some x.2.2), i6 r.2.2.2.kad, .func (.func 14) #[] #[pz c0, pz pbq1], i6 r.2.2.2.no_] 88) (Jv (J3 94 2 (.slice x.2.1.1 r.2.2.2.kaa.length x.2.1.2) r.2.2.2.kaa.length (r.2.2.2.kaa.map Jk)) (Jv (X8 i6 Value.bool x.2.2 r.2.2.2.kae) (Vw 72 6 g_tag_Entry (.slice x.1.1 r.1.length x.1.2) r.1.length r.1))))))) {q0 : (List Int)} {vq0 : Value} {c0 : Nat} {q1 : Int} {pbq1 : Nat} {a0 : Tb} {pb0 : Nat} {p0_2 : AN} {n0_2 : Nat} {m0_3 : Nat} {a1 : Int} {a2 : (List Int)} {v2 : Value} {r : Ta × Int × Tb} {w : World} {h : Jt} {S : Nat → Prop} (hcs : (Jv (Jf pbq1 [i6 q1] 3) (Jv (Jf pb0 [str a0.s_, .bool a0.kab, sl p0_2 n0_2, .map (some m0_3), i6 a0.kad, .func (.func 14) #[] #[pz c0, pz pbq1], i6 a0.no_] 88) (Jv (J3 94 2 (sl p0_2 n0_2) n0_2 (a0.kaa.map Jk)) (X8 i6 Value.bool m0_3 a0.kae)))).P S w) (hlt : ∀ b, S b → b < w.heap.size) (hw : Know h w S) (fq0 : FrS h 1 vq0 (q0.map Qa)) (hc0 : h c0 = some (.cells (List.toArray [vq0]) 22 (0, 0))) (hn0_2 : n0_2 = a0.kaa.length) (f2 : FrS h 1 v2 (a2.map Qa)) (H : Xc self q0 q1 a0 a1 a2 = some r) : Does prog 61 (List.toArray [pz pb0, i6 a1, v2]) w (fun v w' => ∃ x : AN × AN × AN × AN × Nat, v = (.agg #[i6 r.1.Tag, i6 r.1.Value.kah, str r.1.Value.kai, .slice x.1.1 r.1.Value.kaj.length x.1.2, .slice x.2.1.1 r.1.Value.kag.length x.2.1.2, .slice x.2.2.1.1 r.1.Value.kaf.length x.2.2.1.2]) ∧ Turn w w' S (Jv (Jf pbq1 [i6 r.2.1] 3) (Jv (Jf pb0 [str r.2.2.s_, .bool r.2.2.kab, .slice x.2.2.2.1.1 r.2.2.kaa.length x.2.2.2.1.2, .map (some x.2.2.2.2), i6 r.2.2.kad, .func (.func 14) #[] #[pz c0, pz pbq1], i6 r.2.2.no_] 88) (Jv (J3 94 2 (.slice x.2.2.2.1.1 r.2.2.kaa.length x.2.2.2.1.2) r.2.2.kaa.length (r.2.2.kaa.map Jk)) (Jv (X8 i6 Value.bool x.2.2.2.2 r.2.2.kae) (Jv (J3 3 1 (.slice x.1.1 r.1.Value.kaj.length x.1.2) r.1.Value.kaj.length (r.1.Value.kaj.map Qa)) (Jv (J3 46 2 (.slice x.2.1.1 r.1.Value.kag.length x.2.1.2) r.1.Value.kag.length (r.1.Value.kag.map Jl)) (Vw 72 6 g_tag_Entry (.slice x.2.2.1.1 r.1.Value.kaf.length x.2.2.1.2) r.1.Value.kaf.length r.1.Value.kaf)))))))) := by
 refine enter (n := 76) func61 rfl rfl rfl S [Jv (Jf pbq1 [i6 q1] 3) (Jv (Jf pb0 [str a0.s_, .bool a0.kab, sl p0_2 n0_2, .map (some m0_3), i6 a0.kad, .func (.func 14) #[] #[pz c0, pz pbq1], i6 a0.no_] 88) (Jv (J3 94 2 (sl p0_2 n0_2) n0_2 (a0.kaa.map Jk)) (X8 i6 Value.bool m0_3 a0.kae)))] (Sat.one hcs hlt)<|Qj 0 rfl<|Qj 1 rfl<|Qj 2 rfl<|X7 Xo<|Jc<|Ja<|?_
 refine Xw (cs := [i6 0, i6 0, str [], z0s, z0s, z0s]) zeroValue72 rfl rfl rfl (fun b3 => ?_)
 refine Jd<|Jc<|Ja<|mv (pz pb0)<|mv (i6 a1)<|?_
 obtain ⟨t13, h_t13, H27⟩ := Je H; clear H
 refine Qg (fun w hF hS => k39c (a0 := a0) (Jm w) (Xq (i := 2) hn0_2 hS rfl) (Ye (fk := i6) (fv := Value.bool) (i := 3) hS rfl) (Qp (i := 1) hS rfl) h_t13) Try.call39 rfl rfl rfl<|mv (pz pb0)<|mv (i6 a1)<|?_
 obtain ⟨t16, h_t16, H28⟩ := Je H27; clear H27
 refine lv (J4 rfl rfl h_t16) ?_
 obtain ⟨t17, h_t17, H29⟩ := Je H28; clear H28
 refine Qg (fun w hF hS => k39c (a0 := a0) (Jm w) (Xq (i := 2) hn0_2 hS rfl) (Ye (fk := i6) (fv := Value.bool) (i := 3) hS rfl) (Qp (i := 1) hS rfl) h_t17) Try.call39 rfl rfl rfl<|mv (pz pb0)<|mv (i6 a1)<|?_
 obtain ⟨t20, h_t20, H30⟩ := Je H29; clear H29
 refine lv (J4 rfl rfl h_t20) ?_
 obtain ⟨t21, h_t21, H31⟩ := Je H30; clear H30
 refine Qg (fun w hF hS => k39c (a0 := a0) (Jm w) (Xq (i := 2) hn0_2 hS rfl) (Ye (fk := i6) (fv := Value.bool) (i := 3) hS rfl) (Qp (i := 1) hS rfl) h_t21) Try.call39 rfl rfl rfl<|ag (i6 t13)<|ag (i6 t17)<|ag (i6 t21)<|Jd<|Jc<|Ja<|mv v2<|?_
 obtain ⟨t23, h_t23, H32⟩ := Je H31; clear H31
 refine Za (Qs (rds := []) (fun w L' hF hS hi => k35 (Jm w) (f2.mono (hw.now hF)) h_t23) call35 rfl) rfl rfl rfl (fun p => ?_)
 refine mv (i6 t13) ?_
 refine Qw (vs := [i6 t13]) (cs := [i6 t13]) Try.underlying22 Try.sizeOf3 zeroValue3 rfl rfl rfl rfl rfl rfl rfl (fun b4 => ?_)
 obtain ⟨l26, h_l26, H33⟩ := Je H32; clear H32
 refine Qf (Ys (i := 6) (hn := rfl) (rds := [7]) (p := p) (sz := 1) (by_ := 8) (f := Qa) (ys := t23) (ls := ([t13] : List Int)) (V := .slice (some ⟨b4, 0, none⟩) 1 1) Try.underlying22 (Qu typeInfo3) rfl rfl rfl rfl rfl rfl rfl rfl rfl rfl (fun w L' hF hS hi => Z8 (i := 7) hS ((hi 7 (by simp)).trans rfl) rfl rfl) (fun _ => rfl) (fun _ => rfl) h_l26) rfl rfl rfl (fun p_2 => ?_)
 refine ag (sl p_2 l26.length)<|Jd<|Jc<|?_
 try dsimp only [z1,z2,z5,z6,z7,z8]
 refine Ja<|mv (pz pb0)<|lv (Ji rfl)<|lf Try.runUnderlying88 rfl sizeOf52 rfl<|ll 1 (.func (.func 14) #[] #[pz c0, pz pbq1]) isAgg52<|mv (sl p_2 l26.length)<|mv (i6 a1)<|?_
 obtain ⟨t33, h_t33, H34⟩ := Je H33; clear H33
 refine Qf (Jb0 (caps := #[pz c0, pz pbq1]) (args := [sl p_2 l26.length, i6 a1]) (i := 0) (rds := [6]) (G := fun x : Unit => .tuple #[]) (C := fun x : Unit => Jf pbq1 [i6 t33] 3) rfl (fun w L' S hF hS hi hp hlt ho hA => k14 hp hlt (Qb w S) (fq0.mono (hw.but hF ho)) (hw.but hF ho _ _ hc0) (Jdj (j := 6) rfl hA hS (by decide) ((hi 6 (by simp)).trans rfl)) h_t33) call14 rfl rfl) rfl rfl rfl (fun _ => ?_)
 refine Jd<|Jc<|Ja<|mv (i6 t13)<|mv (i6 t17)<|lv (Xm (pl := #[(0, 1), (1, 1), (2, 1), (3, 1), (4, 1)]) (ps := [(0, i6 t17)]) (cells := #[i6 t17, str [], z0s, z0s, z0s]) zeroValue26 Try.runUnderlying26 (fun w => by kernel_rfl) rfl rfl)<|lv (Xm (pl := #[(0, 1), (1, 5)]) (ps := [(0, i6 t13), (1, .agg #[i6 t17, str [], z0s, z0s, z0s])]) (cells := #[i6 t13, i6 t17, str [], z0s, z0s, z0s]) zeroValue72 Try.runUnderlying72 (fun w => by kernel_rfl) rfl (by kernel_rfl))<|?_
 refine Xw (cs := [i6 0, i6 0, str [], z0s, z0s, z0s]) zeroValue72 rfl rfl rfl (fun b5 => ?_)
 refine st (i := 8) [i6 t13, i6 t17, str [], z0s, z0s, z0s] [i6 t13, i6 t17, str [], z0s, z0s, z0s] Try.sizeOf72 rfl rfl<|Jd<|?_
 refine Qx (r := r) (σ := Int × (List UInt8) × Bool × Int × Nat × Int × (List Tc) × (List (Int × Bool)) × Int × (List UInt8) × (List Int) × (List Tf) × (List Ta)) (τ := AN × Nat × AN × AN × AN) (fun s => Y5 t13 s.1 s.2.1 s.2.2.1 s.2.2.2.1 s.2.2.2.2.1 s.2.2.2.2.2.1 s.2.2.2.2.2.2.1 s.2.2.2.2.2.2.2.1 s.2.2.2.2.2.2.2.2.1 s.2.2.2.2.2.2.2.2.2.1 s.2.2.2.2.2.2.2.2.2.2.1 s.2.2.2.2.2.2.2.2.2.2.2.1 s.2.2.2.2.2.2.2.2.2.2.2.2) (fun s t => [(6, pz b3), (10, pz b5)]) (fun s t => [Jf pbq1 [i6 s.1] 3, Jf pb0 [str s.2.1, .bool s.2.2.1, .slice t.1.1 s.2.2.2.2.2.2.1.length t.1.2, .map (some t.2.1), i6 s.2.2.2.1, .func (.func 14) #[] #[pz c0, pz pbq1], i6 s.2.2.2.2.2.1] 88, J3 94 2 (.slice t.1.1 s.2.2.2.2.2.2.1.length t.1.2) s.2.2.2.2.2.2.1.length (s.2.2.2.2.2.2.1.map Jk), X8 i6 Value.bool t.2.1 s.2.2.2.2.2.2.2.1, Q3 Xo Xo, Jf b3 [i6 0, i6 0, str [], z0s, z0s, z0s] 72, Jf b5 [i6 t13, i6 s.2.2.2.2.2.2.2.2.1, str s.2.2.2.2.2.2.2.2.2.1, .slice t.2.2.1.1 s.2.2.2.2.2.2.2.2.2.2.1.length t.2.2.1.2, .slice t.2.2.2.1.1 s.2.2.2.2.2.2.2.2.2.2.2.1.length t.2.2.2.1.2, .slice t.2.2.2.2.1 s.2.2.2.2.2.2.2.2.2.2.2.2.length t.2.2.2.2.2] 72, J3 3 1 (.slice t.2.2.1.1 s.2.2.2.2.2.2.2.2.2.2.1.length t.2.2.1.2) s.2.2.2.2.2.2.2.2.2.2.1.length (s.2.2.2.2.2.2.2.2.2.2.1.map Qa), J3 46 2 (.slice t.2.2.2.1.1 s.2.2.2.2.2.2.2.2.2.2.2.1.length t.2.2.2.1.2) s.2.2.2.2.2.2.2.2.2.2.2.1.length (s.2.2.2.2.2.2.2.2.2.2.2.1.map Jl), Vw 72 6 g_tag_Entry (.slice t.2.2.2.2.1 s.2.2.2.2.2.2.2.2.2.2.2.2.length t.2.2.2.2.2) s.2.2.2.2.2.2.2.2.2.2.2.2.length s.2.2.2.2.2.2.2.2.2.2.2.2]) (fun s t => True) ?_ ?_
 ·refine J0<|Jc<|?_
  try dsimp only [z1,z2,z5,z6,z7,z8]
  refine Ja<|mv (i6 t17)<|?_
  obtain ⟨t47, h_t47, H36⟩ := Je H34; clear H34
  refine Vb (k47 h_t47) call47 rfl rfl rfl<|lv (Xe rfl rfl)<|ag (.bool (decide (t47 = 0)))<|Jd<|?_
  revert H36
  refine ci (decide (t47 = 0)) rfl (fun hb H37=>?_) fun hb H39=>?_
  ·refine Ja<|mv (pz pb0)<|?_
   obtain ⟨t50, h_t50, H38⟩ := Je H37; clear H37
   refine bo 2 3 rfl rfl<|bo 1 2 rfl rfl<|?_
   refine Qf (Jw (i := 1) (rds := []) rfl (fun w L' S hF hS hi hp hlt ho hA => k60c hp hlt (Qb w S) hn0_2 h_t50) Try.call60 rfl) rfl rfl rfl (fun ⟨p_7, p_8⟩ => ?_)
   refine ub 1 2 rfl rfl<|ub 2 3 rfl rfl<|Jd<|J5 3 1<|J5 46 2<|J5 72 6<|X7 Xo<|?_
   try dsimp only [z1,z2,z5,z6,z7,z8]
   refine bo 12 11 rfl rfl ?_
   try dsimp only [z1,z2,z5,z6,z7,z8]
   refine Xl 12 rfl (U1 (css := []) (xs := ([] : List Ta)) (p := nn) rfl (AllC.nil (G := g_tag_Entry) (h := Xo) (sz := 6))) ?_
   exact cl (t33, t50.s_, t50.kab, t50.kad, t50.kac, t50.no_, t50.kaa, t50.kae, t17, [], ([] : List Int), ([] : List Tf), ([] : List Ta)) (p_7, p_8, nn, nn, nn) 0 [0, 1, 2, 3, 4, 5, 8, 9, 10, 12] (by exact ⟨H38, trivial⟩)
  ·refine Qx (r := r) (σ := Bool) (τ := Unit) (fun s => Y6 q0 a0 a1 self t13 t17 t21 l26 t33 s) (fun s t => [(0, pz pb0), (1, i6 a1), (2, sl p_2 l26.length), (6, pz b3), (8, i6 t17), (9, i6 t21), (10, pz b5), (51, .bool s)]) (fun s t => [Jf pbq1 [i6 t33] 3, Jf pb0 [str a0.s_, .bool a0.kab, sl p0_2 n0_2, .map (some m0_3), i6 a0.kad, .func (.func 14) #[] #[pz c0, pz pbq1], i6 a0.no_] 88, J3 94 2 (sl p0_2 n0_2) n0_2 (a0.kaa.map Jk), X8 i6 Value.bool m0_3 a0.kae, Q3 Xo Xo, Jf b3 [i6 0, i6 0, str [], z0s, z0s, z0s] 72, J3 3 1 (sl p_2 l26.length) l26.length (l26.map Qa), Jf b5 [i6 t13, i6 t17, str [], z0s, z0s, z0s] 72]) (fun s t => True) ?_ ?_
   ·try dsimp only [z1,z2,z5,z6,z7,z8]
    refine Ja<|mv (i6 t17)<|lv (Xe rfl rfl)<|mv (.bool (decide (t17 = 13)))<|?_
    revert H39
    refine sp (fun hb H51=>?_) fun hb H52=>?_
    ·refine mv (i6 t21)<|lv (Yn rfl rfl)<|pT (.bool (decide (t21 ≠ 1)))<|ag (.bool (decide (t21 ≠ 1)))<|Jd<|?_
     exact cl (decide (t21 ≠ 1)) () 0 [0, 1, 2, 3, 4, 5, 6, 8] (by exact ⟨H51, trivial⟩)
    ·refine pa<|pa<|pF (.bool false)<|ag (.bool false)<|Jd<|?_
     exact cl false () 0 [0, 1, 2, 3, 4, 5, 6, 8] (by exact ⟨H52, trivial⟩)
   ·rintro x51 _ gg H40 _
    try dsimp only at H40
    try dsimp only
    revert H40
    refine ci x51 rfl (fun hb H41=>?_) fun hb H43=>?_
    ·try dsimp only [z1,z2,z5,z6,z7,z8]
     refine Ja<|mv (pz pb0)<|?_
     obtain ⟨t59, h_t59, H42⟩ := Je H41; clear H41
     refine bo 2 3 rfl rfl<|bo 1 2 rfl rfl<|?_
     refine Qf (Jw (i := 1) (rds := []) rfl (fun w L' S hF hS hi hp hlt ho hA => k60c hp hlt (Qb w S) hn0_2 h_t59) Try.call60 rfl) rfl rfl rfl (fun ⟨p_9, p_10⟩ => ?_)
     refine ub 1 2 rfl rfl<|ub 2 3 rfl rfl<|Jd<|J5 3 1<|J5 46 2<|J5 72 6<|X7 Xo<|?_
     try dsimp only [z1,z2,z5,z6,z7,z8]
     refine bo 11 10 rfl rfl ?_
     try dsimp only [z1,z2,z5,z6,z7,z8]
     refine Xl 11 rfl (U1 (css := []) (xs := ([] : List Ta)) (p := nn) rfl (AllC.nil (G := g_tag_Entry) (h := Xo) (sz := 6))) ?_
     exact cl (t33, t59.s_, t59.kab, t59.kad, t59.kac, t59.no_, t59.kaa, t59.kae, t17, [], ([] : List Int), ([] : List Tf), ([] : List Ta)) (p_9, p_10, nn, nn, nn) 0 [0, 1, 2, 3, 4, 5, 7, 8, 9, 11] (by exact ⟨H42, trivial⟩)
    ·refine Jc ?_
     try dsimp only [z1,z2,z5,z6,z7,z8]
     refine Ja<|mv (i6 t17)<|lv (Xe rfl rfl)<|ag (.bool (decide (t17 = 13)))<|Jd<|?_
     revert H43
     refine ci (decide (t17 = 13)) rfl (fun hb H44=>?_) fun hb H48=>?_
     ·refine Ja<|mv (pz pb0)<|mv (pz pb0)<|mv (i6 a1)<|?_
      obtain ⟨t67, h_t67, H45⟩ := Je H44; clear H44
      refine lv (J4 rfl rfl h_t67) ?_
      obtain ⟨t68, h_t68, H46⟩ := Je H45; clear H45
      refine Qg (fun w hF hS => k39c (a0 := a0) (Jm w) (Xq (i := 2) hn0_2 hS rfl) (Ye (fk := i6) (fv := Value.bool) (i := 3) hS rfl) (Qp (i := 1) hS rfl) h_t68) Try.call39 rfl rfl rfl<|mv (sl p_2 l26.length)<|?_
      obtain ⟨t70, h_t70, H47⟩ := Je H46; clear H46
      refine bo 2 3 rfl rfl<|bo 1 2 rfl rfl<|bo 0 1 rfl rfl<|?_
      refine Qf (Jw (i := 0) (rds := [6]) rfl (fun w L' S hF hS hi hp hlt ho hA => ih hp hlt (Qb w S) (fq0.mono (hw.but hF ho)) (hw.but hF ho _ _ hc0) hn0_2 (Jdj (j := 6) rfl hA hS (by decide) ((hi 6 (by simp)).trans rfl)) h_t70) call40 rfl) rfl rfl rfl (fun ⟨p_11, p_12, p_13⟩ => ?_)
      refine ub 0 1 rfl rfl<|ub 1 2 rfl rfl<|ub 2 3 rfl rfl<|Qj 3 rfl<|mv (.tuple #[sl p_11 t70.1.length, i6 t70.2.1])<|lv (J7 (v := sl p_11 t70.1.length) rfl rfl)<|lv (J7 (v := i6 t70.2.1) rfl rfl)<|lf Try.runUnderlying72 rfl Try.sizeOf26 rfl<|lf Try.runUnderlying26 rfl Try.sizeOf24 rfl<|st (i := 7) [sl p_11 t70.1.length] [i6 t13, i6 t17, str [], z0s, z0s, sl p_11 t70.1.length] Try.sizeOf24 rfl rfl<|Jd<|J5 3 1<|J5 46 2<|?_
      exact cl (t70.2.2.1, t70.2.2.2.s_, t70.2.2.2.kab, t70.2.2.2.kad, t70.2.2.2.kac, t70.2.2.2.no_, t70.2.2.2.kaa, t70.2.2.2.kae, t17, [], ([] : List Int), ([] : List Tf), t70.1) (p_12, p_13, nn, nn, p_11) 0 [0, 1, 2, 3, 4, 5, 7, 9, 10, 8] (by exact ⟨H47, trivial⟩)
     ·try dsimp only [z1,z2,z5,z6,z7,z8]
      refine Ja<|mv (pz pb0)<|mv (i6 t17)<|mv (i6 t21)<|mv (i6 a1)<|?_
      obtain ⟨t42, h_t42, H49⟩ := Je H48; clear H48
      refine lv (J4 rfl rfl h_t42) ?_
      obtain ⟨t43, h_t43, H50⟩ := Je H49; clear H49
      refine bo 2 3 rfl rfl<|bo 1 2 rfl rfl<|?_
      refine Qf (Jw (i := 1) (rds := []) rfl (fun w L' S hF hS hi hp hlt ho hA => k72c hp hlt (Qb w S) hn0_2 h_t43) call72 rfl) rfl rfl rfl (fun ⟨p_14, p_15, p_16, p_17, p_18⟩ => ?_)
      refine ub 1 2 rfl rfl<|ub 2 3 rfl rfl<|Qj 3 rfl<|Qj 8 rfl<|Qj 9 rfl<|lf Try.runUnderlying72 rfl Try.sizeOf26 rfl<|st (i := 7) [i6 t43.1.kah, str t43.1.kai, sl p_14 t43.1.kaj.length, sl p_15 t43.1.kag.length, sl p_16 t43.1.kaf.length] [i6 t13, i6 t43.1.kah, str t43.1.kai, sl p_14 t43.1.kaj.length, sl p_15 t43.1.kag.length, sl p_16 t43.1.kaf.length] Try.sizeOf26 rfl rfl<|Jd<|?_
      exact cl (t33, t43.2.s_, t43.2.kab, t43.2.kad, t43.2.kac, t43.2.no_, t43.2.kaa, t43.2.kae, t43.1.kah, t43.1.kai, t43.1.kaj, t43.1.kag, t43.1.kaf) (p_17, p_18, p_14, p_15, p_16) 0 [0, 1, 2, 3, 4, 5, 7, 8, 9, 10] (by exact ⟨H50, trivial⟩)
 ·rintro ⟨m, m_2, m_3, m_4, m_5, m_6, l, mp, m_7, m_8, l_2, l_3, l_4⟩ ⟨p_3, b, p_4, p_5, p_6⟩ gg H35 _
  try dsimp only at H35
  try dsimp only
  refine Jc<|Ja<|Q1 (i := 6) (vs := [i6 t13, i6 m_7, str m_8, sl p_4 l_2.length, sl p_5 l_3.length, sl p_6 l_4.length]) isAgg72 Try.sizeOf72 rfl rfl rfl rfl rfl<|st (i := 5) [i6 t13, i6 m_7, str m_8, sl p_4 l_2.length, sl p_5 l_3.length, sl p_6 l_4.length] [i6 t13, i6 m_7, str m_8, sl p_4 l_2.length, sl p_5 l_3.length, sl p_6 l_4.length] Try.sizeOf72 rfl rfl<|Jd<|Jr<|Jce 6<|?_
  try dsimp only [z1, z2, z3, z4, z5, z6, z7, z8]
  obtain rfl := sj H35
  refine bo 7 8 rfl rfl<|bo 6 7 rfl rfl<|bo 3 6 rfl rfl<|bo 2 3 rfl rfl<|bo 1 2 rfl rfl<|bo 0 1 rfl rfl<|?_
  refine retC (i := 5) (vs := [i6 t13, i6 m_7, str m_8, sl p_4 l_2.length, sl p_5 l_3.length, sl p_6 l_4.length]) isAgg72 Try.sizeOf72 rfl rfl rfl rfl (Y9 (p_4, p_5, p_6, p_3, b) (i := 0) rfl rfl (Imp.refl _))
theorem k40c_it (mm : Nat) : ∀ {q0 : (List Int)} {vq0 : Value} {c0 : Nat} {q1 : Int} {pbq1 : Nat} {a0 : Tb} {pb0 : Nat} {p0_2 : AN} {n0_2 : Nat} {m0_3 : Nat} {a1 : Int} {a2 : (List Int)} {v2 : Value} {r : (List Ta) × Int × Int × Tb} {w : World} {h : Jt} {S : Nat → Prop} (hcs : (Jv (Jf pbq1 [i6 q1] 3) (Jv (Jf pb0 [str a0.s_, .bool a0.kab, sl p0_2 n0_2, .map (some m0_3), i6 a0.kad, .func (.func 14) #[] #[pz c0, pz pbq1], i6 a0.no_] 88) (Jv (J3 94 2 (sl p0_2 n0_2) n0_2 (a0.kaa.map Jk)) (X8 i6 Value.bool m0_3 a0.kae)))).P S w) (hlt : ∀ b, S b → b < w.heap.size) (hw : Know h w S) (fq0 : FrS h 1 vq0 (q0.map Qa)) (hc0 : h c0 = some (.cells (List.toArray [vq0]) 22 (0, 0))) (hn0_2 : n0_2 = a0.kaa.length) (f2 : FrS h 1 v2 (a2.map Qa)) (H : it (fun (self : ((List Int) × Int × Tb × Int × (List Int)) → Option ((List Ta) × Int × Int × Tb)) (s : (List Int) × Int × Tb × Int × (List Int)) => Qh self s.1 s.2.1 s.2.2.1 s.2.2.2.1 s.2.2.2.2) mm (q0, q1, a0, a1, a2) = some r), Does prog 40 (List.toArray [pz pb0, i6 a1, v2]) w (fun v w' => ∃ x : AN × AN × Nat, v = (.tuple #[.slice x.1.1 r.1.length x.1.2, i6 r.2.1]) ∧ Turn w w' S (Jv (Jf pbq1 [i6 r.2.2.1] 3) (Jv (Jf pb0 [str r.2.2.2.s_, .bool r.2.2.2.kab, .slice x.2.1.1 r.2.2.2.kaa.length x.2.1.2, .map (some x.2.2), i6 r.2.2.2.kad, .func (.func 14) #[] #[pz c0, pz pbq1], i6 r.2.2.2.no_] 88) (Jv (J3 94 2 (.slice x.2.1.1 r.2.2.2.kaa.length x.2.1.2) r.2.2.2.kaa.length (r.2.2.2.kaa.map Jk)) (Jv (X8 i6 Value.bool x.2.2 r.2.2.2.kae) (Vw 72 6 g_tag_Entry (.slice x.1.1 r.1.length x.1.2) r.1.length r.1)))))) := by
 induction mm with
 | zero => intros; rename_i H; exact absurd H (by simp [it])
 | succ mm ih =>
  intro q0 vq0 c0 q1 pbq1 a0 pb0 p0_2 n0_2 m0_3 a1 a2 v2 r w h S hcs hlt hw fq0 hc0 hn0_2 f2 H
  replace H : Qh (it (fun (self : ((List Int) × Int × Tb × Int × (List Int)) → Option ((List Ta) × Int × Int × Tb)) (s : (List Int) × Int × Tb × Int × (List Int)) => Qh self s.1 s.2.1 s.2.2.1 s.2.2.2.1 s.2.2.2.2) mm) q0 q1 a0 a1 a2 = some r := H
  generalize it (fun (self : ((List Int) × Int × Tb × Int × (List Int)) → Option ((List Ta) × Int × Int × Tb)) (s : (List Int) × Int × Tb × Int × (List Int)) => Qh self s.1 s.2.1 s.2.2.1 s.2.2.2.1 s.2.2.2.2) mm = self at H ih
  refine enter (n := 145) func40 rfl rfl rfl S [Jv (Jf pbq1 [i6 q1] 3) (Jv (Jf pb0 [str a0.s_, .bool a0.kab, sl p0_2 n0_2, .map (some m0_3), i6 a0.kad, .func (.func 14) #[] #[pz c0, pz pbq1], i6 a0.no_] 88) (Jv (J3 94 2 (sl p0_2 n0_2) n0_2 (a0.kaa.map Jk)) (X8 i6 Value.bool m0_3 a0.kae)))] (Sat.one hcs hlt)<|Qj 0 rfl<|Qj 1 rfl<|Qj 2 rfl<|X7 Xo<|Jc<|Ja<|ag (z0s)<|ag (i6 0)<|Jd<|Jc<|Ja<|mv v2<|lv (Va Try.underlying22 rfl f2 rfl)<|ag (i6 (a2.length : Int))<|Jd<|Jc<|Jc<|Ja<|mv (pz pb0)<|mv (i6 a1)<|?_
  obtain ⟨t15, h_t15, H67⟩ := Je H; clear H
  refine Qg (fun w hF hS => k59c (a0 := a0) (Jm w) (Xq (i := 2) hn0_2 hS rfl) (Ye (fk := i6) (fv := Value.bool) (i := 3) hS rfl) (Qp (i := 1) hS rfl) h_t15) call59 rfl rfl rfl<|lv (Ja6 rfl)<|Jd<|?_
  revert H67
  refine ci (!t15) rfl (fun hb H68=>?_) fun hb H70=>?_
  ·refine Jc<|Ja<|mv (pz pb0)<|?_
   obtain ⟨t18, h_t18, H69⟩ := Je H68; clear H68
   refine bo 2 3 rfl rfl<|bo 1 2 rfl rfl<|?_
   refine Qf (Jw (i := 1) (rds := []) rfl (fun w L' S hF hS hi hp hlt ho hA => k60c hp hlt (Qb w S) hn0_2 h_t18) Try.call60 rfl) rfl rfl rfl (fun ⟨p, p_2⟩ => ?_)
   refine ub 1 2 rfl rfl<|ub 2 3 rfl rfl<|Jd<|Jc<|?_
   try dsimp only [z1,z2,z5,z6,z7,z8]
   refine Ja<|ag (z0s)<|ag (i6 0)<|Jd<|Jr<|?_
   try dsimp only [z1, z2, z3, z4, z5, z6, z7, z8]
   refine J5 72 6 ?_
   obtain rfl := sj H69
   refine bo 4 5 rfl rfl<|Xl 4 rfl (Zc (p := nn) rfl (AllC.nil (G := g_tag_Entry) (h := Xo) (sz := 6)))<|bo 3 4 rfl rfl<|bo 2 3 rfl rfl<|bo 1 2 rfl rfl<|bo 0 1 rfl rfl<|?_
   refine Jah (v1 := sl nn (([] : List (List Value)).length)) (v2 := i6 0) rfl rfl rfl (Y9 (nn, p, p_2) (i := 0) rfl (by first | rfl | rw [(show (([] : List (List Value)).length) = ([] : List Ta).length from (AllC.nil (G := g_tag_Entry) (h := Xo) (sz := 6)).len)]) (by first | exact Imp.refl _ | exact Imp.of (by rw [(show (([] : List (List Value)).length) = ([] : List Ta).length from (AllC.nil (G := g_tag_Entry) (h := Xo) (sz := 6)).len)] <;> rfl)))
  ·refine Jp<|Jc<|?_
   try dsimp only [z1,z2,z5,z6,z7,z8]
   refine Ja<|mv (pz pb0)<|mv (i6 a1)<|?_
   obtain ⟨t21, h_t21, H71⟩ := Je H70; clear H70
   refine Qg (fun w hF hS => k39c (a0 := a0) (Jm w) (Xq (i := 2) hn0_2 hS rfl) (Ye (fk := i6) (fv := Value.bool) (i := 3) hS rfl) (Qp (i := 1) hS rfl) h_t21) Try.call39 rfl rfl rfl<|ag (i6 t21)<|Jd<|?_
   refine Qx (r := r) (σ := (List UInt8) × Bool × Int × Nat × Int × (List Tc) × (List (Int × Bool))) (τ := AN × Nat × Nat) (fun s => Q8 q0 q1 a1 a2 self t21 s.1 s.2.1 s.2.2.1 s.2.2.2.1 s.2.2.2.2.1 s.2.2.2.2.2.1 s.2.2.2.2.2.2) (fun s t => [(0, pz pb0), (1, i6 a1), (2, v2), (6, z0s), (8, i6 (a2.length : Int)), (9, i6 t21)]) (fun s t => [Jf pbq1 [i6 q1] 3, Jf pb0 [str s.1, .bool s.2.1, .slice t.1.1 t.2.1 t.1.2, .map (some t.2.2), i6 s.2.2.1, .func (.func 14) #[] #[pz c0, pz pbq1], i6 s.2.2.2.2.1] 88, J3 94 2 (.slice t.1.1 t.2.1 t.1.2) t.2.1 (s.2.2.2.2.2.1.map Jk), X8 i6 Value.bool t.2.2 s.2.2.2.2.2.2, Q3 Xo Xo]) (fun s t => t.2.1 = s.2.2.2.2.2.1.length) ?_ ?_
   ·refine J0<|Jc<|Ja<|mv (pz pb0)<|lv (Ji rfl)<|lf Try.runUnderlying88 rfl sizeOf86 rfl<|ll 1 (.map (some m0_3)) isAgg86<|mv (i6 a1)<|Xn (fun w hF hS => Jiu (i := 3) (fk := i6) (fv := Value.bool) (k := a1) (z := false) Jf7 underlying86 underlying3 zeroValue4 rfl rfl hS rfl) rfl rfl rfl<|ag (.bool ((Jdm a0.kae a1).getD false))<|Jd<|?_
    revert H71
    refine ci ((Jdm a0.kae a1).getD false) rfl (fun hb H114=>?_) fun hb H116=>?_
    ·refine Ja<|mv (pz pb0)<|?_
     obtain ⟨t30, h_t30, H115⟩ := Je H114; clear H114
     refine bo 2 3 rfl rfl<|bo 1 2 rfl rfl<|?_
     refine Qf (Jw (i := 1) (rds := []) rfl (fun w L' S hF hS hi hp hlt ho hA => k60c hp hlt (Qb w S) hn0_2 h_t30) Try.call60 rfl) rfl rfl rfl (fun ⟨p_20, p_21⟩ => ?_)
     refine ub 1 2 rfl rfl<|ub 2 3 rfl rfl<|Jd<|?_
     exact cl (t30.s_, t30.kab, t30.kad, t30.kac, t30.no_, t30.kaa, t30.kae) (p_20, t30.kaa.length, p_21) 0 [0, 1, 2, 3, 4] (by exact ⟨H115, rfl⟩)
    ·refine Jc ?_
     try dsimp only [z1,z2,z5,z6,z7,z8]
     refine Ja<|mv (pz pb0)<|lv (Ji rfl)<|lf Try.runUnderlying88 rfl Try.sizeOf3 rfl<|ll 1 (i6 a0.kad) Try.isAgg3<|lv (V6 rfl rfl)<|mv (.bool (decide (20 < a0.kad)))<|?_
     revert H116
     refine sp (fun hb H117=>?_) fun hb H119=>?_
     ·refine pa<|pa<|pT (.bool true)<|mv (.bool true)<|pa<|pa<|pT (.bool true)<|ag (.bool true)<|Jd<|Ve rfl<|Ja<|mv (pz pb0)<|?_
      obtain ⟨t46, h_t46, H118⟩ := Je H117; clear H117
      refine bo 2 3 rfl rfl<|bo 1 2 rfl rfl<|?_
      refine Qf (Jw (i := 1) (rds := []) rfl (fun w L' S hF hS hi hp hlt ho hA => k60c hp hlt (Qb w S) hn0_2 h_t46) Try.call60 rfl) rfl rfl rfl (fun ⟨p_22, p_23⟩ => ?_)
      refine ub 1 2 rfl rfl<|ub 2 3 rfl rfl<|Jd<|?_
      exact cl (t46.s_, t46.kab, t46.kad, t46.kac, t46.no_, t46.kaa, t46.kae) (p_22, t46.kaa.length, p_23) 0 [0, 1, 2, 3, 4] (by exact ⟨H118, rfl⟩)
     ·refine mv (i6 (a2.length : Int))<|lv (V6 rfl rfl)<|pF (.bool (decide (5 < (a2.length : Int))))<|mv (.bool (decide (5 < (a2.length : Int))))<|?_
      revert H119
      refine sp (fun hb H120=>?_) fun hb H122=>?_
      ·refine pa<|pa<|pT (.bool true)<|ag (.bool true)<|Jd<|Ve rfl<|Ja<|mv (pz pb0)<|?_
       obtain ⟨t46_2, h_t46_2, H121⟩ := Je H120; clear H120
       refine bo 2 3 rfl rfl<|bo 1 2 rfl rfl<|?_
       refine Qf (Jw (i := 1) (rds := []) rfl (fun w L' S hF hS hi hp hlt ho hA => k60c hp hlt (Qb w S) hn0_2 h_t46_2) Try.call60 rfl) rfl rfl rfl (fun ⟨p_24, p_25⟩ => ?_)
       refine ub 1 2 rfl rfl<|ub 2 3 rfl rfl<|Jd<|?_
       exact cl (t46_2.s_, t46_2.kab, t46_2.kad, t46_2.kac, t46_2.no_, t46_2.kaa, t46_2.kae) (p_24, t46_2.kaa.length, p_25) 0 [0, 1, 2, 3, 4] (by exact ⟨H121, rfl⟩)
      ·refine mv (i6 t21)<|lv (V6 rfl rfl)<|pF (.bool (decide (200 < t21)))<|ag (.bool (decide (200 < t21)))<|Jd<|?_
       revert H122
       refine ci (decide (200 < t21)) rfl (fun hb H123=>?_) fun hb H125=>?_
       ·try dsimp only [z1,z2,z5,z6,z7,z8]
        refine Ja<|mv (pz pb0)<|?_
        obtain ⟨t46_3, h_t46_3, H124⟩ := Je H123; clear H123
        refine bo 2 3 rfl rfl<|bo 1 2 rfl rfl<|?_
        refine Qf (Jw (i := 1) (rds := []) rfl (fun w L' S hF hS hi hp hlt ho hA => k60c hp hlt (Qb w S) hn0_2 h_t46_3) Try.call60 rfl) rfl rfl rfl (fun ⟨p_26, p_27⟩ => ?_)
        refine ub 1 2 rfl rfl<|ub 2 3 rfl rfl<|Jd<|?_
        exact cl (t46_3.s_, t46_3.kab, t46_3.kad, t46_3.kac, t46_3.no_, t46_3.kaa, t46_3.kae) (p_26, t46_3.kaa.length, p_27) 0 [0, 1, 2, 3, 4] (by exact ⟨H124, rfl⟩)
       ·refine Jc<|Ja<|mv (pz pb0)<|mv (i6 a1)<|mv (i6 t21)<|?_
        obtain ⟨t51, h_t51, H126⟩ := Je H125; clear H125
        refine lv (Vs rfl rfl h_t51) ?_
        obtain ⟨t52, h_t52, H127⟩ := Je H126; clear H126
        refine lv (J4 rfl rfl h_t52) ?_
        obtain ⟨t53, h_t53, H128⟩ := Je H127; clear H127
        refine lv (J4 rfl rfl h_t53) ?_
        obtain ⟨t54, h_t54, H129⟩ := Je H128; clear H128
        refine Qg (fun w hF hS => k59c (a0 := a0) (Jm w) (Xq (i := 2) hn0_2 hS rfl) (Ye (fk := i6) (fv := Value.bool) (i := 3) hS rfl) (Qp (i := 1) hS rfl) h_t54) call59 rfl rfl rfl<|lv (Ja6 rfl)<|ag (.bool (!t54))<|Jd<|?_
        revert H129
        refine ci (!t54) rfl (fun hb H130=>?_) fun hb H132=>?_
        ·refine Ja<|mv (pz pb0)<|?_
         obtain ⟨t57, h_t57, H131⟩ := Je H130; clear H130
         refine bo 2 3 rfl rfl<|bo 1 2 rfl rfl<|?_
         refine Qf (Jw (i := 1) (rds := []) rfl (fun w L' S hF hS hi hp hlt ho hA => k60c hp hlt (Qb w S) hn0_2 h_t57) Try.call60 rfl) rfl rfl rfl (fun ⟨p_28, p_29⟩ => ?_)
         refine ub 1 2 rfl rfl<|ub 2 3 rfl rfl<|Jd<|?_
         exact cl (t57.s_, t57.kab, t57.kad, t57.kac, t57.no_, t57.kaa, t57.kae) (p_28, t57.kaa.length, p_29) 0 [0, 1, 2, 3, 4] (by exact ⟨H131, rfl⟩)
        ·refine Jp ?_
         exact cl (a0.s_, a0.kab, a0.kad, a0.kac, a0.no_, a0.kaa, a0.kae) (p0_2, n0_2, m0_3) 0 [0, 1, 2, 3, 4] (by exact ⟨H132, hn0_2⟩)
   ·rintro ⟨m, m_2, m_3, m_4, m_5, l, mp⟩ ⟨p_3, n, b⟩ gg H72 hl
    try dsimp only at H72
    try dsimp only
    refine Jc<|Jc<|Ja<|mv (pz pb0)<|lv (Ji rfl)<|lf Try.runUnderlying88 rfl Try.sizeOf28 rfl<|ll 1 (i6 m_5) Try.isAgg28<|lv (Yn rfl rfl)<|Jd<|?_
    revert H72
    refine ci (decide (m_5 ≠ 0)) rfl (fun hb H73=>?_) fun hb H74=>?_
    ·refine Jc<|Ja<|ag (z0s)<|ag (i6 0)<|Jd<|Jr<|?_
     try dsimp only [z1, z2, z3, z4, z5, z6, z7, z8]
     refine J5 72 6 ?_
     obtain rfl := sj H73
     refine bo 4 5 rfl rfl<|Xl 4 rfl (Zc (p := nn) rfl (AllC.nil (G := g_tag_Entry) (h := Xo) (sz := 6)))<|bo 3 4 rfl rfl<|bo 2 3 rfl rfl<|bo 1 2 rfl rfl<|bo 0 1 rfl rfl<|?_
     refine Jah (v1 := sl nn (([] : List (List Value)).length)) (v2 := i6 0) rfl rfl rfl (Y9 (nn, p_3, b) (i := 0) rfl (by first | rfl | rw [(show (([] : List (List Value)).length) = ([] : List Ta).length from (AllC.nil (G := g_tag_Entry) (h := Xo) (sz := 6)).len), (show n = l.length from hl)]) (by first | exact Imp.refl _ | exact Imp.of (by rw [(show (([] : List (List Value)).length) = ([] : List Ta).length from (AllC.nil (G := g_tag_Entry) (h := Xo) (sz := 6)).len), (show n = l.length from hl)] <;> rfl)))
    ·refine Jp<|Jc<|?_
     try dsimp only [z1,z2,z5,z6,z7,z8]
     refine Ja<|mv (pz pb0)<|lv (Ji rfl)<|lf Try.runUnderlying88 rfl sizeOf86 rfl<|ll 1 (.map (some b)) isAgg86<|mv (i6 a1)<|?_
     refine l_turn0 (Jh1 (u := true) (i := 3) (rds := []) (fk := i6) (fv := Value.bool) (k := a1) (v := true) Jf7 (.inr rfl) underlying86 underlying3 rfl rfl rfl rfl) rfl rfl (fun _ => ?_)
     refine Jd<|Jc<|Ja<|mv (pz pb0)<|mv (pz pb0)<|lv (Ji rfl)<|lf Try.runUnderlying88 rfl Try.sizeOf49 rfl<|ll 1 (sl p_3 n) isAgg49<|mv (i6 a1)<|mv (i6 a1)<|?_
     obtain ⟨t75, h_t75, H75⟩ := Je H74; clear H74
     refine lv (J4 rfl rfl h_t75)<|mv (i6 t21)<|?_
     obtain ⟨t77, h_t77, H76⟩ := Je H75; clear H75
     refine lv (Vs rfl rfl h_t77) ?_
     obtain ⟨t78, h_t78, H77⟩ := Je H76; clear H76
     refine lv (J4 rfl rfl h_t78) ?_
     obtain ⟨t79, h_t79, H78⟩ := Je H77; clear H77
     refine lv (J4 rfl rfl h_t79)<|lv (Xm (pl := #[(0, 1), (1, 1)]) (ps := [(0, i6 a1), (1, i6 t79)]) (cells := #[i6 a1, i6 t79]) zeroValue94 Try.runUnderlying94 (fun w => by kernel_rfl) rfl rfl)<|?_
     refine Qw (vs := [.agg #[i6 a1, i6 t79]]) (cs := [i6 a1, i6 t79]) Try.underlying49 sizeOf94 zeroValue94 rfl rfl rfl rfl rfl rfl rfl (fun b2 => ?_)
     obtain ⟨l82, h_l82, H79⟩ := Je H78; clear H78
     refine Qf (Ys (i := 2) (hn := hl) (rds := [5]) (p := p_3) (sz := 2) (by_ := 16) (f := Jk) (ys := l) (ls := ([(⟨a1, t79⟩ : Tc)] : List Tc)) (V := .slice (some ⟨b2, 0, none⟩) 1 1) Try.underlying49 (Qu typeInfo94) rfl rfl rfl rfl rfl rfl rfl rfl rfl rfl (fun w L' hF hS hi => Z8 (i := 5) hS ((hi 5 (by simp)).trans rfl) rfl rfl) (fun _ => rfl) (fun _ => rfl) h_l82) rfl rfl rfl (fun p_4 => ?_)
     refine lv (Ji rfl)<|lf Try.runUnderlying88 rfl Try.sizeOf49 rfl<|st (i := 1) [sl p_4 l82.length] [str m, .bool m_2, sl p_4 l82.length, .map (some b), i6 m_3, .func (.func 14) #[] #[pz c0, pz pbq1], i6 m_5] Try.sizeOf49 rfl rfl<|Jd<|Jc<|Ja<|mv (pz pb0)<|mv (i6 a1)<|?_
     obtain ⟨t87, h_t87, H80⟩ := Je H79; clear H79
     refine lv (J4 rfl rfl h_t87)<|mv (i6 t21)<|?_
     obtain ⟨t89, h_t89, H81⟩ := Je H80; clear H80
     refine lv (Vs rfl rfl h_t89) ?_
     obtain ⟨t90, h_t90, H82⟩ := Je H81; clear H81
     refine lv (J4 rfl rfl h_t90) ?_
     obtain ⟨t91, h_t91, H83⟩ := Je H82; clear H82
     refine Qg (fun w hF hS => k39c (a0 := (⟨m, m_2, l82, (W0 mp a1 true), m_3, m_4, m_5⟩ : Tb)) (Jm w) (Xq (i := 2) rfl hS rfl) (Ye (fk := i6) (fv := Value.bool) (i := 3) hS rfl) (Qp (i := 1) hS rfl) h_t91) Try.call39 rfl rfl rfl<|ag (i6 t91)<|Jd<|?_
     refine Qx (r := r) (σ := (List UInt8) × Bool × Int × Nat × Int × (List Tc) × (List (Int × Bool))) (τ := AN × Nat) (fun s => Vy q0 q1 a1 a2 self t21 t91 s.1 s.2.1 s.2.2.1 s.2.2.2.1 s.2.2.2.2.1 s.2.2.2.2.2.1 s.2.2.2.2.2.2) (fun s t => [(0, pz pb0), (1, i6 a1), (2, v2), (6, z0s), (7, i6 t91), (9, i6 t21)]) (fun s t => [Jf pbq1 [i6 q1] 3, Jf pb0 [str s.1, .bool s.2.1, .slice t.1.1 s.2.2.2.2.2.1.length t.1.2, .map (some t.2), i6 s.2.2.1, .func (.func 14) #[] #[pz c0, pz pbq1], i6 s.2.2.2.2.1] 88, J3 94 2 (.slice t.1.1 s.2.2.2.2.2.1.length t.1.2) s.2.2.2.2.2.1.length (s.2.2.2.2.2.1.map Jk), X8 i6 Value.bool t.2 s.2.2.2.2.2.2, Q3 Xo Xo]) (fun s t => True) ?_ ?_
     ·refine Jc<|Ja<|mv (i6 (a2.length : Int))<|lv (V6 rfl rfl)<|mv (.bool (decide (1 < (a2.length : Int))))<|?_
      revert H83
      refine sp (fun hb H109=>?_) fun hb H113=>?_
      ·refine mv (i6 t91)<|lv (Yn rfl rfl)<|pT (.bool (decide (t91 ≠ 0)))<|Jd<|?_
       revert H109
       refine ci (decide (t91 ≠ 0)) rfl (fun hb H110=>?_) fun hb H112=>?_
       ·refine Ja<|mv (pz pb0)<|?_
        obtain ⟨t99, h_t99, H111⟩ := Je H110; clear H110
        refine bo 2 3 rfl rfl<|bo 1 2 rfl rfl<|?_
        refine Qf (Jw (i := 1) (rds := []) rfl (fun w L' S hF hS hi hp hlt ho hA => k60c (a0 := (⟨m, m_2, l82, (W0 mp a1 true), m_3, m_4, m_5⟩ : Tb)) hp hlt (Qb w S) rfl h_t99) Try.call60 rfl) rfl rfl rfl (fun ⟨p_18, p_19⟩ => ?_)
        refine ub 1 2 rfl rfl<|ub 2 3 rfl rfl<|Jd<|?_
        exact cl (t99.s_, t99.kab, t99.kad, t99.kac, t99.no_, t99.kaa, t99.kae) (p_18, p_19) 0 [0, 1, 2, 3, 4] (by exact ⟨H111, trivial⟩)
       ·refine Jp ?_
        exact cl (m, m_2, m_3, m_4, m_5, l82, (W0 mp a1 true)) (p_4, b) 0 [0, 1, 2, 3, 4] (by exact ⟨H112, trivial⟩)
      ·refine pa<|pa<|pF (.bool false)<|Jd<|Wr rfl<|Jp<|?_
       exact cl (m, m_2, m_3, m_4, m_5, l82, (W0 mp a1 true)) (p_4, b) 0 [0, 1, 2, 3, 4] (by exact ⟨H113, trivial⟩)
     ·rintro ⟨m_6, m_7, m_8, m_9, m_10, l_2, mp_2⟩ ⟨p_5, b_2⟩ gg H84 _
      try dsimp only at H84
      try dsimp only
      refine Qx (r := r) (σ := Int × Int × (List UInt8) × Bool × Int × Nat × Int × (List Tc) × (List (Int × Bool)) × (List Ta)) (τ := Jt × AN × Nat × (List (List Value)) × AN) (fun s => W5 s.1 s.2.1 s.2.2.1 s.2.2.2.1 s.2.2.2.2.1 s.2.2.2.2.2.1 s.2.2.2.2.2.2.1 s.2.2.2.2.2.2.2.1 s.2.2.2.2.2.2.2.2.1 s.2.2.2.2.2.2.2.2.2) (fun s t => [(6, .slice t.2.2.2.2.1 t.2.2.2.1.length t.2.2.2.2.2), (7, i6 s.1)]) (fun s t => [Jf pbq1 [i6 s.2.1] 3, Jf pb0 [str s.2.2.1, .bool s.2.2.2.1, .slice t.2.1.1 s.2.2.2.2.2.2.2.1.length t.2.1.2, .map (some t.2.2.1), i6 s.2.2.2.2.1, .func (.func 14) #[] #[pz c0, pz pbq1], i6 s.2.2.2.2.2.2.1] 88, J3 94 2 (.slice t.2.1.1 s.2.2.2.2.2.2.2.1.length t.2.1.2) s.2.2.2.2.2.2.2.1.length (s.2.2.2.2.2.2.2.1.map Jk), X8 i6 Value.bool t.2.2.1 s.2.2.2.2.2.2.2.2.1, Q3 Xo t.1, J3 72 6 (.slice t.2.2.2.2.1 t.2.2.2.1.length t.2.2.2.2.2) t.2.2.2.1.length (t.2.2.2.1.map idC)]) (fun s t => AllC g_tag_Entry t.1 6 t.2.2.2.1 s.2.2.2.2.2.2.2.2.2) ?_ ?_
      ·refine Jc ?_
       try dsimp only [z1,z2,z5,z6,z7,z8]
       refine Ja<|ag (i6 0)<|Jd<|J0<|J5 72 6<|?_
       refine Zz (σ := Int × Int × Int × Int × Int × (List UInt8) × Bool × Int × Nat × Int × (List Tc) × (List (Int × Bool)) × (List Ta)) (τ := Jt × AN × Nat × (List (List Value)) × AN) (fun next4 s => Q7 q0 a2 self next4 s.1 s.2.1 s.2.2.1 s.2.2.2.1 s.2.2.2.2.1 s.2.2.2.2.2.1 s.2.2.2.2.2.2.1 s.2.2.2.2.2.2.2.1 s.2.2.2.2.2.2.2.2.1 s.2.2.2.2.2.2.2.2.2.1 s.2.2.2.2.2.2.2.2.2.2.1 s.2.2.2.2.2.2.2.2.2.2.2.1 s.2.2.2.2.2.2.2.2.2.2.2.2) (fun s t => [(0, pz pb0), (1, i6 s.1), (2, v2), (6, .slice t.2.2.2.2.1 t.2.2.2.1.length t.2.2.2.2.2), (7, i6 s.2.1), (9, i6 s.2.2.1), (10, i6 s.2.2.2.1)]) (fun s t => [Jf pbq1 [i6 s.2.2.2.2.1] 3, Jf pb0 [str s.2.2.2.2.2.1, .bool s.2.2.2.2.2.2.1, .slice t.2.1.1 s.2.2.2.2.2.2.2.2.2.2.1.length t.2.1.2, .map (some t.2.2.1), i6 s.2.2.2.2.2.2.2.1, .func (.func 14) #[] #[pz c0, pz pbq1], i6 s.2.2.2.2.2.2.2.2.2.1] 88, J3 94 2 (.slice t.2.1.1 s.2.2.2.2.2.2.2.2.2.2.1.length t.2.1.2) s.2.2.2.2.2.2.2.2.2.2.1.length (s.2.2.2.2.2.2.2.2.2.2.1.map Jk), X8 i6 Value.bool t.2.2.1 s.2.2.2.2.2.2.2.2.2.2.2.1, Q3 Xo t.1, J3 72 6 (.slice t.2.2.2.2.1 t.2.2.2.1.length t.2.2.2.2.2) t.2.2.2.1.length (t.2.2.2.1.map idC)]) (fun s t => AllC g_tag_Entry t.1 6 t.2.2.2.1 s.2.2.2.2.2.2.2.2.2.2.2.2) (a1, t91, t21, 0, q1, m_6, m_7, m_8, m_9, m_10, l_2, mp_2, ([] : List Ta)) (Xo, p_5, b_2, ([] : List (List Value)), nn) [0, 1, 2, 3, 4, 5] H84 (by exact (AllC.nil (G := g_tag_Entry) (h := Xo) (sz := 6))) (by exact ⟨rfl, rfl, rfl, rfl, rfl, rfl, rfl, trivial⟩) (by decide) rfl ?_
       rintro ⟨x1_2, x7_3, x9_2, x10_2, m_23, m_24, m_25, m_26, m_27, m_28, l_7, mp_5, l_8⟩ ⟨hp_2, p_8, b_4, css_2, p_9⟩ m4 gg H86 pf_3
       clear H84
       try dsimp only at H86
       generalize hn4 : it (fun next4 s => Q7 q0 a2 self next4 s.1 s.2.1 s.2.2.1 s.2.2.2.1 s.2.2.2.2.1 s.2.2.2.2.2.1 s.2.2.2.2.2.2.1 s.2.2.2.2.2.2.2.1 s.2.2.2.2.2.2.2.2.1 s.2.2.2.2.2.2.2.2.2.1 s.2.2.2.2.2.2.2.2.2.2.1 s.2.2.2.2.2.2.2.2.2.2.2.1 s.2.2.2.2.2.2.2.2.2.2.2.2) m4 = next4 at H86
       try dsimp only
       refine Jc<|Jc<|Ja<|mv (i6 x10_2)<|mv (i6 x9_2)<|lv (Ym rfl rfl)<|mv (.bool (decide (x10_2 < x9_2)))<|?_
       revert H86
       refine sp (fun hb H87=>?_) fun hb H108=>?_
       ·refine mv (pz pb0)<|lv (Ji rfl)<|lf Try.runUnderlying88 rfl Try.sizeOf28 rfl<|ll 1 (i6 m_28) Try.isAgg28<|lv (Xe rfl rfl)<|pT (.bool (decide (m_28 = 0)))<|Jd<|?_
        try dsimp only [z1,z2,z5,z6,z7,z8]
        revert H87
        refine ci (decide (m_28 = 0)) rfl (fun hb H88=>?_) fun hb H107=>?_
        ·refine Jp<|Jc<|J0<|?_
         refine Qx (r := r) (σ := Unit) (τ := Unit) (fun s => Zy q0 a2 self x1_2 x7_3 x9_2 x10_2 m_23 m_24 m_25 m_26 m_27 m_28 l_7 mp_5 l_8 next4) (fun s t => [(0, pz pb0), (1, i6 x1_2), (2, v2), (6, sl p_9 css_2.length), (7, i6 x7_3), (9, i6 x9_2), (10, i6 x10_2), (104, pz pb0), (105, pz pb0), (106, .pointer (some ⟨pb0, 6, none⟩)), (107, i6 m_28), (108, .bool (decide (m_28 = 0)))]) (fun s t => [Jf pbq1 [i6 m_23] 3, Jf pb0 [str m_24, .bool m_25, sl p_8 l_7.length, .map (some b_4), i6 m_26, .func (.func 14) #[] #[pz c0, pz pbq1], i6 m_28] 88, J3 94 2 (sl p_8 l_7.length) l_7.length (l_7.map Jk), X8 i6 Value.bool b_4 mp_5, Q3 Xo hp_2, J3 72 6 (sl p_9 css_2.length) css_2.length (css_2.map idC)]) (fun s t => True) ?_ ?_
         ·refine Jc ?_
          exact Qc (Kd.p :: Kd.p :: Kd.p :: Kd.p :: Kd.p :: Kd.p :: Kd.p :: Kd.p :: Kd.p :: Kd.d [4, 1, 2, 3] _ :: Kd.p :: Kd.p :: Kd.p :: Kd.d [5] _ :: Kd.d [5] _ :: Kd.d [5] _ :: Kd.p :: Kd.p :: []) 0 mixed (by
           refine dm (i6 x10_2)<|dv (V6 rfl rfl)<|dm (.bool (decide (0 < x10_2)))<|?_
           refine Jee (fun hb => ?_) (fun hb => ?_)
           ·have H96 := Jbm hb H88
            refine dm (pz pb0)<|dm (i6 x1_2)<|?_
            have h_t117 := Jx H96
            have H97 := Jq H96
            refine dv (J4 rfl rfl h_t117)<|dm (i6 x10_2)<|?_
            have h_t119 := Jx H97
            have H98 := Jq H97
            refine dv (Vs rfl rfl h_t119) ?_
            have h_t120 := Jx H98
            have H99 := Jq H98
            refine dv (J4 rfl rfl h_t120) ?_
            have h_t121 := Jx H99
            have H100 := Jq H99
            refine Jam (fun w L' hF hS hi => k39c (a0 := (⟨m_24, m_25, l_7, mp_5, m_26, m_27, m_28⟩ : Tb)) (Jm w) (Xq (i := 2) rfl hS ((hi 2 (by simp)).trans rfl)) (Ye (fk := i6) (fv := Value.bool) (i := 3) hS ((hi 3 (by simp)).trans rfl)) (Qp (i := 1) hS ((hi 1 (by simp)).trans rfl)) h_t121) Try.call39 rfl rfl<|dm (sl p_9 css_2.length)<|dm (i6 x10_2)<|?_
            have h_t124 := Jx H100
            have H101 := Jq H100
            refine dv (Un rfl rfl h_t124) ?_
            have h_t125 := Jx H101
            have H102 := Jq H101
            refine Wj (fun w L' hF hS hi => Ux Try.underlying24 Try.sizeOf72 rfl rfl (Up (i := 5) (E := 72) (sz := 6) (n := css_2.length) (a := p_9.1) (c := p_9.2) hS ((hi 5 (by simp)).trans rfl)) rfl (pf_3.ix h_t125)) rfl rfl<|d_readE rfl rfl (fun w L' hF hS hi => Jdu Try.runUnderlying72 rfl Try.sizeOf3 rfl rfl (Up (i := 5) (E := 72) (sz := 6) (n := css_2.length) (a := p_9.1) (c := p_9.2) hS ((hi 5 (by simp)).trans rfl)) (pf_3.ix h_t125))<|Wj (fun w L' hF hS hi => Qt (f := idC) (i := (val (gI (x10_2 - 1)))) (sz := 6) (j := 0) (v := i6 (val (Q9 l_8 (val (gI (x10_2 - 1))))).Tag) Try.isAgg3 rfl rfl (Up (i := 5) (E := 72) (sz := 6) (n := css_2.length) (a := p_9.1) (c := p_9.2) hS ((hi 5 (by simp)).trans rfl)) (pf_3.ix h_t125) (Jat ((pf_3.eta h_t125).trans (Qy (pf_3.at h_t125))) rfl)) rfl rfl<|dv (Je3 rfl rfl)<|dv (Jbz (v := .bool (decide ((val (Jg (⟨m_24, m_25, l_7, mp_5, m_26, m_27, m_28⟩ : Tb) (val (gI ((val (gI (x1_2 + 2))) + (val (gI (12 * x10_2)))))) 2)) ≤ (val (Q9 l_8 (val (gI (x10_2 - 1))))).Tag))) rfl rfl)<|X2<|?_
            try dsimp only [z1,z2,z5,z6,z7,z8]
            revert H102
            refine ci (decide ((val (Jg (⟨m_24, m_25, l_7, mp_5, m_26, m_27, m_28⟩ : Tb) (val (gI ((val (gI (x1_2 + 2))) + (val (gI (12 * x10_2)))))) 2)) ≤ (val (Q9 l_8 (val (gI (x10_2 - 1))))).Tag)) rfl (fun hb H103=>?_) fun hb H105=>?_
            ·refine Jc<|Ja<|mv (pz pb0)<|?_
             obtain ⟨t131, h_t131, H104⟩ := Je H103; clear H103
             refine bo 2 3 rfl rfl<|bo 1 2 rfl rfl<|?_
             refine Qf (Jw (i := 1) (rds := []) rfl (fun w L' S hF hS hi hp hlt ho hA => k60c (a0 := (⟨m_24, m_25, l_7, mp_5, m_26, m_27, m_28⟩ : Tb)) hp hlt (Qb w S) rfl h_t131) Try.call60 rfl) rfl rfl rfl (fun ⟨p_16, p_17⟩ => ?_)
             refine ub 1 2 rfl rfl<|ub 2 3 rfl rfl<|Jd<|?_
             try dsimp only [z1,z2,z5,z6,z7,z8]
             refine Xy ?_
             exact cl (x7_3, m_23, t131.s_, t131.kab, t131.kad, t131.kac, t131.no_, t131.kaa, t131.kae, l_8) (hp_2, p_16, p_17, css_2, p_9) 0 [0, 1, 2, 3, 4, 5] (by exact ⟨H104, pf_3⟩)
            ·refine Jp ?_
             exact cl () () 0 [0, 1, 2, 3, 4, 5] (by exact ⟨H105, trivial⟩)
           ·have H106 := Jbr hb H88
            refine dp<|dp<|dp<|dp<|dp<|dp<|dp<|dp<|dp<|dp<|dp<|dp<|dp<|dp<|dv (Jbj (v := .bool false) rfl rfl)<|X2<|?_
            try dsimp only [z1,z2,z5,z6,z7,z8]
            refine Wr rfl<|Jp<|?_
            exact cl () () 0 [0, 1, 2, 3, 4, 5] (by exact ⟨H106, trivial⟩)
           ) (by kernel_rfl)
         ·rintro _ _ gg H89 _
          try dsimp only at H89
          try dsimp only
          refine Ja<|mv (sl p_9 css_2.length)<|mv (pz pb0)<|mv (i6 x1_2)<|?_
          obtain ⟨t135, h_t135, H90⟩ := Je H89; clear H89
          refine lv (J4 rfl rfl h_t135)<|mv (i6 x10_2)<|?_
          obtain ⟨t137, h_t137, H91⟩ := Je H90; clear H90
          refine lv (Vs rfl rfl h_t137) ?_
          obtain ⟨t138, h_t138, H92⟩ := Je H91; clear H91
          refine lv (J4 rfl rfl h_t138)<|mv v2<|?_
          obtain ⟨t140, h_t140, H93⟩ := Je H92; clear H92
          refine bo 2 3 rfl rfl<|bo 1 2 rfl rfl<|bo 0 1 rfl rfl<|?_
          refine Qf (Jw (i := 0) (rds := []) rfl (fun w L' S hF hS hi hp hlt ho hA => k61c_b ih (a0 := (⟨m_24, m_25, l_7, mp_5, m_26, m_27, m_28⟩ : Tb)) hp hlt (Qb w S) (fq0.mono (hw.but hF ho)) (hw.but hF ho _ _ hc0) rfl (f2.mono (hw.but hF ho)) h_t140) call61 rfl) rfl rfl rfl (fun ⟨p_10, p_11, p_12, p_13, p_14⟩ => ?_)
          refine ub 0 1 rfl rfl<|ub 1 2 rfl rfl<|ub 2 3 rfl rfl<|Qj 3 rfl<|Qj 6 rfl<|Qj 7 rfl<|?_
          refine Qw (vs := [.agg #[i6 t140.1.Tag, i6 t140.1.Value.kah, str t140.1.Value.kai, sl p_10 t140.1.Value.kaj.length, sl p_11 t140.1.Value.kag.length, sl p_12 t140.1.Value.kaf.length]]) (cs := [i6 t140.1.Tag, i6 t140.1.Value.kah, str t140.1.Value.kai, sl p_10 t140.1.Value.kaj.length, sl p_11 t140.1.Value.kag.length, sl p_12 t140.1.Value.kaf.length]) Try.underlying24 Try.sizeOf72 zeroValue72 rfl rfl rfl rfl rfl rfl rfl (fun b3 => ?_)
          try dsimp only [z1,z2,z5,z6,z7,z8]
          refine Ua (Φ := fun H_ => FrS H_ 1 (sl p_10 t140.1.Value.kaj.length) (t140.1.Value.kaj.map Qa)) 4 6 rfl rfl (by decide) (fun _ _ => Xb) (Jdl _) (fun hp_3 hle hf => ?_)
          try dsimp only [z1,z2,z5,z6,z7,z8]
          refine Ua (Φ := fun H_ => FrS H_ 2 (sl p_11 t140.1.Value.kag.length) (t140.1.Value.kag.map Jl)) 4 7 rfl rfl (by decide) (fun _ _ => Xb) (Jdl _) (fun hp_4 hle_2 hf_2 => ?_)
          refine Jbt 8 rfl (fun hp_5 css_3 hn pf_4 => ?_)
          rw [hn]
          try dsimp only [z1,z2,z5,z6,z7,z8]
          refine Qj 8 rfl ?_
          try dsimp only [z1,z2,z5,z6,z7,z8]
          refine Yi 4 8 rfl rfl (by decide) (fun _ _ => Xb) (fun hp_6 hle_3 hle_4 => ?_)
          try dsimp only [z1,z2,z5,z6,z7,z8]
          refine Ua (Φ := fun H_ => FrS H_ 6 (sl p_12 css_3.length) (css_3.map idC)) 4 10 rfl rfl (by decide) (fun _ _ => Xb) (Jdl _) (fun hp_7 hle_5 hf_3 => ?_)
          obtain ⟨l142, h_l142, H94⟩ := Je H93; clear H93
          refine Qf (Jad (i := 5) (k := 9) (p := p_9) (f := idC) (ys := css_2) (ls := [[i6 t140.1.Tag, i6 t140.1.Value.kah, str t140.1.Value.kai, sl p_10 t140.1.Value.kaj.length, sl p_11 t140.1.Value.kag.length, sl p_12 css_3.length]]) Try.underlying24 (Qu Try.typeInfo72) rfl rfl rfl rfl rfl rfl rfl rfl rfl rfl rfl rfl rfl rfl (by simp only [idC, List.map_cons, List.map_nil, List.all_cons, List.all_nil, (((hf.mono hle_2).mono hle_3).mono hle_5).one, ((hf_2.mono hle_3).mono hle_5).one, (Wu (xs := t140.1.Value.kaf) hf_3 ((pf_4.mono hle_4).mono hle_5)).one] <;> rfl) (app63 (((((pf_3.mono hle).mono hle_2).mono hle_3).mono hle_5).app h_l142 (nc := [[i6 t140.1.Tag, i6 t140.1.Value.kah, str t140.1.Value.kai, sl p_10 t140.1.Value.kaj.length, sl p_11 t140.1.Value.kag.length, sl p_12 css_3.length]]) rfl)) rfl) rfl rfl rfl (fun p_15 => ?_)
          have pf_5 : AllC g_tag_Entry hp_7 6 (css_2 ++ [[i6 t140.1.Tag, i6 t140.1.Value.kah, str t140.1.Value.kai, sl p_10 t140.1.Value.kaj.length, sl p_11 t140.1.Value.kag.length, sl p_12 css_3.length]]) l142 := AllC.snocG ((((pf_3.mono hle).mono hle_2).mono hle_3).mono hle_5) h_l142 rfl ((g_tag_Entry_iff.2 ⟨rfl, ⟨rfl, rfl, (((hf.mono hle_2).mono hle_3).mono hle_5), ((hf_2.mono hle_3).mono hle_5), (Wu (xs := t140.1.Value.kaf) hf_3 ((pf_4.mono hle_4).mono hle_5))⟩⟩))
          refine ag (sl p_15 ((css_2 ++ [[i6 t140.1.Tag, i6 t140.1.Value.kah, str t140.1.Value.kai, .slice p_10.1 t140.1.Value.kaj.length p_10.2, .slice p_11.1 t140.1.Value.kag.length p_11.2, .slice p_12.1 css_3.length p_12.2]]).length))<|Jd<|?_
          try dsimp only [z1,z2,z5,z6,z7,z8]
          refine Ja<|mv (i6 x10_2)<|?_
          obtain ⟨t111, h_t111, H95⟩ := Je H94; clear H94
          refine lv (J4 rfl rfl h_t111)<|ag (i6 t111)<|Jd<|?_
          try dsimp only [z1,z2,z5,z6,z7,z8]
          exact cl (x1_2, x7_3, x9_2, t111, t140.2.1, t140.2.2.s_, t140.2.2.kab, t140.2.2.kad, t140.2.2.kac, t140.2.2.no_, t140.2.2.kaa, t140.2.2.kae, l142) (hp_7, p_13, p_14, (css_2 ++ [[i6 t140.1.Tag, i6 t140.1.Value.kah, str t140.1.Value.kai, sl p_10 t140.1.Value.kaj.length, sl p_11 t140.1.Value.kag.length, sl p_12 css_3.length]]), p_15) m4 [0, 1, 2, 3, 4, 5] (by exact ⟨(by subst hn4; exact H95), pf_5⟩)
        ·refine Xy ?_
         exact cl (x7_3, m_23, m_24, m_25, m_26, m_27, m_28, l_7, mp_5, l_8) (hp_2, p_8, b_4, css_2, p_9) 0 [0, 1, 2, 3, 4, 5] (by exact ⟨H107, pf_3⟩)
       ·refine pa<|pa<|pa<|pa<|pa<|pF (.bool false)<|Jd<|?_
        try dsimp only [z1,z2,z5,z6,z7,z8]
        refine Wr rfl<|Xy<|?_
        exact cl (x7_3, m_23, m_24, m_25, m_26, m_27, m_28, l_7, mp_5, l_8) (hp_2, p_8, b_4, css_2, p_9) 0 [0, 1, 2, 3, 4, 5] (by exact ⟨H108, pf_3⟩)
      ·rintro ⟨x7, m_11, m_12, m_13, m_14, m_15, m_16, l_3, mp_3, l_4⟩ ⟨hp, p_6, b_3, css, p_7⟩ gg H85 pf
       try dsimp only at H85
       try dsimp only
       refine Jc<|Ja<|mv (sl p_7 css.length)<|mv (i6 x7)<|ag (sl p_7 css.length)<|ag (i6 x7)<|Jd<|?_
       try dsimp only [z1,z2,z5,z6,z7,z8]
       refine Jr ?_
       try dsimp only [z1, z2, z3, z4, z5, z6, z7, z8]
       obtain rfl := sj H85
       refine bo 4 5 rfl rfl<|Xl 4 rfl (Zc (p := p_7) rfl pf)<|bo 3 4 rfl rfl<|bo 2 3 rfl rfl<|bo 1 2 rfl rfl<|bo 0 1 rfl rfl<|?_
       refine Jah (v1 := sl p_7 css.length) (v2 := i6 x7) rfl rfl rfl (Y9 (p_7, p_6, b_3) (i := 0) rfl (by first | rfl | rw [(show css.length = l_4.length from pf.len)]) (by first | exact Imp.refl _ | exact Imp.of (by rw [(show css.length = l_4.length from pf.len)] <;> rfl)))
theorem k40c {q0 : (List Int)} {vq0 : Value} {c0 : Nat} {q1 : Int} {pbq1 : Nat} {a0 : Tb} {pb0 : Nat} {p0_2 : AN} {n0_2 : Nat} {m0_3 : Nat} {a1 : Int} {a2 : (List Int)} {v2 : Value} {r : (List Ta) × Int × Int × Tb} {w : World} {h : Jt} {S : Nat → Prop} (hcs : (Jv (Jf pbq1 [i6 q1] 3) (Jv (Jf pb0 [str a0.s_, .bool a0.kab, sl p0_2 n0_2, .map (some m0_3), i6 a0.kad, .func (.func 14) #[] #[pz c0, pz pbq1], i6 a0.no_] 88) (Jv (J3 94 2 (sl p0_2 n0_2) n0_2 (a0.kaa.map Jk)) (X8 i6 Value.bool m0_3 a0.kae)))).P S w) (hlt : ∀ b, S b → b < w.heap.size) (hw : Know h w S) (fq0 : FrS h 1 vq0 (q0.map Qa)) (hc0 : h c0 = some (.cells (List.toArray [vq0]) 22 (0, 0))) (hn0_2 : n0_2 = a0.kaa.length) (f2 : FrS h 1 v2 (a2.map Qa)) (H : Jal q0 q1 a0 a1 a2 = some r) : Does prog 40 (List.toArray [pz pb0, i6 a1, v2]) w (fun v w' => ∃ x : AN × AN × Nat, v = (.tuple #[.slice x.1.1 r.1.length x.1.2, i6 r.2.1]) ∧ Turn w w' S (Jv (Jf pbq1 [i6 r.2.2.1] 3) (Jv (Jf pb0 [str r.2.2.2.s_, .bool r.2.2.2.kab, .slice x.2.1.1 r.2.2.2.kaa.length x.2.1.2, .map (some x.2.2), i6 r.2.2.2.kad, .func (.func 14) #[] #[pz c0, pz pbq1], i6 r.2.2.2.no_] 88) (Jv (J3 94 2 (.slice x.2.1.1 r.2.2.2.kaa.length x.2.1.2) r.2.2.2.kaa.length (r.2.2.2.kaa.map Jk)) (Jv (X8 i6 Value.bool x.2.2 r.2.2.2.kae) (Vw 72 6 g_tag_Entry (.slice x.1.1 r.1.length x.1.2) r.1.length r.1)))))) := by
 obtain ⟨mm, hm⟩ := Jfx (show Wq (fun (self : ((List Int) × Int × Tb × Int × (List Int)) → Option ((List Ta) × Int × Int × Tb)) (s : (List Int) × Int × Tb × Int × (List Int)) => Qh self s.1 s.2.1 s.2.2.1 s.2.2.2.1 s.2.2.2.2) (q0, q1, a0, a1, a2) = some r from H)
 exact k40c_it mm hcs hlt hw fq0 hc0 hn0_2 f2 hm
end Go.Proofs.Ythljoadplekgnaa
