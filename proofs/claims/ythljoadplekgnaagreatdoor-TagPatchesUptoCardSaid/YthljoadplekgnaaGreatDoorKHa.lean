/- TagPatches, checks: the walks, printed by our generator; each follows its model. Conditions: the model yields a value. -/
import Derived.Test.YthljoadplekgnaaGreatDoorMd
import Derived.Test.YthljoadplekgnaaGreatDoorLx2
import Derived.Test.YthljoadplekgnaaGreatDoorProg
namespace Go.Proofs.YthljoadplekgnaaGreatDoor
open Go Go.Vc Go.Md Go.M Go.Lx Tryz
set_option maxRecDepth 100000
set_option maxHeartbeats 4000000
abbrev kSz (n k : Nat) : Prop := ∀ w, (Go.sizeOf n).run prog w = .ok k w
abbrev kAg (n : Nat) (b : Bool) : Prop := ∀ w, (Go.isAgg n).run prog w = .ok b w
abbrev kUn (n : Nat) (t : TypeDesc) : Prop := prog.underlying n = some t
abbrev kCl (n : Nat) : Prop := ∀ a w, (callFunc n a).run prog w = .ok (.enter n a) w
theorem kbe : kCl 31 := Tryz.call31
theorem kbf : kCl 65 := Tryz.call65
theorem kbg : kAg 22 false := Tryz.isAgg22
theorem kbh : kAg 24 false := Tryz.isAgg24
theorem kbi : kAg 26 true := Tryz.isAgg26
theorem kbj : kAg 27 false := Tryz.isAgg27
theorem kbk : kAg 3 false := Tryz.isAgg3
theorem kbl : kAg 32 false := Tryz.isAgg32
theorem kbm : kAg 34 true := Tryz.isAgg34
theorem kbn : kAg 35 false := Tryz.isAgg35
theorem kbo : kAg 4 false := Tryz.isAgg4
theorem kbp : kAg 9 false := Tryz.isAgg9
theorem kcb : kSz 22 1 := Tryz.sizeOf22
theorem kcc : kSz 23 1 := Tryz.sizeOf23
theorem kcd : kSz 24 1 := Tryz.sizeOf24
theorem kce : kSz 26 5 := Tryz.sizeOf26
theorem kcf : kSz 27 1 := Tryz.sizeOf27
theorem kcg : kSz 3 1 := Tryz.sizeOf3
theorem kch : kSz 32 1 := Tryz.sizeOf32
theorem kci : kSz 34 2 := Tryz.sizeOf34
theorem kcj : kSz 35 1 := Tryz.sizeOf35
theorem kck : kSz 4 1 := Tryz.sizeOf4
theorem kcl : kSz 44 1 := Tryz.sizeOf44
theorem kcm : kSz 82 2 := Tryz.sizeOf82
theorem kcn : kSz 9 1 := Tryz.sizeOf9
theorem kco : kSz 95 6 := Tryz.sizeOf95
theorem kcp : kSz 98 2 := Tryz.sizeOf98
theorem kcr : kUn 22 (.slice 3) := Tryz.underlying22
theorem kcs : kUn 23 (.slice 98) := Tryz.underlying23
theorem kct : kUn 24 (.slice 95) := Tryz.underlying24
theorem kcu : kUn 32 (.slice 24) := Tryz.underlying32
theorem kcv : kUn 35 (.slice 82) := Tryz.underlying35
theorem kcw : kUn 44 (.slice 5) := Tryz.underlying44
theorem kcx : prog.underlying 9 = some .string := Tryz.underlying9
theorem mixed : prog.follows .mixedOrders = true := by kernel_rfl
abbrev J8 (x : Int) : List Value := [i6 x]
abbrev Yh : Nat → Value
  | 0 => .func (.func 44) #[] #[]
  | _ => .nilFunc
def Jce (m : ((List Int) → Int → Option (Unit))) (w : World) (args : List Value) (post : Value → World → Prop) : Prop :=
  ∃ (a0 : (List Int)) (v0 : Value) (a1 : Int) (r : Unit), FrS (fun b => w.heap[b]?) 1 v0 (a0.map J8) ∧ args = [v0, i6 a1] ∧ m a0 a1 = some r ∧ post = fun v' w' => v' = (.tuple #[]) ∧ Grow w w'
abbrev Jl (x : Tg) : List Value := [i6 x.Num, i6 x.Den]
abbrev Jh (x : Tc) : List Value := [i6 x.From, i6 x.To]
abbrev W0 (x : Int) : List Value := [.int .u8 x]
abbrev Jfh (x : (List UInt8)) : List Value := [str x]
inductive g_tag_Entry (h : J1) : (Nat → Value) → Ta → Prop
  | mk {c : Nat → Value} {x : Ta} (h0 : c 0 = i6 x.Tag) (h1 : c 1 = i6 x.Value.kai) (h2 : c 2 = str x.Value.kaj) (h3 : FrS h 1 (c 3) (x.Value.kak.map J8)) (h4 : FrS h 2 (c 4) (x.Value.kah.map Jl)) (h5 : FrS h 6 (c 5) ((List.range x.Value.kag.l).map (elC h (c 5) 6))) (h6 : ∀ (i : Nat) (y : Ta), x.Value.kag[i]? = some y → g_tag_Entry h (Xd h (c 5) 6 i) y) : g_tag_Entry h c x
instance : Mon g_tag_Entry := ⟨fun k c x f => by
  induction f with
  | mk h0 h1 h2 h3 h4 h5 h6 ih => exact .mk h0 h1 h2 (h3.mono k) (h4.mono k) (frsMono h5 k) (fun i y hy => by have e_ := elMonoE h5 k hy; rw [← e_]; exact ih i y hy)⟩
def gs_int (h : J1) (c : Nat → Value) (x : (List Int)) : Prop := FrS h 1 (c 0) (x.map J8)
instance : Mon gs_int := ⟨fun k _ _ f => FrS.mono f k⟩
def gs_tag_Ratio (h : J1) (c : Nat → Value) (x : (List Tg)) : Prop := FrS h 2 (c 0) (x.map Jl)
instance : Mon gs_tag_Ratio := ⟨fun k _ _ f => FrS.mono f k⟩
def gs_tag_Entry (h : J1) (c : Nat → Value) (x : (List Ta)) : Prop := FrN h 6 (c 0) g_tag_Entry x
instance : Mon gs_tag_Entry := ⟨fun k _ _ f => FrN.mono f k⟩
theorem Jan {h : J1} {c : Nat → Value} {x : (List Ta)} (_ : gs_tag_Entry h c x) : (List.range 1).map c = [c 0] := rfl
def g_tag_Value (h : J1) (c : Nat → Value) (x : Te) : Prop := c 0 = i6 x.kai ∧ c 1 = str x.kaj ∧ gs_int h (fun j => c (2 + j)) x.kak ∧ gs_tag_Ratio h (fun j => c (3 + j)) x.kah ∧ gs_tag_Entry h (fun j => c (4 + j)) x.kag
instance : Mon g_tag_Value := ⟨fun k _ _ f => by obtain ⟨h0, h1, h2, h3, h4⟩ := f; exact ⟨h0, h1, Mon.mono k _ _ h2, Mon.mono k _ _ h3, Mon.mono k _ _ h4⟩⟩
theorem cg_tag_Value {h : J1} {c : Nat → Value} {x : Te} (f : g_tag_Value h c x) : (List.range 5).map c = [i6 x.kai, str x.kaj, c 2, c 3, c 4] := by
  obtain ⟨h0, h1, h2, h3, h4⟩ := f
  show [c 0, c 1, c 2, c 3, c 4] = _
  simp only [h0, h1]
theorem Q0 {h : J1} {c : Nat → Value} {x : Te} (f : g_tag_Value h c x) : gs_int h (fun j => c (2 + j)) x.kak := by
  obtain ⟨h0, h1, h2, h3, h4⟩ := f; exact h2
theorem Q1 {h : J1} {c : Nat → Value} {x : Te} (f : g_tag_Value h c x) : gs_tag_Ratio h (fun j => c (3 + j)) x.kah := by
  obtain ⟨h0, h1, h2, h3, h4⟩ := f; exact h3
theorem Qm {h : J1} {c : Nat → Value} {x : Te} (f : g_tag_Value h c x) : gs_tag_Entry h (fun j => c (4 + j)) x.kag := by
  obtain ⟨h0, h1, h2, h3, h4⟩ := f; exact h4
theorem g_tag_Entry_iff {h : J1} {c : Nat → Value} {x : Ta} : g_tag_Entry h c x ↔ (c 0 = i6 x.Tag ∧ g_tag_Value h (fun j => c (1 + j)) x.Value) :=
  ⟨fun f => by cases f with | mk h0 h1 h2 h3 h4 h5 h6 => exact ⟨h0, ⟨h1, h2, h3, h4, ⟨h5, h6⟩⟩⟩, fun ⟨h0, ⟨h1, h2, h3, h4, ⟨h5, h6⟩⟩⟩ => .mk h0 h1 h2 h3 h4 h5 h6⟩
theorem Yd {h : J1} {c : Nat → Value} {x : Ta} (f : g_tag_Entry h c x) : (List.range 6).map c = [i6 x.Tag, i6 x.Value.kai, str x.Value.kaj, c 3, c 4, c 5] := by
  obtain ⟨h0, h1⟩ := g_tag_Entry_iff.1 f
  have hc1 := cg_tag_Value h1
  simp only [List.range, List.range.loop, List.map_cons, List.map_nil, Nat.reduceAdd, List.cons.injEq, and_true] at hc1
  show [c 0, c 1, c 2, c 3, c 4, c 5] = _
  simp only [h0, hc1]
theorem Jo {h : J1} {c : Nat → Value} {x : Ta} (f : g_tag_Entry h c x) : g_tag_Value h (fun j => c (1 + j)) x.Value := by
  obtain ⟨h0, h1⟩ := g_tag_Entry_iff.1 f; exact h1
def Wx (m : (Ta → Int → Option (Int))) (w : World) (args : List Value) (post : Value → World → Prop) : Prop :=
  ∃ (a0 : Ta) (v0_1_2 : Value) (v0_1_3 : Value) (v0_1_4 : Value) (a1 : Int) (r : Int), FrS (fun b => w.heap[b]?) 1 v0_1_2 (a0.Value.kak.map J8) ∧ FrS (fun b => w.heap[b]?) 2 v0_1_3 (a0.Value.kah.map Jl) ∧ FrN (fun b => w.heap[b]?) 6 v0_1_4 g_tag_Entry a0.Value.kag ∧ args = [.agg #[i6 a0.Tag, i6 a0.Value.kai, str a0.Value.kaj, v0_1_2, v0_1_3, v0_1_4], i6 a1] ∧ m a0 a1 = some r ∧ post = fun v' w' => v' = (i6 r) ∧ Grow w w'
theorem k44 {a0 : (List Int)} {v0 : Value} {a1 : Int} {r : Unit} {w : World} {h : J1} (hw : Know h w Z0) (f0 : FrS h 1 v0 (a0.map J8)) (H : Jgu a0 a1 = some r) : Does prog 44 (List.toArray [v0, i6 a1]) w (fun v w' => v = (.tuple #[]) ∧ Grow w w') := by
 refine enter (n := 4) func44 rfl rfl rfl Z0 [] (Sat.nil _ _)<|Jj<|?_
 cases H
 refine Jgy rfl (fin rfl)
theorem hft39 (k : Nat) : FnV prog (Yh k) (mft39 k) (fun g => Jce g) :=
  match k with
  | 0 => (show FnV prog (Yh 0) (mft39 0) _ from (FnV.mk (g := Jgu) (R := fun g => Jce g) (fun h_ => (FnH.mk ⟨44, #[], #[], rfl, call44, fun args2 post2 w2 hk2 hR2 => by obtain ⟨a0_, v0_, a1_, r_, fa0_, rfl, H_, rfl⟩ := hR2; exact k44 (Jq w2) fa0_ H_⟩))))
  | _ + 1 => FnV.nil
theorem k75 {a0 : (List Ta)} {v0 : Value} {a1 : Int} {a2 : (Ta → Int → Option (Int))} {v2 : Value} {r : Int × Bool} {w : World} {h : J1} (hw : Know h w Z0) (f0 : FrN h 6 v0 g_tag_Entry a0) (f2 : FnH prog h v2 (Wx a2)) (H : Yc a0 a1 a2 = some r) : Does prog 75 (List.toArray [v0, i6 a1, v2]) w (fun v w' => v = (.tuple #[i6 r.1, .bool r.2]) ∧ Grow w w') := by
 refine enter (n := 49) func75 rfl rfl rfl Z0 [] (Sat.nil _ _)<|Jc<|Ja<|ag (i6 0)<|ag (.bool false)<|Jd<|Jc<|Ja<|mv v0<|lv (Z2 kct rfl f0)<|ag (i6 (a0.l : Int))<|Jd<|Jc<|Ja<|mv (i6 (a0.l : Int))<|ag (i6 0)<|ag (i6 (a0.l : Int))<|Jd<|?_
 refine Qg (r := r) (σ := Int) (τ := Unit) (fun s => Xe a0 a1 a2 s) (fun s t => [(0, v0), (1, i6 a1), (2, v2), (8, i6 (a0.l : Int)), (9, i6 s)]) (fun s t => []) (fun s t => True) ?_ ?_
 ·refine Jx ?_
  refine Za (σ := Int × Int) (τ := Unit) (fun next2 s => Qz a0 a1 a2 next2 s.1 s.2) (fun s t => [(0, v0), (1, i6 a1), (2, v2), (8, i6 (a0.l : Int)), (9, i6 s.1), (10, i6 s.2)]) (fun s t => []) (fun s t => True) (0, (a0.l : Int)) () [] H (by exact trivial) (by exact ⟨rfl, rfl, rfl, rfl, rfl, rfl, trivial⟩) (by decide) rfl ?_
  rintro ⟨x9_3, x10_2⟩ _ m2 gg H21 _
  clear H
  try dsimp only at H21
  generalize hn2 : it (fun next2 s => Qz a0 a1 a2 next2 s.1 s.2) m2 = next2 at H21
  try dsimp only
  refine Jc<|Jc<|Ja<|mv (i6 x9_3)<|mv (i6 x10_2)<|lv (X3 rfl rfl)<|Jd<|?_
  revert H21
  refine ci (decide (x9_3 < x10_2)) rfl (fun hb H22=>?_) fun hb H30=>?_
  ·refine Jj<|Jx<|Jc<|Ja<|mv (i6 x9_3)<|mv (i6 x10_2)<|?_
   obtain ⟨t20, h_t20, H23⟩ := Je H22; clear H22
   refine lv (Jy rfl rfl h_t20)<|lv (Jcf Tryz.runUnderlying3 runUnderlying99 rfl (wr_u64 _))<|?_
   obtain ⟨t22, h_t22, H24⟩ := Je H23; clear H23
   refine lv (r_shrG rfl rfl rfl h_t22)<|lv (Jcf runUnderlying99 Tryz.runUnderlying3 rfl (Jh0 _))<|ag (i6 (Jap t22))<|Jd<|Jc<|Ja<|mv v2<|mv v0<|mv (i6 (Jap t22))<|?_
   obtain ⟨t27, h_t27, H25⟩ := Je H24; clear H24
   refine lv (Xc kct kco rfl rfl f0.frs (f0.ix h_t27))<|Xs (fun w hF hS => Z5 (f := (elC h v0 6)) (i := (Jap t22)) (sz := 6) (j := 0) (vs := [i6 t27.Tag, i6 t27.Value.kai, str t27.Value.kaj, (Xd h v0 6 (Int.toNat (Jap t22)) 3), (Xd h v0 6 (Int.toNat (Jap t22)) 4), (Xd h v0 6 (Int.toNat (Jap t22)) 5)]) isAgg95 kco rfl rfl (f0.frs.row (hw.now hF)) (f0.ix h_t27) (rd_of (Yd (f0.at h_t27)) rfl)) rfl rfl rfl<|mv (i6 a1)<|?_
   obtain ⟨t30, h_t30, H26⟩ := Je H25; clear H25
   refine l_callV (R := Wx a2) (r := i6 t30) (v := v2) (fun w hF hS => ⟨(f2.mono (hw.now hF)), ⟨t27, _, _, _, a1, _, ((show FrS h 1 (Xd h v0 6 (Int.toNat (Jap t22)) 3) (t27.Value.kak.map J8) from (Q0 (Jo (f0.at h_t27)))).mono (hw.now hF)), ((show FrS h 2 (Xd h v0 6 (Int.toNat (Jap t22)) 4) (t27.Value.kah.map Jl) from (Q1 (Jo (f0.at h_t27)))).mono (hw.now hF)), ((show FrN h 6 (Xd h v0 6 (Int.toNat (Jap t22)) 5) g_tag_Entry t27.Value.kag from (Qm (Jo (f0.at h_t27)))).mono (hw.now hF)), rfl, h_t30, rfl⟩⟩) rfl rfl rfl rfl<|lv (X3 rfl rfl)<|Jd<|?_
   revert H26
   refine ci (decide (t30 < 0)) rfl (fun hb H27=>?_) fun hb H29=>?_
   ·refine Ja<|mv (i6 (Jap t22))<|?_
    obtain ⟨t33, h_t33, H28⟩ := Je H27; clear H27
    refine lv (Jy rfl rfl h_t33)<|ag (i6 t33)<|Jd<|?_
    exact cl (t33, x10_2) () m2 [] (by exact ⟨(by subst hn2; exact H28), trivial⟩)
   ·refine Ja<|mv (i6 (Jap t22))<|ag (i6 (Jap t22))<|Jd<|?_
    exact cl (x9_3, (Jap t22)) () m2 [] (by exact ⟨(by subst hn2; exact H29), trivial⟩)
  ·refine Xj ?_
   exact cl x9_3 () 0 [] (by exact ⟨H30, trivial⟩)
 ·rintro x9 _ gg H16 _
  try dsimp only at H16
  try dsimp only
  refine Jc<|Ja<|mv (i6 x9)<|mv (i6 x9)<|mv (i6 (a0.l : Int))<|lv (X3 rfl rfl)<|mv (.bool (decide (x9 < (a0.l : Int))))<|?_
  revert H16
  refine sp (fun hb H17=>?_) fun hb H20=>?_
  ·refine mv v2<|mv v0<|mv (i6 x9)<|?_
   obtain ⟨t43, h_t43, H18⟩ := Je H17; clear H17
   refine lv (Xc kct kco rfl rfl f0.frs (f0.ix h_t43))<|Xs (fun w hF hS => Z5 (f := (elC h v0 6)) (i := x9) (sz := 6) (j := 0) (vs := [i6 t43.Tag, i6 t43.Value.kai, str t43.Value.kaj, (Xd h v0 6 (Int.toNat x9) 3), (Xd h v0 6 (Int.toNat x9) 4), (Xd h v0 6 (Int.toNat x9) 5)]) isAgg95 kco rfl rfl (f0.frs.row (hw.now hF)) (f0.ix h_t43) (rd_of (Yd (f0.at h_t43)) rfl)) rfl rfl rfl<|mv (i6 a1)<|?_
   obtain ⟨t46, h_t46, H19⟩ := Je H18; clear H18
   refine l_callV (R := Wx a2) (r := i6 t46) (v := v2) (fun w hF hS => ⟨(f2.mono (hw.now hF)), ⟨t43, _, _, _, a1, _, ((show FrS h 1 (Xd h v0 6 (Int.toNat x9) 3) (t43.Value.kak.map J8) from (Q0 (Jo (f0.at h_t43)))).mono (hw.now hF)), ((show FrS h 2 (Xd h v0 6 (Int.toNat x9) 4) (t43.Value.kah.map Jl) from (Q1 (Jo (f0.at h_t43)))).mono (hw.now hF)), ((show FrN h 6 (Xd h v0 6 (Int.toNat x9) 5) g_tag_Entry t43.Value.kag from (Qm (Jo (f0.at h_t43)))).mono (hw.now hF)), rfl, h_t46, rfl⟩⟩) rfl rfl rfl rfl<|lv (Qj rfl rfl)<|pT (.bool (decide (t46 = 0)))<|ag (i6 x9)<|ag (.bool (decide (t46 = 0)))<|Jd<|Jm<|?_
   obtain rfl := sj H19
   refine U9 (v1 := i6 x9) (v2 := .bool (decide (t46 = 0))) rfl rfl rfl (fin rfl)
  ·refine pa<|pa<|pa<|pa<|pa<|pa<|pa<|pa<|pF (.bool false)<|ag (i6 x9)<|ag (.bool false)<|Jd<|Jm<|?_
   obtain rfl := sj H20
   refine U9 (v1 := i6 x9) (v2 := .bool false) rfl rfl rfl (fin rfl)
theorem k76 {a0 : Ta} {v0_1_2 : Value} {v0_1_3 : Value} {v0_1_4 : Value} {a1 : Int} {r : Int} {w : World} {h : J1} (hw : Know h w Z0) (f0_1_2 : FrS h 1 v0_1_2 (a0.Value.kak.map J8)) (f0_1_3 : FrS h 2 v0_1_3 (a0.Value.kah.map Jl)) (f0_1_4 : FrN h 6 v0_1_4 g_tag_Entry a0.Value.kag) (H : Jdp a0 a1 = some r) : Does prog 76 (List.toArray [.agg #[i6 a0.Tag, i6 a0.Value.kai, str a0.Value.kaj, v0_1_2, v0_1_3, v0_1_4], i6 a1]) w (fun v w' => v = (i6 r) ∧ Grow w w') := by
 refine enter (n := 15) func76 rfl rfl rfl Z0 [] (Sat.nil _ _)<|Jc<|Ja<|?_
 refine W1 (cs := [i6 a0.Tag, i6 a0.Value.kai, str a0.Value.kaj, v0_1_2, v0_1_3, v0_1_4]) rfl rfl rfl rfl (fun b1 => ?_)
 refine ag (i6 0)<|Jd<|Jc<|Jx<|Jc<|Ja<|lf Tryz.runUnderlying95 rfl kcg rfl<|ll 0 (i6 a0.Tag) kbk<|mv (i6 a1)<|lv (X3 rfl rfl)<|ag (.bool (decide (a0.Tag < a1)))<|Jd<|?_
 revert H
 refine ci (decide (a0.Tag < a1)) rfl (fun hb H5=>?_) fun hb H6=>?_
 ·refine Jc<|Ja<|ag (i6 (-1))<|Jd<|Jm<|?_
  obtain rfl := sj H5
  exact r1 (i6 (-1))
 ·refine Jc<|Ja<|lf Tryz.runUnderlying95 rfl kcg rfl<|ll 0 (i6 a0.Tag) kbk<|mv (i6 a1)<|lv (Yf rfl rfl)<|ag (.bool (decide (a1 < a0.Tag)))<|Jd<|?_
  revert H6
  refine ci (decide (a1 < a0.Tag)) rfl (fun hb H7=>?_) fun hb H8=>?_
  ·refine Jc<|Ja<|ag (i6 1)<|Jd<|Jm<|?_
   obtain rfl := sj H7
   exact r1 (i6 1)
  ·refine Jj<|Jc<|Ja<|ag (i6 0)<|Jd<|Jm<|?_
   obtain rfl := sj H8
   exact r1 (i6 0)
theorem k41 {a0 : (List Ta)} {v0 : Value} {a1 : Int} {r : Int × Bool} {w : World} {h : J1} (hw : Know h w Z0) (f0 : FrN h 6 v0 g_tag_Entry a0) (H : Jd3 a0 a1 = some r) : Does prog 41 (List.toArray [v0, i6 a1]) w (fun v w' => v = (.tuple #[i6 r.1, .bool r.2]) ∧ Grow w w') := by
 refine enter (n := 11) func41 rfl rfl rfl Z0 [] (Sat.nil _ _)<|Jc<|Ja<|ag (i6 0)<|ag (.bool false)<|Jd<|Jc<|Ja<|mv v0<|mv (i6 a1)<|?_
 obtain ⟨t8, h_t8, H2⟩ := Je H; clear H
 refine Qb (fun w hF hS => k75 (Jq w) (f0.mono (hw.now hF)) (FnH.mk ⟨76, #[], #[], rfl, call76, fun args2 post2 w2 hk2 hR2 => by obtain ⟨a0_, v0_1_2_, v0_1_3_, v0_1_4_, a1_, r_, fa0_1_2_, fa0_1_3_, fa0_1_4_, rfl, H_, rfl⟩ := hR2; exact k76 (Jq w2) fa0_1_2_ fa0_1_3_ fa0_1_4_ H_⟩) h_t8) call75 rfl rfl rfl<|lv (J9 (v := i6 t8.1) rfl rfl)<|lv (J9 (v := .bool t8.2) rfl rfl)<|ag (i6 t8.1)<|ag (.bool t8.2)<|Jd<|Jm<|?_
 obtain rfl := sj H2
 refine U9 (v1 := i6 t8.1) (v2 := .bool t8.2) rfl rfl rfl (fin rfl)
theorem k72 {a0 : Int} {a1 : Int} {a2 : Int} {r : Bool} (H : Uw a0 a1 a2 = some r) : Ret prog 72 [i6 a0, i6 a1, i6 a2] (.bool r) := by
 refine Va (n := 15) func72 rfl rfl rfl (fun wd => ?_)
 refine Jc<|Ja<|ag (.bool false)<|Jd<|Jc<|Ja<|mv (i6 a0)<|mv (i6 a1)<|lv (X3 rfl rfl)<|mv (.bool (decide (a0 < a1)))<|?_
 revert H
 refine sp (fun hb H3=>?_) fun hb H4=>?_
 ·refine pa<|pa<|pa<|pT (.bool true)<|ag (.bool true)<|Jd<|Jm<|?_
  obtain rfl := sj H3
  exact r1 (.bool true)
 ·refine mv (i6 a0)<|mv (i6 a2)<|lv (Yf rfl rfl)<|pF (.bool (decide (a2 < a0)))<|ag (.bool (decide (a2 < a0)))<|Jd<|Jm<|?_
  obtain rfl := sj H4
  exact r1 (.bool (decide (a2 < a0)))
theorem k43 {a0 : Int} {r : Int} (H : Z4 a0 = some r) : Ret prog 43 [i6 a0] (i6 r) := by
 refine Va (n := 16) func43 rfl rfl rfl (fun wd => ?_)
 refine Jc<|Ja<|ag (i6 0)<|Jd<|Jc<|Jc<|Ja<|mv (i6 a0)<|Jd<|Jx<|?_
 refine Qg (r := r) (σ := Bool) (τ := Unit) (fun s => Jai a0 s) (fun s t => [(3, i6 a0), (4, .bool s)]) (fun s t => []) (fun s t => True) ?_ ?_
 ·refine Jc<|Ja<|lv (Qj rfl rfl)<|ag (.bool (decide (a0 = 1)))<|Jd<|?_
  revert H
  refine ci (decide (a0 = 1)) rfl (fun hb H37=>?_) fun hb H38=>?_
  ·refine Jj ?_
   exact cl (decide (a0 = 1)) () 0 [] (by exact ⟨H37, trivial⟩)
  ·refine Jc<|Ja<|lv (Qj rfl rfl)<|ag (.bool (decide (a0 = 2)))<|Jd<|?_
   revert H38
   refine ci (decide (a0 = 2)) rfl (fun hb H39=>?_) fun hb H40=>?_
   ·refine Jj ?_
    exact cl (decide (a0 = 2)) () 0 [] (by exact ⟨H39, trivial⟩)
   ·refine Jc<|Ja<|lv (Qj rfl rfl)<|ag (.bool (decide (a0 = 7)))<|Jd<|?_
    revert H40
    refine ci (decide (a0 = 7)) rfl (fun hb H41=>?_) fun hb H42=>?_
    ·refine Jj ?_
     exact cl (decide (a0 = 7)) () 0 [] (by exact ⟨H41, trivial⟩)
    ·refine Ja<|lv (Qj rfl rfl)<|ag (.bool (decide (a0 = 13)))<|Jd<|?_
     exact cl (decide (a0 = 13)) () 0 [] (by exact ⟨H42, trivial⟩)
 ·rintro x4 _ gg H22 _
  try dsimp only at H22
  try dsimp only
  revert H22
  refine ci x4 rfl (fun hb H23=>?_) fun hb H24=>?_
  ·refine Jc<|Ja<|ag (i6 1)<|Jd<|Jm<|?_
   obtain rfl := sj H23
   exact r1 (i6 1)
  ·refine Jc<|Ja<|lv (Qj rfl rfl)<|ag (.bool (decide (a0 = 3)))<|Jd<|?_
   revert H24
   refine ci (decide (a0 = 3)) rfl (fun hb H25=>?_) fun hb H26=>?_
   ·refine Jc<|Ja<|ag (i6 2)<|Jd<|Jm<|?_
    obtain rfl := sj H25
    exact r1 (i6 2)
   ·refine Jc<|Jc<|Ja<|lv (Qj rfl rfl)<|ag (.bool (decide (a0 = 4)))<|Jd<|?_
    revert H26
    refine ci (decide (a0 = 4)) rfl (fun hb H27=>?_) fun hb H32=>?_
    ·refine Jj ?_
     revert H27
     refine ci (decide (a0 = 4)) rfl (fun hb H28=>?_) fun hb H29=>?_
     ·refine Jc<|Ja<|ag (i6 4)<|Jd<|Jm<|?_
      obtain rfl := sj H28
      exact r1 (i6 4)
     ·refine Jc<|Ja<|lv (Qj rfl rfl)<|ag (.bool (decide (a0 = 5)))<|Jd<|?_
      revert H29
      refine ci (decide (a0 = 5)) rfl (fun hb H30=>?_) fun hb H31=>?_
      ·refine Jc<|Ja<|ag (i6 8)<|Jd<|Jm<|?_
       obtain rfl := sj H30
       exact r1 (i6 8)
      ·refine Jj<|Jc<|Ja<|ag (i6 0)<|Jd<|Jm<|?_
       obtain rfl := sj H31
       exact r1 (i6 0)
    ·refine Ja<|lv (Qj rfl rfl)<|ag (.bool (decide (a0 = 9)))<|Jd<|?_
     revert H32
     refine ci (decide (a0 = 9)) rfl (fun hb H33=>?_) fun hb H34=>?_
     ·refine Jc<|Ja<|ag (i6 4)<|Jd<|Jm<|?_
      obtain rfl := sj H33
      exact r1 (i6 4)
     ·refine Jc<|Ja<|lv (Qj rfl rfl)<|ag (.bool (decide (a0 = 5)))<|Jd<|?_
      revert H34
      refine ci (decide (a0 = 5)) rfl (fun hb H35=>?_) fun hb H36=>?_
      ·refine Jc<|Ja<|ag (i6 8)<|Jd<|Jm<|?_
       obtain rfl := sj H35
       exact r1 (i6 8)
      ·refine Jj<|Jc<|Ja<|ag (i6 0)<|Jd<|Jm<|?_
       obtain rfl := sj H36
       exact r1 (i6 0)
theorem k73 {a0 : Int} {r : Bool} (H : Jeh a0 = some r) : Ret prog 73 [i6 a0] (.bool r) := by
 refine Va (n := 17) func73 rfl rfl rfl (fun wd => ?_)
 refine Jc<|Ja<|ag (.bool false)<|Jd<|Jc<|Ja<|mv (i6 a0)<|lv (Qj rfl rfl)<|mv (.bool (decide (a0 = 1)))<|?_
 revert H
 refine sp (fun hb H7=>?_) fun hb H8=>?_
 ·refine pa<|pa<|pT (.bool true)<|mv (.bool true)<|pa<|pa<|pT (.bool true)<|mv (.bool true)<|pa<|pa<|pT (.bool true)<|ag (.bool true)<|Jd<|Jm<|?_
  obtain rfl := sj H7
  exact r1 (.bool true)
 ·refine mv (i6 a0)<|lv (Qj rfl rfl)<|pF (.bool (decide (a0 = 3)))<|mv (.bool (decide (a0 = 3)))<|?_
  revert H8
  refine sp (fun hb H9=>?_) fun hb H10=>?_
  ·refine pa<|pa<|pT (.bool true)<|mv (.bool true)<|pa<|pa<|pT (.bool true)<|ag (.bool true)<|Jd<|Jm<|?_
   obtain rfl := sj H9
   exact r1 (.bool true)
  ·refine mv (i6 a0)<|lv (Qj rfl rfl)<|pF (.bool (decide (a0 = 4)))<|mv (.bool (decide (a0 = 4)))<|?_
   revert H10
   refine sp (fun hb H11=>?_) fun hb H12=>?_
   ·refine pa<|pa<|pT (.bool true)<|ag (.bool true)<|Jd<|Jm<|?_
    obtain rfl := sj H11
    exact r1 (.bool true)
   ·refine mv (i6 a0)<|lv (Qj rfl rfl)<|pF (.bool (decide (a0 = 9)))<|ag (.bool (decide (a0 = 9)))<|Jd<|Jm<|?_
    obtain rfl := sj H12
    exact r1 (.bool (decide (a0 = 9)))
theorem k74 {a0 : Int} {r : Bool} (H : Jej a0 = some r) : Ret prog 74 [i6 a0] (.bool r) := by
 refine Va (n := 9) func74 rfl rfl rfl (fun wd => ?_)
 refine Jc<|Ja<|ag (.bool false)<|Jd<|Jc<|Ja<|mv (i6 a0)<|lv (Qj rfl rfl)<|mv (.bool (decide (a0 = 2)))<|?_
 revert H
 refine sp (fun hb H3=>?_) fun hb H4=>?_
 ·refine pa<|pa<|pT (.bool true)<|ag (.bool true)<|Jd<|Jm<|?_
  obtain rfl := sj H3
  exact r1 (.bool true)
 ·refine mv (i6 a0)<|lv (Qj rfl rfl)<|pF (.bool (decide (a0 = 7)))<|ag (.bool (decide (a0 = 7)))<|Jd<|Jm<|?_
  obtain rfl := sj H4
  exact r1 (.bool (decide (a0 = 7)))
theorem k38 {a0 : Te} {v0_2 : Value} {v0_3 : Value} {v0_4 : Value} {r : Int} {w : World} {h : J1} (hw : Know h w Z0) (f0_2 : FrS h 1 v0_2 (a0.kak.map J8)) (f0_3 : FrS h 2 v0_3 (a0.kah.map Jl)) (f0_4 : FrN h 6 v0_4 g_tag_Entry a0.kag) (H : W3 a0 = some r) : Does prog 38 (List.toArray [.agg #[i6 a0.kai, str a0.kaj, v0_2, v0_3, v0_4]]) w (fun v w' => v = (i6 r) ∧ Grow w w') := by
 refine enter (n := 46) func38 rfl rfl rfl Z0 [] (Sat.nil _ _)<|Jc<|Ja<|?_
 refine W1 (cs := [i6 a0.kai, str a0.kaj, v0_2, v0_3, v0_4]) rfl rfl rfl rfl (fun b1 => ?_)
 refine ag (i6 0)<|Jd<|Jc<|Jx<|Jc<|Ja<|lf Tryz.runUnderlying26 rfl kcg rfl<|ll 0 (i6 a0.kai) kbk<|?_
 obtain ⟨t6, h_t6, H31⟩ := Je H; clear H
 refine Yq (k43 h_t6) call43 rfl rfl rfl<|lv (Qj rfl rfl)<|ag (.bool (decide (t6 = 0)))<|Jd<|?_
 revert H31
 refine ci (decide (t6 = 0)) rfl (fun hb H32=>?_) fun hb H33=>?_
 ·refine Jc<|Ja<|ag (i6 10)<|Jd<|Jm<|?_
  obtain rfl := sj H32
  exact r1 (i6 10)
 ·refine Jc ?_
  refine Qg (r := r) (σ := Bool) (τ := Unit) (fun s => Wr a0 s) (fun s t => [(1, pz b1), (8, .bool s)]) (fun s t => [Jf b1 [i6 a0.kai, str a0.kaj, v0_2, v0_3, v0_4] 26]) (fun s t => True) ?_ ?_
  ·refine Ja<|lf Tryz.runUnderlying26 rfl kcg rfl<|ll 0 (i6 a0.kai) kbk<|?_
   obtain ⟨t11, h_t11, H58⟩ := Je H33; clear H33
   refine Yq (k73 h_t11) call73 rfl rfl rfl<|lv (Ja6 rfl)<|mv (.bool (!t11))<|?_
   revert H58
   refine sp (fun hb H59=>?_) fun hb H60=>?_
   ·refine lf Tryz.runUnderlying26 rfl kcb rfl<|ll 0 v0_2 kbg<|lv (Yz kcr rfl f0_2 rfl)<|lv (Yf rfl rfl)<|pT (.bool (decide (0 < (a0.kak.l : Int))))<|ag (.bool (decide (0 < (a0.kak.l : Int))))<|Jd<|?_
    exact cl (decide (0 < (a0.kak.l : Int))) () 0 [0] (by exact ⟨H59, trivial⟩)
   ·refine pa<|pa<|pa<|pa<|pF (.bool false)<|ag (.bool false)<|Jd<|?_
    exact cl false () 0 [0] (by exact ⟨H60, trivial⟩)
  ·rintro x8 _ gg H34 _
   try dsimp only at H34
   try dsimp only
   revert H34
   refine ci x8 rfl (fun hb H35=>?_) fun hb H38=>?_
   ·refine Jj ?_
    revert H35
    refine ci x8 rfl (fun hb H36=>?_) fun hb H37=>?_
    ·refine Jc<|Ja<|ag (i6 1)<|Jd<|Jm<|?_
     obtain rfl := sj H36
     exact r1 (i6 1)
    ·refine Jj<|Jc<|Ja<|ag (i6 0)<|Jd<|Jm<|?_
     obtain rfl := sj H37
     exact r1 (i6 0)
   ·refine Qg (r := r) (σ := Bool) (τ := Unit) (fun s => Wt a0 s) (fun s t => [(1, pz b1), (8, .bool s)]) (fun s t => [Jf b1 [i6 a0.kai, str a0.kaj, v0_2, v0_3, v0_4] 26]) (fun s t => True) ?_ ?_
    ·refine Ja<|lf Tryz.runUnderlying26 rfl kcg rfl<|ll 0 (i6 a0.kai) kbk<|?_
     obtain ⟨t21, h_t21, H55⟩ := Je H38; clear H38
     refine Yq (k74 h_t21) call74 rfl rfl rfl<|lv (Ja6 rfl)<|mv (.bool (!t21))<|?_
     revert H55
     refine sp (fun hb H56=>?_) fun hb H57=>?_
     ·refine lf Tryz.runUnderlying26 rfl kcn rfl<|ll 0 (str a0.kaj) kbp<|lv (Je0 rfl rfl)<|pT (.bool (decide (a0.kaj ≠ [])))<|ag (.bool (decide (a0.kaj ≠ [])))<|Jd<|?_
      exact cl (decide (a0.kaj ≠ [])) () 0 [0] (by exact ⟨H56, trivial⟩)
     ·refine pa<|pa<|pa<|pF (.bool false)<|ag (.bool false)<|Jd<|?_
      exact cl false () 0 [0] (by exact ⟨H57, trivial⟩)
    ·rintro x8_2 _ gg H39 _
     try dsimp only at H39
     try dsimp only
     revert H39
     refine ci x8_2 rfl (fun hb H40=>?_) fun hb H43=>?_
     ·refine Jj ?_
      revert H40
      refine ci x8_2 rfl (fun hb H41=>?_) fun hb H42=>?_
      ·refine Jc<|Ja<|ag (i6 1)<|Jd<|Jm<|?_
       obtain rfl := sj H41
       exact r1 (i6 1)
      ·refine Jj<|Jc<|Ja<|ag (i6 0)<|Jd<|Jm<|?_
       obtain rfl := sj H42
       exact r1 (i6 0)
     ·refine Qg (r := r) (σ := Bool) (τ := Unit) (fun s => Ws a0 s) (fun s t => [(1, pz b1), (8, .bool s)]) (fun s t => [Jf b1 [i6 a0.kai, str a0.kaj, v0_2, v0_3, v0_4] 26]) (fun s t => True) ?_ ?_
      ·refine Ja<|lf Tryz.runUnderlying26 rfl kcg rfl<|ll 0 (i6 a0.kai) kbk<|lv (Yv rfl rfl)<|mv (.bool (decide (a0.kai ≠ 5)))<|?_
       revert H43
       refine sp (fun hb H53=>?_) fun hb H54=>?_
       ·refine lf Tryz.runUnderlying26 rfl kcc rfl<|ll 0 v0_3 isAgg23<|lv (Yz kcs rfl f0_3 rfl)<|lv (Yf rfl rfl)<|pT (.bool (decide (0 < (a0.kah.l : Int))))<|ag (.bool (decide (0 < (a0.kah.l : Int))))<|Jd<|?_
        exact cl (decide (0 < (a0.kah.l : Int))) () 0 [0] (by exact ⟨H53, trivial⟩)
       ·refine pa<|pa<|pa<|pa<|pF (.bool false)<|ag (.bool false)<|Jd<|?_
        exact cl false () 0 [0] (by exact ⟨H54, trivial⟩)
      ·rintro x8_3 _ gg H44 _
       try dsimp only at H44
       try dsimp only
       revert H44
       refine ci x8_3 rfl (fun hb H45=>?_) fun hb H48=>?_
       ·refine Jj ?_
        revert H45
        refine ci x8_3 rfl (fun hb H46=>?_) fun hb H47=>?_
        ·refine Jc<|Ja<|ag (i6 1)<|Jd<|Jm<|?_
         obtain rfl := sj H46
         exact r1 (i6 1)
        ·refine Jj<|Jc<|Ja<|ag (i6 0)<|Jd<|Jm<|?_
         obtain rfl := sj H47
         exact r1 (i6 0)
       ·refine Ja<|lf Tryz.runUnderlying26 rfl kcg rfl<|ll 0 (i6 a0.kai) kbk<|lv (Yv rfl rfl)<|mv (.bool (decide (a0.kai ≠ 13)))<|?_
        revert H48
        refine sp (fun hb H49=>?_) fun hb H52=>?_
        ·refine lf Tryz.runUnderlying26 rfl kcd rfl<|ll 0 v0_4 kbh<|lv (Z2 kct rfl f0_4)<|lv (Yf rfl rfl)<|pT (.bool (decide (0 < (a0.kag.l : Int))))<|ag (.bool (decide (0 < (a0.kag.l : Int))))<|Jd<|?_
         revert H49
         refine ci (decide (0 < (a0.kag.l : Int))) rfl (fun hb H50=>?_) fun hb H51=>?_
         ·refine Jc<|Ja<|ag (i6 1)<|Jd<|Jm<|?_
          obtain rfl := sj H50
          exact r1 (i6 1)
         ·refine Jj<|Jc<|Ja<|ag (i6 0)<|Jd<|Jm<|?_
          obtain rfl := sj H51
          exact r1 (i6 0)
        ·refine pa<|pa<|pa<|pa<|pF (.bool false)<|ag (.bool false)<|Jd<|Zz rfl<|Jj<|Jc<|Ja<|ag (i6 0)<|Jd<|Jm<|?_
         obtain rfl := sj H52
         exact r1 (i6 0)
theorem k71 {a0 : Int} {r : Int × Int} (H : Jet a0 = some r) : Ret prog 71 [i6 a0] (.tuple #[i6 r.1, i6 r.2]) := by
 refine Va (n := 11) func71 rfl rfl rfl (fun wd => ?_)
 refine Jc<|Ja<|ag (i6 0)<|ag (i6 0)<|Jd<|Jc<|Jc<|Ja<|mv (i6 a0)<|Jd<|Jx<|Jc<|Ja<|lv (Qj rfl rfl)<|ag (.bool (decide (a0 = 1)))<|Jd<|?_
 revert H
 refine ci (decide (a0 = 1)) rfl (fun hb H7=>?_) fun hb H8=>?_
 ·refine Jc<|Ja<|ag (i6 0)<|ag (i6 255)<|Jd<|Jm<|?_
  obtain rfl := sj H7
  refine U9 (v1 := i6 0) (v2 := i6 255) rfl rfl rfl (fin rfl)
 ·refine Jc<|Ja<|lv (Qj rfl rfl)<|ag (.bool (decide (a0 = 3)))<|Jd<|?_
  revert H8
  refine ci (decide (a0 = 3)) rfl (fun hb H9=>?_) fun hb H10=>?_
  ·refine Jc<|Ja<|ag (i6 0)<|ag (i6 65535)<|Jd<|Jm<|?_
   obtain rfl := sj H9
   refine U9 (v1 := i6 0) (v2 := i6 65535) rfl rfl rfl (fin rfl)
  ·refine Jc<|Ja<|lv (Qj rfl rfl)<|ag (.bool (decide (a0 = 9)))<|Jd<|?_
   revert H10
   refine ci (decide (a0 = 9)) rfl (fun hb H11=>?_) fun hb H12=>?_
   ·refine Jc<|Ja<|ag (i6 (-2147483648))<|ag (i6 2147483647)<|Jd<|Jm<|?_
    obtain rfl := sj H11
    refine U9 (v1 := i6 (-2147483648)) (v2 := i6 2147483647) rfl rfl rfl (fin rfl)
   ·refine Jj<|Jc<|Ja<|ag (i6 0)<|ag (i6 4294967295)<|Jd<|Jm<|?_
    obtain rfl := sj H12
    refine U9 (v1 := i6 0) (v2 := i6 4294967295) rfl rfl rfl (fin rfl)
theorem k37 {a0 : Te} {v0_2 : Value} {v0_3 : Value} {v0_4 : Value} {r : Int} {w : World} {h : J1} (hw : Know h w Z0) (f0_2 : FrS h 1 v0_2 (a0.kak.map J8)) (f0_3 : FrS h 2 v0_3 (a0.kah.map Jl)) (f0_4 : FrN h 6 v0_4 g_tag_Entry a0.kag) (H : Jat a0 = some r) : Does prog 37 (List.toArray [.agg #[i6 a0.kai, str a0.kaj, v0_2, v0_3, v0_4]]) w (fun v w' => v = (i6 r) ∧ Grow w w') := by
 refine enter (n := 65) func37 rfl rfl rfl Z0 [] (Sat.nil _ _)<|Jc<|Ja<|?_
 refine W1 (cs := [i6 a0.kai, str a0.kaj, v0_2, v0_3, v0_4]) rfl rfl rfl rfl (fun b2 => ?_)
 refine ag (i6 0)<|Jd<|Jc<|Jc<|Ja<|Xb (i := 0) (vs := [i6 a0.kai, str a0.kaj, v0_2, v0_3, v0_4]) kbi kce rfl rfl rfl rfl rfl<|?_
 obtain ⟨t12, h_t12, H35⟩ := Je H; clear H
 refine Qb (fun w hF hS => k38 (Jq w) (f0_2.mono (hw.now hF)) (f0_3.mono (hw.now hF)) (f0_4.mono (hw.now hF)) h_t12) call38 rfl rfl rfl<|ag (i6 t12)<|Jd<|Jc<|Ja<|mv (i6 t12)<|lv (Yv rfl rfl)<|Jd<|?_
 revert H35
 refine ci (decide (t12 ≠ 0)) rfl (fun hb H36=>?_) fun hb H37=>?_
 ·refine Jc<|Ja<|mv (i6 t12)<|ag (i6 t12)<|Jd<|Jm<|?_
  obtain rfl := sj H36
  exact r1 (i6 t12)
 ·refine Jj<|Jc<|Ja<|lf Tryz.runUnderlying26 rfl kcg rfl<|ll 0 (i6 a0.kai) kbk<|?_
  obtain ⟨t19, h_t19, H38⟩ := Je H37; clear H37
  refine Yq (k71 h_t19) call71 rfl rfl rfl<|mv (.tuple #[i6 t19.1, i6 t19.2])<|lv (J9 (v := i6 t19.1) rfl rfl)<|lv (J9 (v := i6 t19.2) rfl rfl)<|ag (i6 t19.1)<|ag (i6 t19.2)<|Jd<|?_
  refine Qg (r := r) (σ := Unit) (τ := Unit) (fun s => W9 a0) (fun s t => [(1, pz b2)]) (fun s t => [Jf b2 [i6 a0.kai, str a0.kaj, v0_2, v0_3, v0_4] 26]) (fun s t => True) ?_ ?_
  ·refine Jc<|Ja<|lf Tryz.runUnderlying26 rfl kcb rfl<|ll 0 v0_2 kbg<|lv (Yz kcr rfl f0_2 rfl)<|mv (i6 0)<|Jd<|Jx<|?_
   refine Za (σ := Int) (τ := Unit) (fun next5 s => Yu a0 t19 next5 s) (fun s t => [(1, pz b2), (4, i6 t19.1), (5, i6 t19.2), (23, v0_2), (24, i6 (a0.kak.l : Int)), (25, i6 s)]) (fun s t => [Jf b2 [i6 a0.kai, str a0.kaj, v0_2, v0_3, v0_4] 26]) (fun s t => True) 0 () [0] H38 (by exact trivial) (by exact ⟨rfl, rfl, rfl, rfl, rfl, rfl, trivial⟩) (by decide) rfl ?_
   rintro x25_2 _ m5 gg H61 _
   clear H38
   try dsimp only at H61
   generalize hn5 : it (fun next5 s => Yu a0 t19 next5 s) m5 = next5 at H61
   try dsimp only
   refine Jc<|Ja<|lv (X3 rfl rfl)<|Jd<|Jc<|?_
   revert H61
   refine ci (decide (x25_2 < (a0.kak.l : Int))) rfl (fun hb H62=>?_) fun hb H68=>?_
   ·refine Jj<|Jc<|Jx<|Jc<|Ja<|?_
    obtain ⟨t27, h_t27, H63⟩ := Je H62; clear H62
    refine lv (Xc kcr kcg rfl rfl f0_2 h_t27)<|Xs (fun w hF hS => Qw (f := J8) (i := x25_2) (sz := 1) (j := 0) (v := i6 t27) kbk rfl rfl (f0_2.row (hw.now hF)) h_t27 rfl) rfl rfl rfl<|ag (i6 t27)<|Jd<|Jc<|Ja<|mv (i6 t27)<|mv (i6 t19.1)<|mv (i6 t19.2)<|?_
    obtain ⟨t32, h_t32, H64⟩ := Je H63; clear H63
    refine Yq (k72 h_t32) call72 rfl rfl rfl<|Jd<|?_
    revert H64
    refine ci t32 rfl (fun hb H65=>?_) fun hb H66=>?_
    ·refine Jc<|Ja<|ag (i6 2)<|Jd<|Jm<|?_
     obtain rfl := sj H65
     exact r1 (i6 2)
    ·refine Jj<|Ja<|?_
     obtain ⟨t33, h_t33, H67⟩ := Je H66; clear H66
     refine lv (Jy rfl rfl h_t33)<|mv (i6 t33)<|Jd<|?_
     exact cl t33 () m5 [0] (by exact ⟨(by subst hn5; exact H67), trivial⟩)
   ·refine Xj ?_
    exact cl () () 0 [0] (by exact ⟨H68, trivial⟩)
  ·rintro _ _ gg H39 _
   try dsimp only at H39
   try dsimp only
   refine Qg (r := r) (σ := Unit) (τ := Unit) (fun s => Uh a0) (fun s t => [(1, pz b2)]) (fun s t => [Jf b2 [i6 a0.kai, str a0.kaj, v0_2, v0_3, v0_4] 26]) (fun s t => True) ?_ ?_
   ·refine Jc<|Ja<|lf Tryz.runUnderlying26 rfl kcc rfl<|ll 0 v0_3 isAgg23<|lv (Yz kcs rfl f0_3 rfl)<|mv (i6 0)<|Jd<|Jx<|?_
    refine Za (σ := Int) (τ := Unit) (fun next4 s => Yr a0 next4 s) (fun s t => [(1, pz b2), (35, v0_3), (36, i6 (a0.kah.l : Int)), (37, i6 s)]) (fun s t => [Jf b2 [i6 a0.kai, str a0.kaj, v0_2, v0_3, v0_4] 26]) (fun s t => True) 0 () [0] H39 (by exact trivial) (by exact ⟨rfl, rfl, rfl, rfl, trivial⟩) (by decide) rfl ?_
    rintro x37_2 _ m4 gg H50 _
    clear H39
    try dsimp only at H50
    generalize hn4 : it (fun next4 s => Yr a0 next4 s) m4 = next4 at H50
    try dsimp only
    refine Jc<|Ja<|lv (X3 rfl rfl)<|Jd<|Jc<|?_
    revert H50
    refine ci (decide (x37_2 < (a0.kah.l : Int))) rfl (fun hb H51=>?_) fun hb H60=>?_
    ·refine Jj<|Jc<|Jx<|Jc<|Ja<|?_
     obtain ⟨t39, h_t39, H52⟩ := Je H51; clear H51
     refine lv (Xc kcs kcp rfl rfl f0_3 h_t39)<|Xs (fun w hF hS => Z5 (f := Jl) (i := x37_2) (sz := 2) (j := 0) (vs := [i6 t39.Num, i6 t39.Den]) isAgg98 kcp rfl rfl (f0_3.row (hw.now hF)) h_t39 rfl) rfl rfl rfl<|?_
     refine Xx (cs := [i6 0, i6 0]) zeroValue98 rfl rfl rfl (fun b3 => ?_)
     refine st (i := 1) [i6 t39.Num, i6 t39.Den] [i6 t39.Num, i6 t39.Den] kcp rfl rfl<|Jd<|Jc<|Ja<|lf Tryz.runUnderlying98 rfl kcg rfl<|ll 1 (i6 t39.Num) kbk<|?_
     obtain ⟨t43, h_t43, H53⟩ := Je H52; clear H52
     refine Yq (k72 h_t43) call72 rfl rfl rfl<|mv (.bool t43)<|?_
     revert H53
     refine sp (fun hb H54=>?_) fun hb H55=>?_
     ·refine pa<|pa<|pa<|pT (.bool true)<|Jd<|Zl rfl<|Jc<|Ja<|ag (i6 2)<|Jd<|Jm<|?_
      obtain rfl := sj H54
      exact r1 (i6 2)
     ·refine lf Tryz.runUnderlying98 rfl kcg rfl<|ll 1 (i6 t39.Den) kbk<|?_
      obtain ⟨t47, h_t47, H56⟩ := Je H55; clear H55
      refine Yq (k72 h_t47) call72 rfl rfl rfl<|pF (.bool t47)<|Jd<|?_
      revert H56
      refine ci t47 rfl (fun hb H57=>?_) fun hb H58=>?_
      ·refine Jc<|Ja<|ag (i6 2)<|Jd<|Jm<|?_
       obtain rfl := sj H57
       exact r1 (i6 2)
      ·refine Jj<|Ja<|?_
       obtain ⟨t49, h_t49, H59⟩ := Je H58; clear H58
       refine lv (Jy rfl rfl h_t49)<|mv (i6 t49)<|Jd<|?_
       exact cl t49 () m4 [0] (by exact ⟨(by subst hn4; exact H59), trivial⟩)
    ·refine Xj ?_
     exact cl () () 0 [0] (by exact ⟨H60, trivial⟩)
   ·rintro _ _ gg H40 _
    try dsimp only at H40
    try dsimp only
    refine Jc<|Jc<|Ja<|lf Tryz.runUnderlying26 rfl kcg rfl<|ll 0 (i6 a0.kai) kbk<|lv (Qj rfl rfl)<|Jd<|?_
    revert H40
    refine ci (decide (a0.kai = 2)) rfl (fun hb H41=>?_) fun hb H49=>?_
    ·refine Jc<|Ja<|lf Tryz.runUnderlying26 rfl kcn rfl<|ll 0 (str a0.kaj) kbp<|lv (Yx kcx rfl)<|mv (i6 0)<|Jd<|Jx<|?_
     refine Za (σ := Int) (τ := Unit) (fun next3 s => Zj a0 next3 s) (fun s t => [(1, pz b2), (55, i6 (a0.kaj.l : Int)), (56, i6 s)]) (fun s t => [Jf b2 [i6 a0.kai, str a0.kaj, v0_2, v0_3, v0_4] 26]) (fun s t => True) 0 () [0] H41 (by exact trivial) (by exact ⟨rfl, rfl, rfl, trivial⟩) (by decide) rfl ?_
     rintro x56_2 _ m3 gg H42 _
     clear H41
     try dsimp only at H42
     generalize hn3 : it (fun next3 s => Zj a0 next3 s) m3 = next3 at H42
     try dsimp only
     refine Jc<|Ja<|lv (X3 rfl rfl)<|Jd<|Jc<|?_
     revert H42
     refine ci (decide (x56_2 < (a0.kaj.l : Int))) rfl (fun hb H43=>?_) fun hb H48=>?_
     ·refine Jj<|Jc<|Jx<|Jc<|Ja<|mv (i6 x56_2)<|ag (i6 x56_2)<|Jd<|Jc<|Ja<|lf Tryz.runUnderlying26 rfl kcn rfl<|ll 0 (str a0.kaj) kbp<|mv (i6 x56_2)<|?_
      obtain ⟨t62, h_t62, H44⟩ := Je H43; clear H43
      refine lv (Jc8 kcx rfl rfl h_t62)<|lv (Qj rfl rfl)<|Jd<|?_
      revert H44
      refine ci (decide (t62 = 0)) rfl (fun hb H45=>?_) fun hb H46=>?_
      ·refine Jc<|Ja<|ag (i6 9)<|Jd<|Jm<|?_
       obtain rfl := sj H45
       exact r1 (i6 9)
      ·refine Jj<|Ja<|?_
       obtain ⟨t64, h_t64, H47⟩ := Je H46; clear H46
       refine lv (Jy rfl rfl h_t64)<|mv (i6 t64)<|Jd<|?_
       exact cl t64 () m3 [0] (by exact ⟨(by subst hn3; exact H47), trivial⟩)
     ·refine Xj<|Jc<|Ja<|ag (i6 0)<|Jd<|Jm<|?_
      obtain rfl := sj H48
      exact r1 (i6 0)
    ·refine Jj<|Jc<|Ja<|ag (i6 0)<|Jd<|Jm<|?_
     obtain rfl := sj H49
     exact r1 (i6 0)
theorem k39_it (mm : Nat) : ∀ {a0 : (List Ta)} {v0 : Value} {a1 : Int} {r : Int} {w : World} {h : J1} (hw : Know h w Z0) (f0 : FrN h 6 v0 g_tag_Entry a0) (H : it (fun (self : ((List Ta) × Int) → Option (Int)) (s : (List Ta) × Int) => Zk self s.1 s.2) mm (a0, a1) = some r), Does prog 39 (List.toArray [v0, i6 a1]) w (fun v w' => v = (i6 r) ∧ Grow w w') := by
 induction mm with
 | zero => intros; rename_i H; exact absurd H (by simp [it])
 | succ mm ih =>
  intro a0 v0 a1 r w h hw f0 H
  replace H : Zk (it (fun (self : ((List Ta) × Int) → Option (Int)) (s : (List Ta) × Int) => Zk self s.1 s.2) mm) a0 a1 = some r := H
  generalize it (fun (self : ((List Ta) × Int) → Option (Int)) (s : (List Ta) × Int) => Zk self s.1 s.2) mm = self at H ih
  refine enter (n := 62) func39 rfl rfl rfl Z0 [] (Sat.nil _ _)<|Jc<|Ja<|ag (i6 0)<|Jd<|Jc<|Jc<|Ja<|mv (i6 a1)<|lv (Yf rfl rfl)<|mv (.bool (decide (5 < a1)))<|?_
  revert H
  refine sp (fun hb H31=>?_) fun hb H32=>?_
  ·refine pa<|pa<|pa<|pT (.bool true)<|Jd<|Zl rfl<|Jc<|Ja<|ag (i6 4)<|Jd<|Jm<|?_
   obtain rfl := sj H31
   exact r1 (i6 4)
  ·refine mv v0<|lv (Z2 kct rfl f0)<|lv (Yf rfl rfl)<|pF (.bool (decide (200 < (a0.l : Int))))<|Jd<|?_
   revert H32
   refine ci (decide (200 < (a0.l : Int))) rfl (fun hb H33=>?_) fun hb H34=>?_
   ·refine Jc<|Ja<|ag (i6 4)<|Jd<|Jm<|?_
    obtain rfl := sj H33
    exact r1 (i6 4)
   ·refine Jj<|Jc<|Jc<|Ja<|mv v0<|lv (Z2 kct rfl f0)<|mv (i6 0)<|Jd<|Jx<|?_
    refine Za (σ := Int) (τ := Unit) (fun next1 s => Jac a0 a1 self next1 s) (fun s t => [(0, v0), (1, i6 a1), (15, v0), (16, i6 (a0.l : Int)), (17, i6 s)]) (fun s t => []) (fun s t => True) 0 () [] H34 (by exact trivial) (by exact ⟨rfl, rfl, rfl, rfl, rfl, trivial⟩) (by decide) rfl ?_
    rintro x17_2 _ m1 gg H35 _
    clear H34
    try dsimp only at H35
    generalize hn1 : it (fun next1 s => Jac a0 a1 self next1 s) m1 = next1 at H35
    try dsimp only
    refine Jc<|Ja<|lv (X3 rfl rfl)<|Jd<|Jc<|?_
    revert H35
    refine ci (decide (x17_2 < (a0.l : Int))) rfl (fun hb H36=>?_) fun hb H60=>?_
    ·refine Jj<|Jc<|Jx<|Jc<|Ja<|mv (i6 x17_2)<|?_
     obtain ⟨t20, h_t20, H37⟩ := Je H36; clear H36
     refine lv (Xc kct kco rfl rfl f0.frs (f0.ix h_t20))<|Xs (fun w hF hS => Z5 (f := (elC h v0 6)) (i := x17_2) (sz := 6) (j := 0) (vs := [i6 t20.Tag, i6 t20.Value.kai, str t20.Value.kaj, (Xd h v0 6 (Int.toNat x17_2) 3), (Xd h v0 6 (Int.toNat x17_2) 4), (Xd h v0 6 (Int.toNat x17_2) 5)]) isAgg95 kco rfl rfl (f0.frs.row (hw.now hF)) (f0.ix h_t20) (rd_of (Yd (f0.at h_t20)) rfl)) rfl rfl rfl<|?_
     refine Xx (cs := [i6 0, i6 0, str [], z0s, z0s, z0s]) zeroValue95 rfl rfl rfl (fun b1 => ?_)
     refine ag (i6 x17_2)<|Wz (i := 0) (vs := [i6 t20.Tag, i6 t20.Value.kai, str t20.Value.kaj, (Xd h v0 6 (Int.toNat x17_2) 3), (Xd h v0 6 (Int.toNat x17_2) 4), (Xd h v0 6 (Int.toNat x17_2) 5)]) (cs' := [i6 t20.Tag, i6 t20.Value.kai, str t20.Value.kaj, (Xd h v0 6 (Int.toNat x17_2) 3), (Xd h v0 6 (Int.toNat x17_2) 4), (Xd h v0 6 (Int.toNat x17_2) 5)]) kco rfl rfl rfl rfl rfl rfl (by simp only [List.all_cons, List.all_nil, (show FrN h 6 (Xd h v0 6 (Int.toNat x17_2) 5) g_tag_Entry t20.Value.kag from (Qm (Jo (f0.at h_t20)))).one, (show FrS h 1 (Xd h v0 6 (Int.toNat x17_2) 3) (t20.Value.kak.map J8) from (Q0 (Jo (f0.at h_t20)))).one, (show FrS h 2 (Xd h v0 6 (Int.toNat x17_2) 4) (t20.Value.kah.map Jl) from (Q1 (Jo (f0.at h_t20)))).one] <;> rfl) rfl rfl<|Jd<|?_
     refine Qg (r := r) (σ := Unit) (τ := Unit) (fun s => Jbl a1 self x17_2 next1 t20) (fun s t => [(0, v0), (1, i6 a1), (6, pz b1), (15, v0), (16, i6 (a0.l : Int)), (17, i6 x17_2)]) (fun s t => [Jf b1 [i6 t20.Tag, i6 t20.Value.kai, str t20.Value.kaj, (Xd h v0 6 (Int.toNat x17_2) 3), (Xd h v0 6 (Int.toNat x17_2) 4), (Xd h v0 6 (Int.toNat x17_2) 5)] 95]) (fun s t => True) ?_ ?_
     ·refine Jx<|Jc<|Ja<|lf Tryz.runUnderlying95 rfl kcg rfl<|ll 0 (i6 t20.Tag) kbk<|?_
      obtain ⟨t25, h_t25, H51⟩ := Je H37; clear H37
      refine Yq (k72 h_t25) call72 rfl rfl rfl<|ag (.bool t25)<|Jd<|?_
      revert H51
      refine ci t25 rfl (fun hb H52=>?_) fun hb H53=>?_
      ·refine Jc<|Ja<|ag (i6 2)<|Jd<|Jm<|?_
       obtain rfl := sj H52
       exact r1 (i6 2)
      ·refine Jc ?_
       exact Qk (Kd.p :: Kd.p :: Kd.p :: Kd.p :: Kd.d [0] _ :: Kd.p :: Kd.p :: Kd.p :: Kd.p :: Kd.p :: Kd.d [] _ :: Kd.p :: Kd.p :: Kd.p :: []) 0 mixed (by
        refine dm (i6 x17_2)<|dv (Yf rfl rfl)<|dm (.bool (decide (0 < x17_2)))<|?_
        refine Wu (fun hb => ?_) (fun hb => ?_)
        ·have H54 := Uo hb H53
         refine dv (J2 Tryz.runUnderlying95 rfl kcg rfl rfl)<|dl (i6 t20.Tag) kbk<|dm v0<|dm (i6 x17_2)<|?_
         have h_t34 := Jt H54
         have H55 := Jn H54
         refine dv (Zs rfl rfl h_t34) ?_
         have h_t35 := Jt H55
         have H56 := Jn H55
         refine dv (Xc kct kco rfl rfl f0.frs (f0.ix h_t35))<|dv (Jd0 Tryz.runUnderlying95 rfl kcg rfl rfl (Jc9 f0.frs (f0.ix h_t35)))<|W2 (fun w hF => Qw (f := (elC h v0 6)) (i := (val (gI (x17_2 - 1)))) (sz := 6) (j := 0) (v := i6 (val (Zb a0 (val (gI (x17_2 - 1))))).Tag) kbk rfl rfl (f0.frs.row (hw.now hF)) (f0.ix h_t35) (Jea (Yd (f0.at h_t35)) rfl)) rfl rfl<|dv (Jd1 rfl rfl)<|dv (Xz (v := .bool (decide (t20.Tag ≤ (val (Zb a0 (val (gI (x17_2 - 1))))).Tag))) rfl rfl)<|Qv rfl rfl (Jz (v := .bool (decide (t20.Tag ≤ (val (Zb a0 (val (gI (x17_2 - 1))))).Tag))) rfl)<|Xr<|?_
         revert H56
         refine ci (decide (t20.Tag ≤ (val (Zb a0 (val (gI (x17_2 - 1))))).Tag)) rfl (fun hb H57=>?_) fun hb H58=>?_
         ·refine Jc<|Ja<|ag (i6 5)<|Jd<|Jm<|?_
          obtain rfl := sj H57
          exact r1 (i6 5)
         ·refine Jj ?_
          exact cl () () 0 [0] (by exact ⟨H58, trivial⟩)
        ·have H59 := Us hb H53
         refine dp<|dp<|dp<|dp<|dp<|dp<|dp<|dp<|dp<|dv (Z1 (v := .bool false) rfl rfl)<|Qv rfl rfl (Jz (v := .bool false) rfl)<|Xr<|Zz rfl<|Jj<|?_
         exact cl () () 0 [0] (by exact ⟨H59, trivial⟩)
        ) (by kernel_rfl)
     ·rintro _ _ gg H38 _
      try dsimp only at H38
      try dsimp only
      refine Jc<|Ja<|ag (i6 0)<|Jd<|?_
      refine Qg (r := r) (σ := Int) (τ := Unit) (fun s => W5 x17_2 next1 s) (fun s t => [(0, v0), (1, i6 a1), (7, i6 s), (15, v0), (16, i6 (a0.l : Int)), (17, i6 x17_2)]) (fun s t => []) (fun s t => True) ?_ ?_
      ·refine Jc<|Ja<|lf Tryz.runUnderlying95 rfl kce rfl<|lf Tryz.runUnderlying26 rfl kcg rfl<|ll 0 (i6 t20.Value.kai) kbk<|lv (Yv rfl rfl)<|Jd<|?_
       revert H38
       refine ci (decide (t20.Value.kai ≠ 13)) rfl (fun hb H43=>?_) fun hb H45=>?_
       ·refine Ja<|lf Tryz.runUnderlying95 rfl kce rfl<|Xb (i := 0) (vs := [i6 t20.Value.kai, str t20.Value.kaj, (Xd h v0 6 (Int.toNat x17_2) 3), (Xd h v0 6 (Int.toNat x17_2) 4), (Xd h v0 6 (Int.toNat x17_2) 5)]) kbi kce rfl rfl rfl rfl rfl<|?_
        obtain ⟨t46, h_t46, H44⟩ := Je H43; clear H43
        refine Qb (fun w hF hS => k37 (Jq w) ((show FrS h 1 (Xd h v0 6 (Int.toNat x17_2) 3) (t20.Value.kak.map J8) from (Q0 (Jo (f0.at h_t20)))).mono (hw.now hF)) ((show FrS h 2 (Xd h v0 6 (Int.toNat x17_2) 4) (t20.Value.kah.map Jl) from (Q1 (Jo (f0.at h_t20)))).mono (hw.now hF)) ((show FrN h 6 (Xd h v0 6 (Int.toNat x17_2) 5) g_tag_Entry t20.Value.kag from (Qm (Jo (f0.at h_t20)))).mono (hw.now hF)) h_t46) call37 rfl rfl rfl<|ag (i6 t46)<|Jd<|?_
        exact cl t46 () 0 [] (by exact ⟨H44, trivial⟩)
       ·refine Jc<|Ja<|lf Tryz.runUnderlying95 rfl kce rfl<|Xb (i := 0) (vs := [i6 t20.Value.kai, str t20.Value.kaj, (Xd h v0 6 (Int.toNat x17_2) 3), (Xd h v0 6 (Int.toNat x17_2) 4), (Xd h v0 6 (Int.toNat x17_2) 5)]) kbi kce rfl rfl rfl rfl rfl<|?_
        obtain ⟨t49, h_t49, H46⟩ := Je H45; clear H45
        refine Qb (fun w hF hS => k38 (Jq w) ((show FrS h 1 (Xd h v0 6 (Int.toNat x17_2) 3) (t20.Value.kak.map J8) from (Q0 (Jo (f0.at h_t20)))).mono (hw.now hF)) ((show FrS h 2 (Xd h v0 6 (Int.toNat x17_2) 4) (t20.Value.kah.map Jl) from (Q1 (Jo (f0.at h_t20)))).mono (hw.now hF)) ((show FrN h 6 (Xd h v0 6 (Int.toNat x17_2) 5) g_tag_Entry t20.Value.kag from (Qm (Jo (f0.at h_t20)))).mono (hw.now hF)) h_t49) call38 rfl rfl rfl<|ag (i6 t49)<|Jd<|Jc<|Ja<|mv (i6 t49)<|lv (Qj rfl rfl)<|Jd<|?_
        revert H46
        refine ci (decide (t49 = 0)) rfl (fun hb H47=>?_) fun hb H50=>?_
        ·refine Ja<|lf Tryz.runUnderlying95 rfl kce rfl<|lf Tryz.runUnderlying26 rfl kcd rfl<|ll 0 (Xd h v0 6 (Int.toNat x17_2) 5) kbh<|mv (i6 a1)<|?_
         obtain ⟨t56, h_t56, H48⟩ := Je H47; clear H47
         refine lv (Jy rfl rfl h_t56) ?_
         obtain ⟨t57, h_t57, H49⟩ := Je H48; clear H48
         refine Qb (fun w hF hS => ih (Jq w) ((show FrN h 6 (Xd h v0 6 (Int.toNat x17_2) 5) g_tag_Entry t20.Value.kag from (Qm (Jo (f0.at h_t20)))).mono (hw.now hF)) h_t57) call39 rfl rfl rfl<|ag (i6 t57)<|Jd<|?_
         exact cl t57 () 0 [] (by exact ⟨H49, trivial⟩)
        ·refine Jj ?_
         exact cl t49 () 0 [] (by exact ⟨H50, trivial⟩)
      ·rintro x7 _ gg H39 _
       try dsimp only at H39
       try dsimp only
       refine Jc<|Ja<|mv (i6 x7)<|lv (Yv rfl rfl)<|Jd<|?_
       revert H39
       refine ci (decide (x7 ≠ 0)) rfl (fun hb H40=>?_) fun hb H41=>?_
       ·refine Jc<|Ja<|mv (i6 x7)<|ag (i6 x7)<|Jd<|Jm<|?_
        obtain rfl := sj H40
        exact r1 (i6 x7)
       ·refine Jj<|Ja<|?_
        obtain ⟨t61, h_t61, H42⟩ := Je H41; clear H41
        refine lv (Jy rfl rfl h_t61)<|mv (i6 t61)<|Jd<|?_
        exact cl t61 () m1 [] (by exact ⟨(by subst hn1; exact H42), trivial⟩)
    ·refine Xj<|Jc<|Ja<|ag (i6 0)<|Jd<|Jm<|?_
     obtain rfl := sj H60
     exact r1 (i6 0)
theorem k39 {a0 : (List Ta)} {v0 : Value} {a1 : Int} {r : Int} {w : World} {h : J1} (hw : Know h w Z0) (f0 : FrN h 6 v0 g_tag_Entry a0) (H : Jbz a0 a1 = some r) : Does prog 39 (List.toArray [v0, i6 a1]) w (fun v w' => v = (i6 r) ∧ Grow w w') := by
 obtain ⟨mm, hm⟩ := Je9 (show Vv (fun (self : ((List Ta) × Int) → Option (Int)) (s : (List Ta) × Int) => Zk self s.1 s.2) (a0, a1) = some r from H)
 exact k39_it mm hw f0 hm
theorem k15 {a0 : Te} {v0_2 : Value} {v0_3 : Value} {v0_4 : Value} {r : Int} {w : World} {h : J1} (hw : Know h w Z0) (f0_2 : FrS h 1 v0_2 (a0.kak.map J8)) (f0_3 : FrS h 2 v0_3 (a0.kah.map Jl)) (f0_4 : FrN h 6 v0_4 g_tag_Entry a0.kag) (H : Qu a0 = some r) : Does prog 15 (List.toArray [.agg #[i6 a0.kai, str a0.kaj, v0_2, v0_3, v0_4]]) w (fun v w' => v = (i6 r) ∧ Grow w w') := by
 refine enter (n := 26) func15 rfl rfl rfl Z0 [] (Sat.nil _ _)<|Jc<|Ja<|?_
 refine W1 (cs := [i6 a0.kai, str a0.kaj, v0_2, v0_3, v0_4]) rfl rfl rfl rfl (fun b1 => ?_)
 refine ag (i6 0)<|Jd<|Jc<|Jc<|Ja<|lf Tryz.runUnderlying26 rfl kcg rfl<|ll 0 (i6 a0.kai) kbk<|Jd<|Jx<|Jc<|Ja<|lv (Qj rfl rfl)<|ag (.bool (decide (a0.kai = 2)))<|Jd<|?_
 revert H
 refine ci (decide (a0.kai = 2)) rfl (fun hb H10=>?_) fun hb H12=>?_
 ·refine Jc<|Ja<|lf Tryz.runUnderlying26 rfl kcn rfl<|ll 0 (str a0.kaj) kbp<|lv (Yx kcx rfl)<|?_
  obtain ⟨t10, h_t10, H11⟩ := Je H10; clear H10
  refine lv (Jy rfl rfl h_t10)<|ag (i6 t10)<|Jd<|Jm<|?_
  obtain rfl := sj H11
  exact r1 (i6 t10)
 ·refine Jc<|Ja<|lv (Qj rfl rfl)<|ag (.bool (decide (a0.kai = 7)))<|Jd<|?_
  revert H12
  refine ci (decide (a0.kai = 7)) rfl (fun hb H13=>?_) fun hb H14=>?_
  ·refine Jc<|Ja<|lf Tryz.runUnderlying26 rfl kcn rfl<|ll 0 (str a0.kaj) kbp<|lv (Yx kcx rfl)<|ag (i6 (a0.kaj.l : Int))<|Jd<|Jm<|?_
   obtain rfl := sj H13
   exact r1 (i6 (a0.kaj.l : Int))
  ·refine Jc<|Ja<|lv (Qj rfl rfl)<|ag (.bool (decide (a0.kai = 5)))<|Jd<|?_
   revert H14
   refine ci (decide (a0.kai = 5)) rfl (fun hb H15=>?_) fun hb H16=>?_
   ·refine Jc<|Ja<|lf Tryz.runUnderlying26 rfl kcc rfl<|ll 0 v0_3 isAgg23<|lv (Yz kcs rfl f0_3 rfl)<|ag (i6 (a0.kah.l : Int))<|Jd<|Jm<|?_
    obtain rfl := sj H15
    exact r1 (i6 (a0.kah.l : Int))
   ·refine Jc<|Ja<|lv (Qj rfl rfl)<|ag (.bool (decide (a0.kai = 13)))<|Jd<|?_
    revert H16
    refine ci (decide (a0.kai = 13)) rfl (fun hb H17=>?_) fun hb H18=>?_
    ·refine Jc<|Ja<|ag (i6 1)<|Jd<|Jm<|?_
     obtain rfl := sj H17
     exact r1 (i6 1)
    ·refine Jj<|Jc<|Ja<|lf Tryz.runUnderlying26 rfl kcb rfl<|ll 0 v0_2 kbg<|lv (Yz kcr rfl f0_2 rfl)<|ag (i6 (a0.kak.l : Int))<|Jd<|Jm<|?_
     obtain rfl := sj H18
     exact r1 (i6 (a0.kak.l : Int))
theorem k16 {a0 : Te} {v0_2 : Value} {v0_3 : Value} {v0_4 : Value} {r : Int} {w : World} {h : J1} (hw : Know h w Z0) (f0_2 : FrS h 1 v0_2 (a0.kak.map J8)) (f0_3 : FrS h 2 v0_3 (a0.kah.map Jl)) (f0_4 : FrN h 6 v0_4 g_tag_Entry a0.kag) (H : Wc a0 = some r) : Does prog 16 (List.toArray [.agg #[i6 a0.kai, str a0.kaj, v0_2, v0_3, v0_4]]) w (fun v w' => v = (i6 r) ∧ Grow w w') := by
 refine enter (n := 9) func16 rfl rfl rfl Z0 [] (Sat.nil _ _)<|Jc<|Ja<|?_
 refine W1 (cs := [i6 a0.kai, str a0.kaj, v0_2, v0_3, v0_4]) rfl rfl rfl rfl (fun b1 => ?_)
 refine ag (i6 0)<|Jd<|Jc<|?_
 exact Qk (Kd.d [0] _ :: Kd.d [] _ :: Kd.p :: Kd.d [0] _ :: Kd.d [] _ :: Kd.p :: Kd.p :: []) 0 mixed (by
  refine Jc1 (i := 0) (vs := [i6 a0.kai, str a0.kaj, v0_2, v0_3, v0_4]) kbi kce rfl rfl rfl rfl ?_
  have h_t4 := Jt H
  have H4 := Jn H
  refine Jar (fun w L' hF hS hi => k15 (Jq w) (f0_2.mono (hw.now hF)) (f0_3.mono (hw.now hF)) (f0_4.mono (hw.now hF)) h_t4) call15 rfl rfl<|dv (J2 Tryz.runUnderlying26 rfl kcg rfl rfl)<|dl (i6 a0.kai) kbk<|?_
  have h_t7 := Jt H4
  have H5 := Jn H4
  refine Ja9 (k43 h_t7) call43 rfl rfl ?_
  have h_t8 := Jt H5
  have H6 := Jn H5
  refine dv (Z3 rfl rfl h_t8)<|Qv rfl rfl (Jz (v := i6 (val (gI ((val (Qu a0)) * (val (Z4 a0.kai)))))) rfl)<|Xr<|Jm<|?_
  obtain rfl := sj H6
  exact r1 (i6 (val (gI ((val (Qu a0)) * (val (Z4 a0.kai))))))
  ) (by kernel_rfl)
theorem k118 {a0 : Int} {r : Int} (H : Jdn a0 = some r) : Ret prog 118 [i6 a0] (i6 r) := by
 refine Va (n := 7) func118 rfl rfl rfl (fun wd => ?_)
 refine Jc<|Ja<|ag (i6 0)<|Jd<|Jc<|Ja<|mv (i6 a0)<|mv (i6 a0)<|?_
 obtain ⟨t5, h_t5, H3⟩ := Je H; clear H
 refine lv (r_remG rfl rfl h_t5) ?_
 obtain ⟨t6, h_t6, H4⟩ := Je H3; clear H3
 refine lv (Jy rfl rfl h_t6)<|ag (i6 t6)<|Jd<|Jm<|?_
 obtain rfl := sj H4
 exact r1 (i6 t6)
theorem k106_it (mm : Nat) : ∀ {a0 : (List Ta)} {v0 : Value} {a1 : Int} {r : Int} {w : World} {h : J1} (hw : Know h w Z0) (f0 : FrN h 6 v0 g_tag_Entry a0) (H : it (fun (self : ((List Ta) × Int) → Option (Int)) (s : (List Ta) × Int) => Vm self s.1 s.2) mm (a0, a1) = some r), Does prog 106 (List.toArray [v0, i6 a1]) w (fun v w' => v = (i6 r) ∧ Grow w w') := by
 induction mm with
 | zero => intros; rename_i H; exact absurd H (by simp [it])
 | succ mm ih =>
  intro a0 v0 a1 r w h hw f0 H
  replace H : Vm (it (fun (self : ((List Ta) × Int) → Option (Int)) (s : (List Ta) × Int) => Vm self s.1 s.2) mm) a0 a1 = some r := H
  generalize it (fun (self : ((List Ta) × Int) → Option (Int)) (s : (List Ta) × Int) => Vm self s.1 s.2) mm = self at H ih
  refine enter (n := 44) func106 rfl rfl rfl Z0 [] (Sat.nil _ _)<|Jc<|Ja<|ag (i6 0)<|Jd<|Jc<|Ja<|mv (i6 a1)<|?_
  obtain ⟨t8, h_t8, H21⟩ := Je H; clear H
  refine Yq (k118 h_t8) call118 rfl rfl rfl ?_
  obtain ⟨t9, h_t9, H22⟩ := Je H21; clear H21
  refine lv (Jy rfl rfl h_t9)<|mv v0<|lv (Z2 kct rfl f0)<|?_
  obtain ⟨t12, h_t12, H23⟩ := Je H22; clear H22
  refine lv (Z3 rfl rfl h_t12) ?_
  obtain ⟨t13, h_t13, H24⟩ := Je H23; clear H23
  refine lv (Jy rfl rfl h_t13) ?_
  obtain ⟨t14, h_t14, H25⟩ := Je H24; clear H24
  refine lv (Jy rfl rfl h_t14)<|ag (i6 t14)<|Jd<|Jc<|Jc<|Ja<|mv v0<|lv (Z2 kct rfl f0)<|mv (i6 0)<|Jd<|Jx<|?_
  refine Za (σ := Int × Int) (τ := Unit) (fun next1 s => Wi a0 self next1 s.1 s.2) (fun s t => [(1, i6 s.1), (15, v0), (16, i6 (a0.l : Int)), (17, i6 s.2)]) (fun s t => []) (fun s t => True) (t14, 0) () [] H25 (by exact trivial) (by exact ⟨rfl, rfl, rfl, rfl, trivial⟩) (by decide) rfl ?_
  rintro ⟨x1_2, x17_2⟩ _ m1 gg H26 _
  clear H25
  try dsimp only at H26
  generalize hn1 : it (fun next1 s => Wi a0 self next1 s.1 s.2) m1 = next1 at H26
  try dsimp only
  refine Jc<|Ja<|lv (X3 rfl rfl)<|Jd<|Jc<|?_
  revert H26
  refine ci (decide (x17_2 < (a0.l : Int))) rfl (fun hb H27=>?_) fun hb H40=>?_
  ·refine Jj ?_
   refine Qg (r := r) (σ := Int) (τ := Unit) (fun s => Jah x17_2 next1 s) (fun s t => [(1, i6 s), (15, v0), (16, i6 (a0.l : Int)), (17, i6 x17_2)]) (fun s t => []) (fun s t => True) ?_ ?_
   ·refine Jx<|Jc<|Ja<|?_
    obtain ⟨t19, h_t19, H30⟩ := Je H27; clear H27
    refine lv (Xc kct kco rfl rfl f0.frs (f0.ix h_t19))<|Xs (fun w hF hS => Z5 (f := (elC h v0 6)) (i := x17_2) (sz := 6) (j := 0) (vs := [i6 t19.Tag, i6 t19.Value.kai, str t19.Value.kaj, (Xd h v0 6 (Int.toNat x17_2) 3), (Xd h v0 6 (Int.toNat x17_2) 4), (Xd h v0 6 (Int.toNat x17_2) 5)]) isAgg95 kco rfl rfl (f0.frs.row (hw.now hF)) (f0.ix h_t19) (rd_of (Yd (f0.at h_t19)) rfl)) rfl rfl rfl<|?_
    refine Xx (cs := [i6 0, i6 0, str [], z0s, z0s, z0s]) zeroValue95 rfl rfl rfl (fun b1 => ?_)
    refine Wz (i := 0) (vs := [i6 t19.Tag, i6 t19.Value.kai, str t19.Value.kaj, (Xd h v0 6 (Int.toNat x17_2) 3), (Xd h v0 6 (Int.toNat x17_2) 4), (Xd h v0 6 (Int.toNat x17_2) 5)]) (cs' := [i6 t19.Tag, i6 t19.Value.kai, str t19.Value.kaj, (Xd h v0 6 (Int.toNat x17_2) 3), (Xd h v0 6 (Int.toNat x17_2) 4), (Xd h v0 6 (Int.toNat x17_2) 5)]) kco rfl rfl rfl rfl rfl rfl (by simp only [List.all_cons, List.all_nil, (show FrN h 6 (Xd h v0 6 (Int.toNat x17_2) 5) g_tag_Entry t19.Value.kag from (Qm (Jo (f0.at h_t19)))).one, (show FrS h 1 (Xd h v0 6 (Int.toNat x17_2) 3) (t19.Value.kak.map J8) from (Q0 (Jo (f0.at h_t19)))).one, (show FrS h 2 (Xd h v0 6 (Int.toNat x17_2) 4) (t19.Value.kah.map Jl) from (Q1 (Jo (f0.at h_t19)))).one] <;> rfl) rfl rfl<|Jd<|Jx<|Jc<|Ja<|lf Tryz.runUnderlying95 rfl kce rfl<|lf Tryz.runUnderlying26 rfl kcg rfl<|ll 0 (i6 t19.Value.kai) kbk<|lv (Qj rfl rfl)<|ag (.bool (decide (t19.Value.kai = 13)))<|Jd<|?_
    revert H30
    refine ci (decide (t19.Value.kai = 13)) rfl (fun hb H31=>?_) fun hb H33=>?_
    ·refine Ja<|lf Tryz.runUnderlying95 rfl kce rfl<|lf Tryz.runUnderlying26 rfl kcd rfl<|ll 0 (Xd h v0 6 (Int.toNat x17_2) 5) kbh<|mv (i6 x1_2)<|?_
     obtain ⟨t30, h_t30, H32⟩ := Je H31; clear H31
     refine Qb (fun w hF hS => ih (Jq w) ((show FrN h 6 (Xd h v0 6 (Int.toNat x17_2) 5) g_tag_Entry t19.Value.kag from (Qm (Jo (f0.at h_t19)))).mono (hw.now hF)) h_t30) call106 rfl rfl rfl<|ag (i6 t30)<|Jd<|?_
     exact cl t30 () 0 [] (by exact ⟨H32, trivial⟩)
    ·refine Jc<|Ja<|lf Tryz.runUnderlying95 rfl kce rfl<|Xb (i := 0) (vs := [i6 t19.Value.kai, str t19.Value.kaj, (Xd h v0 6 (Int.toNat x17_2) 3), (Xd h v0 6 (Int.toNat x17_2) 4), (Xd h v0 6 (Int.toNat x17_2) 5)]) kbi kce rfl rfl rfl rfl rfl<|?_
     obtain ⟨t34, h_t34, H34⟩ := Je H33; clear H33
     refine Qb (fun w hF hS => k16 (Jq w) ((show FrS h 1 (Xd h v0 6 (Int.toNat x17_2) 3) (t19.Value.kak.map J8) from (Q0 (Jo (f0.at h_t19)))).mono (hw.now hF)) ((show FrS h 2 (Xd h v0 6 (Int.toNat x17_2) 4) (t19.Value.kah.map Jl) from (Q1 (Jo (f0.at h_t19)))).mono (hw.now hF)) ((show FrN h 6 (Xd h v0 6 (Int.toNat x17_2) 5) g_tag_Entry t19.Value.kag from (Qm (Jo (f0.at h_t19)))).mono (hw.now hF)) h_t34) call16 rfl rfl rfl<|lv (Yf rfl rfl)<|ag (.bool (decide (4 < t34)))<|Jd<|?_
     revert H34
     refine ci (decide (4 < t34)) rfl (fun hb H35=>?_) fun hb H39=>?_
     ·exact Qk (Kd.p :: Kd.d [] _ :: Kd.p :: Kd.d [0] _ :: Kd.d [] _ :: Kd.p :: Kd.p :: []) 0 mixed (by
       refine dm (i6 x1_2) ?_
       have h_t37 := Jt H35
       have H36 := Jn H35
       refine Ja9 (k118 h_t37) call118 rfl rfl<|dv (J2 Tryz.runUnderlying95 rfl kce rfl rfl)<|Jc1 (i := 0) (vs := [i6 t19.Value.kai, str t19.Value.kaj, (Xd h v0 6 (Int.toNat x17_2) 3), (Xd h v0 6 (Int.toNat x17_2) 4), (Xd h v0 6 (Int.toNat x17_2) 5)]) kbi kce rfl rfl rfl rfl<|?_
       have h_t40 := Jt H36
       have H37 := Jn H36
       refine Jar (fun w L' hF hS hi => k16 (Jq w) ((show FrS h 1 (Xd h v0 6 (Int.toNat x17_2) 3) (t19.Value.kak.map J8) from (Q0 (Jo (f0.at h_t19)))).mono (hw.now hF)) ((show FrS h 2 (Xd h v0 6 (Int.toNat x17_2) 4) (t19.Value.kah.map Jl) from (Q1 (Jo (f0.at h_t19)))).mono (hw.now hF)) ((show FrN h 6 (Xd h v0 6 (Int.toNat x17_2) 5) g_tag_Entry t19.Value.kag from (Qm (Jo (f0.at h_t19)))).mono (hw.now hF)) h_t40) call16 rfl rfl ?_
       have h_t41 := Jt H37
       have H38 := Jn H37
       refine dv (Jy rfl rfl h_t41)<|Qv rfl rfl (Jz (v := i6 (val (gI ((val (Jdn x1_2)) + (val (Wc t19.Value)))))) rfl)<|Xr<|?_
       exact cl (val (gI ((val (Jdn x1_2)) + (val (Wc t19.Value))))) () 0 [] (by exact ⟨H38, trivial⟩)
       ) (by kernel_rfl)
     ·refine Jj ?_
      exact cl x1_2 () 0 [] (by exact ⟨H39, trivial⟩)
   ·rintro x1_3 _ gg H28 _
    try dsimp only at H28
    try dsimp only
    refine Ja ?_
    obtain ⟨t42, h_t42, H29⟩ := Je H28; clear H28
    refine lv (Jy rfl rfl h_t42)<|mv (i6 t42)<|Jd<|?_
    exact cl (x1_3, t42) () m1 [] (by exact ⟨(by subst hn1; exact H29), trivial⟩)
  ·refine Xj<|Jc<|Ja<|mv (i6 x1_2)<|ag (i6 x1_2)<|Jd<|Jm<|?_
   obtain rfl := sj H40
   exact r1 (i6 x1_2)
theorem k106 {a0 : (List Ta)} {v0 : Value} {a1 : Int} {r : Int} {w : World} {h : J1} (hw : Know h w Z0) (f0 : FrN h 6 v0 g_tag_Entry a0) (H : Jeg a0 a1 = some r) : Does prog 106 (List.toArray [v0, i6 a1]) w (fun v w' => v = (i6 r) ∧ Grow w w') := by
 obtain ⟨mm, hm⟩ := Je9 (show Vv (fun (self : ((List Ta) × Int) → Option (Int)) (s : (List Ta) × Int) => Vm self s.1 s.2) (a0, a1) = some r from H)
 exact k106_it mm hw f0 hm
theorem k70 {a0 : Th} {v0_1 : Value} {r : Int} {w : World} {h : J1} (hw : Know h w Z0) (f0_1 : FrN h 1 v0_1 gs_tag_Entry a0.kap) (H : Jhg a0 = some r) : Does prog 70 (List.toArray [.agg #[.bool a0.Big, v0_1]]) w (fun v w' => v = (i6 r) ∧ Grow w w') := by
 refine enter (n := 18) func70 rfl rfl rfl Z0 [] (Sat.nil _ _)<|Jc<|Ja<|?_
 refine W1 (cs := [.bool a0.Big, v0_1]) rfl rfl rfl rfl (fun b1 => ?_)
 refine ag (i6 0)<|Jd<|Jc<|Ja<|ag (i6 8)<|Jd<|Jc<|Jc<|Ja<|lf Tryz.runUnderlying34 rfl kch rfl<|ll 0 v0_1 kbl<|lv (Z2 kcu rfl f0_1)<|mv (i6 0)<|Jd<|Jx<|Jcv 0<|?_
 try dsimp only [z1, z2, z3, z4, z5, z6, z7, z8]
 refine Za (σ := Int × Int) (τ := Unit) (fun next1 s => Ut a0 next1 s.1 s.2) (fun s t => [(3, i6 s.1), (7, v0_1), (8, i6 (a0.kap.l : Int)), (9, i6 s.2)]) (fun s t => []) (fun s t => True) (8, 0) () [] H (by exact trivial) (by exact ⟨rfl, rfl, rfl, rfl, trivial⟩) (by decide) rfl ?_
 rintro ⟨x3_2, x9_2⟩ _ m1 gg H7 _
 clear H
 try dsimp only at H7
 generalize hn1 : it (fun next1 s => Ut a0 next1 s.1 s.2) m1 = next1 at H7
 try dsimp only
 refine Jc<|Ja<|lv (X3 rfl rfl)<|Jd<|Jc<|?_
 revert H7
 refine ci (decide (x9_2 < (a0.kap.l : Int))) rfl (fun hb H8=>?_) fun hb H12=>?_
 ·refine Jj<|Jc<|Jx<|Jc<|Ja<|?_
  obtain ⟨t11, h_t11, H9⟩ := Je H8; clear H8
  refine lv (Xc kcu kcd rfl rfl f0_1.frs (f0_1.ix h_t11))<|Xs (fun w hF hS => Qw (f := (elC h v0_1 1)) (i := x9_2) (sz := 1) (j := 0) (v := (Xd h v0_1 1 (Int.toNat x9_2) 0)) kbh rfl rfl (f0_1.frs.row (hw.now hF)) (f0_1.ix h_t11) (Jea (Jan (f0_1.at h_t11)) rfl)) rfl rfl rfl<|ag ((Xd h v0_1 1 (Int.toNat x9_2) 0))<|Jd<|Ja<|mv ((Xd h v0_1 1 (Int.toNat x9_2) 0))<|mv (i6 x3_2)<|?_
  obtain ⟨t15, h_t15, H10⟩ := Je H9; clear H9
  refine Qb (fun w hF hS => k106 (Jq w) ((show FrN h 6 (Xd h v0_1 1 (Int.toNat x9_2) 0) g_tag_Entry t11 from (f0_1.at h_t11)).mono (hw.now hF)) h_t15) call106 rfl rfl rfl<|ag (i6 t15)<|Jd<|Ja<|?_
  obtain ⟨t16, h_t16, H11⟩ := Je H10; clear H10
  refine lv (Jy rfl rfl h_t16)<|mv (i6 t16)<|Jd<|?_
  exact cl (t15, t16) () m1 [] (by exact ⟨(by subst hn1; exact H11), trivial⟩)
 ·refine Xj<|Jc<|Ja<|mv (i6 x3_2)<|ag (i6 x3_2)<|Jd<|Jm<|?_
  obtain rfl := sj H12
  exact r1 (i6 x3_2)
theorem k36 {a0 : Th} {v0_1 : Value} {r : Int} {w : World} {h : J1} (hw : Know h w Z0) (f0_1 : FrN h 1 v0_1 gs_tag_Entry a0.kap) (H : Jak a0 = some r) : Does prog 36 (List.toArray [.agg #[.bool a0.Big, v0_1]]) w (fun v w' => v = (i6 r) ∧ Grow w w') := by
 refine enter (n := 26) func36 rfl rfl rfl Z0 [] (Sat.nil _ _)<|Jc<|Ja<|?_
 refine W1 (cs := [.bool a0.Big, v0_1]) rfl rfl rfl rfl (fun b1 => ?_)
 refine ag (i6 0)<|Jd<|Jc<|Jc<|Ja<|lf Tryz.runUnderlying34 rfl kch rfl<|ll 0 v0_1 kbl<|lv (Z2 kcu rfl f0_1)<|lv (Yf rfl rfl)<|Jd<|?_
 revert H
 refine ci (decide (20 < (a0.kap.l : Int))) rfl (fun hb H15=>?_) fun hb H16=>?_
 ·refine Jc<|Ja<|ag (i6 4)<|Jd<|Jm<|?_
  obtain rfl := sj H15
  exact r1 (i6 4)
 ·refine Jj ?_
  refine Qg (r := r) (σ := Unit) (τ := Unit) (fun s => Jek a0) (fun s t => [(1, pz b1)]) (fun s t => [Jf b1 [.bool a0.Big, v0_1] 34]) (fun s t => True) ?_ ?_
  ·refine Jc<|Ja<|lf Tryz.runUnderlying34 rfl kch rfl<|ll 0 v0_1 kbl<|lv (Z2 kcu rfl f0_1)<|mv (i6 0)<|Jd<|Jx<|?_
   refine Za (σ := Int) (τ := Unit) (fun next2 s => Ub a0 next2 s) (fun s t => [(1, pz b1), (11, v0_1), (12, i6 (a0.kap.l : Int)), (13, i6 s)]) (fun s t => [Jf b1 [.bool a0.Big, v0_1] 34]) (fun s t => True) 0 () [0] H16 (by exact trivial) (by exact ⟨rfl, rfl, rfl, rfl, trivial⟩) (by decide) rfl ?_
   rintro x13_2 _ m2 gg H21 _
   clear H16
   try dsimp only at H21
   generalize hn2 : it (fun next2 s => Ub a0 next2 s) m2 = next2 at H21
   try dsimp only
   refine Jc<|Ja<|lv (X3 rfl rfl)<|Jd<|Jc<|?_
   revert H21
   refine ci (decide (x13_2 < (a0.kap.l : Int))) rfl (fun hb H22=>?_) fun hb H28=>?_
   ·refine Jj<|Jc<|Jx<|Jc<|Ja<|?_
    obtain ⟨t15, h_t15, H23⟩ := Je H22; clear H22
    refine lv (Xc kcu kcd rfl rfl f0_1.frs (f0_1.ix h_t15))<|Xs (fun w hF hS => Qw (f := (elC h v0_1 1)) (i := x13_2) (sz := 1) (j := 0) (v := (Xd h v0_1 1 (Int.toNat x13_2) 0)) kbh rfl rfl (f0_1.frs.row (hw.now hF)) (f0_1.ix h_t15) (Jea (Jan (f0_1.at h_t15)) rfl)) rfl rfl rfl<|ag ((Xd h v0_1 1 (Int.toNat x13_2) 0))<|Jd<|Jc<|Ja<|mv ((Xd h v0_1 1 (Int.toNat x13_2) 0))<|?_
    obtain ⟨t18, h_t18, H24⟩ := Je H23; clear H23
    refine Qb (fun w hF hS => k39 (Jq w) ((show FrN h 6 (Xd h v0_1 1 (Int.toNat x13_2) 0) g_tag_Entry t15 from (f0_1.at h_t15)).mono (hw.now hF)) h_t18) call39 rfl rfl rfl<|ag (i6 t18)<|Jd<|Jc<|Ja<|mv (i6 t18)<|lv (Yv rfl rfl)<|Jd<|?_
    revert H24
    refine ci (decide (t18 ≠ 0)) rfl (fun hb H25=>?_) fun hb H26=>?_
    ·refine Jc<|Ja<|mv (i6 t18)<|ag (i6 t18)<|Jd<|Jm<|?_
     obtain rfl := sj H25
     exact r1 (i6 t18)
    ·refine Jj<|Ja<|?_
     obtain ⟨t22, h_t22, H27⟩ := Je H26; clear H26
     refine lv (Jy rfl rfl h_t22)<|mv (i6 t22)<|Jd<|?_
     exact cl t22 () m2 [0] (by exact ⟨(by subst hn2; exact H27), trivial⟩)
   ·refine Xj ?_
    exact cl () () 0 [0] (by exact ⟨H28, trivial⟩)
  ·rintro _ _ gg H17 _
   try dsimp only at H17
   try dsimp only
   refine Jc<|Jc<|Ja<|Xb (i := 0) (vs := [.bool a0.Big, v0_1]) kbm kci rfl rfl rfl rfl rfl<|?_
   obtain ⟨t24, h_t24, H18⟩ := Je H17; clear H17
   refine Qb (fun w hF hS => k70 (Jq w) (f0_1.mono (hw.now hF)) h_t24) call70 rfl rfl rfl<|lv (Yf rfl rfl)<|Jd<|?_
   revert H18
   refine ci (decide (65000 < t24)) rfl (fun hb H19=>?_) fun hb H20=>?_
   ·refine Jc<|Ja<|ag (i6 4)<|Jd<|Jm<|?_
    obtain rfl := sj H19
    exact r1 (i6 4)
   ·refine Jj<|Jc<|Ja<|ag (i6 0)<|Jd<|Jm<|?_
    obtain rfl := sj H20
    exact r1 (i6 0)
theorem k10 {a0 : Te} {v0_2 : Value} {v0_3 : Value} {v0_4 : Value} {r : Int} {w : World} {h : J1} (hw : Know h w Z0) (f0_2 : FrS h 1 v0_2 (a0.kak.map J8)) (f0_3 : FrS h 2 v0_3 (a0.kah.map Jl)) (f0_4 : FrN h 6 v0_4 g_tag_Entry a0.kag) (H : Jb3 a0 = some r) : Does prog 10 (List.toArray [.agg #[i6 a0.kai, str a0.kaj, v0_2, v0_3, v0_4]]) w (fun v w' => v = (i6 r) ∧ Grow w w') := by
 refine enter (n := 17) func10 rfl rfl rfl Z0 [] (Sat.nil _ _)<|Jc<|Ja<|?_
 refine W1 (cs := [i6 a0.kai, str a0.kaj, v0_2, v0_3, v0_4]) rfl rfl rfl rfl (fun b1 => ?_)
 refine ag (i6 0)<|Jd<|Jc<|Jc<|Ja<|lf Tryz.runUnderlying26 rfl kcg rfl<|ll 0 (i6 a0.kai) kbk<|lv (Yv rfl rfl)<|Jd<|?_
 revert H
 refine ci (decide (a0.kai ≠ 13)) rfl (fun hb H8=>?_) fun hb H10=>?_
 ·refine Jc<|Ja<|Xb (i := 0) (vs := [i6 a0.kai, str a0.kaj, v0_2, v0_3, v0_4]) kbi kce rfl rfl rfl rfl rfl<|?_
  obtain ⟨t8, h_t8, H9⟩ := Je H8; clear H8
  refine Qb (fun w hF hS => k37 (Jq w) (f0_2.mono (hw.now hF)) (f0_3.mono (hw.now hF)) (f0_4.mono (hw.now hF)) h_t8) call37 rfl rfl rfl<|ag (i6 t8)<|Jd<|Jm<|?_
  obtain rfl := sj H9
  exact r1 (i6 t8)
 ·refine Jj<|Jc<|Jc<|Ja<|Xb (i := 0) (vs := [i6 a0.kai, str a0.kaj, v0_2, v0_3, v0_4]) kbi kce rfl rfl rfl rfl rfl<|?_
  obtain ⟨t10, h_t10, H11⟩ := Je H10; clear H10
  refine Qb (fun w hF hS => k38 (Jq w) (f0_2.mono (hw.now hF)) (f0_3.mono (hw.now hF)) (f0_4.mono (hw.now hF)) h_t10) call38 rfl rfl rfl<|ag (i6 t10)<|Jd<|Jc<|Ja<|mv (i6 t10)<|lv (Yv rfl rfl)<|Jd<|?_
  revert H11
  refine ci (decide (t10 ≠ 0)) rfl (fun hb H12=>?_) fun hb H13=>?_
  ·refine Jc<|Ja<|mv (i6 t10)<|ag (i6 t10)<|Jd<|Jm<|?_
   obtain rfl := sj H12
   exact r1 (i6 t10)
  ·refine Jj<|Jc<|Ja<|lf Tryz.runUnderlying26 rfl kcd rfl<|ll 0 v0_4 kbh<|?_
   obtain ⟨t16, h_t16, H14⟩ := Je H13; clear H13
   refine Qb (fun w hF hS => k39 (Jq w) (f0_4.mono (hw.now hF)) h_t16) call39 rfl rfl rfl<|ag (i6 t16)<|Jd<|Jm<|?_
   obtain rfl := sj H14
   exact r1 (i6 t16)
theorem k78 {a0 : (List Int)} {v0 : Value} {r : (List Int)} {w : World} {h : J1} (hw : Know h w Z0) (f0 : FrS h 1 v0 (a0.map J8)) (H : Y5 a0 = some r) : Does prog 78 (List.toArray [v0]) w (fun v w' => ∃ x : AN, v = (sl x r.l) ∧ Turn w w' Z0 (J4 3 1 (sl x r.l) r.l (r.map J8))) := by
 refine enter (n := 8) func78 rfl rfl rfl Z0 [] (Sat.nil _ _)<|Jc<|Ja<|ag (z0s)<|Jd<|Jc<|Jc<|Ja<|mv v0<|lv (r_eqlNilS kcr f0 rfl rfl)<|Jd<|?_
 refine c_if (b := Jez v0) rfl (fun hb => ?_) (fun hb => ?_)
 ·have hn_ : a0 = [] := f0.nilV hb
  have H3 : some ([] : List Int) = some r := by have h_ := H; rw [hn_] at h_; exact h_
  refine Jc<|Ja<|ag (z0s)<|Jd<|Jm<|Jp 3 1<|?_
  obtain rfl := sj H3
  refine Jdo (v := sl nn ([] : List Int).length) rfl rfl (Y0 nn (i := 0) rfl rfl (Imp.refl _))
 ·skip
  refine Jj<|Jc<|Ja<|?_
  refine Q5 (vs := []) (cs := []) kcr kcg zeroValue3 rfl rfl rfl rfl rfl rfl rfl (fun b1 => ?_)
  refine mv v0<|Xv 0 rfl (imp_box (m := 0) (E := 3) (sz := 1) (xs := (([] : List Int)).map J8) rfl rfl rfl ⟨rfl, by decide⟩)<|?_
  obtain ⟨l7, h_l7, H4⟩ := Je H; clear H
  refine Qh (Yg (i := 0) (hn := rfl) (rds := []) (p := ((some ⟨b1, 0, none⟩, 0) : AN)) (sz := 1) (by_ := 8) (f := J8) (ys := ([] : List Int)) (ls := a0) (V := v0) kcr (X0 typeInfo3) rfl rfl rfl rfl rfl rfl rfl rfl f0.eq (List.length_map _) (fun w L' hF hS hi => (f0).row (hw.now hF)) (fun _ => rfl) (fun _ => rfl) h_l7) rfl rfl rfl (fun p => ?_)
  refine ag (sl p l7.l)<|Jd<|Jm<|?_
  obtain rfl := sj H4
  refine Jdo (v := sl p l7.l) rfl rfl (Y0 p (i := 0) rfl rfl (Imp.refl _))
theorem k77 {a : Option Addr} {n c : Nat} (hc : n ≤ c) : Ret prog 77 [.slice a n c] (.slice (Vo a 0 n 1) n n) := by
  refine Va (n := 9) func77 rfl rfl rfl (fun wd => ?_)
  refine Jc<|Ja<|ag (z0s)<|Jd<|Jc<|Ja<|mv (.slice a n c)<|mv (.slice a n c)<|lv (Jdl kcr rfl)<|mv (.slice a n c)<|lv (Jdl kcr rfl)<|lv (r_sliceHM (a := a) (m := n) (c := c) (h := (n : Int)) (q := (n : Int)) kcr kcg rfl rfl rfl (Int.natCast_nonneg n) (Int.le_refl _) (Int.ofNat_le.2 hc))<|ag (.slice (Vo a 0 n 1) n n)<|Jd<|Jm<|?_
  exact Jdo (v := .slice (Vo a 0 n 1) n n) rfl rfl (fin rfl)
theorem k80 {a0 : (List Tg)} {v0 : Value} {r : (List Tg)} {w : World} {h : J1} (hw : Know h w Z0) (f0 : FrS h 2 v0 (a0.map Jl)) (H : U8 a0 = some r) : Does prog 80 (List.toArray [v0]) w (fun v w' => ∃ x : AN, v = (sl x r.l) ∧ Turn w w' Z0 (J4 98 2 (sl x r.l) r.l (r.map Jl))) := by
 refine enter (n := 8) func80 rfl rfl rfl Z0 [] (Sat.nil _ _)<|Jc<|Ja<|ag (z0s)<|Jd<|Jc<|Jc<|Ja<|mv v0<|lv (r_eqlNilS kcs f0 rfl rfl)<|Jd<|?_
 refine c_if (b := Jez v0) rfl (fun hb => ?_) (fun hb => ?_)
 ·have hn_ : a0 = [] := f0.nilV hb
  have H3 : some ([] : List Tg) = some r := by have h_ := H; rw [hn_] at h_; exact h_
  refine Jc<|Ja<|ag (z0s)<|Jd<|Jm<|Jp 98 2<|?_
  obtain rfl := sj H3
  refine Jdo (v := sl nn ([] : List Tg).length) rfl rfl (Y0 nn (i := 0) rfl rfl (Imp.refl _))
 ·skip
  refine Jj<|Jc<|Ja<|?_
  refine Q5 (vs := []) (cs := []) kcs kcp zeroValue98 rfl rfl rfl rfl rfl rfl rfl (fun b1 => ?_)
  refine mv v0<|Xv 0 rfl (imp_box (m := 0) (E := 98) (sz := 2) (xs := (([] : List Tg)).map Jl) rfl rfl rfl ⟨rfl, by decide⟩)<|?_
  obtain ⟨l7, h_l7, H4⟩ := Je H; clear H
  refine Qh (Yg (i := 0) (hn := rfl) (rds := []) (p := ((some ⟨b1, 0, none⟩, 0) : AN)) (sz := 2) (by_ := 16) (f := Jl) (ys := ([] : List Tg)) (ls := a0) (V := v0) kcs (X0 typeInfo98) rfl rfl rfl rfl rfl rfl rfl rfl f0.eq (List.length_map _) (fun w L' hF hS hi => (f0).row (hw.now hF)) (fun _ => rfl) (fun _ => rfl) h_l7) rfl rfl rfl (fun p => ?_)
  refine ag (sl p l7.l)<|Jd<|Jm<|?_
  obtain rfl := sj H4
  refine Jdo (v := sl p l7.l) rfl rfl (Y0 p (i := 0) rfl rfl (Imp.refl _))
theorem k79 {a : Option Addr} {n c : Nat} (hc : n ≤ c) : Ret prog 79 [.slice a n c] (.slice (Vo a 0 n 2) n n) := by
  refine Va (n := 9) func79 rfl rfl rfl (fun wd => ?_)
  refine Jc<|Ja<|ag (z0s)<|Jd<|Jc<|Ja<|mv (.slice a n c)<|mv (.slice a n c)<|lv (Jdl kcs rfl)<|mv (.slice a n c)<|lv (Jdl kcs rfl)<|lv (r_sliceHM (a := a) (m := n) (c := c) (h := (n : Int)) (q := (n : Int)) kcs kcp rfl rfl rfl (Int.natCast_nonneg n) (Int.le_refl _) (Int.ofNat_le.2 hc))<|ag (.slice (Vo a 0 n 2) n n)<|Jd<|Jm<|?_
  exact Jdo (v := .slice (Vo a 0 n 2) n n) rfl rfl (fin rfl)
theorem k51 {a0 : Int} {r : Int} (H : Jdx a0 = some r) : Ret prog 51 [i6 a0] (i6 r) := by
 refine Va (n := 16) func51 rfl rfl rfl (fun wd => ?_)
 refine Jc<|Ja<|ag (i6 0)<|Jd<|Jc<|Jc<|Ja<|mv (i6 a0)<|Jd<|Jx<|?_
 refine Qg (r := r) (σ := Bool) (τ := Unit) (fun s => Jdz a0 s) (fun s t => [(3, i6 a0), (4, .bool s)]) (fun s t => []) (fun s t => True) ?_ ?_
 ·refine Jc<|Ja<|lv (Qj rfl rfl)<|ag (.bool (decide (a0 = 1)))<|Jd<|?_
  revert H
  refine ci (decide (a0 = 1)) rfl (fun hb H47=>?_) fun hb H48=>?_
  ·refine Jj ?_
   exact cl (decide (a0 = 1)) () 0 [] (by exact ⟨H47, trivial⟩)
  ·refine Jc<|Ja<|lv (Qj rfl rfl)<|ag (.bool (decide (a0 = 2)))<|Jd<|?_
   revert H48
   refine ci (decide (a0 = 2)) rfl (fun hb H49=>?_) fun hb H50=>?_
   ·refine Jj ?_
    exact cl (decide (a0 = 2)) () 0 [] (by exact ⟨H49, trivial⟩)
   ·refine Ja<|lv (Qj rfl rfl)<|ag (.bool (decide (a0 = 7)))<|Jd<|?_
    exact cl (decide (a0 = 7)) () 0 [] (by exact ⟨H50, trivial⟩)
 ·rintro x4 _ gg H26 _
  try dsimp only at H26
  try dsimp only
  revert H26
  refine ci x4 rfl (fun hb H27=>?_) fun hb H28=>?_
  ·refine Jc<|Ja<|ag (i6 1)<|Jd<|Jm<|?_
   obtain rfl := sj H27
   exact r1 (i6 1)
  ·refine Jc<|Ja<|lv (Qj rfl rfl)<|ag (.bool (decide (a0 = 3)))<|Jd<|?_
   revert H28
   refine ci (decide (a0 = 3)) rfl (fun hb H29=>?_) fun hb H30=>?_
   ·refine Jc<|Ja<|ag (i6 2)<|Jd<|Jm<|?_
    obtain rfl := sj H29
    exact r1 (i6 2)
   ·refine Jc<|Jc<|Ja<|lv (Qj rfl rfl)<|ag (.bool (decide (a0 = 4)))<|Jd<|?_
    revert H30
    refine ci (decide (a0 = 4)) rfl (fun hb H31=>?_) fun hb H36=>?_
    ·refine Jj ?_
     revert H31
     refine ci (decide (a0 = 4)) rfl (fun hb H32=>?_) fun hb H33=>?_
     ·refine Jc<|Ja<|ag (i6 4)<|Jd<|Jm<|?_
      obtain rfl := sj H32
      exact r1 (i6 4)
     ·refine Jc<|Ja<|lv (Qj rfl rfl)<|ag (.bool (decide (a0 = 5)))<|Jd<|?_
      revert H33
      refine ci (decide (a0 = 5)) rfl (fun hb H34=>?_) fun hb H35=>?_
      ·refine Jc<|Ja<|ag (i6 8)<|Jd<|Jm<|?_
       obtain rfl := sj H34
       exact r1 (i6 8)
      ·refine Jj<|Jc<|Ja<|ag (i6 0)<|Jd<|Jm<|?_
       obtain rfl := sj H35
       exact r1 (i6 0)
    ·refine Jc<|Ja<|lv (Qj rfl rfl)<|ag (.bool (decide (a0 = 9)))<|Jd<|?_
     revert H36
     refine ci (decide (a0 = 9)) rfl (fun hb H37=>?_) fun hb H42=>?_
     ·refine Jj ?_
      revert H37
      refine ci (decide (a0 = 9)) rfl (fun hb H38=>?_) fun hb H39=>?_
      ·refine Jc<|Ja<|ag (i6 4)<|Jd<|Jm<|?_
       obtain rfl := sj H38
       exact r1 (i6 4)
      ·refine Jc<|Ja<|lv (Qj rfl rfl)<|ag (.bool (decide (a0 = 5)))<|Jd<|?_
       revert H39
       refine ci (decide (a0 = 5)) rfl (fun hb H40=>?_) fun hb H41=>?_
       ·refine Jc<|Ja<|ag (i6 8)<|Jd<|Jm<|?_
        obtain rfl := sj H40
        exact r1 (i6 8)
       ·refine Jj<|Jc<|Ja<|ag (i6 0)<|Jd<|Jm<|?_
        obtain rfl := sj H41
        exact r1 (i6 0)
     ·refine Ja<|lv (Qj rfl rfl)<|ag (.bool (decide (a0 = 13)))<|Jd<|?_
      revert H42
      refine ci (decide (a0 = 13)) rfl (fun hb H43=>?_) fun hb H44=>?_
      ·refine Jc<|Ja<|ag (i6 4)<|Jd<|Jm<|?_
       obtain rfl := sj H43
       exact r1 (i6 4)
      ·refine Jc<|Ja<|lv (Qj rfl rfl)<|ag (.bool (decide (a0 = 5)))<|Jd<|?_
       revert H44
       refine ci (decide (a0 = 5)) rfl (fun hb H45=>?_) fun hb H46=>?_
       ·refine Jc<|Ja<|ag (i6 8)<|Jd<|Jm<|?_
        obtain rfl := sj H45
        exact r1 (i6 8)
       ·refine Jj<|Jc<|Ja<|ag (i6 0)<|Jd<|Jm<|?_
        obtain rfl := sj H46
        exact r1 (i6 0)
theorem ext109 (s : List UInt8) (c r : Int) (h : gIxB s c = some r) (w : World) : (callFunc 109 (List.toArray [str s, .int .u8 c])).run prog w = .ok (.value (i6 r)) w := by
  have h0 : (callFunc 109 #[str s, .int .u8 c]).run prog w = (do pure (.value (← Extern.BytealgIndexByte.indexByte #[str s, .int .u8 c])) : Sem Next).run prog w := by kernel_rfl
  rw [h0]
  simp only [Sem.run_bind, Go.Lx.run_ixB h, Result.andThen_ok, Sem.run_pure]
theorem k88 {a0 : (List UInt8)} {a1 : Int} {r : Int} (H : Y7 a0 a1 = some r) : Ret prog 88 [str a0, .int .u8 a1] (i6 r) := by
 refine Va (n := 8) func88 rfl rfl rfl (fun wd => ?_)
 refine Jc<|Ja<|ag (i6 0)<|Jd<|Jc<|Ja<|mv (str a0)<|mv (.int .u8 a1)<|?_
 obtain ⟨t7, h_t7, H2⟩ := Je H; clear H
 refine lv (r_ext (args := [str a0, .int .u8 a1]) (ext109 _ _ _ h_t7) rfl)<|ag (i6 t7)<|Jd<|Jm<|?_
 obtain rfl := sj H2
 exact r1 (i6 t7)
theorem k53 {a0 : (List UInt8)} {a1 : Int} {r : Int} (H : V0 a0 a1 = some r) : Ret prog 53 [str a0, .int .u8 a1] (i6 r) := by
 refine Va (n := 8) func53 rfl rfl rfl (fun wd => ?_)
 refine Jc<|Ja<|ag (i6 0)<|Jd<|Jc<|Ja<|mv (str a0)<|mv (.int .u8 a1)<|?_
 obtain ⟨t7, h_t7, H2⟩ := Je H; clear H
 refine Yq (k88 h_t7) call88 rfl rfl rfl<|ag (i6 t7)<|Jd<|Jm<|?_
 obtain rfl := sj H2
 exact r1 (i6 t7)
theorem k52 {a0 : Int} {r : Int × Int} (H : Je2 a0 = some r) : Ret prog 52 [i6 a0] (.tuple #[i6 r.1, i6 r.2]) := by
 refine Va (n := 11) func52 rfl rfl rfl (fun wd => ?_)
 refine Jc<|Ja<|ag (i6 0)<|ag (i6 0)<|Jd<|Jc<|Jc<|Ja<|mv (i6 a0)<|Jd<|Jx<|Jc<|Ja<|lv (Qj rfl rfl)<|ag (.bool (decide (a0 = 1)))<|Jd<|?_
 revert H
 refine ci (decide (a0 = 1)) rfl (fun hb H7=>?_) fun hb H8=>?_
 ·refine Jc<|Ja<|ag (i6 0)<|ag (i6 255)<|Jd<|Jm<|?_
  obtain rfl := sj H7
  refine U9 (v1 := i6 0) (v2 := i6 255) rfl rfl rfl (fin rfl)
 ·refine Jc<|Ja<|lv (Qj rfl rfl)<|ag (.bool (decide (a0 = 3)))<|Jd<|?_
  revert H8
  refine ci (decide (a0 = 3)) rfl (fun hb H9=>?_) fun hb H10=>?_
  ·refine Jc<|Ja<|ag (i6 0)<|ag (i6 65535)<|Jd<|Jm<|?_
   obtain rfl := sj H9
   refine U9 (v1 := i6 0) (v2 := i6 65535) rfl rfl rfl (fin rfl)
  ·refine Jc<|Ja<|lv (Qj rfl rfl)<|ag (.bool (decide (a0 = 9)))<|Jd<|?_
   revert H10
   refine ci (decide (a0 = 9)) rfl (fun hb H11=>?_) fun hb H12=>?_
   ·refine Jc<|Ja<|ag (i6 (-2147483648))<|ag (i6 2147483647)<|Jd<|Jm<|?_
    obtain rfl := sj H11
    refine U9 (v1 := i6 (-2147483648)) (v2 := i6 2147483647) rfl rfl rfl (fin rfl)
   ·refine Jj<|Jc<|Ja<|ag (i6 0)<|ag (i6 4294967295)<|Jd<|Jm<|?_
    obtain rfl := sj H12
    refine U9 (v1 := i6 0) (v2 := i6 4294967295) rfl rfl rfl (fin rfl)
theorem k21 {a0 : Te} {v0_2 : Value} {v0_3 : Value} {v0_4 : Value} {r : Int} {w : World} {h : J1} (hw : Know h w Z0) (f0_2 : FrS h 1 v0_2 (a0.kak.map J8)) (f0_3 : FrS h 2 v0_3 (a0.kah.map Jl)) (f0_4 : FrN h 6 v0_4 g_tag_Entry a0.kag) (H : U6 a0 = some r) : Does prog 21 (List.toArray [.agg #[i6 a0.kai, str a0.kaj, v0_2, v0_3, v0_4]]) w (fun v w' => v = (i6 r) ∧ Grow w w') := by
 refine enter (n := 139) func21 rfl rfl rfl Z0 [] (Sat.nil _ _)<|Jc<|Ja<|?_
 refine W1 (cs := [i6 a0.kai, str a0.kaj, v0_2, v0_3, v0_4]) rfl rfl rfl rfl (fun b2 => ?_)
 refine ag (i6 0)<|Jd<|?_
 refine Qg (r := r) (σ := Bool × Bool) (τ := Unit) (fun s => X9 a0 s.1 s.2) (fun s t => [(1, pz b2), (3, .bool s.1), (4, .bool s.2)]) (fun s t => [Jf b2 [i6 a0.kai, str a0.kaj, v0_2, v0_3, v0_4] 26]) (fun s t => True) ?_ ?_
 ·exact Qk (Kd.p :: Kd.d [0] _ :: Kd.p :: Kd.p :: Kd.p :: Kd.d [0] _ :: Kd.p :: Kd.p :: Kd.p :: Kd.d [0] _ :: Kd.p :: Kd.p :: Kd.p :: Kd.d [0] _ :: Kd.p :: Kd.p :: Kd.p :: Kd.p :: Kd.d [0] _ :: Kd.p :: Kd.p :: Kd.p :: Kd.p :: Kd.d [0] _ :: Kd.p :: Kd.p :: Kd.p :: Kd.p :: []) 0 mixed (by
   refine dv (J2 Tryz.runUnderlying26 rfl kcg rfl rfl)<|dl (i6 a0.kai) kbk<|dv (Qj rfl rfl)<|dm (.bool (decide (a0.kai = 2)))<|?_
   refine Wu (fun hb => ?_) (fun hb => ?_)
   ·have H141 := Uo hb H
    refine dp<|dp<|dp<|dv (Xz (v := .bool true) rfl rfl)<|dv (J2 Tryz.runUnderlying26 rfl kcg rfl rfl)<|dl (i6 a0.kai) kbk<|dv (Qj rfl rfl)<|dm (.bool (decide (a0.kai = 1)))<|?_
    refine Wu (fun hb => ?_) (fun hb => ?_)
    ·have H142 := Uo hb H141
     refine dp<|dp<|dp<|dv (Xz (v := .bool true) rfl rfl)<|dm (.bool true)<|dp<|dp<|dp<|dv (Xz (v := .bool true) rfl rfl)<|dm (.bool true)<|dp<|dp<|dp<|dv (Xz (v := .bool true) rfl rfl)<|Qv rfl rfl (Jz (v := .bool true) rfl)<|Qv rfl rfl (Jz (v := .bool true) rfl)<|Xr<|?_
     exact cl (true, true) () 0 [0] (by exact ⟨H142, trivial⟩)
    ·have H143 := Us hb H141
     refine dv (J2 Tryz.runUnderlying26 rfl kcg rfl rfl)<|dl (i6 a0.kai) kbk<|dv (Qj rfl rfl)<|dv (Z1 (v := .bool (decide (a0.kai = 3))) rfl rfl)<|dm (.bool (decide (a0.kai = 3)))<|?_
     refine Wu (fun hb => ?_) (fun hb => ?_)
     ·have H144 := Uo hb H143
      refine dp<|dp<|dp<|dv (Xz (v := .bool true) rfl rfl)<|dm (.bool true)<|dp<|dp<|dp<|dv (Xz (v := .bool true) rfl rfl)<|Qv rfl rfl (Jz (v := .bool true) rfl)<|Qv rfl rfl (Jz (v := .bool true) rfl)<|Xr<|?_
      exact cl (true, true) () 0 [0] (by exact ⟨H144, trivial⟩)
     ·have H145 := Us hb H143
      refine dv (J2 Tryz.runUnderlying26 rfl kcg rfl rfl)<|dl (i6 a0.kai) kbk<|dv (Qj rfl rfl)<|dv (Z1 (v := .bool (decide (a0.kai = 4))) rfl rfl)<|dm (.bool (decide (a0.kai = 4)))<|?_
      refine Wu (fun hb => ?_) (fun hb => ?_)
      ·have H146 := Uo hb H145
       refine dp<|dp<|dp<|dv (Xz (v := .bool true) rfl rfl)<|Qv rfl rfl (Jz (v := .bool true) rfl)<|Qv rfl rfl (Jz (v := .bool true) rfl)<|Xr<|?_
       exact cl (true, true) () 0 [0] (by exact ⟨H146, trivial⟩)
      ·have H147 := Us hb H145
       refine dv (J2 Tryz.runUnderlying26 rfl kcg rfl rfl)<|dl (i6 a0.kai) kbk<|dv (Qj rfl rfl)<|dv (Z1 (v := .bool (decide (a0.kai = 9))) rfl rfl)<|Qv rfl rfl (Jz (v := .bool true) rfl)<|Qv rfl rfl (Jz (v := .bool (decide (a0.kai = 9))) rfl)<|Xr<|?_
       exact cl (true, (decide (a0.kai = 9))) () 0 [0] (by exact ⟨H147, trivial⟩)
   ·have H148 := Us hb H
    refine dv (J2 Tryz.runUnderlying26 rfl kcg rfl rfl)<|dl (i6 a0.kai) kbk<|dv (Qj rfl rfl)<|dv (Z1 (v := .bool (decide (a0.kai = 7))) rfl rfl)<|dv (J2 Tryz.runUnderlying26 rfl kcg rfl rfl)<|dl (i6 a0.kai) kbk<|dv (Qj rfl rfl)<|dm (.bool (decide (a0.kai = 1)))<|?_
    refine Wu (fun hb => ?_) (fun hb => ?_)
    ·have H149 := Uo hb H148
     refine dp<|dp<|dp<|dv (Xz (v := .bool true) rfl rfl)<|dm (.bool true)<|dp<|dp<|dp<|dv (Xz (v := .bool true) rfl rfl)<|dm (.bool true)<|dp<|dp<|dp<|dv (Xz (v := .bool true) rfl rfl)<|Qv rfl rfl (Jz (v := .bool (decide (a0.kai = 7))) rfl)<|Qv rfl rfl (Jz (v := .bool true) rfl)<|Xr<|?_
     exact cl ((decide (a0.kai = 7)), true) () 0 [0] (by exact ⟨H149, trivial⟩)
    ·have H150 := Us hb H148
     refine dv (J2 Tryz.runUnderlying26 rfl kcg rfl rfl)<|dl (i6 a0.kai) kbk<|dv (Qj rfl rfl)<|dv (Z1 (v := .bool (decide (a0.kai = 3))) rfl rfl)<|dm (.bool (decide (a0.kai = 3)))<|?_
     refine Wu (fun hb => ?_) (fun hb => ?_)
     ·have H151 := Uo hb H150
      refine dp<|dp<|dp<|dv (Xz (v := .bool true) rfl rfl)<|dm (.bool true)<|dp<|dp<|dp<|dv (Xz (v := .bool true) rfl rfl)<|Qv rfl rfl (Jz (v := .bool (decide (a0.kai = 7))) rfl)<|Qv rfl rfl (Jz (v := .bool true) rfl)<|Xr<|?_
      exact cl ((decide (a0.kai = 7)), true) () 0 [0] (by exact ⟨H151, trivial⟩)
     ·have H152 := Us hb H150
      refine dv (J2 Tryz.runUnderlying26 rfl kcg rfl rfl)<|dl (i6 a0.kai) kbk<|dv (Qj rfl rfl)<|dv (Z1 (v := .bool (decide (a0.kai = 4))) rfl rfl)<|dm (.bool (decide (a0.kai = 4)))<|?_
      refine Wu (fun hb => ?_) (fun hb => ?_)
      ·have H153 := Uo hb H152
       refine dp<|dp<|dp<|dv (Xz (v := .bool true) rfl rfl)<|Qv rfl rfl (Jz (v := .bool (decide (a0.kai = 7))) rfl)<|Qv rfl rfl (Jz (v := .bool true) rfl)<|Xr<|?_
       exact cl ((decide (a0.kai = 7)), true) () 0 [0] (by exact ⟨H153, trivial⟩)
      ·have H154 := Us hb H152
       refine dv (J2 Tryz.runUnderlying26 rfl kcg rfl rfl)<|dl (i6 a0.kai) kbk<|dv (Qj rfl rfl)<|dv (Z1 (v := .bool (decide (a0.kai = 9))) rfl rfl)<|Qv rfl rfl (Jz (v := .bool (decide (a0.kai = 7))) rfl)<|Qv rfl rfl (Jz (v := .bool (decide (a0.kai = 9))) rfl)<|Xr<|?_
       exact cl ((decide (a0.kai = 7)), (decide (a0.kai = 9))) () 0 [0] (by exact ⟨H154, trivial⟩)
   ) (by kernel_rfl)
 ·rintro ⟨x3, x4⟩ _ gg H78 _
  try dsimp only at H78
  try dsimp only
  refine Qg (r := r) (σ := Unit) (τ := Unit) (fun s => X7 a0) (fun s t => [(1, pz b2)]) (fun s t => [Jf b2 [i6 a0.kai, str a0.kaj, v0_2, v0_3, v0_4] 26]) (fun s t => True) ?_ ?_
  ·refine Jx<|Jc<|Ja<|lf Tryz.runUnderlying26 rfl kcg rfl<|ll 0 (i6 a0.kai) kbk<|?_
   obtain ⟨t40, h_t40, H113⟩ := Je H78; clear H78
   refine Yq (k51 h_t40) call51 rfl rfl rfl<|lv (Qj rfl rfl)<|ag (.bool (decide (t40 = 0)))<|Jd<|?_
   revert H113
   refine ci (decide (t40 = 0)) rfl (fun hb H114=>?_) fun hb H115=>?_
   ·refine Jc<|Ja<|ag (i6 10)<|Jd<|Jm<|?_
    obtain rfl := sj H114
    exact r1 (i6 10)
   ·refine Jc ?_
    refine Qg (r := r) (σ := Bool) (τ := Unit) (fun s => V7 a0 x4 s) (fun s t => [(1, pz b2), (4, .bool x4), (42, .bool s)]) (fun s t => [Jf b2 [i6 a0.kai, str a0.kaj, v0_2, v0_3, v0_4] 26]) (fun s t => True) ?_ ?_
    ·refine Ja<|lf Tryz.runUnderlying26 rfl kcn rfl<|ll 0 (str a0.kaj) kbp<|lv (Je0 rfl rfl)<|mv (.bool (decide (a0.kaj ≠ [])))<|?_
     revert H115
     refine sp (fun hb H139=>?_) fun hb H140=>?_
     ·refine mv (.bool x3)<|lv (Ja6 rfl)<|pT (.bool (!x3))<|ag (.bool (!x3))<|Jd<|?_
      exact cl (!x3) () 0 [0] (by exact ⟨H139, trivial⟩)
     ·refine pa<|pa<|pF (.bool false)<|ag (.bool false)<|Jd<|?_
      exact cl false () 0 [0] (by exact ⟨H140, trivial⟩)
    ·rintro x42 _ gg H116 _
     try dsimp only at H116
     try dsimp only
     revert H116
     refine ci x42 rfl (fun hb H117=>?_) fun hb H120=>?_
     ·refine Jj ?_
      revert H117
      refine ci x42 rfl (fun hb H118=>?_) fun hb H119=>?_
      ·refine Jc<|Ja<|ag (i6 1)<|Jd<|Jm<|?_
       obtain rfl := sj H118
       exact r1 (i6 1)
      ·refine Jj ?_
       exact cl () () 0 [0] (by exact ⟨H119, trivial⟩)
     ·refine Qg (r := r) (σ := Bool) (τ := Unit) (fun s => V9 a0 s) (fun s t => [(1, pz b2), (42, .bool s)]) (fun s t => [Jf b2 [i6 a0.kai, str a0.kaj, v0_2, v0_3, v0_4] 26]) (fun s t => True) ?_ ?_
      ·refine Ja<|lf Tryz.runUnderlying26 rfl kcb rfl<|ll 0 v0_2 kbg<|lv (Yz kcr rfl f0_2 rfl)<|lv (Yf rfl rfl)<|mv (.bool (decide (0 < (a0.kak.l : Int))))<|?_
       revert H120
       refine sp (fun hb H137=>?_) fun hb H138=>?_
       ·refine mv (.bool x4)<|lv (Ja6 rfl)<|pT (.bool (!x4))<|ag (.bool (!x4))<|Jd<|?_
        exact cl (!x4) () 0 [0] (by exact ⟨H137, trivial⟩)
       ·refine pa<|pa<|pF (.bool false)<|ag (.bool false)<|Jd<|?_
        exact cl false () 0 [0] (by exact ⟨H138, trivial⟩)
      ·rintro x42_2 _ gg H121 _
       try dsimp only at H121
       try dsimp only
       revert H121
       refine ci x42_2 rfl (fun hb H122=>?_) fun hb H125=>?_
       ·refine Jj ?_
        revert H122
        refine ci x42_2 rfl (fun hb H123=>?_) fun hb H124=>?_
        ·refine Jc<|Ja<|ag (i6 1)<|Jd<|Jm<|?_
         obtain rfl := sj H123
         exact r1 (i6 1)
        ·refine Jj ?_
         exact cl () () 0 [0] (by exact ⟨H124, trivial⟩)
       ·refine Qg (r := r) (σ := Bool) (τ := Unit) (fun s => Vq a0 s) (fun s t => [(1, pz b2), (42, .bool s)]) (fun s t => [Jf b2 [i6 a0.kai, str a0.kaj, v0_2, v0_3, v0_4] 26]) (fun s t => True) ?_ ?_
        ·refine Ja<|lf Tryz.runUnderlying26 rfl kcc rfl<|ll 0 v0_3 isAgg23<|lv (Yz kcs rfl f0_3 rfl)<|lv (Yf rfl rfl)<|mv (.bool (decide (0 < (a0.kah.l : Int))))<|?_
         revert H125
         refine sp (fun hb H135=>?_) fun hb H136=>?_
         ·refine lf Tryz.runUnderlying26 rfl kcg rfl<|ll 0 (i6 a0.kai) kbk<|lv (Yv rfl rfl)<|pT (.bool (decide (a0.kai ≠ 5)))<|ag (.bool (decide (a0.kai ≠ 5)))<|Jd<|?_
          exact cl (decide (a0.kai ≠ 5)) () 0 [0] (by exact ⟨H135, trivial⟩)
         ·refine pa<|pa<|pa<|pF (.bool false)<|ag (.bool false)<|Jd<|?_
          exact cl false () 0 [0] (by exact ⟨H136, trivial⟩)
        ·rintro x42_3 _ gg H126 _
         try dsimp only at H126
         try dsimp only
         revert H126
         refine ci x42_3 rfl (fun hb H127=>?_) fun hb H130=>?_
         ·refine Jj ?_
          revert H127
          refine ci x42_3 rfl (fun hb H128=>?_) fun hb H129=>?_
          ·refine Jc<|Ja<|ag (i6 1)<|Jd<|Jm<|?_
           obtain rfl := sj H128
           exact r1 (i6 1)
          ·refine Jj ?_
           exact cl () () 0 [0] (by exact ⟨H129, trivial⟩)
         ·refine Ja<|lf Tryz.runUnderlying26 rfl kcd rfl<|ll 0 v0_4 kbh<|lv (Z2 kct rfl f0_4)<|lv (Yf rfl rfl)<|mv (.bool (decide (0 < (a0.kag.l : Int))))<|?_
          revert H130
          refine sp (fun hb H131=>?_) fun hb H134=>?_
          ·refine lf Tryz.runUnderlying26 rfl kcg rfl<|ll 0 (i6 a0.kai) kbk<|lv (Yv rfl rfl)<|pT (.bool (decide (a0.kai ≠ 13)))<|ag (.bool (decide (a0.kai ≠ 13)))<|Jd<|?_
           revert H131
           refine ci (decide (a0.kai ≠ 13)) rfl (fun hb H132=>?_) fun hb H133=>?_
           ·refine Jc<|Ja<|ag (i6 1)<|Jd<|Jm<|?_
            obtain rfl := sj H132
            exact r1 (i6 1)
           ·refine Jj ?_
            exact cl () () 0 [0] (by exact ⟨H133, trivial⟩)
          ·refine pa<|pa<|pa<|pF (.bool false)<|ag (.bool false)<|Jd<|Zz rfl<|Jj<|?_
           exact cl () () 0 [0] (by exact ⟨H134, trivial⟩)
  ·rintro _ _ gg H79 _
   try dsimp only at H79
   try dsimp only
   refine Jc<|Ja<|lf Tryz.runUnderlying26 rfl kcg rfl<|ll 0 (i6 a0.kai) kbk<|?_
   obtain ⟨t79, h_t79, H80⟩ := Je H79; clear H79
   refine Yq (k52 h_t79) call52 rfl rfl rfl<|mv (.tuple #[i6 t79.1, i6 t79.2])<|lv (J9 (v := i6 t79.1) rfl rfl)<|lv (J9 (v := i6 t79.2) rfl rfl)<|ag (i6 t79.1)<|ag (i6 t79.2)<|Jd<|?_
   refine Qg (r := r) (σ := Unit) (τ := Unit) (fun s => V4 a0) (fun s t => [(1, pz b2)]) (fun s t => [Jf b2 [i6 a0.kai, str a0.kaj, v0_2, v0_3, v0_4] 26]) (fun s t => True) ?_ ?_
   ·refine Jc<|Ja<|lf Tryz.runUnderlying26 rfl kcb rfl<|ll 0 v0_2 kbg<|lv (Yz kcr rfl f0_2 rfl)<|mv (i6 0)<|Jd<|Jx<|?_
    refine Za (σ := Int) (τ := Unit) (fun next7 s => Yk a0 t79 next7 s) (fun s t => [(1, pz b2), (5, i6 t79.1), (6, i6 t79.2), (83, v0_2), (84, i6 (a0.kak.l : Int)), (85, i6 s)]) (fun s t => [Jf b2 [i6 a0.kai, str a0.kaj, v0_2, v0_3, v0_4] 26]) (fun s t => True) 0 () [0] H80 (by exact trivial) (by exact ⟨rfl, rfl, rfl, rfl, rfl, rfl, trivial⟩) (by decide) rfl ?_
    rintro x85_2 _ m7 gg H104 _
    clear H80
    try dsimp only at H104
    generalize hn7 : it (fun next7 s => Yk a0 t79 next7 s) m7 = next7 at H104
    try dsimp only
    refine Jc<|Ja<|lv (X3 rfl rfl)<|Jd<|Jc<|?_
    revert H104
    refine ci (decide (x85_2 < (a0.kak.l : Int))) rfl (fun hb H105=>?_) fun hb H112=>?_
    ·refine Jj<|Jc<|Jx<|Jc<|Ja<|?_
     obtain ⟨t87, h_t87, H106⟩ := Je H105; clear H105
     refine lv (Xc kcr kcg rfl rfl f0_2 h_t87)<|Xs (fun w hF hS => Qw (f := J8) (i := x85_2) (sz := 1) (j := 0) (v := i6 t87) kbk rfl rfl (f0_2.row (hw.now hF)) h_t87 rfl) rfl rfl rfl<|ag (i6 t87)<|Jd<|Jc<|Ja<|mv (i6 t87)<|mv (i6 t79.1)<|lv (X3 rfl rfl)<|mv (.bool (decide (t87 < t79.1)))<|?_
     revert H106
     refine sp (fun hb H107=>?_) fun hb H108=>?_
     ·refine pa<|pa<|pa<|pT (.bool true)<|Jd<|Zl rfl<|Jc<|Ja<|ag (i6 2)<|Jd<|Jm<|?_
      obtain rfl := sj H107
      exact r1 (i6 2)
     ·refine mv (i6 t87)<|mv (i6 t79.2)<|lv (Yf rfl rfl)<|pF (.bool (decide (t79.2 < t87)))<|Jd<|?_
      revert H108
      refine ci (decide (t79.2 < t87)) rfl (fun hb H109=>?_) fun hb H110=>?_
      ·refine Jc<|Ja<|ag (i6 2)<|Jd<|Jm<|?_
       obtain rfl := sj H109
       exact r1 (i6 2)
      ·refine Jj<|Ja<|?_
       obtain ⟨t97, h_t97, H111⟩ := Je H110; clear H110
       refine lv (Jy rfl rfl h_t97)<|mv (i6 t97)<|Jd<|?_
       exact cl t97 () m7 [0] (by exact ⟨(by subst hn7; exact H111), trivial⟩)
    ·refine Xj ?_
     exact cl () () 0 [0] (by exact ⟨H112, trivial⟩)
   ·rintro _ _ gg H81 _
    try dsimp only at H81
    try dsimp only
    refine Qg (r := r) (σ := Unit) (τ := Unit) (fun s => V6 a0) (fun s t => [(1, pz b2)]) (fun s t => [Jf b2 [i6 a0.kai, str a0.kaj, v0_2, v0_3, v0_4] 26]) (fun s t => True) ?_ ?_
    ·refine Jc<|Ja<|lf Tryz.runUnderlying26 rfl kcc rfl<|ll 0 v0_3 isAgg23<|lv (Yz kcs rfl f0_3 rfl)<|mv (i6 0)<|Jd<|Jx<|?_
     refine Za (σ := Int) (τ := Unit) (fun next6 s => Yl a0 next6 s) (fun s t => [(1, pz b2), (99, v0_3), (100, i6 (a0.kah.l : Int)), (101, i6 s)]) (fun s t => [Jf b2 [i6 a0.kai, str a0.kaj, v0_2, v0_3, v0_4] 26]) (fun s t => True) 0 () [0] H81 (by exact trivial) (by exact ⟨rfl, rfl, rfl, rfl, trivial⟩) (by decide) rfl ?_
     rintro x101_2 _ m6 gg H91 _
     clear H81
     try dsimp only at H91
     generalize hn6 : it (fun next6 s => Yl a0 next6 s) m6 = next6 at H91
     try dsimp only
     refine Jc<|Ja<|lv (X3 rfl rfl)<|Jd<|Jc<|?_
     revert H91
     refine ci (decide (x101_2 < (a0.kah.l : Int))) rfl (fun hb H92=>?_) fun hb H103=>?_
     ·refine Jj<|Jc<|Jx<|Jc<|Ja<|?_
      obtain ⟨t103, h_t103, H93⟩ := Je H92; clear H92
      refine lv (Xc kcs kcp rfl rfl f0_3 h_t103)<|Xs (fun w hF hS => Z5 (f := Jl) (i := x101_2) (sz := 2) (j := 0) (vs := [i6 t103.Num, i6 t103.Den]) isAgg98 kcp rfl rfl (f0_3.row (hw.now hF)) h_t103 rfl) rfl rfl rfl<|?_
      refine Xx (cs := [i6 0, i6 0]) zeroValue98 rfl rfl rfl (fun b3 => ?_)
      refine st (i := 1) [i6 t103.Num, i6 t103.Den] [i6 t103.Num, i6 t103.Den] kcp rfl rfl<|Jd<|Jc<|Ja<|lf Tryz.runUnderlying98 rfl kcg rfl<|ll 1 (i6 t103.Num) kbk<|lv (X3 rfl rfl)<|mv (.bool (decide (t103.Num < 0)))<|?_
      revert H93
      refine sp (fun hb H94=>?_) fun hb H95=>?_
      ·refine pa<|pa<|pa<|pT (.bool true)<|mv (.bool true)<|pa<|pa<|pa<|pT (.bool true)<|mv (.bool true)<|pa<|pa<|pa<|pT (.bool true)<|Jd<|Zl rfl<|Jc<|Ja<|ag (i6 2)<|Jd<|Jm<|?_
       obtain rfl := sj H94
       exact r1 (i6 2)
      ·refine lf Tryz.runUnderlying98 rfl kcg rfl<|ll 1 (i6 t103.Num) kbk<|lv (Yf rfl rfl)<|pF (.bool (decide (4294967295 < t103.Num)))<|mv (.bool (decide (4294967295 < t103.Num)))<|?_
       revert H95
       refine sp (fun hb H96=>?_) fun hb H97=>?_
       ·refine pa<|pa<|pa<|pT (.bool true)<|mv (.bool true)<|pa<|pa<|pa<|pT (.bool true)<|Jd<|Zl rfl<|Jc<|Ja<|ag (i6 2)<|Jd<|Jm<|?_
        obtain rfl := sj H96
        exact r1 (i6 2)
       ·refine lf Tryz.runUnderlying98 rfl kcg rfl<|ll 1 (i6 t103.Den) kbk<|lv (X3 rfl rfl)<|pF (.bool (decide (t103.Den < 0)))<|mv (.bool (decide (t103.Den < 0)))<|?_
        revert H97
        refine sp (fun hb H98=>?_) fun hb H99=>?_
        ·refine pa<|pa<|pa<|pT (.bool true)<|Jd<|Zl rfl<|Jc<|Ja<|ag (i6 2)<|Jd<|Jm<|?_
         obtain rfl := sj H98
         exact r1 (i6 2)
        ·refine lf Tryz.runUnderlying98 rfl kcg rfl<|ll 1 (i6 t103.Den) kbk<|lv (Yf rfl rfl)<|pF (.bool (decide (4294967295 < t103.Den)))<|Jd<|?_
         revert H99
         refine ci (decide (4294967295 < t103.Den)) rfl (fun hb H100=>?_) fun hb H101=>?_
         ·refine Jc<|Ja<|ag (i6 2)<|Jd<|Jm<|?_
          obtain rfl := sj H100
          exact r1 (i6 2)
         ·refine Jj<|Ja<|?_
          obtain ⟨t123, h_t123, H102⟩ := Je H101; clear H101
          refine lv (Jy rfl rfl h_t123)<|mv (i6 t123)<|Jd<|?_
          exact cl t123 () m6 [0] (by exact ⟨(by subst hn6; exact H102), trivial⟩)
     ·refine Xj ?_
      exact cl () () 0 [0] (by exact ⟨H103, trivial⟩)
    ·rintro _ _ gg H82 _
     try dsimp only at H82
     try dsimp only
     refine Qg (r := r) (σ := Unit) (τ := Unit) (fun s => W7 a0) (fun s t => [(1, pz b2)]) (fun s t => [Jf b2 [i6 a0.kai, str a0.kaj, v0_2, v0_3, v0_4] 26]) (fun s t => True) ?_ ?_
     ·refine Jc<|Ja<|lf Tryz.runUnderlying26 rfl kcg rfl<|ll 0 (i6 a0.kai) kbk<|lv (Qj rfl rfl)<|mv (.bool (decide (a0.kai = 2)))<|?_
      revert H82
      refine sp (fun hb H86=>?_) fun hb H90=>?_
      ·refine lf Tryz.runUnderlying26 rfl kcn rfl<|ll 0 (str a0.kaj) kbp<|?_
       obtain ⟨t130, h_t130, H87⟩ := Je H86; clear H86
       refine Yq (k53 h_t130) call53 rfl rfl rfl<|lv (Jey rfl rfl)<|pT (.bool (decide (0 ≤ t130)))<|Jd<|?_
       revert H87
       refine ci (decide (0 ≤ t130)) rfl (fun hb H88=>?_) fun hb H89=>?_
       ·refine Jc<|Ja<|ag (i6 9)<|Jd<|Jm<|?_
        obtain rfl := sj H88
        exact r1 (i6 9)
       ·refine Jj ?_
        exact cl () () 0 [0] (by exact ⟨H89, trivial⟩)
      ·refine pa<|pa<|pa<|pa<|pF (.bool false)<|Jd<|Zz rfl<|Jj<|?_
       exact cl () () 0 [0] (by exact ⟨H90, trivial⟩)
     ·rintro _ _ gg H83 _
      try dsimp only at H83
      try dsimp only
      refine Jc<|Jc<|Ja<|lf Tryz.runUnderlying26 rfl kcg rfl<|ll 0 (i6 a0.kai) kbk<|lv (Qj rfl rfl)<|Jd<|?_
      revert H83
      refine ci (decide (a0.kai = 13)) rfl (fun hb H84=>?_) fun hb H85=>?_
      ·exact absurd (show (none : Option (Int)) = some r from H84) (fun h => by cases h)
      ·refine Jj<|Jc<|Ja<|ag (i6 0)<|Jd<|Jm<|?_
       obtain rfl := sj H85
       exact r1 (i6 0)
theorem k54_it (mm : Nat) : ∀ {a0 : (List Ta)} {v0 : Value} {a1 : Int} {r : Int} {w : World} {h : J1} (hw : Know h w Z0) (f0 : FrN h 6 v0 g_tag_Entry a0) (H : it (fun (self : ((List Ta) × Int) → Option (Int)) (s : (List Ta) × Int) => Vj self s.1 s.2) mm (a0, a1) = some r), Does prog 54 (List.toArray [v0, i6 a1]) w (fun v w' => v = (i6 r) ∧ Grow w w') := by
 induction mm with
 | zero => intros; rename_i H; exact absurd H (by simp [it])
 | succ mm ih =>
  intro a0 v0 a1 r w h hw f0 H
  replace H : Vj (it (fun (self : ((List Ta) × Int) → Option (Int)) (s : (List Ta) × Int) => Vj self s.1 s.2) mm) a0 a1 = some r := H
  generalize it (fun (self : ((List Ta) × Int) → Option (Int)) (s : (List Ta) × Int) => Vj self s.1 s.2) mm = self at H ih
  refine enter (n := 79) func54 rfl rfl rfl Z0 [] (Sat.nil _ _)<|Jc<|Ja<|ag (i6 0)<|Jd<|Jc<|Jc<|Ja<|mv (i6 a1)<|lv (Yf rfl rfl)<|mv (.bool (decide (5 < a1)))<|?_
  revert H
  refine sp (fun hb H37=>?_) fun hb H38=>?_
  ·refine pa<|pa<|pa<|pT (.bool true)<|Jd<|Zl rfl<|Jc<|Ja<|ag (i6 4)<|Jd<|Jm<|?_
   obtain rfl := sj H37
   exact r1 (i6 4)
  ·refine mv v0<|lv (Z2 kct rfl f0)<|lv (Yf rfl rfl)<|pF (.bool (decide (200 < (a0.l : Int))))<|Jd<|?_
   revert H38
   refine ci (decide (200 < (a0.l : Int))) rfl (fun hb H39=>?_) fun hb H40=>?_
   ·refine Jc<|Ja<|ag (i6 4)<|Jd<|Jm<|?_
    obtain rfl := sj H39
    exact r1 (i6 4)
   ·refine Jj<|Jc<|Jc<|Ja<|mv v0<|lv (Z2 kct rfl f0)<|mv (i6 0)<|Jd<|Jx<|?_
    refine Za (σ := Int) (τ := Unit) (fun next1 s => Jbg a0 a1 self next1 s) (fun s t => [(0, v0), (1, i6 a1), (17, v0), (18, i6 (a0.l : Int)), (19, i6 s)]) (fun s t => []) (fun s t => True) 0 () [] H40 (by exact trivial) (by exact ⟨rfl, rfl, rfl, rfl, rfl, trivial⟩) (by decide) rfl ?_
    rintro x19_2 _ m1 gg H41 _
    clear H40
    try dsimp only at H41
    generalize hn1 : it (fun next1 s => Jbg a0 a1 self next1 s) m1 = next1 at H41
    try dsimp only
    refine Jc<|Ja<|lv (X3 rfl rfl)<|Jd<|Jc<|?_
    revert H41
    refine ci (decide (x19_2 < (a0.l : Int))) rfl (fun hb H42=>?_) fun hb H72=>?_
    ·refine Jj ?_
     refine Qg (r := r) (σ := Int × Bool × Int × Int × (List UInt8) × (List Int) × (List Tg) × (List Ta)) (τ := Value × Value × Value × Nat) (fun s => Jbf x19_2 next1 s.1 s.2.1 s.2.2.1 s.2.2.2.1 s.2.2.2.2.1 s.2.2.2.2.2.1 s.2.2.2.2.2.2.1 s.2.2.2.2.2.2.2) (fun s t => [(0, v0), (1, i6 a1), (17, v0), (18, i6 (a0.l : Int)), (19, i6 x19_2), (28, .pointer (some ⟨t.2.2.2, 0, none⟩)), (29, i6 s.1), (30, .bool s.2.1)]) (fun s t => [Jf t.2.2.2 [i6 s.2.2.1, i6 s.2.2.2.1, str s.2.2.2.2.1, t.1, t.2.1, t.2.2.1] 95]) (fun s t => FrS h 1 t.1 (s.2.2.2.2.2.1.map J8) ∧ FrS h 2 t.2.1 (s.2.2.2.2.2.2.1.map Jl) ∧ FrN h 6 t.2.2.1 g_tag_Entry s.2.2.2.2.2.2.2) ?_ ?_
     ·refine Jx<|Jc<|Ja<|mv (i6 x19_2)<|?_
      obtain ⟨t22, h_t22, H45⟩ := Je H42; clear H42
      refine lv (Xc kct kco rfl rfl f0.frs (f0.ix h_t22))<|Xs (fun w hF hS => Z5 (f := (elC h v0 6)) (i := x19_2) (sz := 6) (j := 0) (vs := [i6 t22.Tag, i6 t22.Value.kai, str t22.Value.kaj, (Xd h v0 6 (Int.toNat x19_2) 3), (Xd h v0 6 (Int.toNat x19_2) 4), (Xd h v0 6 (Int.toNat x19_2) 5)]) isAgg95 kco rfl rfl (f0.frs.row (hw.now hF)) (f0.ix h_t22) (rd_of (Yd (f0.at h_t22)) rfl)) rfl rfl rfl<|?_
      refine Xx (cs := [i6 0, i6 0, str [], z0s, z0s, z0s]) zeroValue95 rfl rfl rfl (fun b2 => ?_)
      refine ag (i6 x19_2)<|Wz (i := 0) (vs := [i6 t22.Tag, i6 t22.Value.kai, str t22.Value.kaj, (Xd h v0 6 (Int.toNat x19_2) 3), (Xd h v0 6 (Int.toNat x19_2) 4), (Xd h v0 6 (Int.toNat x19_2) 5)]) (cs' := [i6 t22.Tag, i6 t22.Value.kai, str t22.Value.kaj, (Xd h v0 6 (Int.toNat x19_2) 3), (Xd h v0 6 (Int.toNat x19_2) 4), (Xd h v0 6 (Int.toNat x19_2) 5)]) kco rfl rfl rfl rfl rfl rfl (by simp only [List.all_cons, List.all_nil, (show FrN h 6 (Xd h v0 6 (Int.toNat x19_2) 5) g_tag_Entry t22.Value.kag from (Qm (Jo (f0.at h_t22)))).one, (show FrS h 1 (Xd h v0 6 (Int.toNat x19_2) 3) (t22.Value.kak.map J8) from (Q0 (Jo (f0.at h_t22)))).one, (show FrS h 2 (Xd h v0 6 (Int.toNat x19_2) 4) (t22.Value.kah.map Jl) from (Q1 (Jo (f0.at h_t22)))).one] <;> rfl) rfl rfl<|Jd<|Jc<|Jc<|Ja<|lf Tryz.runUnderlying95 rfl kcg rfl<|ll 0 (i6 t22.Tag) kbk<|lv (X3 rfl rfl)<|mv (.bool (decide (t22.Tag < 0)))<|?_
      revert H45
      refine sp (fun hb H46=>?_) fun hb H47=>?_
      ·refine pa<|pa<|pa<|pT (.bool true)<|Jd<|Zl rfl<|Jc<|Ja<|ag (i6 2)<|Jd<|Jm<|?_
       obtain rfl := sj H46
       exact r1 (i6 2)
      ·refine lf Tryz.runUnderlying95 rfl kcg rfl<|ll 0 (i6 t22.Tag) kbk<|lv (Yf rfl rfl)<|pF (.bool (decide (65535 < t22.Tag)))<|Jd<|?_
       revert H47
       refine ci (decide (65535 < t22.Tag)) rfl (fun hb H48=>?_) fun hb H49=>?_
       ·refine Jc<|Ja<|ag (i6 2)<|Jd<|Jm<|?_
        obtain rfl := sj H48
        exact r1 (i6 2)
       ·refine Jj ?_
        refine Qg (r := r) (σ := Unit) (τ := Unit) (fun s => Jcj a1 self x19_2 next1 t22) (fun s t => [(0, v0), (1, i6 a1), (6, pz b2), (17, v0), (18, i6 (a0.l : Int)), (19, i6 x19_2), (28, pz b2), (29, i6 t22.Tag), (30, .bool (decide (65535 < t22.Tag)))]) (fun s t => [Jf b2 [i6 t22.Tag, i6 t22.Value.kai, str t22.Value.kaj, (Xd h v0 6 (Int.toNat x19_2) 3), (Xd h v0 6 (Int.toNat x19_2) 4), (Xd h v0 6 (Int.toNat x19_2) 5)] 95]) (fun s t => True) ?_ ?_
        ·refine Jc ?_
         exact Qk (Kd.p :: Kd.p :: Kd.p :: Kd.p :: Kd.d [0] _ :: Kd.p :: Kd.p :: Kd.p :: Kd.p :: Kd.p :: Kd.d [] _ :: Kd.p :: Kd.p :: []) 0 mixed (by
          refine dm (i6 x19_2)<|dv (Yf rfl rfl)<|dm (.bool (decide (0 < x19_2)))<|?_
          refine Wu (fun hb => ?_) (fun hb => ?_)
          ·have H66 := Uo hb H49
           refine dv (J2 Tryz.runUnderlying95 rfl kcg rfl rfl)<|dl (i6 t22.Tag) kbk<|dm v0<|dm (i6 x19_2)<|?_
           have h_t39 := Jt H66
           have H67 := Jn H66
           refine dv (Zs rfl rfl h_t39) ?_
           have h_t40 := Jt H67
           have H68 := Jn H67
           refine dv (Xc kct kco rfl rfl f0.frs (f0.ix h_t40))<|dv (Jd0 Tryz.runUnderlying95 rfl kcg rfl rfl (Jc9 f0.frs (f0.ix h_t40)))<|W2 (fun w hF => Qw (f := (elC h v0 6)) (i := (val (gI (x19_2 - 1)))) (sz := 6) (j := 0) (v := i6 (val (Zb a0 (val (gI (x19_2 - 1))))).Tag) kbk rfl rfl (f0.frs.row (hw.now hF)) (f0.ix h_t40) (Jea (Yd (f0.at h_t40)) rfl)) rfl rfl<|dv (Jd1 rfl rfl)<|dv (Xz (v := .bool (decide (t22.Tag ≤ (val (Zb a0 (val (gI (x19_2 - 1))))).Tag))) rfl rfl)<|Xr<|?_
           revert H68
           refine ci (decide (t22.Tag ≤ (val (Zb a0 (val (gI (x19_2 - 1))))).Tag)) rfl (fun hb H69=>?_) fun hb H70=>?_
           ·refine Jc<|Ja<|ag (i6 5)<|Jd<|Jm<|?_
            obtain rfl := sj H69
            exact r1 (i6 5)
           ·refine Jj ?_
            exact cl () () 0 [0] (by exact ⟨H70, trivial⟩)
          ·have H71 := Us hb H49
           refine dp<|dp<|dp<|dp<|dp<|dp<|dp<|dp<|dp<|dv (Z1 (v := .bool false) rfl rfl)<|Xr<|Zz rfl<|Jj<|?_
           exact cl () () 0 [0] (by exact ⟨H71, trivial⟩)
          ) (by kernel_rfl)
        ·rintro _ _ gg H50 _
         try dsimp only at H50
         try dsimp only
         refine Jc<|Ja<|lf Tryz.runUnderlying95 rfl kce rfl<|Xb (i := 0) (vs := [i6 t22.Value.kai, str t22.Value.kaj, (Xd h v0 6 (Int.toNat x19_2) 3), (Xd h v0 6 (Int.toNat x19_2) 4), (Xd h v0 6 (Int.toNat x19_2) 5)]) kbi kce rfl rfl rfl rfl rfl<|?_
         refine Xx (cs := [i6 0, str [], z0s, z0s, z0s]) zeroValue26 rfl rfl rfl (fun b3 => ?_)
         refine Wz (i := 1) (vs := [i6 t22.Value.kai, str t22.Value.kaj, (Xd h v0 6 (Int.toNat x19_2) 3), (Xd h v0 6 (Int.toNat x19_2) 4), (Xd h v0 6 (Int.toNat x19_2) 5)]) (cs' := [i6 t22.Value.kai, str t22.Value.kaj, (Xd h v0 6 (Int.toNat x19_2) 3), (Xd h v0 6 (Int.toNat x19_2) 4), (Xd h v0 6 (Int.toNat x19_2) 5)]) kce rfl rfl rfl rfl rfl rfl (by simp only [List.all_cons, List.all_nil, (show FrN h 6 (Xd h v0 6 (Int.toNat x19_2) 5) g_tag_Entry t22.Value.kag from (Qm (Jo (f0.at h_t22)))).one, (show FrS h 1 (Xd h v0 6 (Int.toNat x19_2) 3) (t22.Value.kak.map J8) from (Q0 (Jo (f0.at h_t22)))).one, (show FrS h 2 (Xd h v0 6 (Int.toNat x19_2) 4) (t22.Value.kah.map Jl) from (Q1 (Jo (f0.at h_t22)))).one] <;> rfl) rfl rfl<|Jd<|Jc<|Jc<|Ja<|lf Tryz.runUnderlying26 rfl kcg rfl<|ll 1 (i6 t22.Value.kai) kbk<|lv (Yv rfl rfl)<|Jd<|?_
         revert H50
         refine ci (decide (t22.Value.kai ≠ 13)) rfl (fun hb H51=>?_) fun hb H55=>?_
         ·refine Jc<|Jc<|Ja<|Xb (i := 1) (vs := [i6 t22.Value.kai, str t22.Value.kaj, (Xd h v0 6 (Int.toNat x19_2) 3), (Xd h v0 6 (Int.toNat x19_2) 4), (Xd h v0 6 (Int.toNat x19_2) 5)]) kbi kce rfl rfl rfl rfl rfl<|?_
          obtain ⟨t51, h_t51, H52⟩ := Je H51; clear H51
          refine Qb (fun w hF hS => k21 (Jq w) ((show FrS h 1 (Xd h v0 6 (Int.toNat x19_2) 3) (t22.Value.kak.map J8) from (Q0 (Jo (f0.at h_t22)))).mono (hw.now hF)) ((show FrS h 2 (Xd h v0 6 (Int.toNat x19_2) 4) (t22.Value.kah.map Jl) from (Q1 (Jo (f0.at h_t22)))).mono (hw.now hF)) ((show FrN h 6 (Xd h v0 6 (Int.toNat x19_2) 5) g_tag_Entry t22.Value.kag from (Qm (Jo (f0.at h_t22)))).mono (hw.now hF)) h_t51) call21 rfl rfl rfl<|ag (i6 t51)<|Jd<|Jc<|Ja<|mv (i6 t51)<|lv (Yv rfl rfl)<|Jd<|?_
          revert H52
          refine ci (decide (t51 ≠ 0)) rfl (fun hb H53=>?_) fun hb H54=>?_
          ·refine Jc<|Ja<|mv (i6 t51)<|ag (i6 t51)<|Jd<|Jm<|?_
           obtain rfl := sj H53
           exact r1 (i6 t51)
          ·refine Jj<|Xj<|?_
           exact cl (t22.Tag, (decide (65535 < t22.Tag)), t22.Tag, t22.Value.kai, t22.Value.kaj, t22.Value.kak, t22.Value.kah, t22.Value.kag) ((Xd h v0 6 (Int.toNat x19_2) 3), (Xd h v0 6 (Int.toNat x19_2) 4), (Xd h v0 6 (Int.toNat x19_2) 5), b2) 0 [0] (by exact ⟨H54, ⟨(show FrS h 1 (Xd h v0 6 (Int.toNat x19_2) 3) (t22.Value.kak.map J8) from (Q0 (Jo (f0.at h_t22)))), (show FrS h 2 (Xd h v0 6 (Int.toNat x19_2) 4) (t22.Value.kah.map Jl) from (Q1 (Jo (f0.at h_t22)))), (show FrN h 6 (Xd h v0 6 (Int.toNat x19_2) 5) g_tag_Entry t22.Value.kag from (Qm (Jo (f0.at h_t22))))⟩⟩)
         ·refine Jj<|Jc<|Jc<|Ja<|lf Tryz.runUnderlying26 rfl kcn rfl<|ll 1 (str t22.Value.kaj) kbp<|lv (Je0 rfl rfl)<|mv (.bool (decide (t22.Value.kaj ≠ [])))<|?_
          revert H55
          refine sp (fun hb H56=>?_) fun hb H57=>?_
          ·refine pa<|pa<|pa<|pa<|pT (.bool true)<|mv (.bool true)<|pa<|pa<|pa<|pa<|pT (.bool true)<|Jd<|Zl rfl<|Jc<|Ja<|ag (i6 1)<|Jd<|Jm<|?_
           obtain rfl := sj H56
           exact r1 (i6 1)
          ·refine lf Tryz.runUnderlying26 rfl kcb rfl<|ll 1 (Xd h v0 6 (Int.toNat x19_2) 3) kbg<|lv (Yz kcr rfl (show FrS h 1 (Xd h v0 6 (Int.toNat x19_2) 3) (t22.Value.kak.map J8) from (Q0 (Jo (f0.at h_t22)))) rfl)<|lv (Yf rfl rfl)<|pF (.bool (decide (0 < (t22.Value.kak.l : Int))))<|mv (.bool (decide (0 < (t22.Value.kak.l : Int))))<|?_
           revert H57
           refine sp (fun hb H58=>?_) fun hb H59=>?_
           ·refine pa<|pa<|pa<|pa<|pT (.bool true)<|Jd<|Zl rfl<|Jc<|Ja<|ag (i6 1)<|Jd<|Jm<|?_
            obtain rfl := sj H58
            exact r1 (i6 1)
           ·refine lf Tryz.runUnderlying26 rfl kcc rfl<|ll 1 (Xd h v0 6 (Int.toNat x19_2) 4) isAgg23<|lv (Yz kcs rfl (show FrS h 2 (Xd h v0 6 (Int.toNat x19_2) 4) (t22.Value.kah.map Jl) from (Q1 (Jo (f0.at h_t22)))) rfl)<|lv (Yf rfl rfl)<|pF (.bool (decide (0 < (t22.Value.kah.l : Int))))<|Jd<|?_
            revert H59
            refine ci (decide (0 < (t22.Value.kah.l : Int))) rfl (fun hb H60=>?_) fun hb H61=>?_
            ·refine Jc<|Ja<|ag (i6 1)<|Jd<|Jm<|?_
             obtain rfl := sj H60
             exact r1 (i6 1)
            ·refine Jj<|Jc<|Ja<|lf Tryz.runUnderlying26 rfl kcd rfl<|ll 1 (Xd h v0 6 (Int.toNat x19_2) 5) kbh<|mv (i6 a1)<|?_
             obtain ⟨t73, h_t73, H62⟩ := Je H61; clear H61
             refine lv (Jy rfl rfl h_t73) ?_
             obtain ⟨t74, h_t74, H63⟩ := Je H62; clear H62
             refine Qb (fun w hF hS => ih (Jq w) ((show FrN h 6 (Xd h v0 6 (Int.toNat x19_2) 5) g_tag_Entry t22.Value.kag from (Qm (Jo (f0.at h_t22)))).mono (hw.now hF)) h_t74) call54 rfl rfl rfl<|ag (i6 t74)<|Jd<|Jc<|Ja<|mv (i6 t74)<|lv (Yv rfl rfl)<|Jd<|?_
             revert H63
             refine ci (decide (t74 ≠ 0)) rfl (fun hb H64=>?_) fun hb H65=>?_
             ·refine Jc<|Ja<|mv (i6 t74)<|ag (i6 t74)<|Jd<|Jm<|?_
              obtain rfl := sj H64
              exact r1 (i6 t74)
             ·refine Jj ?_
              exact cl (t22.Tag, (decide (65535 < t22.Tag)), t22.Tag, t22.Value.kai, t22.Value.kaj, t22.Value.kak, t22.Value.kah, t22.Value.kag) ((Xd h v0 6 (Int.toNat x19_2) 3), (Xd h v0 6 (Int.toNat x19_2) 4), (Xd h v0 6 (Int.toNat x19_2) 5), b2) 0 [0] (by exact ⟨H65, ⟨(show FrS h 1 (Xd h v0 6 (Int.toNat x19_2) 3) (t22.Value.kak.map J8) from (Q0 (Jo (f0.at h_t22)))), (show FrS h 2 (Xd h v0 6 (Int.toNat x19_2) 4) (t22.Value.kah.map Jl) from (Q1 (Jo (f0.at h_t22)))), (show FrN h 6 (Xd h v0 6 (Int.toNat x19_2) 5) g_tag_Entry t22.Value.kag from (Qm (Jo (f0.at h_t22))))⟩⟩)
     ·rintro ⟨x29, x30, m, m_2, m_3, m_4, m_5, m_6⟩ ⟨gv, gv_2, gv_3, b⟩ gg H43 ⟨gf, gf_2, gf_3⟩
      try dsimp only at H43
      try dsimp only
      refine Ja ?_
      obtain ⟨t78, h_t78, H44⟩ := Je H43; clear H43
      refine lv (Jy rfl rfl h_t78)<|mv (i6 t78)<|Jd<|?_
      exact cl t78 () m1 [] (by exact ⟨(by subst hn1; exact H44), trivial⟩)
    ·refine Xj<|Jc<|Ja<|ag (i6 0)<|Jd<|Jm<|?_
     obtain rfl := sj H72
     exact r1 (i6 0)
theorem k54 {a0 : (List Ta)} {v0 : Value} {a1 : Int} {r : Int} {w : World} {h : J1} (hw : Know h w Z0) (f0 : FrN h 6 v0 g_tag_Entry a0) (H : Jda a0 a1 = some r) : Does prog 54 (List.toArray [v0, i6 a1]) w (fun v w' => v = (i6 r) ∧ Grow w w') := by
 obtain ⟨mm, hm⟩ := Je9 (show Vv (fun (self : ((List Ta) × Int) → Option (Int)) (s : (List Ta) × Int) => Vj self s.1 s.2) (a0, a1) = some r from H)
 exact k54_it mm hw f0 hm
theorem k21q {a0 : Te} {v0_2 : Value} {v0_3 : Value} {v0_4 : Value} {r : Int} {w : World} {h : J1} (hw : Know h w Z0) (f0_2 : FrS h 1 v0_2 (a0.kak.map J8)) (f0_3 : FrS h 2 v0_3 (a0.kah.map Jl)) (f0_4 : FrN h 6 v0_4 g_tag_Entry a0.kag) (H : Wg a0 = some r) : Does prog 21 (List.toArray [.agg #[i6 a0.kai, str a0.kaj, v0_2, v0_3, v0_4]]) w (fun v w' => v = (i6 r) ∧ Grow w w') := by
 refine enter (n := 139) func21 rfl rfl rfl Z0 [] (Sat.nil _ _)<|Jc<|Ja<|?_
 refine W1 (cs := [i6 a0.kai, str a0.kaj, v0_2, v0_3, v0_4]) rfl rfl rfl rfl (fun b2 => ?_)
 refine ag (i6 0)<|Jd<|?_
 refine Qg (r := r) (σ := Bool × Bool) (τ := Unit) (fun s => Xy a0 s.1 s.2) (fun s t => [(1, pz b2), (3, .bool s.1), (4, .bool s.2)]) (fun s t => [Jf b2 [i6 a0.kai, str a0.kaj, v0_2, v0_3, v0_4] 26]) (fun s t => True) ?_ ?_
 ·exact Qk (Kd.p :: Kd.d [0] _ :: Kd.p :: Kd.p :: Kd.p :: Kd.d [0] _ :: Kd.p :: Kd.p :: Kd.p :: Kd.d [0] _ :: Kd.p :: Kd.p :: Kd.p :: Kd.d [0] _ :: Kd.p :: Kd.p :: Kd.p :: Kd.p :: Kd.d [0] _ :: Kd.p :: Kd.p :: Kd.p :: Kd.p :: Kd.d [0] _ :: Kd.p :: Kd.p :: Kd.p :: Kd.p :: []) 0 mixed (by
   refine dv (J2 Tryz.runUnderlying26 rfl kcg rfl rfl)<|dl (i6 a0.kai) kbk<|dv (Qj rfl rfl)<|dm (.bool (decide (a0.kai = 2)))<|?_
   refine Wu (fun hb => ?_) (fun hb => ?_)
   ·have H143 := Uo hb H
    refine dp<|dp<|dp<|dv (Xz (v := .bool true) rfl rfl)<|dv (J2 Tryz.runUnderlying26 rfl kcg rfl rfl)<|dl (i6 a0.kai) kbk<|dv (Qj rfl rfl)<|dm (.bool (decide (a0.kai = 1)))<|?_
    refine Wu (fun hb => ?_) (fun hb => ?_)
    ·have H144 := Uo hb H143
     refine dp<|dp<|dp<|dv (Xz (v := .bool true) rfl rfl)<|dm (.bool true)<|dp<|dp<|dp<|dv (Xz (v := .bool true) rfl rfl)<|dm (.bool true)<|dp<|dp<|dp<|dv (Xz (v := .bool true) rfl rfl)<|Qv rfl rfl (Jz (v := .bool true) rfl)<|Qv rfl rfl (Jz (v := .bool true) rfl)<|Xr<|?_
     exact cl (true, true) () 0 [0] (by exact ⟨H144, trivial⟩)
    ·have H145 := Us hb H143
     refine dv (J2 Tryz.runUnderlying26 rfl kcg rfl rfl)<|dl (i6 a0.kai) kbk<|dv (Qj rfl rfl)<|dv (Z1 (v := .bool (decide (a0.kai = 3))) rfl rfl)<|dm (.bool (decide (a0.kai = 3)))<|?_
     refine Wu (fun hb => ?_) (fun hb => ?_)
     ·have H146 := Uo hb H145
      refine dp<|dp<|dp<|dv (Xz (v := .bool true) rfl rfl)<|dm (.bool true)<|dp<|dp<|dp<|dv (Xz (v := .bool true) rfl rfl)<|Qv rfl rfl (Jz (v := .bool true) rfl)<|Qv rfl rfl (Jz (v := .bool true) rfl)<|Xr<|?_
      exact cl (true, true) () 0 [0] (by exact ⟨H146, trivial⟩)
     ·have H147 := Us hb H145
      refine dv (J2 Tryz.runUnderlying26 rfl kcg rfl rfl)<|dl (i6 a0.kai) kbk<|dv (Qj rfl rfl)<|dv (Z1 (v := .bool (decide (a0.kai = 4))) rfl rfl)<|dm (.bool (decide (a0.kai = 4)))<|?_
      refine Wu (fun hb => ?_) (fun hb => ?_)
      ·have H148 := Uo hb H147
       refine dp<|dp<|dp<|dv (Xz (v := .bool true) rfl rfl)<|Qv rfl rfl (Jz (v := .bool true) rfl)<|Qv rfl rfl (Jz (v := .bool true) rfl)<|Xr<|?_
       exact cl (true, true) () 0 [0] (by exact ⟨H148, trivial⟩)
      ·have H149 := Us hb H147
       refine dv (J2 Tryz.runUnderlying26 rfl kcg rfl rfl)<|dl (i6 a0.kai) kbk<|dv (Qj rfl rfl)<|dv (Z1 (v := .bool (decide (a0.kai = 9))) rfl rfl)<|Qv rfl rfl (Jz (v := .bool true) rfl)<|Qv rfl rfl (Jz (v := .bool (decide (a0.kai = 9))) rfl)<|Xr<|?_
       exact cl (true, (decide (a0.kai = 9))) () 0 [0] (by exact ⟨H149, trivial⟩)
   ·have H150 := Us hb H
    refine dv (J2 Tryz.runUnderlying26 rfl kcg rfl rfl)<|dl (i6 a0.kai) kbk<|dv (Qj rfl rfl)<|dv (Z1 (v := .bool (decide (a0.kai = 7))) rfl rfl)<|dv (J2 Tryz.runUnderlying26 rfl kcg rfl rfl)<|dl (i6 a0.kai) kbk<|dv (Qj rfl rfl)<|dm (.bool (decide (a0.kai = 1)))<|?_
    refine Wu (fun hb => ?_) (fun hb => ?_)
    ·have H151 := Uo hb H150
     refine dp<|dp<|dp<|dv (Xz (v := .bool true) rfl rfl)<|dm (.bool true)<|dp<|dp<|dp<|dv (Xz (v := .bool true) rfl rfl)<|dm (.bool true)<|dp<|dp<|dp<|dv (Xz (v := .bool true) rfl rfl)<|Qv rfl rfl (Jz (v := .bool (decide (a0.kai = 7))) rfl)<|Qv rfl rfl (Jz (v := .bool true) rfl)<|Xr<|?_
     exact cl ((decide (a0.kai = 7)), true) () 0 [0] (by exact ⟨H151, trivial⟩)
    ·have H152 := Us hb H150
     refine dv (J2 Tryz.runUnderlying26 rfl kcg rfl rfl)<|dl (i6 a0.kai) kbk<|dv (Qj rfl rfl)<|dv (Z1 (v := .bool (decide (a0.kai = 3))) rfl rfl)<|dm (.bool (decide (a0.kai = 3)))<|?_
     refine Wu (fun hb => ?_) (fun hb => ?_)
     ·have H153 := Uo hb H152
      refine dp<|dp<|dp<|dv (Xz (v := .bool true) rfl rfl)<|dm (.bool true)<|dp<|dp<|dp<|dv (Xz (v := .bool true) rfl rfl)<|Qv rfl rfl (Jz (v := .bool (decide (a0.kai = 7))) rfl)<|Qv rfl rfl (Jz (v := .bool true) rfl)<|Xr<|?_
      exact cl ((decide (a0.kai = 7)), true) () 0 [0] (by exact ⟨H153, trivial⟩)
     ·have H154 := Us hb H152
      refine dv (J2 Tryz.runUnderlying26 rfl kcg rfl rfl)<|dl (i6 a0.kai) kbk<|dv (Qj rfl rfl)<|dv (Z1 (v := .bool (decide (a0.kai = 4))) rfl rfl)<|dm (.bool (decide (a0.kai = 4)))<|?_
      refine Wu (fun hb => ?_) (fun hb => ?_)
      ·have H155 := Uo hb H154
       refine dp<|dp<|dp<|dv (Xz (v := .bool true) rfl rfl)<|Qv rfl rfl (Jz (v := .bool (decide (a0.kai = 7))) rfl)<|Qv rfl rfl (Jz (v := .bool true) rfl)<|Xr<|?_
       exact cl ((decide (a0.kai = 7)), true) () 0 [0] (by exact ⟨H155, trivial⟩)
      ·have H156 := Us hb H154
       refine dv (J2 Tryz.runUnderlying26 rfl kcg rfl rfl)<|dl (i6 a0.kai) kbk<|dv (Qj rfl rfl)<|dv (Z1 (v := .bool (decide (a0.kai = 9))) rfl rfl)<|Qv rfl rfl (Jz (v := .bool (decide (a0.kai = 7))) rfl)<|Qv rfl rfl (Jz (v := .bool (decide (a0.kai = 9))) rfl)<|Xr<|?_
       exact cl ((decide (a0.kai = 7)), (decide (a0.kai = 9))) () 0 [0] (by exact ⟨H156, trivial⟩)
   ) (by kernel_rfl)
 ·rintro ⟨x3, x4⟩ _ gg H79 _
  try dsimp only at H79
  try dsimp only
  refine Qg (r := r) (σ := Unit) (τ := Unit) (fun s => Yo a0) (fun s t => [(1, pz b2)]) (fun s t => [Jf b2 [i6 a0.kai, str a0.kaj, v0_2, v0_3, v0_4] 26]) (fun s t => True) ?_ ?_
  ·refine Jx<|Jc<|Ja<|lf Tryz.runUnderlying26 rfl kcg rfl<|ll 0 (i6 a0.kai) kbk<|?_
   obtain ⟨t40, h_t40, H115⟩ := Je H79; clear H79
   refine Yq (k51 h_t40) call51 rfl rfl rfl<|lv (Qj rfl rfl)<|ag (.bool (decide (t40 = 0)))<|Jd<|?_
   revert H115
   refine ci (decide (t40 = 0)) rfl (fun hb H116=>?_) fun hb H117=>?_
   ·refine Jc<|Ja<|ag (i6 10)<|Jd<|Jm<|?_
    obtain rfl := sj H116
    exact r1 (i6 10)
   ·refine Jc ?_
    refine Qg (r := r) (σ := Bool) (τ := Unit) (fun s => Zx a0 x4 s) (fun s t => [(1, pz b2), (4, .bool x4), (42, .bool s)]) (fun s t => [Jf b2 [i6 a0.kai, str a0.kaj, v0_2, v0_3, v0_4] 26]) (fun s t => True) ?_ ?_
    ·refine Ja<|lf Tryz.runUnderlying26 rfl kcn rfl<|ll 0 (str a0.kaj) kbp<|lv (Je0 rfl rfl)<|mv (.bool (decide (a0.kaj ≠ [])))<|?_
     revert H117
     refine sp (fun hb H141=>?_) fun hb H142=>?_
     ·refine mv (.bool x3)<|lv (Ja6 rfl)<|pT (.bool (!x3))<|ag (.bool (!x3))<|Jd<|?_
      exact cl (!x3) () 0 [0] (by exact ⟨H141, trivial⟩)
     ·refine pa<|pa<|pF (.bool false)<|ag (.bool false)<|Jd<|?_
      exact cl false () 0 [0] (by exact ⟨H142, trivial⟩)
    ·rintro x42 _ gg H118 _
     try dsimp only at H118
     try dsimp only
     revert H118
     refine ci x42 rfl (fun hb H119=>?_) fun hb H122=>?_
     ·refine Jj ?_
      revert H119
      refine ci x42 rfl (fun hb H120=>?_) fun hb H121=>?_
      ·refine Jc<|Ja<|ag (i6 1)<|Jd<|Jm<|?_
       obtain rfl := sj H120
       exact r1 (i6 1)
      ·refine Jj ?_
       exact cl () () 0 [0] (by exact ⟨H121, trivial⟩)
     ·refine Qg (r := r) (σ := Bool) (τ := Unit) (fun s => Zu a0 s) (fun s t => [(1, pz b2), (42, .bool s)]) (fun s t => [Jf b2 [i6 a0.kai, str a0.kaj, v0_2, v0_3, v0_4] 26]) (fun s t => True) ?_ ?_
      ·refine Ja<|lf Tryz.runUnderlying26 rfl kcb rfl<|ll 0 v0_2 kbg<|lv (Yz kcr rfl f0_2 rfl)<|lv (Yf rfl rfl)<|mv (.bool (decide (0 < (a0.kak.l : Int))))<|?_
       revert H122
       refine sp (fun hb H139=>?_) fun hb H140=>?_
       ·refine mv (.bool x4)<|lv (Ja6 rfl)<|pT (.bool (!x4))<|ag (.bool (!x4))<|Jd<|?_
        exact cl (!x4) () 0 [0] (by exact ⟨H139, trivial⟩)
       ·refine pa<|pa<|pF (.bool false)<|ag (.bool false)<|Jd<|?_
        exact cl false () 0 [0] (by exact ⟨H140, trivial⟩)
      ·rintro x42_2 _ gg H123 _
       try dsimp only at H123
       try dsimp only
       revert H123
       refine ci x42_2 rfl (fun hb H124=>?_) fun hb H127=>?_
       ·refine Jj ?_
        revert H124
        refine ci x42_2 rfl (fun hb H125=>?_) fun hb H126=>?_
        ·refine Jc<|Ja<|ag (i6 1)<|Jd<|Jm<|?_
         obtain rfl := sj H125
         exact r1 (i6 1)
        ·refine Jj ?_
         exact cl () () 0 [0] (by exact ⟨H126, trivial⟩)
       ·refine Qg (r := r) (σ := Bool) (τ := Unit) (fun s => Zg a0 s) (fun s t => [(1, pz b2), (42, .bool s)]) (fun s t => [Jf b2 [i6 a0.kai, str a0.kaj, v0_2, v0_3, v0_4] 26]) (fun s t => True) ?_ ?_
        ·refine Ja<|lf Tryz.runUnderlying26 rfl kcc rfl<|ll 0 v0_3 isAgg23<|lv (Yz kcs rfl f0_3 rfl)<|lv (Yf rfl rfl)<|mv (.bool (decide (0 < (a0.kah.l : Int))))<|?_
         revert H127
         refine sp (fun hb H137=>?_) fun hb H138=>?_
         ·refine lf Tryz.runUnderlying26 rfl kcg rfl<|ll 0 (i6 a0.kai) kbk<|lv (Yv rfl rfl)<|pT (.bool (decide (a0.kai ≠ 5)))<|ag (.bool (decide (a0.kai ≠ 5)))<|Jd<|?_
          exact cl (decide (a0.kai ≠ 5)) () 0 [0] (by exact ⟨H137, trivial⟩)
         ·refine pa<|pa<|pa<|pF (.bool false)<|ag (.bool false)<|Jd<|?_
          exact cl false () 0 [0] (by exact ⟨H138, trivial⟩)
        ·rintro x42_3 _ gg H128 _
         try dsimp only at H128
         try dsimp only
         revert H128
         refine ci x42_3 rfl (fun hb H129=>?_) fun hb H132=>?_
         ·refine Jj ?_
          revert H129
          refine ci x42_3 rfl (fun hb H130=>?_) fun hb H131=>?_
          ·refine Jc<|Ja<|ag (i6 1)<|Jd<|Jm<|?_
           obtain rfl := sj H130
           exact r1 (i6 1)
          ·refine Jj ?_
           exact cl () () 0 [0] (by exact ⟨H131, trivial⟩)
         ·refine Ja<|lf Tryz.runUnderlying26 rfl kcd rfl<|ll 0 v0_4 kbh<|lv (Z2 kct rfl f0_4)<|lv (Yf rfl rfl)<|mv (.bool (decide (0 < (a0.kag.l : Int))))<|?_
          revert H132
          refine sp (fun hb H133=>?_) fun hb H136=>?_
          ·refine lf Tryz.runUnderlying26 rfl kcg rfl<|ll 0 (i6 a0.kai) kbk<|lv (Yv rfl rfl)<|pT (.bool (decide (a0.kai ≠ 13)))<|ag (.bool (decide (a0.kai ≠ 13)))<|Jd<|?_
           revert H133
           refine ci (decide (a0.kai ≠ 13)) rfl (fun hb H134=>?_) fun hb H135=>?_
           ·refine Jc<|Ja<|ag (i6 1)<|Jd<|Jm<|?_
            obtain rfl := sj H134
            exact r1 (i6 1)
           ·refine Jj ?_
            exact cl () () 0 [0] (by exact ⟨H135, trivial⟩)
          ·refine pa<|pa<|pa<|pF (.bool false)<|ag (.bool false)<|Jd<|Zz rfl<|Jj<|?_
           exact cl () () 0 [0] (by exact ⟨H136, trivial⟩)
  ·rintro _ _ gg H80 _
   try dsimp only at H80
   try dsimp only
   refine Jc<|Ja<|lf Tryz.runUnderlying26 rfl kcg rfl<|ll 0 (i6 a0.kai) kbk<|?_
   obtain ⟨t79, h_t79, H81⟩ := Je H80; clear H80
   refine Yq (k52 h_t79) call52 rfl rfl rfl<|mv (.tuple #[i6 t79.1, i6 t79.2])<|lv (J9 (v := i6 t79.1) rfl rfl)<|lv (J9 (v := i6 t79.2) rfl rfl)<|ag (i6 t79.1)<|ag (i6 t79.2)<|Jd<|?_
   refine Qg (r := r) (σ := Unit) (τ := Unit) (fun s => Un a0) (fun s t => [(1, pz b2)]) (fun s t => [Jf b2 [i6 a0.kai, str a0.kaj, v0_2, v0_3, v0_4] 26]) (fun s t => True) ?_ ?_
   ·refine Jc<|Ja<|lf Tryz.runUnderlying26 rfl kcb rfl<|ll 0 v0_2 kbg<|lv (Yz kcr rfl f0_2 rfl)<|mv (i6 0)<|Jd<|Jx<|?_
    refine Za (σ := Int) (τ := Unit) (fun next7 s => Vp a0 t79 next7 s) (fun s t => [(1, pz b2), (5, i6 t79.1), (6, i6 t79.2), (83, v0_2), (84, i6 (a0.kak.l : Int)), (85, i6 s)]) (fun s t => [Jf b2 [i6 a0.kai, str a0.kaj, v0_2, v0_3, v0_4] 26]) (fun s t => True) 0 () [0] H81 (by exact trivial) (by exact ⟨rfl, rfl, rfl, rfl, rfl, rfl, trivial⟩) (by decide) rfl ?_
    rintro x85_2 _ m7 gg H106 _
    clear H81
    try dsimp only at H106
    generalize hn7 : it (fun next7 s => Vp a0 t79 next7 s) m7 = next7 at H106
    try dsimp only
    refine Jc<|Ja<|lv (X3 rfl rfl)<|Jd<|Jc<|?_
    revert H106
    refine ci (decide (x85_2 < (a0.kak.l : Int))) rfl (fun hb H107=>?_) fun hb H114=>?_
    ·refine Jj<|Jc<|Jx<|Jc<|Ja<|?_
     obtain ⟨t87, h_t87, H108⟩ := Je H107; clear H107
     refine lv (Xc kcr kcg rfl rfl f0_2 h_t87)<|Xs (fun w hF hS => Qw (f := J8) (i := x85_2) (sz := 1) (j := 0) (v := i6 t87) kbk rfl rfl (f0_2.row (hw.now hF)) h_t87 rfl) rfl rfl rfl<|ag (i6 t87)<|Jd<|Jc<|Ja<|mv (i6 t87)<|mv (i6 t79.1)<|lv (X3 rfl rfl)<|mv (.bool (decide (t87 < t79.1)))<|?_
     revert H108
     refine sp (fun hb H109=>?_) fun hb H110=>?_
     ·refine pa<|pa<|pa<|pT (.bool true)<|Jd<|Zl rfl<|Jc<|Ja<|ag (i6 2)<|Jd<|Jm<|?_
      obtain rfl := sj H109
      exact r1 (i6 2)
     ·refine mv (i6 t87)<|mv (i6 t79.2)<|lv (Yf rfl rfl)<|pF (.bool (decide (t79.2 < t87)))<|Jd<|?_
      revert H110
      refine ci (decide (t79.2 < t87)) rfl (fun hb H111=>?_) fun hb H112=>?_
      ·refine Jc<|Ja<|ag (i6 2)<|Jd<|Jm<|?_
       obtain rfl := sj H111
       exact r1 (i6 2)
      ·refine Jj<|Ja<|?_
       obtain ⟨t97, h_t97, H113⟩ := Je H112; clear H112
       refine lv (Jy rfl rfl h_t97)<|mv (i6 t97)<|Jd<|?_
       exact cl t97 () m7 [0] (by exact ⟨(by subst hn7; exact H113), trivial⟩)
    ·refine Xj ?_
     exact cl () () 0 [0] (by exact ⟨H114, trivial⟩)
   ·rintro _ _ gg H82 _
    try dsimp only at H82
    try dsimp only
    refine Qg (r := r) (σ := Unit) (τ := Unit) (fun s => Wo a0) (fun s t => [(1, pz b2)]) (fun s t => [Jf b2 [i6 a0.kai, str a0.kaj, v0_2, v0_3, v0_4] 26]) (fun s t => True) ?_ ?_
    ·refine Jc<|Ja<|lf Tryz.runUnderlying26 rfl kcc rfl<|ll 0 v0_3 isAgg23<|lv (Yz kcs rfl f0_3 rfl)<|mv (i6 0)<|Jd<|Jx<|?_
     refine Za (σ := Int) (τ := Unit) (fun next6 s => Vr a0 next6 s) (fun s t => [(1, pz b2), (99, v0_3), (100, i6 (a0.kah.l : Int)), (101, i6 s)]) (fun s t => [Jf b2 [i6 a0.kai, str a0.kaj, v0_2, v0_3, v0_4] 26]) (fun s t => True) 0 () [0] H82 (by exact trivial) (by exact ⟨rfl, rfl, rfl, rfl, trivial⟩) (by decide) rfl ?_
     rintro x101_2 _ m6 gg H93 _
     clear H82
     try dsimp only at H93
     generalize hn6 : it (fun next6 s => Vr a0 next6 s) m6 = next6 at H93
     try dsimp only
     refine Jc<|Ja<|lv (X3 rfl rfl)<|Jd<|Jc<|?_
     revert H93
     refine ci (decide (x101_2 < (a0.kah.l : Int))) rfl (fun hb H94=>?_) fun hb H105=>?_
     ·refine Jj<|Jc<|Jx<|Jc<|Ja<|?_
      obtain ⟨t103, h_t103, H95⟩ := Je H94; clear H94
      refine lv (Xc kcs kcp rfl rfl f0_3 h_t103)<|Xs (fun w hF hS => Z5 (f := Jl) (i := x101_2) (sz := 2) (j := 0) (vs := [i6 t103.Num, i6 t103.Den]) isAgg98 kcp rfl rfl (f0_3.row (hw.now hF)) h_t103 rfl) rfl rfl rfl<|?_
      refine Xx (cs := [i6 0, i6 0]) zeroValue98 rfl rfl rfl (fun b3 => ?_)
      refine st (i := 1) [i6 t103.Num, i6 t103.Den] [i6 t103.Num, i6 t103.Den] kcp rfl rfl<|Jd<|Jc<|Ja<|lf Tryz.runUnderlying98 rfl kcg rfl<|ll 1 (i6 t103.Num) kbk<|lv (X3 rfl rfl)<|mv (.bool (decide (t103.Num < 0)))<|?_
      revert H95
      refine sp (fun hb H96=>?_) fun hb H97=>?_
      ·refine pa<|pa<|pa<|pT (.bool true)<|mv (.bool true)<|pa<|pa<|pa<|pT (.bool true)<|mv (.bool true)<|pa<|pa<|pa<|pT (.bool true)<|Jd<|Zl rfl<|Jc<|Ja<|ag (i6 2)<|Jd<|Jm<|?_
       obtain rfl := sj H96
       exact r1 (i6 2)
      ·refine lf Tryz.runUnderlying98 rfl kcg rfl<|ll 1 (i6 t103.Num) kbk<|lv (Yf rfl rfl)<|pF (.bool (decide (4294967295 < t103.Num)))<|mv (.bool (decide (4294967295 < t103.Num)))<|?_
       revert H97
       refine sp (fun hb H98=>?_) fun hb H99=>?_
       ·refine pa<|pa<|pa<|pT (.bool true)<|mv (.bool true)<|pa<|pa<|pa<|pT (.bool true)<|Jd<|Zl rfl<|Jc<|Ja<|ag (i6 2)<|Jd<|Jm<|?_
        obtain rfl := sj H98
        exact r1 (i6 2)
       ·refine lf Tryz.runUnderlying98 rfl kcg rfl<|ll 1 (i6 t103.Den) kbk<|lv (X3 rfl rfl)<|pF (.bool (decide (t103.Den < 0)))<|mv (.bool (decide (t103.Den < 0)))<|?_
        revert H99
        refine sp (fun hb H100=>?_) fun hb H101=>?_
        ·refine pa<|pa<|pa<|pT (.bool true)<|Jd<|Zl rfl<|Jc<|Ja<|ag (i6 2)<|Jd<|Jm<|?_
         obtain rfl := sj H100
         exact r1 (i6 2)
        ·refine lf Tryz.runUnderlying98 rfl kcg rfl<|ll 1 (i6 t103.Den) kbk<|lv (Yf rfl rfl)<|pF (.bool (decide (4294967295 < t103.Den)))<|Jd<|?_
         revert H101
         refine ci (decide (4294967295 < t103.Den)) rfl (fun hb H102=>?_) fun hb H103=>?_
         ·refine Jc<|Ja<|ag (i6 2)<|Jd<|Jm<|?_
          obtain rfl := sj H102
          exact r1 (i6 2)
         ·refine Jj<|Ja<|?_
          obtain ⟨t123, h_t123, H104⟩ := Je H103; clear H103
          refine lv (Jy rfl rfl h_t123)<|mv (i6 t123)<|Jd<|?_
          exact cl t123 () m6 [0] (by exact ⟨(by subst hn6; exact H104), trivial⟩)
     ·refine Xj ?_
      exact cl () () 0 [0] (by exact ⟨H105, trivial⟩)
    ·rintro _ _ gg H83 _
     try dsimp only at H83
     try dsimp only
     refine Qg (r := r) (σ := Unit) (τ := Unit) (fun s => Wp a0) (fun s t => [(1, pz b2)]) (fun s t => [Jf b2 [i6 a0.kai, str a0.kaj, v0_2, v0_3, v0_4] 26]) (fun s t => True) ?_ ?_
     ·refine Jc<|Ja<|lf Tryz.runUnderlying26 rfl kcg rfl<|ll 0 (i6 a0.kai) kbk<|lv (Qj rfl rfl)<|mv (.bool (decide (a0.kai = 2)))<|?_
      revert H83
      refine sp (fun hb H88=>?_) fun hb H92=>?_
      ·refine lf Tryz.runUnderlying26 rfl kcn rfl<|ll 0 (str a0.kaj) kbp<|?_
       obtain ⟨t130, h_t130, H89⟩ := Je H88; clear H88
       refine Yq (k53 h_t130) call53 rfl rfl rfl<|lv (Jey rfl rfl)<|pT (.bool (decide (0 ≤ t130)))<|Jd<|?_
       revert H89
       refine ci (decide (0 ≤ t130)) rfl (fun hb H90=>?_) fun hb H91=>?_
       ·refine Jc<|Ja<|ag (i6 9)<|Jd<|Jm<|?_
        obtain rfl := sj H90
        exact r1 (i6 9)
       ·refine Jj ?_
        exact cl () () 0 [0] (by exact ⟨H91, trivial⟩)
      ·refine pa<|pa<|pa<|pa<|pF (.bool false)<|Jd<|Zz rfl<|Jj<|?_
       exact cl () () 0 [0] (by exact ⟨H92, trivial⟩)
     ·rintro _ _ gg H84 _
      try dsimp only at H84
      try dsimp only
      refine Jc<|Jc<|Ja<|lf Tryz.runUnderlying26 rfl kcg rfl<|ll 0 (i6 a0.kai) kbk<|lv (Qj rfl rfl)<|Jd<|?_
      revert H84
      refine ci (decide (a0.kai = 13)) rfl (fun hb H85=>?_) fun hb H87=>?_
      ·refine Jc<|Ja<|lf Tryz.runUnderlying26 rfl kcd rfl<|ll 0 v0_4 kbh<|?_
       obtain ⟨t138, h_t138, H86⟩ := Je H85; clear H85
       refine Qb (fun w hF hS => k54 (Jq w) (f0_4.mono (hw.now hF)) h_t138) call54 rfl rfl rfl<|ag (i6 t138)<|Jd<|Jm<|?_
       obtain rfl := sj H86
       exact r1 (i6 t138)
      ·refine Jj<|Jc<|Ja<|ag (i6 0)<|Jd<|Jm<|?_
       obtain rfl := sj H87
       exact r1 (i6 0)
theorem k57 {a0 : Bool} {a1 : Int} {a2 : Int} {r : (List UInt8)} (H : Yt a0 a1 a2 = some r) : Ret prog 57 [.bool a0, i6 a1, i6 a2] (str r) := by
 refine Va (n := 34) func57 rfl rfl rfl (fun wd => ?_)
 refine Jc<|Ja<|ag (str [])<|Jd<|Jc<|Ja<|mv (i6 a2)<|?_
 obtain ⟨t11, h_t11, H16⟩ := Je H; clear H
 refine V8 (rds := []) (Jih (E := 5) (sz := 1) (f := W0) (xs := t11) kcw (X0 Tryz.typeInfo5) rfl rfl rfl rfl rfl rfl ⟨rfl, rfl⟩ h_t11) rfl rfl rfl (fun p => ?_)
 refine ag (sl p t11.l)<|Jd<|?_
 refine Qg (r := r) (σ := (List Int)) (τ := Unit) (fun s => Jib s) (fun s t => [(7, sl p t11.l)]) (fun s t => [J4 5 1 (sl p t11.l) t11.l (s.map W0)]) (fun s t => t11.l = s.l) ?_ ?_
 ·refine Jc<|Ja<|mv (sl p t11.l)<|lv (Jdl kcw rfl)<|mv (i6 0)<|Jd<|Jx<|?_
  refine Za (σ := Int × (List Int)) (τ := Unit) (fun next2 s => Ud a0 a1 a2 t11 next2 s.1 s.2) (fun s t => [(0, .bool a0), (1, i6 a1), (2, i6 a2), (7, sl p t11.l), (13, i6 (t11.l : Int)), (14, i6 s.1)]) (fun s t => [J4 5 1 (sl p t11.l) t11.l (s.2.map W0)]) (fun s t => t11.l = s.2.l) (0, t11) () [0] H16 (by exact rfl) (by exact ⟨rfl, rfl, rfl, rfl, rfl, rfl, trivial⟩) (by decide) rfl ?_
  rintro ⟨x14_2, l_3⟩ _ m2 gg H18 hl_3
  clear H16
  try dsimp only at H18
  generalize hn2 : it (fun next2 s => Ud a0 a1 a2 t11 next2 s.1 s.2) m2 = next2 at H18
  try dsimp only
  refine Jc<|Ja<|lv (X3 rfl rfl)<|Jd<|Jc<|?_
  revert H18
  refine ci (decide (x14_2 < (t11.l : Int))) rfl (fun hb H19=>?_) fun hb H30=>?_
  ·refine Jj<|Jc<|Jx<|Jc<|Ja<|mv (i6 x14_2)<|ag (i6 x14_2)<|Jd<|Jc<|Ja<|mv (i6 x14_2)<|ag (i6 x14_2)<|Jd<|?_
   refine Qg (r := r) (σ := Int) (τ := Unit) (fun s => Jcn a1 x14_2 l_3 next2 s) (fun s t => [(0, .bool a0), (1, i6 a1), (2, i6 a2), (7, sl p t11.l), (8, i6 x14_2), (9, i6 s), (13, i6 (t11.l : Int)), (14, i6 x14_2)]) (fun s t => [J4 5 1 (sl p t11.l) t11.l (l_3.map W0)]) (fun s t => True) ?_ ?_
   ·refine Jc<|Ja<|mv (.bool a0)<|Jd<|?_
    revert H19
    refine ci a0 rfl (fun hb H26=>?_) fun hb H29=>?_
    ·refine Ja<|mv (i6 a2)<|?_
     obtain ⟨t20, h_t20, H27⟩ := Je H26; clear H26
     refine lv (Zs rfl rfl h_t20)<|mv (i6 x14_2)<|?_
     obtain ⟨t22, h_t22, H28⟩ := Je H27; clear H27
     refine lv (Zs rfl rfl h_t22)<|ag (i6 t22)<|Jd<|?_
     exact cl t22 () 0 [0] (by exact ⟨H28, trivial⟩)
    ·refine Jj ?_
     exact cl x14_2 () 0 [0] (by exact ⟨H29, trivial⟩)
   ·rintro x9 _ gg H20 _
    try dsimp only at H20
    try dsimp only
    refine Ja<|mv (sl p t11.l)<|mv (i6 x9)<|mv (i6 a1)<|mv (i6 x14_2)<|?_
    obtain ⟨t27, h_t27, H21⟩ := Je H20; clear H20
    refine lv (Z3 rfl rfl h_t27) ?_
    obtain ⟨t28, h_t28, H22⟩ := Je H21; clear H21
    refine lv (r_shrG rfl rfl rfl h_t28)<|lv (Jcf Tryz.runUnderlying3 runUnderlying5 rfl (wr_u8 _))<|?_
    obtain ⟨t30, h_t30, H23⟩ := Je H22; clear H22
    refine Xs (fun w hF hS => U3 kcw sizeOf5 rfl rfl (Uk (i := 0) hS rfl) hl_3 h_t30) rfl rfl rfl ?_
    obtain ⟨l0, h_l0, H24⟩ := Je H23; clear H23
    refine Jjq (q := 0) (j := 0) (i := x9) (sz := 1) (hm := hl_3) (f := W0) (vs := [.int .u8 (wU8 t28)]) sizeOf5 rfl rfl rfl rfl rfl rfl rfl rfl rfl (fun y_ hy_ => by first | rfl | (cases hy_.symm.trans h_t30; rfl)) h_l0<|Jd<|Ja<|?_
    obtain ⟨t31, h_t31, H25⟩ := Je H24; clear H24
    refine lv (Jy rfl rfl h_t31)<|mv (i6 t31)<|Jd<|?_
    exact cl (t31, l0) () m2 [0] (by exact ⟨(by subst hn2; exact H25), (gSet_n hl_3 h_l0)⟩)
  ·refine Xj ?_
   exact cl l_3 () 0 [0] (by exact ⟨H30, hl_3⟩)
 ·rintro l _ gg H17 hl
  try dsimp only at H17
  try dsimp only
  refine Jc<|Ja<|mv (sl p t11.l)<|Xs (fun w hF hS => Jh9 (f := W0) (xs := l) hl kcw underlying5 kcx rfl (fun _ => rfl) (Uk (i := 0) hS rfl)) rfl rfl rfl<|ag (str (Ja7 l))<|Jd<|Jm<|?_
  obtain rfl := sj H17
  exact r1 (str (Ja7 l))
theorem k25 {a0 : Ti} {pb0 : Nat} {a1 : Int} {a2 : Int} {a3 : Int} {r : Ti} {w : World} {h : J1} {S : Nat → Prop} (hcs : (Jf pb0 [str a0.s_, .bool a0.kab] 68).P S w) (hlt : ∀ b, S b → b < w.heap.size) (hw : Know h w S) (H : Jk a0 a1 a2 a3 = some r) : Does prog 25 (List.toArray [pz pb0, i6 a1, i6 a2, i6 a3]) w (fun v w' => ∃ x : Unit, v = (.tuple #[]) ∧ Turn w w' S (Jf pb0 [str r.s_, .bool r.kab] 68)) := by
 refine enter (n := 34) func25 rfl rfl rfl S [Jf pb0 [str a0.s_, .bool a0.kab] 68] (Sat.one hcs hlt) ?_
 exact Qk (Kd.p :: Kd.p :: Kd.p :: Kd.p :: Kd.d [0] _ :: Kd.p :: Kd.p :: Kd.p :: Kd.p :: Kd.p :: Kd.d [0] _ :: Kd.p :: Kd.p :: Kd.d [] _ :: Kd.p :: Kd.p :: Kd.p :: Kd.p :: Kd.d [0] _ :: Kd.p :: Kd.p :: Kd.p :: Kd.p :: Kd.p :: Kd.p :: Kd.p :: Kd.st 33 0 [_, _] 68 :: []) 0 mixed (by
  refine dm (pz pb0)<|dm (pz pb0)<|dv (Jg rfl)<|dv (J2 Tryz.runUnderlying68 rfl kcn rfl rfl)<|dl (str a0.s_) kbp<|dm (i6 a1)<|?_
  have h_t14 := Jt H
  have H7 := Jn H
  refine dv (Up kcx rfl rfl h_t14)<|dm (pz pb0)<|dv (Jg rfl)<|dv (J2 Tryz.runUnderlying68 rfl kck rfl rfl)<|dl (.bool a0.kab) kbo<|dm (i6 a2)<|dm (i6 a3)<|?_
  have h_t21 := Jt H7
  have H8 := Jn H7
  refine Ja9 (k57 h_t21) call57 rfl rfl ?_
  have h_t22 := Jt H8
  have H9 := Jn H8
  refine dv (Y9 rfl rfl h_t22)<|dm (pz pb0)<|dv (Jg rfl)<|dv (J2 Tryz.runUnderlying68 rfl kcn rfl rfl)<|dl (str a0.s_) kbp<|dm (i6 a1)<|dm (i6 a3)<|?_
  have h_t29 := Jt H9
  have H10 := Jn H9
  refine dv (Jy rfl rfl h_t29) ?_
  have h_t30 := Jt H10
  have H11 := Jn H10
  refine dv (Jcb kcx rfl rfl h_t30) ?_
  have h_t31 := Jt H11
  have H12 := Jn H11
  refine dv (Y9 rfl rfl h_t31)<|dv (Jg rfl)<|dv (J2 Tryz.runUnderlying68 rfl kcn rfl rfl)<|Jfy (i := 0) (vs := [str (val (Zo (val (Zo (val (Qp a0.s_ 0 a1)) (val (Yt a0.kab a2 a3)))) (val (Qp a0.s_ (val (gI (a1 + a3))) a0.s_.l))))]) (cs' := [str (val (Zo (val (Zo (val (Qp a0.s_ 0 a1)) (val (Yt a0.kab a2 a3)))) (val (Qp a0.s_ (val (gI (a1 + a3))) a0.s_.l)))), .bool a0.kab]) kcn rfl rfl rfl rfl rfl rfl rfl rfl rfl<|Xr<|?_
  obtain rfl := sj H12
  refine Jgy rfl (Y0 () (i := 0) rfl rfl (Imp.refl _))
  ) (by kernel_rfl)
theorem k24 {a0 : Bool} {a1 : Te} {v1_2 : Value} {v1_3 : Value} {v1_4 : Value} {r : (List UInt8)} {w : World} {h : J1} (hw : Know h w Z0) (f1_2 : FrS h 1 v1_2 (a1.kak.map J8)) (f1_3 : FrS h 2 v1_3 (a1.kah.map Jl)) (f1_4 : FrN h 6 v1_4 g_tag_Entry a1.kag) (H : Zp a0 a1 = some r) : Does prog 24 (List.toArray [.bool a0, .agg #[i6 a1.kai, str a1.kaj, v1_2, v1_3, v1_4]]) w (fun v w' => v = (str r) ∧ Grow w w') := by
 refine enter (n := 53) func24 rfl rfl rfl Z0 [] (Sat.nil _ _)<|Jc<|Ja<|?_
 refine W1 (cs := [i6 a1.kai, str a1.kaj, v1_2, v1_3, v1_4]) rfl rfl rfl rfl (fun b2 => ?_)
 refine ag (str [])<|Jd<|Jc<|Ja<|lf Tryz.runUnderlying26 rfl kcn rfl<|ll 0 (str a1.kaj) kbp<|ag (str a1.kaj)<|Jd<|?_
 refine Qg (r := r) (σ := (List UInt8)) (τ := Unit) (fun s => Jcm a0 a1 s) (fun s t => [(0, .bool a0), (3, pz b2), (5, str s)]) (fun s t => [Jf b2 [i6 a1.kai, str a1.kaj, v1_2, v1_3, v1_4] 26]) (fun s t => True) ?_ ?_
 ·refine Jc<|Ja<|lf Tryz.runUnderlying26 rfl kcg rfl<|ll 0 (i6 a1.kai) kbk<|lv (Qj rfl rfl)<|Jd<|?_
  revert H
  refine ci (decide (a1.kai = 2)) rfl (fun hb H42=>?_) fun hb H44=>?_
  ·refine Ja<|mv (str a1.kaj)<|?_
   obtain ⟨t16, h_t16, H43⟩ := Je H42; clear H42
   refine lv (Y9 rfl rfl h_t16)<|ag (str t16)<|Jd<|?_
   exact cl t16 () 0 [0] (by exact ⟨H43, trivial⟩)
  ·refine Jj ?_
   exact cl a1.kaj () 0 [0] (by exact ⟨H44, trivial⟩)
 ·rintro x5 _ gg H23 _
  try dsimp only at H23
  try dsimp only
  refine Qg (r := r) (σ := (List UInt8)) (τ := Unit) (fun s => Jck a0 a1 s) (fun s t => [(0, .bool a0), (3, pz b2), (5, str s)]) (fun s t => [Jf b2 [i6 a1.kai, str a1.kaj, v1_2, v1_3, v1_4] 26]) (fun s t => True) ?_ ?_
  ·refine Jc<|Ja<|lf Tryz.runUnderlying26 rfl kcb rfl<|ll 0 v1_2 kbg<|lv (Yz kcr rfl f1_2 rfl)<|mv (i6 0)<|Jd<|Jx<|?_
   refine Za (σ := (List UInt8) × Int) (τ := Unit) (fun next4 s => Uu a0 a1 next4 s.1 s.2) (fun s t => [(0, .bool a0), (3, pz b2), (5, str s.1), (18, v1_2), (19, i6 (a1.kak.l : Int)), (20, i6 s.2)]) (fun s t => [Jf b2 [i6 a1.kai, str a1.kaj, v1_2, v1_3, v1_4] 26]) (fun s t => True) (x5, 0) () [0] H23 (by exact trivial) (by exact ⟨rfl, rfl, rfl, rfl, rfl, rfl, trivial⟩) (by decide) rfl ?_
   rintro ⟨x5_6, x20_2⟩ _ m4 gg H34 _
   clear H23
   try dsimp only at H34
   generalize hn4 : it (fun next4 s => Uu a0 a1 next4 s.1 s.2) m4 = next4 at H34
   try dsimp only
   refine Jc<|Ja<|lv (X3 rfl rfl)<|Jd<|Jc<|?_
   revert H34
   refine ci (decide (x20_2 < (a1.kak.l : Int))) rfl (fun hb H35=>?_) fun hb H41=>?_
   ·refine Jj<|Jc<|Jx<|Jc<|Ja<|?_
    obtain ⟨t22, h_t22, H36⟩ := Je H35; clear H35
    refine lv (Xc kcr kcg rfl rfl f1_2 h_t22)<|Xs (fun w hF hS => Qw (f := J8) (i := x20_2) (sz := 1) (j := 0) (v := i6 t22) kbk rfl rfl (f1_2.row (hw.now hF)) h_t22 rfl) rfl rfl rfl<|ag (i6 t22)<|Jd<|Ja<|mv (str x5_6)<|mv (.bool a0)<|mv (i6 t22)<|lf Tryz.runUnderlying26 rfl kcg rfl<|ll 0 (i6 a1.kai) kbk<|?_
    obtain ⟨t29, h_t29, H37⟩ := Je H36; clear H36
    refine Yq (k51 h_t29) call51 rfl rfl rfl ?_
    obtain ⟨t30, h_t30, H38⟩ := Je H37; clear H37
    refine Yq (k57 h_t30) call57 rfl rfl rfl ?_
    obtain ⟨t31, h_t31, H39⟩ := Je H38; clear H38
    refine lv (Y9 rfl rfl h_t31)<|ag (str t31)<|Jd<|Ja<|?_
    obtain ⟨t32, h_t32, H40⟩ := Je H39; clear H39
    refine lv (Jy rfl rfl h_t32)<|mv (i6 t32)<|Jd<|?_
    exact cl (t31, t32) () m4 [0] (by exact ⟨(by subst hn4; exact H40), trivial⟩)
   ·refine Xj ?_
    exact cl x5_6 () 0 [0] (by exact ⟨H41, trivial⟩)
  ·rintro x5_2 _ gg H24 _
   try dsimp only at H24
   try dsimp only
   refine Jc<|Jc<|Ja<|lf Tryz.runUnderlying26 rfl kcc rfl<|ll 0 v1_3 isAgg23<|lv (Yz kcs rfl f1_3 rfl)<|mv (i6 0)<|Jd<|Jx<|Jcv 0<|?_
   try dsimp only [z1, z2, z3, z4, z5, z6, z7, z8]
   refine Za (σ := (List UInt8) × Int) (τ := Unit) (fun next3 s => Ux a0 a1 next3 s.1 s.2) (fun s t => [(0, .bool a0), (5, str s.1), (34, v1_3), (35, i6 (a1.kah.l : Int)), (36, i6 s.2)]) (fun s t => []) (fun s t => True) (x5_2, 0) () [] H24 (by exact trivial) (by exact ⟨rfl, rfl, rfl, rfl, rfl, trivial⟩) (by decide) rfl ?_
   rintro ⟨x5_4, x36_2⟩ _ m3 gg H25 _
   clear H24
   try dsimp only at H25
   generalize hn3 : it (fun next3 s => Ux a0 a1 next3 s.1 s.2) m3 = next3 at H25
   try dsimp only
   refine Jc<|Ja<|lv (X3 rfl rfl)<|Jd<|Jc<|?_
   revert H25
   refine ci (decide (x36_2 < (a1.kah.l : Int))) rfl (fun hb H26=>?_) fun hb H33=>?_
   ·refine Jj<|Jc<|Jx<|Jc<|Ja<|?_
    obtain ⟨t38, h_t38, H27⟩ := Je H26; clear H26
    refine lv (Xc kcs kcp rfl rfl f1_3 h_t38)<|Xs (fun w hF hS => Z5 (f := Jl) (i := x36_2) (sz := 2) (j := 0) (vs := [i6 t38.Num, i6 t38.Den]) isAgg98 kcp rfl rfl (f1_3.row (hw.now hF)) h_t38 rfl) rfl rfl rfl<|?_
    refine Xx (cs := [i6 0, i6 0]) zeroValue98 rfl rfl rfl (fun b3 => ?_)
    refine st (i := 0) [i6 t38.Num, i6 t38.Den] [i6 t38.Num, i6 t38.Den] kcp rfl rfl<|Jd<|?_
    exact Qk (Kd.p :: Kd.p :: Kd.p :: Kd.d [0] _ :: Kd.d [] _ :: Kd.p :: Kd.p :: Kd.d [0] _ :: Kd.d [] _ :: Kd.p :: Kd.p :: Kd.p :: []) 0 mixed (by
     refine dm (str x5_4)<|dm (.bool a0)<|dv (J2 Tryz.runUnderlying98 rfl kcg rfl rfl)<|dl (i6 t38.Num) kbk<|?_
     have h_t44 := Jt H27
     have H28 := Jn H27
     refine Ja9 (k57 h_t44) call57 rfl rfl<|dm (.bool a0)<|dv (J2 Tryz.runUnderlying98 rfl kcg rfl rfl)<|dl (i6 t38.Den) kbk<|?_
     have h_t48 := Jt H28
     have H29 := Jn H28
     refine Ja9 (k57 h_t48) call57 rfl rfl ?_
     have h_t49 := Jt H29
     have H30 := Jn H29
     refine dv (Y9 rfl rfl h_t49) ?_
     have h_t50 := Jt H30
     have H31 := Jn H30
     refine dv (Y9 rfl rfl h_t50)<|Qv rfl rfl (Jz (v := str (val (Zo x5_4 (val (Zo (val (Yt a0 t38.Num 4)) (val (Yt a0 t38.Den 4))))))) rfl)<|Xr<|Ja<|?_
     obtain ⟨t51, h_t51, H32⟩ := Je H31; clear H31
     refine lv (Jy rfl rfl h_t51)<|mv (i6 t51)<|Jd<|?_
     exact cl ((val (Zo x5_4 (val (Zo (val (Yt a0 t38.Num 4)) (val (Yt a0 t38.Den 4)))))), t51) () m3 [] (by exact ⟨(by subst hn3; exact H32), trivial⟩)
     ) (by kernel_rfl)
   ·refine Xj<|Jc<|Ja<|mv (str x5_4)<|ag (str x5_4)<|Jd<|Jm<|?_
    obtain rfl := sj H33
    exact r1 (str x5_4)
theorem k26 {a0 : Te} {v0_2 : Value} {v0_3 : Value} {v0_4 : Value} {r : Int} {w : World} {h : J1} (hw : Know h w Z0) (f0_2 : FrS h 1 v0_2 (a0.kak.map J8)) (f0_3 : FrS h 2 v0_3 (a0.kah.map Jl)) (f0_4 : FrN h 6 v0_4 g_tag_Entry a0.kag) (H : Qx a0 = some r) : Does prog 26 (List.toArray [.agg #[i6 a0.kai, str a0.kaj, v0_2, v0_3, v0_4]]) w (fun v w' => v = (i6 r) ∧ Grow w w') := by
 refine enter (n := 13) func26 rfl rfl rfl Z0 [] (Sat.nil _ _)<|Jc<|Ja<|?_
 refine W1 (cs := [i6 a0.kai, str a0.kaj, v0_2, v0_3, v0_4]) rfl rfl rfl rfl (fun b1 => ?_)
 refine ag (i6 0)<|Jd<|Jc<|Jc<|Ja<|lf Tryz.runUnderlying26 rfl kcg rfl<|ll 0 (i6 a0.kai) kbk<|lv (Qj rfl rfl)<|Jd<|?_
 revert H
 refine ci (decide (a0.kai = 13)) rfl (fun hb H6=>?_) fun hb H7=>?_
 ·refine Jc<|Ja<|ag (i6 1)<|Jd<|Jm<|?_
  obtain rfl := sj H6
  exact r1 (i6 1)
 ·refine Jj<|Jc<|?_
  exact Qk (Kd.d [0] _ :: Kd.d [] _ :: Kd.p :: Kd.p :: Kd.d [0] _ :: Kd.d [] _ :: Kd.p :: Kd.p :: []) 0 mixed (by
   refine Jc1 (i := 0) (vs := [i6 a0.kai, str a0.kaj, v0_2, v0_3, v0_4]) kbi kce rfl rfl rfl rfl ?_
   have h_t7 := Jt H7
   have H8 := Jn H7
   refine Jar (fun w L' hF hS hi => k24 (Jq w) (f0_2.mono (hw.now hF)) (f0_3.mono (hw.now hF)) (f0_4.mono (hw.now hF)) h_t7) call24 rfl rfl<|dv (Yx kcx rfl)<|dv (J2 Tryz.runUnderlying26 rfl kcg rfl rfl)<|dl (i6 a0.kai) kbk<|?_
   have h_t11 := Jt H8
   have H9 := Jn H8
   refine Ja9 (k51 h_t11) call51 rfl rfl ?_
   have h_t12 := Jt H9
   have H10 := Jn H9
   refine dv (r_quoG rfl rfl h_t12)<|Qv rfl rfl (Jz (v := i6 (val (gQuo ((val (Zp false a0)).length : Int) (val (Jdx a0.kai))))) rfl)<|Xr<|Jm<|?_
   obtain rfl := sj H10
   exact r1 (i6 (val (gQuo ((val (Zp false a0)).length : Int) (val (Jdx a0.kai)))))
   ) (by kernel_rfl)
theorem k27 {a0 : (List UInt8)} {a1 : Int} {r : (List UInt8)} (H : gRep a0 a1 = some r) : Ret prog 27 [str a0, i6 a1] (str r) :=
  rep_ret (ρ := Go.Proofs.Tryz.lays105_ren) Go.Proofs.Tryz.lays105 Go.Proofs.Tryz.Builder_Extra_105 H
theorem k28 {a0 : Ti} {pb0 : Nat} {a1 : (List UInt8)} {r : Int × Ti} {w : World} {h : J1} {S : Nat → Prop} (hcs : (Jf pb0 [str a0.s_, .bool a0.kab] 68).P S w) (hlt : ∀ b, S b → b < w.heap.size) (hw : Know h w S) (H : Qo a0 a1 = some r) : Does prog 28 (List.toArray [pz pb0, str a1]) w (fun v w' => ∃ x : Unit, v = (i6 r.1) ∧ Turn w w' S (Jf pb0 [str r.2.s_, .bool r.2.kab] 68)) := by
 refine enter (n := 34) func28 rfl rfl rfl S [Jf pb0 [str a0.s_, .bool a0.kab] 68] (Sat.one hcs hlt)<|Jc<|Ja<|ag (i6 0)<|Jd<|?_
 refine Qg (r := r) (σ := (List UInt8)) (τ := Unit) (fun s => Wn a0 a1 s) (fun s t => [(0, pz pb0), (1, str a1)]) (fun s t => [Jf pb0 [str s, .bool a0.kab] 68]) (fun s t => True) ?_ ?_
 ·refine Jc<|Ja<|mv (pz pb0)<|lv (Jg rfl)<|lf Tryz.runUnderlying68 rfl kcn rfl<|ll 0 (str a0.s_) kbp<|lv (Yx kcx rfl)<|?_
  obtain ⟨t11, h_t11, H9⟩ := Je H; clear H
  refine lv (r_remG rfl rfl h_t11)<|lv (Qj rfl rfl)<|Jd<|?_
  revert H9
  refine ci (decide (t11 = 1)) rfl (fun hb H10=>?_) fun hb H12=>?_
  ·refine Ja<|mv (pz pb0)<|lv (Jg rfl)<|lf Tryz.runUnderlying68 rfl kcn rfl<|ll 0 (str a0.s_) kbp<|?_
   obtain ⟨t17, h_t17, H11⟩ := Je H10; clear H10
   refine lv (Y9 rfl rfl h_t17)<|lv (Jg rfl)<|lf Tryz.runUnderlying68 rfl kcn rfl<|st (i := 0) [str t17] [str t17, .bool a0.kab] kcn rfl rfl<|Jd<|?_
   exact cl t17 () 0 [0] (by exact ⟨H11, trivial⟩)
  ·refine Jj ?_
   exact cl a0.s_ () 0 [0] (by exact ⟨H12, trivial⟩)
 ·rintro m _ gg H7 _
  try dsimp only at H7
  try dsimp only
  refine Jc<|Ja<|mv (pz pb0)<|lv (Jg rfl)<|lf Tryz.runUnderlying68 rfl kcn rfl<|ll 0 (str m) kbp<|lv (Yx kcx rfl)<|ag (i6 (m.l : Int))<|Jd<|Jc<|Ja<|mv (pz pb0)<|lv (Jg rfl)<|lf Tryz.runUnderlying68 rfl kcn rfl<|ll 0 (str m) kbp<|mv (str a1)<|?_
  obtain ⟨t30, h_t30, H8⟩ := Je H7; clear H7
  refine lv (Y9 rfl rfl h_t30)<|lv (Jg rfl)<|lf Tryz.runUnderlying68 rfl kcn rfl<|st (i := 0) [str t30] [str t30, .bool a0.kab] kcn rfl rfl<|Jd<|Jc<|Ja<|mv (i6 (m.l : Int))<|ag (i6 (m.l : Int))<|Jd<|Jm<|?_
  obtain rfl := sj H8
  refine Jdo (v := i6 (m.l : Int)) rfl rfl (Y0 () (i := 0) rfl rfl (Imp.refl _))
theorem k108_it (mm : Nat) : ∀ {a0 : Ti} {pb0 : Nat} {a1 : (List Ta)} {v1 : Value} {r : Int × Ti} {w : World} {h : J1} {S : Nat → Prop} (hcs : (Jf pb0 [str a0.s_, .bool a0.kab] 68).P S w) (hlt : ∀ b, S b → b < w.heap.size) (hw : Know h w S) (f1 : FrN h 6 v1 g_tag_Entry a1) (H : it (fun (self : (Ti × (List Ta)) → Option (Int × Ti)) (s : Ti × (List Ta)) => Y1 self s.1 s.2) mm (a0, a1) = some r), Does prog 108 (List.toArray [pz pb0, v1]) w (fun v w' => ∃ x : Unit, v = (i6 r.1) ∧ Turn w w' S (Jf pb0 [str r.2.s_, .bool r.2.kab] 68)) := by
 induction mm with
 | zero => intros; rename_i H; exact absurd H (by simp [it])
 | succ mm ih =>
  intro a0 pb0 a1 v1 r w h S hcs hlt hw f1 H
  replace H : Y1 (it (fun (self : (Ti × (List Ta)) → Option (Int × Ti)) (s : Ti × (List Ta)) => Y1 self s.1 s.2) mm) a0 a1 = some r := H
  generalize it (fun (self : (Ti × (List Ta)) → Option (Int × Ti)) (s : Ti × (List Ta)) => Y1 self s.1 s.2) mm = self at H ih
  refine enter (n := 109) func108 rfl rfl rfl S [Jf pb0 [str a0.s_, .bool a0.kab] 68] (Sat.one hcs hlt)<|Jc<|Ja<|ag (i6 0)<|Jd<|Jc<|Ja<|mv (pz pb0)<|mv v1<|lv (Z2 kct rfl f1)<|?_
  obtain ⟨t13, h_t13, H40⟩ := Je H; clear H
  refine lv (Z3 rfl rfl h_t13) ?_
  obtain ⟨t14, h_t14, H41⟩ := Je H40; clear H40
  refine lv (Jy rfl rfl h_t14) ?_
  obtain ⟨t15, h_t15, H42⟩ := Je H41; clear H41
  refine lv (Jy rfl rfl h_t15) ?_
  obtain ⟨t16, h_t16, H43⟩ := Je H42; clear H42
  refine Yq (k27 h_t16) call27 rfl rfl rfl ?_
  obtain ⟨t17, h_t17, H44⟩ := Je H43; clear H43
  refine Qh (Jv (i := 0) (rds := []) (G := fun x : Unit => i6 t17.1) (C := fun x : Unit => Jf pb0 [str t17.2.s_, .bool t17.2.kab] 68) rfl (fun w L' S hF hS hi hp hlt ho hA => k28 hp hlt (J7 w S)  h_t17) call28 rfl) rfl rfl rfl (fun _ => ?_)
  refine ag (i6 t17.1)<|Jd<|Jc<|Ja<|mv (pz pb0)<|mv (i6 t17.1)<|mv v1<|lv (Z2 kct rfl f1)<|?_
  obtain ⟨t22, h_t22, H45⟩ := Je H44; clear H44
  refine Qh (Jv (i := 0) (rds := []) (G := fun x : Unit => .tuple #[]) (C := fun x : Unit => Jf pb0 [str t22.s_, .bool t22.kab] 68) rfl (fun w L' S hF hS hi hp hlt ho hA => k25 hp hlt (J7 w S)  h_t22) call25 rfl) rfl rfl rfl (fun _ => ?_)
  refine Jd<|Jc<|Jc<|Ja<|mv v1<|lv (Z2 kct rfl f1)<|mv (i6 0)<|Jd<|Jx<|?_
  refine Za (σ := Int × (List UInt8) × Bool) (τ := Unit) (fun next1 s => Zt a1 self t17 next1 s.1 s.2.1 s.2.2) (fun s t => [(0, pz pb0), (5, i6 t17.1), (23, v1), (24, i6 (a1.l : Int)), (25, i6 s.1)]) (fun s t => [Jf pb0 [str s.2.1, .bool s.2.2] 68]) (fun s t => True) (0, t22.s_, t22.kab) () [0] H45 (by exact trivial) (by exact ⟨rfl, rfl, rfl, rfl, rfl, trivial⟩) (by decide) rfl ?_
  rintro ⟨x25_2, m_3, m_4⟩ _ m1 gg H46 _
  clear H45
  try dsimp only at H46
  generalize hn1 : it (fun next1 s => Zt a1 self t17 next1 s.1 s.2.1 s.2.2) m1 = next1 at H46
  try dsimp only
  refine Jc<|Ja<|lv (X3 rfl rfl)<|Jd<|Jc<|?_
  revert H46
  refine ci (decide (x25_2 < (a1.l : Int))) rfl (fun hb H47=>?_) fun hb H78=>?_
  ·refine Jj ?_
   refine Qg (r := r) (σ := (List UInt8) × Bool) (τ := Unit) (fun s => Wk x25_2 next1 s.1 s.2) (fun s t => [(0, pz pb0), (5, i6 t17.1), (23, v1), (24, i6 (a1.l : Int)), (25, i6 x25_2)]) (fun s t => [Jf pb0 [str s.1, .bool s.2] 68]) (fun s t => True) ?_ ?_
   ·refine Jx<|Jc<|Ja<|mv (i6 x25_2)<|?_
    obtain ⟨t28, h_t28, H50⟩ := Je H47; clear H47
    refine lv (Xc kct kco rfl rfl f1.frs (f1.ix h_t28))<|Xs (fun w hF hS => Z5 (f := (elC h v1 6)) (i := x25_2) (sz := 6) (j := 0) (vs := [i6 t28.Tag, i6 t28.Value.kai, str t28.Value.kaj, (Xd h v1 6 (Int.toNat x25_2) 3), (Xd h v1 6 (Int.toNat x25_2) 4), (Xd h v1 6 (Int.toNat x25_2) 5)]) isAgg95 kco rfl rfl (f1.frs.row (hw.now hF)) (f1.ix h_t28) (rd_of (Yd (f1.at h_t28)) rfl)) rfl rfl rfl<|?_
    refine Xx (cs := [i6 0, i6 0, str [], z0s, z0s, z0s]) zeroValue95 rfl rfl rfl (fun b1 => ?_)
    refine ag (i6 x25_2)<|Wz (i := 1) (vs := [i6 t28.Tag, i6 t28.Value.kai, str t28.Value.kaj, (Xd h v1 6 (Int.toNat x25_2) 3), (Xd h v1 6 (Int.toNat x25_2) 4), (Xd h v1 6 (Int.toNat x25_2) 5)]) (cs' := [i6 t28.Tag, i6 t28.Value.kai, str t28.Value.kaj, (Xd h v1 6 (Int.toNat x25_2) 3), (Xd h v1 6 (Int.toNat x25_2) 4), (Xd h v1 6 (Int.toNat x25_2) 5)]) kco rfl rfl rfl rfl rfl rfl (by simp only [List.all_cons, List.all_nil, (show FrN h 6 (Xd h v1 6 (Int.toNat x25_2) 5) g_tag_Entry t28.Value.kag from (Qm (Jo (f1.at h_t28)))).one, (show FrS h 1 (Xd h v1 6 (Int.toNat x25_2) 3) (t28.Value.kak.map J8) from (Q0 (Jo (f1.at h_t28)))).one, (show FrS h 2 (Xd h v1 6 (Int.toNat x25_2) 4) (t28.Value.kah.map Jl) from (Q1 (Jo (f1.at h_t28)))).one] <;> rfl) rfl rfl<|Jd<|Jc<|Ja<|mv (i6 t17.1)<|?_
    obtain ⟨t31, h_t31, H51⟩ := Je H50; clear H50
    refine lv (Jy rfl rfl h_t31)<|mv (i6 x25_2)<|?_
    obtain ⟨t33, h_t33, H52⟩ := Je H51; clear H51
    refine lv (Z3 rfl rfl h_t33) ?_
    obtain ⟨t34, h_t34, H53⟩ := Je H52; clear H52
    refine lv (Jy rfl rfl h_t34)<|ag (i6 t34)<|Jd<|Jc<|Ja<|mv (pz pb0)<|mv (i6 t34)<|lf Tryz.runUnderlying95 rfl kcg rfl<|ll 1 (i6 t28.Tag) kbk<|?_
    obtain ⟨t39, h_t39, H54⟩ := Je H53; clear H53
    refine Qh (Jv (i := 0) (rds := []) (G := fun x : Unit => .tuple #[]) (C := fun x : Unit => Jf pb0 [str t39.s_, .bool t39.kab] 68) rfl (fun w L' S hF hS hi hp hlt ho hA => k25 (a0 := (⟨m_3, m_4⟩ : Ti)) hp hlt (J7 w S)  h_t39) call25 rfl) rfl rfl rfl (fun _ => ?_)
    refine Jd<|Jc<|Ja<|mv (pz pb0)<|mv (i6 t34)<|?_
    obtain ⟨t42, h_t42, H55⟩ := Je H54; clear H54
    refine lv (Jy rfl rfl h_t42)<|lf Tryz.runUnderlying95 rfl kce rfl<|lf Tryz.runUnderlying26 rfl kcg rfl<|ll 1 (i6 t28.Value.kai) kbk<|?_
    obtain ⟨t46, h_t46, H56⟩ := Je H55; clear H55
    refine Qh (Jv (i := 0) (rds := []) (G := fun x : Unit => .tuple #[]) (C := fun x : Unit => Jf pb0 [str t46.s_, .bool t46.kab] 68) rfl (fun w L' S hF hS hi hp hlt ho hA => k25 hp hlt (J7 w S)  h_t46) call25 rfl) rfl rfl rfl (fun _ => ?_)
    refine Jd<|Jc<|Ja<|mv (pz pb0)<|mv (i6 t34)<|?_
    obtain ⟨t49, h_t49, H57⟩ := Je H56; clear H56
    refine lv (Jy rfl rfl h_t49)<|lf Tryz.runUnderlying95 rfl kce rfl<|Xb (i := 1) (vs := [i6 t28.Value.kai, str t28.Value.kaj, (Xd h v1 6 (Int.toNat x25_2) 3), (Xd h v1 6 (Int.toNat x25_2) 4), (Xd h v1 6 (Int.toNat x25_2) 5)]) kbi kce rfl rfl rfl rfl rfl<|?_
    obtain ⟨t52, h_t52, H58⟩ := Je H57; clear H57
    refine Qb (fun w hF hS => k26 (Jq w) ((show FrS h 1 (Xd h v1 6 (Int.toNat x25_2) 3) (t28.Value.kak.map J8) from (Q0 (Jo (f1.at h_t28)))).mono (hw.now hF)) ((show FrS h 2 (Xd h v1 6 (Int.toNat x25_2) 4) (t28.Value.kah.map Jl) from (Q1 (Jo (f1.at h_t28)))).mono (hw.now hF)) ((show FrN h 6 (Xd h v1 6 (Int.toNat x25_2) 5) g_tag_Entry t28.Value.kag from (Qm (Jo (f1.at h_t28)))).mono (hw.now hF)) h_t52) call26 rfl rfl rfl ?_
    obtain ⟨t53, h_t53, H59⟩ := Je H58; clear H58
    refine Qh (Jv (i := 0) (rds := []) (G := fun x : Unit => .tuple #[]) (C := fun x : Unit => Jf pb0 [str t53.s_, .bool t53.kab] 68) rfl (fun w L' S hF hS hi hp hlt ho hA => k25 hp hlt (J7 w S)  h_t53) call25 rfl) rfl rfl rfl (fun _ => ?_)
    refine Jd<|Jc<|Jc<|Ja<|lf Tryz.runUnderlying95 rfl kce rfl<|lf Tryz.runUnderlying26 rfl kcg rfl<|ll 1 (i6 t28.Value.kai) kbk<|lv (Qj rfl rfl)<|Jd<|?_
    revert H59
    refine ci (decide (t28.Value.kai = 13)) rfl (fun hb H60=>?_) fun hb H64=>?_
    ·refine Jc<|Ja<|mv (pz pb0)<|mv (i6 t34)<|?_
     obtain ⟨t60, h_t60, H61⟩ := Je H60; clear H60
     refine lv (Jy rfl rfl h_t60)<|mv (pz pb0)<|lf Tryz.runUnderlying95 rfl kce rfl<|lf Tryz.runUnderlying26 rfl kcd rfl<|ll 1 (Xd h v1 6 (Int.toNat x25_2) 5) kbh<|?_
     obtain ⟨t65, h_t65, H62⟩ := Je H61; clear H61
     refine Qh (Jv (i := 0) (rds := []) (G := fun x : Unit => i6 t65.1) (C := fun x : Unit => Jf pb0 [str t65.2.s_, .bool t65.2.kab] 68) rfl (fun w L' S hF hS hi hp hlt ho hA => ih hp hlt (J7 w S) ((show FrN h 6 (Xd h v1 6 (Int.toNat x25_2) 5) g_tag_Entry t28.Value.kag from (Qm (Jo (f1.at h_t28)))).mono (hw.but hF ho)) h_t65) call108 rfl) rfl rfl rfl (fun _ => ?_)
     obtain ⟨t66, h_t66, H63⟩ := Je H62; clear H62
     refine Qh (Jv (i := 0) (rds := []) (G := fun x : Unit => .tuple #[]) (C := fun x : Unit => Jf pb0 [str t66.s_, .bool t66.kab] 68) rfl (fun w L' S hF hS hi hp hlt ho hA => k25 hp hlt (J7 w S)  h_t66) call25 rfl) rfl rfl rfl (fun _ => ?_)
     refine Jd<|Xj<|?_
     exact cl (t66.s_, t66.kab) () 0 [0] (by exact ⟨H63, trivial⟩)
    ·refine Jj<|Jc<|?_
     exact Qk (Kd.p :: Kd.p :: Kd.p :: Kd.d [0] _ :: Kd.p :: Kd.d [1] _ :: Kd.d [] _ :: Kd.p :: []) 0 mixed (by
      refine dm (pz pb0)<|dv (Jg rfl)<|dv (J2 Tryz.runUnderlying68 rfl kck rfl rfl)<|dl (.bool t53.kab) kbo<|dv (J2 Tryz.runUnderlying95 rfl kce rfl rfl)<|Jc1 (i := 1) (vs := [i6 t28.Value.kai, str t28.Value.kaj, (Xd h v1 6 (Int.toNat x25_2) 3), (Xd h v1 6 (Int.toNat x25_2) 4), (Xd h v1 6 (Int.toNat x25_2) 5)]) kbi kce rfl rfl rfl rfl<|?_
      have h_t73 := Jt H64
      have H65 := Jn H64
      refine Jar (fun w L' hF hS hi => k24 (Jq w) ((show FrS h 1 (Xd h v1 6 (Int.toNat x25_2) 3) (t28.Value.kak.map J8) from (Q0 (Jo (f1.at h_t28)))).mono (hw.now hF)) ((show FrS h 2 (Xd h v1 6 (Int.toNat x25_2) 4) (t28.Value.kah.map Jl) from (Q1 (Jo (f1.at h_t28)))).mono (hw.now hF)) ((show FrN h 6 (Xd h v1 6 (Int.toNat x25_2) 5) g_tag_Entry t28.Value.kag from (Qm (Jo (f1.at h_t28)))).mono (hw.now hF)) h_t73) call24 rfl rfl<|Qv rfl rfl (Jz (v := str (val (Zp t53.kab t28.Value))) rfl)<|Xr<|Jc<|Jc<|Ja<|mv (str (val (Zp t53.kab t28.Value)))<|lv (Yx kcx rfl)<|lv (Yf rfl rfl)<|Jd<|?_
      revert H65
      refine ci (decide (4 < ((val (Zp t53.kab t28.Value)).length : Int))) rfl (fun hb H66=>?_) fun hb H70=>?_
      ·refine Jc<|Ja<|mv (pz pb0)<|mv (i6 t34)<|?_
       obtain ⟨t79, h_t79, H67⟩ := Je H66; clear H66
       refine lv (Jy rfl rfl h_t79)<|mv (pz pb0)<|mv (str (val (Zp t53.kab t28.Value)))<|?_
       obtain ⟨t82, h_t82, H68⟩ := Je H67; clear H67
       refine Qh (Jv (i := 0) (rds := []) (G := fun x : Unit => i6 t82.1) (C := fun x : Unit => Jf pb0 [str t82.2.s_, .bool t82.2.kab] 68) rfl (fun w L' S hF hS hi hp hlt ho hA => k28 hp hlt (J7 w S)  h_t82) call28 rfl) rfl rfl rfl (fun _ => ?_)
       obtain ⟨t83, h_t83, H69⟩ := Je H68; clear H68
       refine Qh (Jv (i := 0) (rds := []) (G := fun x : Unit => .tuple #[]) (C := fun x : Unit => Jf pb0 [str t83.s_, .bool t83.kab] 68) rfl (fun w L' S hF hS hi hp hlt ho hA => k25 hp hlt (J7 w S)  h_t83) call25 rfl) rfl rfl rfl (fun _ => ?_)
       refine Jd<|Xj<|?_
       exact cl (t83.s_, t83.kab) () 0 [0] (by exact ⟨H69, trivial⟩)
      ·refine Jj ?_
       exact Qk (Kd.p :: Kd.p :: Kd.p :: Kd.p :: Kd.d [0] _ :: Kd.p :: Kd.p :: Kd.p :: Kd.p :: Kd.p :: Kd.p :: Kd.p :: Kd.p :: Kd.d [0] _ :: Kd.p :: Kd.p :: Kd.p :: Kd.p :: Kd.p :: Kd.p :: Kd.p :: Kd.p :: Kd.p :: Kd.st 106 0 [_, _] 68 :: []) 0 mixed (by
        refine dm (pz pb0)<|dm (pz pb0)<|dv (Jg rfl)<|dv (J2 Tryz.runUnderlying68 rfl kcn rfl rfl)<|dl (str t53.s_) kbp<|dm (i6 t34)<|?_
        have h_t90 := Jt H70
        have H71 := Jn H70
        refine dv (Jy rfl rfl h_t90) ?_
        have h_t91 := Jt H71
        have H72 := Jn H71
        refine dv (Up kcx rfl rfl h_t91)<|dm (str (val (Zp t53.kab t28.Value)))<|?_
        have h_t93 := Jt H72
        have H73 := Jn H72
        refine dv (Y9 rfl rfl h_t93)<|dm (pz pb0)<|dv (Jg rfl)<|dv (J2 Tryz.runUnderlying68 rfl kcn rfl rfl)<|dl (str t53.s_) kbp<|dm (i6 t34)<|?_
        have h_t99 := Jt H73
        have H74 := Jn H73
        refine dv (Jy rfl rfl h_t99)<|dm (str (val (Zp t53.kab t28.Value)))<|dv (Yx kcx rfl)<|?_
        have h_t102 := Jt H74
        have H75 := Jn H74
        refine dv (Jy rfl rfl h_t102) ?_
        have h_t103 := Jt H75
        have H76 := Jn H75
        refine dv (Jcb kcx rfl rfl h_t103) ?_
        have h_t104 := Jt H76
        have H77 := Jn H76
        refine dv (Y9 rfl rfl h_t104)<|dv (Jg rfl)<|dv (J2 Tryz.runUnderlying68 rfl kcn rfl rfl)<|Jfy (i := 0) (vs := [str (val (Zo (val (Zo (val (Qp t53.s_ 0 (val (gI (t34 + 8))))) (val (Zp t53.kab t28.Value)))) (val (Qp t53.s_ (val (gI ((val (gI (t34 + 8))) + ((val (Zp t53.kab t28.Value)).length : Int)))) t53.s_.l))))]) (cs' := [str (val (Zo (val (Zo (val (Qp t53.s_ 0 (val (gI (t34 + 8))))) (val (Zp t53.kab t28.Value)))) (val (Qp t53.s_ (val (gI ((val (gI (t34 + 8))) + ((val (Zp t53.kab t28.Value)).length : Int)))) t53.s_.l)))), .bool t53.kab]) kcn rfl rfl rfl rfl rfl rfl rfl rfl rfl<|Xr<|?_
        exact cl ((val (Zo (val (Zo (val (Qp t53.s_ 0 (val (gI (t34 + 8))))) (val (Zp t53.kab t28.Value)))) (val (Qp t53.s_ (val (gI ((val (gI (t34 + 8))) + ((val (Zp t53.kab t28.Value)).length : Int)))) t53.s_.l)))), t53.kab) () 0 [0] (by exact ⟨H77, trivial⟩)
        ) (by kernel_rfl)
      ) (by kernel_rfl)
   ·rintro ⟨m_5, m_6⟩ _ gg H48 _
    try dsimp only at H48
    try dsimp only
    refine Ja ?_
    obtain ⟨t107, h_t107, H49⟩ := Je H48; clear H48
    refine lv (Jy rfl rfl h_t107)<|mv (i6 t107)<|Jd<|?_
    exact cl (t107, m_5, m_6) () m1 [0] (by exact ⟨(by subst hn1; exact H49), trivial⟩)
  ·refine Xj<|Jc<|Ja<|mv (i6 t17.1)<|ag (i6 t17.1)<|Jd<|Jm<|?_
   obtain rfl := sj H78
   refine Jdo (v := i6 t17.1) rfl rfl (Y0 () (i := 0) rfl rfl (Imp.refl _))
theorem k108 {a0 : Ti} {pb0 : Nat} {a1 : (List Ta)} {v1 : Value} {r : Int × Ti} {w : World} {h : J1} {S : Nat → Prop} (hcs : (Jf pb0 [str a0.s_, .bool a0.kab] 68).P S w) (hlt : ∀ b, S b → b < w.heap.size) (hw : Know h w S) (f1 : FrN h 6 v1 g_tag_Entry a1) (H : Jcg a0 a1 = some r) : Does prog 108 (List.toArray [pz pb0, v1]) w (fun v w' => ∃ x : Unit, v = (i6 r.1) ∧ Turn w w' S (Jf pb0 [str r.2.s_, .bool r.2.kab] 68)) := by
 obtain ⟨mm, hm⟩ := Je9 (show Vv (fun (self : (Ti × (List Ta)) → Option (Int × Ti)) (s : Ti × (List Ta)) => Y1 self s.1 s.2) (a0, a1) = some r from H)
 exact k108_it mm hcs hlt hw f1 hm
theorem k87 {a0 : Th} {v0_1 : Value} {r : (List UInt8)} {w : World} {h : J1} (hw : Know h w Z0) (f0_1 : FrN h 1 v0_1 gs_tag_Entry a0.kap) (H : Jgw a0 = some r) : Does prog 87 (List.toArray [.agg #[.bool a0.Big, v0_1]]) w (fun v w' => v = (str r) ∧ Grow w w') := by
 refine enter (n := 59) func87 rfl rfl rfl Z0 [] (Sat.nil _ _)<|Jc<|Ja<|?_
 refine W1 (cs := [.bool a0.Big, v0_1]) rfl rfl rfl rfl (fun b2 => ?_)
 refine ag (str [])<|Jd<|Jc<|Ja<|lf Tryz.runUnderlying34 rfl kck rfl<|ll 0 (.bool a0.Big) kbo<|lv (Xf (pl := #[(0, 1), (1, 1)]) (ps := [(1, .bool a0.Big)]) (cells := #[str [], .bool a0.Big]) zeroValue68 Tryz.runUnderlying68 (fun w => by kernel_rfl) rfl rfl)<|?_
 refine W1 (cs := [str [], .bool a0.Big]) rfl rfl rfl rfl (fun b3 => ?_)
 refine ag (pz b3)<|Jd<|Jc<|Ja<|mv (pz b3)<|lv (Jg rfl)<|lf Tryz.runUnderlying68 rfl kcn rfl<|st (i := 1) [str [73, 73]] [str [73, 73], .bool a0.Big] kcn rfl rfl<|Jd<|?_
 refine Qg (r := r) (σ := (List UInt8)) (τ := Unit) (fun s => Jcl a0 s) (fun s t => [(1, pz b2), (3, pz b3)]) (fun s t => [Jf b2 [.bool a0.Big, v0_1] 34, Jf b3 [str s, .bool a0.Big] 68]) (fun s t => True) ?_ ?_
 ·refine Jc<|Ja<|lf Tryz.runUnderlying34 rfl kck rfl<|ll 0 (.bool a0.Big) kbo<|Jd<|?_
  revert H
  refine ci (a0.Big) rfl (fun hb H35=>?_) fun hb H36=>?_
  ·refine Ja<|mv (pz b3)<|lv (Jg rfl)<|lf Tryz.runUnderlying68 rfl kcn rfl<|st (i := 1) [str [77, 77]] [str [77, 77], .bool a0.Big] kcn rfl rfl<|Jd<|?_
   exact cl [77, 77] () 0 [0, 1] (by exact ⟨H35, trivial⟩)
  ·refine Jj ?_
   exact cl [73, 73] () 0 [0, 1] (by exact ⟨H36, trivial⟩)
 ·rintro m _ gg H19 _
  try dsimp only at H19
  try dsimp only
  refine Jc ?_
  exact Qk (Kd.p :: Kd.p :: Kd.p :: Kd.d [1] _ :: Kd.p :: Kd.d [0] _ :: Kd.d [] _ :: Kd.p :: Kd.d [0] _ :: Kd.d [] _ :: Kd.p :: Kd.p :: Kd.p :: Kd.p :: Kd.st 33 1 [_, _] 68 :: []) 0 mixed (by
   refine dm (pz b3)<|dv (Jg rfl)<|dv (J2 Tryz.runUnderlying68 rfl kcn rfl rfl)<|dl (str m) kbp<|dv (J2 Tryz.runUnderlying34 rfl kck rfl rfl)<|dl (.bool a0.Big) kbo<|?_
   have h_t26 := Jt H19
   have H20 := Jn H19
   refine Ja9 (k57 h_t26) call57 rfl rfl<|dv (J2 Tryz.runUnderlying34 rfl kck rfl rfl)<|dl (.bool a0.Big) kbo<|?_
   have h_t29 := Jt H20
   have H21 := Jn H20
   refine Ja9 (k57 h_t29) call57 rfl rfl ?_
   have h_t30 := Jt H21
   have H22 := Jn H21
   refine dv (Y9 rfl rfl h_t30) ?_
   have h_t31 := Jt H22
   have H23 := Jn H22
   refine dv (Y9 rfl rfl h_t31)<|dv (Jg rfl)<|dv (J2 Tryz.runUnderlying68 rfl kcn rfl rfl)<|Jfy (i := 1) (vs := [str (val (Zo m (val (Zo (val (Yt a0.Big 42 2)) (val (Yt a0.Big 0 4))))))]) (cs' := [str (val (Zo m (val (Zo (val (Yt a0.Big 42 2)) (val (Yt a0.Big 0 4)))))), .bool a0.Big]) kcn rfl rfl rfl rfl rfl rfl rfl rfl rfl<|Xr<|Jc<|Ja<|ag (i6 4)<|Jd<|?_
   refine Qg (r := r) (σ := (List UInt8) × Bool) (τ := Unit) (fun s => Jid s.1 s.2) (fun s t => [(3, pz b3)]) (fun s t => [Jf b3 [str s.1, .bool s.2] 68]) (fun s t => True) ?_ ?_
   ·refine Jc<|Ja<|lf Tryz.runUnderlying34 rfl kch rfl<|ll 0 v0_1 kbl<|lv (Z2 kcu rfl f0_1)<|mv (i6 0)<|Jd<|Jx<|Jcv 0<|?_
    try dsimp only [z1, z2, z3, z4, z5, z6, z7, z8]
    refine Za (σ := Int × Int × (List UInt8) × Bool) (τ := Unit) (fun next3 s => Uy a0 next3 s.1 s.2.1 s.2.2.1 s.2.2.2) (fun s t => [(3, pz b3), (4, i6 s.1), (35, v0_1), (36, i6 (a0.kap.l : Int)), (37, i6 s.2.1)]) (fun s t => [Jf b3 [str s.2.2.1, .bool s.2.2.2] 68]) (fun s t => True) (4, 0, (val (Zo m (val (Zo (val (Yt a0.Big 42 2)) (val (Yt a0.Big 0 4)))))), a0.Big) () [0] H23 (by exact trivial) (by exact ⟨rfl, rfl, rfl, rfl, rfl, trivial⟩) (by decide) rfl ?_
    rintro ⟨x4_2, x37_2, m_6, m_7⟩ _ m3 gg H25 _
    clear H23
    try dsimp only at H25
    generalize hn3 : it (fun next3 s => Uy a0 next3 s.1 s.2.1 s.2.2.1 s.2.2.2) m3 = next3 at H25
    try dsimp only
    refine Jc<|Ja<|lv (X3 rfl rfl)<|Jd<|Jc<|?_
    revert H25
    refine ci (decide (x37_2 < (a0.kap.l : Int))) rfl (fun hb H26=>?_) fun hb H34=>?_
    ·refine Jj<|Jc<|Jx<|Jc<|Ja<|?_
     obtain ⟨t39, h_t39, H27⟩ := Je H26; clear H26
     refine lv (Xc kcu kcd rfl rfl f0_1.frs (f0_1.ix h_t39))<|Xs (fun w hF hS => Qw (f := (elC h v0_1 1)) (i := x37_2) (sz := 1) (j := 0) (v := (Xd h v0_1 1 (Int.toNat x37_2) 0)) kbh rfl rfl (f0_1.frs.row (hw.now hF)) (f0_1.ix h_t39) (Jea (Jan (f0_1.at h_t39)) rfl)) rfl rfl rfl<|ag ((Xd h v0_1 1 (Int.toNat x37_2) 0))<|Jd<|Jc<|Ja<|mv (pz b3)<|mv ((Xd h v0_1 1 (Int.toNat x37_2) 0))<|?_
     obtain ⟨t43, h_t43, H28⟩ := Je H27; clear H27
     refine Qh (Jv (i := 0) (rds := []) (G := fun x : Unit => i6 t43.1) (C := fun x : Unit => Jf b3 [str t43.2.s_, .bool t43.2.kab] 68) rfl (fun w L' S hF hS hi hp hlt ho hA => k108 (a0 := (⟨m_6, m_7⟩ : Ti)) hp hlt (J7 w S) ((show FrN h 6 (Xd h v0_1 1 (Int.toNat x37_2) 0) g_tag_Entry t39 from (f0_1.at h_t39)).mono (hw.but hF ho)) h_t43) call108 rfl) rfl rfl rfl (fun _ => ?_)
     refine ag (i6 t43.1)<|Jd<|Jc<|Ja<|mv (pz b3)<|mv (i6 x4_2)<|mv (i6 t43.1)<|?_
     obtain ⟨t47, h_t47, H29⟩ := Je H28; clear H28
     refine Qh (Jv (i := 0) (rds := []) (G := fun x : Unit => .tuple #[]) (C := fun x : Unit => Jf b3 [str t47.s_, .bool t47.kab] 68) rfl (fun w L' S hF hS hi hp hlt ho hA => k25 hp hlt (J7 w S)  h_t47) call25 rfl) rfl rfl rfl (fun _ => ?_)
     refine Jd<|Ja<|mv (i6 t43.1)<|?_
     obtain ⟨t49, h_t49, H30⟩ := Je H29; clear H29
     refine lv (Jy rfl rfl h_t49)<|mv ((Xd h v0_1 1 (Int.toNat x37_2) 0))<|lv (Z2 kct rfl (show FrN h 6 (Xd h v0_1 1 (Int.toNat x37_2) 0) g_tag_Entry t39 from (f0_1.at h_t39)))<|?_
     obtain ⟨t52, h_t52, H31⟩ := Je H30; clear H30
     refine lv (Z3 rfl rfl h_t52) ?_
     obtain ⟨t53, h_t53, H32⟩ := Je H31; clear H31
     refine lv (Jy rfl rfl h_t53)<|ag (i6 t53)<|Jd<|Ja<|?_
     obtain ⟨t54, h_t54, H33⟩ := Je H32; clear H32
     refine lv (Jy rfl rfl h_t54)<|mv (i6 t54)<|Jd<|?_
     exact cl (t53, t54, t47.s_, t47.kab) () m3 [0] (by exact ⟨(by subst hn3; exact H33), trivial⟩)
    ·refine Xj ?_
     exact cl (m_6, m_7) () 0 [0] (by exact ⟨H34, trivial⟩)
   ·rintro ⟨m_2, m_3⟩ _ gg H24 _
    try dsimp only at H24
    try dsimp only
    refine Jc<|Ja<|mv (pz b3)<|lv (Jg rfl)<|lf Tryz.runUnderlying68 rfl kcn rfl<|ll 0 (str m_2) kbp<|ag (str m_2)<|Jd<|Jm<|?_
    obtain rfl := sj H24
    exact r1 (str m_2)
   ) (by kernel_rfl)
theorem k50 {a0 : Th} {v0_1 : Value} {r : Int} {w : World} {h : J1} (hw : Know h w Z0) (f0_1 : FrN h 1 v0_1 gs_tag_Entry a0.kap) (H : Jdr a0 = some r) : Does prog 50 (List.toArray [.agg #[.bool a0.Big, v0_1]]) w (fun v w' => v = (i6 r) ∧ Grow w w') := by
 refine enter (n := 27) func50 rfl rfl rfl Z0 [] (Sat.nil _ _)<|Jc<|Ja<|?_
 refine W1 (cs := [.bool a0.Big, v0_1]) rfl rfl rfl rfl (fun b1 => ?_)
 refine ag (i6 0)<|Jd<|Jc<|Jc<|Ja<|lf Tryz.runUnderlying34 rfl kch rfl<|ll 0 v0_1 kbl<|lv (Z2 kcu rfl f0_1)<|lv (Yf rfl rfl)<|Jd<|?_
 revert H
 refine ci (decide (20 < (a0.kap.l : Int))) rfl (fun hb H15=>?_) fun hb H16=>?_
 ·refine Jc<|Ja<|ag (i6 4)<|Jd<|Jm<|?_
  obtain rfl := sj H15
  exact r1 (i6 4)
 ·refine Jj ?_
  refine Qg (r := r) (σ := Unit) (τ := Unit) (fun s => Jdg a0) (fun s t => [(1, pz b1)]) (fun s t => [Jf b1 [.bool a0.Big, v0_1] 34]) (fun s t => True) ?_ ?_
  ·refine Jc<|Ja<|lf Tryz.runUnderlying34 rfl kch rfl<|ll 0 v0_1 kbl<|lv (Z2 kcu rfl f0_1)<|mv (i6 0)<|Jd<|Jx<|?_
   refine Za (σ := Int) (τ := Unit) (fun next2 s => Vy a0 next2 s) (fun s t => [(1, pz b1), (11, v0_1), (12, i6 (a0.kap.l : Int)), (13, i6 s)]) (fun s t => [Jf b1 [.bool a0.Big, v0_1] 34]) (fun s t => True) 0 () [0] H16 (by exact trivial) (by exact ⟨rfl, rfl, rfl, rfl, trivial⟩) (by decide) rfl ?_
   rintro x13_2 _ m2 gg H21 _
   clear H16
   try dsimp only at H21
   generalize hn2 : it (fun next2 s => Vy a0 next2 s) m2 = next2 at H21
   try dsimp only
   refine Jc<|Ja<|lv (X3 rfl rfl)<|Jd<|Jc<|?_
   revert H21
   refine ci (decide (x13_2 < (a0.kap.l : Int))) rfl (fun hb H22=>?_) fun hb H28=>?_
   ·refine Jj<|Jc<|Jx<|Jc<|Ja<|?_
    obtain ⟨t15, h_t15, H23⟩ := Je H22; clear H22
    refine lv (Xc kcu kcd rfl rfl f0_1.frs (f0_1.ix h_t15))<|Xs (fun w hF hS => Qw (f := (elC h v0_1 1)) (i := x13_2) (sz := 1) (j := 0) (v := (Xd h v0_1 1 (Int.toNat x13_2) 0)) kbh rfl rfl (f0_1.frs.row (hw.now hF)) (f0_1.ix h_t15) (Jea (Jan (f0_1.at h_t15)) rfl)) rfl rfl rfl<|ag ((Xd h v0_1 1 (Int.toNat x13_2) 0))<|Jd<|Jc<|Ja<|mv ((Xd h v0_1 1 (Int.toNat x13_2) 0))<|?_
    obtain ⟨t18, h_t18, H24⟩ := Je H23; clear H23
    refine Qb (fun w hF hS => k54 (Jq w) ((show FrN h 6 (Xd h v0_1 1 (Int.toNat x13_2) 0) g_tag_Entry t15 from (f0_1.at h_t15)).mono (hw.now hF)) h_t18) call54 rfl rfl rfl<|ag (i6 t18)<|Jd<|Jc<|Ja<|mv (i6 t18)<|lv (Yv rfl rfl)<|Jd<|?_
    revert H24
    refine ci (decide (t18 ≠ 0)) rfl (fun hb H25=>?_) fun hb H26=>?_
    ·refine Jc<|Ja<|mv (i6 t18)<|ag (i6 t18)<|Jd<|Jm<|?_
     obtain rfl := sj H25
     exact r1 (i6 t18)
    ·refine Jj<|Ja<|?_
     obtain ⟨t22, h_t22, H27⟩ := Je H26; clear H26
     refine lv (Jy rfl rfl h_t22)<|mv (i6 t22)<|Jd<|?_
     exact cl t22 () m2 [0] (by exact ⟨(by subst hn2; exact H27), trivial⟩)
   ·refine Xj ?_
    exact cl () () 0 [0] (by exact ⟨H28, trivial⟩)
  ·rintro _ _ gg H17 _
   try dsimp only at H17
   try dsimp only
   refine Jc<|Jc<|Ja<|Xb (i := 0) (vs := [.bool a0.Big, v0_1]) kbm kci rfl rfl rfl rfl rfl<|?_
   obtain ⟨t24, h_t24, H18⟩ := Je H17; clear H17
   refine Qb (fun w hF hS => k87 (Jq w) (f0_1.mono (hw.now hF)) h_t24) call87 rfl rfl rfl<|lv (Yx kcx rfl)<|lv (Yf rfl rfl)<|Jd<|?_
   revert H18
   refine ci (decide (65000 < (t24.l : Int))) rfl (fun hb H19=>?_) fun hb H20=>?_
   ·refine Jc<|Ja<|ag (i6 4)<|Jd<|Jm<|?_
    obtain rfl := sj H19
    exact r1 (i6 4)
   ·refine Jj<|Jc<|Ja<|ag (i6 0)<|Jd<|Jm<|?_
    obtain rfl := sj H20
    exact r1 (i6 0)
end Go.Proofs.YthljoadplekgnaaGreatDoor
