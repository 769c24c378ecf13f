/- FaceTexts, checks: the walks, printed by our generator; each follows its model. Conditions: the model yields a value. -/
import Derived.Test.YtlkaenijicgfcaaGreatDoorMd
import Derived.Test.YtlkaenijicgfcaaGreatDoorProg
import Derived.Test.YtlkaenijicgfcaaGreatDoorLx2
namespace Go.Proofs.YtlkaenijicgfcaaGreatDoor
open Go Go.Vc Go.Md Go.M Go.Lx Tryz
set_option maxRecDepth 100000
set_option maxHeartbeats 4000000
set_option linter.unusedVariables false
theorem mixed : prog.follows .mixedOrders = true := by kernel_rfl
abbrev Jg (x : Ta) : List Value := [i6 x.Id, i6 x.Photo, i6 (x.Vec 0), i6 (x.Vec 1), i6 (x.Vec 2), i6 (x.Vec 3), i6 (x.Vec 4), i6 (x.Vec 5), i6 (x.Vec 6), i6 (x.Vec 7), i6 (x.Vec 8), i6 (x.Vec 9), i6 (x.Vec 10), i6 (x.Vec 11)]
def Wy (m : (Ta → Option (Bool))) (w : World) (args : List Value) (post : Value → World → Prop) : Prop :=
  ∃ (a0 : Ta) (r : Bool), args = [.agg #[i6 a0.Id, i6 a0.Photo, i6 (a0.Vec 0), i6 (a0.Vec 1), i6 (a0.Vec 2), i6 (a0.Vec 3), i6 (a0.Vec 4), i6 (a0.Vec 5), i6 (a0.Vec 6), i6 (a0.Vec 7), i6 (a0.Vec 8), i6 (a0.Vec 9), i6 (a0.Vec 10), i6 (a0.Vec 11)]] ∧ m a0 = some r ∧ post = fun v' w' => v' = (.bool r) ∧ Grow w w'
abbrev Jn (x : Int) : List Value := [i6 x]
def Jau (m : (Int → Option (Bool))) (w : World) (args : List Value) (post : Value → World → Prop) : Prop :=
  ∃ (a0 : Int) (r : Bool), args = [i6 a0] ∧ m a0 = some r ∧ post = fun v' w' => v' = (.bool r) ∧ Grow w w'
abbrev e_u8 (x : Int) : List Value := [.int .u8 x]
def Up (m : (Int → Option (Bool))) (w : World) (args : List Value) (post : Value → World → Prop) : Prop :=
  ∃ (a0 : Int) (r : Bool), args = [.int .u8 a0] ∧ m a0 = some r ∧ post = fun v' w' => v' = (.bool r) ∧ Grow w w'
def Yo (m : (Ta → Int → Option (Int))) (w : World) (args : List Value) (post : Value → World → Prop) : Prop :=
  ∃ (a0 : Ta) (a1 : Int) (r : Int), args = [.agg #[i6 a0.Id, i6 a0.Photo, i6 (a0.Vec 0), i6 (a0.Vec 1), i6 (a0.Vec 2), i6 (a0.Vec 3), i6 (a0.Vec 4), i6 (a0.Vec 5), i6 (a0.Vec 6), i6 (a0.Vec 7), i6 (a0.Vec 8), i6 (a0.Vec 9), i6 (a0.Vec 10), i6 (a0.Vec 11)], i6 a1] ∧ m a0 a1 = some r ∧ post = fun v' w' => v' = (i6 r) ∧ Grow w w'
abbrev Jv (x : (List UInt8)) : List Value := [Jk x]
def Y0 (m : (Tb → Tb → Option (Bool))) (w : World) (args : List Value) (post : Value → World → Prop) : Prop :=
  ∃ (a0 : Tb) (v0_2 : Value) (v0_3 : Value) (a1 : Tb) (v1_2 : Value) (v1_3 : Value) (r : Bool), FrS (fun b => w.heap[b]?) 1 v0_2 (a0.Likes.map Jn) ∧ FrS (fun b => w.heap[b]?) 1 v0_3 (a0.Nots.map Jn) ∧ FrS (fun b => w.heap[b]?) 1 v1_2 (a1.Likes.map Jn) ∧ FrS (fun b => w.heap[b]?) 1 v1_3 (a1.Nots.map Jn) ∧ args = [.agg #[i6 a0.Id, Jk a0.Name, v0_2, v0_3], .agg #[i6 a1.Id, Jk a1.Name, v1_2, v1_3]] ∧ m a0 a1 = some r ∧ post = fun v' w' => v' = (.bool r) ∧ Grow w w'
def gs_int (h : Jt) (c : Nat → Value) (x : (List Int)) : Prop := FrS h 1 (c 0) (x.map Jn)
instance : Mon gs_int := ⟨fun k _ _ f => FrS.mono f k⟩
theorem Jf9 {h : Jt} {c : Nat → Value} {x : (List Int)} (_ : gs_int h c x) : (List.range 1).map c = [c 0] := rfl
def g_face_Person (h : Jt) (c : Nat → Value) (x : Tb) : Prop := c 0 = i6 x.Id ∧ c 1 = Jk x.Name ∧ gs_int h (fun j => c (2 + j)) x.Likes ∧ gs_int h (fun j => c (3 + j)) x.Nots
instance : Mon g_face_Person := ⟨fun k _ _ f => by obtain ⟨h0, h1, h2, h3⟩ := f; exact ⟨h0, h1, Mon.mono k _ _ h2, Mon.mono k _ _ h3⟩⟩
theorem Yw {h : Jt} {c : Nat → Value} {x : Tb} (f : g_face_Person h c x) : (List.range 4).map c = [i6 x.Id, Jk x.Name, c 2, c 3] := by
  obtain ⟨h0, h1, h2, h3⟩ := f
  show [c 0, c 1, c 2, c 3] = _
  simp only [h0, h1]
theorem Jo {h : Jt} {c : Nat → Value} {x : Tb} (f : g_face_Person h c x) : gs_int h (fun j => c (2 + j)) x.Likes := by
  obtain ⟨h0, h1, h2, h3⟩ := f; exact h2
theorem J0 {h : Jt} {c : Nat → Value} {x : Tb} (f : g_face_Person h c x) : gs_int h (fun j => c (3 + j)) x.Nots := by
  obtain ⟨h0, h1, h2, h3⟩ := f; exact h3
theorem run_eqT36 (d : Nat) (w : World) (a0 b0 : Int) (a1 b1 : Int) (a2 b2 : Int) (a3 b3 : Int) (a4 b4 : Int) (a5 b5 : Int) (a6 b6 : Int) (a7 b7 : Int) (a8 b8 : Int) (a9 b9 : Int) (a10 b10 : Int) (a11 b11 : Int) : (Op.equalIn (d + 2) 36 (.agg #[i6 a0, i6 a1, i6 a2, i6 a3, i6 a4, i6 a5, i6 a6, i6 a7, i6 a8, i6 a9, i6 a10, i6 a11]) (.agg #[i6 b0, i6 b1, i6 b2, i6 b3, i6 b4, i6 b5, i6 b6, i6 b7, i6 b8, i6 b9, i6 b10, i6 b11])).run prog w = .ok (decide (a0 = b0 ∧ a1 = b1 ∧ a2 = b2 ∧ a3 = b3 ∧ a4 = b4 ∧ a5 = b5 ∧ a6 = b6 ∧ a7 = b7 ∧ a8 = b8 ∧ a9 = b9 ∧ a10 = b10 ∧ a11 = b11)) w := by
  refine (run_eqInts (P := prog) (d := d) (t := 36) (len := 12) (k := .i64) (k' := .i64) [a0, a1, a2, a3, a4, a5, a6, a7, a8, a9, a10, a11] [b0, b1, b2, b3, b4, b5, b6, b7, b8, b9, b10, b11] rfl rfl underlying36 underlying3 isAgg3 sizeOf3 w).trans ?_
  congr 1
  simp
theorem run_eqT38 (d : Nat) (w : World) (a0 b0 : Int) (a1 b1 : Int) (a2 b2 : Int) (a3 b3 : Int) (a4 b4 : Int) (a5 b5 : Int) (a6 b6 : Int) (a7 b7 : Int) (a8 b8 : Int) (a9 b9 : Int) (a10 b10 : Int) (a11 b11 : Int) (a12 b12 : Int) (a13 b13 : Int) : (Op.equalIn (d + 3) 38 (.agg #[i6 a0, i6 a1, i6 a2, i6 a3, i6 a4, i6 a5, i6 a6, i6 a7, i6 a8, i6 a9, i6 a10, i6 a11, i6 a12, i6 a13]) (.agg #[i6 b0, i6 b1, i6 b2, i6 b3, i6 b4, i6 b5, i6 b6, i6 b7, i6 b8, i6 b9, i6 b10, i6 b11, i6 b12, i6 b13])).run prog w = .ok (decide (a0 = b0 ∧ a1 = b1 ∧ (a2 = b2 ∧ a3 = b3 ∧ a4 = b4 ∧ a5 = b5 ∧ a6 = b6 ∧ a7 = b7 ∧ a8 = b8 ∧ a9 = b9 ∧ a10 = b10 ∧ a11 = b11 ∧ a12 = b12 ∧ a13 = b13))) w := by
  rw [run_equalIn_struct w (d + 2) 38 _ _ (by simp only [Program.fieldsOf, underlying38]) stoodInHeld38]
  simp only [Program.fieldsOf, underlying38, Op.eqFields]
  simp [part, run_equalIn_int, Jfk, run_equalIn_bool', underlying3, isAgg36, sizeOf36, run_eqT36 _ w]
  repeat' split
  all_goals simp_all
theorem Jd1 (w : World) (x y : Ta) : (Op.equalIn Op.maxDepth 38 (.agg #[i6 x.Id, i6 x.Photo, i6 (x.Vec 0), i6 (x.Vec 1), i6 (x.Vec 2), i6 (x.Vec 3), i6 (x.Vec 4), i6 (x.Vec 5), i6 (x.Vec 6), i6 (x.Vec 7), i6 (x.Vec 8), i6 (x.Vec 9), i6 (x.Vec 10), i6 (x.Vec 11)]) (.agg #[i6 y.Id, i6 y.Photo, i6 (y.Vec 0), i6 (y.Vec 1), i6 (y.Vec 2), i6 (y.Vec 3), i6 (y.Vec 4), i6 (y.Vec 5), i6 (y.Vec 6), i6 (y.Vec 7), i6 (y.Vec 8), i6 (y.Vec 9), i6 (y.Vec 10), i6 (y.Vec 11)])).run prog w = .ok (Vx x y) w :=
  run_eqT38 9997 w _ _ _ _ _ _ _ _ _ _ _ _ _ _ _ _ _ _ _ _ _ _ _ _ _ _ _ _
theorem k25 {a0 : Int} {r : Bool} (H : Jfr a0 = some r) : Ret prog 25 [i6 a0] (.bool r) := by
 refine J7 (n := 9) func25 rfl rfl rfl (fun wd => ?_)
 refine Jb<|Ja<|ag (.bool false)<|Jc<|Jb<|Ja<|mv (i6 a0)<|lv (Jcg rfl rfl)<|mv (.bool (decide (1 ≤ a0)))<|?_
 revert H
 refine sp (fun hb H3=>?_) fun hb H4=>?_
 ·refine mv (i6 a0)<|lv (Jek rfl rfl)<|pT (.bool (decide (a0 ≤ 1000000)))<|ag (.bool (decide (a0 ≤ 1000000)))<|Jc<|Ji<|?_
  obtain rfl := sj H3
  exact r1 (.bool (decide (a0 ≤ 1000000)))
 ·refine pa<|pa<|pF (.bool false)<|ag (.bool false)<|Jc<|Ji<|?_
  obtain rfl := sj H4
  exact r1 (.bool false)
theorem k27 {a0 : (List UInt8)} {r : Bool} (H : Jcd a0 = some r) : Ret prog 27 [Jk a0] (.bool r) := by
 refine J7 (n := 22) func27 rfl rfl rfl (fun wd => ?_)
 refine Jb<|Ja<|ag (.bool false)<|Jc<|Jb<|Jb<|Ja<|mv (Jk a0)<|lv (Q2 underlying9 rfl)<|lv (Qv rfl rfl)<|mv (.bool (decide ((a0.length : Int) < 1)))<|?_
 revert H
 refine sp (fun hb H12=>?_) fun hb H13=>?_
 ·refine pa<|pa<|pa<|pT (.bool true)<|Jc<|Zv rfl<|Jb<|Ja<|ag (.bool false)<|Jc<|Ji<|?_
  obtain rfl := sj H12
  exact r1 (.bool false)
 ·refine mv (Jk a0)<|lv (Q2 underlying9 rfl)<|lv (Zi rfl rfl)<|pF (.bool (decide (60 < (a0.length : Int))))<|Jc<|?_
  revert H13
  refine ci (decide (60 < (a0.length : Int))) rfl (fun hb H14=>?_) fun hb H15=>?_
  ·refine Jb<|Ja<|ag (.bool false)<|Jc<|Ji<|?_
   obtain rfl := sj H14
   exact r1 (.bool false)
  ·refine Jj<|Jb<|Jb<|Ja<|mv (Jk a0)<|lv (Q2 underlying9 rfl)<|mv (i6 0)<|Jc<|Jl<|?_
   refine Xb (σ := Int) (τ := Unit) (fun next1 s => Ja1 a0 next1 s) (fun s t => [(0, Jk a0), (13, i6 (a0.length : Int)), (14, i6 s)]) (fun s t => []) (fun s t => True) 0 () [] H15 (by exact trivial) (by exact ⟨rfl, rfl, rfl, trivial⟩) (by decide) rfl ?_
   rintro x14_2 _ m1 gg H16 _
   clear H15
   try dsimp only at H16
   generalize hn1 : it (fun next1 s => Ja1 a0 next1 s) m1 = next1 at H16
   try dsimp only
   refine Jb<|Ja<|lv (Qv rfl rfl)<|Jc<|Jb<|?_
   revert H16
   refine ci (decide (x14_2 < (a0.length : Int))) rfl (fun hb H17=>?_) fun hb H22=>?_
   ·refine Jj<|Jb<|Jl<|Jb<|Ja<|mv (i6 x14_2)<|ag (i6 x14_2)<|Jc<|Jb<|Ja<|mv (Jk a0)<|mv (i6 x14_2)<|?_
    obtain ⟨t19, h_t19, H18⟩ := Je H17; clear H17
    refine lv (W1 underlying9 rfl rfl h_t19)<|lv (Qv rfl rfl)<|Jc<|?_
    revert H18
    refine ci (decide (t19 < 32)) rfl (fun hb H19=>?_) fun hb H20=>?_
    ·refine Jb<|Ja<|ag (.bool false)<|Jc<|Ji<|?_
     obtain rfl := sj H19
     exact r1 (.bool false)
    ·refine Jj<|Ja<|?_
     obtain ⟨t21, h_t21, H21⟩ := Je H20; clear H20
     refine lv (Qe rfl rfl h_t21)<|mv (i6 t21)<|Jc<|?_
     exact cl t21 () m1 [] (by exact ⟨(by subst hn1; exact H21), trivial⟩)
   ·refine Qg<|Jb<|Ja<|ag (.bool true)<|Jc<|Ji<|?_
    obtain rfl := sj H22
    exact r1 (.bool true)
theorem k107 {a0 : (List Ta)} {v0 : Value} {a1 : (Ta → Option (Bool))} {v1 : Value} {r : Int} {w : World} {h : Jt} (hw : Know h w Yt) (f0 : FrS h 14 v0 (a0.map Jg)) (f1 : FnH prog h v1 (Wy a1)) (H : Yp a0 a1 = some r) : Does prog 107 (List.toArray [v0, v1]) w (fun v w' => v = (i6 r) ∧ Grow w w') := by
 refine enter (n := 19) func107 rfl rfl rfl Yt [] (Sat.nil _ _)<|Jb<|Ja<|ag (i6 0)<|Jc<|Jb<|Jb<|Ja<|mv v0<|lv (X4 underlying22 rfl f0 rfl)<|mv (i6 0)<|Jc<|Jl<|?_
 refine Xb (σ := Int) (τ := Unit) (fun next1 s => Yb a0 a1 next1 s) (fun s t => [(0, v0), (1, v1), (7, i6 (a0.length : Int)), (8, i6 s)]) (fun s t => []) (fun s t => True) 0 () [] H (by exact trivial) (by exact ⟨rfl, rfl, rfl, rfl, trivial⟩) (by decide) rfl ?_
 rintro x8_2 _ m1 gg H9 _
 clear H
 try dsimp only at H9
 generalize hn1 : it (fun next1 s => Yb a0 a1 next1 s) m1 = next1 at H9
 try dsimp only
 refine Jb<|Ja<|lv (Qv rfl rfl)<|Jc<|Jb<|?_
 revert H9
 refine ci (decide (x8_2 < (a0.length : Int))) rfl (fun hb H10=>?_) fun hb H16=>?_
 ·refine Jj<|Jb<|Jl<|Jb<|Ja<|mv (i6 x8_2)<|ag (i6 x8_2)<|Jc<|Jb<|Ja<|mv v1<|mv v0<|mv (i6 x8_2)<|?_
  obtain ⟨t14, h_t14, H11⟩ := Je H10; clear H10
  refine lv (J4 underlying22 sizeOf38 rfl rfl f0 h_t14)<|Jy (fun w hF hS => X2 (f := Jg) (i := x8_2) (sz := 14) (j := 0) (vs := [i6 t14.Id, i6 t14.Photo, i6 (t14.Vec 0), i6 (t14.Vec 1), i6 (t14.Vec 2), i6 (t14.Vec 3), i6 (t14.Vec 4), i6 (t14.Vec 5), i6 (t14.Vec 6), i6 (t14.Vec 7), i6 (t14.Vec 8), i6 (t14.Vec 9), i6 (t14.Vec 10), i6 (t14.Vec 11)]) isAgg38 sizeOf38 rfl rfl (f0.row (hw.now hF)) h_t14 rfl) rfl rfl rfl<|?_
  obtain ⟨t16, h_t16, H12⟩ := Je H11; clear H11
  refine Jd6 (R := Wy a1) (r := .bool t16) (v := v1) (fun w hF hS => ⟨(f1.mono (hw.now hF)), ⟨t14, _, rfl, h_t16, rfl⟩⟩) rfl rfl rfl rfl<|Jc<|?_
  revert H12
  refine ci t16 rfl (fun hb H13=>?_) fun hb H14=>?_
  ·refine Jb<|Ja<|mv (i6 x8_2)<|ag (i6 x8_2)<|Jc<|Ji<|?_
   obtain rfl := sj H13
   exact r1 (i6 x8_2)
  ·refine Jj<|Ja<|?_
   obtain ⟨t18, h_t18, H15⟩ := Je H14; clear H14
   refine lv (Qe rfl rfl h_t18)<|mv (i6 t18)<|Jc<|?_
   exact cl t18 () m1 [] (by exact ⟨(by subst hn1; exact H15), trivial⟩)
 ·refine Qg<|Jb<|Ja<|ag (i6 (-1))<|Jc<|Ji<|?_
  obtain rfl := sj H16
  exact r1 (i6 (-1))
theorem k108 {q0 : Int} {c0 : Nat} {a0 : Ta} {r : Bool} {w : World} {h : Jt} (hw : Know h w Yt) (hc0 : h c0 = some (.cells (List.toArray [i6 q0]) 3 (0, 0))) (H : Jeu q0 a0 = some r) : Does prog 108 (List.toArray [.agg #[i6 a0.Id, i6 a0.Photo, i6 (a0.Vec 0), i6 (a0.Vec 1), i6 (a0.Vec 2), i6 (a0.Vec 3), i6 (a0.Vec 4), i6 (a0.Vec 5), i6 (a0.Vec 6), i6 (a0.Vec 7), i6 (a0.Vec 8), i6 (a0.Vec 9), i6 (a0.Vec 10), i6 (a0.Vec 11)], .pointer (some ⟨c0, 0, none⟩)]) w (fun v w' => v = (.bool r) ∧ Grow w w') := by
 refine enter (n := 8) func108 rfl rfl rfl Yt [] (Sat.nil _ _)<|Jb<|Ja<|?_
 refine Je8 (cs := [i6 a0.Id, i6 a0.Photo, i6 (a0.Vec 0), i6 (a0.Vec 1), i6 (a0.Vec 2), i6 (a0.Vec 3), i6 (a0.Vec 4), i6 (a0.Vec 5), i6 (a0.Vec 6), i6 (a0.Vec 7), i6 (a0.Vec 8), i6 (a0.Vec 9), i6 (a0.Vec 10), i6 (a0.Vec 11)]) rfl rfl rfl rfl (fun b1 => ?_)
 refine ag (.bool false)<|Jc<|Jb<|Ja<|lf runUnderlying38 rfl sizeOf3 rfl<|ll 0 (i6 a0.Id) isAgg3<|Jy (fun w hF hS => Jer (v := i6 q0) isAgg3 rfl (hw.now hF _ _ hc0) rfl) rfl rfl rfl<|lv (Y4 rfl rfl)<|ag (.bool (decide (a0.Id = q0)))<|Jc<|Ji<|?_
 obtain rfl := sj H
 exact r1 (.bool (decide (a0.Id = q0)))
theorem k28 {a0 : (List Ta)} {v0 : Value} {a1 : Int} {r : Int} {w : World} {h : Jt} (hw : Know h w Yt) (f0 : FrS h 14 v0 (a0.map Jg)) (H : Jc7 a0 a1 = some r) : Does prog 28 (List.toArray [v0, i6 a1]) w (fun v w' => v = (i6 r) ∧ Grow w w') := by
 refine enter (n := 8) func28 rfl rfl rfl Yt [] (Sat.nil _ _)<|Jb<|Ja<|?_
 refine Je8 (cs := [i6 a1]) rfl rfl rfl rfl (fun b1 => ?_)
 refine ag (i6 0)<|Jc<|Jb<|Ja<|mv v0<|lv (Jfi (caps := #[.pointer (some ⟨b1, 0, none⟩)]) rfl)<|?_
 obtain ⟨t7, h_t7, H2⟩ := Je H; clear H
 refine Qm (fun w hF hS => k107 (Jr w) (f0.mono (hw.now hF)) (FnH.mk ⟨108, #[], #[.pointer (some ⟨b1, 0, none⟩)], rfl, call108, fun args2 post2 w2 hk2 hR2 => by obtain ⟨a0_, r_, rfl, H_, rfl⟩ := hR2; exact k108 (Jr w2) (hk2.up _ _ (Y6 (i := 0) hS rfl)) H_⟩) h_t7) call107 rfl rfl rfl<|ag (i6 t7)<|Jc<|Ji<|?_
 obtain rfl := sj H2
 exact r1 (i6 t7)
theorem k109 {a0 : (List Int)} {v0 : Value} {a1 : Int} {r : Int} {w : World} {h : Jt} (hw : Know h w Yt) (f0 : FrS h 1 v0 (a0.map Jn)) (H : Jbg a0 a1 = some r) : Does prog 109 (List.toArray [v0, i6 a1]) w (fun v w' => v = (i6 r) ∧ Grow w w') := by
 refine enter (n := 19) func109 rfl rfl rfl Yt [] (Sat.nil _ _)<|Jb<|Ja<|ag (i6 0)<|Jc<|Jb<|Jb<|Ja<|mv v0<|lv (X4 underlying75 rfl f0 rfl)<|mv (i6 0)<|Jc<|Jl<|?_
 refine Xb (σ := Int) (τ := Unit) (fun next1 s => Uq a0 a1 next1 s) (fun s t => [(0, v0), (1, i6 a1), (7, i6 (a0.length : Int)), (8, i6 s)]) (fun s t => []) (fun s t => True) 0 () [] H (by exact trivial) (by exact ⟨rfl, rfl, rfl, rfl, trivial⟩) (by decide) rfl ?_
 rintro x8_2 _ m1 gg H8 _
 clear H
 try dsimp only at H8
 generalize hn1 : it (fun next1 s => Uq a0 a1 next1 s) m1 = next1 at H8
 try dsimp only
 refine Jb<|Ja<|lv (Qv rfl rfl)<|Jc<|Jb<|?_
 revert H8
 refine ci (decide (x8_2 < (a0.length : Int))) rfl (fun hb H9=>?_) fun hb H14=>?_
 ·refine Jj<|Jb<|Jl<|Jb<|Ja<|mv (i6 x8_2)<|ag (i6 x8_2)<|Jc<|Jb<|Ja<|mv (i6 a1)<|mv v0<|mv (i6 x8_2)<|?_
  obtain ⟨t14, h_t14, H10⟩ := Je H9; clear H9
  refine lv (J4 underlying75 sizeOf3 rfl rfl f0 h_t14)<|Jy (fun w hF hS => Ju (f := Jn) (i := x8_2) (sz := 1) (j := 0) (v := i6 t14) isAgg3 rfl rfl (f0.row (hw.now hF)) h_t14 rfl) rfl rfl rfl<|lv (Y4 rfl rfl)<|Jc<|?_
  revert H10
  refine ci (decide (a1 = t14)) rfl (fun hb H11=>?_) fun hb H12=>?_
  ·refine Jb<|Ja<|mv (i6 x8_2)<|ag (i6 x8_2)<|Jc<|Ji<|?_
   obtain rfl := sj H11
   exact r1 (i6 x8_2)
  ·refine Jj<|Ja<|?_
   obtain ⟨t18, h_t18, H13⟩ := Je H12; clear H12
   refine lv (Qe rfl rfl h_t18)<|mv (i6 t18)<|Jc<|?_
   exact cl t18 () m1 [] (by exact ⟨(by subst hn1; exact H13), trivial⟩)
 ·refine Qg<|Jb<|Ja<|ag (i6 (-1))<|Jc<|Ji<|?_
  obtain rfl := sj H14
  exact r1 (i6 (-1))
theorem k29 {a0 : (List Int)} {v0 : Value} {a1 : Int} {r : Bool} {w : World} {h : Jt} (hw : Know h w Yt) (f0 : FrS h 1 v0 (a0.map Jn)) (H : Vm a0 a1 = some r) : Does prog 29 (List.toArray [v0, i6 a1]) w (fun v w' => v = (.bool r) ∧ Grow w w') := by
 refine enter (n := 9) func29 rfl rfl rfl Yt [] (Sat.nil _ _)<|Jb<|Ja<|ag (.bool false)<|Jc<|Jb<|Ja<|mv v0<|mv (i6 a1)<|?_
 obtain ⟨t7, h_t7, H2⟩ := Je H; clear H
 refine Qm (fun w hF hS => k109 (Jr w) (f0.mono (hw.now hF)) h_t7) call109 rfl rfl rfl<|lv (Jcg rfl rfl)<|ag (.bool (decide (0 ≤ t7)))<|Jc<|Ji<|?_
 obtain rfl := sj H2
 exact r1 (.bool (decide (0 ≤ t7)))
theorem k7 {a0 : (List Ta)} {v0 : Value} {a1 : (List Tb)} {v1 : Value} {r : Int} {w : World} {h : Jt} (hw : Know h w Yt) (f0 : FrS h 14 v0 (a0.map Jg)) (f1 : FrN h 4 v1 g_face_Person a1) (H : Wo a0 a1 = some r) : Does prog 7 (List.toArray [v0, v1]) w (fun v w' => v = (i6 r) ∧ Grow w w') := by
 refine enter (n := 128) func7 rfl rfl rfl Yt [] (Sat.nil _ _)<|Jb<|Ja<|ag (i6 0)<|Jc<|Jb<|Jb<|Ja<|mv v1<|lv (Jas underlying23 rfl f1)<|lv (Zi rfl rfl)<|Jc<|?_
 revert H
 refine ci (decide (100 < (a1.length : Int))) rfl (fun hb H67=>?_) fun hb H68=>?_
 ·refine Jb<|Ja<|ag (i6 4)<|Jc<|Ji<|?_
  obtain rfl := sj H67
  exact r1 (i6 4)
 ·refine Jj<|Jb<|Ja<|?_
  refine Zr (rds := []) (Jfy (fk := (fun x_ : Int => i6 x_)) (fv := (fun x_ : Bool => .bool x_))) rfl rfl rfl (fun b4 => ?_)
  refine ag (.map (some b4))<|Jc<|Jb<|Jb<|Ja<|mv v1<|lv (Jas underlying23 rfl f1)<|mv (i6 0)<|Jc<|Jl<|?_
  refine Xb (σ := Int × (List (Int × Bool))) (τ := Unit) (fun next1 s => Qy a0 a1 next1 s.1 s.2) (fun s t => [(0, v0), (1, v1), (5, .map (some b4)), (22, v1), (23, i6 (a1.length : Int)), (24, i6 s.1)]) (fun s t => [Jb8 (fun x_ : Int => i6 x_) (fun x_ : Bool => .bool x_) b4 s.2]) (fun s t => True) (0, ([] : (List (Int × Bool)))) () [0] H68 (by exact trivial) (by exact ⟨rfl, rfl, rfl, rfl, rfl, rfl, trivial⟩) (by decide) rfl ?_
  rintro ⟨x24_2, mp_2⟩ _ m1 gg H69 _
  clear H68
  try dsimp only at H69
  generalize hn1 : it (fun next1 s => Qy a0 a1 next1 s.1 s.2) m1 = next1 at H69
  try dsimp only
  refine Jb<|Ja<|lv (Qv rfl rfl)<|Jc<|Jb<|?_
  revert H69
  refine ci (decide (x24_2 < (a1.length : Int))) rfl (fun hb H70=>?_) fun hb H132=>?_
  ·refine Jj ?_
   refine Qi (r := r) (σ := (List (Int × Bool))) (τ := Unit) (fun s => V5 x24_2 next1 s) (fun s t => [(0, v0), (1, v1), (5, .map (some b4)), (22, v1), (23, i6 (a1.length : Int)), (24, i6 x24_2)]) (fun s t => [Jb8 (fun x_ : Int => i6 x_) (fun x_ : Bool => .bool x_) b4 s]) (fun s t => True) ?_ ?_
   ·refine Jl<|Jb<|Ja<|mv (i6 x24_2)<|?_
    obtain ⟨t27, h_t27, H73⟩ := Je H70; clear H70
    refine lv (J4 underlying23 sizeOf77 rfl rfl f1.frs (f1.ix h_t27))<|Jy (fun w hF hS => X2 (f := (elC h v1 4)) (i := x24_2) (sz := 4) (j := 0) (vs := [i6 t27.Id, Jk t27.Name, (Qt h v1 4 (Int.toNat x24_2) 2), (Qt h v1 4 (Int.toNat x24_2) 3)]) isAgg77 sizeOf77 rfl rfl (f1.frs.row (hw.now hF)) (f1.ix h_t27) (rd_of (Yw (f1.at h_t27)) rfl)) rfl rfl rfl<|?_
    refine Z6 (cs := [i6 0, Jk [], .slice none 0 0, .slice none 0 0]) zeroValue77 rfl rfl rfl (fun b5 => ?_)
    refine ag (i6 x24_2)<|U5 (i := 1) (vs := [i6 t27.Id, Jk t27.Name, (Qt h v1 4 (Int.toNat x24_2) 2), (Qt h v1 4 (Int.toNat x24_2) 3)]) (cs' := [i6 t27.Id, Jk t27.Name, (Qt h v1 4 (Int.toNat x24_2) 2), (Qt h v1 4 (Int.toNat x24_2) 3)]) sizeOf77 rfl rfl rfl rfl rfl rfl (by simp only [List.all_cons, List.all_nil, (show FrS h 1 (Qt h v1 4 (Int.toNat x24_2) 2) (t27.Likes.map Jn) from (Jo (f1.at h_t27))).one, (show FrS h 1 (Qt h v1 4 (Int.toNat x24_2) 3) (t27.Nots.map Jn) from (J0 (f1.at h_t27))).one] <;> rfl) rfl rfl<|Jc<|?_
    refine Qi (r := r) (σ := Unit) (τ := Unit) (fun s => Zl a0 x24_2 mp_2 next1 t27) (fun s t => [(0, v0), (1, v1), (5, .map (some b4)), (7, .pointer (some ⟨b5, 0, none⟩)), (22, v1), (23, i6 (a1.length : Int)), (24, i6 x24_2)]) (fun s t => [Jb8 (fun x_ : Int => i6 x_) (fun x_ : Bool => .bool x_) b4 mp_2, Jp b5 [i6 t27.Id, Jk t27.Name, (Qt h v1 4 (Int.toNat x24_2) 2), (Qt h v1 4 (Int.toNat x24_2) 3)] 77]) (fun s t => True) ?_ ?_
    ·refine Jl<|Jb<|Ja<|lf runUnderlying77 rfl sizeOf3 rfl<|ll 1 (i6 t27.Id) isAgg3<|?_
     obtain ⟨t32, h_t32, H117⟩ := Je H73; clear H73
     refine Qc (k25 h_t32) call25 rfl rfl rfl<|lv (V8 rfl)<|ag (.bool (!t32))<|Jc<|?_
     revert H117
     refine ci (!t32) rfl (fun hb H118=>?_) fun hb H119=>?_
     ·refine Jb<|Ja<|ag (i6 2)<|Jc<|Ji<|?_
      obtain rfl := sj H118
      exact r1 (i6 2)
     ·refine Jb ?_
      exact Xp (Kd.p :: Kd.p :: Kd.p :: Kd.p :: Kd.d [1] _ :: Kd.p :: Kd.p :: Kd.p :: Kd.p :: Kd.p :: Kd.d [] _ :: Kd.p :: Kd.p :: Kd.p :: []) 0 mixed (by
       refine dm (i6 x24_2)<|dv (Zi rfl rfl)<|dm (.bool (decide (0 < x24_2)))<|?_
       refine Jfu (fun hb => ?_) (fun hb => ?_)
       ·have H120 := Jen hb H119
        refine dv (Ya runUnderlying77 rfl sizeOf3 rfl rfl)<|dl (i6 t27.Id) isAgg3<|dm v1<|dm (i6 x24_2)<|?_
        have h_t42 := Qh H120
        have H121 := J3 H120
        refine dv (Ym rfl rfl h_t42) ?_
        have h_t43 := Qh H121
        have H122 := J3 H121
        refine dv (J4 underlying23 sizeOf77 rfl rfl f1.frs (f1.ix h_t43))<|dv (Us runUnderlying77 rfl sizeOf3 rfl rfl (Ja7 f1.frs (f1.ix h_t43)))<|Jdy (fun w hF => Ju (f := (elC h v1 4)) (i := (val (gI (x24_2 - 1)))) (sz := 4) (j := 0) (v := i6 (val (Qk a1 (val (gI (x24_2 - 1))))).Id) isAgg3 rfl rfl (f1.frs.row (hw.now hF)) (f1.ix h_t43) (rg_of (Yw (f1.at h_t43)) rfl)) rfl rfl<|dv (Jek rfl rfl)<|dv (Jdo (v := .bool (decide (t27.Id ≤ (val (Qk a1 (val (gI (x24_2 - 1))))).Id))) rfl rfl)<|W6 rfl rfl (Xs (v := .bool (decide (t27.Id ≤ (val (Qk a1 (val (gI (x24_2 - 1))))).Id))) rfl)<|Wk<|?_
        revert H122
        refine ci (decide (t27.Id ≤ (val (Qk a1 (val (gI (x24_2 - 1))))).Id)) rfl (fun hb H123=>?_) fun hb H124=>?_
        ·refine Jb<|Ja<|ag (i6 5)<|Jc<|Ji<|?_
         obtain rfl := sj H123
         exact r1 (i6 5)
        ·refine Jb<|Ja<|lf runUnderlying77 rfl sizeOf9 rfl<|ll 1 (Jk t27.Name) isAgg9<|?_
         obtain ⟨t51, h_t51, H125⟩ := Je H124; clear H124
         refine Qc (k27 h_t51) call27 rfl rfl rfl<|lv (V8 rfl)<|ag (.bool (!t51))<|Jc<|?_
         revert H125
         refine ci (!t51) rfl (fun hb H126=>?_) fun hb H127=>?_
         ·refine Jb<|Ja<|ag (i6 3)<|Jc<|Ji<|?_
          obtain rfl := sj H126
          exact r1 (i6 3)
         ·refine Jj ?_
          exact cl () () 0 [0, 1] (by exact ⟨H127, trivial⟩)
       ·have H128 := Jei hb H119
        refine dp<|dp<|dp<|dp<|dp<|dp<|dp<|dp<|dp<|dv (Jcv (v := .bool false) rfl rfl)<|W6 rfl rfl (Xs (v := .bool false) rfl)<|Wk<|Zf rfl<|Jb<|Ja<|lf runUnderlying77 rfl sizeOf9 rfl<|ll 1 (Jk t27.Name) isAgg9<|?_
        obtain ⟨t51_2, h_t51_2, H129⟩ := Je H128; clear H128
        refine Qc (k27 h_t51_2) call27 rfl rfl rfl<|lv (V8 rfl)<|ag (.bool (!t51_2))<|Jc<|?_
        revert H129
        refine ci (!t51_2) rfl (fun hb H130=>?_) fun hb H131=>?_
        ·refine Jb<|Ja<|ag (i6 3)<|Jc<|Ji<|?_
         obtain rfl := sj H130
         exact r1 (i6 3)
        ·refine Jj ?_
         exact cl () () 0 [0, 1] (by exact ⟨H131, trivial⟩)
       ) (by kernel_rfl)
    ·rintro _ _ gg H74 _
     try dsimp only at H74
     try dsimp only
     refine Qi (r := r) (σ := Unit) (τ := Unit) (fun s => Ja5 a0 x24_2 mp_2 next1 t27) (fun s t => [(0, v0), (1, v1), (5, .map (some b4)), (7, .pointer (some ⟨b5, 0, none⟩)), (22, v1), (23, i6 (a1.length : Int)), (24, i6 x24_2)]) (fun s t => [Jb8 (fun x_ : Int => i6 x_) (fun x_ : Bool => .bool x_) b4 mp_2, Jp b5 [i6 t27.Id, Jk t27.Name, (Qt h v1 4 (Int.toNat x24_2) 2), (Qt h v1 4 (Int.toNat x24_2) 3)] 77]) (fun s t => True) ?_ ?_
     ·refine Jb<|Ja<|lf runUnderlying77 rfl sizeOf75 rfl<|ll 1 (Qt h v1 4 (Int.toNat x24_2) 2) isAgg75<|lf runUnderlying77 rfl sizeOf75 rfl<|ll 1 (Qt h v1 4 (Int.toNat x24_2) 3) isAgg75<|?_
      refine Yu (vs := [(Qt h v1 4 (Int.toNat x24_2) 2), (Qt h v1 4 (Int.toNat x24_2) 3)]) (cs := [(Qt h v1 4 (Int.toNat x24_2) 2), (Qt h v1 4 (Int.toNat x24_2) 3)]) underlying78 sizeOf75 zeroValue75 rfl rfl rfl rfl (by simp only [List.all_cons, List.all_nil, Jda (show FrS h 1 (Qt h v1 4 (Int.toNat x24_2) 2) (t27.Likes.map Jn) from (Jo (f1.at h_t27))).cells, Jda (show FrS h 1 (Qt h v1 4 (Int.toNat x24_2) 3) (t27.Nots.map Jn) from (J0 (f1.at h_t27))).cells] <;> rfl) rfl (by simp only [List.flatMap_cons, List.flatMap_nil, (show FrS h 1 (Qt h v1 4 (Int.toNat x24_2) 2) (t27.Likes.map Jn) from (Jo (f1.at h_t27))).cells, (show FrS h 1 (Qt h v1 4 (Int.toNat x24_2) 3) (t27.Nots.map Jn) from (J0 (f1.at h_t27))).cells] <;> rfl) (fun b7 => ?_)
      refine lv (Wx underlying78 rfl)<|mv (i6 0)<|Jc<|Jl<|?_
      refine Xb (σ := Int) (τ := Unit) (fun next8 s => X6 a0 x24_2 mp_2 next1 t27 next8 s) (fun s t => [(0, v0), (1, v1), (5, .map (some b4)), (7, .pointer (some ⟨b5, 0, none⟩)), (22, v1), (23, i6 (a1.length : Int)), (24, i6 x24_2), (57, .slice (some ⟨b7, 0, none⟩) 2 2), (58, i6 2), (59, i6 s)]) (fun s t => [Jb8 (fun x_ : Int => i6 x_) (fun x_ : Bool => .bool x_) b4 mp_2, Jp b5 [i6 t27.Id, Jk t27.Name, (Qt h v1 4 (Int.toNat x24_2) 2), (Qt h v1 4 (Int.toNat x24_2) 3)] 77, Jp b7 [(Qt h v1 4 (Int.toNat x24_2) 2), (Qt h v1 4 (Int.toNat x24_2) 3)] 75]) (fun s t => True) 0 () [0, 1, 2] H74 (by exact trivial) (by exact ⟨rfl, rfl, rfl, rfl, rfl, rfl, rfl, rfl, rfl, rfl, trivial⟩) (by decide) rfl ?_
      rintro x59_2 _ m8 gg H96 _
      clear H74
      try dsimp only at H96
      generalize hn8 : it (fun next8 s => X6 a0 x24_2 mp_2 next1 t27 next8 s) m8 = next8 at H96
      try dsimp only
      refine Jb<|Ja<|lv (Qv rfl rfl)<|Jc<|Jb<|?_
      revert H96
      refine ci (decide (x59_2 < 2)) rfl (fun hb H97=>?_) fun hb H116=>?_
      ·refine Jj ?_
       refine Qi (r := r) (σ := Unit) (τ := Unit) (fun s => Vw x59_2 next8) (fun s t => [(0, v0), (1, v1), (5, .map (some b4)), (7, .pointer (some ⟨b5, 0, none⟩)), (22, v1), (23, i6 (a1.length : Int)), (24, i6 x24_2), (57, .slice (some ⟨b7, 0, none⟩) 2 2), (58, i6 2), (59, i6 x59_2)]) (fun s t => [Jb8 (fun x_ : Int => i6 x_) (fun x_ : Bool => .bool x_) b4 mp_2, Jp b5 [i6 t27.Id, Jk t27.Name, (Qt h v1 4 (Int.toNat x24_2) 2), (Qt h v1 4 (Int.toNat x24_2) 3)] 77, Jp b7 [(Qt h v1 4 (Int.toNat x24_2) 2), (Qt h v1 4 (Int.toNat x24_2) 3)] 75]) (fun s t => True) ?_ ?_
       ·refine Jl<|Jb<|Ja<|?_
        obtain ⟨t61, h_t61, H100⟩ := Je H97; clear H97
        refine lv (Je2 underlying78 sizeOf75 rfl rfl h_t61 rfl)<|Jy (fun w hF hS => Ju (f := (litC [(Qt h v1 4 (Int.toNat x24_2) 2), (Qt h v1 4 (Int.toNat x24_2) 3)] 1)) (i := x59_2) (sz := 1) (j := 0) (v := (List.getD (List.take 1 (List.drop ((Int.toNat x59_2) * 1) [(Qt h v1 4 (Int.toNat x24_2) 2), (Qt h v1 4 (Int.toNat x24_2) 3)])) 0 undef)) isAgg75 rfl rfl (Jbi (sz := 1) (xs := (List.range 2).map (litC [(Qt h v1 4 (Int.toNat x24_2) 2), (Qt h v1 4 (Int.toNat x24_2) 3)] 1)) (i := 2) hS rfl rfl rfl) (gAt_range h_t61) (rg_of (Jf9 (AllG.el (G := gs_int) (h := h) (sz := 1) (cs := [(Qt h v1 4 (Int.toNat x24_2) 2), (Qt h v1 4 (Int.toNat x24_2) 3)]) (xs := ([t27.Likes, t27.Nots] : List (List Int))) ⟨(show FrS h 1 (Qt h v1 4 (Int.toNat x24_2) 2) (t27.Likes.map Jn) from (Jo (f1.at h_t27))), (show FrS h 1 (Qt h v1 4 (Int.toNat x24_2) 3) (t27.Nots.map Jn) from (J0 (f1.at h_t27))), rfl⟩ _ _ (Xg h_t61).2.2)) rfl)) rfl rfl rfl<|ag ((List.getD (List.take 1 (List.drop ((Int.toNat x59_2) * 1) [(Qt h v1 4 (Int.toNat x24_2) 2), (Qt h v1 4 (Int.toNat x24_2) 3)])) 0 undef))<|Jc<|Jb<|Ja<|mv ((List.getD (List.take 1 (List.drop ((Int.toNat x59_2) * 1) [(Qt h v1 4 (Int.toNat x24_2) 2), (Qt h v1 4 (Int.toNat x24_2) 3)])) 0 undef))<|lv (X4 underlying75 rfl (show FrS h 1 (List.getD (List.take 1 (List.drop ((Int.toNat x59_2) * 1) [(Qt h v1 4 (Int.toNat x24_2) 2), (Qt h v1 4 (Int.toNat x24_2) 3)])) 0 undef) (t61.map Jn) from (AllG.el (G := gs_int) (h := h) (sz := 1) (cs := [(Qt h v1 4 (Int.toNat x24_2) 2), (Qt h v1 4 (Int.toNat x24_2) 3)]) (xs := ([t27.Likes, t27.Nots] : List (List Int))) ⟨(show FrS h 1 (Qt h v1 4 (Int.toNat x24_2) 2) (t27.Likes.map Jn) from (Jo (f1.at h_t27))), (show FrS h 1 (Qt h v1 4 (Int.toNat x24_2) 3) (t27.Nots.map Jn) from (J0 (f1.at h_t27))), rfl⟩ _ _ (Xg h_t61).2.2)) rfl)<|mv (i6 0)<|Jc<|Jl<|?_
        refine Xb (σ := Int) (τ := Unit) (fun next10 s => Yz a0 x59_2 next8 t61 next10 s) (fun s t => [(0, v0), (1, v1), (5, .map (some b4)), (7, .pointer (some ⟨b5, 0, none⟩)), (9, (List.getD (List.take 1 (List.drop ((Int.toNat x59_2) * 1) [(Qt h v1 4 (Int.toNat x24_2) 2), (Qt h v1 4 (Int.toNat x24_2) 3)])) 0 undef)), (22, v1), (23, i6 (a1.length : Int)), (24, i6 x24_2), (57, .slice (some ⟨b7, 0, none⟩) 2 2), (58, i6 2), (59, i6 x59_2), (63, (List.getD (List.take 1 (List.drop ((Int.toNat x59_2) * 1) [(Qt h v1 4 (Int.toNat x24_2) 2), (Qt h v1 4 (Int.toNat x24_2) 3)])) 0 undef)), (64, i6 (t61.length : Int)), (65, i6 s)]) (fun s t => [Jb8 (fun x_ : Int => i6 x_) (fun x_ : Bool => .bool x_) b4 mp_2, Jp b5 [i6 t27.Id, Jk t27.Name, (Qt h v1 4 (Int.toNat x24_2) 2), (Qt h v1 4 (Int.toNat x24_2) 3)] 77, Jp b7 [(Qt h v1 4 (Int.toNat x24_2) 2), (Qt h v1 4 (Int.toNat x24_2) 3)] 75]) (fun s t => True) 0 () [0, 1, 2] H100 (by exact trivial) (by exact ⟨rfl, rfl, rfl, rfl, rfl, rfl, rfl, rfl, rfl, rfl, rfl, rfl, rfl, rfl, trivial⟩) (by decide) rfl ?_
        rintro x65_2 _ m10 gg H101 _
        clear H100
        try dsimp only at H101
        generalize hn10 : it (fun next10 s => Yz a0 x59_2 next8 t61 next10 s) m10 = next10 at H101
        try dsimp only
        refine Jb<|Ja<|lv (Qv rfl rfl)<|Jc<|Jb<|?_
        revert H101
        refine ci (decide (x65_2 < (t61.length : Int))) rfl (fun hb H102=>?_) fun hb H115=>?_
        ·refine Jj ?_
         refine Qi (r := r) (σ := Unit) (τ := Unit) (fun s => Wv x65_2 next10) (fun s t => [(0, v0), (1, v1), (5, .map (some b4)), (7, .pointer (some ⟨b5, 0, none⟩)), (9, (List.getD (List.take 1 (List.drop ((Int.toNat x59_2) * 1) [(Qt h v1 4 (Int.toNat x24_2) 2), (Qt h v1 4 (Int.toNat x24_2) 3)])) 0 undef)), (22, v1), (23, i6 (a1.length : Int)), (24, i6 x24_2), (57, .slice (some ⟨b7, 0, none⟩) 2 2), (58, i6 2), (59, i6 x59_2), (63, (List.getD (List.take 1 (List.drop ((Int.toNat x59_2) * 1) [(Qt h v1 4 (Int.toNat x24_2) 2), (Qt h v1 4 (Int.toNat x24_2) 3)])) 0 undef)), (64, i6 (t61.length : Int)), (65, i6 x65_2)]) (fun s t => [Jb8 (fun x_ : Int => i6 x_) (fun x_ : Bool => .bool x_) b4 mp_2, Jp b5 [i6 t27.Id, Jk t27.Name, (Qt h v1 4 (Int.toNat x24_2) 2), (Qt h v1 4 (Int.toNat x24_2) 3)] 77, Jp b7 [(Qt h v1 4 (Int.toNat x24_2) 2), (Qt h v1 4 (Int.toNat x24_2) 3)] 75]) (fun s t => True) ?_ ?_
         ·refine Jl<|Jb<|Ja<|mv (i6 x65_2)<|?_
          obtain ⟨t68, h_t68, H105⟩ := Je H102; clear H102
          refine lv (J4 underlying75 sizeOf3 rfl rfl (show FrS h 1 (List.getD (List.take 1 (List.drop ((Int.toNat x59_2) * 1) [(Qt h v1 4 (Int.toNat x24_2) 2), (Qt h v1 4 (Int.toNat x24_2) 3)])) 0 undef) (t61.map Jn) from (AllG.el (G := gs_int) (h := h) (sz := 1) (cs := [(Qt h v1 4 (Int.toNat x24_2) 2), (Qt h v1 4 (Int.toNat x24_2) 3)]) (xs := ([t27.Likes, t27.Nots] : List (List Int))) ⟨(show FrS h 1 (Qt h v1 4 (Int.toNat x24_2) 2) (t27.Likes.map Jn) from (Jo (f1.at h_t27))), (show FrS h 1 (Qt h v1 4 (Int.toNat x24_2) 3) (t27.Nots.map Jn) from (J0 (f1.at h_t27))), rfl⟩ _ _ (Xg h_t61).2.2)) h_t68)<|Jy (fun w hF hS => Ju (f := Jn) (i := x65_2) (sz := 1) (j := 0) (v := i6 t68) isAgg3 rfl rfl ((show FrS h 1 (List.getD (List.take 1 (List.drop ((Int.toNat x59_2) * 1) [(Qt h v1 4 (Int.toNat x24_2) 2), (Qt h v1 4 (Int.toNat x24_2) 3)])) 0 undef) (t61.map Jn) from (AllG.el (G := gs_int) (h := h) (sz := 1) (cs := [(Qt h v1 4 (Int.toNat x24_2) 2), (Qt h v1 4 (Int.toNat x24_2) 3)]) (xs := ([t27.Likes, t27.Nots] : List (List Int))) ⟨(show FrS h 1 (Qt h v1 4 (Int.toNat x24_2) 2) (t27.Likes.map Jn) from (Jo (f1.at h_t27))), (show FrS h 1 (Qt h v1 4 (Int.toNat x24_2) 3) (t27.Nots.map Jn) from (J0 (f1.at h_t27))), rfl⟩ _ _ (Xg h_t61).2.2)).row (hw.now hF)) h_t68 rfl) rfl rfl rfl<|ag (i6 x65_2)<|ag (i6 t68)<|Jc<|Jb<|Jb<|Ja<|mv v0<|mv (i6 t68)<|?_
          obtain ⟨t72, h_t72, H106⟩ := Je H105; clear H105
          refine Qm (fun w hF hS => k28 (Jr w) (f0.mono (hw.now hF)) h_t72) call28 rfl rfl rfl<|lv (Qv rfl rfl)<|Jc<|?_
          revert H106
          refine ci (decide (t72 < 0)) rfl (fun hb H107=>?_) fun hb H108=>?_
          ·refine Jb<|Ja<|ag (i6 7)<|Jc<|Ji<|?_
           obtain rfl := sj H107
           exact r1 (i6 7)
          ·refine Jj<|Jb<|Ja<|mv (i6 x65_2)<|lv (Zi rfl rfl)<|mv (.bool (decide (0 < x65_2)))<|?_
           revert H108
           refine sp (fun hb H109=>?_) fun hb H114=>?_
           ·refine mv (i6 t68)<|mv ((List.getD (List.take 1 (List.drop ((Int.toNat x59_2) * 1) [(Qt h v1 4 (Int.toNat x24_2) 2), (Qt h v1 4 (Int.toNat x24_2) 3)])) 0 undef))<|mv (i6 x65_2)<|?_
            obtain ⟨t80, h_t80, H110⟩ := Je H109; clear H109
            refine lv (Ym rfl rfl h_t80) ?_
            obtain ⟨t81, h_t81, H111⟩ := Je H110; clear H110
            refine lv (J4 underlying75 sizeOf3 rfl rfl (show FrS h 1 (List.getD (List.take 1 (List.drop ((Int.toNat x59_2) * 1) [(Qt h v1 4 (Int.toNat x24_2) 2), (Qt h v1 4 (Int.toNat x24_2) 3)])) 0 undef) (t61.map Jn) from (AllG.el (G := gs_int) (h := h) (sz := 1) (cs := [(Qt h v1 4 (Int.toNat x24_2) 2), (Qt h v1 4 (Int.toNat x24_2) 3)]) (xs := ([t27.Likes, t27.Nots] : List (List Int))) ⟨(show FrS h 1 (Qt h v1 4 (Int.toNat x24_2) 2) (t27.Likes.map Jn) from (Jo (f1.at h_t27))), (show FrS h 1 (Qt h v1 4 (Int.toNat x24_2) 3) (t27.Nots.map Jn) from (J0 (f1.at h_t27))), rfl⟩ _ _ (Xg h_t61).2.2)) h_t81)<|Jy (fun w hF hS => Ju (f := Jn) (i := t80) (sz := 1) (j := 0) (v := i6 t81) isAgg3 rfl rfl ((show FrS h 1 (List.getD (List.take 1 (List.drop ((Int.toNat x59_2) * 1) [(Qt h v1 4 (Int.toNat x24_2) 2), (Qt h v1 4 (Int.toNat x24_2) 3)])) 0 undef) (t61.map Jn) from (AllG.el (G := gs_int) (h := h) (sz := 1) (cs := [(Qt h v1 4 (Int.toNat x24_2) 2), (Qt h v1 4 (Int.toNat x24_2) 3)]) (xs := ([t27.Likes, t27.Nots] : List (List Int))) ⟨(show FrS h 1 (Qt h v1 4 (Int.toNat x24_2) 2) (t27.Likes.map Jn) from (Jo (f1.at h_t27))), (show FrS h 1 (Qt h v1 4 (Int.toNat x24_2) 3) (t27.Nots.map Jn) from (J0 (f1.at h_t27))), rfl⟩ _ _ (Xg h_t61).2.2)).row (hw.now hF)) h_t81 rfl) rfl rfl rfl<|lv (Jek rfl rfl)<|pT (.bool (decide (t68 ≤ t81)))<|Jc<|?_
            revert H111
            refine ci (decide (t68 ≤ t81)) rfl (fun hb H112=>?_) fun hb H113=>?_
            ·refine Jb<|Ja<|ag (i6 5)<|Jc<|Ji<|?_
             obtain rfl := sj H112
             exact r1 (i6 5)
            ·refine Jj ?_
             exact cl () () 0 [0, 1, 2] (by exact ⟨H113, trivial⟩)
           ·refine pa<|pa<|pa<|pa<|pa<|pa<|pa<|pF (.bool false)<|Jc<|Zf rfl<|Jj<|?_
            exact cl () () 0 [0, 1, 2] (by exact ⟨H114, trivial⟩)
         ·rintro _ _ gg H103 _
          try dsimp only at H103
          try dsimp only
          refine Ja ?_
          obtain ⟨t85, h_t85, H104⟩ := Je H103; clear H103
          refine lv (Qe rfl rfl h_t85)<|mv (i6 t85)<|Jc<|?_
          exact cl t85 () m10 [0, 1, 2] (by exact ⟨(by subst hn10; exact H104), trivial⟩)
        ·refine Qg ?_
         exact cl () () 0 [0, 1, 2] (by exact ⟨H115, trivial⟩)
       ·rintro _ _ gg H98 _
        try dsimp only at H98
        try dsimp only
        refine Ja ?_
        obtain ⟨t86, h_t86, H99⟩ := Je H98; clear H98
        refine lv (Qe rfl rfl h_t86)<|mv (i6 t86)<|Jc<|?_
        exact cl t86 () m8 [0, 1, 2] (by exact ⟨(by subst hn8; exact H99), trivial⟩)
      ·refine Qg ?_
       exact cl () () 0 [0, 1] (by exact ⟨H116, trivial⟩)
     ·rintro _ _ gg H75 _
      try dsimp only at H75
      try dsimp only
      refine Jb<|Ja<|?_
      refine Zr (rds := []) (Jfy (fk := (fun x_ : Int => i6 x_)) (fv := (fun x_ : Bool => .bool x_))) rfl rfl rfl (fun b6 => ?_)
      refine ag (.map (some b6))<|Jc<|?_
      refine Qi (r := r) (σ := Unit) (τ := Unit) (fun s => X7 a0 x24_2 mp_2 next1 t27) (fun s t => [(0, v0), (1, v1), (5, .map (some b4)), (7, .pointer (some ⟨b5, 0, none⟩)), (12, .map (some b6)), (22, v1), (23, i6 (a1.length : Int)), (24, i6 x24_2)]) (fun s t => [Jb8 (fun x_ : Int => i6 x_) (fun x_ : Bool => .bool x_) b4 mp_2, Jp b5 [i6 t27.Id, Jk t27.Name, (Qt h v1 4 (Int.toNat x24_2) 2), (Qt h v1 4 (Int.toNat x24_2) 3)] 77, Jb8 (fun x_ : Int => i6 x_) (fun x_ : Bool => .bool x_) b6 ([] : (List (Int × Bool)))]) (fun s t => True) ?_ ?_
      ·refine Jb<|Ja<|lf runUnderlying77 rfl sizeOf75 rfl<|ll 1 (Qt h v1 4 (Int.toNat x24_2) 2) isAgg75<|lv (X4 underlying75 rfl (show FrS h 1 (Qt h v1 4 (Int.toNat x24_2) 2) (t27.Likes.map Jn) from (Jo (f1.at h_t27))) rfl)<|mv (i6 0)<|Jc<|Jl<|?_
       refine Xb (σ := Int) (τ := Unit) (fun next7 s => V6 a0 x24_2 mp_2 next1 t27 next7 s) (fun s t => [(0, v0), (1, v1), (5, .map (some b4)), (7, .pointer (some ⟨b5, 0, none⟩)), (12, .map (some b6)), (22, v1), (23, i6 (a1.length : Int)), (24, i6 x24_2), (89, (Qt h v1 4 (Int.toNat x24_2) 2)), (90, i6 (t27.Likes.length : Int)), (91, i6 s)]) (fun s t => [Jb8 (fun x_ : Int => i6 x_) (fun x_ : Bool => .bool x_) b4 mp_2, Jp b5 [i6 t27.Id, Jk t27.Name, (Qt h v1 4 (Int.toNat x24_2) 2), (Qt h v1 4 (Int.toNat x24_2) 3)] 77, Jb8 (fun x_ : Int => i6 x_) (fun x_ : Bool => .bool x_) b6 ([] : (List (Int × Bool)))]) (fun s t => True) 0 () [0, 1, 2] H75 (by exact trivial) (by exact ⟨rfl, rfl, rfl, rfl, rfl, rfl, rfl, rfl, rfl, rfl, rfl, trivial⟩) (by decide) rfl ?_
       rintro x91_2 _ m7 gg H88 _
       clear H75
       try dsimp only at H88
       generalize hn7 : it (fun next7 s => V6 a0 x24_2 mp_2 next1 t27 next7 s) m7 = next7 at H88
       try dsimp only
       refine Jb<|Ja<|lv (Qv rfl rfl)<|Jc<|Jb<|?_
       revert H88
       refine ci (decide (x91_2 < (t27.Likes.length : Int))) rfl (fun hb H89=>?_) fun hb H95=>?_
       ·refine Jj<|Jb<|Jl<|Jb<|Ja<|?_
        obtain ⟨t93, h_t93, H90⟩ := Je H89; clear H89
        refine lv (J4 underlying75 sizeOf3 rfl rfl (show FrS h 1 (Qt h v1 4 (Int.toNat x24_2) 2) (t27.Likes.map Jn) from (Jo (f1.at h_t27))) h_t93)<|Jy (fun w hF hS => Ju (f := Jn) (i := x91_2) (sz := 1) (j := 0) (v := i6 t93) isAgg3 rfl rfl ((show FrS h 1 (Qt h v1 4 (Int.toNat x24_2) 2) (t27.Likes.map Jn) from (Jo (f1.at h_t27))).row (hw.now hF)) h_t93 rfl) rfl rfl rfl<|ag (i6 t93)<|Jc<|Jb<|Ja<|lf runUnderlying77 rfl sizeOf75 rfl<|ll 1 (Qt h v1 4 (Int.toNat x24_2) 3) isAgg75<|mv (i6 t93)<|?_
        obtain ⟨t98, h_t98, H91⟩ := Je H90; clear H90
        refine Qm (fun w hF hS => k29 (Jr w) ((show FrS h 1 (Qt h v1 4 (Int.toNat x24_2) 3) (t27.Nots.map Jn) from (J0 (f1.at h_t27))).mono (hw.now hF)) h_t98) call29 rfl rfl rfl<|Jc<|?_
        revert H91
        refine ci t98 rfl (fun hb H92=>?_) fun hb H93=>?_
        ·refine Jb<|Ja<|ag (i6 11)<|Jc<|Ji<|?_
         obtain rfl := sj H92
         exact r1 (i6 11)
        ·refine Jj<|Ja<|?_
         obtain ⟨t99, h_t99, H94⟩ := Je H93; clear H93
         refine lv (Qe rfl rfl h_t99)<|mv (i6 t99)<|Jc<|?_
         exact cl t99 () m7 [0, 1, 2] (by exact ⟨(by subst hn7; exact H94), trivial⟩)
       ·refine Qg ?_
        exact cl () () 0 [0, 1, 2] (by exact ⟨H95, trivial⟩)
      ·rintro _ _ gg H76 _
       try dsimp only at H76
       try dsimp only
       refine Jb<|Ja<|lf runUnderlying77 rfl sizeOf75 rfl<|ll 1 (Qt h v1 4 (Int.toNat x24_2) 2) isAgg75<|lv (X4 underlying75 rfl (show FrS h 1 (Qt h v1 4 (Int.toNat x24_2) 2) (t27.Likes.map Jn) from (Jo (f1.at h_t27))) rfl)<|mv (i6 0)<|Jc<|Jl<|c_dr 1<|?_
       try dsimp only [z1, z2, z3, z4, z5, z6, z7, z8]
       refine Xb (σ := Int × (List (Int × Bool)) × (List (Int × Bool))) (τ := Unit) (fun next6 s => X9 a0 x24_2 next1 t27 next6 s.1 s.2.1 s.2.2) (fun s t => [(0, v0), (1, v1), (5, .map (some b4)), (12, .map (some b6)), (22, v1), (23, i6 (a1.length : Int)), (24, i6 x24_2), (101, (Qt h v1 4 (Int.toNat x24_2) 2)), (102, i6 (t27.Likes.length : Int)), (103, i6 s.1)]) (fun s t => [Jb8 (fun x_ : Int => i6 x_) (fun x_ : Bool => .bool x_) b4 s.2.1, Jb8 (fun x_ : Int => i6 x_) (fun x_ : Bool => .bool x_) b6 s.2.2]) (fun s t => True) (0, mp_2, ([] : (List (Int × Bool)))) () [0, 1] H76 (by exact trivial) (by exact ⟨rfl, rfl, rfl, rfl, rfl, rfl, rfl, rfl, rfl, rfl, trivial⟩) (by decide) rfl ?_
       rintro ⟨x103_2, mp_6, mp_7⟩ _ m6 gg H77 _
       clear H76
       try dsimp only at H77
       generalize hn6 : it (fun next6 s => X9 a0 x24_2 next1 t27 next6 s.1 s.2.1 s.2.2) m6 = next6 at H77
       try dsimp only
       refine Jb<|Ja<|lv (Qv rfl rfl)<|Jc<|Jb<|?_
       revert H77
       refine ci (decide (x103_2 < (t27.Likes.length : Int))) rfl (fun hb H78=>?_) fun hb H87=>?_
       ·refine Jj<|Jb<|Jl<|Jb<|Ja<|?_
        obtain ⟨t105, h_t105, H79⟩ := Je H78; clear H78
        refine lv (J4 underlying75 sizeOf3 rfl rfl (show FrS h 1 (Qt h v1 4 (Int.toNat x24_2) 2) (t27.Likes.map Jn) from (Jo (f1.at h_t27))) h_t105)<|Jy (fun w hF hS => Ju (f := Jn) (i := x103_2) (sz := 1) (j := 0) (v := i6 t105) isAgg3 rfl rfl ((show FrS h 1 (Qt h v1 4 (Int.toNat x24_2) 2) (t27.Likes.map Jn) from (Jo (f1.at h_t27))).row (hw.now hF)) h_t105 rfl) rfl rfl rfl<|ag (i6 t105)<|Jc<|Jb<|Ja<|mv v0<|mv v0<|mv (i6 t105)<|?_
        obtain ⟨t110, h_t110, H80⟩ := Je H79; clear H79
        refine Qm (fun w hF hS => k28 (Jr w) (f0.mono (hw.now hF)) h_t110) call28 rfl rfl rfl ?_
        obtain ⟨t111, h_t111, H81⟩ := Je H80; clear H80
        refine lv (J4 underlying22 sizeOf38 rfl rfl f0 h_t111)<|lv (Us runUnderlying38 rfl sizeOf3 rfl rfl (Ja7 f0 h_t111))<|Jy (fun w hF hS => Ju (f := Jg) (i := t110) (sz := 14) (j := 1) (v := i6 t111.Photo) isAgg3 rfl rfl (f0.row (hw.now hF)) h_t111 rfl) rfl rfl rfl<|ag (i6 t111.Photo)<|Jc<|Jb<|Jb<|Ja<|mv (.map (some b4))<|mv (i6 t105)<|Jy (fun w hF hS => Jgs (i := 0) (fk := (fun x_ : Int => i6 x_)) (fv := (fun x_ : Bool => .bool x_)) (k := t105) (z := false) Jc8 underlying74 underlying3 zeroValue4 rfl rfl hS rfl) rfl rfl rfl<|mv (.bool ((Jcp mp_6 t105).getD false))<|?_
        revert H81
        refine sp (fun hb H82=>?_) fun hb H83=>?_
        ·refine pa<|pa<|pa<|pT (.bool true)<|Jc<|Zv rfl<|Jb<|Ja<|ag (i6 6)<|Jc<|Ji<|?_
         obtain rfl := sj H82
         exact r1 (i6 6)
        ·refine mv (.map (some b6))<|mv (i6 t111.Photo)<|Jy (fun w hF hS => Jgs (i := 1) (fk := (fun x_ : Int => i6 x_)) (fv := (fun x_ : Bool => .bool x_)) (k := t111.Photo) (z := false) Jc8 underlying74 underlying3 zeroValue4 rfl rfl hS rfl) rfl rfl rfl<|pF (.bool ((Jcp mp_7 t111.Photo).getD false))<|Jc<|?_
         revert H83
         refine ci ((Jcp mp_7 t111.Photo).getD false) rfl (fun hb H84=>?_) fun hb H85=>?_
         ·refine Jb<|Ja<|ag (i6 6)<|Jc<|Ji<|?_
          obtain rfl := sj H84
          exact r1 (i6 6)
         ·refine Jj<|Ja<|mv (.map (some b4))<|mv (i6 t105)<|mv (.map (some b6))<|mv (i6 t111.Photo)<|?_
          refine Jdl (Jev (u := true) (i := 0) (rds := []) (fk := (fun x_ : Int => i6 x_)) (fv := (fun x_ : Bool => .bool x_)) (k := t105) (v := true) Jc8 (.inr rfl) underlying74 underlying3 rfl rfl rfl rfl) rfl rfl (fun _ => ?_)
          refine Jdl (Jev (u := true) (i := 1) (rds := []) (fk := (fun x_ : Int => i6 x_)) (fv := (fun x_ : Bool => .bool x_)) (k := t111.Photo) (v := true) Jc8 (.inr rfl) underlying74 underlying3 rfl rfl rfl rfl) rfl rfl (fun _ => ?_)
          refine Jc<|Ja<|?_
          obtain ⟨t126, h_t126, H86⟩ := Je H85; clear H85
          refine lv (Qe rfl rfl h_t126)<|mv (i6 t126)<|Jc<|?_
          exact cl (t126, (Ja3 mp_6 t105 true), (Ja3 mp_7 t111.Photo true)) () m6 [0, 1] (by exact ⟨(by subst hn6; exact H86), trivial⟩)
       ·refine Qg ?_
        exact cl mp_6 () 0 [0] (by exact ⟨H87, trivial⟩)
   ·rintro mp_3 _ gg H71 _
    try dsimp only at H71
    try dsimp only
    refine Ja ?_
    obtain ⟨t127, h_t127, H72⟩ := Je H71; clear H71
    refine lv (Qe rfl rfl h_t127)<|mv (i6 t127)<|Jc<|?_
    exact cl (t127, mp_3) () m1 [0] (by exact ⟨(by subst hn1; exact H72), trivial⟩)
  ·refine Qg<|Jb<|Ja<|ag (i6 0)<|Jc<|Ji<|?_
   obtain rfl := sj H132
   exact r1 (i6 0)
theorem k113 {a0 : Int} {a1 : Int} {a2 : Int} {r : Bool} (H : Ze a0 a1 a2 = some r) : Ret prog 113 [i6 a0, i6 a1, i6 a2] (.bool r) := by
 refine J7 (n := 15) func113 rfl rfl rfl (fun wd => ?_)
 refine Jb<|Ja<|ag (.bool false)<|Jc<|Jb<|Ja<|mv (i6 a0)<|mv (i6 a1)<|lv (Qv rfl rfl)<|mv (.bool (decide (a0 < a1)))<|?_
 revert H
 refine sp (fun hb H3=>?_) fun hb H4=>?_
 ·refine pa<|pa<|pa<|pT (.bool true)<|ag (.bool true)<|Jc<|Ji<|?_
  obtain rfl := sj H3
  exact r1 (.bool true)
 ·refine mv (i6 a0)<|mv (i6 a2)<|lv (Zi rfl rfl)<|pF (.bool (decide (a2 < a0)))<|ag (.bool (decide (a2 < a0)))<|Jc<|Ji<|?_
  obtain rfl := sj H4
  exact r1 (.bool (decide (a2 < a0)))
theorem k204 {a0 : (Nat → Int)} {r : Int} (H : Jbo a0 = some r) : Ret prog 204 [.agg #[i6 (a0 0), i6 (a0 1), i6 (a0 2), i6 (a0 3), i6 (a0 4), i6 (a0 5), i6 (a0 6), i6 (a0 7), i6 (a0 8), i6 (a0 9), i6 (a0 10), i6 (a0 11)]] (i6 r) := by
 refine J7 (n := 12) func204 rfl rfl rfl (fun wd => ?_)
 refine Jb<|Ja<|?_
 refine Je8 (cs := [i6 (a0 0), i6 (a0 1), i6 (a0 2), i6 (a0 3), i6 (a0 4), i6 (a0 5), i6 (a0 6), i6 (a0 7), i6 (a0 8), i6 (a0 9), i6 (a0 10), i6 (a0 11)]) rfl rfl rfl rfl (fun b1 => ?_)
 refine ag (i6 0)<|Jc<|Jb<|Jb<|Ja<|Jca (i := 0) (vs := [i6 (a0 0), i6 (a0 1), i6 (a0 2), i6 (a0 3), i6 (a0 4), i6 (a0 5), i6 (a0 6), i6 (a0 7), i6 (a0 8), i6 (a0 9), i6 (a0 10), i6 (a0 11)]) isAgg36 sizeOf36 rfl rfl rfl rfl rfl<|mv (i6 0)<|Jc<|Jl<|c_dr 0<|?_
 try dsimp only [z1, z2, z3, z4, z5, z6, z7, z8]
 refine Xb (σ := Int) (τ := Unit) (fun next1 s => V1 a0 next1 s) (fun s t => [(5, .agg #[i6 (a0 0), i6 (a0 1), i6 (a0 2), i6 (a0 3), i6 (a0 4), i6 (a0 5), i6 (a0 6), i6 (a0 7), i6 (a0 8), i6 (a0 9), i6 (a0 10), i6 (a0 11)]), (6, i6 s)]) (fun s t => []) (fun s t => True) 0 () [] H (by exact trivial) (by exact ⟨rfl, rfl, trivial⟩) (by decide) rfl ?_
 rintro x6_2 _ m1 gg H9 _
 clear H
 try dsimp only at H9
 generalize hn1 : it (fun next1 s => V1 a0 next1 s) m1 = next1 at H9
 try dsimp only
 refine Jb<|Ja<|lv (Qv rfl rfl)<|Jc<|Jb<|?_
 revert H9
 refine ci (decide (x6_2 < 12)) rfl (fun hb H10=>?_) fun hb H16=>?_
 ·refine Jj<|Jb<|Jl<|Jb<|Ja<|?_
  obtain ⟨k8, h_k8, H11⟩ := Je H10; clear H10
  refine lv (r_indexAG (f := fun j_ => i6 (a0 j_)) runUnderlying36 isAgg3 sizeOf3 rfl rfl rfl h_k8)<|ag (i6 (a0 k8))<|Jc<|Jb<|Ja<|mv (i6 (a0 k8))<|?_
  obtain ⟨t10, h_t10, H12⟩ := Je H11; clear H11
  refine Qc (k113 h_t10) call113 rfl rfl rfl<|Jc<|?_
  revert H12
  refine ci t10 rfl (fun hb H13=>?_) fun hb H14=>?_
  ·refine Jb<|Ja<|ag (i6 2)<|Jc<|Ji<|?_
   obtain rfl := sj H13
   exact r1 (i6 2)
  ·refine Jj<|Ja<|?_
   obtain ⟨t11, h_t11, H15⟩ := Je H14; clear H14
   refine lv (Qe rfl rfl h_t11)<|mv (i6 t11)<|Jc<|?_
   exact cl t11 () m1 [] (by exact ⟨(by subst hn1; exact H15), trivial⟩)
 ·refine Qg<|Jb<|Ja<|ag (i6 0)<|Jc<|Ji<|?_
  obtain rfl := sj H16
  exact r1 (i6 0)
theorem k112 {a0 : (List Ta)} {v0 : Value} {r : Int} {w : World} {h : Jt} (hw : Know h w Yt) (f0 : FrS h 14 v0 (a0.map Jg)) (H : Ja8 a0 = some r) : Does prog 112 (List.toArray [v0]) w (fun v w' => v = (i6 r) ∧ Grow w w') := by
 refine enter (n := 44) func112 rfl rfl rfl Yt [] (Sat.nil _ _)<|Jb<|Ja<|ag (i6 0)<|Jc<|Jb<|Jb<|Ja<|mv v0<|lv (X4 underlying22 rfl f0 rfl)<|lv (Zi rfl rfl)<|Jc<|?_
 revert H
 refine ci (decide (300 < (a0.length : Int))) rfl (fun hb H24=>?_) fun hb H25=>?_
 ·refine Jb<|Ja<|ag (i6 4)<|Jc<|Ji<|?_
  obtain rfl := sj H24
  exact r1 (i6 4)
 ·refine Jj<|Jb<|Jb<|Ja<|mv v0<|lv (X4 underlying22 rfl f0 rfl)<|mv (i6 0)<|Jc<|Jl<|?_
  refine Xb (σ := Int) (τ := Unit) (fun next1 s => Ws a0 next1 s) (fun s t => [(0, v0), (9, v0), (10, i6 (a0.length : Int)), (11, i6 s)]) (fun s t => []) (fun s t => True) 0 () [] H25 (by exact trivial) (by exact ⟨rfl, rfl, rfl, rfl, trivial⟩) (by decide) rfl ?_
  rintro x11_2 _ m1 gg H26 _
  clear H25
  try dsimp only at H26
  generalize hn1 : it (fun next1 s => Ws a0 next1 s) m1 = next1 at H26
  try dsimp only
  refine Jb<|Ja<|lv (Qv rfl rfl)<|Jc<|Jb<|?_
  revert H26
  refine ci (decide (x11_2 < (a0.length : Int))) rfl (fun hb H27=>?_) fun hb H46=>?_
  ·refine Jj<|Jb<|Jl<|Jb<|Ja<|mv (i6 x11_2)<|?_
   obtain ⟨t14, h_t14, H28⟩ := Je H27; clear H27
   refine lv (J4 underlying22 sizeOf38 rfl rfl f0 h_t14)<|Jy (fun w hF hS => X2 (f := Jg) (i := x11_2) (sz := 14) (j := 0) (vs := [i6 t14.Id, i6 t14.Photo, i6 (t14.Vec 0), i6 (t14.Vec 1), i6 (t14.Vec 2), i6 (t14.Vec 3), i6 (t14.Vec 4), i6 (t14.Vec 5), i6 (t14.Vec 6), i6 (t14.Vec 7), i6 (t14.Vec 8), i6 (t14.Vec 9), i6 (t14.Vec 10), i6 (t14.Vec 11)]) isAgg38 sizeOf38 rfl rfl (f0.row (hw.now hF)) h_t14 rfl) rfl rfl rfl<|?_
   refine Z6 (cs := [i6 0, i6 0, i6 0, i6 0, i6 0, i6 0, i6 0, i6 0, i6 0, i6 0, i6 0, i6 0, i6 0, i6 0]) zeroValue38 rfl rfl rfl (fun b1 => ?_)
   refine ag (i6 x11_2)<|st (i := 0) [i6 t14.Id, i6 t14.Photo, i6 (t14.Vec 0), i6 (t14.Vec 1), i6 (t14.Vec 2), i6 (t14.Vec 3), i6 (t14.Vec 4), i6 (t14.Vec 5), i6 (t14.Vec 6), i6 (t14.Vec 7), i6 (t14.Vec 8), i6 (t14.Vec 9), i6 (t14.Vec 10), i6 (t14.Vec 11)] [i6 t14.Id, i6 t14.Photo, i6 (t14.Vec 0), i6 (t14.Vec 1), i6 (t14.Vec 2), i6 (t14.Vec 3), i6 (t14.Vec 4), i6 (t14.Vec 5), i6 (t14.Vec 6), i6 (t14.Vec 7), i6 (t14.Vec 8), i6 (t14.Vec 9), i6 (t14.Vec 10), i6 (t14.Vec 11)] sizeOf38 rfl rfl<|Jc<|Jb<|Jb<|Ja<|lf runUnderlying38 rfl sizeOf3 rfl<|ll 0 (i6 t14.Id) isAgg3<|?_
   obtain ⟨t18, h_t18, H29⟩ := Je H28; clear H28
   refine Qc (k113 h_t18) call113 rfl rfl rfl<|mv (.bool t18)<|?_
   revert H29
   refine sp (fun hb H30=>?_) fun hb H31=>?_
   ·refine pa<|pa<|pa<|pT (.bool true)<|Jc<|Zv rfl<|Jb<|Ja<|ag (i6 2)<|Jc<|Ji<|?_
    obtain rfl := sj H30
    exact r1 (i6 2)
   ·refine lf runUnderlying38 rfl sizeOf3 rfl<|ll 0 (i6 t14.Photo) isAgg3<|?_
    obtain ⟨t22, h_t22, H32⟩ := Je H31; clear H31
    refine Qc (k113 h_t22) call113 rfl rfl rfl<|pF (.bool t22)<|Jc<|?_
    revert H32
    refine ci t22 rfl (fun hb H33=>?_) fun hb H34=>?_
    ·refine Jb<|Ja<|ag (i6 2)<|Jc<|Ji<|?_
     obtain rfl := sj H33
     exact r1 (i6 2)
    ·refine Jj ?_
     refine Qi (r := r) (σ := Unit) (τ := Unit) (fun s => Vf x11_2 next1 t14) (fun s t => [(0, v0), (4, .pointer (some ⟨b1, 0, none⟩)), (9, v0), (10, i6 (a0.length : Int)), (11, i6 x11_2), (20, .pointer (some ⟨b1, 1, none⟩)), (21, i6 t14.Photo), (22, .bool t22)]) (fun s t => [Jp b1 [i6 t14.Id, i6 t14.Photo, i6 (t14.Vec 0), i6 (t14.Vec 1), i6 (t14.Vec 2), i6 (t14.Vec 3), i6 (t14.Vec 4), i6 (t14.Vec 5), i6 (t14.Vec 6), i6 (t14.Vec 7), i6 (t14.Vec 8), i6 (t14.Vec 9), i6 (t14.Vec 10), i6 (t14.Vec 11)] 38]) (fun s t => True) ?_ ?_
     ·refine Jb ?_
      exact Xp (Kd.p :: Kd.p :: Kd.p :: Kd.p :: Kd.d [0] _ :: Kd.p :: Kd.p :: Kd.p :: Kd.p :: Kd.p :: Kd.d [] _ :: Kd.p :: Kd.p :: []) 0 mixed (by
       refine dm (i6 x11_2)<|dv (Zi rfl rfl)<|dm (.bool (decide (0 < x11_2)))<|?_
       refine Jfu (fun hb => ?_) (fun hb => ?_)
       ·have H40 := Jen hb H34
        refine dv (Ya runUnderlying38 rfl sizeOf3 rfl rfl)<|dl (i6 t14.Id) isAgg3<|dm v0<|dm (i6 x11_2)<|?_
        have h_t31 := Qh H40
        have H41 := J3 H40
        refine dv (Ym rfl rfl h_t31) ?_
        have h_t32 := Qh H41
        have H42 := J3 H41
        refine dv (J4 underlying22 sizeOf38 rfl rfl f0 h_t32)<|dv (Us runUnderlying38 rfl sizeOf3 rfl rfl (Ja7 f0 h_t32))<|Jdy (fun w hF => Ju (f := Jg) (i := (val (gI (x11_2 - 1)))) (sz := 14) (j := 0) (v := i6 (val (Qk a0 (val (gI (x11_2 - 1))))).Id) isAgg3 rfl rfl (f0.row (hw.now hF)) h_t32 rfl) rfl rfl<|dv (Jek rfl rfl)<|dv (Jdo (v := .bool (decide (t14.Id ≤ (val (Qk a0 (val (gI (x11_2 - 1))))).Id))) rfl rfl)<|Wk<|?_
        revert H42
        refine ci (decide (t14.Id ≤ (val (Qk a0 (val (gI (x11_2 - 1))))).Id)) rfl (fun hb H43=>?_) fun hb H44=>?_
        ·refine Jb<|Ja<|ag (i6 5)<|Jc<|Ji<|?_
         obtain rfl := sj H43
         exact r1 (i6 5)
        ·refine Jj ?_
         exact cl () () 0 [0] (by exact ⟨H44, trivial⟩)
       ·have H45 := Jei hb H34
        refine dp<|dp<|dp<|dp<|dp<|dp<|dp<|dp<|dp<|dv (Jcv (v := .bool false) rfl rfl)<|Wk<|Zf rfl<|Jj<|?_
        exact cl () () 0 [0] (by exact ⟨H45, trivial⟩)
       ) (by kernel_rfl)
     ·rintro _ _ gg H35 _
      try dsimp only at H35
      try dsimp only
      refine Jb<|Ja<|lf runUnderlying38 rfl sizeOf36 rfl<|Jca (i := 0) (vs := [i6 (t14.Vec 0), i6 (t14.Vec 1), i6 (t14.Vec 2), i6 (t14.Vec 3), i6 (t14.Vec 4), i6 (t14.Vec 5), i6 (t14.Vec 6), i6 (t14.Vec 7), i6 (t14.Vec 8), i6 (t14.Vec 9), i6 (t14.Vec 10), i6 (t14.Vec 11)]) isAgg36 sizeOf36 rfl rfl rfl rfl rfl<|?_
      obtain ⟨t39, h_t39, H36⟩ := Je H35; clear H35
      refine Qc (k204 h_t39) call204 rfl rfl rfl<|ag (i6 t39)<|Jc<|Jb<|Ja<|mv (i6 t39)<|lv (Jaj rfl rfl)<|Jc<|?_
      revert H36
      refine ci (decide (t39 ≠ 0)) rfl (fun hb H37=>?_) fun hb H38=>?_
      ·refine Jb<|Ja<|mv (i6 t39)<|ag (i6 t39)<|Jc<|Ji<|?_
       obtain rfl := sj H37
       exact r1 (i6 t39)
      ·refine Jj<|Ja<|?_
       obtain ⟨t43, h_t43, H39⟩ := Je H38; clear H38
       refine lv (Qe rfl rfl h_t43)<|mv (i6 t43)<|Jc<|?_
       exact cl t43 () m1 [] (by exact ⟨(by subst hn1; exact H39), trivial⟩)
  ·refine Qg<|Jb<|Ja<|ag (i6 0)<|Jc<|Ji<|?_
   obtain rfl := sj H46
   exact r1 (i6 0)
theorem k210 {a0 : (List Int)} {v0 : Value} {a1 : (Int → Option (Bool))} {v1 : Value} {r : Int} {w : World} {h : Jt} (hw : Know h w Yt) (f0 : FrS h 1 v0 (a0.map Jn)) (f1 : FnH prog h v1 (Jau a1)) (H : Ua a0 a1 = some r) : Does prog 210 (List.toArray [v0, v1]) w (fun v w' => v = (i6 r) ∧ Grow w w') := by
 refine enter (n := 19) func210 rfl rfl rfl Yt [] (Sat.nil _ _)<|Jb<|Ja<|ag (i6 0)<|Jc<|Jb<|Jb<|Ja<|mv v0<|lv (X4 underlying75 rfl f0 rfl)<|mv (i6 0)<|Jc<|Jl<|?_
 refine Xb (σ := Int) (τ := Unit) (fun next1 s => V2 a0 a1 next1 s) (fun s t => [(0, v0), (1, v1), (7, i6 (a0.length : Int)), (8, i6 s)]) (fun s t => []) (fun s t => True) 0 () [] H (by exact trivial) (by exact ⟨rfl, rfl, rfl, rfl, trivial⟩) (by decide) rfl ?_
 rintro x8_2 _ m1 gg H9 _
 clear H
 try dsimp only at H9
 generalize hn1 : it (fun next1 s => V2 a0 a1 next1 s) m1 = next1 at H9
 try dsimp only
 refine Jb<|Ja<|lv (Qv rfl rfl)<|Jc<|Jb<|?_
 revert H9
 refine ci (decide (x8_2 < (a0.length : Int))) rfl (fun hb H10=>?_) fun hb H16=>?_
 ·refine Jj<|Jb<|Jl<|Jb<|Ja<|mv (i6 x8_2)<|ag (i6 x8_2)<|Jc<|Jb<|Ja<|mv v1<|mv v0<|mv (i6 x8_2)<|?_
  obtain ⟨t14, h_t14, H11⟩ := Je H10; clear H10
  refine lv (J4 underlying75 sizeOf3 rfl rfl f0 h_t14)<|Jy (fun w hF hS => Ju (f := Jn) (i := x8_2) (sz := 1) (j := 0) (v := i6 t14) isAgg3 rfl rfl (f0.row (hw.now hF)) h_t14 rfl) rfl rfl rfl<|?_
  obtain ⟨t16, h_t16, H12⟩ := Je H11; clear H11
  refine Jd6 (R := Jau a1) (r := .bool t16) (v := v1) (fun w hF hS => ⟨(f1.mono (hw.now hF)), ⟨t14, _, rfl, h_t16, rfl⟩⟩) rfl rfl rfl rfl<|Jc<|?_
  revert H12
  refine ci t16 rfl (fun hb H13=>?_) fun hb H14=>?_
  ·refine Jb<|Ja<|mv (i6 x8_2)<|ag (i6 x8_2)<|Jc<|Ji<|?_
   obtain rfl := sj H13
   exact r1 (i6 x8_2)
  ·refine Jj<|Ja<|?_
   obtain ⟨t18, h_t18, H15⟩ := Je H14; clear H14
   refine lv (Qe rfl rfl h_t18)<|mv (i6 t18)<|Jc<|?_
   exact cl t18 () m1 [] (by exact ⟨(by subst hn1; exact H15), trivial⟩)
 ·refine Qg<|Jb<|Ja<|ag (i6 (-1))<|Jc<|Ji<|?_
  obtain rfl := sj H16
  exact r1 (i6 (-1))
theorem k116 {a0 : (List Int)} {v0 : Value} {a1 : (Int → Option (Bool))} {v1 : Value} {r : Bool} {w : World} {h : Jt} (hw : Know h w Yt) (f0 : FrS h 1 v0 (a0.map Jn)) (f1 : FnH prog h v1 (Jau a1)) (H : X8 a0 a1 = some r) : Does prog 116 (List.toArray [v0, v1]) w (fun v w' => v = (.bool r) ∧ Grow w w') := by
 refine enter (n := 9) func116 rfl rfl rfl Yt [] (Sat.nil _ _)<|Jb<|Ja<|ag (.bool false)<|Jc<|Jb<|Ja<|mv v0<|mv v1<|?_
 obtain ⟨t7, h_t7, H2⟩ := Je H; clear H
 refine Qm (fun w hF hS => k210 (Jr w) (f0.mono (hw.now hF)) (f1.mono (hw.now hF)) h_t7) call210 rfl rfl rfl<|lv (Jcg rfl rfl)<|ag (.bool (decide (0 ≤ t7)))<|Jc<|Ji<|?_
 obtain rfl := sj H2
 exact r1 (.bool (decide (0 ≤ t7)))
theorem k331 {a0 : (List Int)} {v0 : Value} {a1 : (Int → Option (Bool))} {v1 : Value} {r : Int} {w : World} {h : Jt} (hw : Know h w Yt) (f0 : FrS h 1 v0 (a0.map e_u8)) (f1 : FnH prog h v1 (Up a1)) (H : Wu a0 a1 = some r) : Does prog 331 (List.toArray [v0, v1]) w (fun v w' => v = (i6 r) ∧ Grow w w') := by
 refine enter (n := 19) func331 rfl rfl rfl Yt [] (Sat.nil _ _)<|Jb<|Ja<|ag (i6 0)<|Jc<|Jb<|Jb<|Ja<|mv v0<|lv (X4 underlying82 rfl f0 rfl)<|mv (i6 0)<|Jc<|Jl<|?_
 refine Xb (σ := Int) (τ := Unit) (fun next1 s => Vb a0 a1 next1 s) (fun s t => [(0, v0), (1, v1), (7, i6 (a0.length : Int)), (8, i6 s)]) (fun s t => []) (fun s t => True) 0 () [] H (by exact trivial) (by exact ⟨rfl, rfl, rfl, rfl, trivial⟩) (by decide) rfl ?_
 rintro x8_2 _ m1 gg H9 _
 clear H
 try dsimp only at H9
 generalize hn1 : it (fun next1 s => Vb a0 a1 next1 s) m1 = next1 at H9
 try dsimp only
 refine Jb<|Ja<|lv (Qv rfl rfl)<|Jc<|Jb<|?_
 revert H9
 refine ci (decide (x8_2 < (a0.length : Int))) rfl (fun hb H10=>?_) fun hb H16=>?_
 ·refine Jj<|Jb<|Jl<|Jb<|Ja<|mv (i6 x8_2)<|ag (i6 x8_2)<|Jc<|Jb<|Ja<|mv v1<|mv v0<|mv (i6 x8_2)<|?_
  obtain ⟨t14, h_t14, H11⟩ := Je H10; clear H10
  refine lv (J4 underlying82 sizeOf5 rfl rfl f0 h_t14)<|Jy (fun w hF hS => Ju (f := e_u8) (i := x8_2) (sz := 1) (j := 0) (v := .int .u8 t14) isAgg5 rfl rfl (f0.row (hw.now hF)) h_t14 rfl) rfl rfl rfl<|?_
  obtain ⟨t16, h_t16, H12⟩ := Je H11; clear H11
  refine Jd6 (R := Up a1) (r := .bool t16) (v := v1) (fun w hF hS => ⟨(f1.mono (hw.now hF)), ⟨t14, _, rfl, h_t16, rfl⟩⟩) rfl rfl rfl rfl<|Jc<|?_
  revert H12
  refine ci t16 rfl (fun hb H13=>?_) fun hb H14=>?_
  ·refine Jb<|Ja<|mv (i6 x8_2)<|ag (i6 x8_2)<|Jc<|Ji<|?_
   obtain rfl := sj H13
   exact r1 (i6 x8_2)
  ·refine Jj<|Ja<|?_
   obtain ⟨t18, h_t18, H15⟩ := Je H14; clear H14
   refine lv (Qe rfl rfl h_t18)<|mv (i6 t18)<|Jc<|?_
   exact cl t18 () m1 [] (by exact ⟨(by subst hn1; exact H15), trivial⟩)
 ·refine Qg<|Jb<|Ja<|ag (i6 (-1))<|Jc<|Ji<|?_
  obtain rfl := sj H16
  exact r1 (i6 (-1))
theorem k266 {a0 : (List Int)} {v0 : Value} {a1 : (Int → Option (Bool))} {v1 : Value} {r : Bool} {w : World} {h : Jt} (hw : Know h w Yt) (f0 : FrS h 1 v0 (a0.map e_u8)) (f1 : FnH prog h v1 (Up a1)) (H : Yv a0 a1 = some r) : Does prog 266 (List.toArray [v0, v1]) w (fun v w' => v = (.bool r) ∧ Grow w w') := by
 refine enter (n := 9) func266 rfl rfl rfl Yt [] (Sat.nil _ _)<|Jb<|Ja<|ag (.bool false)<|Jc<|Jb<|Ja<|mv v0<|mv v1<|?_
 obtain ⟨t7, h_t7, H2⟩ := Je H; clear H
 refine Qm (fun w hF hS => k331 (Jr w) (f0.mono (hw.now hF)) (f1.mono (hw.now hF)) h_t7) call331 rfl rfl rfl<|lv (Jcg rfl rfl)<|ag (.bool (decide (0 ≤ t7)))<|Jc<|Ji<|?_
 obtain rfl := sj H2
 exact r1 (.bool (decide (0 ≤ t7)))
theorem k267 {a0 : Int} {r : Bool} (H : Jci a0 = some r) : Ret prog 267 [.int .u8 a0] (.bool r) := by
 refine J7 (n := 5) func267 rfl rfl rfl (fun wd => ?_)
 refine Jb<|Ja<|ag (.bool false)<|Jc<|Jb<|Ja<|mv (.int .u8 a0)<|lv (Qv rfl rfl)<|ag (.bool (decide (a0 < 32)))<|Jc<|Ji<|?_
 obtain rfl := sj H
 exact r1 (.bool (decide (a0 < 32)))
theorem k205 {a0 : (List UInt8)} {r : Bool} (H : Jb9 a0 = some r) : Ret prog 205 [Jk a0] (.bool r) := by
 refine J7 (n := 13) func205 rfl rfl rfl (fun wd => ?_)
 refine Jb<|Ja<|ag (.bool false)<|Jc<|Jb<|Ja<|mv (Jk a0)<|lv (Q2 underlying9 rfl)<|?_
 obtain ⟨t5, h_t5, H6⟩ := Je H; clear H
 refine Qc (k113 h_t5) call113 rfl rfl rfl<|lv (V8 rfl)<|mv (.bool (!t5))<|?_
 revert H6
 refine sp (fun hb H7=>?_) fun hb H10=>?_
 ·refine mv (Jk a0) ?_
  obtain ⟨t9, h_t9, H8⟩ := Je H7; clear H7
  refine Zr (rds := []) (makes_byt (f := e_u8) (s := a0) underlying9 underlying82 underlying5 rfl (fun _ => rfl) h_t9) rfl rfl rfl (fun p => ?_)
  obtain ⟨t10, h_t10, H9⟩ := Je H8; clear H8
  refine Qm (fun w hF hS => k266 (Jr w) (frs_mk (i := 0) hS rfl) (FnH.mk ⟨267, #[], #[], rfl, call267, fun args2 post2 w2 hk2 hR2 => by obtain ⟨a0_, r_, rfl, H_, rfl⟩ := hR2; exact k267 H_ w2⟩) h_t10) call266 rfl rfl rfl<|lv (V8 rfl)<|pT (.bool (!t10))<|ag (.bool (!t10))<|Jc<|Ji<|?_
  obtain rfl := sj H9
  exact r1 (.bool (!t10))
 ·refine pa<|pa<|pa<|pa<|pF (.bool false)<|ag (.bool false)<|Jc<|Ji<|?_
  obtain rfl := sj H10
  exact r1 (.bool false)
theorem k332 {a0 : (List Ta)} {v0 : Value} {a1 : Int} {a2 : (Ta → Int → Option (Int))} {v2 : Value} {r : Int × Bool} {w : World} {h : Jt} (hw : Know h w Yt) (f0 : FrS h 14 v0 (a0.map Jg)) (f2 : FnH prog h v2 (Yo a2)) (H : Xc a0 a1 a2 = some r) : Does prog 332 (List.toArray [v0, i6 a1, v2]) w (fun v w' => v = (.tuple #[i6 r.1, .bool r.2]) ∧ Grow w w') := by
 refine enter (n := 49) func332 rfl rfl rfl Yt [] (Sat.nil _ _)<|Jb<|Ja<|ag (i6 0)<|ag (.bool false)<|Jc<|Jb<|Ja<|mv v0<|lv (X4 underlying22 rfl f0 rfl)<|ag (i6 (a0.length : Int))<|Jc<|Jb<|Ja<|mv (i6 (a0.length : Int))<|ag (i6 0)<|ag (i6 (a0.length : Int))<|Jc<|?_
 refine Qi (r := r) (σ := Int) (τ := Unit) (fun s => J9 a0 a1 a2 s) (fun s t => [(0, v0), (1, i6 a1), (2, v2), (8, i6 (a0.length : Int)), (9, i6 s)]) (fun s t => []) (fun s t => True) ?_ ?_
 ·refine Jl ?_
  refine Xb (σ := Int × Int) (τ := Unit) (fun next2 s => J1 a0 a1 a2 next2 s.1 s.2) (fun s t => [(0, v0), (1, i6 a1), (2, v2), (8, i6 (a0.length : Int)), (9, i6 s.1), (10, i6 s.2)]) (fun s t => []) (fun s t => True) (0, (a0.length : Int)) () [] H (by exact trivial) (by exact ⟨rfl, rfl, rfl, rfl, rfl, rfl, trivial⟩) (by decide) rfl ?_
  rintro ⟨x9_3, x10_2⟩ _ m2 gg H21 _
  clear H
  try dsimp only at H21
  generalize hn2 : it (fun next2 s => J1 a0 a1 a2 next2 s.1 s.2) m2 = next2 at H21
  try dsimp only
  refine Jb<|Jb<|Ja<|mv (i6 x9_3)<|mv (i6 x10_2)<|lv (Qv rfl rfl)<|Jc<|?_
  revert H21
  refine ci (decide (x9_3 < x10_2)) rfl (fun hb H22=>?_) fun hb H30=>?_
  ·refine Jj<|Jl<|Jb<|Ja<|mv (i6 x9_3)<|mv (i6 x10_2)<|?_
   obtain ⟨t20, h_t20, H23⟩ := Je H22; clear H22
   refine lv (Qe rfl rfl h_t20)<|lv (Jcx runUnderlying3 runUnderlying248 rfl (wr_u64 _))<|?_
   obtain ⟨t22, h_t22, H24⟩ := Je H23; clear H23
   refine lv (r_shrG rfl rfl rfl h_t22)<|lv (Jcx runUnderlying248 runUnderlying3 rfl (wr_i64 _))<|ag (i6 (Jbx t22))<|Jc<|Jb<|Ja<|mv v2<|mv v0<|mv (i6 (Jbx t22))<|?_
   obtain ⟨t27, h_t27, H25⟩ := Je H24; clear H24
   refine lv (J4 underlying22 sizeOf38 rfl rfl f0 h_t27)<|Jy (fun w hF hS => X2 (f := Jg) (i := (Jbx t22)) (sz := 14) (j := 0) (vs := [i6 t27.Id, i6 t27.Photo, i6 (t27.Vec 0), i6 (t27.Vec 1), i6 (t27.Vec 2), i6 (t27.Vec 3), i6 (t27.Vec 4), i6 (t27.Vec 5), i6 (t27.Vec 6), i6 (t27.Vec 7), i6 (t27.Vec 8), i6 (t27.Vec 9), i6 (t27.Vec 10), i6 (t27.Vec 11)]) isAgg38 sizeOf38 rfl rfl (f0.row (hw.now hF)) h_t27 rfl) rfl rfl rfl<|mv (i6 a1)<|?_
   obtain ⟨t30, h_t30, H26⟩ := Je H25; clear H25
   refine Jd6 (R := Yo a2) (r := i6 t30) (v := v2) (fun w hF hS => ⟨(f2.mono (hw.now hF)), ⟨t27, a1, _, rfl, h_t30, rfl⟩⟩) rfl rfl rfl rfl<|lv (Qv rfl rfl)<|Jc<|?_
   revert H26
   refine ci (decide (t30 < 0)) rfl (fun hb H27=>?_) fun hb H29=>?_
   ·refine Ja<|mv (i6 (Jbx t22))<|?_
    obtain ⟨t33, h_t33, H28⟩ := Je H27; clear H27
    refine lv (Qe rfl rfl h_t33)<|ag (i6 t33)<|Jc<|?_
    exact cl (t33, x10_2) () m2 [] (by exact ⟨(by subst hn2; exact H28), trivial⟩)
   ·refine Ja<|mv (i6 (Jbx t22))<|ag (i6 (Jbx t22))<|Jc<|?_
    exact cl (x9_3, (Jbx t22)) () m2 [] (by exact ⟨(by subst hn2; exact H29), trivial⟩)
  ·refine Qg ?_
   exact cl x9_3 () 0 [] (by exact ⟨H30, trivial⟩)
 ·rintro x9 _ gg H16 _
  try dsimp only at H16
  try dsimp only
  refine Jb<|Ja<|mv (i6 x9)<|mv (i6 x9)<|mv (i6 (a0.length : Int))<|lv (Qv rfl rfl)<|mv (.bool (decide (x9 < (a0.length : Int))))<|?_
  revert H16
  refine sp (fun hb H17=>?_) fun hb H20=>?_
  ·refine mv v2<|mv v0<|mv (i6 x9)<|?_
   obtain ⟨t43, h_t43, H18⟩ := Je H17; clear H17
   refine lv (J4 underlying22 sizeOf38 rfl rfl f0 h_t43)<|Jy (fun w hF hS => X2 (f := Jg) (i := x9) (sz := 14) (j := 0) (vs := [i6 t43.Id, i6 t43.Photo, i6 (t43.Vec 0), i6 (t43.Vec 1), i6 (t43.Vec 2), i6 (t43.Vec 3), i6 (t43.Vec 4), i6 (t43.Vec 5), i6 (t43.Vec 6), i6 (t43.Vec 7), i6 (t43.Vec 8), i6 (t43.Vec 9), i6 (t43.Vec 10), i6 (t43.Vec 11)]) isAgg38 sizeOf38 rfl rfl (f0.row (hw.now hF)) h_t43 rfl) rfl rfl rfl<|mv (i6 a1)<|?_
   obtain ⟨t46, h_t46, H19⟩ := Je H18; clear H18
   refine Jd6 (R := Yo a2) (r := i6 t46) (v := v2) (fun w hF hS => ⟨(f2.mono (hw.now hF)), ⟨t43, a1, _, rfl, h_t46, rfl⟩⟩) rfl rfl rfl rfl<|lv (Y4 rfl rfl)<|pT (.bool (decide (t46 = 0)))<|ag (i6 x9)<|ag (.bool (decide (t46 = 0)))<|Jc<|Ji<|?_
   obtain rfl := sj H19
   refine Uy (v1 := i6 x9) (v2 := .bool (decide (t46 = 0))) rfl rfl rfl (fin rfl)
  ·refine pa<|pa<|pa<|pa<|pa<|pa<|pa<|pa<|pF (.bool false)<|ag (i6 x9)<|ag (.bool false)<|Jc<|Ji<|?_
   obtain rfl := sj H20
   refine Uy (v1 := i6 x9) (v2 := .bool false) rfl rfl rfl (fin rfl)
theorem k333 {a0 : Ta} {a1 : Int} {r : Int} (H : Jba a0 a1 = some r) : Ret prog 333 [.agg #[i6 a0.Id, i6 a0.Photo, i6 (a0.Vec 0), i6 (a0.Vec 1), i6 (a0.Vec 2), i6 (a0.Vec 3), i6 (a0.Vec 4), i6 (a0.Vec 5), i6 (a0.Vec 6), i6 (a0.Vec 7), i6 (a0.Vec 8), i6 (a0.Vec 9), i6 (a0.Vec 10), i6 (a0.Vec 11)], i6 a1] (i6 r) := by
 refine J7 (n := 15) func333 rfl rfl rfl (fun wd => ?_)
 refine Jb<|Ja<|?_
 refine Je8 (cs := [i6 a0.Id, i6 a0.Photo, i6 (a0.Vec 0), i6 (a0.Vec 1), i6 (a0.Vec 2), i6 (a0.Vec 3), i6 (a0.Vec 4), i6 (a0.Vec 5), i6 (a0.Vec 6), i6 (a0.Vec 7), i6 (a0.Vec 8), i6 (a0.Vec 9), i6 (a0.Vec 10), i6 (a0.Vec 11)]) rfl rfl rfl rfl (fun b1 => ?_)
 refine ag (i6 0)<|Jc<|Jb<|Jl<|Jb<|Ja<|lf runUnderlying38 rfl sizeOf3 rfl<|ll 0 (i6 a0.Id) isAgg3<|mv (i6 a1)<|lv (Qv rfl rfl)<|ag (.bool (decide (a0.Id < a1)))<|Jc<|?_
 revert H
 refine ci (decide (a0.Id < a1)) rfl (fun hb H5=>?_) fun hb H6=>?_
 ·refine Jb<|Ja<|ag (i6 (-1))<|Jc<|Ji<|?_
  obtain rfl := sj H5
  exact r1 (i6 (-1))
 ·refine Jb<|Ja<|lf runUnderlying38 rfl sizeOf3 rfl<|ll 0 (i6 a0.Id) isAgg3<|mv (i6 a1)<|lv (Zi rfl rfl)<|ag (.bool (decide (a1 < a0.Id)))<|Jc<|?_
  revert H6
  refine ci (decide (a1 < a0.Id)) rfl (fun hb H7=>?_) fun hb H8=>?_
  ·refine Jb<|Ja<|ag (i6 1)<|Jc<|Ji<|?_
   obtain rfl := sj H7
   exact r1 (i6 1)
  ·refine Jj<|Jb<|Ja<|ag (i6 0)<|Jc<|Ji<|?_
   obtain rfl := sj H8
   exact r1 (i6 0)
theorem k268 {a0 : (List Ta)} {v0 : Value} {a1 : Int} {r : Int × Bool} {w : World} {h : Jt} (hw : Know h w Yt) (f0 : FrS h 14 v0 (a0.map Jg)) (H : Jc0 a0 a1 = some r) : Does prog 268 (List.toArray [v0, i6 a1]) w (fun v w' => v = (.tuple #[i6 r.1, .bool r.2]) ∧ Grow w w') := by
 refine enter (n := 11) func268 rfl rfl rfl Yt [] (Sat.nil _ _)<|Jb<|Ja<|ag (i6 0)<|ag (.bool false)<|Jc<|Jb<|Ja<|mv v0<|mv (i6 a1)<|?_
 obtain ⟨t8, h_t8, H2⟩ := Je H; clear H
 refine Qm (fun w hF hS => k332 (Jr w) (f0.mono (hw.now hF)) (FnH.mk ⟨333, #[], #[], rfl, call333, fun args2 post2 w2 hk2 hR2 => by obtain ⟨a0_, a1_, r_, rfl, H_, rfl⟩ := hR2; exact k333 H_ w2⟩) h_t8) call332 rfl rfl rfl<|lv (Jm (v := i6 t8.1) rfl rfl)<|lv (Jm (v := .bool t8.2) rfl rfl)<|ag (i6 t8.1)<|ag (.bool t8.2)<|Jc<|Ji<|?_
 obtain rfl := sj H2
 refine Uy (v1 := i6 t8.1) (v2 := .bool t8.2) rfl rfl rfl (fin rfl)
theorem k206 {a0 : (List Ta)} {v0 : Value} {a1 : (List Int)} {v1 : Value} {r : Int} {w : World} {h : Jt} (hw : Know h w Yt) (f0 : FrS h 14 v0 (a0.map Jg)) (f1 : FrS h 1 v1 (a1.map Jn)) (H : Jbp a0 a1 = some r) : Does prog 206 (List.toArray [v0, v1]) w (fun v w' => v = (i6 r) ∧ Grow w w') := by
 refine enter (n := 36) func206 rfl rfl rfl Yt [] (Sat.nil _ _)<|Jb<|Ja<|ag (i6 0)<|Jc<|Jb<|Jb<|Ja<|mv v1<|lv (X4 underlying75 rfl f1 rfl)<|mv (i6 0)<|Jc<|Jl<|?_
 refine Xb (σ := Int) (τ := Unit) (fun next1 s => V4 a0 a1 next1 s) (fun s t => [(0, v0), (1, v1), (9, v1), (10, i6 (a1.length : Int)), (11, i6 s)]) (fun s t => []) (fun s t => True) 0 () [] H (by exact trivial) (by exact ⟨rfl, rfl, rfl, rfl, rfl, trivial⟩) (by decide) rfl ?_
 rintro x11_2 _ m1 gg H16 _
 clear H
 try dsimp only at H16
 generalize hn1 : it (fun next1 s => V4 a0 a1 next1 s) m1 = next1 at H16
 try dsimp only
 refine Jb<|Ja<|lv (Qv rfl rfl)<|Jc<|Jb<|?_
 revert H16
 refine ci (decide (x11_2 < (a1.length : Int))) rfl (fun hb H17=>?_) fun hb H30=>?_
 ·refine Jj ?_
  refine Qi (r := r) (σ := Unit) (τ := Unit) (fun s => Ug x11_2 next1) (fun s t => [(0, v0), (1, v1), (9, v1), (10, i6 (a1.length : Int)), (11, i6 x11_2)]) (fun s t => []) (fun s t => True) ?_ ?_
  ·refine Jl<|Jb<|Ja<|mv (i6 x11_2)<|?_
   obtain ⟨t14, h_t14, H20⟩ := Je H17; clear H17
   refine lv (J4 underlying75 sizeOf3 rfl rfl f1 h_t14)<|Jy (fun w hF hS => Ju (f := Jn) (i := x11_2) (sz := 1) (j := 0) (v := i6 t14) isAgg3 rfl rfl (f1.row (hw.now hF)) h_t14 rfl) rfl rfl rfl<|ag (i6 x11_2)<|ag (i6 t14)<|Jc<|Jb<|Jb<|Ja<|mv v0<|mv (i6 t14)<|?_
   obtain ⟨t19, h_t19, H21⟩ := Je H20; clear H20
   refine Qm (fun w hF hS => k268 (Jr w) (f0.mono (hw.now hF)) h_t19) call268 rfl rfl rfl<|mv (.tuple #[i6 t19.1, .bool t19.2])<|lv (Jm (v := i6 t19.1) rfl rfl)<|lv (Jm (v := .bool t19.2) rfl rfl)<|ag (i6 t19.1)<|ag (.bool t19.2)<|Jc<|Jb<|Ja<|mv (.bool t19.2)<|lv (V8 rfl)<|Jc<|?_
   revert H21
   refine ci (!t19.2) rfl (fun hb H22=>?_) fun hb H23=>?_
   ·refine Jb<|Ja<|ag (i6 7)<|Jc<|Ji<|?_
    obtain rfl := sj H22
    exact r1 (i6 7)
   ·refine Jj<|Jb<|Ja<|mv (i6 x11_2)<|lv (Zi rfl rfl)<|mv (.bool (decide (0 < x11_2)))<|?_
    revert H23
    refine sp (fun hb H24=>?_) fun hb H29=>?_
    ·refine mv (i6 t14)<|mv v1<|mv (i6 x11_2)<|?_
     obtain ⟨t30, h_t30, H25⟩ := Je H24; clear H24
     refine lv (Ym rfl rfl h_t30) ?_
     obtain ⟨t31, h_t31, H26⟩ := Je H25; clear H25
     refine lv (J4 underlying75 sizeOf3 rfl rfl f1 h_t31)<|Jy (fun w hF hS => Ju (f := Jn) (i := t30) (sz := 1) (j := 0) (v := i6 t31) isAgg3 rfl rfl (f1.row (hw.now hF)) h_t31 rfl) rfl rfl rfl<|lv (Jek rfl rfl)<|pT (.bool (decide (t14 ≤ t31)))<|Jc<|?_
     revert H26
     refine ci (decide (t14 ≤ t31)) rfl (fun hb H27=>?_) fun hb H28=>?_
     ·refine Jb<|Ja<|ag (i6 5)<|Jc<|Ji<|?_
      obtain rfl := sj H27
      exact r1 (i6 5)
     ·refine Jj ?_
      exact cl () () 0 [] (by exact ⟨H28, trivial⟩)
    ·refine pa<|pa<|pa<|pa<|pa<|pa<|pa<|pF (.bool false)<|Jc<|Zf rfl<|Jj<|?_
     exact cl () () 0 [] (by exact ⟨H29, trivial⟩)
  ·rintro _ _ gg H18 _
   try dsimp only at H18
   try dsimp only
   refine Ja ?_
   obtain ⟨t35, h_t35, H19⟩ := Je H18; clear H18
   refine lv (Qe rfl rfl h_t35)<|mv (i6 t35)<|Jc<|?_
   exact cl t35 () m1 [] (by exact ⟨(by subst hn1; exact H19), trivial⟩)
 ·refine Qg<|Jb<|Ja<|ag (i6 0)<|Jc<|Ji<|?_
  obtain rfl := sj H30
  exact r1 (i6 0)
theorem k244 {a0 : Int} {r : Bool} (H : Jbj a0 = some r) : Ret prog 244 [i6 a0] (.bool r) := by
 refine J7 (n := 6) func244 rfl rfl rfl (fun wd => ?_)
 refine Jb<|Ja<|ag (.bool false)<|Jc<|Jb<|Ja<|mv (i6 a0)<|mv (i6 a0)<|lv (Jaj rfl rfl)<|ag (.bool (decide (a0 ≠ a0)))<|Jc<|Ji<|?_
 obtain rfl := sj H
 exact r1 (.bool (decide (a0 ≠ a0)))
theorem k334 {a0 : Int} {a1 : Int} {r : Bool} (H : Jb6 a0 a1 = some r) : Ret prog 334 [i6 a0, i6 a1] (.bool r) := by
 refine J7 (n := 17) func334 rfl rfl rfl (fun wd => ?_)
 refine Jb<|Ja<|ag (.bool false)<|Jc<|Jb<|Ja<|mv (i6 a0)<|?_
 obtain ⟨t6, h_t6, H7⟩ := Je H; clear H
 refine Qc (k244 h_t6) call244 rfl rfl rfl<|mv (.bool t6)<|?_
 revert H7
 refine sp (fun hb H8=>?_) fun hb H12=>?_
 ·refine mv (i6 a1) ?_
  obtain ⟨t9, h_t9, H9⟩ := Je H8; clear H8
  refine Qc (k244 h_t9) call244 rfl rfl rfl<|lv (V8 rfl)<|pT (.bool (!t9))<|mv (.bool (!t9))<|?_
  revert H9
  refine sp (fun hb H10=>?_) fun hb H11=>?_
  ·refine pa<|pa<|pa<|pT (.bool true)<|ag (.bool true)<|Jc<|Ji<|?_
   obtain rfl := sj H10
   exact r1 (.bool true)
  ·refine mv (i6 a0)<|mv (i6 a1)<|lv (Qv rfl rfl)<|pF (.bool (decide (a0 < a1)))<|ag (.bool (decide (a0 < a1)))<|Jc<|Ji<|?_
   obtain rfl := sj H11
   exact r1 (.bool (decide (a0 < a1)))
 ·refine pa<|pa<|pa<|pF (.bool false)<|mv (.bool false)<|mv (i6 a0)<|mv (i6 a1)<|lv (Qv rfl rfl)<|pF (.bool (decide (a0 < a1)))<|ag (.bool (decide (a0 < a1)))<|Jc<|Ji<|?_
  obtain rfl := sj H12
  exact r1 (.bool (decide (a0 < a1)))
theorem k335 {a0 : Int} {r : Bool} (H : Uk a0 = some r) : Ret prog 335 [i6 a0] (.bool r) := by
 refine J7 (n := 6) func335 rfl rfl rfl (fun wd => ?_)
 refine Jb<|Ja<|ag (.bool false)<|Jc<|Jb<|Ja<|mv (i6 a0)<|mv (i6 a0)<|lv (Jaj rfl rfl)<|ag (.bool (decide (a0 ≠ a0)))<|Jc<|Ji<|?_
 obtain rfl := sj H
 exact r1 (.bool (decide (a0 ≠ a0)))
theorem k269 {a0 : (List Int)} {v0 : Value} {a1 : Int} {r : Int × Bool} {w : World} {h : Jt} (hw : Know h w Yt) (f0 : FrS h 1 v0 (a0.map Jn)) (H : Vz a0 a1 = some r) : Does prog 269 (List.toArray [v0, i6 a1]) w (fun v w' => v = (.tuple #[i6 r.1, .bool r.2]) ∧ Grow w w') := by
 refine enter (n := 54) func269 rfl rfl rfl Yt [] (Sat.nil _ _)<|Jb<|Ja<|ag (i6 0)<|ag (.bool false)<|Jc<|Jb<|Ja<|mv v0<|lv (X4 underlying75 rfl f0 rfl)<|ag (i6 (a0.length : Int))<|Jc<|Jb<|Ja<|mv (i6 (a0.length : Int))<|ag (i6 0)<|ag (i6 (a0.length : Int))<|Jc<|?_
 refine Qi (r := r) (σ := Int) (τ := Unit) (fun s => Yh a0 a1 s) (fun s t => [(0, v0), (1, i6 a1), (6, i6 (a0.length : Int)), (7, i6 s)]) (fun s t => []) (fun s t => True) ?_ ?_
 ·refine Jl ?_
  refine Xb (σ := Int × Int) (τ := Unit) (fun next2 s => Q7 a0 a1 next2 s.1 s.2) (fun s t => [(0, v0), (1, i6 a1), (6, i6 (a0.length : Int)), (7, i6 s.1), (8, i6 s.2)]) (fun s t => []) (fun s t => True) (0, (a0.length : Int)) () [] H (by exact trivial) (by exact ⟨rfl, rfl, rfl, rfl, rfl, trivial⟩) (by decide) rfl ?_
  rintro ⟨x7_3, x8_2⟩ _ m2 gg H33 _
  clear H
  try dsimp only at H33
  generalize hn2 : it (fun next2 s => Q7 a0 a1 next2 s.1 s.2) m2 = next2 at H33
  try dsimp only
  refine Jb<|Jb<|Ja<|mv (i6 x7_3)<|mv (i6 x8_2)<|lv (Qv rfl rfl)<|Jc<|?_
  revert H33
  refine ci (decide (x7_3 < x8_2)) rfl (fun hb H34=>?_) fun hb H42=>?_
  ·refine Jj<|Jl<|Jb<|Ja<|mv (i6 x7_3)<|mv (i6 x8_2)<|?_
   obtain ⟨t18, h_t18, H35⟩ := Je H34; clear H34
   refine lv (Qe rfl rfl h_t18)<|lv (Jcx runUnderlying3 runUnderlying248 rfl (wr_u64 _))<|?_
   obtain ⟨t20, h_t20, H36⟩ := Je H35; clear H35
   refine lv (r_shrG rfl rfl rfl h_t20)<|lv (Jcx runUnderlying248 runUnderlying3 rfl (wr_i64 _))<|ag (i6 (Jbx t20))<|Jc<|Jb<|Ja<|mv v0<|mv (i6 (Jbx t20))<|?_
   obtain ⟨t24, h_t24, H37⟩ := Je H36; clear H36
   refine lv (J4 underlying75 sizeOf3 rfl rfl f0 h_t24)<|Jy (fun w hF hS => Ju (f := Jn) (i := (Jbx t20)) (sz := 1) (j := 0) (v := i6 t24) isAgg3 rfl rfl (f0.row (hw.now hF)) h_t24 rfl) rfl rfl rfl<|mv (i6 a1)<|?_
   obtain ⟨t27, h_t27, H38⟩ := Je H37; clear H37
   refine Qc (k334 h_t27) call334 rfl rfl rfl<|Jc<|?_
   revert H38
   refine ci t27 rfl (fun hb H39=>?_) fun hb H41=>?_
   ·refine Ja<|mv (i6 (Jbx t20))<|?_
    obtain ⟨t29, h_t29, H40⟩ := Je H39; clear H39
    refine lv (Qe rfl rfl h_t29)<|ag (i6 t29)<|Jc<|?_
    exact cl (t29, x8_2) () m2 [] (by exact ⟨(by subst hn2; exact H40), trivial⟩)
   ·refine Ja<|mv (i6 (Jbx t20))<|ag (i6 (Jbx t20))<|Jc<|?_
    exact cl (x7_3, (Jbx t20)) () m2 [] (by exact ⟨(by subst hn2; exact H41), trivial⟩)
  ·refine Qg ?_
   exact cl x7_3 () 0 [] (by exact ⟨H42, trivial⟩)
 ·rintro x7 _ gg H22 _
  try dsimp only at H22
  try dsimp only
  refine Jb<|Ja<|mv (i6 x7)<|mv (i6 x7)<|mv (i6 (a0.length : Int))<|lv (Qv rfl rfl)<|mv (.bool (decide (x7 < (a0.length : Int))))<|?_
  revert H22
  refine sp (fun hb H23=>?_) fun hb H32=>?_
  ·refine mv v0<|mv (i6 x7)<|?_
   obtain ⟨t38, h_t38, H24⟩ := Je H23; clear H23
   refine lv (J4 underlying75 sizeOf3 rfl rfl f0 h_t38)<|Jy (fun w hF hS => Ju (f := Jn) (i := x7) (sz := 1) (j := 0) (v := i6 t38) isAgg3 rfl rfl (f0.row (hw.now hF)) h_t38 rfl) rfl rfl rfl<|mv (i6 a1)<|lv (Y4 rfl rfl)<|mv (.bool (decide (t38 = a1)))<|?_
   revert H24
   refine sp (fun hb H25=>?_) fun hb H26=>?_
   ·refine pa<|pa<|pa<|pa<|pa<|pa<|pa<|pa<|pa<|pT (.bool true)<|pT (.bool true)<|ag (i6 x7)<|ag (.bool true)<|Jc<|Ji<|?_
    obtain rfl := sj H25
    refine Uy (v1 := i6 x7) (v2 := .bool true) rfl rfl rfl (fin rfl)
   ·refine mv v0<|mv (i6 x7)<|?_
    obtain ⟨t45, h_t45, H27⟩ := Je H26; clear H26
    refine lv (J4 underlying75 sizeOf3 rfl rfl f0 h_t45)<|Jy (fun w hF hS => Ju (f := Jn) (i := x7) (sz := 1) (j := 0) (v := i6 t45) isAgg3 rfl rfl (f0.row (hw.now hF)) h_t45 rfl) rfl rfl rfl<|?_
    obtain ⟨t47, h_t47, H28⟩ := Je H27; clear H27
    refine Qc (k335 h_t47) call335 rfl rfl rfl<|mv (.bool t47)<|?_
    revert H28
    refine sp (fun hb H29=>?_) fun hb H31=>?_
    ·refine mv (i6 a1) ?_
     obtain ⟨t50, h_t50, H30⟩ := Je H29; clear H29
     refine Qc (k335 h_t50) call335 rfl rfl rfl<|pT (.bool t50)<|pF (.bool t50)<|pT (.bool t50)<|ag (i6 x7)<|ag (.bool t50)<|Jc<|Ji<|?_
     obtain rfl := sj H30
     refine Uy (v1 := i6 x7) (v2 := .bool t50) rfl rfl rfl (fin rfl)
    ·refine pa<|pa<|pF (.bool false)<|pF (.bool false)<|pT (.bool false)<|ag (i6 x7)<|ag (.bool false)<|Jc<|Ji<|?_
     obtain rfl := sj H31
     refine Uy (v1 := i6 x7) (v2 := .bool false) rfl rfl rfl (fin rfl)
  ·refine pa<|pa<|pa<|pa<|pa<|pa<|pa<|pa<|pa<|pa<|pa<|pa<|pa<|pa<|pa<|pa<|pa<|pF (.bool false)<|ag (i6 x7)<|ag (.bool false)<|Jc<|Ji<|?_
   obtain rfl := sj H32
   refine Uy (v1 := i6 x7) (v2 := .bool false) rfl rfl rfl (fin rfl)
theorem k208 {a0 : (List Int)} {v0 : Value} {a1 : Int} {r : Bool} {w : World} {h : Jt} (hw : Know h w Yt) (f0 : FrS h 1 v0 (a0.map Jn)) (H : Jbk a0 a1 = some r) : Does prog 208 (List.toArray [v0, i6 a1]) w (fun v w' => v = (.bool r) ∧ Grow w w') := by
 refine enter (n := 14) func208 rfl rfl rfl Yt [] (Sat.nil _ _)<|Jb<|Ja<|ag (.bool false)<|Jc<|Jb<|Ja<|mv v0<|mv (i6 a1)<|?_
 obtain ⟨t10, h_t10, H2⟩ := Je H; clear H
 refine Qm (fun w hF hS => k269 (Jr w) (f0.mono (hw.now hF)) h_t10) call269 rfl rfl rfl<|mv (.tuple #[i6 t10.1, .bool t10.2])<|lv (Jm (v := i6 t10.1) rfl rfl)<|lv (Jm (v := .bool t10.2) rfl rfl)<|ag (i6 t10.1)<|ag (.bool t10.2)<|Jc<|Jb<|Ja<|mv (.bool t10.2)<|ag (.bool t10.2)<|Jc<|Ji<|?_
 obtain rfl := sj H2
 exact r1 (.bool t10.2)
theorem k207 {q0 : Tb} {vq0_2 : Value} {vq0_3 : Value} {c0 : Nat} {a0 : Int} {r : Bool} {w : World} {h : Jt} (hw : Know h w Yt) (fq0_2 : FrS h 1 vq0_2 (q0.Likes.map Jn)) (fq0_3 : FrS h 1 vq0_3 (q0.Nots.map Jn)) (hc0 : h c0 = some (.cells (List.toArray [i6 q0.Id, Jk q0.Name, vq0_2, vq0_3]) 77 (0, 0))) (H : Wb q0 a0 = some r) : Does prog 207 (List.toArray [i6 a0, .pointer (some ⟨c0, 0, none⟩)]) w (fun v w' => v = (.bool r) ∧ Grow w w') := by
 refine enter (n := 8) func207 rfl rfl rfl Yt [] (Sat.nil _ _)<|Jb<|Ja<|ag (.bool false)<|Jc<|Jb<|Ja<|lf runUnderlying77 rfl sizeOf75 rfl<|Jy (fun w hF hS => Jer (v := vq0_3) isAgg75 rfl (hw.now hF _ _ hc0) rfl) rfl rfl rfl<|mv (i6 a0)<|?_
 obtain ⟨t7, h_t7, H2⟩ := Je H; clear H
 refine Qm (fun w hF hS => k208 (Jr w) (fq0_3.mono (hw.now hF)) h_t7) call208 rfl rfl rfl<|ag (.bool t7)<|Jc<|Ji<|?_
 obtain rfl := sj H2
 exact r1 (.bool t7)
theorem k114 {a0 : (List Ta)} {v0 : Value} {a1 : Tb} {v1_2 : Value} {v1_3 : Value} {r : Int} {w : World} {h : Jt} (hw : Know h w Yt) (f0 : FrS h 14 v0 (a0.map Jg)) (f1_2 : FrS h 1 v1_2 (a1.Likes.map Jn)) (f1_3 : FrS h 1 v1_3 (a1.Nots.map Jn)) (H : Ul a0 a1 = some r) : Does prog 114 (List.toArray [v0, .agg #[i6 a1.Id, Jk a1.Name, v1_2, v1_3]]) w (fun v w' => v = (i6 r) ∧ Grow w w') := by
 refine enter (n := 33) func114 rfl rfl rfl Yt [] (Sat.nil _ _)<|Jb<|Ja<|?_
 refine Je8 (cs := [i6 a1.Id, Jk a1.Name, v1_2, v1_3]) rfl rfl rfl rfl (fun b2 => ?_)
 refine ag (i6 0)<|Jc<|Jb<|Jb<|Ja<|lf runUnderlying77 rfl sizeOf9 rfl<|ll 0 (Jk a1.Name) isAgg9<|?_
 obtain ⟨t10, h_t10, H16⟩ := Je H; clear H
 refine Qc (k205 h_t10) call205 rfl rfl rfl<|lv (V8 rfl)<|Jc<|?_
 revert H16
 refine ci (!t10) rfl (fun hb H17=>?_) fun hb H18=>?_
 ·refine Jb<|Ja<|ag (i6 3)<|Jc<|Ji<|?_
  obtain rfl := sj H17
  exact r1 (i6 3)
 ·refine Jj ?_
  refine Qi (r := r) (σ := Unit) (τ := Unit) (fun s => Um a1) (fun s t => [(3, .pointer (some ⟨b2, 0, none⟩))]) (fun s t => [Jp b2 [i6 a1.Id, Jk a1.Name, v1_2, v1_3] 77]) (fun s t => True) ?_ ?_
  ·refine Jb<|Ja<|lf runUnderlying77 rfl sizeOf75 rfl<|ll 0 v1_2 isAgg75<|lf runUnderlying77 rfl sizeOf75 rfl<|ll 0 v1_3 isAgg75<|?_
   refine Yu (vs := [v1_2, v1_3]) (cs := [v1_2, v1_3]) underlying78 sizeOf75 zeroValue75 rfl rfl rfl rfl (by simp only [List.all_cons, List.all_nil, Jda f1_2.cells, Jda f1_3.cells] <;> rfl) rfl (by simp only [List.flatMap_cons, List.flatMap_nil, f1_2.cells, f1_3.cells] <;> rfl) (fun b3 => ?_)
   refine lv (Wx underlying78 rfl)<|mv (i6 0)<|Jc<|Jl<|?_
   refine Xb (σ := Int) (τ := Unit) (fun next2 s => Xe a0 a1 next2 s) (fun s t => [(0, v0), (3, .pointer (some ⟨b2, 0, none⟩)), (16, .slice (some ⟨b3, 0, none⟩) 2 2), (17, i6 2), (18, i6 s)]) (fun s t => [Jp b2 [i6 a1.Id, Jk a1.Name, v1_2, v1_3] 77, Jp b3 [v1_2, v1_3] 75]) (fun s t => True) 0 () [0, 1] H18 (by exact trivial) (by exact ⟨rfl, rfl, rfl, rfl, rfl, trivial⟩) (by decide) rfl ?_
   rintro x18_2 _ m2 gg H23 _
   clear H18
   try dsimp only at H23
   generalize hn2 : it (fun next2 s => Xe a0 a1 next2 s) m2 = next2 at H23
   try dsimp only
   refine Jb<|Ja<|lv (Qv rfl rfl)<|Jc<|Jb<|?_
   revert H23
   refine ci (decide (x18_2 < 2)) rfl (fun hb H24=>?_) fun hb H30=>?_
   ·refine Jj<|Jb<|Jl<|Jb<|Ja<|?_
    obtain ⟨t20, h_t20, H25⟩ := Je H24; clear H24
    refine lv (Je2 underlying78 sizeOf75 rfl rfl h_t20 rfl)<|Jy (fun w hF hS => Ju (f := (litC [v1_2, v1_3] 1)) (i := x18_2) (sz := 1) (j := 0) (v := (List.getD (List.take 1 (List.drop ((Int.toNat x18_2) * 1) [v1_2, v1_3])) 0 undef)) isAgg75 rfl rfl (Jbi (sz := 1) (xs := (List.range 2).map (litC [v1_2, v1_3] 1)) (i := 1) hS rfl rfl rfl) (gAt_range h_t20) (rg_of (Jf9 (AllG.el (G := gs_int) (h := h) (sz := 1) (cs := [v1_2, v1_3]) (xs := ([a1.Likes, a1.Nots] : List (List Int))) ⟨f1_2, f1_3, rfl⟩ _ _ (Xg h_t20).2.2)) rfl)) rfl rfl rfl<|ag ((List.getD (List.take 1 (List.drop ((Int.toNat x18_2) * 1) [v1_2, v1_3])) 0 undef))<|Jc<|Jb<|Ja<|mv v0<|mv ((List.getD (List.take 1 (List.drop ((Int.toNat x18_2) * 1) [v1_2, v1_3])) 0 undef))<|?_
    obtain ⟨t24, h_t24, H26⟩ := Je H25; clear H25
    refine Qm (fun w hF hS => k206 (Jr w) (f0.mono (hw.now hF)) ((show FrS h 1 (List.getD (List.take 1 (List.drop ((Int.toNat x18_2) * 1) [v1_2, v1_3])) 0 undef) (t20.map Jn) from (AllG.el (G := gs_int) (h := h) (sz := 1) (cs := [v1_2, v1_3]) (xs := ([a1.Likes, a1.Nots] : List (List Int))) ⟨f1_2, f1_3, rfl⟩ _ _ (Xg h_t20).2.2)).mono (hw.now hF)) h_t24) call206 rfl rfl rfl<|ag (i6 t24)<|Jc<|Jb<|Ja<|mv (i6 t24)<|lv (Jaj rfl rfl)<|Jc<|?_
    revert H26
    refine ci (decide (t24 ≠ 0)) rfl (fun hb H27=>?_) fun hb H28=>?_
    ·refine Jb<|Ja<|mv (i6 t24)<|ag (i6 t24)<|Jc<|Ji<|?_
     obtain rfl := sj H27
     exact r1 (i6 t24)
    ·refine Jj<|Ja<|?_
     obtain ⟨t28, h_t28, H29⟩ := Je H28; clear H28
     refine lv (Qe rfl rfl h_t28)<|mv (i6 t28)<|Jc<|?_
     exact cl t28 () m2 [0, 1] (by exact ⟨(by subst hn2; exact H29), trivial⟩)
   ·refine Qg ?_
    exact cl () () 0 [0] (by exact ⟨H30, trivial⟩)
  ·rintro _ _ gg H19 _
   try dsimp only at H19
   try dsimp only
   refine Jb<|Jb<|Ja<|lf runUnderlying77 rfl sizeOf75 rfl<|ll 0 v1_2 isAgg75<|lv (Jfi (caps := #[.pointer (some ⟨b2, 0, none⟩)]) rfl)<|?_
   obtain ⟨t32, h_t32, H20⟩ := Je H19; clear H19
   refine Qm (fun w hF hS => k116 (Jr w) (f1_2.mono (hw.now hF)) (FnH.mk ⟨207, #[], #[.pointer (some ⟨b2, 0, none⟩)], rfl, call207, fun args2 post2 w2 hk2 hR2 => by obtain ⟨a0_, r_, rfl, H_, rfl⟩ := hR2; exact k207 (Jr w2) ((f1_2.mono (hw.now hF)).mono hk2.up) ((f1_3.mono (hw.now hF)).mono hk2.up) (hk2.up _ _ (Y6 (i := 0) hS rfl)) H_⟩) h_t32) call116 rfl rfl rfl<|Jc<|?_
   revert H20
   refine ci t32 rfl (fun hb H21=>?_) fun hb H22=>?_
   ·refine Jb<|Ja<|ag (i6 11)<|Jc<|Ji<|?_
    obtain rfl := sj H21
    exact r1 (i6 11)
   ·refine Jj<|Jb<|Ja<|ag (i6 0)<|Jc<|Ji<|?_
    obtain rfl := sj H22
    exact r1 (i6 0)
theorem k209 {a0 : (List Ta)} {v0 : Value} {a1 : Int} {r : Int} {w : World} {h : Jt} (hw : Know h w Yt) (f0 : FrS h 14 v0 (a0.map Jg)) (H : Jcb a0 a1 = some r) : Does prog 209 (List.toArray [v0, i6 a1]) w (fun v w' => v = (i6 r) ∧ Grow w w') := by
 refine enter (n := 18) func209 rfl rfl rfl Yt [] (Sat.nil _ _)<|Jb<|Ja<|ag (i6 0)<|Jc<|Jb<|Ja<|mv v0<|mv (i6 a1)<|?_
 obtain ⟨t10, h_t10, H3⟩ := Je H; clear H
 refine Qm (fun w hF hS => k268 (Jr w) (f0.mono (hw.now hF)) h_t10) call268 rfl rfl rfl<|mv (.tuple #[i6 t10.1, .bool t10.2])<|lv (Jm (v := i6 t10.1) rfl rfl)<|lv (Jm (v := .bool t10.2) rfl rfl)<|ag (i6 t10.1)<|ag (.bool t10.2)<|Jc<|Jb<|Ja<|mv v0<|mv (i6 t10.1)<|?_
 obtain ⟨t15, h_t15, H4⟩ := Je H3; clear H3
 refine lv (J4 underlying22 sizeOf38 rfl rfl f0 h_t15)<|lv (Us runUnderlying38 rfl sizeOf3 rfl rfl (Ja7 f0 h_t15))<|Jy (fun w hF hS => Ju (f := Jg) (i := t10.1) (sz := 14) (j := 1) (v := i6 t15.Photo) isAgg3 rfl rfl (f0.row (hw.now hF)) h_t15 rfl) rfl rfl rfl<|ag (i6 t15.Photo)<|Jc<|Ji<|?_
 obtain rfl := sj H4
 exact r1 (i6 t15.Photo)
theorem k115 {a0 : (List Ta)} {v0 : Value} {a1 : (List Int)} {v1 : Value} {r : (List Int)} {w : World} {h : Jt} (hw : Know h w Yt) (f0 : FrS h 14 v0 (a0.map Jg)) (f1 : FrS h 1 v1 (a1.map Jn)) (H : Jbm a0 a1 = some r) : Does prog 115 (List.toArray [v0, v1]) w (fun v w' => ∃ x : (Option Addr × Nat), v = (sl x r.length) ∧ Turn w w' Yt (Jw 3 1 (sl x r.length) r.length (r.map Jn))) := by
 refine enter (n := 22) func115 rfl rfl rfl Yt [] (Sat.nil _ _)<|Jb<|Ja<|ag (.slice none 0 0)<|Jc<|Jb<|Ja<|ag (.slice none 0 0)<|Jc<|Jb<|Jb<|Ja<|mv v1<|lv (X4 underlying75 rfl f1 rfl)<|mv (i6 0)<|Jc<|Jl<|Q1 3 1<|?_
 refine Xb (σ := Int × (List Int)) (τ := (Option Addr × Nat)) (fun next1 s => Zn a0 a1 next1 s.1 s.2) (fun s t => [(0, v0), (5, sl t s.2.length), (8, v1), (9, i6 (a1.length : Int)), (10, i6 s.1)]) (fun s t => [Jw 3 1 (sl t s.2.length) s.2.length (s.2.map Jn)]) (fun s t => True) (0, ([] : List Int)) nn [0] H (by exact trivial) (by exact ⟨rfl, rfl, rfl, rfl, rfl, trivial⟩) (by decide) rfl ?_
 rintro ⟨x10_2, l_2⟩ p m1 gg H8 _
 clear H
 try dsimp only at H8
 generalize hn1 : it (fun next1 s => Zn a0 a1 next1 s.1 s.2) m1 = next1 at H8
 try dsimp only
 refine Jb<|Ja<|lv (Qv rfl rfl)<|Jc<|Jb<|?_
 revert H8
 refine ci (decide (x10_2 < (a1.length : Int))) rfl (fun hb H9=>?_) fun hb H14=>?_
 ·refine Jj<|Jb<|Jl<|Jb<|Ja<|?_
  obtain ⟨t12, h_t12, H10⟩ := Je H9; clear H9
  refine lv (J4 underlying75 sizeOf3 rfl rfl f1 h_t12)<|Jy (fun w hF hS => Ju (f := Jn) (i := x10_2) (sz := 1) (j := 0) (v := i6 t12) isAgg3 rfl rfl (f1.row (hw.now hF)) h_t12 rfl) rfl rfl rfl<|ag (i6 t12)<|Jc<|Ja<|mv (sl p l_2.length)<|mv v0<|mv (i6 t12)<|?_
  obtain ⟨t17, h_t17, H11⟩ := Je H10; clear H10
  refine Qm (fun w hF hS => k209 (Jr w) (f0.mono (hw.now hF)) h_t17) call209 rfl rfl rfl ?_
  refine Yu (vs := [i6 t17]) (cs := [i6 t17]) underlying75 sizeOf3 zeroValue3 rfl rfl rfl rfl rfl rfl rfl (fun b1 => ?_)
  obtain ⟨l19, h_l19, H12⟩ := Je H11; clear H11
  refine Xl (Jbd (i := 0) (hn := rfl) (rds := [1]) (p := p) (sz := 1) (by_ := 8) (f := Jn) (ys := l_2) (ls := ([t17] : List Int)) (V := .slice (some ⟨b1, 0, none⟩) 1 1) underlying75 (Vo typeInfo3) rfl rfl rfl rfl rfl rfl rfl rfl rfl rfl (fun w L' hF hS hi => Jbi (i := 1) hS ((hi 1 (by simp)).trans rfl) rfl rfl) (fun _ => rfl) (fun _ => rfl) h_l19) rfl rfl rfl (fun p_2 => ?_)
  refine ag (sl p_2 l19.length)<|Jc<|Ja<|?_
  obtain ⟨t20, h_t20, H13⟩ := Je H12; clear H12
  refine lv (Qe rfl rfl h_t20)<|mv (i6 t20)<|Jc<|?_
  exact cl (t20, l19) p_2 m1 [0] (by exact ⟨(by subst hn1; exact H13), trivial⟩)
 ·refine Qg<|Jb<|Ja<|mv (sl p l_2.length)<|ag (sl p l_2.length)<|Jc<|Ji<|?_
  obtain rfl := sj H14
  refine Wm (v := sl p l_2.length) rfl rfl (Yx p (i := 0) rfl rfl (Imp.refl _))
theorem k117 {q0 : (List (Int × Bool))} {vq0 : Value} {c0 : Nat} {a0 : Int} {r : Bool} {w : World} {h : Jt} (hw : Know h w Yt) (fq0 : FrM h (fun x_ : Int => i6 x_) (fun x_ : Bool => .bool x_) vq0 q0) (hc0 : h c0 = some (.cells (List.toArray [vq0]) 74 (0, 0))) (H : Jaf q0 a0 = some r) : Does prog 117 (List.toArray [i6 a0, .pointer (some ⟨c0, 0, none⟩)]) w (fun v w' => v = (.bool r) ∧ Grow w w') := by
 refine enter (n := 7) func117 rfl rfl rfl Yt [] (Sat.nil _ _)<|Jb<|Ja<|ag (.bool false)<|Jc<|Jb<|Ja<|Jy (fun w hF hS => Jer (v := vq0) isAgg74 rfl (hw.now hF _ _ hc0) rfl) rfl rfl rfl<|mv (i6 a0)<|Jy (fun w hF hS => run_lookupF (fk := (fun x_ : Int => i6 x_)) (fv := (fun x_ : Bool => .bool x_)) (k := a0) (z := false) Jc8 underlying74 underlying3 zeroValue4 rfl rfl (fq0.mono (hw.now hF))) rfl rfl rfl<|ag (.bool ((Jcp q0 a0).getD false))<|Jc<|Ji<|?_
 obtain rfl := sj H
 exact r1 (.bool ((Jcp q0 a0).getD false))
theorem k149 {a : Option Addr} {n c : Nat} (hc : n ≤ c) : Ret prog 149 [.slice a n c] (.slice (Yc a 0 n 1) n n) := by
  refine J7 (n := 9) func149 rfl rfl rfl (fun wd => ?_)
  refine Jb<|Ja<|ag (.slice none 0 0)<|Jc<|Jb<|Ja<|mv (.slice a n c)<|mv (.slice a n c)<|lv (Wx underlying75 rfl)<|mv (.slice a n c)<|lv (Wx underlying75 rfl)<|lv (Jfv (a := a) (m := n) (c := c) (h := (n : Int)) (q := (n : Int)) underlying75 sizeOf3 rfl rfl rfl (Int.natCast_nonneg n) (Int.le_refl _) (Int.ofNat_le.2 hc))<|ag (.slice (Yc a 0 n 1) n n)<|Jc<|Ji<|?_
  exact Wm (v := .slice (Yc a 0 n 1) n n) rfl rfl (fin rfl)
theorem k270 {n : Int} {u : Nat} (hg : gGroC 8 n = some u) (w : World) : Does prog 270 (List.toArray [.slice none 0 0, i6 n]) w (fun v w' => ∃ p : Option Addr × Nat, v = sl p 0 ∧ Turn w w' Yt (rowC 3 1 (sl p 0) 0 [] u)) := by
  obtain ⟨rfl, h0, h1, h2⟩ := gGroC_some hg
  obtain ⟨m, rfl⟩ : ∃ m : Nat, n = (m : Int) := ⟨n.toNat, (Int.toNat_of_nonneg h0).symm⟩
  rw [Int.toNat_natCast] at h2 ⊢
  refine enter (n := 27) func270 rfl rfl rfl Yt [] (Sat.nil _ _)<|Jb<|Ja<|ag (.slice none 0 0)<|Jc<|Jb<|Jb<|Ja<|mv (i6 (m : Int))<|lv (r_decF (Qv rfl rfl) (by omega))<|Jc<|Zf rfl<|Jj<|Jb<|Jb<|Ja<|mv (i6 (m : Int))<|mv (.slice none 0 0)<|lv (r_cap (c := 0) underlying75 rfl)<|mv (.slice none 0 0)<|lv (Wx (m := 0) underlying75 rfl)<|lv (Ym (z := 0) rfl rfl (by decide))<|lv (Ym (z := (m : Int)) rfl rfl (by rw [Int.sub_zero]; exact Qf (by omega)))<|ag (i6 (m : Int))<|Jc<|Jb<|Ja<|mv (i6 (m : Int))<|?_
  rcases Nat.eq_zero_or_pos m with hm | hm
  · refine Jeo rfl rfl rfl (r_decF (Zi rfl rfl) (by omega)) ?_
    refine Jc<|Zf rfl<|Jj<|Jb<|Ja<|mv (.slice none 0 0)<|ag (.slice none 0 0)<|Jc<|Ji<|?_
    subst hm
    refine Q1 3 1<|Xx 0 rfl (imp_C0 3 1 _)<|?_
    exact Wm (v := .slice none 0 0) rfl rfl (Yx nn (i := 0) rfl rfl (Imp.refl _))
  · refine Jeo rfl rfl rfl (r_decT (Zi rfl rfl) (by omega)) ?_
    refine Jc<|Zv rfl<|Ja<|mv (.slice none 0 0)<|mv (.slice none 0 0)<|lv (r_cap (c := 0) underlying75 rfl)<|lv (Jg6 (a := none) (m := 0) (c := 0) (h := 0) underlying75 sizeOf3 rfl rfl (by decide) (by decide))<|mv (i6 (m : Int))<|?_
    refine Zr (rds := []) (makes_zerosC (E := 3) (sz := 1) (by_ := 8) (m := m) underlying75 underlying3 (Vo typeInfo3) rfl rfl rfl rfl rfl rfl rfl hm (by omega) h2) rfl rfl rfl (fun ⟨g0, c0⟩ => ?_)
    refine mv (.slice none 0 0)<|lv (Wx (m := 0) underlying75 rfl)<|lv (r_sliceH0 (g0 := g0) (c := c0) underlying75 sizeOf3 rfl rfl)<|ag (.slice (some ⟨g0, 0, none⟩) 0 c0)<|Jc<|Jb<|Ja<|mv (.slice (some ⟨g0, 0, none⟩) 0 c0)<|ag (.slice (some ⟨g0, 0, none⟩) 0 c0)<|Jc<|Ji<|?_
    exact Wm (v := .slice (some ⟨g0, 0, none⟩) 0 c0) rfl rfl (Yx ((some ⟨g0, 0, none⟩, c0) : Option Addr × Nat) (i := 0) rfl rfl (Imp.refl _))
theorem k211 {a0 : (List (List Int))} {v0 : Value} {r : (List Int)} {w : World} {h : Jt} (hw : Know h w Yt) (f0 : FrN h 1 v0 gs_int a0) (H : Ww a0 = some r) : Does prog 211 (List.toArray [v0]) w (fun v w' => ∃ x : (Option Addr × Nat), v = (sl x r.length) ∧ Turn w w' Yt (Jw 3 1 (sl x r.length) r.length (r.map Jn))) := by
 refine enter (n := 36) func211 rfl rfl rfl Yt [] (Sat.nil _ _)<|Jb<|Ja<|ag (.slice none 0 0)<|Jc<|Jb<|Ja<|ag (i6 0)<|Jc<|?_
 refine Qi (r := r) (σ := Int) (τ := Unit) (fun s => W3 a0 s) (fun s t => [(0, v0), (3, i6 s)]) (fun s t => []) (fun s t => True) ?_ ?_
 ·refine Jb<|Ja<|mv v0<|lv (Jas underlying78 rfl f0)<|mv (i6 0)<|Jc<|Jl<|?_
  refine Xb (σ := Int × Int) (τ := Unit) (fun next3 s => Qn a0 next3 s.1 s.2) (fun s t => [(0, v0), (3, i6 s.1), (9, v0), (10, i6 (a0.length : Int)), (11, i6 s.2)]) (fun s t => []) (fun s t => True) (0, 0) () [] H (by exact trivial) (by exact ⟨rfl, rfl, rfl, rfl, rfl, trivial⟩) (by decide) rfl ?_
  rintro ⟨x3_3, x11_2⟩ _ m3 gg H25 _
  clear H
  try dsimp only at H25
  generalize hn3 : it (fun next3 s => Qn a0 next3 s.1 s.2) m3 = next3 at H25
  try dsimp only
  refine Jb<|Ja<|lv (Qv rfl rfl)<|Jc<|Jb<|?_
  revert H25
  refine ci (decide (x11_2 < (a0.length : Int))) rfl (fun hb H26=>?_) fun hb H32=>?_
  ·refine Jj<|Jb<|Jl<|Jb<|Ja<|?_
   obtain ⟨t13, h_t13, H27⟩ := Je H26; clear H26
   refine lv (J4 underlying78 sizeOf75 rfl rfl f0.frs (f0.ix h_t13))<|Jy (fun w hF hS => Ju (f := (elC h v0 1)) (i := x11_2) (sz := 1) (j := 0) (v := (Qt h v0 1 (Int.toNat x11_2) 0)) isAgg75 rfl rfl (f0.frs.row (hw.now hF)) (f0.ix h_t13) (rg_of (Jf9 (f0.at h_t13)) rfl)) rfl rfl rfl<|ag ((Qt h v0 1 (Int.toNat x11_2) 0))<|Jc<|Jb<|Ja<|mv (i6 x3_3)<|mv ((Qt h v0 1 (Int.toNat x11_2) 0))<|lv (X4 underlying75 rfl (show FrS h 1 (Qt h v0 1 (Int.toNat x11_2) 0) (t13.map Jn) from (f0.at h_t13)) rfl)<|?_
   obtain ⟨t18, h_t18, H28⟩ := Je H27; clear H27
   refine lv (Qe rfl rfl h_t18)<|ag (i6 t18)<|Jc<|Jb<|Ja<|mv (i6 t18)<|lv (Qv rfl rfl)<|Jc<|?_
   revert H28
   refine ci (decide (t18 < 0)) rfl (fun hb H29=>?_) fun hb H30=>?_
   ·exact absurd (show (none : Option ((List Int))) = some r from H29) (fun h => by cases h)
   ·refine Jj<|Ja<|?_
    obtain ⟨t22, h_t22, H31⟩ := Je H30; clear H30
    refine lv (Qe rfl rfl h_t22)<|mv (i6 t22)<|Jc<|?_
    exact cl (t18, t22) () m3 [] (by exact ⟨(by subst hn3; exact H31), trivial⟩)
  ·refine Qg ?_
   exact cl x3_3 () 0 [] (by exact ⟨H32, trivial⟩)
 ·rintro x3 _ gg H17 _
  try dsimp only at H17
  try dsimp only
  refine Jb<|Ja<|mv (i6 x3)<|?_
  obtain ⟨u24, h_u24, H18⟩ := Je H17; clear H17
  refine Zr (Ye (rds := []) (G := fun x : (Option Addr × Nat) => sl x ([] : List Int).length) (C := fun x : (Option Addr × Nat) => rowC 3 1 (sl x ([] : List Int).length) ([] : List Int).length (([] : List Int).map Jn) u24) (fun w L' hF hS hi => k270 h_u24 w) call270 rfl) rfl rfl rfl (fun p => ?_)
  refine ag (sl p ([] : List Int).length)<|Jc<|Jb<|Jb<|Ja<|mv v0<|lv (Jas underlying78 rfl f0)<|mv (i6 0)<|Jc<|Jl<|?_
  refine Xb (σ := Int × (List Int)) (τ := (Option Addr × Nat)) (fun next2 s => Qo a0 u24 next2 s.1 s.2) (fun s t => [(6, sl t s.2.length), (25, v0), (26, i6 (a0.length : Int)), (27, i6 s.1)]) (fun s t => [rowC 3 1 (sl t s.2.length) s.2.length (s.2.map Jn) u24]) (fun s t => True) (0, ([] : List Int)) p [0] H18 (by exact trivial) (by exact ⟨rfl, rfl, rfl, rfl, trivial⟩) (by decide) rfl ?_
  rintro ⟨x27_2, l_2⟩ p_2 m2 gg H19 _
  clear H18
  try dsimp only at H19
  generalize hn2 : it (fun next2 s => Qo a0 u24 next2 s.1 s.2) m2 = next2 at H19
  try dsimp only
  refine Jb<|Ja<|lv (Qv rfl rfl)<|Jc<|Jb<|?_
  revert H19
  refine ci (decide (x27_2 < (a0.length : Int))) rfl (fun hb H20=>?_) fun hb H24=>?_
  ·refine Jj<|Jb<|Jl<|Jb<|Ja<|?_
   obtain ⟨t29, h_t29, H21⟩ := Je H20; clear H20
   refine lv (J4 underlying78 sizeOf75 rfl rfl f0.frs (f0.ix h_t29))<|Jy (fun w hF hS => Ju (f := (elC h v0 1)) (i := x27_2) (sz := 1) (j := 0) (v := (Qt h v0 1 (Int.toNat x27_2) 0)) isAgg75 rfl rfl (f0.frs.row (hw.now hF)) (f0.ix h_t29) (rg_of (Jf9 (f0.at h_t29)) rfl)) rfl rfl rfl<|ag ((Qt h v0 1 (Int.toNat x27_2) 0))<|Jc<|Ja<|mv (sl p_2 l_2.length)<|mv ((Qt h v0 1 (Int.toNat x27_2) 0))<|?_
   obtain ⟨l33, h_l33, H22⟩ := Je H21; clear H21
   refine Xl (turns_appC (i := 0) (hn := rfl) (rds := []) (p := p_2) (sz := 1) (by_ := 8) (f := Jn) (ys := l_2) (ls := t29) (V := (Qt h v0 1 (Int.toNat x27_2) 0)) underlying75 (Vo typeInfo3) rfl rfl rfl rfl rfl rfl rfl rfl (show FrS h 1 (Qt h v0 1 (Int.toNat x27_2) 0) (t29.map Jn) from (f0.at h_t29)).eq (List.length_map _) (fun w L' hF hS hi => ((show FrS h 1 (Qt h v0 1 (Int.toNat x27_2) 0) (t29.map Jn) from (f0.at h_t29))).row (hw.now hF)) (fun _ => rfl) (fun _ => rfl) h_l33) rfl rfl rfl (fun p_3 => ?_)
   refine ag (sl p_3 l33.length)<|Jc<|Ja<|?_
   obtain ⟨t34, h_t34, H23⟩ := Je H22; clear H22
   refine lv (Qe rfl rfl h_t34)<|mv (i6 t34)<|Jc<|?_
   exact cl (t34, l33) p_3 m2 [0] (by exact ⟨(by subst hn2; exact H23), trivial⟩)
  ·refine Qg<|Jb<|Ja<|mv (sl p_2 l_2.length)<|ag (sl p_2 l_2.length)<|Jc<|Ji<|?_
   obtain rfl := sj H24
   refine Xx 0 rfl (Jg3 _ _ _ _ _ _) ?_
   refine Wm (v := sl p_2 l_2.length) rfl rfl (Yx p_2 (i := 0) rfl rfl (Imp.refl _))
theorem k212 {a0 : (List Int)} {p0 : Option Addr × Nat} {n0 : Nat} {r : (List Int)} {w : World} {h : Jt} {S : Nat → Prop} (hcs : (Jw 3 1 (sl p0 n0) n0 (a0.map Jn)).P S w) (hlt : ∀ b, S b → b < w.heap.size) (_ : Know h w S) (hn0 : n0 = a0.length) (H : gSortI a0 = some r) : Does prog 212 (List.toArray [sl p0 n0]) w (fun v w' => ∃ x : Unit, v = (.tuple #[]) ∧ Turn w w' S (Jw 3 1 (sl p0 n0) n0 (r.map Jn))) :=
  sort_ints (ρ := Go.Proofs.Tryz.lays189_ren) Go.Proofs.Tryz.lays189 hcs hlt hn0 H
theorem k213 {a0 : List Int} {p0 : Option Addr × Nat} {n0 : Nat} {r : List Int} {w : World} {h : Jt} {S : Nat → Prop} (hcs : (Jw 3 1 (sl p0 n0) n0 (a0.map Jn)).P S w) (hlt : ∀ b, S b → b < w.heap.size) (_ : Know h w S) (hn0 : n0 = a0.length) (H : gCmpI a0 = some r) : Does prog 213 (List.toArray [sl p0 n0]) w (fun v w' => ∃ x : (Option Addr × Nat), v = (sl x r.length) ∧ Turn w w' S (Jw 3 1 (sl x r.length) r.length (r.map Jn))) :=
  compact_ints (ρ := Go.Proofs.Tryz.laysNm220_ren) Go.Proofs.Tryz.laysNm220 hcs hlt hn0 H
theorem k118 {a0 : (List Int)} {v0 : Value} {a1 : (List Int)} {v1 : Value} {r : (List Int)} {w : World} {h : Jt} (hw : Know h w Yt) (f0 : FrS h 1 v0 (a0.map Jn)) (f1 : FrS h 1 v1 (a1.map Jn)) (H : Jd9 a0 a1 = some r) : Does prog 118 (List.toArray [v0, v1]) w (fun v w' => ∃ x : (Option Addr × Nat), v = (sl x r.length) ∧ Turn w w' Yt (roV 1 (sl x r.length) r.length (r.map Jn))) := by
 refine enter (n := 15) func118 rfl rfl rfl Yt [] (Sat.nil _ _)<|Jb<|Ja<|ag (.slice none 0 0)<|Jc<|Jb<|Ja<|mv v0<|mv v1<|?_
 refine Yu (vs := [v0, v1]) (cs := [v0, v1]) underlying78 sizeOf75 zeroValue75 rfl rfl rfl rfl (by simp only [List.all_cons, List.all_nil, Jda f0.cells, Jda f1.cells] <;> rfl) rfl (by simp only [List.flatMap_cons, List.flatMap_nil, f0.cells, f1.cells] <;> rfl) (fun b2 => ?_)
 obtain ⟨t9, h_t9, H7⟩ := Je H; clear H
 refine Zr (Ye (rds := [0]) (G := fun x : (Option Addr × Nat) => sl x t9.length) (C := fun x : (Option Addr × Nat) => Jw 3 1 (sl x t9.length) t9.length (t9.map Jn)) (fun w L' hF hS hi => k211 (Jr w) (frn_box (G := gs_int) (sz := 1) (xs := ([a0, a1] : List (List Int))) (i := 0) hS ((hi 0 (by simp)).trans rfl) rfl rfl rfl ⟨(f0.mono (hw.now hF)), (f1.mono (hw.now hF)), rfl⟩) h_t9) call211 rfl) rfl rfl rfl (fun p => ?_)
 refine ag (sl p t9.length)<|Jc<|Jb<|Ja<|mv (sl p t9.length)<|?_
 obtain ⟨t11, h_t11, H8⟩ := Je H7; clear H7
 refine Xl (Qp (i := 1) (rds := []) (G := fun x : Unit => .tuple #[]) (C := fun x : Unit => Jw 3 1 (sl p t9.length) t9.length (t11.map Jn)) rfl (fun w L' S hF hS hi hp hlt ho hA => k212 hp hlt (Q4 w S) rfl h_t11) call212 rfl) rfl rfl rfl (fun _ => ?_)
 refine c_know (fun w hF hS => lenOf (i := 1) hS rfl) (fun hl_ => ?_)
 have hl : t9.length = t11.length := by simpa using hl_.symm
 refine Jc<|Jb<|Ja<|mv (sl p t9.length)<|?_
 obtain ⟨t13, h_t13, H9⟩ := Je H8; clear H8
 refine Xl (Qp (i := 1) (rds := []) (G := fun x : (Option Addr × Nat) => sl x t13.length) (C := fun x : (Option Addr × Nat) => Jw 3 1 (sl x t13.length) t13.length (t13.map Jn)) rfl (fun w L' S hF hS hi hp hlt ho hA => k213 hp hlt (Q4 w S) hl h_t13) call213 rfl) rfl rfl rfl (fun p_2 => ?_)
 refine Qm (fun w hF hS => k149 (Jc2 (i := 1) hS rfl) w) call149 rfl rfl rfl<|ag (.slice (Yc p_2.1 0 t13.length 1) t13.length t13.length)<|Jc<|Ji<|?_
 obtain rfl := sj H9
 refine Xx 1 rfl (Jc6 _ _ _ _ _ _) ?_
 refine Wm (v := .slice (Yc p_2.1 0 t13.length 1) t13.length t13.length) rfl rfl (Yx (Yc p_2.1 0 t13.length 1, t13.length) (i := 1) rfl rfl (Imp.refl _))
theorem k34 {a0 : (List Ta)} {v0 : Value} {a1 : (List Tb)} {v1 : Value} {r : Int} {w : World} {h : Jt} (hw : Know h w Yt) (f0 : FrS h 14 v0 (a0.map Jg)) (f1 : FrN h 4 v1 g_face_Person a1) (H : Qj a0 a1 = some r) : Does prog 34 (List.toArray [v0, v1]) w (fun v w' => v = (i6 r) ∧ Grow w w') := by
 refine enter (n := 78) func34 rfl rfl rfl Yt [] (Sat.nil _ _)<|Jb<|Ja<|ag (i6 0)<|Jc<|Jb<|Jb<|Ja<|mv v0<|?_
 obtain ⟨t14, h_t14, H37⟩ := Je H; clear H
 refine Qm (fun w hF hS => k112 (Jr w) (f0.mono (hw.now hF)) h_t14) call112 rfl rfl rfl<|ag (i6 t14)<|Jc<|Jb<|Ja<|mv (i6 t14)<|lv (Jaj rfl rfl)<|Jc<|?_
 revert H37
 refine ci (decide (t14 ≠ 0)) rfl (fun hb H38=>?_) fun hb H39=>?_
 ·refine Jb<|Ja<|mv (i6 t14)<|ag (i6 t14)<|Jc<|Ji<|?_
  obtain rfl := sj H38
  exact r1 (i6 t14)
 ·refine Jj<|Jb<|Jb<|Ja<|mv v1<|lv (Jas underlying23 rfl f1)<|lv (Zi rfl rfl)<|Jc<|?_
  revert H39
  refine ci (decide (100 < (a1.length : Int))) rfl (fun hb H40=>?_) fun hb H41=>?_
  ·refine Jb<|Ja<|ag (i6 4)<|Jc<|Ji<|?_
   obtain rfl := sj H40
   exact r1 (i6 4)
  ·refine Jj<|Jb<|Ja<|?_
   refine Zr (rds := []) (Jfy (fk := (fun x_ : Int => i6 x_)) (fv := (fun x_ : Bool => .bool x_))) rfl rfl rfl (fun b3 => ?_)
   refine Z6 (cs := [.map none]) zeroValue74 rfl rfl rfl (fun b4 => ?_)
   refine st (i := 1) [.map (some b3)] [.map (some b3)] sizeOf74 rfl rfl<|Jc<|Jb<|Jb<|Ja<|mv v1<|lv (Jas underlying23 rfl f1)<|mv (i6 0)<|Jc<|Jl<|?_
   refine Xb (σ := Int × (List (Int × Bool))) (τ := Unit) (fun next1 s => J2 a0 a1 next1 s.1 s.2) (fun s t => [(0, v0), (1, v1), (6, .pointer (some ⟨b4, 0, none⟩)), (22, v1), (23, i6 (a1.length : Int)), (24, i6 s.1)]) (fun s t => [Jb8 (fun x_ : Int => i6 x_) (fun x_ : Bool => .bool x_) b3 s.2, Jp b4 [.map (some b3)] 74]) (fun s t => True) (0, ([] : (List (Int × Bool)))) () [0, 1] H41 (by exact trivial) (by exact ⟨rfl, rfl, rfl, rfl, rfl, rfl, trivial⟩) (by decide) rfl ?_
   rintro ⟨x24_2, mp_2⟩ _ m1 gg H42 _
   clear H41
   try dsimp only at H42
   generalize hn1 : it (fun next1 s => J2 a0 a1 next1 s.1 s.2) m1 = next1 at H42
   try dsimp only
   refine Jb<|Ja<|lv (Qv rfl rfl)<|Jc<|Jb<|?_
   revert H42
   refine ci (decide (x24_2 < (a1.length : Int))) rfl (fun hb H43=>?_) fun hb H72=>?_
   ·refine Jj ?_
    refine Qi (r := r) (σ := Int × Int × Bool × (List Int) × (List Int) × (List (Int × Bool))) (τ := (Option Addr × Nat) × (Option Addr × Nat)) (fun s => Jb0 x24_2 next1 s.1 s.2.1 s.2.2.1 s.2.2.2.1 s.2.2.2.2.1 s.2.2.2.2.2) (fun s t => [(0, v0), (1, v1), (6, .pointer (some ⟨b4, 0, none⟩)), (22, v1), (23, i6 (a1.length : Int)), (24, i6 x24_2), (60, .slice t.1.1 s.2.2.2.1.length t.1.2), (61, .slice t.2.1 s.2.2.2.2.1.length t.2.2), (62, i6 s.1), (63, .slice t.1.1 s.2.2.2.1.length t.1.2), (64, i6 s.2.1), (65, .bool s.2.2.1)]) (fun s t => [Jb8 (fun x_ : Int => i6 x_) (fun x_ : Bool => .bool x_) b3 s.2.2.2.2.2, Jp b4 [.map (some b3)] 74, Jw 3 1 (.slice t.1.1 s.2.2.2.1.length t.1.2) s.2.2.2.1.length (s.2.2.2.1.map Jn), roV 1 (.slice t.2.1 s.2.2.2.2.1.length t.2.2) s.2.2.2.2.1.length (s.2.2.2.2.1.map Jn)]) (fun s t => True) ?_ ?_
    ·refine Jl<|Jb<|Ja<|mv (i6 x24_2)<|?_
     obtain ⟨t27, h_t27, H46⟩ := Je H43; clear H43
     refine lv (J4 underlying23 sizeOf77 rfl rfl f1.frs (f1.ix h_t27))<|Jy (fun w hF hS => X2 (f := (elC h v1 4)) (i := x24_2) (sz := 4) (j := 0) (vs := [i6 t27.Id, Jk t27.Name, (Qt h v1 4 (Int.toNat x24_2) 2), (Qt h v1 4 (Int.toNat x24_2) 3)]) isAgg77 sizeOf77 rfl rfl (f1.frs.row (hw.now hF)) (f1.ix h_t27) (rd_of (Yw (f1.at h_t27)) rfl)) rfl rfl rfl<|?_
     refine Z6 (cs := [i6 0, Jk [], .slice none 0 0, .slice none 0 0]) zeroValue77 rfl rfl rfl (fun b5 => ?_)
     refine ag (i6 x24_2)<|U5 (i := 2) (vs := [i6 t27.Id, Jk t27.Name, (Qt h v1 4 (Int.toNat x24_2) 2), (Qt h v1 4 (Int.toNat x24_2) 3)]) (cs' := [i6 t27.Id, Jk t27.Name, (Qt h v1 4 (Int.toNat x24_2) 2), (Qt h v1 4 (Int.toNat x24_2) 3)]) sizeOf77 rfl rfl rfl rfl rfl rfl (by simp only [List.all_cons, List.all_nil, (show FrS h 1 (Qt h v1 4 (Int.toNat x24_2) 2) (t27.Likes.map Jn) from (Jo (f1.at h_t27))).one, (show FrS h 1 (Qt h v1 4 (Int.toNat x24_2) 3) (t27.Nots.map Jn) from (J0 (f1.at h_t27))).one] <;> rfl) rfl rfl<|Jc<|Jb<|Jb<|Ja<|lf runUnderlying77 rfl sizeOf3 rfl<|ll 2 (i6 t27.Id) isAgg3<|?_
     obtain ⟨t31, h_t31, H47⟩ := Je H46; clear H46
     refine Qc (k113 h_t31) call113 rfl rfl rfl<|Jc<|?_
     revert H47
     refine ci t31 rfl (fun hb H48=>?_) fun hb H49=>?_
     ·refine Jb<|Ja<|ag (i6 2)<|Jc<|Ji<|?_
      obtain rfl := sj H48
      exact r1 (i6 2)
     ·refine Jj ?_
      refine Qi (r := r) (σ := Unit) (τ := Unit) (fun s => Qu a0 x24_2 mp_2 next1 t27) (fun s t => [(0, v0), (1, v1), (6, .pointer (some ⟨b4, 0, none⟩)), (8, .pointer (some ⟨b5, 0, none⟩)), (22, v1), (23, i6 (a1.length : Int)), (24, i6 x24_2)]) (fun s t => [Jb8 (fun x_ : Int => i6 x_) (fun x_ : Bool => .bool x_) b3 mp_2, Jp b4 [.map (some b3)] 74, Jp b5 [i6 t27.Id, Jk t27.Name, (Qt h v1 4 (Int.toNat x24_2) 2), (Qt h v1 4 (Int.toNat x24_2) 3)] 77]) (fun s t => True) ?_ ?_
      ·refine Jb ?_
       exact Xp (Kd.p :: Kd.p :: Kd.p :: Kd.p :: Kd.d [2] _ :: Kd.p :: Kd.p :: Kd.p :: Kd.p :: Kd.p :: Kd.d [] _ :: Kd.p :: Kd.p :: []) 0 mixed (by
        refine dm (i6 x24_2)<|dv (Zi rfl rfl)<|dm (.bool (decide (0 < x24_2)))<|?_
        refine Jfu (fun hb => ?_) (fun hb => ?_)
        ·have H66 := Jen hb H49
         refine dv (Ya runUnderlying77 rfl sizeOf3 rfl rfl)<|dl (i6 t27.Id) isAgg3<|dm v1<|dm (i6 x24_2)<|?_
         have h_t39 := Qh H66
         have H67 := J3 H66
         refine dv (Ym rfl rfl h_t39) ?_
         have h_t40 := Qh H67
         have H68 := J3 H67
         refine dv (J4 underlying23 sizeOf77 rfl rfl f1.frs (f1.ix h_t40))<|dv (Us runUnderlying77 rfl sizeOf3 rfl rfl (Ja7 f1.frs (f1.ix h_t40)))<|Jdy (fun w hF => Ju (f := (elC h v1 4)) (i := (val (gI (x24_2 - 1)))) (sz := 4) (j := 0) (v := i6 (val (Qk a1 (val (gI (x24_2 - 1))))).Id) isAgg3 rfl rfl (f1.frs.row (hw.now hF)) (f1.ix h_t40) (rg_of (Yw (f1.at h_t40)) rfl)) rfl rfl<|dv (Jek rfl rfl)<|dv (Jdo (v := .bool (decide (t27.Id ≤ (val (Qk a1 (val (gI (x24_2 - 1))))).Id))) rfl rfl)<|Wk<|?_
         revert H68
         refine ci (decide (t27.Id ≤ (val (Qk a1 (val (gI (x24_2 - 1))))).Id)) rfl (fun hb H69=>?_) fun hb H70=>?_
         ·refine Jb<|Ja<|ag (i6 5)<|Jc<|Ji<|?_
          obtain rfl := sj H69
          exact r1 (i6 5)
         ·refine Jj ?_
          exact cl () () 0 [0, 1, 2] (by exact ⟨H70, trivial⟩)
        ·have H71 := Jei hb H49
         refine dp<|dp<|dp<|dp<|dp<|dp<|dp<|dp<|dp<|dv (Jcv (v := .bool false) rfl rfl)<|Wk<|Zf rfl<|Jj<|?_
         exact cl () () 0 [0, 1, 2] (by exact ⟨H71, trivial⟩)
        ) (by kernel_rfl)
      ·rintro _ _ gg H50 _
       try dsimp only at H50
       try dsimp only
       refine Jb<|Jb<|Ja<|mv v0<|Jca (i := 2) (vs := [i6 t27.Id, Jk t27.Name, (Qt h v1 4 (Int.toNat x24_2) 2), (Qt h v1 4 (Int.toNat x24_2) 3)]) isAgg77 sizeOf77 rfl rfl rfl rfl rfl<|?_
       obtain ⟨t47, h_t47, H51⟩ := Je H50; clear H50
       refine Qm (fun w hF hS => k114 (Jr w) (f0.mono (hw.now hF)) ((show FrS h 1 (Qt h v1 4 (Int.toNat x24_2) 2) (t27.Likes.map Jn) from (Jo (f1.at h_t27))).mono (hw.now hF)) ((show FrS h 1 (Qt h v1 4 (Int.toNat x24_2) 3) (t27.Nots.map Jn) from (J0 (f1.at h_t27))).mono (hw.now hF)) h_t47) call114 rfl rfl rfl<|ag (i6 t47)<|Jc<|Jb<|Ja<|mv (i6 t47)<|lv (Jaj rfl rfl)<|Jc<|?_
       revert H51
       refine ci (decide (t47 ≠ 0)) rfl (fun hb H52=>?_) fun hb H53=>?_
       ·refine Jb<|Ja<|mv (i6 t47)<|ag (i6 t47)<|Jc<|Ji<|?_
        obtain rfl := sj H52
        exact r1 (i6 t47)
       ·refine Jj<|Jb<|Ja<|mv v0<|lf runUnderlying77 rfl sizeOf75 rfl<|ll 2 (Qt h v1 4 (Int.toNat x24_2) 2) isAgg75<|?_
        obtain ⟨t54, h_t54, H54⟩ := Je H53; clear H53
        refine Zr (Ye (rds := []) (G := fun x : (Option Addr × Nat) => sl x t54.length) (C := fun x : (Option Addr × Nat) => Jw 3 1 (sl x t54.length) t54.length (t54.map Jn)) (fun w L' hF hS hi => k115 (Jr w) (f0.mono (hw.now hF)) ((show FrS h 1 (Qt h v1 4 (Int.toNat x24_2) 2) (t27.Likes.map Jn) from (Jo (f1.at h_t27))).mono (hw.now hF)) h_t54) call115 rfl) rfl rfl rfl (fun p_3 => ?_)
        refine ag (sl p_3 t54.length)<|Jc<|Jb<|Jb<|Ja<|lf runUnderlying77 rfl sizeOf75 rfl<|ll 2 (Qt h v1 4 (Int.toNat x24_2) 2) isAgg75<|lv (Jfi (caps := #[.pointer (some ⟨b4, 0, none⟩)]) rfl)<|?_
        obtain ⟨t58, h_t58, H55⟩ := Je H54; clear H54
        refine Qm (fun w hF hS => k116 (Jr w) ((show FrS h 1 (Qt h v1 4 (Int.toNat x24_2) 2) (t27.Likes.map Jn) from (Jo (f1.at h_t27))).mono (hw.now hF)) (FnH.mk ⟨117, #[], #[.pointer (some ⟨b4, 0, none⟩)], rfl, call117, fun args2 post2 w2 hk2 hR2 => by obtain ⟨a0_, r_, rfl, H_, rfl⟩ := hR2; exact k117 (Jr w2) ((frs_map (fk := (fun x_ : Int => i6 x_)) (fv := (fun x_ : Bool => .bool x_)) (i := 0) hS rfl).mono hk2.up) (hk2.up _ _ (Y6 (i := 1) hS rfl)) H_⟩) h_t58) call116 rfl rfl rfl<|mv (.bool t58)<|?_
        revert H55
        refine sp (fun hb H56=>?_) fun hb H57=>?_
        ·refine pa<|pa<|pa<|pa<|pa<|pa<|pT (.bool true)<|Jc<|Zv rfl<|Jb<|Ja<|ag (i6 6)<|Jc<|Ji<|?_
         obtain rfl := sj H56
         exact r1 (i6 6)
        ·refine mv (sl p_3 t54.length) ?_
         obtain ⟨t61, h_t61, H58⟩ := Je H57; clear H57
         refine Zr (Ye (rds := [3]) (G := fun x : (Option Addr × Nat) => sl x t61.length) (C := fun x : (Option Addr × Nat) => roV 1 (sl x t61.length) t61.length (t61.map Jn)) (fun w L' hF hS hi => k118 (Jr w) (Jap (i := 3) rfl hS ((hi 3 (by simp)).trans rfl)) (FrS.nil _ _) h_t61) call118 rfl) rfl rfl rfl (fun p_4 => ?_)
         refine lv (Wx underlying75 rfl)<|mv (sl p_3 t54.length)<|lv (Wx underlying75 rfl)<|lv (Qv rfl rfl)<|pF (.bool (decide ((t61.length : Int) < (t54.length : Int))))<|Jc<|?_
         revert H58
         refine ci (decide ((t61.length : Int) < (t54.length : Int))) rfl (fun hb H59=>?_) fun hb H60=>?_
         ·refine Jb<|Ja<|ag (i6 6)<|Jc<|Ji<|?_
          obtain rfl := sj H59
          exact r1 (i6 6)
         ·refine Jj<|Jb<|Ja<|lf runUnderlying77 rfl sizeOf75 rfl<|ll 2 (Qt h v1 4 (Int.toNat x24_2) 2) isAgg75<|lv (X4 underlying75 rfl (show FrS h 1 (Qt h v1 4 (Int.toNat x24_2) 2) (t27.Likes.map Jn) from (Jo (f1.at h_t27))) rfl)<|mv (i6 0)<|Jc<|Jl<|c_dr 2<|?_
          try dsimp only [z1, z2, z3, z4, z5, z6, z7, z8]
          refine Xb (σ := Int × (List (Int × Bool))) (τ := Unit) (fun next4 s => Yi x24_2 next1 t27 t54 t61 next4 s.1 s.2) (fun s t => [(0, v0), (1, v1), (6, .pointer (some ⟨b4, 0, none⟩)), (22, v1), (23, i6 (a1.length : Int)), (24, i6 x24_2), (60, sl p_3 t54.length), (61, sl p_4 t61.length), (62, i6 (t61.length : Int)), (63, sl p_3 t54.length), (64, i6 (t54.length : Int)), (65, .bool (decide ((t61.length : Int) < (t54.length : Int)))), (68, (Qt h v1 4 (Int.toNat x24_2) 2)), (69, i6 (t27.Likes.length : Int)), (70, i6 s.1)]) (fun s t => [Jb8 (fun x_ : Int => i6 x_) (fun x_ : Bool => .bool x_) b3 s.2, Jp b4 [.map (some b3)] 74, Jw 3 1 (sl p_3 t54.length) t54.length (t54.map Jn), roV 1 (sl p_4 t61.length) t61.length (t61.map Jn)]) (fun s t => True) (0, mp_2) () [0, 1, 2, 3] H60 (by exact trivial) (by exact ⟨rfl, rfl, rfl, rfl, rfl, rfl, rfl, rfl, rfl, rfl, rfl, rfl, rfl, rfl, rfl, trivial⟩) (by decide) rfl ?_
          rintro ⟨x70_2, mp_5⟩ _ m4 gg H61 _
          clear H60
          try dsimp only at H61
          generalize hn4 : it (fun next4 s => Yi x24_2 next1 t27 t54 t61 next4 s.1 s.2) m4 = next4 at H61
          try dsimp only
          refine Jb<|Ja<|lv (Qv rfl rfl)<|Jc<|Jb<|?_
          revert H61
          refine ci (decide (x70_2 < (t27.Likes.length : Int))) rfl (fun hb H62=>?_) fun hb H65=>?_
          ·refine Jj<|Jb<|Jl<|Jb<|Ja<|?_
           obtain ⟨t72, h_t72, H63⟩ := Je H62; clear H62
           refine lv (J4 underlying75 sizeOf3 rfl rfl (show FrS h 1 (Qt h v1 4 (Int.toNat x24_2) 2) (t27.Likes.map Jn) from (Jo (f1.at h_t27))) h_t72)<|Jy (fun w hF hS => Ju (f := Jn) (i := x70_2) (sz := 1) (j := 0) (v := i6 t72) isAgg3 rfl rfl ((show FrS h 1 (Qt h v1 4 (Int.toNat x24_2) 2) (t27.Likes.map Jn) from (Jo (f1.at h_t27))).row (hw.now hF)) h_t72 rfl) rfl rfl rfl<|ag (i6 t72)<|Jc<|Ja<|ll 1 (.map (some b3)) isAgg74<|mv (i6 t72)<|?_
           refine Jdl (Jev (u := true) (i := 0) (rds := []) (fk := (fun x_ : Int => i6 x_)) (fv := (fun x_ : Bool => .bool x_)) (k := t72) (v := true) Jc8 (.inr rfl) underlying74 underlying3 rfl rfl rfl rfl) rfl rfl (fun _ => ?_)
           refine Jc<|Ja<|?_
           obtain ⟨t76, h_t76, H64⟩ := Je H63; clear H63
           refine lv (Qe rfl rfl h_t76)<|mv (i6 t76)<|Jc<|?_
           exact cl (t76, (Ja3 mp_5 t72 true)) () m4 [0, 1, 2, 3] (by exact ⟨(by subst hn4; exact H64), trivial⟩)
          ·refine Qg ?_
           exact cl ((t61.length : Int), (t54.length : Int), (decide ((t61.length : Int) < (t54.length : Int))), t54, t61, mp_5) (p_3, p_4) 0 [0, 1, 2, 3] (by exact ⟨H65, trivial⟩)
    ·rintro ⟨x62, x64, x65, l, l_2, mp_3⟩ ⟨p, p_2⟩ gg H44 _
     try dsimp only at H44
     try dsimp only
     refine Ja ?_
     obtain ⟨t77, h_t77, H45⟩ := Je H44; clear H44
     refine lv (Qe rfl rfl h_t77)<|mv (i6 t77)<|Jc<|?_
     exact cl (t77, mp_3) () m1 [0, 1] (by exact ⟨(by subst hn1; exact H45), trivial⟩)
   ·refine Qg<|Jb<|Ja<|ag (i6 0)<|Jc<|Ji<|?_
    obtain rfl := sj H72
    exact r1 (i6 0)
end Go.Proofs.YtlkaenijicgfcaaGreatDoor

/- FaceTexts, Text: the walks, printed by our generator; each follows its model. Conditions: the model yields a value. -/
namespace Go.Proofs.YtlkaenijicgfcaaGreatDoor
open Go Go.Vc Go.Md Go.M Go.Lx Tryz
set_option maxRecDepth 100000
set_option maxHeartbeats 4000000
set_option linter.unusedVariables false
theorem ext202 (x : Value) (w : World) : (callFunc 202 (List.toArray [x])).run prog w = .ok (.value x) w := by
  have h0 : (callFunc 202 #[x]).run prog w = (do pure (.value (← Extern.AbiNoEscape.same #[x])) : Sem Next).run prog w := by kernel_rfl
  rw [h0]; rfl
theorem k110 {pb0 : Nat} {q sl : Value} {w : World} {S : Nat → Prop} (hcs : (Jp pb0 [q, sl] 84).P S w) (hlt : ∀ b, S b → b < w.heap.size) (hq : q = .pointer none ∨ q = .pointer (some ⟨pb0, 0, none⟩)) : Does prog 110 (List.toArray [.pointer (some ⟨pb0, 0, none⟩)]) w (fun v w' => ∃ x : Unit, v = .tuple #[] ∧ Turn w w' S (Jp pb0 [.pointer (some ⟨pb0, 0, none⟩), sl] 84)) := by
  refine enter (n := 20) func110 rfl rfl rfl S [Jp pb0 [q, sl] 84] (Sat.one hcs hlt)<|Jb<|Ja<|mv (.pointer (some ⟨pb0, 0, none⟩))<|lv (J8 rfl)<|lf runUnderlying84 rfl sizeOf81 rfl<|ll 0 q isAgg81<|?_
  rcases hq with rfl | rfl
  · refine Jeo rfl rfl rfl (r_nilP (a := none) underlying81 rfl rfl) ?_
    refine Jc<|Zv rfl<|Ja<|mv (.pointer (some ⟨pb0, 0, none⟩))<|mv (.pointer (some ⟨pb0, 0, none⟩))<|Jy (fun w hF hS => run_toU (cs := [.pointer none, sl]) (T := 84) underlying81 underlying224 (Vo typeInfo84) (by decide) (Y6 (i := 0) hS rfl) rfl rfl) rfl rfl rfl<|lv (r_ext (args := [.pointer (some ⟨pb0, 0, none⟩)]) (ext202 _) rfl)<|Jy (fun w hF hS => run_fromU (cs := [.pointer none, sl]) (T := 84) underlying224 underlying81 (Vo typeInfo84) (Y6 (i := 0) hS rfl) (by kernel_rfl) rfl) rfl rfl rfl<|lv (J8 rfl)<|lf runUnderlying84 rfl sizeOf81 rfl<|st (i := 0) [.pointer (some ⟨pb0, 0, none⟩)] [.pointer (some ⟨pb0, 0, none⟩), sl] sizeOf81 rfl rfl<|Jc<|?_
    exact ret0n rfl (Yx () (i := 0) rfl rfl (Imp.refl _))
  · refine Jeo rfl rfl rfl (r_nilP (a := some ⟨pb0, 0, none⟩) underlying81 rfl rfl) ?_
    refine Jc<|Zf rfl<|Jb<|Ja<|mv (.pointer (some ⟨pb0, 0, none⟩))<|lv (J8 rfl)<|lf runUnderlying84 rfl sizeOf81 rfl<|ll 0 (.pointer (some ⟨pb0, 0, none⟩)) isAgg81<|mv (.pointer (some ⟨pb0, 0, none⟩))<|lv (r_sameP underlying81 (Vo typeInfo84) rfl rfl)<|Jc<|Zf rfl<|Jj<|?_
    exact ret0n rfl (Yx () (i := 0) rfl rfl (Imp.refl _))
theorem k31 {a0 : List UInt8} {pb0 : Nat} {a1 r : List UInt8} {w : World} {h : Jt} {S : Nat → Prop} (hcs : (Vg pb0 84 5 a0).P S w) (hlt : ∀ b, S b → b < w.heap.size) (hw : Know h w S) (H : gBld a0 a1 = some r) : Does prog 31 (List.toArray [.pointer (some ⟨pb0, 0, none⟩), Jk a1]) w (fun v w' => ∃ x : Unit, v = .tuple #[i6 (a1.length : Int), .nilIface] ∧ Turn w w' S (Vg pb0 84 5 r)) := by
  obtain ⟨rfl, hne, hbl⟩ := gBld_some H
  have hg : gApL 1 (Qq a0) (Qq a1) = some (Qq (a0 ++ a1)) := by rw [gApL_ok (by simp [Qq]; omega)]; simp [Qq]
  refine enter (n := 19) func31 rfl rfl rfl S [Vg pb0 84 5 a0] (Sat.one hcs hlt) ?_
  refine c_bld 0 rfl (fun q p hq hp => ?_)
  refine Z0 0 rfl<|Jb<|Ja<|ag (i6 0)<|ag (.nilIface)<|Jc<|Jb<|Ja<|mv (.pointer (some ⟨pb0, 0, none⟩))<|?_
  refine Xl (Qp (i := 0) (rds := []) (G := fun _ : Unit => .tuple #[]) (C := fun _ => Jp pb0 [.pointer (some ⟨pb0, 0, none⟩), sl p (Qq a0).length] 84) rfl (fun w L' S hF hS hi hp' hlt ho hA => k110 hp' hlt hq) call110 rfl) rfl rfl rfl (fun _ => ?_)
  refine Jc<|Jb<|Ja<|mv (.pointer (some ⟨pb0, 0, none⟩))<|mv (.pointer (some ⟨pb0, 0, none⟩))<|lv (J8 rfl)<|lf runUnderlying84 rfl sizeOf82 rfl<|ll 0 (sl p (Qq a0).length) isAgg82<|mv (Jk a1)<|?_
  refine Xl (turns_strG (i := 1) (rds := []) (f := e8) rfl underlying82 underlying9 (Vo typeInfo5) rfl rfl rfl rfl rfl rfl (fun _ => rfl) hg) rfl rfl rfl (fun p2 => ?_)
  refine lv (J8 rfl)<|lf runUnderlying84 rfl sizeOf82 rfl<|st (i := 0) [sl p2 (Qq (a0 ++ a1)).length] [.pointer (some ⟨pb0, 0, none⟩), sl p2 (Qq (a0 ++ a1)).length] sizeOf82 rfl rfl<|Jc<|Jb<|Ja<|mv (Jk a1)<|lv (Q2 underlying9 rfl)<|ag (i6 (a1.length : Int))<|ag (.nilIface)<|Jc<|Ji<|bo 0 1 rfl rfl<|?_
  exact Uy rfl rfl rfl (Yx () (i := 0) rfl rfl (imp_bld (by simp [hne])))
theorem k32 {a0 : Int} {r : (List UInt8)} {w : World} {h : Jt} (hw : Know h w Yt) (tb_pow10 : TabH prog h "internal/strconv.uint64pow10" .u64 Lib.pow10Tab) (H : gItoa a0 = some r) : Does prog 32 (List.toArray [i6 a0]) w (fun v w' => v = (Jk r) ∧ Grow w w') :=
  itoa_does (ρ := Go.Proofs.Tryz.laysM171_ren) Go.Proofs.Tryz.laysM171 hw tb_pow10 H
theorem k30 {q0 : (List UInt8)} {pbq0 : Nat} {a0 : (List UInt8)} {a1 : (List Int)} {v1 : Value} {r : (List UInt8)} {w : World} {h : Jt} {S : Nat → Prop} (hcs : (Vg pbq0 84 5 q0).P S w) (hlt : ∀ b, S b → b < w.heap.size) (hw : Know h w S) (f1 : FrS h 1 v1 (a1.map Jn)) (tb_pow10 : TabH prog h "internal/strconv.uint64pow10" .u64 Lib.pow10Tab) (H : Yg q0 a0 a1 = some r) : Does prog 30 (List.toArray [Jk a0, v1, .pointer (some ⟨pbq0, 0, none⟩)]) w (fun v w' => ∃ x : Unit, v = (.tuple #[]) ∧ Turn w w' S (Vg pbq0 84 5 r)) := by
 refine enter (n := 20) func30 rfl rfl rfl S [Vg pbq0 84 5 q0] (Sat.one hcs hlt)<|Jb<|Ja<|mv (Jk a0)<|?_
 obtain ⟨t8, h_t8, H10⟩ := Je H; clear H
 refine Xl (Qp (i := 0) (rds := []) (G := fun _ : Unit => .tuple #[i6 (a0.length : Int), .nilIface]) (C := fun _ => Vg pbq0 84 5 t8) rfl (fun w L' S hF hS hi hp hlt ho hA => k31 hp hlt (Q4 w S) h_t8) call31 rfl) rfl rfl rfl (fun _ => ?_)
 refine Jc<|Jb<|Ja<|mv v1<|lv (X4 underlying75 rfl f1 rfl)<|mv (i6 0)<|Jc<|Jl<|?_
 refine Xb (σ := Int × (List UInt8)) (τ := Unit) (fun next1 s => Z5 a1 next1 s.1 s.2) (fun s t => [(2, .pointer (some ⟨pbq0, 0, none⟩)), (9, v1), (10, i6 (a1.length : Int)), (11, i6 s.1)]) (fun s t => [Vg pbq0 84 5 s.2]) (fun s t => True) (0, t8) () [0] H10 (by exact trivial) (by exact ⟨rfl, rfl, rfl, rfl, trivial⟩) (by decide) rfl ?_
 rintro ⟨x11_2, m_2⟩ _ m1 gg H11 _
 clear H10
 try dsimp only at H11
 generalize hn1 : it (fun next1 s => Z5 a1 next1 s.1 s.2) m1 = next1 at H11
 try dsimp only
 refine Jb<|Ja<|lv (Qv rfl rfl)<|Jc<|Jb<|?_
 revert H11
 refine ci (decide (x11_2 < (a1.length : Int))) rfl (fun hb H12=>?_) fun hb H18=>?_
 ·refine Jj<|Jb<|Jl<|Jb<|Ja<|?_
  obtain ⟨t13, h_t13, H13⟩ := Je H12; clear H12
  refine lv (J4 underlying75 sizeOf3 rfl rfl f1 h_t13)<|Jy (fun w hF hS => Ju (f := Jn) (i := x11_2) (sz := 1) (j := 0) (v := i6 t13) isAgg3 rfl rfl (f1.row (hw.now hF)) h_t13 rfl) rfl rfl rfl<|ag (i6 t13)<|Jc<|Ja<|mv (i6 t13)<|?_
  obtain ⟨t16, h_t16, H14⟩ := Je H13; clear H13
  refine Qm (fun w hF hS => k32 (Jr w) (tb_pow10.mono (hw.now hF)) h_t16) call32 rfl rfl rfl ?_
  obtain ⟨t17, h_t17, H15⟩ := Je H14; clear H14
  refine lv (Yq rfl rfl h_t17) ?_
  obtain ⟨t18, h_t18, H16⟩ := Je H15; clear H15
  refine Xl (Qp (i := 0) (rds := []) (G := fun _ : Unit => .tuple #[i6 (t17.length : Int), .nilIface]) (C := fun _ => Vg pbq0 84 5 t18) rfl (fun w L' S hF hS hi hp hlt ho hA => k31 hp hlt (Q4 w S) h_t18) call31 rfl) rfl rfl rfl (fun _ => ?_)
  refine Jc<|Ja<|?_
  obtain ⟨t19, h_t19, H17⟩ := Je H16; clear H16
  refine lv (Qe rfl rfl h_t19)<|mv (i6 t19)<|Jc<|?_
  exact cl (t19, t18) () m1 [0] (by exact ⟨(by subst hn1; exact H17), trivial⟩)
 ·refine Qg ?_
  obtain rfl := sj H18
  refine ret0n rfl (Yx () (i := 0) rfl rfl (Imp.refl _))
theorem k33 {a0 : List UInt8} {pb0 : Nat}  {w : World} {h : Jt} {S : Nat → Prop} (hcs : (Vg pb0 84 5 a0).P S w) (hlt : ∀ b, S b → b < w.heap.size) (hw : Know h w S)  : Does prog 33 (List.toArray [.pointer (some ⟨pb0, 0, none⟩)]) w (fun v w' => ∃ x : Unit, v = Jk a0 ∧ Turn w w' S empC) := by
  refine enter (n := 14) func33 rfl rfl rfl S [Vg pb0 84 5 a0] (Sat.one hcs hlt) ?_
  refine c_bld 0 rfl (fun q p hq hp => ?_)
  refine Z0 0 rfl<|Jb<|Ja<|ag (Jk [])<|Jc<|Jb<|?_
  exact Xp (Kd.p :: Kd.p :: Kd.p :: Kd.d [0] _ :: Kd.p :: Kd.p :: Kd.p :: Kd.p :: Kd.d [0] _ :: Kd.p :: Kd.t 1 [] _ _ :: Kd.p :: []) 0 mixed (by
    refine dm (.pointer (some ⟨pb0, 0, none⟩))<|dv (J8 rfl)<|dv (Ya runUnderlying84 rfl sizeOf82 rfl rfl)<|dl (sl p (Qq a0).length) isAgg82<|dv (r_ssd hp rfl)<|dm (.pointer (some ⟨pb0, 0, none⟩))<|dv (J8 rfl)<|dv (Ya runUnderlying84 rfl sizeOf82 rfl rfl)<|dl (sl p (Qq a0).length) isAgg82<|dv (Wx underlying82 rfl)<|?_
    refine Jew (Cv := fun _ => empC) () (turns_ustr (i := 1) (bs := a0) (p := p) underlying167 (by kernel_rfl) rfl rfl rfl) (fun _ => rfl) rfl rfl (fun _ => ?_)
    refine W6 rfl rfl (Xs (v := Jk a0) rfl)<|Wk<|Ji<|?_
    exact Wm rfl rfl (Yx () (i := 1) rfl rfl (Imp.refl _))
  ) (by kernel_rfl)
theorem k8 {a0 : (List Ta)} {v0 : Value} {a1 : (List Tb)} {v1 : Value} {r : (List UInt8)} {w : World} {h : Jt} (hw : Know h w Yt) (f0 : FrS h 14 v0 (a0.map Jg)) (f1 : FrN h 4 v1 g_face_Person a1) (tb_pow10 : TabH prog h "internal/strconv.uint64pow10" .u64 Lib.pow10Tab) (H : Jde a0 a1 = some r) : Does prog 8 (List.toArray [v0, v1]) w (fun v w' => v = (Jk r) ∧ Grow w w') := by
 refine enter (n := 58) func8 rfl rfl rfl Yt [] (Sat.nil _ _)<|Jb<|Ja<|ag (Jk [])<|Jc<|Jb<|Ja<|?_
 refine Z6 (cs := [.pointer none, .slice none 0 0]) zeroValue84 rfl rfl rfl (fun b5 => ?_)
 refine Xx 0 rfl (Jet _ _ 5)<|Jc<|Jb<|Ja<|lv (Jfi (caps := #[.pointer (some ⟨b5, 0, none⟩)]) rfl)<|ag (.func (.func 30) #[] #[.pointer (some ⟨b5, 0, none⟩)])<|Jc<|?_
 refine Qi (r := r) (σ := (List UInt8)) (τ := Unit) (fun s => Uv a1 s) (fun s t => [(1, v1), (5, .pointer (some ⟨b5, 0, none⟩)), (6, .func (.func 30) #[] #[.pointer (some ⟨b5, 0, none⟩)])]) (fun s t => [Vg b5 84 5 s]) (fun s t => True) ?_ ?_
 ·refine Jb<|Ja<|mv v0<|lv (X4 underlying22 rfl f0 rfl)<|mv (i6 0)<|Jc<|Jl<|?_
  refine Xb (σ := Int × (List UInt8)) (τ := Unit) (fun next4 s => Wr a0 a1 next4 s.1 s.2) (fun s t => [(1, v1), (5, .pointer (some ⟨b5, 0, none⟩)), (6, .func (.func 30) #[] #[.pointer (some ⟨b5, 0, none⟩)]), (12, v0), (13, i6 (a0.length : Int)), (14, i6 s.1)]) (fun s t => [Vg b5 84 5 s.2]) (fun s t => True) (0, []) () [0] H (by exact trivial) (by exact ⟨rfl, rfl, rfl, rfl, rfl, rfl, trivial⟩) (by decide) rfl ?_
  rintro ⟨x14_2, m_6⟩ _ m4 gg H35 _
  clear H
  try dsimp only at H35
  generalize hn4 : it (fun next4 s => Wr a0 a1 next4 s.1 s.2) m4 = next4 at H35
  try dsimp only
  refine Jb<|Ja<|lv (Qv rfl rfl)<|Jc<|Jb<|?_
  revert H35
  refine ci (decide (x14_2 < (a0.length : Int))) rfl (fun hb H36=>?_) fun hb H42=>?_
  ·refine Jj<|Jb<|Jl<|Jb<|Ja<|?_
   obtain ⟨t16, h_t16, H37⟩ := Je H36; clear H36
   refine lv (J4 underlying22 sizeOf38 rfl rfl f0 h_t16)<|Jy (fun w hF hS => X2 (f := Jg) (i := x14_2) (sz := 14) (j := 0) (vs := [i6 t16.Id, i6 t16.Photo, i6 (t16.Vec 0), i6 (t16.Vec 1), i6 (t16.Vec 2), i6 (t16.Vec 3), i6 (t16.Vec 4), i6 (t16.Vec 5), i6 (t16.Vec 6), i6 (t16.Vec 7), i6 (t16.Vec 8), i6 (t16.Vec 9), i6 (t16.Vec 10), i6 (t16.Vec 11)]) isAgg38 sizeOf38 rfl rfl (f0.row (hw.now hF)) h_t16 rfl) rfl rfl rfl<|?_
   refine Z6 (cs := [i6 0, i6 0, i6 0, i6 0, i6 0, i6 0, i6 0, i6 0, i6 0, i6 0, i6 0, i6 0, i6 0, i6 0]) zeroValue38 rfl rfl rfl (fun b8 => ?_)
   refine st (i := 1) [i6 t16.Id, i6 t16.Photo, i6 (t16.Vec 0), i6 (t16.Vec 1), i6 (t16.Vec 2), i6 (t16.Vec 3), i6 (t16.Vec 4), i6 (t16.Vec 5), i6 (t16.Vec 6), i6 (t16.Vec 7), i6 (t16.Vec 8), i6 (t16.Vec 9), i6 (t16.Vec 10), i6 (t16.Vec 11)] [i6 t16.Id, i6 t16.Photo, i6 (t16.Vec 0), i6 (t16.Vec 1), i6 (t16.Vec 2), i6 (t16.Vec 3), i6 (t16.Vec 4), i6 (t16.Vec 5), i6 (t16.Vec 6), i6 (t16.Vec 7), i6 (t16.Vec 8), i6 (t16.Vec 9), i6 (t16.Vec 10), i6 (t16.Vec 11)] sizeOf38 rfl rfl<|Jc<|Jb<|?_
   exact Xp (Kd.p :: Kd.p :: Kd.d [1] _ :: Kd.p :: Kd.d [1] _ :: Kd.ns 2 [_, _] 3 2 :: Kd.p :: Kd.p :: Kd.t 2 [1] _ _ :: Kd.t 0 [2] _ _ :: []) 1 mixed (by
    refine dm (.func (.func 30) #[] #[.pointer (some ⟨b5, 0, none⟩)])<|dv (Ya runUnderlying38 rfl sizeOf3 rfl rfl)<|dl (i6 t16.Id) isAgg3<|dv (Ya runUnderlying38 rfl sizeOf3 rfl rfl)<|dl (i6 t16.Photo) isAgg3<|?_
    refine Jfx rfl rfl (Zu (vs := [i6 t16.Id, i6 t16.Photo]) (cs := [i6 t16.Id, i6 t16.Photo]) underlying75 sizeOf3 zeroValue3 rfl rfl rfl rfl rfl) rfl (fun b9 => ?_)
    refine dv (Ya runUnderlying38 rfl sizeOf36 rfl rfl)<|dv (Jem underlying36 sizeOf3 rfl)<|?_
    have h_l26 := Qh H37
    have H38 := J3 H37
    refine Jew (Cv := fun v => Jw 3 1 v (val (Ja4 8 ([t16.Id, t16.Photo] : List Int) ((List.range 12).map t16.Vec))).length ((val (Ja4 8 ([t16.Id, t16.Photo] : List Int) ((List.range 12).map t16.Vec))).map Jn)) (none, 0) (turns_imp rfl (imp_box (m := 2) (E := 3) (sz := 1) (xs := (([t16.Id, t16.Photo] : List Int)).map Jn) rfl rfl rfl ⟨rfl, by decide⟩) (by decide) (Jbd (i := 2) (hn := rfl) (rds := [1]) (p := ((some ⟨b9, 0, none⟩, 2) : Option Addr × Nat)) (sz := 1) (by_ := 8) (f := Jn) (ys := ([t16.Id, t16.Photo] : List Int)) (ls := ((List.range 12).map t16.Vec)) (V := .slice (some ⟨b8, 2, none⟩) 12 12) underlying75 (Vo typeInfo3) rfl rfl rfl rfl rfl rfl rfl rfl rfl rfl (fun w L' hF hS hi => (frs_arx (f := Jn) (n := 12) (o := 2) (a := t16.Vec) (i := 1) hS ((hi 1 (by simp)).trans rfl) rfl (fun _ => rfl) rfl).row (fun _ _ h => h)) (fun _ => rfl) (fun _ => rfl) h_l26)) (fun _ => rfl) rfl rfl (fun p => ?_)
    have h_t27 := Qh H38
    have H39 := J3 H38
    refine Jew (Cv := fun _ => Vg b5 84 5 (val (Yg m_6 [102, 97, 99, 101] (val (Ja4 8 ([t16.Id, t16.Photo] : List Int) ((List.range 12).map t16.Vec)))))) () (Ui (caps := #[.pointer (some ⟨b5, 0, none⟩)]) (args := [Jk [102, 97, 99, 101], sl p (val (Ja4 8 ([t16.Id, t16.Photo] : List Int) ((List.range 12).map t16.Vec))).length]) (i := 0) (rds := _) (G := fun _ => .tuple #[]) (C := fun _ => Vg b5 84 5 (val (Yg m_6 [102, 97, 99, 101] (val (Ja4 8 ([t16.Id, t16.Photo] : List Int) ((List.range 12).map t16.Vec)))))) rfl (fun w L' S hF hS hi hp hlt ho hA => (k30 hp hlt (Q4 w S) (Jf7 (j := 2) rfl hA hS (by decide) ((hi 2 (by simp)).trans rfl)) (tb_pow10.mono (hw.but hF ho)) h_t27).mono (fun _ _ h => by obtain ⟨_, h⟩ := h; exact ⟨(), h⟩)) call30 rfl rfl) (fun _ => rfl) rfl rfl (fun _ => ?_)
    refine Wk<|Ja<|mv (.func (.func 30) #[] #[.pointer (some ⟨b5, 0, none⟩)])<|?_
    obtain ⟨t29, h_t29, H40⟩ := Je H39; clear H39
    refine Xl (Ui (caps := #[.pointer (some ⟨b5, 0, none⟩)]) (args := [Jk [10], .slice none 0 0]) (i := 0) (rds := []) (G := fun x : Unit => .tuple #[]) (C := fun x : Unit => Vg b5 84 5 t29) rfl (fun w L' S hF hS hi hp hlt ho hA => k30 hp hlt (Q4 w S) (FrS.nil _ _) (tb_pow10.mono (hw.but hF ho)) h_t29) call30 rfl rfl) rfl rfl rfl (fun _ => ?_)
    refine Jc ?_
    try dsimp only [z1, z2, z5, z6, z7, z8]
    refine Ja ?_
    obtain ⟨t30, h_t30, H41⟩ := Je H40; clear H40
    refine lv (Qe rfl rfl h_t30)<|mv (i6 t30)<|Jc<|?_
    exact cl (t30, t29) () m4 [0] (by exact ⟨(by subst hn4; exact H41), trivial⟩)
    ) (by kernel_rfl)
  ·refine Qg ?_
   exact cl m_6 () 0 [0] (by exact ⟨H42, trivial⟩)
 ·rintro m _ gg H22 _
  try dsimp only at H22
  try dsimp only
  refine Qi (r := r) (σ := (List UInt8)) (τ := Unit) (fun s => Jep s) (fun s t => [(5, .pointer (some ⟨b5, 0, none⟩))]) (fun s t => [Vg b5 84 5 s]) (fun s t => True) ?_ ?_
  ·refine Jb<|Ja<|mv v1<|lv (Jas underlying23 rfl f1)<|mv (i6 0)<|Jc<|Jl<|?_
   refine Xb (σ := Int × (List UInt8)) (τ := Unit) (fun next3 s => Wq a1 next3 s.1 s.2) (fun s t => [(5, .pointer (some ⟨b5, 0, none⟩)), (6, .func (.func 30) #[] #[.pointer (some ⟨b5, 0, none⟩)]), (31, v1), (32, i6 (a1.length : Int)), (33, i6 s.1)]) (fun s t => [Vg b5 84 5 s.2]) (fun s t => True) (0, m) () [0] H22 (by exact trivial) (by exact ⟨rfl, rfl, rfl, rfl, rfl, trivial⟩) (by decide) rfl ?_
   rintro ⟨x33_2, m_4⟩ _ m3 gg H24 _
   clear H22
   try dsimp only at H24
   generalize hn3 : it (fun next3 s => Wq a1 next3 s.1 s.2) m3 = next3 at H24
   try dsimp only
   refine Jb<|Ja<|lv (Qv rfl rfl)<|Jc<|Jb<|?_
   revert H24
   refine ci (decide (x33_2 < (a1.length : Int))) rfl (fun hb H25=>?_) fun hb H34=>?_
   ·refine Jj<|Jb<|Jl<|Jb<|Ja<|?_
    obtain ⟨t35, h_t35, H26⟩ := Je H25; clear H25
    refine lv (J4 underlying23 sizeOf77 rfl rfl f1.frs (f1.ix h_t35))<|Jy (fun w hF hS => X2 (f := (elC h v1 4)) (i := x33_2) (sz := 4) (j := 0) (vs := [i6 t35.Id, Jk t35.Name, (Qt h v1 4 (Int.toNat x33_2) 2), (Qt h v1 4 (Int.toNat x33_2) 3)]) isAgg77 sizeOf77 rfl rfl (f1.frs.row (hw.now hF)) (f1.ix h_t35) (rd_of (Yw (f1.at h_t35)) rfl)) rfl rfl rfl<|?_
    refine Z6 (cs := [i6 0, Jk [], .slice none 0 0, .slice none 0 0]) zeroValue77 rfl rfl rfl (fun b6 => ?_)
    refine U5 (i := 1) (vs := [i6 t35.Id, Jk t35.Name, (Qt h v1 4 (Int.toNat x33_2) 2), (Qt h v1 4 (Int.toNat x33_2) 3)]) (cs' := [i6 t35.Id, Jk t35.Name, (Qt h v1 4 (Int.toNat x33_2) 2), (Qt h v1 4 (Int.toNat x33_2) 3)]) sizeOf77 rfl rfl rfl rfl rfl rfl (by simp only [List.all_cons, List.all_nil, (show FrS h 1 (Qt h v1 4 (Int.toNat x33_2) 2) (t35.Likes.map Jn) from (Jo (f1.at h_t35))).one, (show FrS h 1 (Qt h v1 4 (Int.toNat x33_2) 3) (t35.Nots.map Jn) from (J0 (f1.at h_t35))).one] <;> rfl) rfl rfl<|Jc<|Jb<|Ja<|mv (.func (.func 30) #[] #[.pointer (some ⟨b5, 0, none⟩)])<|lf runUnderlying77 rfl sizeOf3 rfl<|ll 1 (i6 t35.Id) isAgg3<|?_
    refine Yu (vs := [i6 t35.Id]) (cs := [i6 t35.Id]) underlying75 sizeOf3 zeroValue3 rfl rfl rfl rfl rfl rfl rfl (fun b7 => ?_)
    obtain ⟨t41, h_t41, H27⟩ := Je H26; clear H26
    refine Xl (Ui (caps := #[.pointer (some ⟨b5, 0, none⟩)]) (args := [Jk [112, 101, 114, 115, 111, 110], .slice (some ⟨b7, 0, none⟩) 1 1]) (i := 0) (rds := [2]) (G := fun x : Unit => .tuple #[]) (C := fun x : Unit => Vg b5 84 5 t41) rfl (fun w L' S hF hS hi hp hlt ho hA => k30 hp hlt (Q4 w S) (frb_box (j := 2) (xs := ([t35.Id] : List Int)) (f := Jn) hA hS (by decide) ((hi 2 (by simp)).trans rfl) rfl rfl rfl rfl) (tb_pow10.mono (hw.but hF ho)) h_t41) call30 rfl rfl) rfl rfl rfl (fun _ => ?_)
    refine Jc<|Jb<|?_
    try dsimp only [z1, z2, z5, z6, z7, z8]
    refine Ja<|mv (.func (.func 30) #[] #[.pointer (some ⟨b5, 0, none⟩)])<|lf runUnderlying77 rfl sizeOf9 rfl<|ll 1 (Jk t35.Name) isAgg9<|?_
    obtain ⟨t45, h_t45, H28⟩ := Je H27; clear H27
    refine lv (Yq rfl rfl h_t45) ?_
    obtain ⟨t46, h_t46, H29⟩ := Je H28; clear H28
    refine lv (Yq rfl rfl h_t46)<|lf runUnderlying77 rfl sizeOf75 rfl<|ll 1 (Qt h v1 4 (Int.toNat x33_2) 2) isAgg75<|?_
    obtain ⟨t49, h_t49, H30⟩ := Je H29; clear H29
    refine Xl (Ui (caps := #[.pointer (some ⟨b5, 0, none⟩)]) (args := [Jk t46, (Qt h v1 4 (Int.toNat x33_2) 2)]) (i := 0) (rds := []) (G := fun x : Unit => .tuple #[]) (C := fun x : Unit => Vg b5 84 5 t49) rfl (fun w L' S hF hS hi hp hlt ho hA => k30 hp hlt (Q4 w S) ((show FrS h 1 (Qt h v1 4 (Int.toNat x33_2) 2) (t35.Likes.map Jn) from (Jo (f1.at h_t35))).mono (hw.but hF ho)) (tb_pow10.mono (hw.but hF ho)) h_t49) call30 rfl rfl) rfl rfl rfl (fun _ => ?_)
    refine Jc<|Jb<|Ja<|mv (.func (.func 30) #[] #[.pointer (some ⟨b5, 0, none⟩)])<|lf runUnderlying77 rfl sizeOf75 rfl<|ll 1 (Qt h v1 4 (Int.toNat x33_2) 3) isAgg75<|?_
    obtain ⟨t53, h_t53, H31⟩ := Je H30; clear H30
    refine Xl (Ui (caps := #[.pointer (some ⟨b5, 0, none⟩)]) (args := [Jk [10, 110, 111, 116, 115], (Qt h v1 4 (Int.toNat x33_2) 3)]) (i := 0) (rds := []) (G := fun x : Unit => .tuple #[]) (C := fun x : Unit => Vg b5 84 5 t53) rfl (fun w L' S hF hS hi hp hlt ho hA => k30 hp hlt (Q4 w S) ((show FrS h 1 (Qt h v1 4 (Int.toNat x33_2) 3) (t35.Nots.map Jn) from (J0 (f1.at h_t35))).mono (hw.but hF ho)) (tb_pow10.mono (hw.but hF ho)) h_t53) call30 rfl rfl) rfl rfl rfl (fun _ => ?_)
    refine Jc<|Ja<|mv (.func (.func 30) #[] #[.pointer (some ⟨b5, 0, none⟩)])<|?_
    obtain ⟨t55, h_t55, H32⟩ := Je H31; clear H31
    refine Xl (Ui (caps := #[.pointer (some ⟨b5, 0, none⟩)]) (args := [Jk [10], .slice none 0 0]) (i := 0) (rds := []) (G := fun x : Unit => .tuple #[]) (C := fun x : Unit => Vg b5 84 5 t55) rfl (fun w L' S hF hS hi hp hlt ho hA => k30 hp hlt (Q4 w S) (FrS.nil _ _) (tb_pow10.mono (hw.but hF ho)) h_t55) call30 rfl rfl) rfl rfl rfl (fun _ => ?_)
    refine Jc<|Ja<|?_
    obtain ⟨t56, h_t56, H33⟩ := Je H32; clear H32
    refine lv (Qe rfl rfl h_t56)<|mv (i6 t56)<|Jc<|?_
    exact cl (t56, t55) () m3 [0] (by exact ⟨(by subst hn3; exact H33), trivial⟩)
   ·refine Qg ?_
    exact cl m_4 () 0 [0] (by exact ⟨H34, trivial⟩)
  ·rintro m_2 _ gg H23 _
   try dsimp only at H23
   try dsimp only
   refine Jb<|Ja<|?_
   refine Xl (Qp (i := 0) (rds := []) (G := fun _ : Unit => Jk m_2) (C := fun _ => empC) rfl (fun w L' S hF hS hi hp hlt ho hA => k33 hp hlt (Q4 w S)) call33 rfl) rfl rfl rfl (fun _ => ?_)
   refine ag (Jk m_2)<|Jc<|Ji<|?_
   obtain rfl := sj H23
   exact r1 (Jk m_2)
theorem k35 {a0 : (List Int)} {v0 : Value} {r : (List UInt8)} {w : World} {h : Jt} (hw : Know h w Yt) (f0 : FrS h 1 v0 (a0.map Jn)) (tb_pow10 : TabH prog h "internal/strconv.uint64pow10" .u64 Lib.pow10Tab) (H : Qw a0 = some r) : Does prog 35 (List.toArray [v0]) w (fun v w' => v = (Jk r) ∧ Grow w w') := by
 refine enter (n := 18) func35 rfl rfl rfl Yt [] (Sat.nil _ _)<|Jb<|Ja<|ag (Jk [])<|Jc<|Jb<|Ja<|?_
 refine Z6 (cs := [.pointer none, .slice none 0 0]) zeroValue84 rfl rfl rfl (fun b1 => ?_)
 refine Xx 0 rfl (Jet _ _ 5)<|Jc<|?_
 refine Qi (r := r) (σ := (List UInt8)) (τ := Unit) (fun s => Jdq s) (fun s t => [(3, .pointer (some ⟨b1, 0, none⟩))]) (fun s t => [Vg b1 84 5 s]) (fun s t => True) ?_ ?_
 ·refine Jb<|Ja<|mv v0<|lv (X4 underlying75 rfl f0 rfl)<|mv (i6 0)<|Jc<|Jl<|?_
  refine Xb (σ := Int × (List UInt8)) (τ := Unit) (fun next2 s => Z4 a0 next2 s.1 s.2) (fun s t => [(3, .pointer (some ⟨b1, 0, none⟩)), (6, v0), (7, i6 (a0.length : Int)), (8, i6 s.1)]) (fun s t => [Vg b1 84 5 s.2]) (fun s t => True) (0, []) () [0] H (by exact trivial) (by exact ⟨rfl, rfl, rfl, rfl, trivial⟩) (by decide) rfl ?_
  rintro ⟨x8_2, m_3⟩ _ m2 gg H11 _
  clear H
  try dsimp only at H11
  generalize hn2 : it (fun next2 s => Z4 a0 next2 s.1 s.2) m2 = next2 at H11
  try dsimp only
  refine Jb<|Ja<|lv (Qv rfl rfl)<|Jc<|Jb<|?_
  revert H11
  refine ci (decide (x8_2 < (a0.length : Int))) rfl (fun hb H12=>?_) fun hb H18=>?_
  ·refine Jj<|Jb<|Jl<|Jb<|Ja<|?_
   obtain ⟨t10, h_t10, H13⟩ := Je H12; clear H12
   refine lv (J4 underlying75 sizeOf3 rfl rfl f0 h_t10)<|Jy (fun w hF hS => Ju (f := Jn) (i := x8_2) (sz := 1) (j := 0) (v := i6 t10) isAgg3 rfl rfl (f0.row (hw.now hF)) h_t10 rfl) rfl rfl rfl<|ag (i6 t10)<|Jc<|Ja<|mv (i6 t10)<|?_
   obtain ⟨t13, h_t13, H14⟩ := Je H13; clear H13
   refine Qm (fun w hF hS => k32 (Jr w) (tb_pow10.mono (hw.now hF)) h_t13) call32 rfl rfl rfl ?_
   obtain ⟨t14, h_t14, H15⟩ := Je H14; clear H14
   refine lv (Yq rfl rfl h_t14) ?_
   obtain ⟨t15, h_t15, H16⟩ := Je H15; clear H15
   refine Xl (Qp (i := 0) (rds := []) (G := fun _ : Unit => .tuple #[i6 (t14.length : Int), .nilIface]) (C := fun _ => Vg b1 84 5 t15) rfl (fun w L' S hF hS hi hp hlt ho hA => k31 hp hlt (Q4 w S) h_t15) call31 rfl) rfl rfl rfl (fun _ => ?_)
   refine Jc<|Ja<|?_
   obtain ⟨t16, h_t16, H17⟩ := Je H16; clear H16
   refine lv (Qe rfl rfl h_t16)<|mv (i6 t16)<|Jc<|?_
   exact cl (t16, t15) () m2 [0] (by exact ⟨(by subst hn2; exact H17), trivial⟩)
  ·refine Qg ?_
   exact cl m_3 () 0 [0] (by exact ⟨H18, trivial⟩)
 ·rintro m _ gg H10 _
  try dsimp only at H10
  try dsimp only
  refine Jb<|Ja<|?_
  refine Xl (Qp (i := 0) (rds := []) (G := fun _ : Unit => Jk m) (C := fun _ => empC) rfl (fun w L' S hF hS hi hp hlt ho hA => k33 hp hlt (Q4 w S)) call33 rfl) rfl rfl rfl (fun _ => ?_)
  refine ag (Jk m)<|Jc<|Ji<|?_
  obtain rfl := sj H10
  exact r1 (Jk m)
theorem k36 {a0 : List UInt8} {pb0 : Nat}  {w : World} {h : Jt} {S : Nat → Prop} (hcs : (Vg pb0 84 5 a0).P S w) (hlt : ∀ b, S b → b < w.heap.size) (hw : Know h w S)  : Does prog 36 (List.toArray [.pointer (some ⟨pb0, 0, none⟩)]) w (fun v w' => ∃ x : Unit, v = i6 (a0.length : Int) ∧ Turn w w' S (Vg pb0 84 5 a0)) := by
  refine enter (n := 8) func36 rfl rfl rfl S [Vg pb0 84 5 a0] (Sat.one hcs hlt) ?_
  refine c_bld 0 rfl (fun q p hq hp => ?_)
  refine Z0 0 rfl<|Jb<|Ja<|ag (i6 0)<|Jc<|Jb<|Ja<|mv (.pointer (some ⟨pb0, 0, none⟩))<|lv (J8 rfl)<|lf runUnderlying84 rfl sizeOf82 rfl<|ll 0 (sl p (Qq a0).length) isAgg82<|lv (Wx underlying82 rfl)<|ag (i6 ((Qq a0).length : Int))<|Jc<|Ji<|bo 0 1 rfl rfl<|?_
  exact Wm (v := i6 ((Qq a0).length : Int)) rfl rfl (Yx () (i := 0) rfl (by simp [Qq]) (imp_bldQ hq hp))
theorem k9 {a0 : (List Ta)} {v0 : Value} {a1 : (List Tb)} {v1 : Value} {r : (List UInt8) × Int} {w : World} {h : Jt} (hw : Know h w Yt) (f0 : FrS h 14 v0 (a0.map Jg)) (f1 : FrN h 4 v1 g_face_Person a1) (tb_pow10 : TabH prog h "internal/strconv.uint64pow10" .u64 Lib.pow10Tab) (H : Jbf a0 a1 = some r) : Does prog 9 (List.toArray [v0, v1]) w (fun v w' => v = (.tuple #[Jk r.1, i6 r.2]) ∧ Grow w w') := by
 refine enter (n := 71) func9 rfl rfl rfl Yt [] (Sat.nil _ _)<|Jb<|Ja<|ag (Jk [])<|ag (i6 0)<|Jc<|Jb<|Jb<|Ja<|mv v0<|mv v1<|?_
 obtain ⟨t14, h_t14, H38⟩ := Je H; clear H
 refine Qm (fun w hF hS => k34 (Jr w) (f0.mono (hw.now hF)) (f1.mono (hw.now hF)) h_t14) call34 rfl rfl rfl<|ag (i6 t14)<|Jc<|Jb<|Ja<|mv (i6 t14)<|lv (Jaj rfl rfl)<|Jc<|?_
 revert H38
 refine ci (decide (t14 ≠ 0)) rfl (fun hb H39=>?_) fun hb H40=>?_
 ·refine Jb<|Ja<|mv (i6 t14)<|ag (Jk [])<|ag (i6 t14)<|Jc<|Ji<|?_
  obtain rfl := sj H39
  refine Uy (v1 := Jk []) (v2 := i6 t14) rfl rfl rfl (fin rfl)
 ·refine Jj<|Jb<|Ja<|?_
  refine Z6 (cs := [.pointer none, .slice none 0 0]) zeroValue84 rfl rfl rfl (fun b5 => ?_)
  refine Xx 0 rfl (Jet _ _ 5)<|Jc<|?_
  refine Qi (r := r) (σ := (List UInt8)) (τ := Unit) (fun s => Jay a1 s) (fun s t => [(1, v1), (7, .pointer (some ⟨b5, 0, none⟩))]) (fun s t => [Vg b5 84 5 s]) (fun s t => True) ?_ ?_
  ·refine Jb<|Ja<|mv v0<|lv (X4 underlying22 rfl f0 rfl)<|mv (i6 0)<|Jc<|Jl<|?_
   refine Xb (σ := Int × (List UInt8)) (τ := Unit) (fun next4 s => Wg a0 a1 next4 s.1 s.2) (fun s t => [(1, v1), (7, .pointer (some ⟨b5, 0, none⟩)), (18, v0), (19, i6 (a0.length : Int)), (20, i6 s.1)]) (fun s t => [Vg b5 84 5 s.2]) (fun s t => True) (0, []) () [0] H40 (by exact trivial) (by exact ⟨rfl, rfl, rfl, rfl, rfl, trivial⟩) (by decide) rfl ?_
   rintro ⟨x20_2, m_6⟩ _ m4 gg H64 _
   clear H40
   try dsimp only at H64
   generalize hn4 : it (fun next4 s => Wg a0 a1 next4 s.1 s.2) m4 = next4 at H64
   try dsimp only
   refine Jb<|Ja<|lv (Qv rfl rfl)<|Jc<|Jb<|?_
   revert H64
   refine ci (decide (x20_2 < (a0.length : Int))) rfl (fun hb H65=>?_) fun hb H74=>?_
   ·refine Jj<|Jb<|Jl<|Jb<|Ja<|?_
    obtain ⟨t22, h_t22, H66⟩ := Je H65; clear H65
    refine lv (J4 underlying22 sizeOf38 rfl rfl f0 h_t22)<|Jy (fun w hF hS => X2 (f := Jg) (i := x20_2) (sz := 14) (j := 0) (vs := [i6 t22.Id, i6 t22.Photo, i6 (t22.Vec 0), i6 (t22.Vec 1), i6 (t22.Vec 2), i6 (t22.Vec 3), i6 (t22.Vec 4), i6 (t22.Vec 5), i6 (t22.Vec 6), i6 (t22.Vec 7), i6 (t22.Vec 8), i6 (t22.Vec 9), i6 (t22.Vec 10), i6 (t22.Vec 11)]) isAgg38 sizeOf38 rfl rfl (f0.row (hw.now hF)) h_t22 rfl) rfl rfl rfl<|?_
    refine Z6 (cs := [i6 0, i6 0, i6 0, i6 0, i6 0, i6 0, i6 0, i6 0, i6 0, i6 0, i6 0, i6 0, i6 0, i6 0]) zeroValue38 rfl rfl rfl (fun b8 => ?_)
    refine st (i := 1) [i6 t22.Id, i6 t22.Photo, i6 (t22.Vec 0), i6 (t22.Vec 1), i6 (t22.Vec 2), i6 (t22.Vec 3), i6 (t22.Vec 4), i6 (t22.Vec 5), i6 (t22.Vec 6), i6 (t22.Vec 7), i6 (t22.Vec 8), i6 (t22.Vec 9), i6 (t22.Vec 10), i6 (t22.Vec 11)] [i6 t22.Id, i6 t22.Photo, i6 (t22.Vec 0), i6 (t22.Vec 1), i6 (t22.Vec 2), i6 (t22.Vec 3), i6 (t22.Vec 4), i6 (t22.Vec 5), i6 (t22.Vec 6), i6 (t22.Vec 7), i6 (t22.Vec 8), i6 (t22.Vec 9), i6 (t22.Vec 10), i6 (t22.Vec 11)] sizeOf38 rfl rfl<|Jc<|?_
    exact Xp (Kd.p :: Kd.d [1] _ :: Kd.p :: Kd.d [1] _ :: Kd.ns 2 [_, _] 3 2 :: Kd.d [2] _ :: Kd.p :: Kd.p :: Kd.p :: Kd.d [1] _ :: Kd.p :: Kd.p :: Kd.t 0 [] _ _ :: []) 1 mixed (by
     refine dv (Ya runUnderlying38 rfl sizeOf3 rfl rfl)<|dl (i6 t22.Id) isAgg3<|dv (Ya runUnderlying38 rfl sizeOf3 rfl rfl)<|dl (i6 t22.Photo) isAgg3<|?_
     refine Jfx rfl rfl (Zu (vs := [i6 t22.Id, i6 t22.Photo]) (cs := [i6 t22.Id, i6 t22.Photo]) underlying75 sizeOf3 zeroValue3 rfl rfl rfl rfl rfl) rfl (fun b9 => ?_)
     have h_t29 := Qh H66
     have H67 := J3 H66
     refine Jd4 (fun w L' hF hS hi => k35 (Jr w) (frs_box (i := 2) (xs := ([t22.Id, t22.Photo] : List Int)) (f := Jn) hS ((hi 2 (by simp)).trans rfl) rfl rfl rfl rfl) (tb_pow10.mono (hw.now hF)) h_t29) call35 rfl rfl ?_
     have h_t30 := Qh H67
     have H68 := J3 H67
     refine dv (Yq rfl rfl h_t30)<|dv (Ya runUnderlying38 rfl sizeOf36 rfl rfl)<|dv (Jem underlying36 sizeOf3 rfl)<|?_
     have h_t33 := Qh H68
     have H69 := J3 H68
     refine Jd4 (fun w L' hF hS hi => k35 (Jr w) (frs_arx (f := Jn) (n := 12) (o := 2) (a := t22.Vec) (i := 1) hS ((hi 1 (by simp)).trans rfl) rfl (fun _ => rfl) rfl) (tb_pow10.mono (hw.now hF)) h_t33) call35 rfl rfl ?_
     have h_t34 := Qh H69
     have H70 := J3 H69
     refine dv (Yq rfl rfl h_t34) ?_
     have h_t35 := Qh H70
     have H71 := J3 H70
     refine dv (Yq rfl rfl h_t35) ?_
     have h_t36 := Qh H71
     have H72 := J3 H71
     refine Jew (Cv := fun _ => Vg b5 84 5 (val (gBld m_6 (val (Vi (val (Vi (val (Vi [102, 97, 99, 101] (val (Qw ([t22.Id, t22.Photo] : List Int))))) (val (Qw ((List.range 12).map t22.Vec))))) [10]))))) () (Qp (i := 0) (rds := _) (G := fun _ : Unit => .tuple #[i6 ((val (Vi (val (Vi (val (Vi [102, 97, 99, 101] (val (Qw ([t22.Id, t22.Photo] : List Int))))) (val (Qw ((List.range 12).map t22.Vec))))) [10])).length : Int), .nilIface]) (C := fun _ => Vg b5 84 5 (val (gBld m_6 (val (Vi (val (Vi (val (Vi [102, 97, 99, 101] (val (Qw ([t22.Id, t22.Photo] : List Int))))) (val (Qw ((List.range 12).map t22.Vec))))) [10]))))) rfl (fun w L' S hF hS hi hp hlt ho hA => k31 hp hlt (Q4 w S) h_t36) call31 rfl) (fun _ => rfl) rfl rfl (fun _ => ?_)
     refine Wk<|Ja<|?_
     obtain ⟨t37, h_t37, H73⟩ := Je H72; clear H72
     refine lv (Qe rfl rfl h_t37)<|mv (i6 t37)<|Jc<|?_
     exact cl (t37, (val (gBld m_6 (val (Vi (val (Vi (val (Vi [102, 97, 99, 101] (val (Qw ([t22.Id, t22.Photo] : List Int))))) (val (Qw ((List.range 12).map t22.Vec))))) [10]))))) () m4 [0] (by exact ⟨(by subst hn4; exact H73), trivial⟩)
     ) (by kernel_rfl)
   ·refine Qg ?_
    exact cl m_6 () 0 [0] (by exact ⟨H74, trivial⟩)
  ·rintro m _ gg H41 _
   try dsimp only at H41
   try dsimp only
   refine Qi (r := r) (σ := (List UInt8)) (τ := Unit) (fun s => Wc s) (fun s t => [(7, .pointer (some ⟨b5, 0, none⟩))]) (fun s t => [Vg b5 84 5 s]) (fun s t => True) ?_ ?_
   ·refine Jb<|Ja<|mv v1<|lv (Jas underlying23 rfl f1)<|mv (i6 0)<|Jc<|Jl<|?_
    refine Xb (σ := Int × (List UInt8)) (τ := Unit) (fun next3 s => Ub a1 next3 s.1 s.2) (fun s t => [(7, .pointer (some ⟨b5, 0, none⟩)), (38, v1), (39, i6 (a1.length : Int)), (40, i6 s.1)]) (fun s t => [Vg b5 84 5 s.2]) (fun s t => True) (0, m) () [0] H41 (by exact trivial) (by exact ⟨rfl, rfl, rfl, rfl, trivial⟩) (by decide) rfl ?_
    rintro ⟨x40_2, m_4⟩ _ m3 gg H45 _
    clear H41
    try dsimp only at H45
    generalize hn3 : it (fun next3 s => Ub a1 next3 s.1 s.2) m3 = next3 at H45
    try dsimp only
    refine Jb<|Ja<|lv (Qv rfl rfl)<|Jc<|Jb<|?_
    revert H45
    refine ci (decide (x40_2 < (a1.length : Int))) rfl (fun hb H46=>?_) fun hb H63=>?_
    ·refine Jj<|Jb<|Jl<|Jb<|Ja<|?_
     obtain ⟨t42, h_t42, H47⟩ := Je H46; clear H46
     refine lv (J4 underlying23 sizeOf77 rfl rfl f1.frs (f1.ix h_t42))<|Jy (fun w hF hS => X2 (f := (elC h v1 4)) (i := x40_2) (sz := 4) (j := 0) (vs := [i6 t42.Id, Jk t42.Name, (Qt h v1 4 (Int.toNat x40_2) 2), (Qt h v1 4 (Int.toNat x40_2) 3)]) isAgg77 sizeOf77 rfl rfl (f1.frs.row (hw.now hF)) (f1.ix h_t42) (rd_of (Yw (f1.at h_t42)) rfl)) rfl rfl rfl<|?_
     refine Z6 (cs := [i6 0, Jk [], .slice none 0 0, .slice none 0 0]) zeroValue77 rfl rfl rfl (fun b6 => ?_)
     refine U5 (i := 1) (vs := [i6 t42.Id, Jk t42.Name, (Qt h v1 4 (Int.toNat x40_2) 2), (Qt h v1 4 (Int.toNat x40_2) 3)]) (cs' := [i6 t42.Id, Jk t42.Name, (Qt h v1 4 (Int.toNat x40_2) 2), (Qt h v1 4 (Int.toNat x40_2) 3)]) sizeOf77 rfl rfl rfl rfl rfl rfl (by simp only [List.all_cons, List.all_nil, (show FrS h 1 (Qt h v1 4 (Int.toNat x40_2) 2) (t42.Likes.map Jn) from (Jo (f1.at h_t42))).one, (show FrS h 1 (Qt h v1 4 (Int.toNat x40_2) 3) (t42.Nots.map Jn) from (J0 (f1.at h_t42))).one] <;> rfl) rfl rfl<|Jc<|Jb<|?_
     exact Xp (Kd.p :: Kd.d [1] _ :: Kd.ns 2 [_] 3 1 :: Kd.d [2] _ :: Kd.p :: Kd.p :: Kd.p :: Kd.d [1] _ :: Kd.p :: Kd.p :: Kd.t 0 [] _ _ :: []) 1 mixed (by
      refine dv (Ya runUnderlying77 rfl sizeOf3 rfl rfl)<|dl (i6 t42.Id) isAgg3<|?_
      refine Jfx rfl rfl (Zu (vs := [i6 t42.Id]) (cs := [i6 t42.Id]) underlying75 sizeOf3 zeroValue3 rfl rfl rfl rfl rfl) rfl (fun b7 => ?_)
      have h_t47 := Qh H47
      have H48 := J3 H47
      refine Jd4 (fun w L' hF hS hi => k35 (Jr w) (frs_box (i := 2) (xs := ([t42.Id] : List Int)) (f := Jn) hS ((hi 2 (by simp)).trans rfl) rfl rfl rfl rfl) (tb_pow10.mono (hw.now hF)) h_t47) call35 rfl rfl ?_
      have h_t48 := Qh H48
      have H49 := J3 H48
      refine dv (Yq rfl rfl h_t48) ?_
      have h_t49 := Qh H49
      have H50 := J3 H49
      refine dv (Yq rfl rfl h_t49)<|dv (Ya runUnderlying77 rfl sizeOf9 rfl rfl)<|dl (Jk t42.Name) isAgg9<|?_
      have h_t52 := Qh H50
      have H51 := J3 H50
      refine dv (Yq rfl rfl h_t52) ?_
      have h_t53 := Qh H51
      have H52 := J3 H51
      refine dv (Yq rfl rfl h_t53) ?_
      have h_t54 := Qh H52
      have H53 := J3 H52
      refine Jew (Cv := fun _ => Vg b5 84 5 (val (gBld m_4 (val (Vi (val (Vi (val (Vi (val (Vi [112, 101, 114, 115, 111, 110] (val (Qw ([t42.Id] : List Int))))) [32])) t42.Name)) [10]))))) () (Qp (i := 0) (rds := _) (G := fun _ : Unit => .tuple #[i6 ((val (Vi (val (Vi (val (Vi (val (Vi [112, 101, 114, 115, 111, 110] (val (Qw ([t42.Id] : List Int))))) [32])) t42.Name)) [10])).length : Int), .nilIface]) (C := fun _ => Vg b5 84 5 (val (gBld m_4 (val (Vi (val (Vi (val (Vi (val (Vi [112, 101, 114, 115, 111, 110] (val (Qw ([t42.Id] : List Int))))) [32])) t42.Name)) [10]))))) rfl (fun w L' S hF hS hi hp hlt ho hA => k31 hp hlt (Q4 w S) h_t54) call31 rfl) (fun _ => rfl) rfl rfl (fun _ => ?_)
      refine Wk<|Jb<|?_
      try dsimp only [z1, z2, z5, z6, z7, z8]
      refine Ja<|lf runUnderlying77 rfl sizeOf75 rfl<|ll 1 (Qt h v1 4 (Int.toNat x40_2) 2) isAgg75<|?_
      obtain ⟨t57, h_t57, H54⟩ := Je H53; clear H53
      refine Qm (fun w hF hS => k35 (Jr w) ((show FrS h 1 (Qt h v1 4 (Int.toNat x40_2) 2) (t42.Likes.map Jn) from (Jo (f1.at h_t42))).mono (hw.now hF)) (tb_pow10.mono (hw.now hF)) h_t57) call35 rfl rfl rfl ?_
      obtain ⟨t58, h_t58, H55⟩ := Je H54; clear H54
      refine lv (Yq rfl rfl h_t58) ?_
      obtain ⟨t59, h_t59, H56⟩ := Je H55; clear H55
      refine lv (Yq rfl rfl h_t59) ?_
      obtain ⟨t60, h_t60, H57⟩ := Je H56; clear H56
      refine Xl (Qp (i := 0) (rds := []) (G := fun _ : Unit => .tuple #[i6 (t59.length : Int), .nilIface]) (C := fun _ => Vg b5 84 5 t60) rfl (fun w L' S hF hS hi hp hlt ho hA => k31 hp hlt (Q4 w S) h_t60) call31 rfl) rfl rfl rfl (fun _ => ?_)
      refine Jc<|Ja<|lf runUnderlying77 rfl sizeOf75 rfl<|ll 1 (Qt h v1 4 (Int.toNat x40_2) 3) isAgg75<|?_
      obtain ⟨t63, h_t63, H58⟩ := Je H57; clear H57
      refine Qm (fun w hF hS => k35 (Jr w) ((show FrS h 1 (Qt h v1 4 (Int.toNat x40_2) 3) (t42.Nots.map Jn) from (J0 (f1.at h_t42))).mono (hw.now hF)) (tb_pow10.mono (hw.now hF)) h_t63) call35 rfl rfl rfl ?_
      obtain ⟨t64, h_t64, H59⟩ := Je H58; clear H58
      refine lv (Yq rfl rfl h_t64) ?_
      obtain ⟨t65, h_t65, H60⟩ := Je H59; clear H59
      refine lv (Yq rfl rfl h_t65) ?_
      obtain ⟨t66, h_t66, H61⟩ := Je H60; clear H60
      refine Xl (Qp (i := 0) (rds := []) (G := fun _ : Unit => .tuple #[i6 (t65.length : Int), .nilIface]) (C := fun _ => Vg b5 84 5 t66) rfl (fun w L' S hF hS hi hp hlt ho hA => k31 hp hlt (Q4 w S) h_t66) call31 rfl) rfl rfl rfl (fun _ => ?_)
      refine Jc<|Ja<|?_
      obtain ⟨t67, h_t67, H62⟩ := Je H61; clear H61
      refine lv (Qe rfl rfl h_t67)<|mv (i6 t67)<|Jc<|?_
      exact cl (t67, t66) () m3 [0] (by exact ⟨(by subst hn3; exact H62), trivial⟩)
      ) (by kernel_rfl)
    ·refine Qg ?_
     exact cl m_4 () 0 [0] (by exact ⟨H63, trivial⟩)
   ·rintro m_2 _ gg H42 _
    try dsimp only at H42
    try dsimp only
    refine Jb<|Jb<|Ja<|?_
    refine Xl (Qp (i := 0) (rds := []) (G := fun _ : Unit => i6 (m_2.length : Int)) (C := fun _ => Vg b5 84 5 m_2) rfl (fun w L' S hF hS hi hp hlt ho hA => k36 hp hlt (Q4 w S)) call36 rfl) rfl rfl rfl (fun _ => ?_)
    refine lv (Zi rfl rfl)<|Jc<|?_
    revert H42
    refine ci (decide (1000000 < (m_2.length : Int))) rfl (fun hb H43=>?_) fun hb H44=>?_
    ·refine Jb<|Ja<|ag (Jk [])<|ag (i6 4)<|Jc<|Ji<|?_
     obtain rfl := sj H43
     refine Uy (v1 := Jk []) (v2 := i6 4) rfl rfl rfl (fin rfl)
    ·refine Jj<|Jb<|Ja<|?_
     refine Xl (Qp (i := 0) (rds := []) (G := fun _ : Unit => Jk m_2) (C := fun _ => empC) rfl (fun w L' S hF hS hi hp hlt ho hA => k33 hp hlt (Q4 w S)) call33 rfl) rfl rfl rfl (fun _ => ?_)
     refine ag (Jk m_2)<|ag (i6 0)<|Jc<|Ji<|?_
     obtain rfl := sj H44
     refine Uy (v1 := Jk m_2) (v2 := i6 0) rfl rfl rfl (fin rfl)
end Go.Proofs.YtlkaenijicgfcaaGreatDoor

/- FaceTexts, lines: the walks, printed by our generator; each follows its model. Conditions: the model yields a value. -/
namespace Go.Proofs.YtlkaenijicgfcaaGreatDoor
open Go Go.Vc Go.Md Go.M Go.Lx Tryz
set_option maxRecDepth 100000
set_option maxHeartbeats 4000000
set_option linter.unusedVariables false
theorem ext344 (s : List UInt8) (c r : Int) (h : gIxB s c = some r) (w : World) : (callFunc 344 (List.toArray [Jk s, .int .u8 c])).run prog w = .ok (.value (i6 r)) w := by
  have h0 : (callFunc 344 #[Jk s, .int .u8 c]).run prog w = (do pure (.value (← Extern.BytealgIndexByte.indexByte #[Jk s, .int .u8 c])) : Sem Next).run prog w := by kernel_rfl
  rw [h0]
  simp only [Sem.run_bind, Go.Lx.run_ixB h, Result.andThen_ok, Sem.run_pure]
theorem k272 {a0 : (List UInt8)} {a1 : Int} {r : Int} (H : Xq a0 a1 = some r) : Ret prog 272 [Jk a0, .int .u8 a1] (i6 r) := by
 refine J7 (n := 8) func272 rfl rfl rfl (fun wd => ?_)
 refine Jb<|Ja<|ag (i6 0)<|Jc<|Jb<|Ja<|mv (Jk a0)<|mv (.int .u8 a1)<|?_
 obtain ⟨t7, h_t7, H2⟩ := Je H; clear H
 refine lv (r_ext (args := [Jk a0, .int .u8 a1]) (ext344 _ _ _ h_t7) rfl)<|ag (i6 t7)<|Jc<|Ji<|?_
 obtain rfl := sj H2
 exact r1 (i6 t7)
theorem k214 {a0 : (List UInt8)} {a1 : (List UInt8)} {r : Int} (H : Xk a0 a1 = some r) : Ret prog 214 [Jk a0, Jk a1] (i6 r) := by
 refine J7 (n := 143) func214 rfl rfl rfl (fun wd => ?_)
 refine Jb<|Ja<|ag (i6 0)<|Jc<|Jb<|Ja<|mv (Jk a1)<|lv (Q2 underlying9 rfl)<|ag (i6 (a1.length : Int))<|Jc<|Jb<|Jl<|Jb<|Ja<|mv (i6 (a1.length : Int))<|lv (Y4 rfl rfl)<|mv (.bool (decide ((a1.length : Int) = 0)))<|?_
 revert H
 refine sp (fun hb H11=>?_) fun hb H12=>?_
 ·refine pa<|pa<|pa<|pT (.bool true)<|ag (.bool true)<|Jc<|Zv rfl<|Jb<|Ja<|ag (i6 0)<|Jc<|Ji<|?_
  obtain rfl := sj H11
  exact r1 (i6 0)
 ·refine mv (Jk a1)<|mv (Jk a0)<|lv (V3 rfl rfl)<|pF (.bool (decide (a1 = a0)))<|ag (.bool (decide (a1 = a0)))<|Jc<|?_
  revert H12
  refine ci (decide (a1 = a0)) rfl (fun hb H13=>?_) fun hb H14=>?_
  ·refine Jb<|Ja<|ag (i6 0)<|Jc<|Ji<|?_
   obtain rfl := sj H13
   exact r1 (i6 0)
  ·refine Jb<|Ja<|mv (i6 (a1.length : Int))<|lv (Y4 rfl rfl)<|ag (.bool (decide ((a1.length : Int) = 1)))<|Jc<|?_
   revert H14
   refine ci (decide ((a1.length : Int) = 1)) rfl (fun hb H15=>?_) fun hb H18=>?_
   ·refine Jb<|Ja<|mv (Jk a0)<|mv (Jk a1)<|?_
    obtain ⟨t29, h_t29, H16⟩ := Je H15; clear H15
    refine lv (W1 underlying9 rfl rfl h_t29) ?_
    obtain ⟨t30, h_t30, H17⟩ := Je H16; clear H16
    refine Qc (k272 h_t30) call272 rfl rfl rfl<|ag (i6 t30)<|Jc<|Ji<|?_
    obtain rfl := sj H17
    exact r1 (i6 t30)
   ·refine Jb<|Ja<|mv (i6 (a1.length : Int))<|mv (Jk a0)<|lv (Q2 underlying9 rfl)<|lv (Jcg rfl rfl)<|ag (.bool (decide ((a0.length : Int) ≤ (a1.length : Int))))<|Jc<|?_
    revert H18
    refine ci (decide ((a0.length : Int) ≤ (a1.length : Int))) rfl (fun hb H19=>?_) fun hb H20=>?_
    ·refine Jb<|Ja<|ag (i6 (-1))<|Jc<|Ji<|?_
     obtain rfl := sj H19
     exact r1 (i6 (-1))
    ·exact absurd (show (none : Option (Int)) = some r from H20) (fun h => by cases h)
theorem k119 {a0 : (List UInt8)} {a1 : (List UInt8)} {r : (List UInt8) × (List UInt8) × Bool} (H : Vj a0 a1 = some r) : Ret prog 119 [Jk a0, Jk a1] (.tuple #[Jk r.1, Jk r.2.1, .bool r.2.2]) := by
 refine J7 (n := 23) func119 rfl rfl rfl (fun wd => ?_)
 refine Jb<|Ja<|ag (Jk [])<|ag (Jk [])<|ag (.bool false)<|Jc<|Jb<|Jb<|Ja<|mv (Jk a0)<|mv (Jk a1)<|?_
 obtain ⟨t10, h_t10, H7⟩ := Je H; clear H
 refine Qc (k214 h_t10) call214 rfl rfl rfl<|ag (i6 t10)<|Jc<|Jb<|Ja<|mv (i6 t10)<|lv (Jcg rfl rfl)<|Jc<|?_
 revert H7
 refine ci (decide (0 ≤ t10)) rfl (fun hb H8=>?_) fun hb H12=>?_
 ·refine Jb ?_
  exact Xp (Kd.p :: Kd.p :: Kd.p :: Kd.p :: Kd.p :: Kd.p :: Kd.p :: Kd.p :: Kd.p :: Kd.p :: Kd.p :: Kd.p :: []) 0 mixed (by
   refine dm (Jk a0)<|dm (i6 t10)<|?_
   have h_t15 := Qh H8
   have H9 := J3 H8
   refine dv (Jbv underlying9 rfl rfl h_t15)<|dm (Jk a0)<|dm (i6 t10)<|dm (Jk a1)<|dv (Q2 underlying9 rfl)<|?_
   have h_t20 := Qh H9
   have H10 := J3 H9
   refine dv (Qe rfl rfl h_t20) ?_
   have h_t21 := Qh H10
   have H11 := J3 H10
   refine dv (We underlying9 rfl rfl h_t21)<|W6 rfl rfl (Xs (v := Jk (val (Qd a0 0 t10))) rfl)<|W6 rfl rfl (Xs (v := Jk (val (Qd a0 (val (gI (t10 + (a1.length : Int)))) a0.length))) rfl)<|W6 rfl rfl (Xs (v := .bool true) rfl)<|Wk<|Ji<|?_
   obtain rfl := sj H11
   refine ret3 (v1 := Jk (val (Qd a0 0 t10))) (v2 := Jk (val (Qd a0 (val (gI (t10 + (a1.length : Int)))) a0.length))) (v3 := .bool true) rfl rfl rfl rfl (fin rfl)
   ) (by kernel_rfl)
 ·refine Jj<|Jb<|Ja<|mv (Jk a0)<|ag (Jk a0)<|ag (Jk [])<|ag (.bool false)<|Jc<|Ji<|?_
  obtain rfl := sj H12
  refine ret3 (v1 := Jk a0) (v2 := Jk []) (v3 := .bool false) rfl rfl rfl rfl (fin rfl)
theorem k37 {a0 : (List UInt8)} {a1 : (List UInt8)} {r : (List UInt8) × (List UInt8) × Bool} (H : Jam a0 a1 = some r) : Ret prog 37 [Jk a0, Jk a1] (.tuple #[Jk r.1, Jk r.2.1, .bool r.2.2]) := by
 refine J7 (n := 13) func37 rfl rfl rfl (fun wd => ?_)
 refine Jb<|Ja<|ag (Jk [])<|ag (Jk [])<|ag (.bool false)<|Jc<|Jb<|Ja<|mv (Jk a0)<|mv (Jk a1)<|?_
 obtain ⟨t9, h_t9, H2⟩ := Je H; clear H
 refine Qc (k119 h_t9) call119 rfl rfl rfl<|lv (Jm (v := Jk t9.1) rfl rfl)<|lv (Jm (v := Jk t9.2.1) rfl rfl)<|lv (Jm (v := .bool t9.2.2) rfl rfl)<|ag (Jk t9.1)<|ag (Jk t9.2.1)<|ag (.bool t9.2.2)<|Jc<|Ji<|?_
 obtain rfl := sj H2
 refine ret3 (v1 := Jk t9.1) (v2 := Jk t9.2.1) (v3 := .bool t9.2.2) rfl rfl rfl rfl (fin rfl)
theorem k276 {a0 : (List UInt8)} {r : Int} (H : Yr a0 = some r) : Ret prog 276 [Jk a0] (i6 r) := by
 refine J7 (n := 10) func276 rfl rfl rfl (fun wd => ?_)
 refine Jb<|Ja<|ag (i6 0)<|Jc<|Jb<|Jb<|Ja<|mv (Jk a0)<|?_
 refine Zr (rds := []) (Jf1 (s := a0) underlying9 rfl) rfl rfl rfl (fun b1 => ?_)
 refine Jc<|Jl<|?_
 refine Xb (σ := Int × Nat) (τ := Unit) (fun next1 s => Yd a0 next1 s.1 s.2) (fun s t => [(2, i6 s.1), (4, .pointer (some ⟨b1, 0, none⟩))]) (fun s t => [iterC b1 a0 s.2]) (fun s t => True) (0, 0) () [0] H (by exact trivial) (by exact ⟨rfl, rfl, trivial⟩) (by decide) rfl ?_
 rintro ⟨x2_2, k_2⟩ _ m1 gg H6 _
 clear H
 try dsimp only at H6
 generalize hn1 : it (fun next1 s => Yd a0 next1 s.1 s.2) m1 = next1 at H6
 try dsimp only
 refine Jb<|Ja<|?_
 refine caseB (decide (k_2 < a0.length)) (fun hb => ?_) (fun hb => ?_)
 ·have H7 := Jen hb H6; clear H6
  obtain ⟨t5, h_t5, H8⟩ := Je H7; clear H7
  refine Xl (Jgq (i := 0) (rds := []) rfl rfl h_t5) rfl rfl rfl (fun _ => ?_)
  refine lv (Jm (v := .bool true) rfl rfl)<|Jc<|Jb<|Zv rfl<|Jj<|Jl<|Ja<|mv (i6 x2_2)<|?_
  obtain ⟨t8, h_t8, H9⟩ := Je H8; clear H8
  refine lv (Qe rfl rfl h_t8)<|ag (i6 t8)<|Jc<|?_
  exact cl (t8, (k_2 + 1)) () m1 [0] (by exact ⟨(by subst hn1; exact H9), trivial⟩)
 ·have H10 := Jei hb H6; clear H6
  refine Jy (fun w hF hS => Jgi (i := 0) hS rfl rfl hb) rfl rfl rfl<|lv (Jm (v := .bool false) rfl rfl)<|Jc<|Jb<|Zf rfl<|Qg<|Jb<|Ja<|mv (i6 x2_2)<|ag (i6 x2_2)<|Jc<|Ji<|?_
  obtain rfl := sj H10
  exact r1 (i6 x2_2)
theorem k346 {a0 : (List UInt8)} {r : Int × Int} (H : Zh a0 = some r) : Ret prog 346 [Jk a0] (.tuple #[.int .i32 r.1, i6 r.2]) := by
 refine J7 (n := 117) func346 rfl rfl rfl (fun wd => ?_)
 refine Jb<|Ja<|ag (.int .i32 0)<|ag (i6 0)<|Jc<|Jb<|Ja<|mv (Jk a0)<|lv (Q2 underlying9 rfl)<|ag (i6 (a0.length : Int))<|Jc<|Jb<|Jb<|Ja<|mv (i6 (a0.length : Int))<|lv (Qv rfl rfl)<|Jc<|?_
 revert H
 refine ci (decide ((a0.length : Int) < 1)) rfl (fun hb H3=>?_) fun hb H4=>?_
 ·refine Jb<|Ja<|ag (.int .i32 65533)<|ag (i6 0)<|Jc<|Ji<|?_
  obtain rfl := sj H3
  refine Uy (v1 := .int .i32 65533) (v2 := i6 0) rfl rfl rfl (fin rfl)
 ·exact absurd (show (none : Option (Int × Int)) = some r from H4) (fun h => by cases h)
theorem k277 {a0 : (List UInt8)} {r : Int × Int} (H : Xh a0 = some r) : Ret prog 277 [Jk a0] (.tuple #[.int .i32 r.1, i6 r.2]) := by
 refine J7 (n := 19) func277 rfl rfl rfl (fun wd => ?_)
 refine Jb<|Ja<|ag (.int .i32 0)<|ag (i6 0)<|Jc<|Jb<|?_
 refine Qi (r := r) (σ := Bool) (τ := Unit) (fun s => X3 a0 s) (fun s t => [(0, Jk a0), (10, .bool s)]) (fun s t => []) (fun s t => True) ?_ ?_
 ·refine Ja<|mv (Jk a0)<|lv (r_neqT rfl rfl)<|mv (.bool (decide (a0 ≠ [])))<|?_
  revert H
  refine sp (fun hb H16=>?_) fun hb H18=>?_
  ·refine mv (Jk a0) ?_
   obtain ⟨t8, h_t8, H17⟩ := Je H16; clear H16
   refine lv (W1 underlying9 rfl rfl h_t8)<|lv (Qv rfl rfl)<|pT (.bool (decide (t8 < 128)))<|Jc<|?_
   exact cl (decide (t8 < 128)) () 0 [] (by exact ⟨H17, trivial⟩)
  ·refine pa<|pa<|pa<|pF (.bool false)<|Jc<|?_
   exact cl false () 0 [] (by exact ⟨H18, trivial⟩)
 ·rintro x10 _ gg H10 _
  try dsimp only at H10
  try dsimp only
  revert H10
  refine ci x10 rfl (fun hb H11=>?_) fun hb H14=>?_
  ·refine Jb<|Ja<|mv (Jk a0)<|?_
   obtain ⟨t12, h_t12, H12⟩ := Je H11; clear H11
   refine lv (W1 underlying9 rfl rfl h_t12) ?_
   obtain ⟨t13, h_t13, H13⟩ := Je H12; clear H12
   refine lv (Jcx runUnderlying5 runUnderlying21 rfl (gK_i32 h_t13))<|ag (.int .i32 t13)<|ag (i6 1)<|Jc<|Ji<|?_
   obtain rfl := sj H13
   refine Uy (v1 := .int .i32 t13) (v2 := i6 1) rfl rfl rfl (fin rfl)
  ·refine Ja<|mv (Jk a0)<|?_
   obtain ⟨t16, h_t16, H15⟩ := Je H14; clear H14
   refine Qc (k346 h_t16) call346 rfl rfl rfl<|mv (.tuple #[.int .i32 t16.1, i6 t16.2])<|lv (Jm (v := .int .i32 t16.1) rfl rfl)<|lv (Jm (v := i6 t16.2) rfl rfl)<|ag (.int .i32 t16.1)<|ag (i6 t16.2)<|Jc<|Ji<|?_
   obtain rfl := sj H15
   refine Uy (v1 := .int .i32 t16.1) (v2 := i6 t16.2) rfl rfl rfl (fin rfl)
theorem k216 {a0 : (List UInt8)} {a1 : Int} {r : (List (List UInt8))} {w : World} {h : Jt} (hw : Know h w Yt) (H : Jds a0 a1 = some r) : Does prog 216 (List.toArray [Jk a0, i6 a1]) w (fun v w' => ∃ x : (Option Addr × Nat), v = (sl x r.length) ∧ Turn w w' Yt (Jw 9 1 (sl x r.length) r.length (r.map Jv))) := by
 refine enter (n := 50) func216 rfl rfl rfl Yt [] (Sat.nil _ _)<|Jb<|Ja<|ag (.slice none 0 0)<|Jc<|Jb<|Ja<|mv (Jk a0)<|?_
 obtain ⟨t11, h_t11, H24⟩ := Je H; clear H
 refine Qc (k276 h_t11) call276 rfl rfl rfl<|ag (i6 t11)<|Jc<|?_
 refine Qi (r := r) (σ := Int) (τ := Unit) (fun s => Wa a0 s) (fun s t => [(0, Jk a0), (1, i6 s)]) (fun s t => []) (fun s t => True) ?_ ?_
 ·refine Jb<|Ja<|mv (i6 a1)<|lv (Qv rfl rfl)<|mv (.bool (decide (a1 < 0)))<|?_
  revert H24
  refine sp (fun hb H43=>?_) fun hb H44=>?_
  ·refine pa<|pa<|pa<|pT (.bool true)<|Jc<|Zv rfl<|Ja<|mv (i6 t11)<|ag (i6 t11)<|Jc<|?_
   exact cl t11 () 0 [] (by exact ⟨H43, trivial⟩)
  ·refine mv (i6 a1)<|mv (i6 t11)<|lv (Zi rfl rfl)<|pF (.bool (decide (t11 < a1)))<|Jc<|?_
   revert H44
   refine ci (decide (t11 < a1)) rfl (fun hb H45=>?_) fun hb H46=>?_
   ·refine Ja<|mv (i6 t11)<|ag (i6 t11)<|Jc<|?_
    exact cl t11 () 0 [] (by exact ⟨H45, trivial⟩)
   ·refine Jj ?_
    exact cl a1 () 0 [] (by exact ⟨H46, trivial⟩)
 ·rintro x1 _ gg H25 _
  try dsimp only at H25
  try dsimp only
  refine Jb<|Ja<|mv (i6 x1)<|?_
  obtain ⟨t21, h_t21, H26⟩ := Je H25; clear H25
  refine Zr (rds := []) (Jfz (E := 9) (sz := 1) (f := Jv) (xs := t21) underlying31 (Vo typeInfo9) rfl rfl rfl rfl rfl rfl ⟨rfl, rfl⟩ h_t21) rfl rfl rfl (fun p => ?_)
  refine ag (sl p t21.length)<|Jc<|?_
  refine Qi (r := r) (σ := (List UInt8) × (List (List UInt8))) (τ := Unit) (fun s => Jcj x1 s.1 s.2) (fun s t => [(0, Jk s.1), (1, i6 x1), (6, sl p t21.length)]) (fun s t => [Jw 9 1 (sl p t21.length) t21.length (s.2.map Jv)]) (fun s t => t21.length = s.2.length) ?_ ?_
  ·refine Jb<|Ja<|ag (i6 0)<|Jc<|Jl<|?_
   refine Xb (σ := (List UInt8) × Int × (List (List UInt8))) (τ := Unit) (fun next3 s => Jag x1 next3 s.1 s.2.1 s.2.2) (fun s t => [(0, Jk s.1), (1, i6 x1), (6, sl p t21.length), (7, i6 s.2.1)]) (fun s t => [Jw 9 1 (sl p t21.length) t21.length (s.2.2.map Jv)]) (fun s t => t21.length = s.2.2.length) (a0, 0, t21) () [0] H26 (by exact rfl) (by exact ⟨rfl, rfl, rfl, rfl, trivial⟩) (by decide) rfl ?_
   rintro ⟨x0_3, x7_2, l_3⟩ _ m3 gg H33 hl_3
   clear H26
   try dsimp only at H33
   generalize hn3 : it (fun next3 s => Jag x1 next3 s.1 s.2.1 s.2.2) m3 = next3 at H33
   try dsimp only
   refine Jb<|Jb<|Ja<|mv (i6 x7_2)<|mv (i6 x1)<|?_
   obtain ⟨t24, h_t24, H34⟩ := Je H33; clear H33
   refine lv (Ym rfl rfl h_t24)<|lv (Qv rfl rfl)<|Jc<|?_
   revert H34
   refine ci (decide (x7_2 < t24)) rfl (fun hb H35=>?_) fun hb H42=>?_
   ·refine Jj<|Jb<|Jl<|Jb<|Ja<|mv (Jk x0_3)<|?_
    obtain ⟨t30, h_t30, H36⟩ := Je H35; clear H35
    refine Qc (k277 h_t30) call277 rfl rfl rfl<|mv (.tuple #[.int .i32 t30.1, i6 t30.2])<|lv (Jm (v := .int .i32 t30.1) rfl rfl)<|lv (Jm (v := i6 t30.2) rfl rfl)<|ag (.int .i32 t30.1)<|ag (i6 t30.2)<|Jc<|Jb<|Ja<|mv (sl p t21.length)<|mv (i6 x7_2)<|mv (Jk x0_3)<|mv (i6 t30.2)<|?_
    obtain ⟨t37, h_t37, H37⟩ := Je H36; clear H36
    refine lv (Jbv underlying9 rfl rfl h_t37) ?_
    obtain ⟨t38, h_t38, H38⟩ := Je H37; clear H37
    refine Jy (fun w hF hS => X5 underlying31 sizeOf9 rfl rfl (V9 (i := 0) hS rfl) hl_3 h_t38) rfl rfl rfl ?_
    obtain ⟨l0_2, h_l0_2, H39⟩ := Je H38; clear H38
    refine Jfh (q := 0) (j := 0) (i := x7_2) (sz := 1) (hm := hl_3) (f := Jv) (vs := [Jk t37]) sizeOf9 rfl rfl rfl rfl rfl rfl rfl rfl rfl (fun y_ hy_ => by first | rfl | (cases hy_.symm.trans h_t38; rfl)) h_l0_2<|Jc<|Ja<|mv (Jk x0_3)<|mv (i6 t30.2)<|?_
    obtain ⟨t41, h_t41, H40⟩ := Je H39; clear H39
    refine lv (We underlying9 rfl rfl h_t41)<|ag (Jk t41)<|Jc<|Ja<|mv (i6 x7_2)<|?_
    obtain ⟨t27, h_t27, H41⟩ := Je H40; clear H40
    refine lv (Qe rfl rfl h_t27)<|ag (i6 t27)<|Jc<|?_
    exact cl (t41, t27, l0_2) () m3 [0] (by exact ⟨(by subst hn3; exact H41), (Jfw hl_3 h_l0_2)⟩)
   ·refine Qg ?_
    exact cl (x0_3, l_3) () 0 [0] (by exact ⟨H42, hl_3⟩)
  ·rintro ⟨x0, l⟩ _ gg H27 hl
   try dsimp only at H27
   try dsimp only
   refine Jb<|Jb<|Ja<|mv (i6 x1)<|lv (Zi rfl rfl)<|Jc<|?_
   revert H27
   refine ci (decide (0 < x1)) rfl (fun hb H28=>?_) fun hb H32=>?_
   ·refine Ja<|mv (sl p t21.length)<|mv (i6 x1)<|?_
    obtain ⟨t46, h_t46, H29⟩ := Je H28; clear H28
    refine lv (Ym rfl rfl h_t46)<|mv (Jk x0)<|?_
    obtain ⟨t48, h_t48, H30⟩ := Je H29; clear H29
    refine Jy (fun w hF hS => X5 underlying31 sizeOf9 rfl rfl (V9 (i := 0) hS rfl) hl h_t48) rfl rfl rfl ?_
    obtain ⟨l0, h_l0, H31⟩ := Je H30; clear H30
    refine Jfh (q := 0) (j := 0) (i := t46) (sz := 1) (hm := hl) (f := Jv) (vs := [Jk x0]) sizeOf9 rfl rfl rfl rfl rfl rfl rfl rfl rfl (fun y_ hy_ => by first | rfl | (cases hy_.symm.trans h_t48; rfl)) h_l0<|Jc<|Jb<|Ja<|mv (sl p t21.length)<|ag (sl p t21.length)<|Jc<|Ji<|?_
    obtain rfl := sj H31
    refine Wm (v := sl p t21.length) rfl rfl (Yx p (i := 0) rfl (by first | rfl | rw [(show t21.length = l0.length from (Jfw hl h_l0))]) (by first | exact Imp.refl _ | exact Imp.of (by rw [(show t21.length = l0.length from (Jfw hl h_l0))] <;> rfl)))
   ·refine Jj<|Jb<|Ja<|mv (sl p t21.length)<|ag (sl p t21.length)<|Jc<|Ji<|?_
    obtain rfl := sj H32
    refine Wm (v := sl p t21.length) rfl rfl (Yx p (i := 0) rfl (by first | rfl | rw [(show t21.length = l.length from hl)]) (by first | exact Imp.refl _ | exact Imp.of (by rw [(show t21.length = l.length from hl)] <;> rfl)))
theorem k218 {a0 : (List UInt8)} {a1 : (List UInt8)} {r : Int} (H : U0 a0 a1 = some r) : Ret prog 218 [Jk a0, Jk a1] (i6 r) := by
 refine J7 (n := 8) func218 rfl rfl rfl (fun wd => ?_)
 refine Jb<|Ja<|ag (i6 0)<|Jc<|Jb<|Ja<|mv (Jk a0)<|mv (Jk a1)<|?_
 obtain ⟨t7, h_t7, H2⟩ := Je H; clear H
 refine Qc (k214 h_t7) call214 rfl rfl rfl<|ag (i6 t7)<|Jc<|Ji<|?_
 obtain rfl := sj H2
 exact r1 (i6 t7)
theorem ext278 (s : List UInt8) (c r : Int) (h : gCnB s c = some r) (w : World) : (callFunc 278 (List.toArray [Jk s, .int .u8 c])).run prog w = .ok (.value (i6 r)) w := by
  have h0 : (callFunc 278 #[Jk s, .int .u8 c]).run prog w = (do pure (.value (← Extern.BytealgCount.count #[Jk s, .int .u8 c])) : Sem Next).run prog w := by kernel_rfl
  rw [h0]
  simp only [Sem.run_bind, Go.Lx.run_cnB h, Result.andThen_ok, Sem.run_pure]
theorem k217 {a0 : (List UInt8)} {a1 : (List UInt8)} {r : Int} (H : Jbn a0 a1 = some r) : Ret prog 217 [Jk a0, Jk a1] (i6 r) := by
 refine J7 (n := 34) func217 rfl rfl rfl (fun wd => ?_)
 refine Jb<|Ja<|ag (i6 0)<|Jc<|Jb<|Jb<|Ja<|mv (Jk a1)<|lv (Q2 underlying9 rfl)<|lv (Y4 rfl rfl)<|Jc<|?_
 revert H
 refine ci (decide ((a1.length : Int) = 0)) rfl (fun hb H16=>?_) fun hb H19=>?_
 ·refine Jb<|Ja<|mv (Jk a0)<|?_
  obtain ⟨t11, h_t11, H17⟩ := Je H16; clear H16
  refine Qc (k276 h_t11) call276 rfl rfl rfl ?_
  obtain ⟨t12, h_t12, H18⟩ := Je H17; clear H17
  refine lv (Qe rfl rfl h_t12)<|ag (i6 t12)<|Jc<|Ji<|?_
  obtain rfl := sj H18
  exact r1 (i6 t12)
 ·refine Jj<|Jb<|Jb<|Ja<|mv (Jk a1)<|lv (Q2 underlying9 rfl)<|lv (Y4 rfl rfl)<|Jc<|?_
  revert H19
  refine ci (decide ((a1.length : Int) = 1)) rfl (fun hb H20=>?_) fun hb H23=>?_
  ·refine Jb<|Ja<|mv (Jk a0)<|mv (Jk a1)<|?_
   obtain ⟨t18, h_t18, H21⟩ := Je H20; clear H20
   refine lv (W1 underlying9 rfl rfl h_t18) ?_
   obtain ⟨t19, h_t19, H22⟩ := Je H21; clear H21
   refine lv (r_ext (args := [Jk a0, .int .u8 t18]) (ext278 _ _ _ h_t19) rfl)<|ag (i6 t19)<|Jc<|Ji<|?_
   obtain rfl := sj H22
   exact r1 (i6 t19)
  ·refine Jj<|Jb<|Ja<|ag (i6 0)<|Jc<|Jl<|?_
   refine Xb (σ := (List UInt8) × Int) (τ := Unit) (fun next1 s => Ja9 a1 next1 s.1 s.2) (fun s t => [(0, Jk s.1), (1, Jk a1), (5, i6 s.2)]) (fun s t => []) (fun s t => True) (a0, 0) () [] H23 (by exact trivial) (by exact ⟨rfl, rfl, rfl, trivial⟩) (by decide) rfl ?_
   rintro ⟨x0_2, x5_2⟩ _ m1 gg H24 _
   clear H23
   try dsimp only at H24
   generalize hn1 : it (fun next1 s => Ja9 a1 next1 s.1 s.2) m1 = next1 at H24
   try dsimp only
   refine Jl<|Jb<|Ja<|mv (Jk x0_2)<|mv (Jk a1)<|?_
   obtain ⟨t22, h_t22, H25⟩ := Je H24; clear H24
   refine Qc (k218 h_t22) call218 rfl rfl rfl<|ag (i6 t22)<|Jc<|Jb<|Jb<|Ja<|mv (i6 t22)<|lv (Y4 rfl rfl)<|Jc<|?_
   revert H25
   refine ci (decide (t22 = (-1))) rfl (fun hb H26=>?_) fun hb H27=>?_
   ·refine Jb<|Ja<|mv (i6 x5_2)<|ag (i6 x5_2)<|Jc<|Ji<|?_
    obtain rfl := sj H26
    exact r1 (i6 x5_2)
   ·refine Jj<|Jb<|Ja<|mv (i6 x5_2)<|?_
    obtain ⟨t27, h_t27, H28⟩ := Je H27; clear H27
    refine lv (Qe rfl rfl h_t27)<|ag (i6 t27)<|Jc<|Ja<|mv (Jk x0_2)<|mv (i6 t22)<|mv (Jk a1)<|lv (Q2 underlying9 rfl)<|?_
    obtain ⟨t32, h_t32, H29⟩ := Je H28; clear H28
    refine lv (Qe rfl rfl h_t32) ?_
    obtain ⟨t33, h_t33, H30⟩ := Je H29; clear H29
    refine lv (We underlying9 rfl rfl h_t33)<|ag (Jk t33)<|Jc<|?_
    exact cl (t33, t27) () m1 [] (by exact ⟨(by subst hn1; exact H30), trivial⟩)
theorem k123 {a0 : (List UInt8)} {a1 : (List UInt8)} {a2 : Int} {a3 : Int} {r : (List (List UInt8))} {w : World} {h : Jt} (hw : Know h w Yt) (H : Vt a0 a1 a2 a3 = some r) : Does prog 123 (List.toArray [Jk a0, Jk a1, i6 a2, i6 a3]) w (fun v w' => ∃ x : (Option Addr × Nat), v = (sl x r.length) ∧ Turn w w' Yt (Jw 9 1 (sl x r.length) r.length (r.map Jv))) := by
 refine enter (n := 66) func123 rfl rfl rfl Yt [] (Sat.nil _ _)<|Jb<|Ja<|ag (.slice none 0 0)<|Jc<|Jb<|Jb<|Ja<|mv (i6 a3)<|lv (Y4 rfl rfl)<|Jc<|?_
 revert H
 refine ci (decide (a3 = 0)) rfl (fun hb H32=>?_) fun hb H33=>?_
 ·refine Jb<|Ja<|ag (.slice none 0 0)<|Jc<|Ji<|Q1 9 1<|?_
  obtain rfl := sj H32
  refine Wm (v := sl nn ([] : List (List UInt8)).length) rfl rfl (Yx nn (i := 0) rfl rfl (Imp.refl _))
 ·refine Jj<|Jb<|Jb<|Ja<|mv (Jk a1)<|lv (V3 rfl rfl)<|Jc<|?_
  revert H33
  refine ci (decide (a1 = [])) rfl (fun hb H34=>?_) fun hb H36=>?_
  ·refine Jb<|Ja<|mv (Jk a0)<|mv (i6 a3)<|?_
   obtain ⟨t18, h_t18, H35⟩ := Je H34; clear H34
   refine Zr (Ye (rds := []) (G := fun x : (Option Addr × Nat) => sl x t18.length) (C := fun x : (Option Addr × Nat) => Jw 9 1 (sl x t18.length) t18.length (t18.map Jv)) (fun w L' hF hS hi => k216 (Jr w)  h_t18) call216 rfl) rfl rfl rfl (fun p => ?_)
   refine ag (sl p t18.length)<|Jc<|Ji<|?_
   obtain rfl := sj H35
   refine Wm (v := sl p t18.length) rfl rfl (Yx p (i := 0) rfl rfl (Imp.refl _))
  ·refine Jj ?_
   refine Qi (r := r) (σ := Int) (τ := Unit) (fun s => Vn a0 a1 a2 s) (fun s t => [(0, Jk a0), (1, Jk a1), (2, i6 a2), (3, i6 s)]) (fun s t => []) (fun s t => True) ?_ ?_
   ·refine Jb<|Ja<|mv (i6 a3)<|lv (Qv rfl rfl)<|Jc<|?_
    revert H36
    refine ci (decide (a3 < 0)) rfl (fun hb H59=>?_) fun hb H62=>?_
    ·refine Ja<|mv (Jk a0)<|mv (Jk a1)<|?_
     obtain ⟨t23, h_t23, H60⟩ := Je H59; clear H59
     refine Qc (k217 h_t23) call217 rfl rfl rfl ?_
     obtain ⟨t24, h_t24, H61⟩ := Je H60; clear H60
     refine lv (Qe rfl rfl h_t24)<|ag (i6 t24)<|Jc<|?_
     exact cl t24 () 0 [] (by exact ⟨H61, trivial⟩)
    ·refine Jj ?_
     exact cl a3 () 0 [] (by exact ⟨H62, trivial⟩)
   ·rintro x3 _ gg H37 _
    try dsimp only at H37
    try dsimp only
    refine Jb<|Ja<|mv (i6 x3)<|mv (Jk a0)<|lv (Q2 underlying9 rfl)<|?_
    obtain ⟨t28, h_t28, H38⟩ := Je H37; clear H37
    refine lv (Qe rfl rfl h_t28)<|lv (r_min rfl rfl)<|ag (i6 (min x3 t28))<|Jc<|Jb<|Ja<|mv (i6 (min x3 t28))<|?_
    obtain ⟨t31, h_t31, H39⟩ := Je H38; clear H38
    refine Zr (rds := []) (Jfz (E := 9) (sz := 1) (f := Jv) (xs := t31) underlying31 (Vo typeInfo9) rfl rfl rfl rfl rfl rfl ⟨rfl, rfl⟩ h_t31) rfl rfl rfl (fun p_2 => ?_)
    refine ag (sl p_2 t31.length)<|Jc<|Jb<|Ja<|mv (i6 (min x3 t28))<|?_
    obtain ⟨t33, h_t33, H40⟩ := Je H39; clear H39
    refine lv (Ym rfl rfl h_t33)<|ag (i6 t33)<|Jc<|Jb<|Ja<|ag (i6 0)<|Jc<|?_
    refine Qi (r := r) (σ := (List UInt8) × Int × (List (List UInt8))) (τ := Unit) (fun s => Y9 s.1 s.2.1 s.2.2) (fun s t => [(0, Jk s.1), (9, sl p_2 t31.length), (10, i6 s.2.1)]) (fun s t => [Jw 9 1 (sl p_2 t31.length) t31.length (s.2.2.map Jv)]) (fun s t => t31.length = s.2.2.length) ?_ ?_
    ·refine Jl ?_
     refine Xb (σ := (List UInt8) × Int × (List (List UInt8))) (τ := Unit) (fun next3 s => Q0 a1 a2 t33 next3 s.1 s.2.1 s.2.2) (fun s t => [(0, Jk s.1), (1, Jk a1), (2, i6 a2), (3, i6 t33), (9, sl p_2 t31.length), (10, i6 s.2.1)]) (fun s t => [Jw 9 1 (sl p_2 t31.length) t31.length (s.2.2.map Jv)]) (fun s t => t31.length = s.2.2.length) (a0, 0, t31) () [0] H40 (by exact rfl) (by exact ⟨rfl, rfl, rfl, rfl, rfl, rfl, trivial⟩) (by decide) rfl ?_
     rintro ⟨x0_3, x10_3, l_3⟩ _ m3 gg H46 hl_3
     clear H40
     try dsimp only at H46
     generalize hn3 : it (fun next3 s => Q0 a1 a2 t33 next3 s.1 s.2.1 s.2.2) m3 = next3 at H46
     try dsimp only
     refine Jb<|Jb<|Ja<|mv (i6 x10_3)<|mv (i6 t33)<|lv (Qv rfl rfl)<|Jc<|?_
     revert H46
     refine ci (decide (x10_3 < t33)) rfl (fun hb H47=>?_) fun hb H58=>?_
     ·refine Jj<|Jl<|Jb<|Ja<|mv (Jk x0_3)<|mv (Jk a1)<|?_
      obtain ⟨t39, h_t39, H48⟩ := Je H47; clear H47
      refine Qc (k218 h_t39) call218 rfl rfl rfl<|ag (i6 t39)<|Jc<|Jb<|Jb<|Ja<|mv (i6 t39)<|lv (Qv rfl rfl)<|Jc<|?_
      revert H48
      refine ci (decide (t39 < 0)) rfl (fun hb H49=>?_) fun hb H50=>?_
      ·refine Qg ?_
       exact cl (x0_3, x10_3, l_3) () 0 [0] (by exact ⟨H49, hl_3⟩)
      ·refine Jj<|Jb<|Ja<|mv (sl p_2 t31.length)<|mv (i6 x10_3)<|mv (Jk x0_3)<|mv (i6 t39)<|mv (i6 a2)<|?_
       obtain ⟨t47, h_t47, H51⟩ := Je H50; clear H50
       refine lv (Qe rfl rfl h_t47) ?_
       obtain ⟨t48, h_t48, H52⟩ := Je H51; clear H51
       refine lv (Jbv underlying9 rfl rfl h_t48) ?_
       obtain ⟨t49, h_t49, H53⟩ := Je H52; clear H52
       refine Jy (fun w hF hS => X5 underlying31 sizeOf9 rfl rfl (V9 (i := 0) hS rfl) hl_3 h_t49) rfl rfl rfl ?_
       obtain ⟨l0_2, h_l0_2, H54⟩ := Je H53; clear H53
       refine Jfh (q := 0) (j := 0) (i := x10_3) (sz := 1) (hm := hl_3) (f := Jv) (vs := [Jk t48]) sizeOf9 rfl rfl rfl rfl rfl rfl rfl rfl rfl (fun y_ hy_ => by first | rfl | (cases hy_.symm.trans h_t49; rfl)) h_l0_2<|Jc<|Jb<|Ja<|mv (Jk x0_3)<|mv (i6 t39)<|mv (Jk a1)<|lv (Q2 underlying9 rfl)<|?_
       obtain ⟨t54, h_t54, H55⟩ := Je H54; clear H54
       refine lv (Qe rfl rfl h_t54) ?_
       obtain ⟨t55, h_t55, H56⟩ := Je H55; clear H55
       refine lv (We underlying9 rfl rfl h_t55)<|ag (Jk t55)<|Jc<|Ja<|mv (i6 x10_3)<|?_
       obtain ⟨t57, h_t57, H57⟩ := Je H56; clear H56
       refine lv (Qe rfl rfl h_t57)<|ag (i6 t57)<|Jc<|?_
       exact cl (t55, t57, l0_2) () m3 [0] (by exact ⟨(by subst hn3; exact H57), (Jfw hl_3 h_l0_2)⟩)
     ·refine Qg ?_
      exact cl (x0_3, x10_3, l_3) () 0 [0] (by exact ⟨H58, hl_3⟩)
    ·rintro ⟨x0, x10, l⟩ _ gg H41 hl
     try dsimp only at H41
     try dsimp only
     refine Jb<|Ja<|mv (sl p_2 t31.length)<|mv (i6 x10)<|mv (Jk x0)<|?_
     obtain ⟨t61, h_t61, H42⟩ := Je H41; clear H41
     refine Jy (fun w hF hS => X5 underlying31 sizeOf9 rfl rfl (V9 (i := 0) hS rfl) hl h_t61) rfl rfl rfl ?_
     obtain ⟨l0, h_l0, H43⟩ := Je H42; clear H42
     refine Jfh (q := 0) (j := 0) (i := x10) (sz := 1) (hm := hl) (f := Jv) (vs := [Jk x0]) sizeOf9 rfl rfl rfl rfl rfl rfl rfl rfl rfl (fun y_ hy_ => by first | rfl | (cases hy_.symm.trans h_t61; rfl)) h_l0<|Jc<|Jb<|Ja<|mv (sl p_2 t31.length)<|mv (i6 x10)<|?_
     obtain ⟨t64, h_t64, H44⟩ := Je H43; clear H43
     refine lv (Qe rfl rfl h_t64) ?_
     obtain ⟨t65, h_t65, H45⟩ := Je H44; clear H44
     refine Jy (v := sl p_2 t65.length) (fun w hF hS => Je0 (xs := l0) underlying31 sizeOf9 rfl rfl (Jfw hl h_l0) (Jc2 (i := 0) hS rfl) h_t65) rfl rfl rfl<|ag (sl p_2 t65.length)<|Jc<|Ji<|Xx 0 rfl (Jhd (Jfw hl h_l0) h_t65)<|?_
     obtain rfl := sj H45
     refine Xx 0 rfl (Jg3 _ _ _ _ _ _) ?_
     refine Wm (v := sl p_2 t65.length) rfl rfl (Yx p_2 (i := 0) rfl rfl (Imp.refl _))
theorem k43 {a0 : (List UInt8)} {a1 : (List UInt8)} {r : (List (List UInt8))} {w : World} {h : Jt} (hw : Know h w Yt) (H : U2 a0 a1 = some r) : Does prog 43 (List.toArray [Jk a0, Jk a1]) w (fun v w' => ∃ x : (Option Addr × Nat), v = (sl x r.length) ∧ Turn w w' Yt (Jw 9 1 (sl x r.length) r.length (r.map Jv))) := by
 refine enter (n := 8) func43 rfl rfl rfl Yt [] (Sat.nil _ _)<|Jb<|Ja<|ag (.slice none 0 0)<|Jc<|Jb<|Ja<|mv (Jk a0)<|mv (Jk a1)<|?_
 obtain ⟨t7, h_t7, H2⟩ := Je H; clear H
 refine Zr (Ye (rds := []) (G := fun x : (Option Addr × Nat) => sl x t7.length) (C := fun x : (Option Addr × Nat) => Jw 9 1 (sl x t7.length) t7.length (t7.map Jv)) (fun w L' hF hS hi => k123 (Jr w)  h_t7) call123 rfl) rfl rfl rfl (fun p => ?_)
 refine ag (sl p t7.length)<|Jc<|Ji<|?_
 obtain rfl := sj H2
 refine Wm (v := sl p t7.length) rfl rfl (Yx p (i := 0) rfl rfl (Imp.refl _))
theorem k279 {a0 : (List UInt8)} {a1 : (List UInt8)} {r : Bool} (H : Xo a0 a1 = some r) : Ret prog 279 [Jk a0, Jk a1] (.bool r) := by
 refine J7 (n := 18) func279 rfl rfl rfl (fun wd => ?_)
 refine Jb<|Ja<|ag (.bool false)<|Jc<|Jb<|Ja<|mv (Jk a0)<|lv (Q2 underlying9 rfl)<|mv (Jk a1)<|lv (Q2 underlying9 rfl)<|lv (Jcg rfl rfl)<|mv (.bool (decide ((a1.length : Int) ≤ (a0.length : Int))))<|?_
 revert H
 refine sp (fun hb H4=>?_) fun hb H6=>?_
 ·refine mv (Jk a0)<|mv (Jk a1)<|lv (Q2 underlying9 rfl)<|?_
  obtain ⟨t14, h_t14, H5⟩ := Je H4; clear H4
  refine lv (Jbv underlying9 rfl rfl h_t14)<|mv (Jk a1)<|lv (V3 rfl rfl)<|pT (.bool (decide (t14 = a1)))<|ag (.bool (decide (t14 = a1)))<|Jc<|Ji<|?_
  obtain rfl := sj H5
  exact r1 (.bool (decide (t14 = a1)))
 ·refine pa<|pa<|pa<|pa<|pa<|pa<|pF (.bool false)<|ag (.bool false)<|Jc<|Ji<|?_
  obtain rfl := sj H6
  exact r1 (.bool false)
theorem k220 {a0 : (List UInt8)} {a1 : (List UInt8)} {r : (List UInt8)} (H : Yl a0 a1 = some r) : Ret prog 220 [Jk a0, Jk a1] (Jk r) := by
 refine J7 (n := 13) func220 rfl rfl rfl (fun wd => ?_)
 refine Jb<|Ja<|ag (Jk [])<|Jc<|Jb<|Jb<|Ja<|mv (Jk a0)<|mv (Jk a1)<|?_
 obtain ⟨t7, h_t7, H5⟩ := Je H; clear H
 refine Qc (k279 h_t7) call279 rfl rfl rfl<|Jc<|?_
 revert H5
 refine ci t7 rfl (fun hb H6=>?_) fun hb H8=>?_
 ·refine Jb<|Ja<|mv (Jk a0)<|mv (Jk a1)<|lv (Q2 underlying9 rfl)<|?_
  obtain ⟨t11, h_t11, H7⟩ := Je H6; clear H6
  refine lv (We underlying9 rfl rfl h_t11)<|ag (Jk t11)<|Jc<|Ji<|?_
  obtain rfl := sj H7
  exact r1 (Jk t11)
 ·refine Jj<|Jb<|Ja<|mv (Jk a0)<|ag (Jk a0)<|Jc<|Ji<|?_
  obtain rfl := sj H8
  exact r1 (Jk a0)
theorem k125 {a0 : (List UInt8)} {a1 : (List UInt8)} {r : (List UInt8)} (H : Zx a0 a1 = some r) : Ret prog 125 [Jk a0, Jk a1] (Jk r) := by
 refine J7 (n := 8) func125 rfl rfl rfl (fun wd => ?_)
 refine Jb<|Ja<|ag (Jk [])<|Jc<|Jb<|Ja<|mv (Jk a0)<|mv (Jk a1)<|?_
 obtain ⟨t7, h_t7, H2⟩ := Je H; clear H
 refine Qc (k220 h_t7) call220 rfl rfl rfl<|ag (Jk t7)<|Jc<|Ji<|?_
 obtain rfl := sj H2
 exact r1 (Jk t7)
theorem k221 {a0 : (List UInt8)} {a1 : Int} {r : (List UInt8)} (H : Z7 a0 a1 = some r) : Ret prog 221 [Jk a0, .int .u8 a1] (Jk r) := by
 refine J7 (n := 17) func221 rfl rfl rfl (fun wd => ?_)
 refine Jb<|Ja<|ag (Jk [])<|Jc<|Jb<|Jl<|?_
 refine Xb (σ := (List UInt8)) (τ := Unit) (fun next1 s => Vr a1 next1 s) (fun s t => [(0, Jk s), (1, .int .u8 a1)]) (fun s t => []) (fun s t => True) a0 () [] H (by exact trivial) (by exact ⟨rfl, rfl, trivial⟩) (by decide) rfl ?_
 rintro x0_2 _ m1 gg H8 _
 clear H
 try dsimp only at H8
 generalize hn1 : it (fun next1 s => Vr a1 next1 s) m1 = next1 at H8
 try dsimp only
 refine Jb<|Jb<|Ja<|mv (Jk x0_2)<|lv (Q2 underlying9 rfl)<|lv (Zi rfl rfl)<|mv (.bool (decide (0 < (x0_2.length : Int))))<|?_
 revert H8
 refine sp (fun hb H9=>?_) fun hb H14=>?_
 ·refine mv (Jk x0_2) ?_
  obtain ⟨t10, h_t10, H10⟩ := Je H9; clear H9
  refine lv (W1 underlying9 rfl rfl h_t10)<|mv (.int .u8 a1)<|lv (Y4 rfl rfl)<|pT (.bool (decide (t10 = a1)))<|Jc<|?_
  revert H10
  refine ci (decide (t10 = a1)) rfl (fun hb H11=>?_) fun hb H13=>?_
  ·refine Jj<|Jl<|Ja<|mv (Jk x0_2)<|?_
   obtain ⟨t15, h_t15, H12⟩ := Je H11; clear H11
   refine lv (We underlying9 rfl rfl h_t15)<|ag (Jk t15)<|Jc<|?_
   exact cl t15 () m1 [] (by exact ⟨(by subst hn1; exact H12), trivial⟩)
  ·refine Qg<|Jb<|Ja<|mv (Jk x0_2)<|ag (Jk x0_2)<|Jc<|Ji<|?_
   obtain rfl := sj H13
   exact r1 (Jk x0_2)
 ·refine pa<|pa<|pa<|pa<|pF (.bool false)<|Jc<|Zf rfl<|Qg<|Jb<|Ja<|mv (Jk x0_2)<|ag (Jk x0_2)<|Jc<|Ji<|?_
  obtain rfl := sj H14
  exact r1 (Jk x0_2)
theorem k222 {a0 : (List UInt8)} {a1 : Int} {r : (List UInt8)} (H : Zy a0 a1 = some r) : Ret prog 222 [Jk a0, .int .u8 a1] (Jk r) := by
 refine J7 (n := 23) func222 rfl rfl rfl (fun wd => ?_)
 refine Jb<|Ja<|ag (Jk [])<|Jc<|Jb<|Jl<|?_
 refine Xb (σ := (List UInt8)) (τ := Unit) (fun next1 s => Vd a1 next1 s) (fun s t => [(0, Jk s), (1, .int .u8 a1)]) (fun s t => []) (fun s t => True) a0 () [] H (by exact trivial) (by exact ⟨rfl, rfl, trivial⟩) (by decide) rfl ?_
 rintro x0_2 _ m1 gg H10 _
 clear H
 try dsimp only at H10
 generalize hn1 : it (fun next1 s => Vd a1 next1 s) m1 = next1 at H10
 try dsimp only
 refine Jb<|Jb<|Ja<|mv (Jk x0_2)<|lv (Q2 underlying9 rfl)<|lv (Zi rfl rfl)<|mv (.bool (decide (0 < (x0_2.length : Int))))<|?_
 revert H10
 refine sp (fun hb H11=>?_) fun hb H18=>?_
 ·refine mv (Jk x0_2)<|mv (Jk x0_2)<|lv (Q2 underlying9 rfl)<|?_
  obtain ⟨t12, h_t12, H12⟩ := Je H11; clear H11
  refine lv (Ym rfl rfl h_t12) ?_
  obtain ⟨t13, h_t13, H13⟩ := Je H12; clear H12
  refine lv (W1 underlying9 rfl rfl h_t13)<|mv (.int .u8 a1)<|lv (Y4 rfl rfl)<|pT (.bool (decide (t13 = a1)))<|Jc<|?_
  revert H13
  refine ci (decide (t13 = a1)) rfl (fun hb H14=>?_) fun hb H17=>?_
  ·refine Jj<|Jl<|Ja<|mv (Jk x0_2)<|mv (Jk x0_2)<|lv (Q2 underlying9 rfl)<|?_
   obtain ⟨t20, h_t20, H15⟩ := Je H14; clear H14
   refine lv (Ym rfl rfl h_t20) ?_
   obtain ⟨t21, h_t21, H16⟩ := Je H15; clear H15
   refine lv (Jbv underlying9 rfl rfl h_t21)<|ag (Jk t21)<|Jc<|?_
   exact cl t21 () m1 [] (by exact ⟨(by subst hn1; exact H16), trivial⟩)
  ·refine Qg<|Jb<|Ja<|mv (Jk x0_2)<|ag (Jk x0_2)<|Jc<|Ji<|?_
   obtain rfl := sj H17
   exact r1 (Jk x0_2)
 ·refine pa<|pa<|pa<|pa<|pa<|pa<|pa<|pF (.bool false)<|Jc<|Zf rfl<|Qg<|Jb<|Ja<|mv (Jk x0_2)<|ag (Jk x0_2)<|Jc<|Ji<|?_
  obtain rfl := sj H18
  exact r1 (Jk x0_2)
theorem k223 {a0 : (List UInt8)} {r : (Nat → Bool) × Bool} (H : Z9 a0 = some r) : Ret prog 223 [Jk a0] (.tuple #[.agg (List.toArray (Wi 256 (fun j_ => [.bool (r.1 j_)]))), .bool r.2]) := by
 refine J7 (n := 21) func223 rfl rfl rfl (fun wd => ?_)
 refine Jb<|Ja<|?_
 refine Z6 (cs := (Wi 256 (fun j_ => [.bool ((fun _ => false) j_)]))) zeroValue238 (by kernel_rfl) rfl rfl (fun b1 => ?_)
 refine ag (.bool false)<|Jc<|?_
 refine Qi (r := r) (σ := (Nat → Bool)) (τ := Unit) (fun s => Jao s) (fun s t => [(2, .pointer (some ⟨b1, 0, none⟩))]) (fun s t => [Jp b1 (Wi 256 (fun j_ => [.bool (s j_)])) 238]) (fun s t => True) ?_ ?_
 ·refine Jb<|Ja<|ag (i6 0)<|Jc<|Jl<|?_
  refine Xb (σ := Int × (Nat → Bool)) (τ := Unit) (fun next2 s => Qz a0 next2 s.1 s.2) (fun s t => [(0, Jk a0), (2, .pointer (some ⟨b1, 0, none⟩)), (4, i6 s.1)]) (fun s t => [Jp b1 (Wi 256 (fun j_ => [.bool (s.2 j_)])) 238]) (fun s t => True) (0, (fun _ => false)) () [0] H (by exact trivial) (by exact ⟨rfl, rfl, rfl, trivial⟩) (by decide) rfl ?_
  rintro ⟨x4_2, m_3⟩ _ m2 gg H11 _
  clear H
  try dsimp only at H11
  generalize hn2 : it (fun next2 s => Qz a0 next2 s.1 s.2) m2 = next2 at H11
  try dsimp only
  refine Jb<|Jb<|Ja<|mv (i6 x4_2)<|mv (Jk a0)<|lv (Q2 underlying9 rfl)<|lv (Qv rfl rfl)<|Jc<|?_
  revert H11
  refine ci (decide (x4_2 < (a0.length : Int))) rfl (fun hb H12=>?_) fun hb H18=>?_
  ·refine Jj<|Jb<|Jl<|Jb<|Ja<|mv (Jk a0)<|mv (i6 x4_2)<|?_
   obtain ⟨t14, h_t14, H13⟩ := Je H12; clear H12
   refine lv (W1 underlying9 rfl rfl h_t14)<|ag (.int .u8 t14)<|Jc<|Jb<|Jb<|Ja<|mv (.int .u8 t14)<|lv (Jcg rfl rfl)<|Jc<|?_
   revert H13
   refine ci (decide (128 ≤ t14)) rfl (fun hb H14=>?_) fun hb H15=>?_
   ·refine Jb<|Ja<|Jca (i := 0) (vs := (Wi 256 (fun j_ => [.bool (m_3 j_)]))) isAgg238 sizeOf238 rfl rfl rfl rfl (Jfc (Vy (fun _ => rfl)))<|U5 (i := 0) (vs := (Wi 256 (fun j_ => [.bool (m_3 j_)]))) (cs' := (Wi 256 (fun j_ => [.bool (m_3 j_)]))) sizeOf238 rfl rfl rfl rfl (Vy (fun _ => rfl)) rfl (Jgp (fun _ => rfl)) rfl (Jg5 ((Vy (fun _ => rfl)).trans (Vy (fun _ => rfl)).symm))<|ag (.bool false)<|Jc<|Ji<|?_
    obtain rfl := sj H14
    refine retCt (i := 0) (vs := (Wi 256 (fun j_ => [.bool (m_3 j_)]))) (v2 := .bool false) isAgg238 sizeOf238 rfl rfl rfl (Jfc (Vy (fun _ => rfl))) rfl (fin rfl)
   ·refine Jj<|Ja<|mv (.int .u8 t14)<|?_
    obtain ⟨k19, h_k19, H16⟩ := Je H15; clear H15
    refine lv (Jfq runUnderlying238 sizeOf4 rfl rfl h_k19)<|U5 (i := 0) (vs := [.bool true]) (cs' := (Wi 256 (fun j_ => [.bool ((Jae m_3 k19 true) j_)]))) sizeOf4 rfl rfl rfl rfl rfl rfl rfl rfl (wr_arr (pre := []) (post := []) (f := fun (j_ : Bool) => [.bool j_]) (n := 256) (sz := 1) (a := m_3) (x := true) (Jfm _ _) rfl (fun _ => rfl) (gIx_lt h_k19) rfl (Jfm _ _))<|Jc<|Ja<|mv (i6 x4_2)<|?_
    obtain ⟨t11, h_t11, H17⟩ := Je H16; clear H16
    refine lv (Qe rfl rfl h_t11)<|ag (i6 t11)<|Jc<|?_
    exact cl (t11, (Jae m_3 k19 true)) () m2 [0] (by exact ⟨(by subst hn2; exact H17), trivial⟩)
  ·refine Qg ?_
   exact cl m_3 () 0 [0] (by exact ⟨H18, trivial⟩)
 ·rintro m _ gg H10 _
  try dsimp only at H10
  try dsimp only
  refine Jb<|Ja<|Jca (i := 0) (vs := (Wi 256 (fun j_ => [.bool (m j_)]))) isAgg238 sizeOf238 rfl rfl rfl rfl (Jfc (Vy (fun _ => rfl)))<|U5 (i := 0) (vs := (Wi 256 (fun j_ => [.bool (m j_)]))) (cs' := (Wi 256 (fun j_ => [.bool (m j_)]))) sizeOf238 rfl rfl rfl rfl (Vy (fun _ => rfl)) rfl (Jgp (fun _ => rfl)) rfl (Jg5 ((Vy (fun _ => rfl)).trans (Vy (fun _ => rfl)).symm))<|ag (.bool true)<|Jc<|Ji<|?_
  obtain rfl := sj H10
  refine retCt (i := 0) (vs := (Wi 256 (fun j_ => [.bool (m j_)]))) (v2 := .bool true) isAgg238 sizeOf238 rfl rfl rfl (Jfc (Vy (fun _ => rfl))) rfl (fin rfl)
theorem k280 {a0 : (Nat → Bool)} {pb0 : Nat} {a1 : Int} {r : Bool × (Nat → Bool)} {w : World} {h : Jt} {S : Nat → Prop} (hcs : (Jp pb0 (Wi 256 (fun j_ => [.bool (a0 j_)])) 238).P S w) (hlt : ∀ b, S b → b < w.heap.size) (hw : Know h w S) (H : Xt a0 a1 = some r) : Does prog 280 (List.toArray [.pointer (some ⟨pb0, 0, none⟩), .int .u8 a1]) w (fun v w' => ∃ x : Unit, v = (.bool r.1) ∧ Turn w w' S (Jp pb0 (Wi 256 (fun j_ => [.bool (r.2 j_)])) 238)) := by
 refine enter (n := 10) func280 rfl rfl rfl S [Jp pb0 (Wi 256 (fun j_ => [.bool (a0 j_)])) 238] (Sat.one hcs hlt)<|Jb<|Ja<|ag (.bool false)<|Jc<|Jb<|Ja<|mv (.pointer (some ⟨pb0, 0, none⟩))<|mv (.int .u8 a1)<|lv (J8 rfl)<|?_
 obtain ⟨k8, h_k8, H2⟩ := Je H; clear H
 refine lv (Jfq runUnderlying238 sizeOf4 rfl rfl h_k8)<|l_load1 (i := 0) (v := .bool (a0 k8)) isAgg4 rfl rfl rfl rfl (rg_arr (pre := []) (post := []) (f := fun j_ => [.bool (a0 j_)]) (n := 256) (sz := 1) (q := 0) (Jfm _ _) rfl (fun _ => rfl) (gIx_lt h_k8) rfl)<|ag (.bool (a0 k8))<|Jc<|Ji<|?_
 obtain rfl := sj H2
 refine Wm (v := .bool (a0 k8)) rfl rfl (Yx () (i := 0) rfl rfl (Imp.refl _))
theorem k224 {a0 : (List UInt8)} {a1 : (Nat → Bool)} {pb1 : Nat} {r : (List UInt8) × (Nat → Bool)} {w : World} {h : Jt} {S : Nat → Prop} (hcs : (Jp pb1 (Wi 256 (fun j_ => [.bool (a1 j_)])) 238).P S w) (hlt : ∀ b, S b → b < w.heap.size) (hw : Know h w S) (H : Zz a0 a1 = some r) : Does prog 224 (List.toArray [Jk a0, .pointer (some ⟨pb1, 0, none⟩)]) w (fun v w' => ∃ x : Unit, v = (Jk r.1) ∧ Turn w w' S (Jp pb1 (Wi 256 (fun j_ => [.bool (r.2 j_)])) 238)) := by
 refine enter (n := 16) func224 rfl rfl rfl S [Jp pb1 (Wi 256 (fun j_ => [.bool (a1 j_)])) 238] (Sat.one hcs hlt)<|Jb<|Ja<|ag (Jk [])<|Jc<|Jb<|Jl<|?_
 refine Xb (σ := (List UInt8) × (Nat → Bool)) (τ := Unit) (fun next1 s => Xy next1 s.1 s.2) (fun s t => [(0, Jk s.1), (1, .pointer (some ⟨pb1, 0, none⟩))]) (fun s t => [Jp pb1 (Wi 256 (fun j_ => [.bool (s.2 j_)])) 238]) (fun s t => True) (a0, a1) () [0] H (by exact trivial) (by exact ⟨rfl, rfl, trivial⟩) (by decide) rfl ?_
 rintro ⟨x0_2, m_2⟩ _ m1 gg H9 _
 clear H
 try dsimp only at H9
 generalize hn1 : it (fun next1 s => Xy next1 s.1 s.2) m1 = next1 at H9
 try dsimp only
 refine Jb<|Jb<|Ja<|mv (Jk x0_2)<|lv (Q2 underlying9 rfl)<|lv (Zi rfl rfl)<|Jc<|?_
 revert H9
 refine ci (decide (0 < (x0_2.length : Int))) rfl (fun hb H10=>?_) fun hb H16=>?_
 ·refine Jj<|Jl<|Jb<|Jb<|Ja<|mv (.pointer (some ⟨pb1, 0, none⟩))<|mv (Jk x0_2)<|?_
  obtain ⟨t10, h_t10, H11⟩ := Je H10; clear H10
  refine lv (W1 underlying9 rfl rfl h_t10) ?_
  obtain ⟨t11, h_t11, H12⟩ := Je H11; clear H11
  refine Xl (Qp (i := 0) (rds := []) (G := fun x : Unit => .bool t11.1) (C := fun x : Unit => Jp pb1 (Wi 256 (fun j_ => [.bool (t11.2 j_)])) 238) rfl (fun w L' S hF hS hi hp hlt ho hA => k280 hp hlt (Q4 w S)  h_t11) call280 rfl) rfl rfl rfl (fun _ => ?_)
  refine lv (V8 rfl)<|Jc<|?_
  revert H12
  refine ci (!t11.1) rfl (fun hb H13=>?_) fun hb H14=>?_
  ·refine Qg<|Jb<|Ja<|mv (Jk x0_2)<|ag (Jk x0_2)<|Jc<|Ji<|?_
   obtain rfl := sj H13
   refine Wm (v := Jk x0_2) rfl rfl (Yx () (i := 0) rfl rfl (Imp.refl _))
  ·refine Jj<|Ja<|mv (Jk x0_2)<|?_
   obtain ⟨t14, h_t14, H15⟩ := Je H14; clear H14
   refine lv (We underlying9 rfl rfl h_t14)<|ag (Jk t14)<|Jc<|?_
   exact cl (t14, t11.2) () m1 [0] (by exact ⟨(by subst hn1; exact H15), trivial⟩)
 ·refine Qg<|Jb<|Ja<|mv (Jk x0_2)<|ag (Jk x0_2)<|Jc<|Ji<|?_
  obtain rfl := sj H16
  refine Wm (v := Jk x0_2) rfl rfl (Yx () (i := 0) rfl rfl (Imp.refl _))
theorem k225 {a0 : (List UInt8)} {a1 : (Nat → Bool)} {pb1 : Nat} {r : (List UInt8) × (Nat → Bool)} {w : World} {h : Jt} {S : Nat → Prop} (hcs : (Jp pb1 (Wi 256 (fun j_ => [.bool (a1 j_)])) 238).P S w) (hlt : ∀ b, S b → b < w.heap.size) (hw : Know h w S) (H : Zb a0 a1 = some r) : Does prog 225 (List.toArray [Jk a0, .pointer (some ⟨pb1, 0, none⟩)]) w (fun v w' => ∃ x : Unit, v = (Jk r.1) ∧ Turn w w' S (Jp pb1 (Wi 256 (fun j_ => [.bool (r.2 j_)])) 238)) := by
 refine enter (n := 22) func225 rfl rfl rfl S [Jp pb1 (Wi 256 (fun j_ => [.bool (a1 j_)])) 238] (Sat.one hcs hlt)<|Jb<|Ja<|ag (Jk [])<|Jc<|Jb<|Jl<|?_
 refine Xb (σ := (List UInt8) × (Nat → Bool)) (τ := Unit) (fun next1 s => Xr next1 s.1 s.2) (fun s t => [(0, Jk s.1), (1, .pointer (some ⟨pb1, 0, none⟩))]) (fun s t => [Jp pb1 (Wi 256 (fun j_ => [.bool (s.2 j_)])) 238]) (fun s t => True) (a0, a1) () [0] H (by exact trivial) (by exact ⟨rfl, rfl, trivial⟩) (by decide) rfl ?_
 rintro ⟨x0_2, m_2⟩ _ m1 gg H11 _
 clear H
 try dsimp only at H11
 generalize hn1 : it (fun next1 s => Xr next1 s.1 s.2) m1 = next1 at H11
 try dsimp only
 refine Jb<|Jb<|Ja<|mv (Jk x0_2)<|lv (Q2 underlying9 rfl)<|lv (Zi rfl rfl)<|Jc<|?_
 revert H11
 refine ci (decide (0 < (x0_2.length : Int))) rfl (fun hb H12=>?_) fun hb H20=>?_
 ·refine Jj<|Jl<|Jb<|Jb<|Ja<|mv (.pointer (some ⟨pb1, 0, none⟩))<|mv (Jk x0_2)<|mv (Jk x0_2)<|lv (Q2 underlying9 rfl)<|?_
  obtain ⟨t12, h_t12, H13⟩ := Je H12; clear H12
  refine lv (Ym rfl rfl h_t12) ?_
  obtain ⟨t13, h_t13, H14⟩ := Je H13; clear H13
  refine lv (W1 underlying9 rfl rfl h_t13) ?_
  obtain ⟨t14, h_t14, H15⟩ := Je H14; clear H14
  refine Xl (Qp (i := 0) (rds := []) (G := fun x : Unit => .bool t14.1) (C := fun x : Unit => Jp pb1 (Wi 256 (fun j_ => [.bool (t14.2 j_)])) 238) rfl (fun w L' S hF hS hi hp hlt ho hA => k280 hp hlt (Q4 w S)  h_t14) call280 rfl) rfl rfl rfl (fun _ => ?_)
  refine lv (V8 rfl)<|Jc<|?_
  revert H15
  refine ci (!t14.1) rfl (fun hb H16=>?_) fun hb H17=>?_
  ·refine Qg<|Jb<|Ja<|mv (Jk x0_2)<|ag (Jk x0_2)<|Jc<|Ji<|?_
   obtain rfl := sj H16
   refine Wm (v := Jk x0_2) rfl rfl (Yx () (i := 0) rfl rfl (Imp.refl _))
  ·refine Jj<|Ja<|mv (Jk x0_2)<|mv (Jk x0_2)<|lv (Q2 underlying9 rfl)<|?_
   obtain ⟨t19, h_t19, H18⟩ := Je H17; clear H17
   refine lv (Ym rfl rfl h_t19) ?_
   obtain ⟨t20, h_t20, H19⟩ := Je H18; clear H18
   refine lv (Jbv underlying9 rfl rfl h_t20)<|ag (Jk t20)<|Jc<|?_
   exact cl (t20, t14.2) () m1 [0] (by exact ⟨(by subst hn1; exact H19), trivial⟩)
 ·refine Qg<|Jb<|Ja<|mv (Jk x0_2)<|ag (Jk x0_2)<|Jc<|Ji<|?_
  obtain rfl := sj H20
  refine Wm (v := Jk x0_2) rfl rfl (Yx () (i := 0) rfl rfl (Imp.refl _))
theorem k232 {a0 : (List UInt8)} {a1 : Int} {r : Int} (H : Jcy a0 a1 = some r) : Ret prog 232 [Jk a0, .int .u8 a1] (i6 r) := by
 refine J7 (n := 8) func232 rfl rfl rfl (fun wd => ?_)
 refine Jb<|Ja<|ag (i6 0)<|Jc<|Jb<|Ja<|mv (Jk a0)<|mv (.int .u8 a1)<|?_
 obtain ⟨t7, h_t7, H2⟩ := Je H; clear H
 refine Qc (k272 h_t7) call272 rfl rfl rfl<|ag (i6 t7)<|Jc<|Ji<|?_
 obtain rfl := sj H2
 exact r1 (i6 t7)
theorem k380 {a0 : Int} {r : Bool} (H : Jaw a0 = some r) : Ret prog 380 [.int .i32 a0] (.bool r) := by
 refine J7 (n := 17) func380 rfl rfl rfl (fun wd => ?_)
 refine Jb<|Ja<|ag (.bool false)<|Jc<|Jb<|Jl<|?_
 refine Qi (r := r) (σ := Bool) (τ := Unit) (fun s => Z2 a0 s) (fun s t => [(0, .int .i32 a0), (3, .bool s)]) (fun s t => []) (fun s t => True) ?_ ?_
 ·refine Ja<|mv (.int .i32 a0)<|lv (Jek rfl rfl)<|mv (.bool (decide (0 ≤ a0)))<|?_
  revert H
  refine sp (fun hb H17=>?_) fun hb H18=>?_
  ·refine mv (.int .i32 a0)<|lv (Qv rfl rfl)<|pT (.bool (decide (a0 < 55296)))<|ag (.bool (decide (a0 < 55296)))<|Jc<|?_
   exact cl (decide (a0 < 55296)) () 0 [] (by exact ⟨H17, trivial⟩)
  ·refine pa<|pa<|pF (.bool false)<|ag (.bool false)<|Jc<|?_
   exact cl false () 0 [] (by exact ⟨H18, trivial⟩)
 ·rintro x3 _ gg H10 _
  try dsimp only at H10
  try dsimp only
  revert H10
  refine ci x3 rfl (fun hb H11=>?_) fun hb H12=>?_
  ·refine Jb<|Ja<|ag (.bool true)<|Jc<|Ji<|?_
   obtain rfl := sj H11
   exact r1 (.bool true)
  ·refine Jb<|Ja<|mv (.int .i32 a0)<|lv (Qv rfl rfl)<|mv (.bool (decide (57343 < a0)))<|?_
   revert H12
   refine sp (fun hb H13=>?_) fun hb H16=>?_
   ·refine mv (.int .i32 a0)<|lv (Jek rfl rfl)<|pT (.bool (decide (a0 ≤ 1114111)))<|ag (.bool (decide (a0 ≤ 1114111)))<|Jc<|?_
    revert H13
    refine ci (decide (a0 ≤ 1114111)) rfl (fun hb H14=>?_) fun hb H15=>?_
    ·refine Jb<|Ja<|ag (.bool true)<|Jc<|Ji<|?_
     obtain rfl := sj H14
     exact r1 (.bool true)
    ·refine Jj<|Jb<|Ja<|ag (.bool false)<|Jc<|Ji<|?_
     obtain rfl := sj H15
     exact r1 (.bool false)
   ·refine pa<|pa<|pF (.bool false)<|ag (.bool false)<|Jc<|Zf rfl<|Jj<|Jb<|Ja<|ag (.bool false)<|Jc<|Ji<|?_
    obtain rfl := sj H16
    exact r1 (.bool false)
theorem k347 {a0 : (List UInt8)} {a1 : Int} {r : Int} (H : Jcw a0 a1 = some r) : Ret prog 347 [Jk a0, .int .i32 a1] (i6 r) := by
 refine J7 (n := 187) func347 rfl rfl rfl (fun wd => ?_)
 refine Jb<|Ja<|ag (i6 0)<|Jc<|Jl<|?_
 refine Qi (r := r) (σ := Bool) (τ := Unit) (fun s => W7 a0 a1 s) (fun s t => [(0, Jk a0), (1, .int .i32 a1), (160, .bool s)]) (fun s t => []) (fun s t => True) ?_ ?_
 ·refine Ja<|mv (.int .i32 a1)<|lv (Jek rfl rfl)<|mv (.bool (decide (0 ≤ a1)))<|?_
  revert H
  refine sp (fun hb H33=>?_) fun hb H34=>?_
  ·refine mv (.int .i32 a1)<|lv (Qv rfl rfl)<|pT (.bool (decide (a1 < 128)))<|ag (.bool (decide (a1 < 128)))<|Jc<|?_
   exact cl (decide (a1 < 128)) () 0 [] (by exact ⟨H33, trivial⟩)
  ·refine pa<|pa<|pF (.bool false)<|ag (.bool false)<|Jc<|?_
   exact cl false () 0 [] (by exact ⟨H34, trivial⟩)
 ·rintro x160 _ gg H18 _
  try dsimp only at H18
  try dsimp only
  revert H18
  refine ci x160 rfl (fun hb H19=>?_) fun hb H21=>?_
  ·refine Jb<|Ja<|mv (Jk a0)<|mv (.int .i32 a1)<|lv (Jcx runUnderlying21 runUnderlying5 rfl (wr_u8 _))<|?_
   obtain ⟨t170, h_t170, H20⟩ := Je H19; clear H19
   refine Qc (k232 h_t170) call232 rfl rfl rfl<|ag (i6 t170)<|Jc<|Ji<|?_
   obtain rfl := sj H20
   exact r1 (i6 t170)
  ·refine Jb<|Ja<|mv (.int .i32 a1)<|lv (Y4 rfl rfl)<|ag (.bool (decide (a1 = 65533)))<|Jc<|?_
   revert H21
   refine ci (decide (a1 = 65533)) rfl (fun hb H22=>?_) fun hb H29=>?_
   ·refine Jb<|Jb<|Ja<|mv (Jk a0)<|?_
    refine Zr (rds := []) (Jf1 (s := a0) underlying9 rfl) rfl rfl rfl (fun b1 => ?_)
    refine Jc<|Jl<|?_
    refine Xb (σ := Nat) (τ := Unit) (fun next2 s => W9 a0 next2 s) (fun s t => [(175, .pointer (some ⟨b1, 0, none⟩))]) (fun s t => [iterC b1 a0 s]) (fun s t => True) 0 () [0] H22 (by exact trivial) (by exact ⟨rfl, trivial⟩) (by decide) rfl ?_
    rintro k_2 _ m2 gg H23 _
    clear H22
    try dsimp only at H23
    generalize hn2 : it (fun next2 s => W9 a0 next2 s) m2 = next2 at H23
    try dsimp only
    refine Jb<|Ja<|?_
    refine caseB (decide (k_2 < a0.length)) (fun hb => ?_) (fun hb => ?_)
    ·have H24 := Jen hb H23; clear H23
     obtain ⟨t176, h_t176, H25⟩ := Je H24; clear H24
     refine Xl (Jgq (i := 0) (rds := []) rfl rfl h_t176) rfl rfl rfl (fun _ => ?_)
     refine lv (Jm (v := .bool true) rfl rfl)<|Jc<|Jb<|Zv rfl<|Jj<|Jl<|Jb<|Ja<|lv (Jm (v := i6 ((k_2 : Nat) : Int)) rfl rfl)<|lv (Jm (v := .int .i32 t176) rfl rfl)<|ag (i6 ((k_2 : Nat) : Int))<|ag (.int .i32 t176)<|Jc<|Jb<|Ja<|mv (.int .i32 t176)<|lv (Y4 rfl rfl)<|Jc<|?_
     revert H25
     refine ci (decide (t176 = 65533)) rfl (fun hb H26=>?_) fun hb H27=>?_
     ·refine Jb<|Ja<|mv (i6 ((k_2 : Nat) : Int))<|ag (i6 ((k_2 : Nat) : Int))<|Jc<|Ji<|?_
      obtain rfl := sj H26
      exact r1 (i6 ((k_2 : Nat) : Int))
     ·refine Jj ?_
      exact cl (k_2 + 1) () m2 [0] (by exact ⟨(by subst hn2; exact H27), trivial⟩)
    ·have H28 := Jei hb H23; clear H23
     refine Jy (fun w hF hS => Jgi (i := 0) hS rfl rfl hb) rfl rfl rfl<|lv (Jm (v := .bool false) rfl rfl)<|Jc<|Jb<|Zf rfl<|Qg<|Jb<|Ja<|ag (i6 (-1))<|Jc<|Ji<|?_
     obtain rfl := sj H28
     exact r1 (i6 (-1))
   ·refine Jb<|Ja<|mv (.int .i32 a1)<|?_
    obtain ⟨t185, h_t185, H30⟩ := Je H29; clear H29
    refine Qc (k380 h_t185) call380 rfl rfl rfl<|lv (V8 rfl)<|ag (.bool (!t185))<|Jc<|?_
    revert H30
    refine ci (!t185) rfl (fun hb H31=>?_) fun hb H32=>?_
    ·refine Jb<|Ja<|ag (i6 (-1))<|Jc<|Ji<|?_
     obtain rfl := sj H31
     exact r1 (i6 (-1))
    ·exact absurd (show (none : Option (Int)) = some r from H32) (fun h => by cases h)
theorem k281 {a0 : (List UInt8)} {a1 : Int} {r : Bool} (H : W2 a0 a1 = some r) : Ret prog 281 [Jk a0, .int .i32 a1] (.bool r) := by
 refine J7 (n := 9) func281 rfl rfl rfl (fun wd => ?_)
 refine Jb<|Ja<|ag (.bool false)<|Jc<|Jb<|Ja<|mv (Jk a0)<|mv (.int .i32 a1)<|?_
 obtain ⟨t7, h_t7, H2⟩ := Je H; clear H
 refine Qc (k347 h_t7) call347 rfl rfl rfl<|lv (Jcg rfl rfl)<|ag (.bool (decide (0 ≤ t7)))<|Jc<|Ji<|?_
 obtain rfl := sj H2
 exact r1 (.bool (decide (0 ≤ t7)))
theorem k226 {a0 : (List UInt8)} {a1 : (List UInt8)} {r : (List UInt8)} (H : Jal a0 a1 = some r) : Ret prog 226 [Jk a0, Jk a1] (Jk r) := by
 refine J7 (n := 23) func226 rfl rfl rfl (fun wd => ?_)
 refine Jb<|Ja<|ag (Jk [])<|Jc<|Jb<|Jl<|?_
 refine Xb (σ := (List UInt8)) (τ := Unit) (fun next1 s => Zq a1 next1 s) (fun s t => [(0, Jk s), (1, Jk a1)]) (fun s t => []) (fun s t => True) a0 () [] H (by exact trivial) (by exact ⟨rfl, rfl, trivial⟩) (by decide) rfl ?_
 rintro x0_2 _ m1 gg H9 _
 clear H
 try dsimp only at H9
 generalize hn1 : it (fun next1 s => Zq a1 next1 s) m1 = next1 at H9
 try dsimp only
 refine Jb<|Jb<|Ja<|mv (Jk x0_2)<|lv (Q2 underlying9 rfl)<|lv (Zi rfl rfl)<|Jc<|?_
 revert H9
 refine ci (decide (0 < (x0_2.length : Int))) rfl (fun hb H10=>?_) fun hb H16=>?_
 ·refine Jj<|Jl<|Jb<|Ja<|mv (Jk x0_2)<|?_
  obtain ⟨t12, h_t12, H11⟩ := Je H10; clear H10
  refine Qc (k277 h_t12) call277 rfl rfl rfl<|mv (.tuple #[.int .i32 t12.1, i6 t12.2])<|lv (Jm (v := .int .i32 t12.1) rfl rfl)<|lv (Jm (v := i6 t12.2) rfl rfl)<|ag (.int .i32 t12.1)<|ag (i6 t12.2)<|Jc<|Jb<|Jb<|Ja<|mv (Jk a1)<|mv (.int .i32 t12.1)<|?_
  obtain ⟨t17, h_t17, H12⟩ := Je H11; clear H11
  refine Qc (k281 h_t17) call281 rfl rfl rfl<|lv (V8 rfl)<|Jc<|?_
  revert H12
  refine ci (!t17) rfl (fun hb H13=>?_) fun hb H14=>?_
  ·refine Qg<|Jb<|Ja<|mv (Jk x0_2)<|ag (Jk x0_2)<|Jc<|Ji<|?_
   obtain rfl := sj H13
   exact r1 (Jk x0_2)
  ·refine Jj<|Ja<|mv (Jk x0_2)<|mv (i6 t12.2)<|?_
   obtain ⟨t21, h_t21, H15⟩ := Je H14; clear H14
   refine lv (We underlying9 rfl rfl h_t21)<|ag (Jk t21)<|Jc<|?_
   exact cl t21 () m1 [] (by exact ⟨(by subst hn1; exact H15), trivial⟩)
 ·refine Qg<|Jb<|Ja<|mv (Jk x0_2)<|ag (Jk x0_2)<|Jc<|Ji<|?_
  obtain rfl := sj H16
  exact r1 (Jk x0_2)
theorem k348 {a0 : Int} {r : Bool} (H : Jar a0 = some r) : Ret prog 348 [.int .u8 a0] (.bool r) := by
 refine J7 (n := 6) func348 rfl rfl rfl (fun wd => ?_)
 refine Jb<|Ja<|ag (.bool false)<|Jc<|Jb<|Ja<|mv (.int .u8 a0)<|lv (r_bitsAnd (bits := 8) rfl rfl rfl (wr_u8 _))<|lv (Jaj rfl rfl)<|ag (.bool (decide ((wU8 (bAnd 8 a0 192)) ≠ 128)))<|Jc<|Ji<|?_
 obtain rfl := sj H
 exact r1 (.bool (decide ((wU8 (bAnd 8 a0 192)) ≠ 128)))
theorem k282 {a0 : (List UInt8)} {r : Int × Int} (H : Zg a0 = some r) : Ret prog 282 [Jk a0] (.tuple #[.int .i32 r.1, i6 r.2]) := by
 refine J7 (n := 51) func282 rfl rfl rfl (fun wd => ?_)
 refine Jb<|Ja<|ag (.int .i32 0)<|ag (i6 0)<|Jc<|Jb<|Ja<|mv (Jk a0)<|lv (Q2 underlying9 rfl)<|ag (i6 (a0.length : Int))<|Jc<|Jb<|Jb<|Ja<|mv (i6 (a0.length : Int))<|lv (Y4 rfl rfl)<|Jc<|?_
 revert H
 refine ci (decide ((a0.length : Int) = 0)) rfl (fun hb H27=>?_) fun hb H28=>?_
 ·refine Jb<|Ja<|ag (.int .i32 65533)<|ag (i6 0)<|Jc<|Ji<|?_
  obtain rfl := sj H27
  refine Uy (v1 := .int .i32 65533) (v2 := i6 0) rfl rfl rfl (fin rfl)
 ·refine Jj<|Jb<|Ja<|mv (i6 (a0.length : Int))<|?_
  obtain ⟨t12, h_t12, H29⟩ := Je H28; clear H28
  refine lv (Ym rfl rfl h_t12)<|ag (i6 t12)<|Jc<|Jb<|Ja<|mv (Jk a0)<|mv (i6 t12)<|?_
  obtain ⟨t15, h_t15, H30⟩ := Je H29; clear H29
  refine lv (W1 underlying9 rfl rfl h_t15) ?_
  obtain ⟨t16, h_t16, H31⟩ := Je H30; clear H30
  refine lv (Jcx runUnderlying5 runUnderlying21 rfl (gK_i32 h_t16))<|ag (.int .i32 t16)<|Jc<|Jb<|Jb<|Ja<|mv (.int .i32 t16)<|lv (Qv rfl rfl)<|Jc<|?_
  revert H31
  refine ci (decide (t16 < 128)) rfl (fun hb H32=>?_) fun hb H33=>?_
  ·refine Jb<|Ja<|mv (.int .i32 t16)<|ag (.int .i32 t16)<|ag (i6 1)<|Jc<|Ji<|?_
   obtain rfl := sj H32
   refine Uy (v1 := .int .i32 t16) (v2 := i6 1) rfl rfl rfl (fin rfl)
  ·refine Jj<|Jb<|Ja<|mv (i6 (a0.length : Int))<|?_
   obtain ⟨t21, h_t21, H34⟩ := Je H33; clear H33
   refine lv (Ym rfl rfl h_t21)<|lv (r_max rfl rfl)<|ag (i6 (max t21 0))<|Jc<|?_
   refine Qi (r := r) (σ := Int) (τ := Unit) (fun s => Xj a0 s) (fun s t => [(0, Jk a0), (4, i6 (a0.length : Int)), (5, i6 s)]) (fun s t => []) (fun s t => True) ?_ ?_
   ·refine Jb<|Ja<|mv (i6 t12)<|?_
    obtain ⟨t24, h_t24, H44⟩ := Je H34; clear H34
    refine lv (Ym rfl rfl h_t24)<|ag (i6 t24)<|Jc<|Jl<|?_
    refine Xb (σ := Int) (τ := Unit) (fun next3 s => Xm a0 t21 next3 s) (fun s t => [(0, Jk a0), (4, i6 (a0.length : Int)), (5, i6 s), (6, i6 (max t21 0))]) (fun s t => []) (fun s t => True) t24 () [] H44 (by exact trivial) (by exact ⟨rfl, rfl, rfl, rfl, trivial⟩) (by decide) rfl ?_
    rintro x5_4 _ m3 gg H45 _
    clear H44
    try dsimp only at H45
    generalize hn3 : it (fun next3 s => Xm a0 t21 next3 s) m3 = next3 at H45
    try dsimp only
    refine Jb<|Jb<|Ja<|mv (i6 x5_4)<|mv (i6 (max t21 0))<|lv (Jcg rfl rfl)<|Jc<|?_
    revert H45
    refine ci (decide ((max t21 0) ≤ x5_4)) rfl (fun hb H46=>?_) fun hb H52=>?_
    ·refine Jj<|Jb<|Jl<|Jb<|Ja<|mv (Jk a0)<|mv (i6 x5_4)<|?_
     obtain ⟨t32, h_t32, H47⟩ := Je H46; clear H46
     refine lv (W1 underlying9 rfl rfl h_t32) ?_
     obtain ⟨t33, h_t33, H48⟩ := Je H47; clear H47
     refine Qc (k348 h_t33) call348 rfl rfl rfl<|Jc<|?_
     revert H48
     refine ci t33 rfl (fun hb H49=>?_) fun hb H50=>?_
     ·refine Qg ?_
      exact cl x5_4 () 0 [] (by exact ⟨H49, trivial⟩)
     ·refine Jj<|Ja<|mv (i6 x5_4)<|?_
      obtain ⟨t29, h_t29, H51⟩ := Je H50; clear H50
      refine lv (Ym rfl rfl h_t29)<|ag (i6 t29)<|Jc<|?_
      exact cl t29 () m3 [] (by exact ⟨(by subst hn3; exact H51), trivial⟩)
    ·refine Qg ?_
     exact cl x5_4 () 0 [] (by exact ⟨H52, trivial⟩)
   ·rintro x5 _ gg H35 _
    try dsimp only at H35
    try dsimp only
    refine Qi (r := r) (σ := Int) (τ := Unit) (fun s => Xi a0 s) (fun s t => [(0, Jk a0), (4, i6 (a0.length : Int)), (5, i6 s)]) (fun s t => []) (fun s t => True) ?_ ?_
    ·refine Jb<|Ja<|mv (i6 x5)<|lv (Qv rfl rfl)<|Jc<|?_
     revert H35
     refine ci (decide (x5 < 0)) rfl (fun hb H42=>?_) fun hb H43=>?_
     ·refine Ja<|ag (i6 0)<|Jc<|?_
      exact cl 0 () 0 [] (by exact ⟨H42, trivial⟩)
     ·refine Jj ?_
      exact cl x5 () 0 [] (by exact ⟨H43, trivial⟩)
    ·rintro x5_2 _ gg H36 _
     try dsimp only at H36
     try dsimp only
     refine Jb<|Ja<|mv (Jk a0)<|mv (i6 x5_2)<|mv (i6 (a0.length : Int))<|?_
     obtain ⟨t40, h_t40, H37⟩ := Je H36; clear H36
     refine lv (r_cutTG underlying9 rfl rfl rfl h_t40) ?_
     obtain ⟨t41, h_t41, H38⟩ := Je H37; clear H37
     refine Qc (k277 h_t41) call277 rfl rfl rfl<|mv (.tuple #[.int .i32 t41.1, i6 t41.2])<|lv (Jm (v := .int .i32 t41.1) rfl rfl)<|lv (Jm (v := i6 t41.2) rfl rfl)<|ag (.int .i32 t41.1)<|ag (i6 t41.2)<|Jc<|Jb<|Jb<|Ja<|mv (i6 x5_2)<|mv (i6 t41.2)<|?_
     obtain ⟨t46, h_t46, H39⟩ := Je H38; clear H38
     refine lv (Qe rfl rfl h_t46)<|mv (i6 (a0.length : Int))<|lv (Jaj rfl rfl)<|Jc<|?_
     revert H39
     refine ci (decide (t46 ≠ (a0.length : Int))) rfl (fun hb H40=>?_) fun hb H41=>?_
     ·refine Jb<|Ja<|ag (.int .i32 65533)<|ag (i6 1)<|Jc<|Ji<|?_
      obtain rfl := sj H40
      refine Uy (v1 := .int .i32 65533) (v2 := i6 1) rfl rfl rfl (fin rfl)
     ·refine Jj<|Jb<|Ja<|mv (.int .i32 t41.1)<|mv (i6 t41.2)<|ag (.int .i32 t41.1)<|ag (i6 t41.2)<|Jc<|Ji<|?_
      obtain rfl := sj H41
      refine Uy (v1 := .int .i32 t41.1) (v2 := i6 t41.2) rfl rfl rfl (fin rfl)
theorem k227 {a0 : (List UInt8)} {a1 : (List UInt8)} {r : (List UInt8)} (H : U1 a0 a1 = some r) : Ret prog 227 [Jk a0, Jk a1] (Jk r) := by
 refine J7 (n := 34) func227 rfl rfl rfl (fun wd => ?_)
 refine Jb<|Ja<|ag (Jk [])<|Jc<|Jb<|Jl<|?_
 refine Xb (σ := (List UInt8)) (τ := Unit) (fun next1 s => Za a1 next1 s) (fun s t => [(0, Jk s), (1, Jk a1)]) (fun s t => []) (fun s t => True) a0 () [] H (by exact trivial) (by exact ⟨rfl, rfl, trivial⟩) (by decide) rfl ?_
 rintro x0_2 _ m1 gg H16 _
 clear H
 try dsimp only at H16
 generalize hn1 : it (fun next1 s => Za a1 next1 s) m1 = next1 at H16
 try dsimp only
 refine Jb<|Jb<|Ja<|mv (Jk x0_2)<|lv (Q2 underlying9 rfl)<|lv (Zi rfl rfl)<|Jc<|?_
 revert H16
 refine ci (decide (0 < (x0_2.length : Int))) rfl (fun hb H17=>?_) fun hb H30=>?_
 ·refine Jj<|Jl<|Jb<|Ja<|mv (Jk x0_2)<|mv (Jk x0_2)<|lv (Q2 underlying9 rfl)<|?_
  obtain ⟨t13, h_t13, H18⟩ := Je H17; clear H17
  refine lv (Ym rfl rfl h_t13) ?_
  obtain ⟨t14, h_t14, H19⟩ := Je H18; clear H18
  refine lv (W1 underlying9 rfl rfl h_t14) ?_
  obtain ⟨t15, h_t15, H20⟩ := Je H19; clear H19
  refine lv (Jcx runUnderlying5 runUnderlying21 rfl (gK_i32 h_t15))<|ag (.int .i32 t15)<|ag (i6 1)<|Jc<|?_
  refine Qi (r := r) (σ := Int × Int) (τ := Unit) (fun s => Zd a1 x0_2 next1 s.1 s.2) (fun s t => [(0, Jk x0_2), (1, Jk a1), (5, .int .i32 s.1), (6, i6 s.2)]) (fun s t => []) (fun s t => True) ?_ ?_
  ·refine Jb<|Ja<|mv (.int .i32 t15)<|lv (Jcg rfl rfl)<|Jc<|?_
   revert H20
   refine ci (decide (128 ≤ t15)) rfl (fun hb H27=>?_) fun hb H29=>?_
   ·refine Ja<|mv (Jk x0_2)<|?_
    obtain ⟨t20, h_t20, H28⟩ := Je H27; clear H27
    refine Qc (k282 h_t20) call282 rfl rfl rfl<|mv (.tuple #[.int .i32 t20.1, i6 t20.2])<|lv (Jm (v := .int .i32 t20.1) rfl rfl)<|lv (Jm (v := i6 t20.2) rfl rfl)<|ag (.int .i32 t20.1)<|ag (i6 t20.2)<|Jc<|?_
    exact cl (t20.1, t20.2) () 0 [] (by exact ⟨H28, trivial⟩)
   ·refine Jj ?_
    exact cl (t15, 1) () 0 [] (by exact ⟨H29, trivial⟩)
  ·rintro ⟨x5, x6⟩ _ gg H21 _
   try dsimp only at H21
   try dsimp only
   refine Jb<|Jb<|Ja<|mv (Jk a1)<|mv (.int .i32 x5)<|?_
   obtain ⟨t25, h_t25, H22⟩ := Je H21; clear H21
   refine Qc (k281 h_t25) call281 rfl rfl rfl<|lv (V8 rfl)<|Jc<|?_
   revert H22
   refine ci (!t25) rfl (fun hb H23=>?_) fun hb H24=>?_
   ·refine Qg<|Jb<|Ja<|mv (Jk x0_2)<|ag (Jk x0_2)<|Jc<|Ji<|?_
    obtain rfl := sj H23
    exact r1 (Jk x0_2)
   ·refine Jj<|Ja<|mv (Jk x0_2)<|mv (Jk x0_2)<|lv (Q2 underlying9 rfl)<|mv (i6 x6)<|?_
    obtain ⟨t31, h_t31, H25⟩ := Je H24; clear H24
    refine lv (Ym rfl rfl h_t31) ?_
    obtain ⟨t32, h_t32, H26⟩ := Je H25; clear H25
    refine lv (Jbv underlying9 rfl rfl h_t32)<|ag (Jk t32)<|Jc<|?_
    exact cl t32 () m1 [] (by exact ⟨(by subst hn1; exact H26), trivial⟩)
 ·refine Qg<|Jb<|Ja<|mv (Jk x0_2)<|ag (Jk x0_2)<|Jc<|Ji<|?_
  obtain rfl := sj H30
  exact r1 (Jk x0_2)
theorem k126 {a0 : (List UInt8)} {a1 : (List UInt8)} {r : (List UInt8)} (H : Ue a0 a1 = some r) : Ret prog 126 [Jk a0, Jk a1] (Jk r) := by
 refine J7 (n := 43) func126 rfl rfl rfl (fun wd => ?_)
 refine Jb<|Ja<|ag (Jk [])<|Jc<|Jb<|Jb<|Ja<|mv (Jk a0)<|lv (V3 rfl rfl)<|mv (.bool (decide (a0 = [])))<|?_
 revert H
 refine sp (fun hb H22=>?_) fun hb H23=>?_
 ·refine pa<|pa<|pT (.bool true)<|Jc<|Zv rfl<|Jb<|Ja<|mv (Jk a0)<|ag (Jk a0)<|Jc<|Ji<|?_
  obtain rfl := sj H22
  exact r1 (Jk a0)
 ·refine mv (Jk a1)<|lv (V3 rfl rfl)<|pF (.bool (decide (a1 = [])))<|Jc<|?_
  revert H23
  refine ci (decide (a1 = [])) rfl (fun hb H24=>?_) fun hb H25=>?_
  ·refine Jb<|Ja<|mv (Jk a0)<|ag (Jk a0)<|Jc<|Ji<|?_
   obtain rfl := sj H24
   exact r1 (Jk a0)
  ·refine Jj ?_
   refine Qi (r := r) (σ := Unit) (τ := Unit) (fun s => U9 a0 a1) (fun s t => [(0, Jk a0), (1, Jk a1)]) (fun s t => []) (fun s t => True) ?_ ?_
   ·refine Jb<|Ja<|mv (Jk a1)<|lv (Q2 underlying9 rfl)<|lv (Y4 rfl rfl)<|mv (.bool (decide ((a1.length : Int) = 1)))<|?_
    revert H25
    refine sp (fun hb H34=>?_) fun hb H42=>?_
    ·refine mv (Jk a1) ?_
     obtain ⟨t19, h_t19, H35⟩ := Je H34; clear H34
     refine lv (W1 underlying9 rfl rfl h_t19)<|lv (Qv rfl rfl)<|pT (.bool (decide (t19 < 128)))<|Jc<|?_
     revert H35
     refine ci (decide (t19 < 128)) rfl (fun hb H36=>?_) fun hb H41=>?_
     ·refine Jb ?_
      exact Xp (Kd.p :: Kd.p :: Kd.p :: Kd.d [] _ :: Kd.p :: Kd.p :: Kd.d [] _ :: Kd.p :: []) 0 mixed (by
       refine dm (Jk a0)<|dm (Jk a1)<|?_
       have h_t24 := Qh H36
       have H37 := J3 H36
       refine dv (W1 underlying9 rfl rfl h_t24) ?_
       have h_t25 := Qh H37
       have H38 := J3 H37
       refine d_call (k222 h_t25) call222 rfl rfl<|dm (Jk a1)<|?_
       have h_t27 := Qh H38
       have H39 := J3 H38
       refine dv (W1 underlying9 rfl rfl h_t27) ?_
       have h_t28 := Qh H39
       have H40 := J3 H39
       refine d_call (k221 h_t28) call221 rfl rfl<|W6 rfl rfl (Xs (v := Jk (val (Z7 (val (Zy a0 (val (Uw a1 0)))) (val (Uw a1 0))))) rfl)<|Wk<|Ji<|?_
       obtain rfl := sj H40
       exact r1 (Jk (val (Z7 (val (Zy a0 (val (Uw a1 0)))) (val (Uw a1 0)))))
       ) (by kernel_rfl)
     ·refine Jj ?_
      exact cl () () 0 [] (by exact ⟨H41, trivial⟩)
    ·refine pa<|pa<|pa<|pF (.bool false)<|Jc<|Zf rfl<|Jj<|?_
     exact cl () () 0 [] (by exact ⟨H42, trivial⟩)
   ·rintro _ _ gg H26 _
    try dsimp only at H26
    try dsimp only
    refine Jb<|Jb<|Ja<|mv (Jk a1)<|?_
    obtain ⟨t31, h_t31, H27⟩ := Je H26; clear H26
    refine Qc (k223 h_t31) call223 rfl rfl rfl<|mv (.tuple #[.agg (List.toArray (Wi 256 (fun j_ => [.bool (t31.1 j_)]))), .bool t31.2])<|lv (Jm (v := .agg (List.toArray (Wi 256 (fun j_ => [.bool (t31.1 j_)])))) rfl rfl)<|lv (Jm (v := .bool t31.2) rfl rfl)<|?_
    refine Z6 (cs := (Wi 256 (fun j_ => [.bool ((fun _ => false) j_)]))) zeroValue238 (by kernel_rfl) rfl rfl (fun b1 => ?_)
    refine U5 (i := 0) (vs := (Wi 256 (fun j_ => [.bool (t31.1 j_)]))) (cs' := (Wi 256 (fun j_ => [.bool (t31.1 j_)]))) sizeOf238 rfl rfl rfl rfl (Vy (fun _ => rfl)) rfl (Jgp (fun _ => rfl)) rfl (Jg5 ((Vy (fun _ => rfl)).trans (Vy (fun _ => rfl)).symm))<|ag (.bool t31.2)<|Jc<|Jb<|Ja<|mv (.bool t31.2)<|Jc<|?_
    revert H27
    refine ci (t31.2) rfl (fun hb H28=>?_) fun hb H31=>?_
    ·refine Jb<|Ja<|mv (Jk a0)<|?_
     obtain ⟨t36, h_t36, H29⟩ := Je H28; clear H28
     refine Xl (Qp (i := 0) (rds := []) (G := fun x : Unit => Jk t36.1) (C := fun x : Unit => Jp b1 (Wi 256 (fun j_ => [.bool (t36.2 j_)])) 238) rfl (fun w L' S hF hS hi hp hlt ho hA => k225 hp hlt (Q4 w S)  h_t36) call225 rfl) rfl rfl rfl (fun _ => ?_)
     obtain ⟨t37, h_t37, H30⟩ := Je H29; clear H29
     refine Xl (Qp (i := 0) (rds := []) (G := fun x : Unit => Jk t37.1) (C := fun x : Unit => Jp b1 (Wi 256 (fun j_ => [.bool (t37.2 j_)])) 238) rfl (fun w L' S hF hS hi hp hlt ho hA => k224 hp hlt (Q4 w S)  h_t37) call224 rfl) rfl rfl rfl (fun _ => ?_)
     refine ag (Jk t37.1)<|Jc<|Ji<|?_
     obtain rfl := sj H30
     exact r1 (Jk t37.1)
    ·refine Jj<|Jb<|Ja<|mv (Jk a0)<|mv (Jk a1)<|?_
     obtain ⟨t40, h_t40, H32⟩ := Je H31; clear H31
     refine Qc (k227 h_t40) call227 rfl rfl rfl<|mv (Jk a1)<|?_
     obtain ⟨t42, h_t42, H33⟩ := Je H32; clear H32
     refine Qc (k226 h_t42) call226 rfl rfl rfl<|ag (Jk t42)<|Jc<|Ji<|?_
     obtain rfl := sj H33
     exact r1 (Jk t42)
theorem k127 {a0 : (List UInt8)} {r : Int} (H : Je5 a0 = some r) : Ret prog 127 [Jk a0] (.tuple #[i6 r, .nilIface]) :=
  atoi_ret (ρ := Go.Proofs.Tryz.lays172_ren) Go.Proofs.Tryz.lays172 H
theorem k215 {a0 : (List UInt8)} {a1 : Bool} {r : Int × Bool} {w : World} {h : Jt} (hw : Know h w Yt) (tb_pow10 : TabH prog h "internal/strconv.uint64pow10" .u64 Lib.pow10Tab) (H : Jan a0 a1 = some r) : Does prog 215 (List.toArray [Jk a0, .bool a1]) w (fun v w' => v = (.tuple #[i6 r.1, .bool r.2]) ∧ Grow w w') := by
 refine enter (n := 39) func215 rfl rfl rfl Yt [] (Sat.nil _ _)<|Jb<|Ja<|ag (i6 0)<|ag (.bool false)<|Jc<|Jb<|Ja<|mv (Jk a0)<|ag (Jk a0)<|Jc<|?_
 refine Qi (r := r) (σ := (List UInt8)) (τ := Unit) (fun s => Zw a0 s) (fun s t => [(0, Jk a0), (6, Jk s)]) (fun s t => []) (fun s t => True) ?_ ?_
 ·refine Jb<|Ja<|mv (.bool a1)<|Jc<|?_
  revert H
  refine ci a1 rfl (fun hb H24=>?_) fun hb H26=>?_
  ·refine Ja<|mv (Jk a0)<|?_
   obtain ⟨t12, h_t12, H25⟩ := Je H24; clear H24
   refine Qc (k125 h_t12) call125 rfl rfl rfl<|ag (Jk t12)<|Jc<|?_
   exact cl t12 () 0 [] (by exact ⟨H25, trivial⟩)
  ·refine Jj ?_
   exact cl a0 () 0 [] (by exact ⟨H26, trivial⟩)
 ·rintro x6 _ gg H14 _
  try dsimp only at H14
  try dsimp only
  refine Jb<|Jb<|Ja<|mv (Jk x6)<|lv (V3 rfl rfl)<|mv (.bool (decide (x6 = [])))<|?_
  revert H14
  refine sp (fun hb H15=>?_) fun hb H16=>?_
  ·refine pa<|pa<|pa<|pT (.bool true)<|mv (.bool true)<|pa<|pa<|pa<|pT (.bool true)<|Jc<|Zv rfl<|Jb<|Ja<|ag (i6 0)<|ag (.bool false)<|Jc<|Ji<|?_
   obtain rfl := sj H15
   refine Uy (v1 := i6 0) (v2 := .bool false) rfl rfl rfl (fin rfl)
  ·refine mv (Jk x6)<|lv (Q2 underlying9 rfl)<|lv (Zi rfl rfl)<|pF (.bool (decide (7 < (x6.length : Int))))<|mv (.bool (decide (7 < (x6.length : Int))))<|?_
   revert H16
   refine sp (fun hb H17=>?_) fun hb H18=>?_
   ·refine pa<|pa<|pa<|pT (.bool true)<|Jc<|Zv rfl<|Jb<|Ja<|ag (i6 0)<|ag (.bool false)<|Jc<|Ji<|?_
    obtain rfl := sj H17
    refine Uy (v1 := i6 0) (v2 := .bool false) rfl rfl rfl (fin rfl)
   ·refine mv (Jk x6) ?_
    obtain ⟨t22, h_t22, H19⟩ := Je H18; clear H18
    refine Qc (k126 h_t22) call126 rfl rfl rfl<|lv (r_neqT rfl rfl)<|pF (.bool (decide (t22 ≠ [])))<|Jc<|?_
    revert H19
    refine ci (decide (t22 ≠ [])) rfl (fun hb H20=>?_) fun hb H21=>?_
    ·refine Jb<|Ja<|ag (i6 0)<|ag (.bool false)<|Jc<|Ji<|?_
     obtain rfl := sj H20
     refine Uy (v1 := i6 0) (v2 := .bool false) rfl rfl rfl (fin rfl)
    ·refine Jj<|Jb<|Ja<|mv (Jk a0)<|?_
     obtain ⟨t27, h_t27, H22⟩ := Je H21; clear H21
     refine Qc (k127 h_t27) call127 rfl rfl rfl<|mv (.tuple #[i6 t27, .nilIface])<|lv (Jm (v := i6 t27) rfl rfl)<|lv (Jm (v := .nilIface) rfl rfl)<|ag (i6 t27)<|ag (.nilIface)<|Jc<|Jb<|Ja<|mv (i6 t27)<|mv (.nilIface)<|lv (r_eqlErr rfl (by intro w; kernel_rfl))<|mv (.bool true)<|mv (i6 t27)<|?_
     obtain ⟨t35, h_t35, H23⟩ := Je H22; clear H22
     refine Qm (fun w hF hS => k32 (Jr w) (tb_pow10.mono (hw.now hF)) h_t35) call32 rfl rfl rfl<|mv (Jk a0)<|lv (V3 rfl rfl)<|pT (.bool (decide (t35 = a0)))<|ag (i6 t27)<|ag (.bool (decide (t35 = a0)))<|Jc<|Ji<|?_
     obtain rfl := sj H23
     refine Uy (v1 := i6 t27) (v2 := .bool (decide (t35 = a0))) rfl rfl rfl (fin rfl)
theorem k120 {a0 : Tc} {pb0 : Nat} {p0_0 : Option Addr × Nat} {n0_0 : Nat} {p0_1 : Option Addr × Nat} {a1 : (List (List UInt8))} {v1 : Value} {r : Bool × Tc} {w : World} {h : Jt} {S : Nat → Prop} (hcs : (Q5 (Jp pb0 [sl p0_0 n0_0, sl p0_1 a0.people_.length, i6 a0.want_] 96) (Q5 (Jw 38 14 (sl p0_0 n0_0) n0_0 (a0.l_.map Jg)) (Uo 77 4 g_face_Person (sl p0_1 a0.people_.length) a0.people_.length a0.people_))).P S w) (hlt : ∀ b, S b → b < w.heap.size) (hw : Know h w S) (hn0_0 : n0_0 = a0.l_.length) (f1 : FrS h 1 v1 (a1.map Jv)) (tb_pow10 : TabH prog h "internal/strconv.uint64pow10" .u64 Lib.pow10Tab) (H : Uj a0 a1 = some r) : Does prog 120 (List.toArray [.pointer (some ⟨pb0, 0, none⟩), v1]) w (fun v w' => ∃ x : (Option Addr × Nat) × (Option Addr × Nat), v = (.bool r.1) ∧ Turn w w' S (Q5 (Jp pb0 [.slice x.1.1 r.2.l_.length x.1.2, .slice x.2.1 r.2.people_.length x.2.2, i6 r.2.want_] 96) (Q5 (Jw 38 14 (.slice x.1.1 r.2.l_.length x.1.2) r.2.l_.length (r.2.l_.map Jg)) (Uo 77 4 g_face_Person (.slice x.2.1 r.2.people_.length x.2.2) r.2.people_.length r.2.people_)))) := by
 refine enter (n := 50) func120 rfl rfl rfl S [Q5 (Jp pb0 [sl p0_0 n0_0, sl p0_1 a0.people_.length, i6 a0.want_] 96) (Q5 (Jw 38 14 (sl p0_0 n0_0) n0_0 (a0.l_.map Jg)) (Uo 77 4 g_face_Person (sl p0_1 a0.people_.length) a0.people_.length a0.people_))] (Sat.one hcs hlt)<|Z0 0 rfl<|Z0 1 rfl<|Jb<|Ja<|ag (.bool false)<|Jc<|Jb<|Jb<|Ja<|mv v1<|lv (X4 underlying31 rfl f1 rfl)<|lv (Jaj rfl rfl)<|Jc<|?_
 revert H
 refine ci (decide ((a1.length : Int) ≠ 14)) rfl (fun hb H14=>?_) fun hb H15=>?_
 ·refine Jb<|Ja<|ag (.bool false)<|Jc<|Ji<|?_
  obtain rfl := sj H14
  refine bo 1 2 rfl rfl<|bo 0 1 rfl rfl<|?_
  refine Wm (v := .bool false) rfl rfl (Yx (p0_0, p0_1) (i := 0) rfl (by first | rfl | rw [(show n0_0 = a0.l_.length from hn0_0)]) (by first | exact Imp.refl _ | exact Imp.of (by rw [(show n0_0 = a0.l_.length from hn0_0)] <;> rfl)))
 ·refine Jj<|Jb<|Ja<|?_
  refine Z6 (cs := [i6 0, i6 0, i6 0, i6 0, i6 0, i6 0, i6 0, i6 0, i6 0, i6 0, i6 0, i6 0, i6 0, i6 0]) zeroValue231 rfl rfl rfl (fun b2 => ?_)
  refine Jc ?_
  refine Qi (r := r) (σ := (Nat → Int)) (τ := Unit) (fun s => Vl a0 s) (fun s t => [(0, .pointer (some ⟨pb0, 0, none⟩)), (5, .pointer (some ⟨b2, 0, none⟩))]) (fun s t => [Jp pb0 [sl p0_0 n0_0, sl p0_1 a0.people_.length, i6 a0.want_] 96, Jw 38 14 (sl p0_0 n0_0) n0_0 (a0.l_.map Jg), Uo 77 4 g_face_Person (sl p0_1 a0.people_.length) a0.people_.length a0.people_, Jp b2 [i6 (s 0), i6 (s 1), i6 (s 2), i6 (s 3), i6 (s 4), i6 (s 5), i6 (s 6), i6 (s 7), i6 (s 8), i6 (s 9), i6 (s 10), i6 (s 11), i6 (s 12), i6 (s 13)] 231]) (fun s t => True) ?_ ?_
  ·refine Jb ?_
   try dsimp only [z1, z2, z5, z6, z7, z8]
   refine Ja<|mv v1<|lv (X4 underlying31 rfl f1 rfl)<|mv (i6 0)<|Jc<|Jl<|?_
   refine Xb (σ := Int × (Nat → Int)) (τ := Unit) (fun next2 s => Y5 a0 a1 next2 s.1 s.2) (fun s t => [(0, .pointer (some ⟨pb0, 0, none⟩)), (5, .pointer (some ⟨b2, 0, none⟩)), (13, v1), (14, i6 (a1.length : Int)), (15, i6 s.1)]) (fun s t => [Jp pb0 [sl p0_0 n0_0, sl p0_1 a0.people_.length, i6 a0.want_] 96, Jw 38 14 (sl p0_0 n0_0) n0_0 (a0.l_.map Jg), Uo 77 4 g_face_Person (sl p0_1 a0.people_.length) a0.people_.length a0.people_, Jp b2 [i6 (s.2 0), i6 (s.2 1), i6 (s.2 2), i6 (s.2 3), i6 (s.2 4), i6 (s.2 5), i6 (s.2 6), i6 (s.2 7), i6 (s.2 8), i6 (s.2 9), i6 (s.2 10), i6 (s.2 11), i6 (s.2 12), i6 (s.2 13)] 231]) (fun s t => True) (0, (fun _ => 0)) () [0, 1, 2, 3] H15 (by exact trivial) (by exact ⟨rfl, rfl, rfl, rfl, rfl, trivial⟩) (by decide) rfl ?_
   rintro ⟨x15_2, m_3⟩ _ m2 gg H18 _
   clear H15
   try dsimp only at H18
   generalize hn2 : it (fun next2 s => Y5 a0 a1 next2 s.1 s.2) m2 = next2 at H18
   try dsimp only
   refine Jb<|Ja<|lv (Qv rfl rfl)<|Jc<|Jb<|?_
   revert H18
   refine ci (decide (x15_2 < (a1.length : Int))) rfl (fun hb H19=>?_) fun hb H26=>?_
   ·refine Jj<|Jb<|Jl<|Jb<|Ja<|mv (i6 x15_2)<|?_
    obtain ⟨t18, h_t18, H20⟩ := Je H19; clear H19
    refine lv (J4 underlying31 sizeOf9 rfl rfl f1 h_t18)<|Jy (fun w hF hS => Ju (f := Jv) (i := x15_2) (sz := 1) (j := 0) (v := Jk t18) isAgg9 rfl rfl (f1.row (hw.now hF)) h_t18 rfl) rfl rfl rfl<|ag (i6 x15_2)<|ag (Jk t18)<|Jc<|Jb<|Ja<|mv (Jk t18)<|mv (i6 x15_2)<|lv (Jcg rfl rfl)<|?_
    obtain ⟨t24, h_t24, H21⟩ := Je H20; clear H20
    refine Qm (fun w hF hS => k215 (Jr w) (tb_pow10.mono (hw.now hF)) h_t24) call215 rfl rfl rfl<|mv (.tuple #[i6 t24.1, .bool t24.2])<|lv (Jm (v := i6 t24.1) rfl rfl)<|lv (Jm (v := .bool t24.2) rfl rfl)<|ag (i6 t24.1)<|ag (.bool t24.2)<|Jc<|Jb<|Jb<|Ja<|mv (.bool t24.2)<|lv (V8 rfl)<|Jc<|?_
    revert H21
    refine ci (!t24.2) rfl (fun hb H22=>?_) fun hb H23=>?_
    ·refine Jb<|Ja<|ag (.bool false)<|Jc<|Ji<|?_
     obtain rfl := sj H22
     refine bo 1 2 rfl rfl<|bo 0 1 rfl rfl<|?_
     refine Wm (v := .bool false) rfl rfl (Yx (p0_0, p0_1) (i := 0) rfl (by first | rfl | rw [(show n0_0 = a0.l_.length from hn0_0)]) (by first | exact Imp.refl _ | exact Imp.of (by rw [(show n0_0 = a0.l_.length from hn0_0)] <;> rfl)))
    ·refine Jj<|Ja<|mv (i6 x15_2)<|mv (i6 t24.1)<|?_
     obtain ⟨k31, h_k31, H24⟩ := Je H23; clear H23
     refine lv (Jfq runUnderlying231 sizeOf3 rfl rfl h_k31)<|U5 (i := 3) (vs := [i6 t24.1]) (cs' := [i6 ((Jae m_3 k31 t24.1) 0), i6 ((Jae m_3 k31 t24.1) 1), i6 ((Jae m_3 k31 t24.1) 2), i6 ((Jae m_3 k31 t24.1) 3), i6 ((Jae m_3 k31 t24.1) 4), i6 ((Jae m_3 k31 t24.1) 5), i6 ((Jae m_3 k31 t24.1) 6), i6 ((Jae m_3 k31 t24.1) 7), i6 ((Jae m_3 k31 t24.1) 8), i6 ((Jae m_3 k31 t24.1) 9), i6 ((Jae m_3 k31 t24.1) 10), i6 ((Jae m_3 k31 t24.1) 11), i6 ((Jae m_3 k31 t24.1) 12), i6 ((Jae m_3 k31 t24.1) 13)]) sizeOf3 rfl rfl rfl rfl rfl rfl rfl rfl (wr_arr (pre := []) (post := []) (f := fun (j_ : Int) => [i6 j_]) (n := 14) (sz := 1) (a := m_3) (x := t24.1) rfl rfl (fun _ => rfl) (gIx_lt h_k31) rfl rfl)<|Jc<|Ja<|?_
     obtain ⟨t32, h_t32, H25⟩ := Je H24; clear H24
     refine lv (Qe rfl rfl h_t32)<|mv (i6 t32)<|Jc<|?_
     exact cl (t32, (Jae m_3 k31 t24.1)) () m2 [0, 1, 2, 3] (by exact ⟨(by subst hn2; exact H25), trivial⟩)
   ·refine Qg ?_
    exact cl m_3 () 0 [0, 1, 2, 3] (by exact ⟨H26, trivial⟩)
  ·rintro m _ gg H16 _
   try dsimp only at H16
   try dsimp only
   refine Jb ?_
   exact Xp (Kd.p :: Kd.p :: Kd.p :: Kd.p :: Kd.d [0] _ :: Kd.p :: Kd.d [3] _ :: Kd.p :: Kd.d [3] _ :: Kd.p :: Kd.p :: Kd.d [3] _ :: Kd.p :: Kd.ns 4 [_, _, _, _, _, _, _, _, _, _, _, _, _, _] 38 1 :: Kd.t 1 [4] _ _ :: Kd.p :: Kd.p :: Kd.sv 49 47 0 _ 96 :: []) 1 mixed (by
    refine dm (.pointer (some ⟨pb0, 0, none⟩))<|dm (.pointer (some ⟨pb0, 0, none⟩))<|dv (J8 rfl)<|dv (Ya runUnderlying96 rfl sizeOf22 rfl rfl)<|dl (sl p0_0 n0_0) isAgg22<|dv (Jfs runUnderlying231 sizeOf3 rfl rfl (by decide) (by decide))<|dl (i6 (m 0)) isAgg3<|dv (Jfs runUnderlying231 sizeOf3 rfl rfl (by decide) (by decide))<|dl (i6 (m 1)) isAgg3<|dv (r_sliceArrLo (l := 2) underlying231 sizeOf3 rfl rfl rfl)<|dv (r_sap (m := 12) runUnderlying36 rfl (by decide))<|d_loadN (i := 3) (vs := [i6 ((fun i_ : Nat => m (i_ + 2)) 0), i6 ((fun i_ : Nat => m (i_ + 2)) 1), i6 ((fun i_ : Nat => m (i_ + 2)) 2), i6 ((fun i_ : Nat => m (i_ + 2)) 3), i6 ((fun i_ : Nat => m (i_ + 2)) 4), i6 ((fun i_ : Nat => m (i_ + 2)) 5), i6 ((fun i_ : Nat => m (i_ + 2)) 6), i6 ((fun i_ : Nat => m (i_ + 2)) 7), i6 ((fun i_ : Nat => m (i_ + 2)) 8), i6 ((fun i_ : Nat => m (i_ + 2)) 9), i6 ((fun i_ : Nat => m (i_ + 2)) 10), i6 ((fun i_ : Nat => m (i_ + 2)) 11)]) isAgg36 sizeOf36 rfl rfl rfl rfl<|dv (Je7 (pl := #[(0, 1), (1, 1), (2, 12)]) (ps := [(0, i6 (m 0)), (1, i6 (m 1)), (2, .agg #[i6 ((fun i_ : Nat => m (i_ + 2)) 0), i6 ((fun i_ : Nat => m (i_ + 2)) 1), i6 ((fun i_ : Nat => m (i_ + 2)) 2), i6 ((fun i_ : Nat => m (i_ + 2)) 3), i6 ((fun i_ : Nat => m (i_ + 2)) 4), i6 ((fun i_ : Nat => m (i_ + 2)) 5), i6 ((fun i_ : Nat => m (i_ + 2)) 6), i6 ((fun i_ : Nat => m (i_ + 2)) 7), i6 ((fun i_ : Nat => m (i_ + 2)) 8), i6 ((fun i_ : Nat => m (i_ + 2)) 9), i6 ((fun i_ : Nat => m (i_ + 2)) 10), i6 ((fun i_ : Nat => m (i_ + 2)) 11)])]) (cells := #[i6 (m 0), i6 (m 1), i6 ((fun i_ : Nat => m (i_ + 2)) 0), i6 ((fun i_ : Nat => m (i_ + 2)) 1), i6 ((fun i_ : Nat => m (i_ + 2)) 2), i6 ((fun i_ : Nat => m (i_ + 2)) 3), i6 ((fun i_ : Nat => m (i_ + 2)) 4), i6 ((fun i_ : Nat => m (i_ + 2)) 5), i6 ((fun i_ : Nat => m (i_ + 2)) 6), i6 ((fun i_ : Nat => m (i_ + 2)) 7), i6 ((fun i_ : Nat => m (i_ + 2)) 8), i6 ((fun i_ : Nat => m (i_ + 2)) 9), i6 ((fun i_ : Nat => m (i_ + 2)) 10), i6 ((fun i_ : Nat => m (i_ + 2)) 11)]) zeroValue38 runUnderlying38 (fun w => by kernel_rfl) rfl (by kernel_rfl))<|?_
    refine Jfx rfl rfl (Zu (vs := [.agg #[i6 (m 0), i6 (m 1), i6 ((fun i_ : Nat => m (i_ + 2)) 0), i6 ((fun i_ : Nat => m (i_ + 2)) 1), i6 ((fun i_ : Nat => m (i_ + 2)) 2), i6 ((fun i_ : Nat => m (i_ + 2)) 3), i6 ((fun i_ : Nat => m (i_ + 2)) 4), i6 ((fun i_ : Nat => m (i_ + 2)) 5), i6 ((fun i_ : Nat => m (i_ + 2)) 6), i6 ((fun i_ : Nat => m (i_ + 2)) 7), i6 ((fun i_ : Nat => m (i_ + 2)) 8), i6 ((fun i_ : Nat => m (i_ + 2)) 9), i6 ((fun i_ : Nat => m (i_ + 2)) 10), i6 ((fun i_ : Nat => m (i_ + 2)) 11)]]) (cs := [i6 (m 0), i6 (m 1), i6 ((fun i_ : Nat => m (i_ + 2)) 0), i6 ((fun i_ : Nat => m (i_ + 2)) 1), i6 ((fun i_ : Nat => m (i_ + 2)) 2), i6 ((fun i_ : Nat => m (i_ + 2)) 3), i6 ((fun i_ : Nat => m (i_ + 2)) 4), i6 ((fun i_ : Nat => m (i_ + 2)) 5), i6 ((fun i_ : Nat => m (i_ + 2)) 6), i6 ((fun i_ : Nat => m (i_ + 2)) 7), i6 ((fun i_ : Nat => m (i_ + 2)) 8), i6 ((fun i_ : Nat => m (i_ + 2)) 9), i6 ((fun i_ : Nat => m (i_ + 2)) 10), i6 ((fun i_ : Nat => m (i_ + 2)) 11)]) underlying22 sizeOf38 zeroValue38 rfl rfl rfl rfl rfl) rfl (fun b3 => ?_)
    have h_l47 := Qh H16
    have H17 := J3 H16
    refine Jew (Cv := fun v => Jw 38 14 v (val (Ja4 112 a0.l_ ([(⟨(m 0), (m 1), (fun i_ : Nat => m (i_ + 2))⟩ : Ta)] : List Ta))).length ((val (Ja4 112 a0.l_ ([(⟨(m 0), (m 1), (fun i_ : Nat => m (i_ + 2))⟩ : Ta)] : List Ta))).map Jg)) (none, 0) (Jbd (i := 1) (hn := hn0_0) (rds := [4]) (p := p0_0) (sz := 14) (by_ := 112) (f := Jg) (ys := a0.l_) (ls := ([(⟨(m 0), (m 1), (fun i_ : Nat => m (i_ + 2))⟩ : Ta)] : List Ta)) (V := .slice (some ⟨b3, 0, none⟩) 1 1) underlying22 (Vo typeInfo38) rfl rfl rfl rfl rfl rfl rfl rfl rfl rfl (fun w L' hF hS hi => Jbi (i := 4) hS ((hi 4 (by simp)).trans rfl) rfl rfl) (fun _ => rfl) (fun _ => rfl) h_l47) (fun _ => rfl) rfl rfl (fun p => ?_)
    refine dv (J8 rfl)<|dv (Ya runUnderlying96 rfl sizeOf22 rfl rfl)<|d_storeV (i := 0) (vs := [.slice p.1 (val (Ja4 112 a0.l_ ([(⟨(m 0), (m 1), (fun i_ : Nat => m (i_ + 2))⟩ : Ta)] : List Ta))).length p.2]) (cs' := fun v_ => [v_, sl p0_1 a0.people_.length, i6 a0.want_]) sizeOf22 rfl rfl rfl rfl rfl rfl rfl rfl rfl<|Wk<|Jb<|Ja<|ag (.bool true)<|Jc<|Ji<|?_
    obtain rfl := sj H17
    refine bo 1 2 rfl rfl<|bo 0 1 rfl rfl<|?_
    refine Wm (v := .bool true) rfl rfl (Yx (p, p0_1) (i := 0) rfl rfl (Imp.refl _))
    ) (by kernel_rfl)
theorem k121 {a0 : Tc} {pb0 : Nat} {p0_0 : Option Addr × Nat} {n0_0 : Nat} {p0_1 : Option Addr × Nat} {a1 : (List UInt8)} {r : Bool × Tc} {w : World} {h : Jt} {S : Nat → Prop} (hcs : (Q5 (Jp pb0 [sl p0_0 n0_0, sl p0_1 a0.people_.length, i6 a0.want_] 96) (Q5 (Jw 38 14 (sl p0_0 n0_0) n0_0 (a0.l_.map Jg)) (Uo 77 4 g_face_Person (sl p0_1 a0.people_.length) a0.people_.length a0.people_))).P S w) (hlt : ∀ b, S b → b < w.heap.size) (hw : Know h w S) (hn0_0 : n0_0 = a0.l_.length) (tb_pow10 : TabH prog h "internal/strconv.uint64pow10" .u64 Lib.pow10Tab) (H : Zt a0 a1 = some r) : Does prog 121 (List.toArray [.pointer (some ⟨pb0, 0, none⟩), Jk a1]) w (fun v w' => ∃ x : (Option Addr × Nat) × (Option Addr × Nat), v = (.bool r.1) ∧ Turn w w' S (Q5 (Jp pb0 [.slice x.1.1 r.2.l_.length x.1.2, .slice x.2.1 r.2.people_.length x.2.2, i6 r.2.want_] 96) (Q5 (Jw 38 14 (.slice x.1.1 r.2.l_.length x.1.2) r.2.l_.length (r.2.l_.map Jg)) (Uo 77 4 g_face_Person (.slice x.2.1 r.2.people_.length x.2.2) r.2.people_.length r.2.people_)))) := by
 refine enter (n := 40) func121 rfl rfl rfl S [Q5 (Jp pb0 [sl p0_0 n0_0, sl p0_1 a0.people_.length, i6 a0.want_] 96) (Q5 (Jw 38 14 (sl p0_0 n0_0) n0_0 (a0.l_.map Jg)) (Uo 77 4 g_face_Person (sl p0_1 a0.people_.length) a0.people_.length a0.people_))] (Sat.one hcs hlt)<|Z0 0 rfl<|Z0 1 rfl<|Jce Un<|Jb<|Ja<|ag (.bool false)<|Jc<|Jb<|Ja<|mv (Jk a1)<|?_
 obtain ⟨t12, h_t12, H6⟩ := Je H; clear H
 refine Qc (k37 h_t12) call37 rfl rfl rfl<|mv (.tuple #[Jk t12.1, Jk t12.2.1, .bool t12.2.2])<|lv (Jm (v := Jk t12.1) rfl rfl)<|lv (Jm (v := Jk t12.2.1) rfl rfl)<|lv (Jm (v := .bool t12.2.2) rfl rfl)<|ag (Jk t12.1)<|ag (Jk t12.2.1)<|ag (.bool t12.2.2)<|Jc<|Jb<|Ja<|mv (Jk t12.1)<|?_
 obtain ⟨t18, h_t18, H7⟩ := Je H6; clear H6
 refine Qm (fun w hF hS => k215 (Jr w) (tb_pow10.mono (hw.now hF)) h_t18) call215 rfl rfl rfl<|mv (.tuple #[i6 t18.1, .bool t18.2])<|lv (Jm (v := i6 t18.1) rfl rfl)<|lv (Jm (v := .bool t18.2) rfl rfl)<|ag (i6 t18.1)<|ag (.bool t18.2)<|Jc<|Jb<|?_
 refine c_rowD 2 rfl (fun hp css hn pf => ?_)
 rw [hn]
 try dsimp only [z1, z2, z5, z6, z7, z8]
 refine Z0 2 rfl ?_
 try dsimp only [z1, z2, z5, z6, z7, z8]
 refine Jcl 3 2 rfl rfl (by decide) (fun _ _ => Jbw) (fun hp_2 hle hle_2 => ?_)
 try dsimp only [z1, z2, z5, z6, z7, z8]
 refine Ja<|mv (.pointer (some ⟨pb0, 0, none⟩))<|mv (.pointer (some ⟨pb0, 0, none⟩))<|lv (J8 rfl)<|lf runUnderlying96 rfl sizeOf23 rfl<|ll 0 (sl p0_1 css.length) isAgg23<|mv (i6 t18.1)<|mv (Jk t12.2.1)<|lv (Je7 (pl := #[(0, 1), (1, 1), (2, 1), (3, 1)]) (ps := [(0, i6 t18.1), (1, Jk t12.2.1)]) (cells := #[i6 t18.1, Jk t12.2.1, .slice none 0 0, .slice none 0 0]) zeroValue77 runUnderlying77 (fun w => by kernel_rfl) rfl rfl)<|?_
 refine Yu (vs := [.agg #[i6 t18.1, Jk t12.2.1, .slice none 0 0, .slice none 0 0]]) (cs := [i6 t18.1, Jk t12.2.1, .slice none 0 0, .slice none 0 0]) underlying23 sizeOf77 zeroValue77 rfl rfl rfl rfl rfl rfl rfl (fun b1 => ?_)
 obtain ⟨l30, h_l30, H8⟩ := Je H7; clear H7
 refine Xl (Jeh (i := 4) (k := 5) (p := p0_1) (f := idC) (ys := css) (ls := [[i6 t18.1, Jk t12.2.1, .slice none 0 0, .slice none 0 0]]) underlying23 (Vo typeInfo77) rfl rfl rfl rfl rfl rfl rfl rfl rfl rfl rfl rfl rfl rfl rfl (app63 ((pf.mono hle_2).app h_l30 (nc := [[i6 t18.1, Jk t12.2.1, .slice none 0 0, .slice none 0 0]]) rfl)) rfl) rfl rfl rfl (fun p => ?_)
 have pf_2 : AllC g_face_Person hp_2 4 (css ++ [[i6 t18.1, Jk t12.2.1, .slice none 0 0, .slice none 0 0]]) l30 := AllC.snocG (pf.mono hle_2) h_l30 rfl (⟨rfl, rfl, (FrS.nil _ _), (FrS.nil _ _)⟩)
 refine lv (J8 rfl)<|lf runUnderlying96 rfl sizeOf23 rfl<|st (i := 0) [sl p ((css ++ [[i6 t18.1, Jk t12.2.1, .slice none 0 0, .slice none 0 0]]).length)] [sl p0_0 n0_0, sl p ((css ++ [[i6 t18.1, Jk t12.2.1, .slice none 0 0, .slice none 0 0]]).length), i6 a0.want_] sizeOf23 rfl rfl<|Jc<|?_
 try dsimp only [z1, z2, z5, z6, z7, z8]
 refine Jb<|Ja<|mv (.pointer (some ⟨pb0, 0, none⟩))<|lv (J8 rfl)<|lf runUnderlying96 rfl sizeOf3 rfl<|st (i := 0) [i6 1] [sl p0_0 n0_0, sl p ((css ++ [[i6 t18.1, Jk t12.2.1, .slice none 0 0, .slice none 0 0]]).length), i6 1] sizeOf3 rfl rfl<|Jc<|?_
 try dsimp only [z1, z2, z5, z6, z7, z8]
 refine Jb<|Ja<|mv (.bool t12.2.2)<|mv (.bool t12.2.2)<|?_
 revert H8
 refine sp (fun hb H9=>?_) fun hb H10=>?_
 ·refine mv (.bool t18.2)<|pT (.bool t18.2)<|ag (.bool t18.2)<|Jc<|?_
  try dsimp only [z1, z2, z5, z6, z7, z8]
  refine Ji ?_
  obtain rfl := sj H9
  refine bo 3 4 rfl rfl<|Xx 3 rfl (U3 (p := p) rfl pf_2)<|bo 1 3 rfl rfl<|bo 0 1 rfl rfl<|?_
  refine Wm (v := .bool t18.2) rfl rfl (Yx (p0_0, p) (i := 0) rfl (by first | rfl | rw [(show n0_0 = a0.l_.length from hn0_0), (show ((css ++ [[i6 t18.1, Jk t12.2.1, .slice none 0 0, .slice none 0 0]]).length) = l30.length from pf_2.len)]) (by first | exact Imp.refl _ | exact Imp.of (by rw [(show n0_0 = a0.l_.length from hn0_0), (show ((css ++ [[i6 t18.1, Jk t12.2.1, .slice none 0 0, .slice none 0 0]]).length) = l30.length from pf_2.len)] <;> rfl)))
 ·refine pa<|pF (.bool false)<|ag (.bool false)<|Jc<|?_
  try dsimp only [z1, z2, z5, z6, z7, z8]
  refine Ji ?_
  obtain rfl := sj H10
  refine bo 3 4 rfl rfl<|Xx 3 rfl (U3 (p := p) rfl pf_2)<|bo 1 3 rfl rfl<|bo 0 1 rfl rfl<|?_
  refine Wm (v := .bool false) rfl rfl (Yx (p0_0, p) (i := 0) rfl (by first | rfl | rw [(show n0_0 = a0.l_.length from hn0_0), (show ((css ++ [[i6 t18.1, Jk t12.2.1, .slice none 0 0, .slice none 0 0]]).length) = l30.length from pf_2.len)]) (by first | exact Imp.refl _ | exact Imp.of (by rw [(show n0_0 = a0.l_.length from hn0_0), (show ((css ++ [[i6 t18.1, Jk t12.2.1, .slice none 0 0, .slice none 0 0]]).length) = l30.length from pf_2.len)] <;> rfl)))
theorem k122 {a0 : Tc} {pb0 : Nat} {p0_0 : Option Addr × Nat} {n0_0 : Nat} {p0_1 : Option Addr × Nat} {a1 : (List (List UInt8))} {v1 : Value} {r : Bool × Tc} {w : World} {h : Jt} {S : Nat → Prop} (hcs : (Q5 (Jp pb0 [sl p0_0 n0_0, sl p0_1 a0.people_.length, i6 a0.want_] 96) (Q5 (Jw 38 14 (sl p0_0 n0_0) n0_0 (a0.l_.map Jg)) (Uo 77 4 g_face_Person (sl p0_1 a0.people_.length) a0.people_.length a0.people_))).P S w) (hlt : ∀ b, S b → b < w.heap.size) (hw : Know h w S) (hn0_0 : n0_0 = a0.l_.length) (f1 : FrS h 1 v1 (a1.map Jv)) (tb_pow10 : TabH prog h "internal/strconv.uint64pow10" .u64 Lib.pow10Tab) (H : Vp a0 a1 = some r) : Does prog 122 (List.toArray [.pointer (some ⟨pb0, 0, none⟩), v1]) w (fun v w' => ∃ x : (Option Addr × Nat) × (Option Addr × Nat), v = (.bool r.1) ∧ Turn w w' S (Q5 (Jp pb0 [.slice x.1.1 r.2.l_.length x.1.2, .slice x.2.1 r.2.people_.length x.2.2, i6 r.2.want_] 96) (Q5 (Jw 38 14 (.slice x.1.1 r.2.l_.length x.1.2) r.2.l_.length (r.2.l_.map Jg)) (Uo 77 4 g_face_Person (.slice x.2.1 r.2.people_.length x.2.2) r.2.people_.length r.2.people_)))) := by
 refine enter (n := 61) func122 rfl rfl rfl S [Q5 (Jp pb0 [sl p0_0 n0_0, sl p0_1 a0.people_.length, i6 a0.want_] 96) (Q5 (Jw 38 14 (sl p0_0 n0_0) n0_0 (a0.l_.map Jg)) (Uo 77 4 g_face_Person (sl p0_1 a0.people_.length) a0.people_.length a0.people_))] (Sat.one hcs hlt)<|Z0 0 rfl<|Z0 1 rfl<|Jce Un<|Jb<|Ja<|ag (.bool false)<|Jc<|Jb<|Ja<|ag (.slice none 0 0)<|Jc<|?_
 refine Qi (r := r) (σ := (List Int)) (τ := (Option Addr × Nat)) (fun s => Yj a0 s) (fun s t => [(0, .pointer (some ⟨pb0, 0, none⟩)), (5, sl t s.length)]) (fun s t => [Jp pb0 [sl p0_0 n0_0, sl p0_1 a0.people_.length, i6 a0.want_] 96, Jw 38 14 (sl p0_0 n0_0) n0_0 (a0.l_.map Jg), Uo 77 4 g_face_Person (sl p0_1 a0.people_.length) a0.people_.length a0.people_, Y1 Un Un, Jw 3 1 (sl t s.length) s.length (s.map Jn)]) (fun s t => True) ?_ ?_
 ·refine Jb<|Ja<|mv v1<|lv (X4 underlying31 rfl f1 rfl)<|mv (i6 0)<|Jc<|Jl<|Q1 3 1<|?_
  refine Xb (σ := Int × (List Int)) (τ := (Option Addr × Nat)) (fun next2 s => Y7 a0 a1 next2 s.1 s.2) (fun s t => [(0, .pointer (some ⟨pb0, 0, none⟩)), (5, sl t s.2.length), (11, v1), (12, i6 (a1.length : Int)), (13, i6 s.1)]) (fun s t => [Jp pb0 [sl p0_0 n0_0, sl p0_1 a0.people_.length, i6 a0.want_] 96, Jw 38 14 (sl p0_0 n0_0) n0_0 (a0.l_.map Jg), Uo 77 4 g_face_Person (sl p0_1 a0.people_.length) a0.people_.length a0.people_, Y1 Un Un, Jw 3 1 (sl t s.2.length) s.2.length (s.2.map Jn)]) (fun s t => True) (0, ([] : List Int)) nn [0, 1, 2, 3, 4] H (by exact trivial) (by exact ⟨rfl, rfl, rfl, rfl, rfl, trivial⟩) (by decide) rfl ?_
  rintro ⟨x13_2, l_3⟩ p_2 m2 gg H24 _
  clear H
  try dsimp only at H24
  generalize hn2 : it (fun next2 s => Y7 a0 a1 next2 s.1 s.2) m2 = next2 at H24
  try dsimp only
  refine Jb<|Ja<|lv (Qv rfl rfl)<|Jc<|Jb<|?_
  revert H24
  refine ci (decide (x13_2 < (a1.length : Int))) rfl (fun hb H25=>?_) fun hb H32=>?_
  ·refine Jj<|Jb<|Jl<|Jb<|Ja<|?_
   obtain ⟨t15, h_t15, H26⟩ := Je H25; clear H25
   refine lv (J4 underlying31 sizeOf9 rfl rfl f1 h_t15)<|Jy (fun w hF hS => Ju (f := Jv) (i := x13_2) (sz := 1) (j := 0) (v := Jk t15) isAgg9 rfl rfl (f1.row (hw.now hF)) h_t15 rfl) rfl rfl rfl<|ag (Jk t15)<|Jc<|Jb<|Ja<|mv (Jk t15)<|?_
   obtain ⟨t19, h_t19, H27⟩ := Je H26; clear H26
   refine Qm (fun w hF hS => k215 (Jr w) (tb_pow10.mono (hw.now hF)) h_t19) call215 rfl rfl rfl<|mv (.tuple #[i6 t19.1, .bool t19.2])<|lv (Jm (v := i6 t19.1) rfl rfl)<|lv (Jm (v := .bool t19.2) rfl rfl)<|ag (i6 t19.1)<|ag (.bool t19.2)<|Jc<|Jb<|Jb<|Ja<|mv (.bool t19.2)<|lv (V8 rfl)<|Jc<|?_
   revert H27
   refine ci (!t19.2) rfl (fun hb H28=>?_) fun hb H29=>?_
   ·refine Jb<|Ja<|ag (.bool false)<|Jc<|Ji<|?_
    obtain rfl := sj H28
    refine bo 1 2 rfl rfl<|bo 0 1 rfl rfl<|?_
    refine Wm (v := .bool false) rfl rfl (Yx (p0_0, p0_1) (i := 0) rfl (by first | rfl | rw [(show n0_0 = a0.l_.length from hn0_0)]) (by first | exact Imp.refl _ | exact Imp.of (by rw [(show n0_0 = a0.l_.length from hn0_0)] <;> rfl)))
   ·refine Jj ?_
    try dsimp only [z1, z2, z5, z6, z7, z8]
    refine Ja<|mv (sl p_2 l_3.length)<|mv (i6 t19.1)<|?_
    refine Yu (vs := [i6 t19.1]) (cs := [i6 t19.1]) underlying75 sizeOf3 zeroValue3 rfl rfl rfl rfl rfl rfl rfl (fun b1 => ?_)
    obtain ⟨l27, h_l27, H30⟩ := Je H29; clear H29
    refine Xl (Jbd (i := 4) (hn := rfl) (rds := [5]) (p := p_2) (sz := 1) (by_ := 8) (f := Jn) (ys := l_3) (ls := ([t19.1] : List Int)) (V := .slice (some ⟨b1, 0, none⟩) 1 1) underlying75 (Vo typeInfo3) rfl rfl rfl rfl rfl rfl rfl rfl rfl rfl (fun w L' hF hS hi => Jbi (i := 5) hS ((hi 5 (by simp)).trans rfl) rfl rfl) (fun _ => rfl) (fun _ => rfl) h_l27) rfl rfl rfl (fun p_3 => ?_)
    refine ag (sl p_3 l27.length)<|Jc<|Ja<|?_
    obtain ⟨t28, h_t28, H31⟩ := Je H30; clear H30
    refine lv (Qe rfl rfl h_t28)<|mv (i6 t28)<|Jc<|?_
    exact cl (t28, l27) p_3 m2 [0, 1, 2, 3, 4] (by exact ⟨(by subst hn2; exact H31), trivial⟩)
  ·refine Qg ?_
   exact cl l_3 p_2 0 [0, 1, 2, 3, 4] (by exact ⟨H32, trivial⟩)
 ·rintro l p gg H17 _
  try dsimp only at H17
  try dsimp only
  refine Jb ?_
  refine c_rowD 2 rfl (fun hp css hn pf => ?_)
  rw [hn]
  try dsimp only [z1, z2, z5, z6, z7, z8]
  refine Z0 2 rfl ?_
  try dsimp only [z1, z2, z5, z6, z7, z8]
  refine Jcl 3 2 rfl rfl (by decide) (fun _ _ => Jbw) (fun hp_2 hle hle_2 => ?_)
  try dsimp only [z1, z2, z5, z6, z7, z8]
  exact Xp (Kd.p :: Kd.p :: Kd.p :: Kd.d [0] _ :: Kd.p :: Kd.p :: Kd.p :: Kd.d [0] _ :: Kd.p :: Kd.p :: Kd.d [5] _ :: Kd.p :: []) 0 mixed (by
   refine dm (.pointer (some ⟨pb0, 0, none⟩))<|dv (J8 rfl)<|dv (Ya runUnderlying96 rfl sizeOf23 rfl rfl)<|dl (sl p0_1 css.length) isAgg23<|dm (.pointer (some ⟨pb0, 0, none⟩))<|dv (J8 rfl)<|dv (Ya runUnderlying96 rfl sizeOf23 rfl rfl)<|dl (sl p0_1 css.length) isAgg23<|dv (r_lenN underlying23 rfl hn.symm)<|?_
   have h_t38 := Qh H17
   have H18 := J3 H17
   refine dv (Ym rfl rfl h_t38) ?_
   have h_t39 := Qh H18
   have H19 := J3 H18
   refine Jbl (fun w L' hF hS hi => X5 underlying23 sizeOf77 rfl rfl (V9 (i := 5) (E := 77) (sz := 4) (n := css.length) (a := p0_1.1) (c := p0_1.2) hS ((hi 5 (by simp)).trans rfl)) rfl ((pf.mono hle_2).ix h_t39)) rfl rfl<|W6 rfl rfl (Xs (v := _) rfl)<|Wk<|?_
   try dsimp only [z1, z2, z5, z6, z7, z8]
   refine Jb<|Jb<|Ja<|mv (.pointer (some ⟨pb0, 0, none⟩))<|lv (J8 rfl)<|lf runUnderlying96 rfl sizeOf3 rfl<|ll 0 (i6 a0.want_) isAgg3<|lv (Y4 rfl rfl)<|Jc<|?_
   try dsimp only [z1, z2, z5, z6, z7, z8]
   revert H19
   refine ci (decide (a0.want_ = 1)) rfl (fun hb H20=>?_) fun hb H22=>?_
   ·refine Ja<|mv _<|mv (.pointer (some ⟨pb0, 0, none⟩))<|mv (sl p l.length)<|Qm (fun w hF hS => k149 (Jc2 (i := 4) hS rfl) w) call149 rfl rfl rfl<|Jy (fun w hF hS => run_nilG rfl (V9 (i := 5) hS rfl) ((pf.mono hle_2).ix h_t39)) rfl rfl rfl<|?_
    refine c_know (fun w hF hS => someOf (i := 5) hS rfl ((pf.mono hle_2).ix h_t39)) (fun hs => ?_)
    refine lv (Us runUnderlying77 rfl sizeOf75 rfl rfl hs)<|Xx 4 rfl (Jc6 _ _ _ _ _ _)<|?_
    try dsimp only [z1, z2, z5, z6, z7, z8]
    refine Jdw (Φ := fun H_ => FrS H_ 1 (.slice (Yc p.1 0 l.length 1) l.length l.length) (l.map Jn)) 3 4 rfl rfl (by decide) (fun _ _ => Jbw) (fz_ro _) (fun hp_3 hle_3 hf => ?_)
    obtain ⟨l5, h_l5, H21⟩ := Je H20; clear H20
    refine Jdl (Jb4 (q := 5) (j := 2) (i := (val (gI ((a0.people_.length : Int) - 1)))) (sz := 4) (x := (.slice (Yc p.1 0 l.length 1) l.length l.length)) (css := css) (xe := (val (Qk a0.people_ (val (gI ((a0.people_.length : Int) - 1)))))) rfl ((pf.mono hle_2).mono hle_3).len sizeOf75 rfl rfl rfl rfl rfl rfl rfl h_t39) rfl rfl (fun _ => ?_)
    have pf_2 : AllC g_face_Person hp_3 4 (setR css (val (gI ((a0.people_.length : Int) - 1))) 2 (.slice (Yc p.1 0 l.length 1) l.length l.length)) l5 := AllC.setR ((pf.mono hle_2).mono hle_3) h_t39 h_l5 rfl (by obtain ⟨q0_, q1_, q2_, q3_⟩ := ((pf.mono hle_2).mono hle_3).at h_t39; exact ⟨q0_, q1_, hf, q3_⟩)
    refine lv (J8 rfl)<|lf runUnderlying96 rfl sizeOf3 rfl<|st (i := 0) [i6 2] [sl p0_0 n0_0, sl p0_1 css.length, i6 2] sizeOf3 rfl rfl<|Jc<|?_
    try dsimp only [z1, z2, z5, z6, z7, z8]
    refine Jb<|Ja<|ag (.bool true)<|Jc<|?_
    try dsimp only [z1, z2, z5, z6, z7, z8]
    refine Ji ?_
    obtain rfl := sj H21
    refine bo 3 5 rfl rfl<|Xx 3 rfl (U3 (p := p0_1) (rfl.trans (Jax _ _ _ _).symm) pf_2)<|bo 1 3 rfl rfl<|bo 0 1 rfl rfl<|?_
    refine Wm (v := .bool true) rfl rfl (Yx (p0_0, p0_1) (i := 0) rfl (by first | rfl | rw [(show n0_0 = a0.l_.length from hn0_0), (show css.length = l5.length from ((rfl.trans (Jax _ _ _ _).symm).trans pf_2.len))]) (by first | exact Imp.refl _ | exact Imp.of (by rw [(show n0_0 = a0.l_.length from hn0_0), (show css.length = l5.length from ((rfl.trans (Jax _ _ _ _).symm).trans pf_2.len))] <;> rfl)))
   ·refine Ja<|mv _<|mv (.pointer (some ⟨pb0, 0, none⟩))<|mv (sl p l.length)<|Qm (fun w hF hS => k149 (Jc2 (i := 4) hS rfl) w) call149 rfl rfl rfl<|Jy (fun w hF hS => run_nilG rfl (V9 (i := 5) hS rfl) ((pf.mono hle_2).ix h_t39)) rfl rfl rfl<|?_
    refine c_know (fun w hF hS => someOf (i := 5) hS rfl ((pf.mono hle_2).ix h_t39)) (fun hs_2 => ?_)
    refine lv (Us runUnderlying77 rfl sizeOf75 rfl rfl hs_2)<|Xx 4 rfl (Jc6 _ _ _ _ _ _)<|?_
    try dsimp only [z1, z2, z5, z6, z7, z8]
    refine Jdw (Φ := fun H_ => FrS H_ 1 (.slice (Yc p.1 0 l.length 1) l.length l.length) (l.map Jn)) 3 4 rfl rfl (by decide) (fun _ _ => Jbw) (fz_ro _) (fun hp_4 hle_4 hf_2 => ?_)
    obtain ⟨l5_2, h_l5_2, H23⟩ := Je H22; clear H22
    refine Jdl (Jb4 (q := 5) (j := 3) (i := (val (gI ((a0.people_.length : Int) - 1)))) (sz := 4) (x := (.slice (Yc p.1 0 l.length 1) l.length l.length)) (css := css) (xe := (val (Qk a0.people_ (val (gI ((a0.people_.length : Int) - 1)))))) rfl ((pf.mono hle_2).mono hle_4).len sizeOf75 rfl rfl rfl rfl rfl rfl rfl h_t39) rfl rfl (fun _ => ?_)
    have pf_3 : AllC g_face_Person hp_4 4 (setR css (val (gI ((a0.people_.length : Int) - 1))) 3 (.slice (Yc p.1 0 l.length 1) l.length l.length)) l5_2 := AllC.setR ((pf.mono hle_2).mono hle_4) h_t39 h_l5_2 rfl (by obtain ⟨q0_, q1_, q2_, q3_⟩ := ((pf.mono hle_2).mono hle_4).at h_t39; exact ⟨q0_, q1_, q2_, hf_2⟩)
    refine lv (J8 rfl)<|lf runUnderlying96 rfl sizeOf3 rfl<|st (i := 0) [i6 3] [sl p0_0 n0_0, sl p0_1 css.length, i6 3] sizeOf3 rfl rfl<|Jc<|?_
    try dsimp only [z1, z2, z5, z6, z7, z8]
    refine Jb<|Ja<|ag (.bool true)<|Jc<|?_
    try dsimp only [z1, z2, z5, z6, z7, z8]
    refine Ji ?_
    obtain rfl := sj H23
    refine bo 3 5 rfl rfl<|Xx 3 rfl (U3 (p := p0_1) (rfl.trans (Jax _ _ _ _).symm) pf_3)<|bo 1 3 rfl rfl<|bo 0 1 rfl rfl<|?_
    refine Wm (v := .bool true) rfl rfl (Yx (p0_0, p0_1) (i := 0) rfl (by first | rfl | rw [(show n0_0 = a0.l_.length from hn0_0), (show css.length = l5_2.length from ((rfl.trans (Jax _ _ _ _).symm).trans pf_3.len))]) (by first | exact Imp.refl _ | exact Imp.of (by rw [(show n0_0 = a0.l_.length from hn0_0), (show css.length = l5_2.length from ((rfl.trans (Jax _ _ _ _).symm).trans pf_3.len))] <;> rfl)))
   ) (by kernel_rfl)
theorem k38 {a0 : Tc} {pb0 : Nat} {p0_0 : Option Addr × Nat} {n0_0 : Nat} {p0_1 : Option Addr × Nat} {a1 : (List UInt8)} {r : Bool × Tc} {w : World} {h : Jt} {S : Nat → Prop} (hcs : (Q5 (Jp pb0 [sl p0_0 n0_0, sl p0_1 a0.people_.length, i6 a0.want_] 96) (Q5 (Jw 38 14 (sl p0_0 n0_0) n0_0 (a0.l_.map Jg)) (Uo 77 4 g_face_Person (sl p0_1 a0.people_.length) a0.people_.length a0.people_))).P S w) (hlt : ∀ b, S b → b < w.heap.size) (hw : Know h w S) (hn0_0 : n0_0 = a0.l_.length) (tb_pow10 : TabH prog h "internal/strconv.uint64pow10" .u64 Lib.pow10Tab) (H : Uf a0 a1 = some r) : Does prog 38 (List.toArray [.pointer (some ⟨pb0, 0, none⟩), Jk a1]) w (fun v w' => ∃ x : (Option Addr × Nat) × (Option Addr × Nat), v = (.bool r.1) ∧ Turn w w' S (Q5 (Jp pb0 [.slice x.1.1 r.2.l_.length x.1.2, .slice x.2.1 r.2.people_.length x.2.2, i6 r.2.want_] 96) (Q5 (Jw 38 14 (.slice x.1.1 r.2.l_.length x.1.2) r.2.l_.length (r.2.l_.map Jg)) (Uo 77 4 g_face_Person (.slice x.2.1 r.2.people_.length x.2.2) r.2.people_.length r.2.people_)))) := by
 refine enter (n := 73) func38 rfl rfl rfl S [Q5 (Jp pb0 [sl p0_0 n0_0, sl p0_1 a0.people_.length, i6 a0.want_] 96) (Q5 (Jw 38 14 (sl p0_0 n0_0) n0_0 (a0.l_.map Jg)) (Uo 77 4 g_face_Person (sl p0_1 a0.people_.length) a0.people_.length a0.people_))] (Sat.one hcs hlt)<|Z0 0 rfl<|Z0 1 rfl<|Jb<|Ja<|ag (.bool false)<|Jc<|Jb<|Ja<|mv (Jk a1)<|?_
 obtain ⟨t11, h_t11, H31⟩ := Je H; clear H
 refine Qc (k37 h_t11) call37 rfl rfl rfl<|mv (.tuple #[Jk t11.1, Jk t11.2.1, .bool t11.2.2])<|lv (Jm (v := Jk t11.1) rfl rfl)<|lv (Jm (v := Jk t11.2.1) rfl rfl)<|lv (Jm (v := .bool t11.2.2) rfl rfl)<|ag (Jk t11.1)<|ag (Jk t11.2.1)<|ag (.bool t11.2.2)<|Jc<|Jb<|Ja<|mv (Jk a1)<|?_
 obtain ⟨t16, h_t16, H32⟩ := Je H31; clear H31
 refine Zr (Ye (rds := []) (G := fun x : (Option Addr × Nat) => sl x t16.length) (C := fun x : (Option Addr × Nat) => Jw 9 1 (sl x t16.length) t16.length (t16.map Jv)) (fun w L' hF hS hi => k43 (Jr w)  h_t16) call43 rfl) rfl rfl rfl (fun p => ?_)
 obtain ⟨t17, h_t17, H33⟩ := Je H32; clear H32
 refine Jy (v := .slice (Yc p.1 (Int.toNat 1) p.2 1) t17.length (p.2 - Int.toNat 1)) (fun w hF hS => Jbq (xs := t16) underlying31 sizeOf9 rfl rfl rfl (Jc2 (i := 3) hS rfl) h_t17) rfl rfl rfl<|ag (.slice (Yc p.1 (Int.toNat 1) p.2 1) t17.length (p.2 - Int.toNat 1))<|Jc<|Jb<|Jl<|?_
 refine Qi (r := r) (σ := Bool) (τ := Unit) (fun s => Yk a0 t11 t17 s) (fun s t => [(0, .pointer (some ⟨pb0, 0, none⟩)), (5, Jk t11.1), (6, Jk t11.2.1), (8, .slice (Yc p.1 (Int.toNat 1) p.2 1) t17.length (p.2 - Int.toNat 1)), (18, .bool s)]) (fun s t => [Jp pb0 [sl p0_0 n0_0, sl p0_1 a0.people_.length, i6 a0.want_] 96, Jw 38 14 (sl p0_0 n0_0) n0_0 (a0.l_.map Jg), Uo 77 4 g_face_Person (sl p0_1 a0.people_.length) a0.people_.length a0.people_, Jw 9 1 (sl p t16.length) t16.length (t16.map Jv)]) (fun s t => True) ?_ ?_
 ·refine Ja<|mv (.pointer (some ⟨pb0, 0, none⟩))<|lv (J8 rfl)<|lf runUnderlying96 rfl sizeOf3 rfl<|ll 0 (i6 a0.want_) isAgg3<|lv (Y4 rfl rfl)<|mv (.bool (decide (a0.want_ = 0)))<|?_
  revert H33
  refine sp (fun hb H59=>?_) fun hb H60=>?_
  ·refine mv (Jk t11.1)<|lv (V3 rfl rfl)<|pT (.bool (decide (t11.1 = [102, 97, 99, 101])))<|ag (.bool (decide (t11.1 = [102, 97, 99, 101])))<|Jc<|?_
   exact cl (decide (t11.1 = [102, 97, 99, 101])) () 0 [0, 1, 2, 3] (by exact ⟨H59, trivial⟩)
  ·refine pa<|pa<|pF (.bool false)<|ag (.bool false)<|Jc<|?_
   exact cl false () 0 [0, 1, 2, 3] (by exact ⟨H60, trivial⟩)
 ·rintro x18 _ gg H34 _
  try dsimp only at H34
  try dsimp only
  revert H34
  refine ci x18 rfl (fun hb H35=>?_) fun hb H37=>?_
  ·refine Jb<|Ja<|mv (.pointer (some ⟨pb0, 0, none⟩))<|mv (.slice (Yc p.1 (Int.toNat 1) p.2 1) t17.length (p.2 - Int.toNat 1))<|?_
   obtain ⟨t30, h_t30, H36⟩ := Je H35; clear H35
   refine bo 1 2 rfl rfl<|bo 0 1 rfl rfl<|?_
   refine Xl (Qp (i := 0) (rds := [3]) (G := fun x : (Option Addr × Nat) × (Option Addr × Nat) => .bool t30.1) (C := fun x : (Option Addr × Nat) × (Option Addr × Nat) => Q5 (Jp pb0 [.slice x.1.1 t30.2.l_.length x.1.2, .slice x.2.1 t30.2.people_.length x.2.2, i6 t30.2.want_] 96) (Q5 (Jw 38 14 (.slice x.1.1 t30.2.l_.length x.1.2) t30.2.l_.length (t30.2.l_.map Jg)) (Uo 77 4 g_face_Person (.slice x.2.1 t30.2.people_.length x.2.2) t30.2.people_.length t30.2.people_))) rfl (fun w L' S hF hS hi hp hlt ho hA => k120 hp hlt (Q4 w S) hn0_0 (FrS.cutL (Jf7 (j := 3) rfl hA hS (by decide) ((hi 3 (by simp)).trans rfl)) h_t17) (tb_pow10.mono (hw.but hF ho)) h_t30) call120 rfl) rfl rfl rfl (fun ⟨p_2, p_3⟩ => ?_)
   refine ub 0 1 rfl rfl<|ub 1 2 rfl rfl<|ag (.bool t30.1)<|Jc<|Ji<|?_
   obtain rfl := sj H36
   refine bo 1 2 rfl rfl<|bo 0 1 rfl rfl<|?_
   refine Wm (v := .bool t30.1) rfl rfl (Yx (p_2, p_3) (i := 0) rfl rfl (Imp.refl _))
  ·refine Qi (r := r) (σ := Bool) (τ := Unit) (fun s => Xu a0 t11 t17 s) (fun s t => [(0, .pointer (some ⟨pb0, 0, none⟩)), (5, Jk t11.1), (6, Jk t11.2.1), (8, .slice (Yc p.1 (Int.toNat 1) p.2 1) t17.length (p.2 - Int.toNat 1)), (31, .bool s)]) (fun s t => [Jp pb0 [sl p0_0 n0_0, sl p0_1 a0.people_.length, i6 a0.want_] 96, Jw 38 14 (sl p0_0 n0_0) n0_0 (a0.l_.map Jg), Uo 77 4 g_face_Person (sl p0_1 a0.people_.length) a0.people_.length a0.people_, Jw 9 1 (sl p t16.length) t16.length (t16.map Jv)]) (fun s t => True) ?_ ?_
   ·refine Ja<|mv (.pointer (some ⟨pb0, 0, none⟩))<|lv (J8 rfl)<|lf runUnderlying96 rfl sizeOf3 rfl<|ll 0 (i6 a0.want_) isAgg3<|lv (Y4 rfl rfl)<|mv (.bool (decide (a0.want_ = 0)))<|?_
    revert H37
    refine sp (fun hb H55=>?_) fun hb H56=>?_
    ·refine pa<|pa<|pa<|pa<|pa<|pT (.bool true)<|mv (.bool true)<|mv (Jk t11.1)<|lv (V3 rfl rfl)<|pT (.bool (decide (t11.1 = [112, 101, 114, 115, 111, 110])))<|ag (.bool (decide (t11.1 = [112, 101, 114, 115, 111, 110])))<|Jc<|?_
     exact cl (decide (t11.1 = [112, 101, 114, 115, 111, 110])) () 0 [0, 1, 2, 3] (by exact ⟨H55, trivial⟩)
    ·refine mv (.pointer (some ⟨pb0, 0, none⟩))<|lv (J8 rfl)<|lf runUnderlying96 rfl sizeOf3 rfl<|ll 0 (i6 a0.want_) isAgg3<|lv (Y4 rfl rfl)<|pF (.bool (decide (a0.want_ = 3)))<|mv (.bool (decide (a0.want_ = 3)))<|?_
     revert H56
     refine sp (fun hb H57=>?_) fun hb H58=>?_
     ·refine mv (Jk t11.1)<|lv (V3 rfl rfl)<|pT (.bool (decide (t11.1 = [112, 101, 114, 115, 111, 110])))<|ag (.bool (decide (t11.1 = [112, 101, 114, 115, 111, 110])))<|Jc<|?_
      exact cl (decide (t11.1 = [112, 101, 114, 115, 111, 110])) () 0 [0, 1, 2, 3] (by exact ⟨H57, trivial⟩)
     ·refine pa<|pa<|pF (.bool false)<|ag (.bool false)<|Jc<|?_
      exact cl false () 0 [0, 1, 2, 3] (by exact ⟨H58, trivial⟩)
   ·rintro x31 _ gg H38 _
    try dsimp only at H38
    try dsimp only
    revert H38
    refine ci x31 rfl (fun hb H39=>?_) fun hb H41=>?_
    ·refine Jb ?_
     try dsimp only [z1, z2, z5, z6, z7, z8]
     refine Ja<|mv (.pointer (some ⟨pb0, 0, none⟩))<|mv (Jk t11.2.1)<|?_
     obtain ⟨t50, h_t50, H40⟩ := Je H39; clear H39
     refine bo 1 2 rfl rfl<|bo 0 1 rfl rfl<|?_
     refine Xl (Qp (i := 0) (rds := []) (G := fun x : (Option Addr × Nat) × (Option Addr × Nat) => .bool t50.1) (C := fun x : (Option Addr × Nat) × (Option Addr × Nat) => Q5 (Jp pb0 [.slice x.1.1 t50.2.l_.length x.1.2, .slice x.2.1 t50.2.people_.length x.2.2, i6 t50.2.want_] 96) (Q5 (Jw 38 14 (.slice x.1.1 t50.2.l_.length x.1.2) t50.2.l_.length (t50.2.l_.map Jg)) (Uo 77 4 g_face_Person (.slice x.2.1 t50.2.people_.length x.2.2) t50.2.people_.length t50.2.people_))) rfl (fun w L' S hF hS hi hp hlt ho hA => k121 hp hlt (Q4 w S) hn0_0 (tb_pow10.mono (hw.but hF ho)) h_t50) call121 rfl) rfl rfl rfl (fun ⟨p_4, p_5⟩ => ?_)
     refine ub 0 1 rfl rfl<|ub 1 2 rfl rfl<|ag (.bool t50.1)<|Jc<|Ji<|?_
     obtain rfl := sj H40
     refine bo 1 2 rfl rfl<|bo 0 1 rfl rfl<|?_
     refine Wm (v := .bool t50.1) rfl rfl (Yx (p_4, p_5) (i := 0) rfl rfl (Imp.refl _))
    ·refine Jb ?_
     refine Qi (r := r) (σ := Bool) (τ := Unit) (fun s => Xw a0 t11 t17 s) (fun s t => [(0, .pointer (some ⟨pb0, 0, none⟩)), (5, Jk t11.1), (8, .slice (Yc p.1 (Int.toNat 1) p.2 1) t17.length (p.2 - Int.toNat 1)), (51, .bool s)]) (fun s t => [Jp pb0 [sl p0_0 n0_0, sl p0_1 a0.people_.length, i6 a0.want_] 96, Jw 38 14 (sl p0_0 n0_0) n0_0 (a0.l_.map Jg), Uo 77 4 g_face_Person (sl p0_1 a0.people_.length) a0.people_.length a0.people_, Jw 9 1 (sl p t16.length) t16.length (t16.map Jv)]) (fun s t => True) ?_ ?_
     ·refine Ja<|mv (.pointer (some ⟨pb0, 0, none⟩))<|lv (J8 rfl)<|lf runUnderlying96 rfl sizeOf3 rfl<|ll 0 (i6 a0.want_) isAgg3<|lv (Y4 rfl rfl)<|mv (.bool (decide (a0.want_ = 1)))<|?_
      revert H41
      refine sp (fun hb H53=>?_) fun hb H54=>?_
      ·refine mv (Jk t11.1)<|lv (V3 rfl rfl)<|pT (.bool (decide (t11.1 = [108, 105, 107, 101, 115])))<|ag (.bool (decide (t11.1 = [108, 105, 107, 101, 115])))<|Jc<|?_
       exact cl (decide (t11.1 = [108, 105, 107, 101, 115])) () 0 [0, 1, 2, 3] (by exact ⟨H53, trivial⟩)
      ·refine pa<|pa<|pF (.bool false)<|ag (.bool false)<|Jc<|?_
       exact cl false () 0 [0, 1, 2, 3] (by exact ⟨H54, trivial⟩)
     ·rintro x51 _ gg H42 _
      try dsimp only at H42
      try dsimp only
      revert H42
      refine ci x51 rfl (fun hb H43=>?_) fun hb H47=>?_
      ·refine Jj ?_
       revert H43
       refine ci x51 rfl (fun hb H44=>?_) fun hb H46=>?_
       ·refine Jb ?_
        try dsimp only [z1, z2, z5, z6, z7, z8]
        refine Ja<|mv (.pointer (some ⟨pb0, 0, none⟩))<|mv (.slice (Yc p.1 (Int.toNat 1) p.2 1) t17.length (p.2 - Int.toNat 1))<|?_
        obtain ⟨t72, h_t72, H45⟩ := Je H44; clear H44
        refine bo 1 2 rfl rfl<|bo 0 1 rfl rfl<|?_
        refine Xl (Qp (i := 0) (rds := [3]) (G := fun x : (Option Addr × Nat) × (Option Addr × Nat) => .bool t72.1) (C := fun x : (Option Addr × Nat) × (Option Addr × Nat) => Q5 (Jp pb0 [.slice x.1.1 t72.2.l_.length x.1.2, .slice x.2.1 t72.2.people_.length x.2.2, i6 t72.2.want_] 96) (Q5 (Jw 38 14 (.slice x.1.1 t72.2.l_.length x.1.2) t72.2.l_.length (t72.2.l_.map Jg)) (Uo 77 4 g_face_Person (.slice x.2.1 t72.2.people_.length x.2.2) t72.2.people_.length t72.2.people_))) rfl (fun w L' S hF hS hi hp hlt ho hA => k122 hp hlt (Q4 w S) hn0_0 (FrS.cutL (Jf7 (j := 3) rfl hA hS (by decide) ((hi 3 (by simp)).trans rfl)) h_t17) (tb_pow10.mono (hw.but hF ho)) h_t72) call122 rfl) rfl rfl rfl (fun ⟨p_6, p_7⟩ => ?_)
        refine ub 0 1 rfl rfl<|ub 1 2 rfl rfl<|ag (.bool t72.1)<|Jc<|Ji<|?_
        obtain rfl := sj H45
        refine bo 1 2 rfl rfl<|bo 0 1 rfl rfl<|?_
        refine Wm (v := .bool t72.1) rfl rfl (Yx (p_6, p_7) (i := 0) rfl rfl (Imp.refl _))
       ·refine Jj<|Jb<|?_
        try dsimp only [z1, z2, z5, z6, z7, z8]
        refine Ja<|ag (.bool false)<|Jc<|Ji<|?_
        obtain rfl := sj H46
        refine bo 1 2 rfl rfl<|bo 0 1 rfl rfl<|?_
        refine Wm (v := .bool false) rfl rfl (Yx (p0_0, p0_1) (i := 0) rfl (by first | rfl | rw [(show n0_0 = a0.l_.length from hn0_0)]) (by first | exact Imp.refl _ | exact Imp.of (by rw [(show n0_0 = a0.l_.length from hn0_0)] <;> rfl)))
      ·refine Ja<|mv (.pointer (some ⟨pb0, 0, none⟩))<|lv (J8 rfl)<|lf runUnderlying96 rfl sizeOf3 rfl<|ll 0 (i6 a0.want_) isAgg3<|lv (Y4 rfl rfl)<|mv (.bool (decide (a0.want_ = 2)))<|?_
       revert H47
       refine sp (fun hb H48=>?_) fun hb H52=>?_
       ·refine mv (Jk t11.1)<|lv (V3 rfl rfl)<|pT (.bool (decide (t11.1 = [110, 111, 116, 115])))<|ag (.bool (decide (t11.1 = [110, 111, 116, 115])))<|Jc<|?_
        revert H48
        refine ci (decide (t11.1 = [110, 111, 116, 115])) rfl (fun hb H49=>?_) fun hb H51=>?_
        ·refine Jb<|Ja<|mv (.pointer (some ⟨pb0, 0, none⟩))<|mv (.slice (Yc p.1 (Int.toNat 1) p.2 1) t17.length (p.2 - Int.toNat 1))<|?_
         obtain ⟨t72_2, h_t72_2, H50⟩ := Je H49; clear H49
         refine bo 1 2 rfl rfl<|bo 0 1 rfl rfl<|?_
         refine Xl (Qp (i := 0) (rds := [3]) (G := fun x : (Option Addr × Nat) × (Option Addr × Nat) => .bool t72_2.1) (C := fun x : (Option Addr × Nat) × (Option Addr × Nat) => Q5 (Jp pb0 [.slice x.1.1 t72_2.2.l_.length x.1.2, .slice x.2.1 t72_2.2.people_.length x.2.2, i6 t72_2.2.want_] 96) (Q5 (Jw 38 14 (.slice x.1.1 t72_2.2.l_.length x.1.2) t72_2.2.l_.length (t72_2.2.l_.map Jg)) (Uo 77 4 g_face_Person (.slice x.2.1 t72_2.2.people_.length x.2.2) t72_2.2.people_.length t72_2.2.people_))) rfl (fun w L' S hF hS hi hp hlt ho hA => k122 hp hlt (Q4 w S) hn0_0 (FrS.cutL (Jf7 (j := 3) rfl hA hS (by decide) ((hi 3 (by simp)).trans rfl)) h_t17) (tb_pow10.mono (hw.but hF ho)) h_t72_2) call122 rfl) rfl rfl rfl (fun ⟨p_8, p_9⟩ => ?_)
         refine ub 0 1 rfl rfl<|ub 1 2 rfl rfl<|ag (.bool t72_2.1)<|Jc<|Ji<|?_
         obtain rfl := sj H50
         refine bo 1 2 rfl rfl<|bo 0 1 rfl rfl<|?_
         refine Wm (v := .bool t72_2.1) rfl rfl (Yx (p_8, p_9) (i := 0) rfl rfl (Imp.refl _))
        ·refine Jj<|Jb<|?_
         try dsimp only [z1, z2, z5, z6, z7, z8]
         refine Ja<|ag (.bool false)<|Jc<|Ji<|?_
         obtain rfl := sj H51
         refine bo 1 2 rfl rfl<|bo 0 1 rfl rfl<|?_
         refine Wm (v := .bool false) rfl rfl (Yx (p0_0, p0_1) (i := 0) rfl (by first | rfl | rw [(show n0_0 = a0.l_.length from hn0_0)]) (by first | exact Imp.refl _ | exact Imp.of (by rw [(show n0_0 = a0.l_.length from hn0_0)] <;> rfl)))
       ·refine pa<|pa<|pF (.bool false)<|ag (.bool false)<|Jc<|Zf rfl<|Jj<|Jb<|Ja<|ag (.bool false)<|Jc<|Ji<|?_
        obtain rfl := sj H52
        refine bo 1 2 rfl rfl<|bo 0 1 rfl rfl<|?_
        refine Wm (v := .bool false) rfl rfl (Yx (p0_0, p0_1) (i := 0) rfl (by first | rfl | rw [(show n0_0 = a0.l_.length from hn0_0)]) (by first | exact Imp.refl _ | exact Imp.of (by rw [(show n0_0 = a0.l_.length from hn0_0)] <;> rfl)))
theorem k41 {a0 : (List UInt8)} {a1 : (List UInt8)} {r : (List (List UInt8))} {w : World} {h : Jt} (hw : Know h w Yt) (H : Wf a0 a1 = some r) : Does prog 41 (List.toArray [Jk a0, Jk a1]) w (fun v w' => ∃ x : (Option Addr × Nat), v = (sl x r.length) ∧ Turn w w' Yt (Jw 9 1 (sl x r.length) r.length (r.map Jv))) := by
 refine enter (n := 10) func41 rfl rfl rfl Yt [] (Sat.nil _ _)<|Jb<|Ja<|ag (.slice none 0 0)<|Jc<|Jb<|Ja<|mv (Jk a0)<|mv (Jk a1)<|mv (Jk a1)<|lv (Q2 underlying9 rfl)<|?_
 obtain ⟨t9, h_t9, H2⟩ := Je H; clear H
 refine Zr (Ye (rds := []) (G := fun x : (Option Addr × Nat) => sl x t9.length) (C := fun x : (Option Addr × Nat) => Jw 9 1 (sl x t9.length) t9.length (t9.map Jv)) (fun w L' hF hS hi => k123 (Jr w)  h_t9) call123 rfl) rfl rfl rfl (fun p => ?_)
 refine ag (sl p t9.length)<|Jc<|Ji<|?_
 obtain rfl := sj H2
 refine Wm (v := sl p t9.length) rfl rfl (Yx p (i := 0) rfl rfl (Imp.refl _))
end Go.Proofs.YtlkaenijicgfcaaGreatDoor
