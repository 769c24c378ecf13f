/- FaceChanges, what the others share: the walks, printed by our generator; each follows its model. Conditions: the model yields a value. -/
import Derived.Test.YthhaabhnlndnoaaGreatMFh
import Derived.Test.YthhaabhnlndnoaaGreatProg
import Derived.Test.YthhaabhnlndnoaaGreatSrt
import Derived.Test.YthhaabhnlndnoaaGreatLx
import Derived.Test.YthhaabhnlndnoaaGreatLx19
import Derived.Test.YthhaabhnlndnoaaGreatFpC
namespace Go.Proofs.YthhaabhnlndnoaaGreat
open Go Go.Vc Go.Md Go.M Go.Lx
set_option maxRecDepth 100000
set_option maxHeartbeats 4000000
set_option linter.unusedVariables false
theorem mixed : Tryz.prog.follows .mixedOrders = true := by kernel_rfl
abbrev Jl (x : Int) : List Value := [i6 x]
abbrev Jq (x : T_face_Likeness) : List Value := [i6 x.Id, i6 x.Photo, i6 (x.Vec 0), i6 (x.Vec 1), i6 (x.Vec 2), i6 (x.Vec 3), i6 (x.Vec 4), i6 (x.Vec 5), i6 (x.Vec 6), i6 (x.Vec 7), i6 (x.Vec 8), i6 (x.Vec 9), i6 (x.Vec 10), i6 (x.Vec 11)]
def Ui (m : (Int → Option (Bool))) (w : World) (args : List Value) (post : Value → World → Prop) : Prop :=
  ∃ (a0 : Int) (r : Bool), args = [i6 a0] ∧ m a0 = some r ∧ post = fun v' w' => v' = (.bool r) ∧ Grow w w'
abbrev e_u8 (x : Int) : List Value := [.int .u8 x]
def Jbx (m : (Int → Option (Bool))) (w : World) (args : List Value) (post : Value → World → Prop) : Prop :=
  ∃ (a0 : Int) (r : Bool), args = [.int .u8 a0] ∧ m a0 = some r ∧ post = fun v' w' => v' = (.bool r) ∧ Grow w w'
def V0 (m : (T_face_Likeness → Int → Option (Int))) (w : World) (args : List Value) (post : Value → World → Prop) : Prop :=
  ∃ (a0 : T_face_Likeness) (a1 : Int) (r : Int), args = [.agg #[i6 a0.Id, i6 a0.Photo, i6 (a0.Vec 0), i6 (a0.Vec 1), i6 (a0.Vec 2), i6 (a0.Vec 3), i6 (a0.Vec 4), i6 (a0.Vec 5), i6 (a0.Vec 6), i6 (a0.Vec 7), i6 (a0.Vec 8), i6 (a0.Vec 9), i6 (a0.Vec 10), i6 (a0.Vec 11)], i6 a1] ∧ m a0 a1 = some r ∧ post = fun v' w' => v' = (i6 r) ∧ Grow w w'
def Vl (m : (T_face_Likeness → Option (Bool))) (w : World) (args : List Value) (post : Value → World → Prop) : Prop :=
  ∃ (a0 : T_face_Likeness) (r : Bool), args = [.agg #[i6 a0.Id, i6 a0.Photo, i6 (a0.Vec 0), i6 (a0.Vec 1), i6 (a0.Vec 2), i6 (a0.Vec 3), i6 (a0.Vec 4), i6 (a0.Vec 5), i6 (a0.Vec 6), i6 (a0.Vec 7), i6 (a0.Vec 8), i6 (a0.Vec 9), i6 (a0.Vec 10), i6 (a0.Vec 11)]] ∧ m a0 = some r ∧ post = fun v' w' => v' = (.bool r) ∧ Grow w w'
def Jbv (m : (T_face_Person → Option (Bool))) (w : World) (args : List Value) (post : Value → World → Prop) : Prop :=
  ∃ (a0 : T_face_Person) (v0_2 : Value) (v0_3 : Value) (r : Bool), FrS (fun b => w.heap[b]?) 1 v0_2 (a0.Likes.map Jl) ∧ FrS (fun b => w.heap[b]?) 1 v0_3 (a0.Nots.map Jl) ∧ args = [.agg #[i6 a0.Id, Xt a0.Name, v0_2, v0_3]] ∧ m a0 = some r ∧ post = fun v' w' => v' = (.bool r) ∧ Grow w w'
abbrev Jo (x : T_face_Match) : List Value := [i6 x.Person, i6 x.Far]
abbrev Zj (x : T_face_offer) : List Value := [i6 x.id_, i6 x.person_, i6 x.far_]
def Wi (m : (T_face_Person → Int → Option (Int))) (w : World) (args : List Value) (post : Value → World → Prop) : Prop :=
  ∃ (a0 : T_face_Person) (v0_2 : Value) (v0_3 : Value) (a1 : Int) (r : Int), FrS (fun b => w.heap[b]?) 1 v0_2 (a0.Likes.map Jl) ∧ FrS (fun b => w.heap[b]?) 1 v0_3 (a0.Nots.map Jl) ∧ args = [.agg #[i6 a0.Id, Xt a0.Name, v0_2, v0_3], i6 a1] ∧ m a0 a1 = some r ∧ post = fun v' w' => v' = (i6 r) ∧ Grow w w'
def Wd (m : (T_face_Person → T_face_Person → Option (Bool))) (w : World) (args : List Value) (post : Value → World → Prop) : Prop :=
  ∃ (a0 : T_face_Person) (v0_2 : Value) (v0_3 : Value) (a1 : T_face_Person) (v1_2 : Value) (v1_3 : Value) (r : Bool), FrS (fun b => w.heap[b]?) 1 v0_2 (a0.Likes.map Jl) ∧ FrS (fun b => w.heap[b]?) 1 v0_3 (a0.Nots.map Jl) ∧ FrS (fun b => w.heap[b]?) 1 v1_2 (a1.Likes.map Jl) ∧ FrS (fun b => w.heap[b]?) 1 v1_3 (a1.Nots.map Jl) ∧ args = [.agg #[i6 a0.Id, Xt a0.Name, v0_2, v0_3], .agg #[i6 a1.Id, Xt a1.Name, v1_2, v1_3]] ∧ m a0 a1 = some r ∧ post = fun v' w' => v' = (.bool r) ∧ Grow w w'
def Qn (m : (T_face_Match → T_face_Match → Option (Int))) (w : World) (args : List Value) (post : Value → World → Prop) : Prop :=
  ∃ (a0 : T_face_Match) (a1 : T_face_Match) (r : Int), args = [.agg #[i6 a0.Person, i6 a0.Far], .agg #[i6 a1.Person, i6 a1.Far]] ∧ m a0 a1 = some r ∧ post = fun v' w' => v' = (i6 r) ∧ Grow w w'
abbrev Yb (x : T_tintref2_pair) : List Value := [i6 x.far_, i6 x.like_, i6 x.person_]
def gs_int (h : Qg) (c : Nat → Value) (x : (List Int)) : Prop := FrS h 1 (c 0) (x.map Jl)
instance : Mon gs_int := ⟨fun k _ _ f => FrS.mono f k⟩
theorem cgs_int {h : Qg} {c : Nat → Value} {x : (List Int)} (_ : gs_int h c x) : (List.range 1).map c = [c 0] := rfl
def g_face_Person (h : Qg) (c : Nat → Value) (x : T_face_Person) : Prop := c 0 = i6 x.Id ∧ c 1 = Xt x.Name ∧ gs_int h (fun j => c (2 + j)) x.Likes ∧ gs_int h (fun j => c (3 + j)) x.Nots
instance : Mon g_face_Person := ⟨fun k _ _ f => by obtain ⟨h0, h1, h2, h3⟩ := f; exact ⟨h0, h1, Mon.mono k _ _ h2, Mon.mono k _ _ h3⟩⟩
theorem J1 {h : Qg} {c : Nat → Value} {x : T_face_Person} (f : g_face_Person h c x) : (List.range 4).map c = [i6 x.Id, Xt x.Name, c 2, c 3] := by
  obtain ⟨h0, h1, h2, h3⟩ := f
  show [c 0, c 1, c 2, c 3] = _
  simp only [h0, h1]
theorem Jm {h : Qg} {c : Nat → Value} {x : T_face_Person} (f : g_face_Person h c x) : gs_int h (fun j => c (2 + j)) x.Likes := by
  obtain ⟨h0, h1, h2, h3⟩ := f; exact h2
theorem Jt {h : Qg} {c : Nat → Value} {x : T_face_Person} (f : g_face_Person h c x) : gs_int h (fun j => c (3 + j)) x.Nots := by
  obtain ⟨h0, h1, h2, h3⟩ := f; exact h3
theorem k25 {a0 : Int} {a1 : Int} {a2 : Int} {r : Bool} (H : V8 a0 a1 a2 = some r) : Ret Tryz.prog 25 [i6 a0, i6 a1, i6 a2] (.bool r) := by
 refine Vr (n := 15) Tryz.func25 rfl rfl rfl (fun wd => ?_)
 refine Jc<|Ja<|ag (.bool false)<|Jd<|Jc<|Ja<|mv (i6 a0)<|mv (i6 a1)<|Jf rfl rfl rfl (Q0 rfl rfl)<|mv (.bool (decide (a0 < a1)))<|?_
 refine split (fun hb => ?_) (fun hb => ?_)
 ·have H3 := Jw hb H; clear H
  refine pa<|pa<|pa<|Jf rfl rfl rfl (Q5 (v := .bool true) rfl rfl)<|ag (.bool true)<|Jd<|Jy<|?_
  obtain rfl := Option.some.inj H3
  refine Qw (v := .bool true) rfl rfl (Yz rfl)
 ·have H4 := Jx hb H; clear H
  refine mv (i6 a0)<|mv (i6 a2)<|Jf rfl rfl rfl (Jaz rfl rfl)<|Jf rfl rfl rfl (Qr (v := .bool (decide (a2 < a0))) rfl rfl)<|ag (.bool (decide (a2 < a0)))<|Jd<|Jy<|?_
  obtain rfl := Option.some.inj H4
  refine Qw (v := .bool (decide (a2 < a0))) rfl rfl (Yz rfl)
theorem k126 {n : Int} {u : Nat} (hg : gGroC 8 n = some u) (w : World) : Does Tryz.prog 126 (List.toArray [.slice none 0 0, i6 n]) w (fun v w' => ∃ p : Option Addr × Nat, v = sl p 0 ∧ Turn w w' Yl (rowC 3 1 (sl p 0) 0 [] u)) := by
  obtain ⟨rfl, h0, h1, h2⟩ := gGroC_some hg
  obtain ⟨m, rfl⟩ : ∃ m : Nat, n = (m : Int) := ⟨n.toNat, (Int.toNat_of_nonneg h0).symm⟩
  rw [Int.toNat_natCast] at h2 ⊢
  refine enter (n := 27) Tryz.func126 rfl rfl rfl Yl [] (Sat.nil _ _)<|Jc<|Ja<|ag (.slice none 0 0)<|Jd<|Jc<|Jc<|Ja<|mv (i6 (m : Int))<|Jf rfl rfl rfl (r_decF (Q0 rfl rfl) (by omega))<|Jd<|Wq rfl<|Jv<|Jc<|Jc<|Ja<|mv (i6 (m : Int))<|mv (.slice none 0 0)<|Jf rfl rfl rfl (r_cap (c := 0) Tryz.underlying24 rfl)<|mv (.slice none 0 0)<|Jf rfl rfl rfl (Jaw (m := 0) Tryz.underlying24 rfl)<|Jf rfl rfl rfl (Zl (z := 0) rfl rfl (by decide))<|Jf rfl rfl rfl (Zl (z := (m : Int)) rfl rfl (by rw [Int.sub_zero]; exact Qi (by omega)))<|ag (i6 (m : Int))<|Jd<|Jc<|Ja<|mv (i6 (m : Int))<|?_
  rcases Nat.eq_zero_or_pos m with hm | hm
  · refine Jf rfl rfl rfl (r_decF (Jaz rfl rfl) (by omega)) ?_
    refine Jd<|Wq rfl<|Jv<|Jc<|Ja<|mv (.slice none 0 0)<|ag (.slice none 0 0)<|Jd<|Jy<|?_
    subst hm
    refine Q9 3 1<|Xc 0 rfl (imp_C0 3 1 _)<|?_
    exact Qw (v := .slice none 0 0) rfl rfl (Zb nn (i := 0) rfl rfl (Imp.refl _))
  · refine Jf rfl rfl rfl (r_decT (Jaz rfl rfl) (by omega)) ?_
    refine Jd<|c_true rfl<|Ja<|mv (.slice none 0 0)<|mv (.slice none 0 0)<|Jf rfl rfl rfl (r_cap (c := 0) Tryz.underlying24 rfl)<|Jf rfl rfl rfl (r_sliceH (a := none) (m := 0) (c := 0) (h := 0) Tryz.underlying24 Tryz.sizeOf3 rfl rfl (by decide) (by decide))<|mv (i6 (m : Int))<|?_
    refine Yk (rds := []) (makes_zerosC (E := 3) (sz := 1) (by_ := 8) (m := m) Tryz.underlying24 Tryz.underlying3 (We Tryz.typeInfo3) rfl rfl rfl rfl rfl rfl rfl hm (by omega) h2) rfl rfl rfl (fun ⟨g0, c0⟩ => ?_)
    refine mv (.slice none 0 0)<|Jf rfl rfl rfl (Jaw (m := 0) Tryz.underlying24 rfl)<|Jf rfl rfl rfl (r_sliceH0 (g0 := g0) (c := c0) Tryz.underlying24 Tryz.sizeOf3 rfl rfl)<|ag (.slice (some ⟨g0, 0, none⟩) 0 c0)<|Jd<|Jc<|Ja<|mv (.slice (some ⟨g0, 0, none⟩) 0 c0)<|ag (.slice (some ⟨g0, 0, none⟩) 0 c0)<|Jd<|Jy<|?_
    exact Qw (v := .slice (some ⟨g0, 0, none⟩) 0 c0) rfl rfl (Zb ((some ⟨g0, 0, none⟩, c0) : Option Addr × Nat) (i := 0) rfl rfl (Imp.refl _))
theorem k85 {a0 : (List (List Int))} {v0 : Value} {r : (List Int)} {w : World} {h : Qg} (hw : Know h w Yl) (f0 : FrN h 1 v0 gs_int a0) (H : Jay a0 = some r) : Does Tryz.prog 85 (List.toArray [v0]) w (fun v w' => ∃ x : (Option Addr × Nat), v = (sl x r.length) ∧ Turn w w' Yl (J5 3 1 (sl x r.length) r.length (r.map Jl))) := by
 refine enter (n := 36) Tryz.func85 rfl rfl rfl Yl [] (Sat.nil _ _)<|Jc<|Ja<|ag (.slice none 0 0)<|Jd<|Jc<|Ja<|ag (i6 0)<|Jd<|?_
 refine Xf (r := r) (σ := Int) (τ := Unit) (fun s => Ja5 a0 s) (fun s t => [(0, v0), (3, i6 s)]) (fun s t => []) (fun s t => True) ?_ ?_
 ·refine Jc<|Ja<|mv v0<|Jf rfl rfl rfl (Uh Tryz.underlying81 rfl f0)<|mv (i6 0)<|Jd<|Ju<|?_
  refine X6 (σ := Int × Int) (τ := Unit) (fun next3 s => Xx a0 next3 s.1 s.2) (fun s t => [(0, v0), (3, i6 s.1), (9, v0), (10, i6 (a0.length : Int)), (11, i6 s.2)]) (fun s t => []) (fun s t => True) (0, 0) () [] H (by exact trivial) (by exact ⟨rfl, rfl, rfl, rfl, rfl, trivial⟩) (by decide) rfl ?_
  rintro ⟨x3_3, x11_2⟩ _ m3 gg H25 _
  clear H
  try dsimp only at H25
  generalize hn3 : it (fun next3 s => Xx a0 next3 s.1 s.2) m3 = next3 at H25
  try dsimp only
  refine Jc<|Ja<|Jf rfl rfl rfl (Q0 rfl rfl)<|Jd<|Jc<|?_
  refine Qm (b := (decide (x11_2 < (a0.length : Int)))) rfl (fun hb => ?_) (fun hb => ?_)
  ·have H26 := Jw hb H25; clear H25
   refine Jv<|Jc<|Ju<|Jc<|Ja<|?_
   obtain ⟨t13, h_t13, H27⟩ := Je H26; clear H26
   refine Jf rfl rfl rfl (Qe Tryz.underlying81 Tryz.sizeOf24 rfl rfl f0.frs (f0.ix h_t13))<|J9 (fun w hF hS => J2 (f := (elC h v0 1)) (i := x11_2) (sz := 1) (j := 0) (v := (Qu h v0 1 (Int.toNat x11_2) 0)) Tryz.isAgg24 rfl rfl (f0.frs.row (hw.now hF)) (f0.ix h_t13) (V4 (cgs_int (f0.at h_t13)) rfl)) rfl rfl rfl<|ag ((Qu h v0 1 (Int.toNat x11_2) 0))<|Jd<|Jc<|Ja<|mv (i6 x3_3)<|mv ((Qu h v0 1 (Int.toNat x11_2) 0))<|Jf rfl rfl rfl (Y0 Tryz.underlying24 rfl (show FrS h 1 (Qu h v0 1 (Int.toNat x11_2) 0) (t13.map Jl) from (f0.at h_t13)) rfl)<|?_
   obtain ⟨t18, h_t18, H28⟩ := Je H27; clear H27
   refine Jf rfl rfl rfl (Qp rfl rfl h_t18)<|ag (i6 t18)<|Jd<|Jc<|Ja<|mv (i6 t18)<|Jf rfl rfl rfl (Q0 rfl rfl)<|Jd<|?_
   refine Qm (b := (decide (t18 < 0))) rfl (fun hb => ?_) (fun hb => ?_)
   ·have H29 := Jw hb H28; clear H28
    exact absurd (show (none : Option ((List Int))) = some r from H29) (fun h => by cases h)
   ·have H30 := Jx hb H28; clear H28
    refine Jv<|Ja<|?_
    obtain ⟨t22, h_t22, H31⟩ := Je H30; clear H30
    refine Jf rfl rfl rfl (Qp rfl rfl h_t22)<|mv (i6 t22)<|Jd<|?_
    refine Js (t18, t22) () m3 [] (by exact ⟨rfl, rfl, rfl, rfl, rfl, trivial⟩) (by decide) rfl (by exact ⟨(by subst hn3; exact H31), trivial⟩) (Nat.lt_succ_self _)
  ·have H32 := Jx hb H25; clear H25
   refine Q3 ?_
   refine Js x3_3 () 0 [] (by exact ⟨rfl, rfl, trivial⟩) (by decide) rfl (by exact ⟨H32, trivial⟩) (Nat.lt_succ_self _)
 ·rintro x3 _ gg H17 _
  try dsimp only at H17
  try dsimp only
  refine Jc<|Ja<|mv (i6 x3)<|?_
  obtain ⟨u24, h_u24, H18⟩ := Je H17; clear H17
  refine Yk (J8 (rds := []) (G := fun x : (Option Addr × Nat) => sl x ([] : List Int).length) (C := fun x : (Option Addr × Nat) => rowC 3 1 (sl x ([] : List Int).length) ([] : List Int).length (([] : List Int).map Jl) u24) (fun w L' hF hS hi => k126 h_u24 w) Tryz.call126 rfl) rfl rfl rfl (fun p => ?_)
  refine ag (sl p ([] : List Int).length)<|Jd<|Jc<|Jc<|Ja<|mv v0<|Jf rfl rfl rfl (Uh Tryz.underlying81 rfl f0)<|mv (i6 0)<|Jd<|Ju<|?_
  refine X6 (σ := Int × (List Int)) (τ := (Option Addr × Nat)) (fun next2 s => Xy a0 u24 next2 s.1 s.2) (fun s t => [(6, sl t s.2.length), (25, v0), (26, i6 (a0.length : Int)), (27, i6 s.1)]) (fun s t => [rowC 3 1 (sl t s.2.length) s.2.length (s.2.map Jl) u24]) (fun s t => True) (0, ([] : List Int)) p [0] H18 (by exact trivial) (by exact ⟨rfl, rfl, rfl, rfl, trivial⟩) (by decide) rfl ?_
  rintro ⟨x27_2, l_2⟩ p_2 m2 gg H19 _
  clear H18
  try dsimp only at H19
  generalize hn2 : it (fun next2 s => Xy a0 u24 next2 s.1 s.2) m2 = next2 at H19
  try dsimp only
  refine Jc<|Ja<|Jf rfl rfl rfl (Q0 rfl rfl)<|Jd<|Jc<|?_
  refine Qm (b := (decide (x27_2 < (a0.length : Int)))) rfl (fun hb => ?_) (fun hb => ?_)
  ·have H20 := Jw hb H19; clear H19
   refine Jv<|Jc<|Ju<|Jc<|Ja<|?_
   obtain ⟨t29, h_t29, H21⟩ := Je H20; clear H20
   refine Jf rfl rfl rfl (Qe Tryz.underlying81 Tryz.sizeOf24 rfl rfl f0.frs (f0.ix h_t29))<|J9 (fun w hF hS => J2 (f := (elC h v0 1)) (i := x27_2) (sz := 1) (j := 0) (v := (Qu h v0 1 (Int.toNat x27_2) 0)) Tryz.isAgg24 rfl rfl (f0.frs.row (hw.now hF)) (f0.ix h_t29) (V4 (cgs_int (f0.at h_t29)) rfl)) rfl rfl rfl<|ag ((Qu h v0 1 (Int.toNat x27_2) 0))<|Jd<|Ja<|mv (sl p_2 l_2.length)<|mv ((Qu h v0 1 (Int.toNat x27_2) 0))<|?_
   obtain ⟨l33, h_l33, H22⟩ := Je H21; clear H21
   refine Y7 (turns_appC (i := 0) (hn := rfl) (rds := []) (p := p_2) (sz := 1) (by_ := 8) (f := Jl) (ys := l_2) (ls := t29) (V := (Qu h v0 1 (Int.toNat x27_2) 0)) Tryz.underlying24 (We Tryz.typeInfo3) rfl rfl rfl rfl rfl rfl rfl rfl (show FrS h 1 (Qu h v0 1 (Int.toNat x27_2) 0) (t29.map Jl) from (f0.at h_t29)).eq (List.length_map _) (fun w L' hF hS hi => ((show FrS h 1 (Qu h v0 1 (Int.toNat x27_2) 0) (t29.map Jl) from (f0.at h_t29))).row (hw.now hF)) (fun _ => rfl) (fun _ => rfl) h_l33) rfl rfl rfl (fun p_3 => ?_)
   refine ag (sl p_3 l33.length)<|Jd<|Ja<|?_
   obtain ⟨t34, h_t34, H23⟩ := Je H22; clear H22
   refine Jf rfl rfl rfl (Qp rfl rfl h_t34)<|mv (i6 t34)<|Jd<|?_
   refine Js (t34, l33) p_3 m2 [0] (by exact ⟨rfl, rfl, rfl, rfl, trivial⟩) (by decide) rfl (by exact ⟨(by subst hn2; exact H23), trivial⟩) (Nat.lt_succ_self _)
  ·have H24 := Jx hb H19; clear H19
   refine Q3<|Jc<|Ja<|mv (sl p_2 l_2.length)<|ag (sl p_2 l_2.length)<|Jd<|Jy<|?_
   obtain rfl := Option.some.inj H24
   refine Xc 0 rfl (imp_rowC _ _ _ _ _ _) ?_
   refine Qw (v := sl p_2 l_2.length) rfl rfl (Zb p_2 (i := 0) rfl rfl (Imp.refl _))
theorem k86 {a0 : (List Int)} {p0 : Option Addr × Nat} {n0 : Nat} {r : (List Int)} {w : World} {h : Qg} {S : Nat → Prop} (hcs : (J5 3 1 (sl p0 n0) n0 (a0.map Jl)).P S w) (hlt : ∀ b, S b → b < w.heap.size) (_ : Know h w S) (hn0 : n0 = a0.length) (H : gSortI a0 = some r) : Does Tryz.prog 86 (List.toArray [sl p0 n0]) w (fun v w' => ∃ x : Unit, v = (.tuple #[]) ∧ Turn w w' S (J5 3 1 (sl p0 n0) n0 (r.map Jl))) :=
  sort_ints (ρ := Go.Proofs.Tryz.lays189_ren) Go.Proofs.Tryz.lays189 hcs hlt hn0 H
theorem k87 {a : Option Addr} {n c : Nat} (hc : n ≤ c) : Ret Tryz.prog 87 [.slice a n c] (.slice (Za a 0 n 1) n n) := by
  refine Vr (n := 9) Tryz.func87 rfl rfl rfl (fun wd => ?_)
  refine Jc<|Ja<|ag (.slice none 0 0)<|Jd<|Jc<|Ja<|mv (.slice a n c)<|mv (.slice a n c)<|Jf rfl rfl rfl (Jaw Tryz.underlying24 rfl)<|mv (.slice a n c)<|Jf rfl rfl rfl (Jaw Tryz.underlying24 rfl)<|Jf rfl rfl rfl (r_sliceHM (a := a) (m := n) (c := c) (h := (n : Int)) (q := (n : Int)) Tryz.underlying24 Tryz.sizeOf3 rfl rfl rfl (Int.natCast_nonneg n) (Int.le_refl _) (Int.ofNat_le.2 hc))<|ag (.slice (Za a 0 n 1) n n)<|Jd<|Jy<|?_
  exact Qw (v := .slice (Za a 0 n 1) n n) rfl rfl (Yz rfl)
theorem k88 {a0 : List Int} {p0 : Option Addr × Nat} {n0 : Nat} {r : List Int} {w : World} {h : Qg} {S : Nat → Prop} (hcs : (J5 3 1 (sl p0 n0) n0 (a0.map Jl)).P S w) (hlt : ∀ b, S b → b < w.heap.size) (_ : Know h w S) (hn0 : n0 = a0.length) (H : gCmpI a0 = some r) : Does Tryz.prog 88 (List.toArray [sl p0 n0]) w (fun v w' => ∃ x : (Option Addr × Nat), v = (sl x r.length) ∧ Turn w w' S (J5 3 1 (sl x r.length) r.length (r.map Jl))) :=
  compact_ints (ρ := Go.Proofs.Tryz.laysNm220_ren) Go.Proofs.Tryz.laysNm220 hcs hlt hn0 H
theorem k36 {a0 : (List Int)} {v0 : Value} {a1 : (List Int)} {v1 : Value} {r : (List Int)} {w : World} {h : Qg} (hw : Know h w Yl) (f0 : FrS h 1 v0 (a0.map Jl)) (f1 : FrS h 1 v1 (a1.map Jl)) (H : Jh a0 a1 = some r) : Does Tryz.prog 36 (List.toArray [v0, v1]) w (fun v w' => ∃ x : (Option Addr × Nat), v = (sl x r.length) ∧ Turn w w' Yl (roV 1 (sl x r.length) r.length (r.map Jl))) := by
 refine enter (n := 15) Tryz.func36 rfl rfl rfl Yl [] (Sat.nil _ _)<|Jc<|Ja<|ag (.slice none 0 0)<|Jd<|Jc<|Ja<|mv v0<|mv v1<|?_
 refine Z0 (vs := [v0, v1]) (cs := [v0, v1]) Tryz.underlying81 Tryz.sizeOf24 Tryz.zeroValue24 rfl rfl rfl rfl (by simp only [List.all_cons, List.all_nil, cells_sz f0.cells, cells_sz f1.cells] <;> rfl) rfl (by simp only [List.flatMap_cons, List.flatMap_nil, f0.cells, f1.cells] <;> rfl) (fun b2 => ?_)
 obtain ⟨t9, h_t9, H7⟩ := Je H; clear H
 refine Yk (J8 (rds := [0]) (G := fun x : (Option Addr × Nat) => sl x t9.length) (C := fun x : (Option Addr × Nat) => J5 3 1 (sl x t9.length) t9.length (t9.map Jl)) (fun w L' hF hS hi => k85 (Jp w) (frn_box (G := gs_int) (sz := 1) (xs := ([a0, a1] : List (List Int))) (i := 0) hS ((hi 0 (by simp)).trans rfl) rfl rfl rfl ⟨(f0.mono (hw.now hF)), (f1.mono (hw.now hF)), rfl⟩) h_t9) Tryz.call85 rfl) rfl rfl rfl (fun p => ?_)
 refine ag (sl p t9.length)<|Jd<|Jc<|Ja<|mv (sl p t9.length)<|?_
 obtain ⟨t11, h_t11, H8⟩ := Je H7; clear H7
 refine Y7 (Xj (i := 1) (rds := []) (G := fun x : Unit => .tuple #[]) (C := fun x : Unit => J5 3 1 (sl p t9.length) t9.length (t11.map Jl)) rfl (fun w L' S hF hS hi hp hlt ho hA => k86 hp hlt (Y4 w S) rfl h_t11) Tryz.call86 rfl) rfl rfl rfl (fun _ => ?_)
 refine Zq (fun w hF hS => lenOf (i := 1) hS rfl) (fun hl_ => ?_)
 have hl : t9.length = t11.length := by simpa using hl_.symm
 refine Jd<|Jc<|Ja<|mv (sl p t9.length)<|?_
 obtain ⟨t13, h_t13, H9⟩ := Je H8; clear H8
 refine Y7 (Xj (i := 1) (rds := []) (G := fun x : (Option Addr × Nat) => sl x t13.length) (C := fun x : (Option Addr × Nat) => J5 3 1 (sl x t13.length) t13.length (t13.map Jl)) rfl (fun w L' S hF hS hi hp hlt ho hA => k88 hp hlt (Y4 w S) hl h_t13) Tryz.call88 rfl) rfl rfl rfl (fun p_2 => ?_)
 refine Qf (fun w hF hS => k87 (capOf (i := 1) hS rfl) w) Tryz.call87 rfl rfl rfl<|ag (.slice (Za p_2.1 0 t13.length 1) t13.length t13.length)<|Jd<|Jy<|?_
 obtain rfl := Option.some.inj H9
 refine Xc 1 rfl (imp_clipO _ _ _ _ _ _) ?_
 refine Qw (v := .slice (Za p_2.1 0 t13.length 1) t13.length t13.length) rfl rfl (Zb (Za p_2.1 0 t13.length 1, t13.length) (i := 1) rfl rfl (Imp.refl _))
theorem k89 {a0 : (Nat → Int)} {r : Int} (H : Jc6 a0 = some r) : Ret Tryz.prog 89 [.agg #[i6 (a0 0), i6 (a0 1), i6 (a0 2), i6 (a0 3), i6 (a0 4), i6 (a0 5), i6 (a0 6), i6 (a0 7), i6 (a0 8), i6 (a0 9), i6 (a0 10), i6 (a0 11)]] (i6 r) := by
 refine Vr (n := 12) Tryz.func89 rfl rfl rfl (fun wd => ?_)
 refine Jc<|Ja<|?_
 refine Wp (cs := [i6 (a0 0), i6 (a0 1), i6 (a0 2), i6 (a0 3), i6 (a0 4), i6 (a0 5), i6 (a0 6), i6 (a0 7), i6 (a0 8), i6 (a0 9), i6 (a0 10), i6 (a0 11)]) rfl rfl rfl rfl (fun b1 => ?_)
 refine ag (i6 0)<|Jd<|Jc<|Jc<|Ja<|Uz (i := 0) (vs := [i6 (a0 0), i6 (a0 1), i6 (a0 2), i6 (a0 3), i6 (a0 4), i6 (a0 5), i6 (a0 6), i6 (a0 7), i6 (a0 8), i6 (a0 9), i6 (a0 10), i6 (a0 11)]) Tryz.isAgg47 Tryz.sizeOf47 rfl rfl rfl rfl rfl<|mv (i6 0)<|Jd<|Ju<|c_dr 0<|?_
 try dsimp only [z1, z2, z3, z4, z5, z6, z7, z8]
 refine X6 (σ := Int) (τ := Unit) (fun next1 s => Jad a0 next1 s) (fun s t => [(5, .agg #[i6 (a0 0), i6 (a0 1), i6 (a0 2), i6 (a0 3), i6 (a0 4), i6 (a0 5), i6 (a0 6), i6 (a0 7), i6 (a0 8), i6 (a0 9), i6 (a0 10), i6 (a0 11)]), (6, i6 s)]) (fun s t => []) (fun s t => True) 0 () [] H (by exact trivial) (by exact ⟨rfl, rfl, trivial⟩) (by decide) rfl ?_
 rintro x6_2 _ m1 gg H9 _
 clear H
 try dsimp only at H9
 generalize hn1 : it (fun next1 s => Jad a0 next1 s) m1 = next1 at H9
 try dsimp only
 refine Jc<|Ja<|Jf rfl rfl rfl (Q0 rfl rfl)<|Jd<|Jc<|?_
 refine Qm (b := (decide (x6_2 < 12))) rfl (fun hb => ?_) (fun hb => ?_)
 ·have H10 := Jw hb H9; clear H9
  refine Jv<|Jc<|Ju<|Jc<|Ja<|?_
  obtain ⟨k8, h_k8, H11⟩ := Je H10; clear H10
  refine Jf rfl rfl rfl (r_indexAG (f := fun j_ => i6 (a0 j_)) Tryz.runUnderlying47 Tryz.isAgg3 Tryz.sizeOf3 rfl rfl rfl h_k8)<|ag (i6 (a0 k8))<|Jd<|Jc<|Ja<|mv (i6 (a0 k8))<|?_
  obtain ⟨t10, h_t10, H12⟩ := Je H11; clear H11
  refine Vu (k25 h_t10) Tryz.call25 rfl rfl rfl<|Jd<|?_
  refine Qm (b := t10) rfl (fun hb => ?_) (fun hb => ?_)
  ·have H13 := Jw hb H12; clear H12
   refine Jc<|Ja<|ag (i6 2)<|Jd<|Jy<|?_
   obtain rfl := Option.some.inj H13
   refine Qw (v := i6 2) rfl rfl (Yz rfl)
  ·have H14 := Jx hb H12; clear H12
   refine Jv<|Ja<|?_
   obtain ⟨t11, h_t11, H15⟩ := Je H14; clear H14
   refine Jf rfl rfl rfl (Qp rfl rfl h_t11)<|mv (i6 t11)<|Jd<|?_
   refine Js t11 () m1 [] (by exact ⟨rfl, rfl, trivial⟩) (by decide) rfl (by exact ⟨(by subst hn1; exact H15), trivial⟩) (Nat.lt_succ_self _)
 ·have H16 := Jx hb H9; clear H9
  refine Q3<|Jc<|Ja<|ag (i6 0)<|Jd<|Jy<|?_
  obtain rfl := Option.some.inj H16
  refine Qw (v := i6 0) rfl rfl (Yz rfl)
theorem k37 {a0 : (List T_face_Likeness)} {v0 : Value} {r : Int} {w : World} {h : Qg} (hw : Know h w Yl) (f0 : FrS h 14 v0 (a0.map Jq)) (H : V3 a0 = some r) : Does Tryz.prog 37 (List.toArray [v0]) w (fun v w' => v = (i6 r) ∧ Grow w w') := by
 refine enter (n := 44) Tryz.func37 rfl rfl rfl Yl [] (Sat.nil _ _)<|Jc<|Ja<|ag (i6 0)<|Jd<|Jc<|Jc<|Ja<|mv v0<|Jf rfl rfl rfl (Y0 Tryz.underlying22 rfl f0 rfl)<|Jf rfl rfl rfl (Jaz rfl rfl)<|Jd<|?_
 refine Qm (b := (decide (300 < (a0.length : Int)))) rfl (fun hb => ?_) (fun hb => ?_)
 ·have H24 := Jw hb H; clear H
  refine Jc<|Ja<|ag (i6 4)<|Jd<|Jy<|?_
  obtain rfl := Option.some.inj H24
  refine Qw (v := i6 4) rfl rfl (Yz rfl)
 ·have H25 := Jx hb H; clear H
  refine Jv<|Jc<|Jc<|Ja<|mv v0<|Jf rfl rfl rfl (Y0 Tryz.underlying22 rfl f0 rfl)<|mv (i6 0)<|Jd<|Ju<|?_
  refine X6 (σ := Int) (τ := Unit) (fun next1 s => Jar a0 next1 s) (fun s t => [(0, v0), (9, v0), (10, i6 (a0.length : Int)), (11, i6 s)]) (fun s t => []) (fun s t => True) 0 () [] H25 (by exact trivial) (by exact ⟨rfl, rfl, rfl, rfl, trivial⟩) (by decide) rfl ?_
  rintro x11_2 _ m1 gg H26 _
  clear H25
  try dsimp only at H26
  generalize hn1 : it (fun next1 s => Jar a0 next1 s) m1 = next1 at H26
  try dsimp only
  refine Jc<|Ja<|Jf rfl rfl rfl (Q0 rfl rfl)<|Jd<|Jc<|?_
  refine Qm (b := (decide (x11_2 < (a0.length : Int)))) rfl (fun hb => ?_) (fun hb => ?_)
  ·have H27 := Jw hb H26; clear H26
   refine Jv<|Jc<|Ju<|Jc<|Ja<|mv (i6 x11_2)<|?_
   obtain ⟨t14, h_t14, H28⟩ := Je H27; clear H27
   refine Jf rfl rfl rfl (Qe Tryz.underlying22 Tryz.sizeOf52 rfl rfl f0 h_t14)<|J9 (fun w hF hS => Qj (f := Jq) (i := x11_2) (sz := 14) (j := 0) (vs := [i6 t14.Id, i6 t14.Photo, i6 (t14.Vec 0), i6 (t14.Vec 1), i6 (t14.Vec 2), i6 (t14.Vec 3), i6 (t14.Vec 4), i6 (t14.Vec 5), i6 (t14.Vec 6), i6 (t14.Vec 7), i6 (t14.Vec 8), i6 (t14.Vec 9), i6 (t14.Vec 10), i6 (t14.Vec 11)]) Tryz.isAgg52 Tryz.sizeOf52 rfl rfl (f0.row (hw.now hF)) h_t14 rfl) rfl rfl rfl<|?_
   refine Wh (cs := [i6 0, i6 0, i6 0, i6 0, i6 0, i6 0, i6 0, i6 0, i6 0, i6 0, i6 0, i6 0, i6 0, i6 0]) Tryz.zeroValue52 rfl rfl rfl (fun b1 => ?_)
   refine ag (i6 x11_2)<|Y8 (i := 0) (vs := [i6 t14.Id, i6 t14.Photo, i6 (t14.Vec 0), i6 (t14.Vec 1), i6 (t14.Vec 2), i6 (t14.Vec 3), i6 (t14.Vec 4), i6 (t14.Vec 5), i6 (t14.Vec 6), i6 (t14.Vec 7), i6 (t14.Vec 8), i6 (t14.Vec 9), i6 (t14.Vec 10), i6 (t14.Vec 11)]) (cs' := [i6 t14.Id, i6 t14.Photo, i6 (t14.Vec 0), i6 (t14.Vec 1), i6 (t14.Vec 2), i6 (t14.Vec 3), i6 (t14.Vec 4), i6 (t14.Vec 5), i6 (t14.Vec 6), i6 (t14.Vec 7), i6 (t14.Vec 8), i6 (t14.Vec 9), i6 (t14.Vec 10), i6 (t14.Vec 11)]) Tryz.sizeOf52 rfl rfl rfl rfl rfl rfl rfl rfl rfl<|Jd<|Jc<|Jc<|Ja<|Jf rfl rfl rfl (J7 Tryz.runUnderlying52 rfl Tryz.sizeOf3 rfl rfl)<|Qq (i := 0) (v := i6 t14.Id) Tryz.isAgg3 rfl rfl rfl rfl rfl<|?_
   obtain ⟨t18, h_t18, H29⟩ := Je H28; clear H28
   refine Vu (k25 h_t18) Tryz.call25 rfl rfl rfl<|mv (.bool t18)<|?_
   refine split (fun hb => ?_) (fun hb => ?_)
   ·have H30 := Jw hb H29; clear H29
    refine pa<|pa<|pa<|Jf rfl rfl rfl (Q5 (v := .bool true) rfl rfl)<|Jd<|c_true rfl<|Jc<|Ja<|ag (i6 2)<|Jd<|Jy<|?_
    obtain rfl := Option.some.inj H30
    refine Qw (v := i6 2) rfl rfl (Yz rfl)
   ·have H31 := Jx hb H29; clear H29
    refine Jf rfl rfl rfl (J7 Tryz.runUnderlying52 rfl Tryz.sizeOf3 rfl rfl)<|Qq (i := 0) (v := i6 t14.Photo) Tryz.isAgg3 rfl rfl rfl rfl rfl<|?_
    obtain ⟨t22, h_t22, H32⟩ := Je H31; clear H31
    refine Vu (k25 h_t22) Tryz.call25 rfl rfl rfl<|Jf rfl rfl rfl (Qr (v := .bool t22) rfl rfl)<|Jd<|?_
    refine Qm (b := t22) rfl (fun hb => ?_) (fun hb => ?_)
    ·have H33 := Jw hb H32; clear H32
     refine Jc<|Ja<|ag (i6 2)<|Jd<|Jy<|?_
     obtain rfl := Option.some.inj H33
     refine Qw (v := i6 2) rfl rfl (Yz rfl)
    ·have H34 := Jx hb H32; clear H32
     refine Jv ?_
     refine Xf (r := r) (σ := Unit) (τ := Unit) (fun s => Us x11_2 next1 t14) (fun s t => [(0, v0), (4, .pointer (some ⟨b1, 0, none⟩)), (9, v0), (10, i6 (a0.length : Int)), (11, i6 x11_2), (20, .pointer (some ⟨b1, 1, none⟩)), (21, i6 t14.Photo), (22, .bool t22)]) (fun s t => [Q1 b1 [i6 t14.Id, i6 t14.Photo, i6 (t14.Vec 0), i6 (t14.Vec 1), i6 (t14.Vec 2), i6 (t14.Vec 3), i6 (t14.Vec 4), i6 (t14.Vec 5), i6 (t14.Vec 6), i6 (t14.Vec 7), i6 (t14.Vec 8), i6 (t14.Vec 9), i6 (t14.Vec 10), i6 (t14.Vec 11)] 52]) (fun s t => True) ?_ ?_
     ·refine Jc ?_
      exact Qz (Kd.p :: Kd.p :: Kd.p :: Kd.p :: Kd.d [0] _ :: Kd.p :: Kd.p :: Kd.p :: Kd.p :: Kd.p :: Kd.d [] _ :: Kd.p :: Kd.p :: []) 0 mixed (by
       refine dm (i6 x11_2)<|Qa rfl rfl (Jaz rfl rfl)<|dm (.bool (decide (0 < x11_2)))<|?_
       refine splitS (fun hb => ?_) (fun hb => ?_)
       ·have H40 := Jw hb H34
        refine Qa rfl rfl (J7 Tryz.runUnderlying52 rfl Tryz.sizeOf3 rfl rfl)<|Z5 (i := 0) (v := i6 t14.Id) Tryz.isAgg3 rfl rfl rfl rfl<|dm v0<|dm (i6 x11_2)<|?_
        have h_t31 := Jr H40
        have H41 := Jn H40
        refine Qa rfl rfl (Zl rfl rfl h_t31) ?_
        have h_t32 := Jr H41
        have H42 := Jn H41
        refine Qa rfl rfl (Qe Tryz.underlying22 Tryz.sizeOf52 rfl rfl f0 h_t32)<|Qa rfl rfl (Xv Tryz.runUnderlying52 rfl Tryz.sizeOf3 rfl rfl (Ym f0 h_t32))<|Wb (fun w hF => J2 (f := Jq) (i := (val (gI (x11_2 - 1)))) (sz := 14) (j := 0) (v := i6 (val (Jk a0 (val (gI (x11_2 - 1))))).Id) Tryz.isAgg3 rfl rfl (f0.row (hw.now hF)) h_t32 rfl) rfl rfl<|Qa rfl rfl (r_leq rfl rfl)<|Qa rfl rfl (Q5 (v := .bool (decide (t14.Id ≤ (val (Jk a0 (val (gI (x11_2 - 1))))).Id))) rfl rfl)<|Y3<|?_
        refine Qm (b := (decide (t14.Id ≤ (val (Jk a0 (val (gI (x11_2 - 1))))).Id))) rfl (fun hb => ?_) (fun hb => ?_)
        ·have H43 := Jw hb H42; clear H42
         refine Jc<|Ja<|ag (i6 5)<|Jd<|Jy<|?_
         obtain rfl := Option.some.inj H43
         refine Qw (v := i6 5) rfl rfl (Yz rfl)
        ·have H44 := Jx hb H42; clear H42
         refine Jv ?_
         refine Js () () 0 [0] (by exact ⟨rfl, rfl, rfl, rfl, rfl, rfl, rfl, rfl, trivial⟩) (by decide) rfl (by exact ⟨H44, trivial⟩) (Nat.lt_succ_self _)
       ·have H45 := Jx hb H34
        refine dp<|dp<|dp<|dp<|dp<|dp<|dp<|dp<|dp<|Qa rfl rfl (Qr (v := .bool false) rfl rfl)<|Y3<|Wq rfl<|Jv<|?_
        refine Js () () 0 [0] (by exact ⟨rfl, rfl, rfl, rfl, rfl, rfl, rfl, rfl, trivial⟩) (by decide) rfl (by exact ⟨H45, trivial⟩) (Nat.lt_succ_self _)
       ) (by kernel_rfl)
     ·rintro _ _ gg H35 _
      try dsimp only at H35
      try dsimp only
      refine Jc<|Ja<|Jf rfl rfl rfl (J7 Tryz.runUnderlying52 rfl Tryz.sizeOf47 rfl rfl)<|Uz (i := 0) (vs := [i6 (t14.Vec 0), i6 (t14.Vec 1), i6 (t14.Vec 2), i6 (t14.Vec 3), i6 (t14.Vec 4), i6 (t14.Vec 5), i6 (t14.Vec 6), i6 (t14.Vec 7), i6 (t14.Vec 8), i6 (t14.Vec 9), i6 (t14.Vec 10), i6 (t14.Vec 11)]) Tryz.isAgg47 Tryz.sizeOf47 rfl rfl rfl rfl rfl<|?_
      obtain ⟨t39, h_t39, H36⟩ := Je H35; clear H35
      refine Vu (k89 h_t39) Tryz.call89 rfl rfl rfl<|ag (i6 t39)<|Jd<|Jc<|Ja<|mv (i6 t39)<|Jf rfl rfl rfl (r_neq rfl rfl)<|Jd<|?_
      refine Qm (b := (decide (t39 ≠ 0))) rfl (fun hb => ?_) (fun hb => ?_)
      ·have H37 := Jw hb H36; clear H36
       refine Jc<|Ja<|mv (i6 t39)<|ag (i6 t39)<|Jd<|Jy<|?_
       obtain rfl := Option.some.inj H37
       refine Qw (v := i6 t39) rfl rfl (Yz rfl)
      ·have H38 := Jx hb H36; clear H36
       refine Jv<|Ja<|?_
       obtain ⟨t43, h_t43, H39⟩ := Je H38; clear H38
       refine Jf rfl rfl rfl (Qp rfl rfl h_t43)<|mv (i6 t43)<|Jd<|?_
       refine Js t43 () m1 [] (by exact ⟨rfl, rfl, rfl, rfl, trivial⟩) (by decide) rfl (by exact ⟨(by subst hn1; exact H39), trivial⟩) (Nat.lt_succ_self _)
  ·have H46 := Jx hb H26; clear H26
   refine Q3<|Jc<|Ja<|ag (i6 0)<|Jd<|Jy<|?_
   obtain rfl := Option.some.inj H46
   refine Qw (v := i6 0) rfl rfl (Yz rfl)
theorem k93 {a0 : (List Int)} {v0 : Value} {a1 : (Int → Option (Bool))} {v1 : Value} {r : Int} {w : World} {h : Qg} (hw : Know h w Yl) (f0 : FrS h 1 v0 (a0.map Jl)) (f1 : FnH Tryz.prog h v1 (Ui a1)) (H : Um a0 a1 = some r) : Does Tryz.prog 93 (List.toArray [v0, v1]) w (fun v w' => v = (i6 r) ∧ Grow w w') := by
 refine enter (n := 19) Tryz.func93 rfl rfl rfl Yl [] (Sat.nil _ _)<|Jc<|Ja<|ag (i6 0)<|Jd<|Jc<|Jc<|Ja<|mv v0<|Jf rfl rfl rfl (Y0 Tryz.underlying24 rfl f0 rfl)<|mv (i6 0)<|Jd<|Ju<|?_
 refine X6 (σ := Int) (τ := Unit) (fun next1 s => U5 a0 a1 next1 s) (fun s t => [(0, v0), (1, v1), (7, i6 (a0.length : Int)), (8, i6 s)]) (fun s t => []) (fun s t => True) 0 () [] H (by exact trivial) (by exact ⟨rfl, rfl, rfl, rfl, trivial⟩) (by decide) rfl ?_
 rintro x8_2 _ m1 gg H9 _
 clear H
 try dsimp only at H9
 generalize hn1 : it (fun next1 s => U5 a0 a1 next1 s) m1 = next1 at H9
 try dsimp only
 refine Jc<|Ja<|Jf rfl rfl rfl (Q0 rfl rfl)<|Jd<|Jc<|?_
 refine Qm (b := (decide (x8_2 < (a0.length : Int)))) rfl (fun hb => ?_) (fun hb => ?_)
 ·have H10 := Jw hb H9; clear H9
  refine Jv<|Jc<|Ju<|Jc<|Ja<|mv (i6 x8_2)<|ag (i6 x8_2)<|Jd<|Jc<|Ja<|mv v1<|mv v0<|mv (i6 x8_2)<|?_
  obtain ⟨t14, h_t14, H11⟩ := Je H10; clear H10
  refine Jf rfl rfl rfl (Qe Tryz.underlying24 Tryz.sizeOf3 rfl rfl f0 h_t14)<|J9 (fun w hF hS => J2 (f := Jl) (i := x8_2) (sz := 1) (j := 0) (v := i6 t14) Tryz.isAgg3 rfl rfl (f0.row (hw.now hF)) h_t14 rfl) rfl rfl rfl<|?_
  obtain ⟨t16, h_t16, H12⟩ := Je H11; clear H11
  refine l_callV (R := Ui a1) (r := .bool t16) (v := v1) (fun w hF hS => ⟨(f1.mono (hw.now hF)), ⟨t14, _, rfl, h_t16, rfl⟩⟩) rfl rfl rfl rfl<|Jd<|?_
  refine Qm (b := t16) rfl (fun hb => ?_) (fun hb => ?_)
  ·have H13 := Jw hb H12; clear H12
   refine Jc<|Ja<|mv (i6 x8_2)<|ag (i6 x8_2)<|Jd<|Jy<|?_
   obtain rfl := Option.some.inj H13
   refine Qw (v := i6 x8_2) rfl rfl (Yz rfl)
  ·have H14 := Jx hb H12; clear H12
   refine Jv<|Ja<|?_
   obtain ⟨t18, h_t18, H15⟩ := Je H14; clear H14
   refine Jf rfl rfl rfl (Qp rfl rfl h_t18)<|mv (i6 t18)<|Jd<|?_
   refine Js t18 () m1 [] (by exact ⟨rfl, rfl, rfl, rfl, trivial⟩) (by decide) rfl (by exact ⟨(by subst hn1; exact H15), trivial⟩) (Nat.lt_succ_self _)
 ·have H16 := Jx hb H9; clear H9
  refine Q3<|Jc<|Ja<|ag (i6 (-1))<|Jd<|Jy<|?_
  obtain rfl := Option.some.inj H16
  refine Qw (v := i6 (-1)) rfl rfl (Yz rfl)
theorem k40 {a0 : (List Int)} {v0 : Value} {a1 : (Int → Option (Bool))} {v1 : Value} {r : Bool} {w : World} {h : Qg} (hw : Know h w Yl) (f0 : FrS h 1 v0 (a0.map Jl)) (f1 : FnH Tryz.prog h v1 (Ui a1)) (H : X0 a0 a1 = some r) : Does Tryz.prog 40 (List.toArray [v0, v1]) w (fun v w' => v = (.bool r) ∧ Grow w w') := by
 refine enter (n := 9) Tryz.func40 rfl rfl rfl Yl [] (Sat.nil _ _)<|Jc<|Ja<|ag (.bool false)<|Jd<|Jc<|Ja<|mv v0<|mv v1<|?_
 obtain ⟨t7, h_t7, H2⟩ := Je H; clear H
 refine Qf (fun w hF hS => k93 (Jp w) (f0.mono (hw.now hF)) (f1.mono (hw.now hF)) h_t7) Tryz.call93 rfl rfl rfl<|Jf rfl rfl rfl (r_geq rfl rfl)<|ag (.bool (decide (0 ≤ t7)))<|Jd<|Jy<|?_
 obtain rfl := Option.some.inj H2
 refine Qw (v := .bool (decide (0 ≤ t7))) rfl rfl (Yz rfl)
theorem k174 {a0 : (List Int)} {v0 : Value} {a1 : (Int → Option (Bool))} {v1 : Value} {r : Int} {w : World} {h : Qg} (hw : Know h w Yl) (f0 : FrS h 1 v0 (a0.map e_u8)) (f1 : FnH Tryz.prog h v1 (Jbx a1)) (H : Jas a0 a1 = some r) : Does Tryz.prog 174 (List.toArray [v0, v1]) w (fun v w' => v = (i6 r) ∧ Grow w w') := by
 refine enter (n := 19) Tryz.func174 rfl rfl rfl Yl [] (Sat.nil _ _)<|Jc<|Ja<|ag (i6 0)<|Jd<|Jc<|Jc<|Ja<|mv v0<|Jf rfl rfl rfl (Y0 Tryz.underlying138 rfl f0 rfl)<|mv (i6 0)<|Jd<|Ju<|?_
 refine X6 (σ := Int) (τ := Unit) (fun next1 s => Uq a0 a1 next1 s) (fun s t => [(0, v0), (1, v1), (7, i6 (a0.length : Int)), (8, i6 s)]) (fun s t => []) (fun s t => True) 0 () [] H (by exact trivial) (by exact ⟨rfl, rfl, rfl, rfl, trivial⟩) (by decide) rfl ?_
 rintro x8_2 _ m1 gg H9 _
 clear H
 try dsimp only at H9
 generalize hn1 : it (fun next1 s => Uq a0 a1 next1 s) m1 = next1 at H9
 try dsimp only
 refine Jc<|Ja<|Jf rfl rfl rfl (Q0 rfl rfl)<|Jd<|Jc<|?_
 refine Qm (b := (decide (x8_2 < (a0.length : Int)))) rfl (fun hb => ?_) (fun hb => ?_)
 ·have H10 := Jw hb H9; clear H9
  refine Jv<|Jc<|Ju<|Jc<|Ja<|mv (i6 x8_2)<|ag (i6 x8_2)<|Jd<|Jc<|Ja<|mv v1<|mv v0<|mv (i6 x8_2)<|?_
  obtain ⟨t14, h_t14, H11⟩ := Je H10; clear H10
  refine Jf rfl rfl rfl (Qe Tryz.underlying138 Tryz.sizeOf5 rfl rfl f0 h_t14)<|J9 (fun w hF hS => J2 (f := e_u8) (i := x8_2) (sz := 1) (j := 0) (v := .int .u8 t14) Tryz.isAgg5 rfl rfl (f0.row (hw.now hF)) h_t14 rfl) rfl rfl rfl<|?_
  obtain ⟨t16, h_t16, H12⟩ := Je H11; clear H11
  refine l_callV (R := Jbx a1) (r := .bool t16) (v := v1) (fun w hF hS => ⟨(f1.mono (hw.now hF)), ⟨t14, _, rfl, h_t16, rfl⟩⟩) rfl rfl rfl rfl<|Jd<|?_
  refine Qm (b := t16) rfl (fun hb => ?_) (fun hb => ?_)
  ·have H13 := Jw hb H12; clear H12
   refine Jc<|Ja<|mv (i6 x8_2)<|ag (i6 x8_2)<|Jd<|Jy<|?_
   obtain rfl := Option.some.inj H13
   refine Qw (v := i6 x8_2) rfl rfl (Yz rfl)
  ·have H14 := Jx hb H12; clear H12
   refine Jv<|Ja<|?_
   obtain ⟨t18, h_t18, H15⟩ := Je H14; clear H14
   refine Jf rfl rfl rfl (Qp rfl rfl h_t18)<|mv (i6 t18)<|Jd<|?_
   refine Js t18 () m1 [] (by exact ⟨rfl, rfl, rfl, rfl, trivial⟩) (by decide) rfl (by exact ⟨(by subst hn1; exact H15), trivial⟩) (Nat.lt_succ_self _)
 ·have H16 := Jx hb H9; clear H9
  refine Q3<|Jc<|Ja<|ag (i6 (-1))<|Jd<|Jy<|?_
  obtain rfl := Option.some.inj H16
  refine Qw (v := i6 (-1)) rfl rfl (Yz rfl)
theorem k128 {a0 : (List Int)} {v0 : Value} {a1 : (Int → Option (Bool))} {v1 : Value} {r : Bool} {w : World} {h : Qg} (hw : Know h w Yl) (f0 : FrS h 1 v0 (a0.map e_u8)) (f1 : FnH Tryz.prog h v1 (Jbx a1)) (H : V5 a0 a1 = some r) : Does Tryz.prog 128 (List.toArray [v0, v1]) w (fun v w' => v = (.bool r) ∧ Grow w w') := by
 refine enter (n := 9) Tryz.func128 rfl rfl rfl Yl [] (Sat.nil _ _)<|Jc<|Ja<|ag (.bool false)<|Jd<|Jc<|Ja<|mv v0<|mv v1<|?_
 obtain ⟨t7, h_t7, H2⟩ := Je H; clear H
 refine Qf (fun w hF hS => k174 (Jp w) (f0.mono (hw.now hF)) (f1.mono (hw.now hF)) h_t7) Tryz.call174 rfl rfl rfl<|Jf rfl rfl rfl (r_geq rfl rfl)<|ag (.bool (decide (0 ≤ t7)))<|Jd<|Jy<|?_
 obtain rfl := Option.some.inj H2
 refine Qw (v := .bool (decide (0 ≤ t7))) rfl rfl (Yz rfl)
theorem k129 {a0 : Int} {r : Bool} (H : face_isTitle_1 a0 = some r) : Ret Tryz.prog 129 [.int .u8 a0] (.bool r) := by
 refine Vr (n := 5) Tryz.func129 rfl rfl rfl (fun wd => ?_)
 refine Jc<|Ja<|ag (.bool false)<|Jd<|Jc<|Ja<|mv (.int .u8 a0)<|Jf rfl rfl rfl (Q0 rfl rfl)<|ag (.bool (decide (a0 < 32)))<|Jd<|Jy<|?_
 obtain rfl := Option.some.inj H
 refine Qw (v := .bool (decide (a0 < 32))) rfl rfl (Yz rfl)
theorem k90 {a0 : (List UInt8)} {r : Bool} (H : Jco a0 = some r) : Ret Tryz.prog 90 [Xt a0] (.bool r) := by
 refine Vr (n := 13) Tryz.func90 rfl rfl rfl (fun wd => ?_)
 refine Jc<|Ja<|ag (.bool false)<|Jd<|Jc<|Ja<|mv (Xt a0)<|Jf rfl rfl rfl (r_lenT Tryz.underlying9 rfl)<|?_
 obtain ⟨t5, h_t5, H6⟩ := Je H; clear H
 refine Vu (k25 h_t5) Tryz.call25 rfl rfl rfl<|Jf rfl rfl rfl (Ub rfl)<|mv (.bool (!t5))<|?_
 refine split (fun hb => ?_) (fun hb => ?_)
 ·have H7 := Jw hb H6; clear H6
  refine mv (Xt a0) ?_
  obtain ⟨t9, h_t9, H8⟩ := Je H7; clear H7
  refine Yk (rds := []) (makes_byt (f := e_u8) (s := a0) Tryz.underlying9 Tryz.underlying138 Tryz.underlying5 rfl (fun _ => rfl) h_t9) rfl rfl rfl (fun p => ?_)
  obtain ⟨t10, h_t10, H9⟩ := Je H8; clear H8
  refine Qf (fun w hF hS => k128 (Jp w) (frs_mk (i := 0) hS rfl) (FnH.mk ⟨129, #[], #[], rfl, Tryz.call129, fun args2 post2 w2 hk2 hR2 => by obtain ⟨a0_, r_, rfl, H_, rfl⟩ := hR2; exact k129 H_ w2⟩) h_t10) Tryz.call128 rfl rfl rfl<|Jf rfl rfl rfl (Ub rfl)<|Jf rfl rfl rfl (Q5 (v := .bool (!t10)) rfl rfl)<|ag (.bool (!t10))<|Jd<|Jy<|?_
  obtain rfl := Option.some.inj H9
  refine Qw (v := .bool (!t10)) rfl rfl (Yz rfl)
 ·have H10 := Jx hb H6; clear H6
  refine pa<|pa<|pa<|pa<|Jf rfl rfl rfl (Qr (v := .bool false) rfl rfl)<|ag (.bool false)<|Jd<|Jy<|?_
  obtain rfl := Option.some.inj H10
  refine Qw (v := .bool false) rfl rfl (Yz rfl)
theorem k131 {a0 : (List T_face_Likeness)} {v0 : Value} {a1 : Int} {a2 : (T_face_Likeness → Int → Option (Int))} {v2 : Value} {r : Int × Bool} {w : World} {h : Qg} (hw : Know h w Yl) (f0 : FrS h 14 v0 (a0.map Jq)) (f2 : FnH Tryz.prog h v2 (V0 a2)) (H : Zd a0 a1 a2 = some r) : Does Tryz.prog 131 (List.toArray [v0, i6 a1, v2]) w (fun v w' => v = (.tuple #[i6 r.1, .bool r.2]) ∧ Grow w w') := by
 refine enter (n := 49) Tryz.func131 rfl rfl rfl Yl [] (Sat.nil _ _)<|Jc<|Ja<|ag (i6 0)<|ag (.bool false)<|Jd<|Jc<|Ja<|mv v0<|Jf rfl rfl rfl (Y0 Tryz.underlying22 rfl f0 rfl)<|ag (i6 (a0.length : Int))<|Jd<|Jc<|Ja<|mv (i6 (a0.length : Int))<|ag (i6 0)<|ag (i6 (a0.length : Int))<|Jd<|?_
 refine Xf (r := r) (σ := Int) (τ := Unit) (fun s => Xh a0 a1 a2 s) (fun s t => [(0, v0), (1, i6 a1), (2, v2), (8, i6 (a0.length : Int)), (9, i6 s)]) (fun s t => []) (fun s t => True) ?_ ?_
 ·refine Ju ?_
  refine X6 (σ := Int × Int) (τ := Unit) (fun next2 s => Q2 a0 a1 a2 next2 s.1 s.2) (fun s t => [(0, v0), (1, i6 a1), (2, v2), (8, i6 (a0.length : Int)), (9, i6 s.1), (10, i6 s.2)]) (fun s t => []) (fun s t => True) (0, (a0.length : Int)) () [] H (by exact trivial) (by exact ⟨rfl, rfl, rfl, rfl, rfl, rfl, trivial⟩) (by decide) rfl ?_
  rintro ⟨x9_3, x10_2⟩ _ m2 gg H21 _
  clear H
  try dsimp only at H21
  generalize hn2 : it (fun next2 s => Q2 a0 a1 a2 next2 s.1 s.2) m2 = next2 at H21
  try dsimp only
  refine Jc<|Jc<|Ja<|mv (i6 x9_3)<|mv (i6 x10_2)<|Jf rfl rfl rfl (Q0 rfl rfl)<|Jd<|?_
  refine Qm (b := (decide (x9_3 < x10_2))) rfl (fun hb => ?_) (fun hb => ?_)
  ·have H22 := Jw hb H21; clear H21
   refine Jv<|Ju<|Jc<|Ja<|mv (i6 x9_3)<|mv (i6 x10_2)<|?_
   obtain ⟨t20, h_t20, H23⟩ := Je H22; clear H22
   refine Jf rfl rfl rfl (Qp rfl rfl h_t20)<|Jf rfl rfl rfl (Ja0 Tryz.runUnderlying3 Tryz.runUnderlying106 rfl (wr_u64 _))<|?_
   obtain ⟨t22, h_t22, H24⟩ := Je H23; clear H23
   refine Jf rfl rfl rfl (r_shrG rfl rfl rfl h_t22)<|Jf rfl rfl rfl (Ja0 Tryz.runUnderlying106 Tryz.runUnderlying3 rfl (wr_i64 _))<|ag (i6 (Xm t22))<|Jd<|Jc<|Ja<|mv v2<|mv v0<|mv (i6 (Xm t22))<|?_
   obtain ⟨t27, h_t27, H25⟩ := Je H24; clear H24
   refine Jf rfl rfl rfl (Qe Tryz.underlying22 Tryz.sizeOf52 rfl rfl f0 h_t27)<|J9 (fun w hF hS => Qj (f := Jq) (i := (Xm t22)) (sz := 14) (j := 0) (vs := [i6 t27.Id, i6 t27.Photo, i6 (t27.Vec 0), i6 (t27.Vec 1), i6 (t27.Vec 2), i6 (t27.Vec 3), i6 (t27.Vec 4), i6 (t27.Vec 5), i6 (t27.Vec 6), i6 (t27.Vec 7), i6 (t27.Vec 8), i6 (t27.Vec 9), i6 (t27.Vec 10), i6 (t27.Vec 11)]) Tryz.isAgg52 Tryz.sizeOf52 rfl rfl (f0.row (hw.now hF)) h_t27 rfl) rfl rfl rfl<|mv (i6 a1)<|?_
   obtain ⟨t30, h_t30, H26⟩ := Je H25; clear H25
   refine l_callV (R := V0 a2) (r := i6 t30) (v := v2) (fun w hF hS => ⟨(f2.mono (hw.now hF)), ⟨t27, a1, _, rfl, h_t30, rfl⟩⟩) rfl rfl rfl rfl<|Jf rfl rfl rfl (Q0 rfl rfl)<|Jd<|?_
   refine Qm (b := (decide (t30 < 0))) rfl (fun hb => ?_) (fun hb => ?_)
   ·have H27 := Jw hb H26; clear H26
    refine Ja<|mv (i6 (Xm t22))<|?_
    obtain ⟨t33, h_t33, H28⟩ := Je H27; clear H27
    refine Jf rfl rfl rfl (Qp rfl rfl h_t33)<|ag (i6 t33)<|Jd<|?_
    refine Js (t33, x10_2) () m2 [] (by exact ⟨rfl, rfl, rfl, rfl, rfl, rfl, trivial⟩) (by decide) rfl (by exact ⟨(by subst hn2; exact H28), trivial⟩) (Nat.lt_succ_self _)
   ·have H29 := Jx hb H26; clear H26
    refine Ja<|mv (i6 (Xm t22))<|ag (i6 (Xm t22))<|Jd<|?_
    refine Js (x9_3, (Xm t22)) () m2 [] (by exact ⟨rfl, rfl, rfl, rfl, rfl, rfl, trivial⟩) (by decide) rfl (by exact ⟨(by subst hn2; exact H29), trivial⟩) (Nat.lt_succ_self _)
  ·have H30 := Jx hb H21; clear H21
   refine Q3 ?_
   refine Js x9_3 () 0 [] (by exact ⟨rfl, rfl, rfl, rfl, rfl, trivial⟩) (by decide) rfl (by exact ⟨H30, trivial⟩) (Nat.lt_succ_self _)
 ·rintro x9 _ gg H16 _
  try dsimp only at H16
  try dsimp only
  refine Jc<|Ja<|mv (i6 x9)<|mv (i6 x9)<|mv (i6 (a0.length : Int))<|Jf rfl rfl rfl (Q0 rfl rfl)<|mv (.bool (decide (x9 < (a0.length : Int))))<|?_
  refine split (fun hb => ?_) (fun hb => ?_)
  ·have H17 := Jw hb H16; clear H16
   refine mv v2<|mv v0<|mv (i6 x9)<|?_
   obtain ⟨t43, h_t43, H18⟩ := Je H17; clear H17
   refine Jf rfl rfl rfl (Qe Tryz.underlying22 Tryz.sizeOf52 rfl rfl f0 h_t43)<|J9 (fun w hF hS => Qj (f := Jq) (i := x9) (sz := 14) (j := 0) (vs := [i6 t43.Id, i6 t43.Photo, i6 (t43.Vec 0), i6 (t43.Vec 1), i6 (t43.Vec 2), i6 (t43.Vec 3), i6 (t43.Vec 4), i6 (t43.Vec 5), i6 (t43.Vec 6), i6 (t43.Vec 7), i6 (t43.Vec 8), i6 (t43.Vec 9), i6 (t43.Vec 10), i6 (t43.Vec 11)]) Tryz.isAgg52 Tryz.sizeOf52 rfl rfl (f0.row (hw.now hF)) h_t43 rfl) rfl rfl rfl<|mv (i6 a1)<|?_
   obtain ⟨t46, h_t46, H19⟩ := Je H18; clear H18
   refine l_callV (R := V0 a2) (r := i6 t46) (v := v2) (fun w hF hS => ⟨(f2.mono (hw.now hF)), ⟨t43, a1, _, rfl, h_t46, rfl⟩⟩) rfl rfl rfl rfl<|Jf rfl rfl rfl (Uv rfl rfl)<|Jf rfl rfl rfl (Q5 (v := .bool (decide (t46 = 0))) rfl rfl)<|ag (i6 x9)<|ag (.bool (decide (t46 = 0)))<|Jd<|Jy<|?_
   obtain rfl := Option.some.inj H19
   refine Vz (v1 := i6 x9) (v2 := .bool (decide (t46 = 0))) rfl rfl rfl (Yz rfl)
  ·have H20 := Jx hb H16; clear H16
   refine pa<|pa<|pa<|pa<|pa<|pa<|pa<|pa<|Jf rfl rfl rfl (Qr (v := .bool false) rfl rfl)<|ag (i6 x9)<|ag (.bool false)<|Jd<|Jy<|?_
   obtain rfl := Option.some.inj H20
   refine Vz (v1 := i6 x9) (v2 := .bool false) rfl rfl rfl (Yz rfl)
theorem k132 {a0 : T_face_Likeness} {a1 : Int} {r : Int} (H : face_at_1 a0 a1 = some r) : Ret Tryz.prog 132 [.agg #[i6 a0.Id, i6 a0.Photo, i6 (a0.Vec 0), i6 (a0.Vec 1), i6 (a0.Vec 2), i6 (a0.Vec 3), i6 (a0.Vec 4), i6 (a0.Vec 5), i6 (a0.Vec 6), i6 (a0.Vec 7), i6 (a0.Vec 8), i6 (a0.Vec 9), i6 (a0.Vec 10), i6 (a0.Vec 11)], i6 a1] (i6 r) := by
 refine Vr (n := 15) Tryz.func132 rfl rfl rfl (fun wd => ?_)
 refine Jc<|Ja<|?_
 refine Wp (cs := [i6 a0.Id, i6 a0.Photo, i6 (a0.Vec 0), i6 (a0.Vec 1), i6 (a0.Vec 2), i6 (a0.Vec 3), i6 (a0.Vec 4), i6 (a0.Vec 5), i6 (a0.Vec 6), i6 (a0.Vec 7), i6 (a0.Vec 8), i6 (a0.Vec 9), i6 (a0.Vec 10), i6 (a0.Vec 11)]) rfl rfl rfl rfl (fun b1 => ?_)
 refine ag (i6 0)<|Jd<|Jc<|Ju<|Jc<|Ja<|Jf rfl rfl rfl (J7 Tryz.runUnderlying52 rfl Tryz.sizeOf3 rfl rfl)<|Qq (i := 0) (v := i6 a0.Id) Tryz.isAgg3 rfl rfl rfl rfl rfl<|mv (i6 a1)<|Jf rfl rfl rfl (Q0 rfl rfl)<|ag (.bool (decide (a0.Id < a1)))<|Jd<|?_
 refine Qm (b := (decide (a0.Id < a1))) rfl (fun hb => ?_) (fun hb => ?_)
 ·have H5 := Jw hb H; clear H
  refine Jc<|Ja<|ag (i6 (-1))<|Jd<|Jy<|?_
  obtain rfl := Option.some.inj H5
  refine Qw (v := i6 (-1)) rfl rfl (Yz rfl)
 ·have H6 := Jx hb H; clear H
  refine Jc<|Ja<|Jf rfl rfl rfl (J7 Tryz.runUnderlying52 rfl Tryz.sizeOf3 rfl rfl)<|Qq (i := 0) (v := i6 a0.Id) Tryz.isAgg3 rfl rfl rfl rfl rfl<|mv (i6 a1)<|Jf rfl rfl rfl (Jaz rfl rfl)<|ag (.bool (decide (a1 < a0.Id)))<|Jd<|?_
  refine Qm (b := (decide (a1 < a0.Id))) rfl (fun hb => ?_) (fun hb => ?_)
  ·have H7 := Jw hb H6; clear H6
   refine Jc<|Ja<|ag (i6 1)<|Jd<|Jy<|?_
   obtain rfl := Option.some.inj H7
   refine Qw (v := i6 1) rfl rfl (Yz rfl)
  ·have H8 := Jx hb H6; clear H6
   refine Jv<|Jc<|Ja<|ag (i6 0)<|Jd<|Jy<|?_
   obtain rfl := Option.some.inj H8
   refine Qw (v := i6 0) rfl rfl (Yz rfl)
theorem k102 {a0 : (List T_face_Likeness)} {v0 : Value} {a1 : Int} {r : Int × Bool} {w : World} {h : Qg} (hw : Know h w Yl) (f0 : FrS h 14 v0 (a0.map Jq)) (H : Jbh a0 a1 = some r) : Does Tryz.prog 102 (List.toArray [v0, i6 a1]) w (fun v w' => v = (.tuple #[i6 r.1, .bool r.2]) ∧ Grow w w') := by
 refine enter (n := 11) Tryz.func102 rfl rfl rfl Yl [] (Sat.nil _ _)<|Jc<|Ja<|ag (i6 0)<|ag (.bool false)<|Jd<|Jc<|Ja<|mv v0<|mv (i6 a1)<|?_
 obtain ⟨t8, h_t8, H2⟩ := Je H; clear H
 refine Qf (fun w hF hS => k131 (Jp w) (f0.mono (hw.now hF)) (FnH.mk ⟨132, #[], #[], rfl, Tryz.call132, fun args2 post2 w2 hk2 hR2 => by obtain ⟨a0_, a1_, r_, rfl, H_, rfl⟩ := hR2; exact k132 H_ w2⟩) h_t8) Tryz.call131 rfl rfl rfl<|Jf rfl rfl rfl (Qs (v := i6 t8.1) rfl rfl)<|Jf rfl rfl rfl (Qs (v := .bool t8.2) rfl rfl)<|ag (i6 t8.1)<|ag (.bool t8.2)<|Jd<|Jy<|?_
 obtain rfl := Option.some.inj H2
 refine Vz (v1 := i6 t8.1) (v2 := .bool t8.2) rfl rfl rfl (Yz rfl)
theorem k91 {a0 : (List T_face_Likeness)} {v0 : Value} {a1 : (List Int)} {v1 : Value} {r : Int} {w : World} {h : Qg} (hw : Know h w Yl) (f0 : FrS h 14 v0 (a0.map Jq)) (f1 : FrS h 1 v1 (a1.map Jl)) (H : Jc5 a0 a1 = some r) : Does Tryz.prog 91 (List.toArray [v0, v1]) w (fun v w' => v = (i6 r) ∧ Grow w w') := by
 refine enter (n := 36) Tryz.func91 rfl rfl rfl Yl [] (Sat.nil _ _)<|Jc<|Ja<|ag (i6 0)<|Jd<|Jc<|Jc<|Ja<|mv v1<|Jf rfl rfl rfl (Y0 Tryz.underlying24 rfl f1 rfl)<|mv (i6 0)<|Jd<|Ju<|?_
 refine X6 (σ := Int) (τ := Unit) (fun next1 s => U0 a0 a1 next1 s) (fun s t => [(0, v0), (1, v1), (9, v1), (10, i6 (a1.length : Int)), (11, i6 s)]) (fun s t => []) (fun s t => True) 0 () [] H (by exact trivial) (by exact ⟨rfl, rfl, rfl, rfl, rfl, trivial⟩) (by decide) rfl ?_
 rintro x11_2 _ m1 gg H16 _
 clear H
 try dsimp only at H16
 generalize hn1 : it (fun next1 s => U0 a0 a1 next1 s) m1 = next1 at H16
 try dsimp only
 refine Jc<|Ja<|Jf rfl rfl rfl (Q0 rfl rfl)<|Jd<|Jc<|?_
 refine Qm (b := (decide (x11_2 < (a1.length : Int)))) rfl (fun hb => ?_) (fun hb => ?_)
 ·have H17 := Jw hb H16; clear H16
  refine Jv ?_
  refine Xf (r := r) (σ := Unit) (τ := Unit) (fun s => Jbu x11_2 next1) (fun s t => [(0, v0), (1, v1), (9, v1), (10, i6 (a1.length : Int)), (11, i6 x11_2)]) (fun s t => []) (fun s t => True) ?_ ?_
  ·refine Ju<|Jc<|Ja<|mv (i6 x11_2)<|?_
   obtain ⟨t14, h_t14, H20⟩ := Je H17; clear H17
   refine Jf rfl rfl rfl (Qe Tryz.underlying24 Tryz.sizeOf3 rfl rfl f1 h_t14)<|J9 (fun w hF hS => J2 (f := Jl) (i := x11_2) (sz := 1) (j := 0) (v := i6 t14) Tryz.isAgg3 rfl rfl (f1.row (hw.now hF)) h_t14 rfl) rfl rfl rfl<|ag (i6 x11_2)<|ag (i6 t14)<|Jd<|Jc<|Jc<|Ja<|mv v0<|mv (i6 t14)<|?_
   obtain ⟨t19, h_t19, H21⟩ := Je H20; clear H20
   refine Qf (fun w hF hS => k102 (Jp w) (f0.mono (hw.now hF)) h_t19) Tryz.call102 rfl rfl rfl<|mv (.tuple #[i6 t19.1, .bool t19.2])<|Jf rfl rfl rfl (Qs (v := i6 t19.1) rfl rfl)<|Jf rfl rfl rfl (Qs (v := .bool t19.2) rfl rfl)<|ag (i6 t19.1)<|ag (.bool t19.2)<|Jd<|Jc<|Ja<|mv (.bool t19.2)<|Jf rfl rfl rfl (Ub rfl)<|Jd<|?_
   refine Qm (b := (!t19.2)) rfl (fun hb => ?_) (fun hb => ?_)
   ·have H22 := Jw hb H21; clear H21
    refine Jc<|Ja<|ag (i6 7)<|Jd<|Jy<|?_
    obtain rfl := Option.some.inj H22
    refine Qw (v := i6 7) rfl rfl (Yz rfl)
   ·have H23 := Jx hb H21; clear H21
    refine Jv<|Jc<|Ja<|mv (i6 x11_2)<|Jf rfl rfl rfl (Jaz rfl rfl)<|mv (.bool (decide (0 < x11_2)))<|?_
    refine split (fun hb => ?_) (fun hb => ?_)
    ·have H24 := Jw hb H23; clear H23
     refine mv (i6 t14)<|mv v1<|mv (i6 x11_2)<|?_
     obtain ⟨t30, h_t30, H25⟩ := Je H24; clear H24
     refine Jf rfl rfl rfl (Zl rfl rfl h_t30) ?_
     obtain ⟨t31, h_t31, H26⟩ := Je H25; clear H25
     refine Jf rfl rfl rfl (Qe Tryz.underlying24 Tryz.sizeOf3 rfl rfl f1 h_t31)<|J9 (fun w hF hS => J2 (f := Jl) (i := t30) (sz := 1) (j := 0) (v := i6 t31) Tryz.isAgg3 rfl rfl (f1.row (hw.now hF)) h_t31 rfl) rfl rfl rfl<|Jf rfl rfl rfl (r_leq rfl rfl)<|Jf rfl rfl rfl (Q5 (v := .bool (decide (t14 ≤ t31))) rfl rfl)<|Jd<|?_
     refine Qm (b := (decide (t14 ≤ t31))) rfl (fun hb => ?_) (fun hb => ?_)
     ·have H27 := Jw hb H26; clear H26
      refine Jc<|Ja<|ag (i6 5)<|Jd<|Jy<|?_
      obtain rfl := Option.some.inj H27
      refine Qw (v := i6 5) rfl rfl (Yz rfl)
     ·have H28 := Jx hb H26; clear H26
      refine Jv ?_
      refine Js () () 0 [] (by exact ⟨rfl, rfl, rfl, rfl, rfl, trivial⟩) (by decide) rfl (by exact ⟨H28, trivial⟩) (Nat.lt_succ_self _)
    ·have H29 := Jx hb H23; clear H23
     refine pa<|pa<|pa<|pa<|pa<|pa<|pa<|Jf rfl rfl rfl (Qr (v := .bool false) rfl rfl)<|Jd<|Wq rfl<|Jv<|?_
     refine Js () () 0 [] (by exact ⟨rfl, rfl, rfl, rfl, rfl, trivial⟩) (by decide) rfl (by exact ⟨H29, trivial⟩) (Nat.lt_succ_self _)
  ·rintro _ _ gg H18 _
   try dsimp only at H18
   try dsimp only
   refine Ja ?_
   obtain ⟨t35, h_t35, H19⟩ := Je H18; clear H18
   refine Jf rfl rfl rfl (Qp rfl rfl h_t35)<|mv (i6 t35)<|Jd<|?_
   refine Js t35 () m1 [] (by exact ⟨rfl, rfl, rfl, rfl, rfl, trivial⟩) (by decide) rfl (by exact ⟨(by subst hn1; exact H19), trivial⟩) (Nat.lt_succ_self _)
 ·have H30 := Jx hb H16; clear H16
  refine Q3<|Jc<|Ja<|ag (i6 0)<|Jd<|Jy<|?_
  obtain rfl := Option.some.inj H30
  refine Qw (v := i6 0) rfl rfl (Yz rfl)
theorem k80 {a0 : Int} {r : Bool} (H : Wv a0 = some r) : Ret Tryz.prog 80 [i6 a0] (.bool r) := by
 refine Vr (n := 6) Tryz.func80 rfl rfl rfl (fun wd => ?_)
 refine Jc<|Ja<|ag (.bool false)<|Jd<|Jc<|Ja<|mv (i6 a0)<|mv (i6 a0)<|Jf rfl rfl rfl (r_neq rfl rfl)<|ag (.bool (decide (a0 ≠ a0)))<|Jd<|Jy<|?_
 obtain rfl := Option.some.inj H
 refine Qw (v := .bool (decide (a0 ≠ a0))) rfl rfl (Yz rfl)
theorem k133 {a0 : Int} {a1 : Int} {r : Bool} (H : cmp_Less_int a0 a1 = some r) : Ret Tryz.prog 133 [i6 a0, i6 a1] (.bool r) := by
 refine Vr (n := 17) Tryz.func133 rfl rfl rfl (fun wd => ?_)
 refine Jc<|Ja<|ag (.bool false)<|Jd<|Jc<|Ja<|mv (i6 a0)<|?_
 obtain ⟨t6, h_t6, H7⟩ := Je H; clear H
 refine Vu (k80 h_t6) Tryz.call80 rfl rfl rfl<|mv (.bool t6)<|?_
 refine split (fun hb => ?_) (fun hb => ?_)
 ·have H8 := Jw hb H7; clear H7
  refine mv (i6 a1) ?_
  obtain ⟨t9, h_t9, H9⟩ := Je H8; clear H8
  refine Vu (k80 h_t9) Tryz.call80 rfl rfl rfl<|Jf rfl rfl rfl (Ub rfl)<|Jf rfl rfl rfl (Q5 (v := .bool (!t9)) rfl rfl)<|mv (.bool (!t9))<|?_
  refine split (fun hb => ?_) (fun hb => ?_)
  ·have H10 := Jw hb H9; clear H9
   refine pa<|pa<|pa<|Jf rfl rfl rfl (Q5 (v := .bool true) rfl rfl)<|ag (.bool true)<|Jd<|Jy<|?_
   obtain rfl := Option.some.inj H10
   refine Qw (v := .bool true) rfl rfl (Yz rfl)
  ·have H11 := Jx hb H9; clear H9
   refine mv (i6 a0)<|mv (i6 a1)<|Jf rfl rfl rfl (Q0 rfl rfl)<|Jf rfl rfl rfl (Qr (v := .bool (decide (a0 < a1))) rfl rfl)<|ag (.bool (decide (a0 < a1)))<|Jd<|Jy<|?_
   obtain rfl := Option.some.inj H11
   refine Qw (v := .bool (decide (a0 < a1))) rfl rfl (Yz rfl)
 ·have H12 := Jx hb H7; clear H7
  refine pa<|pa<|pa<|Jf rfl rfl rfl (Qr (v := .bool false) rfl rfl)<|mv (.bool false)<|mv (i6 a0)<|mv (i6 a1)<|Jf rfl rfl rfl (Q0 rfl rfl)<|Jf rfl rfl rfl (Qr (v := .bool (decide (a0 < a1))) rfl rfl)<|ag (.bool (decide (a0 < a1)))<|Jd<|Jy<|?_
  obtain rfl := Option.some.inj H12
  refine Qw (v := .bool (decide (a0 < a1))) rfl rfl (Yz rfl)
theorem k134 {a0 : Int} {r : Bool} (H : Jbc a0 = some r) : Ret Tryz.prog 134 [i6 a0] (.bool r) := by
 refine Vr (n := 6) Tryz.func134 rfl rfl rfl (fun wd => ?_)
 refine Jc<|Ja<|ag (.bool false)<|Jd<|Jc<|Ja<|mv (i6 a0)<|mv (i6 a0)<|Jf rfl rfl rfl (r_neq rfl rfl)<|ag (.bool (decide (a0 ≠ a0)))<|Jd<|Jy<|?_
 obtain rfl := Option.some.inj H
 refine Qw (v := .bool (decide (a0 ≠ a0))) rfl rfl (Yz rfl)
theorem k103 {a0 : (List Int)} {v0 : Value} {a1 : Int} {r : Int × Bool} {w : World} {h : Qg} (hw : Know h w Yl) (f0 : FrS h 1 v0 (a0.map Jl)) (H : Jaa a0 a1 = some r) : Does Tryz.prog 103 (List.toArray [v0, i6 a1]) w (fun v w' => v = (.tuple #[i6 r.1, .bool r.2]) ∧ Grow w w') := by
 refine enter (n := 54) Tryz.func103 rfl rfl rfl Yl [] (Sat.nil _ _)<|Jc<|Ja<|ag (i6 0)<|ag (.bool false)<|Jd<|Jc<|Ja<|mv v0<|Jf rfl rfl rfl (Y0 Tryz.underlying24 rfl f0 rfl)<|ag (i6 (a0.length : Int))<|Jd<|Jc<|Ja<|mv (i6 (a0.length : Int))<|ag (i6 0)<|ag (i6 (a0.length : Int))<|Jd<|?_
 refine Xf (r := r) (σ := Int) (τ := Unit) (fun s => Vq a0 a1 s) (fun s t => [(0, v0), (1, i6 a1), (6, i6 (a0.length : Int)), (7, i6 s)]) (fun s t => []) (fun s t => True) ?_ ?_
 ·refine Ju ?_
  refine X6 (σ := Int × Int) (τ := Unit) (fun next2 s => Yw a0 a1 next2 s.1 s.2) (fun s t => [(0, v0), (1, i6 a1), (6, i6 (a0.length : Int)), (7, i6 s.1), (8, i6 s.2)]) (fun s t => []) (fun s t => True) (0, (a0.length : Int)) () [] H (by exact trivial) (by exact ⟨rfl, rfl, rfl, rfl, rfl, trivial⟩) (by decide) rfl ?_
  rintro ⟨x7_3, x8_2⟩ _ m2 gg H33 _
  clear H
  try dsimp only at H33
  generalize hn2 : it (fun next2 s => Yw a0 a1 next2 s.1 s.2) m2 = next2 at H33
  try dsimp only
  refine Jc<|Jc<|Ja<|mv (i6 x7_3)<|mv (i6 x8_2)<|Jf rfl rfl rfl (Q0 rfl rfl)<|Jd<|?_
  refine Qm (b := (decide (x7_3 < x8_2))) rfl (fun hb => ?_) (fun hb => ?_)
  ·have H34 := Jw hb H33; clear H33
   refine Jv<|Ju<|Jc<|Ja<|mv (i6 x7_3)<|mv (i6 x8_2)<|?_
   obtain ⟨t18, h_t18, H35⟩ := Je H34; clear H34
   refine Jf rfl rfl rfl (Qp rfl rfl h_t18)<|Jf rfl rfl rfl (Ja0 Tryz.runUnderlying3 Tryz.runUnderlying106 rfl (wr_u64 _))<|?_
   obtain ⟨t20, h_t20, H36⟩ := Je H35; clear H35
   refine Jf rfl rfl rfl (r_shrG rfl rfl rfl h_t20)<|Jf rfl rfl rfl (Ja0 Tryz.runUnderlying106 Tryz.runUnderlying3 rfl (wr_i64 _))<|ag (i6 (Xm t20))<|Jd<|Jc<|Ja<|mv v0<|mv (i6 (Xm t20))<|?_
   obtain ⟨t24, h_t24, H37⟩ := Je H36; clear H36
   refine Jf rfl rfl rfl (Qe Tryz.underlying24 Tryz.sizeOf3 rfl rfl f0 h_t24)<|J9 (fun w hF hS => J2 (f := Jl) (i := (Xm t20)) (sz := 1) (j := 0) (v := i6 t24) Tryz.isAgg3 rfl rfl (f0.row (hw.now hF)) h_t24 rfl) rfl rfl rfl<|mv (i6 a1)<|?_
   obtain ⟨t27, h_t27, H38⟩ := Je H37; clear H37
   refine Vu (k133 h_t27) Tryz.call133 rfl rfl rfl<|Jd<|?_
   refine Qm (b := t27) rfl (fun hb => ?_) (fun hb => ?_)
   ·have H39 := Jw hb H38; clear H38
    refine Ja<|mv (i6 (Xm t20))<|?_
    obtain ⟨t29, h_t29, H40⟩ := Je H39; clear H39
    refine Jf rfl rfl rfl (Qp rfl rfl h_t29)<|ag (i6 t29)<|Jd<|?_
    refine Js (t29, x8_2) () m2 [] (by exact ⟨rfl, rfl, rfl, rfl, rfl, trivial⟩) (by decide) rfl (by exact ⟨(by subst hn2; exact H40), trivial⟩) (Nat.lt_succ_self _)
   ·have H41 := Jx hb H38; clear H38
    refine Ja<|mv (i6 (Xm t20))<|ag (i6 (Xm t20))<|Jd<|?_
    refine Js (x7_3, (Xm t20)) () m2 [] (by exact ⟨rfl, rfl, rfl, rfl, rfl, trivial⟩) (by decide) rfl (by exact ⟨(by subst hn2; exact H41), trivial⟩) (Nat.lt_succ_self _)
  ·have H42 := Jx hb H33; clear H33
   refine Q3 ?_
   refine Js x7_3 () 0 [] (by exact ⟨rfl, rfl, rfl, rfl, trivial⟩) (by decide) rfl (by exact ⟨H42, trivial⟩) (Nat.lt_succ_self _)
 ·rintro x7 _ gg H22 _
  try dsimp only at H22
  try dsimp only
  refine Jc<|Ja<|mv (i6 x7)<|mv (i6 x7)<|mv (i6 (a0.length : Int))<|Jf rfl rfl rfl (Q0 rfl rfl)<|mv (.bool (decide (x7 < (a0.length : Int))))<|?_
  refine split (fun hb => ?_) (fun hb => ?_)
  ·have H23 := Jw hb H22; clear H22
   refine mv v0<|mv (i6 x7)<|?_
   obtain ⟨t38, h_t38, H24⟩ := Je H23; clear H23
   refine Jf rfl rfl rfl (Qe Tryz.underlying24 Tryz.sizeOf3 rfl rfl f0 h_t38)<|J9 (fun w hF hS => J2 (f := Jl) (i := x7) (sz := 1) (j := 0) (v := i6 t38) Tryz.isAgg3 rfl rfl (f0.row (hw.now hF)) h_t38 rfl) rfl rfl rfl<|mv (i6 a1)<|Jf rfl rfl rfl (Uv rfl rfl)<|mv (.bool (decide (t38 = a1)))<|?_
   refine split (fun hb => ?_) (fun hb => ?_)
   ·have H25 := Jw hb H24; clear H24
    refine pa<|pa<|pa<|pa<|pa<|pa<|pa<|pa<|pa<|Jf rfl rfl rfl (Q5 (v := .bool true) rfl rfl)<|Jf rfl rfl rfl (Q5 (v := .bool true) rfl rfl)<|ag (i6 x7)<|ag (.bool true)<|Jd<|Jy<|?_
    obtain rfl := Option.some.inj H25
    refine Vz (v1 := i6 x7) (v2 := .bool true) rfl rfl rfl (Yz rfl)
   ·have H26 := Jx hb H24; clear H24
    refine mv v0<|mv (i6 x7)<|?_
    obtain ⟨t45, h_t45, H27⟩ := Je H26; clear H26
    refine Jf rfl rfl rfl (Qe Tryz.underlying24 Tryz.sizeOf3 rfl rfl f0 h_t45)<|J9 (fun w hF hS => J2 (f := Jl) (i := x7) (sz := 1) (j := 0) (v := i6 t45) Tryz.isAgg3 rfl rfl (f0.row (hw.now hF)) h_t45 rfl) rfl rfl rfl<|?_
    obtain ⟨t47, h_t47, H28⟩ := Je H27; clear H27
    refine Vu (k134 h_t47) Tryz.call134 rfl rfl rfl<|mv (.bool t47)<|?_
    refine split (fun hb => ?_) (fun hb => ?_)
    ·have H29 := Jw hb H28; clear H28
     refine mv (i6 a1) ?_
     obtain ⟨t50, h_t50, H30⟩ := Je H29; clear H29
     refine Vu (k134 h_t50) Tryz.call134 rfl rfl rfl<|Jf rfl rfl rfl (Q5 (v := .bool t50) rfl rfl)<|Jf rfl rfl rfl (Qr (v := .bool t50) rfl rfl)<|Jf rfl rfl rfl (Q5 (v := .bool t50) rfl rfl)<|ag (i6 x7)<|ag (.bool t50)<|Jd<|Jy<|?_
     obtain rfl := Option.some.inj H30
     refine Vz (v1 := i6 x7) (v2 := .bool t50) rfl rfl rfl (Yz rfl)
    ·have H31 := Jx hb H28; clear H28
     refine pa<|pa<|Jf rfl rfl rfl (Qr (v := .bool false) rfl rfl)<|Jf rfl rfl rfl (Qr (v := .bool false) rfl rfl)<|Jf rfl rfl rfl (Q5 (v := .bool false) rfl rfl)<|ag (i6 x7)<|ag (.bool false)<|Jd<|Jy<|?_
     obtain rfl := Option.some.inj H31
     refine Vz (v1 := i6 x7) (v2 := .bool false) rfl rfl rfl (Yz rfl)
  ·have H32 := Jx hb H22; clear H22
   refine pa<|pa<|pa<|pa<|pa<|pa<|pa<|pa<|pa<|pa<|pa<|pa<|pa<|pa<|pa<|pa<|pa<|Jf rfl rfl rfl (Qr (v := .bool false) rfl rfl)<|ag (i6 x7)<|ag (.bool false)<|Jd<|Jy<|?_
   obtain rfl := Option.some.inj H32
   refine Vz (v1 := i6 x7) (v2 := .bool false) rfl rfl rfl (Yz rfl)
theorem k55 {a0 : (List Int)} {v0 : Value} {a1 : Int} {r : Bool} {w : World} {h : Qg} (hw : Know h w Yl) (f0 : FrS h 1 v0 (a0.map Jl)) (H : Wr a0 a1 = some r) : Does Tryz.prog 55 (List.toArray [v0, i6 a1]) w (fun v w' => v = (.bool r) ∧ Grow w w') := by
 refine enter (n := 14) Tryz.func55 rfl rfl rfl Yl [] (Sat.nil _ _)<|Jc<|Ja<|ag (.bool false)<|Jd<|Jc<|Ja<|mv v0<|mv (i6 a1)<|?_
 obtain ⟨t10, h_t10, H2⟩ := Je H; clear H
 refine Qf (fun w hF hS => k103 (Jp w) (f0.mono (hw.now hF)) h_t10) Tryz.call103 rfl rfl rfl<|mv (.tuple #[i6 t10.1, .bool t10.2])<|Jf rfl rfl rfl (Qs (v := i6 t10.1) rfl rfl)<|Jf rfl rfl rfl (Qs (v := .bool t10.2) rfl rfl)<|ag (i6 t10.1)<|ag (.bool t10.2)<|Jd<|Jc<|Ja<|mv (.bool t10.2)<|ag (.bool t10.2)<|Jd<|Jy<|?_
 obtain rfl := Option.some.inj H2
 refine Qw (v := .bool t10.2) rfl rfl (Yz rfl)
theorem k92 {q0 : T_face_Person} {vq0_2 : Value} {vq0_3 : Value} {c0 : Nat} {a0 : Int} {r : Bool} {w : World} {h : Qg} (hw : Know h w Yl) (fq0_2 : FrS h 1 vq0_2 (q0.Likes.map Jl)) (fq0_3 : FrS h 1 vq0_3 (q0.Nots.map Jl)) (hc0 : h c0 = some (.cells (List.toArray [i6 q0.Id, Xt q0.Name, vq0_2, vq0_3]) 32 (0, 0))) (H : Jah q0 a0 = some r) : Does Tryz.prog 92 (List.toArray [i6 a0, .pointer (some ⟨c0, 0, none⟩)]) w (fun v w' => v = (.bool r) ∧ Grow w w') := by
 refine enter (n := 8) Tryz.func92 rfl rfl rfl Yl [] (Sat.nil _ _)<|Jc<|Ja<|ag (.bool false)<|Jd<|Jc<|Ja<|Jf rfl rfl rfl (J7 Tryz.runUnderlying32 rfl Tryz.sizeOf24 rfl rfl)<|J9 (fun w hF hS => Vg (v := vq0_3) Tryz.isAgg24 rfl (hw.now hF _ _ hc0) rfl) rfl rfl rfl<|mv (i6 a0)<|?_
 obtain ⟨t7, h_t7, H2⟩ := Je H; clear H
 refine Qf (fun w hF hS => k55 (Jp w) (fq0_3.mono (hw.now hF)) h_t7) Tryz.call55 rfl rfl rfl<|ag (.bool t7)<|Jd<|Jy<|?_
 obtain rfl := Option.some.inj H2
 refine Qw (v := .bool t7) rfl rfl (Yz rfl)
theorem k38 {a0 : (List T_face_Likeness)} {v0 : Value} {a1 : T_face_Person} {v1_2 : Value} {v1_3 : Value} {r : Int} {w : World} {h : Qg} (hw : Know h w Yl) (f0 : FrS h 14 v0 (a0.map Jq)) (f1_2 : FrS h 1 v1_2 (a1.Likes.map Jl)) (f1_3 : FrS h 1 v1_3 (a1.Nots.map Jl)) (H : Jbs a0 a1 = some r) : Does Tryz.prog 38 (List.toArray [v0, .agg #[i6 a1.Id, Xt a1.Name, v1_2, v1_3]]) w (fun v w' => v = (i6 r) ∧ Grow w w') := by
 refine enter (n := 33) Tryz.func38 rfl rfl rfl Yl [] (Sat.nil _ _)<|Jc<|Ja<|?_
 refine Wp (cs := [i6 a1.Id, Xt a1.Name, v1_2, v1_3]) rfl rfl rfl rfl (fun b2 => ?_)
 refine ag (i6 0)<|Jd<|Jc<|Jc<|Ja<|Jf rfl rfl rfl (J7 Tryz.runUnderlying32 rfl Tryz.sizeOf9 rfl rfl)<|Qq (i := 0) (v := Xt a1.Name) Tryz.isAgg9 rfl rfl rfl rfl rfl<|?_
 obtain ⟨t10, h_t10, H16⟩ := Je H; clear H
 refine Vu (k90 h_t10) Tryz.call90 rfl rfl rfl<|Jf rfl rfl rfl (Ub rfl)<|Jd<|?_
 refine Qm (b := (!t10)) rfl (fun hb => ?_) (fun hb => ?_)
 ·have H17 := Jw hb H16; clear H16
  refine Jc<|Ja<|ag (i6 3)<|Jd<|Jy<|?_
  obtain rfl := Option.some.inj H17
  refine Qw (v := i6 3) rfl rfl (Yz rfl)
 ·have H18 := Jx hb H16; clear H16
  refine Jv ?_
  refine Xf (r := r) (σ := Unit) (τ := Unit) (fun s => Jby a1) (fun s t => [(3, .pointer (some ⟨b2, 0, none⟩))]) (fun s t => [Q1 b2 [i6 a1.Id, Xt a1.Name, v1_2, v1_3] 32]) (fun s t => True) ?_ ?_
  ·refine Jc<|Ja<|Jf rfl rfl rfl (J7 Tryz.runUnderlying32 rfl Tryz.sizeOf24 rfl rfl)<|Qq (i := 0) (v := v1_2) Tryz.isAgg24 rfl rfl rfl rfl rfl<|Jf rfl rfl rfl (J7 Tryz.runUnderlying32 rfl Tryz.sizeOf24 rfl rfl)<|Qq (i := 0) (v := v1_3) Tryz.isAgg24 rfl rfl rfl rfl rfl<|?_
   refine Z0 (vs := [v1_2, v1_3]) (cs := [v1_2, v1_3]) Tryz.underlying81 Tryz.sizeOf24 Tryz.zeroValue24 rfl rfl rfl rfl (by simp only [List.all_cons, List.all_nil, cells_sz f1_2.cells, cells_sz f1_3.cells] <;> rfl) rfl (by simp only [List.flatMap_cons, List.flatMap_nil, f1_2.cells, f1_3.cells] <;> rfl) (fun b3 => ?_)
   refine Jf rfl rfl rfl (Jaw Tryz.underlying81 rfl)<|mv (i6 0)<|Jd<|Ju<|?_
   refine X6 (σ := Int) (τ := Unit) (fun next2 s => Zh a0 a1 next2 s) (fun s t => [(0, v0), (3, .pointer (some ⟨b2, 0, none⟩)), (16, .slice (some ⟨b3, 0, none⟩) 2 2), (17, i6 2), (18, i6 s)]) (fun s t => [Q1 b2 [i6 a1.Id, Xt a1.Name, v1_2, v1_3] 32, Q1 b3 [v1_2, v1_3] 24]) (fun s t => True) 0 () [0, 1] H18 (by exact trivial) (by exact ⟨rfl, rfl, rfl, rfl, rfl, trivial⟩) (by decide) rfl ?_
   rintro x18_2 _ m2 gg H23 _
   clear H18
   try dsimp only at H23
   generalize hn2 : it (fun next2 s => Zh a0 a1 next2 s) m2 = next2 at H23
   try dsimp only
   refine Jc<|Ja<|Jf rfl rfl rfl (Q0 rfl rfl)<|Jd<|Jc<|?_
   refine Qm (b := (decide (x18_2 < 2))) rfl (fun hb => ?_) (fun hb => ?_)
   ·have H24 := Jw hb H23; clear H23
    refine Jv<|Jc<|Ju<|Jc<|Ja<|?_
    obtain ⟨t20, h_t20, H25⟩ := Je H24; clear H24
    refine Jf rfl rfl rfl (r_indexS Tryz.underlying81 Tryz.sizeOf24 rfl rfl h_t20 rfl)<|J9 (fun w hF hS => J2 (f := (litC [v1_2, v1_3] 1)) (i := x18_2) (sz := 1) (j := 0) (v := (List.getD (List.take 1 (List.drop ((Int.toNat x18_2) * 1) [v1_2, v1_3])) 0 undef)) Tryz.isAgg24 rfl rfl (row_box (sz := 1) (xs := (List.range 2).map (litC [v1_2, v1_3] 1)) (i := 1) hS rfl rfl rfl) (gAt_range h_t20) (V4 (cgs_int (AllG.el (G := gs_int) (h := h) (sz := 1) (cs := [v1_2, v1_3]) (xs := ([a1.Likes, a1.Nots] : List (List Int))) ⟨f1_2, f1_3, rfl⟩ _ _ (Ye h_t20).2.2)) rfl)) rfl rfl rfl<|ag ((List.getD (List.take 1 (List.drop ((Int.toNat x18_2) * 1) [v1_2, v1_3])) 0 undef))<|Jd<|Jc<|Ja<|mv v0<|mv ((List.getD (List.take 1 (List.drop ((Int.toNat x18_2) * 1) [v1_2, v1_3])) 0 undef))<|?_
    obtain ⟨t24, h_t24, H26⟩ := Je H25; clear H25
    refine Qf (fun w hF hS => k91 (Jp w) (f0.mono (hw.now hF)) ((show FrS h 1 (List.getD (List.take 1 (List.drop ((Int.toNat x18_2) * 1) [v1_2, v1_3])) 0 undef) (t20.map Jl) from (AllG.el (G := gs_int) (h := h) (sz := 1) (cs := [v1_2, v1_3]) (xs := ([a1.Likes, a1.Nots] : List (List Int))) ⟨f1_2, f1_3, rfl⟩ _ _ (Ye h_t20).2.2)).mono (hw.now hF)) h_t24) Tryz.call91 rfl rfl rfl<|ag (i6 t24)<|Jd<|Jc<|Ja<|mv (i6 t24)<|Jf rfl rfl rfl (r_neq rfl rfl)<|Jd<|?_
    refine Qm (b := (decide (t24 ≠ 0))) rfl (fun hb => ?_) (fun hb => ?_)
    ·have H27 := Jw hb H26; clear H26
     refine Jc<|Ja<|mv (i6 t24)<|ag (i6 t24)<|Jd<|Jy<|?_
     obtain rfl := Option.some.inj H27
     refine Qw (v := i6 t24) rfl rfl (Yz rfl)
    ·have H28 := Jx hb H26; clear H26
     refine Jv<|Ja<|?_
     obtain ⟨t28, h_t28, H29⟩ := Je H28; clear H28
     refine Jf rfl rfl rfl (Qp rfl rfl h_t28)<|mv (i6 t28)<|Jd<|?_
     refine Js t28 () m2 [0, 1] (by exact ⟨rfl, rfl, rfl, rfl, rfl, trivial⟩) (by decide) rfl (by exact ⟨(by subst hn2; exact H29), trivial⟩) (Nat.lt_succ_self _)
   ·have H30 := Jx hb H23; clear H23
    refine Q3 ?_
    refine Js () () 0 [0] (by exact ⟨rfl, trivial⟩) (by decide) rfl (by exact ⟨H30, trivial⟩) (Nat.lt_succ_self _)
  ·rintro _ _ gg H19 _
   try dsimp only at H19
   try dsimp only
   refine Jc<|Jc<|Ja<|Jf rfl rfl rfl (J7 Tryz.runUnderlying32 rfl Tryz.sizeOf24 rfl rfl)<|Qq (i := 0) (v := v1_2) Tryz.isAgg24 rfl rfl rfl rfl rfl<|Jf rfl rfl rfl (Jak (caps := #[.pointer (some ⟨b2, 0, none⟩)]) rfl)<|?_
   obtain ⟨t32, h_t32, H20⟩ := Je H19; clear H19
   refine Qf (fun w hF hS => k40 (Jp w) (f1_2.mono (hw.now hF)) (FnH.mk ⟨92, #[], #[.pointer (some ⟨b2, 0, none⟩)], rfl, Tryz.call92, fun args2 post2 w2 hk2 hR2 => by obtain ⟨a0_, r_, rfl, H_, rfl⟩ := hR2; exact k92 (Jp w2) ((f1_2.mono (hw.now hF)).mono hk2.up) ((f1_3.mono (hw.now hF)).mono hk2.up) (hk2.up _ _ (Zr (i := 0) hS rfl)) H_⟩) h_t32) Tryz.call40 rfl rfl rfl<|Jd<|?_
   refine Qm (b := t32) rfl (fun hb => ?_) (fun hb => ?_)
   ·have H21 := Jw hb H20; clear H20
    refine Jc<|Ja<|ag (i6 11)<|Jd<|Jy<|?_
    obtain rfl := Option.some.inj H21
    refine Qw (v := i6 11) rfl rfl (Yz rfl)
   ·have H22 := Jx hb H20; clear H20
    refine Jv<|Jc<|Ja<|ag (i6 0)<|Jd<|Jy<|?_
    obtain rfl := Option.some.inj H22
    refine Qw (v := i6 0) rfl rfl (Yz rfl)
theorem k84 {a0 : (List T_face_Likeness)} {v0 : Value} {a1 : Int} {r : Int} {w : World} {h : Qg} (hw : Know h w Yl) (f0 : FrS h 14 v0 (a0.map Jq)) (H : Jcu a0 a1 = some r) : Does Tryz.prog 84 (List.toArray [v0, i6 a1]) w (fun v w' => v = (i6 r) ∧ Grow w w') := by
 refine enter (n := 18) Tryz.func84 rfl rfl rfl Yl [] (Sat.nil _ _)<|Jc<|Ja<|ag (i6 0)<|Jd<|Jc<|Ja<|mv v0<|mv (i6 a1)<|?_
 obtain ⟨t10, h_t10, H3⟩ := Je H; clear H
 refine Qf (fun w hF hS => k102 (Jp w) (f0.mono (hw.now hF)) h_t10) Tryz.call102 rfl rfl rfl<|mv (.tuple #[i6 t10.1, .bool t10.2])<|Jf rfl rfl rfl (Qs (v := i6 t10.1) rfl rfl)<|Jf rfl rfl rfl (Qs (v := .bool t10.2) rfl rfl)<|ag (i6 t10.1)<|ag (.bool t10.2)<|Jd<|Jc<|Ja<|mv v0<|mv (i6 t10.1)<|?_
 obtain ⟨t15, h_t15, H4⟩ := Je H3; clear H3
 refine Jf rfl rfl rfl (Qe Tryz.underlying22 Tryz.sizeOf52 rfl rfl f0 h_t15)<|Jf rfl rfl rfl (Xv Tryz.runUnderlying52 rfl Tryz.sizeOf3 rfl rfl (Ym f0 h_t15))<|J9 (fun w hF hS => J2 (f := Jq) (i := t10.1) (sz := 14) (j := 1) (v := i6 t15.Photo) Tryz.isAgg3 rfl rfl (f0.row (hw.now hF)) h_t15 rfl) rfl rfl rfl<|ag (i6 t15.Photo)<|Jd<|Jy<|?_
 obtain rfl := Option.some.inj H4
 refine Qw (v := i6 t15.Photo) rfl rfl (Yz rfl)
theorem k39 {a0 : (List T_face_Likeness)} {v0 : Value} {a1 : (List Int)} {v1 : Value} {r : (List Int)} {w : World} {h : Qg} (hw : Know h w Yl) (f0 : FrS h 14 v0 (a0.map Jq)) (f1 : FrS h 1 v1 (a1.map Jl)) (H : Jbz a0 a1 = some r) : Does Tryz.prog 39 (List.toArray [v0, v1]) w (fun v w' => ∃ x : (Option Addr × Nat), v = (sl x r.length) ∧ Turn w w' Yl (J5 3 1 (sl x r.length) r.length (r.map Jl))) := by
 refine enter (n := 22) Tryz.func39 rfl rfl rfl Yl [] (Sat.nil _ _)<|Jc<|Ja<|ag (.slice none 0 0)<|Jd<|Jc<|Ja<|ag (.slice none 0 0)<|Jd<|Jc<|Jc<|Ja<|mv v1<|Jf rfl rfl rfl (Y0 Tryz.underlying24 rfl f1 rfl)<|mv (i6 0)<|Jd<|Ju<|Q9 3 1<|?_
 refine X6 (σ := Int × (List Int)) (τ := (Option Addr × Nat)) (fun next1 s => W0 a0 a1 next1 s.1 s.2) (fun s t => [(0, v0), (5, sl t s.2.length), (8, v1), (9, i6 (a1.length : Int)), (10, i6 s.1)]) (fun s t => [J5 3 1 (sl t s.2.length) s.2.length (s.2.map Jl)]) (fun s t => True) (0, ([] : List Int)) nn [0] H (by exact trivial) (by exact ⟨rfl, rfl, rfl, rfl, rfl, trivial⟩) (by decide) rfl ?_
 rintro ⟨x10_2, l_2⟩ p m1 gg H8 _
 clear H
 try dsimp only at H8
 generalize hn1 : it (fun next1 s => W0 a0 a1 next1 s.1 s.2) m1 = next1 at H8
 try dsimp only
 refine Jc<|Ja<|Jf rfl rfl rfl (Q0 rfl rfl)<|Jd<|Jc<|?_
 refine Qm (b := (decide (x10_2 < (a1.length : Int)))) rfl (fun hb => ?_) (fun hb => ?_)
 ·have H9 := Jw hb H8; clear H8
  refine Jv<|Jc<|Ju<|Jc<|Ja<|?_
  obtain ⟨t12, h_t12, H10⟩ := Je H9; clear H9
  refine Jf rfl rfl rfl (Qe Tryz.underlying24 Tryz.sizeOf3 rfl rfl f1 h_t12)<|J9 (fun w hF hS => J2 (f := Jl) (i := x10_2) (sz := 1) (j := 0) (v := i6 t12) Tryz.isAgg3 rfl rfl (f1.row (hw.now hF)) h_t12 rfl) rfl rfl rfl<|ag (i6 t12)<|Jd<|Ja<|mv (sl p l_2.length)<|mv v0<|mv (i6 t12)<|?_
  obtain ⟨t17, h_t17, H11⟩ := Je H10; clear H10
  refine Qf (fun w hF hS => k84 (Jp w) (f0.mono (hw.now hF)) h_t17) Tryz.call84 rfl rfl rfl ?_
  refine Z0 (vs := [i6 t17]) (cs := [i6 t17]) Tryz.underlying24 Tryz.sizeOf3 Tryz.zeroValue3 rfl rfl rfl rfl rfl rfl rfl (fun b1 => ?_)
  obtain ⟨l19, h_l19, H12⟩ := Je H11; clear H11
  refine Y7 (Ur (i := 0) (hn := rfl) (rds := [1]) (p := p) (sz := 1) (by_ := 8) (f := Jl) (ys := l_2) (ls := ([t17] : List Int)) (V := .slice (some ⟨b1, 0, none⟩) 1 1) Tryz.underlying24 (We Tryz.typeInfo3) rfl rfl rfl rfl rfl rfl rfl rfl rfl rfl (fun w L' hF hS hi => row_box (i := 1) hS ((hi 1 (by simp)).trans rfl) rfl rfl) (fun _ => rfl) (fun _ => rfl) h_l19) rfl rfl rfl (fun p_2 => ?_)
  refine ag (sl p_2 l19.length)<|Jd<|Ja<|?_
  obtain ⟨t20, h_t20, H13⟩ := Je H12; clear H12
  refine Jf rfl rfl rfl (Qp rfl rfl h_t20)<|mv (i6 t20)<|Jd<|?_
  refine Js (t20, l19) p_2 m1 [0] (by exact ⟨rfl, rfl, rfl, rfl, rfl, trivial⟩) (by decide) rfl (by exact ⟨(by subst hn1; exact H13), trivial⟩) (Nat.lt_succ_self _)
 ·have H14 := Jx hb H8; clear H8
  refine Q3<|Jc<|Ja<|mv (sl p l_2.length)<|ag (sl p l_2.length)<|Jd<|Jy<|?_
  obtain rfl := Option.some.inj H14
  refine Qw (v := sl p l_2.length) rfl rfl (Zb p (i := 0) rfl rfl (Imp.refl _))
theorem k41 {q0 : (List (Int × Bool))} {vq0 : Value} {c0 : Nat} {a0 : Int} {r : Bool} {w : World} {h : Qg} (hw : Know h w Yl) (fq0 : FrM h (fun x_ : Int => i6 x_) (fun x_ : Bool => .bool x_) vq0 q0) (hc0 : h c0 = some (.cells (List.toArray [vq0]) 69 (0, 0))) (H : Jcc q0 a0 = some r) : Does Tryz.prog 41 (List.toArray [i6 a0, .pointer (some ⟨c0, 0, none⟩)]) w (fun v w' => v = (.bool r) ∧ Grow w w') := by
 refine enter (n := 7) Tryz.func41 rfl rfl rfl Yl [] (Sat.nil _ _)<|Jc<|Ja<|ag (.bool false)<|Jd<|Jc<|Ja<|J9 (fun w hF hS => Vg (v := vq0) Tryz.isAgg69 rfl (hw.now hF _ _ hc0) rfl) rfl rfl rfl<|mv (i6 a0)<|J9 (fun w hF hS => run_lookupF (fk := (fun x_ : Int => i6 x_)) (fv := (fun x_ : Bool => .bool x_)) (k := a0) (z := false) keyF_int Tryz.underlying69 Tryz.underlying3 Tryz.zeroValue4 rfl rfl (fq0.mono (hw.now hF))) rfl rfl rfl<|ag (.bool ((mGet q0 a0).getD false))<|Jd<|Jy<|?_
 obtain rfl := Option.some.inj H
 refine Qw (v := .bool ((mGet q0 a0).getD false)) rfl rfl (Yz rfl)
theorem k7 {a0 : (List T_face_Likeness)} {v0 : Value} {a1 : (List T_face_Person)} {v1 : Value} {r : Int} {w : World} {h : Qg} (hw : Know h w Yl) (f0 : FrS h 14 v0 (a0.map Jq)) (f1 : FrN h 4 v1 g_face_Person a1) (H : Yn a0 a1 = some r) : Does Tryz.prog 7 (List.toArray [v0, v1]) w (fun v w' => v = (i6 r) ∧ Grow w w') := by
 refine enter (n := 78) Tryz.func7 rfl rfl rfl Yl [] (Sat.nil _ _)<|Jc<|Ja<|ag (i6 0)<|Jd<|Jc<|Jc<|Ja<|mv v0<|?_
 obtain ⟨t14, h_t14, H37⟩ := Je H; clear H
 refine Qf (fun w hF hS => k37 (Jp w) (f0.mono (hw.now hF)) h_t14) Tryz.call37 rfl rfl rfl<|ag (i6 t14)<|Jd<|Jc<|Ja<|mv (i6 t14)<|Jf rfl rfl rfl (r_neq rfl rfl)<|Jd<|?_
 refine Qm (b := (decide (t14 ≠ 0))) rfl (fun hb => ?_) (fun hb => ?_)
 ·have H38 := Jw hb H37; clear H37
  refine Jc<|Ja<|mv (i6 t14)<|ag (i6 t14)<|Jd<|Jy<|?_
  obtain rfl := Option.some.inj H38
  refine Qw (v := i6 t14) rfl rfl (Yz rfl)
 ·have H39 := Jx hb H37; clear H37
  refine Jv<|Jc<|Jc<|Ja<|mv v1<|Jf rfl rfl rfl (Uh Tryz.underlying23 rfl f1)<|Jf rfl rfl rfl (Jaz rfl rfl)<|Jd<|?_
  refine Qm (b := (decide (100 < (a1.length : Int)))) rfl (fun hb => ?_) (fun hb => ?_)
  ·have H40 := Jw hb H39; clear H39
   refine Jc<|Ja<|ag (i6 4)<|Jd<|Jy<|?_
   obtain rfl := Option.some.inj H40
   refine Qw (v := i6 4) rfl rfl (Yz rfl)
  ·have H41 := Jx hb H39; clear H39
   refine Jv<|Jc<|Ja<|?_
   refine Yk (rds := []) (makes_map (fk := (fun x_ : Int => i6 x_)) (fv := (fun x_ : Bool => .bool x_))) rfl rfl rfl (fun b3 => ?_)
   refine Wh (cs := [.map none]) Tryz.zeroValue69 rfl rfl rfl (fun b4 => ?_)
   refine Y8 (i := 1) (vs := [.map (some b3)]) (cs' := [.map (some b3)]) Tryz.sizeOf69 rfl rfl rfl rfl rfl rfl rfl rfl rfl<|Jd<|Jc<|Jc<|Ja<|mv v1<|Jf rfl rfl rfl (Uh Tryz.underlying23 rfl f1)<|mv (i6 0)<|Jd<|Ju<|?_
   refine X6 (σ := Int × (List (Int × Bool))) (τ := Unit) (fun next1 s => Xe a0 a1 next1 s.1 s.2) (fun s t => [(0, v0), (1, v1), (6, .pointer (some ⟨b4, 0, none⟩)), (22, v1), (23, i6 (a1.length : Int)), (24, i6 s.1)]) (fun s t => [mapC (fun x_ : Int => i6 x_) (fun x_ : Bool => .bool x_) b3 s.2, Q1 b4 [.map (some b3)] 69]) (fun s t => True) (0, ([] : (List (Int × Bool)))) () [0, 1] H41 (by exact trivial) (by exact ⟨rfl, rfl, rfl, rfl, rfl, rfl, trivial⟩) (by decide) rfl ?_
   rintro ⟨x24_2, mp_2⟩ _ m1 gg H42 _
   clear H41
   try dsimp only at H42
   generalize hn1 : it (fun next1 s => Xe a0 a1 next1 s.1 s.2) m1 = next1 at H42
   try dsimp only
   refine Jc<|Ja<|Jf rfl rfl rfl (Q0 rfl rfl)<|Jd<|Jc<|?_
   refine Qm (b := (decide (x24_2 < (a1.length : Int)))) rfl (fun hb => ?_) (fun hb => ?_)
   ·have H43 := Jw hb H42; clear H42
    refine Jv ?_
    refine Xf (r := r) (σ := Int × Int × Bool × (List Int) × (List Int) × (List (Int × Bool))) (τ := (Option Addr × Nat) × (Option Addr × Nat)) (fun s => face_CheckPeople_j2 x24_2 next1 s.1 s.2.1 s.2.2.1 s.2.2.2.1 s.2.2.2.2.1 s.2.2.2.2.2) (fun s t => [(0, v0), (1, v1), (6, .pointer (some ⟨b4, 0, none⟩)), (22, v1), (23, i6 (a1.length : Int)), (24, i6 x24_2), (60, .slice t.1.1 s.2.2.2.1.length t.1.2), (61, .slice t.2.1 s.2.2.2.2.1.length t.2.2), (62, i6 s.1), (63, .slice t.1.1 s.2.2.2.1.length t.1.2), (64, i6 s.2.1), (65, .bool s.2.2.1)]) (fun s t => [mapC (fun x_ : Int => i6 x_) (fun x_ : Bool => .bool x_) b3 s.2.2.2.2.2, Q1 b4 [.map (some b3)] 69, J5 3 1 (.slice t.1.1 s.2.2.2.1.length t.1.2) s.2.2.2.1.length (s.2.2.2.1.map Jl), roV 1 (.slice t.2.1 s.2.2.2.2.1.length t.2.2) s.2.2.2.2.1.length (s.2.2.2.2.1.map Jl)]) (fun s t => True) ?_ ?_
    ·refine Ju<|Jc<|Ja<|mv (i6 x24_2)<|?_
     obtain ⟨t27, h_t27, H46⟩ := Je H43; clear H43
     refine Jf rfl rfl rfl (Qe Tryz.underlying23 Tryz.sizeOf32 rfl rfl f1.frs (f1.ix h_t27))<|J9 (fun w hF hS => Qj (f := (elC h v1 4)) (i := x24_2) (sz := 4) (j := 0) (vs := [i6 t27.Id, Xt t27.Name, (Qu h v1 4 (Int.toNat x24_2) 2), (Qu h v1 4 (Int.toNat x24_2) 3)]) Tryz.isAgg32 Tryz.sizeOf32 rfl rfl (f1.frs.row (hw.now hF)) (f1.ix h_t27) (rd_of (J1 (f1.at h_t27)) rfl)) rfl rfl rfl<|?_
     refine Wh (cs := [i6 0, Xt [], .slice none 0 0, .slice none 0 0]) Tryz.zeroValue32 rfl rfl rfl (fun b5 => ?_)
     refine ag (i6 x24_2)<|Y8 (i := 2) (vs := [i6 t27.Id, Xt t27.Name, (Qu h v1 4 (Int.toNat x24_2) 2), (Qu h v1 4 (Int.toNat x24_2) 3)]) (cs' := [i6 t27.Id, Xt t27.Name, (Qu h v1 4 (Int.toNat x24_2) 2), (Qu h v1 4 (Int.toNat x24_2) 3)]) Tryz.sizeOf32 rfl rfl rfl rfl rfl rfl (by simp only [List.all_cons, List.all_nil, (show FrS h 1 (Qu h v1 4 (Int.toNat x24_2) 2) (t27.Likes.map Jl) from (Jm (f1.at h_t27))).one, (show FrS h 1 (Qu h v1 4 (Int.toNat x24_2) 3) (t27.Nots.map Jl) from (Jt (f1.at h_t27))).one] <;> rfl) rfl rfl<|Jd<|Jc<|Jc<|Ja<|Jf rfl rfl rfl (J7 Tryz.runUnderlying32 rfl Tryz.sizeOf3 rfl rfl)<|Qq (i := 2) (v := i6 t27.Id) Tryz.isAgg3 rfl rfl rfl rfl rfl<|?_
     obtain ⟨t31, h_t31, H47⟩ := Je H46; clear H46
     refine Vu (k25 h_t31) Tryz.call25 rfl rfl rfl<|Jd<|?_
     refine Qm (b := t31) rfl (fun hb => ?_) (fun hb => ?_)
     ·have H48 := Jw hb H47; clear H47
      refine Jc<|Ja<|ag (i6 2)<|Jd<|Jy<|?_
      obtain rfl := Option.some.inj H48
      refine Qw (v := i6 2) rfl rfl (Yz rfl)
     ·have H49 := Jx hb H47; clear H47
      refine Jv ?_
      refine Xf (r := r) (σ := Unit) (τ := Unit) (fun s => X7 a0 x24_2 mp_2 next1 t27) (fun s t => [(0, v0), (1, v1), (6, .pointer (some ⟨b4, 0, none⟩)), (8, .pointer (some ⟨b5, 0, none⟩)), (22, v1), (23, i6 (a1.length : Int)), (24, i6 x24_2)]) (fun s t => [mapC (fun x_ : Int => i6 x_) (fun x_ : Bool => .bool x_) b3 mp_2, Q1 b4 [.map (some b3)] 69, Q1 b5 [i6 t27.Id, Xt t27.Name, (Qu h v1 4 (Int.toNat x24_2) 2), (Qu h v1 4 (Int.toNat x24_2) 3)] 32]) (fun s t => True) ?_ ?_
      ·refine Jc ?_
       exact Qz (Kd.p :: Kd.p :: Kd.p :: Kd.p :: Kd.d [2] _ :: Kd.p :: Kd.p :: Kd.p :: Kd.p :: Kd.p :: Kd.d [] _ :: Kd.p :: Kd.p :: []) 0 mixed (by
        refine dm (i6 x24_2)<|Qa rfl rfl (Jaz rfl rfl)<|dm (.bool (decide (0 < x24_2)))<|?_
        refine splitS (fun hb => ?_) (fun hb => ?_)
        ·have H66 := Jw hb H49
         refine Qa rfl rfl (J7 Tryz.runUnderlying32 rfl Tryz.sizeOf3 rfl rfl)<|Z5 (i := 2) (v := i6 t27.Id) Tryz.isAgg3 rfl rfl rfl rfl<|dm v1<|dm (i6 x24_2)<|?_
         have h_t39 := Jr H66
         have H67 := Jn H66
         refine Qa rfl rfl (Zl rfl rfl h_t39) ?_
         have h_t40 := Jr H67
         have H68 := Jn H67
         refine Qa rfl rfl (Qe Tryz.underlying23 Tryz.sizeOf32 rfl rfl f1.frs (f1.ix h_t40))<|Qa rfl rfl (Xv Tryz.runUnderlying32 rfl Tryz.sizeOf3 rfl rfl (Ym f1.frs (f1.ix h_t40)))<|Wb (fun w hF => J2 (f := (elC h v1 4)) (i := (val (gI (x24_2 - 1)))) (sz := 4) (j := 0) (v := i6 (val (Jk a1 (val (gI (x24_2 - 1))))).Id) Tryz.isAgg3 rfl rfl (f1.frs.row (hw.now hF)) (f1.ix h_t40) (V4 (J1 (f1.at h_t40)) rfl)) rfl rfl<|Qa rfl rfl (r_leq rfl rfl)<|Qa rfl rfl (Q5 (v := .bool (decide (t27.Id ≤ (val (Jk a1 (val (gI (x24_2 - 1))))).Id))) rfl rfl)<|Y3<|?_
         refine Qm (b := (decide (t27.Id ≤ (val (Jk a1 (val (gI (x24_2 - 1))))).Id))) rfl (fun hb => ?_) (fun hb => ?_)
         ·have H69 := Jw hb H68; clear H68
          refine Jc<|Ja<|ag (i6 5)<|Jd<|Jy<|?_
          obtain rfl := Option.some.inj H69
          refine Qw (v := i6 5) rfl rfl (Yz rfl)
         ·have H70 := Jx hb H68; clear H68
          refine Jv ?_
          refine Js () () 0 [0, 1, 2] (by exact ⟨rfl, rfl, rfl, rfl, rfl, rfl, rfl, trivial⟩) (by decide) rfl (by exact ⟨H70, trivial⟩) (Nat.lt_succ_self _)
        ·have H71 := Jx hb H49
         refine dp<|dp<|dp<|dp<|dp<|dp<|dp<|dp<|dp<|Qa rfl rfl (Qr (v := .bool false) rfl rfl)<|Y3<|Wq rfl<|Jv<|?_
         refine Js () () 0 [0, 1, 2] (by exact ⟨rfl, rfl, rfl, rfl, rfl, rfl, rfl, trivial⟩) (by decide) rfl (by exact ⟨H71, trivial⟩) (Nat.lt_succ_self _)
        ) (by kernel_rfl)
      ·rintro _ _ gg H50 _
       try dsimp only at H50
       try dsimp only
       refine Jc<|Jc<|Ja<|mv v0<|Uz (i := 2) (vs := [i6 t27.Id, Xt t27.Name, (Qu h v1 4 (Int.toNat x24_2) 2), (Qu h v1 4 (Int.toNat x24_2) 3)]) Tryz.isAgg32 Tryz.sizeOf32 rfl rfl rfl rfl rfl<|?_
       obtain ⟨t47, h_t47, H51⟩ := Je H50; clear H50
       refine Qf (fun w hF hS => k38 (Jp w) (f0.mono (hw.now hF)) ((show FrS h 1 (Qu h v1 4 (Int.toNat x24_2) 2) (t27.Likes.map Jl) from (Jm (f1.at h_t27))).mono (hw.now hF)) ((show FrS h 1 (Qu h v1 4 (Int.toNat x24_2) 3) (t27.Nots.map Jl) from (Jt (f1.at h_t27))).mono (hw.now hF)) h_t47) Tryz.call38 rfl rfl rfl<|ag (i6 t47)<|Jd<|Jc<|Ja<|mv (i6 t47)<|Jf rfl rfl rfl (r_neq rfl rfl)<|Jd<|?_
       refine Qm (b := (decide (t47 ≠ 0))) rfl (fun hb => ?_) (fun hb => ?_)
       ·have H52 := Jw hb H51; clear H51
        refine Jc<|Ja<|mv (i6 t47)<|ag (i6 t47)<|Jd<|Jy<|?_
        obtain rfl := Option.some.inj H52
        refine Qw (v := i6 t47) rfl rfl (Yz rfl)
       ·have H53 := Jx hb H51; clear H51
        refine Jv<|Jc<|Ja<|mv v0<|Jf rfl rfl rfl (J7 Tryz.runUnderlying32 rfl Tryz.sizeOf24 rfl rfl)<|Qq (i := 2) (v := (Qu h v1 4 (Int.toNat x24_2) 2)) Tryz.isAgg24 rfl rfl rfl rfl rfl<|?_
        obtain ⟨t54, h_t54, H54⟩ := Je H53; clear H53
        refine Yk (J8 (rds := []) (G := fun x : (Option Addr × Nat) => sl x t54.length) (C := fun x : (Option Addr × Nat) => J5 3 1 (sl x t54.length) t54.length (t54.map Jl)) (fun w L' hF hS hi => k39 (Jp w) (f0.mono (hw.now hF)) ((show FrS h 1 (Qu h v1 4 (Int.toNat x24_2) 2) (t27.Likes.map Jl) from (Jm (f1.at h_t27))).mono (hw.now hF)) h_t54) Tryz.call39 rfl) rfl rfl rfl (fun p_3 => ?_)
        refine ag (sl p_3 t54.length)<|Jd<|Jc<|Jc<|Ja<|Jf rfl rfl rfl (J7 Tryz.runUnderlying32 rfl Tryz.sizeOf24 rfl rfl)<|Qq (i := 2) (v := (Qu h v1 4 (Int.toNat x24_2) 2)) Tryz.isAgg24 rfl rfl rfl rfl rfl<|Jf rfl rfl rfl (Jak (caps := #[.pointer (some ⟨b4, 0, none⟩)]) rfl)<|?_
        obtain ⟨t58, h_t58, H55⟩ := Je H54; clear H54
        refine Qf (fun w hF hS => k40 (Jp w) ((show FrS h 1 (Qu h v1 4 (Int.toNat x24_2) 2) (t27.Likes.map Jl) from (Jm (f1.at h_t27))).mono (hw.now hF)) (FnH.mk ⟨41, #[], #[.pointer (some ⟨b4, 0, none⟩)], rfl, Tryz.call41, fun args2 post2 w2 hk2 hR2 => by obtain ⟨a0_, r_, rfl, H_, rfl⟩ := hR2; exact k41 (Jp w2) ((frs_map (fk := (fun x_ : Int => i6 x_)) (fv := (fun x_ : Bool => .bool x_)) (i := 0) hS rfl).mono hk2.up) (hk2.up _ _ (Zr (i := 1) hS rfl)) H_⟩) h_t58) Tryz.call40 rfl rfl rfl<|mv (.bool t58)<|?_
        refine split (fun hb => ?_) (fun hb => ?_)
        ·have H56 := Jw hb H55; clear H55
         refine pa<|pa<|pa<|pa<|pa<|pa<|Jf rfl rfl rfl (Q5 (v := .bool true) rfl rfl)<|Jd<|c_true rfl<|Jc<|Ja<|ag (i6 6)<|Jd<|Jy<|?_
         obtain rfl := Option.some.inj H56
         refine Qw (v := i6 6) rfl rfl (Yz rfl)
        ·have H57 := Jx hb H55; clear H55
         refine mv (sl p_3 t54.length) ?_
         obtain ⟨t61, h_t61, H58⟩ := Je H57; clear H57
         refine Yk (J8 (rds := [3]) (G := fun x : (Option Addr × Nat) => sl x t61.length) (C := fun x : (Option Addr × Nat) => roV 1 (sl x t61.length) t61.length (t61.map Jl)) (fun w L' hF hS hi => k36 (Jp w) (frs_own (i := 3) rfl hS ((hi 3 (by simp)).trans rfl)) (FrS.nil _ _) h_t61) Tryz.call36 rfl) rfl rfl rfl (fun p_4 => ?_)
         refine Jf rfl rfl rfl (Jaw Tryz.underlying24 rfl)<|mv (sl p_3 t54.length)<|Jf rfl rfl rfl (Jaw Tryz.underlying24 rfl)<|Jf rfl rfl rfl (Q0 rfl rfl)<|Jf rfl rfl rfl (Qr (v := .bool (decide ((t61.length : Int) < (t54.length : Int)))) rfl rfl)<|Jd<|?_
         refine Qm (b := (decide ((t61.length : Int) < (t54.length : Int)))) rfl (fun hb => ?_) (fun hb => ?_)
         ·have H59 := Jw hb H58; clear H58
          refine Jc<|Ja<|ag (i6 6)<|Jd<|Jy<|?_
          obtain rfl := Option.some.inj H59
          refine Qw (v := i6 6) rfl rfl (Yz rfl)
         ·have H60 := Jx hb H58; clear H58
          refine Jv<|Jc<|Ja<|Jf rfl rfl rfl (J7 Tryz.runUnderlying32 rfl Tryz.sizeOf24 rfl rfl)<|Qq (i := 2) (v := (Qu h v1 4 (Int.toNat x24_2) 2)) Tryz.isAgg24 rfl rfl rfl rfl rfl<|Jf rfl rfl rfl (Y0 Tryz.underlying24 rfl (show FrS h 1 (Qu h v1 4 (Int.toNat x24_2) 2) (t27.Likes.map Jl) from (Jm (f1.at h_t27))) rfl)<|mv (i6 0)<|Jd<|Ju<|c_dr 2<|?_
          try dsimp only [z1, z2, z3, z4, z5, z6, z7, z8]
          refine X6 (σ := Int × (List (Int × Bool))) (τ := Unit) (fun next4 s => Vs x24_2 next1 t27 t54 t61 next4 s.1 s.2) (fun s t => [(0, v0), (1, v1), (6, .pointer (some ⟨b4, 0, none⟩)), (22, v1), (23, i6 (a1.length : Int)), (24, i6 x24_2), (60, sl p_3 t54.length), (61, sl p_4 t61.length), (62, i6 (t61.length : Int)), (63, sl p_3 t54.length), (64, i6 (t54.length : Int)), (65, .bool (decide ((t61.length : Int) < (t54.length : Int)))), (68, (Qu h v1 4 (Int.toNat x24_2) 2)), (69, i6 (t27.Likes.length : Int)), (70, i6 s.1)]) (fun s t => [mapC (fun x_ : Int => i6 x_) (fun x_ : Bool => .bool x_) b3 s.2, Q1 b4 [.map (some b3)] 69, J5 3 1 (sl p_3 t54.length) t54.length (t54.map Jl), roV 1 (sl p_4 t61.length) t61.length (t61.map Jl)]) (fun s t => True) (0, mp_2) () [0, 1, 2, 3] H60 (by exact trivial) (by exact ⟨rfl, rfl, rfl, rfl, rfl, rfl, rfl, rfl, rfl, rfl, rfl, rfl, rfl, rfl, rfl, trivial⟩) (by decide) rfl ?_
          rintro ⟨x70_2, mp_5⟩ _ m4 gg H61 _
          clear H60
          try dsimp only at H61
          generalize hn4 : it (fun next4 s => Vs x24_2 next1 t27 t54 t61 next4 s.1 s.2) m4 = next4 at H61
          try dsimp only
          refine Jc<|Ja<|Jf rfl rfl rfl (Q0 rfl rfl)<|Jd<|Jc<|?_
          refine Qm (b := (decide (x70_2 < (t27.Likes.length : Int)))) rfl (fun hb => ?_) (fun hb => ?_)
          ·have H62 := Jw hb H61; clear H61
           refine Jv<|Jc<|Ju<|Jc<|Ja<|?_
           obtain ⟨t72, h_t72, H63⟩ := Je H62; clear H62
           refine Jf rfl rfl rfl (Qe Tryz.underlying24 Tryz.sizeOf3 rfl rfl (show FrS h 1 (Qu h v1 4 (Int.toNat x24_2) 2) (t27.Likes.map Jl) from (Jm (f1.at h_t27))) h_t72)<|J9 (fun w hF hS => J2 (f := Jl) (i := x70_2) (sz := 1) (j := 0) (v := i6 t72) Tryz.isAgg3 rfl rfl ((show FrS h 1 (Qu h v1 4 (Int.toNat x24_2) 2) (t27.Likes.map Jl) from (Jm (f1.at h_t27))).row (hw.now hF)) h_t72 rfl) rfl rfl rfl<|ag (i6 t72)<|Jd<|Ja<|Qq (i := 1) (v := .map (some b3)) Tryz.isAgg69 rfl rfl rfl rfl rfl<|mv (i6 t72)<|?_
           refine Jb4 (turns_mset (u := true) (i := 0) (rds := []) (fk := (fun x_ : Int => i6 x_)) (fv := (fun x_ : Bool => .bool x_)) (k := t72) (v := true) keyF_int (.inr rfl) Tryz.underlying69 Tryz.underlying3 rfl rfl rfl rfl) rfl rfl (fun _ => ?_)
           refine Jd<|Ja<|?_
           obtain ⟨t76, h_t76, H64⟩ := Je H63; clear H63
           refine Jf rfl rfl rfl (Qp rfl rfl h_t76)<|mv (i6 t76)<|Jd<|?_
           refine Js (t76, (mSet mp_5 t72 true)) () m4 [0, 1, 2, 3] (by exact ⟨rfl, rfl, rfl, rfl, rfl, rfl, rfl, rfl, rfl, rfl, rfl, rfl, rfl, rfl, rfl, trivial⟩) (by decide) rfl (by exact ⟨(by subst hn4; exact H64), trivial⟩) (Nat.lt_succ_self _)
          ·have H65 := Jx hb H61; clear H61
           refine Q3 ?_
           refine Js ((t61.length : Int), (t54.length : Int), (decide ((t61.length : Int) < (t54.length : Int))), t54, t61, mp_5) (p_3, p_4) 0 [0, 1, 2, 3] (by exact ⟨rfl, rfl, rfl, rfl, rfl, rfl, rfl, rfl, rfl, rfl, rfl, rfl, trivial⟩) (by decide) rfl (by exact ⟨H65, trivial⟩) (Nat.lt_succ_self _)
    ·rintro ⟨x62, x64, x65, l, l_2, mp_3⟩ ⟨p, p_2⟩ gg H44 _
     try dsimp only at H44
     try dsimp only
     refine Ja ?_
     obtain ⟨t77, h_t77, H45⟩ := Je H44; clear H44
     refine Jf rfl rfl rfl (Qp rfl rfl h_t77)<|mv (i6 t77)<|Jd<|?_
     refine Js (t77, mp_3) () m1 [0, 1] (by exact ⟨rfl, rfl, rfl, rfl, rfl, rfl, trivial⟩) (by decide) rfl (by exact ⟨(by subst hn1; exact H45), trivial⟩) (Nat.lt_succ_self _)
   ·have H72 := Jx hb H42; clear H42
    refine Q3<|Jc<|Ja<|ag (i6 0)<|Jd<|Jy<|?_
    obtain rfl := Option.some.inj H72
    refine Qw (v := i6 0) rfl rfl (Yz rfl)
theorem k46 {a0 : (List T_face_Person)} {v0 : Value} {a1 : (T_face_Person → Option (Bool))} {v1 : Value} {r : Int} {w : World} {h : Qg} (hw : Know h w Yl) (f0 : FrN h 4 v0 g_face_Person a0) (f1 : FnH Tryz.prog h v1 (Jbv a1)) (H : Ze a0 a1 = some r) : Does Tryz.prog 46 (List.toArray [v0, v1]) w (fun v w' => v = (i6 r) ∧ Grow w w') := by
 refine enter (n := 19) Tryz.func46 rfl rfl rfl Yl [] (Sat.nil _ _)<|Jc<|Ja<|ag (i6 0)<|Jd<|Jc<|Jc<|Ja<|mv v0<|Jf rfl rfl rfl (Uh Tryz.underlying23 rfl f0)<|mv (i6 0)<|Jd<|Ju<|?_
 refine X6 (σ := Int) (τ := Unit) (fun next1 s => Vw a0 a1 next1 s) (fun s t => [(0, v0), (1, v1), (7, i6 (a0.length : Int)), (8, i6 s)]) (fun s t => []) (fun s t => True) 0 () [] H (by exact trivial) (by exact ⟨rfl, rfl, rfl, rfl, trivial⟩) (by decide) rfl ?_
 rintro x8_2 _ m1 gg H9 _
 clear H
 try dsimp only at H9
 generalize hn1 : it (fun next1 s => Vw a0 a1 next1 s) m1 = next1 at H9
 try dsimp only
 refine Jc<|Ja<|Jf rfl rfl rfl (Q0 rfl rfl)<|Jd<|Jc<|?_
 refine Qm (b := (decide (x8_2 < (a0.length : Int)))) rfl (fun hb => ?_) (fun hb => ?_)
 ·have H10 := Jw hb H9; clear H9
  refine Jv<|Jc<|Ju<|Jc<|Ja<|mv (i6 x8_2)<|ag (i6 x8_2)<|Jd<|Jc<|Ja<|mv v1<|mv v0<|mv (i6 x8_2)<|?_
  obtain ⟨t14, h_t14, H11⟩ := Je H10; clear H10
  refine Jf rfl rfl rfl (Qe Tryz.underlying23 Tryz.sizeOf32 rfl rfl f0.frs (f0.ix h_t14))<|J9 (fun w hF hS => Qj (f := (elC h v0 4)) (i := x8_2) (sz := 4) (j := 0) (vs := [i6 t14.Id, Xt t14.Name, (Qu h v0 4 (Int.toNat x8_2) 2), (Qu h v0 4 (Int.toNat x8_2) 3)]) Tryz.isAgg32 Tryz.sizeOf32 rfl rfl (f0.frs.row (hw.now hF)) (f0.ix h_t14) (rd_of (J1 (f0.at h_t14)) rfl)) rfl rfl rfl<|?_
  obtain ⟨t16, h_t16, H12⟩ := Je H11; clear H11
  refine l_callV (R := Jbv a1) (r := .bool t16) (v := v1) (fun w hF hS => ⟨(f1.mono (hw.now hF)), ⟨t14, _, _, _, ((show FrS h 1 (Qu h v0 4 (Int.toNat x8_2) 2) (t14.Likes.map Jl) from (Jm (f0.at h_t14))).mono (hw.now hF)), ((show FrS h 1 (Qu h v0 4 (Int.toNat x8_2) 3) (t14.Nots.map Jl) from (Jt (f0.at h_t14))).mono (hw.now hF)), rfl, h_t16, rfl⟩⟩) rfl rfl rfl rfl<|Jd<|?_
  refine Qm (b := t16) rfl (fun hb => ?_) (fun hb => ?_)
  ·have H13 := Jw hb H12; clear H12
   refine Jc<|Ja<|mv (i6 x8_2)<|ag (i6 x8_2)<|Jd<|Jy<|?_
   obtain rfl := Option.some.inj H13
   refine Qw (v := i6 x8_2) rfl rfl (Yz rfl)
  ·have H14 := Jx hb H12; clear H12
   refine Jv<|Ja<|?_
   obtain ⟨t18, h_t18, H15⟩ := Je H14; clear H14
   refine Jf rfl rfl rfl (Qp rfl rfl h_t18)<|mv (i6 t18)<|Jd<|?_
   refine Js t18 () m1 [] (by exact ⟨rfl, rfl, rfl, rfl, trivial⟩) (by decide) rfl (by exact ⟨(by subst hn1; exact H15), trivial⟩) (Nat.lt_succ_self _)
 ·have H16 := Jx hb H9; clear H9
  refine Q3<|Jc<|Ja<|ag (i6 (-1))<|Jd<|Jy<|?_
  obtain rfl := Option.some.inj H16
  refine Qw (v := i6 (-1)) rfl rfl (Yz rfl)
theorem k83 {q0 : Int} {c0 : Nat} {a0 : T_face_Person} {v0_2 : Value} {v0_3 : Value} {r : Bool} {w : World} {h : Qg} (hw : Know h w Yl) (hc0 : h c0 = some (.cells (List.toArray [i6 q0]) 3 (0, 0))) (f0_2 : FrS h 1 v0_2 (a0.Likes.map Jl)) (f0_3 : FrS h 1 v0_3 (a0.Nots.map Jl)) (H : Jbt q0 a0 = some r) : Does Tryz.prog 83 (List.toArray [.agg #[i6 a0.Id, Xt a0.Name, v0_2, v0_3], .pointer (some ⟨c0, 0, none⟩)]) w (fun v w' => v = (.bool r) ∧ Grow w w') := by
 refine enter (n := 8) Tryz.func83 rfl rfl rfl Yl [] (Sat.nil _ _)<|Jc<|Ja<|?_
 refine Wp (cs := [i6 a0.Id, Xt a0.Name, v0_2, v0_3]) rfl rfl rfl rfl (fun b1 => ?_)
 refine ag (.bool false)<|Jd<|Jc<|Ja<|Jf rfl rfl rfl (J7 Tryz.runUnderlying32 rfl Tryz.sizeOf24 rfl rfl)<|Qq (i := 0) (v := v0_2) Tryz.isAgg24 rfl rfl rfl rfl rfl<|J9 (fun w hF hS => Vg (v := i6 q0) Tryz.isAgg3 rfl (hw.now hF _ _ hc0) rfl) rfl rfl rfl<|?_
 obtain ⟨t7, h_t7, H2⟩ := Je H; clear H
 refine Qf (fun w hF hS => k55 (Jp w) (f0_2.mono (hw.now hF)) h_t7) Tryz.call55 rfl rfl rfl<|ag (.bool t7)<|Jd<|Jy<|?_
 obtain rfl := Option.some.inj H2
 refine Qw (v := .bool t7) rfl rfl (Yz rfl)
theorem k34 {a0 : (List T_face_Person)} {v0 : Value} {a1 : Int} {r : Int} {w : World} {h : Qg} (hw : Know h w Yl) (f0 : FrN h 4 v0 g_face_Person a0) (H : Ut a0 a1 = some r) : Does Tryz.prog 34 (List.toArray [v0, i6 a1]) w (fun v w' => v = (i6 r) ∧ Grow w w') := by
 refine enter (n := 8) Tryz.func34 rfl rfl rfl Yl [] (Sat.nil _ _)<|Jc<|Ja<|?_
 refine Wp (cs := [i6 a1]) rfl rfl rfl rfl (fun b1 => ?_)
 refine ag (i6 0)<|Jd<|Jc<|Ja<|mv v0<|Jf rfl rfl rfl (Jak (caps := #[.pointer (some ⟨b1, 0, none⟩)]) rfl)<|?_
 obtain ⟨t7, h_t7, H2⟩ := Je H; clear H
 refine Qf (fun w hF hS => k46 (Jp w) (f0.mono (hw.now hF)) (FnH.mk ⟨83, #[], #[.pointer (some ⟨b1, 0, none⟩)], rfl, Tryz.call83, fun args2 post2 w2 hk2 hR2 => by obtain ⟨a0_, v0_2_, v0_3_, r_, fa0_2_, fa0_3_, rfl, H_, rfl⟩ := hR2; exact k83 (Jp w2) (hk2.up _ _ (Zr (i := 0) hS rfl)) fa0_2_ fa0_3_ H_⟩) h_t7) Tryz.call46 rfl rfl rfl<|ag (i6 t7)<|Jd<|Jy<|?_
 obtain rfl := Option.some.inj H2
 refine Qw (v := i6 t7) rfl rfl (Yz rfl)
theorem k101 {a0 : (List Int)} {v0 : Value} {a1 : Int} {r : Int} {w : World} {h : Qg} (hw : Know h w Yl) (f0 : FrS h 1 v0 (a0.map Jl)) (H : Jc3 a0 a1 = some r) : Does Tryz.prog 101 (List.toArray [v0, i6 a1]) w (fun v w' => v = (i6 r) ∧ Grow w w') := by
 refine enter (n := 19) Tryz.func101 rfl rfl rfl Yl [] (Sat.nil _ _)<|Jc<|Ja<|ag (i6 0)<|Jd<|Jc<|Jc<|Ja<|mv v0<|Jf rfl rfl rfl (Y0 Tryz.underlying24 rfl f0 rfl)<|mv (i6 0)<|Jd<|Ju<|?_
 refine X6 (σ := Int) (τ := Unit) (fun next1 s => Jbw a0 a1 next1 s) (fun s t => [(0, v0), (1, i6 a1), (7, i6 (a0.length : Int)), (8, i6 s)]) (fun s t => []) (fun s t => True) 0 () [] H (by exact trivial) (by exact ⟨rfl, rfl, rfl, rfl, trivial⟩) (by decide) rfl ?_
 rintro x8_2 _ m1 gg H8 _
 clear H
 try dsimp only at H8
 generalize hn1 : it (fun next1 s => Jbw a0 a1 next1 s) m1 = next1 at H8
 try dsimp only
 refine Jc<|Ja<|Jf rfl rfl rfl (Q0 rfl rfl)<|Jd<|Jc<|?_
 refine Qm (b := (decide (x8_2 < (a0.length : Int)))) rfl (fun hb => ?_) (fun hb => ?_)
 ·have H9 := Jw hb H8; clear H8
  refine Jv<|Jc<|Ju<|Jc<|Ja<|mv (i6 x8_2)<|ag (i6 x8_2)<|Jd<|Jc<|Ja<|mv (i6 a1)<|mv v0<|mv (i6 x8_2)<|?_
  obtain ⟨t14, h_t14, H10⟩ := Je H9; clear H9
  refine Jf rfl rfl rfl (Qe Tryz.underlying24 Tryz.sizeOf3 rfl rfl f0 h_t14)<|J9 (fun w hF hS => J2 (f := Jl) (i := x8_2) (sz := 1) (j := 0) (v := i6 t14) Tryz.isAgg3 rfl rfl (f0.row (hw.now hF)) h_t14 rfl) rfl rfl rfl<|Jf rfl rfl rfl (Uv rfl rfl)<|Jd<|?_
  refine Qm (b := (decide (a1 = t14))) rfl (fun hb => ?_) (fun hb => ?_)
  ·have H11 := Jw hb H10; clear H10
   refine Jc<|Ja<|mv (i6 x8_2)<|ag (i6 x8_2)<|Jd<|Jy<|?_
   obtain rfl := Option.some.inj H11
   refine Qw (v := i6 x8_2) rfl rfl (Yz rfl)
  ·have H12 := Jx hb H10; clear H10
   refine Jv<|Ja<|?_
   obtain ⟨t18, h_t18, H13⟩ := Je H12; clear H12
   refine Jf rfl rfl rfl (Qp rfl rfl h_t18)<|mv (i6 t18)<|Jd<|?_
   refine Js t18 () m1 [] (by exact ⟨rfl, rfl, rfl, rfl, trivial⟩) (by decide) rfl (by exact ⟨(by subst hn1; exact H13), trivial⟩) (Nat.lt_succ_self _)
 ·have H14 := Jx hb H8; clear H8
  refine Q3<|Jc<|Ja<|ag (i6 (-1))<|Jd<|Jy<|?_
  obtain rfl := Option.some.inj H14
  refine Qw (v := i6 (-1)) rfl rfl (Yz rfl)
theorem k53 {a0 : (List Int)} {v0 : Value} {a1 : Int} {r : Bool} {w : World} {h : Qg} (hw : Know h w Yl) (f0 : FrS h 1 v0 (a0.map Jl)) (H : Xs a0 a1 = some r) : Does Tryz.prog 53 (List.toArray [v0, i6 a1]) w (fun v w' => v = (.bool r) ∧ Grow w w') := by
 refine enter (n := 9) Tryz.func53 rfl rfl rfl Yl [] (Sat.nil _ _)<|Jc<|Ja<|ag (.bool false)<|Jd<|Jc<|Ja<|mv v0<|mv (i6 a1)<|?_
 obtain ⟨t7, h_t7, H2⟩ := Je H; clear H
 refine Qf (fun w hF hS => k101 (Jp w) (f0.mono (hw.now hF)) h_t7) Tryz.call101 rfl rfl rfl<|Jf rfl rfl rfl (r_geq rfl rfl)<|ag (.bool (decide (0 ≤ t7)))<|Jd<|Jy<|?_
 obtain rfl := Option.some.inj H2
 refine Qw (v := .bool (decide (0 ≤ t7))) rfl rfl (Yz rfl)
theorem k35 {a0 : (List T_face_Likeness)} {v0 : Value} {a1 : T_face_Person} {v1_2 : Value} {v1_3 : Value} {a2 : Int} {r : Bool} {w : World} {h : Qg} (hw : Know h w Yl) (f0 : FrS h 14 v0 (a0.map Jq)) (f1_2 : FrS h 1 v1_2 (a1.Likes.map Jl)) (f1_3 : FrS h 1 v1_3 (a1.Nots.map Jl)) (H : V6 a0 a1 a2 = some r) : Does Tryz.prog 35 (List.toArray [v0, .agg #[i6 a1.Id, Xt a1.Name, v1_2, v1_3], i6 a2]) w (fun v w' => v = (.bool r) ∧ Grow w w') := by
 refine enter (n := 15) Tryz.func35 rfl rfl rfl Yl [] (Sat.nil _ _)<|Jc<|Ja<|?_
 refine Wp (cs := [i6 a1.Id, Xt a1.Name, v1_2, v1_3]) rfl rfl rfl rfl (fun b1 => ?_)
 refine ag (.bool false)<|Jd<|Jc<|Ja<|mv v0<|Jf rfl rfl rfl (J7 Tryz.runUnderlying32 rfl Tryz.sizeOf24 rfl rfl)<|Qq (i := 0) (v := v1_2) Tryz.isAgg24 rfl rfl rfl rfl rfl<|?_
 obtain ⟨t10, h_t10, H4⟩ := Je H; clear H
 refine Yk (J8 (rds := []) (G := fun x : (Option Addr × Nat) => sl x t10.length) (C := fun x : (Option Addr × Nat) => J5 3 1 (sl x t10.length) t10.length (t10.map Jl)) (fun w L' hF hS hi => k39 (Jp w) (f0.mono (hw.now hF)) (f1_2.mono (hw.now hF)) h_t10) Tryz.call39 rfl) rfl rfl rfl (fun p => ?_)
 refine mv v0<|mv (i6 a2)<|?_
 obtain ⟨t13, h_t13, H5⟩ := Je H4; clear H4
 refine Qf (fun w hF hS => k84 (Jp w) (f0.mono (hw.now hF)) h_t13) Tryz.call84 rfl rfl rfl ?_
 obtain ⟨t14, h_t14, H6⟩ := Je H5; clear H5
 refine Qf (fun w hF hS => k53 (Jp w) (frs_own (i := 1) rfl hS rfl) h_t14) Tryz.call53 rfl rfl rfl<|ag (.bool t14)<|Jd<|Jy<|?_
 obtain rfl := Option.some.inj H6
 refine Qw (v := .bool t14) rfl rfl (Yz rfl)
theorem k31 {a0 : Int} {a1 : Int} {r : Int} (H : cmp_Compare_int a0 a1 = some r) : Ret Tryz.prog 31 [i6 a0, i6 a1] (i6 r) := by
 refine Vr (n := 20) Tryz.func31 rfl rfl rfl (fun wd => ?_)
 refine Jc<|Ja<|ag (i6 0)<|Jd<|Jc<|Ja<|mv (i6 a0)<|?_
 obtain ⟨t8, h_t8, H13⟩ := Je H; clear H
 refine Vu (k80 h_t8) Tryz.call80 rfl rfl rfl<|ag (.bool t8)<|Jd<|Jc<|Ja<|mv (i6 a1)<|?_
 obtain ⟨t10, h_t10, H14⟩ := Je H13; clear H13
 refine Vu (k80 h_t10) Tryz.call80 rfl rfl rfl<|ag (.bool t10)<|Jd<|Jc<|Jc<|Ja<|mv (.bool t8)<|Jd<|?_
 refine Qm (b := t8) rfl (fun hb => ?_) (fun hb => ?_)
 ·have H15 := Jw hb H14; clear H14
  refine Jc<|Jc<|Ja<|mv (.bool t10)<|Jd<|?_
  refine Qm (b := t10) rfl (fun hb => ?_) (fun hb => ?_)
  ·have H16 := Jw hb H15; clear H15
   refine Jc<|Ja<|ag (i6 0)<|Jd<|Jy<|?_
   obtain rfl := Option.some.inj H16
   refine Qw (v := i6 0) rfl rfl (Yz rfl)
  ·have H17 := Jx hb H15; clear H15
   refine Jv<|Jc<|Ja<|ag (i6 (-1))<|Jd<|Jy<|?_
   obtain rfl := Option.some.inj H17
   refine Qw (v := i6 (-1)) rfl rfl (Yz rfl)
 ·have H18 := Jx hb H14; clear H14
  refine Jv<|Jc<|Jc<|Ja<|mv (.bool t10)<|Jd<|?_
  refine Qm (b := t10) rfl (fun hb => ?_) (fun hb => ?_)
  ·have H19 := Jw hb H18; clear H18
   refine Jc<|Ja<|ag (i6 1)<|Jd<|Jy<|?_
   obtain rfl := Option.some.inj H19
   refine Qw (v := i6 1) rfl rfl (Yz rfl)
  ·have H20 := Jx hb H18; clear H18
   refine Jv<|Jc<|Jc<|Ja<|mv (i6 a0)<|mv (i6 a1)<|Jf rfl rfl rfl (Q0 rfl rfl)<|Jd<|?_
   refine Qm (b := (decide (a0 < a1))) rfl (fun hb => ?_) (fun hb => ?_)
   ·have H21 := Jw hb H20; clear H20
    refine Jc<|Ja<|ag (i6 (-1))<|Jd<|Jy<|?_
    obtain rfl := Option.some.inj H21
    refine Qw (v := i6 (-1)) rfl rfl (Yz rfl)
   ·have H22 := Jx hb H20; clear H20
    refine Jv<|Jc<|Jc<|Ja<|mv (i6 a0)<|mv (i6 a1)<|Jf rfl rfl rfl (Jaz rfl rfl)<|Jd<|?_
    refine Qm (b := (decide (a1 < a0))) rfl (fun hb => ?_) (fun hb => ?_)
    ·have H23 := Jw hb H22; clear H22
     refine Jc<|Ja<|ag (i6 1)<|Jd<|Jy<|?_
     obtain rfl := Option.some.inj H23
     refine Qw (v := i6 1) rfl rfl (Yz rfl)
    ·have H24 := Jx hb H22; clear H22
     refine Jv<|Jc<|Ja<|ag (i6 0)<|Jd<|Jy<|?_
     obtain rfl := Option.some.inj H24
     refine Qw (v := i6 0) rfl rfl (Yz rfl)
theorem k44 {a : Option Addr} {n c : Nat} (hc : n ≤ c) : Ret Tryz.prog 44 [.slice a n c] (.slice (Za a 0 n 4) n n) := by
  refine Vr (n := 9) Tryz.func44 rfl rfl rfl (fun wd => ?_)
  refine Jc<|Ja<|ag (.slice none 0 0)<|Jd<|Jc<|Ja<|mv (.slice a n c)<|mv (.slice a n c)<|Jf rfl rfl rfl (Jaw Tryz.underlying23 rfl)<|mv (.slice a n c)<|Jf rfl rfl rfl (Jaw Tryz.underlying23 rfl)<|Jf rfl rfl rfl (r_sliceHM (a := a) (m := n) (c := c) (h := (n : Int)) (q := (n : Int)) Tryz.underlying23 Tryz.sizeOf32 rfl rfl rfl (Int.natCast_nonneg n) (Int.le_refl _) (Int.ofNat_le.2 hc))<|ag (.slice (Za a 0 n 4) n n)<|Jd<|Jy<|?_
  exact Qw (v := .slice (Za a 0 n 4) n n) rfl rfl (Yz rfl)
theorem k32 {a0 : (List T_face_Person)} {v0 : Value} {r : (List T_face_Person)} {w : World} {h : Qg} (hw : Know h w Yl) (f0 : FrN h 4 v0 g_face_Person a0) (H : Vt a0 = some r) : Does Tryz.prog 32 (List.toArray [v0]) w (fun v w' => ∃ x : (Option Addr × Nat), v = (sl x r.length) ∧ Turn w w' Yl (rofD true 32 4 g_face_Person (sl x r.length) r.length r)) := by
 refine enter (n := 27) Tryz.func32 rfl rfl rfl Yl [] (Sat.nil _ _)<|Wy Yo<|Jc<|Ja<|ag (.slice none 0 0)<|Jd<|Jc<|Ja<|ag (.slice none 0 0)<|Jd<|?_
 refine Xf (r := r) (σ := (List T_face_Person)) (τ := Qg × (List (List Value)) × (Option Addr × Nat)) (fun s => Jce s) (fun s t => [(3, .slice t.2.2.1 t.2.1.length t.2.2.2)]) (fun s t => [Yx Yo t.1, J5 32 4 (.slice t.2.2.1 t.2.1.length t.2.2.2) t.2.1.length (t.2.1.map idC)]) (fun s t => AllC g_face_Person t.1 4 t.2.1 s) ?_ ?_
 ·refine Jc<|Ja<|mv v0<|Jf rfl rfl rfl (Uh Tryz.underlying23 rfl f0)<|mv (i6 0)<|Jd<|Ju<|Q9 32 4<|?_
  refine X6 (σ := Int × Int × (List T_face_Person)) (τ := Qg × (List (List Value)) × (Option Addr × Nat)) (fun next2 s => W5 a0 next2 s.1 s.2.1 s.2.2) (fun s t => [(3, .slice t.2.2.1 t.2.1.length t.2.2.2), (6, v0), (7, i6 s.1), (8, i6 s.2.1)]) (fun s t => [Yx Yo t.1, J5 32 4 (.slice t.2.2.1 t.2.1.length t.2.2.2) t.2.1.length (t.2.1.map idC)]) (fun s t => AllC g_face_Person t.1 4 t.2.1 s.2.2) ((a0.length : Int), 0, ([] : List T_face_Person)) (Yo, ([] : List (List Value)), nn) [0, 1] H (by exact (AllC.nil (G := g_face_Person) (h := Yo) (sz := 4))) (by exact ⟨rfl, rfl, rfl, rfl, trivial⟩) (by decide) rfl ?_
  rintro ⟨x7_2, x8_2, l_3⟩ ⟨hp_2, css_2, p_2⟩ m2 gg H20 pf_3
  clear H
  try dsimp only at H20
  generalize hn2 : it (fun next2 s => W5 a0 next2 s.1 s.2.1 s.2.2) m2 = next2 at H20
  try dsimp only
  refine Jc<|Ja<|Jf rfl rfl rfl (Q0 rfl rfl)<|Jd<|Jc<|?_
  refine Qm (b := (decide (x8_2 < x7_2))) rfl (fun hb => ?_) (fun hb => ?_)
  ·have H21 := Jw hb H20; clear H20
   refine Jv<|Jc<|Ju<|Jc<|Ja<|?_
   obtain ⟨t10, h_t10, H22⟩ := Je H21; clear H21
   refine Jf rfl rfl rfl (Qe Tryz.underlying23 Tryz.sizeOf32 rfl rfl f0.frs (f0.ix h_t10))<|J9 (fun w hF hS => Qj (f := (elC h v0 4)) (i := x8_2) (sz := 4) (j := 0) (vs := [i6 t10.Id, Xt t10.Name, (Qu h v0 4 (Int.toNat x8_2) 2), (Qu h v0 4 (Int.toNat x8_2) 3)]) Tryz.isAgg32 Tryz.sizeOf32 rfl rfl (f0.frs.row (hw.now hF)) (f0.ix h_t10) (rd_of (J1 (f0.at h_t10)) rfl)) rfl rfl rfl<|?_
   refine Wh (cs := [i6 0, Xt [], .slice none 0 0, .slice none 0 0]) Tryz.zeroValue32 rfl rfl rfl (fun b4 => ?_)
   refine Y8 (i := 2) (vs := [i6 t10.Id, Xt t10.Name, (Qu h v0 4 (Int.toNat x8_2) 2), (Qu h v0 4 (Int.toNat x8_2) 3)]) (cs' := [i6 t10.Id, Xt t10.Name, (Qu h v0 4 (Int.toNat x8_2) 2), (Qu h v0 4 (Int.toNat x8_2) 3)]) Tryz.sizeOf32 rfl rfl rfl rfl rfl rfl (by simp only [List.all_cons, List.all_nil, (show FrS h 1 (Qu h v0 4 (Int.toNat x8_2) 2) (t10.Likes.map Jl) from (Jm (f0.at h_t10))).one, (show FrS h 1 (Qu h v0 4 (Int.toNat x8_2) 3) (t10.Nots.map Jl) from (Jt (f0.at h_t10))).one] <;> rfl) rfl rfl<|Jd<|?_
   try dsimp only [z1, z2, z5, z6, z7, z8]
   refine Jc ?_
   exact Qz (Kd.p :: Kd.d [2] _ :: Kd.t 3 [0] _ _ :: Kd.p :: Kd.d [2] _ :: Kd.t 4 [0] _ _ :: Kd.p :: Kd.sv 18 14 2 _ 32 :: Kd.p :: Kd.stk 19 17 2 :: []) 2 mixed (by
    refine Qa rfl rfl (J7 Tryz.runUnderlying32 rfl Tryz.sizeOf24 rfl rfl)<|Z5 (i := 2) (v := (Qu h v0 4 (Int.toNat x8_2) 2)) Tryz.isAgg24 rfl rfl rfl rfl<|?_
    have h_t14 := Jr H22
    have H23 := Jn H22
    refine Uc (Cv := fun v => roV 1 v (val (Jh t10.Likes ([] : (List Int)))).length ((val (Jh t10.Likes ([] : (List Int)))).map Jl)) (none, 0) (J8 (G := fun x : (Option Addr × Nat) => sl x (val (Jh t10.Likes ([] : (List Int)))).length) (C := fun x : (Option Addr × Nat) => roV 1 (sl x (val (Jh t10.Likes ([] : (List Int)))).length) (val (Jh t10.Likes ([] : (List Int)))).length ((val (Jh t10.Likes ([] : (List Int)))).map Jl)) (fun w L' hF hS hi => k36 (Jp w) ((show FrS h 1 (Qu h v0 4 (Int.toNat x8_2) 2) (t10.Likes.map Jl) from (Jm (f0.at h_t10))).mono (hw.now hF)) (FrS.nil _ _) h_t14) Tryz.call36 rfl) (fun _ => rfl) rfl rfl rfl (fun p_3 => ?_)
    refine Qa rfl rfl (J7 Tryz.runUnderlying32 rfl Tryz.sizeOf24 rfl rfl)<|Z5 (i := 2) (v := (Qu h v0 4 (Int.toNat x8_2) 3)) Tryz.isAgg24 rfl rfl rfl rfl<|?_
    have h_t17 := Jr H23
    have H24 := Jn H23
    refine Uc (Cv := fun v => roV 1 v (val (Jh t10.Nots ([] : (List Int)))).length ((val (Jh t10.Nots ([] : (List Int)))).map Jl)) (none, 0) (J8 (G := fun x : (Option Addr × Nat) => sl x (val (Jh t10.Nots ([] : (List Int)))).length) (C := fun x : (Option Addr × Nat) => roV 1 (sl x (val (Jh t10.Nots ([] : (List Int)))).length) (val (Jh t10.Nots ([] : (List Int)))).length ((val (Jh t10.Nots ([] : (List Int)))).map Jl)) (fun w L' hF hS hi => k36 (Jp w) ((show FrS h 1 (Qu h v0 4 (Int.toNat x8_2) 3) (t10.Nots.map Jl) from (Jt (f0.at h_t10))).mono (hw.now hF)) (FrS.nil _ _) h_t17) Tryz.call36 rfl) (fun _ => rfl) rfl rfl rfl (fun p_4 => ?_)
    refine Qa rfl rfl (J7 Tryz.runUnderlying32 rfl Tryz.sizeOf24 rfl rfl)<|d_storeV (i := 2) (vs := [sl p_3 (val (Jh t10.Likes ([] : (List Int)))).length]) (cs' := fun v_ => [i6 t10.Id, Xt t10.Name, v_, (Qu h v0 4 (Int.toNat x8_2) 3)]) Tryz.sizeOf24 rfl rfl rfl rfl rfl rfl rfl rfl rfl<|Qa rfl rfl (J7 Tryz.runUnderlying32 rfl Tryz.sizeOf24 rfl rfl)<|W4 (i := 2) (x := sl p_4 (val (Jh t10.Nots ([] : (List Int)))).length) (va := .pointer (some ⟨b4, 3, none⟩)) Tryz.sizeOf24 rfl rfl rfl rfl rfl rfl (blk_box (b := b4) (o := 3) (T := 32) (cs := [i6 t10.Id, Xt t10.Name, sl p_3 (val (Jh t10.Likes ([] : (List Int)))).length, (Qu h v0 4 (Int.toNat x8_2) 3)]) (Imp.refl _) rfl rfl)<|Y3<|Xc 2 rfl (imp_stB (cs := [i6 t10.Id, Xt t10.Name, sl p_3 (val (Jh t10.Likes ([] : (List Int)))).length, (Qu h v0 4 (Int.toNat x8_2) 3)]) (cs' := [i6 t10.Id, Xt t10.Name, sl p_3 (val (Jh t10.Likes ([] : (List Int)))).length, sl p_4 (val (Jh t10.Nots ([] : (List Int)))).length]) (Imp.refl _) rfl)<|?_
    try dsimp only [z1, z2, z5, z6, z7, z8]
    refine Ja<|mv (sl p_2 css_2.length)<|Uz (i := 2) (vs := [i6 t10.Id, Xt t10.Name, sl p_3 (val (Jh t10.Likes ([] : (List Int)))).length, sl p_4 (val (Jh t10.Nots ([] : (List Int)))).length]) Tryz.isAgg32 Tryz.sizeOf32 rfl rfl rfl rfl rfl<|?_
    refine Z0 (vs := [.agg #[i6 t10.Id, Xt t10.Name, sl p_3 (val (Jh t10.Likes ([] : (List Int)))).length, sl p_4 (val (Jh t10.Nots ([] : (List Int)))).length]]) (cs := [i6 t10.Id, Xt t10.Name, sl p_3 (val (Jh t10.Likes ([] : (List Int)))).length, sl p_4 (val (Jh t10.Nots ([] : (List Int)))).length]) Tryz.underlying23 Tryz.sizeOf32 Tryz.zeroValue32 rfl rfl rfl rfl rfl rfl rfl (fun b5 => ?_)
    refine Yq (Φ := fun H_ => FrS H_ 1 (sl p_3 (val (Jh t10.Likes ([] : (List Int)))).length) ((val (Jh t10.Likes ([] : (List Int)))).map Jl)) 0 3 rfl rfl (by decide) (fun _ _ => Qo) (fz_ro _) (fun hp_3 hle hf => ?_)
    refine Yq (Φ := fun H_ => FrS H_ 1 (sl p_4 (val (Jh t10.Nots ([] : (List Int)))).length) ((val (Jh t10.Nots ([] : (List Int)))).map Jl)) 0 4 rfl rfl (by decide) (fun _ _ => Qo) (fz_ro _) (fun hp_4 hle_2 hf_2 => ?_)
    obtain ⟨l23, h_l23, H25⟩ := Je H24; clear H24
    refine Y7 (turns_appendM (i := 1) (k := 5) (p := p_2) (f := idC) (ys := css_2) (ls := [[i6 t10.Id, Xt t10.Name, sl p_3 (val (Jh t10.Likes ([] : (List Int)))).length, sl p_4 (val (Jh t10.Nots ([] : (List Int)))).length]]) Tryz.underlying23 (We Tryz.typeInfo32) rfl rfl rfl rfl rfl rfl rfl rfl rfl rfl rfl rfl rfl rfl (by simp only [idC, List.map_cons, List.map_nil, List.all_cons, List.all_nil, (hf.mono hle_2).one, hf_2.one] <;> rfl) (app63 (((pf_3.mono hle).mono hle_2).app h_l23 (nc := [[i6 t10.Id, Xt t10.Name, sl p_3 (val (Jh t10.Likes ([] : (List Int)))).length, sl p_4 (val (Jh t10.Nots ([] : (List Int)))).length]]) rfl)) rfl) rfl rfl rfl (fun p_5 => ?_)
    have pf_4 : AllC g_face_Person hp_4 4 (css_2 ++ [[i6 t10.Id, Xt t10.Name, sl p_3 (val (Jh t10.Likes ([] : (List Int)))).length, sl p_4 (val (Jh t10.Nots ([] : (List Int)))).length]]) l23 := AllC.snocG ((pf_3.mono hle).mono hle_2) h_l23 rfl (⟨rfl, rfl, (hf.mono hle_2), hf_2⟩)
    refine ag (.slice p_5.1 ((css_2 ++ [[i6 t10.Id, Xt t10.Name, sl p_3 (val (Jh t10.Likes ([] : (List Int)))).length, sl p_4 (val (Jh t10.Nots ([] : (List Int)))).length]]).length) p_5.2)<|Jd<|?_
    try dsimp only [z1, z2, z5, z6, z7, z8]
    refine Ja ?_
    obtain ⟨t24, h_t24, H26⟩ := Je H25; clear H25
    refine Jf rfl rfl rfl (Qp rfl rfl h_t24)<|mv (i6 t24)<|Jd<|?_
    try dsimp only [z1, z2, z5, z6, z7, z8]
    refine Js (x7_2, t24, l23) (hp_4, (css_2 ++ [[i6 t10.Id, Xt t10.Name, sl p_3 (val (Jh t10.Likes ([] : (List Int)))).length, sl p_4 (val (Jh t10.Nots ([] : (List Int)))).length]]), p_5) m2 [0, 1] (by exact ⟨rfl, rfl, rfl, rfl, trivial⟩) (by decide) rfl (by exact ⟨(by subst hn2; exact H26), pf_4⟩) (Nat.lt_succ_self _)
    ) (by kernel_rfl)
  ·have H27 := Jx hb H20; clear H20
   refine Q3 ?_
   refine Js l_3 (hp_2, css_2, p_2) 0 [0, 1] (by exact ⟨rfl, trivial⟩) (by decide) rfl (by exact ⟨H27, pf_3⟩) (Nat.lt_succ_self _)
 ·rintro l ⟨hp, css, p⟩ gg H19 pf
  try dsimp only at H19
  try dsimp only
  refine Jc<|Ja<|mv (sl p css.length)<|Qf (fun w hF hS => k44 (capOf (i := 1) hS rfl) w) Tryz.call44 rfl rfl rfl<|ag (.slice (Za p.1 0 css.length 4) css.length css.length)<|Jd<|Jy<|?_
  obtain rfl := Option.some.inj H19
  refine Xc 1 rfl (imp_clipR _ _ _ _ _ _)<|Yp 0 1 rfl rfl (by decide)<|Xc 0 rfl (Zc (k := true) (p := (Za p.1 0 css.length 4, css.length)) rfl (fun _ => rfl) pf)<|?_
  refine Qw (v := .slice (Za p.1 0 css.length 4) css.length css.length) rfl rfl (Zb (Za p.1 0 css.length 4, css.length) (i := 0) rfl (by first | rfl | rw [(show css.length = l.length from pf.len)]) (by first | exact Imp.refl _ | exact Imp.of (by rw [(show css.length = l.length from pf.len)])))
theorem k81 {a0 : (List T_face_Person)} {v0 : Value} {a1 : Int} {a2 : (T_face_Person → Int → Option (Int))} {v2 : Value} {r : Int × Bool} {w : World} {h : Qg} (hw : Know h w Yl) (f0 : FrN h 4 v0 g_face_Person a0) (f2 : FnH Tryz.prog h v2 (Wi a2)) (H : Yj a0 a1 a2 = some r) : Does Tryz.prog 81 (List.toArray [v0, i6 a1, v2]) w (fun v w' => v = (.tuple #[i6 r.1, .bool r.2]) ∧ Grow w w') := by
 refine enter (n := 49) Tryz.func81 rfl rfl rfl Yl [] (Sat.nil _ _)<|Jc<|Ja<|ag (i6 0)<|ag (.bool false)<|Jd<|Jc<|Ja<|mv v0<|Jf rfl rfl rfl (Uh Tryz.underlying23 rfl f0)<|ag (i6 (a0.length : Int))<|Jd<|Jc<|Ja<|mv (i6 (a0.length : Int))<|ag (i6 0)<|ag (i6 (a0.length : Int))<|Jd<|?_
 refine Xf (r := r) (σ := Int) (τ := Unit) (fun s => Q7 a0 a1 a2 s) (fun s t => [(0, v0), (1, i6 a1), (2, v2), (8, i6 (a0.length : Int)), (9, i6 s)]) (fun s t => []) (fun s t => True) ?_ ?_
 ·refine Ju ?_
  refine X6 (σ := Int × Int) (τ := Unit) (fun next2 s => Qk a0 a1 a2 next2 s.1 s.2) (fun s t => [(0, v0), (1, i6 a1), (2, v2), (8, i6 (a0.length : Int)), (9, i6 s.1), (10, i6 s.2)]) (fun s t => []) (fun s t => True) (0, (a0.length : Int)) () [] H (by exact trivial) (by exact ⟨rfl, rfl, rfl, rfl, rfl, rfl, trivial⟩) (by decide) rfl ?_
  rintro ⟨x9_3, x10_2⟩ _ m2 gg H21 _
  clear H
  try dsimp only at H21
  generalize hn2 : it (fun next2 s => Qk a0 a1 a2 next2 s.1 s.2) m2 = next2 at H21
  try dsimp only
  refine Jc<|Jc<|Ja<|mv (i6 x9_3)<|mv (i6 x10_2)<|Jf rfl rfl rfl (Q0 rfl rfl)<|Jd<|?_
  refine Qm (b := (decide (x9_3 < x10_2))) rfl (fun hb => ?_) (fun hb => ?_)
  ·have H22 := Jw hb H21; clear H21
   refine Jv<|Ju<|Jc<|Ja<|mv (i6 x9_3)<|mv (i6 x10_2)<|?_
   obtain ⟨t20, h_t20, H23⟩ := Je H22; clear H22
   refine Jf rfl rfl rfl (Qp rfl rfl h_t20)<|Jf rfl rfl rfl (Ja0 Tryz.runUnderlying3 Tryz.runUnderlying106 rfl (wr_u64 _))<|?_
   obtain ⟨t22, h_t22, H24⟩ := Je H23; clear H23
   refine Jf rfl rfl rfl (r_shrG rfl rfl rfl h_t22)<|Jf rfl rfl rfl (Ja0 Tryz.runUnderlying106 Tryz.runUnderlying3 rfl (wr_i64 _))<|ag (i6 (Xm t22))<|Jd<|Jc<|Ja<|mv v2<|mv v0<|mv (i6 (Xm t22))<|?_
   obtain ⟨t27, h_t27, H25⟩ := Je H24; clear H24
   refine Jf rfl rfl rfl (Qe Tryz.underlying23 Tryz.sizeOf32 rfl rfl f0.frs (f0.ix h_t27))<|J9 (fun w hF hS => Qj (f := (elC h v0 4)) (i := (Xm t22)) (sz := 4) (j := 0) (vs := [i6 t27.Id, Xt t27.Name, (Qu h v0 4 (Int.toNat (Xm t22)) 2), (Qu h v0 4 (Int.toNat (Xm t22)) 3)]) Tryz.isAgg32 Tryz.sizeOf32 rfl rfl (f0.frs.row (hw.now hF)) (f0.ix h_t27) (rd_of (J1 (f0.at h_t27)) rfl)) rfl rfl rfl<|mv (i6 a1)<|?_
   obtain ⟨t30, h_t30, H26⟩ := Je H25; clear H25
   refine l_callV (R := Wi a2) (r := i6 t30) (v := v2) (fun w hF hS => ⟨(f2.mono (hw.now hF)), ⟨t27, _, _, a1, _, ((show FrS h 1 (Qu h v0 4 (Int.toNat (Xm t22)) 2) (t27.Likes.map Jl) from (Jm (f0.at h_t27))).mono (hw.now hF)), ((show FrS h 1 (Qu h v0 4 (Int.toNat (Xm t22)) 3) (t27.Nots.map Jl) from (Jt (f0.at h_t27))).mono (hw.now hF)), rfl, h_t30, rfl⟩⟩) rfl rfl rfl rfl<|Jf rfl rfl rfl (Q0 rfl rfl)<|Jd<|?_
   refine Qm (b := (decide (t30 < 0))) rfl (fun hb => ?_) (fun hb => ?_)
   ·have H27 := Jw hb H26; clear H26
    refine Ja<|mv (i6 (Xm t22))<|?_
    obtain ⟨t33, h_t33, H28⟩ := Je H27; clear H27
    refine Jf rfl rfl rfl (Qp rfl rfl h_t33)<|ag (i6 t33)<|Jd<|?_
    refine Js (t33, x10_2) () m2 [] (by exact ⟨rfl, rfl, rfl, rfl, rfl, rfl, trivial⟩) (by decide) rfl (by exact ⟨(by subst hn2; exact H28), trivial⟩) (Nat.lt_succ_self _)
   ·have H29 := Jx hb H26; clear H26
    refine Ja<|mv (i6 (Xm t22))<|ag (i6 (Xm t22))<|Jd<|?_
    refine Js (x9_3, (Xm t22)) () m2 [] (by exact ⟨rfl, rfl, rfl, rfl, rfl, rfl, trivial⟩) (by decide) rfl (by exact ⟨(by subst hn2; exact H29), trivial⟩) (Nat.lt_succ_self _)
  ·have H30 := Jx hb H21; clear H21
   refine Q3 ?_
   refine Js x9_3 () 0 [] (by exact ⟨rfl, rfl, rfl, rfl, rfl, trivial⟩) (by decide) rfl (by exact ⟨H30, trivial⟩) (Nat.lt_succ_self _)
 ·rintro x9 _ gg H16 _
  try dsimp only at H16
  try dsimp only
  refine Jc<|Ja<|mv (i6 x9)<|mv (i6 x9)<|mv (i6 (a0.length : Int))<|Jf rfl rfl rfl (Q0 rfl rfl)<|mv (.bool (decide (x9 < (a0.length : Int))))<|?_
  refine split (fun hb => ?_) (fun hb => ?_)
  ·have H17 := Jw hb H16; clear H16
   refine mv v2<|mv v0<|mv (i6 x9)<|?_
   obtain ⟨t43, h_t43, H18⟩ := Je H17; clear H17
   refine Jf rfl rfl rfl (Qe Tryz.underlying23 Tryz.sizeOf32 rfl rfl f0.frs (f0.ix h_t43))<|J9 (fun w hF hS => Qj (f := (elC h v0 4)) (i := x9) (sz := 4) (j := 0) (vs := [i6 t43.Id, Xt t43.Name, (Qu h v0 4 (Int.toNat x9) 2), (Qu h v0 4 (Int.toNat x9) 3)]) Tryz.isAgg32 Tryz.sizeOf32 rfl rfl (f0.frs.row (hw.now hF)) (f0.ix h_t43) (rd_of (J1 (f0.at h_t43)) rfl)) rfl rfl rfl<|mv (i6 a1)<|?_
   obtain ⟨t46, h_t46, H19⟩ := Je H18; clear H18
   refine l_callV (R := Wi a2) (r := i6 t46) (v := v2) (fun w hF hS => ⟨(f2.mono (hw.now hF)), ⟨t43, _, _, a1, _, ((show FrS h 1 (Qu h v0 4 (Int.toNat x9) 2) (t43.Likes.map Jl) from (Jm (f0.at h_t43))).mono (hw.now hF)), ((show FrS h 1 (Qu h v0 4 (Int.toNat x9) 3) (t43.Nots.map Jl) from (Jt (f0.at h_t43))).mono (hw.now hF)), rfl, h_t46, rfl⟩⟩) rfl rfl rfl rfl<|Jf rfl rfl rfl (Uv rfl rfl)<|Jf rfl rfl rfl (Q5 (v := .bool (decide (t46 = 0))) rfl rfl)<|ag (i6 x9)<|ag (.bool (decide (t46 = 0)))<|Jd<|Jy<|?_
   obtain rfl := Option.some.inj H19
   refine Vz (v1 := i6 x9) (v2 := .bool (decide (t46 = 0))) rfl rfl rfl (Yz rfl)
  ·have H20 := Jx hb H16; clear H16
   refine pa<|pa<|pa<|pa<|pa<|pa<|pa<|pa<|Jf rfl rfl rfl (Qr (v := .bool false) rfl rfl)<|ag (i6 x9)<|ag (.bool false)<|Jd<|Jy<|?_
   obtain rfl := Option.some.inj H20
   refine Vz (v1 := i6 x9) (v2 := .bool false) rfl rfl rfl (Yz rfl)
theorem k82 {a0 : T_face_Person} {v0_2 : Value} {v0_3 : Value} {a1 : Int} {r : Int} {w : World} {h : Qg} (hw : Know h w Yl) (f0_2 : FrS h 1 v0_2 (a0.Likes.map Jl)) (f0_3 : FrS h 1 v0_3 (a0.Nots.map Jl)) (H : Zw a0 a1 = some r) : Does Tryz.prog 82 (List.toArray [.agg #[i6 a0.Id, Xt a0.Name, v0_2, v0_3], i6 a1]) w (fun v w' => v = (i6 r) ∧ Grow w w') := by
 refine enter (n := 9) Tryz.func82 rfl rfl rfl Yl [] (Sat.nil _ _)<|Jc<|Ja<|?_
 refine Wp (cs := [i6 a0.Id, Xt a0.Name, v0_2, v0_3]) rfl rfl rfl rfl (fun b1 => ?_)
 refine ag (i6 0)<|Jd<|Jc<|Ja<|Jf rfl rfl rfl (J7 Tryz.runUnderlying32 rfl Tryz.sizeOf3 rfl rfl)<|Qq (i := 0) (v := i6 a0.Id) Tryz.isAgg3 rfl rfl rfl rfl rfl<|mv (i6 a1)<|?_
 obtain ⟨t8, h_t8, H2⟩ := Je H; clear H
 refine Vu (k31 h_t8) Tryz.call31 rfl rfl rfl<|ag (i6 t8)<|Jd<|Jy<|?_
 obtain rfl := Option.some.inj H2
 refine Qw (v := i6 t8) rfl rfl (Yz rfl)
theorem k33 {a0 : (List T_face_Person)} {v0 : Value} {a1 : Int} {r : Int × Bool} {w : World} {h : Qg} (hw : Know h w Yl) (f0 : FrN h 4 v0 g_face_Person a0) (H : Zv a0 a1 = some r) : Does Tryz.prog 33 (List.toArray [v0, i6 a1]) w (fun v w' => v = (.tuple #[i6 r.1, .bool r.2]) ∧ Grow w w') := by
 refine enter (n := 11) Tryz.func33 rfl rfl rfl Yl [] (Sat.nil _ _)<|Jc<|Ja<|ag (i6 0)<|ag (.bool false)<|Jd<|Jc<|Ja<|mv v0<|mv (i6 a1)<|?_
 obtain ⟨t8, h_t8, H2⟩ := Je H; clear H
 refine Qf (fun w hF hS => k81 (Jp w) (f0.mono (hw.now hF)) (FnH.mk ⟨82, #[], #[], rfl, Tryz.call82, fun args2 post2 w2 hk2 hR2 => by obtain ⟨a0_, v0_2_, v0_3_, a1_, r_, fa0_2_, fa0_3_, rfl, H_, rfl⟩ := hR2; exact k82 (Jp w2) fa0_2_ fa0_3_ H_⟩) h_t8) Tryz.call81 rfl rfl rfl<|Jf rfl rfl rfl (Qs (v := i6 t8.1) rfl rfl)<|Jf rfl rfl rfl (Qs (v := .bool t8.2) rfl rfl)<|ag (i6 t8.1)<|ag (.bool t8.2)<|Jd<|Jy<|?_
 obtain rfl := Option.some.inj H2
 refine Vz (v1 := i6 t8.1) (v2 := .bool t8.2) rfl rfl rfl (Yz rfl)
theorem k67 {a0 : (List Int)} {v0 : Value} {r : (List Int)} {w : World} {h : Qg} (hw : Know h w Yl) (f0 : FrS h 1 v0 (a0.map Jl)) (H : Jg a0 = some r) : Does Tryz.prog 67 (List.toArray [v0]) w (fun v w' => ∃ x : (Option Addr × Nat), v = (sl x r.length) ∧ Turn w w' Yl (J5 3 1 (sl x r.length) r.length (r.map Jl))) := by
 refine enter (n := 8) Tryz.func67 rfl rfl rfl Yl [] (Sat.nil _ _)<|Jc<|Ja<|ag (.slice none 0 0)<|Jd<|Jc<|Jc<|Ja<|mv v0<|Jf rfl rfl rfl (r_eqlNilS Tryz.underlying24 f0 rfl rfl)<|Jd<|?_
 refine Qm (b := isNilV v0) rfl (fun hb => ?_) (fun hb => ?_)
 ·have hn_ : a0 = [] := f0.nilV hb
  have H3 : some ([] : List Int) = some r := by have h_ := H; rw [hn_] at h_; exact h_
  refine Jc<|Ja<|ag (.slice none 0 0)<|Jd<|Jy<|Q9 3 1<|?_
  obtain rfl := Option.some.inj H3
  refine Qw (v := sl nn ([] : List Int).length) rfl rfl (Zb nn (i := 0) rfl rfl (Imp.refl _))
 ·skip
  refine Jv<|Jc<|Ja<|?_
  refine Z0 (vs := []) (cs := []) Tryz.underlying24 Tryz.sizeOf3 Tryz.zeroValue3 rfl rfl rfl rfl rfl rfl rfl (fun b1 => ?_)
  refine mv v0<|Xc 0 rfl (imp_box (m := 0) (E := 3) (sz := 1) (xs := (([] : List Int)).map Jl) rfl rfl rfl ⟨rfl, by decide⟩)<|?_
  obtain ⟨l7, h_l7, H4⟩ := Je H; clear H
  refine Y7 (Ur (i := 0) (hn := rfl) (rds := []) (p := ((some ⟨b1, 0, none⟩, 0) : Option Addr × Nat)) (sz := 1) (by_ := 8) (f := Jl) (ys := ([] : List Int)) (ls := a0) (V := v0) Tryz.underlying24 (We Tryz.typeInfo3) rfl rfl rfl rfl rfl rfl rfl rfl f0.eq (List.length_map _) (fun w L' hF hS hi => (f0).row (hw.now hF)) (fun _ => rfl) (fun _ => rfl) h_l7) rfl rfl rfl (fun p => ?_)
  refine ag (sl p l7.length)<|Jd<|Jy<|?_
  obtain rfl := Option.some.inj H4
  refine Qw (v := sl p l7.length) rfl rfl (Zb p (i := 0) rfl rfl (Imp.refl _))
theorem k95 {a0 : (List Int)} {p0 : Option Addr × Nat} {n0 : Nat} {a1 : (Int → Option (Bool))} {v1 : Value} {r : (List Int)} {w : World} {h : Qg} {S : Nat → Prop} (hcs : (J5 3 1 (sl p0 n0) n0 (a0.map Jl)).P S w) (hlt : ∀ b, S b → b < w.heap.size) (hw : Know h w S) (hn0 : n0 = a0.length) (f1 : FnH Tryz.prog h v1 (Ui a1)) (H : Vy a0 a1 = some r) : Does Tryz.prog 95 (List.toArray [sl p0 n0, v1]) w (fun v w' => ∃ x : (Option Addr × Nat), v = (sl x r.length) ∧ Turn w w' S (J5 3 1 (sl x r.length) r.length (r.map Jl))) := by
 refine enter (n := 42) Tryz.func95 rfl rfl rfl S [J5 3 1 (sl p0 n0) n0 (a0.map Jl)] (Sat.one hcs hlt)<|Jc<|Ja<|ag (.slice none 0 0)<|Jd<|Jc<|Ja<|mv (sl p0 n0)<|mv v1<|?_
 obtain ⟨t10, h_t10, H20⟩ := Je H; clear H
 refine Qf (fun w hF hS => k93 (Jp w) (frs_own (i := 0) hn0 hS rfl) (f1.mono (hw.now hF)) h_t10) Tryz.call93 rfl rfl rfl<|ag (i6 t10)<|Jd<|Jc<|Jc<|Ja<|mv (i6 t10)<|Jf rfl rfl rfl (Uv rfl rfl)<|Jd<|?_
 refine Qm (b := (decide (t10 = (-1)))) rfl (fun hb => ?_) (fun hb => ?_)
 ·have H21 := Jw hb H20; clear H20
  refine Jc<|Ja<|mv (sl p0 n0)<|ag (sl p0 n0)<|Jd<|Jy<|?_
  obtain rfl := Option.some.inj H21
  refine Qw (v := sl p0 n0) rfl rfl (Zb p0 (i := 0) rfl (by first | rfl | rw [(show n0 = a0.length from hn0)]) (by first | exact Imp.refl _ | exact Imp.of (by rw [(show n0 = a0.length from hn0)])))
 ·have H22 := Jx hb H20; clear H20
  refine Jv ?_
  refine Xf (r := r) (σ := Int × (List Int)) (τ := Unit) (fun s => Uu s.1 s.2) (fun s t => [(0, sl p0 n0), (5, i6 s.1)]) (fun s t => [J5 3 1 (sl p0 n0) n0 (s.2.map Jl)]) (fun s t => n0 = s.2.length) ?_ ?_
  ·refine Jc<|Ja<|mv (i6 t10)<|?_
   obtain ⟨t15, h_t15, H26⟩ := Je H22; clear H22
   refine Jf rfl rfl rfl (Qp rfl rfl h_t15)<|ag (i6 t15)<|Jd<|Ju<|?_
   refine X6 (σ := Int × Int × (List Int)) (τ := Unit) (fun next2 s => Z6 a1 next2 s.1 s.2.1 s.2.2) (fun s t => [(0, sl p0 n0), (1, v1), (5, i6 s.1), (6, i6 s.2.1)]) (fun s t => [J5 3 1 (sl p0 n0) n0 (s.2.2.map Jl)]) (fun s t => n0 = s.2.2.length) (t10, t15, a0) () [0] H26 (by exact hn0) (by exact ⟨rfl, rfl, rfl, rfl, trivial⟩) (by decide) rfl ?_
   rintro ⟨x5_3, x6_2, l_3⟩ _ m2 gg H27 hl_3
   clear H26
   try dsimp only at H27
   generalize hn2 : it (fun next2 s => Z6 a1 next2 s.1 s.2.1 s.2.2) m2 = next2 at H27
   try dsimp only
   refine Jc<|Jc<|Ja<|mv (i6 x6_2)<|mv (sl p0 n0)<|Jf rfl rfl rfl (r_lenN Tryz.underlying24 rfl hl_3)<|Jf rfl rfl rfl (Q0 rfl rfl)<|Jd<|?_
   refine Qm (b := (decide (x6_2 < (l_3.length : Int)))) rfl (fun hb => ?_) (fun hb => ?_)
   ·have H28 := Jw hb H27; clear H27
    refine Jv ?_
    refine Xf (r := r) (σ := Int × (List Int)) (τ := Unit) (fun s => V9 x6_2 next2 s.1 s.2) (fun s t => [(0, sl p0 n0), (1, v1), (5, i6 s.1), (6, i6 x6_2)]) (fun s t => [J5 3 1 (sl p0 n0) n0 (s.2.map Jl)]) (fun s t => n0 = s.2.length) ?_ ?_
    ·refine Ju<|Jc<|Ja<|mv (sl p0 n0)<|mv (i6 x6_2)<|?_
     obtain ⟨t24, h_t24, H31⟩ := Je H28; clear H28
     refine J9 (fun w hF hS => J3 Tryz.underlying24 Tryz.sizeOf3 rfl rfl (Qy (i := 0) hS rfl) hl_3 h_t24) rfl rfl rfl<|J9 (fun w hF hS => J2 (f := Jl) (i := x6_2) (sz := 1) (j := 0) (v := i6 t24) Tryz.isAgg3 rfl rfl (Qy (i := 0) hS rfl) h_t24 rfl) rfl rfl rfl<|ag (i6 t24)<|Jd<|Jc<|Ja<|mv v1<|mv (i6 t24)<|?_
     obtain ⟨t28, h_t28, H32⟩ := Je H31; clear H31
     refine l_callV (R := Ui a1) (r := .bool t28) (v := v1) (fun w hF hS => ⟨(f1.mono (hw.now hF)), ⟨t24, _, rfl, h_t28, rfl⟩⟩) rfl rfl rfl rfl<|Jf rfl rfl rfl (Ub rfl)<|Jd<|?_
     refine Qm (b := (!t28)) rfl (fun hb => ?_) (fun hb => ?_)
     ·have H33 := Jw hb H32; clear H32
      refine Jc<|Ja<|mv (sl p0 n0)<|mv (i6 x5_3)<|mv (i6 t24)<|?_
      obtain ⟨t33, h_t33, H34⟩ := Je H33; clear H33
      refine J9 (fun w hF hS => J3 Tryz.underlying24 Tryz.sizeOf3 rfl rfl (Qy (i := 0) hS rfl) hl_3 h_t33) rfl rfl rfl ?_
      obtain ⟨l0, h_l0, H35⟩ := Je H34; clear H34
      refine l_storeG (q := 0) (j := 0) (i := x5_3) (sz := 1) (hm := hl_3) (f := Jl) (vs := [i6 t24]) Tryz.sizeOf3 rfl rfl rfl rfl rfl rfl rfl rfl rfl (fun y_ hy_ => by first | rfl | (cases hy_.symm.trans h_t33; rfl)) h_l0<|Jd<|Ja<|mv (i6 x5_3)<|?_
      obtain ⟨t35, h_t35, H36⟩ := Je H35; clear H35
      refine Jf rfl rfl rfl (Qp rfl rfl h_t35)<|ag (i6 t35)<|Jd<|?_
      refine Js (t35, l0) () 0 [0] (by exact ⟨rfl, rfl, rfl, rfl, trivial⟩) (by decide) rfl (by exact ⟨H36, (Jau hl_3 h_l0)⟩) (Nat.lt_succ_self _)
     ·have H37 := Jx hb H32; clear H32
      refine Jv ?_
      refine Js (x5_3, l_3) () 0 [0] (by exact ⟨rfl, rfl, rfl, rfl, trivial⟩) (by decide) rfl (by exact ⟨H37, hl_3⟩) (Nat.lt_succ_self _)
    ·rintro ⟨x5_4, l_4⟩ _ gg H29 hl_4
     try dsimp only at H29
     try dsimp only
     refine Ja<|mv (i6 x6_2)<|?_
     obtain ⟨t21, h_t21, H30⟩ := Je H29; clear H29
     refine Jf rfl rfl rfl (Qp rfl rfl h_t21)<|ag (i6 t21)<|Jd<|?_
     refine Js (x5_4, t21, l_4) () m2 [0] (by exact ⟨rfl, rfl, rfl, rfl, trivial⟩) (by decide) rfl (by exact ⟨(by subst hn2; exact H30), hl_4⟩) (Nat.lt_succ_self _)
   ·have H38 := Jx hb H27; clear H27
    refine Q3 ?_
    refine Js (x5_3, l_3) () 0 [0] (by exact ⟨rfl, rfl, trivial⟩) (by decide) rfl (by exact ⟨H38, hl_3⟩) (Nat.lt_succ_self _)
  ·rintro ⟨x5, l⟩ _ gg H23 hl
   try dsimp only at H23
   try dsimp only
   refine Jc<|Ja<|mv (sl p0 n0)<|mv (i6 x5)<|?_
   obtain ⟨t38, h_t38, H24⟩ := Je H23; clear H23
   refine J9 (v := .slice (Za p0.1 (Int.toNat x5) p0.2 1) t38.length (p0.2 - Int.toNat x5)) (fun w hF hS => Ja8 (xs := l) Tryz.underlying24 Tryz.sizeOf3 rfl rfl hl (capOf (i := 0) hS rfl) h_t38) rfl rfl rfl ?_
   refine Jb4 (turns_clearV (i := 0) (rds := []) (f := Jl) (z0 := 0) (ys := l) (a := x5) (q := l.length) hl Tryz.underlying24 Tryz.zeroValue3 rfl (fun _ => rfl) (fun _ => rfl) rfl h_t38 rfl) rfl rfl (fun _ => ?_)
   refine Jd<|Jc<|Ja<|mv (sl p0 n0)<|mv (i6 x5)<|?_
   obtain ⟨t41, h_t41, H25⟩ := Je H24; clear H24
   refine J9 (v := sl p0 t41.length) (fun w hF hS => Jbb (xs := (clrL l x5 l.length 0)) Tryz.underlying24 Tryz.sizeOf3 rfl rfl (clrL_n hl h_t38) (capOf (i := 0) hS rfl) h_t41) rfl rfl rfl<|ag (sl p0 t41.length)<|Jd<|Jy<|Xc 0 rfl (imp_shrink (clrL_n hl h_t38) h_t41)<|?_
   obtain rfl := Option.some.inj H25
   refine Xc 0 rfl (imp_rowC _ _ _ _ _ _) ?_
   refine Qw (v := sl p0 t41.length) rfl rfl (Zb p0 (i := 0) rfl rfl (Imp.refl _))
theorem k96 {q0 : (List Int)} {vq0 : Value} {c0 : Nat} {a0 : Int} {r : Bool} {w : World} {h : Qg} (hw : Know h w Yl) (fq0 : FrS h 1 vq0 (q0.map Jl)) (hc0 : h c0 = some (.cells (List.toArray [vq0]) 24 (0, 0))) (H : Jcq q0 a0 = some r) : Does Tryz.prog 96 (List.toArray [i6 a0, .pointer (some ⟨c0, 0, none⟩)]) w (fun v w' => v = (.bool r) ∧ Grow w w') := by
 refine enter (n := 7) Tryz.func96 rfl rfl rfl Yl [] (Sat.nil _ _)<|Jc<|Ja<|ag (.bool false)<|Jd<|Jc<|Ja<|J9 (fun w hF hS => Vg (v := vq0) Tryz.isAgg24 rfl (hw.now hF _ _ hc0) rfl) rfl rfl rfl<|mv (i6 a0)<|?_
 obtain ⟨t6, h_t6, H2⟩ := Je H; clear H
 refine Qf (fun w hF hS => k53 (Jp w) (fq0.mono (hw.now hF)) h_t6) Tryz.call53 rfl rfl rfl<|ag (.bool t6)<|Jd<|Jy<|?_
 obtain rfl := Option.some.inj H2
 refine Qw (v := .bool t6) rfl rfl (Yz rfl)
theorem k43 {a0 : (List Int)} {v0 : Value} {a1 : (List Int)} {v1 : Value} {r : (List Int)} {w : World} {h : Qg} (hw : Know h w Yl) (f0 : FrS h 1 v0 (a0.map Jl)) (f1 : FrS h 1 v1 (a1.map Jl)) (H : Jz a0 a1 = some r) : Does Tryz.prog 43 (List.toArray [v0, v1]) w (fun v w' => ∃ x : (Option Addr × Nat), v = (sl x r.length) ∧ Turn w w' Yl (roV 1 (sl x r.length) r.length (r.map Jl))) := by
 refine enter (n := 12) Tryz.func43 rfl rfl rfl Yl [] (Sat.nil _ _)<|Jc<|Ja<|?_
 refine Wp (cs := [v1]) rfl rfl rfl f1.cells (fun b2 => ?_)
 refine ag (.slice none 0 0)<|Jd<|Jc<|Ja<|mv v0<|?_
 obtain ⟨t7, h_t7, H5⟩ := Je H; clear H
 refine Yk (J8 (rds := []) (G := fun x : (Option Addr × Nat) => sl x t7.length) (C := fun x : (Option Addr × Nat) => J5 3 1 (sl x t7.length) t7.length (t7.map Jl)) (fun w L' hF hS hi => k67 (Jp w) (f0.mono (hw.now hF)) h_t7) Tryz.call67 rfl) rfl rfl rfl (fun p => ?_)
 refine Jf rfl rfl rfl (Jak (caps := #[.pointer (some ⟨b2, 0, none⟩)]) rfl) ?_
 obtain ⟨t9, h_t9, H6⟩ := Je H5; clear H5
 refine Y7 (Xj (i := 1) (rds := [0]) (G := fun x : (Option Addr × Nat) => sl x t9.length) (C := fun x : (Option Addr × Nat) => J5 3 1 (sl x t9.length) t9.length (t9.map Jl)) rfl (fun w L' S hF hS hi hp hlt ho hA => k95 hp hlt (Y4 w S) rfl (FnH.mk ⟨96, #[], #[.pointer (some ⟨b2, 0, none⟩)], rfl, Tryz.call96, fun args2 post2 w2 hk2 hR2 => by obtain ⟨a0_, r_, rfl, H_, rfl⟩ := hR2; exact k96 (Jp w2) ((f1.mono (hw.but hF ho)).mono hk2.up) (hk2.up _ _ (cell_but (j := 0) hA hS (by decide) ((hi 0 (by simp)).trans rfl))) H_⟩) h_t9) Tryz.call95 rfl) rfl rfl rfl (fun p_2 => ?_)
 refine ag (sl p_2 t9.length)<|Jd<|Jc<|Ja<|mv (sl p_2 t9.length)<|Qf (fun w hF hS => k87 (capOf (i := 1) hS rfl) w) Tryz.call87 rfl rfl rfl<|ag (.slice (Za p_2.1 0 t9.length 1) t9.length t9.length)<|Jd<|Jy<|?_
 obtain rfl := Option.some.inj H6
 refine Xc 1 rfl (imp_clipO _ _ _ _ _ _) ?_
 refine Qw (v := .slice (Za p_2.1 0 t9.length 1) t9.length t9.length) rfl rfl (Zb (Za p_2.1 0 t9.length 1, t9.length) (i := 1) rfl rfl (Imp.refl _))
theorem k61 {a0 : (List Int)} {v0 : Value} {a1 : Int} {r : (List Int)} {w : World} {h : Qg} (hw : Know h w Yl) (f0 : FrS h 1 v0 (a0.map Jl)) (H : Qv a0 a1 = some r) : Does Tryz.prog 61 (List.toArray [v0, i6 a1]) w (fun v w' => ∃ x : (Option Addr × Nat), v = (sl x r.length) ∧ Turn w w' Yl (roH h 1 (sl x r.length) r.length (r.map Jl))) := by
 refine enter (n := 17) Tryz.func61 rfl rfl rfl Yl [] (Sat.nil _ _)<|Jc<|Ja<|ag (.slice none 0 0)<|Jd<|Jc<|Jc<|Ja<|mv v0<|mv (i6 a1)<|?_
 obtain ⟨t7, h_t7, H13⟩ := Je H; clear H
 refine Qf (fun w hF hS => k53 (Jp w) (f0.mono (hw.now hF)) h_t7) Tryz.call53 rfl rfl rfl<|Jd<|?_
 refine Qm (b := t7) rfl (fun hb => ?_) (fun hb => ?_)
 ·have H14 := Jw hb H13; clear H13
  refine Jc<|Ja<|mv v0<|ag v0<|Jd<|Jy<|?_
  obtain ⟨p, hp_⟩ := (f0).form; subst hp_
  refine c_frz f0 ?_
  obtain rfl := Option.some.inj H14
  refine Qw (v := sl p a0.length) rfl rfl (Zb p (i := 0) rfl rfl (Imp.refl _))
 ·have H15 := Jx hb H13; clear H13
  refine Jv<|Jc<|Ja<|mv v0<|?_
  obtain ⟨t10, h_t10, H16⟩ := Je H15; clear H15
  refine Yk (J8 (rds := []) (G := fun x : (Option Addr × Nat) => sl x t10.length) (C := fun x : (Option Addr × Nat) => J5 3 1 (sl x t10.length) t10.length (t10.map Jl)) (fun w L' hF hS hi => k67 (Jp w) (f0.mono (hw.now hF)) h_t10) Tryz.call67 rfl) rfl rfl rfl (fun p_2 => ?_)
  refine mv (i6 a1) ?_
  refine Z0 (vs := [i6 a1]) (cs := [i6 a1]) Tryz.underlying24 Tryz.sizeOf3 Tryz.zeroValue3 rfl rfl rfl rfl rfl rfl rfl (fun b2 => ?_)
  obtain ⟨l13, h_l13, H17⟩ := Je H16; clear H16
  refine Y7 (Ur (i := 0) (hn := rfl) (rds := [1]) (p := p_2) (sz := 1) (by_ := 8) (f := Jl) (ys := t10) (ls := ([a1] : List Int)) (V := .slice (some ⟨b2, 0, none⟩) 1 1) Tryz.underlying24 (We Tryz.typeInfo3) rfl rfl rfl rfl rfl rfl rfl rfl rfl rfl (fun w L' hF hS hi => row_box (i := 1) hS ((hi 1 (by simp)).trans rfl) rfl rfl) (fun _ => rfl) (fun _ => rfl) h_l13) rfl rfl rfl (fun p_3 => ?_)
  refine ag (sl p_3 l13.length)<|Jd<|Jc<|Ja<|mv (sl p_3 l13.length)<|?_
  obtain ⟨t15, h_t15, H18⟩ := Je H17; clear H17
  refine Y7 (Xj (i := 0) (rds := []) (G := fun x : Unit => .tuple #[]) (C := fun x : Unit => J5 3 1 (sl p_3 l13.length) l13.length (t15.map Jl)) rfl (fun w L' S hF hS hi hp hlt ho hA => k86 hp hlt (Y4 w S) rfl h_t15) Tryz.call86 rfl) rfl rfl rfl (fun _ => ?_)
  refine Zq (fun w hF hS => lenOf (i := 0) hS rfl) (fun hl_ => ?_)
  have hl : l13.length = t15.length := by simpa using hl_.symm
  refine Jd<|Jc<|Ja<|mv (sl p_3 l13.length)<|ag (sl p_3 l13.length)<|Jd<|Jy<|Xc 0 rfl (imp_rowH h _ _ _ _ _)<|?_
  obtain rfl := Option.some.inj H18
  refine Qw (v := sl p_3 l13.length) rfl rfl (Zb p_3 (i := 0) rfl (by first | rfl | rw [(show l13.length = t15.length from hl)]) (by first | exact Imp.refl _ | exact Imp.of (by rw [(show l13.length = t15.length from hl)])))
theorem k109 {q0 : Int} {c0 : Nat} {a0 : Int} {r : Bool} {w : World} {h : Qg} (hw : Know h w Yl) (hc0 : h c0 = some (.cells (List.toArray [i6 q0]) 3 (0, 0))) (H : R_without_1 q0 a0 = some r) : Does Tryz.prog 109 (List.toArray [i6 a0, .pointer (some ⟨c0, 0, none⟩)]) w (fun v w' => v = (.bool r) ∧ Grow w w') := by
 refine enter (n := 7) Tryz.func109 rfl rfl rfl Yl [] (Sat.nil _ _)<|Jc<|Ja<|ag (.bool false)<|Jd<|Jc<|Ja<|mv (i6 a0)<|J9 (fun w hF hS => Vg (v := i6 q0) Tryz.isAgg3 rfl (hw.now hF _ _ hc0) rfl) rfl rfl rfl<|Jf rfl rfl rfl (Uv rfl rfl)<|ag (.bool (decide (a0 = q0)))<|Jd<|Jy<|?_
 obtain rfl := Option.some.inj H
 refine Qw (v := .bool (decide (a0 = q0))) rfl rfl (Yz rfl)
theorem k62 {a0 : (List Int)} {v0 : Value} {a1 : Int} {r : (List Int)} {w : World} {h : Qg} (hw : Know h w Yl) (f0 : FrS h 1 v0 (a0.map Jl)) (H : J4 a0 a1 = some r) : Does Tryz.prog 62 (List.toArray [v0, i6 a1]) w (fun v w' => ∃ x : (Option Addr × Nat), v = (sl x r.length) ∧ Turn w w' Yl (J5 3 1 (sl x r.length) r.length (r.map Jl))) := by
 refine enter (n := 9) Tryz.func62 rfl rfl rfl Yl [] (Sat.nil _ _)<|Jc<|Ja<|?_
 refine Wp (cs := [i6 a1]) rfl rfl rfl rfl (fun b1 => ?_)
 refine ag (.slice none 0 0)<|Jd<|Jc<|Ja<|mv v0<|?_
 obtain ⟨t6, h_t6, H3⟩ := Je H; clear H
 refine Yk (J8 (rds := []) (G := fun x : (Option Addr × Nat) => sl x t6.length) (C := fun x : (Option Addr × Nat) => J5 3 1 (sl x t6.length) t6.length (t6.map Jl)) (fun w L' hF hS hi => k67 (Jp w) (f0.mono (hw.now hF)) h_t6) Tryz.call67 rfl) rfl rfl rfl (fun p => ?_)
 refine Jf rfl rfl rfl (Jak (caps := #[.pointer (some ⟨b1, 0, none⟩)]) rfl) ?_
 obtain ⟨t8, h_t8, H4⟩ := Je H3; clear H3
 refine Y7 (Xj (i := 1) (rds := [0]) (G := fun x : (Option Addr × Nat) => sl x t8.length) (C := fun x : (Option Addr × Nat) => J5 3 1 (sl x t8.length) t8.length (t8.map Jl)) rfl (fun w L' S hF hS hi hp hlt ho hA => k95 hp hlt (Y4 w S) rfl (FnH.mk ⟨109, #[], #[.pointer (some ⟨b1, 0, none⟩)], rfl, Tryz.call109, fun args2 post2 w2 hk2 hR2 => by obtain ⟨a0_, r_, rfl, H_, rfl⟩ := hR2; exact k109 (Jp w2) (hk2.up _ _ (cell_but (j := 0) hA hS (by decide) ((hi 0 (by simp)).trans rfl))) H_⟩) h_t8) Tryz.call95 rfl) rfl rfl rfl (fun p_2 => ?_)
 refine ag (sl p_2 t8.length)<|Jd<|Jy<|?_
 obtain rfl := Option.some.inj H4
 refine Qw (v := sl p_2 t8.length) rfl rfl (Zb p_2 (i := 1) rfl rfl (Imp.refl _))
end Go.Proofs.YthhaabhnlndnoaaGreat
