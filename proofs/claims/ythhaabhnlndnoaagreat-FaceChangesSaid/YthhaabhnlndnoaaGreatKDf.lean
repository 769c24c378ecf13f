/- FaceChanges, the reference: SplitFolk; the law: the walks, printed by our generator; each follows its model. Conditions: the model yields a value. -/
import Derived.Test.YthhaabhnlndnoaaGreatKDd
namespace Go.Proofs.YthhaabhnlndnoaaGreat
open Go Go.Vc Go.Md Go.M Go.Lx
set_option maxRecDepth 100000
set_option maxHeartbeats 4000000
set_option linter.unusedVariables false
theorem k104 {a0 : (List T_face_Person)} {v0 : Value} {a1 : (List T_face_Person)} {v1 : Value} {a2 : (T_face_Person → T_face_Person → Option (Bool))} {v2 : Value} {r : Bool} {w : World} {h : Qg} (hw : Know h w Yl) (f0 : FrN h 4 v0 g_face_Person a0) (f1 : FrN h 4 v1 g_face_Person a1) (f2 : FnH Tryz.prog h v2 (Wd a2)) (H : X9 a0 a1 a2 = some r) : Does Tryz.prog 104 (List.toArray [v0, v1, v2]) w (fun v w' => v = (.bool r) ∧ Grow w w') := by
 refine enter (n := 32) Tryz.func104 rfl rfl rfl Yl [] (Sat.nil _ _)<|Jc<|Ja<|ag (.bool false)<|Jd<|Jc<|Jc<|Ja<|mv v0<|Jf rfl rfl rfl (Uh Tryz.underlying23 rfl f0)<|mv v1<|Jf rfl rfl rfl (Uh Tryz.underlying23 rfl f1)<|Jf rfl rfl rfl (r_neq rfl rfl)<|Jd<|?_
 refine Qm (b := (decide ((a0.length : Int) ≠ (a1.length : Int)))) rfl (fun hb => ?_) (fun hb => ?_)
 ·have H12 := Jw hb H; clear H
  refine Jc<|Ja<|ag (.bool false)<|Jd<|Jy<|?_
  obtain rfl := Option.some.inj H12
  refine Qw (v := .bool false) rfl rfl (Yz rfl)
 ·have H13 := Jx hb H; clear H
  refine Jv<|Jc<|Jc<|Ja<|mv v0<|Jf rfl rfl rfl (Uh Tryz.underlying23 rfl f0)<|mv (i6 0)<|Jd<|Ju<|?_
  refine X6 (σ := Int) (τ := Unit) (fun next1 s => Qx a0 a1 a2 next1 s) (fun s t => [(1, v1), (2, v2), (15, v0), (16, i6 (a0.length : Int)), (17, i6 s)]) (fun s t => []) (fun s t => True) 0 () [] H13 (by exact trivial) (by exact ⟨rfl, rfl, rfl, rfl, rfl, trivial⟩) (by decide) rfl ?_
  rintro x17_2 _ m1 gg H14 _
  clear H13
  try dsimp only at H14
  generalize hn1 : it (fun next1 s => Qx a0 a1 a2 next1 s) m1 = next1 at H14
  try dsimp only
  refine Jc<|Ja<|Jf rfl rfl rfl (Q0 rfl rfl)<|Jd<|Jc<|?_
  refine Qm (b := (decide (x17_2 < (a0.length : Int)))) rfl (fun hb => ?_) (fun hb => ?_)
  ·have H15 := Jw hb H14; clear H14
   refine Jv<|Jc<|Ju<|Jc<|Ja<|mv (i6 x17_2)<|?_
   obtain ⟨t20, h_t20, H16⟩ := Je H15; clear H15
   refine Jf rfl rfl rfl (Qe Tryz.underlying23 Tryz.sizeOf32 rfl rfl f0.frs (f0.ix h_t20))<|J9 (fun w hF hS => Qj (f := (elC h v0 4)) (i := x17_2) (sz := 4) (j := 0) (vs := [i6 t20.Id, Xt t20.Name, (Qu h v0 4 (Int.toNat x17_2) 2), (Qu h v0 4 (Int.toNat x17_2) 3)]) Tryz.isAgg32 Tryz.sizeOf32 rfl rfl (f0.frs.row (hw.now hF)) (f0.ix h_t20) (rd_of (J1 (f0.at h_t20)) rfl)) rfl rfl rfl<|?_
   refine Wh (cs := [i6 0, Xt [], .slice none 0 0, .slice none 0 0]) Tryz.zeroValue32 rfl rfl rfl (fun b2 => ?_)
   refine ag (i6 x17_2)<|Y8 (i := 0) (vs := [i6 t20.Id, Xt t20.Name, (Qu h v0 4 (Int.toNat x17_2) 2), (Qu h v0 4 (Int.toNat x17_2) 3)]) (cs' := [i6 t20.Id, Xt t20.Name, (Qu h v0 4 (Int.toNat x17_2) 2), (Qu h v0 4 (Int.toNat x17_2) 3)]) Tryz.sizeOf32 rfl rfl rfl rfl rfl rfl (by simp only [List.all_cons, List.all_nil, (show FrS h 1 (Qu h v0 4 (Int.toNat x17_2) 2) (t20.Likes.map Jl) from (Jm (f0.at h_t20))).one, (show FrS h 1 (Qu h v0 4 (Int.toNat x17_2) 3) (t20.Nots.map Jl) from (Jt (f0.at h_t20))).one] <;> rfl) rfl rfl<|Jd<|Jc<|Ja<|mv v1<|mv (i6 x17_2)<|?_
   obtain ⟨t24, h_t24, H17⟩ := Je H16; clear H16
   refine Jf rfl rfl rfl (Qe Tryz.underlying23 Tryz.sizeOf32 rfl rfl f1.frs (f1.ix h_t24))<|J9 (fun w hF hS => Qj (f := (elC h v1 4)) (i := x17_2) (sz := 4) (j := 0) (vs := [i6 t24.Id, Xt t24.Name, (Qu h v1 4 (Int.toNat x17_2) 2), (Qu h v1 4 (Int.toNat x17_2) 3)]) Tryz.isAgg32 Tryz.sizeOf32 rfl rfl (f1.frs.row (hw.now hF)) (f1.ix h_t24) (rd_of (J1 (f1.at h_t24)) rfl)) rfl rfl rfl<|?_
   refine Wh (cs := [i6 0, Xt [], .slice none 0 0, .slice none 0 0]) Tryz.zeroValue32 rfl rfl rfl (fun b3 => ?_)
   refine Y8 (i := 1) (vs := [i6 t24.Id, Xt t24.Name, (Qu h v1 4 (Int.toNat x17_2) 2), (Qu h v1 4 (Int.toNat x17_2) 3)]) (cs' := [i6 t24.Id, Xt t24.Name, (Qu h v1 4 (Int.toNat x17_2) 2), (Qu h v1 4 (Int.toNat x17_2) 3)]) Tryz.sizeOf32 rfl rfl rfl rfl rfl rfl (by simp only [List.all_cons, List.all_nil, (show FrS h 1 (Qu h v1 4 (Int.toNat x17_2) 2) (t24.Likes.map Jl) from (Jm (f1.at h_t24))).one, (show FrS h 1 (Qu h v1 4 (Int.toNat x17_2) 3) (t24.Nots.map Jl) from (Jt (f1.at h_t24))).one] <;> rfl) rfl rfl<|Jd<|Jc<|Ja<|mv v2<|Uz (i := 0) (vs := [i6 t20.Id, Xt t20.Name, (Qu h v0 4 (Int.toNat x17_2) 2), (Qu h v0 4 (Int.toNat x17_2) 3)]) Tryz.isAgg32 Tryz.sizeOf32 rfl rfl rfl rfl rfl<|Uz (i := 1) (vs := [i6 t24.Id, Xt t24.Name, (Qu h v1 4 (Int.toNat x17_2) 2), (Qu h v1 4 (Int.toNat x17_2) 3)]) Tryz.isAgg32 Tryz.sizeOf32 rfl rfl rfl rfl rfl<|?_
   obtain ⟨t29, h_t29, H18⟩ := Je H17; clear H17
   refine l_callV (R := Wd a2) (r := .bool t29) (v := v2) (fun w hF hS => ⟨(f2.mono (hw.now hF)), ⟨t20, _, _, t24, _, _, _, ((show FrS h 1 (Qu h v0 4 (Int.toNat x17_2) 2) (t20.Likes.map Jl) from (Jm (f0.at h_t20))).mono (hw.now hF)), ((show FrS h 1 (Qu h v0 4 (Int.toNat x17_2) 3) (t20.Nots.map Jl) from (Jt (f0.at h_t20))).mono (hw.now hF)), ((show FrS h 1 (Qu h v1 4 (Int.toNat x17_2) 2) (t24.Likes.map Jl) from (Jm (f1.at h_t24))).mono (hw.now hF)), ((show FrS h 1 (Qu h v1 4 (Int.toNat x17_2) 3) (t24.Nots.map Jl) from (Jt (f1.at h_t24))).mono (hw.now hF)), rfl, h_t29, rfl⟩⟩) rfl rfl rfl rfl<|Jf rfl rfl rfl (Ub rfl)<|Jd<|?_
   refine Qm (b := (!t29)) rfl (fun hb => ?_) (fun hb => ?_)
   ·have H19 := Jw hb H18; clear H18
    refine Jc<|Ja<|ag (.bool false)<|Jd<|Jy<|?_
    obtain rfl := Option.some.inj H19
    refine Qw (v := .bool false) rfl rfl (Yz rfl)
   ·have H20 := Jx hb H18; clear H18
    refine Jv<|Ja<|?_
    obtain ⟨t31, h_t31, H21⟩ := Je H20; clear H20
    refine Jf rfl rfl rfl (Qp rfl rfl h_t31)<|mv (i6 t31)<|Jd<|?_
    refine Js t31 () m1 [] (by exact ⟨rfl, rfl, rfl, rfl, rfl, trivial⟩) (by decide) rfl (by exact ⟨(by subst hn1; exact H21), trivial⟩) (Nat.lt_succ_self _)
  ·have H22 := Jx hb H14; clear H14
   refine Q3<|Jc<|Ja<|ag (.bool true)<|Jd<|Jy<|?_
   obtain rfl := Option.some.inj H22
   refine Qw (v := .bool true) rfl rfl (Yz rfl)
theorem k12 {a0 : (List Int)} {v0 : Value} {a1 : (List Int)} {v1 : Value} {r : Bool} {w : World} {h : Qg} (hw : Know h w Yl) (f0 : FrS h 1 v0 (a0.map Jl)) (f1 : FrS h 1 v1 (a1.map Jl)) (H : Jab a0 a1 = some r) : Does Tryz.prog 12 (List.toArray [v0, v1]) w (fun v w' => v = (.bool r) ∧ Grow w w') := by
 refine enter (n := 26) Tryz.func12 rfl rfl rfl Yl [] (Sat.nil _ _)<|Jc<|Ja<|ag (.bool false)<|Jd<|Jc<|Jc<|Ja<|mv v0<|Jf rfl rfl rfl (Y0 Tryz.underlying24 rfl f0 rfl)<|mv v1<|Jf rfl rfl rfl (Y0 Tryz.underlying24 rfl f1 rfl)<|Jf rfl rfl rfl (r_neq rfl rfl)<|Jd<|?_
 refine Qm (b := (decide ((a0.length : Int) ≠ (a1.length : Int)))) rfl (fun hb => ?_) (fun hb => ?_)
 ·have H11 := Jw hb H; clear H
  refine Jc<|Ja<|ag (.bool false)<|Jd<|Jy<|?_
  obtain rfl := Option.some.inj H11
  refine Qw (v := .bool false) rfl rfl (Yz rfl)
 ·have H12 := Jx hb H; clear H
  refine Jv<|Jc<|Jc<|Ja<|mv v0<|Jf rfl rfl rfl (Y0 Tryz.underlying24 rfl f0 rfl)<|mv (i6 0)<|Jd<|Ju<|?_
  refine X6 (σ := Int) (τ := Unit) (fun next1 s => Wn a0 a1 next1 s) (fun s t => [(0, v0), (1, v1), (12, i6 (a0.length : Int)), (13, i6 s)]) (fun s t => []) (fun s t => True) 0 () [] H12 (by exact trivial) (by exact ⟨rfl, rfl, rfl, rfl, trivial⟩) (by decide) rfl ?_
  rintro x13_2 _ m1 gg H13 _
  clear H12
  try dsimp only at H13
  generalize hn1 : it (fun next1 s => Wn a0 a1 next1 s) m1 = next1 at H13
  try dsimp only
  refine Jc<|Ja<|Jf rfl rfl rfl (Q0 rfl rfl)<|Jd<|Jc<|?_
  refine Qm (b := (decide (x13_2 < (a0.length : Int)))) rfl (fun hb => ?_) (fun hb => ?_)
  ·have H14 := Jw hb H13; clear H13
   refine Jv<|Jc<|Ju<|Jc<|Ja<|mv (i6 x13_2)<|ag (i6 x13_2)<|Jd<|Jc<|?_
   exact Qz (Kd.p :: Kd.p :: Kd.p :: Kd.d [] _ :: Kd.p :: Kd.p :: Kd.p :: Kd.d [] _ :: Kd.p :: []) 0 mixed (by
    refine dm v0<|dm (i6 x13_2)<|?_
    have h_t18 := Jr H14
    have H15 := Jn H14
    refine Qa rfl rfl (Qe Tryz.underlying24 Tryz.sizeOf3 rfl rfl f0 h_t18)<|Wb (fun w hF => J2 (f := Jl) (i := x13_2) (sz := 1) (j := 0) (v := i6 (val (Jk a0 x13_2))) Tryz.isAgg3 rfl rfl (f0.row (hw.now hF)) h_t18 rfl) rfl rfl<|dm v1<|dm (i6 x13_2)<|?_
    have h_t22 := Jr H15
    have H16 := Jn H15
    refine Qa rfl rfl (Qe Tryz.underlying24 Tryz.sizeOf3 rfl rfl f1 h_t22)<|Wb (fun w hF => J2 (f := Jl) (i := x13_2) (sz := 1) (j := 0) (v := i6 (val (Jk a1 x13_2))) Tryz.isAgg3 rfl rfl (f1.row (hw.now hF)) h_t22 rfl) rfl rfl<|Qa rfl rfl (r_neq rfl rfl)<|Y3<|?_
    refine Qm (b := (decide ((val (Jk a0 x13_2)) ≠ (val (Jk a1 x13_2))))) rfl (fun hb => ?_) (fun hb => ?_)
    ·have H17 := Jw hb H16; clear H16
     refine Jc<|Ja<|ag (.bool false)<|Jd<|Jy<|?_
     obtain rfl := Option.some.inj H17
     refine Qw (v := .bool false) rfl rfl (Yz rfl)
    ·have H18 := Jx hb H16; clear H16
     refine Jv<|Ja<|?_
     obtain ⟨t25, h_t25, H19⟩ := Je H18; clear H18
     refine Jf rfl rfl rfl (Qp rfl rfl h_t25)<|mv (i6 t25)<|Jd<|?_
     refine Js t25 () m1 [] (by exact ⟨rfl, rfl, rfl, rfl, trivial⟩) (by decide) rfl (by exact ⟨(by subst hn1; exact H19), trivial⟩) (Nat.lt_succ_self _)
    ) (by kernel_rfl)
  ·have H20 := Jx hb H13; clear H13
   refine Q3<|Jc<|Ja<|ag (.bool true)<|Jd<|Jy<|?_
   obtain rfl := Option.some.inj H20
   refine Qw (v := .bool true) rfl rfl (Yz rfl)
theorem k105 {a0 : T_face_Person} {v0_2 : Value} {v0_3 : Value} {a1 : T_face_Person} {v1_2 : Value} {v1_3 : Value} {r : Bool} {w : World} {h : Qg} (hw : Know h w Yl) (f0_2 : FrS h 1 v0_2 (a0.Likes.map Jl)) (f0_3 : FrS h 1 v0_3 (a0.Nots.map Jl)) (f1_2 : FrS h 1 v1_2 (a1.Likes.map Jl)) (f1_3 : FrS h 1 v1_3 (a1.Nots.map Jl)) (H : R_SameFolk_1 a0 a1 = some r) : Does Tryz.prog 105 (List.toArray [.agg #[i6 a0.Id, Xt a0.Name, v0_2, v0_3], .agg #[i6 a1.Id, Xt a1.Name, v1_2, v1_3]]) w (fun v w' => v = (.bool r) ∧ Grow w w') := by
 refine enter (n := 31) Tryz.func105 rfl rfl rfl Yl [] (Sat.nil _ _)<|Jc<|Ja<|?_
 refine Wp (cs := [i6 a0.Id, Xt a0.Name, v0_2, v0_3]) rfl rfl rfl rfl (fun b2 => ?_)
 refine Wp (cs := [i6 a1.Id, Xt a1.Name, v1_2, v1_3]) rfl rfl rfl rfl (fun b3 => ?_)
 refine ag (.bool false)<|Jd<|Jc<|Ja<|Jf rfl rfl rfl (J7 Tryz.runUnderlying32 rfl Tryz.sizeOf3 rfl rfl)<|Qq (i := 0) (v := i6 a0.Id) Tryz.isAgg3 rfl rfl rfl rfl rfl<|Jf rfl rfl rfl (J7 Tryz.runUnderlying32 rfl Tryz.sizeOf3 rfl rfl)<|Qq (i := 1) (v := i6 a1.Id) Tryz.isAgg3 rfl rfl rfl rfl rfl<|Jf rfl rfl rfl (Uv rfl rfl)<|mv (.bool (decide (a0.Id = a1.Id)))<|?_
 refine split (fun hb => ?_) (fun hb => ?_)
 ·have H9 := Jw hb H; clear H
  refine Jf rfl rfl rfl (J7 Tryz.runUnderlying32 rfl Tryz.sizeOf9 rfl rfl)<|Qq (i := 0) (v := Xt a0.Name) Tryz.isAgg9 rfl rfl rfl rfl rfl<|Jf rfl rfl rfl (J7 Tryz.runUnderlying32 rfl Tryz.sizeOf9 rfl rfl)<|Qq (i := 1) (v := Xt a1.Name) Tryz.isAgg9 rfl rfl rfl rfl rfl<|Jf rfl rfl rfl (r_eqlT rfl rfl)<|Jf rfl rfl rfl (Q5 (v := .bool (decide (a0.Name = a1.Name))) rfl rfl)<|mv (.bool (decide (a0.Name = a1.Name)))<|?_
  refine split (fun hb => ?_) (fun hb => ?_)
  ·have H10 := Jw hb H9; clear H9
   refine Jf rfl rfl rfl (J7 Tryz.runUnderlying32 rfl Tryz.sizeOf24 rfl rfl)<|Qq (i := 0) (v := v0_2) Tryz.isAgg24 rfl rfl rfl rfl rfl<|Jf rfl rfl rfl (J7 Tryz.runUnderlying32 rfl Tryz.sizeOf24 rfl rfl)<|Qq (i := 1) (v := v1_2) Tryz.isAgg24 rfl rfl rfl rfl rfl<|?_
   obtain ⟨t22, h_t22, H11⟩ := Je H10; clear H10
   refine Qf (fun w hF hS => k12 (Jp w) (f0_2.mono (hw.now hF)) (f1_2.mono (hw.now hF)) h_t22) Tryz.call12 rfl rfl rfl<|Jf rfl rfl rfl (Q5 (v := .bool t22) rfl rfl)<|mv (.bool t22)<|?_
   refine split (fun hb => ?_) (fun hb => ?_)
   ·have H12 := Jw hb H11; clear H11
    refine Jf rfl rfl rfl (J7 Tryz.runUnderlying32 rfl Tryz.sizeOf24 rfl rfl)<|Qq (i := 0) (v := v0_3) Tryz.isAgg24 rfl rfl rfl rfl rfl<|Jf rfl rfl rfl (J7 Tryz.runUnderlying32 rfl Tryz.sizeOf24 rfl rfl)<|Qq (i := 1) (v := v1_3) Tryz.isAgg24 rfl rfl rfl rfl rfl<|?_
    obtain ⟨t29, h_t29, H13⟩ := Je H12; clear H12
    refine Qf (fun w hF hS => k12 (Jp w) (f0_3.mono (hw.now hF)) (f1_3.mono (hw.now hF)) h_t29) Tryz.call12 rfl rfl rfl<|Jf rfl rfl rfl (Q5 (v := .bool t29) rfl rfl)<|ag (.bool t29)<|Jd<|Jy<|?_
    obtain rfl := Option.some.inj H13
    refine Qw (v := .bool t29) rfl rfl (Yz rfl)
   ·have H14 := Jx hb H11; clear H11
    refine pa<|pa<|pa<|pa<|pa<|Jf rfl rfl rfl (Qr (v := .bool false) rfl rfl)<|ag (.bool false)<|Jd<|Jy<|?_
    obtain rfl := Option.some.inj H14
    refine Qw (v := .bool false) rfl rfl (Yz rfl)
  ·have H15 := Jx hb H9; clear H9
   refine pa<|pa<|pa<|pa<|pa<|Jf rfl rfl rfl (Qr (v := .bool false) rfl rfl)<|mv (.bool false)<|pa<|pa<|pa<|pa<|pa<|Jf rfl rfl rfl (Qr (v := .bool false) rfl rfl)<|ag (.bool false)<|Jd<|Jy<|?_
   obtain rfl := Option.some.inj H15
   refine Qw (v := .bool false) rfl rfl (Yz rfl)
 ·have H16 := Jx hb H; clear H
  refine pa<|pa<|pa<|pa<|pa<|Jf rfl rfl rfl (Qr (v := .bool false) rfl rfl)<|mv (.bool false)<|pa<|pa<|pa<|pa<|pa<|Jf rfl rfl rfl (Qr (v := .bool false) rfl rfl)<|mv (.bool false)<|pa<|pa<|pa<|pa<|pa<|Jf rfl rfl rfl (Qr (v := .bool false) rfl rfl)<|ag (.bool false)<|Jd<|Jy<|?_
  obtain rfl := Option.some.inj H16
  refine Qw (v := .bool false) rfl rfl (Yz rfl)
theorem k56 {a0 : (List T_face_Person)} {v0 : Value} {a1 : (List T_face_Person)} {v1 : Value} {r : Bool} {w : World} {h : Qg} (hw : Know h w Yl) (f0 : FrN h 4 v0 g_face_Person a0) (f1 : FrN h 4 v1 g_face_Person a1) (H : R_SameFolk a0 a1 = some r) : Does Tryz.prog 56 (List.toArray [v0, v1]) w (fun v w' => v = (.bool r) ∧ Grow w w') := by
 refine enter (n := 8) Tryz.func56 rfl rfl rfl Yl [] (Sat.nil _ _)<|Jc<|Ja<|ag (.bool false)<|Jd<|Jc<|Ja<|mv v0<|mv v1<|?_
 obtain ⟨t7, h_t7, H2⟩ := Je H; clear H
 refine Qf (fun w hF hS => k104 (Jp w) (f0.mono (hw.now hF)) (f1.mono (hw.now hF)) (FnH.mk ⟨105, #[], #[], rfl, Tryz.call105, fun args2 post2 w2 hk2 hR2 => by obtain ⟨a0_, v0_2_, v0_3_, a1_, v1_2_, v1_3_, r_, fa0_2_, fa0_3_, fa1_2_, fa1_3_, rfl, H_, rfl⟩ := hR2; exact k105 (Jp w2) fa0_2_ fa0_3_ fa1_2_ fa1_3_ H_⟩) h_t7) Tryz.call104 rfl rfl rfl<|ag (.bool t7)<|Jd<|Jy<|?_
 obtain rfl := Option.some.inj H2
 refine Qw (v := .bool t7) rfl rfl (Yz rfl)
theorem k17 {a0 : (List T_face_Person)} {v0 : Value} {a1 : Int} {a2 : (List T_face_Person)} {v2 : Value} {a3 : Int} {r : Bool} {w : World} {h : Qg} (hw : Know h w Yl) (f0 : FrN h 4 v0 g_face_Person a0) (f2 : FrN h 4 v2 g_face_Person a2) (H : Uf a0 a1 a2 a3 = some r) : Does Tryz.prog 17 (List.toArray [v0, i6 a1, v2, i6 a3]) w (fun v w' => v = (.bool r) ∧ Grow w w') := by
 refine enter (n := 19) Tryz.func17 rfl rfl rfl Yl [] (Sat.nil _ _)<|Jc<|Ja<|ag (.bool false)<|Jd<|?_
 refine Xf (r := r) (σ := (List T_face_Person)) (τ := Value) (fun s => Law_folk_j1 a0 a1 a3 s) (fun s t => [(0, v0), (1, i6 a1), (2, t), (3, i6 a3)]) (fun s t => []) (fun s t => FrN h 4 t g_face_Person s) ?_ ?_
 ·refine Jc<|Ja<|mv (i6 a3)<|Jf rfl rfl rfl (r_neq rfl rfl)<|Jd<|?_
  refine Qm (b := (decide (a3 ≠ 0))) rfl (fun hb => ?_) (fun hb => ?_)
  ·have H11 := Jw hb H; clear H
   refine Ja<|ag (.slice none 0 0)<|Jd<|?_
   refine Js ([] : (List T_face_Person)) (.slice none 0 0) 0 [] (by exact ⟨rfl, rfl, rfl, rfl, trivial⟩) (by decide) rfl (by exact ⟨H11, (FrN.nil _ _ _)⟩) (Nat.lt_succ_self _)
  ·have H12 := Jx hb H; clear H
   refine Jv ?_
   refine Js a2 v2 0 [] (by exact ⟨rfl, rfl, rfl, rfl, trivial⟩) (by decide) rfl (by exact ⟨H12, f2⟩) (Nat.lt_succ_self _)
 ·rintro x2 gv gg H7 gf
  try dsimp only at H7
  try dsimp only
  refine Jc<|Ja<|mv v0<|mv gv<|?_
  obtain ⟨t13, h_t13, H8⟩ := Je H7; clear H7
  refine Qf (fun w hF hS => k56 (Jp w) (f0.mono (hw.now hF)) (gf.mono (hw.now hF)) h_t13) Tryz.call56 rfl rfl rfl<|mv (.bool t13)<|?_
  refine split (fun hb => ?_) (fun hb => ?_)
  ·have H9 := Jw hb H8; clear H8
   refine mv (i6 a1)<|mv (i6 a3)<|Jf rfl rfl rfl (Uv rfl rfl)<|Jf rfl rfl rfl (Q5 (v := .bool (decide (a1 = a3))) rfl rfl)<|ag (.bool (decide (a1 = a3)))<|Jd<|Jy<|?_
   obtain rfl := Option.some.inj H9
   refine Qw (v := .bool (decide (a1 = a3))) rfl rfl (Yz rfl)
  ·have H10 := Jx hb H8; clear H8
   refine pa<|pa<|pa<|Jf rfl rfl rfl (Qr (v := .bool false) rfl rfl)<|ag (.bool false)<|Jd<|Jy<|?_
   obtain rfl := Option.some.inj H10
   refine Qw (v := .bool false) rfl rfl (Yz rfl)
theorem k63 {a0 : Bool} {a1 : Int} {r : Int} (H : Law_unless a0 a1 = some r) : Ret Tryz.prog 63 [.bool a0, i6 a1] (i6 r) := by
 refine Vr (n := 7) Tryz.func63 rfl rfl rfl (fun wd => ?_)
 refine Jc<|Ja<|ag (i6 0)<|Jd<|Jc<|Jc<|Ja<|mv (.bool a0)<|Jd<|?_
 refine Qm (b := a0) rfl (fun hb => ?_) (fun hb => ?_)
 ·have H3 := Jw hb H; clear H
  refine Jc<|Ja<|ag (i6 0)<|Jd<|Jy<|?_
  obtain rfl := Option.some.inj H3
  refine Qw (v := i6 0) rfl rfl (Yz rfl)
 ·have H4 := Jx hb H; clear H
  refine Jv<|Jc<|Ja<|mv (i6 a1)<|ag (i6 a1)<|Jd<|Jy<|?_
  obtain rfl := Option.some.inj H4
  refine Qw (v := i6 a1) rfl rfl (Yz rfl)
theorem k20 {a0 : Int} {r : Int} (H : Ja9 a0 = some r) : Ret Tryz.prog 20 [i6 a0] (i6 r) := by
 refine Vr (n := 10) Tryz.func20 rfl rfl rfl (fun wd => ?_)
 refine Jc<|Ja<|ag (i6 0)<|Jd<|Jc<|Ja<|mv (i6 a0)<|Jf rfl rfl rfl (r_geq rfl rfl)<|mv (.bool (decide (0 ≤ a0)))<|?_
 refine split (fun hb => ?_) (fun hb => ?_)
 ·have H5 := Jw hb H; clear H
  refine mv (i6 a0)<|Jf rfl rfl rfl (r_leq rfl rfl)<|Jf rfl rfl rfl (Q5 (v := .bool (decide (a0 ≤ 774192))) rfl rfl)<|?_
  obtain ⟨t9, h_t9, H6⟩ := Je H5; clear H5
  refine Vu (k63 h_t9) Tryz.call63 rfl rfl rfl<|ag (i6 t9)<|Jd<|Jy<|?_
  obtain rfl := Option.some.inj H6
  refine Qw (v := i6 t9) rfl rfl (Yz rfl)
 ·have H7 := Jx hb H; clear H
  refine pa<|pa<|Jf rfl rfl rfl (Qr (v := .bool false) rfl rfl)<|?_
  obtain ⟨t9_2, h_t9_2, H8⟩ := Je H7; clear H7
  refine Vu (k63 h_t9_2) Tryz.call63 rfl rfl rfl<|ag (i6 t9_2)<|Jd<|Jy<|?_
  obtain rfl := Option.some.inj H8
  refine Qw (v := i6 t9_2) rfl rfl (Yz rfl)
theorem k68 {css : List (List Value)} {xs r : List T_face_Person} {p0 : Option Addr × Nat} {n0 : Nat} {w : World} {h : Qg} {S : Nat → Prop} (hcs : (J5 32 4 (sl p0 n0) n0 (css.map idC)).P S w) (hlt : ∀ b, S b → b < w.heap.size) (hn0 : n0 = css.length) (hA : AllC g_face_Person h 4 css xs) (H : gSortP xs (fun x => x.Id) = some r) :
    Does Tryz.prog 68 (List.toArray [sl p0 n0, .func (.func 69) #[] #[]]) w (fun v w' => ∃ css' : List (List Value), v = .tuple #[] ∧ Turn w w' S (bothC (J5 32 4 (sl p0 n0) n0 (css'.map idC)) (factC (AllC g_face_Person h 4 css' r)))) :=
 sort_nest (ρ := Go.Proofs.Tryz.sortFN_ren) Go.Proofs.Tryz.sortFN (fun w => Tryz.isAgg32 w) (fun w => Tryz.sizeOf32 w) (fun c_ x_ f_ => by obtain ⟨q0_, q1_, q2_, q3_⟩ := f_; exact fun j_ hj_ => match j_, hj_ with | 0, _ => (by rw [q0_]; rfl) | 1, _ => (by rw [q1_]; rfl) | 2, _ => (show FrS _ _ _ _ from q2_).one | 3, _ => (show FrS _ _ _ _ from q3_).one) Go.Proofs.Tryz.entersN
  (fun c1 c2 x y W h1 h2 g1 g2 hb => match c1, h1, c2, h2, g1, g2 with
   | [u0, u1, u2, u3], _, [v0, v1, v2, v3], _, g1, g2 => by
    obtain ⟨q0, q1, q2, q3⟩ := g1; replace q0 : u0 = _ := q0; subst q0; replace q1 : u1 = _ := q1; subst q1; replace q2 : FrS h 1 u2 _ := q2; obtain ⟨_, _, rfl, _⟩ := q2.out; replace q3 : FrS h 1 u3 _ := q3; obtain ⟨_, _, rfl, _⟩ := q3.out; 
    obtain ⟨r0, r1, r2, r3⟩ := g2; replace r0 : v0 = _ := r0; subst r0; replace r1 : v1 = _ := r1; subst r1; replace r2 : FrS h 1 v2 _ := r2; obtain ⟨_, _, rfl, _⟩ := r2.out; replace r3 : FrS h 1 v3 _ := r3; obtain ⟨_, _, rfl, _⟩ := r3.out; 
    exact Go.Proofs.Tryz.closureN _ _ _ _ _ _ _ _ _ _ _ _ _ _ _ _ _ hb) hcs hlt hn0 hA H
theorem k23 {a0 : (List T_face_Person)} {v0 : Value} {a1 : Int} {a2 : (List Int)} {v2 : Value} {a3 : (List UInt8)} {r : (List T_face_Person) × Int} {w : World} {h : Qg} (hw : Know h w Yl) (f0 : FrN h 4 v0 g_face_Person a0) (f2 : FrS h 1 v2 (a2.map Jl)) (H : Jcj a0 a1 a2 a3 = some r) : Does Tryz.prog 23 (List.toArray [v0, i6 a1, v2, Xt a3]) w (fun v w' => ∃ x : (Option Addr × Nat), v = (.tuple #[sl x r.1.length, i6 r.2]) ∧ Turn w w' Yl (rowD 32 4 g_face_Person (sl x r.1.length) r.1.length r.1)) := by
 refine enter (n := 148) Tryz.func23 rfl rfl rfl Yl [] (Sat.nil _ _)<|Wy Yo<|Jc<|Ja<|ag (.slice none 0 0)<|ag (i6 0)<|Jd<|Jc<|Ja<|mv v0<|mv (i6 a1)<|?_
 obtain ⟨t23, h_t23, H66⟩ := Je H; clear H
 refine Qf (fun w hF hS => k57 (Jp w) (f0.mono (hw.now hF)) h_t23) Tryz.call57 rfl rfl rfl<|ag (i6 t23)<|Jd<|Jc<|Jc<|Ja<|mv (i6 t23)<|Jf rfl rfl rfl (Q0 rfl rfl)<|Jd<|?_
 refine Qm (b := (decide (t23 < 0))) rfl (fun hb => ?_) (fun hb => ?_)
 ·have H67 := Jw hb H66; clear H66
  refine Jc<|Ja<|ag (.slice none 0 0)<|ag (i6 7)<|Jd<|Jy<|Q9 32 4<|?_
  obtain rfl := Option.some.inj H67
  refine Yp 0 1 rfl rfl (by decide)<|Xc 0 rfl (Vo (p := nn) rfl (AllC.nil (G := g_face_Person) (h := Yo) (sz := 4)))<|?_
  refine Vz (v1 := sl nn (([] : List (List Value)).length)) (v2 := i6 7) rfl rfl rfl (Zb nn (i := 0) rfl (by first | rfl | rw [(show (([] : List (List Value)).length) = ([] : List T_face_Person).length from (AllC.nil (G := g_face_Person) (h := Yo) (sz := 4)).len)]) (by first | exact Imp.refl _ | exact Imp.of (by rw [(show (([] : List (List Value)).length) = ([] : List T_face_Person).length from (AllC.nil (G := g_face_Person) (h := Yo) (sz := 4)).len)])))
 ·have H68 := Jx hb H66; clear H66
  refine Jv<|Jc<|Ja<|mv v0<|mv (i6 t23)<|?_
  obtain ⟨t28, h_t28, H69⟩ := Je H68; clear H68
  refine Jf rfl rfl rfl (Qe Tryz.underlying23 Tryz.sizeOf32 rfl rfl f0.frs (f0.ix h_t28))<|J9 (fun w hF hS => Qj (f := (elC h v0 4)) (i := t23) (sz := 4) (j := 0) (vs := [i6 t28.Id, Xt t28.Name, (Qu h v0 4 (Int.toNat t23) 2), (Qu h v0 4 (Int.toNat t23) 3)]) Tryz.isAgg32 Tryz.sizeOf32 rfl rfl (f0.frs.row (hw.now hF)) (f0.ix h_t28) (rd_of (J1 (f0.at h_t28)) rfl)) rfl rfl rfl<|?_
  refine Wh (cs := [i6 0, Xt [], .slice none 0 0, .slice none 0 0]) Tryz.zeroValue32 rfl rfl rfl (fun b3 => ?_)
  refine Y8 (i := 1) (vs := [i6 t28.Id, Xt t28.Name, (Qu h v0 4 (Int.toNat t23) 2), (Qu h v0 4 (Int.toNat t23) 3)]) (cs' := [i6 t28.Id, Xt t28.Name, (Qu h v0 4 (Int.toNat t23) 2), (Qu h v0 4 (Int.toNat t23) 3)]) Tryz.sizeOf32 rfl rfl rfl rfl rfl rfl (by simp only [List.all_cons, List.all_nil, (show FrS h 1 (Qu h v0 4 (Int.toNat t23) 2) (t28.Likes.map Jl) from (Jm (f0.at h_t28))).one, (show FrS h 1 (Qu h v0 4 (Int.toNat t23) 3) (t28.Nots.map Jl) from (Jt (f0.at h_t28))).one] <;> rfl) rfl rfl<|Jd<|?_
  refine Xf (r := r) (σ := Unit) (τ := Unit) (fun s => R_SplitFolk_j1 a0 a2 a3 t23 t28) (fun s t => [(0, v0), (2, v2), (3, Xt a3), (10, i6 t23), (11, .pointer (some ⟨b3, 0, none⟩))]) (fun s t => [Yx Yo Yo, Q1 b3 [i6 t28.Id, Xt t28.Name, (Qu h v0 4 (Int.toNat t23) 2), (Qu h v0 4 (Int.toNat t23) 3)] 32]) (fun s t => True) ?_ ?_
  ·refine Jc<|Ja<|mv v2<|Jf rfl rfl rfl (Y0 Tryz.underlying24 rfl f2 rfl)<|mv (i6 0)<|Jd<|Ju<|?_
   refine X6 (σ := Int) (τ := Unit) (fun next10 s => Wk a0 a2 a3 t23 t28 next10 s) (fun s t => [(0, v0), (2, v2), (3, Xt a3), (10, i6 t23), (11, .pointer (some ⟨b3, 0, none⟩)), (30, v2), (31, i6 (a2.length : Int)), (32, i6 s)]) (fun s t => [Yx Yo Yo, Q1 b3 [i6 t28.Id, Xt t28.Name, (Qu h v0 4 (Int.toNat t23) 2), (Qu h v0 4 (Int.toNat t23) 3)] 32]) (fun s t => True) 0 () [0, 1] H69 (by exact trivial) (by exact ⟨rfl, rfl, rfl, rfl, rfl, rfl, rfl, rfl, trivial⟩) (by decide) rfl ?_
   rintro x32_2 _ m10 gg H123 _
   clear H69
   try dsimp only at H123
   generalize hn10 : it (fun next10 s => Wk a0 a2 a3 t23 t28 next10 s) m10 = next10 at H123
   try dsimp only
   refine Jc<|Ja<|Jf rfl rfl rfl (Q0 rfl rfl)<|Jd<|Jc<|?_
   refine Qm (b := (decide (x32_2 < (a2.length : Int)))) rfl (fun hb => ?_) (fun hb => ?_)
   ·have H124 := Jw hb H123; clear H123
    refine Jv<|Jc<|Ju<|Jc<|Ja<|?_
    obtain ⟨t34, h_t34, H125⟩ := Je H124; clear H124
    refine Jf rfl rfl rfl (Qe Tryz.underlying24 Tryz.sizeOf3 rfl rfl f2 h_t34)<|J9 (fun w hF hS => J2 (f := Jl) (i := x32_2) (sz := 1) (j := 0) (v := i6 t34) Tryz.isAgg3 rfl rfl (f2.row (hw.now hF)) h_t34 rfl) rfl rfl rfl<|ag (i6 t34)<|Jd<|Jc<|Ja<|Jf rfl rfl rfl (J7 Tryz.runUnderlying32 rfl Tryz.sizeOf24 rfl rfl)<|Qq (i := 1) (v := (Qu h v0 4 (Int.toNat t23) 2)) Tryz.isAgg24 rfl rfl rfl rfl rfl<|mv (i6 t34)<|?_
    obtain ⟨t39, h_t39, H126⟩ := Je H125; clear H125
    refine Qf (fun w hF hS => k53 (Jp w) ((show FrS h 1 (Qu h v0 4 (Int.toNat t23) 2) (t28.Likes.map Jl) from (Jm (f0.at h_t28))).mono (hw.now hF)) h_t39) Tryz.call53 rfl rfl rfl<|Jf rfl rfl rfl (Ub rfl)<|Jd<|?_
    refine Qm (b := (!t39)) rfl (fun hb => ?_) (fun hb => ?_)
    ·have H127 := Jw hb H126; clear H126
     refine Jc<|Ja<|ag (.slice none 0 0)<|ag (i6 7)<|Jd<|Jy<|Q9 32 4<|?_
     obtain rfl := Option.some.inj H127
     refine Yp 0 2 rfl rfl (by decide)<|Xc 0 rfl (Vo (p := nn) rfl (AllC.nil (G := g_face_Person) (h := Yo) (sz := 4)))<|?_
     refine Vz (v1 := sl nn (([] : List (List Value)).length)) (v2 := i6 7) rfl rfl rfl (Zb nn (i := 0) rfl (by first | rfl | rw [(show (([] : List (List Value)).length) = ([] : List T_face_Person).length from (AllC.nil (G := g_face_Person) (h := Yo) (sz := 4)).len)]) (by first | exact Imp.refl _ | exact Imp.of (by rw [(show (([] : List (List Value)).length) = ([] : List T_face_Person).length from (AllC.nil (G := g_face_Person) (h := Yo) (sz := 4)).len)])))
    ·have H128 := Jx hb H126; clear H126
     refine Jv<|Ja<|?_
     obtain ⟨t41, h_t41, H129⟩ := Je H128; clear H128
     refine Jf rfl rfl rfl (Qp rfl rfl h_t41)<|mv (i6 t41)<|Jd<|?_
     refine Js t41 () m10 [0, 1] (by exact ⟨rfl, rfl, rfl, rfl, rfl, rfl, rfl, rfl, trivial⟩) (by decide) rfl (by exact ⟨(by subst hn10; exact H129), trivial⟩) (Nat.lt_succ_self _)
   ·have H130 := Jx hb H123; clear H123
    refine Q3 ?_
    refine Js () () 0 [0, 1] (by exact ⟨rfl, rfl, rfl, rfl, rfl, trivial⟩) (by decide) rfl (by exact ⟨H130, trivial⟩) (Nat.lt_succ_self _)
  ·rintro _ _ gg H70 _
   try dsimp only at H70
   try dsimp only
   refine Xf (r := r) (σ := Unit) (τ := Unit) (fun s => Jcz a0 a2 a3 t23 t28) (fun s t => [(0, v0), (2, v2), (3, Xt a3), (10, i6 t23), (11, .pointer (some ⟨b3, 0, none⟩))]) (fun s t => [Yx Yo Yo, Q1 b3 [i6 t28.Id, Xt t28.Name, (Qu h v0 4 (Int.toNat t23) 2), (Qu h v0 4 (Int.toNat t23) 3)] 32]) (fun s t => True) ?_ ?_
   ·refine Jc<|Ja<|ag (i6 1)<|Jd<|Ju<|?_
    refine X6 (σ := Int) (τ := Unit) (fun next9 s => W6 a0 a2 a3 t23 t28 next9 s) (fun s t => [(0, v0), (2, v2), (3, Xt a3), (10, i6 t23), (11, .pointer (some ⟨b3, 0, none⟩)), (14, i6 s)]) (fun s t => [Yx Yo Yo, Q1 b3 [i6 t28.Id, Xt t28.Name, (Qu h v0 4 (Int.toNat t23) 2), (Qu h v0 4 (Int.toNat t23) 3)] 32]) (fun s t => True) 1 () [0, 1] H70 (by exact trivial) (by exact ⟨rfl, rfl, rfl, rfl, rfl, rfl, trivial⟩) (by decide) rfl ?_
    rintro x14_2 _ m9 gg H114 _
    clear H70
    try dsimp only at H114
    generalize hn9 : it (fun next9 s => W6 a0 a2 a3 t23 t28 next9 s) m9 = next9 at H114
    try dsimp only
    refine Jc<|Jc<|Ja<|mv (i6 x14_2)<|mv v2<|Jf rfl rfl rfl (Y0 Tryz.underlying24 rfl f2 rfl)<|Jf rfl rfl rfl (Q0 rfl rfl)<|Jd<|?_
    refine Qm (b := (decide (x14_2 < (a2.length : Int)))) rfl (fun hb => ?_) (fun hb => ?_)
    ·have H115 := Jw hb H114; clear H114
     refine Jv<|Jc<|Ju<|Jc<|?_
     exact Qz (Kd.p :: Kd.p :: Kd.p :: Kd.d [] _ :: Kd.p :: Kd.p :: Kd.p :: Kd.p :: Kd.d [] _ :: Kd.p :: []) 0 mixed (by
      refine dm v2<|dm (i6 x14_2)<|?_
      have h_t50 := Jr H115
      have H116 := Jn H115
      refine Qa rfl rfl (Qe Tryz.underlying24 Tryz.sizeOf3 rfl rfl f2 h_t50)<|Wb (fun w hF => J2 (f := Jl) (i := x14_2) (sz := 1) (j := 0) (v := i6 (val (Jk a2 x14_2))) Tryz.isAgg3 rfl rfl (f2.row (hw.now hF)) h_t50 rfl) rfl rfl<|dm v2<|dm (i6 x14_2)<|?_
      have h_t54 := Jr H116
      have H117 := Jn H116
      refine Qa rfl rfl (Zl rfl rfl h_t54) ?_
      have h_t55 := Jr H117
      have H118 := Jn H117
      refine Qa rfl rfl (Qe Tryz.underlying24 Tryz.sizeOf3 rfl rfl f2 h_t55)<|Wb (fun w hF => J2 (f := Jl) (i := (val (gI (x14_2 - 1)))) (sz := 1) (j := 0) (v := i6 (val (Jk a2 (val (gI (x14_2 - 1)))))) Tryz.isAgg3 rfl rfl (f2.row (hw.now hF)) h_t55 rfl) rfl rfl<|Qa rfl rfl (r_leq rfl rfl)<|Y3<|?_
      refine Qm (b := (decide ((val (Jk a2 x14_2)) ≤ (val (Jk a2 (val (gI (x14_2 - 1)))))))) rfl (fun hb => ?_) (fun hb => ?_)
      ·have H119 := Jw hb H118; clear H118
       refine Jc<|Ja<|ag (.slice none 0 0)<|ag (i6 5)<|Jd<|Jy<|Q9 32 4<|?_
       obtain rfl := Option.some.inj H119
       refine Yp 0 2 rfl rfl (by decide)<|Xc 0 rfl (Vo (p := nn) rfl (AllC.nil (G := g_face_Person) (h := Yo) (sz := 4)))<|?_
       refine Vz (v1 := sl nn (([] : List (List Value)).length)) (v2 := i6 5) rfl rfl rfl (Zb nn (i := 0) rfl (by first | rfl | rw [(show (([] : List (List Value)).length) = ([] : List T_face_Person).length from (AllC.nil (G := g_face_Person) (h := Yo) (sz := 4)).len)]) (by first | exact Imp.refl _ | exact Imp.of (by rw [(show (([] : List (List Value)).length) = ([] : List T_face_Person).length from (AllC.nil (G := g_face_Person) (h := Yo) (sz := 4)).len)])))
      ·have H120 := Jx hb H118; clear H118
       refine Jv<|Ja<|mv (i6 x14_2)<|?_
       obtain ⟨t47, h_t47, H121⟩ := Je H120; clear H120
       refine Jf rfl rfl rfl (Qp rfl rfl h_t47)<|ag (i6 t47)<|Jd<|?_
       refine Js t47 () m9 [0, 1] (by exact ⟨rfl, rfl, rfl, rfl, rfl, rfl, trivial⟩) (by decide) rfl (by exact ⟨(by subst hn9; exact H121), trivial⟩) (Nat.lt_succ_self _)
      ) (by kernel_rfl)
    ·have H122 := Jx hb H114; clear H114
     refine Q3 ?_
     refine Js () () 0 [0, 1] (by exact ⟨rfl, rfl, rfl, rfl, rfl, trivial⟩) (by decide) rfl (by exact ⟨H122, trivial⟩) (Nat.lt_succ_self _)
   ·rintro _ _ gg H71 _
    try dsimp only at H71
    try dsimp only
    refine Jc<|Ju<|Jc<|Ja<|mv v2<|Jf rfl rfl rfl (Y0 Tryz.underlying24 rfl f2 rfl)<|Jf rfl rfl rfl (Uv rfl rfl)<|mv (.bool (decide ((a2.length : Int) = 0)))<|?_
    refine split (fun hb => ?_) (fun hb => ?_)
    ·have H72 := Jw hb H71; clear H71
     refine pa<|pa<|pa<|pa<|pa<|pa<|Jf rfl rfl rfl (Q5 (v := .bool true) rfl rfl)<|ag (.bool true)<|Jd<|c_true rfl<|Jc<|Ja<|ag (.slice none 0 0)<|ag (i6 1)<|Jd<|Jy<|Q9 32 4<|?_
     obtain rfl := Option.some.inj H72
     refine Yp 0 2 rfl rfl (by decide)<|Xc 0 rfl (Vo (p := nn) rfl (AllC.nil (G := g_face_Person) (h := Yo) (sz := 4)))<|?_
     refine Vz (v1 := sl nn (([] : List (List Value)).length)) (v2 := i6 1) rfl rfl rfl (Zb nn (i := 0) rfl (by first | rfl | rw [(show (([] : List (List Value)).length) = ([] : List T_face_Person).length from (AllC.nil (G := g_face_Person) (h := Yo) (sz := 4)).len)]) (by first | exact Imp.refl _ | exact Imp.of (by rw [(show (([] : List (List Value)).length) = ([] : List T_face_Person).length from (AllC.nil (G := g_face_Person) (h := Yo) (sz := 4)).len)])))
    ·have H73 := Jx hb H71; clear H71
     refine mv v2<|Jf rfl rfl rfl (Y0 Tryz.underlying24 rfl f2 rfl)<|Jf rfl rfl rfl (J7 Tryz.runUnderlying32 rfl Tryz.sizeOf24 rfl rfl)<|Qq (i := 1) (v := (Qu h v0 4 (Int.toNat t23) 2)) Tryz.isAgg24 rfl rfl rfl rfl rfl<|Jf rfl rfl rfl (Y0 Tryz.underlying24 rfl (show FrS h 1 (Qu h v0 4 (Int.toNat t23) 2) (t28.Likes.map Jl) from (Jm (f0.at h_t28))) rfl)<|Jf rfl rfl rfl (Uv rfl rfl)<|Jf rfl rfl rfl (Qr (v := .bool (decide ((a2.length : Int) = (t28.Likes.length : Int)))) rfl rfl)<|ag (.bool (decide ((a2.length : Int) = (t28.Likes.length : Int))))<|Jd<|?_
     refine Qm (b := (decide ((a2.length : Int) = (t28.Likes.length : Int)))) rfl (fun hb => ?_) (fun hb => ?_)
     ·have H74 := Jw hb H73; clear H73
      refine Jc<|Ja<|ag (.slice none 0 0)<|ag (i6 1)<|Jd<|Jy<|Q9 32 4<|?_
      obtain rfl := Option.some.inj H74
      refine Yp 0 2 rfl rfl (by decide)<|Xc 0 rfl (Vo (p := nn) rfl (AllC.nil (G := g_face_Person) (h := Yo) (sz := 4)))<|?_
      refine Vz (v1 := sl nn (([] : List (List Value)).length)) (v2 := i6 1) rfl rfl rfl (Zb nn (i := 0) rfl (by first | rfl | rw [(show (([] : List (List Value)).length) = ([] : List T_face_Person).length from (AllC.nil (G := g_face_Person) (h := Yo) (sz := 4)).len)]) (by first | exact Imp.refl _ | exact Imp.of (by rw [(show (([] : List (List Value)).length) = ([] : List T_face_Person).length from (AllC.nil (G := g_face_Person) (h := Yo) (sz := 4)).len)])))
     ·have H75 := Jx hb H73; clear H73
      refine Jc<|Ja<|mv (Xt a3)<|?_
      obtain ⟨t72, h_t72, H76⟩ := Je H75; clear H75
      refine Vu (k51 h_t72) Tryz.call51 rfl rfl rfl<|Jf rfl rfl rfl (Ub rfl)<|ag (.bool (!t72))<|Jd<|?_
      refine Qm (b := (!t72)) rfl (fun hb => ?_) (fun hb => ?_)
      ·have H77 := Jw hb H76; clear H76
       refine Jc<|Ja<|ag (.slice none 0 0)<|ag (i6 3)<|Jd<|Jy<|Q9 32 4<|?_
       obtain rfl := Option.some.inj H77
       refine Yp 0 2 rfl rfl (by decide)<|Xc 0 rfl (Vo (p := nn) rfl (AllC.nil (G := g_face_Person) (h := Yo) (sz := 4)))<|?_
       refine Vz (v1 := sl nn (([] : List (List Value)).length)) (v2 := i6 3) rfl rfl rfl (Zb nn (i := 0) rfl (by first | rfl | rw [(show (([] : List (List Value)).length) = ([] : List T_face_Person).length from (AllC.nil (G := g_face_Person) (h := Yo) (sz := 4)).len)]) (by first | exact Imp.refl _ | exact Imp.of (by rw [(show (([] : List (List Value)).length) = ([] : List T_face_Person).length from (AllC.nil (G := g_face_Person) (h := Yo) (sz := 4)).len)])))
      ·have H78 := Jx hb H76; clear H76
       refine Jc<|Ja<|mv v0<|Jf rfl rfl rfl (Uh Tryz.underlying23 rfl f0)<|Jf rfl rfl rfl (r_geq rfl rfl)<|ag (.bool (decide (100 ≤ (a0.length : Int))))<|Jd<|?_
       refine Qm (b := (decide (100 ≤ (a0.length : Int)))) rfl (fun hb => ?_) (fun hb => ?_)
       ·have H79 := Jw hb H78; clear H78
        refine Jc<|Ja<|ag (.slice none 0 0)<|ag (i6 12)<|Jd<|Jy<|Q9 32 4<|?_
        obtain rfl := Option.some.inj H79
        refine Yp 0 2 rfl rfl (by decide)<|Xc 0 rfl (Vo (p := nn) rfl (AllC.nil (G := g_face_Person) (h := Yo) (sz := 4)))<|?_
        refine Vz (v1 := sl nn (([] : List (List Value)).length)) (v2 := i6 12) rfl rfl rfl (Zb nn (i := 0) rfl (by first | rfl | rw [(show (([] : List (List Value)).length) = ([] : List T_face_Person).length from (AllC.nil (G := g_face_Person) (h := Yo) (sz := 4)).len)]) (by first | exact Imp.refl _ | exact Imp.of (by rw [(show (([] : List (List Value)).length) = ([] : List T_face_Person).length from (AllC.nil (G := g_face_Person) (h := Yo) (sz := 4)).len)])))
       ·have H80 := Jx hb H78; clear H78
        refine Jv<|Jc<|Ja<|mv v0<|?_
        obtain ⟨t79, h_t79, H81⟩ := Je H80; clear H80
        refine Yk (J8 (rds := []) (G := fun x : (Option Addr × Nat) => sl x t79.length) (C := fun x : (Option Addr × Nat) => rowD 32 4 g_face_Person (sl x t79.length) t79.length t79) (fun w L' hF hS hi => k60 (Jp w) (f0.mono (hw.now hF)) h_t79) Tryz.call60 rfl) rfl rfl rfl (fun p => ?_)
        refine c_rowD 2 rfl (fun hp css hn pf => ?_)
        rw [hn]
        refine V7 2 rfl ?_
        refine Yv 0 2 rfl rfl (by decide) (fun _ _ => Qo) (fun hp_2 hle hle_2 => ?_)
        refine ag (sl p css.length)<|Jd<|?_
        try dsimp only [z1, z2, z5, z6, z7, z8]
        refine Jc ?_
        exact Qz (Kd.p :: Kd.p :: Kd.t 4 [0] _ _ :: Kd.p :: Kd.d [1] _ :: Kd.t 5 [0] _ _ :: Kd.p :: Kd.nw 6 [_, _, _, _] 32 :: Kd.sv 16 86 6 _ 32 :: []) 3 mixed (by
         refine dm (Xt a3)<|dm v2<|?_
         have h_t82 := Jr H81
         have H82 := Jn H81
         refine Uc (Cv := fun v => J5 3 1 v (val (Jg a2)).length ((val (Jg a2)).map Jl)) (none, 0) (J8 (G := fun x : (Option Addr × Nat) => sl x (val (Jg a2)).length) (C := fun x : (Option Addr × Nat) => J5 3 1 (sl x (val (Jg a2)).length) (val (Jg a2)).length ((val (Jg a2)).map Jl)) (fun w L' hF hS hi => k67 (Jp w) (f2.mono (hw.now hF)) h_t82) Tryz.call67 rfl) (fun _ => rfl) rfl rfl rfl (fun p_2 => ?_)
         refine Qa rfl rfl (J7 Tryz.runUnderlying32 rfl Tryz.sizeOf24 rfl rfl)<|Z5 (i := 1) (v := (Qu h v0 4 (Int.toNat t23) 3)) Tryz.isAgg24 rfl rfl rfl rfl<|?_
         have h_t85 := Jr H82
         have H83 := Jn H82
         refine Uc (Cv := fun v => J5 3 1 v (val (Jg t28.Nots)).length ((val (Jg t28.Nots)).map Jl)) (none, 0) (J8 (G := fun x : (Option Addr × Nat) => sl x (val (Jg t28.Nots)).length) (C := fun x : (Option Addr × Nat) => J5 3 1 (sl x (val (Jg t28.Nots)).length) (val (Jg t28.Nots)).length ((val (Jg t28.Nots)).map Jl)) (fun w L' hF hS hi => k67 (Jp w) ((show FrS h 1 (Qu h v0 4 (Int.toNat t23) 3) (t28.Nots.map Jl) from (Jt (f0.at h_t28))).mono (hw.now hF)) h_t85) Tryz.call67 rfl) (fun _ => rfl) rfl rfl rfl (fun p_3 => ?_)
         refine Qa rfl rfl (r_build (pl := #[(0, 1), (1, 1), (2, 1), (3, 1)]) (ps := [(0, i6 1), (1, Xt a3), (2, sl p_2 (val (Jg a2)).length), (3, sl p_3 (val (Jg t28.Nots)).length)]) (cells := #[i6 1, Xt a3, sl p_2 (val (Jg a2)).length, sl p_3 (val (Jg t28.Nots)).length]) Tryz.zeroValue32 Tryz.runUnderlying32 (fun w => by kernel_rfl) rfl rfl) ?_
         refine d_new rfl rfl (run_alloc (cs := [i6 0, Xt [], .slice none 0 0, .slice none 0 0]) Tryz.zeroValue32 rfl) rfl (fun b4 => ?_)
         refine d_storeV (i := 6) (vs := [i6 1, Xt a3, sl p_2 (val (Jg a2)).length, sl p_3 (val (Jg t28.Nots)).length]) (cs' := fun v_ => [(vcell v_ 0), (vcell v_ 1), (vcell v_ 2), (vcell v_ 3)]) Tryz.sizeOf32 rfl rfl rfl rfl rfl rfl rfl rfl rfl<|Y3<|?_
         try dsimp only [z1, z2, z5, z6, z7, z8]
         refine Xf (r := r) (σ := Int × (List Int) × (List Int)) (τ := Unit) (fun s => Jcn a2 a3 t23 t79 s.1 s.2.1 s.2.2) (fun s t => [(2, v2), (10, i6 t23), (15, sl p css.length), (16, .pointer (some ⟨b4, 0, none⟩))]) (fun s t => [Yx Yo hp_2, J5 32 4 (sl p css.length) css.length (css.map idC), J5 3 1 (sl p_2 (val (Jg a2)).length) (val (Jg a2)).length (s.2.1.map Jl), J5 3 1 (sl p_3 (val (Jg t28.Nots)).length) (val (Jg t28.Nots)).length (s.2.2.map Jl), Q1 b4 [i6 s.1, Xt a3, sl p_2 (val (Jg a2)).length, sl p_3 (val (Jg t28.Nots)).length] 32]) (fun s t => AllC g_face_Person hp_2 4 css t79 ∧ (val (Jg a2)).length = s.2.1.length ∧ (val (Jg t28.Nots)).length = s.2.2.length) ?_ ?_
         ·refine Ju ?_
          refine c_dr 2 <| c_dr 1 ?_
          try dsimp only [z1, z2, z3, z4, z5, z6, z7, z8]
          refine X6 (σ := Int) (τ := Unit) (fun next8 s => W7 a0 a2 a3 t23 t79 (val (Jg a2)) (val (Jg t28.Nots)) next8 s) (fun s t => [(0, v0), (2, v2), (10, i6 t23), (15, sl p css.length), (16, .pointer (some ⟨b4, 0, none⟩))]) (fun s t => [Yx Yo hp_2, J5 32 4 (sl p css.length) css.length (css.map idC), J5 3 1 (sl p_2 (val (Jg a2)).length) (val (Jg a2)).length ((val (Jg a2)).map Jl), J5 3 1 (sl p_3 (val (Jg t28.Nots)).length) (val (Jg t28.Nots)).length ((val (Jg t28.Nots)).map Jl), Q1 b4 [i6 s, Xt a3, sl p_2 (val (Jg a2)).length, sl p_3 (val (Jg t28.Nots)).length] 32]) (fun s t => True) 1 () [0, 1, 2, 3, 4] H83 (by exact trivial) (by exact ⟨rfl, rfl, rfl, rfl, rfl, trivial⟩) (by decide) rfl ?_
          rintro m_6 _ m8 gg H109 _
          clear H83
          try dsimp only at H109
          generalize hn8 : it (fun next8 s => W7 a0 a2 a3 t23 t79 (val (Jg a2)) (val (Jg t28.Nots)) next8 s) m8 = next8 at H109
          try dsimp only
          refine Jc<|Jc<|Ja<|mv v0<|Jf rfl rfl rfl (J7 Tryz.runUnderlying32 rfl Tryz.sizeOf3 rfl rfl)<|Qq (i := 4) (v := i6 m_6) Tryz.isAgg3 rfl rfl rfl rfl rfl<|?_
          obtain ⟨t90, h_t90, H110⟩ := Je H109; clear H109
          refine Qf (fun w hF hS => k57 (Jp w) (f0.mono (hw.now hF)) h_t90) Tryz.call57 rfl rfl rfl<|Jf rfl rfl rfl (r_geq rfl rfl)<|Jd<|?_
          try dsimp only [z1, z2, z5, z6, z7, z8]
          refine Qm (b := (decide (0 ≤ t90))) rfl (fun hb => ?_) (fun hb => ?_)
          ·have H111 := Jw hb H110; clear H110
           refine Jv<|Ju<|Ja<|Jf rfl rfl rfl (J7 Tryz.runUnderlying32 rfl Tryz.sizeOf3 rfl rfl)<|Qq (i := 4) (v := i6 m_6) Tryz.isAgg3 rfl rfl rfl rfl rfl<|?_
           obtain ⟨t94, h_t94, H112⟩ := Je H111; clear H111
           refine Jf rfl rfl rfl (Qp rfl rfl h_t94)<|Jf rfl rfl rfl (J7 Tryz.runUnderlying32 rfl Tryz.sizeOf3 rfl rfl)<|Y8 (i := 4) (vs := [i6 t94]) (cs' := [i6 t94, Xt a3, sl p_2 (val (Jg a2)).length, sl p_3 (val (Jg t28.Nots)).length]) Tryz.sizeOf3 rfl rfl rfl rfl rfl rfl rfl rfl rfl<|Jd<|?_
           try dsimp only [z1, z2, z5, z6, z7, z8]
           refine Js t94 () m8 [0, 1, 2, 3, 4] (by exact ⟨rfl, rfl, rfl, rfl, rfl, trivial⟩) (by decide) rfl (by exact ⟨(by subst hn8; exact H112), trivial⟩) (Nat.lt_succ_self _)
          ·have H113 := Jx hb H110; clear H110
           refine Q3 ?_
           refine Js (m_6, (val (Jg a2)), (val (Jg t28.Nots))) () 0 [0, 1, 2, 3, 4] (by exact ⟨rfl, rfl, rfl, rfl, trivial⟩) (by decide) rfl (by exact ⟨H113, ⟨(pf.mono hle_2), rfl, rfl⟩⟩) (Nat.lt_succ_self _)
         ·rintro ⟨m, l_2, l_3⟩ _ gg H84 ⟨pf_2, hl, hl_2⟩
          try dsimp only at H84
          try dsimp only
          refine Xf (r := r) (σ := (List T_face_Person)) (τ := Qg × (List (List Value)) × (Option Addr × Nat)) (fun s => Jcs a3 t23 m l_2 l_3 s) (fun s t => [(10, i6 t23), (15, .slice t.2.2.1 t.2.1.length t.2.2.2), (16, .pointer (some ⟨b4, 0, none⟩))]) (fun s t => [Yx Yo t.1, J5 32 4 (.slice t.2.2.1 t.2.1.length t.2.2.2) t.2.1.length (t.2.1.map idC), J5 3 1 (sl p_2 (val (Jg a2)).length) (val (Jg a2)).length (l_2.map Jl), J5 3 1 (sl p_3 (val (Jg t28.Nots)).length) (val (Jg t28.Nots)).length (l_3.map Jl), Q1 b4 [i6 m, Xt a3, sl p_2 (val (Jg a2)).length, sl p_3 (val (Jg t28.Nots)).length] 32]) (fun s t => AllC g_face_Person t.1 4 t.2.1 s) ?_ ?_
          ·refine Jc<|Ja<|mv v2<|Jf rfl rfl rfl (Y0 Tryz.underlying24 rfl f2 rfl)<|mv (i6 0)<|Jd<|?_
           try dsimp only [z1, z2, z5, z6, z7, z8]
           refine Ju ?_
           refine X6 (σ := Int × (List T_face_Person)) (τ := Qg × (List (List Value)) × (Option Addr × Nat)) (fun next7 s => U6 a2 a3 t23 m l_2 l_3 next7 s.1 s.2) (fun s t => [(10, i6 t23), (15, .slice t.2.2.1 t.2.1.length t.2.2.2), (16, .pointer (some ⟨b4, 0, none⟩)), (96, v2), (97, i6 (a2.length : Int)), (98, i6 s.1)]) (fun s t => [Yx Yo t.1, J5 32 4 (.slice t.2.2.1 t.2.1.length t.2.2.2) t.2.1.length (t.2.1.map idC), J5 3 1 (sl p_2 (val (Jg a2)).length) (val (Jg a2)).length (l_2.map Jl), J5 3 1 (sl p_3 (val (Jg t28.Nots)).length) (val (Jg t28.Nots)).length (l_3.map Jl), Q1 b4 [i6 m, Xt a3, sl p_2 (val (Jg a2)).length, sl p_3 (val (Jg t28.Nots)).length] 32]) (fun s t => AllC g_face_Person t.1 4 t.2.1 s.2) (0, t79) (hp_2, css, p) [0, 1, 2, 3, 4] H84 (by exact pf_2) (by exact ⟨rfl, rfl, rfl, rfl, rfl, rfl, trivial⟩) (by decide) rfl ?_
           rintro ⟨x98_2, l_8⟩ ⟨hp_9, css_7, p_7⟩ m7 gg H96 pf_10
           clear H84
           try dsimp only at H96
           generalize hn7 : it (fun next7 s => U6 a2 a3 t23 m l_2 l_3 next7 s.1 s.2) m7 = next7 at H96
           try dsimp only
           refine Jc<|Ja<|Jf rfl rfl rfl (Q0 rfl rfl)<|Jd<|?_
           try dsimp only [z1, z2, z5, z6, z7, z8]
           refine Jc ?_
           refine Qm (b := (decide (x98_2 < (a2.length : Int)))) rfl (fun hb => ?_) (fun hb => ?_)
           ·have H97 := Jw hb H96; clear H96
            refine Jv<|Jc<|Ju<|Jc<|Ja<|?_
            obtain ⟨t100, h_t100, H98⟩ := Je H97; clear H97
            refine Jf rfl rfl rfl (Qe Tryz.underlying24 Tryz.sizeOf3 rfl rfl f2 h_t100)<|J9 (fun w hF hS => J2 (f := Jl) (i := x98_2) (sz := 1) (j := 0) (v := i6 t100) Tryz.isAgg3 rfl rfl (f2.row (hw.now hF)) h_t100 rfl) rfl rfl rfl<|ag (i6 t100)<|Jd<|?_
            try dsimp only [z1, z2, z5, z6, z7, z8]
            exact Qz (Kd.p :: Kd.p :: Kd.p :: Kd.p :: Kd.p :: Kd.p :: Kd.d [1] _ :: Kd.d [1] _ :: Kd.d [1] _ :: Kd.p :: Kd.t 5 [0] _ _ :: Kd.p :: Kd.p :: Kd.d [1] _ :: Kd.d [1] _ :: Kd.d [1] _ :: Kd.p :: Kd.t 6 [0] _ _ :: Kd.d [1] _ :: Kd.d [1] _ :: Kd.stk 121 112 1 :: Kd.d [1] _ :: Kd.d [1] _ :: Kd.stk 123 119 1 :: []) 2 mixed (by
             refine dm (sl p_7 css_7.length)<|dm (i6 t23)<|dm (sl p_7 css_7.length)<|dm (i6 t23)<|dm (sl p_7 css_7.length)<|dm (i6 t23)<|?_
             have h_t108 := Jr H98
             have H99 := Jn H98
             refine Qc (fun w L' hF hS hi => J3 Tryz.underlying23 Tryz.sizeOf32 rfl rfl (Qy (i := 1) (E := 32) (sz := 4) (n := css_7.length) (a := p_7.1) (c := p_7.2) hS ((hi 1 (by simp)).trans rfl)) rfl (pf_10.ix h_t108)) rfl rfl<|Y5 rfl rfl (fun w L' hF hS hi => Xn Tryz.runUnderlying32 rfl Tryz.sizeOf24 rfl rfl (Qy (i := 1) (E := 32) (sz := 4) (n := css_7.length) (a := p_7.1) (c := p_7.2) hS ((hi 1 (by simp)).trans rfl)) (pf_10.ix h_t108))<|Qc (fun w L' hF hS hi => J2 (f := idC) (i := t23) (sz := 4) (j := 2) (v := (List.getD (List.getD css_7 (Int.toNat t23) []) 2 undef)) Tryz.isAgg24 rfl rfl (Qy (i := 1) (E := 32) (sz := 4) (n := css_7.length) (a := p_7.1) (c := p_7.2) hS ((hi 1 (by simp)).trans rfl)) (pf_10.ix h_t108) (V4 ((pf_10.eta h_t108).trans (J1 (pf_10.at h_t108))) rfl)) rfl rfl<|dm (i6 t100)<|?_
             have h_t112 := Jr H99
             have H100 := Jn H99
             refine Uc (Cv := fun v => J5 3 1 v (val (J4 (val (Jk l_8 t23)).Likes t100)).length ((val (J4 (val (Jk l_8 t23)).Likes t100)).map Jl)) (none, 0) (J8 (G := fun x : (Option Addr × Nat) => sl x (val (J4 (val (Jk l_8 t23)).Likes t100)).length) (C := fun x : (Option Addr × Nat) => J5 3 1 (sl x (val (J4 (val (Jk l_8 t23)).Likes t100)).length) (val (J4 (val (Jk l_8 t23)).Likes t100)).length ((val (J4 (val (Jk l_8 t23)).Likes t100)).map Jl)) (fun w L' hF hS hi => k62 (Jp w) ((show FrS hp_9 1 (List.getD (List.getD css_7 (Int.toNat t23) []) 2 undef) ((val (Jk l_8 t23)).Likes.map Jl) from (Jm (pf_10.at h_t108))).mono (Xi (i := 0) hS ((hi 0 (by simp)).trans rfl) Qo)) h_t112) Tryz.call62 rfl) (fun _ => rfl) rfl rfl rfl (fun p_8 => ?_)
             refine dm (sl p_7 css_7.length)<|dm (i6 t23)<|?_
             have h_t115 := Jr H100
             have H101 := Jn H100
             refine Qc (fun w L' hF hS hi => J3 Tryz.underlying23 Tryz.sizeOf32 rfl rfl (Qy (i := 1) (E := 32) (sz := 4) (n := css_7.length) (a := p_7.1) (c := p_7.2) hS ((hi 1 (by simp)).trans rfl)) rfl (pf_10.ix h_t115)) rfl rfl<|Y5 rfl rfl (fun w L' hF hS hi => Xn Tryz.runUnderlying32 rfl Tryz.sizeOf24 rfl rfl (Qy (i := 1) (E := 32) (sz := 4) (n := css_7.length) (a := p_7.1) (c := p_7.2) hS ((hi 1 (by simp)).trans rfl)) (pf_10.ix h_t115))<|Qc (fun w L' hF hS hi => J2 (f := idC) (i := t23) (sz := 4) (j := 3) (v := (List.getD (List.getD css_7 (Int.toNat t23) []) 3 undef)) Tryz.isAgg24 rfl rfl (Qy (i := 1) (E := 32) (sz := 4) (n := css_7.length) (a := p_7.1) (c := p_7.2) hS ((hi 1 (by simp)).trans rfl)) (pf_10.ix h_t115) (V4 ((pf_10.eta h_t115).trans (J1 (pf_10.at h_t115))) rfl)) rfl rfl<|dm (i6 t100)<|?_
             have h_t119 := Jr H101
             have H102 := Jn H101
             refine Uc (Cv := fun v => roH hp_9 1 v (val (Qv (val (Jk l_8 t23)).Nots t100)).length ((val (Qv (val (Jk l_8 t23)).Nots t100)).map Jl)) (none, 0) (J8 (G := fun x : (Option Addr × Nat) => sl x (val (Qv (val (Jk l_8 t23)).Nots t100)).length) (C := fun x : (Option Addr × Nat) => roH hp_9 1 (sl x (val (Qv (val (Jk l_8 t23)).Nots t100)).length) (val (Qv (val (Jk l_8 t23)).Nots t100)).length ((val (Qv (val (Jk l_8 t23)).Nots t100)).map Jl)) (fun w L' hF hS hi => k61 (h := hp_9) (know_pool (i := 0) hS ((hi 0 (by simp)).trans rfl) Qo) (show FrS hp_9 1 (List.getD (List.getD css_7 (Int.toNat t23) []) 3 undef) ((val (Jk l_8 t23)).Nots.map Jl) from (Jt (pf_10.at h_t115))) h_t119) Tryz.call61 rfl) (fun _ => rfl) rfl rfl rfl (fun p_9 => ?_)
             have h_t120 := Jr H102
             have H103 := Jn H102
             refine Qc (fun w L' hF hS hi => J3 Tryz.underlying23 Tryz.sizeOf32 rfl rfl (Qy (i := 1) (E := 32) (sz := 4) (n := css_7.length) (a := p_7.1) (c := p_7.2) hS ((hi 1 (by simp)).trans rfl)) rfl (pf_10.ix h_t120)) rfl rfl<|Y5 rfl rfl (fun w L' hF hS hi => Xn Tryz.runUnderlying32 rfl Tryz.sizeOf24 rfl rfl (Qy (i := 1) (E := 32) (sz := 4) (n := css_7.length) (a := p_7.1) (c := p_7.2) hS ((hi 1 (by simp)).trans rfl)) (pf_10.ix h_t120))<|?_
             have h_l1 := Jr H103
             have H104 := Jn H103
             refine W4 (i := 1) (x := sl p_8 (val (J4 (val (Jk l_8 t23)).Likes t100)).length) (va := (Zn p_7.1 (Int.toNat t23 * 4 + 2))) Tryz.sizeOf24 rfl rfl rfl rfl rfl rfl (Jbd (E := 32) (sz := 4) (n := css_7.length) (a := p_7.1) (c := p_7.2) (css := css_7) (Imp.toO (Imp.refl _)) rfl pf_10.len h_t120 rfl rfl) ?_
             have h_t122 := Jr H104
             have H105 := Jn H104
             refine Qc (fun w L' hF hS hi => J3 Tryz.underlying23 Tryz.sizeOf32 rfl rfl (offOfI (Imp.toO (Uy (E := 32) (sz := 4) (n := css_7.length) (a := p_7.1) (c := p_7.2) (css := css_7) (j := 2) (x := sl p_8 (val (J4 (val (Jk l_8 t23)).Likes t100)).length) (Imp.refl _) pf_10.len h_t120 rfl rfl)) hS ((hi 1 (by simp)).trans rfl)) (rfl.trans (Qt _ _ _ _).symm) (ixR (lenR pf_10.len h_l1) h_t122)) rfl rfl<|Y5 rfl rfl (fun w L' hF hS hi => Xn Tryz.runUnderlying32 rfl Tryz.sizeOf24 rfl rfl (offOfI (Imp.toO (Uy (E := 32) (sz := 4) (n := css_7.length) (a := p_7.1) (c := p_7.2) (css := css_7) (j := 2) (x := sl p_8 (val (J4 (val (Jk l_8 t23)).Likes t100)).length) (Imp.refl _) pf_10.len h_t120 rfl rfl)) hS ((hi 1 (by simp)).trans rfl)) (ixR (lenR pf_10.len h_l1) h_t122))<|?_
             have h_l1_2 := Jr H105
             have H106 := Jn H105
             refine W4 (i := 1) (x := sl p_9 (val (Qv (val (Jk l_8 t23)).Nots t100)).length) (va := (Zn p_7.1 (Int.toNat t23 * 4 + 3))) Tryz.sizeOf24 rfl rfl rfl rfl rfl rfl (Jbd (E := 32) (sz := 4) (n := css_7.length) (a := p_7.1) (c := p_7.2) (css := (setR css_7 t23 2 (sl p_8 (val (J4 (val (Jk l_8 t23)).Likes t100)).length))) (Imp.toO (Uy (E := 32) (sz := 4) (n := css_7.length) (a := p_7.1) (c := p_7.2) (css := css_7) (j := 2) (x := sl p_8 (val (J4 (val (Jk l_8 t23)).Likes t100)).length) (Imp.refl _) pf_10.len h_t120 rfl rfl)) (rfl.trans (Qt _ _ _ _).symm) (lenR pf_10.len h_l1) h_t122 rfl rfl)<|Y3<|Xc 1 rfl (Uy (E := 32) (sz := 4) (n := css_7.length) (a := p_7.1) (c := p_7.2) (css := (setR css_7 t23 2 (sl p_8 (val (J4 (val (Jk l_8 t23)).Likes t100)).length))) (j := 3) (x := sl p_9 (val (Qv (val (Jk l_8 t23)).Nots t100)).length) (Uy (E := 32) (sz := 4) (n := css_7.length) (a := p_7.1) (c := p_7.2) (css := css_7) (j := 2) (x := sl p_8 (val (J4 (val (Jk l_8 t23)).Likes t100)).length) (Imp.refl _) pf_10.len h_t120 rfl rfl) (lenR pf_10.len h_l1) h_t122 rfl rfl)<|?_
             refine Yq (Φ := fun H_ => FrS H_ 1 (sl p_8 (val (J4 (val (Jk l_8 t23)).Likes t100)).length) ((val (J4 (val (Jk l_8 t23)).Likes t100)).map Jl)) 0 5 rfl rfl (by decide) (fun _ _ => Qo) (fz_own _) (fun hp_10 hle_6 hf_4 => ?_)
             have pf_11 : AllC g_face_Person hp_10 4 (setR css_7 t23 2 (sl p_8 (val (J4 (val (Jk l_8 t23)).Likes t100)).length)) (val (Q6 l_8 t23 (⟨(val (Jk l_8 t23)).Id, (val (Jk l_8 t23)).Name, (val (J4 (val (Jk l_8 t23)).Likes t100)), (val (Jk l_8 t23)).Nots⟩ : T_face_Person))) := AllC.setR (pf_10.mono hle_6) h_t120 h_l1 rfl (by obtain ⟨q0_, q1_, q2_, q3_⟩ := (pf_10.mono hle_6).at h_t120; exact ⟨q0_, q1_, hf_4, q3_⟩)
             refine Yq (Φ := fun H_ => FrS H_ 1 (sl p_9 (val (Qv (val (Jk l_8 t23)).Nots t100)).length) ((val (Qv (val (Jk l_8 t23)).Nots t100)).map Jl)) 0 6 rfl rfl (by decide) (fun _ _ => Qo) (fz_roh _ (fun b o h_ => hle_6 b o ((fun _ _ h_ => h_) b o h_))) (fun hp_11 hle_7 hf_5 => ?_)
             have pf_12 : AllC g_face_Person hp_11 4 (setR (setR css_7 t23 2 (sl p_8 (val (J4 (val (Jk l_8 t23)).Likes t100)).length)) t23 3 (sl p_9 (val (Qv (val (Jk l_8 t23)).Nots t100)).length)) (val (Q6 (val (Q6 l_8 t23 (⟨(val (Jk l_8 t23)).Id, (val (Jk l_8 t23)).Name, (val (J4 (val (Jk l_8 t23)).Likes t100)), (val (Jk l_8 t23)).Nots⟩ : T_face_Person))) t23 (⟨(val (Jk (val (Q6 l_8 t23 (⟨(val (Jk l_8 t23)).Id, (val (Jk l_8 t23)).Name, (val (J4 (val (Jk l_8 t23)).Likes t100)), (val (Jk l_8 t23)).Nots⟩ : T_face_Person))) t23)).Id, (val (Jk (val (Q6 l_8 t23 (⟨(val (Jk l_8 t23)).Id, (val (Jk l_8 t23)).Name, (val (J4 (val (Jk l_8 t23)).Likes t100)), (val (Jk l_8 t23)).Nots⟩ : T_face_Person))) t23)).Name, (val (Jk (val (Q6 l_8 t23 (⟨(val (Jk l_8 t23)).Id, (val (Jk l_8 t23)).Name, (val (J4 (val (Jk l_8 t23)).Likes t100)), (val (Jk l_8 t23)).Nots⟩ : T_face_Person))) t23)).Likes, (val (Qv (val (Jk l_8 t23)).Nots t100))⟩ : T_face_Person))) := AllC.setR (pf_11.mono hle_7) h_t122 h_l1_2 rfl (by obtain ⟨q0_, q1_, q2_, q3_⟩ := (pf_11.mono hle_7).at h_t122; exact ⟨q0_, q1_, q2_, hf_5⟩)
             try dsimp only [z1, z2, z5, z6, z7, z8]
             refine Ja ?_
             obtain ⟨t124, h_t124, H107⟩ := Je H106; clear H106
             refine Jf rfl rfl rfl (Qp rfl rfl h_t124)<|mv (i6 t124)<|Jd<|?_
             try dsimp only [z1, z2, z5, z6, z7, z8]
             rw [show css_7.length = (setR (setR css_7 t23 2 (sl p_8 (val (J4 (val (Jk l_8 t23)).Likes t100)).length)) t23 3 (sl p_9 (val (Qv (val (Jk l_8 t23)).Nots t100)).length)).length from ((rfl.trans (Qt _ _ _ _).symm).trans (Qt _ _ _ _).symm)]
             refine Js (t124, (val (Q6 (val (Q6 l_8 t23 (⟨(val (Jk l_8 t23)).Id, (val (Jk l_8 t23)).Name, (val (J4 (val (Jk l_8 t23)).Likes t100)), (val (Jk l_8 t23)).Nots⟩ : T_face_Person))) t23 (⟨(val (Jk (val (Q6 l_8 t23 (⟨(val (Jk l_8 t23)).Id, (val (Jk l_8 t23)).Name, (val (J4 (val (Jk l_8 t23)).Likes t100)), (val (Jk l_8 t23)).Nots⟩ : T_face_Person))) t23)).Id, (val (Jk (val (Q6 l_8 t23 (⟨(val (Jk l_8 t23)).Id, (val (Jk l_8 t23)).Name, (val (J4 (val (Jk l_8 t23)).Likes t100)), (val (Jk l_8 t23)).Nots⟩ : T_face_Person))) t23)).Name, (val (Jk (val (Q6 l_8 t23 (⟨(val (Jk l_8 t23)).Id, (val (Jk l_8 t23)).Name, (val (J4 (val (Jk l_8 t23)).Likes t100)), (val (Jk l_8 t23)).Nots⟩ : T_face_Person))) t23)).Likes, (val (Qv (val (Jk l_8 t23)).Nots t100))⟩ : T_face_Person)))) (hp_11, (setR (setR css_7 t23 2 (sl p_8 (val (J4 (val (Jk l_8 t23)).Likes t100)).length)) t23 3 (sl p_9 (val (Qv (val (Jk l_8 t23)).Nots t100)).length)), p_7) m7 [0, 1, 2, 3, 4] (by exact ⟨rfl, rfl, rfl, rfl, rfl, rfl, trivial⟩) (by decide) rfl (by exact ⟨(by subst hn7; exact H107), pf_12⟩) (Nat.lt_succ_self _)
             ) (by kernel_rfl)
           ·have H108 := Jx hb H96; clear H96
            refine Q3 ?_
            refine Js l_8 (hp_9, css_7, p_7) 0 [0, 1, 2, 3, 4] (by exact ⟨rfl, rfl, rfl, trivial⟩) (by decide) rfl (by exact ⟨H108, pf_10⟩) (Nat.lt_succ_self _)
          ·rintro l_4 ⟨hp_3, css_3, p_4⟩ gg H85 pf_3
           try dsimp only at H85
           try dsimp only
           refine Xf (r := r) (σ := (List Int)) (τ := Qg × Value) (fun s => Jcp a3 m l_2 l_4 s) (fun s t => [(15, sl p_4 css_3.length), (16, .pointer (some ⟨b4, 0, none⟩))]) (fun s t => [Yx Yo t.1, J5 32 4 (sl p_4 css_3.length) css_3.length (css_3.map idC), J5 3 1 (sl p_2 (val (Jg a2)).length) (val (Jg a2)).length (l_2.map Jl), Q1 b4 [i6 m, Xt a3, sl p_2 (val (Jg a2)).length, t.2] 32]) (fun s t => AllC g_face_Person t.1 4 css_3 l_4 ∧ FrS t.1 1 t.2 (s.map Jl)) ?_ ?_
           ·refine Jc<|Ja<|mv (sl p_4 css_3.length)<|mv (i6 t23)<|?_
            obtain ⟨t127, h_t127, H89⟩ := Je H85; clear H85
            refine J9 (fun w hF hS => J3 Tryz.underlying23 Tryz.sizeOf32 rfl rfl (Qy (i := 1) hS rfl) rfl (pf_3.ix h_t127)) rfl rfl rfl ?_
            refine Zq (fun w hF hS => someOf (i := 1) hS rfl (pf_3.ix h_t127)) (fun hs => ?_)
            refine Jf rfl rfl rfl (Xv Tryz.runUnderlying32 rfl Tryz.sizeOf24 rfl rfl hs)<|J9 (fun w hF hS => J2 (f := idC) (i := t23) (sz := 4) (j := 2) (v := (List.getD (List.getD css_3 (Int.toNat t23) []) 2 undef)) Tryz.isAgg24 rfl rfl (Qy (i := 1) hS rfl) (pf_3.ix h_t127) (V4 ((pf_3.eta h_t127).trans (J1 (pf_3.at h_t127))) rfl)) rfl rfl rfl<|Jf rfl rfl rfl (Y0 Tryz.underlying24 rfl (show FrS hp_3 1 (List.getD (List.getD css_3 (Int.toNat t23) []) 2 undef) (t127.Likes.map Jl) from (Jm (pf_3.at h_t127))) rfl)<|mv (i6 0)<|Jd<|?_
            try dsimp only [z1, z2, z5, z6, z7, z8]
            refine Ju ?_
            refine Yq (Φ := fun H_ => FrS H_ 1 (sl p_3 (val (Jg t28.Nots)).length) (l_3.map Jl)) 0 3 rfl rfl (by decide) (fun _ _ => Qo) (fz_own _) (fun hp_7 hle_4 hf_2 => ?_)
            refine X6 (σ := (List Int) × Int × (List Int)) (τ := Qg × Value × Value) (fun next6 s => Jac a3 m l_2 l_4 t127 next6 s.1 s.2.1 s.2.2) (fun s t => [(15, sl p_4 css_3.length), (16, .pointer (some ⟨b4, 0, none⟩)), (129, t.2.1), (130, i6 (t127.Likes.length : Int)), (131, i6 s.2.1)]) (fun s t => [Yx Yo t.1, J5 32 4 (sl p_4 css_3.length) css_3.length (css_3.map idC), J5 3 1 (sl p_2 (val (Jg a2)).length) (val (Jg a2)).length (l_2.map Jl), Q1 b4 [i6 m, Xt a3, sl p_2 (val (Jg a2)).length, t.2.2] 32]) (fun s t => FrS t.1 1 t.2.1 (s.1.map Jl) ∧ AllC g_face_Person t.1 4 css_3 l_4 ∧ FrS t.1 1 t.2.2 (s.2.2.map Jl)) (t127.Likes, 0, l_3) (hp_7, (List.getD (List.getD css_3 (Int.toNat t23) []) 2 undef), (sl p_3 (val (Jg t28.Nots)).length)) [0, 1, 2, 4] H89 (by exact ⟨((show FrS hp_3 1 (List.getD (List.getD css_3 (Int.toNat t23) []) 2 undef) (t127.Likes.map Jl) from (Jm (pf_3.at h_t127))).mono hle_4), (pf_3.mono hle_4), hf_2⟩) (by exact ⟨rfl, rfl, rfl, rfl, rfl, trivial⟩) (by decide) rfl ?_
            rintro ⟨x129_2, x131_2, m_4⟩ ⟨hp_6, gv_2, gv_3⟩ m6 gg H90 ⟨gf_4, pf_8, gf_5⟩
            clear H89
            try dsimp only at H90
            generalize hn6 : it (fun next6 s => Jac a3 m l_2 l_4 t127 next6 s.1 s.2.1 s.2.2) m6 = next6 at H90
            try dsimp only
            refine Jc<|Ja<|Jf rfl rfl rfl (Q0 rfl rfl)<|Jd<|?_
            try dsimp only [z1, z2, z5, z6, z7, z8]
            refine Jc ?_
            refine Qm (b := (decide (x131_2 < (t127.Likes.length : Int)))) rfl (fun hb => ?_) (fun hb => ?_)
            ·have H91 := Jw hb H90; clear H90
             refine Jv<|Jc<|Ju<|Jc<|Ja<|?_
             obtain ⟨t133, h_t133, H92⟩ := Je H91; clear H91
             refine Jf rfl rfl rfl (Qe Tryz.underlying24 Tryz.sizeOf3 rfl rfl gf_4 h_t133)<|J9 (fun w hF hS => J2 (f := Jl) (i := x131_2) (sz := 1) (j := 0) (v := i6 t133) Tryz.isAgg3 rfl rfl (gf_4.row (Xi (i := 0) hS rfl Qo)) h_t133 rfl) rfl rfl rfl<|ag (i6 t133)<|Jd<|?_
             try dsimp only [z1, z2, z5, z6, z7, z8]
             refine Ja<|Jf rfl rfl rfl (J7 Tryz.runUnderlying32 rfl Tryz.sizeOf24 rfl rfl)<|Qq (i := 3) (v := gv_3) Tryz.isAgg24 rfl rfl rfl rfl rfl<|mv (i6 t133)<|?_
             obtain ⟨t138, h_t138, H93⟩ := Je H92; clear H92
             refine Yk (J8 (rds := [0]) (G := fun x : (Option Addr × Nat) => sl x t138.length) (C := fun x : (Option Addr × Nat) => roH hp_6 1 (sl x t138.length) t138.length (t138.map Jl)) (fun w L' hF hS hi => k61 (h := hp_6) (know_pool (i := 0) hS ((hi 0 (by simp)).trans rfl) Qo) gf_5 h_t138) Tryz.call61 rfl) rfl rfl rfl (fun p_6 => ?_)
             refine Jf rfl rfl rfl (J7 Tryz.runUnderlying32 rfl Tryz.sizeOf24 rfl rfl)<|Y8 (i := 3) (vs := [sl p_6 t138.length]) (cs' := [i6 m, Xt a3, sl p_2 (val (Jg a2)).length, sl p_6 t138.length]) Tryz.sizeOf24 rfl rfl rfl rfl rfl rfl rfl rfl rfl<|Jd<|?_
             try dsimp only [z1, z2, z5, z6, z7, z8]
             refine Ja ?_
             obtain ⟨t140, h_t140, H94⟩ := Je H93; clear H93
             refine Jf rfl rfl rfl (Qp rfl rfl h_t140)<|mv (i6 t140)<|Jd<|?_
             try dsimp only [z1, z2, z5, z6, z7, z8]
             refine Yq (Φ := fun H_ => FrS H_ 1 (sl p_6 t138.length) (t138.map Jl)) 0 4 rfl rfl (by decide) (fun _ _ => Qo) (fz_roh _ (fun _ _ h_ => h_)) (fun hp_8 hle_5 hf_3 => ?_)
             refine Js (x129_2, t140, t138) (hp_8, gv_2, (sl p_6 t138.length)) m6 [0, 1, 2, 3] (by exact ⟨rfl, rfl, rfl, rfl, rfl, trivial⟩) (by decide) rfl (by exact ⟨(by subst hn6; exact H94), ⟨(gf_4.mono hle_5), (pf_8.mono hle_5), hf_3⟩⟩) (Nat.lt_succ_self _)
            ·have H95 := Jx hb H90; clear H90
             refine Q3 ?_
             refine Js m_4 (hp_6, gv_3) 0 [0, 1, 2, 3] (by exact ⟨rfl, rfl, trivial⟩) (by decide) rfl (by exact ⟨H95, ⟨pf_8, gf_5⟩⟩) (Nat.lt_succ_self _)
           ·rintro m_2 ⟨hp_4, gv⟩ gg H86 ⟨pf_4, gf⟩
            try dsimp only at H86
            try dsimp only
            refine Jc<|Ja<|mv (sl p_4 css_3.length)<|Uz (i := 3) (vs := [i6 m, Xt a3, sl p_2 (val (Jg a2)).length, gv]) Tryz.isAgg32 Tryz.sizeOf32 rfl rfl rfl rfl rfl<|?_
            refine Z0 (vs := [.agg #[i6 m, Xt a3, sl p_2 (val (Jg a2)).length, gv]]) (cs := [i6 m, Xt a3, sl p_2 (val (Jg a2)).length, gv]) Tryz.underlying23 Tryz.sizeOf32 Tryz.zeroValue32 rfl rfl rfl rfl rfl rfl rfl (fun b5 => ?_)
            refine Yq (Φ := fun H_ => FrS H_ 1 (sl p_2 (val (Jg a2)).length) (l_2.map Jl)) 0 2 rfl rfl (by decide) (fun _ _ => Qo) (fz_own _) (fun hp_5 hle_3 hf => ?_)
            obtain ⟨l144, h_l144, H87⟩ := Je H86; clear H86
            refine Y7 (turns_appendM (i := 1) (k := 4) (p := p_4) (f := idC) (ys := css_3) (ls := [[i6 m, Xt a3, sl p_2 (val (Jg a2)).length, gv]]) Tryz.underlying23 (We Tryz.typeInfo32) rfl rfl rfl rfl rfl rfl rfl rfl rfl rfl rfl rfl rfl rfl (by simp only [idC, List.map_cons, List.map_nil, List.all_cons, List.all_nil, (gf.mono hle_3).one, hf.one] <;> rfl) (app63 ((pf_4.mono hle_3).app h_l144 (nc := [[i6 m, Xt a3, sl p_2 (val (Jg a2)).length, gv]]) rfl)) rfl) rfl rfl rfl (fun p_5 => ?_)
            have pf_5 : AllC g_face_Person hp_5 4 (css_3 ++ [[i6 m, Xt a3, sl p_2 (val (Jg a2)).length, gv]]) l144 := AllC.snocG (pf_4.mono hle_3) h_l144 rfl (⟨rfl, rfl, hf, (gf.mono hle_3)⟩)
            refine ag (sl p_5 ((css_3 ++ [[i6 m, Xt a3, .slice p_2.1 (val (Jg a2)).length p_2.2, gv]]).length))<|Jd<|?_
            try dsimp only [z1, z2, z5, z6, z7, z8]
            refine Jc<|Ja<|mv (sl p_5 ((css_3 ++ [[i6 m, Xt a3, .slice p_2.1 (val (Jg a2)).length p_2.2, gv]]).length))<|?_
            obtain ⟨t146, h_t146, H88⟩ := Je H87; clear H87
            refine Y7 (Xj (i := 1) (rds := []) (G := fun _ : List (List Value) => .tuple #[]) (C := fun c_ : List (List Value) => bothC (J5 32 4 (sl p_5 ((css_3 ++ [[i6 m, Xt a3, .slice p_2.1 (val (Jg a2)).length p_2.2, gv]]).length)) ((css_3 ++ [[i6 m, Xt a3, sl p_2 (val (Jg a2)).length, gv]]).length) (c_.map idC)) (factC (AllC g_face_Person hp_5 4 c_ t146))) rfl (fun w L' S hF hS hi hp hlt ho hA => k68 (p0 := p_5) hp hlt rfl pf_5 h_t146) Tryz.call68 rfl) rfl rfl rfl (fun css_5 => ?_)
            refine V7 1 rfl ?_
            refine c_fact 5 rfl (fun pf_6 => ?_)
            refine Jd ?_
            try dsimp only [z1, z2, z5, z6, z7, z8]
            refine Jc<|Ja<|mv (sl p_5 ((css_3 ++ [[i6 m, Xt a3, .slice p_2.1 (val (Jg a2)).length p_2.2, gv]]).length))<|ag (sl p_5 ((css_3 ++ [[i6 m, Xt a3, .slice p_2.1 (val (Jg a2)).length p_2.2, gv]]).length))<|ag (i6 0)<|Jd<|?_
            try dsimp only [z1, z2, z5, z6, z7, z8]
            refine Jy ?_
            obtain rfl := Option.some.inj H88
            refine Yp 0 1 rfl rfl (by decide)<|Xc 0 rfl (Vo (p := p_5) (pf_5.len.trans ((gSortP_len h_t146).symm.trans pf_6.len.symm)) pf_6)<|?_
            refine Vz (v1 := sl p_5 ((css_3 ++ [[i6 m, Xt a3, .slice p_2.1 (val (Jg a2)).length p_2.2, gv]]).length)) (v2 := i6 0) rfl rfl rfl (Zb p_5 (i := 0) rfl (by first | rfl | rw [(show ((css_3 ++ [[i6 m, Xt a3, sl p_2 (val (Jg a2)).length, gv]]).length) = t146.length from ((pf_5.len.trans ((gSortP_len h_t146).symm.trans pf_6.len.symm)).trans pf_6.len))]) (by first | exact Imp.refl _ | exact Imp.of (by rw [(show ((css_3 ++ [[i6 m, Xt a3, sl p_2 (val (Jg a2)).length, gv]]).length) = t146.length from ((pf_5.len.trans ((gSortP_len h_t146).symm.trans pf_6.len.symm)).trans pf_6.len))])))
         ) (by kernel_rfl)
theorem k4 {a0 : (List T_face_Likeness)} {v0 : Value} {a1 : (List T_face_Person)} {v1 : Value} {a2 : Int} {a3 : Int} {a4 : Int} {a5 : Int} {a6 : (List Int)} {v6 : Value} {a7 : (List UInt8)} {r : Bool} {w : World} {h : Qg} (hw : Know h w Yl) (f0 : FrS h 14 v0 (a0.map Jq)) (f1 : FrN h 4 v1 g_face_Person a1) (f6 : FrS h 1 v6 (a6.map Jl)) (H : Jb6 a0 a1 a2 a3 a4 a5 a6 a7 = some r) : Does Tryz.prog 4 (List.toArray [v0, v1, i6 a2, i6 a3, i6 a4, i6 a5, v6, Xt a7]) w (fun v w' => v = (.bool r) ∧ Grow w w') := by
 refine enter (n := 188) Tryz.func4 rfl rfl rfl Yl [] (Sat.nil _ _)<|Wy Yo<|Jc<|Ja<|ag (.bool false)<|Jd<|Jc<|Ja<|mv v0<|?_
 obtain ⟨t39, h_t39, H48⟩ := Je H; clear H
 refine Qf (fun w hF hS => k13 (Jp w) (f0.mono (hw.now hF)) h_t39) Tryz.call13 rfl rfl rfl<|ag (i6 t39)<|Jd<|?_
 refine Xf (r := r) (σ := Int) (τ := Unit) (fun s => Vb a0 a1 a2 a3 a4 a5 a6 a7 s) (fun s t => [(0, v0), (1, v1), (2, i6 a2), (3, i6 a3), (4, i6 a4), (5, i6 a5), (6, v6), (7, Xt a7), (17, i6 s)]) (fun s t => [Yx Yo Yo]) (fun s t => True) ?_ ?_
 ·refine Jc<|Ja<|mv (i6 t39)<|Jf rfl rfl rfl (Uv rfl rfl)<|Jd<|?_
  refine Qm (b := (decide (t39 = 0))) rfl (fun hb => ?_) (fun hb => ?_)
  ·have H92 := Jw hb H48; clear H48
   refine Ja<|mv v0<|mv v1<|?_
   obtain ⟨t44, h_t44, H93⟩ := Je H92; clear H92
   refine Qf (fun w hF hS => k14 (Jp w) (f0.mono (hw.now hF)) (f1.mono (hw.now hF)) h_t44) Tryz.call14 rfl rfl rfl<|ag (i6 t44)<|Jd<|?_
   refine Js t44 () 0 [0] (by exact ⟨rfl, rfl, rfl, rfl, rfl, rfl, rfl, rfl, rfl, trivial⟩) (by decide) rfl (by exact ⟨H93, trivial⟩) (Nat.lt_succ_self _)
  ·have H94 := Jx hb H48; clear H48
   refine Jv ?_
   refine Js t39 () 0 [0] (by exact ⟨rfl, rfl, rfl, rfl, rfl, rfl, rfl, rfl, rfl, trivial⟩) (by decide) rfl (by exact ⟨H94, trivial⟩) (Nat.lt_succ_self _)
 ·rintro x17 _ gg H49 _
  try dsimp only at H49
  try dsimp only
  refine Jc<|Ja<|mv v0<|mv v1<|mv (i6 a2)<|mv (i6 a4)<|?_
  obtain ⟨t50, h_t50, H50⟩ := Je H49; clear H49
  refine Yk (J8 (rds := []) (G := fun x : (Option Addr × Nat) => .tuple #[sl x t50.1.length, i6 t50.2]) (C := fun x : (Option Addr × Nat) => rofD true 32 4 g_face_Person (sl x t50.1.length) t50.1.length t50.1) (fun w L' hF hS hi => k15 (Jp w) (f0.mono (hw.now hF)) (f1.mono (hw.now hF)) h_t50) Tryz.call15 rfl) rfl rfl rfl (fun p => ?_)
  refine c_rofD 1 rfl (fun hp css hn hc pf => ?_)
  rw [hn]
  refine V7 1 rfl ?_
  refine Yv 0 1 rfl rfl (by decide) (fun _ _ => Qo) (fun hp_2 hle hle_2 => ?_)
  refine mv (.tuple #[sl p css.length, i6 t50.2])<|Jf rfl rfl rfl (Qs (v := sl p css.length) rfl rfl)<|Jf rfl rfl rfl (Qs (v := i6 t50.2) rfl rfl)<|ag (sl p css.length)<|ag (i6 t50.2)<|Jd<|?_
  try dsimp only [z1, z2, z5, z6, z7, z8]
  refine Jc<|Ja<|mv v0<|mv v1<|mv (i6 a2)<|mv (i6 a4)<|?_
  obtain ⟨t58, h_t58, H51⟩ := Je H50; clear H50
  refine Yk (J8 (rds := []) (G := fun x : (Option Addr × Nat) => .tuple #[sl x t58.1.length, i6 t58.2]) (C := fun x : (Option Addr × Nat) => rofD true 32 4 g_face_Person (sl x t58.1.length) t58.1.length t58.1) (fun w L' hF hS hi => k16 (Jp w) (f0.mono (hw.now hF)) (f1.mono (hw.now hF)) h_t58) Tryz.call16 rfl) rfl rfl rfl (fun p_2 => ?_)
  refine c_rofD 3 rfl (fun hp_3 css_2 hn_2 hc_2 pf_2 => ?_)
  rw [hn_2]
  refine V7 3 rfl ?_
  refine Yv 0 3 rfl rfl (by decide) (fun _ _ => Qo) (fun hp_4 hle_3 hle_4 => ?_)
  refine mv (.tuple #[sl p_2 css_2.length, i6 t58.2])<|Jf rfl rfl rfl (Qs (v := sl p_2 css_2.length) rfl rfl)<|Jf rfl rfl rfl (Qs (v := i6 t58.2) rfl rfl)<|ag (sl p_2 css_2.length)<|ag (i6 t58.2)<|Jd<|?_
  try dsimp only [z1, z2, z5, z6, z7, z8]
  refine Jc<|Ja<|mv v0<|mv v1<|mv (i6 a5)<|?_
  obtain ⟨t65, h_t65, H52⟩ := Je H51; clear H51
  refine Yk (J8 (rds := []) (G := fun x : (Option Addr × Nat) => .tuple #[sl x t65.1.length, i6 t65.2]) (C := fun x : (Option Addr × Nat) => rofD false 32 4 g_face_Person (sl x t65.1.length) t65.1.length t65.1) (fun w L' hF hS hi => k6 (Jp w) (f0.mono (hw.now hF)) (f1.mono (hw.now hF)) h_t65) Tryz.call6 rfl) rfl rfl rfl (fun p_3 => ?_)
  refine c_rofD 5 rfl (fun hp_5 css_3 hn_3 hc_3 pf_3 => ?_)
  rw [hn_3]
  refine V7 5 rfl ?_
  refine Yv 0 5 rfl rfl (by decide) (fun _ _ => Qo) (fun hp_6 hle_5 hle_6 => ?_)
  refine mv (.tuple #[sl p_3 css_3.length, i6 t65.2])<|Jf rfl rfl rfl (Qs (v := sl p_3 css_3.length) rfl rfl)<|Jf rfl rfl rfl (Qs (v := i6 t65.2) rfl rfl)<|ag (sl p_3 css_3.length)<|ag (i6 t65.2)<|Jd<|?_
  try dsimp only [z1, z2, z5, z6, z7, z8]
  refine Jc<|Ja<|mv v0<|mv v1<|mv (i6 a2)<|mv (i6 a3)<|?_
  obtain ⟨t73, h_t73, H53⟩ := Je H52; clear H52
  refine Yk (J8 (rds := []) (G := fun x : (Option Addr × Nat) => .tuple #[sl x t73.1.length, i6 t73.2]) (C := fun x : (Option Addr × Nat) => rofD true 32 4 g_face_Person (sl x t73.1.length) t73.1.length t73.1) (fun w L' hF hS hi => k11 (Jp w) (f0.mono (hw.now hF)) (f1.mono (hw.now hF)) h_t73) Tryz.call11 rfl) rfl rfl rfl (fun p_4 => ?_)
  refine c_rofD 7 rfl (fun hp_7 css_4 hn_4 hc_4 pf_4 => ?_)
  rw [hn_4]
  refine V7 7 rfl ?_
  refine Yv 0 7 rfl rfl (by decide) (fun _ _ => Qo) (fun hp_8 hle_7 hle_8 => ?_)
  refine mv (.tuple #[sl p_4 css_4.length, i6 t73.2])<|Jf rfl rfl rfl (Qs (v := sl p_4 css_4.length) rfl rfl)<|Jf rfl rfl rfl (Qs (v := i6 t73.2) rfl rfl)<|ag (sl p_4 css_4.length)<|ag (i6 t73.2)<|Jd<|?_
  try dsimp only [z1, z2, z5, z6, z7, z8]
  refine Jc<|Ja<|mv v0<|mv v1<|mv (i6 a2)<|mv v6<|mv (Xt a7)<|?_
  obtain ⟨t82, h_t82, H54⟩ := Je H53; clear H53
  refine Yk (J8 (rds := []) (G := fun x : (Option Addr × Nat) => .tuple #[sl x t82.1.length, i6 t82.2]) (C := fun x : (Option Addr × Nat) => rofD true 32 4 g_face_Person (sl x t82.1.length) t82.1.length t82.1) (fun w L' hF hS hi => k8 (Jp w) (f0.mono (hw.now hF)) (f1.mono (hw.now hF)) (f6.mono (hw.now hF)) h_t82) Tryz.call8 rfl) rfl rfl rfl (fun p_5 => ?_)
  refine c_rofD 9 rfl (fun hp_9 css_5 hn_5 hc_5 pf_5 => ?_)
  rw [hn_5]
  refine V7 9 rfl ?_
  refine Yv 0 9 rfl rfl (by decide) (fun _ _ => Qo) (fun hp_10 hle_9 hle_10 => ?_)
  refine mv (.tuple #[sl p_5 css_5.length, i6 t82.2])<|Jf rfl rfl rfl (Qs (v := sl p_5 css_5.length) rfl rfl)<|Jf rfl rfl rfl (Qs (v := i6 t82.2) rfl rfl)<|ag (sl p_5 css_5.length)<|ag (i6 t82.2)<|Jd<|?_
  try dsimp only [z1, z2, z5, z6, z7, z8]
  refine Jc<|Jc<|Ja<|mv (i6 x17)<|Jf rfl rfl rfl (r_neq rfl rfl)<|Jd<|?_
  try dsimp only [z1, z2, z5, z6, z7, z8]
  refine Qm (b := (decide (x17 ≠ 0))) rfl (fun hb => ?_) (fun hb => ?_)
  ·have H55 := Jw hb H54; clear H54
   refine Jc<|Ja<|mv (sl p css.length)<|mv (i6 t50.2)<|mv (i6 x17)<|?_
   obtain ⟨t90, h_t90, H56⟩ := Je H55; clear H55
   refine Qf (fun w hF hS => k17 (Jp w) (U7 (xs := t50.1) (Jbg (i := 2) rfl hS rfl) ((((((pf.mono hle_2).mono hle_3).mono hle_5).mono hle_7).mono hle_9).mono (Xi (i := 0) hS rfl Qo))) (FrN.nil _ _ _) h_t90) Tryz.call17 rfl rfl rfl<|mv (.bool t90)<|?_
   refine split (fun hb => ?_) (fun hb => ?_)
   ·have H57 := Jw hb H56; clear H56
    refine mv (sl p_2 css_2.length)<|mv (i6 t58.2)<|mv (i6 x17)<|?_
    obtain ⟨t95, h_t95, H58⟩ := Je H57; clear H57
    refine Qf (fun w hF hS => k17 (Jp w) (U7 (xs := t58.1) (Jbg (i := 4) rfl hS rfl) (((((pf_2.mono hle_4).mono hle_5).mono hle_7).mono hle_9).mono (Xi (i := 0) hS rfl Qo))) (FrN.nil _ _ _) h_t95) Tryz.call17 rfl rfl rfl<|Jf rfl rfl rfl (Q5 (v := .bool t95) rfl rfl)<|mv (.bool t95)<|?_
    refine split (fun hb => ?_) (fun hb => ?_)
    ·have H59 := Jw hb H58; clear H58
     refine mv (sl p_3 css_3.length)<|mv (i6 t65.2)<|mv (i6 x17)<|?_
     obtain ⟨t101, h_t101, H60⟩ := Je H59; clear H59
     refine Qf (fun w hF hS => k17 (Jp w) (U7 (xs := t65.1) (Jbg (i := 6) rfl hS rfl) ((((pf_3.mono hle_6).mono hle_7).mono hle_9).mono (Xi (i := 0) hS rfl Qo))) (FrN.nil _ _ _) h_t101) Tryz.call17 rfl rfl rfl<|Jf rfl rfl rfl (Q5 (v := .bool t101) rfl rfl)<|mv (.bool t101)<|?_
     refine split (fun hb => ?_) (fun hb => ?_)
     ·have H61 := Jw hb H60; clear H60
      refine mv (sl p_4 css_4.length)<|mv (i6 t73.2)<|mv (i6 x17)<|?_
      obtain ⟨t107, h_t107, H62⟩ := Je H61; clear H61
      refine Qf (fun w hF hS => k17 (Jp w) (U7 (xs := t73.1) (Jbg (i := 8) rfl hS rfl) (((pf_4.mono hle_8).mono hle_9).mono (Xi (i := 0) hS rfl Qo))) (FrN.nil _ _ _) h_t107) Tryz.call17 rfl rfl rfl<|Jf rfl rfl rfl (Q5 (v := .bool t107) rfl rfl)<|mv (.bool t107)<|?_
      refine split (fun hb => ?_) (fun hb => ?_)
      ·have H63 := Jw hb H62; clear H62
       refine mv (sl p_5 css_5.length)<|mv (i6 t82.2)<|mv (i6 x17)<|?_
       obtain ⟨t113, h_t113, H64⟩ := Je H63; clear H63
       refine Qf (fun w hF hS => k17 (Jp w) (U7 (xs := t82.1) (Jbg (i := 10) rfl hS rfl) ((pf_5.mono hle_10).mono (Xi (i := 0) hS rfl Qo))) (FrN.nil _ _ _) h_t113) Tryz.call17 rfl rfl rfl<|Jf rfl rfl rfl (Q5 (v := .bool t113) rfl rfl)<|ag (.bool t113)<|Jd<|?_
       try dsimp only [z1, z2, z5, z6, z7, z8]
       refine Jy ?_
       obtain rfl := Option.some.inj H64
       refine Qw (v := .bool t113) rfl rfl (Yz rfl)
      ·have H65 := Jx hb H62; clear H62
       refine pa<|pa<|pa<|pa<|Jf rfl rfl rfl (Qr (v := .bool false) rfl rfl)<|ag (.bool false)<|Jd<|?_
       try dsimp only [z1, z2, z5, z6, z7, z8]
       refine Jy ?_
       obtain rfl := Option.some.inj H65
       refine Qw (v := .bool false) rfl rfl (Yz rfl)
     ·have H66 := Jx hb H60; clear H60
      refine pa<|pa<|pa<|pa<|Jf rfl rfl rfl (Qr (v := .bool false) rfl rfl)<|mv (.bool false)<|pa<|pa<|pa<|pa<|Jf rfl rfl rfl (Qr (v := .bool false) rfl rfl)<|ag (.bool false)<|Jd<|?_
      try dsimp only [z1, z2, z5, z6, z7, z8]
      refine Jy ?_
      obtain rfl := Option.some.inj H66
      refine Qw (v := .bool false) rfl rfl (Yz rfl)
    ·have H67 := Jx hb H58; clear H58
     refine pa<|pa<|pa<|pa<|Jf rfl rfl rfl (Qr (v := .bool false) rfl rfl)<|mv (.bool false)<|pa<|pa<|pa<|pa<|Jf rfl rfl rfl (Qr (v := .bool false) rfl rfl)<|mv (.bool false)<|pa<|pa<|pa<|pa<|Jf rfl rfl rfl (Qr (v := .bool false) rfl rfl)<|ag (.bool false)<|Jd<|?_
     try dsimp only [z1, z2, z5, z6, z7, z8]
     refine Jy ?_
     obtain rfl := Option.some.inj H67
     refine Qw (v := .bool false) rfl rfl (Yz rfl)
   ·have H68 := Jx hb H56; clear H56
    refine pa<|pa<|pa<|pa<|Jf rfl rfl rfl (Qr (v := .bool false) rfl rfl)<|mv (.bool false)<|pa<|pa<|pa<|pa<|Jf rfl rfl rfl (Qr (v := .bool false) rfl rfl)<|mv (.bool false)<|pa<|pa<|pa<|pa<|Jf rfl rfl rfl (Qr (v := .bool false) rfl rfl)<|mv (.bool false)<|pa<|pa<|pa<|pa<|Jf rfl rfl rfl (Qr (v := .bool false) rfl rfl)<|ag (.bool false)<|Jd<|?_
    try dsimp only [z1, z2, z5, z6, z7, z8]
    refine Jy ?_
    obtain rfl := Option.some.inj H68
    refine Qw (v := .bool false) rfl rfl (Yz rfl)
  ·have H69 := Jx hb H54; clear H54
   refine Jv<|Jc<|Ja<|mv v0<|mv v1<|mv (i6 a2)<|mv (i6 a4)<|?_
   obtain ⟨t120, h_t120, H70⟩ := Je H69; clear H69
   refine Yk (J8 (rds := []) (G := fun x : (Option Addr × Nat) => .tuple #[sl x t120.1.length, i6 t120.2]) (C := fun x : (Option Addr × Nat) => rowD 32 4 g_face_Person (sl x t120.1.length) t120.1.length t120.1) (fun w L' hF hS hi => k18 (Jp w) (f0.mono (hw.now hF)) (f1.mono (hw.now hF)) h_t120) Tryz.call18 rfl) rfl rfl rfl (fun p_6 => ?_)
   refine c_rowD 11 rfl (fun hp_11 css_6 hn_6 pf_6 => ?_)
   rw [hn_6]
   refine V7 11 rfl ?_
   refine Yv 0 11 rfl rfl (by decide) (fun _ _ => Qo) (fun hp_12 hle_11 hle_12 => ?_)
   refine mv (.tuple #[sl p_6 css_6.length, i6 t120.2])<|Jf rfl rfl rfl (Qs (v := sl p_6 css_6.length) rfl rfl)<|Jf rfl rfl rfl (Qs (v := i6 t120.2) rfl rfl)<|ag (sl p_6 css_6.length)<|ag (i6 t120.2)<|Jd<|?_
   try dsimp only [z1, z2, z5, z6, z7, z8]
   refine Jc<|Ja<|mv v0<|mv v1<|mv (i6 a2)<|mv (i6 a4)<|?_
   obtain ⟨t128, h_t128, H71⟩ := Je H70; clear H70
   refine Yk (J8 (rds := []) (G := fun x : (Option Addr × Nat) => .tuple #[sl x t128.1.length, i6 t128.2]) (C := fun x : (Option Addr × Nat) => rowD 32 4 g_face_Person (sl x t128.1.length) t128.1.length t128.1) (fun w L' hF hS hi => k19 (Jp w) (f0.mono (hw.now hF)) (f1.mono (hw.now hF)) h_t128) Tryz.call19 rfl) rfl rfl rfl (fun p_7 => ?_)
   refine c_rowD 13 rfl (fun hp_13 css_7 hn_7 pf_7 => ?_)
   rw [hn_7]
   refine V7 13 rfl ?_
   refine Yv 0 13 rfl rfl (by decide) (fun _ _ => Qo) (fun hp_14 hle_13 hle_14 => ?_)
   refine mv (.tuple #[sl p_7 css_7.length, i6 t128.2])<|Jf rfl rfl rfl (Qs (v := sl p_7 css_7.length) rfl rfl)<|Jf rfl rfl rfl (Qs (v := i6 t128.2) rfl rfl)<|ag (sl p_7 css_7.length)<|ag (i6 t128.2)<|Jd<|?_
   try dsimp only [z1, z2, z5, z6, z7, z8]
   refine Jc<|Ja<|mv (i6 a5)<|?_
   obtain ⟨t132, h_t132, H72⟩ := Je H71; clear H71
   refine Vu (k20 h_t132) Tryz.call20 rfl rfl rfl<|ag (i6 t132)<|Jd<|?_
   try dsimp only [z1, z2, z5, z6, z7, z8]
   refine Jc<|Ja<|ag (.slice none 0 0)<|Jd<|?_
   try dsimp only [z1, z2, z5, z6, z7, z8]
   refine Xf (r := r) (σ := (List T_face_Person)) (τ := Qg × (List (List Value)) × (Option Addr × Nat)) (fun s => W1 a0 a1 a2 a3 a6 a7 t50 t58 t65 t73 t82 t120 t128 t132 s) (fun s t => [(0, v0), (1, v1), (2, i6 a2), (3, i6 a3), (6, v6), (7, Xt a7), (18, sl p css.length), (19, i6 t50.2), (20, sl p_2 css_2.length), (21, i6 t58.2), (22, sl p_3 css_3.length), (23, i6 t65.2), (24, sl p_4 css_4.length), (25, i6 t73.2), (26, sl p_5 css_5.length), (27, i6 t82.2), (28, sl p_6 css_6.length), (29, i6 t120.2), (30, sl p_7 css_7.length), (31, i6 t128.2), (32, i6 t132), (33, .slice t.2.2.1 t.2.1.length t.2.2.2)]) (fun s t => [Yx Yo t.1, Vn 32 4 (sl p css.length) css.length (css.map idC), Vn 32 4 (sl p_2 css_2.length) css_2.length (css_2.map idC), Vn 32 4 (sl p_3 css_3.length) css_3.length (css_3.map idC), Vn 32 4 (sl p_4 css_4.length) css_4.length (css_4.map idC), Vn 32 4 (sl p_5 css_5.length) css_5.length (css_5.map idC), J5 32 4 (sl p_6 css_6.length) css_6.length (css_6.map idC), J5 32 4 (sl p_7 css_7.length) css_7.length (css_7.map idC), J5 32 4 (.slice t.2.2.1 t.2.1.length t.2.2.2) t.2.1.length (t.2.1.map idC)]) (fun s t => AllC g_face_Person t.1 4 css t50.1 ∧ AllC g_face_Person t.1 4 css_2 t58.1 ∧ AllC g_face_Person t.1 4 css_3 t65.1 ∧ AllC g_face_Person t.1 4 css_4 t73.1 ∧ AllC g_face_Person t.1 4 css_5 t82.1 ∧ AllC g_face_Person t.1 4 css_6 t120.1 ∧ AllC g_face_Person t.1 4 css_7 t128.1 ∧ AllC g_face_Person t.1 4 t.2.1 s) ?_ ?_
   ·refine Jc<|Ja<|mv (i6 t132)<|Jf rfl rfl rfl (Uv rfl rfl)<|Jd<|?_
    try dsimp only [z1, z2, z5, z6, z7, z8]
    refine Qm (b := (decide (t132 = 0))) rfl (fun hb => ?_) (fun hb => ?_)
    ·have H89 := Jw hb H72; clear H72
     refine Ja<|mv v0<|mv v1<|mv (i6 a5)<|?_
     obtain ⟨t138, h_t138, H90⟩ := Je H89; clear H89
     refine Yk (J8 (rds := []) (G := fun x : (Option Addr × Nat) => sl x t138.length) (C := fun x : (Option Addr × Nat) => rowD 32 4 g_face_Person (sl x t138.length) t138.length t138) (fun w L' hF hS hi => k21 (Jp w) (f0.mono (hw.now hF)) (f1.mono (hw.now hF)) h_t138) Tryz.call21 rfl) rfl rfl rfl (fun p_11 => ?_)
     refine c_rowD 15 rfl (fun hp_20 css_18 hn_10 pf_18 => ?_)
     rw [hn_10]
     refine V7 15 rfl ?_
     refine Yv 0 15 rfl rfl (by decide) (fun _ _ => Qo) (fun hp_21 hle_19 hle_20 => ?_)
     refine ag (sl p_11 css_18.length)<|Jd<|?_
     try dsimp only [z1, z2, z5, z6, z7, z8]
     refine Js t138 (hp_21, css_18, p_11) 0 [0, 2, 4, 6, 8, 10, 12, 14, 16] (by exact ⟨rfl, rfl, rfl, rfl, rfl, rfl, rfl, rfl, rfl, rfl, rfl, rfl, rfl, rfl, rfl, rfl, rfl, rfl, rfl, rfl, rfl, rfl, trivial⟩) (by decide) rfl (by exact ⟨H90, ⟨((((((((pf.mono hle_2).mono hle_3).mono hle_5).mono hle_7).mono hle_9).mono hle_11).mono hle_13).mono hle_19), (((((((pf_2.mono hle_4).mono hle_5).mono hle_7).mono hle_9).mono hle_11).mono hle_13).mono hle_19), ((((((pf_3.mono hle_6).mono hle_7).mono hle_9).mono hle_11).mono hle_13).mono hle_19), (((((pf_4.mono hle_8).mono hle_9).mono hle_11).mono hle_13).mono hle_19), ((((pf_5.mono hle_10).mono hle_11).mono hle_13).mono hle_19), (((pf_6.mono hle_12).mono hle_13).mono hle_19), ((pf_7.mono hle_14).mono hle_19), (pf_18.mono hle_20)⟩⟩) (Nat.lt_succ_self _)
    ·have H91 := Jx hb H72; clear H72
     refine Jv<|Q9 32 4<|?_
     refine Js ([] : List T_face_Person) (hp_14, ([] : List (List Value)), nn) 0 [0, 2, 4, 6, 8, 10, 12, 14, 15] (by exact ⟨rfl, rfl, rfl, rfl, rfl, rfl, rfl, rfl, rfl, rfl, rfl, rfl, rfl, rfl, rfl, rfl, rfl, rfl, rfl, rfl, rfl, rfl, trivial⟩) (by decide) rfl (by exact ⟨H91, ⟨(((((((pf.mono hle_2).mono hle_3).mono hle_5).mono hle_7).mono hle_9).mono hle_11).mono hle_13), ((((((pf_2.mono hle_4).mono hle_5).mono hle_7).mono hle_9).mono hle_11).mono hle_13), (((((pf_3.mono hle_6).mono hle_7).mono hle_9).mono hle_11).mono hle_13), ((((pf_4.mono hle_8).mono hle_9).mono hle_11).mono hle_13), (((pf_5.mono hle_10).mono hle_11).mono hle_13), ((pf_6.mono hle_12).mono hle_13), (pf_7.mono hle_14), (AllC.nil (G := g_face_Person) (h := hp_14) (sz := 4))⟩⟩) (Nat.lt_succ_self _)
   ·rintro l_8 ⟨hp_15, css_15, p_8⟩ gg H73 ⟨pf_8, pf_9, pf_10, pf_11, pf_12, pf_13, pf_14, pf_15⟩
    try dsimp only at H73
    try dsimp only
    refine Jc<|Ja<|mv v0<|mv v1<|mv (i6 a2)<|mv (i6 a3)<|?_
    obtain ⟨t144, h_t144, H74⟩ := Je H73; clear H73
    refine Yk (J8 (rds := []) (G := fun x : (Option Addr × Nat) => .tuple #[sl x t144.1.length, i6 t144.2]) (C := fun x : (Option Addr × Nat) => rofD false 32 4 g_face_Person (sl x t144.1.length) t144.1.length t144.1) (fun w L' hF hS hi => k22 (Jp w) (f0.mono (hw.now hF)) (f1.mono (hw.now hF)) h_t144) Tryz.call22 rfl) rfl rfl rfl (fun p_9 => ?_)
    refine c_rofD 9 rfl (fun hp_16 css_16 hn_8 hc_6 pf_16 => ?_)
    rw [hn_8]
    refine V7 9 rfl ?_
    refine Yv 0 9 rfl rfl (by decide) (fun _ _ => Qo) (fun hp_17 hle_15 hle_16 => ?_)
    refine mv (.tuple #[sl p_9 css_16.length, i6 t144.2])<|Jf rfl rfl rfl (Qs (v := sl p_9 css_16.length) rfl rfl)<|Jf rfl rfl rfl (Qs (v := i6 t144.2) rfl rfl)<|ag (sl p_9 css_16.length)<|ag (i6 t144.2)<|Jd<|?_
    try dsimp only [z1, z2, z5, z6, z7, z8]
    refine Jc<|Ja<|mv v1<|mv (i6 a2)<|mv v6<|mv (Xt a7)<|?_
    obtain ⟨t152, h_t152, H75⟩ := Je H74; clear H74
    refine Yk (J8 (rds := []) (G := fun x : (Option Addr × Nat) => .tuple #[sl x t152.1.length, i6 t152.2]) (C := fun x : (Option Addr × Nat) => rowD 32 4 g_face_Person (sl x t152.1.length) t152.1.length t152.1) (fun w L' hF hS hi => k23 (Jp w) (f1.mono (hw.now hF)) (f6.mono (hw.now hF)) h_t152) Tryz.call23 rfl) rfl rfl rfl (fun p_10 => ?_)
    refine c_rowD 11 rfl (fun hp_18 css_17 hn_9 pf_17 => ?_)
    rw [hn_9]
    refine V7 11 rfl ?_
    refine Yv 0 11 rfl rfl (by decide) (fun _ _ => Qo) (fun hp_19 hle_17 hle_18 => ?_)
    refine mv (.tuple #[sl p_10 css_17.length, i6 t152.2])<|Jf rfl rfl rfl (Qs (v := sl p_10 css_17.length) rfl rfl)<|Jf rfl rfl rfl (Qs (v := i6 t152.2) rfl rfl)<|ag (sl p_10 css_17.length)<|ag (i6 t152.2)<|Jd<|?_
    try dsimp only [z1, z2, z5, z6, z7, z8]
    refine Jc<|Ja<|mv (sl p css.length)<|mv (i6 t50.2)<|mv (sl p_6 css_6.length)<|mv (i6 t120.2)<|?_
    obtain ⟨t159, h_t159, H76⟩ := Je H75; clear H75
    refine Qf (fun w hF hS => k17 (Jp w) (U7 (xs := t50.1) (Jbg (i := 1) rfl hS rfl) (((pf_8.mono hle_15).mono hle_17).mono (Xi (i := 0) hS rfl Qo))) (U7 (xs := t120.1) (frs_own (i := 6) rfl hS rfl) (((pf_13.mono hle_15).mono hle_17).mono (Xi (i := 0) hS rfl Qo))) h_t159) Tryz.call17 rfl rfl rfl<|mv (.bool t159)<|?_
    refine split (fun hb => ?_) (fun hb => ?_)
    ·have H77 := Jw hb H76; clear H76
     refine mv (sl p_2 css_2.length)<|mv (i6 t58.2)<|mv (sl p_7 css_7.length)<|mv (i6 t128.2)<|?_
     obtain ⟨t165, h_t165, H78⟩ := Je H77; clear H77
     refine Qf (fun w hF hS => k17 (Jp w) (U7 (xs := t58.1) (Jbg (i := 2) rfl hS rfl) (((pf_9.mono hle_15).mono hle_17).mono (Xi (i := 0) hS rfl Qo))) (U7 (xs := t128.1) (frs_own (i := 7) rfl hS rfl) (((pf_14.mono hle_15).mono hle_17).mono (Xi (i := 0) hS rfl Qo))) h_t165) Tryz.call17 rfl rfl rfl<|Jf rfl rfl rfl (Q5 (v := .bool t165) rfl rfl)<|mv (.bool t165)<|?_
     refine split (fun hb => ?_) (fun hb => ?_)
     ·have H79 := Jw hb H78; clear H78
      refine mv (sl p_3 css_3.length)<|mv (i6 t65.2)<|mv (sl p_8 css_15.length)<|mv (i6 t132)<|?_
      obtain ⟨t172, h_t172, H80⟩ := Je H79; clear H79
      refine Qf (fun w hF hS => k17 (Jp w) (U7 (xs := t65.1) (Jbg (i := 3) rfl hS rfl) (((pf_10.mono hle_15).mono hle_17).mono (Xi (i := 0) hS rfl Qo))) (U7 (xs := l_8) (frs_own (i := 8) rfl hS rfl) (((pf_15.mono hle_15).mono hle_17).mono (Xi (i := 0) hS rfl Qo))) h_t172) Tryz.call17 rfl rfl rfl<|Jf rfl rfl rfl (Q5 (v := .bool t172) rfl rfl)<|mv (.bool t172)<|?_
      refine split (fun hb => ?_) (fun hb => ?_)
      ·have H81 := Jw hb H80; clear H80
       refine mv (sl p_4 css_4.length)<|mv (i6 t73.2)<|mv (sl p_9 css_16.length)<|mv (i6 t144.2)<|?_
       obtain ⟨t179, h_t179, H82⟩ := Je H81; clear H81
       refine Qf (fun w hF hS => k17 (Jp w) (U7 (xs := t73.1) (Jbg (i := 4) rfl hS rfl) (((pf_11.mono hle_15).mono hle_17).mono (Xi (i := 0) hS rfl Qo))) (U7 (xs := t144.1) (Jbg (i := 10) rfl hS rfl) (((pf_16.mono hle_16).mono hle_17).mono (Xi (i := 0) hS rfl Qo))) h_t179) Tryz.call17 rfl rfl rfl<|Jf rfl rfl rfl (Q5 (v := .bool t179) rfl rfl)<|mv (.bool t179)<|?_
       refine split (fun hb => ?_) (fun hb => ?_)
       ·have H83 := Jw hb H82; clear H82
        refine mv (sl p_5 css_5.length)<|mv (i6 t82.2)<|mv (sl p_10 css_17.length)<|mv (i6 t152.2)<|?_
        obtain ⟨t186, h_t186, H84⟩ := Je H83; clear H83
        refine Qf (fun w hF hS => k17 (Jp w) (U7 (xs := t82.1) (Jbg (i := 5) rfl hS rfl) (((pf_12.mono hle_15).mono hle_17).mono (Xi (i := 0) hS rfl Qo))) (U7 (xs := t152.1) (frs_own (i := 12) rfl hS rfl) ((pf_17.mono hle_18).mono (Xi (i := 0) hS rfl Qo))) h_t186) Tryz.call17 rfl rfl rfl<|Jf rfl rfl rfl (Q5 (v := .bool t186) rfl rfl)<|ag (.bool t186)<|Jd<|?_
        try dsimp only [z1, z2, z5, z6, z7, z8]
        refine Jy ?_
        obtain rfl := Option.some.inj H84
        refine Qw (v := .bool t186) rfl rfl (Yz rfl)
       ·have H85 := Jx hb H82; clear H82
        refine pa<|pa<|pa<|pa<|pa<|Jf rfl rfl rfl (Qr (v := .bool false) rfl rfl)<|ag (.bool false)<|Jd<|?_
        try dsimp only [z1, z2, z5, z6, z7, z8]
        refine Jy ?_
        obtain rfl := Option.some.inj H85
        refine Qw (v := .bool false) rfl rfl (Yz rfl)
      ·have H86 := Jx hb H80; clear H80
       refine pa<|pa<|pa<|pa<|pa<|Jf rfl rfl rfl (Qr (v := .bool false) rfl rfl)<|mv (.bool false)<|pa<|pa<|pa<|pa<|pa<|Jf rfl rfl rfl (Qr (v := .bool false) rfl rfl)<|ag (.bool false)<|Jd<|?_
       try dsimp only [z1, z2, z5, z6, z7, z8]
       refine Jy ?_
       obtain rfl := Option.some.inj H86
       refine Qw (v := .bool false) rfl rfl (Yz rfl)
     ·have H87 := Jx hb H78; clear H78
      refine pa<|pa<|pa<|pa<|pa<|Jf rfl rfl rfl (Qr (v := .bool false) rfl rfl)<|mv (.bool false)<|pa<|pa<|pa<|pa<|pa<|Jf rfl rfl rfl (Qr (v := .bool false) rfl rfl)<|mv (.bool false)<|pa<|pa<|pa<|pa<|pa<|Jf rfl rfl rfl (Qr (v := .bool false) rfl rfl)<|ag (.bool false)<|Jd<|?_
      try dsimp only [z1, z2, z5, z6, z7, z8]
      refine Jy ?_
      obtain rfl := Option.some.inj H87
      refine Qw (v := .bool false) rfl rfl (Yz rfl)
    ·have H88 := Jx hb H76; clear H76
     refine pa<|pa<|pa<|pa<|pa<|Jf rfl rfl rfl (Qr (v := .bool false) rfl rfl)<|mv (.bool false)<|pa<|pa<|pa<|pa<|pa<|Jf rfl rfl rfl (Qr (v := .bool false) rfl rfl)<|mv (.bool false)<|pa<|pa<|pa<|pa<|pa<|Jf rfl rfl rfl (Qr (v := .bool false) rfl rfl)<|mv (.bool false)<|pa<|pa<|pa<|pa<|pa<|Jf rfl rfl rfl (Qr (v := .bool false) rfl rfl)<|ag (.bool false)<|Jd<|?_
     try dsimp only [z1, z2, z5, z6, z7, z8]
     refine Jy ?_
     obtain rfl := Option.some.inj H88
     refine Qw (v := .bool false) rfl rfl (Yz rfl)
end Go.Proofs.YthhaabhnlndnoaaGreat
