/- FaceChanges, the reference: the walks, printed by our generator; each follows its model. Conditions: the model yields a value. -/
import Derived.Test.YthhaabhnlndnoaaGreatKDb
namespace Go.Proofs.YthhaabhnlndnoaaGreat
open Go Go.Vc Go.Md Go.M Go.Lx
set_option maxRecDepth 100000
set_option maxHeartbeats 4000000
set_option linter.unusedVariables false
theorem k49 {a0 : Int} {r : Bool} (H : R_idOk a0 = some r) : Ret Tryz.prog 49 [i6 a0] (.bool r) := by
 refine Vr (n := 9) Tryz.func49 rfl rfl rfl (fun wd => ?_)
 refine Jc<|Ja<|ag (.bool false)<|Jd<|Jc<|Ja<|mv (i6 a0)<|Jf rfl rfl rfl (r_geq rfl rfl)<|mv (.bool (decide (1 ≤ a0)))<|?_
 refine split (fun hb => ?_) (fun hb => ?_)
 ·have H3 := Jw hb H; clear H
  refine mv (i6 a0)<|Jf rfl rfl rfl (r_leq rfl rfl)<|Jf rfl rfl rfl (Q5 (v := .bool (decide (a0 ≤ 1000000))) rfl rfl)<|ag (.bool (decide (a0 ≤ 1000000)))<|Jd<|Jy<|?_
  obtain rfl := Option.some.inj H3
  refine Qw (v := .bool (decide (a0 ≤ 1000000))) rfl rfl (Yz rfl)
 ·have H4 := Jx hb H; clear H
  refine pa<|pa<|Jf rfl rfl rfl (Qr (v := .bool false) rfl rfl)<|ag (.bool false)<|Jd<|Jy<|?_
  obtain rfl := Option.some.inj H4
  refine Qw (v := .bool false) rfl rfl (Yz rfl)
theorem k50 {a0 : (Nat → Int)} {r : Int} (H : R_VecFault a0 = some r) : Ret Tryz.prog 50 [.agg #[i6 (a0 0), i6 (a0 1), i6 (a0 2), i6 (a0 3), i6 (a0 4), i6 (a0 5), i6 (a0 6), i6 (a0 7), i6 (a0 8), i6 (a0 9), i6 (a0 10), i6 (a0 11)]] (i6 r) := by
 refine Vr (n := 16) Tryz.func50 rfl rfl rfl (fun wd => ?_)
 refine Jc<|Ja<|?_
 refine Wp (cs := [i6 (a0 0), i6 (a0 1), i6 (a0 2), i6 (a0 3), i6 (a0 4), i6 (a0 5), i6 (a0 6), i6 (a0 7), i6 (a0 8), i6 (a0 9), i6 (a0 10), i6 (a0 11)]) rfl rfl rfl rfl (fun b1 => ?_)
 refine ag (i6 0)<|Jd<|Jc<|Jc<|Ja<|Uz (i := 0) (vs := [i6 (a0 0), i6 (a0 1), i6 (a0 2), i6 (a0 3), i6 (a0 4), i6 (a0 5), i6 (a0 6), i6 (a0 7), i6 (a0 8), i6 (a0 9), i6 (a0 10), i6 (a0 11)]) Tryz.isAgg47 Tryz.sizeOf47 rfl rfl rfl rfl rfl<|mv (i6 0)<|Jd<|Ju<|c_dr 0<|?_
 try dsimp only [z1, z2, z3, z4, z5, z6, z7, z8]
 refine X6 (σ := Int) (τ := Unit) (fun next1 s => Jb0 a0 next1 s) (fun s t => [(5, .agg #[i6 (a0 0), i6 (a0 1), i6 (a0 2), i6 (a0 3), i6 (a0 4), i6 (a0 5), i6 (a0 6), i6 (a0 7), i6 (a0 8), i6 (a0 9), i6 (a0 10), i6 (a0 11)]), (6, i6 s)]) (fun s t => []) (fun s t => True) 0 () [] H (by exact trivial) (by exact ⟨rfl, rfl, trivial⟩) (by decide) rfl ?_
 rintro x6_2 _ m1 gg H10 _
 clear H
 try dsimp only at H10
 generalize hn1 : it (fun next1 s => Jb0 a0 next1 s) m1 = next1 at H10
 try dsimp only
 refine Jc<|Ja<|Jf rfl rfl rfl (Q0 rfl rfl)<|Jd<|Jc<|?_
 refine Qm (b := (decide (x6_2 < 12))) rfl (fun hb => ?_) (fun hb => ?_)
 ·have H11 := Jw hb H10; clear H10
  refine Jv<|Jc<|Ju<|Jc<|Ja<|?_
  obtain ⟨k8, h_k8, H12⟩ := Je H11; clear H11
  refine Jf rfl rfl rfl (r_indexAG (f := fun j_ => i6 (a0 j_)) Tryz.runUnderlying47 Tryz.isAgg3 Tryz.sizeOf3 rfl rfl rfl h_k8)<|ag (i6 (a0 k8))<|Jd<|Jc<|Ja<|mv (i6 (a0 k8))<|Jf rfl rfl rfl (Q0 rfl rfl)<|mv (.bool (decide ((a0 k8) < (-127))))<|?_
  refine split (fun hb => ?_) (fun hb => ?_)
  ·have H13 := Jw hb H12; clear H12
   refine pa<|pa<|Jf rfl rfl rfl (Q5 (v := .bool true) rfl rfl)<|Jd<|c_true rfl<|Jc<|Ja<|ag (i6 2)<|Jd<|Jy<|?_
   obtain rfl := Option.some.inj H13
   refine Qw (v := i6 2) rfl rfl (Yz rfl)
  ·have H14 := Jx hb H12; clear H12
   refine mv (i6 (a0 k8))<|Jf rfl rfl rfl (Jaz rfl rfl)<|Jf rfl rfl rfl (Qr (v := .bool (decide (127 < (a0 k8)))) rfl rfl)<|Jd<|?_
   refine Qm (b := (decide (127 < (a0 k8)))) rfl (fun hb => ?_) (fun hb => ?_)
   ·have H15 := Jw hb H14; clear H14
    refine Jc<|Ja<|ag (i6 2)<|Jd<|Jy<|?_
    obtain rfl := Option.some.inj H15
    refine Qw (v := i6 2) rfl rfl (Yz rfl)
   ·have H16 := Jx hb H14; clear H14
    refine Jv<|Ja<|?_
    obtain ⟨t15, h_t15, H17⟩ := Je H16; clear H16
    refine Jf rfl rfl rfl (Qp rfl rfl h_t15)<|mv (i6 t15)<|Jd<|?_
    refine Js t15 () m1 [] (by exact ⟨rfl, rfl, trivial⟩) (by decide) rfl (by exact ⟨(by subst hn1; exact H17), trivial⟩) (Nat.lt_succ_self _)
 ·have H18 := Jx hb H10; clear H10
  refine Q3<|Jc<|Ja<|ag (i6 0)<|Jd<|Jy<|?_
  obtain rfl := Option.some.inj H18
  refine Qw (v := i6 0) rfl rfl (Yz rfl)
theorem k13 {a0 : (List T_face_Likeness)} {v0 : Value} {r : Int} {w : World} {h : Qg} (hw : Know h w Yl) (f0 : FrS h 14 v0 (a0.map Jq)) (H : R_LikesFault a0 = some r) : Does Tryz.prog 13 (List.toArray [v0]) w (fun v w' => v = (i6 r) ∧ Grow w w') := by
 refine enter (n := 48) Tryz.func13 rfl rfl rfl Yl [] (Sat.nil _ _)<|Jc<|Ja<|ag (i6 0)<|Jd<|Jc<|Jc<|Ja<|mv v0<|Jf rfl rfl rfl (Y0 Tryz.underlying22 rfl f0 rfl)<|Jf rfl rfl rfl (Jaz rfl rfl)<|Jd<|?_
 refine Qm (b := (decide (300 < (a0.length : Int)))) rfl (fun hb => ?_) (fun hb => ?_)
 ·have H24 := Jw hb H; clear H
  refine Jc<|Ja<|ag (i6 4)<|Jd<|Jy<|?_
  obtain rfl := Option.some.inj H24
  refine Qw (v := i6 4) rfl rfl (Yz rfl)
 ·have H25 := Jx hb H; clear H
  refine Jv<|Jc<|Jc<|Ja<|mv v0<|Jf rfl rfl rfl (Y0 Tryz.underlying22 rfl f0 rfl)<|mv (i6 0)<|Jd<|Ju<|?_
  refine X6 (σ := Int) (τ := Unit) (fun next1 s => Jb7 a0 next1 s) (fun s t => [(0, v0), (9, v0), (10, i6 (a0.length : Int)), (11, i6 s)]) (fun s t => []) (fun s t => True) 0 () [] H25 (by exact trivial) (by exact ⟨rfl, rfl, rfl, rfl, trivial⟩) (by decide) rfl ?_
  rintro x11_2 _ m1 gg H26 _
  clear H25
  try dsimp only at H26
  generalize hn1 : it (fun next1 s => Jb7 a0 next1 s) m1 = next1 at H26
  try dsimp only
  refine Jc<|Ja<|Jf rfl rfl rfl (Q0 rfl rfl)<|Jd<|Jc<|?_
  refine Qm (b := (decide (x11_2 < (a0.length : Int)))) rfl (fun hb => ?_) (fun hb => ?_)
  ·have H27 := Jw hb H26; clear H26
   refine Jv<|Jc<|Ju<|Jc<|Ja<|mv (i6 x11_2)<|?_
   obtain ⟨t14, h_t14, H28⟩ := Je H27; clear H27
   refine Jf rfl rfl rfl (Qe Tryz.underlying22 Tryz.sizeOf52 rfl rfl f0 h_t14)<|J9 (fun w hF hS => Qj (f := Jq) (i := x11_2) (sz := 14) (j := 0) (vs := [i6 t14.Id, i6 t14.Photo, i6 (t14.Vec 0), i6 (t14.Vec 1), i6 (t14.Vec 2), i6 (t14.Vec 3), i6 (t14.Vec 4), i6 (t14.Vec 5), i6 (t14.Vec 6), i6 (t14.Vec 7), i6 (t14.Vec 8), i6 (t14.Vec 9), i6 (t14.Vec 10), i6 (t14.Vec 11)]) Tryz.isAgg52 Tryz.sizeOf52 rfl rfl (f0.row (hw.now hF)) h_t14 rfl) rfl rfl rfl<|?_
   refine Wh (cs := [i6 0, i6 0, i6 0, i6 0, i6 0, i6 0, i6 0, i6 0, i6 0, i6 0, i6 0, i6 0, i6 0, i6 0]) Tryz.zeroValue52 rfl rfl rfl (fun b1 => ?_)
   refine ag (i6 x11_2)<|Y8 (i := 0) (vs := [i6 t14.Id, i6 t14.Photo, i6 (t14.Vec 0), i6 (t14.Vec 1), i6 (t14.Vec 2), i6 (t14.Vec 3), i6 (t14.Vec 4), i6 (t14.Vec 5), i6 (t14.Vec 6), i6 (t14.Vec 7), i6 (t14.Vec 8), i6 (t14.Vec 9), i6 (t14.Vec 10), i6 (t14.Vec 11)]) (cs' := [i6 t14.Id, i6 t14.Photo, i6 (t14.Vec 0), i6 (t14.Vec 1), i6 (t14.Vec 2), i6 (t14.Vec 3), i6 (t14.Vec 4), i6 (t14.Vec 5), i6 (t14.Vec 6), i6 (t14.Vec 7), i6 (t14.Vec 8), i6 (t14.Vec 9), i6 (t14.Vec 10), i6 (t14.Vec 11)]) Tryz.sizeOf52 rfl rfl rfl rfl rfl rfl rfl rfl rfl<|Jd<|?_
   refine Xf (r := r) (σ := Bool × Bool) (τ := Unit) (fun s => Jam x11_2 next1 t14 s.1 s.2) (fun s t => [(0, v0), (4, .pointer (some ⟨b1, 0, none⟩)), (9, v0), (10, i6 (a0.length : Int)), (11, i6 x11_2), (22, .pointer (some ⟨b1, 1, none⟩)), (23, i6 t14.Photo), (24, .bool s.1), (25, .bool s.2)]) (fun s t => [Q1 b1 [i6 t14.Id, i6 t14.Photo, i6 (t14.Vec 0), i6 (t14.Vec 1), i6 (t14.Vec 2), i6 (t14.Vec 3), i6 (t14.Vec 4), i6 (t14.Vec 5), i6 (t14.Vec 6), i6 (t14.Vec 7), i6 (t14.Vec 8), i6 (t14.Vec 9), i6 (t14.Vec 10), i6 (t14.Vec 11)] 52]) (fun s t => True) ?_ ?_
   ·refine Ju<|Jc<|Ja<|Jf rfl rfl rfl (J7 Tryz.runUnderlying52 rfl Tryz.sizeOf3 rfl rfl)<|Qq (i := 0) (v := i6 t14.Id) Tryz.isAgg3 rfl rfl rfl rfl rfl<|?_
    obtain ⟨t19, h_t19, H34⟩ := Je H28; clear H28
    refine Vu (k49 h_t19) Tryz.call49 rfl rfl rfl<|Jf rfl rfl rfl (Ub rfl)<|mv (.bool (!t19))<|?_
    refine split (fun hb => ?_) (fun hb => ?_)
    ·have H35 := Jw hb H34; clear H34
     refine pa<|pa<|pa<|pa<|Jf rfl rfl rfl (Q5 (v := .bool true) rfl rfl)<|ag (.bool true)<|Jd<|c_true rfl<|Jc<|Ja<|ag (i6 2)<|Jd<|Jy<|?_
     obtain rfl := Option.some.inj H35
     refine Qw (v := i6 2) rfl rfl (Yz rfl)
    ·have H36 := Jx hb H34; clear H34
     refine Jf rfl rfl rfl (J7 Tryz.runUnderlying52 rfl Tryz.sizeOf3 rfl rfl)<|Qq (i := 0) (v := i6 t14.Photo) Tryz.isAgg3 rfl rfl rfl rfl rfl<|?_
     obtain ⟨t24, h_t24, H37⟩ := Je H36; clear H36
     refine Vu (k49 h_t24) Tryz.call49 rfl rfl rfl<|Jf rfl rfl rfl (Ub rfl)<|Jf rfl rfl rfl (Qr (v := .bool (!t24)) rfl rfl)<|ag (.bool (!t24))<|Jd<|?_
     refine Qm (b := (!t24)) rfl (fun hb => ?_) (fun hb => ?_)
     ·have H38 := Jw hb H37; clear H37
      refine Jc<|Ja<|ag (i6 2)<|Jd<|Jy<|?_
      obtain rfl := Option.some.inj H38
      refine Qw (v := i6 2) rfl rfl (Yz rfl)
     ·have H39 := Jx hb H37; clear H37
      refine Jc ?_
      exact Qz (Kd.p :: Kd.p :: Kd.p :: Kd.p :: Kd.d [0] _ :: Kd.p :: Kd.p :: Kd.p :: Kd.p :: Kd.p :: Kd.d [] _ :: Kd.p :: Kd.p :: Kd.p :: []) 0 mixed (by
       refine dm (i6 x11_2)<|Qa rfl rfl (Jaz rfl rfl)<|dm (.bool (decide (0 < x11_2)))<|?_
       refine splitS (fun hb => ?_) (fun hb => ?_)
       ·have H40 := Jw hb H39
        refine Qa rfl rfl (J7 Tryz.runUnderlying52 rfl Tryz.sizeOf3 rfl rfl)<|Z5 (i := 0) (v := i6 t14.Id) Tryz.isAgg3 rfl rfl rfl rfl<|dm v0<|dm (i6 x11_2)<|?_
        have h_t35 := Jr H40
        have H41 := Jn H40
        refine Qa rfl rfl (Zl rfl rfl h_t35) ?_
        have h_t36 := Jr H41
        have H42 := Jn H41
        refine Qa rfl rfl (Qe Tryz.underlying22 Tryz.sizeOf52 rfl rfl f0 h_t36)<|Qa rfl rfl (Xv Tryz.runUnderlying52 rfl Tryz.sizeOf3 rfl rfl (Ym f0 h_t36))<|Wb (fun w hF => J2 (f := Jq) (i := (val (gI (x11_2 - 1)))) (sz := 14) (j := 0) (v := i6 (val (Jk a0 (val (gI (x11_2 - 1))))).Id) Tryz.isAgg3 rfl rfl (f0.row (hw.now hF)) h_t36 rfl) rfl rfl<|Qa rfl rfl (r_leq rfl rfl)<|Qa rfl rfl (Q5 (v := .bool (decide (t14.Id ≤ (val (Jk a0 (val (gI (x11_2 - 1))))).Id))) rfl rfl)<|Qa rfl rfl (Uj (v := .bool (decide (t14.Id ≤ (val (Jk a0 (val (gI (x11_2 - 1))))).Id))) rfl)<|Y3<|?_
        refine Qm (b := (decide (t14.Id ≤ (val (Jk a0 (val (gI (x11_2 - 1))))).Id))) rfl (fun hb => ?_) (fun hb => ?_)
        ·have H43 := Jw hb H42; clear H42
         refine Jc<|Ja<|ag (i6 5)<|Jd<|Jy<|?_
         obtain rfl := Option.some.inj H43
         refine Qw (v := i6 5) rfl rfl (Yz rfl)
        ·have H44 := Jx hb H42; clear H42
         refine Jv ?_
         refine Js (t24, (!t24)) () 0 [0] (by exact ⟨rfl, rfl, rfl, rfl, rfl, rfl, rfl, rfl, rfl, trivial⟩) (by decide) rfl (by exact ⟨H44, trivial⟩) (Nat.lt_succ_self _)
       ·have H45 := Jx hb H39
        refine dp<|dp<|dp<|dp<|dp<|dp<|dp<|dp<|dp<|Qa rfl rfl (Qr (v := .bool false) rfl rfl)<|Qa rfl rfl (Uj (v := .bool false) rfl)<|Y3<|Wq rfl<|Jv<|?_
        refine Js (t24, (!t24)) () 0 [0] (by exact ⟨rfl, rfl, rfl, rfl, rfl, rfl, rfl, rfl, rfl, trivial⟩) (by decide) rfl (by exact ⟨H45, trivial⟩) (Nat.lt_succ_self _)
       ) (by kernel_rfl)
   ·rintro ⟨x24, x25⟩ _ gg H29 _
    try dsimp only at H29
    try dsimp only
    refine Jc<|Ja<|Jf rfl rfl rfl (J7 Tryz.runUnderlying52 rfl Tryz.sizeOf47 rfl rfl)<|Uz (i := 0) (vs := [i6 (t14.Vec 0), i6 (t14.Vec 1), i6 (t14.Vec 2), i6 (t14.Vec 3), i6 (t14.Vec 4), i6 (t14.Vec 5), i6 (t14.Vec 6), i6 (t14.Vec 7), i6 (t14.Vec 8), i6 (t14.Vec 9), i6 (t14.Vec 10), i6 (t14.Vec 11)]) Tryz.isAgg47 Tryz.sizeOf47 rfl rfl rfl rfl rfl<|?_
    obtain ⟨t43, h_t43, H30⟩ := Je H29; clear H29
    refine Vu (k50 h_t43) Tryz.call50 rfl rfl rfl<|ag (i6 t43)<|Jd<|Jc<|Ja<|mv (i6 t43)<|Jf rfl rfl rfl (r_neq rfl rfl)<|Jd<|?_
    refine Qm (b := (decide (t43 ≠ 0))) rfl (fun hb => ?_) (fun hb => ?_)
    ·have H31 := Jw hb H30; clear H30
     refine Jc<|Ja<|mv (i6 t43)<|ag (i6 t43)<|Jd<|Jy<|?_
     obtain rfl := Option.some.inj H31
     refine Qw (v := i6 t43) rfl rfl (Yz rfl)
    ·have H32 := Jx hb H30; clear H30
     refine Jv<|Ja<|?_
     obtain ⟨t47, h_t47, H33⟩ := Je H32; clear H32
     refine Jf rfl rfl rfl (Qp rfl rfl h_t47)<|mv (i6 t47)<|Jd<|?_
     refine Js t47 () m1 [] (by exact ⟨rfl, rfl, rfl, rfl, trivial⟩) (by decide) rfl (by exact ⟨(by subst hn1; exact H33), trivial⟩) (Nat.lt_succ_self _)
  ·have H46 := Jx hb H26; clear H26
   refine Q3<|Jc<|Ja<|ag (i6 0)<|Jd<|Jy<|?_
   obtain rfl := Option.some.inj H46
   refine Qw (v := i6 0) rfl rfl (Yz rfl)
theorem k51 {a0 : (List UInt8)} {r : Bool} (H : R_TitleOk a0 = some r) : Ret Tryz.prog 51 [Xt a0] (.bool r) := by
 refine Vr (n := 22) Tryz.func51 rfl rfl rfl (fun wd => ?_)
 refine Jc<|Ja<|ag (.bool false)<|Jd<|Jc<|Jc<|Ja<|mv (Xt a0)<|Jf rfl rfl rfl (r_lenT Tryz.underlying9 rfl)<|Jf rfl rfl rfl (Q0 rfl rfl)<|mv (.bool (decide ((a0.length : Int) < 1)))<|?_
 refine split (fun hb => ?_) (fun hb => ?_)
 ·have H12 := Jw hb H; clear H
  refine pa<|pa<|pa<|Jf rfl rfl rfl (Q5 (v := .bool true) rfl rfl)<|Jd<|c_true rfl<|Jc<|Ja<|ag (.bool false)<|Jd<|Jy<|?_
  obtain rfl := Option.some.inj H12
  refine Qw (v := .bool false) rfl rfl (Yz rfl)
 ·have H13 := Jx hb H; clear H
  refine mv (Xt a0)<|Jf rfl rfl rfl (r_lenT Tryz.underlying9 rfl)<|Jf rfl rfl rfl (Jaz rfl rfl)<|Jf rfl rfl rfl (Qr (v := .bool (decide (60 < (a0.length : Int)))) rfl rfl)<|Jd<|?_
  refine Qm (b := (decide (60 < (a0.length : Int)))) rfl (fun hb => ?_) (fun hb => ?_)
  ·have H14 := Jw hb H13; clear H13
   refine Jc<|Ja<|ag (.bool false)<|Jd<|Jy<|?_
   obtain rfl := Option.some.inj H14
   refine Qw (v := .bool false) rfl rfl (Yz rfl)
  ·have H15 := Jx hb H13; clear H13
   refine Jv<|Jc<|Jc<|Ja<|mv (Xt a0)<|Jf rfl rfl rfl (r_lenT Tryz.underlying9 rfl)<|mv (i6 0)<|Jd<|Ju<|?_
   refine X6 (σ := Int) (τ := Unit) (fun next1 s => Jc2 a0 next1 s) (fun s t => [(0, Xt a0), (13, i6 (a0.length : Int)), (14, i6 s)]) (fun s t => []) (fun s t => True) 0 () [] H15 (by exact trivial) (by exact ⟨rfl, rfl, rfl, trivial⟩) (by decide) rfl ?_
   rintro x14_2 _ m1 gg H16 _
   clear H15
   try dsimp only at H16
   generalize hn1 : it (fun next1 s => Jc2 a0 next1 s) m1 = next1 at H16
   try dsimp only
   refine Jc<|Ja<|Jf rfl rfl rfl (Q0 rfl rfl)<|Jd<|Jc<|?_
   refine Qm (b := (decide (x14_2 < (a0.length : Int)))) rfl (fun hb => ?_) (fun hb => ?_)
   ·have H17 := Jw hb H16; clear H16
    refine Jv<|Jc<|Ju<|Jc<|Ja<|mv (i6 x14_2)<|ag (i6 x14_2)<|Jd<|Jc<|Ja<|mv (Xt a0)<|mv (i6 x14_2)<|?_
    obtain ⟨t19, h_t19, H18⟩ := Je H17; clear H17
    refine Jf rfl rfl rfl (r_octG Tryz.underlying9 rfl rfl h_t19)<|Jf rfl rfl rfl (Q0 rfl rfl)<|Jd<|?_
    refine Qm (b := (decide (t19 < 32))) rfl (fun hb => ?_) (fun hb => ?_)
    ·have H19 := Jw hb H18; clear H18
     refine Jc<|Ja<|ag (.bool false)<|Jd<|Jy<|?_
     obtain rfl := Option.some.inj H19
     refine Qw (v := .bool false) rfl rfl (Yz rfl)
    ·have H20 := Jx hb H18; clear H18
     refine Jv<|Ja<|?_
     obtain ⟨t21, h_t21, H21⟩ := Je H20; clear H20
     refine Jf rfl rfl rfl (Qp rfl rfl h_t21)<|mv (i6 t21)<|Jd<|?_
     refine Js t21 () m1 [] (by exact ⟨rfl, rfl, rfl, trivial⟩) (by decide) rfl (by exact ⟨(by subst hn1; exact H21), trivial⟩) (Nat.lt_succ_self _)
   ·have H22 := Jx hb H16; clear H16
    refine Q3<|Jc<|Ja<|ag (.bool true)<|Jd<|Jy<|?_
    obtain rfl := Option.some.inj H22
    refine Qw (v := .bool true) rfl rfl (Yz rfl)
theorem k100 {q0 : Int} {c0 : Nat} {a0 : T_face_Likeness} {r : Bool} {w : World} {h : Qg} (hw : Know h w Yl) (hc0 : h c0 = some (.cells (List.toArray [i6 q0]) 3 (0, 0))) (H : R_LikeAt_1 q0 a0 = some r) : Does Tryz.prog 100 (List.toArray [.agg #[i6 a0.Id, i6 a0.Photo, i6 (a0.Vec 0), i6 (a0.Vec 1), i6 (a0.Vec 2), i6 (a0.Vec 3), i6 (a0.Vec 4), i6 (a0.Vec 5), i6 (a0.Vec 6), i6 (a0.Vec 7), i6 (a0.Vec 8), i6 (a0.Vec 9), i6 (a0.Vec 10), i6 (a0.Vec 11)], .pointer (some ⟨c0, 0, none⟩)]) w (fun v w' => v = (.bool r) ∧ Grow w w') := by
 refine enter (n := 8) Tryz.func100 rfl rfl rfl Yl [] (Sat.nil _ _)<|Jc<|Ja<|?_
 refine Wp (cs := [i6 a0.Id, i6 a0.Photo, i6 (a0.Vec 0), i6 (a0.Vec 1), i6 (a0.Vec 2), i6 (a0.Vec 3), i6 (a0.Vec 4), i6 (a0.Vec 5), i6 (a0.Vec 6), i6 (a0.Vec 7), i6 (a0.Vec 8), i6 (a0.Vec 9), i6 (a0.Vec 10), i6 (a0.Vec 11)]) rfl rfl rfl rfl (fun b1 => ?_)
 refine ag (.bool false)<|Jd<|Jc<|Ja<|Jf rfl rfl rfl (J7 Tryz.runUnderlying52 rfl Tryz.sizeOf3 rfl rfl)<|Qq (i := 0) (v := i6 a0.Id) Tryz.isAgg3 rfl rfl rfl rfl rfl<|J9 (fun w hF hS => Vg (v := i6 q0) Tryz.isAgg3 rfl (hw.now hF _ _ hc0) rfl) rfl rfl rfl<|Jf rfl rfl rfl (Uv rfl rfl)<|ag (.bool (decide (a0.Id = q0)))<|Jd<|Jy<|?_
 obtain rfl := Option.some.inj H
 refine Qw (v := .bool (decide (a0.Id = q0))) rfl rfl (Yz rfl)
theorem k52 {a0 : (List T_face_Likeness)} {v0 : Value} {a1 : Int} {r : Int} {w : World} {h : Qg} (hw : Know h w Yl) (f0 : FrS h 14 v0 (a0.map Jq)) (H : Qb a0 a1 = some r) : Does Tryz.prog 52 (List.toArray [v0, i6 a1]) w (fun v w' => v = (i6 r) ∧ Grow w w') := by
 refine enter (n := 8) Tryz.func52 rfl rfl rfl Yl [] (Sat.nil _ _)<|Jc<|Ja<|?_
 refine Wp (cs := [i6 a1]) rfl rfl rfl rfl (fun b1 => ?_)
 refine ag (i6 0)<|Jd<|Jc<|Ja<|mv v0<|Jf rfl rfl rfl (Jak (caps := #[.pointer (some ⟨b1, 0, none⟩)]) rfl)<|?_
 obtain ⟨t7, h_t7, H2⟩ := Je H; clear H
 refine Qf (fun w hF hS => k99 (Jp w) (f0.mono (hw.now hF)) (FnH.mk ⟨100, #[], #[.pointer (some ⟨b1, 0, none⟩)], rfl, Tryz.call100, fun args2 post2 w2 hk2 hR2 => by obtain ⟨a0_, r_, rfl, H_, rfl⟩ := hR2; exact k100 (Jp w2) (hk2.up _ _ (Zr (i := 0) hS rfl)) H_⟩) h_t7) Tryz.call99 rfl rfl rfl<|ag (i6 t7)<|Jd<|Jy<|?_
 obtain rfl := Option.some.inj H2
 refine Qw (v := i6 t7) rfl rfl (Yz rfl)
theorem k14 {a0 : (List T_face_Likeness)} {v0 : Value} {a1 : (List T_face_Person)} {v1 : Value} {r : Int} {w : World} {h : Qg} (hw : Know h w Yl) (f0 : FrS h 14 v0 (a0.map Jq)) (f1 : FrN h 4 v1 g_face_Person a1) (H : Jc7 a0 a1 = some r) : Does Tryz.prog 14 (List.toArray [v0, v1]) w (fun v w' => v = (i6 r) ∧ Grow w w') := by
 refine enter (n := 128) Tryz.func14 rfl rfl rfl Yl [] (Sat.nil _ _)<|Jc<|Ja<|ag (i6 0)<|Jd<|Jc<|Jc<|Ja<|mv v1<|Jf rfl rfl rfl (Uh Tryz.underlying23 rfl f1)<|Jf rfl rfl rfl (Jaz rfl rfl)<|Jd<|?_
 refine Qm (b := (decide (100 < (a1.length : Int)))) rfl (fun hb => ?_) (fun hb => ?_)
 ·have H67 := Jw hb H; clear H
  refine Jc<|Ja<|ag (i6 4)<|Jd<|Jy<|?_
  obtain rfl := Option.some.inj H67
  refine Qw (v := i6 4) rfl rfl (Yz rfl)
 ·have H68 := Jx hb H; clear H
  refine Jv<|Jc<|Ja<|?_
  refine Yk (rds := []) (makes_map (fk := (fun x_ : Int => i6 x_)) (fv := (fun x_ : Bool => .bool x_))) rfl rfl rfl (fun b4 => ?_)
  refine ag (.map (some b4))<|Jd<|Jc<|Jc<|Ja<|mv v1<|Jf rfl rfl rfl (Uh Tryz.underlying23 rfl f1)<|mv (i6 0)<|Jd<|Ju<|?_
  refine X6 (σ := Int × (List (Int × Bool))) (τ := Unit) (fun next1 s => Ya a0 a1 next1 s.1 s.2) (fun s t => [(0, v0), (1, v1), (5, .map (some b4)), (22, v1), (23, i6 (a1.length : Int)), (24, i6 s.1)]) (fun s t => [mapC (fun x_ : Int => i6 x_) (fun x_ : Bool => .bool x_) b4 s.2]) (fun s t => True) (0, ([] : (List (Int × Bool)))) () [0] H68 (by exact trivial) (by exact ⟨rfl, rfl, rfl, rfl, rfl, rfl, trivial⟩) (by decide) rfl ?_
  rintro ⟨x24_2, mp_2⟩ _ m1 gg H69 _
  clear H68
  try dsimp only at H69
  generalize hn1 : it (fun next1 s => Ya a0 a1 next1 s.1 s.2) m1 = next1 at H69
  try dsimp only
  refine Jc<|Ja<|Jf rfl rfl rfl (Q0 rfl rfl)<|Jd<|Jc<|?_
  refine Qm (b := (decide (x24_2 < (a1.length : Int)))) rfl (fun hb => ?_) (fun hb => ?_)
  ·have H70 := Jw hb H69; clear H69
   refine Jv ?_
   refine Xf (r := r) (σ := (List (Int × Bool))) (τ := Unit) (fun s => U2 x24_2 next1 s) (fun s t => [(0, v0), (1, v1), (5, .map (some b4)), (22, v1), (23, i6 (a1.length : Int)), (24, i6 x24_2)]) (fun s t => [mapC (fun x_ : Int => i6 x_) (fun x_ : Bool => .bool x_) b4 s]) (fun s t => True) ?_ ?_
   ·refine Ju<|Jc<|Ja<|mv (i6 x24_2)<|?_
    obtain ⟨t27, h_t27, H73⟩ := Je H70; clear H70
    refine Jf rfl rfl rfl (Qe Tryz.underlying23 Tryz.sizeOf32 rfl rfl f1.frs (f1.ix h_t27))<|J9 (fun w hF hS => Qj (f := (elC h v1 4)) (i := x24_2) (sz := 4) (j := 0) (vs := [i6 t27.Id, Xt t27.Name, (Qu h v1 4 (Int.toNat x24_2) 2), (Qu h v1 4 (Int.toNat x24_2) 3)]) Tryz.isAgg32 Tryz.sizeOf32 rfl rfl (f1.frs.row (hw.now hF)) (f1.ix h_t27) (rd_of (J1 (f1.at h_t27)) rfl)) rfl rfl rfl<|?_
    refine Wh (cs := [i6 0, Xt [], .slice none 0 0, .slice none 0 0]) Tryz.zeroValue32 rfl rfl rfl (fun b5 => ?_)
    refine ag (i6 x24_2)<|Y8 (i := 1) (vs := [i6 t27.Id, Xt t27.Name, (Qu h v1 4 (Int.toNat x24_2) 2), (Qu h v1 4 (Int.toNat x24_2) 3)]) (cs' := [i6 t27.Id, Xt t27.Name, (Qu h v1 4 (Int.toNat x24_2) 2), (Qu h v1 4 (Int.toNat x24_2) 3)]) Tryz.sizeOf32 rfl rfl rfl rfl rfl rfl (by simp only [List.all_cons, List.all_nil, (show FrS h 1 (Qu h v1 4 (Int.toNat x24_2) 2) (t27.Likes.map Jl) from (Jm (f1.at h_t27))).one, (show FrS h 1 (Qu h v1 4 (Int.toNat x24_2) 3) (t27.Nots.map Jl) from (Jt (f1.at h_t27))).one] <;> rfl) rfl rfl<|Jd<|?_
    refine Xf (r := r) (σ := Unit) (τ := Unit) (fun s => Wx a0 x24_2 mp_2 next1 t27) (fun s t => [(0, v0), (1, v1), (5, .map (some b4)), (7, .pointer (some ⟨b5, 0, none⟩)), (22, v1), (23, i6 (a1.length : Int)), (24, i6 x24_2)]) (fun s t => [mapC (fun x_ : Int => i6 x_) (fun x_ : Bool => .bool x_) b4 mp_2, Q1 b5 [i6 t27.Id, Xt t27.Name, (Qu h v1 4 (Int.toNat x24_2) 2), (Qu h v1 4 (Int.toNat x24_2) 3)] 32]) (fun s t => True) ?_ ?_
    ·refine Ju<|Jc<|Ja<|Jf rfl rfl rfl (J7 Tryz.runUnderlying32 rfl Tryz.sizeOf3 rfl rfl)<|Qq (i := 1) (v := i6 t27.Id) Tryz.isAgg3 rfl rfl rfl rfl rfl<|?_
     obtain ⟨t32, h_t32, H117⟩ := Je H73; clear H73
     refine Vu (k49 h_t32) Tryz.call49 rfl rfl rfl<|Jf rfl rfl rfl (Ub rfl)<|ag (.bool (!t32))<|Jd<|?_
     refine Qm (b := (!t32)) rfl (fun hb => ?_) (fun hb => ?_)
     ·have H118 := Jw hb H117; clear H117
      refine Jc<|Ja<|ag (i6 2)<|Jd<|Jy<|?_
      obtain rfl := Option.some.inj H118
      refine Qw (v := i6 2) rfl rfl (Yz rfl)
     ·have H119 := Jx hb H117; clear H117
      refine Jc ?_
      exact Qz (Kd.p :: Kd.p :: Kd.p :: Kd.p :: Kd.d [1] _ :: Kd.p :: Kd.p :: Kd.p :: Kd.p :: Kd.p :: Kd.d [] _ :: Kd.p :: Kd.p :: Kd.p :: []) 0 mixed (by
       refine dm (i6 x24_2)<|Qa rfl rfl (Jaz rfl rfl)<|dm (.bool (decide (0 < x24_2)))<|?_
       refine splitS (fun hb => ?_) (fun hb => ?_)
       ·have H120 := Jw hb H119
        refine Qa rfl rfl (J7 Tryz.runUnderlying32 rfl Tryz.sizeOf3 rfl rfl)<|Z5 (i := 1) (v := i6 t27.Id) Tryz.isAgg3 rfl rfl rfl rfl<|dm v1<|dm (i6 x24_2)<|?_
        have h_t42 := Jr H120
        have H121 := Jn H120
        refine Qa rfl rfl (Zl rfl rfl h_t42) ?_
        have h_t43 := Jr H121
        have H122 := Jn H121
        refine Qa rfl rfl (Qe Tryz.underlying23 Tryz.sizeOf32 rfl rfl f1.frs (f1.ix h_t43))<|Qa rfl rfl (Xv Tryz.runUnderlying32 rfl Tryz.sizeOf3 rfl rfl (Ym f1.frs (f1.ix h_t43)))<|Wb (fun w hF => J2 (f := (elC h v1 4)) (i := (val (gI (x24_2 - 1)))) (sz := 4) (j := 0) (v := i6 (val (Jk a1 (val (gI (x24_2 - 1))))).Id) Tryz.isAgg3 rfl rfl (f1.frs.row (hw.now hF)) (f1.ix h_t43) (V4 (J1 (f1.at h_t43)) rfl)) rfl rfl<|Qa rfl rfl (r_leq rfl rfl)<|Qa rfl rfl (Q5 (v := .bool (decide (t27.Id ≤ (val (Jk a1 (val (gI (x24_2 - 1))))).Id))) rfl rfl)<|Qa rfl rfl (Uj (v := .bool (decide (t27.Id ≤ (val (Jk a1 (val (gI (x24_2 - 1))))).Id))) rfl)<|Y3<|?_
        refine Qm (b := (decide (t27.Id ≤ (val (Jk a1 (val (gI (x24_2 - 1))))).Id))) rfl (fun hb => ?_) (fun hb => ?_)
        ·have H123 := Jw hb H122; clear H122
         refine Jc<|Ja<|ag (i6 5)<|Jd<|Jy<|?_
         obtain rfl := Option.some.inj H123
         refine Qw (v := i6 5) rfl rfl (Yz rfl)
        ·have H124 := Jx hb H122; clear H122
         refine Jc<|Ja<|Jf rfl rfl rfl (J7 Tryz.runUnderlying32 rfl Tryz.sizeOf9 rfl rfl)<|Qq (i := 1) (v := Xt t27.Name) Tryz.isAgg9 rfl rfl rfl rfl rfl<|?_
         obtain ⟨t51, h_t51, H125⟩ := Je H124; clear H124
         refine Vu (k51 h_t51) Tryz.call51 rfl rfl rfl<|Jf rfl rfl rfl (Ub rfl)<|ag (.bool (!t51))<|Jd<|?_
         refine Qm (b := (!t51)) rfl (fun hb => ?_) (fun hb => ?_)
         ·have H126 := Jw hb H125; clear H125
          refine Jc<|Ja<|ag (i6 3)<|Jd<|Jy<|?_
          obtain rfl := Option.some.inj H126
          refine Qw (v := i6 3) rfl rfl (Yz rfl)
         ·have H127 := Jx hb H125; clear H125
          refine Jv ?_
          refine Js () () 0 [0, 1] (by exact ⟨rfl, rfl, rfl, rfl, rfl, rfl, rfl, trivial⟩) (by decide) rfl (by exact ⟨H127, trivial⟩) (Nat.lt_succ_self _)
       ·have H128 := Jx hb H119
        refine dp<|dp<|dp<|dp<|dp<|dp<|dp<|dp<|dp<|Qa rfl rfl (Qr (v := .bool false) rfl rfl)<|Qa rfl rfl (Uj (v := .bool false) rfl)<|Y3<|Wq rfl<|Jc<|Ja<|Jf rfl rfl rfl (J7 Tryz.runUnderlying32 rfl Tryz.sizeOf9 rfl rfl)<|Qq (i := 1) (v := Xt t27.Name) Tryz.isAgg9 rfl rfl rfl rfl rfl<|?_
        obtain ⟨t51_2, h_t51_2, H129⟩ := Je H128; clear H128
        refine Vu (k51 h_t51_2) Tryz.call51 rfl rfl rfl<|Jf rfl rfl rfl (Ub rfl)<|ag (.bool (!t51_2))<|Jd<|?_
        refine Qm (b := (!t51_2)) rfl (fun hb => ?_) (fun hb => ?_)
        ·have H130 := Jw hb H129; clear H129
         refine Jc<|Ja<|ag (i6 3)<|Jd<|Jy<|?_
         obtain rfl := Option.some.inj H130
         refine Qw (v := i6 3) rfl rfl (Yz rfl)
        ·have H131 := Jx hb H129; clear H129
         refine Jv ?_
         refine Js () () 0 [0, 1] (by exact ⟨rfl, rfl, rfl, rfl, rfl, rfl, rfl, trivial⟩) (by decide) rfl (by exact ⟨H131, trivial⟩) (Nat.lt_succ_self _)
       ) (by kernel_rfl)
    ·rintro _ _ gg H74 _
     try dsimp only at H74
     try dsimp only
     refine Xf (r := r) (σ := Unit) (τ := Unit) (fun s => Jc4 a0 x24_2 mp_2 next1 t27) (fun s t => [(0, v0), (1, v1), (5, .map (some b4)), (7, .pointer (some ⟨b5, 0, none⟩)), (22, v1), (23, i6 (a1.length : Int)), (24, i6 x24_2)]) (fun s t => [mapC (fun x_ : Int => i6 x_) (fun x_ : Bool => .bool x_) b4 mp_2, Q1 b5 [i6 t27.Id, Xt t27.Name, (Qu h v1 4 (Int.toNat x24_2) 2), (Qu h v1 4 (Int.toNat x24_2) 3)] 32]) (fun s t => True) ?_ ?_
     ·refine Jc<|Ja<|Jf rfl rfl rfl (J7 Tryz.runUnderlying32 rfl Tryz.sizeOf24 rfl rfl)<|Qq (i := 1) (v := (Qu h v1 4 (Int.toNat x24_2) 2)) Tryz.isAgg24 rfl rfl rfl rfl rfl<|Jf rfl rfl rfl (J7 Tryz.runUnderlying32 rfl Tryz.sizeOf24 rfl rfl)<|Qq (i := 1) (v := (Qu h v1 4 (Int.toNat x24_2) 3)) Tryz.isAgg24 rfl rfl rfl rfl rfl<|?_
      refine Z0 (vs := [(Qu h v1 4 (Int.toNat x24_2) 2), (Qu h v1 4 (Int.toNat x24_2) 3)]) (cs := [(Qu h v1 4 (Int.toNat x24_2) 2), (Qu h v1 4 (Int.toNat x24_2) 3)]) Tryz.underlying81 Tryz.sizeOf24 Tryz.zeroValue24 rfl rfl rfl rfl (by simp only [List.all_cons, List.all_nil, cells_sz (show FrS h 1 (Qu h v1 4 (Int.toNat x24_2) 2) (t27.Likes.map Jl) from (Jm (f1.at h_t27))).cells, cells_sz (show FrS h 1 (Qu h v1 4 (Int.toNat x24_2) 3) (t27.Nots.map Jl) from (Jt (f1.at h_t27))).cells] <;> rfl) rfl (by simp only [List.flatMap_cons, List.flatMap_nil, (show FrS h 1 (Qu h v1 4 (Int.toNat x24_2) 2) (t27.Likes.map Jl) from (Jm (f1.at h_t27))).cells, (show FrS h 1 (Qu h v1 4 (Int.toNat x24_2) 3) (t27.Nots.map Jl) from (Jt (f1.at h_t27))).cells] <;> rfl) (fun b7 => ?_)
      refine Jf rfl rfl rfl (Jaw Tryz.underlying81 rfl)<|mv (i6 0)<|Jd<|Ju<|?_
      refine X6 (σ := Int) (τ := Unit) (fun next8 s => Vk a0 x24_2 mp_2 next1 t27 next8 s) (fun s t => [(0, v0), (1, v1), (5, .map (some b4)), (7, .pointer (some ⟨b5, 0, none⟩)), (22, v1), (23, i6 (a1.length : Int)), (24, i6 x24_2), (57, .slice (some ⟨b7, 0, none⟩) 2 2), (58, i6 2), (59, i6 s)]) (fun s t => [mapC (fun x_ : Int => i6 x_) (fun x_ : Bool => .bool x_) b4 mp_2, Q1 b5 [i6 t27.Id, Xt t27.Name, (Qu h v1 4 (Int.toNat x24_2) 2), (Qu h v1 4 (Int.toNat x24_2) 3)] 32, Q1 b7 [(Qu h v1 4 (Int.toNat x24_2) 2), (Qu h v1 4 (Int.toNat x24_2) 3)] 24]) (fun s t => True) 0 () [0, 1, 2] H74 (by exact trivial) (by exact ⟨rfl, rfl, rfl, rfl, rfl, rfl, rfl, rfl, rfl, rfl, trivial⟩) (by decide) rfl ?_
      rintro x59_2 _ m8 gg H96 _
      clear H74
      try dsimp only at H96
      generalize hn8 : it (fun next8 s => Vk a0 x24_2 mp_2 next1 t27 next8 s) m8 = next8 at H96
      try dsimp only
      refine Jc<|Ja<|Jf rfl rfl rfl (Q0 rfl rfl)<|Jd<|Jc<|?_
      refine Qm (b := (decide (x59_2 < 2))) rfl (fun hb => ?_) (fun hb => ?_)
      ·have H97 := Jw hb H96; clear H96
       refine Jv ?_
       refine Xf (r := r) (σ := Unit) (τ := Unit) (fun s => U4 x59_2 next8) (fun s t => [(0, v0), (1, v1), (5, .map (some b4)), (7, .pointer (some ⟨b5, 0, none⟩)), (22, v1), (23, i6 (a1.length : Int)), (24, i6 x24_2), (57, .slice (some ⟨b7, 0, none⟩) 2 2), (58, i6 2), (59, i6 x59_2)]) (fun s t => [mapC (fun x_ : Int => i6 x_) (fun x_ : Bool => .bool x_) b4 mp_2, Q1 b5 [i6 t27.Id, Xt t27.Name, (Qu h v1 4 (Int.toNat x24_2) 2), (Qu h v1 4 (Int.toNat x24_2) 3)] 32, Q1 b7 [(Qu h v1 4 (Int.toNat x24_2) 2), (Qu h v1 4 (Int.toNat x24_2) 3)] 24]) (fun s t => True) ?_ ?_
       ·refine Ju<|Jc<|Ja<|?_
        obtain ⟨t61, h_t61, H100⟩ := Je H97; clear H97
        refine Jf rfl rfl rfl (r_indexS Tryz.underlying81 Tryz.sizeOf24 rfl rfl h_t61 rfl)<|J9 (fun w hF hS => J2 (f := (litC [(Qu h v1 4 (Int.toNat x24_2) 2), (Qu h v1 4 (Int.toNat x24_2) 3)] 1)) (i := x59_2) (sz := 1) (j := 0) (v := (List.getD (List.take 1 (List.drop ((Int.toNat x59_2) * 1) [(Qu h v1 4 (Int.toNat x24_2) 2), (Qu h v1 4 (Int.toNat x24_2) 3)])) 0 undef)) Tryz.isAgg24 rfl rfl (row_box (sz := 1) (xs := (List.range 2).map (litC [(Qu h v1 4 (Int.toNat x24_2) 2), (Qu h v1 4 (Int.toNat x24_2) 3)] 1)) (i := 2) hS rfl rfl rfl) (gAt_range h_t61) (V4 (cgs_int (AllG.el (G := gs_int) (h := h) (sz := 1) (cs := [(Qu h v1 4 (Int.toNat x24_2) 2), (Qu h v1 4 (Int.toNat x24_2) 3)]) (xs := ([t27.Likes, t27.Nots] : List (List Int))) ⟨(show FrS h 1 (Qu h v1 4 (Int.toNat x24_2) 2) (t27.Likes.map Jl) from (Jm (f1.at h_t27))), (show FrS h 1 (Qu h v1 4 (Int.toNat x24_2) 3) (t27.Nots.map Jl) from (Jt (f1.at h_t27))), rfl⟩ _ _ (Ye h_t61).2.2)) rfl)) rfl rfl rfl<|ag ((List.getD (List.take 1 (List.drop ((Int.toNat x59_2) * 1) [(Qu h v1 4 (Int.toNat x24_2) 2), (Qu h v1 4 (Int.toNat x24_2) 3)])) 0 undef))<|Jd<|Jc<|Ja<|mv ((List.getD (List.take 1 (List.drop ((Int.toNat x59_2) * 1) [(Qu h v1 4 (Int.toNat x24_2) 2), (Qu h v1 4 (Int.toNat x24_2) 3)])) 0 undef))<|Jf rfl rfl rfl (Y0 Tryz.underlying24 rfl (show FrS h 1 (List.getD (List.take 1 (List.drop ((Int.toNat x59_2) * 1) [(Qu h v1 4 (Int.toNat x24_2) 2), (Qu h v1 4 (Int.toNat x24_2) 3)])) 0 undef) (t61.map Jl) from (AllG.el (G := gs_int) (h := h) (sz := 1) (cs := [(Qu h v1 4 (Int.toNat x24_2) 2), (Qu h v1 4 (Int.toNat x24_2) 3)]) (xs := ([t27.Likes, t27.Nots] : List (List Int))) ⟨(show FrS h 1 (Qu h v1 4 (Int.toNat x24_2) 2) (t27.Likes.map Jl) from (Jm (f1.at h_t27))), (show FrS h 1 (Qu h v1 4 (Int.toNat x24_2) 3) (t27.Nots.map Jl) from (Jt (f1.at h_t27))), rfl⟩ _ _ (Ye h_t61).2.2)) rfl)<|mv (i6 0)<|Jd<|Ju<|?_
        refine X6 (σ := Int) (τ := Unit) (fun next10 s => Wc a0 x59_2 next8 t61 next10 s) (fun s t => [(0, v0), (1, v1), (5, .map (some b4)), (7, .pointer (some ⟨b5, 0, none⟩)), (9, (List.getD (List.take 1 (List.drop ((Int.toNat x59_2) * 1) [(Qu h v1 4 (Int.toNat x24_2) 2), (Qu h v1 4 (Int.toNat x24_2) 3)])) 0 undef)), (22, v1), (23, i6 (a1.length : Int)), (24, i6 x24_2), (57, .slice (some ⟨b7, 0, none⟩) 2 2), (58, i6 2), (59, i6 x59_2), (63, (List.getD (List.take 1 (List.drop ((Int.toNat x59_2) * 1) [(Qu h v1 4 (Int.toNat x24_2) 2), (Qu h v1 4 (Int.toNat x24_2) 3)])) 0 undef)), (64, i6 (t61.length : Int)), (65, i6 s)]) (fun s t => [mapC (fun x_ : Int => i6 x_) (fun x_ : Bool => .bool x_) b4 mp_2, Q1 b5 [i6 t27.Id, Xt t27.Name, (Qu h v1 4 (Int.toNat x24_2) 2), (Qu h v1 4 (Int.toNat x24_2) 3)] 32, Q1 b7 [(Qu h v1 4 (Int.toNat x24_2) 2), (Qu h v1 4 (Int.toNat x24_2) 3)] 24]) (fun s t => True) 0 () [0, 1, 2] H100 (by exact trivial) (by exact ⟨rfl, rfl, rfl, rfl, rfl, rfl, rfl, rfl, rfl, rfl, rfl, rfl, rfl, rfl, trivial⟩) (by decide) rfl ?_
        rintro x65_2 _ m10 gg H101 _
        clear H100
        try dsimp only at H101
        generalize hn10 : it (fun next10 s => Wc a0 x59_2 next8 t61 next10 s) m10 = next10 at H101
        try dsimp only
        refine Jc<|Ja<|Jf rfl rfl rfl (Q0 rfl rfl)<|Jd<|Jc<|?_
        refine Qm (b := (decide (x65_2 < (t61.length : Int)))) rfl (fun hb => ?_) (fun hb => ?_)
        ·have H102 := Jw hb H101; clear H101
         refine Jv ?_
         refine Xf (r := r) (σ := Unit) (τ := Unit) (fun s => Jax x65_2 next10) (fun s t => [(0, v0), (1, v1), (5, .map (some b4)), (7, .pointer (some ⟨b5, 0, none⟩)), (9, (List.getD (List.take 1 (List.drop ((Int.toNat x59_2) * 1) [(Qu h v1 4 (Int.toNat x24_2) 2), (Qu h v1 4 (Int.toNat x24_2) 3)])) 0 undef)), (22, v1), (23, i6 (a1.length : Int)), (24, i6 x24_2), (57, .slice (some ⟨b7, 0, none⟩) 2 2), (58, i6 2), (59, i6 x59_2), (63, (List.getD (List.take 1 (List.drop ((Int.toNat x59_2) * 1) [(Qu h v1 4 (Int.toNat x24_2) 2), (Qu h v1 4 (Int.toNat x24_2) 3)])) 0 undef)), (64, i6 (t61.length : Int)), (65, i6 x65_2)]) (fun s t => [mapC (fun x_ : Int => i6 x_) (fun x_ : Bool => .bool x_) b4 mp_2, Q1 b5 [i6 t27.Id, Xt t27.Name, (Qu h v1 4 (Int.toNat x24_2) 2), (Qu h v1 4 (Int.toNat x24_2) 3)] 32, Q1 b7 [(Qu h v1 4 (Int.toNat x24_2) 2), (Qu h v1 4 (Int.toNat x24_2) 3)] 24]) (fun s t => True) ?_ ?_
         ·refine Ju<|Jc<|Ja<|mv (i6 x65_2)<|?_
          obtain ⟨t68, h_t68, H105⟩ := Je H102; clear H102
          refine Jf rfl rfl rfl (Qe Tryz.underlying24 Tryz.sizeOf3 rfl rfl (show FrS h 1 (List.getD (List.take 1 (List.drop ((Int.toNat x59_2) * 1) [(Qu h v1 4 (Int.toNat x24_2) 2), (Qu h v1 4 (Int.toNat x24_2) 3)])) 0 undef) (t61.map Jl) from (AllG.el (G := gs_int) (h := h) (sz := 1) (cs := [(Qu h v1 4 (Int.toNat x24_2) 2), (Qu h v1 4 (Int.toNat x24_2) 3)]) (xs := ([t27.Likes, t27.Nots] : List (List Int))) ⟨(show FrS h 1 (Qu h v1 4 (Int.toNat x24_2) 2) (t27.Likes.map Jl) from (Jm (f1.at h_t27))), (show FrS h 1 (Qu h v1 4 (Int.toNat x24_2) 3) (t27.Nots.map Jl) from (Jt (f1.at h_t27))), rfl⟩ _ _ (Ye h_t61).2.2)) h_t68)<|J9 (fun w hF hS => J2 (f := Jl) (i := x65_2) (sz := 1) (j := 0) (v := i6 t68) Tryz.isAgg3 rfl rfl ((show FrS h 1 (List.getD (List.take 1 (List.drop ((Int.toNat x59_2) * 1) [(Qu h v1 4 (Int.toNat x24_2) 2), (Qu h v1 4 (Int.toNat x24_2) 3)])) 0 undef) (t61.map Jl) from (AllG.el (G := gs_int) (h := h) (sz := 1) (cs := [(Qu h v1 4 (Int.toNat x24_2) 2), (Qu h v1 4 (Int.toNat x24_2) 3)]) (xs := ([t27.Likes, t27.Nots] : List (List Int))) ⟨(show FrS h 1 (Qu h v1 4 (Int.toNat x24_2) 2) (t27.Likes.map Jl) from (Jm (f1.at h_t27))), (show FrS h 1 (Qu h v1 4 (Int.toNat x24_2) 3) (t27.Nots.map Jl) from (Jt (f1.at h_t27))), rfl⟩ _ _ (Ye h_t61).2.2)).row (hw.now hF)) h_t68 rfl) rfl rfl rfl<|ag (i6 x65_2)<|ag (i6 t68)<|Jd<|Jc<|Jc<|Ja<|mv v0<|mv (i6 t68)<|?_
          obtain ⟨t72, h_t72, H106⟩ := Je H105; clear H105
          refine Qf (fun w hF hS => k52 (Jp w) (f0.mono (hw.now hF)) h_t72) Tryz.call52 rfl rfl rfl<|Jf rfl rfl rfl (Q0 rfl rfl)<|Jd<|?_
          refine Qm (b := (decide (t72 < 0))) rfl (fun hb => ?_) (fun hb => ?_)
          ·have H107 := Jw hb H106; clear H106
           refine Jc<|Ja<|ag (i6 7)<|Jd<|Jy<|?_
           obtain rfl := Option.some.inj H107
           refine Qw (v := i6 7) rfl rfl (Yz rfl)
          ·have H108 := Jx hb H106; clear H106
           refine Jv<|Jc<|Ja<|mv (i6 x65_2)<|Jf rfl rfl rfl (Jaz rfl rfl)<|mv (.bool (decide (0 < x65_2)))<|?_
           refine split (fun hb => ?_) (fun hb => ?_)
           ·have H109 := Jw hb H108; clear H108
            refine mv (i6 t68)<|mv ((List.getD (List.take 1 (List.drop ((Int.toNat x59_2) * 1) [(Qu h v1 4 (Int.toNat x24_2) 2), (Qu h v1 4 (Int.toNat x24_2) 3)])) 0 undef))<|mv (i6 x65_2)<|?_
            obtain ⟨t80, h_t80, H110⟩ := Je H109; clear H109
            refine Jf rfl rfl rfl (Zl rfl rfl h_t80) ?_
            obtain ⟨t81, h_t81, H111⟩ := Je H110; clear H110
            refine Jf rfl rfl rfl (Qe Tryz.underlying24 Tryz.sizeOf3 rfl rfl (show FrS h 1 (List.getD (List.take 1 (List.drop ((Int.toNat x59_2) * 1) [(Qu h v1 4 (Int.toNat x24_2) 2), (Qu h v1 4 (Int.toNat x24_2) 3)])) 0 undef) (t61.map Jl) from (AllG.el (G := gs_int) (h := h) (sz := 1) (cs := [(Qu h v1 4 (Int.toNat x24_2) 2), (Qu h v1 4 (Int.toNat x24_2) 3)]) (xs := ([t27.Likes, t27.Nots] : List (List Int))) ⟨(show FrS h 1 (Qu h v1 4 (Int.toNat x24_2) 2) (t27.Likes.map Jl) from (Jm (f1.at h_t27))), (show FrS h 1 (Qu h v1 4 (Int.toNat x24_2) 3) (t27.Nots.map Jl) from (Jt (f1.at h_t27))), rfl⟩ _ _ (Ye h_t61).2.2)) h_t81)<|J9 (fun w hF hS => J2 (f := Jl) (i := t80) (sz := 1) (j := 0) (v := i6 t81) Tryz.isAgg3 rfl rfl ((show FrS h 1 (List.getD (List.take 1 (List.drop ((Int.toNat x59_2) * 1) [(Qu h v1 4 (Int.toNat x24_2) 2), (Qu h v1 4 (Int.toNat x24_2) 3)])) 0 undef) (t61.map Jl) from (AllG.el (G := gs_int) (h := h) (sz := 1) (cs := [(Qu h v1 4 (Int.toNat x24_2) 2), (Qu h v1 4 (Int.toNat x24_2) 3)]) (xs := ([t27.Likes, t27.Nots] : List (List Int))) ⟨(show FrS h 1 (Qu h v1 4 (Int.toNat x24_2) 2) (t27.Likes.map Jl) from (Jm (f1.at h_t27))), (show FrS h 1 (Qu h v1 4 (Int.toNat x24_2) 3) (t27.Nots.map Jl) from (Jt (f1.at h_t27))), rfl⟩ _ _ (Ye h_t61).2.2)).row (hw.now hF)) h_t81 rfl) rfl rfl rfl<|Jf rfl rfl rfl (r_leq rfl rfl)<|Jf rfl rfl rfl (Q5 (v := .bool (decide (t68 ≤ t81))) rfl rfl)<|Jd<|?_
            refine Qm (b := (decide (t68 ≤ t81))) rfl (fun hb => ?_) (fun hb => ?_)
            ·have H112 := Jw hb H111; clear H111
             refine Jc<|Ja<|ag (i6 5)<|Jd<|Jy<|?_
             obtain rfl := Option.some.inj H112
             refine Qw (v := i6 5) rfl rfl (Yz rfl)
            ·have H113 := Jx hb H111; clear H111
             refine Jv ?_
             refine Js () () 0 [0, 1, 2] (by exact ⟨rfl, rfl, rfl, rfl, rfl, rfl, rfl, rfl, rfl, rfl, rfl, rfl, rfl, rfl, trivial⟩) (by decide) rfl (by exact ⟨H113, trivial⟩) (Nat.lt_succ_self _)
           ·have H114 := Jx hb H108; clear H108
            refine pa<|pa<|pa<|pa<|pa<|pa<|pa<|Jf rfl rfl rfl (Qr (v := .bool false) rfl rfl)<|Jd<|Wq rfl<|Jv<|?_
            refine Js () () 0 [0, 1, 2] (by exact ⟨rfl, rfl, rfl, rfl, rfl, rfl, rfl, rfl, rfl, rfl, rfl, rfl, rfl, rfl, trivial⟩) (by decide) rfl (by exact ⟨H114, trivial⟩) (Nat.lt_succ_self _)
         ·rintro _ _ gg H103 _
          try dsimp only at H103
          try dsimp only
          refine Ja ?_
          obtain ⟨t85, h_t85, H104⟩ := Je H103; clear H103
          refine Jf rfl rfl rfl (Qp rfl rfl h_t85)<|mv (i6 t85)<|Jd<|?_
          refine Js t85 () m10 [0, 1, 2] (by exact ⟨rfl, rfl, rfl, rfl, rfl, rfl, rfl, rfl, rfl, rfl, rfl, rfl, rfl, rfl, trivial⟩) (by decide) rfl (by exact ⟨(by subst hn10; exact H104), trivial⟩) (Nat.lt_succ_self _)
        ·have H115 := Jx hb H101; clear H101
         refine Q3 ?_
         refine Js () () 0 [0, 1, 2] (by exact ⟨rfl, rfl, rfl, rfl, rfl, rfl, rfl, rfl, rfl, rfl, trivial⟩) (by decide) rfl (by exact ⟨H115, trivial⟩) (Nat.lt_succ_self _)
       ·rintro _ _ gg H98 _
        try dsimp only at H98
        try dsimp only
        refine Ja ?_
        obtain ⟨t86, h_t86, H99⟩ := Je H98; clear H98
        refine Jf rfl rfl rfl (Qp rfl rfl h_t86)<|mv (i6 t86)<|Jd<|?_
        refine Js t86 () m8 [0, 1, 2] (by exact ⟨rfl, rfl, rfl, rfl, rfl, rfl, rfl, rfl, rfl, rfl, trivial⟩) (by decide) rfl (by exact ⟨(by subst hn8; exact H99), trivial⟩) (Nat.lt_succ_self _)
      ·have H116 := Jx hb H96; clear H96
       refine Q3 ?_
       refine Js () () 0 [0, 1] (by exact ⟨rfl, rfl, rfl, rfl, rfl, rfl, rfl, trivial⟩) (by decide) rfl (by exact ⟨H116, trivial⟩) (Nat.lt_succ_self _)
     ·rintro _ _ gg H75 _
      try dsimp only at H75
      try dsimp only
      refine Jc<|Ja<|?_
      refine Yk (rds := []) (makes_map (fk := (fun x_ : Int => i6 x_)) (fv := (fun x_ : Bool => .bool x_))) rfl rfl rfl (fun b6 => ?_)
      refine ag (.map (some b6))<|Jd<|?_
      refine Xf (r := r) (σ := Unit) (τ := Unit) (fun s => Vi a0 x24_2 mp_2 next1 t27) (fun s t => [(0, v0), (1, v1), (5, .map (some b4)), (7, .pointer (some ⟨b5, 0, none⟩)), (12, .map (some b6)), (22, v1), (23, i6 (a1.length : Int)), (24, i6 x24_2)]) (fun s t => [mapC (fun x_ : Int => i6 x_) (fun x_ : Bool => .bool x_) b4 mp_2, Q1 b5 [i6 t27.Id, Xt t27.Name, (Qu h v1 4 (Int.toNat x24_2) 2), (Qu h v1 4 (Int.toNat x24_2) 3)] 32, mapC (fun x_ : Int => i6 x_) (fun x_ : Bool => .bool x_) b6 ([] : (List (Int × Bool)))]) (fun s t => True) ?_ ?_
      ·refine Jc<|Ja<|Jf rfl rfl rfl (J7 Tryz.runUnderlying32 rfl Tryz.sizeOf24 rfl rfl)<|Qq (i := 1) (v := (Qu h v1 4 (Int.toNat x24_2) 2)) Tryz.isAgg24 rfl rfl rfl rfl rfl<|Jf rfl rfl rfl (Y0 Tryz.underlying24 rfl (show FrS h 1 (Qu h v1 4 (Int.toNat x24_2) 2) (t27.Likes.map Jl) from (Jm (f1.at h_t27))) rfl)<|mv (i6 0)<|Jd<|Ju<|?_
       refine X6 (σ := Int) (τ := Unit) (fun next7 s => U9 a0 x24_2 mp_2 next1 t27 next7 s) (fun s t => [(0, v0), (1, v1), (5, .map (some b4)), (7, .pointer (some ⟨b5, 0, none⟩)), (12, .map (some b6)), (22, v1), (23, i6 (a1.length : Int)), (24, i6 x24_2), (89, (Qu h v1 4 (Int.toNat x24_2) 2)), (90, i6 (t27.Likes.length : Int)), (91, i6 s)]) (fun s t => [mapC (fun x_ : Int => i6 x_) (fun x_ : Bool => .bool x_) b4 mp_2, Q1 b5 [i6 t27.Id, Xt t27.Name, (Qu h v1 4 (Int.toNat x24_2) 2), (Qu h v1 4 (Int.toNat x24_2) 3)] 32, mapC (fun x_ : Int => i6 x_) (fun x_ : Bool => .bool x_) b6 ([] : (List (Int × Bool)))]) (fun s t => True) 0 () [0, 1, 2] H75 (by exact trivial) (by exact ⟨rfl, rfl, rfl, rfl, rfl, rfl, rfl, rfl, rfl, rfl, rfl, trivial⟩) (by decide) rfl ?_
       rintro x91_2 _ m7 gg H88 _
       clear H75
       try dsimp only at H88
       generalize hn7 : it (fun next7 s => U9 a0 x24_2 mp_2 next1 t27 next7 s) m7 = next7 at H88
       try dsimp only
       refine Jc<|Ja<|Jf rfl rfl rfl (Q0 rfl rfl)<|Jd<|Jc<|?_
       refine Qm (b := (decide (x91_2 < (t27.Likes.length : Int)))) rfl (fun hb => ?_) (fun hb => ?_)
       ·have H89 := Jw hb H88; clear H88
        refine Jv<|Jc<|Ju<|Jc<|Ja<|?_
        obtain ⟨t93, h_t93, H90⟩ := Je H89; clear H89
        refine Jf rfl rfl rfl (Qe Tryz.underlying24 Tryz.sizeOf3 rfl rfl (show FrS h 1 (Qu h v1 4 (Int.toNat x24_2) 2) (t27.Likes.map Jl) from (Jm (f1.at h_t27))) h_t93)<|J9 (fun w hF hS => J2 (f := Jl) (i := x91_2) (sz := 1) (j := 0) (v := i6 t93) Tryz.isAgg3 rfl rfl ((show FrS h 1 (Qu h v1 4 (Int.toNat x24_2) 2) (t27.Likes.map Jl) from (Jm (f1.at h_t27))).row (hw.now hF)) h_t93 rfl) rfl rfl rfl<|ag (i6 t93)<|Jd<|Jc<|Ja<|Jf rfl rfl rfl (J7 Tryz.runUnderlying32 rfl Tryz.sizeOf24 rfl rfl)<|Qq (i := 1) (v := (Qu h v1 4 (Int.toNat x24_2) 3)) Tryz.isAgg24 rfl rfl rfl rfl rfl<|mv (i6 t93)<|?_
        obtain ⟨t98, h_t98, H91⟩ := Je H90; clear H90
        refine Qf (fun w hF hS => k53 (Jp w) ((show FrS h 1 (Qu h v1 4 (Int.toNat x24_2) 3) (t27.Nots.map Jl) from (Jt (f1.at h_t27))).mono (hw.now hF)) h_t98) Tryz.call53 rfl rfl rfl<|Jd<|?_
        refine Qm (b := t98) rfl (fun hb => ?_) (fun hb => ?_)
        ·have H92 := Jw hb H91; clear H91
         refine Jc<|Ja<|ag (i6 11)<|Jd<|Jy<|?_
         obtain rfl := Option.some.inj H92
         refine Qw (v := i6 11) rfl rfl (Yz rfl)
        ·have H93 := Jx hb H91; clear H91
         refine Jv<|Ja<|?_
         obtain ⟨t99, h_t99, H94⟩ := Je H93; clear H93
         refine Jf rfl rfl rfl (Qp rfl rfl h_t99)<|mv (i6 t99)<|Jd<|?_
         refine Js t99 () m7 [0, 1, 2] (by exact ⟨rfl, rfl, rfl, rfl, rfl, rfl, rfl, rfl, rfl, rfl, rfl, trivial⟩) (by decide) rfl (by exact ⟨(by subst hn7; exact H94), trivial⟩) (Nat.lt_succ_self _)
       ·have H95 := Jx hb H88; clear H88
        refine Q3 ?_
        refine Js () () 0 [0, 1, 2] (by exact ⟨rfl, rfl, rfl, rfl, rfl, rfl, rfl, rfl, trivial⟩) (by decide) rfl (by exact ⟨H95, trivial⟩) (Nat.lt_succ_self _)
      ·rintro _ _ gg H76 _
       try dsimp only at H76
       try dsimp only
       refine Jc<|Ja<|Jf rfl rfl rfl (J7 Tryz.runUnderlying32 rfl Tryz.sizeOf24 rfl rfl)<|Qq (i := 1) (v := (Qu h v1 4 (Int.toNat x24_2) 2)) Tryz.isAgg24 rfl rfl rfl rfl rfl<|Jf rfl rfl rfl (Y0 Tryz.underlying24 rfl (show FrS h 1 (Qu h v1 4 (Int.toNat x24_2) 2) (t27.Likes.map Jl) from (Jm (f1.at h_t27))) rfl)<|mv (i6 0)<|Jd<|Ju<|c_dr 1<|?_
       try dsimp only [z1, z2, z3, z4, z5, z6, z7, z8]
       refine X6 (σ := Int × (List (Int × Bool)) × (List (Int × Bool))) (τ := Unit) (fun next6 s => Vj a0 x24_2 next1 t27 next6 s.1 s.2.1 s.2.2) (fun s t => [(0, v0), (1, v1), (5, .map (some b4)), (12, .map (some b6)), (22, v1), (23, i6 (a1.length : Int)), (24, i6 x24_2), (101, (Qu h v1 4 (Int.toNat x24_2) 2)), (102, i6 (t27.Likes.length : Int)), (103, i6 s.1)]) (fun s t => [mapC (fun x_ : Int => i6 x_) (fun x_ : Bool => .bool x_) b4 s.2.1, mapC (fun x_ : Int => i6 x_) (fun x_ : Bool => .bool x_) b6 s.2.2]) (fun s t => True) (0, mp_2, ([] : (List (Int × Bool)))) () [0, 1] H76 (by exact trivial) (by exact ⟨rfl, rfl, rfl, rfl, rfl, rfl, rfl, rfl, rfl, rfl, trivial⟩) (by decide) rfl ?_
       rintro ⟨x103_2, mp_6, mp_7⟩ _ m6 gg H77 _
       clear H76
       try dsimp only at H77
       generalize hn6 : it (fun next6 s => Vj a0 x24_2 next1 t27 next6 s.1 s.2.1 s.2.2) m6 = next6 at H77
       try dsimp only
       refine Jc<|Ja<|Jf rfl rfl rfl (Q0 rfl rfl)<|Jd<|Jc<|?_
       refine Qm (b := (decide (x103_2 < (t27.Likes.length : Int)))) rfl (fun hb => ?_) (fun hb => ?_)
       ·have H78 := Jw hb H77; clear H77
        refine Jv<|Jc<|Ju<|Jc<|Ja<|?_
        obtain ⟨t105, h_t105, H79⟩ := Je H78; clear H78
        refine Jf rfl rfl rfl (Qe Tryz.underlying24 Tryz.sizeOf3 rfl rfl (show FrS h 1 (Qu h v1 4 (Int.toNat x24_2) 2) (t27.Likes.map Jl) from (Jm (f1.at h_t27))) h_t105)<|J9 (fun w hF hS => J2 (f := Jl) (i := x103_2) (sz := 1) (j := 0) (v := i6 t105) Tryz.isAgg3 rfl rfl ((show FrS h 1 (Qu h v1 4 (Int.toNat x24_2) 2) (t27.Likes.map Jl) from (Jm (f1.at h_t27))).row (hw.now hF)) h_t105 rfl) rfl rfl rfl<|ag (i6 t105)<|Jd<|Jc<|Ja<|mv v0<|mv v0<|mv (i6 t105)<|?_
        obtain ⟨t110, h_t110, H80⟩ := Je H79; clear H79
        refine Qf (fun w hF hS => k52 (Jp w) (f0.mono (hw.now hF)) h_t110) Tryz.call52 rfl rfl rfl ?_
        obtain ⟨t111, h_t111, H81⟩ := Je H80; clear H80
        refine Jf rfl rfl rfl (Qe Tryz.underlying22 Tryz.sizeOf52 rfl rfl f0 h_t111)<|Jf rfl rfl rfl (Xv Tryz.runUnderlying52 rfl Tryz.sizeOf3 rfl rfl (Ym f0 h_t111))<|J9 (fun w hF hS => J2 (f := Jq) (i := t110) (sz := 14) (j := 1) (v := i6 t111.Photo) Tryz.isAgg3 rfl rfl (f0.row (hw.now hF)) h_t111 rfl) rfl rfl rfl<|ag (i6 t111.Photo)<|Jd<|Jc<|Jc<|Ja<|mv (.map (some b4))<|mv (i6 t105)<|J9 (fun w hF hS => run_lookup (i := 0) (fk := (fun x_ : Int => i6 x_)) (fv := (fun x_ : Bool => .bool x_)) (k := t105) (z := false) keyF_int Tryz.underlying69 Tryz.underlying3 Tryz.zeroValue4 rfl rfl hS rfl) rfl rfl rfl<|mv (.bool ((mGet mp_6 t105).getD false))<|?_
        refine split (fun hb => ?_) (fun hb => ?_)
        ·have H82 := Jw hb H81; clear H81
         refine pa<|pa<|pa<|Jf rfl rfl rfl (Q5 (v := .bool true) rfl rfl)<|Jd<|c_true rfl<|Jc<|Ja<|ag (i6 6)<|Jd<|Jy<|?_
         obtain rfl := Option.some.inj H82
         refine Qw (v := i6 6) rfl rfl (Yz rfl)
        ·have H83 := Jx hb H81; clear H81
         refine mv (.map (some b6))<|mv (i6 t111.Photo)<|J9 (fun w hF hS => run_lookup (i := 1) (fk := (fun x_ : Int => i6 x_)) (fv := (fun x_ : Bool => .bool x_)) (k := t111.Photo) (z := false) keyF_int Tryz.underlying69 Tryz.underlying3 Tryz.zeroValue4 rfl rfl hS rfl) rfl rfl rfl<|Jf rfl rfl rfl (Qr (v := .bool ((mGet mp_7 t111.Photo).getD false)) rfl rfl)<|Jd<|?_
         refine Qm (b := ((mGet mp_7 t111.Photo).getD false)) rfl (fun hb => ?_) (fun hb => ?_)
         ·have H84 := Jw hb H83; clear H83
          refine Jc<|Ja<|ag (i6 6)<|Jd<|Jy<|?_
          obtain rfl := Option.some.inj H84
          refine Qw (v := i6 6) rfl rfl (Yz rfl)
         ·have H85 := Jx hb H83; clear H83
          refine Jv<|Ja<|mv (.map (some b4))<|mv (i6 t105)<|mv (.map (some b6))<|mv (i6 t111.Photo)<|?_
          refine Jb4 (turns_mset (u := true) (i := 0) (rds := []) (fk := (fun x_ : Int => i6 x_)) (fv := (fun x_ : Bool => .bool x_)) (k := t105) (v := true) keyF_int (.inr rfl) Tryz.underlying69 Tryz.underlying3 rfl rfl rfl rfl) rfl rfl (fun _ => ?_)
          refine Jb4 (turns_mset (u := true) (i := 1) (rds := []) (fk := (fun x_ : Int => i6 x_)) (fv := (fun x_ : Bool => .bool x_)) (k := t111.Photo) (v := true) keyF_int (.inr rfl) Tryz.underlying69 Tryz.underlying3 rfl rfl rfl rfl) rfl rfl (fun _ => ?_)
          refine Jd<|Ja<|?_
          obtain ⟨t126, h_t126, H86⟩ := Je H85; clear H85
          refine Jf rfl rfl rfl (Qp rfl rfl h_t126)<|mv (i6 t126)<|Jd<|?_
          refine Js (t126, (mSet mp_6 t105 true), (mSet mp_7 t111.Photo true)) () m6 [0, 1] (by exact ⟨rfl, rfl, rfl, rfl, rfl, rfl, rfl, rfl, rfl, rfl, trivial⟩) (by decide) rfl (by exact ⟨(by subst hn6; exact H86), trivial⟩) (Nat.lt_succ_self _)
       ·have H87 := Jx hb H77; clear H77
        refine Q3 ?_
        refine Js mp_6 () 0 [0] (by exact ⟨rfl, rfl, rfl, rfl, rfl, rfl, trivial⟩) (by decide) rfl (by exact ⟨H87, trivial⟩) (Nat.lt_succ_self _)
   ·rintro mp_3 _ gg H71 _
    try dsimp only at H71
    try dsimp only
    refine Ja ?_
    obtain ⟨t127, h_t127, H72⟩ := Je H71; clear H71
    refine Jf rfl rfl rfl (Qp rfl rfl h_t127)<|mv (i6 t127)<|Jd<|?_
    refine Js (t127, mp_3) () m1 [0] (by exact ⟨rfl, rfl, rfl, rfl, rfl, rfl, trivial⟩) (by decide) rfl (by exact ⟨(by subst hn1; exact H72), trivial⟩) (Nat.lt_succ_self _)
  ·have H132 := Jx hb H69; clear H69
   refine Q3<|Jc<|Ja<|ag (i6 0)<|Jd<|Jy<|?_
   obtain rfl := Option.some.inj H132
   refine Qw (v := i6 0) rfl rfl (Yz rfl)
theorem k106 {q0 : Int} {c0 : Nat} {a0 : T_face_Person} {v0_2 : Value} {v0_3 : Value} {r : Bool} {w : World} {h : Qg} (hw : Know h w Yl) (hc0 : h c0 = some (.cells (List.toArray [i6 q0]) 3 (0, 0))) (f0_2 : FrS h 1 v0_2 (a0.Likes.map Jl)) (f0_3 : FrS h 1 v0_3 (a0.Nots.map Jl)) (H : R_PersonAt_1 q0 a0 = some r) : Does Tryz.prog 106 (List.toArray [.agg #[i6 a0.Id, Xt a0.Name, v0_2, v0_3], .pointer (some ⟨c0, 0, none⟩)]) w (fun v w' => v = (.bool r) ∧ Grow w w') := by
 refine enter (n := 8) Tryz.func106 rfl rfl rfl Yl [] (Sat.nil _ _)<|Jc<|Ja<|?_
 refine Wp (cs := [i6 a0.Id, Xt a0.Name, v0_2, v0_3]) rfl rfl rfl rfl (fun b1 => ?_)
 refine ag (.bool false)<|Jd<|Jc<|Ja<|Jf rfl rfl rfl (J7 Tryz.runUnderlying32 rfl Tryz.sizeOf3 rfl rfl)<|Qq (i := 0) (v := i6 a0.Id) Tryz.isAgg3 rfl rfl rfl rfl rfl<|J9 (fun w hF hS => Vg (v := i6 q0) Tryz.isAgg3 rfl (hw.now hF _ _ hc0) rfl) rfl rfl rfl<|Jf rfl rfl rfl (Uv rfl rfl)<|ag (.bool (decide (a0.Id = q0)))<|Jd<|Jy<|?_
 obtain rfl := Option.some.inj H
 refine Qw (v := .bool (decide (a0.Id = q0))) rfl rfl (Yz rfl)
theorem k57 {a0 : (List T_face_Person)} {v0 : Value} {a1 : Int} {r : Int} {w : World} {h : Qg} (hw : Know h w Yl) (f0 : FrN h 4 v0 g_face_Person a0) (H : Zt a0 a1 = some r) : Does Tryz.prog 57 (List.toArray [v0, i6 a1]) w (fun v w' => v = (i6 r) ∧ Grow w w') := by
 refine enter (n := 8) Tryz.func57 rfl rfl rfl Yl [] (Sat.nil _ _)<|Jc<|Ja<|?_
 refine Wp (cs := [i6 a1]) rfl rfl rfl rfl (fun b1 => ?_)
 refine ag (i6 0)<|Jd<|Jc<|Ja<|mv v0<|Jf rfl rfl rfl (Jak (caps := #[.pointer (some ⟨b1, 0, none⟩)]) rfl)<|?_
 obtain ⟨t7, h_t7, H2⟩ := Je H; clear H
 refine Qf (fun w hF hS => k46 (Jp w) (f0.mono (hw.now hF)) (FnH.mk ⟨106, #[], #[.pointer (some ⟨b1, 0, none⟩)], rfl, Tryz.call106, fun args2 post2 w2 hk2 hR2 => by obtain ⟨a0_, v0_2_, v0_3_, r_, fa0_2_, fa0_3_, rfl, H_, rfl⟩ := hR2; exact k106 (Jp w2) (hk2.up _ _ (Zr (i := 0) hS rfl)) fa0_2_ fa0_3_ H_⟩) h_t7) Tryz.call46 rfl rfl rfl<|ag (i6 t7)<|Jd<|Jy<|?_
 obtain rfl := Option.some.inj H2
 refine Qw (v := i6 t7) rfl rfl (Yz rfl)
theorem k107 {q0 : Int} {c0 : Nat} {a0 : T_face_Person} {v0_2 : Value} {v0_3 : Value} {r : Bool} {w : World} {h : Qg} (hw : Know h w Yl) (hc0 : h c0 = some (.cells (List.toArray [i6 q0]) 3 (0, 0))) (f0_2 : FrS h 1 v0_2 (a0.Likes.map Jl)) (f0_3 : FrS h 1 v0_3 (a0.Nots.map Jl)) (H : R_OwnerOf_1 q0 a0 = some r) : Does Tryz.prog 107 (List.toArray [.agg #[i6 a0.Id, Xt a0.Name, v0_2, v0_3], .pointer (some ⟨c0, 0, none⟩)]) w (fun v w' => v = (.bool r) ∧ Grow w w') := by
 refine enter (n := 8) Tryz.func107 rfl rfl rfl Yl [] (Sat.nil _ _)<|Jc<|Ja<|?_
 refine Wp (cs := [i6 a0.Id, Xt a0.Name, v0_2, v0_3]) rfl rfl rfl rfl (fun b1 => ?_)
 refine ag (.bool false)<|Jd<|Jc<|Ja<|Jf rfl rfl rfl (J7 Tryz.runUnderlying32 rfl Tryz.sizeOf24 rfl rfl)<|Qq (i := 0) (v := v0_2) Tryz.isAgg24 rfl rfl rfl rfl rfl<|J9 (fun w hF hS => Vg (v := i6 q0) Tryz.isAgg3 rfl (hw.now hF _ _ hc0) rfl) rfl rfl rfl<|?_
 obtain ⟨t7, h_t7, H2⟩ := Je H; clear H
 refine Qf (fun w hF hS => k53 (Jp w) (f0_2.mono (hw.now hF)) h_t7) Tryz.call53 rfl rfl rfl<|ag (.bool t7)<|Jd<|Jy<|?_
 obtain rfl := Option.some.inj H2
 refine Qw (v := .bool t7) rfl rfl (Yz rfl)
theorem k58 {a0 : (List T_face_Person)} {v0 : Value} {a1 : Int} {r : Int} {w : World} {h : Qg} (hw : Know h w Yl) (f0 : FrN h 4 v0 g_face_Person a0) (H : Jbm a0 a1 = some r) : Does Tryz.prog 58 (List.toArray [v0, i6 a1]) w (fun v w' => v = (i6 r) ∧ Grow w w') := by
 refine enter (n := 8) Tryz.func58 rfl rfl rfl Yl [] (Sat.nil _ _)<|Jc<|Ja<|?_
 refine Wp (cs := [i6 a1]) rfl rfl rfl rfl (fun b1 => ?_)
 refine ag (i6 0)<|Jd<|Jc<|Ja<|mv v0<|Jf rfl rfl rfl (Jak (caps := #[.pointer (some ⟨b1, 0, none⟩)]) rfl)<|?_
 obtain ⟨t7, h_t7, H2⟩ := Je H; clear H
 refine Qf (fun w hF hS => k46 (Jp w) (f0.mono (hw.now hF)) (FnH.mk ⟨107, #[], #[.pointer (some ⟨b1, 0, none⟩)], rfl, Tryz.call107, fun args2 post2 w2 hk2 hR2 => by obtain ⟨a0_, v0_2_, v0_3_, r_, fa0_2_, fa0_3_, rfl, H_, rfl⟩ := hR2; exact k107 (Jp w2) (hk2.up _ _ (Zr (i := 0) hS rfl)) fa0_2_ fa0_3_ H_⟩) h_t7) Tryz.call46 rfl rfl rfl<|ag (i6 t7)<|Jd<|Jy<|?_
 obtain rfl := Option.some.inj H2
 refine Qw (v := i6 t7) rfl rfl (Yz rfl)
theorem k108 {q0 : (List T_face_Likeness)} {vq0 : Value} {c0 : Nat} {q1 : Int} {c1 : Nat} {a0 : Int} {r : Bool} {w : World} {h : Qg} (hw : Know h w Yl) (fq0 : FrS h 14 vq0 (q0.map Jq)) (hc0 : h c0 = some (.cells (List.toArray [vq0]) 22 (0, 0))) (hc1 : h c1 = some (.cells (List.toArray [i6 q1]) 3 (0, 0))) (H : R_InPhoto_1 q0 q1 a0 = some r) : Does Tryz.prog 108 (List.toArray [i6 a0, .pointer (some ⟨c0, 0, none⟩), .pointer (some ⟨c1, 0, none⟩)]) w (fun v w' => v = (.bool r) ∧ Grow w w') := by
 refine enter (n := 14) Tryz.func108 rfl rfl rfl Yl [] (Sat.nil _ _)<|Jc<|Ja<|ag (.bool false)<|Jd<|Jc<|?_
 exact Qz (Kd.d [] _ :: Kd.d [] _ :: Kd.p :: Kd.d [] _ :: Kd.p :: Kd.p :: Kd.d [] _ :: Kd.d [] _ :: Kd.p :: Kd.p :: []) 0 mixed (by
  refine Wb (fun w hF => Vg (v := vq0) Tryz.isAgg22 rfl (hw.now hF _ _ hc0) rfl) rfl rfl<|Wb (fun w hF => Vg (v := vq0) Tryz.isAgg22 rfl (hw.now hF _ _ hc0) rfl) rfl rfl<|dm (i6 a0)<|?_
  have h_t8 := Jr H
  have H3 := Jn H
  refine Uk (fun w L' hF hS hi => k52 (Jp w) (fq0.mono (hw.now hF)) h_t8) Tryz.call52 rfl rfl ?_
  have h_t9 := Jr H3
  have H4 := Jn H3
  refine Qa rfl rfl (Qe Tryz.underlying22 Tryz.sizeOf52 rfl rfl fq0 h_t9)<|Qa rfl rfl (Xv Tryz.runUnderlying52 rfl Tryz.sizeOf3 rfl rfl (Ym fq0 h_t9))<|Wb (fun w hF => J2 (f := Jq) (i := (val (Qb q0 a0))) (sz := 14) (j := 1) (v := i6 (val (Jk q0 (val (Qb q0 a0)))).Photo) Tryz.isAgg3 rfl rfl (fq0.row (hw.now hF)) h_t9 rfl) rfl rfl<|Wb (fun w hF => Vg (v := i6 q1) Tryz.isAgg3 rfl (hw.now hF _ _ hc1) rfl) rfl rfl<|Qa rfl rfl (Uv rfl rfl)<|Qa rfl rfl (Uj (v := .bool (decide ((val (Jk q0 (val (Qb q0 a0)))).Photo = q1))) rfl)<|Y3<|Jy<|?_
  obtain rfl := Option.some.inj H4
  refine Qw (v := .bool (decide ((val (Jk q0 (val (Qb q0 a0)))).Photo = q1))) rfl rfl (Yz rfl)
  ) (by kernel_rfl)
theorem k59 {a0 : (List T_face_Likeness)} {v0 : Value} {a1 : T_face_Person} {v1_2 : Value} {v1_3 : Value} {a2 : Int} {r : Bool} {w : World} {h : Qg} (hw : Know h w Yl) (f0 : FrS h 14 v0 (a0.map Jq)) (f1_2 : FrS h 1 v1_2 (a1.Likes.map Jl)) (f1_3 : FrS h 1 v1_3 (a1.Nots.map Jl)) (H : Wg a0 a1 a2 = some r) : Does Tryz.prog 59 (List.toArray [v0, .agg #[i6 a1.Id, Xt a1.Name, v1_2, v1_3], i6 a2]) w (fun v w' => v = (.bool r) ∧ Grow w w') := by
 refine enter (n := 11) Tryz.func59 rfl rfl rfl Yl [] (Sat.nil _ _)<|Jc<|Ja<|?_
 refine Wp (cs := [v0]) rfl rfl rfl f0.cells (fun b3 => ?_)
 refine Wp (cs := [i6 a1.Id, Xt a1.Name, v1_2, v1_3]) rfl rfl rfl rfl (fun b4 => ?_)
 refine Wp (cs := [i6 a2]) rfl rfl rfl rfl (fun b5 => ?_)
 refine ag (.bool false)<|Jd<|Jc<|Ja<|Jf rfl rfl rfl (J7 Tryz.runUnderlying32 rfl Tryz.sizeOf24 rfl rfl)<|Qq (i := 1) (v := v1_2) Tryz.isAgg24 rfl rfl rfl rfl rfl<|Jf rfl rfl rfl (Jak (caps := #[.pointer (some ⟨b3, 0, none⟩), .pointer (some ⟨b5, 0, none⟩)]) rfl)<|?_
 obtain ⟨t10, h_t10, H2⟩ := Je H; clear H
 refine Qf (fun w hF hS => k40 (Jp w) (f1_2.mono (hw.now hF)) (FnH.mk ⟨108, #[], #[.pointer (some ⟨b3, 0, none⟩), .pointer (some ⟨b5, 0, none⟩)], rfl, Tryz.call108, fun args2 post2 w2 hk2 hR2 => by obtain ⟨a0_, r_, rfl, H_, rfl⟩ := hR2; exact k108 (Jp w2) ((f0.mono (hw.now hF)).mono hk2.up) (hk2.up _ _ (Zr (i := 0) hS rfl)) (hk2.up _ _ (Zr (i := 2) hS rfl)) H_⟩) h_t10) Tryz.call40 rfl rfl rfl<|ag (.bool t10)<|Jd<|Jy<|?_
 obtain rfl := Option.some.inj H2
 refine Qw (v := .bool t10) rfl rfl (Yz rfl)
theorem k60 {a0 : (List T_face_Person)} {v0 : Value} {r : (List T_face_Person)} {w : World} {h : Qg} (hw : Know h w Yl) (f0 : FrN h 4 v0 g_face_Person a0) (H : R_Folk a0 = some r) : Does Tryz.prog 60 (List.toArray [v0]) w (fun v w' => ∃ x : (Option Addr × Nat), v = (sl x r.length) ∧ Turn w w' Yl (rowD 32 4 g_face_Person (sl x r.length) r.length r)) := by
 refine enter (n := 26) Tryz.func60 rfl rfl rfl Yl [] (Sat.nil _ _)<|Wy Yo<|Jc<|Ja<|ag (.slice none 0 0)<|Jd<|Jc<|Ja<|ag (.slice none 0 0)<|Jd<|Jc<|Jc<|Ja<|mv v0<|Jf rfl rfl rfl (Uh Tryz.underlying23 rfl f0)<|mv (i6 0)<|Jd<|Ju<|Q9 32 4<|?_
 refine X6 (σ := Int × Int × (List T_face_Person)) (τ := Qg × (List (List Value)) × (Option Addr × Nat)) (fun next1 s => R_Folk_l1 a0 next1 s.1 s.2.1 s.2.2) (fun s t => [(3, .slice t.2.2.1 t.2.1.length t.2.2.2), (6, v0), (7, i6 s.1), (8, i6 s.2.1)]) (fun s t => [Yx Yo t.1, J5 32 4 (.slice t.2.2.1 t.2.1.length t.2.2.2) t.2.1.length (t.2.1.map idC)]) (fun s t => AllC g_face_Person t.1 4 t.2.1 s.2.2) ((a0.length : Int), 0, ([] : List T_face_Person)) (Yo, ([] : List (List Value)), nn) [0, 1] H (by exact (AllC.nil (G := g_face_Person) (h := Yo) (sz := 4))) (by exact ⟨rfl, rfl, rfl, rfl, trivial⟩) (by decide) rfl ?_
 rintro ⟨x7_2, x8_2, l_2⟩ ⟨hp, css, p⟩ m1 gg H9 pf_2
 clear H
 try dsimp only at H9
 generalize hn1 : it (fun next1 s => R_Folk_l1 a0 next1 s.1 s.2.1 s.2.2) m1 = next1 at H9
 try dsimp only
 refine Jc<|Ja<|Jf rfl rfl rfl (Q0 rfl rfl)<|Jd<|Jc<|?_
 refine Qm (b := (decide (x8_2 < x7_2))) rfl (fun hb => ?_) (fun hb => ?_)
 ·have H10 := Jw hb H9; clear H9
  refine Jv<|Jc<|Ju<|Jc<|Ja<|?_
  obtain ⟨t10, h_t10, H11⟩ := Je H10; clear H10
  refine Jf rfl rfl rfl (Qe Tryz.underlying23 Tryz.sizeOf32 rfl rfl f0.frs (f0.ix h_t10))<|J9 (fun w hF hS => Qj (f := (elC h v0 4)) (i := x8_2) (sz := 4) (j := 0) (vs := [i6 t10.Id, Xt t10.Name, (Qu h v0 4 (Int.toNat x8_2) 2), (Qu h v0 4 (Int.toNat x8_2) 3)]) Tryz.isAgg32 Tryz.sizeOf32 rfl rfl (f0.frs.row (hw.now hF)) (f0.ix h_t10) (rd_of (J1 (f0.at h_t10)) rfl)) rfl rfl rfl<|?_
  refine Wh (cs := [i6 0, Xt [], .slice none 0 0, .slice none 0 0]) Tryz.zeroValue32 rfl rfl rfl (fun b2 => ?_)
  refine Y8 (i := 2) (vs := [i6 t10.Id, Xt t10.Name, (Qu h v0 4 (Int.toNat x8_2) 2), (Qu h v0 4 (Int.toNat x8_2) 3)]) (cs' := [i6 t10.Id, Xt t10.Name, (Qu h v0 4 (Int.toNat x8_2) 2), (Qu h v0 4 (Int.toNat x8_2) 3)]) Tryz.sizeOf32 rfl rfl rfl rfl rfl rfl (by simp only [List.all_cons, List.all_nil, (show FrS h 1 (Qu h v0 4 (Int.toNat x8_2) 2) (t10.Likes.map Jl) from (Jm (f0.at h_t10))).one, (show FrS h 1 (Qu h v0 4 (Int.toNat x8_2) 3) (t10.Nots.map Jl) from (Jt (f0.at h_t10))).one] <;> rfl) rfl rfl<|Jd<|?_
  try dsimp only [z1, z2, z5, z6, z7, z8]
  refine Jc ?_
  exact Qz (Kd.p :: Kd.d [2] _ :: Kd.t 3 [0] _ _ :: Kd.p :: Kd.d [2] _ :: Kd.t 4 [0] _ _ :: Kd.p :: Kd.sv 18 14 2 _ 32 :: Kd.p :: Kd.stk 19 17 2 :: []) 2 mixed (by
   refine Qa rfl rfl (J7 Tryz.runUnderlying32 rfl Tryz.sizeOf24 rfl rfl)<|Z5 (i := 2) (v := (Qu h v0 4 (Int.toNat x8_2) 2)) Tryz.isAgg24 rfl rfl rfl rfl<|?_
   have h_t14 := Jr H11
   have H12 := Jn H11
   refine Uc (Cv := fun v => J5 3 1 v (val (Jg t10.Likes)).length ((val (Jg t10.Likes)).map Jl)) (none, 0) (J8 (G := fun x : (Option Addr × Nat) => sl x (val (Jg t10.Likes)).length) (C := fun x : (Option Addr × Nat) => J5 3 1 (sl x (val (Jg t10.Likes)).length) (val (Jg t10.Likes)).length ((val (Jg t10.Likes)).map Jl)) (fun w L' hF hS hi => k67 (Jp w) ((show FrS h 1 (Qu h v0 4 (Int.toNat x8_2) 2) (t10.Likes.map Jl) from (Jm (f0.at h_t10))).mono (hw.now hF)) h_t14) Tryz.call67 rfl) (fun _ => rfl) rfl rfl rfl (fun p_2 => ?_)
   refine Qa rfl rfl (J7 Tryz.runUnderlying32 rfl Tryz.sizeOf24 rfl rfl)<|Z5 (i := 2) (v := (Qu h v0 4 (Int.toNat x8_2) 3)) Tryz.isAgg24 rfl rfl rfl rfl<|?_
   have h_t17 := Jr H12
   have H13 := Jn H12
   refine Uc (Cv := fun v => J5 3 1 v (val (Jg t10.Nots)).length ((val (Jg t10.Nots)).map Jl)) (none, 0) (J8 (G := fun x : (Option Addr × Nat) => sl x (val (Jg t10.Nots)).length) (C := fun x : (Option Addr × Nat) => J5 3 1 (sl x (val (Jg t10.Nots)).length) (val (Jg t10.Nots)).length ((val (Jg t10.Nots)).map Jl)) (fun w L' hF hS hi => k67 (Jp w) ((show FrS h 1 (Qu h v0 4 (Int.toNat x8_2) 3) (t10.Nots.map Jl) from (Jt (f0.at h_t10))).mono (hw.now hF)) h_t17) Tryz.call67 rfl) (fun _ => rfl) rfl rfl rfl (fun p_3 => ?_)
   refine Qa rfl rfl (J7 Tryz.runUnderlying32 rfl Tryz.sizeOf24 rfl rfl)<|d_storeV (i := 2) (vs := [sl p_2 (val (Jg t10.Likes)).length]) (cs' := fun v_ => [i6 t10.Id, Xt t10.Name, v_, (Qu h v0 4 (Int.toNat x8_2) 3)]) Tryz.sizeOf24 rfl rfl rfl rfl rfl rfl rfl rfl rfl<|Qa rfl rfl (J7 Tryz.runUnderlying32 rfl Tryz.sizeOf24 rfl rfl)<|W4 (i := 2) (x := sl p_3 (val (Jg t10.Nots)).length) (va := .pointer (some ⟨b2, 3, none⟩)) Tryz.sizeOf24 rfl rfl rfl rfl rfl rfl (blk_box (b := b2) (o := 3) (T := 32) (cs := [i6 t10.Id, Xt t10.Name, sl p_2 (val (Jg t10.Likes)).length, (Qu h v0 4 (Int.toNat x8_2) 3)]) (Imp.refl _) rfl rfl)<|Y3<|Xc 2 rfl (imp_stB (cs := [i6 t10.Id, Xt t10.Name, sl p_2 (val (Jg t10.Likes)).length, (Qu h v0 4 (Int.toNat x8_2) 3)]) (cs' := [i6 t10.Id, Xt t10.Name, sl p_2 (val (Jg t10.Likes)).length, sl p_3 (val (Jg t10.Nots)).length]) (Imp.refl _) rfl)<|?_
   try dsimp only [z1, z2, z5, z6, z7, z8]
   refine Ja<|mv (sl p css.length)<|Uz (i := 2) (vs := [i6 t10.Id, Xt t10.Name, sl p_2 (val (Jg t10.Likes)).length, sl p_3 (val (Jg t10.Nots)).length]) Tryz.isAgg32 Tryz.sizeOf32 rfl rfl rfl rfl rfl<|?_
   refine Z0 (vs := [.agg #[i6 t10.Id, Xt t10.Name, sl p_2 (val (Jg t10.Likes)).length, sl p_3 (val (Jg t10.Nots)).length]]) (cs := [i6 t10.Id, Xt t10.Name, sl p_2 (val (Jg t10.Likes)).length, sl p_3 (val (Jg t10.Nots)).length]) Tryz.underlying23 Tryz.sizeOf32 Tryz.zeroValue32 rfl rfl rfl rfl rfl rfl rfl (fun b3 => ?_)
   refine Yq (Φ := fun H_ => FrS H_ 1 (sl p_2 (val (Jg t10.Likes)).length) ((val (Jg t10.Likes)).map Jl)) 0 3 rfl rfl (by decide) (fun _ _ => Qo) (fz_own _) (fun hp_2 hle hf => ?_)
   refine Yq (Φ := fun H_ => FrS H_ 1 (sl p_3 (val (Jg t10.Nots)).length) ((val (Jg t10.Nots)).map Jl)) 0 4 rfl rfl (by decide) (fun _ _ => Qo) (fz_own _) (fun hp_3 hle_2 hf_2 => ?_)
   obtain ⟨l23, h_l23, H14⟩ := Je H13; clear H13
   refine Y7 (turns_appendM (i := 1) (k := 5) (p := p) (f := idC) (ys := css) (ls := [[i6 t10.Id, Xt t10.Name, sl p_2 (val (Jg t10.Likes)).length, sl p_3 (val (Jg t10.Nots)).length]]) Tryz.underlying23 (We Tryz.typeInfo32) rfl rfl rfl rfl rfl rfl rfl rfl rfl rfl rfl rfl rfl rfl (by simp only [idC, List.map_cons, List.map_nil, List.all_cons, List.all_nil, (hf.mono hle_2).one, hf_2.one] <;> rfl) (app63 (((pf_2.mono hle).mono hle_2).app h_l23 (nc := [[i6 t10.Id, Xt t10.Name, sl p_2 (val (Jg t10.Likes)).length, sl p_3 (val (Jg t10.Nots)).length]]) rfl)) rfl) rfl rfl rfl (fun p_4 => ?_)
   have pf_3 : AllC g_face_Person hp_3 4 (css ++ [[i6 t10.Id, Xt t10.Name, sl p_2 (val (Jg t10.Likes)).length, sl p_3 (val (Jg t10.Nots)).length]]) l23 := AllC.snocG ((pf_2.mono hle).mono hle_2) h_l23 rfl (⟨rfl, rfl, (hf.mono hle_2), hf_2⟩)
   refine ag (sl p_4 ((css ++ [[i6 t10.Id, Xt t10.Name, .slice p_2.1 (val (Jg t10.Likes)).length p_2.2, .slice p_3.1 (val (Jg t10.Nots)).length p_3.2]]).length))<|Jd<|?_
   try dsimp only [z1, z2, z5, z6, z7, z8]
   refine Ja ?_
   obtain ⟨t24, h_t24, H15⟩ := Je H14; clear H14
   refine Jf rfl rfl rfl (Qp rfl rfl h_t24)<|mv (i6 t24)<|Jd<|?_
   try dsimp only [z1, z2, z5, z6, z7, z8]
   refine Js (x7_2, t24, l23) (hp_3, (css ++ [[i6 t10.Id, Xt t10.Name, sl p_2 (val (Jg t10.Likes)).length, sl p_3 (val (Jg t10.Nots)).length]]), p_4) m1 [0, 1] (by exact ⟨rfl, rfl, rfl, rfl, trivial⟩) (by decide) rfl (by exact ⟨(by subst hn1; exact H15), pf_3⟩) (Nat.lt_succ_self _)
   ) (by kernel_rfl)
 ·have H16 := Jx hb H9; clear H9
  refine Q3<|Jc<|Ja<|mv (sl p css.length)<|ag (sl p css.length)<|Jd<|Jy<|?_
  obtain rfl := Option.some.inj H16
  refine Yp 0 1 rfl rfl (by decide)<|Xc 0 rfl (Vo (p := p) rfl pf_2)<|?_
  refine Qw (v := sl p css.length) rfl rfl (Zb p (i := 0) rfl (by first | rfl | rw [(show css.length = l_2.length from pf_2.len)]) (by first | exact Imp.refl _ | exact Imp.of (by rw [(show css.length = l_2.length from pf_2.len)])))
theorem k18 {a0 : (List T_face_Likeness)} {v0 : Value} {a1 : (List T_face_Person)} {v1 : Value} {a2 : Int} {a3 : Int} {r : (List T_face_Person) × Int} {w : World} {h : Qg} (hw : Know h w Yl) (f0 : FrS h 14 v0 (a0.map Jq)) (f1 : FrN h 4 v1 g_face_Person a1) (H : R_ConfirmOf a0 a1 a2 a3 = some r) : Does Tryz.prog 18 (List.toArray [v0, v1, i6 a2, i6 a3]) w (fun v w' => ∃ x : (Option Addr × Nat), v = (.tuple #[sl x r.1.length, i6 r.2]) ∧ Turn w w' Yl (rowD 32 4 g_face_Person (sl x r.1.length) r.1.length r.1)) := by
 refine enter (n := 68) Tryz.func18 rfl rfl rfl Yl [] (Sat.nil _ _)<|Wy Yo<|Jc<|Ja<|ag (.slice none 0 0)<|ag (i6 0)<|Jd<|Jc<|Ja<|mv v1<|mv (i6 a2)<|?_
 obtain ⟨t14, h_t14, H25⟩ := Je H; clear H
 refine Qf (fun w hF hS => k57 (Jp w) (f1.mono (hw.now hF)) h_t14) Tryz.call57 rfl rfl rfl<|ag (i6 t14)<|Jd<|Jc<|Ju<|Jc<|Ja<|mv (i6 t14)<|Jf rfl rfl rfl (Q0 rfl rfl)<|mv (.bool (decide (t14 < 0)))<|?_
 refine split (fun hb => ?_) (fun hb => ?_)
 ·have H26 := Jw hb H25; clear H25
  refine pa<|pa<|pa<|pa<|Jf rfl rfl rfl (Q5 (v := .bool true) rfl rfl)<|ag (.bool true)<|Jd<|c_true rfl<|Jc<|Ja<|ag (.slice none 0 0)<|ag (i6 7)<|Jd<|Jy<|Q9 32 4<|?_
  obtain rfl := Option.some.inj H26
  refine Yp 0 1 rfl rfl (by decide)<|Xc 0 rfl (Vo (p := nn) rfl (AllC.nil (G := g_face_Person) (h := Yo) (sz := 4)))<|?_
  refine Vz (v1 := sl nn (([] : List (List Value)).length)) (v2 := i6 7) rfl rfl rfl (Zb nn (i := 0) rfl (by first | rfl | rw [(show (([] : List (List Value)).length) = ([] : List T_face_Person).length from (AllC.nil (G := g_face_Person) (h := Yo) (sz := 4)).len)]) (by first | exact Imp.refl _ | exact Imp.of (by rw [(show (([] : List (List Value)).length) = ([] : List T_face_Person).length from (AllC.nil (G := g_face_Person) (h := Yo) (sz := 4)).len)])))
 ·have H27 := Jx hb H25; clear H25
  refine mv v0<|mv (i6 a3)<|?_
  obtain ⟨t21, h_t21, H28⟩ := Je H27; clear H27
  refine Qf (fun w hF hS => k52 (Jp w) (f0.mono (hw.now hF)) h_t21) Tryz.call52 rfl rfl rfl<|Jf rfl rfl rfl (Q0 rfl rfl)<|Jf rfl rfl rfl (Qr (v := .bool (decide (t21 < 0))) rfl rfl)<|ag (.bool (decide (t21 < 0)))<|Jd<|?_
  refine Qm (b := (decide (t21 < 0))) rfl (fun hb => ?_) (fun hb => ?_)
  ·have H29 := Jw hb H28; clear H28
   refine Jc<|Ja<|ag (.slice none 0 0)<|ag (i6 7)<|Jd<|Jy<|Q9 32 4<|?_
   obtain rfl := Option.some.inj H29
   refine Yp 0 1 rfl rfl (by decide)<|Xc 0 rfl (Vo (p := nn) rfl (AllC.nil (G := g_face_Person) (h := Yo) (sz := 4)))<|?_
   refine Vz (v1 := sl nn (([] : List (List Value)).length)) (v2 := i6 7) rfl rfl rfl (Zb nn (i := 0) rfl (by first | rfl | rw [(show (([] : List (List Value)).length) = ([] : List T_face_Person).length from (AllC.nil (G := g_face_Person) (h := Yo) (sz := 4)).len)]) (by first | exact Imp.refl _ | exact Imp.of (by rw [(show (([] : List (List Value)).length) = ([] : List T_face_Person).length from (AllC.nil (G := g_face_Person) (h := Yo) (sz := 4)).len)])))
  ·have H30 := Jx hb H28; clear H28
   refine Jc<|Ja<|mv v1<|mv (i6 a3)<|?_
   obtain ⟨t27, h_t27, H31⟩ := Je H30; clear H30
   refine Qf (fun w hF hS => k58 (Jp w) (f1.mono (hw.now hF)) h_t27) Tryz.call58 rfl rfl rfl<|Jf rfl rfl rfl (r_geq rfl rfl)<|ag (.bool (decide (0 ≤ t27)))<|Jd<|?_
   refine Qm (b := (decide (0 ≤ t27))) rfl (fun hb => ?_) (fun hb => ?_)
   ·have H32 := Jw hb H31; clear H31
    refine Jc<|Ja<|ag (.slice none 0 0)<|ag (i6 6)<|Jd<|Jy<|Q9 32 4<|?_
    obtain rfl := Option.some.inj H32
    refine Yp 0 1 rfl rfl (by decide)<|Xc 0 rfl (Vo (p := nn) rfl (AllC.nil (G := g_face_Person) (h := Yo) (sz := 4)))<|?_
    refine Vz (v1 := sl nn (([] : List (List Value)).length)) (v2 := i6 6) rfl rfl rfl (Zb nn (i := 0) rfl (by first | rfl | rw [(show (([] : List (List Value)).length) = ([] : List T_face_Person).length from (AllC.nil (G := g_face_Person) (h := Yo) (sz := 4)).len)]) (by first | exact Imp.refl _ | exact Imp.of (by rw [(show (([] : List (List Value)).length) = ([] : List T_face_Person).length from (AllC.nil (G := g_face_Person) (h := Yo) (sz := 4)).len)])))
   ·have H33 := Jx hb H31; clear H31
    refine Jc ?_
    exact Qz (Kd.p :: Kd.p :: Kd.p :: Kd.p :: Kd.d [] _ :: Kd.p :: Kd.p :: Kd.p :: Kd.d [0] _ :: Kd.p :: Kd.p :: Kd.d [] _ :: Kd.d [0] _ :: Kd.p :: []) 0 mixed (by
     refine dm v0<|dm v1<|dm (i6 t14)<|?_
     have h_t33 := Jr H33
     have H34 := Jn H33
     refine Qa rfl rfl (Qe Tryz.underlying23 Tryz.sizeOf32 rfl rfl f1.frs (f1.ix h_t33))<|Wb (fun w hF => Qj (f := (elC h v1 4)) (i := t14) (sz := 4) (j := 0) (vs := [i6 (val (Jk a1 t14)).Id, Xt (val (Jk a1 t14)).Name, (Qu h v1 4 (Int.toNat t14) 2), (Qu h v1 4 (Int.toNat t14) 3)]) Tryz.isAgg32 Tryz.sizeOf32 rfl rfl (f1.frs.row (hw.now hF)) (f1.ix h_t33) (rd_of (J1 (f1.at h_t33)) rfl)) rfl rfl<|dm v0<|dm v0<|dm (i6 a3)<|?_
     have h_t38 := Jr H34
     have H35 := Jn H34
     refine Uk (fun w L' hF hS hi => k52 (Jp w) (f0.mono (hw.now hF)) h_t38) Tryz.call52 rfl rfl ?_
     have h_t39 := Jr H35
     have H36 := Jn H35
     refine Qa rfl rfl (Qe Tryz.underlying22 Tryz.sizeOf52 rfl rfl f0 h_t39)<|Qa rfl rfl (Xv Tryz.runUnderlying52 rfl Tryz.sizeOf3 rfl rfl (Ym f0 h_t39))<|Wb (fun w hF => J2 (f := Jq) (i := (val (Qb a0 a3))) (sz := 14) (j := 1) (v := i6 (val (Jk a0 (val (Qb a0 a3)))).Photo) Tryz.isAgg3 rfl rfl (f0.row (hw.now hF)) h_t39 rfl) rfl rfl<|?_
     have h_t42 := Jr H36
     have H37 := Jn H36
     refine Uk (fun w L' hF hS hi => k59 (Jp w) (f0.mono (hw.now hF)) ((show FrS h 1 (Qu h v1 4 (Int.toNat t14) 2) ((val (Jk a1 t14)).Likes.map Jl) from (Jm (f1.at h_t33))).mono (hw.now hF)) ((show FrS h 1 (Qu h v1 4 (Int.toNat t14) 3) ((val (Jk a1 t14)).Nots.map Jl) from (Jt (f1.at h_t33))).mono (hw.now hF)) h_t42) Tryz.call59 rfl rfl<|Qa rfl rfl (Uj (v := .bool (val (Wg a0 (val (Jk a1 t14)) (val (Jk a0 (val (Qb a0 a3)))).Photo))) rfl)<|Y3<|?_
     refine Qm (b := (val (Wg a0 (val (Jk a1 t14)) (val (Jk a0 (val (Qb a0 a3)))).Photo))) rfl (fun hb => ?_) (fun hb => ?_)
     ·have H38 := Jw hb H37; clear H37
      refine Jc<|Ja<|ag (.slice none 0 0)<|ag (i6 11)<|Jd<|Jy<|Q9 32 4<|?_
      obtain rfl := Option.some.inj H38
      refine Yp 0 1 rfl rfl (by decide)<|Xc 0 rfl (Vo (p := nn) rfl (AllC.nil (G := g_face_Person) (h := Yo) (sz := 4)))<|?_
      refine Vz (v1 := sl nn (([] : List (List Value)).length)) (v2 := i6 11) rfl rfl rfl (Zb nn (i := 0) rfl (by first | rfl | rw [(show (([] : List (List Value)).length) = ([] : List T_face_Person).length from (AllC.nil (G := g_face_Person) (h := Yo) (sz := 4)).len)]) (by first | exact Imp.refl _ | exact Imp.of (by rw [(show (([] : List (List Value)).length) = ([] : List T_face_Person).length from (AllC.nil (G := g_face_Person) (h := Yo) (sz := 4)).len)])))
     ·have H39 := Jx hb H37; clear H37
      refine Jv<|Jc<|Ja<|mv v1<|?_
      obtain ⟨t44, h_t44, H40⟩ := Je H39; clear H39
      refine Yk (J8 (rds := []) (G := fun x : (Option Addr × Nat) => sl x t44.length) (C := fun x : (Option Addr × Nat) => rowD 32 4 g_face_Person (sl x t44.length) t44.length t44) (fun w L' hF hS hi => k60 (Jp w) (f1.mono (hw.now hF)) h_t44) Tryz.call60 rfl) rfl rfl rfl (fun p => ?_)
      refine c_rowD 1 rfl (fun hp css hn pf => ?_)
      rw [hn]
      refine V7 1 rfl ?_
      refine Yv 0 1 rfl rfl (by decide) (fun _ _ => Qo) (fun hp_2 hle hle_2 => ?_)
      refine ag (sl p css.length)<|Jd<|?_
      try dsimp only [z1, z2, z5, z6, z7, z8]
      refine Jc ?_
      exact Qz (Kd.p :: Kd.p :: Kd.p :: Kd.p :: Kd.p :: Kd.p :: Kd.d [2] _ :: Kd.d [2] _ :: Kd.d [2] _ :: Kd.p :: Kd.t 3 [0] _ _ :: Kd.p :: Kd.p :: Kd.d [2] _ :: Kd.d [2] _ :: Kd.d [2] _ :: Kd.p :: Kd.t 4 [0] _ _ :: Kd.d [2] _ :: Kd.d [2] _ :: Kd.stk 64 55 2 :: Kd.d [2] _ :: Kd.d [2] _ :: Kd.stk 66 62 2 :: []) 2 mixed (by
       refine dm (sl p css.length)<|dm (i6 t14)<|dm (sl p css.length)<|dm (i6 t14)<|dm (sl p css.length)<|dm (i6 t14)<|?_
       have h_t51 := Jr H40
       have H41 := Jn H40
       refine Qc (fun w L' hF hS hi => J3 Tryz.underlying23 Tryz.sizeOf32 rfl rfl (Qy (i := 2) (E := 32) (sz := 4) (n := css.length) (a := p.1) (c := p.2) hS ((hi 2 (by simp)).trans rfl)) rfl ((pf.mono hle_2).ix h_t51)) rfl rfl<|Y5 rfl rfl (fun w L' hF hS hi => Xn Tryz.runUnderlying32 rfl Tryz.sizeOf24 rfl rfl (Qy (i := 2) (E := 32) (sz := 4) (n := css.length) (a := p.1) (c := p.2) hS ((hi 2 (by simp)).trans rfl)) ((pf.mono hle_2).ix h_t51))<|Qc (fun w L' hF hS hi => J2 (f := idC) (i := t14) (sz := 4) (j := 2) (v := (List.getD (List.getD css (Int.toNat t14) []) 2 undef)) Tryz.isAgg24 rfl rfl (Qy (i := 2) (E := 32) (sz := 4) (n := css.length) (a := p.1) (c := p.2) hS ((hi 2 (by simp)).trans rfl)) ((pf.mono hle_2).ix h_t51) (V4 (((pf.mono hle_2).eta h_t51).trans (J1 ((pf.mono hle_2).at h_t51))) rfl)) rfl rfl<|dm (i6 a3)<|?_
       have h_t55 := Jr H41
       have H42 := Jn H41
       refine Uc (Cv := fun v => roH hp_2 1 v (val (Qv (val (Jk t44 t14)).Likes a3)).length ((val (Qv (val (Jk t44 t14)).Likes a3)).map Jl)) (none, 0) (J8 (G := fun x : (Option Addr × Nat) => sl x (val (Qv (val (Jk t44 t14)).Likes a3)).length) (C := fun x : (Option Addr × Nat) => roH hp_2 1 (sl x (val (Qv (val (Jk t44 t14)).Likes a3)).length) (val (Qv (val (Jk t44 t14)).Likes a3)).length ((val (Qv (val (Jk t44 t14)).Likes a3)).map Jl)) (fun w L' hF hS hi => k61 (h := hp_2) (know_pool (i := 0) hS ((hi 0 (by simp)).trans rfl) Qo) (show FrS hp_2 1 (List.getD (List.getD css (Int.toNat t14) []) 2 undef) ((val (Jk t44 t14)).Likes.map Jl) from (Jm ((pf.mono hle_2).at h_t51))) h_t55) Tryz.call61 rfl) (fun _ => rfl) rfl rfl rfl (fun p_2 => ?_)
       refine dm (sl p css.length)<|dm (i6 t14)<|?_
       have h_t58 := Jr H42
       have H43 := Jn H42
       refine Qc (fun w L' hF hS hi => J3 Tryz.underlying23 Tryz.sizeOf32 rfl rfl (Qy (i := 2) (E := 32) (sz := 4) (n := css.length) (a := p.1) (c := p.2) hS ((hi 2 (by simp)).trans rfl)) rfl ((pf.mono hle_2).ix h_t58)) rfl rfl<|Y5 rfl rfl (fun w L' hF hS hi => Xn Tryz.runUnderlying32 rfl Tryz.sizeOf24 rfl rfl (Qy (i := 2) (E := 32) (sz := 4) (n := css.length) (a := p.1) (c := p.2) hS ((hi 2 (by simp)).trans rfl)) ((pf.mono hle_2).ix h_t58))<|Qc (fun w L' hF hS hi => J2 (f := idC) (i := t14) (sz := 4) (j := 3) (v := (List.getD (List.getD css (Int.toNat t14) []) 3 undef)) Tryz.isAgg24 rfl rfl (Qy (i := 2) (E := 32) (sz := 4) (n := css.length) (a := p.1) (c := p.2) hS ((hi 2 (by simp)).trans rfl)) ((pf.mono hle_2).ix h_t58) (V4 (((pf.mono hle_2).eta h_t58).trans (J1 ((pf.mono hle_2).at h_t58))) rfl)) rfl rfl<|dm (i6 a3)<|?_
       have h_t62 := Jr H43
       have H44 := Jn H43
       refine Uc (Cv := fun v => J5 3 1 v (val (J4 (val (Jk t44 t14)).Nots a3)).length ((val (J4 (val (Jk t44 t14)).Nots a3)).map Jl)) (none, 0) (J8 (G := fun x : (Option Addr × Nat) => sl x (val (J4 (val (Jk t44 t14)).Nots a3)).length) (C := fun x : (Option Addr × Nat) => J5 3 1 (sl x (val (J4 (val (Jk t44 t14)).Nots a3)).length) (val (J4 (val (Jk t44 t14)).Nots a3)).length ((val (J4 (val (Jk t44 t14)).Nots a3)).map Jl)) (fun w L' hF hS hi => k62 (Jp w) ((show FrS hp_2 1 (List.getD (List.getD css (Int.toNat t14) []) 3 undef) ((val (Jk t44 t14)).Nots.map Jl) from (Jt ((pf.mono hle_2).at h_t58))).mono (Xi (i := 0) hS ((hi 0 (by simp)).trans rfl) Qo)) h_t62) Tryz.call62 rfl) (fun _ => rfl) rfl rfl rfl (fun p_3 => ?_)
       have h_t63 := Jr H44
       have H45 := Jn H44
       refine Qc (fun w L' hF hS hi => J3 Tryz.underlying23 Tryz.sizeOf32 rfl rfl (Qy (i := 2) (E := 32) (sz := 4) (n := css.length) (a := p.1) (c := p.2) hS ((hi 2 (by simp)).trans rfl)) rfl ((pf.mono hle_2).ix h_t63)) rfl rfl<|Y5 rfl rfl (fun w L' hF hS hi => Xn Tryz.runUnderlying32 rfl Tryz.sizeOf24 rfl rfl (Qy (i := 2) (E := 32) (sz := 4) (n := css.length) (a := p.1) (c := p.2) hS ((hi 2 (by simp)).trans rfl)) ((pf.mono hle_2).ix h_t63))<|?_
       have h_l2 := Jr H45
       have H46 := Jn H45
       refine W4 (i := 2) (x := sl p_2 (val (Qv (val (Jk t44 t14)).Likes a3)).length) (va := (Zn p.1 (Int.toNat t14 * 4 + 2))) Tryz.sizeOf24 rfl rfl rfl rfl rfl rfl (Jbd (E := 32) (sz := 4) (n := css.length) (a := p.1) (c := p.2) (css := css) (Imp.toO (Imp.refl _)) rfl (pf.mono hle_2).len h_t63 rfl rfl) ?_
       have h_t65 := Jr H46
       have H47 := Jn H46
       refine Qc (fun w L' hF hS hi => J3 Tryz.underlying23 Tryz.sizeOf32 rfl rfl (offOfI (Imp.toO (Uy (E := 32) (sz := 4) (n := css.length) (a := p.1) (c := p.2) (css := css) (j := 2) (x := sl p_2 (val (Qv (val (Jk t44 t14)).Likes a3)).length) (Imp.refl _) (pf.mono hle_2).len h_t63 rfl rfl)) hS ((hi 2 (by simp)).trans rfl)) (rfl.trans (Qt _ _ _ _).symm) (ixR (lenR (pf.mono hle_2).len h_l2) h_t65)) rfl rfl<|Y5 rfl rfl (fun w L' hF hS hi => Xn Tryz.runUnderlying32 rfl Tryz.sizeOf24 rfl rfl (offOfI (Imp.toO (Uy (E := 32) (sz := 4) (n := css.length) (a := p.1) (c := p.2) (css := css) (j := 2) (x := sl p_2 (val (Qv (val (Jk t44 t14)).Likes a3)).length) (Imp.refl _) (pf.mono hle_2).len h_t63 rfl rfl)) hS ((hi 2 (by simp)).trans rfl)) (ixR (lenR (pf.mono hle_2).len h_l2) h_t65))<|?_
       have h_l2_2 := Jr H47
       have H48 := Jn H47
       refine W4 (i := 2) (x := sl p_3 (val (J4 (val (Jk t44 t14)).Nots a3)).length) (va := (Zn p.1 (Int.toNat t14 * 4 + 3))) Tryz.sizeOf24 rfl rfl rfl rfl rfl rfl (Jbd (E := 32) (sz := 4) (n := css.length) (a := p.1) (c := p.2) (css := (setR css t14 2 (sl p_2 (val (Qv (val (Jk t44 t14)).Likes a3)).length))) (Imp.toO (Uy (E := 32) (sz := 4) (n := css.length) (a := p.1) (c := p.2) (css := css) (j := 2) (x := sl p_2 (val (Qv (val (Jk t44 t14)).Likes a3)).length) (Imp.refl _) (pf.mono hle_2).len h_t63 rfl rfl)) (rfl.trans (Qt _ _ _ _).symm) (lenR (pf.mono hle_2).len h_l2) h_t65 rfl rfl)<|Y3<|Xc 2 rfl (Uy (E := 32) (sz := 4) (n := css.length) (a := p.1) (c := p.2) (css := (setR css t14 2 (sl p_2 (val (Qv (val (Jk t44 t14)).Likes a3)).length))) (j := 3) (x := sl p_3 (val (J4 (val (Jk t44 t14)).Nots a3)).length) (Uy (E := 32) (sz := 4) (n := css.length) (a := p.1) (c := p.2) (css := css) (j := 2) (x := sl p_2 (val (Qv (val (Jk t44 t14)).Likes a3)).length) (Imp.refl _) (pf.mono hle_2).len h_t63 rfl rfl) (lenR (pf.mono hle_2).len h_l2) h_t65 rfl rfl)<|?_
       refine Yq (Φ := fun H_ => FrS H_ 1 (sl p_2 (val (Qv (val (Jk t44 t14)).Likes a3)).length) ((val (Qv (val (Jk t44 t14)).Likes a3)).map Jl)) 0 3 rfl rfl (by decide) (fun _ _ => Qo) (fz_roh _ (fun _ _ h_ => h_)) (fun hp_3 hle_3 hf => ?_)
       have pf_2 : AllC g_face_Person hp_3 4 (setR css t14 2 (sl p_2 (val (Qv (val (Jk t44 t14)).Likes a3)).length)) (val (Q6 t44 t14 (⟨(val (Jk t44 t14)).Id, (val (Jk t44 t14)).Name, (val (Qv (val (Jk t44 t14)).Likes a3)), (val (Jk t44 t14)).Nots⟩ : T_face_Person))) := AllC.setR ((pf.mono hle_2).mono hle_3) h_t63 h_l2 rfl (by obtain ⟨q0_, q1_, q2_, q3_⟩ := ((pf.mono hle_2).mono hle_3).at h_t63; exact ⟨q0_, q1_, hf, q3_⟩)
       refine Yq (Φ := fun H_ => FrS H_ 1 (sl p_3 (val (J4 (val (Jk t44 t14)).Nots a3)).length) ((val (J4 (val (Jk t44 t14)).Nots a3)).map Jl)) 0 4 rfl rfl (by decide) (fun _ _ => Qo) (fz_own _) (fun hp_4 hle_4 hf_2 => ?_)
       have pf_3 : AllC g_face_Person hp_4 4 (setR (setR css t14 2 (sl p_2 (val (Qv (val (Jk t44 t14)).Likes a3)).length)) t14 3 (sl p_3 (val (J4 (val (Jk t44 t14)).Nots a3)).length)) (val (Q6 (val (Q6 t44 t14 (⟨(val (Jk t44 t14)).Id, (val (Jk t44 t14)).Name, (val (Qv (val (Jk t44 t14)).Likes a3)), (val (Jk t44 t14)).Nots⟩ : T_face_Person))) t14 (⟨(val (Jk (val (Q6 t44 t14 (⟨(val (Jk t44 t14)).Id, (val (Jk t44 t14)).Name, (val (Qv (val (Jk t44 t14)).Likes a3)), (val (Jk t44 t14)).Nots⟩ : T_face_Person))) t14)).Id, (val (Jk (val (Q6 t44 t14 (⟨(val (Jk t44 t14)).Id, (val (Jk t44 t14)).Name, (val (Qv (val (Jk t44 t14)).Likes a3)), (val (Jk t44 t14)).Nots⟩ : T_face_Person))) t14)).Name, (val (Jk (val (Q6 t44 t14 (⟨(val (Jk t44 t14)).Id, (val (Jk t44 t14)).Name, (val (Qv (val (Jk t44 t14)).Likes a3)), (val (Jk t44 t14)).Nots⟩ : T_face_Person))) t14)).Likes, (val (J4 (val (Jk t44 t14)).Nots a3))⟩ : T_face_Person))) := AllC.setR (pf_2.mono hle_4) h_t65 h_l2_2 rfl (by obtain ⟨q0_, q1_, q2_, q3_⟩ := (pf_2.mono hle_4).at h_t65; exact ⟨q0_, q1_, q2_, hf_2⟩)
       try dsimp only [z1, z2, z5, z6, z7, z8]
       refine Jc<|Ja<|mv (sl p css.length)<|ag (sl p css.length)<|ag (i6 0)<|Jd<|?_
       try dsimp only [z1, z2, z5, z6, z7, z8]
       refine Jy ?_
       obtain rfl := Option.some.inj H48
       refine Yp 0 2 rfl rfl (by decide)<|Xc 0 rfl (Vo (p := p) ((rfl.trans (Qt _ _ _ _).symm).trans (Qt _ _ _ _).symm) pf_3)<|?_
       refine Vz (v1 := sl p css.length) (v2 := i6 0) rfl rfl rfl (Zb p (i := 0) rfl (by first | rfl | rw [(show css.length = (val (Q6 (val (Q6 t44 t14 (⟨(val (Jk t44 t14)).Id, (val (Jk t44 t14)).Name, (val (Qv (val (Jk t44 t14)).Likes a3)), (val (Jk t44 t14)).Nots⟩ : T_face_Person))) t14 (⟨(val (Jk (val (Q6 t44 t14 (⟨(val (Jk t44 t14)).Id, (val (Jk t44 t14)).Name, (val (Qv (val (Jk t44 t14)).Likes a3)), (val (Jk t44 t14)).Nots⟩ : T_face_Person))) t14)).Id, (val (Jk (val (Q6 t44 t14 (⟨(val (Jk t44 t14)).Id, (val (Jk t44 t14)).Name, (val (Qv (val (Jk t44 t14)).Likes a3)), (val (Jk t44 t14)).Nots⟩ : T_face_Person))) t14)).Name, (val (Jk (val (Q6 t44 t14 (⟨(val (Jk t44 t14)).Id, (val (Jk t44 t14)).Name, (val (Qv (val (Jk t44 t14)).Likes a3)), (val (Jk t44 t14)).Nots⟩ : T_face_Person))) t14)).Likes, (val (J4 (val (Jk t44 t14)).Nots a3))⟩ : T_face_Person))).length from (((rfl.trans (Qt _ _ _ _).symm).trans (Qt _ _ _ _).symm).trans pf_3.len))]) (by first | exact Imp.refl _ | exact Imp.of (by rw [(show css.length = (val (Q6 (val (Q6 t44 t14 (⟨(val (Jk t44 t14)).Id, (val (Jk t44 t14)).Name, (val (Qv (val (Jk t44 t14)).Likes a3)), (val (Jk t44 t14)).Nots⟩ : T_face_Person))) t14 (⟨(val (Jk (val (Q6 t44 t14 (⟨(val (Jk t44 t14)).Id, (val (Jk t44 t14)).Name, (val (Qv (val (Jk t44 t14)).Likes a3)), (val (Jk t44 t14)).Nots⟩ : T_face_Person))) t14)).Id, (val (Jk (val (Q6 t44 t14 (⟨(val (Jk t44 t14)).Id, (val (Jk t44 t14)).Name, (val (Qv (val (Jk t44 t14)).Likes a3)), (val (Jk t44 t14)).Nots⟩ : T_face_Person))) t14)).Name, (val (Jk (val (Q6 t44 t14 (⟨(val (Jk t44 t14)).Id, (val (Jk t44 t14)).Name, (val (Qv (val (Jk t44 t14)).Likes a3)), (val (Jk t44 t14)).Nots⟩ : T_face_Person))) t14)).Likes, (val (J4 (val (Jk t44 t14)).Nots a3))⟩ : T_face_Person))).length from (((rfl.trans (Qt _ _ _ _).symm).trans (Qt _ _ _ _).symm).trans pf_3.len))])))
       ) (by kernel_rfl)
     ) (by kernel_rfl)
theorem k19 {a0 : (List T_face_Likeness)} {v0 : Value} {a1 : (List T_face_Person)} {v1 : Value} {a2 : Int} {a3 : Int} {r : (List T_face_Person) × Int} {w : World} {h : Qg} (hw : Know h w Yl) (f0 : FrS h 14 v0 (a0.map Jq)) (f1 : FrN h 4 v1 g_face_Person a1) (H : R_DenyOf a0 a1 a2 a3 = some r) : Does Tryz.prog 19 (List.toArray [v0, v1, i6 a2, i6 a3]) w (fun v w' => ∃ x : (Option Addr × Nat), v = (.tuple #[sl x r.1.length, i6 r.2]) ∧ Turn w w' Yl (rowD 32 4 g_face_Person (sl x r.1.length) r.1.length r.1)) := by
 refine enter (n := 57) Tryz.func19 rfl rfl rfl Yl [] (Sat.nil _ _)<|Wy Yo<|Jc<|Ja<|ag (.slice none 0 0)<|ag (i6 0)<|Jd<|Jc<|Ja<|mv v1<|mv (i6 a2)<|?_
 obtain ⟨t14, h_t14, H20⟩ := Je H; clear H
 refine Qf (fun w hF hS => k57 (Jp w) (f1.mono (hw.now hF)) h_t14) Tryz.call57 rfl rfl rfl<|ag (i6 t14)<|Jd<|Jc<|Ju<|Jc<|Ja<|mv (i6 t14)<|Jf rfl rfl rfl (Q0 rfl rfl)<|mv (.bool (decide (t14 < 0)))<|?_
 refine split (fun hb => ?_) (fun hb => ?_)
 ·have H21 := Jw hb H20; clear H20
  refine pa<|pa<|pa<|pa<|Jf rfl rfl rfl (Q5 (v := .bool true) rfl rfl)<|ag (.bool true)<|Jd<|c_true rfl<|Jc<|Ja<|ag (.slice none 0 0)<|ag (i6 7)<|Jd<|Jy<|Q9 32 4<|?_
  obtain rfl := Option.some.inj H21
  refine Yp 0 1 rfl rfl (by decide)<|Xc 0 rfl (Vo (p := nn) rfl (AllC.nil (G := g_face_Person) (h := Yo) (sz := 4)))<|?_
  refine Vz (v1 := sl nn (([] : List (List Value)).length)) (v2 := i6 7) rfl rfl rfl (Zb nn (i := 0) rfl (by first | rfl | rw [(show (([] : List (List Value)).length) = ([] : List T_face_Person).length from (AllC.nil (G := g_face_Person) (h := Yo) (sz := 4)).len)]) (by first | exact Imp.refl _ | exact Imp.of (by rw [(show (([] : List (List Value)).length) = ([] : List T_face_Person).length from (AllC.nil (G := g_face_Person) (h := Yo) (sz := 4)).len)])))
 ·have H22 := Jx hb H20; clear H20
  refine mv v0<|mv (i6 a3)<|?_
  obtain ⟨t21, h_t21, H23⟩ := Je H22; clear H22
  refine Qf (fun w hF hS => k52 (Jp w) (f0.mono (hw.now hF)) h_t21) Tryz.call52 rfl rfl rfl<|Jf rfl rfl rfl (Q0 rfl rfl)<|Jf rfl rfl rfl (Qr (v := .bool (decide (t21 < 0))) rfl rfl)<|ag (.bool (decide (t21 < 0)))<|Jd<|?_
  refine Qm (b := (decide (t21 < 0))) rfl (fun hb => ?_) (fun hb => ?_)
  ·have H24 := Jw hb H23; clear H23
   refine Jc<|Ja<|ag (.slice none 0 0)<|ag (i6 7)<|Jd<|Jy<|Q9 32 4<|?_
   obtain rfl := Option.some.inj H24
   refine Yp 0 1 rfl rfl (by decide)<|Xc 0 rfl (Vo (p := nn) rfl (AllC.nil (G := g_face_Person) (h := Yo) (sz := 4)))<|?_
   refine Vz (v1 := sl nn (([] : List (List Value)).length)) (v2 := i6 7) rfl rfl rfl (Zb nn (i := 0) rfl (by first | rfl | rw [(show (([] : List (List Value)).length) = ([] : List T_face_Person).length from (AllC.nil (G := g_face_Person) (h := Yo) (sz := 4)).len)]) (by first | exact Imp.refl _ | exact Imp.of (by rw [(show (([] : List (List Value)).length) = ([] : List T_face_Person).length from (AllC.nil (G := g_face_Person) (h := Yo) (sz := 4)).len)])))
  ·have H25 := Jx hb H23; clear H23
   refine Jc<|Ja<|mv v1<|mv (i6 t14)<|?_
   obtain ⟨t27, h_t27, H26⟩ := Je H25; clear H25
   refine Jf rfl rfl rfl (Qe Tryz.underlying23 Tryz.sizeOf32 rfl rfl f1.frs (f1.ix h_t27))<|Jf rfl rfl rfl (Xv Tryz.runUnderlying32 rfl Tryz.sizeOf24 rfl rfl (Ym f1.frs (f1.ix h_t27)))<|J9 (fun w hF hS => J2 (f := (elC h v1 4)) (i := t14) (sz := 4) (j := 3) (v := (Qu h v1 4 (Int.toNat t14) 3)) Tryz.isAgg24 rfl rfl (f1.frs.row (hw.now hF)) (f1.ix h_t27) (V4 (J1 (f1.at h_t27)) rfl)) rfl rfl rfl<|mv (i6 a3)<|?_
   obtain ⟨t31, h_t31, H27⟩ := Je H26; clear H26
   refine Qf (fun w hF hS => k53 (Jp w) ((show FrS h 1 (Qu h v1 4 (Int.toNat t14) 3) (t27.Nots.map Jl) from (Jt (f1.at h_t27))).mono (hw.now hF)) h_t31) Tryz.call53 rfl rfl rfl<|ag (.bool t31)<|Jd<|?_
   refine Qm (b := t31) rfl (fun hb => ?_) (fun hb => ?_)
   ·have H28 := Jw hb H27; clear H27
    refine Jc<|Ja<|ag (.slice none 0 0)<|ag (i6 6)<|Jd<|Jy<|Q9 32 4<|?_
    obtain rfl := Option.some.inj H28
    refine Yp 0 1 rfl rfl (by decide)<|Xc 0 rfl (Vo (p := nn) rfl (AllC.nil (G := g_face_Person) (h := Yo) (sz := 4)))<|?_
    refine Vz (v1 := sl nn (([] : List (List Value)).length)) (v2 := i6 6) rfl rfl rfl (Zb nn (i := 0) rfl (by first | rfl | rw [(show (([] : List (List Value)).length) = ([] : List T_face_Person).length from (AllC.nil (G := g_face_Person) (h := Yo) (sz := 4)).len)]) (by first | exact Imp.refl _ | exact Imp.of (by rw [(show (([] : List (List Value)).length) = ([] : List T_face_Person).length from (AllC.nil (G := g_face_Person) (h := Yo) (sz := 4)).len)])))
   ·have H29 := Jx hb H27; clear H27
    refine Jv<|Jc<|Ja<|mv v1<|?_
    obtain ⟨t33, h_t33, H30⟩ := Je H29; clear H29
    refine Yk (J8 (rds := []) (G := fun x : (Option Addr × Nat) => sl x t33.length) (C := fun x : (Option Addr × Nat) => rowD 32 4 g_face_Person (sl x t33.length) t33.length t33) (fun w L' hF hS hi => k60 (Jp w) (f1.mono (hw.now hF)) h_t33) Tryz.call60 rfl) rfl rfl rfl (fun p => ?_)
    refine c_rowD 1 rfl (fun hp css hn pf => ?_)
    rw [hn]
    refine V7 1 rfl ?_
    refine Yv 0 1 rfl rfl (by decide) (fun _ _ => Qo) (fun hp_2 hle hle_2 => ?_)
    refine ag (sl p css.length)<|Jd<|?_
    try dsimp only [z1, z2, z5, z6, z7, z8]
    refine Jc ?_
    exact Qz (Kd.p :: Kd.p :: Kd.p :: Kd.p :: Kd.p :: Kd.p :: Kd.d [2] _ :: Kd.d [2] _ :: Kd.d [2] _ :: Kd.p :: Kd.t 3 [0] _ _ :: Kd.p :: Kd.p :: Kd.d [2] _ :: Kd.d [2] _ :: Kd.d [2] _ :: Kd.p :: Kd.t 4 [0] _ _ :: Kd.d [2] _ :: Kd.d [2] _ :: Kd.stk 53 44 2 :: Kd.d [2] _ :: Kd.d [2] _ :: Kd.stk 55 51 2 :: []) 2 mixed (by
     refine dm (sl p css.length)<|dm (i6 t14)<|dm (sl p css.length)<|dm (i6 t14)<|dm (sl p css.length)<|dm (i6 t14)<|?_
     have h_t40 := Jr H30
     have H31 := Jn H30
     refine Qc (fun w L' hF hS hi => J3 Tryz.underlying23 Tryz.sizeOf32 rfl rfl (Qy (i := 2) (E := 32) (sz := 4) (n := css.length) (a := p.1) (c := p.2) hS ((hi 2 (by simp)).trans rfl)) rfl ((pf.mono hle_2).ix h_t40)) rfl rfl<|Y5 rfl rfl (fun w L' hF hS hi => Xn Tryz.runUnderlying32 rfl Tryz.sizeOf24 rfl rfl (Qy (i := 2) (E := 32) (sz := 4) (n := css.length) (a := p.1) (c := p.2) hS ((hi 2 (by simp)).trans rfl)) ((pf.mono hle_2).ix h_t40))<|Qc (fun w L' hF hS hi => J2 (f := idC) (i := t14) (sz := 4) (j := 2) (v := (List.getD (List.getD css (Int.toNat t14) []) 2 undef)) Tryz.isAgg24 rfl rfl (Qy (i := 2) (E := 32) (sz := 4) (n := css.length) (a := p.1) (c := p.2) hS ((hi 2 (by simp)).trans rfl)) ((pf.mono hle_2).ix h_t40) (V4 (((pf.mono hle_2).eta h_t40).trans (J1 ((pf.mono hle_2).at h_t40))) rfl)) rfl rfl<|dm (i6 a3)<|?_
     have h_t44 := Jr H31
     have H32 := Jn H31
     refine Uc (Cv := fun v => J5 3 1 v (val (J4 (val (Jk t33 t14)).Likes a3)).length ((val (J4 (val (Jk t33 t14)).Likes a3)).map Jl)) (none, 0) (J8 (G := fun x : (Option Addr × Nat) => sl x (val (J4 (val (Jk t33 t14)).Likes a3)).length) (C := fun x : (Option Addr × Nat) => J5 3 1 (sl x (val (J4 (val (Jk t33 t14)).Likes a3)).length) (val (J4 (val (Jk t33 t14)).Likes a3)).length ((val (J4 (val (Jk t33 t14)).Likes a3)).map Jl)) (fun w L' hF hS hi => k62 (Jp w) ((show FrS hp_2 1 (List.getD (List.getD css (Int.toNat t14) []) 2 undef) ((val (Jk t33 t14)).Likes.map Jl) from (Jm ((pf.mono hle_2).at h_t40))).mono (Xi (i := 0) hS ((hi 0 (by simp)).trans rfl) Qo)) h_t44) Tryz.call62 rfl) (fun _ => rfl) rfl rfl rfl (fun p_2 => ?_)
     refine dm (sl p css.length)<|dm (i6 t14)<|?_
     have h_t47 := Jr H32
     have H33 := Jn H32
     refine Qc (fun w L' hF hS hi => J3 Tryz.underlying23 Tryz.sizeOf32 rfl rfl (Qy (i := 2) (E := 32) (sz := 4) (n := css.length) (a := p.1) (c := p.2) hS ((hi 2 (by simp)).trans rfl)) rfl ((pf.mono hle_2).ix h_t47)) rfl rfl<|Y5 rfl rfl (fun w L' hF hS hi => Xn Tryz.runUnderlying32 rfl Tryz.sizeOf24 rfl rfl (Qy (i := 2) (E := 32) (sz := 4) (n := css.length) (a := p.1) (c := p.2) hS ((hi 2 (by simp)).trans rfl)) ((pf.mono hle_2).ix h_t47))<|Qc (fun w L' hF hS hi => J2 (f := idC) (i := t14) (sz := 4) (j := 3) (v := (List.getD (List.getD css (Int.toNat t14) []) 3 undef)) Tryz.isAgg24 rfl rfl (Qy (i := 2) (E := 32) (sz := 4) (n := css.length) (a := p.1) (c := p.2) hS ((hi 2 (by simp)).trans rfl)) ((pf.mono hle_2).ix h_t47) (V4 (((pf.mono hle_2).eta h_t47).trans (J1 ((pf.mono hle_2).at h_t47))) rfl)) rfl rfl<|dm (i6 a3)<|?_
     have h_t51 := Jr H33
     have H34 := Jn H33
     refine Uc (Cv := fun v => roH hp_2 1 v (val (Qv (val (Jk t33 t14)).Nots a3)).length ((val (Qv (val (Jk t33 t14)).Nots a3)).map Jl)) (none, 0) (J8 (G := fun x : (Option Addr × Nat) => sl x (val (Qv (val (Jk t33 t14)).Nots a3)).length) (C := fun x : (Option Addr × Nat) => roH hp_2 1 (sl x (val (Qv (val (Jk t33 t14)).Nots a3)).length) (val (Qv (val (Jk t33 t14)).Nots a3)).length ((val (Qv (val (Jk t33 t14)).Nots a3)).map Jl)) (fun w L' hF hS hi => k61 (h := hp_2) (know_pool (i := 0) hS ((hi 0 (by simp)).trans rfl) Qo) (show FrS hp_2 1 (List.getD (List.getD css (Int.toNat t14) []) 3 undef) ((val (Jk t33 t14)).Nots.map Jl) from (Jt ((pf.mono hle_2).at h_t47))) h_t51) Tryz.call61 rfl) (fun _ => rfl) rfl rfl rfl (fun p_3 => ?_)
     have h_t52 := Jr H34
     have H35 := Jn H34
     refine Qc (fun w L' hF hS hi => J3 Tryz.underlying23 Tryz.sizeOf32 rfl rfl (Qy (i := 2) (E := 32) (sz := 4) (n := css.length) (a := p.1) (c := p.2) hS ((hi 2 (by simp)).trans rfl)) rfl ((pf.mono hle_2).ix h_t52)) rfl rfl<|Y5 rfl rfl (fun w L' hF hS hi => Xn Tryz.runUnderlying32 rfl Tryz.sizeOf24 rfl rfl (Qy (i := 2) (E := 32) (sz := 4) (n := css.length) (a := p.1) (c := p.2) hS ((hi 2 (by simp)).trans rfl)) ((pf.mono hle_2).ix h_t52))<|?_
     have h_l2 := Jr H35
     have H36 := Jn H35
     refine W4 (i := 2) (x := sl p_2 (val (J4 (val (Jk t33 t14)).Likes a3)).length) (va := (Zn p.1 (Int.toNat t14 * 4 + 2))) Tryz.sizeOf24 rfl rfl rfl rfl rfl rfl (Jbd (E := 32) (sz := 4) (n := css.length) (a := p.1) (c := p.2) (css := css) (Imp.toO (Imp.refl _)) rfl (pf.mono hle_2).len h_t52 rfl rfl) ?_
     have h_t54 := Jr H36
     have H37 := Jn H36
     refine Qc (fun w L' hF hS hi => J3 Tryz.underlying23 Tryz.sizeOf32 rfl rfl (offOfI (Imp.toO (Uy (E := 32) (sz := 4) (n := css.length) (a := p.1) (c := p.2) (css := css) (j := 2) (x := sl p_2 (val (J4 (val (Jk t33 t14)).Likes a3)).length) (Imp.refl _) (pf.mono hle_2).len h_t52 rfl rfl)) hS ((hi 2 (by simp)).trans rfl)) (rfl.trans (Qt _ _ _ _).symm) (ixR (lenR (pf.mono hle_2).len h_l2) h_t54)) rfl rfl<|Y5 rfl rfl (fun w L' hF hS hi => Xn Tryz.runUnderlying32 rfl Tryz.sizeOf24 rfl rfl (offOfI (Imp.toO (Uy (E := 32) (sz := 4) (n := css.length) (a := p.1) (c := p.2) (css := css) (j := 2) (x := sl p_2 (val (J4 (val (Jk t33 t14)).Likes a3)).length) (Imp.refl _) (pf.mono hle_2).len h_t52 rfl rfl)) hS ((hi 2 (by simp)).trans rfl)) (ixR (lenR (pf.mono hle_2).len h_l2) h_t54))<|?_
     have h_l2_2 := Jr H37
     have H38 := Jn H37
     refine W4 (i := 2) (x := sl p_3 (val (Qv (val (Jk t33 t14)).Nots a3)).length) (va := (Zn p.1 (Int.toNat t14 * 4 + 3))) Tryz.sizeOf24 rfl rfl rfl rfl rfl rfl (Jbd (E := 32) (sz := 4) (n := css.length) (a := p.1) (c := p.2) (css := (setR css t14 2 (sl p_2 (val (J4 (val (Jk t33 t14)).Likes a3)).length))) (Imp.toO (Uy (E := 32) (sz := 4) (n := css.length) (a := p.1) (c := p.2) (css := css) (j := 2) (x := sl p_2 (val (J4 (val (Jk t33 t14)).Likes a3)).length) (Imp.refl _) (pf.mono hle_2).len h_t52 rfl rfl)) (rfl.trans (Qt _ _ _ _).symm) (lenR (pf.mono hle_2).len h_l2) h_t54 rfl rfl)<|Y3<|Xc 2 rfl (Uy (E := 32) (sz := 4) (n := css.length) (a := p.1) (c := p.2) (css := (setR css t14 2 (sl p_2 (val (J4 (val (Jk t33 t14)).Likes a3)).length))) (j := 3) (x := sl p_3 (val (Qv (val (Jk t33 t14)).Nots a3)).length) (Uy (E := 32) (sz := 4) (n := css.length) (a := p.1) (c := p.2) (css := css) (j := 2) (x := sl p_2 (val (J4 (val (Jk t33 t14)).Likes a3)).length) (Imp.refl _) (pf.mono hle_2).len h_t52 rfl rfl) (lenR (pf.mono hle_2).len h_l2) h_t54 rfl rfl)<|?_
     refine Yq (Φ := fun H_ => FrS H_ 1 (sl p_2 (val (J4 (val (Jk t33 t14)).Likes a3)).length) ((val (J4 (val (Jk t33 t14)).Likes a3)).map Jl)) 0 3 rfl rfl (by decide) (fun _ _ => Qo) (fz_own _) (fun hp_3 hle_3 hf => ?_)
     have pf_2 : AllC g_face_Person hp_3 4 (setR css t14 2 (sl p_2 (val (J4 (val (Jk t33 t14)).Likes a3)).length)) (val (Q6 t33 t14 (⟨(val (Jk t33 t14)).Id, (val (Jk t33 t14)).Name, (val (J4 (val (Jk t33 t14)).Likes a3)), (val (Jk t33 t14)).Nots⟩ : T_face_Person))) := AllC.setR ((pf.mono hle_2).mono hle_3) h_t52 h_l2 rfl (by obtain ⟨q0_, q1_, q2_, q3_⟩ := ((pf.mono hle_2).mono hle_3).at h_t52; exact ⟨q0_, q1_, hf, q3_⟩)
     refine Yq (Φ := fun H_ => FrS H_ 1 (sl p_3 (val (Qv (val (Jk t33 t14)).Nots a3)).length) ((val (Qv (val (Jk t33 t14)).Nots a3)).map Jl)) 0 4 rfl rfl (by decide) (fun _ _ => Qo) (fz_roh _ (fun b o h_ => hle_3 b o ((fun _ _ h_ => h_) b o h_))) (fun hp_4 hle_4 hf_2 => ?_)
     have pf_3 : AllC g_face_Person hp_4 4 (setR (setR css t14 2 (sl p_2 (val (J4 (val (Jk t33 t14)).Likes a3)).length)) t14 3 (sl p_3 (val (Qv (val (Jk t33 t14)).Nots a3)).length)) (val (Q6 (val (Q6 t33 t14 (⟨(val (Jk t33 t14)).Id, (val (Jk t33 t14)).Name, (val (J4 (val (Jk t33 t14)).Likes a3)), (val (Jk t33 t14)).Nots⟩ : T_face_Person))) t14 (⟨(val (Jk (val (Q6 t33 t14 (⟨(val (Jk t33 t14)).Id, (val (Jk t33 t14)).Name, (val (J4 (val (Jk t33 t14)).Likes a3)), (val (Jk t33 t14)).Nots⟩ : T_face_Person))) t14)).Id, (val (Jk (val (Q6 t33 t14 (⟨(val (Jk t33 t14)).Id, (val (Jk t33 t14)).Name, (val (J4 (val (Jk t33 t14)).Likes a3)), (val (Jk t33 t14)).Nots⟩ : T_face_Person))) t14)).Name, (val (Jk (val (Q6 t33 t14 (⟨(val (Jk t33 t14)).Id, (val (Jk t33 t14)).Name, (val (J4 (val (Jk t33 t14)).Likes a3)), (val (Jk t33 t14)).Nots⟩ : T_face_Person))) t14)).Likes, (val (Qv (val (Jk t33 t14)).Nots a3))⟩ : T_face_Person))) := AllC.setR (pf_2.mono hle_4) h_t54 h_l2_2 rfl (by obtain ⟨q0_, q1_, q2_, q3_⟩ := (pf_2.mono hle_4).at h_t54; exact ⟨q0_, q1_, q2_, hf_2⟩)
     try dsimp only [z1, z2, z5, z6, z7, z8]
     refine Jc<|Ja<|mv (sl p css.length)<|ag (sl p css.length)<|ag (i6 0)<|Jd<|?_
     try dsimp only [z1, z2, z5, z6, z7, z8]
     refine Jy ?_
     obtain rfl := Option.some.inj H38
     refine Yp 0 2 rfl rfl (by decide)<|Xc 0 rfl (Vo (p := p) ((rfl.trans (Qt _ _ _ _).symm).trans (Qt _ _ _ _).symm) pf_3)<|?_
     refine Vz (v1 := sl p css.length) (v2 := i6 0) rfl rfl rfl (Zb p (i := 0) rfl (by first | rfl | rw [(show css.length = (val (Q6 (val (Q6 t33 t14 (⟨(val (Jk t33 t14)).Id, (val (Jk t33 t14)).Name, (val (J4 (val (Jk t33 t14)).Likes a3)), (val (Jk t33 t14)).Nots⟩ : T_face_Person))) t14 (⟨(val (Jk (val (Q6 t33 t14 (⟨(val (Jk t33 t14)).Id, (val (Jk t33 t14)).Name, (val (J4 (val (Jk t33 t14)).Likes a3)), (val (Jk t33 t14)).Nots⟩ : T_face_Person))) t14)).Id, (val (Jk (val (Q6 t33 t14 (⟨(val (Jk t33 t14)).Id, (val (Jk t33 t14)).Name, (val (J4 (val (Jk t33 t14)).Likes a3)), (val (Jk t33 t14)).Nots⟩ : T_face_Person))) t14)).Name, (val (Jk (val (Q6 t33 t14 (⟨(val (Jk t33 t14)).Id, (val (Jk t33 t14)).Name, (val (J4 (val (Jk t33 t14)).Likes a3)), (val (Jk t33 t14)).Nots⟩ : T_face_Person))) t14)).Likes, (val (Qv (val (Jk t33 t14)).Nots a3))⟩ : T_face_Person))).length from (((rfl.trans (Qt _ _ _ _).symm).trans (Qt _ _ _ _).symm).trans pf_3.len))]) (by first | exact Imp.refl _ | exact Imp.of (by rw [(show css.length = (val (Q6 (val (Q6 t33 t14 (⟨(val (Jk t33 t14)).Id, (val (Jk t33 t14)).Name, (val (J4 (val (Jk t33 t14)).Likes a3)), (val (Jk t33 t14)).Nots⟩ : T_face_Person))) t14 (⟨(val (Jk (val (Q6 t33 t14 (⟨(val (Jk t33 t14)).Id, (val (Jk t33 t14)).Name, (val (J4 (val (Jk t33 t14)).Likes a3)), (val (Jk t33 t14)).Nots⟩ : T_face_Person))) t14)).Id, (val (Jk (val (Q6 t33 t14 (⟨(val (Jk t33 t14)).Id, (val (Jk t33 t14)).Name, (val (J4 (val (Jk t33 t14)).Likes a3)), (val (Jk t33 t14)).Nots⟩ : T_face_Person))) t14)).Name, (val (Jk (val (Q6 t33 t14 (⟨(val (Jk t33 t14)).Id, (val (Jk t33 t14)).Name, (val (J4 (val (Jk t33 t14)).Likes a3)), (val (Jk t33 t14)).Nots⟩ : T_face_Person))) t14)).Likes, (val (Qv (val (Jk t33 t14)).Nots a3))⟩ : T_face_Person))).length from (((rfl.trans (Qt _ _ _ _).symm).trans (Qt _ _ _ _).symm).trans pf_3.len))])))
     ) (by kernel_rfl)
end Go.Proofs.YthhaabhnlndnoaaGreat

/- FaceChanges, the reference: SortOf, MergeFolk: the walks, printed by our generator; each follows its model. Conditions: the model yields a value. -/
namespace Go.Proofs.YthhaabhnlndnoaaGreat
open Go Go.Vc Go.Md Go.M Go.Lx
set_option maxRecDepth 100000
set_option maxHeartbeats 4000000
set_option linter.unusedVariables false
theorem k135 {a0 : (Nat → Int)} {a1 : (Nat → Int)} {r : Int} (H : R_FarOf a0 a1 = some r) : Ret Tryz.prog 135 [.agg #[i6 (a0 0), i6 (a0 1), i6 (a0 2), i6 (a0 3), i6 (a0 4), i6 (a0 5), i6 (a0 6), i6 (a0 7), i6 (a0 8), i6 (a0 9), i6 (a0 10), i6 (a0 11)], .agg #[i6 (a1 0), i6 (a1 1), i6 (a1 2), i6 (a1 3), i6 (a1 4), i6 (a1 5), i6 (a1 6), i6 (a1 7), i6 (a1 8), i6 (a1 9), i6 (a1 10), i6 (a1 11)]] (i6 r) := by
 refine Vr (n := 28) Tryz.func135 rfl rfl rfl (fun wd => ?_)
 refine Jc<|Ja<|?_
 refine Wp (cs := [i6 (a0 0), i6 (a0 1), i6 (a0 2), i6 (a0 3), i6 (a0 4), i6 (a0 5), i6 (a0 6), i6 (a0 7), i6 (a0 8), i6 (a0 9), i6 (a0 10), i6 (a0 11)]) rfl rfl rfl rfl (fun b2 => ?_)
 refine Wp (cs := [i6 (a1 0), i6 (a1 1), i6 (a1 2), i6 (a1 3), i6 (a1 4), i6 (a1 5), i6 (a1 6), i6 (a1 7), i6 (a1 8), i6 (a1 9), i6 (a1 10), i6 (a1 11)]) rfl rfl rfl rfl (fun b3 => ?_)
 refine ag (i6 0)<|Jd<|Jc<|Ja<|ag (i6 0)<|Jd<|Jc<|Jc<|Ja<|Uz (i := 0) (vs := [i6 (a0 0), i6 (a0 1), i6 (a0 2), i6 (a0 3), i6 (a0 4), i6 (a0 5), i6 (a0 6), i6 (a0 7), i6 (a0 8), i6 (a0 9), i6 (a0 10), i6 (a0 11)]) Tryz.isAgg47 Tryz.sizeOf47 rfl rfl rfl rfl rfl<|mv (i6 0)<|Jd<|Ju<|c_dr 0<|?_
 try dsimp only [z1, z2, z3, z4, z5, z6, z7, z8]
 refine X6 (σ := Int × Int) (τ := Unit) (fun next1 s => R_FarOf_l1 a0 a1 next1 s.1 s.2) (fun s t => [(3, .pointer (some ⟨b3, 0, none⟩)), (5, i6 s.1), (8, .agg #[i6 (a0 0), i6 (a0 1), i6 (a0 2), i6 (a0 3), i6 (a0 4), i6 (a0 5), i6 (a0 6), i6 (a0 7), i6 (a0 8), i6 (a0 9), i6 (a0 10), i6 (a0 11)]), (9, i6 s.2)]) (fun s t => [Q1 b3 [i6 (a1 0), i6 (a1 1), i6 (a1 2), i6 (a1 3), i6 (a1 4), i6 (a1 5), i6 (a1 6), i6 (a1 7), i6 (a1 8), i6 (a1 9), i6 (a1 10), i6 (a1 11)] 47]) (fun s t => True) (0, 0) () [0] H (by exact trivial) (by exact ⟨rfl, rfl, rfl, rfl, trivial⟩) (by decide) rfl ?_
 rintro ⟨x5_2, x9_2⟩ _ m1 gg H12 _
 clear H
 try dsimp only at H12
 generalize hn1 : it (fun next1 s => R_FarOf_l1 a0 a1 next1 s.1 s.2) m1 = next1 at H12
 try dsimp only
 refine Jc<|Ja<|Jf rfl rfl rfl (Q0 rfl rfl)<|Jd<|Jc<|?_
 refine Qm (b := (decide (x9_2 < 12))) rfl (fun hb => ?_) (fun hb => ?_)
 ·have H13 := Jw hb H12; clear H12
  refine Jv<|Jc<|Ju<|Jc<|Ja<|mv (i6 x9_2)<|?_
  obtain ⟨k12, h_k12, H14⟩ := Je H13; clear H13
  refine Jf rfl rfl rfl (r_indexAG (f := fun j_ => i6 (a0 j_)) Tryz.runUnderlying47 Tryz.isAgg3 Tryz.sizeOf3 rfl rfl rfl h_k12)<|ag (i6 x9_2)<|ag (i6 (a0 k12))<|Jd<|?_
  exact Qz (Kd.p :: Kd.p :: Kd.p :: Kd.p :: Kd.d [0] _ :: Kd.p :: Kd.p :: Kd.p :: Kd.p :: Kd.d [0] _ :: Kd.p :: Kd.p :: Kd.p :: Kd.p :: []) 0 mixed (by
   refine dm (i6 x5_2)<|dm (i6 (a0 k12))<|dm (i6 x9_2)<|?_
   have h_k16 := Jr H14
   have H15 := Jn H14
   refine Qa rfl rfl (r_indexPG Tryz.runUnderlying47 Tryz.sizeOf3 rfl rfl h_k16)<|Z5 (i := 0) (v := i6 (a1 (val (gIx 12 x9_2)))) Tryz.isAgg3 rfl rfl rfl (rg_arr (pre := []) (post := []) (f := fun j_ => [i6 (a1 j_)]) (n := 12) (sz := 1) (q := 0) rfl rfl (fun _ => rfl) (gIx_lt h_k16) rfl)<|?_
   have h_t18 := Jr H15
   have H16 := Jn H15
   refine Qa rfl rfl (Zl rfl rfl h_t18)<|dm (i6 (a0 k12))<|dm (i6 x9_2)<|?_
   have h_k21 := Jr H16
   have H17 := Jn H16
   refine Qa rfl rfl (r_indexPG Tryz.runUnderlying47 Tryz.sizeOf3 rfl rfl h_k21)<|Z5 (i := 0) (v := i6 (a1 (val (gIx 12 x9_2)))) Tryz.isAgg3 rfl rfl rfl (rg_arr (pre := []) (post := []) (f := fun j_ => [i6 (a1 j_)]) (n := 12) (sz := 1) (q := 0) rfl rfl (fun _ => rfl) (gIx_lt h_k21) rfl)<|?_
   have h_t23 := Jr H17
   have H18 := Jn H17
   refine Qa rfl rfl (Zl rfl rfl h_t23) ?_
   have h_t24 := Jr H18
   have H19 := Jn H18
   refine Qa rfl rfl (r_mulG rfl rfl h_t24) ?_
   have h_t25 := Jr H19
   have H20 := Jn H19
   refine Qa rfl rfl (Qp rfl rfl h_t25)<|Qa rfl rfl (Uj (v := i6 (val (gI (x5_2 + (val (gI ((val (gI ((a0 k12) - (a1 (val (gIx 12 x9_2)))))) * (val (gI ((a0 k12) - (a1 (val (gIx 12 x9_2))))))))))))) rfl)<|Y3<|Ja<|?_
   obtain ⟨t26, h_t26, H21⟩ := Je H20; clear H20
   refine Jf rfl rfl rfl (Qp rfl rfl h_t26)<|mv (i6 t26)<|Jd<|?_
   refine Js ((val (gI (x5_2 + (val (gI ((val (gI ((a0 k12) - (a1 (val (gIx 12 x9_2)))))) * (val (gI ((a0 k12) - (a1 (val (gIx 12 x9_2)))))))))))), t26) () m1 [0] (by exact ⟨rfl, rfl, rfl, rfl, trivial⟩) (by decide) rfl (by exact ⟨(by subst hn1; exact H21), trivial⟩) (Nat.lt_succ_self _)
   ) (by kernel_rfl)
 ·have H22 := Jx hb H12; clear H12
  refine Q3<|Jc<|Ja<|mv (i6 x5_2)<|ag (i6 x5_2)<|Jd<|Jy<|?_
  obtain rfl := Option.some.inj H22
  refine Qw (v := i6 x5_2) rfl rfl (Yz rfl)
theorem k110 {a0 : (List T_face_Likeness)} {v0 : Value} {a1 : T_face_Person} {v1_2 : Value} {v1_3 : Value} {a2 : Int} {r : Int} {w : World} {h : Qg} (hw : Know h w Yl) (f0 : FrS h 14 v0 (a0.map Jq)) (f1_2 : FrS h 1 v1_2 (a1.Likes.map Jl)) (f1_3 : FrS h 1 v1_3 (a1.Nots.map Jl)) (H : Wf a0 a1 a2 = some r) : Does Tryz.prog 110 (List.toArray [v0, .agg #[i6 a1.Id, Xt a1.Name, v1_2, v1_3], i6 a2]) w (fun v w' => v = (i6 r) ∧ Grow w w') := by
 refine enter (n := 66) Tryz.func110 rfl rfl rfl Yl [] (Sat.nil _ _)<|Jc<|Ja<|?_
 refine Wp (cs := [i6 a1.Id, Xt a1.Name, v1_2, v1_3]) rfl rfl rfl rfl (fun b2 => ?_)
 refine ag (i6 0)<|Jd<|Jc<|Ja<|ag (.slice none 0 0)<|Jd<|?_
 refine Xf (r := r) (σ := (List Int)) (τ := (Option Addr × Nat)) (fun s => Jbk s) (fun s t => [(7, sl t s.length)]) (fun s t => [J5 3 1 (sl t s.length) s.length (s.map Jl)]) (fun s t => True) ?_ ?_
 ·refine Jc<|Ja<|Jf rfl rfl rfl (J7 Tryz.runUnderlying32 rfl Tryz.sizeOf24 rfl rfl)<|Qq (i := 0) (v := v1_2) Tryz.isAgg24 rfl rfl rfl rfl rfl<|Jf rfl rfl rfl (Y0 Tryz.underlying24 rfl f1_2 rfl)<|mv (i6 0)<|Jd<|Ju<|c_dr 0<|?_
  try dsimp only [z1, z2, z3, z4, z5, z6, z7, z8]
  refine Q9 3 1 ?_
  refine X6 (σ := Int × (List Int)) (τ := (Option Addr × Nat)) (fun next4 s => Jbn a0 a1 a2 next4 s.1 s.2) (fun s t => [(0, v0), (2, i6 a2), (7, sl t s.2.length), (14, v1_2), (15, i6 (a1.Likes.length : Int)), (16, i6 s.1)]) (fun s t => [J5 3 1 (sl t s.2.length) s.2.length (s.2.map Jl)]) (fun s t => True) (0, ([] : List Int)) nn [0] H (by exact trivial) (by exact ⟨rfl, rfl, rfl, rfl, rfl, rfl, trivial⟩) (by decide) rfl ?_
  rintro ⟨x16_2, l_3⟩ p_2 m4 gg H41 _
  clear H
  try dsimp only at H41
  generalize hn4 : it (fun next4 s => Jbn a0 a1 a2 next4 s.1 s.2) m4 = next4 at H41
  try dsimp only
  refine Jc<|Ja<|Jf rfl rfl rfl (Q0 rfl rfl)<|Jd<|Jc<|?_
  refine Qm (b := (decide (x16_2 < (a1.Likes.length : Int)))) rfl (fun hb => ?_) (fun hb => ?_)
  ·have H42 := Jw hb H41; clear H41
   refine Jv ?_
   refine Xf (r := r) (σ := (List Int)) (τ := (Option Addr × Nat)) (fun s => Jcx x16_2 next4 s) (fun s t => [(0, v0), (2, i6 a2), (7, sl t s.length), (14, v1_2), (15, i6 (a1.Likes.length : Int)), (16, i6 x16_2)]) (fun s t => [J5 3 1 (sl t s.length) s.length (s.map Jl)]) (fun s t => True) ?_ ?_
   ·refine Ju<|Jc<|Ja<|?_
    obtain ⟨t18, h_t18, H45⟩ := Je H42; clear H42
    refine Jf rfl rfl rfl (Qe Tryz.underlying24 Tryz.sizeOf3 rfl rfl f1_2 h_t18)<|J9 (fun w hF hS => J2 (f := Jl) (i := x16_2) (sz := 1) (j := 0) (v := i6 t18) Tryz.isAgg3 rfl rfl (f1_2.row (hw.now hF)) h_t18 rfl) rfl rfl rfl<|ag (i6 t18)<|Jd<|Jc<|Ja<|mv (i6 t18)<|mv (i6 a2)<|Jf rfl rfl rfl (r_neq rfl rfl)<|Jd<|?_
    refine Qm (b := (decide (t18 ≠ a2))) rfl (fun hb => ?_) (fun hb => ?_)
    ·have H46 := Jw hb H45; clear H45
     exact Qz (Kd.p :: Kd.p :: Kd.p :: Kd.p :: Kd.d [] _ :: Kd.p :: Kd.p :: Kd.d [] _ :: Kd.p :: Kd.p :: Kd.p :: Kd.d [] _ :: Kd.p :: Kd.p :: Kd.d [] _ :: Kd.d [] _ :: Kd.ns 1 [_] 3 1 :: Kd.t 0 [1] _ _ :: Kd.p :: []) 1 mixed (by
      refine dm (sl p_2 l_3.length)<|dm v0<|dm v0<|dm (i6 t18)<|?_
      have h_t27 := Jr H46
      have H47 := Jn H46
      refine Uk (fun w L' hF hS hi => k52 (Jp w) (f0.mono (hw.now hF)) h_t27) Tryz.call52 rfl rfl ?_
      have h_t28 := Jr H47
      have H48 := Jn H47
      refine Qa rfl rfl (Qe Tryz.underlying22 Tryz.sizeOf52 rfl rfl f0 h_t28)<|Qa rfl rfl (Xv Tryz.runUnderlying52 rfl Tryz.sizeOf47 rfl rfl (Ym f0 h_t28))<|Wb (fun w hF => Qj (f := Jq) (i := (val (Qb a0 t18))) (sz := 14) (j := 2) (vs := [i6 ((val (Jk a0 (val (Qb a0 t18)))).Vec 0), i6 ((val (Jk a0 (val (Qb a0 t18)))).Vec 1), i6 ((val (Jk a0 (val (Qb a0 t18)))).Vec 2), i6 ((val (Jk a0 (val (Qb a0 t18)))).Vec 3), i6 ((val (Jk a0 (val (Qb a0 t18)))).Vec 4), i6 ((val (Jk a0 (val (Qb a0 t18)))).Vec 5), i6 ((val (Jk a0 (val (Qb a0 t18)))).Vec 6), i6 ((val (Jk a0 (val (Qb a0 t18)))).Vec 7), i6 ((val (Jk a0 (val (Qb a0 t18)))).Vec 8), i6 ((val (Jk a0 (val (Qb a0 t18)))).Vec 9), i6 ((val (Jk a0 (val (Qb a0 t18)))).Vec 10), i6 ((val (Jk a0 (val (Qb a0 t18)))).Vec 11)]) Tryz.isAgg47 Tryz.sizeOf47 rfl rfl (f0.row (hw.now hF)) h_t28 rfl) rfl rfl<|dm v0<|dm v0<|dm (i6 a2)<|?_
      have h_t34 := Jr H48
      have H49 := Jn H48
      refine Uk (fun w L' hF hS hi => k52 (Jp w) (f0.mono (hw.now hF)) h_t34) Tryz.call52 rfl rfl ?_
      have h_t35 := Jr H49
      have H50 := Jn H49
      refine Qa rfl rfl (Qe Tryz.underlying22 Tryz.sizeOf52 rfl rfl f0 h_t35)<|Qa rfl rfl (Xv Tryz.runUnderlying52 rfl Tryz.sizeOf47 rfl rfl (Ym f0 h_t35))<|Wb (fun w hF => Qj (f := Jq) (i := (val (Qb a0 a2))) (sz := 14) (j := 2) (vs := [i6 ((val (Jk a0 (val (Qb a0 a2)))).Vec 0), i6 ((val (Jk a0 (val (Qb a0 a2)))).Vec 1), i6 ((val (Jk a0 (val (Qb a0 a2)))).Vec 2), i6 ((val (Jk a0 (val (Qb a0 a2)))).Vec 3), i6 ((val (Jk a0 (val (Qb a0 a2)))).Vec 4), i6 ((val (Jk a0 (val (Qb a0 a2)))).Vec 5), i6 ((val (Jk a0 (val (Qb a0 a2)))).Vec 6), i6 ((val (Jk a0 (val (Qb a0 a2)))).Vec 7), i6 ((val (Jk a0 (val (Qb a0 a2)))).Vec 8), i6 ((val (Jk a0 (val (Qb a0 a2)))).Vec 9), i6 ((val (Jk a0 (val (Qb a0 a2)))).Vec 10), i6 ((val (Jk a0 (val (Qb a0 a2)))).Vec 11)]) Tryz.isAgg47 Tryz.sizeOf47 rfl rfl (f0.row (hw.now hF)) h_t35 rfl) rfl rfl<|?_
      have h_t38 := Jr H50
      have H51 := Jn H50
      refine d_call (k135 h_t38) Tryz.call135 rfl rfl ?_
      refine d_newS rfl rfl (Z7 (vs := [i6 (val (R_FarOf (val (Jk a0 (val (Qb a0 t18)))).Vec (val (Jk a0 (val (Qb a0 a2)))).Vec))]) (cs := [i6 (val (R_FarOf (val (Jk a0 (val (Qb a0 t18)))).Vec (val (Jk a0 (val (Qb a0 a2)))).Vec))]) Tryz.underlying24 Tryz.sizeOf3 Tryz.zeroValue3 rfl rfl rfl rfl rfl) rfl (fun b3 => ?_)
      have h_l40 := Jr H51
      have H52 := Jn H51
      refine d_turn (Cv := fun v => J5 3 1 v (val (gApp 8 l_3 ([(val (R_FarOf (val (Jk a0 (val (Qb a0 t18)))).Vec (val (Jk a0 (val (Qb a0 a2)))).Vec))] : List Int))).length ((val (gApp 8 l_3 ([(val (R_FarOf (val (Jk a0 (val (Qb a0 t18)))).Vec (val (Jk a0 (val (Qb a0 a2)))).Vec))] : List Int))).map Jl)) (none, 0) (Ur (i := 0) (hn := rfl) (rds := [1]) (p := p_2) (sz := 1) (by_ := 8) (f := Jl) (ys := l_3) (ls := ([(val (R_FarOf (val (Jk a0 (val (Qb a0 t18)))).Vec (val (Jk a0 (val (Qb a0 a2)))).Vec))] : List Int)) (V := .slice (some ⟨b3, 0, none⟩) 1 1) Tryz.underlying24 (We Tryz.typeInfo3) rfl rfl rfl rfl rfl rfl rfl rfl rfl rfl (fun w L' hF hS hi => row_box (i := 1) hS ((hi 1 (by simp)).trans rfl) rfl rfl) (fun _ => rfl) (fun _ => rfl) h_l40) (fun _ => rfl) rfl rfl (fun p_4 => ?_)
      refine Qa rfl rfl (Uj (v := .slice p_4.1 (val (gApp 8 l_3 ([(val (R_FarOf (val (Jk a0 (val (Qb a0 t18)))).Vec (val (Jk a0 (val (Qb a0 a2)))).Vec))] : List Int))).length p_4.2) rfl)<|Y3<|?_
      refine Js (val (gApp 8 l_3 ([(val (R_FarOf (val (Jk a0 (val (Qb a0 t18)))).Vec (val (Jk a0 (val (Qb a0 a2)))).Vec))] : List Int))) p_4 0 [0] (by exact ⟨rfl, rfl, rfl, rfl, rfl, rfl, trivial⟩) (by decide) rfl (by exact ⟨H52, trivial⟩) (Nat.lt_succ_self _)
      ) (by kernel_rfl)
    ·have H53 := Jx hb H45; clear H45
     refine Jv ?_
     refine Js l_3 p_2 0 [0] (by exact ⟨rfl, rfl, rfl, rfl, rfl, rfl, trivial⟩) (by decide) rfl (by exact ⟨H53, trivial⟩) (Nat.lt_succ_self _)
   ·rintro l_4 p_3 gg H43 _
    try dsimp only at H43
    try dsimp only
    refine Ja ?_
    obtain ⟨t41, h_t41, H44⟩ := Je H43; clear H43
    refine Jf rfl rfl rfl (Qp rfl rfl h_t41)<|mv (i6 t41)<|Jd<|?_
    refine Js (t41, l_4) p_3 m4 [0] (by exact ⟨rfl, rfl, rfl, rfl, rfl, rfl, trivial⟩) (by decide) rfl (by exact ⟨(by subst hn4; exact H44), trivial⟩) (Nat.lt_succ_self _)
  ·have H54 := Jx hb H41; clear H41
   refine Q3 ?_
   refine Js l_3 p_2 0 [0] (by exact ⟨rfl, trivial⟩) (by decide) rfl (by exact ⟨H54, trivial⟩) (Nat.lt_succ_self _)
 ·rintro l p gg H28 _
  try dsimp only at H28
  try dsimp only
  refine Jc<|Jc<|Ja<|mv (sl p l.length)<|Jf rfl rfl rfl (Jaw Tryz.underlying24 rfl)<|Jf rfl rfl rfl (Uv rfl rfl)<|Jd<|?_
  refine Qm (b := (decide ((l.length : Int) = 0))) rfl (fun hb => ?_) (fun hb => ?_)
  ·have H29 := Jw hb H28; clear H28
   refine Jc<|Ja<|ag (i6 774192)<|Jd<|Jy<|?_
   obtain rfl := Option.some.inj H29
   refine Qw (v := i6 774192) rfl rfl (Yz rfl)
  ·have H30 := Jx hb H28; clear H28
   refine Jv<|Jc<|Ja<|mv (sl p l.length)<|?_
   obtain ⟨t46, h_t46, H31⟩ := Je H30; clear H30
   refine Y7 (Xj (i := 0) (rds := []) (G := fun x : Unit => .tuple #[]) (C := fun x : Unit => J5 3 1 (sl p l.length) l.length (t46.map Jl)) rfl (fun w L' S hF hS hi hp hlt ho hA => k86 hp hlt (Y4 w S) rfl h_t46) Tryz.call86 rfl) rfl rfl rfl (fun _ => ?_)
   refine Zq (fun w hF hS => lenOf (i := 0) hS rfl) (fun hl_ => ?_)
   have hl : l.length = t46.length := by simpa using hl_.symm
   refine Jd<|Jc<|Ja<|mv (sl p l.length)<|mv (sl p l.length)<|Jf rfl rfl rfl (r_lenN Tryz.underlying24 rfl hl)<|Jf rfl rfl rfl (r_min rfl rfl)<|?_
   obtain ⟨t51, h_t51, H32⟩ := Je H31; clear H31
   refine J9 (v := sl p t51.length) (fun w hF hS => Jbb (xs := t46) Tryz.underlying24 Tryz.sizeOf3 rfl rfl hl (capOf (i := 0) hS rfl) h_t51) rfl rfl rfl<|ag (sl p t51.length)<|Jd<|Jc<|Ja<|ag (i6 0)<|Jd<|?_
   refine Xf (r := r) (σ := Int) (τ := Unit) (fun s => R_ScoreOf_j2 t51 s) (fun s t => [(7, sl p t51.length), (10, i6 s)]) (fun s t => [J5 3 1 (sl p l.length) l.length (t46.map Jl)]) (fun s t => True) ?_ ?_
   ·refine Jc<|Ja<|mv (sl p t51.length)<|Jf rfl rfl rfl (Jaw Tryz.underlying24 rfl)<|mv (i6 0)<|Jd<|Ju<|?_
    refine X6 (σ := Int × Int) (τ := Unit) (fun next3 s => R_ScoreOf_l3 t51 next3 s.1 s.2) (fun s t => [(7, sl p t51.length), (10, i6 s.1), (52, sl p t51.length), (53, i6 (t51.length : Int)), (54, i6 s.2)]) (fun s t => [J5 3 1 (sl p l.length) l.length (t46.map Jl)]) (fun s t => True) (0, 0) () [0] H32 (by exact trivial) (by exact ⟨rfl, rfl, rfl, rfl, rfl, trivial⟩) (by decide) rfl ?_
    rintro ⟨x10_3, x54_2⟩ _ m3 gg H35 _
    clear H32
    try dsimp only at H35
    generalize hn3 : it (fun next3 s => R_ScoreOf_l3 t51 next3 s.1 s.2) m3 = next3 at H35
    try dsimp only
    refine Jc<|Ja<|Jf rfl rfl rfl (Q0 rfl rfl)<|Jd<|Jc<|?_
    refine Qm (b := (decide (x54_2 < (t51.length : Int)))) rfl (fun hb => ?_) (fun hb => ?_)
    ·have H36 := Jw hb H35; clear H35
     refine Jv<|Jc<|Ju<|Jc<|Ja<|?_
     obtain ⟨t56, h_t56, H37⟩ := Je H36; clear H36
     refine J9 (fun w hF hS => J3 Tryz.underlying24 Tryz.sizeOf3 rfl rfl (Row.cut0G (Qy (i := 0) hS rfl) hl (capOf (i := 0) hS rfl) h_t51) rfl h_t56) rfl rfl rfl<|J9 (fun w hF hS => J2 (f := Jl) (i := x54_2) (sz := 1) (j := 0) (v := i6 t56) Tryz.isAgg3 rfl rfl (Row.cut0G (Qy (i := 0) hS rfl) hl (capOf (i := 0) hS rfl) h_t51) h_t56 rfl) rfl rfl rfl<|ag (i6 t56)<|Jd<|Ja<|mv (i6 x10_3)<|mv (i6 t56)<|?_
     obtain ⟨t60, h_t60, H38⟩ := Je H37; clear H37
     refine Jf rfl rfl rfl (Qp rfl rfl h_t60)<|ag (i6 t60)<|Jd<|Ja<|?_
     obtain ⟨t61, h_t61, H39⟩ := Je H38; clear H38
     refine Jf rfl rfl rfl (Qp rfl rfl h_t61)<|mv (i6 t61)<|Jd<|?_
     refine Js (t60, t61) () m3 [0] (by exact ⟨rfl, rfl, rfl, rfl, rfl, trivial⟩) (by decide) rfl (by exact ⟨(by subst hn3; exact H39), trivial⟩) (Nat.lt_succ_self _)
    ·have H40 := Jx hb H35; clear H35
     refine Q3 ?_
     refine Js x10_3 () 0 [0] (by exact ⟨rfl, rfl, trivial⟩) (by decide) rfl (by exact ⟨H40, trivial⟩) (Nat.lt_succ_self _)
   ·rintro x10 _ gg H33 _
    try dsimp only at H33
    try dsimp only
    refine Jc<|Ja<|mv (i6 x10)<|mv (sl p t51.length)<|Jf rfl rfl rfl (Jaw Tryz.underlying24 rfl)<|?_
    obtain ⟨t65, h_t65, H34⟩ := Je H33; clear H33
    refine Jf rfl rfl rfl (r_quoG rfl rfl h_t65)<|ag (i6 t65)<|Jd<|Jy<|?_
    obtain rfl := Option.some.inj H34
    refine Qw (v := i6 t65) rfl rfl (Yz rfl)
theorem k153 {a0 : (List T_face_Match)} {p0 : Option Addr × Nat} {n0 : Nat} {a1 : Int} {a2 : Int} {a3 : (T_face_Match → T_face_Match → Option (Int))} {v3 : Value} {r : (List T_face_Match)} {w : World} {h : Qg} {S : Nat → Prop} (hcs : (J5 56 2 (sl p0 n0) n0 (a0.map Jo)).P S w) (hlt : ∀ b, S b → b < w.heap.size) (hw : Know h w S) (hn0 : n0 = a0.length) (f3 : FnH Tryz.prog h v3 (Qn a3)) (H : Xz a0 a1 a2 a3 = some r) : Does Tryz.prog 153 (List.toArray [sl p0 n0, i6 a1, i6 a2, v3]) w (fun v w' => ∃ x : Unit, v = (.tuple #[]) ∧ Turn w w' S (J5 56 2 (sl p0 n0) n0 (r.map Jo))) := by
 refine enter (n := 53) Tryz.func153 rfl rfl rfl S [J5 56 2 (sl p0 n0) n0 (a0.map Jo)] (Sat.one hcs hlt)<|Jc<|Ja<|mv (i6 a1)<|?_
 obtain ⟨t11, h_t11, H25⟩ := Je H; clear H
 refine Jf rfl rfl rfl (Qp rfl rfl h_t11)<|ag (i6 t11)<|Jd<|Ju<|?_
 refine X6 (σ := Int × (List T_face_Match)) (τ := Unit) (fun next1 s => Xd a1 a2 a3 next1 s.1 s.2) (fun s t => [(0, sl p0 n0), (1, i6 a1), (2, i6 a2), (3, v3), (8, i6 s.1)]) (fun s t => [J5 56 2 (sl p0 n0) n0 (s.2.map Jo)]) (fun s t => n0 = s.2.length) (t11, a0) () [0] H25 (by exact hn0) (by exact ⟨rfl, rfl, rfl, rfl, rfl, trivial⟩) (by decide) rfl ?_
 rintro ⟨x8_2, l_2⟩ _ m1 gg H26 hl_2
 clear H25
 try dsimp only at H26
 generalize hn1 : it (fun next1 s => Xd a1 a2 a3 next1 s.1 s.2) m1 = next1 at H26
 try dsimp only
 refine Jc<|Jc<|Ja<|mv (i6 x8_2)<|mv (i6 a2)<|Jf rfl rfl rfl (Q0 rfl rfl)<|Jd<|?_
 refine Qm (b := (decide (x8_2 < a2))) rfl (fun hb => ?_) (fun hb => ?_)
 ·have H27 := Jw hb H26; clear H26
  refine Jv ?_
  refine Xf (r := r) (σ := (List T_face_Match)) (τ := Unit) (fun s => Xa x8_2 next1 s) (fun s t => [(0, sl p0 n0), (1, i6 a1), (2, i6 a2), (3, v3), (8, i6 x8_2)]) (fun s t => [J5 56 2 (sl p0 n0) n0 (s.map Jo)]) (fun s t => n0 = s.length) ?_ ?_
  ·refine Ju<|Jc<|Ja<|mv (i6 x8_2)<|ag (i6 x8_2)<|Jd<|Ju<|?_
   refine X6 (σ := Int × (List T_face_Match)) (τ := Unit) (fun next3 s => Xb a1 a3 x8_2 next1 next3 s.1 s.2) (fun s t => [(0, sl p0 n0), (1, i6 a1), (2, i6 a2), (3, v3), (8, i6 x8_2), (9, i6 s.1)]) (fun s t => [J5 56 2 (sl p0 n0) n0 (s.2.map Jo)]) (fun s t => n0 = s.2.length) (x8_2, l_2) () [0] H27 (by exact hl_2) (by exact ⟨rfl, rfl, rfl, rfl, rfl, rfl, trivial⟩) (by decide) rfl ?_
   rintro ⟨x9_2, l_5⟩ _ m3 gg H30 hl_5
   clear H27
   try dsimp only at H30
   generalize hn3 : it (fun next3 s => Xb a1 a3 x8_2 next1 next3 s.1 s.2) m3 = next3 at H30
   try dsimp only
   refine Jc<|Jc<|?_
   exact Qz (Kd.p :: Kd.p :: Kd.p :: Kd.p :: Kd.p :: Kd.p :: Kd.p :: Kd.d [0] _ :: Kd.d [0] _ :: Kd.p :: Kd.p :: Kd.p :: Kd.d [0] _ :: Kd.d [0] _ :: Kd.d [] _ :: Kd.p :: Kd.p :: []) 0 mixed (by
    refine dm (i6 x9_2)<|dm (i6 a1)<|Qa rfl rfl (Jaz rfl rfl)<|dm (.bool (decide (a1 < x9_2)))<|?_
    refine splitS (fun hb => ?_) (fun hb => ?_)
    ·have H31 := Jw hb H30
     refine dm v3<|dm (sl p0 n0)<|dm (i6 x9_2)<|?_
     have h_t25 := Jr H31
     have H32 := Jn H31
     refine Qc (fun w L' hF hS hi => J3 Tryz.underlying53 Tryz.sizeOf56 rfl rfl (Qy (i := 0) (E := 56) (sz := 2) (n := n0) (a := p0.1) (c := p0.2) hS ((hi 0 (by simp)).trans rfl)) hl_5 h_t25) rfl rfl<|Qc (fun w L' hF hS hi => Qj (f := Jo) (i := x9_2) (sz := 2) (j := 0) (vs := [i6 (val (Jk l_5 x9_2)).Person, i6 (val (Jk l_5 x9_2)).Far]) Tryz.isAgg56 Tryz.sizeOf56 rfl rfl (Qy (i := 0) (E := 56) (sz := 2) (n := n0) (a := p0.1) (c := p0.2) hS ((hi 0 (by simp)).trans rfl)) h_t25 rfl) rfl rfl<|dm (sl p0 n0)<|dm (i6 x9_2)<|?_
     have h_t29 := Jr H32
     have H33 := Jn H32
     refine Qa rfl rfl (Zl rfl rfl h_t29) ?_
     have h_t30 := Jr H33
     have H34 := Jn H33
     refine Qc (fun w L' hF hS hi => J3 Tryz.underlying53 Tryz.sizeOf56 rfl rfl (Qy (i := 0) (E := 56) (sz := 2) (n := n0) (a := p0.1) (c := p0.2) hS ((hi 0 (by simp)).trans rfl)) hl_5 h_t30) rfl rfl<|Qc (fun w L' hF hS hi => Qj (f := Jo) (i := (val (gI (x9_2 - 1)))) (sz := 2) (j := 0) (vs := [i6 (val (Jk l_5 (val (gI (x9_2 - 1))))).Person, i6 (val (Jk l_5 (val (gI (x9_2 - 1))))).Far]) Tryz.isAgg56 Tryz.sizeOf56 rfl rfl (Qy (i := 0) (E := 56) (sz := 2) (n := n0) (a := p0.1) (c := p0.2) hS ((hi 0 (by simp)).trans rfl)) h_t30 rfl) rfl rfl<|?_
     have h_t32 := Jr H34
     have H35 := Jn H34
     refine d_callV (R := Qn a3) (r := i6 (val (a3 (val (Jk l_5 x9_2)) (val (Jk l_5 (val (gI (x9_2 - 1)))))))) (v := v3) (fun w L' hF hS hi => ⟨(f3.mono (hw.now hF)), ⟨(val (Jk l_5 x9_2)), (val (Jk l_5 (val (gI (x9_2 - 1))))), _, rfl, h_t32, rfl⟩⟩) rfl rfl rfl<|Qa rfl rfl (Q0 rfl rfl)<|Qa rfl rfl (Q5 (v := .bool (decide ((val (a3 (val (Jk l_5 x9_2)) (val (Jk l_5 (val (gI (x9_2 - 1))))))) < 0))) rfl rfl)<|Y3<|?_
     refine Qm (b := (decide ((val (a3 (val (Jk l_5 x9_2)) (val (Jk l_5 (val (gI (x9_2 - 1))))))) < 0))) rfl (fun hb => ?_) (fun hb => ?_)
     ·have H36 := Jw hb H35; clear H35
      refine Jv<|Jc<|Ju<|?_
      exact Qz (Kd.p :: Kd.p :: Kd.p :: Kd.p :: Kd.p :: Kd.p :: Kd.p :: Kd.p :: Kd.d [0] _ :: Kd.d [0] _ :: Kd.p :: Kd.p :: Kd.d [0] _ :: Kd.d [0] _ :: Kd.d [0] _ :: Kd.sr 0 _ :: Kd.d [0] _ :: Kd.sr 0 _ :: []) 0 mixed (by
       refine dm (sl p0 n0)<|dm (i6 x9_2)<|dm (sl p0 n0)<|dm (i6 x9_2)<|?_
       have h_t41 := Jr H36
       have H37 := Jn H36
       refine Qa rfl rfl (Zl rfl rfl h_t41)<|dm (sl p0 n0)<|dm (i6 x9_2)<|?_
       have h_t44 := Jr H37
       have H38 := Jn H37
       refine Qa rfl rfl (Zl rfl rfl h_t44) ?_
       have h_t45 := Jr H38
       have H39 := Jn H38
       refine Qc (fun w L' hF hS hi => J3 Tryz.underlying53 Tryz.sizeOf56 rfl rfl (Qy (i := 0) (E := 56) (sz := 2) (n := n0) (a := p0.1) (c := p0.2) hS ((hi 0 (by simp)).trans rfl)) hl_5 h_t45) rfl rfl<|Qc (fun w L' hF hS hi => Qj (f := Jo) (i := (val (gI (x9_2 - 1)))) (sz := 2) (j := 0) (vs := [i6 (val (Jk l_5 (val (gI (x9_2 - 1))))).Person, i6 (val (Jk l_5 (val (gI (x9_2 - 1))))).Far]) Tryz.isAgg56 Tryz.sizeOf56 rfl rfl (Qy (i := 0) (E := 56) (sz := 2) (n := n0) (a := p0.1) (c := p0.2) hS ((hi 0 (by simp)).trans rfl)) h_t45 rfl) rfl rfl<|dm (sl p0 n0)<|dm (i6 x9_2)<|?_
       have h_t49 := Jr H39
       have H40 := Jn H39
       refine Qc (fun w L' hF hS hi => J3 Tryz.underlying53 Tryz.sizeOf56 rfl rfl (Qy (i := 0) (E := 56) (sz := 2) (n := n0) (a := p0.1) (c := p0.2) hS ((hi 0 (by simp)).trans rfl)) hl_5 h_t49) rfl rfl<|Qc (fun w L' hF hS hi => Qj (f := Jo) (i := x9_2) (sz := 2) (j := 0) (vs := [i6 (val (Jk l_5 x9_2)).Person, i6 (val (Jk l_5 x9_2)).Far]) Tryz.isAgg56 Tryz.sizeOf56 rfl rfl (Qy (i := 0) (E := 56) (sz := 2) (n := n0) (a := p0.1) (c := p0.2) hS ((hi 0 (by simp)).trans rfl)) h_t49 rfl) rfl rfl<|?_
       have h_t51 := Jr H40
       have H41 := Jn H40
       refine Qc (fun w L' hF hS hi => J3 Tryz.underlying53 Tryz.sizeOf56 rfl rfl (Qy (i := 0) (E := 56) (sz := 2) (n := n0) (a := p0.1) (c := p0.2) hS ((hi 0 (by simp)).trans rfl)) hl_5 h_t51) rfl rfl ?_
       have h_l0 := Jr H41
       have H42 := Jn H41
       refine d_storeG (q := 0) (j := 0) (i := x9_2) (sz := 2) (hm := hl_5) (f := Jo) (vs := [i6 (val (Jk l_5 (val (gI (x9_2 - 1))))).Person, i6 (val (Jk l_5 (val (gI (x9_2 - 1))))).Far]) Tryz.sizeOf56 rfl rfl rfl rfl rfl rfl rfl rfl rfl (fun y_ hy_ => by first | rfl | (cases hy_.symm.trans h_t51; rfl)) h_l0 ?_
       have h_t52 := Jr H42
       have H43 := Jn H42
       refine Qc (fun w L' hF hS hi => J3 Tryz.underlying53 Tryz.sizeOf56 rfl rfl (Qy (i := 0) (E := 56) (sz := 2) (n := n0) (a := p0.1) (c := p0.2) hS ((hi 0 (by simp)).trans rfl)) (Jau hl_5 h_l0) h_t52) rfl rfl ?_
       have h_l0_2 := Jr H43
       have H44 := Jn H43
       refine d_storeG (q := 0) (j := 0) (i := (val (gI (x9_2 - 1)))) (sz := 2) (hm := (Jau hl_5 h_l0)) (f := Jo) (vs := [i6 (val (Jk l_5 x9_2)).Person, i6 (val (Jk l_5 x9_2)).Far]) Tryz.sizeOf56 rfl rfl rfl rfl rfl rfl rfl rfl rfl (fun y_ hy_ => by first | rfl | (cases hy_.symm.trans h_t52; rfl)) h_l0_2<|Y3<|Ja<|mv (i6 x9_2)<|?_
       obtain ⟨t36, h_t36, H45⟩ := Je H44; clear H44
       refine Jf rfl rfl rfl (Zl rfl rfl h_t36)<|ag (i6 t36)<|Jd<|?_
       refine Js (t36, (val (Q6 (val (Q6 l_5 x9_2 (val (Jk l_5 (val (gI (x9_2 - 1))))))) (val (gI (x9_2 - 1))) (val (Jk l_5 x9_2))))) () m3 [0] (by exact ⟨rfl, rfl, rfl, rfl, rfl, rfl, trivial⟩) (by decide) rfl (by exact ⟨(by subst hn3; exact H45), (Jau (Jau hl_5 h_l0) h_l0_2)⟩) (Nat.lt_succ_self _)
       ) (by kernel_rfl)
     ·have H46 := Jx hb H35; clear H35
      refine Q3 ?_
      refine Js l_5 () 0 [0] (by exact ⟨rfl, rfl, rfl, rfl, rfl, trivial⟩) (by decide) rfl (by exact ⟨H46, hl_5⟩) (Nat.lt_succ_self _)
    ·have H47 := Jx hb H30
     refine dp<|dp<|dp<|dp<|dp<|dp<|dp<|dp<|dp<|dp<|dp<|dp<|Qa rfl rfl (Qr (v := .bool false) rfl rfl)<|Y3<|Wq rfl<|Q3<|?_
     refine Js l_5 () 0 [0] (by exact ⟨rfl, rfl, rfl, rfl, rfl, trivial⟩) (by decide) rfl (by exact ⟨H47, hl_5⟩) (Nat.lt_succ_self _)
    ) (by kernel_rfl)
  ·rintro l_3 _ gg H28 hl_3
   try dsimp only at H28
   try dsimp only
   refine Ja<|mv (i6 x8_2)<|?_
   obtain ⟨t16, h_t16, H29⟩ := Je H28; clear H28
   refine Jf rfl rfl rfl (Qp rfl rfl h_t16)<|ag (i6 t16)<|Jd<|?_
   refine Js (t16, l_3) () m1 [0] (by exact ⟨rfl, rfl, rfl, rfl, rfl, trivial⟩) (by decide) rfl (by exact ⟨(by subst hn1; exact H29), hl_3⟩) (Nat.lt_succ_self _)
 ·have H48 := Jx hb H26; clear H26
  refine Q3 ?_
  obtain rfl := Option.some.inj H48
  refine ret0n rfl (Zb () (i := 0) rfl rfl (Imp.refl _))
theorem k195 {a0 : (List T_face_Match)} {p0 : Option Addr × Nat} {n0 : Nat} {a1 : Int} {a2 : Int} {a3 : Int} {a4 : (T_face_Match → T_face_Match → Option (Int))} {v4 : Value} {r : (List T_face_Match)} {w : World} {h : Qg} {S : Nat → Prop} (hcs : (J5 56 2 (sl p0 n0) n0 (a0.map Jo)).P S w) (hlt : ∀ b, S b → b < w.heap.size) (hw : Know h w S) (hn0 : n0 = a0.length) (f4 : FnH Tryz.prog h v4 (Qn a4)) (H : Yd a0 a1 a2 a3 a4 = some r) : Does Tryz.prog 195 (List.toArray [sl p0 n0, i6 a1, i6 a2, i6 a3, v4]) w (fun v w' => ∃ x : Unit, v = (.tuple #[]) ∧ Turn w w' S (J5 56 2 (sl p0 n0) n0 (r.map Jo))) := by
 refine enter (n := 38) Tryz.func195 rfl rfl rfl S [J5 56 2 (sl p0 n0) n0 (a0.map Jo)] (Sat.one hcs hlt)<|Jc<|Ja<|ag (i6 0)<|Jd<|Ju<|?_
 refine X6 (σ := Int × (List T_face_Match)) (τ := Unit) (fun next1 s => X3 a1 a2 a3 next1 s.1 s.2) (fun s t => [(0, sl p0 n0), (1, i6 a1), (2, i6 a2), (3, i6 a3), (10, i6 s.1)]) (fun s t => [J5 56 2 (sl p0 n0) n0 (s.2.map Jo)]) (fun s t => n0 = s.2.length) (0, a0) () [0] H (by exact hn0) (by exact ⟨rfl, rfl, rfl, rfl, rfl, trivial⟩) (by decide) rfl ?_
 rintro ⟨x10_2, l_2⟩ _ m1 gg H15 hl_2
 clear H
 try dsimp only at H15
 generalize hn1 : it (fun next1 s => X3 a1 a2 a3 next1 s.1 s.2) m1 = next1 at H15
 try dsimp only
 refine Jc<|Jc<|Ja<|mv (i6 x10_2)<|mv (i6 a3)<|Jf rfl rfl rfl (Q0 rfl rfl)<|Jd<|?_
 refine Qm (b := (decide (x10_2 < a3))) rfl (fun hb => ?_) (fun hb => ?_)
 ·have H16 := Jw hb H15; clear H15
  refine Jv<|Jc<|Ju<|?_
  exact Qz (Kd.p :: Kd.p :: Kd.p :: Kd.p :: Kd.p :: Kd.p :: Kd.p :: Kd.p :: Kd.p :: Kd.p :: Kd.p :: Kd.p :: Kd.d [0] _ :: Kd.d [0] _ :: Kd.p :: Kd.p :: Kd.p :: Kd.p :: Kd.d [0] _ :: Kd.d [0] _ :: Kd.d [0] _ :: Kd.sr 0 _ :: Kd.d [0] _ :: Kd.sr 0 _ :: []) 0 mixed (by
   refine dm (sl p0 n0)<|dm (i6 a1)<|dm (i6 x10_2)<|?_
   have h_t19 := Jr H16
   have H17 := Jn H16
   refine Qa rfl rfl (Qp rfl rfl h_t19)<|dm (sl p0 n0)<|dm (i6 a2)<|dm (i6 x10_2)<|?_
   have h_t23 := Jr H17
   have H18 := Jn H17
   refine Qa rfl rfl (Qp rfl rfl h_t23)<|dm (sl p0 n0)<|dm (i6 a2)<|dm (i6 x10_2)<|?_
   have h_t27 := Jr H18
   have H19 := Jn H18
   refine Qa rfl rfl (Qp rfl rfl h_t27) ?_
   have h_t28 := Jr H19
   have H20 := Jn H19
   refine Qc (fun w L' hF hS hi => J3 Tryz.underlying53 Tryz.sizeOf56 rfl rfl (Qy (i := 0) (E := 56) (sz := 2) (n := n0) (a := p0.1) (c := p0.2) hS ((hi 0 (by simp)).trans rfl)) hl_2 h_t28) rfl rfl<|Qc (fun w L' hF hS hi => Qj (f := Jo) (i := (val (gI (a2 + x10_2)))) (sz := 2) (j := 0) (vs := [i6 (val (Jk l_2 (val (gI (a2 + x10_2))))).Person, i6 (val (Jk l_2 (val (gI (a2 + x10_2))))).Far]) Tryz.isAgg56 Tryz.sizeOf56 rfl rfl (Qy (i := 0) (E := 56) (sz := 2) (n := n0) (a := p0.1) (c := p0.2) hS ((hi 0 (by simp)).trans rfl)) h_t28 rfl) rfl rfl<|dm (sl p0 n0)<|dm (i6 a1)<|dm (i6 x10_2)<|?_
   have h_t33 := Jr H20
   have H21 := Jn H20
   refine Qa rfl rfl (Qp rfl rfl h_t33) ?_
   have h_t34 := Jr H21
   have H22 := Jn H21
   refine Qc (fun w L' hF hS hi => J3 Tryz.underlying53 Tryz.sizeOf56 rfl rfl (Qy (i := 0) (E := 56) (sz := 2) (n := n0) (a := p0.1) (c := p0.2) hS ((hi 0 (by simp)).trans rfl)) hl_2 h_t34) rfl rfl<|Qc (fun w L' hF hS hi => Qj (f := Jo) (i := (val (gI (a1 + x10_2)))) (sz := 2) (j := 0) (vs := [i6 (val (Jk l_2 (val (gI (a1 + x10_2))))).Person, i6 (val (Jk l_2 (val (gI (a1 + x10_2))))).Far]) Tryz.isAgg56 Tryz.sizeOf56 rfl rfl (Qy (i := 0) (E := 56) (sz := 2) (n := n0) (a := p0.1) (c := p0.2) hS ((hi 0 (by simp)).trans rfl)) h_t34 rfl) rfl rfl<|?_
   have h_t36 := Jr H22
   have H23 := Jn H22
   refine Qc (fun w L' hF hS hi => J3 Tryz.underlying53 Tryz.sizeOf56 rfl rfl (Qy (i := 0) (E := 56) (sz := 2) (n := n0) (a := p0.1) (c := p0.2) hS ((hi 0 (by simp)).trans rfl)) hl_2 h_t36) rfl rfl ?_
   have h_l0 := Jr H23
   have H24 := Jn H23
   refine d_storeG (q := 0) (j := 0) (i := (val (gI (a1 + x10_2)))) (sz := 2) (hm := hl_2) (f := Jo) (vs := [i6 (val (Jk l_2 (val (gI (a2 + x10_2))))).Person, i6 (val (Jk l_2 (val (gI (a2 + x10_2))))).Far]) Tryz.sizeOf56 rfl rfl rfl rfl rfl rfl rfl rfl rfl (fun y_ hy_ => by first | rfl | (cases hy_.symm.trans h_t36; rfl)) h_l0 ?_
   have h_t37 := Jr H24
   have H25 := Jn H24
   refine Qc (fun w L' hF hS hi => J3 Tryz.underlying53 Tryz.sizeOf56 rfl rfl (Qy (i := 0) (E := 56) (sz := 2) (n := n0) (a := p0.1) (c := p0.2) hS ((hi 0 (by simp)).trans rfl)) (Jau hl_2 h_l0) h_t37) rfl rfl ?_
   have h_l0_2 := Jr H25
   have H26 := Jn H25
   refine d_storeG (q := 0) (j := 0) (i := (val (gI (a2 + x10_2)))) (sz := 2) (hm := (Jau hl_2 h_l0)) (f := Jo) (vs := [i6 (val (Jk l_2 (val (gI (a1 + x10_2))))).Person, i6 (val (Jk l_2 (val (gI (a1 + x10_2))))).Far]) Tryz.sizeOf56 rfl rfl rfl rfl rfl rfl rfl rfl rfl (fun y_ hy_ => by first | rfl | (cases hy_.symm.trans h_t37; rfl)) h_l0_2<|Y3<|Ja<|mv (i6 x10_2)<|?_
   obtain ⟨t15, h_t15, H27⟩ := Je H26; clear H26
   refine Jf rfl rfl rfl (Qp rfl rfl h_t15)<|ag (i6 t15)<|Jd<|?_
   refine Js (t15, (val (Q6 (val (Q6 l_2 (val (gI (a1 + x10_2))) (val (Jk l_2 (val (gI (a2 + x10_2))))))) (val (gI (a2 + x10_2))) (val (Jk l_2 (val (gI (a1 + x10_2)))))))) () m1 [0] (by exact ⟨rfl, rfl, rfl, rfl, rfl, trivial⟩) (by decide) rfl (by exact ⟨(by subst hn1; exact H27), (Jau (Jau hl_2 h_l0) h_l0_2)⟩) (Nat.lt_succ_self _)
   ) (by kernel_rfl)
 ·have H28 := Jx hb H15; clear H15
  refine Q3 ?_
  obtain rfl := Option.some.inj H28
  refine ret0n rfl (Zb () (i := 0) rfl rfl (Imp.refl _))
theorem k190 {a0 : (List T_face_Match)} {p0 : Option Addr × Nat} {n0 : Nat} {a1 : Int} {a2 : Int} {a3 : Int} {a4 : (T_face_Match → T_face_Match → Option (Int))} {v4 : Value} {r : (List T_face_Match)} {w : World} {h : Qg} {S : Nat → Prop} (hcs : (J5 56 2 (sl p0 n0) n0 (a0.map Jo)).P S w) (hlt : ∀ b, S b → b < w.heap.size) (hw : Know h w S) (hn0 : n0 = a0.length) (f4 : FnH Tryz.prog h v4 (Qn a4)) (H : Zp a0 a1 a2 a3 a4 = some r) : Does Tryz.prog 190 (List.toArray [sl p0 n0, i6 a1, i6 a2, i6 a3, v4]) w (fun v w' => ∃ x : Unit, v = (.tuple #[]) ∧ Turn w w' S (J5 56 2 (sl p0 n0) n0 (r.map Jo))) := by
 refine enter (n := 58) Tryz.func190 rfl rfl rfl S [J5 56 2 (sl p0 n0) n0 (a0.map Jo)] (Sat.one hcs hlt)<|Jc<|Ja<|mv (i6 a2)<|mv (i6 a1)<|?_
 obtain ⟨t14, h_t14, H19⟩ := Je H; clear H
 refine Jf rfl rfl rfl (Zl rfl rfl h_t14)<|ag (i6 t14)<|Jd<|Jc<|Ja<|mv (i6 a3)<|mv (i6 a2)<|?_
 obtain ⟨t17, h_t17, H20⟩ := Je H19; clear H19
 refine Jf rfl rfl rfl (Zl rfl rfl h_t17)<|ag (i6 t17)<|Jd<|?_
 refine Xf (r := r) (σ := Int × (List T_face_Match)) (τ := Unit) (fun s => Ve a2 a4 s.1 s.2) (fun s t => [(0, sl p0 n0), (2, i6 a2), (4, v4), (10, i6 s.1)]) (fun s t => [J5 56 2 (sl p0 n0) n0 (s.2.map Jo)]) (fun s t => n0 = s.2.length) ?_ ?_
 ·refine Ju ?_
  refine X6 (σ := Int × Int × (List T_face_Match)) (τ := Unit) (fun next2 s => Yh a2 a4 next2 s.1 s.2.1 s.2.2) (fun s t => [(0, sl p0 n0), (2, i6 a2), (4, v4), (10, i6 s.1), (11, i6 s.2.1)]) (fun s t => [J5 56 2 (sl p0 n0) n0 (s.2.2.map Jo)]) (fun s t => n0 = s.2.2.length) (t14, t17, a0) () [0] H20 (by exact hn0) (by exact ⟨rfl, rfl, rfl, rfl, rfl, trivial⟩) (by decide) rfl ?_
  rintro ⟨x10_3, x11_2, l_3⟩ _ m2 gg H24 hl_4
  clear H20
  try dsimp only at H24
  generalize hn2 : it (fun next2 s => Yh a2 a4 next2 s.1 s.2.1 s.2.2) m2 = next2 at H24
  try dsimp only
  refine Jc<|Jc<|Ja<|mv (i6 x10_3)<|mv (i6 x11_2)<|Jf rfl rfl rfl (r_neq rfl rfl)<|Jd<|?_
  refine Qm (b := (decide (x10_3 ≠ x11_2))) rfl (fun hb => ?_) (fun hb => ?_)
  ·have H25 := Jw hb H24; clear H24
   refine Jv<|Ju<|Jc<|Ja<|mv (i6 x10_3)<|mv (i6 x11_2)<|Jf rfl rfl rfl (Jaz rfl rfl)<|Jd<|?_
   refine Qm (b := (decide (x11_2 < x10_3))) rfl (fun hb => ?_) (fun hb => ?_)
   ·have H26 := Jw hb H25; clear H25
    refine Jc<|Ja<|mv (sl p0 n0)<|mv (i6 a2)<|mv (i6 x10_3)<|?_
    obtain ⟨t27, h_t27, H27⟩ := Je H26; clear H26
    refine Jf rfl rfl rfl (Zl rfl rfl h_t27)<|mv (i6 a2)<|mv (i6 x11_2)<|mv v4<|?_
    obtain ⟨t31, h_t31, H28⟩ := Je H27; clear H27
    refine Y7 (Xj (i := 0) (rds := []) (G := fun x : Unit => .tuple #[]) (C := fun x : Unit => J5 56 2 (sl p0 n0) n0 (t31.map Jo)) rfl (fun w L' S hF hS hi hp hlt ho hA => k195 hp hlt (Y4 w S) hl_4 (f4.mono (hw.but hF ho)) h_t31) Tryz.call195 rfl) rfl rfl rfl (fun _ => ?_)
    refine Zq (fun w hF hS => lenOf (i := 0) hS rfl) (fun hl_5_ => ?_)
    have hl_5 : n0 = t31.length := by simpa using hl_5_.symm
    refine Jd<|Ja<|mv (i6 x10_3)<|mv (i6 x11_2)<|?_
    obtain ⟨t34, h_t34, H29⟩ := Je H28; clear H28
    refine Jf rfl rfl rfl (Zl rfl rfl h_t34)<|ag (i6 t34)<|Jd<|?_
    refine Js (t34, x11_2, t31) () m2 [0] (by exact ⟨rfl, rfl, rfl, rfl, rfl, trivial⟩) (by decide) rfl (by exact ⟨(by subst hn2; exact H29), hl_5⟩) (Nat.lt_succ_self _)
   ·have H30 := Jx hb H25; clear H25
    refine Jc<|Ja<|mv (sl p0 n0)<|mv (i6 a2)<|mv (i6 x10_3)<|?_
    obtain ⟨t38, h_t38, H31⟩ := Je H30; clear H30
    refine Jf rfl rfl rfl (Zl rfl rfl h_t38)<|mv (i6 a2)<|mv (i6 x11_2)<|?_
    obtain ⟨t41, h_t41, H32⟩ := Je H31; clear H31
    refine Jf rfl rfl rfl (Qp rfl rfl h_t41)<|mv (i6 x10_3)<|?_
    obtain ⟨t43, h_t43, H33⟩ := Je H32; clear H32
    refine Jf rfl rfl rfl (Zl rfl rfl h_t43)<|mv (i6 x10_3)<|mv v4<|?_
    obtain ⟨t46, h_t46, H34⟩ := Je H33; clear H33
    refine Y7 (Xj (i := 0) (rds := []) (G := fun x : Unit => .tuple #[]) (C := fun x : Unit => J5 56 2 (sl p0 n0) n0 (t46.map Jo)) rfl (fun w L' S hF hS hi hp hlt ho hA => k195 hp hlt (Y4 w S) hl_4 (f4.mono (hw.but hF ho)) h_t46) Tryz.call195 rfl) rfl rfl rfl (fun _ => ?_)
    refine Zq (fun w hF hS => lenOf (i := 0) hS rfl) (fun hl_6_ => ?_)
    have hl_6 : n0 = t46.length := by simpa using hl_6_.symm
    refine Jd<|Ja<|mv (i6 x11_2)<|mv (i6 x10_3)<|?_
    obtain ⟨t49, h_t49, H35⟩ := Je H34; clear H34
    refine Jf rfl rfl rfl (Zl rfl rfl h_t49)<|ag (i6 t49)<|Jd<|?_
    refine Js (x10_3, t49, t46) () m2 [0] (by exact ⟨rfl, rfl, rfl, rfl, rfl, trivial⟩) (by decide) rfl (by exact ⟨(by subst hn2; exact H35), hl_6⟩) (Nat.lt_succ_self _)
  ·have H36 := Jx hb H24; clear H24
   refine Q3 ?_
   refine Js (x10_3, l_3) () 0 [0] (by exact ⟨rfl, rfl, rfl, rfl, trivial⟩) (by decide) rfl (by exact ⟨H36, hl_4⟩) (Nat.lt_succ_self _)
 ·rintro ⟨x10, l⟩ _ gg H21 hl
  try dsimp only at H21
  try dsimp only
  refine Ja<|mv (sl p0 n0)<|mv (i6 a2)<|mv (i6 x10)<|?_
  obtain ⟨t53, h_t53, H22⟩ := Je H21; clear H21
  refine Jf rfl rfl rfl (Zl rfl rfl h_t53)<|mv (i6 a2)<|mv (i6 x10)<|mv v4<|?_
  obtain ⟨t57, h_t57, H23⟩ := Je H22; clear H22
  refine Y7 (Xj (i := 0) (rds := []) (G := fun x : Unit => .tuple #[]) (C := fun x : Unit => J5 56 2 (sl p0 n0) n0 (t57.map Jo)) rfl (fun w L' S hF hS hi hp hlt ho hA => k195 hp hlt (Y4 w S) hl (f4.mono (hw.but hF ho)) h_t57) Tryz.call195 rfl) rfl rfl rfl (fun _ => ?_)
  refine Zq (fun w hF hS => lenOf (i := 0) hS rfl) (fun hl_2_ => ?_)
  have hl_2 : n0 = t57.length := by simpa using hl_2_.symm
  refine Jd ?_
  obtain rfl := Option.some.inj H23
  refine ret0n rfl (Zb () (i := 0) rfl rfl (Imp.refl _))
theorem k176_it (mm : Nat) : ∀ {a0 : (List T_face_Match)} {p0 : Option Addr × Nat} {n0 : Nat} {a1 : Int} {a2 : Int} {a3 : Int} {a4 : (T_face_Match → T_face_Match → Option (Int))} {v4 : Value} {r : (List T_face_Match)} {w : World} {h : Qg} {S : Nat → Prop} (hcs : (J5 56 2 (sl p0 n0) n0 (a0.map Jo)).P S w) (hlt : ∀ b, S b → b < w.heap.size) (hw : Know h w S) (hn0 : n0 = a0.length) (f4 : FnH Tryz.prog h v4 (Qn a4)) (H : it (fun (self : ((List T_face_Match) × Int × Int × Int × (T_face_Match → T_face_Match → Option (Int))) → Option ((List T_face_Match))) (s : (List T_face_Match) × Int × Int × Int × (T_face_Match → T_face_Match → Option (Int))) => Ql self s.1 s.2.1 s.2.2.1 s.2.2.2.1 s.2.2.2.2) mm (a0, a1, a2, a3, a4) = some r), Does Tryz.prog 176 (List.toArray [sl p0 n0, i6 a1, i6 a2, i6 a3, v4]) w (fun v w' => ∃ x : Unit, v = (.tuple #[]) ∧ Turn w w' S (J5 56 2 (sl p0 n0) n0 (r.map Jo))) := by
 induction mm with
 | zero => intros; rename_i H; exact absurd H (by simp [it])
 | succ mm ih =>
  intro a0 p0 n0 a1 a2 a3 a4 v4 r w h S hcs hlt hw hn0 f4 H
  replace H : Ql (it (fun (self : ((List T_face_Match) × Int × Int × Int × (T_face_Match → T_face_Match → Option (Int))) → Option ((List T_face_Match))) (s : (List T_face_Match) × Int × Int × Int × (T_face_Match → T_face_Match → Option (Int))) => Ql self s.1 s.2.1 s.2.2.1 s.2.2.2.1 s.2.2.2.2) mm) a0 a1 a2 a3 a4 = some r := H
  generalize it (fun (self : ((List T_face_Match) × Int × Int × Int × (T_face_Match → T_face_Match → Option (Int))) → Option ((List T_face_Match))) (s : (List T_face_Match) × Int × Int × Int × (T_face_Match → T_face_Match → Option (Int))) => Ql self s.1 s.2.1 s.2.2.1 s.2.2.2.1 s.2.2.2.2) mm = self at H ih
  refine enter (n := 220) Tryz.func176 rfl rfl rfl S [J5 56 2 (sl p0 n0) n0 (a0.map Jo)] (Sat.one hcs hlt) ?_
  refine Xf (r := r) (σ := Unit) (τ := Unit) (fun s => Yu a0 a1 a2 a3 a4 self) (fun s t => [(0, sl p0 n0), (1, i6 a1), (2, i6 a2), (3, i6 a3), (4, v4)]) (fun s t => [J5 56 2 (sl p0 n0) n0 (a0.map Jo)]) (fun s t => True) ?_ ?_
  ·refine Jc<|Ja<|mv (i6 a2)<|mv (i6 a1)<|?_
   obtain ⟨t27, h_t27, H165⟩ := Je H; clear H
   refine Jf rfl rfl rfl (Zl rfl rfl h_t27)<|Jf rfl rfl rfl (Uv rfl rfl)<|Jd<|?_
   refine Qm (b := (decide (t27 = 1))) rfl (fun hb => ?_) (fun hb => ?_)
   ·have H166 := Jw hb H165; clear H165
    refine Jc<|Ja<|mv (i6 a2)<|ag (i6 a2)<|Jd<|Jc<|Ja<|mv (i6 a3)<|ag (i6 a3)<|Jd<|?_
    refine Xf (r := r) (σ := Int) (τ := Unit) (fun s => Zz a0 a1 s) (fun s t => [(0, sl p0 n0), (1, i6 a1), (2, i6 a2), (3, i6 a3), (4, v4), (10, i6 s)]) (fun s t => [J5 56 2 (sl p0 n0) n0 (a0.map Jo)]) (fun s t => True) ?_ ?_
    ·refine Ju ?_
     refine X6 (σ := Int × Int) (τ := Unit) (fun next13 s => Xk a0 a1 a4 next13 s.1 s.2) (fun s t => [(0, sl p0 n0), (1, i6 a1), (2, i6 a2), (3, i6 a3), (4, v4), (10, i6 s.1), (11, i6 s.2)]) (fun s t => [J5 56 2 (sl p0 n0) n0 (a0.map Jo)]) (fun s t => True) (a2, a3) () [0] H166 (by exact trivial) (by exact ⟨rfl, rfl, rfl, rfl, rfl, rfl, rfl, trivial⟩) (by decide) rfl ?_
     rintro ⟨x10_3, x11_2⟩ _ m13 gg H181 _
     clear H166
     try dsimp only at H181
     generalize hn13 : it (fun next13 s => Xk a0 a1 a4 next13 s.1 s.2) m13 = next13 at H181
     try dsimp only
     refine Jc<|Jc<|Ja<|mv (i6 x10_3)<|mv (i6 x11_2)<|Jf rfl rfl rfl (Q0 rfl rfl)<|Jd<|?_
     refine Qm (b := (decide (x10_3 < x11_2))) rfl (fun hb => ?_) (fun hb => ?_)
     ·have H182 := Jw hb H181; clear H181
      refine Jv<|Ju<|Jc<|Ja<|mv (i6 x10_3)<|mv (i6 x11_2)<|?_
      obtain ⟨t36, h_t36, H183⟩ := Je H182; clear H182
      refine Jf rfl rfl rfl (Qp rfl rfl h_t36)<|Jf rfl rfl rfl (Ja0 Tryz.runUnderlying3 Tryz.runUnderlying106 rfl (wr_u64 _))<|?_
      obtain ⟨t38, h_t38, H184⟩ := Je H183; clear H183
      refine Jf rfl rfl rfl (r_shrG rfl rfl rfl h_t38)<|Jf rfl rfl rfl (Ja0 Tryz.runUnderlying106 Tryz.runUnderlying3 rfl (wr_i64 _))<|ag (i6 (Xm t38))<|Jd<|Jc<|?_
      exact Qz (Kd.p :: Kd.p :: Kd.p :: Kd.d [0] _ :: Kd.d [0] _ :: Kd.p :: Kd.p :: Kd.d [0] _ :: Kd.d [0] _ :: Kd.d [] _ :: Kd.p :: []) 0 mixed (by
       refine dm v4<|dm (sl p0 n0)<|dm (i6 (Xm t38))<|?_
       have h_t43 := Jr H184
       have H185 := Jn H184
       refine Qc (fun w L' hF hS hi => J3 Tryz.underlying53 Tryz.sizeOf56 rfl rfl (Qy (i := 0) (E := 56) (sz := 2) (n := n0) (a := p0.1) (c := p0.2) hS ((hi 0 (by simp)).trans rfl)) hn0 h_t43) rfl rfl<|Qc (fun w L' hF hS hi => Qj (f := Jo) (i := (Xm t38)) (sz := 2) (j := 0) (vs := [i6 (val (Jk a0 (Xm t38))).Person, i6 (val (Jk a0 (Xm t38))).Far]) Tryz.isAgg56 Tryz.sizeOf56 rfl rfl (Qy (i := 0) (E := 56) (sz := 2) (n := n0) (a := p0.1) (c := p0.2) hS ((hi 0 (by simp)).trans rfl)) h_t43 rfl) rfl rfl<|dm (sl p0 n0)<|dm (i6 a1)<|?_
       have h_t47 := Jr H185
       have H186 := Jn H185
       refine Qc (fun w L' hF hS hi => J3 Tryz.underlying53 Tryz.sizeOf56 rfl rfl (Qy (i := 0) (E := 56) (sz := 2) (n := n0) (a := p0.1) (c := p0.2) hS ((hi 0 (by simp)).trans rfl)) hn0 h_t47) rfl rfl<|Qc (fun w L' hF hS hi => Qj (f := Jo) (i := a1) (sz := 2) (j := 0) (vs := [i6 (val (Jk a0 a1)).Person, i6 (val (Jk a0 a1)).Far]) Tryz.isAgg56 Tryz.sizeOf56 rfl rfl (Qy (i := 0) (E := 56) (sz := 2) (n := n0) (a := p0.1) (c := p0.2) hS ((hi 0 (by simp)).trans rfl)) h_t47 rfl) rfl rfl<|?_
       have h_t49 := Jr H186
       have H187 := Jn H186
       refine d_callV (R := Qn a4) (r := i6 (val (a4 (val (Jk a0 (Xm t38))) (val (Jk a0 a1))))) (v := v4) (fun w L' hF hS hi => ⟨(f4.mono (hw.now hF)), ⟨(val (Jk a0 (Xm t38))), (val (Jk a0 a1)), _, rfl, h_t49, rfl⟩⟩) rfl rfl rfl<|Qa rfl rfl (Q0 rfl rfl)<|Y3<|?_
       refine Qm (b := (decide ((val (a4 (val (Jk a0 (Xm t38))) (val (Jk a0 a1)))) < 0))) rfl (fun hb => ?_) (fun hb => ?_)
       ·have H188 := Jw hb H187; clear H187
        refine Ja<|mv (i6 (Xm t38))<|?_
        obtain ⟨t52, h_t52, H189⟩ := Je H188; clear H188
        refine Jf rfl rfl rfl (Qp rfl rfl h_t52)<|ag (i6 t52)<|Jd<|?_
        refine Js (t52, x11_2) () m13 [0] (by exact ⟨rfl, rfl, rfl, rfl, rfl, rfl, rfl, trivial⟩) (by decide) rfl (by exact ⟨(by subst hn13; exact H189), trivial⟩) (Nat.lt_succ_self _)
       ·have H190 := Jx hb H187; clear H187
        refine Ja<|mv (i6 (Xm t38))<|ag (i6 (Xm t38))<|Jd<|?_
        refine Js (x10_3, (Xm t38)) () m13 [0] (by exact ⟨rfl, rfl, rfl, rfl, rfl, rfl, rfl, trivial⟩) (by decide) rfl (by exact ⟨(by subst hn13; exact H190), trivial⟩) (Nat.lt_succ_self _)
       ) (by kernel_rfl)
     ·have H191 := Jx hb H181; clear H181
      refine Q3 ?_
      refine Js x10_3 () 0 [0] (by exact ⟨rfl, rfl, rfl, rfl, rfl, rfl, trivial⟩) (by decide) rfl (by exact ⟨H191, trivial⟩) (Nat.lt_succ_self _)
    ·rintro x10 _ gg H167 _
     try dsimp only at H167
     try dsimp only
     refine Jc<|Jc<|Ja<|mv (i6 a1)<|ag (i6 a1)<|Jd<|Ju<|?_
     refine X6 (σ := Int × (List T_face_Match)) (τ := Unit) (fun next12 s => X4 x10 next12 s.1 s.2) (fun s t => [(0, sl p0 n0), (1, i6 a1), (2, i6 a2), (3, i6 a3), (4, v4), (10, i6 x10), (13, i6 s.1)]) (fun s t => [J5 56 2 (sl p0 n0) n0 (s.2.map Jo)]) (fun s t => n0 = s.2.length) (a1, a0) () [0] H167 (by exact hn0) (by exact ⟨rfl, rfl, rfl, rfl, rfl, rfl, rfl, trivial⟩) (by decide) rfl ?_
     rintro ⟨x13_2, l_6⟩ _ m12 gg H168 hl_9
     clear H167
     try dsimp only at H168
     generalize hn12 : it (fun next12 s => X4 x10 next12 s.1 s.2) m12 = next12 at H168
     try dsimp only
     refine Jc<|Jc<|Ja<|mv (i6 x13_2)<|mv (i6 x10)<|?_
     obtain ⟨t57, h_t57, H169⟩ := Je H168; clear H168
     refine Jf rfl rfl rfl (Zl rfl rfl h_t57)<|Jf rfl rfl rfl (Q0 rfl rfl)<|Jd<|?_
     refine Qm (b := (decide (x13_2 < t57))) rfl (fun hb => ?_) (fun hb => ?_)
     ·have H170 := Jw hb H169; clear H169
      refine Jv<|Jc<|Ju<|?_
      exact Qz (Kd.p :: Kd.p :: Kd.p :: Kd.p :: Kd.p :: Kd.p :: Kd.p :: Kd.p :: Kd.d [0] _ :: Kd.d [0] _ :: Kd.p :: Kd.p :: Kd.d [0] _ :: Kd.d [0] _ :: Kd.d [0] _ :: Kd.sr 0 _ :: Kd.d [0] _ :: Kd.sr 0 _ :: []) 0 mixed (by
       refine dm (sl p0 n0)<|dm (i6 x13_2)<|dm (sl p0 n0)<|dm (i6 x13_2)<|?_
       have h_t65 := Jr H170
       have H171 := Jn H170
       refine Qa rfl rfl (Qp rfl rfl h_t65)<|dm (sl p0 n0)<|dm (i6 x13_2)<|?_
       have h_t68 := Jr H171
       have H172 := Jn H171
       refine Qa rfl rfl (Qp rfl rfl h_t68) ?_
       have h_t69 := Jr H172
       have H173 := Jn H172
       refine Qc (fun w L' hF hS hi => J3 Tryz.underlying53 Tryz.sizeOf56 rfl rfl (Qy (i := 0) (E := 56) (sz := 2) (n := n0) (a := p0.1) (c := p0.2) hS ((hi 0 (by simp)).trans rfl)) hl_9 h_t69) rfl rfl<|Qc (fun w L' hF hS hi => Qj (f := Jo) (i := (val (gI (x13_2 + 1)))) (sz := 2) (j := 0) (vs := [i6 (val (Jk l_6 (val (gI (x13_2 + 1))))).Person, i6 (val (Jk l_6 (val (gI (x13_2 + 1))))).Far]) Tryz.isAgg56 Tryz.sizeOf56 rfl rfl (Qy (i := 0) (E := 56) (sz := 2) (n := n0) (a := p0.1) (c := p0.2) hS ((hi 0 (by simp)).trans rfl)) h_t69 rfl) rfl rfl<|dm (sl p0 n0)<|dm (i6 x13_2)<|?_
       have h_t73 := Jr H173
       have H174 := Jn H173
       refine Qc (fun w L' hF hS hi => J3 Tryz.underlying53 Tryz.sizeOf56 rfl rfl (Qy (i := 0) (E := 56) (sz := 2) (n := n0) (a := p0.1) (c := p0.2) hS ((hi 0 (by simp)).trans rfl)) hl_9 h_t73) rfl rfl<|Qc (fun w L' hF hS hi => Qj (f := Jo) (i := x13_2) (sz := 2) (j := 0) (vs := [i6 (val (Jk l_6 x13_2)).Person, i6 (val (Jk l_6 x13_2)).Far]) Tryz.isAgg56 Tryz.sizeOf56 rfl rfl (Qy (i := 0) (E := 56) (sz := 2) (n := n0) (a := p0.1) (c := p0.2) hS ((hi 0 (by simp)).trans rfl)) h_t73 rfl) rfl rfl<|?_
       have h_t75 := Jr H174
       have H175 := Jn H174
       refine Qc (fun w L' hF hS hi => J3 Tryz.underlying53 Tryz.sizeOf56 rfl rfl (Qy (i := 0) (E := 56) (sz := 2) (n := n0) (a := p0.1) (c := p0.2) hS ((hi 0 (by simp)).trans rfl)) hl_9 h_t75) rfl rfl ?_
       have h_l0_3 := Jr H175
       have H176 := Jn H175
       refine d_storeG (q := 0) (j := 0) (i := x13_2) (sz := 2) (hm := hl_9) (f := Jo) (vs := [i6 (val (Jk l_6 (val (gI (x13_2 + 1))))).Person, i6 (val (Jk l_6 (val (gI (x13_2 + 1))))).Far]) Tryz.sizeOf56 rfl rfl rfl rfl rfl rfl rfl rfl rfl (fun y_ hy_ => by first | rfl | (cases hy_.symm.trans h_t75; rfl)) h_l0_3 ?_
       have h_t76 := Jr H176
       have H177 := Jn H176
       refine Qc (fun w L' hF hS hi => J3 Tryz.underlying53 Tryz.sizeOf56 rfl rfl (Qy (i := 0) (E := 56) (sz := 2) (n := n0) (a := p0.1) (c := p0.2) hS ((hi 0 (by simp)).trans rfl)) (Jau hl_9 h_l0_3) h_t76) rfl rfl ?_
       have h_l0_4 := Jr H177
       have H178 := Jn H177
       refine d_storeG (q := 0) (j := 0) (i := (val (gI (x13_2 + 1)))) (sz := 2) (hm := (Jau hl_9 h_l0_3)) (f := Jo) (vs := [i6 (val (Jk l_6 x13_2)).Person, i6 (val (Jk l_6 x13_2)).Far]) Tryz.sizeOf56 rfl rfl rfl rfl rfl rfl rfl rfl rfl (fun y_ hy_ => by first | rfl | (cases hy_.symm.trans h_t76; rfl)) h_l0_4<|Y3<|Ja<|mv (i6 x13_2)<|?_
       obtain ⟨t60, h_t60, H179⟩ := Je H178; clear H178
       refine Jf rfl rfl rfl (Qp rfl rfl h_t60)<|ag (i6 t60)<|Jd<|?_
       refine Js (t60, (val (Q6 (val (Q6 l_6 x13_2 (val (Jk l_6 (val (gI (x13_2 + 1))))))) (val (gI (x13_2 + 1))) (val (Jk l_6 x13_2))))) () m12 [0] (by exact ⟨rfl, rfl, rfl, rfl, rfl, rfl, rfl, trivial⟩) (by decide) rfl (by exact ⟨(by subst hn12; exact H179), (Jau (Jau hl_9 h_l0_3) h_l0_4)⟩) (Nat.lt_succ_self _)
       ) (by kernel_rfl)
     ·have H180 := Jx hb H169; clear H169
      refine Q3<|Jy<|?_
      obtain rfl := Option.some.inj H180
      refine ret0 rfl (Zb () (i := 0) rfl rfl (Imp.refl _))
   ·have H192 := Jx hb H165; clear H165
    refine Jv ?_
    refine Js () () 0 [0] (by exact ⟨rfl, rfl, rfl, rfl, rfl, trivial⟩) (by decide) rfl (by exact ⟨H192, trivial⟩) (Nat.lt_succ_self _)
  ·rintro _ _ gg H97 _
   try dsimp only at H97
   try dsimp only
   refine Xf (r := r) (σ := Unit) (τ := Unit) (fun s => Z4 a0 a1 a2 a3 a4 self) (fun s t => [(0, sl p0 n0), (1, i6 a1), (2, i6 a2), (3, i6 a3), (4, v4)]) (fun s t => [J5 56 2 (sl p0 n0) n0 (a0.map Jo)]) (fun s t => True) ?_ ?_
   ·refine Jc<|Ja<|mv (i6 a3)<|mv (i6 a2)<|?_
    obtain ⟨t79, h_t79, H138⟩ := Je H97; clear H97
    refine Jf rfl rfl rfl (Zl rfl rfl h_t79)<|Jf rfl rfl rfl (Uv rfl rfl)<|Jd<|?_
    refine Qm (b := (decide (t79 = 1))) rfl (fun hb => ?_) (fun hb => ?_)
    ·have H139 := Jw hb H138; clear H138
     refine Jc<|Ja<|mv (i6 a1)<|ag (i6 a1)<|Jd<|Jc<|Ja<|mv (i6 a2)<|ag (i6 a2)<|Jd<|?_
     refine Xf (r := r) (σ := Int) (τ := Unit) (fun s => Z2 a0 a2 s) (fun s t => [(0, sl p0 n0), (1, i6 a1), (2, i6 a2), (3, i6 a3), (4, v4), (14, i6 s)]) (fun s t => [J5 56 2 (sl p0 n0) n0 (a0.map Jo)]) (fun s t => True) ?_ ?_
     ·refine Ju ?_
      refine X6 (σ := Int × Int) (τ := Unit) (fun next10 s => Xl a0 a2 a4 next10 s.1 s.2) (fun s t => [(0, sl p0 n0), (1, i6 a1), (2, i6 a2), (3, i6 a3), (4, v4), (14, i6 s.1), (15, i6 s.2)]) (fun s t => [J5 56 2 (sl p0 n0) n0 (a0.map Jo)]) (fun s t => True) (a1, a2) () [0] H139 (by exact trivial) (by exact ⟨rfl, rfl, rfl, rfl, rfl, rfl, rfl, trivial⟩) (by decide) rfl ?_
      rintro ⟨x14_3, x15_2⟩ _ m10 gg H153 _
      clear H139
      try dsimp only at H153
      generalize hn10 : it (fun next10 s => Xl a0 a2 a4 next10 s.1 s.2) m10 = next10 at H153
      try dsimp only
      refine Jc<|Jc<|Ja<|mv (i6 x14_3)<|mv (i6 x15_2)<|Jf rfl rfl rfl (Q0 rfl rfl)<|Jd<|?_
      refine Qm (b := (decide (x14_3 < x15_2))) rfl (fun hb => ?_) (fun hb => ?_)
      ·have H154 := Jw hb H153; clear H153
       refine Jv<|Ju<|Jc<|Ja<|mv (i6 x14_3)<|mv (i6 x15_2)<|?_
       obtain ⟨t88, h_t88, H155⟩ := Je H154; clear H154
       refine Jf rfl rfl rfl (Qp rfl rfl h_t88)<|Jf rfl rfl rfl (Ja0 Tryz.runUnderlying3 Tryz.runUnderlying106 rfl (wr_u64 _))<|?_
       obtain ⟨t90, h_t90, H156⟩ := Je H155; clear H155
       refine Jf rfl rfl rfl (r_shrG rfl rfl rfl h_t90)<|Jf rfl rfl rfl (Ja0 Tryz.runUnderlying106 Tryz.runUnderlying3 rfl (wr_i64 _))<|ag (i6 (Xm t90))<|Jd<|Jc<|?_
       exact Qz (Kd.p :: Kd.p :: Kd.p :: Kd.d [0] _ :: Kd.d [0] _ :: Kd.p :: Kd.p :: Kd.d [0] _ :: Kd.d [0] _ :: Kd.d [] _ :: Kd.p :: Kd.p :: []) 0 mixed (by
        refine dm v4<|dm (sl p0 n0)<|dm (i6 a2)<|?_
        have h_t95 := Jr H156
        have H157 := Jn H156
        refine Qc (fun w L' hF hS hi => J3 Tryz.underlying53 Tryz.sizeOf56 rfl rfl (Qy (i := 0) (E := 56) (sz := 2) (n := n0) (a := p0.1) (c := p0.2) hS ((hi 0 (by simp)).trans rfl)) hn0 h_t95) rfl rfl<|Qc (fun w L' hF hS hi => Qj (f := Jo) (i := a2) (sz := 2) (j := 0) (vs := [i6 (val (Jk a0 a2)).Person, i6 (val (Jk a0 a2)).Far]) Tryz.isAgg56 Tryz.sizeOf56 rfl rfl (Qy (i := 0) (E := 56) (sz := 2) (n := n0) (a := p0.1) (c := p0.2) hS ((hi 0 (by simp)).trans rfl)) h_t95 rfl) rfl rfl<|dm (sl p0 n0)<|dm (i6 (Xm t90))<|?_
        have h_t99 := Jr H157
        have H158 := Jn H157
        refine Qc (fun w L' hF hS hi => J3 Tryz.underlying53 Tryz.sizeOf56 rfl rfl (Qy (i := 0) (E := 56) (sz := 2) (n := n0) (a := p0.1) (c := p0.2) hS ((hi 0 (by simp)).trans rfl)) hn0 h_t99) rfl rfl<|Qc (fun w L' hF hS hi => Qj (f := Jo) (i := (Xm t90)) (sz := 2) (j := 0) (vs := [i6 (val (Jk a0 (Xm t90))).Person, i6 (val (Jk a0 (Xm t90))).Far]) Tryz.isAgg56 Tryz.sizeOf56 rfl rfl (Qy (i := 0) (E := 56) (sz := 2) (n := n0) (a := p0.1) (c := p0.2) hS ((hi 0 (by simp)).trans rfl)) h_t99 rfl) rfl rfl<|?_
        have h_t101 := Jr H158
        have H159 := Jn H158
        refine d_callV (R := Qn a4) (r := i6 (val (a4 (val (Jk a0 a2)) (val (Jk a0 (Xm t90)))))) (v := v4) (fun w L' hF hS hi => ⟨(f4.mono (hw.now hF)), ⟨(val (Jk a0 a2)), (val (Jk a0 (Xm t90))), _, rfl, h_t101, rfl⟩⟩) rfl rfl rfl<|Qa rfl rfl (Q0 rfl rfl)<|Qa rfl rfl (Ub rfl)<|Y3<|?_
        refine Qm (b := (!(decide ((val (a4 (val (Jk a0 a2)) (val (Jk a0 (Xm t90))))) < 0)))) rfl (fun hb => ?_) (fun hb => ?_)
        ·have H160 := Jw hb H159; clear H159
         refine Ja<|mv (i6 (Xm t90))<|?_
         obtain ⟨t105, h_t105, H161⟩ := Je H160; clear H160
         refine Jf rfl rfl rfl (Qp rfl rfl h_t105)<|ag (i6 t105)<|Jd<|?_
         refine Js (t105, x15_2) () m10 [0] (by exact ⟨rfl, rfl, rfl, rfl, rfl, rfl, rfl, trivial⟩) (by decide) rfl (by exact ⟨(by subst hn10; exact H161), trivial⟩) (Nat.lt_succ_self _)
        ·have H162 := Jx hb H159; clear H159
         refine Ja<|mv (i6 (Xm t90))<|ag (i6 (Xm t90))<|Jd<|?_
         refine Js (x14_3, (Xm t90)) () m10 [0] (by exact ⟨rfl, rfl, rfl, rfl, rfl, rfl, rfl, trivial⟩) (by decide) rfl (by exact ⟨(by subst hn10; exact H162), trivial⟩) (Nat.lt_succ_self _)
        ) (by kernel_rfl)
      ·have H163 := Jx hb H153; clear H153
       refine Q3 ?_
       refine Js x14_3 () 0 [0] (by exact ⟨rfl, rfl, rfl, rfl, rfl, rfl, trivial⟩) (by decide) rfl (by exact ⟨H163, trivial⟩) (Nat.lt_succ_self _)
     ·rintro x14 _ gg H140 _
      try dsimp only at H140
      try dsimp only
      refine Jc<|Jc<|Ja<|mv (i6 a2)<|ag (i6 a2)<|Jd<|Ju<|?_
      refine X6 (σ := Int × (List T_face_Match)) (τ := Unit) (fun next9 s => X8 x14 next9 s.1 s.2) (fun s t => [(0, sl p0 n0), (1, i6 a1), (2, i6 a2), (3, i6 a3), (4, v4), (14, i6 x14), (17, i6 s.1)]) (fun s t => [J5 56 2 (sl p0 n0) n0 (s.2.map Jo)]) (fun s t => n0 = s.2.length) (a2, a0) () [0] H140 (by exact hn0) (by exact ⟨rfl, rfl, rfl, rfl, rfl, rfl, rfl, trivial⟩) (by decide) rfl ?_
      rintro ⟨x17_2, l_4⟩ _ m9 gg H141 hl_7
      clear H140
      try dsimp only at H141
      generalize hn9 : it (fun next9 s => X8 x14 next9 s.1 s.2) m9 = next9 at H141
      try dsimp only
      refine Jc<|Jc<|Ja<|mv (i6 x17_2)<|mv (i6 x14)<|Jf rfl rfl rfl (Jaz rfl rfl)<|Jd<|?_
      refine Qm (b := (decide (x14 < x17_2))) rfl (fun hb => ?_) (fun hb => ?_)
      ·have H142 := Jw hb H141; clear H141
       refine Jv<|Jc<|Ju<|?_
       exact Qz (Kd.p :: Kd.p :: Kd.p :: Kd.p :: Kd.p :: Kd.p :: Kd.p :: Kd.p :: Kd.d [0] _ :: Kd.d [0] _ :: Kd.p :: Kd.p :: Kd.d [0] _ :: Kd.d [0] _ :: Kd.d [0] _ :: Kd.sr 0 _ :: Kd.d [0] _ :: Kd.sr 0 _ :: []) 0 mixed (by
        refine dm (sl p0 n0)<|dm (i6 x17_2)<|dm (sl p0 n0)<|dm (i6 x17_2)<|?_
        have h_t117 := Jr H142
        have H143 := Jn H142
        refine Qa rfl rfl (Zl rfl rfl h_t117)<|dm (sl p0 n0)<|dm (i6 x17_2)<|?_
        have h_t120 := Jr H143
        have H144 := Jn H143
        refine Qa rfl rfl (Zl rfl rfl h_t120) ?_
        have h_t121 := Jr H144
        have H145 := Jn H144
        refine Qc (fun w L' hF hS hi => J3 Tryz.underlying53 Tryz.sizeOf56 rfl rfl (Qy (i := 0) (E := 56) (sz := 2) (n := n0) (a := p0.1) (c := p0.2) hS ((hi 0 (by simp)).trans rfl)) hl_7 h_t121) rfl rfl<|Qc (fun w L' hF hS hi => Qj (f := Jo) (i := (val (gI (x17_2 - 1)))) (sz := 2) (j := 0) (vs := [i6 (val (Jk l_4 (val (gI (x17_2 - 1))))).Person, i6 (val (Jk l_4 (val (gI (x17_2 - 1))))).Far]) Tryz.isAgg56 Tryz.sizeOf56 rfl rfl (Qy (i := 0) (E := 56) (sz := 2) (n := n0) (a := p0.1) (c := p0.2) hS ((hi 0 (by simp)).trans rfl)) h_t121 rfl) rfl rfl<|dm (sl p0 n0)<|dm (i6 x17_2)<|?_
        have h_t125 := Jr H145
        have H146 := Jn H145
        refine Qc (fun w L' hF hS hi => J3 Tryz.underlying53 Tryz.sizeOf56 rfl rfl (Qy (i := 0) (E := 56) (sz := 2) (n := n0) (a := p0.1) (c := p0.2) hS ((hi 0 (by simp)).trans rfl)) hl_7 h_t125) rfl rfl<|Qc (fun w L' hF hS hi => Qj (f := Jo) (i := x17_2) (sz := 2) (j := 0) (vs := [i6 (val (Jk l_4 x17_2)).Person, i6 (val (Jk l_4 x17_2)).Far]) Tryz.isAgg56 Tryz.sizeOf56 rfl rfl (Qy (i := 0) (E := 56) (sz := 2) (n := n0) (a := p0.1) (c := p0.2) hS ((hi 0 (by simp)).trans rfl)) h_t125 rfl) rfl rfl<|?_
        have h_t127 := Jr H146
        have H147 := Jn H146
        refine Qc (fun w L' hF hS hi => J3 Tryz.underlying53 Tryz.sizeOf56 rfl rfl (Qy (i := 0) (E := 56) (sz := 2) (n := n0) (a := p0.1) (c := p0.2) hS ((hi 0 (by simp)).trans rfl)) hl_7 h_t127) rfl rfl ?_
        have h_l0 := Jr H147
        have H148 := Jn H147
        refine d_storeG (q := 0) (j := 0) (i := x17_2) (sz := 2) (hm := hl_7) (f := Jo) (vs := [i6 (val (Jk l_4 (val (gI (x17_2 - 1))))).Person, i6 (val (Jk l_4 (val (gI (x17_2 - 1))))).Far]) Tryz.sizeOf56 rfl rfl rfl rfl rfl rfl rfl rfl rfl (fun y_ hy_ => by first | rfl | (cases hy_.symm.trans h_t127; rfl)) h_l0 ?_
        have h_t128 := Jr H148
        have H149 := Jn H148
        refine Qc (fun w L' hF hS hi => J3 Tryz.underlying53 Tryz.sizeOf56 rfl rfl (Qy (i := 0) (E := 56) (sz := 2) (n := n0) (a := p0.1) (c := p0.2) hS ((hi 0 (by simp)).trans rfl)) (Jau hl_7 h_l0) h_t128) rfl rfl ?_
        have h_l0_2 := Jr H149
        have H150 := Jn H149
        refine d_storeG (q := 0) (j := 0) (i := (val (gI (x17_2 - 1)))) (sz := 2) (hm := (Jau hl_7 h_l0)) (f := Jo) (vs := [i6 (val (Jk l_4 x17_2)).Person, i6 (val (Jk l_4 x17_2)).Far]) Tryz.sizeOf56 rfl rfl rfl rfl rfl rfl rfl rfl rfl (fun y_ hy_ => by first | rfl | (cases hy_.symm.trans h_t128; rfl)) h_l0_2<|Y3<|Ja<|mv (i6 x17_2)<|?_
        obtain ⟨t112, h_t112, H151⟩ := Je H150; clear H150
        refine Jf rfl rfl rfl (Zl rfl rfl h_t112)<|ag (i6 t112)<|Jd<|?_
        refine Js (t112, (val (Q6 (val (Q6 l_4 x17_2 (val (Jk l_4 (val (gI (x17_2 - 1))))))) (val (gI (x17_2 - 1))) (val (Jk l_4 x17_2))))) () m9 [0] (by exact ⟨rfl, rfl, rfl, rfl, rfl, rfl, rfl, trivial⟩) (by decide) rfl (by exact ⟨(by subst hn9; exact H151), (Jau (Jau hl_7 h_l0) h_l0_2)⟩) (Nat.lt_succ_self _)
        ) (by kernel_rfl)
      ·have H152 := Jx hb H141; clear H141
       refine Q3<|Jy<|?_
       obtain rfl := Option.some.inj H152
       refine ret0 rfl (Zb () (i := 0) rfl rfl (Imp.refl _))
    ·have H164 := Jx hb H138; clear H138
     refine Jv ?_
     refine Js () () 0 [0] (by exact ⟨rfl, rfl, rfl, rfl, rfl, trivial⟩) (by decide) rfl (by exact ⟨H164, trivial⟩) (Nat.lt_succ_self _)
   ·rintro _ _ gg H98 _
    try dsimp only at H98
    try dsimp only
    refine Jc<|Ja<|mv (i6 a1)<|mv (i6 a3)<|?_
    obtain ⟨t131, h_t131, H99⟩ := Je H98; clear H98
    refine Jf rfl rfl rfl (Qp rfl rfl h_t131)<|Jf rfl rfl rfl (Ja0 Tryz.runUnderlying3 Tryz.runUnderlying106 rfl (wr_u64 _))<|?_
    obtain ⟨t133, h_t133, H100⟩ := Je H99; clear H99
    refine Jf rfl rfl rfl (r_shrG rfl rfl rfl h_t133)<|Jf rfl rfl rfl (Ja0 Tryz.runUnderlying106 Tryz.runUnderlying3 rfl (wr_i64 _))<|ag (i6 (Xm t133))<|Jd<|Jc<|Ja<|mv (i6 (Xm t133))<|mv (i6 a2)<|?_
    obtain ⟨t137, h_t137, H101⟩ := Je H100; clear H100
    refine Jf rfl rfl rfl (Qp rfl rfl h_t137)<|ag (i6 t137)<|Jd<|Jc<|Ja<|ag (i6 0)<|ag (i6 0)<|Jd<|?_
    refine Xf (r := r) (σ := Int × Int) (τ := Unit) (fun s => Yt a0 a1 a2 a3 a4 self t133 t137 s.1 s.2) (fun s t => [(0, sl p0 n0), (1, i6 a1), (2, i6 a2), (3, i6 a3), (4, v4), (18, i6 (Xm t133)), (19, i6 t137), (20, i6 s.1), (21, i6 s.2)]) (fun s t => [J5 56 2 (sl p0 n0) n0 (a0.map Jo)]) (fun s t => True) ?_ ?_
    ·refine Jc<|Ja<|mv (i6 a2)<|mv (i6 (Xm t133))<|Jf rfl rfl rfl (Jaz rfl rfl)<|Jd<|?_
     refine Qm (b := (decide ((Xm t133) < a2))) rfl (fun hb => ?_) (fun hb => ?_)
     ·have H135 := Jw hb H101; clear H101
      refine Jc<|Ja<|mv (i6 t137)<|mv (i6 a3)<|?_
      obtain ⟨t143, h_t143, H136⟩ := Je H135; clear H135
      refine Jf rfl rfl rfl (Zl rfl rfl h_t143)<|ag (i6 t143)<|Jd<|Ja<|mv (i6 (Xm t133))<|ag (i6 (Xm t133))<|Jd<|?_
      refine Js (t143, (Xm t133)) () 0 [0] (by exact ⟨rfl, rfl, rfl, rfl, rfl, rfl, rfl, rfl, rfl, trivial⟩) (by decide) rfl (by exact ⟨H136, trivial⟩) (Nat.lt_succ_self _)
     ·have H137 := Jx hb H101; clear H101
      refine Jc<|Ja<|mv (i6 a1)<|ag (i6 a1)<|Jd<|Ja<|mv (i6 a2)<|ag (i6 a2)<|Jd<|?_
      refine Js (a1, a2) () 0 [0] (by exact ⟨rfl, rfl, rfl, rfl, rfl, rfl, rfl, rfl, rfl, trivial⟩) (by decide) rfl (by exact ⟨H137, trivial⟩) (Nat.lt_succ_self _)
    ·rintro ⟨x20, x21⟩ _ gg H102 _
     try dsimp only at H102
     try dsimp only
     refine Jc<|Ja<|mv (i6 t137)<|?_
     obtain ⟨t148, h_t148, H103⟩ := Je H102; clear H102
     refine Jf rfl rfl rfl (Zl rfl rfl h_t148)<|ag (i6 t148)<|Jd<|?_
     refine Xf (r := r) (σ := Int) (τ := Unit) (fun s => Xo a0 a1 a2 a3 a4 self t133 t137 s) (fun s t => [(0, sl p0 n0), (1, i6 a1), (2, i6 a2), (3, i6 a3), (4, v4), (18, i6 (Xm t133)), (19, i6 t137), (20, i6 s)]) (fun s t => [J5 56 2 (sl p0 n0) n0 (a0.map Jo)]) (fun s t => True) ?_ ?_
     ·refine Ju ?_
      refine X6 (σ := Int × Int) (τ := Unit) (fun next7 s => Xq a0 a1 a2 a3 a4 self t133 t137 t148 next7 s.1 s.2) (fun s t => [(0, sl p0 n0), (1, i6 a1), (2, i6 a2), (3, i6 a3), (4, v4), (18, i6 (Xm t133)), (19, i6 t137), (20, i6 s.1), (21, i6 s.2), (22, i6 t148)]) (fun s t => [J5 56 2 (sl p0 n0) n0 (a0.map Jo)]) (fun s t => True) (x20, x21) () [0] H103 (by exact trivial) (by exact ⟨rfl, rfl, rfl, rfl, rfl, rfl, rfl, rfl, rfl, rfl, trivial⟩) (by decide) rfl ?_
      rintro ⟨x20_4, x21_3⟩ _ m7 gg H123 _
      clear H103
      try dsimp only at H123
      generalize hn7 : it (fun next7 s => Xq a0 a1 a2 a3 a4 self t133 t137 t148 next7 s.1 s.2) m7 = next7 at H123
      try dsimp only
      refine Jc<|Jc<|Ja<|mv (i6 x20_4)<|mv (i6 x21_3)<|Jf rfl rfl rfl (Q0 rfl rfl)<|Jd<|?_
      refine Qm (b := (decide (x20_4 < x21_3))) rfl (fun hb => ?_) (fun hb => ?_)
      ·have H124 := Jw hb H123; clear H123
       refine Jv<|Ju<|Jc<|Ja<|mv (i6 x20_4)<|mv (i6 x21_3)<|?_
       obtain ⟨t154, h_t154, H125⟩ := Je H124; clear H124
       refine Jf rfl rfl rfl (Qp rfl rfl h_t154)<|Jf rfl rfl rfl (Ja0 Tryz.runUnderlying3 Tryz.runUnderlying106 rfl (wr_u64 _))<|?_
       obtain ⟨t156, h_t156, H126⟩ := Je H125; clear H125
       refine Jf rfl rfl rfl (r_shrG rfl rfl rfl h_t156)<|Jf rfl rfl rfl (Ja0 Tryz.runUnderlying106 Tryz.runUnderlying3 rfl (wr_i64 _))<|ag (i6 (Xm t156))<|Jd<|Jc<|?_
       exact Qz (Kd.p :: Kd.p :: Kd.p :: Kd.p :: Kd.p :: Kd.d [0] _ :: Kd.d [0] _ :: Kd.p :: Kd.p :: Kd.d [0] _ :: Kd.d [0] _ :: Kd.d [] _ :: Kd.p :: Kd.p :: []) 0 mixed (by
        refine dm v4<|dm (sl p0 n0)<|dm (i6 t148)<|dm (i6 (Xm t156))<|?_
        have h_t162 := Jr H126
        have H127 := Jn H126
        refine Qa rfl rfl (Zl rfl rfl h_t162) ?_
        have h_t163 := Jr H127
        have H128 := Jn H127
        refine Qc (fun w L' hF hS hi => J3 Tryz.underlying53 Tryz.sizeOf56 rfl rfl (Qy (i := 0) (E := 56) (sz := 2) (n := n0) (a := p0.1) (c := p0.2) hS ((hi 0 (by simp)).trans rfl)) hn0 h_t163) rfl rfl<|Qc (fun w L' hF hS hi => Qj (f := Jo) (i := (val (gI (t148 - (Xm t156))))) (sz := 2) (j := 0) (vs := [i6 (val (Jk a0 (val (gI (t148 - (Xm t156)))))).Person, i6 (val (Jk a0 (val (gI (t148 - (Xm t156)))))).Far]) Tryz.isAgg56 Tryz.sizeOf56 rfl rfl (Qy (i := 0) (E := 56) (sz := 2) (n := n0) (a := p0.1) (c := p0.2) hS ((hi 0 (by simp)).trans rfl)) h_t163 rfl) rfl rfl<|dm (sl p0 n0)<|dm (i6 (Xm t156))<|?_
        have h_t167 := Jr H128
        have H129 := Jn H128
        refine Qc (fun w L' hF hS hi => J3 Tryz.underlying53 Tryz.sizeOf56 rfl rfl (Qy (i := 0) (E := 56) (sz := 2) (n := n0) (a := p0.1) (c := p0.2) hS ((hi 0 (by simp)).trans rfl)) hn0 h_t167) rfl rfl<|Qc (fun w L' hF hS hi => Qj (f := Jo) (i := (Xm t156)) (sz := 2) (j := 0) (vs := [i6 (val (Jk a0 (Xm t156))).Person, i6 (val (Jk a0 (Xm t156))).Far]) Tryz.isAgg56 Tryz.sizeOf56 rfl rfl (Qy (i := 0) (E := 56) (sz := 2) (n := n0) (a := p0.1) (c := p0.2) hS ((hi 0 (by simp)).trans rfl)) h_t167 rfl) rfl rfl<|?_
        have h_t169 := Jr H129
        have H130 := Jn H129
        refine d_callV (R := Qn a4) (r := i6 (val (a4 (val (Jk a0 (val (gI (t148 - (Xm t156)))))) (val (Jk a0 (Xm t156)))))) (v := v4) (fun w L' hF hS hi => ⟨(f4.mono (hw.now hF)), ⟨(val (Jk a0 (val (gI (t148 - (Xm t156)))))), (val (Jk a0 (Xm t156))), _, rfl, h_t169, rfl⟩⟩) rfl rfl rfl<|Qa rfl rfl (Q0 rfl rfl)<|Qa rfl rfl (Ub rfl)<|Y3<|?_
        refine Qm (b := (!(decide ((val (a4 (val (Jk a0 (val (gI (t148 - (Xm t156)))))) (val (Jk a0 (Xm t156))))) < 0)))) rfl (fun hb => ?_) (fun hb => ?_)
        ·have H131 := Jw hb H130; clear H130
         refine Ja<|mv (i6 (Xm t156))<|?_
         obtain ⟨t173, h_t173, H132⟩ := Je H131; clear H131
         refine Jf rfl rfl rfl (Qp rfl rfl h_t173)<|ag (i6 t173)<|Jd<|?_
         refine Js (t173, x21_3) () m7 [0] (by exact ⟨rfl, rfl, rfl, rfl, rfl, rfl, rfl, rfl, rfl, rfl, trivial⟩) (by decide) rfl (by exact ⟨(by subst hn7; exact H132), trivial⟩) (Nat.lt_succ_self _)
        ·have H133 := Jx hb H130; clear H130
         refine Ja<|mv (i6 (Xm t156))<|ag (i6 (Xm t156))<|Jd<|?_
         refine Js (x20_4, (Xm t156)) () m7 [0] (by exact ⟨rfl, rfl, rfl, rfl, rfl, rfl, rfl, rfl, rfl, rfl, trivial⟩) (by decide) rfl (by exact ⟨(by subst hn7; exact H133), trivial⟩) (Nat.lt_succ_self _)
        ) (by kernel_rfl)
      ·have H134 := Jx hb H123; clear H123
       refine Q3 ?_
       refine Js x20_4 () 0 [0] (by exact ⟨rfl, rfl, rfl, rfl, rfl, rfl, rfl, rfl, trivial⟩) (by decide) rfl (by exact ⟨H134, trivial⟩) (Nat.lt_succ_self _)
     ·rintro x20_2 _ gg H104 _
      try dsimp only at H104
      try dsimp only
      refine Jc<|Ja<|mv (i6 t137)<|mv (i6 x20_2)<|?_
      obtain ⟨t177, h_t177, H105⟩ := Je H104; clear H104
      refine Jf rfl rfl rfl (Zl rfl rfl h_t177)<|ag (i6 t177)<|Jd<|?_
      refine Xf (r := r) (σ := (List T_face_Match)) (τ := Unit) (fun s => Xp a1 a3 a4 self t133 x20_2 t177 s) (fun s t => [(0, sl p0 n0), (1, i6 a1), (3, i6 a3), (4, v4), (18, i6 (Xm t133)), (20, i6 x20_2), (24, i6 t177)]) (fun s t => [J5 56 2 (sl p0 n0) n0 (s.map Jo)]) (fun s t => n0 = s.length) ?_ ?_
      ·refine Jc<|Ja<|mv (i6 x20_2)<|mv (i6 a2)<|Jf rfl rfl rfl (Q0 rfl rfl)<|mv (.bool (decide (x20_2 < a2)))<|?_
       refine split (fun hb => ?_) (fun hb => ?_)
       ·have H118 := Jw hb H105; clear H105
        refine mv (i6 a2)<|mv (i6 t177)<|Jf rfl rfl rfl (Q0 rfl rfl)<|Jf rfl rfl rfl (Q5 (v := .bool (decide (a2 < t177))) rfl rfl)<|Jd<|?_
        refine Qm (b := (decide (a2 < t177))) rfl (fun hb => ?_) (fun hb => ?_)
        ·have H119 := Jw hb H118; clear H118
         refine Ja<|mv (sl p0 n0)<|mv (i6 x20_2)<|mv (i6 a2)<|mv (i6 t177)<|mv v4<|?_
         obtain ⟨t191, h_t191, H120⟩ := Je H119; clear H119
         refine Y7 (Xj (i := 0) (rds := []) (G := fun x : Unit => .tuple #[]) (C := fun x : Unit => J5 56 2 (sl p0 n0) n0 (t191.map Jo)) rfl (fun w L' S hF hS hi hp hlt ho hA => k190 hp hlt (Y4 w S) hn0 (f4.mono (hw.but hF ho)) h_t191) Tryz.call190 rfl) rfl rfl rfl (fun _ => ?_)
         refine Zq (fun w hF hS => lenOf (i := 0) hS rfl) (fun hl_5_ => ?_)
         have hl_5 : n0 = t191.length := by simpa using hl_5_.symm
         refine Jd ?_
         refine Js t191 () 0 [0] (by exact ⟨rfl, rfl, rfl, rfl, rfl, rfl, rfl, trivial⟩) (by decide) rfl (by exact ⟨H120, hl_5⟩) (Nat.lt_succ_self _)
        ·have H121 := Jx hb H118; clear H118
         refine Jv ?_
         refine Js a0 () 0 [0] (by exact ⟨rfl, rfl, rfl, rfl, rfl, rfl, rfl, trivial⟩) (by decide) rfl (by exact ⟨H121, hn0⟩) (Nat.lt_succ_self _)
       ·have H122 := Jx hb H105; clear H105
        refine pa<|pa<|pa<|Jf rfl rfl rfl (Qr (v := .bool false) rfl rfl)<|Jd<|Wq rfl<|Jv<|?_
        refine Js a0 () 0 [0] (by exact ⟨rfl, rfl, rfl, rfl, rfl, rfl, rfl, trivial⟩) (by decide) rfl (by exact ⟨H122, hn0⟩) (Nat.lt_succ_self _)
      ·rintro l _ gg H106 hl
       try dsimp only at H106
       try dsimp only
       refine Xf (r := r) (σ := (List T_face_Match)) (τ := Unit) (fun s => Xr a3 a4 self t133 t177 s) (fun s t => [(0, sl p0 n0), (3, i6 a3), (4, v4), (18, i6 (Xm t133)), (24, i6 t177)]) (fun s t => [J5 56 2 (sl p0 n0) n0 (s.map Jo)]) (fun s t => n0 = s.length) ?_ ?_
       ·refine Jc<|Ja<|mv (i6 a1)<|mv (i6 x20_2)<|Jf rfl rfl rfl (Q0 rfl rfl)<|mv (.bool (decide (a1 < x20_2)))<|?_
        refine split (fun hb => ?_) (fun hb => ?_)
        ·have H113 := Jw hb H106; clear H106
         refine mv (i6 x20_2)<|mv (i6 (Xm t133))<|Jf rfl rfl rfl (Q0 rfl rfl)<|Jf rfl rfl rfl (Q5 (v := .bool (decide (x20_2 < (Xm t133)))) rfl rfl)<|Jd<|?_
         refine Qm (b := (decide (x20_2 < (Xm t133)))) rfl (fun hb => ?_) (fun hb => ?_)
         ·have H114 := Jw hb H113; clear H113
          refine Ja<|mv (sl p0 n0)<|mv (i6 a1)<|mv (i6 x20_2)<|mv (i6 (Xm t133))<|mv v4<|?_
          obtain ⟨t205, h_t205, H115⟩ := Je H114; clear H114
          refine Y7 (Xj (i := 0) (rds := []) (G := fun x : Unit => .tuple #[]) (C := fun x : Unit => J5 56 2 (sl p0 n0) n0 (t205.map Jo)) rfl (fun w L' S hF hS hi hp hlt ho hA => ih hp hlt (Y4 w S) hl (f4.mono (hw.but hF ho)) h_t205) Tryz.call176 rfl) rfl rfl rfl (fun _ => ?_)
          refine Zq (fun w hF hS => lenOf (i := 0) hS rfl) (fun hl_4_ => ?_)
          have hl_4 : n0 = t205.length := by simpa using hl_4_.symm
          refine Jd ?_
          refine Js t205 () 0 [0] (by exact ⟨rfl, rfl, rfl, rfl, rfl, trivial⟩) (by decide) rfl (by exact ⟨H115, hl_4⟩) (Nat.lt_succ_self _)
         ·have H116 := Jx hb H113; clear H113
          refine Jv ?_
          refine Js l () 0 [0] (by exact ⟨rfl, rfl, rfl, rfl, rfl, trivial⟩) (by decide) rfl (by exact ⟨H116, hl⟩) (Nat.lt_succ_self _)
        ·have H117 := Jx hb H106; clear H106
         refine pa<|pa<|pa<|Jf rfl rfl rfl (Qr (v := .bool false) rfl rfl)<|Jd<|Wq rfl<|Jv<|?_
         refine Js l () 0 [0] (by exact ⟨rfl, rfl, rfl, rfl, rfl, trivial⟩) (by decide) rfl (by exact ⟨H117, hl⟩) (Nat.lt_succ_self _)
       ·rintro l_2 _ gg H107 hl_2
        try dsimp only at H107
        try dsimp only
        refine Jc<|Ja<|mv (i6 (Xm t133))<|mv (i6 t177)<|Jf rfl rfl rfl (Q0 rfl rfl)<|mv (.bool (decide ((Xm t133) < t177)))<|?_
        refine split (fun hb => ?_) (fun hb => ?_)
        ·have H108 := Jw hb H107; clear H107
         refine mv (i6 t177)<|mv (i6 a3)<|Jf rfl rfl rfl (Q0 rfl rfl)<|Jf rfl rfl rfl (Q5 (v := .bool (decide (t177 < a3))) rfl rfl)<|Jd<|?_
         refine Qm (b := (decide (t177 < a3))) rfl (fun hb => ?_) (fun hb => ?_)
         ·have H109 := Jw hb H108; clear H108
          refine Ja<|mv (sl p0 n0)<|mv (i6 (Xm t133))<|mv (i6 t177)<|mv (i6 a3)<|mv v4<|?_
          obtain ⟨t219, h_t219, H110⟩ := Je H109; clear H109
          refine Y7 (Xj (i := 0) (rds := []) (G := fun x : Unit => .tuple #[]) (C := fun x : Unit => J5 56 2 (sl p0 n0) n0 (t219.map Jo)) rfl (fun w L' S hF hS hi hp hlt ho hA => ih hp hlt (Y4 w S) hl_2 (f4.mono (hw.but hF ho)) h_t219) Tryz.call176 rfl) rfl rfl rfl (fun _ => ?_)
          refine Zq (fun w hF hS => lenOf (i := 0) hS rfl) (fun hl_3_ => ?_)
          have hl_3 : n0 = t219.length := by simpa using hl_3_.symm
          refine Jd ?_
          obtain rfl := Option.some.inj H110
          refine ret0n rfl (Zb () (i := 0) rfl rfl (Imp.refl _))
         ·have H111 := Jx hb H108; clear H108
          refine Jv ?_
          obtain rfl := Option.some.inj H111
          refine ret0n rfl (Zb () (i := 0) rfl rfl (Imp.refl _))
        ·have H112 := Jx hb H107; clear H107
         refine pa<|pa<|pa<|Jf rfl rfl rfl (Qr (v := .bool false) rfl rfl)<|Jd<|Wq rfl<|Jv<|?_
         obtain rfl := Option.some.inj H112
         refine ret0n rfl (Zb () (i := 0) rfl rfl (Imp.refl _))
theorem k176 {a0 : (List T_face_Match)} {p0 : Option Addr × Nat} {n0 : Nat} {a1 : Int} {a2 : Int} {a3 : Int} {a4 : (T_face_Match → T_face_Match → Option (Int))} {v4 : Value} {r : (List T_face_Match)} {w : World} {h : Qg} {S : Nat → Prop} (hcs : (J5 56 2 (sl p0 n0) n0 (a0.map Jo)).P S w) (hlt : ∀ b, S b → b < w.heap.size) (hw : Know h w S) (hn0 : n0 = a0.length) (f4 : FnH Tryz.prog h v4 (Qn a4)) (H : Zf a0 a1 a2 a3 a4 = some r) : Does Tryz.prog 176 (List.toArray [sl p0 n0, i6 a1, i6 a2, i6 a3, v4]) w (fun v w' => ∃ x : Unit, v = (.tuple #[]) ∧ Turn w w' S (J5 56 2 (sl p0 n0) n0 (r.map Jo))) := by
 obtain ⟨mm, hm⟩ := fix_it (show Zx (fun (self : ((List T_face_Match) × Int × Int × Int × (T_face_Match → T_face_Match → Option (Int))) → Option ((List T_face_Match))) (s : (List T_face_Match) × Int × Int × Int × (T_face_Match → T_face_Match → Option (Int))) => Ql self s.1 s.2.1 s.2.2.1 s.2.2.2.1 s.2.2.2.2) (a0, a1, a2, a3, a4) = some r from H)
 exact k176_it mm hcs hlt hw hn0 f4 hm
theorem k136 {a0 : (List T_face_Match)} {p0 : Option Addr × Nat} {n0 : Nat} {a1 : Int} {a2 : (T_face_Match → T_face_Match → Option (Int))} {v2 : Value} {r : (List T_face_Match)} {w : World} {h : Qg} {S : Nat → Prop} (hcs : (J5 56 2 (sl p0 n0) n0 (a0.map Jo)).P S w) (hlt : ∀ b, S b → b < w.heap.size) (hw : Know h w S) (hn0 : n0 = a0.length) (f2 : FnH Tryz.prog h v2 (Qn a2)) (H : Vv a0 a1 a2 = some r) : Does Tryz.prog 136 (List.toArray [sl p0 n0, i6 a1, v2]) w (fun v w' => ∃ x : Unit, v = (.tuple #[]) ∧ Turn w w' S (J5 56 2 (sl p0 n0) n0 (r.map Jo))) := by
 refine enter (n := 63) Tryz.func136 rfl rfl rfl S [J5 56 2 (sl p0 n0) n0 (a0.map Jo)] (Sat.one hcs hlt)<|Jc<|Ja<|ag (i6 20)<|Jd<|Jc<|Ja<|mv (i6 20)<|ag (i6 0)<|ag (i6 20)<|Jd<|?_
 refine Xf (r := r) (σ := Int × (List T_face_Match)) (τ := Unit) (fun s => Vf a1 a2 s.1 s.2) (fun s t => [(0, sl p0 n0), (1, i6 a1), (2, v2), (6, i6 20), (7, i6 s.1)]) (fun s t => [J5 56 2 (sl p0 n0) n0 (s.2.map Jo)]) (fun s t => n0 = s.2.length) ?_ ?_
 ·refine Ju ?_
  refine X6 (σ := Int × Int × (List T_face_Match)) (τ := Unit) (fun next6 s => Yi a1 a2 next6 s.1 s.2.1 s.2.2) (fun s t => [(0, sl p0 n0), (1, i6 a1), (2, v2), (6, i6 20), (7, i6 s.1), (8, i6 s.2.1)]) (fun s t => [J5 56 2 (sl p0 n0) n0 (s.2.2.map Jo)]) (fun s t => n0 = s.2.2.length) (0, 20, a0) () [0] H (by exact hn0) (by exact ⟨rfl, rfl, rfl, rfl, rfl, rfl, trivial⟩) (by decide) rfl ?_
  rintro ⟨x7_6, x8_4, l_9⟩ _ m6 gg H46 hl_12
  clear H
  try dsimp only at H46
  generalize hn6 : it (fun next6 s => Yi a1 a2 next6 s.1 s.2.1 s.2.2) m6 = next6 at H46
  try dsimp only
  refine Jc<|Jc<|Ja<|mv (i6 x8_4)<|mv (i6 a1)<|Jf rfl rfl rfl (r_leq rfl rfl)<|Jd<|?_
  refine Qm (b := (decide (x8_4 ≤ a1))) rfl (fun hb => ?_) (fun hb => ?_)
  ·have H47 := Jw hb H46; clear H46
   refine Jv<|Ju<|Jc<|Ja<|mv (sl p0 n0)<|mv (i6 x7_6)<|mv (i6 x8_4)<|mv v2<|?_
   obtain ⟨t18, h_t18, H48⟩ := Je H47; clear H47
   refine Y7 (Xj (i := 0) (rds := []) (G := fun x : Unit => .tuple #[]) (C := fun x : Unit => J5 56 2 (sl p0 n0) n0 (t18.map Jo)) rfl (fun w L' S hF hS hi hp hlt ho hA => k153 hp hlt (Y4 w S) hl_12 (f2.mono (hw.but hF ho)) h_t18) Tryz.call153 rfl) rfl rfl rfl (fun _ => ?_)
   refine Zq (fun w hF hS => lenOf (i := 0) hS rfl) (fun hl_13_ => ?_)
   have hl_13 : n0 = t18.length := by simpa using hl_13_.symm
   refine Jd<|Jc<|Ja<|mv (i6 x8_4)<|ag (i6 x8_4)<|Jd<|Ja<|mv (i6 x8_4)<|mv (i6 20)<|?_
   obtain ⟨t22, h_t22, H49⟩ := Je H48; clear H48
   refine Jf rfl rfl rfl (Qp rfl rfl h_t22)<|ag (i6 t22)<|Jd<|?_
   refine Js (x8_4, t22, t18) () m6 [0] (by exact ⟨rfl, rfl, rfl, rfl, rfl, rfl, trivial⟩) (by decide) rfl (by exact ⟨(by subst hn6; exact H49), hl_13⟩) (Nat.lt_succ_self _)
  ·have H50 := Jx hb H46; clear H46
   refine Q3 ?_
   refine Js (x7_6, l_9) () 0 [0] (by exact ⟨rfl, rfl, rfl, rfl, rfl, trivial⟩) (by decide) rfl (by exact ⟨H50, hl_12⟩) (Nat.lt_succ_self _)
 ·rintro ⟨x7, l⟩ _ gg H26 hl
  try dsimp only at H26
  try dsimp only
  refine Jc<|Ja<|mv (sl p0 n0)<|mv (i6 x7)<|mv (i6 a1)<|mv v2<|?_
  obtain ⟨t27, h_t27, H27⟩ := Je H26; clear H26
  refine Y7 (Xj (i := 0) (rds := []) (G := fun x : Unit => .tuple #[]) (C := fun x : Unit => J5 56 2 (sl p0 n0) n0 (t27.map Jo)) rfl (fun w L' S hF hS hi hp hlt ho hA => k153 hp hlt (Y4 w S) hl (f2.mono (hw.but hF ho)) h_t27) Tryz.call153 rfl) rfl rfl rfl (fun _ => ?_)
  refine Zq (fun w hF hS => lenOf (i := 0) hS rfl) (fun hl_2_ => ?_)
  have hl_2 : n0 = t27.length := by simpa using hl_2_.symm
  refine Jd<|Ju<|?_
  refine X6 (σ := Int × (List T_face_Match)) (τ := Unit) (fun next2 s => Xu a1 a2 next2 s.1 s.2) (fun s t => [(0, sl p0 n0), (1, i6 a1), (2, v2), (6, i6 s.1)]) (fun s t => [J5 56 2 (sl p0 n0) n0 (s.2.map Jo)]) (fun s t => n0 = s.2.length) (20, t27) () [0] H27 (by exact hl_2) (by exact ⟨rfl, rfl, rfl, rfl, trivial⟩) (by decide) rfl ?_
  rintro ⟨x6_2, l_3⟩ _ m2 gg H28 hl_4
  clear H27
  try dsimp only at H28
  generalize hn2 : it (fun next2 s => Xu a1 a2 next2 s.1 s.2) m2 = next2 at H28
  try dsimp only
  refine Jc<|Jc<|Ja<|mv (i6 x6_2)<|mv (i6 a1)<|Jf rfl rfl rfl (Q0 rfl rfl)<|Jd<|?_
  refine Qm (b := (decide (x6_2 < a1))) rfl (fun hb => ?_) (fun hb => ?_)
  ·have H29 := Jw hb H28; clear H28
   refine Jv<|Ju<|Jc<|Ja<|mv (i6 x6_2)<|?_
   obtain ⟨t32, h_t32, H30⟩ := Je H29; clear H29
   refine Jf rfl rfl rfl (r_mulG rfl rfl h_t32)<|ag (i6 0)<|ag (i6 t32)<|Jd<|?_
   refine Xf (r := r) (σ := Int × (List T_face_Match)) (τ := Unit) (fun s => Y6 a1 a2 x6_2 next2 s.1 s.2) (fun s t => [(0, sl p0 n0), (1, i6 a1), (2, v2), (6, i6 x6_2), (7, i6 s.1)]) (fun s t => [J5 56 2 (sl p0 n0) n0 (s.2.map Jo)]) (fun s t => n0 = s.2.length) ?_ ?_
   ·refine Ju ?_
    refine X6 (σ := Int × Int × (List T_face_Match)) (τ := Unit) (fun next5 s => Yf a1 a2 x6_2 next2 next5 s.1 s.2.1 s.2.2) (fun s t => [(0, sl p0 n0), (1, i6 a1), (2, v2), (6, i6 x6_2), (7, i6 s.1), (8, i6 s.2.1)]) (fun s t => [J5 56 2 (sl p0 n0) n0 (s.2.2.map Jo)]) (fun s t => n0 = s.2.2.length) (0, t32, l_3) () [0] H30 (by exact hl_4) (by exact ⟨rfl, rfl, rfl, rfl, rfl, rfl, trivial⟩) (by decide) rfl ?_
    rintro ⟨x7_4, x8_2, l_7⟩ _ m5 gg H38 hl_9
    clear H30
    try dsimp only at H38
    generalize hn5 : it (fun next5 s => Yf a1 a2 x6_2 next2 next5 s.1 s.2.1 s.2.2) m5 = next5 at H38
    try dsimp only
    refine Jc<|Jc<|Ja<|mv (i6 x8_2)<|mv (i6 a1)<|Jf rfl rfl rfl (r_leq rfl rfl)<|Jd<|?_
    refine Qm (b := (decide (x8_2 ≤ a1))) rfl (fun hb => ?_) (fun hb => ?_)
    ·have H39 := Jw hb H38; clear H38
     refine Jv<|Ju<|Jc<|Ja<|mv (sl p0 n0)<|mv (i6 x7_4)<|mv (i6 x7_4)<|mv (i6 x6_2)<|?_
     obtain ⟨t40, h_t40, H40⟩ := Je H39; clear H39
     refine Jf rfl rfl rfl (Qp rfl rfl h_t40)<|mv (i6 x8_2)<|mv v2<|?_
     obtain ⟨t43, h_t43, H41⟩ := Je H40; clear H40
     refine Y7 (Xj (i := 0) (rds := []) (G := fun x : Unit => .tuple #[]) (C := fun x : Unit => J5 56 2 (sl p0 n0) n0 (t43.map Jo)) rfl (fun w L' S hF hS hi hp hlt ho hA => k176 hp hlt (Y4 w S) hl_9 (f2.mono (hw.but hF ho)) h_t43) Tryz.call176 rfl) rfl rfl rfl (fun _ => ?_)
     refine Zq (fun w hF hS => lenOf (i := 0) hS rfl) (fun hl_10_ => ?_)
     have hl_10 : n0 = t43.length := by simpa using hl_10_.symm
     refine Jd<|Jc<|Ja<|mv (i6 x8_2)<|ag (i6 x8_2)<|Jd<|Ja<|mv (i6 x8_2)<|mv (i6 x6_2)<|?_
     obtain ⟨t47, h_t47, H42⟩ := Je H41; clear H41
     refine Jf rfl rfl rfl (r_mulG rfl rfl h_t47) ?_
     obtain ⟨t48, h_t48, H43⟩ := Je H42; clear H42
     refine Jf rfl rfl rfl (Qp rfl rfl h_t48)<|ag (i6 t48)<|Jd<|?_
     refine Js (x8_2, t48, t43) () m5 [0] (by exact ⟨rfl, rfl, rfl, rfl, rfl, rfl, trivial⟩) (by decide) rfl (by exact ⟨(by subst hn5; exact H43), hl_10⟩) (Nat.lt_succ_self _)
    ·have H44 := Jx hb H38; clear H38
     refine Q3 ?_
     refine Js (x7_4, l_7) () 0 [0] (by exact ⟨rfl, rfl, rfl, rfl, rfl, trivial⟩) (by decide) rfl (by exact ⟨H44, hl_9⟩) (Nat.lt_succ_self _)
   ·rintro ⟨x7_2, l_4⟩ _ gg H31 hl_5
    try dsimp only at H31
    try dsimp only
    refine Xf (r := r) (σ := (List T_face_Match)) (τ := Unit) (fun s => Yc x6_2 next2 s) (fun s t => [(0, sl p0 n0), (1, i6 a1), (2, v2), (6, i6 x6_2)]) (fun s t => [J5 56 2 (sl p0 n0) n0 (s.map Jo)]) (fun s t => n0 = s.length) ?_ ?_
    ·refine Jc<|Ja<|mv (i6 x7_2)<|mv (i6 x6_2)<|?_
     obtain ⟨t51, h_t51, H34⟩ := Je H31; clear H31
     refine Jf rfl rfl rfl (Qp rfl rfl h_t51)<|ag (i6 t51)<|Jd<|Jc<|Ja<|mv (i6 t51)<|mv (i6 a1)<|Jf rfl rfl rfl (Q0 rfl rfl)<|Jd<|?_
     refine Qm (b := (decide (t51 < a1))) rfl (fun hb => ?_) (fun hb => ?_)
     ·have H35 := Jw hb H34; clear H34
      refine Ja<|mv (sl p0 n0)<|mv (i6 x7_2)<|mv (i6 t51)<|mv (i6 a1)<|mv v2<|?_
      obtain ⟨t60, h_t60, H36⟩ := Je H35; clear H35
      refine Y7 (Xj (i := 0) (rds := []) (G := fun x : Unit => .tuple #[]) (C := fun x : Unit => J5 56 2 (sl p0 n0) n0 (t60.map Jo)) rfl (fun w L' S hF hS hi hp hlt ho hA => k176 hp hlt (Y4 w S) hl_5 (f2.mono (hw.but hF ho)) h_t60) Tryz.call176 rfl) rfl rfl rfl (fun _ => ?_)
      refine Zq (fun w hF hS => lenOf (i := 0) hS rfl) (fun hl_7_ => ?_)
      have hl_7 : n0 = t60.length := by simpa using hl_7_.symm
      refine Jd ?_
      refine Js t60 () 0 [0] (by exact ⟨rfl, rfl, rfl, rfl, trivial⟩) (by decide) rfl (by exact ⟨H36, hl_7⟩) (Nat.lt_succ_self _)
     ·have H37 := Jx hb H34; clear H34
      refine Jv ?_
      refine Js l_4 () 0 [0] (by exact ⟨rfl, rfl, rfl, rfl, trivial⟩) (by decide) rfl (by exact ⟨H37, hl_5⟩) (Nat.lt_succ_self _)
    ·rintro l_5 _ gg H32 hl_6
     try dsimp only at H32
     try dsimp only
     refine Ja<|mv (i6 x6_2)<|?_
     obtain ⟨t62, h_t62, H33⟩ := Je H32; clear H32
     refine Jf rfl rfl rfl (r_mulG rfl rfl h_t62)<|ag (i6 t62)<|Jd<|?_
     refine Js (t62, l_5) () m2 [0] (by exact ⟨rfl, rfl, rfl, rfl, trivial⟩) (by decide) rfl (by exact ⟨(by subst hn2; exact H33), hl_6⟩) (Nat.lt_succ_self _)
  ·have H45 := Jx hb H28; clear H28
   refine Q3 ?_
   obtain rfl := Option.some.inj H45
   refine ret0n rfl (Zb () (i := 0) rfl rfl (Imp.refl _))
theorem k111 {a0 : (List T_face_Match)} {p0 : Option Addr × Nat} {n0 : Nat} {a1 : (T_face_Match → T_face_Match → Option (Int))} {v1 : Value} {r : (List T_face_Match)} {w : World} {h : Qg} {S : Nat → Prop} (hcs : (J5 56 2 (sl p0 n0) n0 (a0.map Jo)).P S w) (hlt : ∀ b, S b → b < w.heap.size) (hw : Know h w S) (hn0 : n0 = a0.length) (f1 : FnH Tryz.prog h v1 (Qn a1)) (H : Ys a0 a1 = some r) : Does Tryz.prog 111 (List.toArray [sl p0 n0, v1]) w (fun v w' => ∃ x : Unit, v = (.tuple #[]) ∧ Turn w w' S (J5 56 2 (sl p0 n0) n0 (r.map Jo))) := by
 refine enter (n := 9) Tryz.func111 rfl rfl rfl S [J5 56 2 (sl p0 n0) n0 (a0.map Jo)] (Sat.one hcs hlt)<|Ja<|mv (sl p0 n0)<|mv (sl p0 n0)<|Jf rfl rfl rfl (r_lenN Tryz.underlying53 rfl hn0)<|mv v1<|?_
 obtain ⟨t8, h_t8, H2⟩ := Je H; clear H
 refine Y7 (Xj (i := 0) (rds := []) (G := fun x : Unit => .tuple #[]) (C := fun x : Unit => J5 56 2 (sl p0 n0) n0 (t8.map Jo)) rfl (fun w L' S hF hS hi hp hlt ho hA => k136 hp hlt (Y4 w S) hn0 (f1.mono (hw.but hF ho)) h_t8) Tryz.call136 rfl) rfl rfl rfl (fun _ => ?_)
 refine Zq (fun w hF hS => lenOf (i := 0) hS rfl) (fun hl_ => ?_)
 have hl : n0 = t8.length := by simpa using hl_.symm
 refine Jd ?_
 obtain rfl := Option.some.inj H2
 refine ret0n rfl (Zb () (i := 0) rfl rfl (Imp.refl _))
theorem k112 {a0 : T_face_Match} {a1 : T_face_Match} {r : Int} (H : R_matches_1 a0 a1 = some r) : Ret Tryz.prog 112 [.agg #[i6 a0.Person, i6 a0.Far], .agg #[i6 a1.Person, i6 a1.Far]] (i6 r) := by
 refine Vr (n := 10) Tryz.func112 rfl rfl rfl (fun wd => ?_)
 refine Jc<|Ja<|?_
 refine Wp (cs := [i6 a0.Person, i6 a0.Far]) rfl rfl rfl rfl (fun b2 => ?_)
 refine Wp (cs := [i6 a1.Person, i6 a1.Far]) rfl rfl rfl rfl (fun b3 => ?_)
 refine ag (i6 0)<|Jd<|Jc<|Ja<|Jf rfl rfl rfl (J7 Tryz.runUnderlying56 rfl Tryz.sizeOf3 rfl rfl)<|Qq (i := 0) (v := i6 a0.Far) Tryz.isAgg3 rfl rfl rfl rfl rfl<|Jf rfl rfl rfl (J7 Tryz.runUnderlying56 rfl Tryz.sizeOf3 rfl rfl)<|Qq (i := 1) (v := i6 a1.Far) Tryz.isAgg3 rfl rfl rfl rfl rfl<|?_
 obtain ⟨t9, h_t9, H2⟩ := Je H; clear H
 refine Vu (k31 h_t9) Tryz.call31 rfl rfl rfl<|ag (i6 t9)<|Jd<|Jy<|?_
 obtain rfl := Option.some.inj H2
 refine Qw (v := i6 t9) rfl rfl (Yz rfl)
theorem k64 {a0 : (List T_face_Likeness)} {v0 : Value} {a1 : (List T_face_Person)} {v1 : Value} {a2 : Int} {r : (List T_face_Match)} {w : World} {h : Qg} (hw : Know h w Yl) (f0 : FrS h 14 v0 (a0.map Jq)) (f1 : FrN h 4 v1 g_face_Person a1) (H : R_matches a0 a1 a2 = some r) : Does Tryz.prog 64 (List.toArray [v0, v1, i6 a2]) w (fun v w' => ∃ x : (Option Addr × Nat), v = (sl x r.length) ∧ Turn w w' Yl (J5 56 2 (sl x r.length) r.length (r.map Jo))) := by
 refine enter (n := 54) Tryz.func64 rfl rfl rfl Yl [] (Sat.nil _ _)<|Jc<|Ja<|ag (.slice none 0 0)<|Jd<|Jc<|Ja<|ag (.slice none 0 0)<|Jd<|?_
 refine Xf (r := r) (σ := (List T_face_Match)) (τ := (Option Addr × Nat)) (fun s => R_matches_j1 s) (fun s t => [(7, sl t s.length)]) (fun s t => [J5 56 2 (sl t s.length) s.length (s.map Jo)]) (fun s t => True) ?_ ?_
 ·refine Jc<|Ja<|mv v1<|Jf rfl rfl rfl (Uh Tryz.underlying23 rfl f1)<|mv (i6 0)<|Jd<|Ju<|Q9 56 2<|?_
  refine X6 (σ := Int × (List T_face_Match)) (τ := (Option Addr × Nat)) (fun next2 s => Jbo a0 a1 a2 next2 s.1 s.2) (fun s t => [(0, v0), (2, i6 a2), (7, sl t s.2.length), (10, v1), (11, i6 (a1.length : Int)), (12, i6 s.1)]) (fun s t => [J5 56 2 (sl t s.2.length) s.2.length (s.2.map Jo)]) (fun s t => True) (0, ([] : List T_face_Match)) nn [0] H (by exact trivial) (by exact ⟨rfl, rfl, rfl, rfl, rfl, rfl, trivial⟩) (by decide) rfl ?_
  rintro ⟨x12_2, l_3⟩ p_2 m2 gg H23 _
  clear H
  try dsimp only at H23
  generalize hn2 : it (fun next2 s => Jbo a0 a1 a2 next2 s.1 s.2) m2 = next2 at H23
  try dsimp only
  refine Jc<|Ja<|Jf rfl rfl rfl (Q0 rfl rfl)<|Jd<|Jc<|?_
  refine Qm (b := (decide (x12_2 < (a1.length : Int)))) rfl (fun hb => ?_) (fun hb => ?_)
  ·have H24 := Jw hb H23; clear H23
   refine Jv ?_
   refine Xf (r := r) (σ := (List T_face_Match)) (τ := (Option Addr × Nat)) (fun s => Jbp x12_2 next2 s) (fun s t => [(0, v0), (2, i6 a2), (7, sl t s.length), (10, v1), (11, i6 (a1.length : Int)), (12, i6 x12_2)]) (fun s t => [J5 56 2 (sl t s.length) s.length (s.map Jo)]) (fun s t => True) ?_ ?_
   ·refine Ju<|Jc<|Ja<|?_
    obtain ⟨t14, h_t14, H27⟩ := Je H24; clear H24
    refine Jf rfl rfl rfl (Qe Tryz.underlying23 Tryz.sizeOf32 rfl rfl f1.frs (f1.ix h_t14))<|J9 (fun w hF hS => Qj (f := (elC h v1 4)) (i := x12_2) (sz := 4) (j := 0) (vs := [i6 t14.Id, Xt t14.Name, (Qu h v1 4 (Int.toNat x12_2) 2), (Qu h v1 4 (Int.toNat x12_2) 3)]) Tryz.isAgg32 Tryz.sizeOf32 rfl rfl (f1.frs.row (hw.now hF)) (f1.ix h_t14) (rd_of (J1 (f1.at h_t14)) rfl)) rfl rfl rfl<|?_
    refine Wh (cs := [i6 0, Xt [], .slice none 0 0, .slice none 0 0]) Tryz.zeroValue32 rfl rfl rfl (fun b2 => ?_)
    refine Y8 (i := 1) (vs := [i6 t14.Id, Xt t14.Name, (Qu h v1 4 (Int.toNat x12_2) 2), (Qu h v1 4 (Int.toNat x12_2) 3)]) (cs' := [i6 t14.Id, Xt t14.Name, (Qu h v1 4 (Int.toNat x12_2) 2), (Qu h v1 4 (Int.toNat x12_2) 3)]) Tryz.sizeOf32 rfl rfl rfl rfl rfl rfl (by simp only [List.all_cons, List.all_nil, (show FrS h 1 (Qu h v1 4 (Int.toNat x12_2) 2) (t14.Likes.map Jl) from (Jm (f1.at h_t14))).one, (show FrS h 1 (Qu h v1 4 (Int.toNat x12_2) 3) (t14.Nots.map Jl) from (Jt (f1.at h_t14))).one] <;> rfl) rfl rfl<|Jd<|Jc<|?_
    exact Qz (Kd.p :: Kd.d [1] _ :: Kd.p :: Kd.p :: Kd.p :: Kd.p :: Kd.d [1] _ :: Kd.p :: Kd.d [] _ :: Kd.p :: Kd.p :: Kd.p :: Kd.p :: Kd.d [1] _ :: Kd.p :: Kd.p :: Kd.p :: Kd.d [] _ :: Kd.p :: Kd.p :: Kd.d [] _ :: Kd.d [] _ :: Kd.p :: Kd.p :: []) 0 mixed (by
     refine Qa rfl rfl (J7 Tryz.runUnderlying32 rfl Tryz.sizeOf24 rfl rfl)<|Z5 (i := 1) (v := (Qu h v1 4 (Int.toNat x12_2) 2)) Tryz.isAgg24 rfl rfl rfl rfl<|Qa rfl rfl (Y0 Tryz.underlying24 rfl (show FrS h 1 (Qu h v1 4 (Int.toNat x12_2) 2) (t14.Likes.map Jl) from (Jm (f1.at h_t14))) rfl)<|Qa rfl rfl (Jaz rfl rfl)<|dm (.bool (decide (0 < (t14.Likes.length : Int))))<|?_
     refine splitS (fun hb => ?_) (fun hb => ?_)
     ·have H28 := Jw hb H27
      refine Qa rfl rfl (J7 Tryz.runUnderlying32 rfl Tryz.sizeOf24 rfl rfl)<|Z5 (i := 1) (v := (Qu h v1 4 (Int.toNat x12_2) 3)) Tryz.isAgg24 rfl rfl rfl rfl<|dm (i6 a2)<|?_
      have h_t24 := Jr H28
      have H29 := Jn H28
      refine Uk (fun w L' hF hS hi => k53 (Jp w) ((show FrS h 1 (Qu h v1 4 (Int.toNat x12_2) 3) (t14.Nots.map Jl) from (Jt (f1.at h_t14))).mono (hw.now hF)) h_t24) Tryz.call53 rfl rfl<|Qa rfl rfl (Ub rfl)<|Qa rfl rfl (Q5 (v := .bool (!(val (Xs t14.Nots a2)))) rfl rfl)<|dm (.bool (!(val (Xs t14.Nots a2))))<|?_
      refine splitS (fun hb => ?_) (fun hb => ?_)
      ·have H30 := Jw hb H29
       refine dm v0<|d_loadN (i := 1) (vs := [i6 t14.Id, Xt t14.Name, (Qu h v1 4 (Int.toNat x12_2) 2), (Qu h v1 4 (Int.toNat x12_2) 3)]) Tryz.isAgg32 Tryz.sizeOf32 rfl rfl rfl rfl<|dm v0<|dm v0<|dm (i6 a2)<|?_
       have h_t33 := Jr H30
       have H31 := Jn H30
       refine Uk (fun w L' hF hS hi => k52 (Jp w) (f0.mono (hw.now hF)) h_t33) Tryz.call52 rfl rfl ?_
       have h_t34 := Jr H31
       have H32 := Jn H31
       refine Qa rfl rfl (Qe Tryz.underlying22 Tryz.sizeOf52 rfl rfl f0 h_t34)<|Qa rfl rfl (Xv Tryz.runUnderlying52 rfl Tryz.sizeOf3 rfl rfl (Ym f0 h_t34))<|Wb (fun w hF => J2 (f := Jq) (i := (val (Qb a0 a2))) (sz := 14) (j := 1) (v := i6 (val (Jk a0 (val (Qb a0 a2)))).Photo) Tryz.isAgg3 rfl rfl (f0.row (hw.now hF)) h_t34 rfl) rfl rfl<|?_
       have h_t37 := Jr H32
       have H33 := Jn H32
       refine Uk (fun w L' hF hS hi => k59 (Jp w) (f0.mono (hw.now hF)) ((show FrS h 1 (Qu h v1 4 (Int.toNat x12_2) 2) (t14.Likes.map Jl) from (Jm (f1.at h_t14))).mono (hw.now hF)) ((show FrS h 1 (Qu h v1 4 (Int.toNat x12_2) 3) (t14.Nots.map Jl) from (Jt (f1.at h_t14))).mono (hw.now hF)) h_t37) Tryz.call59 rfl rfl<|Qa rfl rfl (Ub rfl)<|Qa rfl rfl (Q5 (v := .bool (!(val (Wg a0 t14 (val (Jk a0 (val (Qb a0 a2)))).Photo)))) rfl rfl)<|Y3<|?_
       refine Qm (b := (!(val (Wg a0 t14 (val (Jk a0 (val (Qb a0 a2)))).Photo)))) rfl (fun hb => ?_) (fun hb => ?_)
       ·have H34 := Jw hb H33; clear H33
        exact Qz (Kd.p :: Kd.p :: Kd.d [1] _ :: Kd.p :: Kd.d [1] _ :: Kd.p :: Kd.d [] _ :: Kd.p :: Kd.ns 2 [_, _] 56 1 :: Kd.t 0 [2] _ _ :: Kd.p :: []) 1 mixed (by
         refine dm (sl p_2 l_3.length)<|Qa rfl rfl (J7 Tryz.runUnderlying32 rfl Tryz.sizeOf3 rfl rfl)<|Z5 (i := 1) (v := i6 t14.Id) Tryz.isAgg3 rfl rfl rfl rfl<|dm v0<|d_loadN (i := 1) (vs := [i6 t14.Id, Xt t14.Name, (Qu h v1 4 (Int.toNat x12_2) 2), (Qu h v1 4 (Int.toNat x12_2) 3)]) Tryz.isAgg32 Tryz.sizeOf32 rfl rfl rfl rfl<|dm (i6 a2)<|?_
         have h_t46 := Jr H34
         have H35 := Jn H34
         refine Uk (fun w L' hF hS hi => k110 (Jp w) (f0.mono (hw.now hF)) ((show FrS h 1 (Qu h v1 4 (Int.toNat x12_2) 2) (t14.Likes.map Jl) from (Jm (f1.at h_t14))).mono (hw.now hF)) ((show FrS h 1 (Qu h v1 4 (Int.toNat x12_2) 3) (t14.Nots.map Jl) from (Jt (f1.at h_t14))).mono (hw.now hF)) h_t46) Tryz.call110 rfl rfl<|Qa rfl rfl (r_build (pl := #[(0, 1), (1, 1)]) (ps := [(0, i6 t14.Id), (1, i6 (val (Wf a0 t14 a2)))]) (cells := #[i6 t14.Id, i6 (val (Wf a0 t14 a2))]) Tryz.zeroValue56 Tryz.runUnderlying56 (fun w => by kernel_rfl) rfl rfl)<|?_
         refine d_newS rfl rfl (Z7 (vs := [.agg #[i6 t14.Id, i6 (val (Wf a0 t14 a2))]]) (cs := [i6 t14.Id, i6 (val (Wf a0 t14 a2))]) Tryz.underlying53 Tryz.sizeOf56 Tryz.zeroValue56 rfl rfl rfl rfl rfl) rfl (fun b3 => ?_)
         have h_l49 := Jr H35
         have H36 := Jn H35
         refine d_turn (Cv := fun v => J5 56 2 v (val (gApp 16 l_3 ([(⟨t14.Id, (val (Wf a0 t14 a2))⟩ : T_face_Match)] : List T_face_Match))).length ((val (gApp 16 l_3 ([(⟨t14.Id, (val (Wf a0 t14 a2))⟩ : T_face_Match)] : List T_face_Match))).map Jo)) (none, 0) (Ur (i := 0) (hn := rfl) (rds := [2]) (p := p_2) (sz := 2) (by_ := 16) (f := Jo) (ys := l_3) (ls := ([(⟨t14.Id, (val (Wf a0 t14 a2))⟩ : T_face_Match)] : List T_face_Match)) (V := .slice (some ⟨b3, 0, none⟩) 1 1) Tryz.underlying53 (We Tryz.typeInfo56) rfl rfl rfl rfl rfl rfl rfl rfl rfl rfl (fun w L' hF hS hi => row_box (i := 2) hS ((hi 2 (by simp)).trans rfl) rfl rfl) (fun _ => rfl) (fun _ => rfl) h_l49) (fun _ => rfl) rfl rfl (fun p_4 => ?_)
         refine Qa rfl rfl (Uj (v := .slice p_4.1 (val (gApp 16 l_3 ([(⟨t14.Id, (val (Wf a0 t14 a2))⟩ : T_face_Match)] : List T_face_Match))).length p_4.2) rfl)<|Y3<|?_
         refine Js (val (gApp 16 l_3 ([(⟨t14.Id, (val (Wf a0 t14 a2))⟩ : T_face_Match)] : List T_face_Match))) p_4 0 [0] (by exact ⟨rfl, rfl, rfl, rfl, rfl, rfl, trivial⟩) (by decide) rfl (by exact ⟨H36, trivial⟩) (Nat.lt_succ_self _)
         ) (by kernel_rfl)
       ·have H37 := Jx hb H33; clear H33
        refine Jv ?_
        refine Js l_3 p_2 0 [0] (by exact ⟨rfl, rfl, rfl, rfl, rfl, rfl, trivial⟩) (by decide) rfl (by exact ⟨H37, trivial⟩) (Nat.lt_succ_self _)
      ·have H38 := Jx hb H29
       refine dp<|dp<|dp<|dp<|dp<|dp<|dp<|dp<|dp<|dp<|dp<|Qa rfl rfl (Qr (v := .bool false) rfl rfl)<|Y3<|Wq rfl<|Jv<|?_
       refine Js l_3 p_2 0 [0] (by exact ⟨rfl, rfl, rfl, rfl, rfl, rfl, trivial⟩) (by decide) rfl (by exact ⟨H38, trivial⟩) (Nat.lt_succ_self _)
     ·have H39 := Jx hb H27
      refine dp<|dp<|dp<|dp<|dp<|Qa rfl rfl (Qr (v := .bool false) rfl rfl)<|dm (.bool false)<|dp<|dp<|dp<|dp<|dp<|dp<|dp<|dp<|dp<|dp<|dp<|Qa rfl rfl (Qr (v := .bool false) rfl rfl)<|Y3<|Wq rfl<|Jv<|?_
      refine Js l_3 p_2 0 [0] (by exact ⟨rfl, rfl, rfl, rfl, rfl, rfl, trivial⟩) (by decide) rfl (by exact ⟨H39, trivial⟩) (Nat.lt_succ_self _)
     ) (by kernel_rfl)
   ·rintro l_4 p_3 gg H25 _
    try dsimp only at H25
    try dsimp only
    refine Ja ?_
    obtain ⟨t50, h_t50, H26⟩ := Je H25; clear H25
    refine Jf rfl rfl rfl (Qp rfl rfl h_t50)<|mv (i6 t50)<|Jd<|?_
    refine Js (t50, l_4) p_3 m2 [0] (by exact ⟨rfl, rfl, rfl, rfl, rfl, rfl, trivial⟩) (by decide) rfl (by exact ⟨(by subst hn2; exact H26), trivial⟩) (Nat.lt_succ_self _)
  ·have H40 := Jx hb H23; clear H23
   refine Q3 ?_
   refine Js l_3 p_2 0 [0] (by exact ⟨rfl, trivial⟩) (by decide) rfl (by exact ⟨H40, trivial⟩) (Nat.lt_succ_self _)
 ·rintro l p gg H21 _
  try dsimp only at H21
  try dsimp only
  refine Jc<|Ja<|mv (sl p l.length)<|?_
  obtain ⟨t52, h_t52, H22⟩ := Je H21; clear H21
  refine Y7 (Xj (i := 0) (rds := []) (G := fun x : Unit => .tuple #[]) (C := fun x : Unit => J5 56 2 (sl p l.length) l.length (t52.map Jo)) rfl (fun w L' S hF hS hi hp hlt ho hA => k111 hp hlt (Y4 w S) rfl (FnH.mk ⟨112, #[], #[], rfl, Tryz.call112, fun args2 post2 w2 hk2 hR2 => by obtain ⟨a0_, a1_, r_, rfl, H_, rfl⟩ := hR2; exact k112 H_ w2⟩) h_t52) Tryz.call111 rfl) rfl rfl rfl (fun _ => ?_)
  refine Zq (fun w hF hS => lenOf (i := 0) hS rfl) (fun hl_ => ?_)
  have hl : l.length = t52.length := by simpa using hl_.symm
  refine Jd<|Jc<|Ja<|mv (sl p l.length)<|ag (sl p l.length)<|Jd<|Jy<|?_
  obtain rfl := Option.some.inj H22
  refine Qw (v := sl p l.length) rfl rfl (Zb p (i := 0) rfl (by first | rfl | rw [(show l.length = t52.length from hl)]) (by first | exact Imp.refl _ | exact Imp.of (by rw [(show l.length = t52.length from hl)])))
theorem k65 {a0 : (List T_tintref2_pair)} {p0 : Option Addr × Nat} {n0 : Nat} {r : (List T_tintref2_pair)} {w : World} {h : Qg} {S : Nat → Prop} (hcs : (J5 90 3 (sl p0 n0) n0 (a0.map Yb)).P S w) (hlt : ∀ b, S b → b < w.heap.size) (_ : Know h w S) (hn0 : n0 = a0.length) (H : gSortF a0 Jb8 = some r) : Does Tryz.prog 65 (List.toArray [sl p0 n0, .func (.func 66) #[] #[]]) w (fun v w' => ∃ x : Unit, v = (.tuple #[]) ∧ Turn w w' S (J5 90 3 (sl p0 n0) n0 (r.map Yb))) :=
  sort_func (ρ := Go.Proofs.Tryz.sortFP_ren) Go.Proofs.Tryz.sortFP (k := 3) (fun w => Tryz.isAgg90 w) (fun w => Tryz.sizeOf90 w) Yb (fun _ => rfl) (fun x v hv => by simp [Yb] at hv; rcases hv with rfl | rfl | rfl <;> rfl) Go.Proofs.Tryz.entersP (fun x y v W hv => Go.Proofs.Tryz.cmpP x y v W hv) hcs hlt hn0 H
theorem k21 {a0 : (List T_face_Likeness)} {v0 : Value} {a1 : (List T_face_Person)} {v1 : Value} {a2 : Int} {r : (List T_face_Person)} {w : World} {h : Qg} (hw : Know h w Yl) (f0 : FrS h 14 v0 (a0.map Jq)) (f1 : FrN h 4 v1 g_face_Person a1) (H : R_SortOf a0 a1 a2 = some r) : Does Tryz.prog 21 (List.toArray [v0, v1, i6 a2]) w (fun v w' => ∃ x : (Option Addr × Nat), v = (sl x r.length) ∧ Turn w w' Yl (rowD 32 4 g_face_Person (sl x r.length) r.length r)) := by
 refine enter (n := 103) Tryz.func21 rfl rfl rfl Yl [] (Sat.nil _ _)<|Wy Yo<|Jc<|Ja<|ag (.slice none 0 0)<|Jd<|Jc<|Ja<|ag (.slice none 0 0)<|Jd<|?_
 refine Xf (r := r) (σ := (List T_tintref2_pair)) (τ := (Option Addr × Nat)) (fun s => R_SortOf_j1 a0 a1 s) (fun s t => [(0, v0), (1, v1), (7, sl t s.length)]) (fun s t => [Yx Yo Yo, J5 90 3 (sl t s.length) s.length (s.map Yb)]) (fun s t => True) ?_ ?_
 ·refine Jc<|Ja<|mv v0<|Jf rfl rfl rfl (Y0 Tryz.underlying22 rfl f0 rfl)<|mv (i6 0)<|Jd<|Ju<|Q9 90 3<|?_
  refine X6 (σ := Int × (List T_tintref2_pair)) (τ := (Option Addr × Nat)) (fun next4 s => Jci a0 a1 a2 next4 s.1 s.2) (fun s t => [(0, v0), (1, v1), (2, i6 a2), (7, sl t s.2.length), (16, v0), (17, i6 (a0.length : Int)), (18, i6 s.1)]) (fun s t => [Yx Yo Yo, J5 90 3 (sl t s.2.length) s.2.length (s.2.map Yb)]) (fun s t => True) (0, ([] : List T_tintref2_pair)) nn [0, 1] H (by exact trivial) (by exact ⟨rfl, rfl, rfl, rfl, rfl, rfl, rfl, trivial⟩) (by decide) rfl ?_
  rintro ⟨x18_2, l_6⟩ p_6 m4 gg H66 _
  clear H
  try dsimp only at H66
  generalize hn4 : it (fun next4 s => Jci a0 a1 a2 next4 s.1 s.2) m4 = next4 at H66
  try dsimp only
  refine Jc<|Ja<|Jf rfl rfl rfl (Q0 rfl rfl)<|Jd<|Jc<|?_
  refine Qm (b := (decide (x18_2 < (a0.length : Int)))) rfl (fun hb => ?_) (fun hb => ?_)
  ·have H67 := Jw hb H66; clear H66
   refine Jv ?_
   refine Xf (r := r) (σ := (List T_tintref2_pair)) (τ := (Option Addr × Nat)) (fun s => Ja2 x18_2 next4 s) (fun s t => [(0, v0), (1, v1), (2, i6 a2), (7, sl t s.length), (16, v0), (17, i6 (a0.length : Int)), (18, i6 x18_2)]) (fun s t => [Yx Yo Yo, J5 90 3 (sl t s.length) s.length (s.map Yb)]) (fun s t => True) ?_ ?_
   ·refine Ju<|Jc<|Ja<|?_
    obtain ⟨t20, h_t20, H70⟩ := Je H67; clear H67
    refine Jf rfl rfl rfl (Qe Tryz.underlying22 Tryz.sizeOf52 rfl rfl f0 h_t20)<|J9 (fun w hF hS => Qj (f := Jq) (i := x18_2) (sz := 14) (j := 0) (vs := [i6 t20.Id, i6 t20.Photo, i6 (t20.Vec 0), i6 (t20.Vec 1), i6 (t20.Vec 2), i6 (t20.Vec 3), i6 (t20.Vec 4), i6 (t20.Vec 5), i6 (t20.Vec 6), i6 (t20.Vec 7), i6 (t20.Vec 8), i6 (t20.Vec 9), i6 (t20.Vec 10), i6 (t20.Vec 11)]) Tryz.isAgg52 Tryz.sizeOf52 rfl rfl (f0.row (hw.now hF)) h_t20 rfl) rfl rfl rfl<|?_
    refine Wh (cs := [i6 0, i6 0, i6 0, i6 0, i6 0, i6 0, i6 0, i6 0, i6 0, i6 0, i6 0, i6 0, i6 0, i6 0]) Tryz.zeroValue52 rfl rfl rfl (fun b5 => ?_)
    refine Y8 (i := 2) (vs := [i6 t20.Id, i6 t20.Photo, i6 (t20.Vec 0), i6 (t20.Vec 1), i6 (t20.Vec 2), i6 (t20.Vec 3), i6 (t20.Vec 4), i6 (t20.Vec 5), i6 (t20.Vec 6), i6 (t20.Vec 7), i6 (t20.Vec 8), i6 (t20.Vec 9), i6 (t20.Vec 10), i6 (t20.Vec 11)]) (cs' := [i6 t20.Id, i6 t20.Photo, i6 (t20.Vec 0), i6 (t20.Vec 1), i6 (t20.Vec 2), i6 (t20.Vec 3), i6 (t20.Vec 4), i6 (t20.Vec 5), i6 (t20.Vec 6), i6 (t20.Vec 7), i6 (t20.Vec 8), i6 (t20.Vec 9), i6 (t20.Vec 10), i6 (t20.Vec 11)]) Tryz.sizeOf52 rfl rfl rfl rfl rfl rfl rfl rfl rfl<|Jd<|Jc<|Jc<|Ja<|mv v1<|Jf rfl rfl rfl (J7 Tryz.runUnderlying52 rfl Tryz.sizeOf3 rfl rfl)<|Qq (i := 2) (v := i6 t20.Id) Tryz.isAgg3 rfl rfl rfl rfl rfl<|?_
    obtain ⟨t25, h_t25, H71⟩ := Je H70; clear H70
    refine Qf (fun w hF hS => k58 (Jp w) (f1.mono (hw.now hF)) h_t25) Tryz.call58 rfl rfl rfl<|Jf rfl rfl rfl (r_geq rfl rfl)<|Jd<|?_
    refine Qm (b := (decide (0 ≤ t25))) rfl (fun hb => ?_) (fun hb => ?_)
    ·have H72 := Jw hb H71; clear H71
     refine Q3 ?_
     refine Js l_6 p_6 0 [0, 1] (by exact ⟨rfl, rfl, rfl, rfl, rfl, rfl, rfl, trivial⟩) (by decide) rfl (by exact ⟨H72, trivial⟩) (Nat.lt_succ_self _)
    ·have H73 := Jx hb H71; clear H71
     refine Jv<|Jc<|Ja<|mv v0<|mv v1<|Jf rfl rfl rfl (J7 Tryz.runUnderlying52 rfl Tryz.sizeOf3 rfl rfl)<|Qq (i := 2) (v := i6 t20.Id) Tryz.isAgg3 rfl rfl rfl rfl rfl<|?_
     obtain ⟨t31, h_t31, H74⟩ := Je H73; clear H73
     refine Yk (J8 (rds := []) (G := fun x : (Option Addr × Nat) => sl x t31.length) (C := fun x : (Option Addr × Nat) => J5 56 2 (sl x t31.length) t31.length (t31.map Jo)) (fun w L' hF hS hi => k64 (Jp w) (f0.mono (hw.now hF)) (f1.mono (hw.now hF)) h_t31) Tryz.call64 rfl) rfl rfl rfl (fun p_8 => ?_)
     refine Jf rfl rfl rfl (Jaw Tryz.underlying53 rfl)<|mv (i6 0)<|Jd<|Ju<|?_
     refine X6 (σ := Int × (List T_tintref2_pair)) (τ := (Option Addr × Nat)) (fun next6 s => Ja1 a2 x18_2 next4 t20 t31 next6 s.1 s.2) (fun s t => [(0, v0), (1, v1), (2, i6 a2), (7, sl t s.2.length), (9, .pointer (some ⟨b5, 0, none⟩)), (16, v0), (17, i6 (a0.length : Int)), (18, i6 x18_2), (31, sl p_8 t31.length), (32, i6 (t31.length : Int)), (33, i6 s.1)]) (fun s t => [Yx Yo Yo, J5 90 3 (sl t s.2.length) s.2.length (s.2.map Yb), Q1 b5 [i6 t20.Id, i6 t20.Photo, i6 (t20.Vec 0), i6 (t20.Vec 1), i6 (t20.Vec 2), i6 (t20.Vec 3), i6 (t20.Vec 4), i6 (t20.Vec 5), i6 (t20.Vec 6), i6 (t20.Vec 7), i6 (t20.Vec 8), i6 (t20.Vec 9), i6 (t20.Vec 10), i6 (t20.Vec 11)] 52, J5 56 2 (sl p_8 t31.length) t31.length (t31.map Jo)]) (fun s t => True) (0, l_6) p_6 [0, 1, 2, 3] H74 (by exact trivial) (by exact ⟨rfl, rfl, rfl, rfl, rfl, rfl, rfl, rfl, rfl, rfl, rfl, trivial⟩) (by decide) rfl ?_
     rintro ⟨x33_2, l_9⟩ p_9 m6 gg H75 _
     clear H74
     try dsimp only at H75
     generalize hn6 : it (fun next6 s => Ja1 a2 x18_2 next4 t20 t31 next6 s.1 s.2) m6 = next6 at H75
     try dsimp only
     refine Jc ?_
     try dsimp only [z1, z2, z5, z6, z7, z8]
     refine Ja<|Jf rfl rfl rfl (Q0 rfl rfl)<|Jd<|Jc<|?_
     refine Qm (b := (decide (x33_2 < (t31.length : Int)))) rfl (fun hb => ?_) (fun hb => ?_)
     ·have H76 := Jw hb H75; clear H75
      refine Jv ?_
      refine Xf (r := r) (σ := (List T_tintref2_pair)) (τ := (Option Addr × Nat)) (fun s => R_SortOf_j7 x33_2 next6 s) (fun s t => [(0, v0), (1, v1), (2, i6 a2), (7, sl t s.length), (9, .pointer (some ⟨b5, 0, none⟩)), (16, v0), (17, i6 (a0.length : Int)), (18, i6 x18_2), (31, sl p_8 t31.length), (32, i6 (t31.length : Int)), (33, i6 x33_2)]) (fun s t => [Yx Yo Yo, J5 90 3 (sl t s.length) s.length (s.map Yb), Q1 b5 [i6 t20.Id, i6 t20.Photo, i6 (t20.Vec 0), i6 (t20.Vec 1), i6 (t20.Vec 2), i6 (t20.Vec 3), i6 (t20.Vec 4), i6 (t20.Vec 5), i6 (t20.Vec 6), i6 (t20.Vec 7), i6 (t20.Vec 8), i6 (t20.Vec 9), i6 (t20.Vec 10), i6 (t20.Vec 11)] 52, J5 56 2 (sl p_8 t31.length) t31.length (t31.map Jo)]) (fun s t => True) ?_ ?_
      ·refine Ju<|Jc<|Ja<|?_
       obtain ⟨t35, h_t35, H79⟩ := Je H76; clear H76
       refine J9 (fun w hF hS => J3 Tryz.underlying53 Tryz.sizeOf56 rfl rfl (Qy (i := 3) hS rfl) rfl h_t35) rfl rfl rfl<|J9 (fun w hF hS => Qj (f := Jo) (i := x33_2) (sz := 2) (j := 0) (vs := [i6 t35.Person, i6 t35.Far]) Tryz.isAgg56 Tryz.sizeOf56 rfl rfl (Qy (i := 3) hS rfl) h_t35 rfl) rfl rfl rfl<|?_
       refine Wh (cs := [i6 0, i6 0]) Tryz.zeroValue56 rfl rfl rfl (fun b6 => ?_)
       refine Y8 (i := 4) (vs := [i6 t35.Person, i6 t35.Far]) (cs' := [i6 t35.Person, i6 t35.Far]) Tryz.sizeOf56 rfl rfl rfl rfl rfl rfl rfl rfl rfl<|Jd<|Jc<|Ja<|Jf rfl rfl rfl (J7 Tryz.runUnderlying56 rfl Tryz.sizeOf3 rfl rfl)<|Qq (i := 4) (v := i6 t35.Far) Tryz.isAgg3 rfl rfl rfl rfl rfl<|mv (i6 a2)<|Jf rfl rfl rfl (r_leq rfl rfl)<|Jd<|?_
       refine Qm (b := (decide (t35.Far ≤ a2))) rfl (fun hb => ?_) (fun hb => ?_)
       ·have H80 := Jw hb H79; clear H79
        refine Ja<|mv (sl p_9 l_9.length)<|Jf rfl rfl rfl (J7 Tryz.runUnderlying56 rfl Tryz.sizeOf3 rfl rfl)<|Qq (i := 4) (v := i6 t35.Far) Tryz.isAgg3 rfl rfl rfl rfl rfl<|Jf rfl rfl rfl (J7 Tryz.runUnderlying52 rfl Tryz.sizeOf3 rfl rfl)<|Qq (i := 2) (v := i6 t20.Id) Tryz.isAgg3 rfl rfl rfl rfl rfl<|Jf rfl rfl rfl (J7 Tryz.runUnderlying56 rfl Tryz.sizeOf3 rfl rfl)<|Qq (i := 4) (v := i6 t35.Person) Tryz.isAgg3 rfl rfl rfl rfl rfl<|Jf rfl rfl rfl (r_build (pl := #[(0, 1), (1, 1), (2, 1)]) (ps := [(0, i6 t35.Far), (1, i6 t20.Id), (2, i6 t35.Person)]) (cells := #[i6 t35.Far, i6 t20.Id, i6 t35.Person]) Tryz.zeroValue90 Tryz.runUnderlying90 (fun w => by kernel_rfl) rfl rfl)<|?_
        refine Z0 (vs := [.agg #[i6 t35.Far, i6 t20.Id, i6 t35.Person]]) (cs := [i6 t35.Far, i6 t20.Id, i6 t35.Person]) Tryz.underlying88 Tryz.sizeOf90 Tryz.zeroValue90 rfl rfl rfl rfl rfl rfl rfl (fun b7 => ?_)
        obtain ⟨l50, h_l50, H81⟩ := Je H80; clear H80
        refine Y7 (Ur (i := 1) (hn := rfl) (rds := [5]) (p := p_9) (sz := 3) (by_ := 24) (f := Yb) (ys := l_9) (ls := ([(⟨t35.Far, t20.Id, t35.Person⟩ : T_tintref2_pair)] : List T_tintref2_pair)) (V := .slice (some ⟨b7, 0, none⟩) 1 1) Tryz.underlying88 (We Tryz.typeInfo90) rfl rfl rfl rfl rfl rfl rfl rfl rfl rfl (fun w L' hF hS hi => row_box (i := 5) hS ((hi 5 (by simp)).trans rfl) rfl rfl) (fun _ => rfl) (fun _ => rfl) h_l50) rfl rfl rfl (fun p_11 => ?_)
        refine ag (sl p_11 l50.length)<|Jd<|?_
        refine Js l50 p_11 0 [0, 1, 2, 3] (by exact ⟨rfl, rfl, rfl, rfl, rfl, rfl, rfl, rfl, rfl, rfl, rfl, trivial⟩) (by decide) rfl (by exact ⟨H81, trivial⟩) (Nat.lt_succ_self _)
       ·have H82 := Jx hb H79; clear H79
        refine Jv ?_
        refine Js l_9 p_9 0 [0, 1, 2, 3] (by exact ⟨rfl, rfl, rfl, rfl, rfl, rfl, rfl, rfl, rfl, rfl, rfl, trivial⟩) (by decide) rfl (by exact ⟨H82, trivial⟩) (Nat.lt_succ_self _)
      ·rintro l_10 p_10 gg H77 _
       try dsimp only at H77
       try dsimp only
       refine Ja ?_
       obtain ⟨t51, h_t51, H78⟩ := Je H77; clear H77
       refine Jf rfl rfl rfl (Qp rfl rfl h_t51)<|mv (i6 t51)<|Jd<|?_
       refine Js (t51, l_10) p_10 m6 [0, 1, 2, 3] (by exact ⟨rfl, rfl, rfl, rfl, rfl, rfl, rfl, rfl, rfl, rfl, rfl, trivial⟩) (by decide) rfl (by exact ⟨(by subst hn6; exact H78), trivial⟩) (Nat.lt_succ_self _)
     ·have H83 := Jx hb H75; clear H75
      refine Q3 ?_
      refine Js l_9 p_9 0 [0, 1] (by exact ⟨rfl, rfl, rfl, rfl, rfl, rfl, rfl, trivial⟩) (by decide) rfl (by exact ⟨H83, trivial⟩) (Nat.lt_succ_self _)
   ·rintro l_7 p_7 gg H68 _
    try dsimp only at H68
    try dsimp only
    refine Ja ?_
    obtain ⟨t52, h_t52, H69⟩ := Je H68; clear H68
    refine Jf rfl rfl rfl (Qp rfl rfl h_t52)<|mv (i6 t52)<|Jd<|?_
    refine Js (t52, l_7) p_7 m4 [0, 1] (by exact ⟨rfl, rfl, rfl, rfl, rfl, rfl, rfl, trivial⟩) (by decide) rfl (by exact ⟨(by subst hn4; exact H69), trivial⟩) (Nat.lt_succ_self _)
  ·have H84 := Jx hb H66; clear H66
   refine Q3 ?_
   refine Js l_6 p_6 0 [0, 1] (by exact ⟨rfl, rfl, rfl, trivial⟩) (by decide) rfl (by exact ⟨H84, trivial⟩) (Nat.lt_succ_self _)
 ·rintro l p gg H43 _
  try dsimp only at H43
  try dsimp only
  refine Jc<|Ja<|mv (sl p l.length)<|?_
  obtain ⟨t54, h_t54, H44⟩ := Je H43; clear H43
  refine Y7 (Xj (i := 1) (rds := []) (G := fun x : Unit => .tuple #[]) (C := fun x : Unit => J5 90 3 (sl p l.length) l.length (t54.map Yb)) rfl (fun w L' S hF hS hi hp hlt ho hA => k65 hp hlt (Y4 w S) rfl h_t54) Tryz.call65 rfl) rfl rfl rfl (fun _ => ?_)
  refine Zq (fun w hF hS => lenOf (i := 1) hS rfl) (fun hl_ => ?_)
  have hl : l.length = t54.length := by simpa using hl_.symm
  refine Jd<|Jc<|Ja<|mv v1<|?_
  obtain ⟨t56, h_t56, H45⟩ := Je H44; clear H44
  refine Yk (J8 (rds := []) (G := fun x : (Option Addr × Nat) => sl x t56.length) (C := fun x : (Option Addr × Nat) => rowD 32 4 g_face_Person (sl x t56.length) t56.length t56) (fun w L' hF hS hi => k60 (Jp w) (f1.mono (hw.now hF)) h_t56) Tryz.call60 rfl) rfl rfl rfl (fun p_2 => ?_)
  refine c_rowD 2 rfl (fun hp css hn pf => ?_)
  rw [hn]
  refine V7 2 rfl ?_
  refine Yv 0 2 rfl rfl (by decide) (fun _ _ => Qo) (fun hp_2 hle hle_2 => ?_)
  refine ag (sl p_2 css.length)<|Jd<|?_
  try dsimp only [z1, z2, z5, z6, z7, z8]
  refine Jc<|Jc<|Ja<|mv (sl p l.length)<|Jf rfl rfl rfl (r_lenN Tryz.underlying88 rfl hl)<|mv (i6 0)<|Jd<|?_
  try dsimp only [z1, z2, z5, z6, z7, z8]
  refine Ju<|c_dr 2<|?_
  try dsimp only [z1, z2, z3, z4, z5, z6, z7, z8]
  refine X6 (σ := Int × (List T_face_Person)) (τ := Qg × (List (List Value)) × (Option Addr × Nat)) (fun next2 s => Jcg a0 t54 next2 s.1 s.2) (fun s t => [(0, v0), (12, .slice t.2.2.1 t.2.1.length t.2.2.2), (57, sl p l.length), (58, i6 (t54.length : Int)), (59, i6 s.1)]) (fun s t => [Yx Yo t.1, J5 90 3 (sl p l.length) l.length (t54.map Yb), J5 32 4 (.slice t.2.2.1 t.2.1.length t.2.2.2) t.2.1.length (t.2.1.map idC)]) (fun s t => AllC g_face_Person t.1 4 t.2.1 s.2) (0, t56) (hp_2, css, p_2) [0, 1, 2] H45 (by exact (pf.mono hle_2)) (by exact ⟨rfl, rfl, rfl, rfl, rfl, trivial⟩) (by decide) rfl ?_
  rintro ⟨x59_2, l_3⟩ ⟨hp_3, css_2, p_3⟩ m2 gg H46 pf_3
  clear H45
  try dsimp only at H46
  generalize hn2 : it (fun next2 s => Jcg a0 t54 next2 s.1 s.2) m2 = next2 at H46
  try dsimp only
  refine Jc<|Ja<|Jf rfl rfl rfl (Q0 rfl rfl)<|Jd<|?_
  try dsimp only [z1, z2, z5, z6, z7, z8]
  refine Jc ?_
  refine Qm (b := (decide (x59_2 < (t54.length : Int)))) rfl (fun hb => ?_) (fun hb => ?_)
  ·have H47 := Jw hb H46; clear H46
   refine Jv ?_
   refine Xf (r := r) (σ := (List T_face_Person)) (τ := Qg × (List (List Value)) × (Option Addr × Nat)) (fun s => R_SortOf_j3 x59_2 next2 s) (fun s t => [(0, v0), (12, .slice t.2.2.1 t.2.1.length t.2.2.2), (57, sl p l.length), (58, i6 (t54.length : Int)), (59, i6 x59_2)]) (fun s t => [Yx Yo t.1, J5 90 3 (sl p l.length) l.length (t54.map Yb), J5 32 4 (.slice t.2.2.1 t.2.1.length t.2.2.2) t.2.1.length (t.2.1.map idC)]) (fun s t => AllC g_face_Person t.1 4 t.2.1 s) ?_ ?_
   ·refine Ju<|Jc<|Ja<|?_
    obtain ⟨t61, h_t61, H50⟩ := Je H47; clear H47
    refine J9 (fun w hF hS => J3 Tryz.underlying88 Tryz.sizeOf90 rfl rfl (Qy (i := 1) hS rfl) hl h_t61) rfl rfl rfl<|J9 (fun w hF hS => Qj (f := Yb) (i := x59_2) (sz := 3) (j := 0) (vs := [i6 t61.far_, i6 t61.like_, i6 t61.person_]) Tryz.isAgg90 Tryz.sizeOf90 rfl rfl (Qy (i := 1) hS rfl) h_t61 rfl) rfl rfl rfl<|?_
    refine Wh (cs := [i6 0, i6 0, i6 0]) Tryz.zeroValue90 rfl rfl rfl (fun b4 => ?_)
    refine Y8 (i := 3) (vs := [i6 t61.far_, i6 t61.like_, i6 t61.person_]) (cs' := [i6 t61.far_, i6 t61.like_, i6 t61.person_]) Tryz.sizeOf90 rfl rfl rfl rfl rfl rfl rfl rfl rfl<|Jd<|?_
    try dsimp only [z1, z2, z5, z6, z7, z8]
    refine Jc<|Ja<|mv (sl p_3 css_2.length)<|Jf rfl rfl rfl (J7 Tryz.runUnderlying90 rfl Tryz.sizeOf3 rfl rfl)<|Qq (i := 3) (v := i6 t61.person_) Tryz.isAgg3 rfl rfl rfl rfl rfl<|?_
    obtain ⟨t66, h_t66, H51⟩ := Je H50; clear H50
    refine Qf (fun w hF hS => k57 (Jp w) (U7 (xs := l_3) (frs_own (i := 2) rfl hS rfl) (pf_3.mono (Xi (i := 0) hS rfl Qo))) h_t66) Tryz.call57 rfl rfl rfl<|ag (i6 t66)<|Jd<|?_
    try dsimp only [z1, z2, z5, z6, z7, z8]
    refine Jc ?_
    exact Qz (Kd.p :: Kd.p :: Kd.d [3] _ :: Kd.d [0, 2] _ :: Kd.p :: Kd.p :: Kd.p :: Kd.p :: Kd.p :: Kd.d [2] _ :: Kd.d [2] _ :: Kd.p :: Kd.p :: Kd.p :: Kd.d [3] _ :: Kd.d [0] _ :: Kd.p :: Kd.p :: Kd.d [] _ :: Kd.d [0] _ :: Kd.p :: Kd.p :: []) 0 mixed (by
     refine dm (sl p_3 css_2.length)<|Qa rfl rfl (J7 Tryz.runUnderlying90 rfl Tryz.sizeOf3 rfl rfl)<|Z5 (i := 3) (v := i6 t61.like_) Tryz.isAgg3 rfl rfl rfl rfl<|?_
     have h_t70 := Jr H51
     have H52 := Jn H51
     refine Uk (fun w L' hF hS hi => k58 (Jp w) (U7 (xs := l_3) (frs_own (i := 2) rfl hS ((hi 2 (by simp)).trans rfl)) (pf_3.mono (Xi (i := 0) hS ((hi 0 (by simp)).trans rfl) Qo))) h_t70) Tryz.call58 rfl rfl<|Qa rfl rfl (Q0 rfl rfl)<|dm (.bool (decide ((val (Jbm l_3 t61.like_)) < 0)))<|?_
     refine splitS (fun hb => ?_) (fun hb => ?_)
     ·have H53 := Jw hb H52
      refine dm v0<|dm (sl p_3 css_2.length)<|dm (i6 t66)<|?_
      have h_t76 := Jr H53
      have H54 := Jn H53
      refine Qc (fun w L' hF hS hi => J3 Tryz.underlying23 Tryz.sizeOf32 rfl rfl (Qy (i := 2) (E := 32) (sz := 4) (n := css_2.length) (a := p_3.1) (c := p_3.2) hS ((hi 2 (by simp)).trans rfl)) rfl (pf_3.ix h_t76)) rfl rfl<|Qc (fun w L' hF hS hi => Qj (f := idC) (i := t66) (sz := 4) (j := 0) (vs := [i6 (val (Jk l_3 t66)).Id, Xt (val (Jk l_3 t66)).Name, (List.getD (List.getD css_2 (Int.toNat t66) []) 2 undef), (List.getD (List.getD css_2 (Int.toNat t66) []) 3 undef)]) Tryz.isAgg32 Tryz.sizeOf32 rfl rfl (Qy (i := 2) (E := 32) (sz := 4) (n := css_2.length) (a := p_3.1) (c := p_3.2) hS ((hi 2 (by simp)).trans rfl)) (pf_3.ix h_t76) (rd_of ((pf_3.eta h_t76).trans (J1 (pf_3.at h_t76))) rfl)) rfl rfl<|dm v0<|dm v0<|Qa rfl rfl (J7 Tryz.runUnderlying90 rfl Tryz.sizeOf3 rfl rfl)<|Z5 (i := 3) (v := i6 t61.like_) Tryz.isAgg3 rfl rfl rfl rfl<|?_
      have h_t82 := Jr H54
      have H55 := Jn H54
      refine Uk (fun w L' hF hS hi => k52 (Jp w) (f0.mono (hw.now hF)) h_t82) Tryz.call52 rfl rfl ?_
      have h_t83 := Jr H55
      have H56 := Jn H55
      refine Qa rfl rfl (Qe Tryz.underlying22 Tryz.sizeOf52 rfl rfl f0 h_t83)<|Qa rfl rfl (Xv Tryz.runUnderlying52 rfl Tryz.sizeOf3 rfl rfl (Ym f0 h_t83))<|Wb (fun w hF => J2 (f := Jq) (i := (val (Qb a0 t61.like_))) (sz := 14) (j := 1) (v := i6 (val (Jk a0 (val (Qb a0 t61.like_)))).Photo) Tryz.isAgg3 rfl rfl (f0.row (hw.now hF)) h_t83 rfl) rfl rfl<|?_
      have h_t86 := Jr H56
      have H57 := Jn H56
      refine Uk (fun w L' hF hS hi => k59 (Jp w) (f0.mono (hw.now hF)) ((show FrS hp_3 1 (List.getD (List.getD css_2 (Int.toNat t66) []) 2 undef) ((val (Jk l_3 t66)).Likes.map Jl) from (Jm (pf_3.at h_t76))).mono (Xi (i := 0) hS ((hi 0 (by simp)).trans rfl) Qo)) ((show FrS hp_3 1 (List.getD (List.getD css_2 (Int.toNat t66) []) 3 undef) ((val (Jk l_3 t66)).Nots.map Jl) from (Jt (pf_3.at h_t76))).mono (Xi (i := 0) hS ((hi 0 (by simp)).trans rfl) Qo)) h_t86) Tryz.call59 rfl rfl<|Qa rfl rfl (Ub rfl)<|Qa rfl rfl (Q5 (v := .bool (!(val (Wg a0 (val (Jk l_3 t66)) (val (Jk a0 (val (Qb a0 t61.like_)))).Photo)))) rfl rfl)<|Y3<|?_
      try dsimp only [z1, z2, z5, z6, z7, z8]
      refine Qm (b := (!(val (Wg a0 (val (Jk l_3 t66)) (val (Jk a0 (val (Qb a0 t61.like_)))).Photo)))) rfl (fun hb => ?_) (fun hb => ?_)
      ·have H58 := Jw hb H57; clear H57
       exact Qz (Kd.p :: Kd.p :: Kd.p :: Kd.p :: Kd.d [2] _ :: Kd.d [2] _ :: Kd.d [2] _ :: Kd.p :: Kd.d [3] _ :: Kd.t 4 [0] _ _ :: Kd.d [2] _ :: Kd.d [2] _ :: Kd.stk 100 98 2 :: []) 1 mixed (by
        refine dm (sl p_3 css_2.length)<|dm (i6 t66)<|dm (sl p_3 css_2.length)<|dm (i6 t66)<|?_
        have h_t93 := Jr H58
        have H59 := Jn H58
        refine Qc (fun w L' hF hS hi => J3 Tryz.underlying23 Tryz.sizeOf32 rfl rfl (Qy (i := 2) (E := 32) (sz := 4) (n := css_2.length) (a := p_3.1) (c := p_3.2) hS ((hi 2 (by simp)).trans rfl)) rfl (pf_3.ix h_t93)) rfl rfl<|Y5 rfl rfl (fun w L' hF hS hi => Xn Tryz.runUnderlying32 rfl Tryz.sizeOf24 rfl rfl (Qy (i := 2) (E := 32) (sz := 4) (n := css_2.length) (a := p_3.1) (c := p_3.2) hS ((hi 2 (by simp)).trans rfl)) (pf_3.ix h_t93))<|Qc (fun w L' hF hS hi => J2 (f := idC) (i := t66) (sz := 4) (j := 2) (v := (List.getD (List.getD css_2 (Int.toNat t66) []) 2 undef)) Tryz.isAgg24 rfl rfl (Qy (i := 2) (E := 32) (sz := 4) (n := css_2.length) (a := p_3.1) (c := p_3.2) hS ((hi 2 (by simp)).trans rfl)) (pf_3.ix h_t93) (V4 ((pf_3.eta h_t93).trans (J1 (pf_3.at h_t93))) rfl)) rfl rfl<|Qa rfl rfl (J7 Tryz.runUnderlying90 rfl Tryz.sizeOf3 rfl rfl)<|Z5 (i := 3) (v := i6 t61.like_) Tryz.isAgg3 rfl rfl rfl rfl<|?_
        have h_t98 := Jr H59
        have H60 := Jn H59
        refine Uc (Cv := fun v => roH hp_3 1 v (val (Qv (val (Jk l_3 t66)).Likes t61.like_)).length ((val (Qv (val (Jk l_3 t66)).Likes t61.like_)).map Jl)) (none, 0) (J8 (G := fun x : (Option Addr × Nat) => sl x (val (Qv (val (Jk l_3 t66)).Likes t61.like_)).length) (C := fun x : (Option Addr × Nat) => roH hp_3 1 (sl x (val (Qv (val (Jk l_3 t66)).Likes t61.like_)).length) (val (Qv (val (Jk l_3 t66)).Likes t61.like_)).length ((val (Qv (val (Jk l_3 t66)).Likes t61.like_)).map Jl)) (fun w L' hF hS hi => k61 (h := hp_3) (know_pool (i := 0) hS ((hi 0 (by simp)).trans rfl) Qo) (show FrS hp_3 1 (List.getD (List.getD css_2 (Int.toNat t66) []) 2 undef) ((val (Jk l_3 t66)).Likes.map Jl) from (Jm (pf_3.at h_t93))) h_t98) Tryz.call61 rfl) (fun _ => rfl) rfl rfl rfl (fun p_5 => ?_)
        have h_t99 := Jr H60
        have H61 := Jn H60
        refine Qc (fun w L' hF hS hi => J3 Tryz.underlying23 Tryz.sizeOf32 rfl rfl (Qy (i := 2) (E := 32) (sz := 4) (n := css_2.length) (a := p_3.1) (c := p_3.2) hS ((hi 2 (by simp)).trans rfl)) rfl (pf_3.ix h_t99)) rfl rfl<|Y5 rfl rfl (fun w L' hF hS hi => Xn Tryz.runUnderlying32 rfl Tryz.sizeOf24 rfl rfl (Qy (i := 2) (E := 32) (sz := 4) (n := css_2.length) (a := p_3.1) (c := p_3.2) hS ((hi 2 (by simp)).trans rfl)) (pf_3.ix h_t99))<|?_
        have h_l2 := Jr H61
        have H62 := Jn H61
        refine W4 (i := 2) (x := sl p_5 (val (Qv (val (Jk l_3 t66)).Likes t61.like_)).length) (va := (Zn p_3.1 (Int.toNat t66 * 4 + 2))) Tryz.sizeOf24 rfl rfl rfl rfl rfl rfl (Jbd (E := 32) (sz := 4) (n := css_2.length) (a := p_3.1) (c := p_3.2) (css := css_2) (Imp.toO (Imp.refl _)) rfl pf_3.len h_t99 rfl rfl)<|Y3<|Xc 2 rfl (Uy (E := 32) (sz := 4) (n := css_2.length) (a := p_3.1) (c := p_3.2) (css := css_2) (j := 2) (x := sl p_5 (val (Qv (val (Jk l_3 t66)).Likes t61.like_)).length) (Imp.refl _) pf_3.len h_t99 rfl rfl)<|?_
        refine Yq (Φ := fun H_ => FrS H_ 1 (sl p_5 (val (Qv (val (Jk l_3 t66)).Likes t61.like_)).length) ((val (Qv (val (Jk l_3 t66)).Likes t61.like_)).map Jl)) 0 4 rfl rfl (by decide) (fun _ _ => Qo) (fz_roh _ (fun _ _ h_ => h_)) (fun hp_5 hle_3 hf => ?_)
        have pf_5 : AllC g_face_Person hp_5 4 (setR css_2 t66 2 (sl p_5 (val (Qv (val (Jk l_3 t66)).Likes t61.like_)).length)) (val (Q6 l_3 t66 (⟨(val (Jk l_3 t66)).Id, (val (Jk l_3 t66)).Name, (val (Qv (val (Jk l_3 t66)).Likes t61.like_)), (val (Jk l_3 t66)).Nots⟩ : T_face_Person))) := AllC.setR (pf_3.mono hle_3) h_t99 h_l2 rfl (by obtain ⟨q0_, q1_, q2_, q3_⟩ := (pf_3.mono hle_3).at h_t99; exact ⟨q0_, q1_, hf, q3_⟩)
        try dsimp only [z1, z2, z5, z6, z7, z8]
        rw [show css_2.length = (setR css_2 t66 2 (sl p_5 (val (Qv (val (Jk l_3 t66)).Likes t61.like_)).length)).length from (rfl.trans (Qt _ _ _ _).symm)]
        refine Js (val (Q6 l_3 t66 (⟨(val (Jk l_3 t66)).Id, (val (Jk l_3 t66)).Name, (val (Qv (val (Jk l_3 t66)).Likes t61.like_)), (val (Jk l_3 t66)).Nots⟩ : T_face_Person))) (hp_5, (setR css_2 t66 2 (sl p_5 (val (Qv (val (Jk l_3 t66)).Likes t61.like_)).length)), p_3) 0 [0, 1, 2] (by exact ⟨rfl, rfl, rfl, rfl, rfl, trivial⟩) (by decide) rfl (by exact ⟨H62, pf_5⟩) (Nat.lt_succ_self _)
        ) (by kernel_rfl)
      ·have H63 := Jx hb H57; clear H57
       refine Jv ?_
       refine Js l_3 (hp_3, css_2, p_3) 0 [0, 1, 2] (by exact ⟨rfl, rfl, rfl, rfl, rfl, trivial⟩) (by decide) rfl (by exact ⟨H63, pf_3⟩) (Nat.lt_succ_self _)
     ·have H64 := Jx hb H52
      refine dp<|dp<|dp<|dp<|dp<|dp<|dp<|dp<|dp<|dp<|dp<|dp<|dp<|dp<|dp<|Qa rfl rfl (Qr (v := .bool false) rfl rfl)<|Y3<|?_
      try dsimp only [z1, z2, z5, z6, z7, z8]
      refine Wq rfl<|Jv<|?_
      refine Js l_3 (hp_3, css_2, p_3) 0 [0, 1, 2] (by exact ⟨rfl, rfl, rfl, rfl, rfl, trivial⟩) (by decide) rfl (by exact ⟨H64, pf_3⟩) (Nat.lt_succ_self _)
     ) (by kernel_rfl)
   ·rintro l_4 ⟨hp_4, css_3, p_4⟩ gg H48 pf_4
    try dsimp only at H48
    try dsimp only
    refine Ja ?_
    obtain ⟨t101, h_t101, H49⟩ := Je H48; clear H48
    refine Jf rfl rfl rfl (Qp rfl rfl h_t101)<|mv (i6 t101)<|Jd<|?_
    try dsimp only [z1, z2, z5, z6, z7, z8]
    refine Js (t101, l_4) (hp_4, css_3, p_4) m2 [0, 1, 2] (by exact ⟨rfl, rfl, rfl, rfl, rfl, trivial⟩) (by decide) rfl (by exact ⟨(by subst hn2; exact H49), pf_4⟩) (Nat.lt_succ_self _)
  ·have H65 := Jx hb H46; clear H46
   refine Q3<|Jc<|Ja<|mv (sl p_3 css_2.length)<|ag (sl p_3 css_2.length)<|Jd<|?_
   try dsimp only [z1, z2, z5, z6, z7, z8]
   refine Jy ?_
   obtain rfl := Option.some.inj H65
   refine Yp 0 2 rfl rfl (by decide)<|Xc 0 rfl (Vo (p := p_3) rfl pf_3)<|?_
   refine Qw (v := sl p_3 css_2.length) rfl rfl (Zb p_3 (i := 0) rfl (by first | rfl | rw [(show css_2.length = l_3.length from pf_3.len)]) (by first | exact Imp.refl _ | exact Imp.of (by rw [(show css_2.length = l_3.length from pf_3.len)])))
theorem k22 {a0 : (List T_face_Likeness)} {v0 : Value} {a1 : (List T_face_Person)} {v1 : Value} {a2 : Int} {a3 : Int} {r : (List T_face_Person) × Int} {w : World} {h : Qg} (hw : Know h w Yl) (f0 : FrS h 14 v0 (a0.map Jq)) (f1 : FrN h 4 v1 g_face_Person a1) (H : R_MergeFolk a0 a1 a2 a3 = some r) : Does Tryz.prog 22 (List.toArray [v0, v1, i6 a2, i6 a3]) w (fun v w' => ∃ x : (Option Addr × Nat), v = (.tuple #[sl x r.1.length, i6 r.2]) ∧ Turn w w' Yl (rofD false 32 4 g_face_Person (sl x r.1.length) r.1.length r.1)) := by
 refine enter (n := 135) Tryz.func22 rfl rfl rfl Yl [] (Sat.nil _ _)<|Wy Yo<|Jc<|Ja<|ag (.slice none 0 0)<|ag (i6 0)<|Jd<|Jc<|Ja<|mv v1<|mv (i6 a2)<|?_
 obtain ⟨t23, h_t23, H115⟩ := Je H; clear H
 refine Qf (fun w hF hS => k57 (Jp w) (f1.mono (hw.now hF)) h_t23) Tryz.call57 rfl rfl rfl<|mv v1<|mv (i6 a3)<|?_
 obtain ⟨t26, h_t26, H116⟩ := Je H115; clear H115
 refine Qf (fun w hF hS => k57 (Jp w) (f1.mono (hw.now hF)) h_t26) Tryz.call57 rfl rfl rfl<|ag (i6 t23)<|ag (i6 t26)<|Jd<|Jc<|Ju<|Jc<|Ja<|mv (i6 t23)<|Jf rfl rfl rfl (Q0 rfl rfl)<|mv (.bool (decide (t23 < 0)))<|?_
 refine split (fun hb => ?_) (fun hb => ?_)
 ·have H117 := Jw hb H116; clear H116
  refine pa<|pa<|Jf rfl rfl rfl (Q5 (v := .bool true) rfl rfl)<|ag (.bool true)<|Jd<|c_true rfl<|Jc<|Ja<|ag (.slice none 0 0)<|ag (i6 7)<|Jd<|Jy<|Q9 32 4<|?_
  obtain rfl := Option.some.inj H117
  refine Xc 1 rfl (Zs _ _ _ _ _)<|Yp 0 1 rfl rfl (by decide)<|Xc 0 rfl (Zc (k := false) (p := nn) rfl (fun h => nomatch h) (AllC.nil (G := g_face_Person) (h := Yo) (sz := 4)))<|?_
  refine Vz (v1 := sl nn (([] : List (List Value)).length)) (v2 := i6 7) rfl rfl rfl (Zb nn (i := 0) rfl (by first | rfl | rw [(show (([] : List (List Value)).length) = ([] : List T_face_Person).length from (AllC.nil (G := g_face_Person) (h := Yo) (sz := 4)).len)]) (by first | exact Imp.refl _ | exact Imp.of (by rw [(show (([] : List (List Value)).length) = ([] : List T_face_Person).length from (AllC.nil (G := g_face_Person) (h := Yo) (sz := 4)).len)])))
 ·have H118 := Jx hb H116; clear H116
  refine mv (i6 t26)<|Jf rfl rfl rfl (Q0 rfl rfl)<|Jf rfl rfl rfl (Qr (v := .bool (decide (t26 < 0))) rfl rfl)<|ag (.bool (decide (t26 < 0)))<|Jd<|?_
  refine Qm (b := (decide (t26 < 0))) rfl (fun hb => ?_) (fun hb => ?_)
  ·have H119 := Jw hb H118; clear H118
   refine Jc<|Ja<|ag (.slice none 0 0)<|ag (i6 7)<|Jd<|Jy<|Q9 32 4<|?_
   obtain rfl := Option.some.inj H119
   refine Xc 1 rfl (Zs _ _ _ _ _)<|Yp 0 1 rfl rfl (by decide)<|Xc 0 rfl (Zc (k := false) (p := nn) rfl (fun h => nomatch h) (AllC.nil (G := g_face_Person) (h := Yo) (sz := 4)))<|?_
   refine Vz (v1 := sl nn (([] : List (List Value)).length)) (v2 := i6 7) rfl rfl rfl (Zb nn (i := 0) rfl (by first | rfl | rw [(show (([] : List (List Value)).length) = ([] : List T_face_Person).length from (AllC.nil (G := g_face_Person) (h := Yo) (sz := 4)).len)]) (by first | exact Imp.refl _ | exact Imp.of (by rw [(show (([] : List (List Value)).length) = ([] : List T_face_Person).length from (AllC.nil (G := g_face_Person) (h := Yo) (sz := 4)).len)])))
  ·have H120 := Jx hb H118; clear H118
   refine Jc<|Ja<|mv (i6 t23)<|mv (i6 t26)<|Jf rfl rfl rfl (Uv rfl rfl)<|ag (.bool (decide (t23 = t26)))<|Jd<|?_
   refine Qm (b := (decide (t23 = t26))) rfl (fun hb => ?_) (fun hb => ?_)
   ·have H121 := Jw hb H120; clear H120
    refine Jc<|Ja<|ag (.slice none 0 0)<|ag (i6 1)<|Jd<|Jy<|Q9 32 4<|?_
    obtain rfl := Option.some.inj H121
    refine Xc 1 rfl (Zs _ _ _ _ _)<|Yp 0 1 rfl rfl (by decide)<|Xc 0 rfl (Zc (k := false) (p := nn) rfl (fun h => nomatch h) (AllC.nil (G := g_face_Person) (h := Yo) (sz := 4)))<|?_
    refine Vz (v1 := sl nn (([] : List (List Value)).length)) (v2 := i6 1) rfl rfl rfl (Zb nn (i := 0) rfl (by first | rfl | rw [(show (([] : List (List Value)).length) = ([] : List T_face_Person).length from (AllC.nil (G := g_face_Person) (h := Yo) (sz := 4)).len)]) (by first | exact Imp.refl _ | exact Imp.of (by rw [(show (([] : List (List Value)).length) = ([] : List T_face_Person).length from (AllC.nil (G := g_face_Person) (h := Yo) (sz := 4)).len)])))
   ·have H122 := Jx hb H120; clear H120
    refine Jv ?_
    refine Xf (r := r) (σ := Unit) (τ := Unit) (fun s => Jcr a1 t23 t26) (fun s t => [(1, v1), (10, i6 t23), (11, i6 t26)]) (fun s t => [Yx Yo Yo]) (fun s t => True) ?_ ?_
    ·refine Jc<|Ja<|mv v1<|mv (i6 t26)<|?_
     obtain ⟨t40, h_t40, H160⟩ := Je H122; clear H122
     refine Jf rfl rfl rfl (Qe Tryz.underlying23 Tryz.sizeOf32 rfl rfl f1.frs (f1.ix h_t40))<|Jf rfl rfl rfl (Xv Tryz.runUnderlying32 rfl Tryz.sizeOf24 rfl rfl (Ym f1.frs (f1.ix h_t40)))<|J9 (fun w hF hS => J2 (f := (elC h v1 4)) (i := t26) (sz := 4) (j := 2) (v := (Qu h v1 4 (Int.toNat t26) 2)) Tryz.isAgg24 rfl rfl (f1.frs.row (hw.now hF)) (f1.ix h_t40) (V4 (J1 (f1.at h_t40)) rfl)) rfl rfl rfl<|Jf rfl rfl rfl (Y0 Tryz.underlying24 rfl (show FrS h 1 (Qu h v1 4 (Int.toNat t26) 2) (t40.Likes.map Jl) from (Jm (f1.at h_t40))) rfl)<|mv (i6 0)<|Jd<|Ju<|?_
     refine X6 (σ := Int) (τ := Unit) (fun next8 s => W8 a0 a1 t23 t26 t40 next8 s) (fun s t => [(0, v0), (1, v1), (10, i6 t23), (11, i6 t26), (42, (Qu h v1 4 (Int.toNat t26) 2)), (43, i6 (t40.Likes.length : Int)), (44, i6 s)]) (fun s t => [Yx Yo Yo]) (fun s t => True) 0 () [0] H160 (by exact trivial) (by exact ⟨rfl, rfl, rfl, rfl, rfl, rfl, rfl, trivial⟩) (by decide) rfl ?_
     rintro x44_2 _ m8 gg H161 _
     clear H160
     try dsimp only at H161
     generalize hn8 : it (fun next8 s => W8 a0 a1 t23 t26 t40 next8 s) m8 = next8 at H161
     try dsimp only
     refine Jc<|Ja<|Jf rfl rfl rfl (Q0 rfl rfl)<|Jd<|Jc<|?_
     refine Qm (b := (decide (x44_2 < (t40.Likes.length : Int)))) rfl (fun hb => ?_) (fun hb => ?_)
     ·have H162 := Jw hb H161; clear H161
      refine Jv<|Jc<|Ju<|Jc<|Ja<|?_
      obtain ⟨t46, h_t46, H163⟩ := Je H162; clear H162
      refine Jf rfl rfl rfl (Qe Tryz.underlying24 Tryz.sizeOf3 rfl rfl (show FrS h 1 (Qu h v1 4 (Int.toNat t26) 2) (t40.Likes.map Jl) from (Jm (f1.at h_t40))) h_t46)<|J9 (fun w hF hS => J2 (f := Jl) (i := x44_2) (sz := 1) (j := 0) (v := i6 t46) Tryz.isAgg3 rfl rfl ((show FrS h 1 (Qu h v1 4 (Int.toNat t26) 2) (t40.Likes.map Jl) from (Jm (f1.at h_t40))).row (hw.now hF)) h_t46 rfl) rfl rfl rfl<|ag (i6 t46)<|Jd<|Jc<|?_
      exact Qz (Kd.p :: Kd.p :: Kd.p :: Kd.p :: Kd.d [] _ :: Kd.p :: Kd.p :: Kd.p :: Kd.d [0] _ :: Kd.p :: Kd.p :: Kd.d [] _ :: Kd.d [0] _ :: []) 0 mixed (by
       refine dm v0<|dm v1<|dm (i6 t23)<|?_
       have h_t51 := Jr H163
       have H164 := Jn H163
       refine Qa rfl rfl (Qe Tryz.underlying23 Tryz.sizeOf32 rfl rfl f1.frs (f1.ix h_t51))<|Wb (fun w hF => Qj (f := (elC h v1 4)) (i := t23) (sz := 4) (j := 0) (vs := [i6 (val (Jk a1 t23)).Id, Xt (val (Jk a1 t23)).Name, (Qu h v1 4 (Int.toNat t23) 2), (Qu h v1 4 (Int.toNat t23) 3)]) Tryz.isAgg32 Tryz.sizeOf32 rfl rfl (f1.frs.row (hw.now hF)) (f1.ix h_t51) (rd_of (J1 (f1.at h_t51)) rfl)) rfl rfl<|dm v0<|dm v0<|dm (i6 t46)<|?_
       have h_t56 := Jr H164
       have H165 := Jn H164
       refine Uk (fun w L' hF hS hi => k52 (Jp w) (f0.mono (hw.now hF)) h_t56) Tryz.call52 rfl rfl ?_
       have h_t57 := Jr H165
       have H166 := Jn H165
       refine Qa rfl rfl (Qe Tryz.underlying22 Tryz.sizeOf52 rfl rfl f0 h_t57)<|Qa rfl rfl (Xv Tryz.runUnderlying52 rfl Tryz.sizeOf3 rfl rfl (Ym f0 h_t57))<|Wb (fun w hF => J2 (f := Jq) (i := (val (Qb a0 t46))) (sz := 14) (j := 1) (v := i6 (val (Jk a0 (val (Qb a0 t46)))).Photo) Tryz.isAgg3 rfl rfl (f0.row (hw.now hF)) h_t57 rfl) rfl rfl<|?_
       have h_t60 := Jr H166
       have H167 := Jn H166
       refine Uk (fun w L' hF hS hi => k59 (Jp w) (f0.mono (hw.now hF)) ((show FrS h 1 (Qu h v1 4 (Int.toNat t23) 2) ((val (Jk a1 t23)).Likes.map Jl) from (Jm (f1.at h_t51))).mono (hw.now hF)) ((show FrS h 1 (Qu h v1 4 (Int.toNat t23) 3) ((val (Jk a1 t23)).Nots.map Jl) from (Jt (f1.at h_t51))).mono (hw.now hF)) h_t60) Tryz.call59 rfl rfl<|Y3<|?_
       refine Qm (b := (val (Wg a0 (val (Jk a1 t23)) (val (Jk a0 (val (Qb a0 t46)))).Photo))) rfl (fun hb => ?_) (fun hb => ?_)
       ·have H168 := Jw hb H167; clear H167
        refine Jc<|Ja<|ag (.slice none 0 0)<|ag (i6 11)<|Jd<|Jy<|Q9 32 4<|?_
        obtain rfl := Option.some.inj H168
        refine Xc 1 rfl (Zs _ _ _ _ _)<|Yp 0 1 rfl rfl (by decide)<|Xc 0 rfl (Zc (k := false) (p := nn) rfl (fun h => nomatch h) (AllC.nil (G := g_face_Person) (h := Yo) (sz := 4)))<|?_
        refine Vz (v1 := sl nn (([] : List (List Value)).length)) (v2 := i6 11) rfl rfl rfl (Zb nn (i := 0) rfl (by first | rfl | rw [(show (([] : List (List Value)).length) = ([] : List T_face_Person).length from (AllC.nil (G := g_face_Person) (h := Yo) (sz := 4)).len)]) (by first | exact Imp.refl _ | exact Imp.of (by rw [(show (([] : List (List Value)).length) = ([] : List T_face_Person).length from (AllC.nil (G := g_face_Person) (h := Yo) (sz := 4)).len)])))
       ·have H169 := Jx hb H167; clear H167
        refine Jv<|Ja<|?_
        obtain ⟨t61, h_t61, H170⟩ := Je H169; clear H169
        refine Jf rfl rfl rfl (Qp rfl rfl h_t61)<|mv (i6 t61)<|Jd<|?_
        refine Js t61 () m8 [0] (by exact ⟨rfl, rfl, rfl, rfl, rfl, rfl, rfl, trivial⟩) (by decide) rfl (by exact ⟨(by subst hn8; exact H170), trivial⟩) (Nat.lt_succ_self _)
       ) (by kernel_rfl)
     ·have H171 := Jx hb H161; clear H161
      refine Q3 ?_
      refine Js () () 0 [0] (by exact ⟨rfl, rfl, rfl, trivial⟩) (by decide) rfl (by exact ⟨H171, trivial⟩) (Nat.lt_succ_self _)
    ·rintro _ _ gg H123 _
     try dsimp only at H123
     try dsimp only
     refine Jc<|Ja<|mv v1<|?_
     obtain ⟨t63, h_t63, H124⟩ := Je H123; clear H123
     refine Yk (J8 (rds := []) (G := fun x : (Option Addr × Nat) => sl x t63.length) (C := fun x : (Option Addr × Nat) => rowD 32 4 g_face_Person (sl x t63.length) t63.length t63) (fun w L' hF hS hi => k60 (Jp w) (f1.mono (hw.now hF)) h_t63) Tryz.call60 rfl) rfl rfl rfl (fun p => ?_)
     refine c_rowD 1 rfl (fun hp css hn pf => ?_)
     rw [hn]
     refine V7 1 rfl ?_
     refine Yv 0 1 rfl rfl (by decide) (fun _ _ => Qo) (fun hp_2 hle hle_2 => ?_)
     refine ag (sl p css.length)<|Jd<|?_
     try dsimp only [z1, z2, z5, z6, z7, z8]
     refine Xf (r := r) (σ := (List T_face_Person)) (τ := Qg × (List (List Value)) × (Option Addr × Nat)) (fun s => Jcy a1 t23 t26 s) (fun s t => [(1, v1), (10, i6 t23), (11, i6 t26), (14, .slice t.2.2.1 t.2.1.length t.2.2.2)]) (fun s t => [Yx Yo t.1, J5 32 4 (.slice t.2.2.1 t.2.1.length t.2.2.2) t.2.1.length (t.2.1.map idC)]) (fun s t => AllC g_face_Person t.1 4 t.2.1 s) ?_ ?_
     ·refine Jc<|Ja<|mv v1<|mv (i6 t26)<|?_
      obtain ⟨t66, h_t66, H150⟩ := Je H124; clear H124
      refine Jf rfl rfl rfl (Qe Tryz.underlying23 Tryz.sizeOf32 rfl rfl f1.frs (f1.ix h_t66))<|Jf rfl rfl rfl (Xv Tryz.runUnderlying32 rfl Tryz.sizeOf24 rfl rfl (Ym f1.frs (f1.ix h_t66)))<|J9 (fun w hF hS => J2 (f := (elC h v1 4)) (i := t26) (sz := 4) (j := 2) (v := (Qu h v1 4 (Int.toNat t26) 2)) Tryz.isAgg24 rfl rfl (f1.frs.row (hw.now hF)) (f1.ix h_t66) (V4 (J1 (f1.at h_t66)) rfl)) rfl rfl rfl<|Jf rfl rfl rfl (Y0 Tryz.underlying24 rfl (show FrS h 1 (Qu h v1 4 (Int.toNat t26) 2) (t66.Likes.map Jl) from (Jm (f1.at h_t66))) rfl)<|mv (i6 0)<|Jd<|?_
      try dsimp only [z1, z2, z5, z6, z7, z8]
      refine Ju<|c_dr 1<|?_
      try dsimp only [z1, z2, z3, z4, z5, z6, z7, z8]
      refine X6 (σ := Int × (List T_face_Person)) (τ := Qg × (List (List Value)) × (Option Addr × Nat)) (fun next7 s => U1 a1 t23 t26 t66 next7 s.1 s.2) (fun s t => [(1, v1), (10, i6 t23), (11, i6 t26), (14, .slice t.2.2.1 t.2.1.length t.2.2.2), (68, (Qu h v1 4 (Int.toNat t26) 2)), (69, i6 (t66.Likes.length : Int)), (70, i6 s.1)]) (fun s t => [Yx Yo t.1, J5 32 4 (.slice t.2.2.1 t.2.1.length t.2.2.2) t.2.1.length (t.2.1.map idC)]) (fun s t => AllC g_face_Person t.1 4 t.2.1 s.2) (0, t63) (hp_2, css, p) [0, 1] H150 (by exact (pf.mono hle_2)) (by exact ⟨rfl, rfl, rfl, rfl, rfl, rfl, rfl, trivial⟩) (by decide) rfl ?_
      rintro ⟨x70_2, l_9⟩ ⟨hp_10, css_7, p_9⟩ m7 gg H151 pf_13
      clear H150
      try dsimp only at H151
      generalize hn7 : it (fun next7 s => U1 a1 t23 t26 t66 next7 s.1 s.2) m7 = next7 at H151
      try dsimp only
      refine Jc<|Ja<|Jf rfl rfl rfl (Q0 rfl rfl)<|Jd<|Jc<|?_
      refine Qm (b := (decide (x70_2 < (t66.Likes.length : Int)))) rfl (fun hb => ?_) (fun hb => ?_)
      ·have H152 := Jw hb H151; clear H151
       refine Jv<|Jc<|Ju<|Jc<|Ja<|?_
       obtain ⟨t72, h_t72, H153⟩ := Je H152; clear H152
       refine Jf rfl rfl rfl (Qe Tryz.underlying24 Tryz.sizeOf3 rfl rfl (show FrS h 1 (Qu h v1 4 (Int.toNat t26) 2) (t66.Likes.map Jl) from (Jm (f1.at h_t66))) h_t72)<|J9 (fun w hF hS => J2 (f := Jl) (i := x70_2) (sz := 1) (j := 0) (v := i6 t72) Tryz.isAgg3 rfl rfl ((show FrS h 1 (Qu h v1 4 (Int.toNat t26) 2) (t66.Likes.map Jl) from (Jm (f1.at h_t66))).row (hw.now hF)) h_t72 rfl) rfl rfl rfl<|ag (i6 t72)<|Jd<|Ja<|mv (sl p_9 css_7.length)<|mv (i6 t23)<|mv (sl p_9 css_7.length)<|mv (i6 t23)<|?_
       obtain ⟨t78, h_t78, H154⟩ := Je H153; clear H153
       refine J9 (fun w hF hS => J3 Tryz.underlying23 Tryz.sizeOf32 rfl rfl (Qy (i := 1) hS rfl) rfl (pf_13.ix h_t78)) rfl rfl rfl ?_
       refine Zq (fun w hF hS => someOf (i := 1) hS rfl (pf_13.ix h_t78)) (fun hs_6 => ?_)
       refine Jf rfl rfl rfl (Xv Tryz.runUnderlying32 rfl Tryz.sizeOf24 rfl rfl hs_6)<|J9 (fun w hF hS => J2 (f := idC) (i := t23) (sz := 4) (j := 2) (v := (List.getD (List.getD css_7 (Int.toNat t23) []) 2 undef)) Tryz.isAgg24 rfl rfl (Qy (i := 1) hS rfl) (pf_13.ix h_t78) (V4 ((pf_13.eta h_t78).trans (J1 (pf_13.at h_t78))) rfl)) rfl rfl rfl<|mv (i6 t72)<|?_
       obtain ⟨t82, h_t82, H155⟩ := Je H154; clear H154
       refine Yk (J8 (rds := [0]) (G := fun x : (Option Addr × Nat) => sl x t82.length) (C := fun x : (Option Addr × Nat) => roH hp_10 1 (sl x t82.length) t82.length (t82.map Jl)) (fun w L' hF hS hi => k61 (h := hp_10) (know_pool (i := 0) hS ((hi 0 (by simp)).trans rfl) Qo) (show FrS hp_10 1 (List.getD (List.getD css_7 (Int.toNat t23) []) 2 undef) (t78.Likes.map Jl) from (Jm (pf_13.at h_t78))) h_t82) Tryz.call61 rfl) rfl rfl rfl (fun p_10 => ?_)
       obtain ⟨t83, h_t83, H156⟩ := Je H155; clear H155
       refine J9 (fun w hF hS => J3 Tryz.underlying23 Tryz.sizeOf32 rfl rfl (Qy (i := 1) hS rfl) rfl (pf_13.ix h_t83)) rfl rfl rfl ?_
       refine Zq (fun w hF hS => someOf (i := 1) hS rfl (pf_13.ix h_t83)) (fun hs_7 => ?_)
       refine Jf rfl rfl rfl (Xv Tryz.runUnderlying32 rfl Tryz.sizeOf24 rfl rfl hs_7) ?_
       refine Yq (Φ := fun H_ => FrS H_ 1 (sl p_10 t82.length) (t82.map Jl)) 0 2 rfl rfl (by decide) (fun _ _ => Qo) (fz_roh _ (fun _ _ h_ => h_)) (fun hp_11 hle_5 hf_3 => ?_)
       obtain ⟨l1_3, h_l1_3, H157⟩ := Je H156; clear H156
       refine Jb4 (turns_storeV (q := 1) (j := 2) (i := t23) (sz := 4) (x := (sl p_10 t82.length)) (css := css_7) (xe := t83) rfl (pf_13.mono hle_5).len Tryz.sizeOf24 rfl rfl rfl rfl rfl rfl rfl h_t83) rfl rfl (fun _ => ?_)
       have pf_14 : AllC g_face_Person hp_11 4 (setR css_7 t23 2 (sl p_10 t82.length)) l1_3 := AllC.setR (pf_13.mono hle_5) h_t83 h_l1_3 rfl (by obtain ⟨q0_, q1_, q2_, q3_⟩ := (pf_13.mono hle_5).at h_t83; exact ⟨q0_, q1_, hf_3, q3_⟩)
       refine Jd ?_
       try dsimp only [z1, z2, z5, z6, z7, z8]
       refine Ja ?_
       obtain ⟨t85, h_t85, H158⟩ := Je H157; clear H157
       refine Jf rfl rfl rfl (Qp rfl rfl h_t85)<|mv (i6 t85)<|Jd<|?_
       try dsimp only [z1, z2, z5, z6, z7, z8]
       rw [show css_7.length = (setR css_7 t23 2 (sl p_10 t82.length)).length from (rfl.trans (Qt _ _ _ _).symm)]
       refine Js (t85, l1_3) (hp_11, (setR css_7 t23 2 (sl p_10 t82.length)), p_9) m7 [0, 1] (by exact ⟨rfl, rfl, rfl, rfl, rfl, rfl, rfl, trivial⟩) (by decide) rfl (by exact ⟨(by subst hn7; exact H158), pf_14⟩) (Nat.lt_succ_self _)
      ·have H159 := Jx hb H151; clear H151
       refine Q3 ?_
       refine Js l_9 (hp_10, css_7, p_9) 0 [0, 1] (by exact ⟨rfl, rfl, rfl, rfl, trivial⟩) (by decide) rfl (by exact ⟨H159, pf_13⟩) (Nat.lt_succ_self _)
     ·rintro l ⟨hp_3, css_2, p_2⟩ gg H125 pf_2
      try dsimp only at H125
      try dsimp only
      refine Xf (r := r) (σ := (List T_face_Person)) (τ := Qg × (List (List Value)) × (Option Addr × Nat)) (fun s => Jcw t23 t26 s) (fun s t => [(10, i6 t23), (11, i6 t26), (14, .slice t.2.2.1 t.2.1.length t.2.2.2)]) (fun s t => [Yx Yo t.1, J5 32 4 (.slice t.2.2.1 t.2.1.length t.2.2.2) t.2.1.length (t.2.1.map idC)]) (fun s t => AllC g_face_Person t.1 4 t.2.1 s) ?_ ?_
      ·refine Jc<|Ja<|mv v1<|mv (i6 t26)<|?_
       obtain ⟨t88, h_t88, H140⟩ := Je H125; clear H125
       refine Jf rfl rfl rfl (Qe Tryz.underlying23 Tryz.sizeOf32 rfl rfl f1.frs (f1.ix h_t88))<|Jf rfl rfl rfl (Xv Tryz.runUnderlying32 rfl Tryz.sizeOf24 rfl rfl (Ym f1.frs (f1.ix h_t88)))<|J9 (fun w hF hS => J2 (f := (elC h v1 4)) (i := t26) (sz := 4) (j := 3) (v := (Qu h v1 4 (Int.toNat t26) 3)) Tryz.isAgg24 rfl rfl (f1.frs.row (hw.now hF)) (f1.ix h_t88) (V4 (J1 (f1.at h_t88)) rfl)) rfl rfl rfl<|Jf rfl rfl rfl (Y0 Tryz.underlying24 rfl (show FrS h 1 (Qu h v1 4 (Int.toNat t26) 3) (t88.Nots.map Jl) from (Jt (f1.at h_t88))) rfl)<|mv (i6 0)<|Jd<|Ju<|?_
       refine X6 (σ := Int × (List T_face_Person)) (τ := Qg × (List (List Value)) × (Option Addr × Nat)) (fun next6 s => U3 t23 t26 t88 next6 s.1 s.2) (fun s t => [(10, i6 t23), (11, i6 t26), (14, .slice t.2.2.1 t.2.1.length t.2.2.2), (90, (Qu h v1 4 (Int.toNat t26) 3)), (91, i6 (t88.Nots.length : Int)), (92, i6 s.1)]) (fun s t => [Yx Yo t.1, J5 32 4 (.slice t.2.2.1 t.2.1.length t.2.2.2) t.2.1.length (t.2.1.map idC)]) (fun s t => AllC g_face_Person t.1 4 t.2.1 s.2) (0, l) (hp_3, css_2, p_2) [0, 1] H140 (by exact pf_2) (by exact ⟨rfl, rfl, rfl, rfl, rfl, rfl, trivial⟩) (by decide) rfl ?_
       rintro ⟨x92_2, l_7⟩ ⟨hp_8, css_6, p_7⟩ m6 gg H141 pf_10
       clear H140
       try dsimp only at H141
       generalize hn6 : it (fun next6 s => U3 t23 t26 t88 next6 s.1 s.2) m6 = next6 at H141
       try dsimp only
       refine Jc<|Ja<|Jf rfl rfl rfl (Q0 rfl rfl)<|Jd<|Jc<|?_
       refine Qm (b := (decide (x92_2 < (t88.Nots.length : Int)))) rfl (fun hb => ?_) (fun hb => ?_)
       ·have H142 := Jw hb H141; clear H141
        refine Jv<|Jc<|Ju<|Jc<|Ja<|?_
        obtain ⟨t94, h_t94, H143⟩ := Je H142; clear H142
        refine Jf rfl rfl rfl (Qe Tryz.underlying24 Tryz.sizeOf3 rfl rfl (show FrS h 1 (Qu h v1 4 (Int.toNat t26) 3) (t88.Nots.map Jl) from (Jt (f1.at h_t88))) h_t94)<|J9 (fun w hF hS => J2 (f := Jl) (i := x92_2) (sz := 1) (j := 0) (v := i6 t94) Tryz.isAgg3 rfl rfl ((show FrS h 1 (Qu h v1 4 (Int.toNat t26) 3) (t88.Nots.map Jl) from (Jt (f1.at h_t88))).row (hw.now hF)) h_t94 rfl) rfl rfl rfl<|ag (i6 t94)<|Jd<|Ja<|mv (sl p_7 css_6.length)<|mv (i6 t23)<|mv (sl p_7 css_6.length)<|mv (i6 t23)<|?_
        obtain ⟨t100, h_t100, H144⟩ := Je H143; clear H143
        refine J9 (fun w hF hS => J3 Tryz.underlying23 Tryz.sizeOf32 rfl rfl (Qy (i := 1) hS rfl) rfl (pf_10.ix h_t100)) rfl rfl rfl ?_
        refine Zq (fun w hF hS => someOf (i := 1) hS rfl (pf_10.ix h_t100)) (fun hs_4 => ?_)
        refine Jf rfl rfl rfl (Xv Tryz.runUnderlying32 rfl Tryz.sizeOf24 rfl rfl hs_4)<|J9 (fun w hF hS => J2 (f := idC) (i := t23) (sz := 4) (j := 3) (v := (List.getD (List.getD css_6 (Int.toNat t23) []) 3 undef)) Tryz.isAgg24 rfl rfl (Qy (i := 1) hS rfl) (pf_10.ix h_t100) (V4 ((pf_10.eta h_t100).trans (J1 (pf_10.at h_t100))) rfl)) rfl rfl rfl<|mv (i6 t94)<|?_
        obtain ⟨t104, h_t104, H145⟩ := Je H144; clear H144
        refine Yk (J8 (rds := [0]) (G := fun x : (Option Addr × Nat) => sl x t104.length) (C := fun x : (Option Addr × Nat) => roH hp_8 1 (sl x t104.length) t104.length (t104.map Jl)) (fun w L' hF hS hi => k61 (h := hp_8) (know_pool (i := 0) hS ((hi 0 (by simp)).trans rfl) Qo) (show FrS hp_8 1 (List.getD (List.getD css_6 (Int.toNat t23) []) 3 undef) (t100.Nots.map Jl) from (Jt (pf_10.at h_t100))) h_t104) Tryz.call61 rfl) rfl rfl rfl (fun p_8 => ?_)
        obtain ⟨t105, h_t105, H146⟩ := Je H145; clear H145
        refine J9 (fun w hF hS => J3 Tryz.underlying23 Tryz.sizeOf32 rfl rfl (Qy (i := 1) hS rfl) rfl (pf_10.ix h_t105)) rfl rfl rfl ?_
        refine Zq (fun w hF hS => someOf (i := 1) hS rfl (pf_10.ix h_t105)) (fun hs_5 => ?_)
        refine Jf rfl rfl rfl (Xv Tryz.runUnderlying32 rfl Tryz.sizeOf24 rfl rfl hs_5) ?_
        refine Yq (Φ := fun H_ => FrS H_ 1 (sl p_8 t104.length) (t104.map Jl)) 0 2 rfl rfl (by decide) (fun _ _ => Qo) (fz_roh _ (fun _ _ h_ => h_)) (fun hp_9 hle_4 hf_2 => ?_)
        obtain ⟨l1_2, h_l1_2, H147⟩ := Je H146; clear H146
        refine Jb4 (turns_storeV (q := 1) (j := 3) (i := t23) (sz := 4) (x := (sl p_8 t104.length)) (css := css_6) (xe := t105) rfl (pf_10.mono hle_4).len Tryz.sizeOf24 rfl rfl rfl rfl rfl rfl rfl h_t105) rfl rfl (fun _ => ?_)
        have pf_11 : AllC g_face_Person hp_9 4 (setR css_6 t23 3 (sl p_8 t104.length)) l1_2 := AllC.setR (pf_10.mono hle_4) h_t105 h_l1_2 rfl (by obtain ⟨q0_, q1_, q2_, q3_⟩ := (pf_10.mono hle_4).at h_t105; exact ⟨q0_, q1_, q2_, hf_2⟩)
        refine Jd ?_
        try dsimp only [z1, z2, z5, z6, z7, z8]
        refine Ja ?_
        obtain ⟨t107, h_t107, H148⟩ := Je H147; clear H147
        refine Jf rfl rfl rfl (Qp rfl rfl h_t107)<|mv (i6 t107)<|Jd<|?_
        try dsimp only [z1, z2, z5, z6, z7, z8]
        rw [show css_6.length = (setR css_6 t23 3 (sl p_8 t104.length)).length from (rfl.trans (Qt _ _ _ _).symm)]
        refine Js (t107, l1_2) (hp_9, (setR css_6 t23 3 (sl p_8 t104.length)), p_7) m6 [0, 1] (by exact ⟨rfl, rfl, rfl, rfl, rfl, rfl, trivial⟩) (by decide) rfl (by exact ⟨(by subst hn6; exact H148), pf_11⟩) (Nat.lt_succ_self _)
       ·have H149 := Jx hb H141; clear H141
        refine Q3 ?_
        refine Js l_7 (hp_8, css_6, p_7) 0 [0, 1] (by exact ⟨rfl, rfl, rfl, trivial⟩) (by decide) rfl (by exact ⟨H149, pf_10⟩) (Nat.lt_succ_self _)
      ·rintro l_2 ⟨hp_4, css_3, p_3⟩ gg H126 pf_3
       try dsimp only at H126
       try dsimp only
       refine Xf (r := r) (σ := (List T_face_Person)) (τ := Qg × (List (List Value)) × (Option Addr × Nat)) (fun s => Jck t26 s) (fun s t => [(11, i6 t26), (14, .slice t.2.2.1 t.2.1.length t.2.2.2)]) (fun s t => [Yx Yo t.1, J5 32 4 (.slice t.2.2.1 t.2.1.length t.2.2.2) t.2.1.length (t.2.1.map idC)]) (fun s t => AllC g_face_Person t.1 4 t.2.1 s) ?_ ?_
       ·refine Jc<|Ja<|mv (sl p_3 css_3.length)<|mv (i6 t23)<|?_
        obtain ⟨t110, h_t110, H130⟩ := Je H126; clear H126
        refine J9 (fun w hF hS => J3 Tryz.underlying23 Tryz.sizeOf32 rfl rfl (Qy (i := 1) hS rfl) rfl (pf_3.ix h_t110)) rfl rfl rfl ?_
        refine Zq (fun w hF hS => someOf (i := 1) hS rfl (pf_3.ix h_t110)) (fun hs => ?_)
        refine Jf rfl rfl rfl (Xv Tryz.runUnderlying32 rfl Tryz.sizeOf24 rfl rfl hs)<|J9 (fun w hF hS => J2 (f := idC) (i := t23) (sz := 4) (j := 2) (v := (List.getD (List.getD css_3 (Int.toNat t23) []) 2 undef)) Tryz.isAgg24 rfl rfl (Qy (i := 1) hS rfl) (pf_3.ix h_t110) (V4 ((pf_3.eta h_t110).trans (J1 (pf_3.at h_t110))) rfl)) rfl rfl rfl<|Jf rfl rfl rfl (Y0 Tryz.underlying24 rfl (show FrS hp_4 1 (List.getD (List.getD css_3 (Int.toNat t23) []) 2 undef) (t110.Likes.map Jl) from (Jm (pf_3.at h_t110))) rfl)<|mv (i6 0)<|Jd<|Ju<|?_
        refine X6 (σ := (List Int) × Int × (List T_face_Person)) (τ := Qg × Value × (List (List Value)) × (Option Addr × Nat)) (fun next5 s => U8 t23 t26 t110 next5 s.1 s.2.1 s.2.2) (fun s t => [(10, i6 t23), (11, i6 t26), (14, .slice t.2.2.2.1 t.2.2.1.length t.2.2.2.2), (112, t.2.1), (113, i6 (t110.Likes.length : Int)), (114, i6 s.2.1)]) (fun s t => [Yx Yo t.1, J5 32 4 (.slice t.2.2.2.1 t.2.2.1.length t.2.2.2.2) t.2.2.1.length (t.2.2.1.map idC)]) (fun s t => FrS t.1 1 t.2.1 (s.1.map Jl) ∧ AllC g_face_Person t.1 4 t.2.2.1 s.2.2) (t110.Likes, 0, l_2) (hp_4, (List.getD (List.getD css_3 (Int.toNat t23) []) 2 undef), css_3, p_3) [0, 1] H130 (by exact ⟨(show FrS hp_4 1 (List.getD (List.getD css_3 (Int.toNat t23) []) 2 undef) (t110.Likes.map Jl) from (Jm (pf_3.at h_t110))), pf_3⟩) (by exact ⟨rfl, rfl, rfl, rfl, rfl, rfl, trivial⟩) (by decide) rfl ?_
        rintro ⟨x112_2, x114_2, l_5⟩ ⟨hp_6, gv, css_5, p_5⟩ m5 gg H131 ⟨gf_2, pf_7⟩
        clear H130
        try dsimp only at H131
        generalize hn5 : it (fun next5 s => U8 t23 t26 t110 next5 s.1 s.2.1 s.2.2) m5 = next5 at H131
        try dsimp only
        refine Jc<|Ja<|Jf rfl rfl rfl (Q0 rfl rfl)<|Jd<|Jc<|?_
        refine Qm (b := (decide (x114_2 < (t110.Likes.length : Int)))) rfl (fun hb => ?_) (fun hb => ?_)
        ·have H132 := Jw hb H131; clear H131
         refine Jv<|Jc<|Ju<|Jc<|Ja<|?_
         obtain ⟨t116, h_t116, H133⟩ := Je H132; clear H132
         refine Jf rfl rfl rfl (Qe Tryz.underlying24 Tryz.sizeOf3 rfl rfl gf_2 h_t116)<|J9 (fun w hF hS => J2 (f := Jl) (i := x114_2) (sz := 1) (j := 0) (v := i6 t116) Tryz.isAgg3 rfl rfl (gf_2.row (Xi (i := 0) hS rfl Qo)) h_t116 rfl) rfl rfl rfl<|ag (i6 t116)<|Jd<|Ja<|mv (sl p_5 css_5.length)<|mv (i6 t23)<|mv (sl p_5 css_5.length)<|mv (i6 t23)<|?_
         obtain ⟨t122, h_t122, H134⟩ := Je H133; clear H133
         refine J9 (fun w hF hS => J3 Tryz.underlying23 Tryz.sizeOf32 rfl rfl (Qy (i := 1) hS rfl) rfl (pf_7.ix h_t122)) rfl rfl rfl ?_
         refine Zq (fun w hF hS => someOf (i := 1) hS rfl (pf_7.ix h_t122)) (fun hs_2 => ?_)
         refine Jf rfl rfl rfl (Xv Tryz.runUnderlying32 rfl Tryz.sizeOf24 rfl rfl hs_2)<|J9 (fun w hF hS => J2 (f := idC) (i := t23) (sz := 4) (j := 3) (v := (List.getD (List.getD css_5 (Int.toNat t23) []) 3 undef)) Tryz.isAgg24 rfl rfl (Qy (i := 1) hS rfl) (pf_7.ix h_t122) (V4 ((pf_7.eta h_t122).trans (J1 (pf_7.at h_t122))) rfl)) rfl rfl rfl<|mv (i6 t116)<|?_
         obtain ⟨t126, h_t126, H135⟩ := Je H134; clear H134
         refine Yk (J8 (rds := [0]) (G := fun x : (Option Addr × Nat) => sl x t126.length) (C := fun x : (Option Addr × Nat) => J5 3 1 (sl x t126.length) t126.length (t126.map Jl)) (fun w L' hF hS hi => k62 (Jp w) ((show FrS hp_6 1 (List.getD (List.getD css_5 (Int.toNat t23) []) 3 undef) (t122.Nots.map Jl) from (Jt (pf_7.at h_t122))).mono (Xi (i := 0) hS ((hi 0 (by simp)).trans rfl) Qo)) h_t126) Tryz.call62 rfl) rfl rfl rfl (fun p_6 => ?_)
         obtain ⟨t127, h_t127, H136⟩ := Je H135; clear H135
         refine J9 (fun w hF hS => J3 Tryz.underlying23 Tryz.sizeOf32 rfl rfl (Qy (i := 1) hS rfl) rfl (pf_7.ix h_t127)) rfl rfl rfl ?_
         refine Zq (fun w hF hS => someOf (i := 1) hS rfl (pf_7.ix h_t127)) (fun hs_3 => ?_)
         refine Jf rfl rfl rfl (Xv Tryz.runUnderlying32 rfl Tryz.sizeOf24 rfl rfl hs_3) ?_
         refine Yq (Φ := fun H_ => FrS H_ 1 (sl p_6 t126.length) (t126.map Jl)) 0 2 rfl rfl (by decide) (fun _ _ => Qo) (fz_own _) (fun hp_7 hle_3 hf => ?_)
         obtain ⟨l1, h_l1, H137⟩ := Je H136; clear H136
         refine Jb4 (turns_storeV (q := 1) (j := 3) (i := t23) (sz := 4) (x := (sl p_6 t126.length)) (css := css_5) (xe := t127) rfl (pf_7.mono hle_3).len Tryz.sizeOf24 rfl rfl rfl rfl rfl rfl rfl h_t127) rfl rfl (fun _ => ?_)
         have pf_8 : AllC g_face_Person hp_7 4 (setR css_5 t23 3 (sl p_6 t126.length)) l1 := AllC.setR (pf_7.mono hle_3) h_t127 h_l1 rfl (by obtain ⟨q0_, q1_, q2_, q3_⟩ := (pf_7.mono hle_3).at h_t127; exact ⟨q0_, q1_, q2_, hf⟩)
         refine Jd ?_
         try dsimp only [z1, z2, z5, z6, z7, z8]
         refine Ja ?_
         obtain ⟨t129, h_t129, H138⟩ := Je H137; clear H137
         refine Jf rfl rfl rfl (Qp rfl rfl h_t129)<|mv (i6 t129)<|Jd<|?_
         try dsimp only [z1, z2, z5, z6, z7, z8]
         rw [show css_5.length = (setR css_5 t23 3 (sl p_6 t126.length)).length from (rfl.trans (Qt _ _ _ _).symm)]
         refine Js (x112_2, t129, l1) (hp_7, gv, (setR css_5 t23 3 (sl p_6 t126.length)), p_5) m5 [0, 1] (by exact ⟨rfl, rfl, rfl, rfl, rfl, rfl, trivial⟩) (by decide) rfl (by exact ⟨(by subst hn5; exact H138), ⟨(gf_2.mono hle_3), pf_8⟩⟩) (Nat.lt_succ_self _)
        ·have H139 := Jx hb H131; clear H131
         refine Q3 ?_
         refine Js l_5 (hp_6, css_5, p_5) 0 [0, 1] (by exact ⟨rfl, rfl, trivial⟩) (by decide) rfl (by exact ⟨H139, pf_7⟩) (Nat.lt_succ_self _)
       ·rintro l_3 ⟨hp_5, css_4, p_4⟩ gg H127 pf_4
        try dsimp only at H127
        try dsimp only
        refine Jc<|Ja<|mv (sl p_4 css_4.length)<|mv (i6 t26)<|mv (i6 t26)<|?_
        obtain ⟨t133, h_t133, H128⟩ := Je H127; clear H127
        refine Jf rfl rfl rfl (Qp rfl rfl h_t133)<|Xc 1 rfl (Zs _ _ _ _ _)<|?_
        obtain ⟨t134, h_t134, H129⟩ := Je H128; clear H128
        obtain ⟨hg, pf_5⟩ := pf_4.del h_t134
        refine Y7 (Xj (i := 1) (rds := []) (G := fun _ : Unit => sl p_4 (delL css_4 t26 t133).length) (C := fun _ : Unit => Vn 32 4 (sl p_4 (delL css_4 t26 t133).length) (delL css_4 t26 t133).length ((delL css_4 t26 t133).map idC)) rfl (fun w L' S hF hS hi hp hlt ho hA => k48 (p0 := p_4) hp hlt (Y4 w S) rfl (AllC.ones pf_4 (fun c_ x_ f_ => by obtain ⟨q0_, q1_, q2_, q3_⟩ := f_; exact fun j_ hj_ => match j_, hj_ with | 0, _ => (by rw [q0_]; rfl) | 1, _ => (by rw [q1_]; rfl) | 2, _ => (show FrS _ _ _ _ from q2_).one | 3, _ => (show FrS _ _ _ _ from q3_).one)) hg) Tryz.call48 rfl) rfl rfl rfl (fun _ => ?_)
        refine ag (sl p_4 ((delL css_4 t26 t133).length))<|ag (i6 0)<|Jd<|Jy<|?_
        obtain rfl := Option.some.inj H129
        refine Yp 0 1 rfl rfl (by decide)<|Xc 0 rfl (Zc (k := false) (p := p_4) rfl (fun h => nomatch h) pf_5)<|?_
        refine Vz (v1 := sl p_4 ((delL css_4 t26 t133).length)) (v2 := i6 0) rfl rfl rfl (Zb p_4 (i := 0) rfl (by first | rfl | rw [(show ((delL css_4 t26 t133).length) = t134.length from pf_5.len)]) (by first | exact Imp.refl _ | exact Imp.of (by rw [(show ((delL css_4 t26 t133).length) = t134.length from pf_5.len)])))
end Go.Proofs.YthhaabhnlndnoaaGreat
