/- FaceTexts, Read: the walks, printed by our generator; each follows its model. Conditions: the model yields a value. -/
import Derived.Test.YtlkaenijicgfcaaGreatDoorKTa
import Derived.Test.YtlkaenijicgfcaaGreatDoorMd
import Derived.Test.YtlkaenijicgfcaaGreatDoorLx2
import Derived.Lib.LaidTab
import Derived.MakeChecks
import Derived.ProofKit
import Derived.OpenShut
import Derived.ChangeArms
import Derived.DataReads
namespace Go.Proofs.YtlkaenijicgfcaaGreatDoor
open Go Go.Vc Go.Md Go.M Go.Lx Tryz
set_option maxRecDepth 100000
set_option maxHeartbeats 4000000
set_option linter.unusedVariables false
theorem k26 {a0 : (Nat → Int)} {r : Int} (H : Jdi a0 = some r) : Ret prog 26 [.agg #[i6 (a0 0), i6 (a0 1), i6 (a0 2), i6 (a0 3), i6 (a0 4), i6 (a0 5), i6 (a0 6), i6 (a0 7), i6 (a0 8), i6 (a0 9), i6 (a0 10), i6 (a0 11)]] (i6 r) := by
 refine J7 (n := 16) func26 rfl rfl rfl (fun wd => ?_)
 refine Jb<|Ja<|?_
 refine Je8 (cs := [i6 (a0 0), i6 (a0 1), i6 (a0 2), i6 (a0 3), i6 (a0 4), i6 (a0 5), i6 (a0 6), i6 (a0 7), i6 (a0 8), i6 (a0 9), i6 (a0 10), i6 (a0 11)]) rfl rfl rfl rfl (fun b1 => ?_)
 refine ag (i6 0)<|Jc<|Jb<|Jb<|Ja<|Jca (i := 0) (vs := [i6 (a0 0), i6 (a0 1), i6 (a0 2), i6 (a0 3), i6 (a0 4), i6 (a0 5), i6 (a0 6), i6 (a0 7), i6 (a0 8), i6 (a0 9), i6 (a0 10), i6 (a0 11)]) isAgg36 sizeOf36 rfl rfl rfl rfl rfl<|mv (i6 0)<|Jc<|Jl<|c_dr 0<|?_
 try dsimp only [z1, z2, z3, z4, z5, z6, z7, z8]
 refine Xb (σ := Int) (τ := Unit) (fun next1 s => Ut a0 next1 s) (fun s t => [(5, .agg #[i6 (a0 0), i6 (a0 1), i6 (a0 2), i6 (a0 3), i6 (a0 4), i6 (a0 5), i6 (a0 6), i6 (a0 7), i6 (a0 8), i6 (a0 9), i6 (a0 10), i6 (a0 11)]), (6, i6 s)]) (fun s t => []) (fun s t => True) 0 () [] H (by exact trivial) (by exact ⟨rfl, rfl, trivial⟩) (by decide) rfl ?_
 rintro x6_2 _ m1 gg H10 _
 clear H
 try dsimp only at H10
 generalize hn1 : it (fun next1 s => Ut a0 next1 s) m1 = next1 at H10
 try dsimp only
 refine Jb<|Ja<|lv (Qv rfl rfl)<|Jc<|Jb<|?_
 revert H10
 refine ci (decide (x6_2 < 12)) rfl (fun hb H11=>?_) fun hb H18=>?_
 ·refine Jj<|Jb<|Jl<|Jb<|Ja<|?_
  obtain ⟨k8, h_k8, H12⟩ := Je H11; clear H11
  refine lv (r_indexAG (f := fun j_ => i6 (a0 j_)) runUnderlying36 isAgg3 sizeOf3 rfl rfl rfl h_k8)<|ag (i6 (a0 k8))<|Jc<|Jb<|Ja<|mv (i6 (a0 k8))<|lv (Qv rfl rfl)<|mv (.bool (decide ((a0 k8) < (-127))))<|?_
  revert H12
  refine sp (fun hb H13=>?_) fun hb H14=>?_
  ·refine pa<|pa<|pT (.bool true)<|Jc<|Zv rfl<|Jb<|Ja<|ag (i6 2)<|Jc<|Ji<|?_
   obtain rfl := sj H13
   exact r1 (i6 2)
  ·refine mv (i6 (a0 k8))<|lv (Zi rfl rfl)<|pF (.bool (decide (127 < (a0 k8))))<|Jc<|?_
   revert H14
   refine ci (decide (127 < (a0 k8))) rfl (fun hb H15=>?_) fun hb H16=>?_
   ·refine Jb<|Ja<|ag (i6 2)<|Jc<|Ji<|?_
    obtain rfl := sj H15
    exact r1 (i6 2)
   ·refine Jj<|Ja<|?_
    obtain ⟨t15, h_t15, H17⟩ := Je H16; clear H16
    refine lv (Qe rfl rfl h_t15)<|mv (i6 t15)<|Jc<|?_
    exact cl t15 () m1 [] (by exact ⟨(by subst hn1; exact H17), trivial⟩)
 ·refine Qg<|Jb<|Ja<|ag (i6 0)<|Jc<|Ji<|?_
  obtain rfl := sj H18
  exact r1 (i6 0)
theorem k6 {a0 : (List Ta)} {v0 : Value} {r : Int} {w : World} {h : Jt} (hw : Know h w Yt) (f0 : FrS h 14 v0 (a0.map Jg)) (H : Ud a0 = some r) : Does prog 6 (List.toArray [v0]) w (fun v w' => v = (i6 r) ∧ Grow w w') := by
 refine enter (n := 48) func6 rfl rfl rfl Yt [] (Sat.nil _ _)<|Jb<|Ja<|ag (i6 0)<|Jc<|Jb<|Jb<|Ja<|mv v0<|lv (X4 underlying22 rfl f0 rfl)<|lv (Zi rfl rfl)<|Jc<|?_
 revert H
 refine ci (decide (300 < (a0.length : Int))) rfl (fun hb H24=>?_) fun hb H25=>?_
 ·refine Jb<|Ja<|ag (i6 4)<|Jc<|Ji<|?_
  obtain rfl := sj H24
  exact r1 (i6 4)
 ·refine Jj<|Jb<|Jb<|Ja<|mv v0<|lv (X4 underlying22 rfl f0 rfl)<|mv (i6 0)<|Jc<|Jl<|?_
  refine Xb (σ := Int) (τ := Unit) (fun next1 s => U8 a0 next1 s) (fun s t => [(0, v0), (9, v0), (10, i6 (a0.length : Int)), (11, i6 s)]) (fun s t => []) (fun s t => True) 0 () [] H25 (by exact trivial) (by exact ⟨rfl, rfl, rfl, rfl, trivial⟩) (by decide) rfl ?_
  rintro x11_2 _ m1 gg H26 _
  clear H25
  try dsimp only at H26
  generalize hn1 : it (fun next1 s => U8 a0 next1 s) m1 = next1 at H26
  try dsimp only
  refine Jb<|Ja<|lv (Qv rfl rfl)<|Jc<|Jb<|?_
  revert H26
  refine ci (decide (x11_2 < (a0.length : Int))) rfl (fun hb H27=>?_) fun hb H46=>?_
  ·refine Jj<|Jb<|Jl<|Jb<|Ja<|mv (i6 x11_2)<|?_
   obtain ⟨t14, h_t14, H28⟩ := Je H27; clear H27
   refine lv (J4 underlying22 sizeOf38 rfl rfl f0 h_t14)<|Jy (fun w hF hS => X2 (f := Jg) (i := x11_2) (sz := 14) (j := 0) (vs := [i6 t14.Id, i6 t14.Photo, i6 (t14.Vec 0), i6 (t14.Vec 1), i6 (t14.Vec 2), i6 (t14.Vec 3), i6 (t14.Vec 4), i6 (t14.Vec 5), i6 (t14.Vec 6), i6 (t14.Vec 7), i6 (t14.Vec 8), i6 (t14.Vec 9), i6 (t14.Vec 10), i6 (t14.Vec 11)]) isAgg38 sizeOf38 rfl rfl (f0.row (hw.now hF)) h_t14 rfl) rfl rfl rfl<|?_
   refine Z6 (cs := [i6 0, i6 0, i6 0, i6 0, i6 0, i6 0, i6 0, i6 0, i6 0, i6 0, i6 0, i6 0, i6 0, i6 0]) zeroValue38 rfl rfl rfl (fun b1 => ?_)
   refine ag (i6 x11_2)<|st (i := 0) [i6 t14.Id, i6 t14.Photo, i6 (t14.Vec 0), i6 (t14.Vec 1), i6 (t14.Vec 2), i6 (t14.Vec 3), i6 (t14.Vec 4), i6 (t14.Vec 5), i6 (t14.Vec 6), i6 (t14.Vec 7), i6 (t14.Vec 8), i6 (t14.Vec 9), i6 (t14.Vec 10), i6 (t14.Vec 11)] [i6 t14.Id, i6 t14.Photo, i6 (t14.Vec 0), i6 (t14.Vec 1), i6 (t14.Vec 2), i6 (t14.Vec 3), i6 (t14.Vec 4), i6 (t14.Vec 5), i6 (t14.Vec 6), i6 (t14.Vec 7), i6 (t14.Vec 8), i6 (t14.Vec 9), i6 (t14.Vec 10), i6 (t14.Vec 11)] sizeOf38 rfl rfl<|Jc<|?_
   refine Qi (r := r) (σ := Bool × Bool) (τ := Unit) (fun s => Wl x11_2 next1 t14 s.1 s.2) (fun s t => [(0, v0), (4, .pointer (some ⟨b1, 0, none⟩)), (9, v0), (10, i6 (a0.length : Int)), (11, i6 x11_2), (22, .pointer (some ⟨b1, 1, none⟩)), (23, i6 t14.Photo), (24, .bool s.1), (25, .bool s.2)]) (fun s t => [Jp b1 [i6 t14.Id, i6 t14.Photo, i6 (t14.Vec 0), i6 (t14.Vec 1), i6 (t14.Vec 2), i6 (t14.Vec 3), i6 (t14.Vec 4), i6 (t14.Vec 5), i6 (t14.Vec 6), i6 (t14.Vec 7), i6 (t14.Vec 8), i6 (t14.Vec 9), i6 (t14.Vec 10), i6 (t14.Vec 11)] 38]) (fun s t => True) ?_ ?_
   ·refine Jl<|Jb<|Ja<|lf runUnderlying38 rfl sizeOf3 rfl<|ll 0 (i6 t14.Id) isAgg3<|?_
    obtain ⟨t19, h_t19, H34⟩ := Je H28; clear H28
    refine Qc (k25 h_t19) call25 rfl rfl rfl<|lv (V8 rfl)<|mv (.bool (!t19))<|?_
    revert H34
    refine sp (fun hb H35=>?_) fun hb H36=>?_
    ·refine pa<|pa<|pa<|pa<|pT (.bool true)<|ag (.bool true)<|Jc<|Zv rfl<|Jb<|Ja<|ag (i6 2)<|Jc<|Ji<|?_
     obtain rfl := sj H35
     exact r1 (i6 2)
    ·refine lf runUnderlying38 rfl sizeOf3 rfl<|ll 0 (i6 t14.Photo) isAgg3<|?_
     obtain ⟨t24, h_t24, H37⟩ := Je H36; clear H36
     refine Qc (k25 h_t24) call25 rfl rfl rfl<|lv (V8 rfl)<|pF (.bool (!t24))<|ag (.bool (!t24))<|Jc<|?_
     revert H37
     refine ci (!t24) rfl (fun hb H38=>?_) fun hb H39=>?_
     ·refine Jb<|Ja<|ag (i6 2)<|Jc<|Ji<|?_
      obtain rfl := sj H38
      exact r1 (i6 2)
     ·refine Jb ?_
      exact Xp (Kd.p :: Kd.p :: Kd.p :: Kd.p :: Kd.d [0] _ :: Kd.p :: Kd.p :: Kd.p :: Kd.p :: Kd.p :: Kd.d [] _ :: Kd.p :: Kd.p :: Kd.p :: []) 0 mixed (by
       refine dm (i6 x11_2)<|dv (Zi rfl rfl)<|dm (.bool (decide (0 < x11_2)))<|?_
       refine Jfu (fun hb => ?_) (fun hb => ?_)
       ·have H40 := Jen hb H39
        refine dv (Ya runUnderlying38 rfl sizeOf3 rfl rfl)<|dl (i6 t14.Id) isAgg3<|dm v0<|dm (i6 x11_2)<|?_
        have h_t35 := Qh H40
        have H41 := J3 H40
        refine dv (Ym rfl rfl h_t35) ?_
        have h_t36 := Qh H41
        have H42 := J3 H41
        refine dv (J4 underlying22 sizeOf38 rfl rfl f0 h_t36)<|dv (Us runUnderlying38 rfl sizeOf3 rfl rfl (Ja7 f0 h_t36))<|Jdy (fun w hF => Ju (f := Jg) (i := (val (gI (x11_2 - 1)))) (sz := 14) (j := 0) (v := i6 (val (Qk a0 (val (gI (x11_2 - 1))))).Id) isAgg3 rfl rfl (f0.row (hw.now hF)) h_t36 rfl) rfl rfl<|dv (Jek rfl rfl)<|dv (Jdo (v := .bool (decide (t14.Id ≤ (val (Qk a0 (val (gI (x11_2 - 1))))).Id))) rfl rfl)<|W6 rfl rfl (Xs (v := .bool (decide (t14.Id ≤ (val (Qk a0 (val (gI (x11_2 - 1))))).Id))) rfl)<|Wk<|?_
        revert H42
        refine ci (decide (t14.Id ≤ (val (Qk a0 (val (gI (x11_2 - 1))))).Id)) rfl (fun hb H43=>?_) fun hb H44=>?_
        ·refine Jb<|Ja<|ag (i6 5)<|Jc<|Ji<|?_
         obtain rfl := sj H43
         exact r1 (i6 5)
        ·refine Jj ?_
         exact cl (t24, (!t24)) () 0 [0] (by exact ⟨H44, trivial⟩)
       ·have H45 := Jei hb H39
        refine dp<|dp<|dp<|dp<|dp<|dp<|dp<|dp<|dp<|dv (Jcv (v := .bool false) rfl rfl)<|W6 rfl rfl (Xs (v := .bool false) rfl)<|Wk<|Zf rfl<|Jj<|?_
        exact cl (t24, (!t24)) () 0 [0] (by exact ⟨H45, trivial⟩)
       ) (by kernel_rfl)
   ·rintro ⟨x24, x25⟩ _ gg H29 _
    try dsimp only at H29
    try dsimp only
    refine Jb<|Ja<|lf runUnderlying38 rfl sizeOf36 rfl<|Jca (i := 0) (vs := [i6 (t14.Vec 0), i6 (t14.Vec 1), i6 (t14.Vec 2), i6 (t14.Vec 3), i6 (t14.Vec 4), i6 (t14.Vec 5), i6 (t14.Vec 6), i6 (t14.Vec 7), i6 (t14.Vec 8), i6 (t14.Vec 9), i6 (t14.Vec 10), i6 (t14.Vec 11)]) isAgg36 sizeOf36 rfl rfl rfl rfl rfl<|?_
    obtain ⟨t43, h_t43, H30⟩ := Je H29; clear H29
    refine Qc (k26 h_t43) call26 rfl rfl rfl<|ag (i6 t43)<|Jc<|Jb<|Ja<|mv (i6 t43)<|lv (Jaj rfl rfl)<|Jc<|?_
    revert H30
    refine ci (decide (t43 ≠ 0)) rfl (fun hb H31=>?_) fun hb H32=>?_
    ·refine Jb<|Ja<|mv (i6 t43)<|ag (i6 t43)<|Jc<|Ji<|?_
     obtain rfl := sj H31
     exact r1 (i6 t43)
    ·refine Jj<|Ja<|?_
     obtain ⟨t47, h_t47, H33⟩ := Je H32; clear H32
     refine lv (Qe rfl rfl h_t47)<|mv (i6 t47)<|Jc<|?_
     exact cl t47 () m1 [] (by exact ⟨(by subst hn1; exact H33), trivial⟩)
  ·refine Qg<|Jb<|Ja<|ag (i6 0)<|Jc<|Ji<|?_
   obtain rfl := sj H46
   exact r1 (i6 0)
theorem k39 {a : Option Addr} {n c : Nat} (hc : n ≤ c) : Ret prog 39 [.slice a n c] (.slice (Yc a 0 n 14) n n) := by
  refine J7 (n := 9) func39 rfl rfl rfl (fun wd => ?_)
  refine Jb<|Ja<|ag (.slice none 0 0)<|Jc<|Jb<|Ja<|mv (.slice a n c)<|mv (.slice a n c)<|lv (Wx underlying22 rfl)<|mv (.slice a n c)<|lv (Wx underlying22 rfl)<|lv (Jfv (a := a) (m := n) (c := c) (h := (n : Int)) (q := (n : Int)) underlying22 sizeOf38 rfl rfl rfl (Int.natCast_nonneg n) (Int.le_refl _) (Int.ofNat_le.2 hc))<|ag (.slice (Yc a 0 n 14) n n)<|Jc<|Ji<|?_
  exact Wm (v := .slice (Yc a 0 n 14) n n) rfl rfl (fin rfl)
theorem k40 {a : Option Addr} {n c : Nat} (hc : n ≤ c) : Ret prog 40 [.slice a n c] (.slice (Yc a 0 n 4) n n) := by
  refine J7 (n := 9) func40 rfl rfl rfl (fun wd => ?_)
  refine Jb<|Ja<|ag (.slice none 0 0)<|Jc<|Jb<|Ja<|mv (.slice a n c)<|mv (.slice a n c)<|lv (Wx underlying23 rfl)<|mv (.slice a n c)<|lv (Wx underlying23 rfl)<|lv (Jfv (a := a) (m := n) (c := c) (h := (n : Int)) (q := (n : Int)) underlying23 sizeOf77 rfl rfl rfl (Int.natCast_nonneg n) (Int.le_refl _) (Int.ofNat_le.2 hc))<|ag (.slice (Yc a 0 n 4) n n)<|Jc<|Ji<|?_
  exact Wm (v := .slice (Yc a 0 n 4) n n) rfl rfl (fin rfl)
theorem k11 {a0 : (List UInt8)} {r : (List Ta) × (List Tb) × Int × Int} {w : World} {h : Jt} (hw : Know h w Yt) (tb_pow10 : TabH prog h "internal/strconv.uint64pow10" .u64 Lib.pow10Tab) (H : Jec a0 = some r) : Does prog 11 (List.toArray [Jk a0]) w (fun v w' => ∃ x : (Option Addr × Nat) × (Option Addr × Nat), v = (.tuple #[.slice x.1.1 r.1.length x.1.2, .slice x.2.1 r.2.1.length x.2.2, i6 r.2.2.1, i6 r.2.2.2]) ∧ Turn w w' Yt (Q5 (roV 14 (.slice x.1.1 r.1.length x.1.2) r.1.length (r.1.map Jg)) (roD 4 g_face_Person (.slice x.2.1 r.2.1.length x.2.2) r.2.1.length r.2.1))) := by
 refine enter (n := 73) func11 rfl rfl rfl Yt [] (Sat.nil _ _)<|Jce Un<|Jb<|Ja<|ag (.slice none 0 0)<|ag (.slice none 0 0)<|ag (i6 0)<|ag (i6 0)<|Jc<|Jb<|Jb<|Ja<|mv (Jk a0)<|lv (Q2 underlying9 rfl)<|lv (Zi rfl rfl)<|Jc<|?_
 revert H
 refine ci (decide (1000000 < (a0.length : Int))) rfl (fun hb H45=>?_) fun hb H46=>?_
 ·refine Jb<|Ja<|ag (.slice none 0 0)<|ag (.slice none 0 0)<|ag (i6 0)<|ag (i6 4)<|Jc<|Ji<|Q1 38 14<|Q1 77 4<|?_
  obtain rfl := sj H45
  refine Xx 1 rfl (Jbe _ _ _ _ _)<|Xx 2 rfl (Jbe _ _ _ _ _)<|bo 0 2 rfl rfl<|Xx 0 rfl (Jdh (p := nn) rfl (AllC.nil (G := g_face_Person) (h := Un) (sz := 4)))<|bo 1 0 rfl rfl<|?_
  refine ret4 (v1 := sl nn ([] : List Ta).length) (v2 := sl nn (([] : List (List Value)).length)) (v3 := i6 0) (v4 := i6 4) rfl rfl rfl rfl rfl (Yx (nn, nn) (i := 1) rfl (by first | rfl | rw [(show (([] : List (List Value)).length) = ([] : List Tb).length from (AllC.nil (G := g_face_Person) (h := Un) (sz := 4)).len)]) (by first | exact Imp.refl _ | exact Imp.of (by rw [(show (([] : List (List Value)).length) = ([] : List Tb).length from (AllC.nil (G := g_face_Person) (h := Un) (sz := 4)).len)] <;> rfl)))
 ·refine Jj<|Jb<|Ja<|lv (Je7 (pl := #[(0, 1), (1, 1), (2, 1)]) (ps := []) (cells := #[.slice none 0 0, .slice none 0 0, i6 0]) zeroValue96 runUnderlying96 (fun w => by kernel_rfl) rfl rfl)<|?_
  refine Je8 (cs := [.slice none 0 0, .slice none 0 0, i6 0]) rfl rfl rfl rfl (fun b2 => ?_)
  refine ag (.pointer (some ⟨b2, 0, none⟩))<|Jc<|Jb<|Ja<|ag (i6 0)<|Jc<|?_
  refine Qi (r := r) (σ := Int × Int × (List Ta) × (List Tb)) (τ := (Option Addr × Nat) × (Option Addr × Nat)) (fun s => Jaz s.1 s.2.1 s.2.2.1 s.2.2.2) (fun s t => [(6, .pointer (some ⟨b2, 0, none⟩)), (7, i6 s.1)]) (fun s t => [Y1 Un Un, Jp b2 [.slice t.1.1 s.2.2.1.length t.1.2, .slice t.2.1 s.2.2.2.length t.2.2, i6 s.2.1] 96, Jw 38 14 (.slice t.1.1 s.2.2.1.length t.1.2) s.2.2.1.length (s.2.2.1.map Jg), Uo 77 4 g_face_Person (.slice t.2.1 s.2.2.2.length t.2.2) s.2.2.2.length s.2.2.2]) (fun s t => True) ?_ ?_
  ·refine Jl<|Q1 38 14<|Q1 77 4<|Jce Un<|?_
   try dsimp only [z1, z2, z5, z6, z7, z8]
   refine bo 4 3 rfl rfl ?_
   try dsimp only [z1, z2, z5, z6, z7, z8]
   refine Xx 4 rfl (imp_rowDx (css := []) (xs := ([] : List Tb)) (p := nn) rfl (AllC.nil (G := g_face_Person) (h := Un) (sz := 4))) ?_
   refine Xb (σ := (List UInt8) × Int × Int × (List Ta) × (List Tb)) (τ := (Option Addr × Nat) × (Option Addr × Nat)) (fun next2 s => Xa next2 s.1 s.2.1 s.2.2.1 s.2.2.2.1 s.2.2.2.2) (fun s t => [(0, Jk s.1), (6, .pointer (some ⟨b2, 0, none⟩)), (7, i6 s.2.1)]) (fun s t => [Y1 Un Un, Jp b2 [.slice t.1.1 s.2.2.2.1.length t.1.2, .slice t.2.1 s.2.2.2.2.length t.2.2, i6 s.2.2.1] 96, Jw 38 14 (.slice t.1.1 s.2.2.2.1.length t.1.2) s.2.2.2.1.length (s.2.2.2.1.map Jg), Uo 77 4 g_face_Person (.slice t.2.1 s.2.2.2.2.length t.2.2) s.2.2.2.2.length s.2.2.2.2]) (fun s t => True) (a0, 0, 0, ([] : List Ta), ([] : List Tb)) (nn, nn) [0, 1, 2, 4] H46 (by exact trivial) (by exact ⟨rfl, rfl, rfl, trivial⟩) (by decide) rfl ?_
   rintro ⟨x0_2, x7_3, m_3, l_5, l_6⟩ ⟨p_3, p_4⟩ m2 gg H57 _
   clear H46
   try dsimp only at H57
   generalize hn2 : it (fun next2 s => Xa next2 s.1 s.2.1 s.2.2.1 s.2.2.2.1 s.2.2.2.2) m2 = next2 at H57
   try dsimp only
   refine Jb<|Jb<|?_
   try dsimp only [z1, z2, z5, z6, z7, z8]
   refine Ja<|mv (Jk x0_2)<|lv (r_neqT rfl rfl)<|Jc<|?_
   revert H57
   refine ci (decide (x0_2 ≠ [])) rfl (fun hb H58=>?_) fun hb H66=>?_
   ·refine Jj<|Jl<|Jb<|Ja<|mv (Jk x0_2)<|?_
    obtain ⟨t21, h_t21, H59⟩ := Je H58; clear H58
    refine Qc (k37 h_t21) call37 rfl rfl rfl<|mv (.tuple #[Jk t21.1, Jk t21.2.1, .bool t21.2.2])<|lv (Jm (v := Jk t21.1) rfl rfl)<|lv (Jm (v := Jk t21.2.1) rfl rfl)<|lv (Jm (v := .bool t21.2.2) rfl rfl)<|ag (Jk t21.1)<|ag (Jk t21.2.1)<|ag (.bool t21.2.2)<|Jc<|Jb<|Ja<|mv (i6 x7_3)<|?_
    obtain ⟨t26, h_t26, H60⟩ := Je H59; clear H59
    refine lv (Qe rfl rfl h_t26)<|ag (i6 t26)<|Jc<|Jb<|Jb<|Ja<|mv (.bool t21.2.2)<|lv (V8 rfl)<|mv (.bool (!t21.2.2))<|?_
    revert H60
    refine sp (fun hb H61=>?_) fun hb H62=>?_
    ·refine pa<|pa<|pa<|pa<|pT (.bool true)<|Jc<|Zv rfl<|Jb<|Ja<|mv (i6 t26)<|ag (.slice none 0 0)<|ag (.slice none 0 0)<|ag (i6 t26)<|ag (i6 8)<|Jc<|Ji<|Q1 38 14<|Q1 77 4<|?_
     obtain rfl := sj H61
     refine Xx 4 rfl (Jbe _ _ _ _ _)<|Xx 5 rfl (Jbe _ _ _ _ _)<|bo 0 5 rfl rfl<|Xx 0 rfl (Jdh (p := nn) rfl (AllC.nil (G := g_face_Person) (h := Un) (sz := 4)))<|bo 4 0 rfl rfl<|?_
     refine ret4 (v1 := sl nn ([] : List Ta).length) (v2 := sl nn (([] : List (List Value)).length)) (v3 := i6 t26) (v4 := i6 8) rfl rfl rfl rfl rfl (Yx (nn, nn) (i := 4) rfl (by first | rfl | rw [(show (([] : List (List Value)).length) = ([] : List Tb).length from (AllC.nil (G := g_face_Person) (h := Un) (sz := 4)).len)]) (by first | exact Imp.refl _ | exact Imp.of (by rw [(show (([] : List (List Value)).length) = ([] : List Tb).length from (AllC.nil (G := g_face_Person) (h := Un) (sz := 4)).len)] <;> rfl)))
    ·refine mv (.pointer (some ⟨b2, 0, none⟩))<|mv (Jk t21.1)<|?_
     obtain ⟨t32, h_t32, H63⟩ := Je H62; clear H62
     refine bo 2 3 rfl rfl<|bo 1 2 rfl rfl<|?_
     refine Xl (Qp (i := 1) (rds := []) (G := fun x : (Option Addr × Nat) × (Option Addr × Nat) => .bool t32.1) (C := fun x : (Option Addr × Nat) × (Option Addr × Nat) => Q5 (Jp b2 [.slice x.1.1 t32.2.l_.length x.1.2, .slice x.2.1 t32.2.people_.length x.2.2, i6 t32.2.want_] 96) (Q5 (Jw 38 14 (.slice x.1.1 t32.2.l_.length x.1.2) t32.2.l_.length (t32.2.l_.map Jg)) (Uo 77 4 g_face_Person (.slice x.2.1 t32.2.people_.length x.2.2) t32.2.people_.length t32.2.people_))) rfl (fun w L' S hF hS hi hp hlt ho hA => k38 (a0 := (⟨l_5, l_6, m_3⟩ : Tc)) hp hlt (Q4 w S) rfl (tb_pow10.mono (hw.but hF ho)) h_t32) call38 rfl) rfl rfl rfl (fun ⟨p_5, p_6⟩ => ?_)
     refine ub 1 2 rfl rfl<|ub 2 3 rfl rfl<|lv (V8 rfl)<|pF (.bool (!t32.1))<|Jc<|?_
     revert H63
     refine ci (!t32.1) rfl (fun hb H64=>?_) fun hb H65=>?_
     ·refine Jb ?_
      try dsimp only [z1, z2, z5, z6, z7, z8]
      refine Ja<|mv (i6 t26)<|ag (.slice none 0 0)<|ag (.slice none 0 0)<|ag (i6 t26)<|ag (i6 8)<|Jc<|Ji<|Q1 38 14<|Q1 77 4<|?_
      obtain rfl := sj H64
      refine Xx 4 rfl (Jbe _ _ _ _ _)<|Xx 5 rfl (Jbe _ _ _ _ _)<|bo 0 5 rfl rfl<|Xx 0 rfl (Jdh (p := nn) rfl (AllC.nil (G := g_face_Person) (h := Un) (sz := 4)))<|bo 4 0 rfl rfl<|?_
      refine ret4 (v1 := sl nn ([] : List Ta).length) (v2 := sl nn (([] : List (List Value)).length)) (v3 := i6 t26) (v4 := i6 8) rfl rfl rfl rfl rfl (Yx (nn, nn) (i := 4) rfl (by first | rfl | rw [(show (([] : List (List Value)).length) = ([] : List Tb).length from (AllC.nil (G := g_face_Person) (h := Un) (sz := 4)).len)]) (by first | exact Imp.refl _ | exact Imp.of (by rw [(show (([] : List (List Value)).length) = ([] : List Tb).length from (AllC.nil (G := g_face_Person) (h := Un) (sz := 4)).len)] <;> rfl)))
     ·refine Jj ?_
      try dsimp only [z1, z2, z5, z6, z7, z8]
      refine Ja<|mv (Jk t21.2.1)<|ag (Jk t21.2.1)<|Jc<|?_
      exact cl (t21.2.1, t26, t32.2.want_, t32.2.l_, t32.2.people_) (p_5, p_6) m2 [0, 1, 2, 3] (by exact ⟨(by subst hn2; exact H65), trivial⟩)
   ·refine Qg ?_
    exact cl (x7_3, m_3, l_5, l_6) (p_3, p_4) 0 [0, 1, 2, 3] (by exact ⟨H66, trivial⟩)
  ·rintro ⟨x7, m, l, l_2⟩ ⟨p, p_2⟩ gg H47 _
   try dsimp only at H47
   try dsimp only
   refine Jb<|Jb<|?_
   try dsimp only [z1, z2, z5, z6, z7, z8]
   refine Ja<|mv (.pointer (some ⟨b2, 0, none⟩))<|lv (J8 rfl)<|lf runUnderlying96 rfl sizeOf3 rfl<|ll 1 (i6 m) isAgg3<|lv (Y4 rfl rfl)<|mv (.bool (decide (m = 1)))<|?_
   revert H47
   refine sp (fun hb H48=>?_) fun hb H50=>?_
   ·refine pa<|pa<|pa<|pa<|pa<|pT (.bool true)<|Jc<|Zv rfl<|Jb<|Ja<|mv (i6 x7)<|?_
    obtain ⟨t50, h_t50, H49⟩ := Je H48; clear H48
    refine lv (Qe rfl rfl h_t50)<|ag (.slice none 0 0)<|ag (.slice none 0 0)<|ag (i6 t50)<|ag (i6 8)<|Jc<|Ji<|Q1 38 14<|Q1 77 4<|?_
    obtain rfl := sj H49
    refine Xx 4 rfl (Jbe _ _ _ _ _)<|Xx 5 rfl (Jbe _ _ _ _ _)<|bo 0 5 rfl rfl<|Xx 0 rfl (Jdh (p := nn) rfl (AllC.nil (G := g_face_Person) (h := Un) (sz := 4)))<|bo 4 0 rfl rfl<|?_
    refine ret4 (v1 := sl nn ([] : List Ta).length) (v2 := sl nn (([] : List (List Value)).length)) (v3 := i6 t50) (v4 := i6 8) rfl rfl rfl rfl rfl (Yx (nn, nn) (i := 4) rfl (by first | rfl | rw [(show (([] : List (List Value)).length) = ([] : List Tb).length from (AllC.nil (G := g_face_Person) (h := Un) (sz := 4)).len)]) (by first | exact Imp.refl _ | exact Imp.of (by rw [(show (([] : List (List Value)).length) = ([] : List Tb).length from (AllC.nil (G := g_face_Person) (h := Un) (sz := 4)).len)] <;> rfl)))
   ·refine mv (.pointer (some ⟨b2, 0, none⟩))<|lv (J8 rfl)<|lf runUnderlying96 rfl sizeOf3 rfl<|ll 1 (i6 m) isAgg3<|lv (Y4 rfl rfl)<|pF (.bool (decide (m = 2)))<|Jc<|?_
    revert H50
    refine ci (decide (m = 2)) rfl (fun hb H51=>?_) fun hb H53=>?_
    ·refine Jb ?_
     try dsimp only [z1, z2, z5, z6, z7, z8]
     refine Ja<|mv (i6 x7)<|?_
     obtain ⟨t50_2, h_t50_2, H52⟩ := Je H51; clear H51
     refine lv (Qe rfl rfl h_t50_2)<|ag (.slice none 0 0)<|ag (.slice none 0 0)<|ag (i6 t50_2)<|ag (i6 8)<|Jc<|Ji<|Q1 38 14<|Q1 77 4<|?_
     obtain rfl := sj H52
     refine Xx 4 rfl (Jbe _ _ _ _ _)<|Xx 5 rfl (Jbe _ _ _ _ _)<|bo 0 5 rfl rfl<|Xx 0 rfl (Jdh (p := nn) rfl (AllC.nil (G := g_face_Person) (h := Un) (sz := 4)))<|bo 4 0 rfl rfl<|?_
     refine ret4 (v1 := sl nn ([] : List Ta).length) (v2 := sl nn (([] : List (List Value)).length)) (v3 := i6 t50_2) (v4 := i6 8) rfl rfl rfl rfl rfl (Yx (nn, nn) (i := 4) rfl (by first | rfl | rw [(show (([] : List (List Value)).length) = ([] : List Tb).length from (AllC.nil (G := g_face_Person) (h := Un) (sz := 4)).len)]) (by first | exact Imp.refl _ | exact Imp.of (by rw [(show (([] : List (List Value)).length) = ([] : List Tb).length from (AllC.nil (G := g_face_Person) (h := Un) (sz := 4)).len)] <;> rfl)))
    ·refine Jj<|Jb<|Jb<|?_
     try dsimp only [z1, z2, z5, z6, z7, z8]
     exact Xp (Kd.p :: Kd.p :: Kd.p :: Kd.d [1] _ :: Kd.p :: Kd.p :: Kd.p :: Kd.d [1] _ :: Kd.d [0, 2, 3] _ :: Kd.p :: []) 0 mixed (by
      refine dm (.pointer (some ⟨b2, 0, none⟩))<|dv (J8 rfl)<|dv (Ya runUnderlying96 rfl sizeOf22 rfl rfl)<|dl (sl p l.length) isAgg22<|dm (.pointer (some ⟨b2, 0, none⟩))<|dv (J8 rfl)<|dv (Ya runUnderlying96 rfl sizeOf23 rfl rfl)<|dl (sl p_2 l_2.length) isAgg23<|?_
      have h_t59 := Qh H53
      have H54 := J3 H53
      refine Jd4 (fun w L' hF hS hi => k34 (Jr w) (Jap (i := 2) rfl hS ((hi 2 (by simp)).trans rfl)) (frn_rowD (i := 3) hS ((hi 3 (by simp)).trans rfl)) h_t59) call34 rfl rfl<|W6 rfl rfl (Xs (v := i6 (val (Qj l l_2))) rfl)<|Wk<|Jb<|Ja<|mv (i6 (val (Qj l l_2)))<|lv (Jaj rfl rfl)<|Jc<|?_
      revert H54
      refine ci (decide ((val (Qj l l_2)) ≠ 0)) rfl (fun hb H55=>?_) fun hb H56=>?_
      ·refine Jb<|Ja<|mv (i6 (val (Qj l l_2)))<|ag (.slice none 0 0)<|ag (.slice none 0 0)<|ag (i6 0)<|ag (i6 (val (Qj l l_2)))<|Jc<|Ji<|Q1 38 14<|Q1 77 4<|?_
       obtain rfl := sj H55
       refine Xx 4 rfl (Jbe _ _ _ _ _)<|Xx 5 rfl (Jbe _ _ _ _ _)<|bo 0 5 rfl rfl<|Xx 0 rfl (Jdh (p := nn) rfl (AllC.nil (G := g_face_Person) (h := Un) (sz := 4)))<|bo 4 0 rfl rfl<|?_
       refine ret4 (v1 := sl nn ([] : List Ta).length) (v2 := sl nn (([] : List (List Value)).length)) (v3 := i6 0) (v4 := i6 (val (Qj l l_2))) rfl rfl rfl rfl rfl (Yx (nn, nn) (i := 4) rfl (by first | rfl | rw [(show (([] : List (List Value)).length) = ([] : List Tb).length from (AllC.nil (G := g_face_Person) (h := Un) (sz := 4)).len)]) (by first | exact Imp.refl _ | exact Imp.of (by rw [(show (([] : List (List Value)).length) = ([] : List Tb).length from (AllC.nil (G := g_face_Person) (h := Un) (sz := 4)).len)] <;> rfl)))
      ·refine Jj<|Jb<|?_
       refine c_rowD 3 rfl (fun hp css hn pf => ?_)
       rw [hn]
       try dsimp only [z1, z2, z5, z6, z7, z8]
       refine Z0 3 rfl ?_
       try dsimp only [z1, z2, z5, z6, z7, z8]
       refine Jcl 0 3 rfl rfl (by decide) (fun _ _ => Jbw) (fun hp_2 hle hle_2 => ?_)
       try dsimp only [z1, z2, z5, z6, z7, z8]
       exact Xp (Kd.p :: Kd.p :: Kd.p :: Kd.d [1] _ :: Kd.d [2] _ :: Kd.p :: Kd.p :: Kd.p :: Kd.d [1] _ :: Kd.d [4] _ :: Kd.p :: Kd.p :: Kd.p :: Kd.p :: []) 0 mixed (by
        refine dm (.pointer (some ⟨b2, 0, none⟩))<|dv (J8 rfl)<|dv (Ya runUnderlying96 rfl sizeOf22 rfl rfl)<|dl (sl p l.length) isAgg22<|Jd4 (fun w L' hF hS hi => k39 (Jc2 (i := 2) hS ((hi 2 (by simp)).trans rfl)) w) call39 rfl rfl<|dm (.pointer (some ⟨b2, 0, none⟩))<|dv (J8 rfl)<|dv (Ya runUnderlying96 rfl sizeOf23 rfl rfl)<|dl (sl p_2 css.length) isAgg23<|Jd4 (fun w L' hF hS hi => k40 (Jc2 (i := 4) hS ((hi 4 (by simp)).trans rfl)) w) call40 rfl rfl<|W6 rfl rfl (Xs (v := .slice (Yc p.1 0 l.length 14) l.length l.length) rfl)<|W6 rfl rfl (Xs (v := .slice (Yc p_2.1 0 css.length 4) css.length css.length) rfl)<|W6 rfl rfl (Xs (v := i6 0) rfl)<|W6 rfl rfl (Xs (v := i6 0) rfl)<|Wk<|?_
        try dsimp only [z1, z2, z5, z6, z7, z8]
        refine Ji ?_
        obtain rfl := sj H56
        refine Xx 2 rfl (Jc6 _ _ _ _ _ _)<|Xx 4 rfl (Jc6 _ _ _ _ _ _)<|bo 0 4 rfl rfl<|Xx 0 rfl (Jdh (p := (Yc p_2.1 0 css.length 4, css.length)) rfl (pf.mono hle_2))<|bo 2 0 rfl rfl<|?_
        refine ret4 (v1 := .slice (Yc p.1 0 l.length 14) l.length l.length) (v2 := .slice (Yc p_2.1 0 css.length 4) css.length css.length) (v3 := i6 0) (v4 := i6 0) rfl rfl rfl rfl rfl (Yx ((Yc p.1 0 l.length 14, l.length), (Yc p_2.1 0 css.length 4, css.length)) (i := 2) rfl (by first | rfl | rw [(show css.length = l_2.length from hn.symm)]) (by first | exact Imp.refl _ | exact Imp.of (by rw [(show css.length = l_2.length from hn.symm)] <;> rfl)))
        ) (by kernel_rfl)
      ) (by kernel_rfl)
theorem k219 {a0 : (List UInt8)} {a1 : (List UInt8)} {r : Bool} (H : Q8 a0 a1 = some r) : Ret prog 219 [Jk a0, Jk a1] (.bool r) := by
 refine J7 (n := 21) func219 rfl rfl rfl (fun wd => ?_)
 refine Jb<|Ja<|ag (.bool false)<|Jc<|Jb<|Ja<|mv (Jk a0)<|lv (Q2 underlying9 rfl)<|mv (Jk a1)<|lv (Q2 underlying9 rfl)<|lv (Jcg rfl rfl)<|mv (.bool (decide ((a1.length : Int) ≤ (a0.length : Int))))<|?_
 revert H
 refine sp (fun hb H5=>?_) fun hb H8=>?_
 ·refine mv (Jk a0)<|mv (Jk a0)<|lv (Q2 underlying9 rfl)<|mv (Jk a1)<|lv (Q2 underlying9 rfl)<|?_
  obtain ⟨t16, h_t16, H6⟩ := Je H5; clear H5
  refine lv (Ym rfl rfl h_t16) ?_
  obtain ⟨t17, h_t17, H7⟩ := Je H6; clear H6
  refine lv (We underlying9 rfl rfl h_t17)<|mv (Jk a1)<|lv (V3 rfl rfl)<|pT (.bool (decide (t17 = a1)))<|ag (.bool (decide (t17 = a1)))<|Jc<|Ji<|?_
  obtain rfl := sj H7
  exact r1 (.bool (decide (t17 = a1)))
 ·refine pa<|pa<|pa<|pa<|pa<|pa<|pa<|pa<|pa<|pF (.bool false)<|ag (.bool false)<|Jc<|Ji<|?_
  obtain rfl := sj H8
  exact r1 (.bool false)
theorem k124 {a0 : (List UInt8)} {a1 : (List UInt8)} {r : (List UInt8) × Bool} (H : Xn a0 a1 = some r) : Ret prog 124 [Jk a0, Jk a1] (.tuple #[Jk r.1, .bool r.2]) := by
 refine J7 (n := 18) func124 rfl rfl rfl (fun wd => ?_)
 refine Jb<|Ja<|ag (Jk [])<|ag (.bool false)<|Jc<|Jb<|Jb<|Ja<|mv (Jk a0)<|mv (Jk a1)<|?_
 obtain ⟨t8, h_t8, H6⟩ := Je H; clear H
 refine Qc (k219 h_t8) call219 rfl rfl rfl<|lv (V8 rfl)<|Jc<|?_
 revert H6
 refine ci (!t8) rfl (fun hb H7=>?_) fun hb H8=>?_
 ·refine Jb<|Ja<|mv (Jk a0)<|ag (Jk a0)<|ag (.bool false)<|Jc<|Ji<|?_
  obtain rfl := sj H7
  refine Uy (v1 := Jk a0) (v2 := .bool false) rfl rfl rfl (fin rfl)
 ·refine Jj<|Jb<|Ja<|mv (Jk a0)<|mv (Jk a0)<|lv (Q2 underlying9 rfl)<|mv (Jk a1)<|lv (Q2 underlying9 rfl)<|?_
  obtain ⟨t16, h_t16, H9⟩ := Je H8; clear H8
  refine lv (Ym rfl rfl h_t16) ?_
  obtain ⟨t17, h_t17, H10⟩ := Je H9; clear H9
  refine lv (Jbv underlying9 rfl rfl h_t17)<|ag (Jk t17)<|ag (.bool true)<|Jc<|Ji<|?_
  obtain rfl := sj H10
  refine Uy (v1 := Jk t17) (v2 := .bool true) rfl rfl rfl (fin rfl)
theorem k42 {a0 : (List UInt8)} {a1 : (List UInt8)} {r : (List UInt8) × Bool} (H : Xf a0 a1 = some r) : Ret prog 42 [Jk a0, Jk a1] (.tuple #[Jk r.1, .bool r.2]) := by
 refine J7 (n := 11) func42 rfl rfl rfl (fun wd => ?_)
 refine Jb<|Ja<|ag (Jk [])<|ag (.bool false)<|Jc<|Jb<|Ja<|mv (Jk a0)<|mv (Jk a1)<|?_
 obtain ⟨t8, h_t8, H2⟩ := Je H; clear H
 refine Qc (k124 h_t8) call124 rfl rfl rfl<|lv (Jm (v := Jk t8.1) rfl rfl)<|lv (Jm (v := .bool t8.2) rfl rfl)<|ag (Jk t8.1)<|ag (.bool t8.2)<|Jc<|Ji<|?_
 obtain rfl := sj H2
 refine Uy (v1 := Jk t8.1) (v2 := .bool t8.2) rfl rfl rfl (fin rfl)
theorem k45 {a0 : (List UInt8)} {a1 : Int} {a2 : Bool} {r : Int × Bool} (H : Jcu a0 a1 a2 = some r) : Ret prog 45 [Jk a0, i6 a1, .bool a2] (.tuple #[i6 r.1, .bool r.2]) := by
 refine J7 (n := 45) func45 rfl rfl rfl (fun wd => ?_)
 refine Jb<|Ja<|ag (i6 0)<|ag (.bool false)<|Jc<|Jb<|Ja<|mv (Jk a0)<|ag (Jk a0)<|Jc<|?_
 refine Qi (r := r) (σ := (List UInt8)) (τ := Unit) (fun s => Jac a0 a1 s) (fun s t => [(0, Jk a0), (1, i6 a1), (8, Jk s)]) (fun s t => []) (fun s t => True) ?_ ?_
 ·refine Jb<|Ja<|mv (.bool a2)<|Jc<|?_
  revert H
  refine ci a2 rfl (fun hb H34=>?_) fun hb H36=>?_
  ·refine Ja<|mv (Jk a0)<|?_
   obtain ⟨t14, h_t14, H35⟩ := Je H34; clear H34
   refine Qc (k125 h_t14) call125 rfl rfl rfl<|ag (Jk t14)<|Jc<|?_
   exact cl t14 () 0 [] (by exact ⟨H35, trivial⟩)
  ·refine Jj ?_
   exact cl a0 () 0 [] (by exact ⟨H36, trivial⟩)
 ·rintro x8 _ gg H19 _
  try dsimp only at H19
  try dsimp only
  refine Qi (r := r) (σ := Unit) (τ := Unit) (fun s => Jco a0) (fun s t => [(0, Jk a0)]) (fun s t => []) (fun s t => True) ?_ ?_
  ·refine Jb<|Ja<|mv (Jk x8)<|lv (V3 rfl rfl)<|mv (.bool (decide (x8 = [])))<|?_
   revert H19
   refine sp (fun hb H22=>?_) fun hb H23=>?_
   ·refine pa<|pa<|pa<|pa<|pT (.bool true)<|mv (.bool true)<|pa<|pa<|pa<|pT (.bool true)<|mv (.bool true)<|pa<|pa<|pa<|pa<|pa<|pa<|pa<|pT (.bool true)<|Jc<|Zv rfl<|Jb<|Ja<|ag (i6 0)<|ag (.bool false)<|Jc<|Ji<|?_
    obtain rfl := sj H22
    refine Uy (v1 := i6 0) (v2 := .bool false) rfl rfl rfl (fin rfl)
   ·refine mv (Jk x8)<|lv (Q2 underlying9 rfl)<|mv (i6 a1)<|lv (Zi rfl rfl)<|pF (.bool (decide (a1 < (x8.length : Int))))<|mv (.bool (decide (a1 < (x8.length : Int))))<|?_
    revert H23
    refine sp (fun hb H24=>?_) fun hb H25=>?_
    ·refine pa<|pa<|pa<|pT (.bool true)<|mv (.bool true)<|pa<|pa<|pa<|pa<|pa<|pa<|pa<|pT (.bool true)<|Jc<|Zv rfl<|Jb<|Ja<|ag (i6 0)<|ag (.bool false)<|Jc<|Ji<|?_
     obtain rfl := sj H24
     refine Uy (v1 := i6 0) (v2 := .bool false) rfl rfl rfl (fin rfl)
    ·refine mv (Jk x8) ?_
     obtain ⟨t25, h_t25, H26⟩ := Je H25; clear H25
     refine Qc (k126 h_t25) call126 rfl rfl rfl<|lv (r_neqT rfl rfl)<|pF (.bool (decide (t25 ≠ [])))<|mv (.bool (decide (t25 ≠ [])))<|?_
     revert H26
     refine sp (fun hb H27=>?_) fun hb H28=>?_
     ·refine pa<|pa<|pa<|pa<|pa<|pa<|pa<|pT (.bool true)<|Jc<|Zv rfl<|Jb<|Ja<|ag (i6 0)<|ag (.bool false)<|Jc<|Ji<|?_
      obtain rfl := sj H27
      refine Uy (v1 := i6 0) (v2 := .bool false) rfl rfl rfl (fin rfl)
     ·refine mv (Jk x8) ?_
      obtain ⟨t30, h_t30, H29⟩ := Je H28; clear H28
      refine lv (W1 underlying9 rfl rfl h_t30)<|lv (Y4 rfl rfl)<|mv (.bool (decide (t30 = 48)))<|?_
      revert H29
      refine sp (fun hb H30=>?_) fun hb H33=>?_
      ·refine mv (Jk a0)<|lv (r_neqT rfl rfl)<|pT (.bool (decide (a0 ≠ [48])))<|pF (.bool (decide (a0 ≠ [48])))<|Jc<|?_
       revert H30
       refine ci (decide (a0 ≠ [48])) rfl (fun hb H31=>?_) fun hb H32=>?_
       ·refine Jb<|Ja<|ag (i6 0)<|ag (.bool false)<|Jc<|Ji<|?_
        obtain rfl := sj H31
        refine Uy (v1 := i6 0) (v2 := .bool false) rfl rfl rfl (fin rfl)
       ·refine Jj ?_
        exact cl () () 0 [] (by exact ⟨H32, trivial⟩)
      ·refine pa<|pa<|pF (.bool false)<|pF (.bool false)<|Jc<|Zf rfl<|Jj<|?_
       exact cl () () 0 [] (by exact ⟨H33, trivial⟩)
  ·rintro _ _ gg H20 _
   try dsimp only at H20
   try dsimp only
   refine Jb<|Ja<|mv (Jk a0)<|?_
   obtain ⟨t39, h_t39, H21⟩ := Je H20; clear H20
   refine Qc (k127 h_t39) call127 rfl rfl rfl<|mv (.tuple #[i6 t39, .nilIface])<|lv (Jm (v := i6 t39) rfl rfl)<|lv (Jm (v := .nilIface) rfl rfl)<|ag (i6 t39)<|ag (.nilIface)<|Jc<|Jb<|?_
   exact Xp (Kd.p :: Kd.p :: Kd.p :: Kd.p :: Kd.p :: []) 0 mixed (by
    refine dm (i6 t39)<|dm (.nilIface)<|dv (r_eqlErr rfl (by intro w; kernel_rfl))<|W6 rfl rfl (Xs (v := i6 t39) rfl)<|W6 rfl rfl (Xs (v := .bool true) rfl)<|Wk<|Ji<|?_
    obtain rfl := sj H21
    refine Uy (v1 := i6 t39) (v2 := .bool true) rfl rfl rfl (fin rfl)
    ) (by kernel_rfl)
theorem k44 {a0 : (List (List UInt8))} {v0 : Value} {a1 : Bool} {r : (List Int) × Bool} {w : World} {h : Jt} (hw : Know h w Yt) (f0 : FrS h 1 v0 (a0.map Jv)) (H : Wp a0 a1 = some r) : Does prog 44 (List.toArray [v0, .bool a1]) w (fun v w' => ∃ x : (Option Addr × Nat), v = (.tuple #[sl x r.1.length, .bool r.2]) ∧ Turn w w' Yt (Jw 3 1 (sl x r.1.length) r.1.length (r.1.map Jn))) := by
 refine enter (n := 36) func44 rfl rfl rfl Yt [] (Sat.nil _ _)<|Jb<|Ja<|ag (.slice none 0 0)<|ag (.bool false)<|Jc<|Jb<|Ja<|ag (.slice none 0 0)<|Jc<|Jb<|Jb<|Ja<|mv v0<|lv (X4 underlying31 rfl f0 rfl)<|mv (i6 0)<|Jc<|Jl<|Q1 3 1<|?_
 refine Xb (σ := Int × (List Int)) (τ := (Option Addr × Nat)) (fun next1 s => Vq a0 a1 next1 s.1 s.2) (fun s t => [(1, .bool a1), (6, sl t s.2.length), (11, v0), (12, i6 (a0.length : Int)), (13, i6 s.1)]) (fun s t => [Jw 3 1 (sl t s.2.length) s.2.length (s.2.map Jn)]) (fun s t => True) (0, ([] : List Int)) nn [0] H (by exact trivial) (by exact ⟨rfl, rfl, rfl, rfl, rfl, trivial⟩) (by decide) rfl ?_
 rintro ⟨x13_2, l_2⟩ p m1 gg H14 _
 clear H
 try dsimp only at H14
 generalize hn1 : it (fun next1 s => Vq a0 a1 next1 s.1 s.2) m1 = next1 at H14
 try dsimp only
 refine Jb<|Ja<|lv (Qv rfl rfl)<|Jc<|Jb<|?_
 revert H14
 refine ci (decide (x13_2 < (a0.length : Int))) rfl (fun hb H15=>?_) fun hb H26=>?_
 ·refine Jj<|Jb<|Jl<|Jb<|Ja<|mv (i6 x13_2)<|?_
  obtain ⟨t16, h_t16, H16⟩ := Je H15; clear H15
  refine lv (J4 underlying31 sizeOf9 rfl rfl f0 h_t16)<|Jy (fun w hF hS => Ju (f := Jv) (i := x13_2) (sz := 1) (j := 0) (v := Jk t16) isAgg9 rfl rfl (f0.row (hw.now hF)) h_t16 rfl) rfl rfl rfl<|ag (i6 x13_2)<|ag (Jk t16)<|Jc<|?_
  refine Qi (r := r) (σ := Int × Bool) (τ := Unit) (fun s => Ys x13_2 l_2 next1 s.1 s.2) (fun s t => [(1, .bool a1), (6, sl p l_2.length), (9, i6 s.1), (10, .bool s.2), (11, v0), (12, i6 (a0.length : Int)), (13, i6 x13_2)]) (fun s t => [Jw 3 1 (sl p l_2.length) l_2.length (l_2.map Jn)]) (fun s t => True) ?_ ?_
  ·refine Ja<|mv (Jk t16)<|mv (.bool a1)<|mv (.bool a1)<|?_
   revert H16
   refine sp (fun hb H22=>?_) fun hb H24=>?_
   ·refine mv (i6 x13_2)<|lv (Jcg rfl rfl)<|pT (.bool (decide (2 ≤ x13_2)))<|?_
    obtain ⟨t25, h_t25, H23⟩ := Je H22; clear H22
    refine Qc (k45 h_t25) call45 rfl rfl rfl<|mv (.tuple #[i6 t25.1, .bool t25.2])<|lv (Jm (v := i6 t25.1) rfl rfl)<|lv (Jm (v := .bool t25.2) rfl rfl)<|ag (i6 t25.1)<|ag (.bool t25.2)<|Jc<|?_
    exact cl (t25.1, t25.2) () 0 [0] (by exact ⟨H23, trivial⟩)
   ·refine pa<|pa<|pF (.bool false)<|?_
    obtain ⟨t25_2, h_t25_2, H25⟩ := Je H24; clear H24
    refine Qc (k45 h_t25_2) call45 rfl rfl rfl<|mv (.tuple #[i6 t25_2.1, .bool t25_2.2])<|lv (Jm (v := i6 t25_2.1) rfl rfl)<|lv (Jm (v := .bool t25_2.2) rfl rfl)<|ag (i6 t25_2.1)<|ag (.bool t25_2.2)<|Jc<|?_
    exact cl (t25_2.1, t25_2.2) () 0 [0] (by exact ⟨H25, trivial⟩)
  ·rintro ⟨x9, x10⟩ _ gg H17 _
   try dsimp only at H17
   try dsimp only
   refine Jb<|Jb<|Ja<|mv (.bool x10)<|lv (V8 rfl)<|Jc<|?_
   revert H17
   refine ci (!x10) rfl (fun hb H18=>?_) fun hb H19=>?_
   ·refine Jb<|Ja<|ag (.slice none 0 0)<|ag (.bool false)<|Jc<|Ji<|Q1 3 1<|?_
    obtain rfl := sj H18
    refine Uy (v1 := sl nn ([] : List Int).length) (v2 := .bool false) rfl rfl rfl (Yx nn (i := 1) rfl rfl (Imp.refl _))
   ·refine Jj<|Ja<|mv (sl p l_2.length)<|mv (i6 x9)<|?_
    refine Yu (vs := [i6 x9]) (cs := [i6 x9]) underlying75 sizeOf3 zeroValue3 rfl rfl rfl rfl rfl rfl rfl (fun b1 => ?_)
    obtain ⟨l33, h_l33, H20⟩ := Je H19; clear H19
    refine Xl (Jbd (i := 0) (hn := rfl) (rds := [1]) (p := p) (sz := 1) (by_ := 8) (f := Jn) (ys := l_2) (ls := ([x9] : List Int)) (V := .slice (some ⟨b1, 0, none⟩) 1 1) underlying75 (Vo typeInfo3) rfl rfl rfl rfl rfl rfl rfl rfl rfl rfl (fun w L' hF hS hi => Jbi (i := 1) hS ((hi 1 (by simp)).trans rfl) rfl rfl) (fun _ => rfl) (fun _ => rfl) h_l33) rfl rfl rfl (fun p_2 => ?_)
    refine ag (sl p_2 l33.length)<|Jc<|Ja<|?_
    obtain ⟨t34, h_t34, H21⟩ := Je H20; clear H20
    refine lv (Qe rfl rfl h_t34)<|mv (i6 t34)<|Jc<|?_
    exact cl (t34, l33) p_2 m1 [0] (by exact ⟨(by subst hn1; exact H21), trivial⟩)
 ·refine Qg<|Jb<|Ja<|mv (sl p l_2.length)<|ag (sl p l_2.length)<|ag (.bool true)<|Jc<|Ji<|?_
  obtain rfl := sj H26
  refine Uy (v1 := sl p l_2.length) (v2 := .bool true) rfl rfl rfl (Yx p (i := 0) rfl rfl (Imp.refl _))
theorem k46 {a0 : List (List UInt8)} {a1 : (List UInt8)} {v0 : Value} {r : (List UInt8)} {w : World} {h : Jt} (hw : Know h w Yt) (f0 : FrS h 1 v0 (a0.map Jv)) (H : gJoin a0 a1 = some r) : Does prog 46 (List.toArray [v0, Jk a1]) w (fun v w' => v = (Jk r) ∧ Grow w w') :=
  join_does (ρ := Go.Proofs.Tryz.lays156_ren) Go.Proofs.Tryz.lays156 Go.Proofs.Tryz.Builder_Extra_156 hw f0 H
theorem k12 {a0 : (List UInt8)} {r : (List Ta) × (List Tb) × Int × Int} {w : World} {h : Jt} (hw : Know h w Yt) (H : Jdk a0 = some r) : Does prog 12 (List.toArray [Jk a0]) w (fun v w' => ∃ x : (Option Addr × Nat) × (Option Addr × Nat), v = (.tuple #[.slice x.1.1 r.1.length x.1.2, .slice x.2.1 r.2.1.length x.2.2, i6 r.2.2.1, i6 r.2.2.2]) ∧ Turn w w' Yt (Q5 (Jw 38 14 (.slice x.1.1 r.1.length x.1.2) r.1.length (r.1.map Jg)) (Uo 77 4 g_face_Person (.slice x.2.1 r.2.1.length x.2.2) r.2.1.length r.2.1))) := by
 refine enter (n := 189) func12 rfl rfl rfl Yt [] (Sat.nil _ _)<|Jce Un<|Jb<|Ja<|ag (.slice none 0 0)<|ag (.slice none 0 0)<|ag (i6 0)<|ag (i6 0)<|Jc<|Jb<|Jb<|Ja<|mv (Jk a0)<|lv (Q2 underlying9 rfl)<|lv (Zi rfl rfl)<|Jc<|?_
 revert H
 refine ci (decide (1000000 < (a0.length : Int))) rfl (fun hb H93=>?_) fun hb H94=>?_
 ·refine Jb<|Ja<|ag (.slice none 0 0)<|ag (.slice none 0 0)<|ag (i6 0)<|ag (i6 4)<|Jc<|Ji<|Q1 38 14<|Q1 77 4<|?_
  obtain rfl := sj H93
  refine bo 0 2 rfl rfl<|Xx 0 rfl (U3 (p := nn) rfl (AllC.nil (G := g_face_Person) (h := Un) (sz := 4)))<|bo 1 0 rfl rfl<|?_
  refine ret4 (v1 := sl nn ([] : List Ta).length) (v2 := sl nn (([] : List (List Value)).length)) (v3 := i6 0) (v4 := i6 4) rfl rfl rfl rfl rfl (Yx (nn, nn) (i := 1) rfl (by first | rfl | rw [(show (([] : List (List Value)).length) = ([] : List Tb).length from (AllC.nil (G := g_face_Person) (h := Un) (sz := 4)).len)]) (by first | exact Imp.refl _ | exact Imp.of (by rw [(show (([] : List (List Value)).length) = ([] : List Tb).length from (AllC.nil (G := g_face_Person) (h := Un) (sz := 4)).len)] <;> rfl)))
 ·refine Jj<|Jb<|Ja<|mv (Jk a0)<|?_
  obtain ⟨t24, h_t24, H95⟩ := Je H94; clear H94
  refine Zr (Ye (rds := []) (G := fun x : (Option Addr × Nat) => sl x t24.length) (C := fun x : (Option Addr × Nat) => Jw 9 1 (sl x t24.length) t24.length (t24.map Jv)) (fun w L' hF hS hi => k41 (Jr w)  h_t24) call41 rfl) rfl rfl rfl (fun p => ?_)
  refine ag (sl p t24.length)<|Jc<|?_
  refine Qi (r := r) (σ := (List (List UInt8))) (τ := (Option Addr × Nat)) (fun s => Uz s) (fun s t => [(2, .slice none 0 0), (3, .slice none 0 0), (6, sl t s.length)]) (fun s t => [Y1 Un Un, Jw 9 1 (sl t s.length) s.length (s.map Jv)]) (fun s t => True) ?_ ?_
  ·refine Jb<|Ja<|mv (sl p t24.length)<|mv (sl p t24.length)<|lv (Wx underlying31 rfl)<|?_
   obtain ⟨t28, h_t28, H179⟩ := Je H95; clear H95
   refine lv (Ym rfl rfl h_t28) ?_
   obtain ⟨t29, h_t29, H180⟩ := Je H179; clear H179
   refine Jy (fun w hF hS => X5 underlying31 sizeOf9 rfl rfl (V9 (i := 1) hS rfl) rfl h_t29) rfl rfl rfl<|Jy (fun w hF hS => Ju (f := Jv) (i := t28) (sz := 1) (j := 0) (v := Jk t29) isAgg9 rfl rfl (V9 (i := 1) hS rfl) h_t29 rfl) rfl rfl rfl<|lv (V3 rfl rfl)<|Jc<|?_
   revert H180
   refine ci (decide (t29 = [])) rfl (fun hb H181=>?_) fun hb H184=>?_
   ·refine Ja<|mv (sl p t24.length)<|mv (sl p t24.length)<|lv (Wx underlying31 rfl)<|?_
    obtain ⟨t35, h_t35, H182⟩ := Je H181; clear H181
    refine lv (Ym rfl rfl h_t35) ?_
    obtain ⟨t36, h_t36, H183⟩ := Je H182; clear H182
    refine Jy (v := sl p t36.length) (fun w hF hS => Je0 (xs := t24) underlying31 sizeOf9 rfl rfl rfl (Jc2 (i := 1) hS rfl) h_t36) rfl rfl rfl<|ag (sl p t36.length)<|Jc<|Xx 1 rfl (Jhd rfl h_t36)<|Xx 1 rfl (Jg3 _ _ _ _ _ _)<|?_
    exact cl t36 p 0 [0, 1] (by exact ⟨H183, trivial⟩)
   ·refine Jj ?_
    exact cl t24 p 0 [0, 1] (by exact ⟨H184, trivial⟩)
  ·rintro l p_2 gg H96 _
   try dsimp only at H96
   try dsimp only
   refine Jb<|Ja<|ag (i6 0)<|Jc<|?_
   refine Qi (r := r) (σ := Int × (List Ta) × (List Tb)) (τ := Jt × (Option Addr × Nat) × (List (List Value)) × (Option Addr × Nat)) (fun s => U4 l s.1 s.2.1 s.2.2) (fun s t => [(2, .slice t.2.1.1 s.2.1.length t.2.1.2), (3, .slice t.2.2.2.1 t.2.2.1.length t.2.2.2.2), (6, sl p_2 l.length), (7, i6 s.1)]) (fun s t => [Y1 Un t.1, Jw 9 1 (sl p_2 l.length) l.length (l.map Jv), Jw 38 14 (.slice t.2.1.1 s.2.1.length t.2.1.2) s.2.1.length (s.2.1.map Jg), Jw 77 4 (.slice t.2.2.2.1 t.2.2.1.length t.2.2.2.2) t.2.2.1.length (t.2.2.1.map idC)]) (fun s t => AllC g_face_Person t.1 4 t.2.2.1 s.2.2) ?_ ?_
   ·refine Jb<|Ja<|mv (sl p_2 l.length)<|lv (Wx underlying31 rfl)<|mv (i6 0)<|Jc<|Jl<|Q1 77 4<|Q1 38 14<|?_
    refine Xb (σ := Int × Int × Int × (List Tb) × (List Ta)) (τ := Jt × (List (List Value)) × (Option Addr × Nat) × (Option Addr × Nat)) (fun next4 s => Q3 l next4 s.1 s.2.1 s.2.2.1 s.2.2.2.1 s.2.2.2.2) (fun s t => [(2, .slice t.2.2.2.1 s.2.2.2.2.length t.2.2.2.2), (3, .slice t.2.2.1.1 t.2.1.length t.2.2.1.2), (6, sl p_2 l.length), (7, i6 s.1), (37, sl p_2 l.length), (38, i6 s.2.1), (39, i6 s.2.2.1)]) (fun s t => [Y1 Un t.1, Jw 9 1 (sl p_2 l.length) l.length (l.map Jv), Jw 77 4 (.slice t.2.2.1.1 t.2.1.length t.2.2.1.2) t.2.1.length (t.2.1.map idC), Jw 38 14 (.slice t.2.2.2.1 s.2.2.2.2.length t.2.2.2.2) s.2.2.2.2.length (s.2.2.2.2.map Jg)]) (fun s t => AllC g_face_Person t.1 4 t.2.1 s.2.2.2.1) (0, (l.length : Int), 0, ([] : List Tb), ([] : List Ta)) (Un, ([] : List (List Value)), nn, nn) [0, 1, 2, 3] H96 (by exact (AllC.nil (G := g_face_Person) (h := Un) (sz := 4))) (by exact ⟨rfl, rfl, rfl, rfl, rfl, rfl, rfl, trivial⟩) (by decide) rfl ?_
    rintro ⟨x7_3, x38_2, x39_2, l_6, l_7⟩ ⟨hp_2, css_2, p_5, p_6⟩ m4 gg H108 pf_3
    clear H96
    try dsimp only at H108
    generalize hn4 : it (fun next4 s => Q3 l next4 s.1 s.2.1 s.2.2.1 s.2.2.2.1 s.2.2.2.2) m4 = next4 at H108
    try dsimp only
    refine Jb<|Ja<|lv (Qv rfl rfl)<|Jc<|?_
    try dsimp only [z1, z2, z5, z6, z7, z8]
    refine Jb ?_
    revert H108
    refine ci (decide (x39_2 < x38_2)) rfl (fun hb H109=>?_) fun hb H178=>?_
    ·refine Jj<|Jb<|Jl<|Jb<|Ja<|mv (i6 x39_2)<|?_
     obtain ⟨t42, h_t42, H110⟩ := Je H109; clear H109
     refine Jy (fun w hF hS => X5 underlying31 sizeOf9 rfl rfl (V9 (i := 1) hS rfl) rfl h_t42) rfl rfl rfl<|Jy (fun w hF hS => Ju (f := Jv) (i := x39_2) (sz := 1) (j := 0) (v := Jk t42) isAgg9 rfl rfl (V9 (i := 1) hS rfl) h_t42 rfl) rfl rfl rfl<|ag (i6 x39_2)<|ag (Jk t42)<|Jc<|?_
     try dsimp only [z1, z2, z5, z6, z7, z8]
     refine Jb<|Ja<|mv (Jk t42)<|?_
     obtain ⟨t46, h_t46, H111⟩ := Je H110; clear H110
     refine Qc (k42 h_t46) call42 rfl rfl rfl<|mv (.tuple #[Jk t46.1, .bool t46.2])<|lv (Jm (v := Jk t46.1) rfl rfl)<|lv (Jm (v := .bool t46.2) rfl rfl)<|ag (Jk t46.1)<|ag (.bool t46.2)<|Jc<|?_
     try dsimp only [z1, z2, z5, z6, z7, z8]
     refine Jb<|Ja<|mv (Jk t46.1)<|?_
     obtain ⟨t50, h_t50, H112⟩ := Je H111; clear H111
     refine Zr (Ye (rds := []) (G := fun x : (Option Addr × Nat) => sl x t50.length) (C := fun x : (Option Addr × Nat) => Jw 9 1 (sl x t50.length) t50.length (t50.map Jv)) (fun w L' hF hS hi => k43 (Jr w)  h_t50) call43 rfl) rfl rfl rfl (fun p_7 => ?_)
     refine ag (sl p_7 t50.length)<|Jc<|?_
     try dsimp only [z1, z2, z5, z6, z7, z8]
     refine Jb<|Ja<|mv (.bool t46.2)<|ag (.bool t46.2)<|Jc<|?_
     try dsimp only [z1, z2, z5, z6, z7, z8]
     refine Qi (r := r) (σ := Int × Int × Bool × Int × Int × (List Tb) × (List Ta)) (τ := Jt × (List (List Value)) × (Option Addr × Nat) × (Option Addr × Nat)) (fun s => Xd next4 s.1 s.2.1 s.2.2.1 s.2.2.2.1 s.2.2.2.2.1 s.2.2.2.2.2.1 s.2.2.2.2.2.2) (fun s t => [(2, .slice t.2.2.2.1 s.2.2.2.2.2.2.length t.2.2.2.2), (3, .slice t.2.2.1.1 t.2.1.length t.2.2.1.2), (6, sl p_2 l.length), (7, i6 s.1), (8, i6 s.2.1), (13, .bool s.2.2.1), (37, sl p_2 l.length), (38, i6 s.2.2.2.1), (39, i6 s.2.2.2.2.1)]) (fun s t => [Y1 Un t.1, Jw 9 1 (sl p_2 l.length) l.length (l.map Jv), Jw 77 4 (.slice t.2.2.1.1 t.2.1.length t.2.2.1.2) t.2.1.length (t.2.1.map idC), Jw 38 14 (.slice t.2.2.2.1 s.2.2.2.2.2.2.length t.2.2.2.2) s.2.2.2.2.2.2.length (s.2.2.2.2.2.2.map Jg)]) (fun s t => AllC g_face_Person t.1 4 t.2.1 s.2.2.2.2.2.1) ?_ ?_
     ·refine Jl<|Jb<|Ja<|mv (i6 x7_3)<|lv (Zi rfl rfl)<|ag (.bool (decide (0 < x7_3)))<|Jc<|?_
      try dsimp only [z1, z2, z5, z6, z7, z8]
      revert H112
      refine ci (decide (0 < x7_3)) rfl (fun hb H118=>?_) fun hb H144=>?_
      ·refine Jb<|Ja<|mv (sl p_7 t50.length)<|?_
       obtain ⟨t57, h_t57, H119⟩ := Je H118; clear H118
       refine Jy (v := .slice (Yc p_7.1 (Int.toNat 1) p_7.2 1) t57.length (p_7.2 - Int.toNat 1)) (fun w hF hS => Jbq (xs := t50) underlying31 sizeOf9 rfl rfl rfl (Jc2 (i := 4) hS rfl) h_t57) rfl rfl rfl ?_
       obtain ⟨t58, h_t58, H120⟩ := Je H119; clear H119
       refine Zr (Ye (rds := [4]) (G := fun x : (Option Addr × Nat) => .tuple #[sl x t58.1.length, .bool t58.2]) (C := fun x : (Option Addr × Nat) => Jw 3 1 (sl x t58.1.length) t58.1.length (t58.1.map Jn)) (fun w L' hF hS hi => k44 (Jr w) (FrS.cutL (Jap (i := 4) rfl hS ((hi 4 (by simp)).trans rfl)) h_t57) h_t58) call44 rfl) rfl rfl rfl (fun p_10 => ?_)
       refine mv (.tuple #[sl p_10 t58.1.length, .bool t58.2])<|lv (Jm (v := sl p_10 t58.1.length) rfl rfl)<|lv (Jm (v := .bool t58.2) rfl rfl)<|ag (sl p_10 t58.1.length)<|ag (.bool t58.2)<|Jc<|?_
       try dsimp only [z1, z2, z5, z6, z7, z8]
       refine Qi (r := r) (σ := Bool) (τ := Unit) (fun s => X1 x7_3 x38_2 x39_2 l_6 l_7 next4 t58 s) (fun s t => [(2, sl p_6 l_7.length), (3, sl p_5 css_2.length), (6, sl p_2 l.length), (7, i6 x7_3), (8, i6 x39_2), (13, .bool s), (14, sl p_10 t58.1.length), (37, sl p_2 l.length), (38, i6 x38_2), (39, i6 x39_2)]) (fun s t => [Y1 Un hp_2, Jw 9 1 (sl p_2 l.length) l.length (l.map Jv), Jw 77 4 (sl p_5 css_2.length) css_2.length (css_2.map idC), Jw 38 14 (sl p_6 l_7.length) l_7.length (l_7.map Jg), Jw 3 1 (sl p_10 t58.1.length) t58.1.length (t58.1.map Jn)]) (fun s t => True) ?_ ?_
       ·exact Xp (Kd.p :: Kd.p :: Kd.p :: Kd.p :: Kd.p :: Kd.p :: Kd.d [4] _ :: Kd.d [4] _ :: Kd.ns 6 [_, _, _] 9 3 :: Kd.p :: Kd.p :: Kd.d [6] _ :: Kd.p :: Kd.p :: Kd.p :: []) 1 mixed (by
         refine dm (.bool t46.2)<|dm (.bool t46.2)<|?_
         refine Jfu (fun hb => ?_) (fun hb => ?_)
         ·have H138 := Jen hb H120
          refine dm (.bool t58.2)<|dv (Jdo (v := .bool t58.2) rfl rfl)<|dm (.bool t58.2)<|?_
          refine Jfu (fun hb => ?_) (fun hb => ?_)
          ·have H139 := Jen hb H138
           refine dm (sl p_7 t50.length) ?_
           have h_t67 := Qh H139
           have H140 := J3 H139
           refine Jbl (fun w L' hF hS hi => X5 underlying31 sizeOf9 rfl rfl (V9 (i := 4) (E := 9) (sz := 1) (n := t50.length) (a := p_7.1) (c := p_7.2) hS ((hi 4 (by simp)).trans rfl)) rfl h_t67) rfl rfl<|Jbl (fun w L' hF hS hi => Ju (f := Jv) (i := 0) (sz := 1) (j := 0) (v := Jk (val (Qk t50 0))) isAgg9 rfl rfl (V9 (i := 4) (E := 9) (sz := 1) (n := t50.length) (a := p_7.1) (c := p_7.2) hS ((hi 4 (by simp)).trans rfl)) h_t67 rfl) rfl rfl<|?_
           refine Jfx rfl rfl (Zu (vs := [Jk [], Jk [108, 105, 107, 101, 115], Jk [110, 111, 116, 115]]) (cs := [Jk [], Jk [108, 105, 107, 101, 115], Jk [110, 111, 116, 115]]) underlying31 sizeOf9 zeroValue9 rfl rfl rfl rfl rfl) rfl (fun b3 => ?_)
           refine dm (i6 x7_3) ?_
           have h_t71 := Qh H140
           have H141 := J3 H140
           refine dv (Je2 underlying31 sizeOf9 rfl rfl h_t71 rfl)<|Jbl (fun w L' hF hS hi => Ju (f := Jv) (i := x7_3) (sz := 1) (j := 0) (v := Jk (val (Qk ([[], [108, 105, 107, 101, 115], [110, 111, 116, 115]] : List (List UInt8)) x7_3))) isAgg9 rfl rfl (Jbi (sz := 1) (xs := ([[], [108, 105, 107, 101, 115], [110, 111, 116, 115]] : List (List UInt8)).map Jv) (i := 6) hS ((hi 6 (by simp)).trans rfl) rfl rfl) h_t71 rfl) rfl rfl<|dv (V3 rfl rfl)<|dv (Jdo (v := .bool (decide ((val (Qk t50 0)) = (val (Qk ([[], [108, 105, 107, 101, 115], [110, 111, 116, 115]] : List (List UInt8)) x7_3))))) rfl rfl)<|W6 rfl rfl (Xs (v := .bool (decide ((val (Qk t50 0)) = (val (Qk ([[], [108, 105, 107, 101, 115], [110, 111, 116, 115]] : List (List UInt8)) x7_3))))) rfl)<|Wk<|?_
           try dsimp only [z1, z2, z5, z6, z7, z8]
           exact cl (decide ((val (Qk t50 0)) = (val (Qk ([[], [108, 105, 107, 101, 115], [110, 111, 116, 115]] : List (List UInt8)) x7_3)))) () 0 [0, 1, 2, 3, 5] (by exact ⟨H141, trivial⟩)
          ·have H142 := Jei hb H138
           refine dp<|dp<|dp<|dp<|dp<|dp<|dp<|dp<|dv (Jcv (v := .bool false) rfl rfl)<|W6 rfl rfl (Xs (v := .bool false) rfl)<|Wk<|?_
           try dsimp only [z1, z2, z5, z6, z7, z8]
           exact cl false () 0 [0, 1, 2, 3, 5] (by exact ⟨H142, trivial⟩)
         ·have H143 := Jei hb H120
          refine dp<|dv (Jcv (v := .bool false) rfl rfl)<|dm (.bool false)<|dp<|dp<|dp<|dp<|dp<|dp<|dp<|dp<|dv (Jcv (v := .bool false) rfl rfl)<|W6 rfl rfl (Xs (v := .bool false) rfl)<|Wk<|?_
          try dsimp only [z1, z2, z5, z6, z7, z8]
          exact cl false () 0 [0, 1, 2, 3, 5] (by exact ⟨H143, trivial⟩)
         ) (by kernel_rfl)
       ·rintro x13_2 _ gg H121 _
        try dsimp only at H121
        try dsimp only
        refine Qi (r := r) (σ := (List Tb)) (τ := Jt × (List (List Value)) × (Option Addr × Nat)) (fun s => Wn x7_3 x38_2 x39_2 l_7 next4 x13_2 s) (fun s t => [(2, sl p_6 l_7.length), (3, .slice t.2.2.1 t.2.1.length t.2.2.2), (6, sl p_2 l.length), (7, i6 x7_3), (8, i6 x39_2), (13, .bool x13_2), (37, sl p_2 l.length), (38, i6 x38_2), (39, i6 x39_2)]) (fun s t => [Y1 Un t.1, Jw 9 1 (sl p_2 l.length) l.length (l.map Jv), Jw 77 4 (.slice t.2.2.1 t.2.1.length t.2.2.2) t.2.1.length (t.2.1.map idC), Jw 38 14 (sl p_6 l_7.length) l_7.length (l_7.map Jg)]) (fun s t => AllC g_face_Person t.1 4 t.2.1 s) ?_ ?_
        ·refine Qi (r := r) (σ := Bool) (τ := Unit) (fun s => Ur x7_3 x38_2 x39_2 l_6 l_7 next4 t58 x13_2 s) (fun s t => [(2, sl p_6 l_7.length), (3, sl p_5 css_2.length), (6, sl p_2 l.length), (7, i6 x7_3), (8, i6 x39_2), (13, .bool x13_2), (14, sl p_10 t58.1.length), (37, sl p_2 l.length), (38, i6 x38_2), (39, i6 x39_2), (79, .bool s)]) (fun s t => [Y1 Un hp_2, Jw 9 1 (sl p_2 l.length) l.length (l.map Jv), Jw 77 4 (sl p_5 css_2.length) css_2.length (css_2.map idC), Jw 38 14 (sl p_6 l_7.length) l_7.length (l_7.map Jg), Jw 3 1 (sl p_10 t58.1.length) t58.1.length (t58.1.map Jn)]) (fun s t => True) ?_ ?_
         ·refine Ja<|mv (.bool x13_2)<|mv (.bool x13_2)<|?_
          revert H121
          refine sp (fun hb H136=>?_) fun hb H137=>?_
          ·refine mv (i6 x7_3)<|lv (Y4 rfl rfl)<|pT (.bool (decide (x7_3 = 1)))<|Jc<|?_
           try dsimp only [z1, z2, z5, z6, z7, z8]
           exact cl (decide (x7_3 = 1)) () 0 [0, 1, 2, 3, 4] (by exact ⟨H136, trivial⟩)
          ·refine pa<|pa<|pF (.bool false)<|Jc<|?_
           try dsimp only [z1, z2, z5, z6, z7, z8]
           exact cl false () 0 [0, 1, 2, 3, 4] (by exact ⟨H137, trivial⟩)
         ·rintro x79 _ gg H125 _
          try dsimp only at H125
          try dsimp only
          revert H125
          refine ci x79 rfl (fun hb H126=>?_) fun hb H130=>?_
          ·refine Ja<|mv (sl p_5 css_2.length)<|mv (sl p_5 css_2.length)<|lv (r_lenN underlying23 rfl pf_3.len)<|?_
           obtain ⟨t83, h_t83, H127⟩ := Je H126; clear H126
           refine lv (Ym rfl rfl h_t83)<|mv (sl p_10 t58.1.length)<|?_
           obtain ⟨t85, h_t85, H128⟩ := Je H127; clear H127
           refine Jy (fun w hF hS => X5 underlying23 sizeOf77 rfl rfl (V9 (i := 2) hS rfl) rfl (pf_3.ix h_t85)) rfl rfl rfl ?_
           refine c_know (fun w hF hS => someOf (i := 2) hS rfl (pf_3.ix h_t85)) (fun hs => ?_)
           refine lv (Us runUnderlying77 rfl sizeOf75 rfl rfl hs) ?_
           try dsimp only [z1, z2, z5, z6, z7, z8]
           refine Jdw (Φ := fun H_ => FrS H_ 1 (sl p_10 t58.1.length) (t58.1.map Jn)) 0 4 rfl rfl (by decide) (fun _ _ => Jbw) (fz_own _) (fun hp_5 hle hf => ?_)
           obtain ⟨l2, h_l2, H129⟩ := Je H128; clear H128
           refine Jdl (Jb4 (q := 2) (j := 2) (i := t83) (sz := 4) (x := (sl p_10 t58.1.length)) (css := css_2) (xe := t85) rfl (pf_3.mono hle).len sizeOf75 rfl rfl rfl rfl rfl rfl rfl h_t85) rfl rfl (fun _ => ?_)
           have pf_6 : AllC g_face_Person hp_5 4 (setR css_2 t83 2 (sl p_10 t58.1.length)) l2 := AllC.setR (pf_3.mono hle) h_t85 h_l2 rfl (by obtain ⟨q0_, q1_, q2_, q3_⟩ := (pf_3.mono hle).at h_t85; exact ⟨q0_, q1_, hf, q3_⟩)
           refine Jc ?_
           try dsimp only [z1, z2, z5, z6, z7, z8]
           rw [show css_2.length = (setR css_2 t83 2 (sl p_10 t58.1.length)).length from (rfl.trans (Jax _ _ _ _).symm)]
           exact cl l2 (hp_5, (setR css_2 t83 2 (sl p_10 t58.1.length)), p_5) 0 [0, 1, 2, 3] (by exact ⟨H129, pf_6⟩)
          ·refine Jb<|Ja<|mv (.bool x13_2)<|Jc<|?_
           try dsimp only [z1, z2, z5, z6, z7, z8]
           revert H130
           refine ci x13_2 rfl (fun hb H131=>?_) fun hb H135=>?_
           ·refine Ja<|mv (sl p_5 css_2.length)<|mv (sl p_5 css_2.length)<|lv (r_lenN underlying23 rfl pf_3.len)<|?_
            obtain ⟨t91, h_t91, H132⟩ := Je H131; clear H131
            refine lv (Ym rfl rfl h_t91)<|mv (sl p_10 t58.1.length)<|?_
            obtain ⟨t93, h_t93, H133⟩ := Je H132; clear H132
            refine Jy (fun w hF hS => X5 underlying23 sizeOf77 rfl rfl (V9 (i := 2) hS rfl) rfl (pf_3.ix h_t93)) rfl rfl rfl ?_
            refine c_know (fun w hF hS => someOf (i := 2) hS rfl (pf_3.ix h_t93)) (fun hs_2 => ?_)
            refine lv (Us runUnderlying77 rfl sizeOf75 rfl rfl hs_2) ?_
            try dsimp only [z1, z2, z5, z6, z7, z8]
            refine Jdw (Φ := fun H_ => FrS H_ 1 (sl p_10 t58.1.length) (t58.1.map Jn)) 0 4 rfl rfl (by decide) (fun _ _ => Jbw) (fz_own _) (fun hp_6 hle_2 hf_2 => ?_)
            obtain ⟨l2_2, h_l2_2, H134⟩ := Je H133; clear H133
            refine Jdl (Jb4 (q := 2) (j := 3) (i := t91) (sz := 4) (x := (sl p_10 t58.1.length)) (css := css_2) (xe := t93) rfl (pf_3.mono hle_2).len sizeOf75 rfl rfl rfl rfl rfl rfl rfl h_t93) rfl rfl (fun _ => ?_)
            have pf_7 : AllC g_face_Person hp_6 4 (setR css_2 t91 3 (sl p_10 t58.1.length)) l2_2 := AllC.setR (pf_3.mono hle_2) h_t93 h_l2_2 rfl (by obtain ⟨q0_, q1_, q2_, q3_⟩ := (pf_3.mono hle_2).at h_t93; exact ⟨q0_, q1_, q2_, hf_2⟩)
            refine Jc ?_
            try dsimp only [z1, z2, z5, z6, z7, z8]
            rw [show css_2.length = (setR css_2 t91 3 (sl p_10 t58.1.length)).length from (rfl.trans (Jax _ _ _ _).symm)]
            exact cl l2_2 (hp_6, (setR css_2 t91 3 (sl p_10 t58.1.length)), p_5) 0 [0, 1, 2, 3] (by exact ⟨H134, pf_7⟩)
           ·refine Jj ?_
            exact cl l_6 (hp_2, css_2, p_5) 0 [0, 1, 2, 3] (by exact ⟨H135, pf_3⟩)
        ·rintro l_10 ⟨hp_4, css_4, p_11⟩ gg H122 pf_5
         try dsimp only at H122
         try dsimp only
         refine Ja<|mv (i6 x7_3)<|?_
         obtain ⟨t96, h_t96, H123⟩ := Je H122; clear H122
         refine lv (Qe rfl rfl h_t96) ?_
         obtain ⟨t97, h_t97, H124⟩ := Je H123; clear H123
         refine lv (r_remG rfl rfl h_t97)<|ag (i6 t97)<|Jc<|?_
         try dsimp only [z1, z2, z5, z6, z7, z8]
         exact cl (t97, x39_2, x13_2, x38_2, x39_2, l_10, l_7) (hp_4, css_4, p_11, p_6) 0 [0, 1, 2, 3] (by exact ⟨H124, pf_5⟩)
      ·refine Qi (r := r) (σ := Bool) (τ := Unit) (fun s => Zj x7_3 x38_2 x39_2 l_6 l_7 next4 t46 t50 s) (fun s t => [(2, sl p_6 l_7.length), (3, sl p_5 css_2.length), (6, sl p_2 l.length), (7, i6 x7_3), (8, i6 x39_2), (12, sl p_7 t50.length), (13, .bool t46.2), (37, sl p_2 l.length), (38, i6 x38_2), (39, i6 x39_2), (98, .bool s)]) (fun s t => [Y1 Un hp_2, Jw 9 1 (sl p_2 l.length) l.length (l.map Jv), Jw 77 4 (sl p_5 css_2.length) css_2.length (css_2.map idC), Jw 38 14 (sl p_6 l_7.length) l_7.length (l_7.map Jg), Jw 9 1 (sl p_7 t50.length) t50.length (t50.map Jv)]) (fun s t => True) ?_ ?_
       ·refine Ja<|mv (sl p_7 t50.length)<|?_
        obtain ⟨t100, h_t100, H175⟩ := Je H144; clear H144
        refine Jy (fun w hF hS => X5 underlying31 sizeOf9 rfl rfl (V9 (i := 4) hS rfl) rfl h_t100) rfl rfl rfl<|Jy (fun w hF hS => Ju (f := Jv) (i := 0) (sz := 1) (j := 0) (v := Jk t100) isAgg9 rfl rfl (V9 (i := 4) hS rfl) h_t100 rfl) rfl rfl rfl<|lv (V3 rfl rfl)<|mv (.bool (decide (t100 = [102, 97, 99, 101])))<|?_
        revert H175
        refine sp (fun hb H176=>?_) fun hb H177=>?_
        ·refine mv (sl p_5 css_2.length)<|lv (r_lenN underlying23 rfl pf_3.len)<|lv (Y4 rfl rfl)<|pT (.bool (decide ((l_6.length : Int) = 0)))<|ag (.bool (decide ((l_6.length : Int) = 0)))<|Jc<|?_
         try dsimp only [z1, z2, z5, z6, z7, z8]
         exact cl (decide ((l_6.length : Int) = 0)) () 0 [0, 1, 2, 3, 4] (by exact ⟨H176, trivial⟩)
        ·refine pa<|pa<|pa<|pF (.bool false)<|ag (.bool false)<|Jc<|?_
         try dsimp only [z1, z2, z5, z6, z7, z8]
         exact cl false () 0 [0, 1, 2, 3, 4] (by exact ⟨H177, trivial⟩)
       ·rintro x98 _ gg H145 _
        try dsimp only at H145
        try dsimp only
        revert H145
        refine ci x98 rfl (fun hb H146=>?_) fun hb H161=>?_
        ·refine Jb<|Ja<|mv (sl p_7 t50.length)<|?_
         obtain ⟨t110, h_t110, H147⟩ := Je H146; clear H146
         refine Jy (v := .slice (Yc p_7.1 (Int.toNat 1) p_7.2 1) t110.length (p_7.2 - Int.toNat 1)) (fun w hF hS => Jbq (xs := t50) underlying31 sizeOf9 rfl rfl rfl (Jc2 (i := 4) hS rfl) h_t110) rfl rfl rfl ?_
         obtain ⟨t111, h_t111, H148⟩ := Je H147; clear H147
         refine Zr (Ye (rds := [4]) (G := fun x : (Option Addr × Nat) => .tuple #[sl x t111.1.length, .bool t111.2]) (C := fun x : (Option Addr × Nat) => Jw 3 1 (sl x t111.1.length) t111.1.length (t111.1.map Jn)) (fun w L' hF hS hi => k44 (Jr w) (FrS.cutL (Jap (i := 4) rfl hS ((hi 4 (by simp)).trans rfl)) h_t110) h_t111) call44 rfl) rfl rfl rfl (fun p_12 => ?_)
         refine mv (.tuple #[sl p_12 t111.1.length, .bool t111.2])<|lv (Jm (v := sl p_12 t111.1.length) rfl rfl)<|lv (Jm (v := .bool t111.2) rfl rfl)<|ag (sl p_12 t111.1.length)<|ag (.bool t111.2)<|Jc<|?_
         try dsimp only [z1, z2, z5, z6, z7, z8]
         refine Qi (r := r) (σ := Bool) (τ := Unit) (fun s => Xz x7_3 x38_2 x39_2 l_6 l_7 next4 t111 s) (fun s t => [(2, sl p_6 l_7.length), (3, sl p_5 css_2.length), (6, sl p_2 l.length), (7, i6 x7_3), (8, i6 x39_2), (13, .bool s), (16, sl p_12 t111.1.length), (37, sl p_2 l.length), (38, i6 x38_2), (39, i6 x39_2)]) (fun s t => [Y1 Un hp_2, Jw 9 1 (sl p_2 l.length) l.length (l.map Jv), Jw 77 4 (sl p_5 css_2.length) css_2.length (css_2.map idC), Jw 38 14 (sl p_6 l_7.length) l_7.length (l_7.map Jg), Jw 3 1 (sl p_12 t111.1.length) t111.1.length (t111.1.map Jn)]) (fun s t => True) ?_ ?_
         ·refine Ja<|mv (.bool t46.2)<|mv (.bool t46.2)<|?_
          revert H148
          refine sp (fun hb H157=>?_) fun hb H160=>?_
          ·refine mv (.bool t111.2)<|pT (.bool t111.2)<|mv (.bool t111.2)<|?_
           revert H157
           refine sp (fun hb H158=>?_) fun hb H159=>?_
           ·refine mv (sl p_12 t111.1.length)<|lv (Wx underlying75 rfl)<|lv (Y4 rfl rfl)<|pT (.bool (decide ((t111.1.length : Int) = 14)))<|ag (.bool (decide ((t111.1.length : Int) = 14)))<|Jc<|?_
            try dsimp only [z1, z2, z5, z6, z7, z8]
            exact cl (decide ((t111.1.length : Int) = 14)) () 0 [0, 1, 2, 3, 5] (by exact ⟨H158, trivial⟩)
           ·refine pa<|pa<|pa<|pF (.bool false)<|ag (.bool false)<|Jc<|?_
            try dsimp only [z1, z2, z5, z6, z7, z8]
            exact cl false () 0 [0, 1, 2, 3, 5] (by exact ⟨H159, trivial⟩)
          ·refine pa<|pF (.bool false)<|mv (.bool false)<|pa<|pa<|pa<|pF (.bool false)<|ag (.bool false)<|Jc<|?_
           try dsimp only [z1, z2, z5, z6, z7, z8]
           exact cl false () 0 [0, 1, 2, 3, 5] (by exact ⟨H160, trivial⟩)
         ·rintro x13_3 _ gg H149 _
          try dsimp only at H149
          try dsimp only
          refine Jb<|Ja<|mv (.bool x13_3)<|Jc<|?_
          try dsimp only [z1, z2, z5, z6, z7, z8]
          revert H149
          refine ci x13_3 rfl (fun hb H150=>?_) fun hb H156=>?_
          ·exact Xp (Kd.p :: Kd.p :: Kd.d [4] _ :: Kd.d [4] _ :: Kd.p :: Kd.d [4] _ :: Kd.d [4] _ :: Kd.p :: Kd.d [4] _ :: Kd.p :: Kd.d [4] _ :: Kd.p :: Kd.ns 5 [_, _, _, _, _, _, _, _, _, _, _, _, _, _] 38 1 :: Kd.t 3 [5] _ _ :: Kd.p :: []) 1 mixed (by
            refine dm (sl p_6 l_7.length)<|dm (sl p_12 t111.1.length)<|?_
            have h_t126 := Qh H150
            have H151 := J3 H150
            refine Jbl (fun w L' hF hS hi => X5 underlying75 sizeOf3 rfl rfl (V9 (i := 4) (E := 3) (sz := 1) (n := t111.1.length) (a := p_12.1) (c := p_12.2) hS ((hi 4 (by simp)).trans rfl)) rfl h_t126) rfl rfl<|Jbl (fun w L' hF hS hi => Ju (f := Jn) (i := 0) (sz := 1) (j := 0) (v := i6 (val (Qk t111.1 0))) isAgg3 rfl rfl (V9 (i := 4) (E := 3) (sz := 1) (n := t111.1.length) (a := p_12.1) (c := p_12.2) hS ((hi 4 (by simp)).trans rfl)) h_t126 rfl) rfl rfl<|dm (sl p_12 t111.1.length)<|?_
            have h_t129 := Qh H151
            have H152 := J3 H151
            refine Jbl (fun w L' hF hS hi => X5 underlying75 sizeOf3 rfl rfl (V9 (i := 4) (E := 3) (sz := 1) (n := t111.1.length) (a := p_12.1) (c := p_12.2) hS ((hi 4 (by simp)).trans rfl)) rfl h_t129) rfl rfl<|Jbl (fun w L' hF hS hi => Ju (f := Jn) (i := 1) (sz := 1) (j := 0) (v := i6 (val (Qk t111.1 1))) isAgg3 rfl rfl (V9 (i := 4) (E := 3) (sz := 1) (n := t111.1.length) (a := p_12.1) (c := p_12.2) hS ((hi 4 (by simp)).trans rfl)) h_t129 rfl) rfl rfl<|dm (sl p_12 t111.1.length)<|?_
            have h_t132 := Qh H152
            have H153 := J3 H152
            refine Jbl (v := .slice (Yc p_12.1 (Int.toNat 2) p_12.2 1) (val (Qd t111.1 2 t111.1.length)).length (p_12.2 - Int.toNat 2)) (fun w L' hF hS hi => Jbq (xs := t111.1) underlying75 sizeOf3 rfl rfl rfl (Jc2 (i := 4) hS ((hi 4 (by simp)).trans rfl)) h_t132) rfl rfl ?_
            have h_u133 := Qh H153
            have H154 := J3 H153
            refine dv (r_sap runUnderlying36 rfl (gIf_some h_u133))<|Jbl (fun w L' hF hS hi => run_loadSA (n := 12) (f := Jn) (xs := (val (Qd t111.1 2 t111.1.length))) (vs := [i6 ((W0 (val (Qd t111.1 2 t111.1.length))) 0), i6 ((W0 (val (Qd t111.1 2 t111.1.length))) 1), i6 ((W0 (val (Qd t111.1 2 t111.1.length))) 2), i6 ((W0 (val (Qd t111.1 2 t111.1.length))) 3), i6 ((W0 (val (Qd t111.1 2 t111.1.length))) 4), i6 ((W0 (val (Qd t111.1 2 t111.1.length))) 5), i6 ((W0 (val (Qd t111.1 2 t111.1.length))) 6), i6 ((W0 (val (Qd t111.1 2 t111.1.length))) 7), i6 ((W0 (val (Qd t111.1 2 t111.1.length))) 8), i6 ((W0 (val (Qd t111.1 2 t111.1.length))) 9), i6 ((W0 (val (Qd t111.1 2 t111.1.length))) 10), i6 ((W0 (val (Qd t111.1 2 t111.1.length))) 11)]) isAgg36 sizeOf36 rfl (Row.cutG (V9 (i := 4) (E := 3) (sz := 1) (n := t111.1.length) (a := p_12.1) (c := p_12.2) hS ((hi 4 (by simp)).trans rfl)) rfl (Jc2 (i := 4) hS ((hi 4 (by simp)).trans rfl)) h_t132) (gIf_some h_u133) rfl rfl (fun _ => rfl) rfl) rfl rfl<|dv (Je7 (pl := #[(0, 1), (1, 1), (2, 12)]) (ps := [(0, i6 (val (Qk t111.1 0))), (1, i6 (val (Qk t111.1 1))), (2, .agg #[i6 ((W0 (val (Qd t111.1 2 t111.1.length))) 0), i6 ((W0 (val (Qd t111.1 2 t111.1.length))) 1), i6 ((W0 (val (Qd t111.1 2 t111.1.length))) 2), i6 ((W0 (val (Qd t111.1 2 t111.1.length))) 3), i6 ((W0 (val (Qd t111.1 2 t111.1.length))) 4), i6 ((W0 (val (Qd t111.1 2 t111.1.length))) 5), i6 ((W0 (val (Qd t111.1 2 t111.1.length))) 6), i6 ((W0 (val (Qd t111.1 2 t111.1.length))) 7), i6 ((W0 (val (Qd t111.1 2 t111.1.length))) 8), i6 ((W0 (val (Qd t111.1 2 t111.1.length))) 9), i6 ((W0 (val (Qd t111.1 2 t111.1.length))) 10), i6 ((W0 (val (Qd t111.1 2 t111.1.length))) 11)])]) (cells := #[i6 (val (Qk t111.1 0)), i6 (val (Qk t111.1 1)), i6 ((W0 (val (Qd t111.1 2 t111.1.length))) 0), i6 ((W0 (val (Qd t111.1 2 t111.1.length))) 1), i6 ((W0 (val (Qd t111.1 2 t111.1.length))) 2), i6 ((W0 (val (Qd t111.1 2 t111.1.length))) 3), i6 ((W0 (val (Qd t111.1 2 t111.1.length))) 4), i6 ((W0 (val (Qd t111.1 2 t111.1.length))) 5), i6 ((W0 (val (Qd t111.1 2 t111.1.length))) 6), i6 ((W0 (val (Qd t111.1 2 t111.1.length))) 7), i6 ((W0 (val (Qd t111.1 2 t111.1.length))) 8), i6 ((W0 (val (Qd t111.1 2 t111.1.length))) 9), i6 ((W0 (val (Qd t111.1 2 t111.1.length))) 10), i6 ((W0 (val (Qd t111.1 2 t111.1.length))) 11)]) zeroValue38 runUnderlying38 (fun w => by kernel_rfl) rfl (by kernel_rfl))<|?_
            refine Jfx rfl rfl (Zu (vs := [.agg #[i6 (val (Qk t111.1 0)), i6 (val (Qk t111.1 1)), i6 ((W0 (val (Qd t111.1 2 t111.1.length))) 0), i6 ((W0 (val (Qd t111.1 2 t111.1.length))) 1), i6 ((W0 (val (Qd t111.1 2 t111.1.length))) 2), i6 ((W0 (val (Qd t111.1 2 t111.1.length))) 3), i6 ((W0 (val (Qd t111.1 2 t111.1.length))) 4), i6 ((W0 (val (Qd t111.1 2 t111.1.length))) 5), i6 ((W0 (val (Qd t111.1 2 t111.1.length))) 6), i6 ((W0 (val (Qd t111.1 2 t111.1.length))) 7), i6 ((W0 (val (Qd t111.1 2 t111.1.length))) 8), i6 ((W0 (val (Qd t111.1 2 t111.1.length))) 9), i6 ((W0 (val (Qd t111.1 2 t111.1.length))) 10), i6 ((W0 (val (Qd t111.1 2 t111.1.length))) 11)]]) (cs := [i6 (val (Qk t111.1 0)), i6 (val (Qk t111.1 1)), i6 ((W0 (val (Qd t111.1 2 t111.1.length))) 0), i6 ((W0 (val (Qd t111.1 2 t111.1.length))) 1), i6 ((W0 (val (Qd t111.1 2 t111.1.length))) 2), i6 ((W0 (val (Qd t111.1 2 t111.1.length))) 3), i6 ((W0 (val (Qd t111.1 2 t111.1.length))) 4), i6 ((W0 (val (Qd t111.1 2 t111.1.length))) 5), i6 ((W0 (val (Qd t111.1 2 t111.1.length))) 6), i6 ((W0 (val (Qd t111.1 2 t111.1.length))) 7), i6 ((W0 (val (Qd t111.1 2 t111.1.length))) 8), i6 ((W0 (val (Qd t111.1 2 t111.1.length))) 9), i6 ((W0 (val (Qd t111.1 2 t111.1.length))) 10), i6 ((W0 (val (Qd t111.1 2 t111.1.length))) 11)]) underlying22 sizeOf38 zeroValue38 rfl rfl rfl rfl rfl) rfl (fun b4 => ?_)
            have h_l137 := Qh H154
            have H155 := J3 H154
            refine Jew (Cv := fun v => Jw 38 14 v (val (Ja4 112 l_7 ([(⟨(val (Qk t111.1 0)), (val (Qk t111.1 1)), (W0 (val (Qd t111.1 2 t111.1.length)))⟩ : Ta)] : List Ta))).length ((val (Ja4 112 l_7 ([(⟨(val (Qk t111.1 0)), (val (Qk t111.1 1)), (W0 (val (Qd t111.1 2 t111.1.length)))⟩ : Ta)] : List Ta))).map Jg)) (none, 0) (Jbd (i := 3) (hn := rfl) (rds := [5]) (p := p_6) (sz := 14) (by_ := 112) (f := Jg) (ys := l_7) (ls := ([(⟨(val (Qk t111.1 0)), (val (Qk t111.1 1)), (W0 (val (Qd t111.1 2 t111.1.length)))⟩ : Ta)] : List Ta)) (V := .slice (some ⟨b4, 0, none⟩) 1 1) underlying22 (Vo typeInfo38) rfl rfl rfl rfl rfl rfl rfl rfl rfl rfl (fun w L' hF hS hi => Jbi (i := 5) hS ((hi 5 (by simp)).trans rfl) rfl rfl) (fun _ => rfl) (fun _ => rfl) h_l137) (fun _ => rfl) rfl rfl (fun p_13 => ?_)
            refine W6 rfl rfl (Xs (v := .slice p_13.1 (val (Ja4 112 l_7 ([(⟨(val (Qk t111.1 0)), (val (Qk t111.1 1)), (W0 (val (Qd t111.1 2 t111.1.length)))⟩ : Ta)] : List Ta))).length p_13.2) rfl)<|Wk<|?_
            try dsimp only [z1, z2, z5, z6, z7, z8]
            exact cl (x7_3, x39_2, x13_3, x38_2, x39_2, l_6, (val (Ja4 112 l_7 ([(⟨(val (Qk t111.1 0)), (val (Qk t111.1 1)), (W0 (val (Qd t111.1 2 t111.1.length)))⟩ : Ta)] : List Ta)))) (hp_2, css_2, p_5, p_13) 0 [0, 1, 2, 3] (by exact ⟨H155, pf_3⟩)
            ) (by kernel_rfl)
          ·refine Jj ?_
           exact cl (x7_3, x39_2, x13_3, x38_2, x39_2, l_6, l_7) (hp_2, css_2, p_5, p_6) 0 [0, 1, 2, 3] (by exact ⟨H156, pf_3⟩)
        ·refine Jb<|Ja<|mv (sl p_7 t50.length)<|?_
         obtain ⟨t140, h_t140, H162⟩ := Je H161; clear H161
         refine Jy (fun w hF hS => X5 underlying31 sizeOf9 rfl rfl (V9 (i := 4) hS rfl) rfl h_t140) rfl rfl rfl<|Jy (fun w hF hS => Ju (f := Jv) (i := 0) (sz := 1) (j := 0) (v := Jk t140) isAgg9 rfl rfl (V9 (i := 4) hS rfl) h_t140 rfl) rfl rfl rfl<|lv (V3 rfl rfl)<|mv (.bool (decide (t140 = [112, 101, 114, 115, 111, 110])))<|?_
         revert H162
         refine sp (fun hb H163=>?_) fun hb H174=>?_
         ·refine mv (sl p_7 t50.length)<|lv (Wx underlying31 rfl)<|lv (Jcg rfl rfl)<|pT (.bool (decide (3 ≤ (t50.length : Int))))<|ag (.bool (decide (3 ≤ (t50.length : Int))))<|Jc<|?_
          try dsimp only [z1, z2, z5, z6, z7, z8]
          revert H163
          refine ci (decide (3 ≤ (t50.length : Int))) rfl (fun hb H164=>?_) fun hb H173=>?_
          ·refine Jb<|Ja<|mv (sl p_7 t50.length)<|?_
           obtain ⟨t150, h_t150, H165⟩ := Je H164; clear H164
           refine Jy (fun w hF hS => X5 underlying31 sizeOf9 rfl rfl (V9 (i := 4) hS rfl) rfl h_t150) rfl rfl rfl<|Jy (fun w hF hS => Ju (f := Jv) (i := 1) (sz := 1) (j := 0) (v := Jk t150) isAgg9 rfl rfl (V9 (i := 4) hS rfl) h_t150 rfl) rfl rfl rfl<|?_
           obtain ⟨t152, h_t152, H166⟩ := Je H165; clear H165
           refine Qc (k45 h_t152) call45 rfl rfl rfl<|mv (.tuple #[i6 t152.1, .bool t152.2])<|lv (Jm (v := i6 t152.1) rfl rfl)<|lv (Jm (v := .bool t152.2) rfl rfl)<|ag (i6 t152.1)<|ag (.bool t152.2)<|Jc<|?_
           try dsimp only [z1, z2, z5, z6, z7, z8]
           refine Qi (r := r) (σ := Bool) (τ := Unit) (fun s => W4 x38_2 x39_2 l_6 l_7 next4 t50 t152 s) (fun s t => [(2, sl p_6 l_7.length), (3, sl p_5 css_2.length), (6, sl p_2 l.length), (8, i6 x39_2), (12, sl p_7 t50.length), (13, .bool s), (18, i6 t152.1), (37, sl p_2 l.length), (38, i6 x38_2), (39, i6 x39_2), (144, sl p_7 t50.length), (145, i6 (t50.length : Int)), (146, .bool (decide (3 ≤ (t50.length : Int))))]) (fun s t => [Y1 Un hp_2, Jw 9 1 (sl p_2 l.length) l.length (l.map Jv), Jw 77 4 (sl p_5 css_2.length) css_2.length (css_2.map idC), Jw 38 14 (sl p_6 l_7.length) l_7.length (l_7.map Jg), Jw 9 1 (sl p_7 t50.length) t50.length (t50.map Jv)]) (fun s t => True) ?_ ?_
           ·refine Ja<|mv (.bool t46.2)<|mv (.bool t46.2)<|?_
            revert H166
            refine sp (fun hb H171=>?_) fun hb H172=>?_
            ·refine mv (.bool t152.2)<|pT (.bool t152.2)<|ag (.bool t152.2)<|Jc<|?_
             try dsimp only [z1, z2, z5, z6, z7, z8]
             exact cl t152.2 () 0 [0, 1, 2, 3, 4] (by exact ⟨H171, trivial⟩)
            ·refine pa<|pF (.bool false)<|ag (.bool false)<|Jc<|?_
             try dsimp only [z1, z2, z5, z6, z7, z8]
             exact cl false () 0 [0, 1, 2, 3, 4] (by exact ⟨H172, trivial⟩)
           ·rintro x13_4 _ gg H167 _
            try dsimp only at H167
            try dsimp only
            refine Jb<|Ja<|mv (sl p_5 css_2.length)<|mv (i6 t152.1)<|mv (sl p_7 t50.length)<|?_
            obtain ⟨t162, h_t162, H168⟩ := Je H167; clear H167
            refine Jy (v := .slice (Yc p_7.1 (Int.toNat 2) p_7.2 1) t162.length (p_7.2 - Int.toNat 2)) (fun w hF hS => Jbq (xs := t50) underlying31 sizeOf9 rfl rfl rfl (Jc2 (i := 4) hS rfl) h_t162) rfl rfl rfl ?_
            obtain ⟨t163, h_t163, H169⟩ := Je H168; clear H168
            refine Qm (fun w hF hS => k46 (Jr w) (FrS.cutL (Jap (i := 4) rfl hS rfl) h_t162) h_t163) call46 rfl rfl rfl<|lv (Je7 (pl := #[(0, 1), (1, 1), (2, 1), (3, 1)]) (ps := [(0, i6 t152.1), (1, Jk t163)]) (cells := #[i6 t152.1, Jk t163, .slice none 0 0, .slice none 0 0]) zeroValue77 runUnderlying77 (fun w => by kernel_rfl) rfl rfl)<|?_
            refine Yu (vs := [.agg #[i6 t152.1, Jk t163, .slice none 0 0, .slice none 0 0]]) (cs := [i6 t152.1, Jk t163, .slice none 0 0, .slice none 0 0]) underlying23 sizeOf77 zeroValue77 rfl rfl rfl rfl rfl rfl rfl (fun b5 => ?_)
            obtain ⟨l166, h_l166, H170⟩ := Je H169; clear H169
            refine Xl (Jeh (i := 2) (k := 5) (p := p_5) (f := idC) (ys := css_2) (ls := [[i6 t152.1, Jk t163, .slice none 0 0, .slice none 0 0]]) underlying23 (Vo typeInfo77) rfl rfl rfl rfl rfl rfl rfl rfl rfl rfl rfl rfl rfl rfl rfl (app63 (pf_3.app h_l166 (nc := [[i6 t152.1, Jk t163, .slice none 0 0, .slice none 0 0]]) rfl)) rfl) rfl rfl rfl (fun p_14 => ?_)
            have pf_8 : AllC g_face_Person hp_2 4 (css_2 ++ [[i6 t152.1, Jk t163, .slice none 0 0, .slice none 0 0]]) l166 := AllC.snocG pf_3 h_l166 rfl (⟨rfl, rfl, (FrS.nil _ _), (FrS.nil _ _)⟩)
            refine ag (sl p_14 ((css_2 ++ [[i6 t152.1, Jk t163, .slice none 0 0, .slice none 0 0]]).length))<|Jc<|?_
            try dsimp only [z1, z2, z5, z6, z7, z8]
            refine Ja<|ag (i6 1)<|Jc<|?_
            try dsimp only [z1, z2, z5, z6, z7, z8]
            exact cl (1, x39_2, x13_4, x38_2, x39_2, l166, l_7) (hp_2, (css_2 ++ [[i6 t152.1, Jk t163, .slice none 0 0, .slice none 0 0]]), p_14, p_6) 0 [0, 1, 2, 3] (by exact ⟨H170, pf_8⟩)
          ·refine Ja<|ag (.bool false)<|Jc<|?_
           try dsimp only [z1, z2, z5, z6, z7, z8]
           exact cl (x7_3, x39_2, false, x38_2, x39_2, l_6, l_7) (hp_2, css_2, p_5, p_6) 0 [0, 1, 2, 3] (by exact ⟨H173, pf_3⟩)
         ·refine pa<|pa<|pa<|pF (.bool false)<|ag (.bool false)<|Jc<|?_
          try dsimp only [z1, z2, z5, z6, z7, z8]
          refine Zf rfl<|Ja<|ag (.bool false)<|Jc<|?_
          try dsimp only [z1, z2, z5, z6, z7, z8]
          exact cl (x7_3, x39_2, false, x38_2, x39_2, l_6, l_7) (hp_2, css_2, p_5, p_6) 0 [0, 1, 2, 3] (by exact ⟨H174, pf_3⟩)
     ·rintro ⟨x7_4, x8, x13, x38_3, x39_3, l_8, l_9⟩ ⟨hp_3, css_3, p_8, p_9⟩ gg H113 pf_4
      try dsimp only at H113
      try dsimp only
      refine Jb<|Ja<|mv (.bool x13)<|lv (V8 rfl)<|Jc<|?_
      try dsimp only [z1, z2, z5, z6, z7, z8]
      revert H113
      refine ci (!x13) rfl (fun hb H114=>?_) fun hb H116=>?_
      ·refine Jb<|Ja<|mv (i6 x8)<|?_
       obtain ⟨t170, h_t170, H115⟩ := Je H114; clear H114
       refine lv (Qe rfl rfl h_t170)<|ag (.slice none 0 0)<|ag (.slice none 0 0)<|ag (i6 t170)<|ag (i6 8)<|Jc<|?_
       try dsimp only [z1, z2, z5, z6, z7, z8]
       refine Ji<|Q1 38 14<|Q1 77 4<|?_
       obtain rfl := sj H115
       refine bo 0 5 rfl rfl<|Xx 0 rfl (U3 (p := nn) rfl (AllC.nil (G := g_face_Person) (h := hp_3) (sz := 4)))<|bo 4 0 rfl rfl<|?_
       refine ret4 (v1 := sl nn ([] : List Ta).length) (v2 := sl nn (([] : List (List Value)).length)) (v3 := i6 t170) (v4 := i6 8) rfl rfl rfl rfl rfl (Yx (nn, nn) (i := 4) rfl (by first | rfl | rw [(show (([] : List (List Value)).length) = ([] : List Tb).length from (AllC.nil (G := g_face_Person) (h := hp_3) (sz := 4)).len)]) (by first | exact Imp.refl _ | exact Imp.of (by rw [(show (([] : List (List Value)).length) = ([] : List Tb).length from (AllC.nil (G := g_face_Person) (h := hp_3) (sz := 4)).len)] <;> rfl)))
      ·refine Jj<|Ja<|?_
       obtain ⟨t171, h_t171, H117⟩ := Je H116; clear H116
       refine lv (Qe rfl rfl h_t171)<|mv (i6 t171)<|Jc<|?_
       try dsimp only [z1, z2, z5, z6, z7, z8]
       exact cl (x7_4, x38_3, t171, l_8, l_9) (hp_3, css_3, p_8, p_9) m4 [0, 1, 2, 3] (by exact ⟨(by subst hn4; exact H117), pf_4⟩)
    ·refine Qg ?_
     exact cl (x7_3, l_7, l_6) (hp_2, p_6, css_2, p_5) 0 [0, 1, 3, 2] (by exact ⟨H178, pf_3⟩)
   ·rintro ⟨x7, l_2, l_3⟩ ⟨hp, p_3, css, p_4⟩ gg H97 pf
    try dsimp only at H97
    try dsimp only
    refine Jb<|Jb<|?_
    try dsimp only [z1, z2, z5, z6, z7, z8]
    refine Ja<|mv (i6 x7)<|lv (Zi rfl rfl)<|Jc<|?_
    try dsimp only [z1, z2, z5, z6, z7, z8]
    revert H97
    refine ci (decide (0 < x7)) rfl (fun hb H98=>?_) fun hb H100=>?_
    ·refine Jb<|Ja<|mv (sl p_2 l.length)<|lv (Wx underlying31 rfl)<|?_
     obtain ⟨t176, h_t176, H99⟩ := Je H98; clear H98
     refine lv (Qe rfl rfl h_t176)<|ag (.slice none 0 0)<|ag (.slice none 0 0)<|ag (i6 t176)<|ag (i6 8)<|Jc<|?_
     try dsimp only [z1, z2, z5, z6, z7, z8]
     refine Ji<|Q1 38 14<|Q1 77 4<|?_
     obtain rfl := sj H99
     refine bo 0 5 rfl rfl<|Xx 0 rfl (U3 (p := nn) rfl (AllC.nil (G := g_face_Person) (h := hp) (sz := 4)))<|bo 4 0 rfl rfl<|?_
     refine ret4 (v1 := sl nn ([] : List Ta).length) (v2 := sl nn (([] : List (List Value)).length)) (v3 := i6 t176) (v4 := i6 8) rfl rfl rfl rfl rfl (Yx (nn, nn) (i := 4) rfl (by first | rfl | rw [(show (([] : List (List Value)).length) = ([] : List Tb).length from (AllC.nil (G := g_face_Person) (h := hp) (sz := 4)).len)]) (by first | exact Imp.refl _ | exact Imp.of (by rw [(show (([] : List (List Value)).length) = ([] : List Tb).length from (AllC.nil (G := g_face_Person) (h := hp) (sz := 4)).len)] <;> rfl)))
    ·refine Jj<|Jb<|Ja<|mv (sl p_3 l_2.length)<|?_
     obtain ⟨t178, h_t178, H101⟩ := Je H100; clear H100
     refine Qm (fun w hF hS => k6 (Jr w) (Jap (i := 2) rfl hS rfl) h_t178) call6 rfl rfl rfl<|ag (i6 t178)<|Jc<|?_
     try dsimp only [z1, z2, z5, z6, z7, z8]
     refine Qi (r := r) (σ := Int) (τ := Unit) (fun s => Uu l_2 l_3 s) (fun s t => [(2, sl p_3 l_2.length), (3, sl p_4 css.length), (5, i6 s)]) (fun s t => [Y1 Un hp, Jw 38 14 (sl p_3 l_2.length) l_2.length (l_2.map Jg), Jw 77 4 (sl p_4 css.length) css.length (css.map idC)]) (fun s t => True) ?_ ?_
     ·refine Jb<|Ja<|mv (i6 t178)<|lv (Y4 rfl rfl)<|Jc<|?_
      try dsimp only [z1, z2, z5, z6, z7, z8]
      revert H101
      refine ci (decide (t178 = 0)) rfl (fun hb H105=>?_) fun hb H107=>?_
      ·refine Ja<|mv (sl p_3 l_2.length)<|mv (sl p_4 css.length)<|?_
       obtain ⟨t183, h_t183, H106⟩ := Je H105; clear H105
       refine Qm (fun w hF hS => k7 (Jr w) (Jap (i := 2) rfl hS rfl) (frn_of (xs := l_3) (Jap (i := 3) rfl hS rfl) (pf.mono (Jfe (i := 0) hS rfl Jbw))) h_t183) call7 rfl rfl rfl<|ag (i6 t183)<|Jc<|?_
       try dsimp only [z1, z2, z5, z6, z7, z8]
       exact cl t183 () 0 [0, 2, 3] (by exact ⟨H106, trivial⟩)
      ·refine Jj ?_
       exact cl t178 () 0 [0, 2, 3] (by exact ⟨H107, trivial⟩)
     ·rintro x5 _ gg H102 _
      try dsimp only at H102
      try dsimp only
      refine Jb<|Jb<|Ja<|mv (i6 x5)<|lv (Jaj rfl rfl)<|Jc<|?_
      try dsimp only [z1, z2, z5, z6, z7, z8]
      revert H102
      refine ci (decide (x5 ≠ 0)) rfl (fun hb H103=>?_) fun hb H104=>?_
      ·refine Jb<|Ja<|mv (i6 x5)<|ag (.slice none 0 0)<|ag (.slice none 0 0)<|ag (i6 0)<|ag (i6 x5)<|Jc<|?_
       try dsimp only [z1, z2, z5, z6, z7, z8]
       refine Ji<|Q1 38 14<|Q1 77 4<|?_
       obtain rfl := sj H103
       refine bo 0 4 rfl rfl<|Xx 0 rfl (U3 (p := nn) rfl (AllC.nil (G := g_face_Person) (h := hp) (sz := 4)))<|bo 3 0 rfl rfl<|?_
       refine ret4 (v1 := sl nn ([] : List Ta).length) (v2 := sl nn (([] : List (List Value)).length)) (v3 := i6 0) (v4 := i6 x5) rfl rfl rfl rfl rfl (Yx (nn, nn) (i := 3) rfl (by first | rfl | rw [(show (([] : List (List Value)).length) = ([] : List Tb).length from (AllC.nil (G := g_face_Person) (h := hp) (sz := 4)).len)]) (by first | exact Imp.refl _ | exact Imp.of (by rw [(show (([] : List (List Value)).length) = ([] : List Tb).length from (AllC.nil (G := g_face_Person) (h := hp) (sz := 4)).len)] <;> rfl)))
      ·refine Jj<|Jb<|Ja<|mv (sl p_3 l_2.length)<|mv (sl p_4 css.length)<|ag (sl p_3 l_2.length)<|ag (sl p_4 css.length)<|ag (i6 0)<|ag (i6 0)<|Jc<|?_
       try dsimp only [z1, z2, z5, z6, z7, z8]
       refine Ji ?_
       obtain rfl := sj H104
       refine bo 0 2 rfl rfl<|Xx 0 rfl (U3 (p := p_4) rfl pf)<|bo 1 0 rfl rfl<|?_
       refine ret4 (v1 := sl p_3 l_2.length) (v2 := sl p_4 css.length) (v3 := i6 0) (v4 := i6 0) rfl rfl rfl rfl rfl (Yx (p_3, p_4) (i := 1) rfl (by first | rfl | rw [(show css.length = l_3.length from pf.len)]) (by first | exact Imp.refl _ | exact Imp.of (by rw [(show css.length = l_3.length from pf.len)] <;> rfl)))
end Go.Proofs.YtlkaenijicgfcaaGreatDoor

/- FaceTexts, the law: the walks, printed by our generator; each follows its model. Conditions: the model yields a value. -/
namespace Go.Proofs.YtlkaenijicgfcaaGreatDoor
open Go Go.Vc Go.Md Go.M Go.Lx Tryz
set_option maxRecDepth 100000
set_option maxHeartbeats 4000000
set_option linter.unusedVariables false
theorem k10 {a0 : (List UInt8)} {a1 : Int} {a2 : (List UInt8)} {a3 : Int} {r : Bool} (H : U6 a0 a1 a2 a3 = some r) : Ret prog 10 [Jk a0, i6 a1, Jk a2, i6 a3] (.bool r) := by
 refine J7 (n := 21) func10 rfl rfl rfl (fun wd => ?_)
 refine Jb<|Ja<|ag (.bool false)<|Jc<|Jb<|Ja<|ag (Jk [])<|Jc<|?_
 refine Qi (r := r) (σ := (List UInt8)) (τ := Unit) (fun s => Zs a0 a1 a3 s) (fun s t => [(0, Jk a0), (1, i6 a1), (2, Jk s), (3, i6 a3)]) (fun s t => []) (fun s t => True) ?_ ?_
 ·refine Jb<|Ja<|mv (i6 a3)<|lv (Jaj rfl rfl)<|Jc<|?_
  revert H
  refine ci (decide (a3 ≠ 0)) rfl (fun hb H9=>?_) fun hb H10=>?_
  ·refine Ja<|mv (Jk [])<|ag (Jk [])<|Jc<|?_
   exact cl [] () 0 [] (by exact ⟨H9, trivial⟩)
  ·refine Jj ?_
   exact cl a2 () 0 [] (by exact ⟨H10, trivial⟩)
 ·rintro x2 _ gg H6 _
  try dsimp only at H6
  try dsimp only
  refine Jb<|Ja<|mv (Jk a0)<|mv (Jk x2)<|lv (V3 rfl rfl)<|mv (.bool (decide (a0 = x2)))<|?_
  revert H6
  refine sp (fun hb H7=>?_) fun hb H8=>?_
  ·refine mv (i6 a1)<|mv (i6 a3)<|lv (Y4 rfl rfl)<|pT (.bool (decide (a1 = a3)))<|ag (.bool (decide (a1 = a3)))<|Jc<|Ji<|?_
   obtain rfl := sj H7
   exact r1 (.bool (decide (a1 = a3)))
  ·refine pa<|pa<|pa<|pF (.bool false)<|ag (.bool false)<|Jc<|Ji<|?_
   obtain rfl := sj H8
   exact r1 (.bool false)
theorem k13 {a0 : (List Ta)} {v0 : Value} {a1 : (List Ta)} {v1 : Value} {r : Bool} {w : World} {h : Jt} (hw : Know h w Yt) (f0 : FrS h 14 v0 (a0.map Jg)) (f1 : FrS h 14 v1 (a1.map Jg)) (H : Yf a0 a1 = some r) : Does prog 13 (List.toArray [v0, v1]) w (fun v w' => v = (.bool r) ∧ Grow w w') := by
 refine enter (n := 26) func13 rfl rfl rfl Yt [] (Sat.nil _ _)<|Jb<|Ja<|ag (.bool false)<|Jc<|Jb<|Jb<|Ja<|mv v0<|lv (X4 underlying22 rfl f0 rfl)<|mv v1<|lv (X4 underlying22 rfl f1 rfl)<|lv (Jaj rfl rfl)<|Jc<|?_
 revert H
 refine ci (decide ((a0.length : Int) ≠ (a1.length : Int))) rfl (fun hb H11=>?_) fun hb H12=>?_
 ·refine Jb<|Ja<|ag (.bool false)<|Jc<|Ji<|?_
  obtain rfl := sj H11
  exact r1 (.bool false)
 ·refine Jj<|Jb<|Jb<|Ja<|mv v0<|lv (X4 underlying22 rfl f0 rfl)<|mv (i6 0)<|Jc<|Jl<|?_
  refine Xb (σ := Int) (τ := Unit) (fun next1 s => Q9 a0 a1 next1 s) (fun s t => [(0, v0), (1, v1), (12, i6 (a0.length : Int)), (13, i6 s)]) (fun s t => []) (fun s t => True) 0 () [] H12 (by exact trivial) (by exact ⟨rfl, rfl, rfl, rfl, trivial⟩) (by decide) rfl ?_
  rintro x13_2 _ m1 gg H13 _
  clear H12
  try dsimp only at H13
  generalize hn1 : it (fun next1 s => Q9 a0 a1 next1 s) m1 = next1 at H13
  try dsimp only
  refine Jb<|Ja<|lv (Qv rfl rfl)<|Jc<|Jb<|?_
  revert H13
  refine ci (decide (x13_2 < (a0.length : Int))) rfl (fun hb H14=>?_) fun hb H20=>?_
  ·refine Jj<|Jb<|Jl<|Jb<|Ja<|mv (i6 x13_2)<|ag (i6 x13_2)<|Jc<|Jb<|?_
   exact Xp (Kd.p :: Kd.p :: Kd.p :: Kd.d [] _ :: Kd.p :: Kd.p :: Kd.p :: Kd.d [] _ :: Kd.p :: []) 0 mixed (by
    refine dm v0<|dm (i6 x13_2)<|?_
    have h_t18 := Qh H14
    have H15 := J3 H14
    refine dv (J4 underlying22 sizeOf38 rfl rfl f0 h_t18)<|Jdy (fun w hF => X2 (f := Jg) (i := x13_2) (sz := 14) (j := 0) (vs := [i6 (val (Qk a0 x13_2)).Id, i6 (val (Qk a0 x13_2)).Photo, i6 ((val (Qk a0 x13_2)).Vec 0), i6 ((val (Qk a0 x13_2)).Vec 1), i6 ((val (Qk a0 x13_2)).Vec 2), i6 ((val (Qk a0 x13_2)).Vec 3), i6 ((val (Qk a0 x13_2)).Vec 4), i6 ((val (Qk a0 x13_2)).Vec 5), i6 ((val (Qk a0 x13_2)).Vec 6), i6 ((val (Qk a0 x13_2)).Vec 7), i6 ((val (Qk a0 x13_2)).Vec 8), i6 ((val (Qk a0 x13_2)).Vec 9), i6 ((val (Qk a0 x13_2)).Vec 10), i6 ((val (Qk a0 x13_2)).Vec 11)]) isAgg38 sizeOf38 rfl rfl (f0.row (hw.now hF)) h_t18 rfl) rfl rfl<|dm v1<|dm (i6 x13_2)<|?_
    have h_t22 := Qh H15
    have H16 := J3 H15
    refine dv (J4 underlying22 sizeOf38 rfl rfl f1 h_t22)<|Jdy (fun w hF => X2 (f := Jg) (i := x13_2) (sz := 14) (j := 0) (vs := [i6 (val (Qk a1 x13_2)).Id, i6 (val (Qk a1 x13_2)).Photo, i6 ((val (Qk a1 x13_2)).Vec 0), i6 ((val (Qk a1 x13_2)).Vec 1), i6 ((val (Qk a1 x13_2)).Vec 2), i6 ((val (Qk a1 x13_2)).Vec 3), i6 ((val (Qk a1 x13_2)).Vec 4), i6 ((val (Qk a1 x13_2)).Vec 5), i6 ((val (Qk a1 x13_2)).Vec 6), i6 ((val (Qk a1 x13_2)).Vec 7), i6 ((val (Qk a1 x13_2)).Vec 8), i6 ((val (Qk a1 x13_2)).Vec 9), i6 ((val (Qk a1 x13_2)).Vec 10), i6 ((val (Qk a1 x13_2)).Vec 11)]) isAgg38 sizeOf38 rfl rfl (f1.row (hw.now hF)) h_t22 rfl) rfl rfl<|dv (r_neqA (xs := #[i6 (val (Qk a0 x13_2)).Id, i6 (val (Qk a0 x13_2)).Photo, i6 ((val (Qk a0 x13_2)).Vec 0), i6 ((val (Qk a0 x13_2)).Vec 1), i6 ((val (Qk a0 x13_2)).Vec 2), i6 ((val (Qk a0 x13_2)).Vec 3), i6 ((val (Qk a0 x13_2)).Vec 4), i6 ((val (Qk a0 x13_2)).Vec 5), i6 ((val (Qk a0 x13_2)).Vec 6), i6 ((val (Qk a0 x13_2)).Vec 7), i6 ((val (Qk a0 x13_2)).Vec 8), i6 ((val (Qk a0 x13_2)).Vec 9), i6 ((val (Qk a0 x13_2)).Vec 10), i6 ((val (Qk a0 x13_2)).Vec 11)]) (ys := #[i6 (val (Qk a1 x13_2)).Id, i6 (val (Qk a1 x13_2)).Photo, i6 ((val (Qk a1 x13_2)).Vec 0), i6 ((val (Qk a1 x13_2)).Vec 1), i6 ((val (Qk a1 x13_2)).Vec 2), i6 ((val (Qk a1 x13_2)).Vec 3), i6 ((val (Qk a1 x13_2)).Vec 4), i6 ((val (Qk a1 x13_2)).Vec 5), i6 ((val (Qk a1 x13_2)).Vec 6), i6 ((val (Qk a1 x13_2)).Vec 7), i6 ((val (Qk a1 x13_2)).Vec 8), i6 ((val (Qk a1 x13_2)).Vec 9), i6 ((val (Qk a1 x13_2)).Vec 10), i6 ((val (Qk a1 x13_2)).Vec 11)]) eqGuardType38 (fun w => Jd1 w (val (Qk a0 x13_2)) (val (Qk a1 x13_2))) rfl rfl)<|Wk<|?_
    revert H16
    refine ci (!(Vx (val (Qk a0 x13_2)) (val (Qk a1 x13_2)))) rfl (fun hb H17=>?_) fun hb H18=>?_
    ·refine Jb<|Ja<|ag (.bool false)<|Jc<|Ji<|?_
     obtain rfl := sj H17
     exact r1 (.bool false)
    ·refine Jj<|Ja<|?_
     obtain ⟨t25, h_t25, H19⟩ := Je H18; clear H18
     refine lv (Qe rfl rfl h_t25)<|mv (i6 t25)<|Jc<|?_
     exact cl t25 () m1 [] (by exact ⟨(by subst hn1; exact H19), trivial⟩)
    ) (by kernel_rfl)
  ·refine Qg<|Jb<|Ja<|ag (.bool true)<|Jc<|Ji<|?_
   obtain rfl := sj H20
   exact r1 (.bool true)
theorem k47 {a0 : (List Tb)} {v0 : Value} {a1 : (List Tb)} {v1 : Value} {a2 : (Tb → Tb → Option (Bool))} {v2 : Value} {r : Bool} {w : World} {h : Jt} (hw : Know h w Yt) (f0 : FrN h 4 v0 g_face_Person a0) (f1 : FrN h 4 v1 g_face_Person a1) (f2 : FnH prog h v2 (Y0 a2)) (H : Qx a0 a1 a2 = some r) : Does prog 47 (List.toArray [v0, v1, v2]) w (fun v w' => v = (.bool r) ∧ Grow w w') := by
 refine enter (n := 32) func47 rfl rfl rfl Yt [] (Sat.nil _ _)<|Jb<|Ja<|ag (.bool false)<|Jc<|Jb<|Jb<|Ja<|mv v0<|lv (Jas underlying23 rfl f0)<|mv v1<|lv (Jas underlying23 rfl f1)<|lv (Jaj rfl rfl)<|Jc<|?_
 revert H
 refine ci (decide ((a0.length : Int) ≠ (a1.length : Int))) rfl (fun hb H12=>?_) fun hb H13=>?_
 ·refine Jb<|Ja<|ag (.bool false)<|Jc<|Ji<|?_
  obtain rfl := sj H12
  exact r1 (.bool false)
 ·refine Jj<|Jb<|Jb<|Ja<|mv v0<|lv (Jas underlying23 rfl f0)<|mv (i6 0)<|Jc<|Jl<|?_
  refine Xb (σ := Int) (τ := Unit) (fun next1 s => Jx a0 a1 a2 next1 s) (fun s t => [(1, v1), (2, v2), (15, v0), (16, i6 (a0.length : Int)), (17, i6 s)]) (fun s t => []) (fun s t => True) 0 () [] H13 (by exact trivial) (by exact ⟨rfl, rfl, rfl, rfl, rfl, trivial⟩) (by decide) rfl ?_
  rintro x17_2 _ m1 gg H14 _
  clear H13
  try dsimp only at H14
  generalize hn1 : it (fun next1 s => Jx a0 a1 a2 next1 s) m1 = next1 at H14
  try dsimp only
  refine Jb<|Ja<|lv (Qv rfl rfl)<|Jc<|Jb<|?_
  revert H14
  refine ci (decide (x17_2 < (a0.length : Int))) rfl (fun hb H15=>?_) fun hb H22=>?_
  ·refine Jj<|Jb<|Jl<|Jb<|Ja<|mv (i6 x17_2)<|?_
   obtain ⟨t20, h_t20, H16⟩ := Je H15; clear H15
   refine lv (J4 underlying23 sizeOf77 rfl rfl f0.frs (f0.ix h_t20))<|Jy (fun w hF hS => X2 (f := (elC h v0 4)) (i := x17_2) (sz := 4) (j := 0) (vs := [i6 t20.Id, Jk t20.Name, (Qt h v0 4 (Int.toNat x17_2) 2), (Qt h v0 4 (Int.toNat x17_2) 3)]) isAgg77 sizeOf77 rfl rfl (f0.frs.row (hw.now hF)) (f0.ix h_t20) (rd_of (Yw (f0.at h_t20)) rfl)) rfl rfl rfl<|?_
   refine Z6 (cs := [i6 0, Jk [], .slice none 0 0, .slice none 0 0]) zeroValue77 rfl rfl rfl (fun b2 => ?_)
   refine ag (i6 x17_2)<|U5 (i := 0) (vs := [i6 t20.Id, Jk t20.Name, (Qt h v0 4 (Int.toNat x17_2) 2), (Qt h v0 4 (Int.toNat x17_2) 3)]) (cs' := [i6 t20.Id, Jk t20.Name, (Qt h v0 4 (Int.toNat x17_2) 2), (Qt h v0 4 (Int.toNat x17_2) 3)]) sizeOf77 rfl rfl rfl rfl rfl rfl (by simp only [List.all_cons, List.all_nil, (show FrS h 1 (Qt h v0 4 (Int.toNat x17_2) 2) (t20.Likes.map Jn) from (Jo (f0.at h_t20))).one, (show FrS h 1 (Qt h v0 4 (Int.toNat x17_2) 3) (t20.Nots.map Jn) from (J0 (f0.at h_t20))).one] <;> rfl) rfl rfl<|Jc<|Jb<|Ja<|mv v1<|mv (i6 x17_2)<|?_
   obtain ⟨t24, h_t24, H17⟩ := Je H16; clear H16
   refine lv (J4 underlying23 sizeOf77 rfl rfl f1.frs (f1.ix h_t24))<|Jy (fun w hF hS => X2 (f := (elC h v1 4)) (i := x17_2) (sz := 4) (j := 0) (vs := [i6 t24.Id, Jk t24.Name, (Qt h v1 4 (Int.toNat x17_2) 2), (Qt h v1 4 (Int.toNat x17_2) 3)]) isAgg77 sizeOf77 rfl rfl (f1.frs.row (hw.now hF)) (f1.ix h_t24) (rd_of (Yw (f1.at h_t24)) rfl)) rfl rfl rfl<|?_
   refine Z6 (cs := [i6 0, Jk [], .slice none 0 0, .slice none 0 0]) zeroValue77 rfl rfl rfl (fun b3 => ?_)
   refine U5 (i := 1) (vs := [i6 t24.Id, Jk t24.Name, (Qt h v1 4 (Int.toNat x17_2) 2), (Qt h v1 4 (Int.toNat x17_2) 3)]) (cs' := [i6 t24.Id, Jk t24.Name, (Qt h v1 4 (Int.toNat x17_2) 2), (Qt h v1 4 (Int.toNat x17_2) 3)]) sizeOf77 rfl rfl rfl rfl rfl rfl (by simp only [List.all_cons, List.all_nil, (show FrS h 1 (Qt h v1 4 (Int.toNat x17_2) 2) (t24.Likes.map Jn) from (Jo (f1.at h_t24))).one, (show FrS h 1 (Qt h v1 4 (Int.toNat x17_2) 3) (t24.Nots.map Jn) from (J0 (f1.at h_t24))).one] <;> rfl) rfl rfl<|Jc<|Jb<|Ja<|mv v2<|Jca (i := 0) (vs := [i6 t20.Id, Jk t20.Name, (Qt h v0 4 (Int.toNat x17_2) 2), (Qt h v0 4 (Int.toNat x17_2) 3)]) isAgg77 sizeOf77 rfl rfl rfl rfl rfl<|Jca (i := 1) (vs := [i6 t24.Id, Jk t24.Name, (Qt h v1 4 (Int.toNat x17_2) 2), (Qt h v1 4 (Int.toNat x17_2) 3)]) isAgg77 sizeOf77 rfl rfl rfl rfl rfl<|?_
   obtain ⟨t29, h_t29, H18⟩ := Je H17; clear H17
   refine Jd6 (R := Y0 a2) (r := .bool t29) (v := v2) (fun w hF hS => ⟨(f2.mono (hw.now hF)), ⟨t20, _, _, t24, _, _, _, ((show FrS h 1 (Qt h v0 4 (Int.toNat x17_2) 2) (t20.Likes.map Jn) from (Jo (f0.at h_t20))).mono (hw.now hF)), ((show FrS h 1 (Qt h v0 4 (Int.toNat x17_2) 3) (t20.Nots.map Jn) from (J0 (f0.at h_t20))).mono (hw.now hF)), ((show FrS h 1 (Qt h v1 4 (Int.toNat x17_2) 2) (t24.Likes.map Jn) from (Jo (f1.at h_t24))).mono (hw.now hF)), ((show FrS h 1 (Qt h v1 4 (Int.toNat x17_2) 3) (t24.Nots.map Jn) from (J0 (f1.at h_t24))).mono (hw.now hF)), rfl, h_t29, rfl⟩⟩) rfl rfl rfl rfl<|lv (V8 rfl)<|Jc<|?_
   revert H18
   refine ci (!t29) rfl (fun hb H19=>?_) fun hb H20=>?_
   ·refine Jb<|Ja<|ag (.bool false)<|Jc<|Ji<|?_
    obtain rfl := sj H19
    exact r1 (.bool false)
   ·refine Jj<|Ja<|?_
    obtain ⟨t31, h_t31, H21⟩ := Je H20; clear H20
    refine lv (Qe rfl rfl h_t31)<|mv (i6 t31)<|Jc<|?_
    exact cl t31 () m1 [] (by exact ⟨(by subst hn1; exact H21), trivial⟩)
  ·refine Qg<|Jb<|Ja<|ag (.bool true)<|Jc<|Ji<|?_
   obtain rfl := sj H22
   exact r1 (.bool true)
theorem k49 {a0 : (List Int)} {v0 : Value} {a1 : (List Int)} {v1 : Value} {r : Bool} {w : World} {h : Jt} (hw : Know h w Yt) (f0 : FrS h 1 v0 (a0.map Jn)) (f1 : FrS h 1 v1 (a1.map Jn)) (H : Vu a0 a1 = some r) : Does prog 49 (List.toArray [v0, v1]) w (fun v w' => v = (.bool r) ∧ Grow w w') := by
 refine enter (n := 26) func49 rfl rfl rfl Yt [] (Sat.nil _ _)<|Jb<|Ja<|ag (.bool false)<|Jc<|Jb<|Jb<|Ja<|mv v0<|lv (X4 underlying75 rfl f0 rfl)<|mv v1<|lv (X4 underlying75 rfl f1 rfl)<|lv (Jaj rfl rfl)<|Jc<|?_
 revert H
 refine ci (decide ((a0.length : Int) ≠ (a1.length : Int))) rfl (fun hb H11=>?_) fun hb H12=>?_
 ·refine Jb<|Ja<|ag (.bool false)<|Jc<|Ji<|?_
  obtain rfl := sj H11
  exact r1 (.bool false)
 ·refine Jj<|Jb<|Jb<|Ja<|mv v0<|lv (X4 underlying75 rfl f0 rfl)<|mv (i6 0)<|Jc<|Jl<|?_
  refine Xb (σ := Int) (τ := Unit) (fun next1 s => Y3 a0 a1 next1 s) (fun s t => [(0, v0), (1, v1), (12, i6 (a0.length : Int)), (13, i6 s)]) (fun s t => []) (fun s t => True) 0 () [] H12 (by exact trivial) (by exact ⟨rfl, rfl, rfl, rfl, trivial⟩) (by decide) rfl ?_
  rintro x13_2 _ m1 gg H13 _
  clear H12
  try dsimp only at H13
  generalize hn1 : it (fun next1 s => Y3 a0 a1 next1 s) m1 = next1 at H13
  try dsimp only
  refine Jb<|Ja<|lv (Qv rfl rfl)<|Jc<|Jb<|?_
  revert H13
  refine ci (decide (x13_2 < (a0.length : Int))) rfl (fun hb H14=>?_) fun hb H20=>?_
  ·refine Jj<|Jb<|Jl<|Jb<|Ja<|mv (i6 x13_2)<|ag (i6 x13_2)<|Jc<|Jb<|?_
   exact Xp (Kd.p :: Kd.p :: Kd.p :: Kd.d [] _ :: Kd.p :: Kd.p :: Kd.p :: Kd.d [] _ :: Kd.p :: []) 0 mixed (by
    refine dm v0<|dm (i6 x13_2)<|?_
    have h_t18 := Qh H14
    have H15 := J3 H14
    refine dv (J4 underlying75 sizeOf3 rfl rfl f0 h_t18)<|Jdy (fun w hF => Ju (f := Jn) (i := x13_2) (sz := 1) (j := 0) (v := i6 (val (Qk a0 x13_2))) isAgg3 rfl rfl (f0.row (hw.now hF)) h_t18 rfl) rfl rfl<|dm v1<|dm (i6 x13_2)<|?_
    have h_t22 := Qh H15
    have H16 := J3 H15
    refine dv (J4 underlying75 sizeOf3 rfl rfl f1 h_t22)<|Jdy (fun w hF => Ju (f := Jn) (i := x13_2) (sz := 1) (j := 0) (v := i6 (val (Qk a1 x13_2))) isAgg3 rfl rfl (f1.row (hw.now hF)) h_t22 rfl) rfl rfl<|dv (Jaj rfl rfl)<|Wk<|?_
    revert H16
    refine ci (decide ((val (Qk a0 x13_2)) ≠ (val (Qk a1 x13_2)))) rfl (fun hb H17=>?_) fun hb H18=>?_
    ·refine Jb<|Ja<|ag (.bool false)<|Jc<|Ji<|?_
     obtain rfl := sj H17
     exact r1 (.bool false)
    ·refine Jj<|Ja<|?_
     obtain ⟨t25, h_t25, H19⟩ := Je H18; clear H18
     refine lv (Qe rfl rfl h_t25)<|mv (i6 t25)<|Jc<|?_
     exact cl t25 () m1 [] (by exact ⟨(by subst hn1; exact H19), trivial⟩)
    ) (by kernel_rfl)
  ·refine Qg<|Jb<|Ja<|ag (.bool true)<|Jc<|Ji<|?_
   obtain rfl := sj H20
   exact r1 (.bool true)
theorem k48 {a0 : Tb} {v0_2 : Value} {v0_3 : Value} {a1 : Tb} {v1_2 : Value} {v1_3 : Value} {r : Bool} {w : World} {h : Jt} (hw : Know h w Yt) (f0_2 : FrS h 1 v0_2 (a0.Likes.map Jn)) (f0_3 : FrS h 1 v0_3 (a0.Nots.map Jn)) (f1_2 : FrS h 1 v1_2 (a1.Likes.map Jn)) (f1_3 : FrS h 1 v1_3 (a1.Nots.map Jn)) (H : Jav a0 a1 = some r) : Does prog 48 (List.toArray [.agg #[i6 a0.Id, Jk a0.Name, v0_2, v0_3], .agg #[i6 a1.Id, Jk a1.Name, v1_2, v1_3]]) w (fun v w' => v = (.bool r) ∧ Grow w w') := by
 refine enter (n := 31) func48 rfl rfl rfl Yt [] (Sat.nil _ _)<|Jb<|Ja<|?_
 refine Je8 (cs := [i6 a0.Id, Jk a0.Name, v0_2, v0_3]) rfl rfl rfl rfl (fun b2 => ?_)
 refine Je8 (cs := [i6 a1.Id, Jk a1.Name, v1_2, v1_3]) rfl rfl rfl rfl (fun b3 => ?_)
 refine ag (.bool false)<|Jc<|Jb<|Ja<|lf runUnderlying77 rfl sizeOf3 rfl<|ll 0 (i6 a0.Id) isAgg3<|lf runUnderlying77 rfl sizeOf3 rfl<|ll 1 (i6 a1.Id) isAgg3<|lv (Y4 rfl rfl)<|mv (.bool (decide (a0.Id = a1.Id)))<|?_
 revert H
 refine sp (fun hb H9=>?_) fun hb H16=>?_
 ·refine lf runUnderlying77 rfl sizeOf9 rfl<|ll 0 (Jk a0.Name) isAgg9<|lf runUnderlying77 rfl sizeOf9 rfl<|ll 1 (Jk a1.Name) isAgg9<|lv (V3 rfl rfl)<|pT (.bool (decide (a0.Name = a1.Name)))<|mv (.bool (decide (a0.Name = a1.Name)))<|?_
  revert H9
  refine sp (fun hb H10=>?_) fun hb H15=>?_
  ·refine lf runUnderlying77 rfl sizeOf75 rfl<|ll 0 v0_2 isAgg75<|lf runUnderlying77 rfl sizeOf75 rfl<|ll 1 v1_2 isAgg75<|?_
   obtain ⟨t22, h_t22, H11⟩ := Je H10; clear H10
   refine Qm (fun w hF hS => k49 (Jr w) (f0_2.mono (hw.now hF)) (f1_2.mono (hw.now hF)) h_t22) call49 rfl rfl rfl<|pT (.bool t22)<|mv (.bool t22)<|?_
   revert H11
   refine sp (fun hb H12=>?_) fun hb H14=>?_
   ·refine lf runUnderlying77 rfl sizeOf75 rfl<|ll 0 v0_3 isAgg75<|lf runUnderlying77 rfl sizeOf75 rfl<|ll 1 v1_3 isAgg75<|?_
    obtain ⟨t29, h_t29, H13⟩ := Je H12; clear H12
    refine Qm (fun w hF hS => k49 (Jr w) (f0_3.mono (hw.now hF)) (f1_3.mono (hw.now hF)) h_t29) call49 rfl rfl rfl<|pT (.bool t29)<|ag (.bool t29)<|Jc<|Ji<|?_
    obtain rfl := sj H13
    exact r1 (.bool t29)
   ·refine pa<|pa<|pa<|pa<|pa<|pF (.bool false)<|ag (.bool false)<|Jc<|Ji<|?_
    obtain rfl := sj H14
    exact r1 (.bool false)
  ·refine pa<|pa<|pa<|pa<|pa<|pF (.bool false)<|mv (.bool false)<|pa<|pa<|pa<|pa<|pa<|pF (.bool false)<|ag (.bool false)<|Jc<|Ji<|?_
   obtain rfl := sj H15
   exact r1 (.bool false)
 ·refine pa<|pa<|pa<|pa<|pa<|pF (.bool false)<|mv (.bool false)<|pa<|pa<|pa<|pa<|pa<|pF (.bool false)<|mv (.bool false)<|pa<|pa<|pa<|pa<|pa<|pF (.bool false)<|ag (.bool false)<|Jc<|Ji<|?_
  obtain rfl := sj H16
  exact r1 (.bool false)
theorem k14 {a0 : (List Tb)} {v0 : Value} {a1 : (List Tb)} {v1 : Value} {r : Bool} {w : World} {h : Jt} (hw : Know h w Yt) (f0 : FrN h 4 v0 g_face_Person a0) (f1 : FrN h 4 v1 g_face_Person a1) (H : Jdg a0 a1 = some r) : Does prog 14 (List.toArray [v0, v1]) w (fun v w' => v = (.bool r) ∧ Grow w w') := by
 refine enter (n := 8) func14 rfl rfl rfl Yt [] (Sat.nil _ _)<|Jb<|Ja<|ag (.bool false)<|Jc<|Jb<|Ja<|mv v0<|mv v1<|?_
 obtain ⟨t7, h_t7, H2⟩ := Je H; clear H
 refine Qm (fun w hF hS => k47 (Jr w) (f0.mono (hw.now hF)) (f1.mono (hw.now hF)) (FnH.mk ⟨48, #[], #[], rfl, call48, fun args2 post2 w2 hk2 hR2 => by obtain ⟨a0_, v0_2_, v0_3_, a1_, v1_2_, v1_3_, r_, fa0_2_, fa0_3_, fa1_2_, fa1_3_, rfl, H_, rfl⟩ := hR2; exact k48 (Jr w2) fa0_2_ fa0_3_ fa1_2_ fa1_3_ H_⟩) h_t7) call47 rfl rfl rfl<|ag (.bool t7)<|Jc<|Ji<|?_
 obtain rfl := sj H2
 exact r1 (.bool t7)
theorem k3 {a0 : (List Ta)} {v0 : Value} {a1 : (List Tb)} {v1 : Value} {a2 : (List UInt8)} {r : Bool} {w : World} {h : Jt} (hw : Know h w Yt) (f0 : FrS h 14 v0 (a0.map Jg)) (f1 : FrN h 4 v1 g_face_Person a1) (tb_pow10 : TabH prog h "internal/strconv.uint64pow10" .u64 Lib.pow10Tab) (H : Jbh a0 a1 a2 = some r) : Does prog 3 (List.toArray [v0, v1, Jk a2]) w (fun v w' => v = (.bool r) ∧ Grow w w') := by
 refine enter (n := 91) func3 rfl rfl rfl Yt [] (Sat.nil _ _)<|Jce Un<|Jb<|Ja<|ag (.bool false)<|Jc<|Jb<|Ja<|mv v0<|?_
 obtain ⟨t22, h_t22, H33⟩ := Je H; clear H
 refine Qm (fun w hF hS => k6 (Jr w) (f0.mono (hw.now hF)) h_t22) call6 rfl rfl rfl<|ag (i6 t22)<|Jc<|?_
 refine Qi (r := r) (σ := Int) (τ := Unit) (fun s => Vv a0 a1 a2 s) (fun s t => [(0, v0), (1, v1), (2, Jk a2), (7, i6 s)]) (fun s t => [Y1 Un Un]) (fun s t => True) ?_ ?_
 ·refine Jb<|Ja<|mv (i6 t22)<|lv (Y4 rfl rfl)<|Jc<|?_
  revert H33
  refine ci (decide (t22 = 0)) rfl (fun hb H62=>?_) fun hb H64=>?_
  ·refine Ja<|mv v0<|mv v1<|?_
   obtain ⟨t27, h_t27, H63⟩ := Je H62; clear H62
   refine Qm (fun w hF hS => k7 (Jr w) (f0.mono (hw.now hF)) (f1.mono (hw.now hF)) h_t27) call7 rfl rfl rfl<|ag (i6 t27)<|Jc<|?_
   exact cl t27 () 0 [0] (by exact ⟨H63, trivial⟩)
  ·refine Jj ?_
   exact cl t22 () 0 [0] (by exact ⟨H64, trivial⟩)
 ·rintro x7 _ gg H34 _
  try dsimp only at H34
  try dsimp only
  refine Jb<|Ja<|ag (Jk [])<|Jc<|?_
  refine Qi (r := r) (σ := Int × (List UInt8)) (τ := Unit) (fun s => Zm a0 a1 a2 s.1 s.2) (fun s t => [(0, v0), (1, v1), (2, Jk a2), (7, i6 s.1), (8, Jk s.2)]) (fun s t => [Y1 Un Un]) (fun s t => True) ?_ ?_
  ·refine Jb<|Ja<|mv (i6 x7)<|lv (Y4 rfl rfl)<|Jc<|?_
   revert H34
   refine ci (decide (x7 = 0)) rfl (fun hb H57=>?_) fun hb H61=>?_
   ·refine Jb<|Ja<|mv v0<|mv v1<|?_
    obtain ⟨t32, h_t32, H58⟩ := Je H57; clear H57
    refine Qm (fun w hF hS => k8 (Jr w) (f0.mono (hw.now hF)) (f1.mono (hw.now hF)) (tb_pow10.mono (hw.now hF)) h_t32) call8 rfl rfl rfl<|ag (Jk t32)<|Jc<|Jb<|Ja<|mv (Jk t32)<|lv (Q2 underlying9 rfl)<|lv (Zi rfl rfl)<|Jc<|?_
    revert H58
    refine ci (decide (1000000 < (t32.length : Int))) rfl (fun hb H59=>?_) fun hb H60=>?_
    ·refine Ja<|ag (i6 4)<|Jc<|?_
     exact cl (4, t32) () 0 [0] (by exact ⟨H59, trivial⟩)
    ·refine Jj ?_
     exact cl (x7, t32) () 0 [0] (by exact ⟨H60, trivial⟩)
   ·refine Jj ?_
    exact cl (x7, []) () 0 [0] (by exact ⟨H61, trivial⟩)
  ·rintro ⟨x7_2, x8⟩ _ gg H35 _
   try dsimp only at H35
   try dsimp only
   refine Jb<|Ja<|mv v0<|mv v1<|?_
   obtain ⟨t39, h_t39, H36⟩ := Je H35; clear H35
   refine Qm (fun w hF hS => k9 (Jr w) (f0.mono (hw.now hF)) (f1.mono (hw.now hF)) (tb_pow10.mono (hw.now hF)) h_t39) call9 rfl rfl rfl<|mv (.tuple #[Jk t39.1, i6 t39.2])<|lv (Jm (v := Jk t39.1) rfl rfl)<|lv (Jm (v := i6 t39.2) rfl rfl)<|ag (Jk t39.1)<|ag (i6 t39.2)<|Jc<|Jb<|Jb<|Ja<|mv (Jk t39.1)<|mv (i6 t39.2)<|mv (Jk x8)<|mv (i6 x7_2)<|?_
   obtain ⟨t46, h_t46, H37⟩ := Je H36; clear H36
   refine Qc (k10 h_t46) call10 rfl rfl rfl<|lv (V8 rfl)<|Jc<|?_
   revert H37
   refine ci (!t46) rfl (fun hb H38=>?_) fun hb H39=>?_
   ·refine Jb<|Ja<|ag (.bool false)<|Jc<|Ji<|?_
    obtain rfl := sj H38
    exact r1 (.bool false)
   ·refine Jj<|Jb<|Jb<|Ja<|mv (Jk a2)<|mv (Jk x8)<|?_
    refine Yu (vs := [Jk a2, Jk x8]) (cs := [Jk a2, Jk x8]) underlying31 sizeOf9 zeroValue9 rfl rfl rfl rfl rfl rfl rfl (fun b1 => ?_)
    refine lv (Wx underlying31 rfl)<|mv (i6 0)<|Jc<|Jl<|?_
    refine Xb (σ := Int) (τ := Jt) (fun next3 s => Yn a2 x8 next3 s) (fun s t => [(50, .slice (some ⟨b1, 0, none⟩) 2 2), (51, i6 2), (52, i6 s)]) (fun s t => [Y1 Un t, Jp b1 [Jk a2, Jk x8] 9]) (fun s t => True) 0 Un [0, 1] H39 (by exact trivial) (by exact ⟨rfl, rfl, rfl, trivial⟩) (by decide) rfl ?_
    rintro x52_2 hp m3 gg H40 _
    clear H39
    try dsimp only at H40
    generalize hn3 : it (fun next3 s => Yn a2 x8 next3 s) m3 = next3 at H40
    try dsimp only
    refine Jb<|Ja<|lv (Qv rfl rfl)<|Jc<|Jb<|?_
    revert H40
    refine ci (decide (x52_2 < 2)) rfl (fun hb H41=>?_) fun hb H56=>?_
    ·refine Jj<|Jb<|Jl<|Jb<|Ja<|?_
     obtain ⟨t54, h_t54, H42⟩ := Je H41; clear H41
     refine lv (Je2 underlying31 sizeOf9 rfl rfl h_t54 rfl)<|Jy (fun w hF hS => Ju (f := Jv) (i := x52_2) (sz := 1) (j := 0) (v := Jk t54) isAgg9 rfl rfl (Jbi (sz := 1) (xs := ([a2, x8] : List (List UInt8)).map Jv) (i := 1) hS rfl rfl rfl) h_t54 rfl) rfl rfl rfl<|ag (Jk t54)<|Jc<|Jb<|Ja<|mv (Jk t54)<|?_
     obtain ⟨t58, h_t58, H43⟩ := Je H42; clear H42
     refine Zr (Ye (rds := []) (G := fun x : (Option Addr × Nat) × (Option Addr × Nat) => .tuple #[.slice x.1.1 t58.1.length x.1.2, .slice x.2.1 t58.2.1.length x.2.2, i6 t58.2.2.1, i6 t58.2.2.2]) (C := fun x : (Option Addr × Nat) × (Option Addr × Nat) => Q5 (roV 14 (.slice x.1.1 t58.1.length x.1.2) t58.1.length (t58.1.map Jg)) (roD 4 g_face_Person (.slice x.2.1 t58.2.1.length x.2.2) t58.2.1.length t58.2.1)) (fun w L' hF hS hi => k11 (Jr w) (tb_pow10.mono (hw.now hF)) h_t58) call11 rfl) rfl rfl rfl (fun ⟨p, p_2⟩ => ?_)
     refine Z0 2 rfl ?_
     refine c_roD 3 rfl (fun hp_2 css hn pf => ?_)
     refine Z0 3 rfl ?_
     refine Jcl 0 3 rfl rfl (by decide) (fun _ _ => Jbw) (fun hp_3 hle hle_2 => ?_)
     refine mv (.tuple #[sl p t58.1.length, sl p_2 t58.2.1.length, i6 t58.2.2.1, i6 t58.2.2.2])<|lv (Jm (v := sl p t58.1.length) rfl rfl)<|lv (Jm (v := sl p_2 t58.2.1.length) rfl rfl)<|lv (Jm (v := i6 t58.2.2.1) rfl rfl)<|lv (Jm (v := i6 t58.2.2.2) rfl rfl)<|ag (sl p t58.1.length)<|ag (sl p_2 t58.2.1.length)<|ag (i6 t58.2.2.1)<|ag (i6 t58.2.2.2)<|Jc<|?_
     try dsimp only [z1, z2, z5, z6, z7, z8]
     refine Jb<|Ja<|mv (Jk t54)<|?_
     obtain ⟨t65, h_t65, H44⟩ := Je H43; clear H43
     refine Zr (Ye (rds := []) (G := fun x : (Option Addr × Nat) × (Option Addr × Nat) => .tuple #[.slice x.1.1 t65.1.length x.1.2, .slice x.2.1 t65.2.1.length x.2.2, i6 t65.2.2.1, i6 t65.2.2.2]) (C := fun x : (Option Addr × Nat) × (Option Addr × Nat) => Q5 (Jw 38 14 (.slice x.1.1 t65.1.length x.1.2) t65.1.length (t65.1.map Jg)) (Uo 77 4 g_face_Person (.slice x.2.1 t65.2.1.length x.2.2) t65.2.1.length t65.2.1)) (fun w L' hF hS hi => k12 (Jr w)  h_t65) call12 rfl) rfl rfl rfl (fun ⟨p_3, p_4⟩ => ?_)
     refine Z0 5 rfl ?_
     refine c_rowD 6 rfl (fun hp_4 css_2 hn_2 pf_2 => ?_)
     rw [hn_2]
     refine Z0 6 rfl ?_
     refine Jcl 0 6 rfl rfl (by decide) (fun _ _ => Jbw) (fun hp_5 hle_3 hle_4 => ?_)
     refine mv (.tuple #[sl p_3 t65.1.length, sl p_4 css_2.length, i6 t65.2.2.1, i6 t65.2.2.2])<|lv (Jm (v := sl p_3 t65.1.length) rfl rfl)<|lv (Jm (v := sl p_4 css_2.length) rfl rfl)<|lv (Jm (v := i6 t65.2.2.1) rfl rfl)<|lv (Jm (v := i6 t65.2.2.2) rfl rfl)<|ag (sl p_3 t65.1.length)<|ag (sl p_4 css_2.length)<|ag (i6 t65.2.2.1)<|ag (i6 t65.2.2.2)<|Jc<|?_
     try dsimp only [z1, z2, z5, z6, z7, z8]
     refine Jb<|Ja<|mv (i6 t58.2.2.1)<|mv (i6 t65.2.2.1)<|lv (Jaj rfl rfl)<|mv (.bool (decide (t58.2.2.1 ≠ t65.2.2.1)))<|?_
     revert H44
     refine sp (fun hb H45=>?_) fun hb H46=>?_
     ·refine pa<|pa<|pa<|pT (.bool true)<|mv (.bool true)<|pa<|pa<|pa<|pa<|pT (.bool true)<|mv (.bool true)<|pa<|pa<|pa<|pa<|pT (.bool true)<|Jc<|?_
      try dsimp only [z1, z2, z5, z6, z7, z8]
      refine Zv rfl<|Jb<|Ja<|ag (.bool false)<|Jc<|?_
      try dsimp only [z1, z2, z5, z6, z7, z8]
      refine Ji ?_
      obtain rfl := sj H45
      exact r1 (.bool false)
     ·refine mv (i6 t58.2.2.2)<|mv (i6 t65.2.2.2)<|lv (Jaj rfl rfl)<|pF (.bool (decide (t58.2.2.2 ≠ t65.2.2.2)))<|mv (.bool (decide (t58.2.2.2 ≠ t65.2.2.2)))<|?_
      revert H46
      refine sp (fun hb H47=>?_) fun hb H48=>?_
      ·refine pa<|pa<|pa<|pa<|pT (.bool true)<|mv (.bool true)<|pa<|pa<|pa<|pa<|pT (.bool true)<|Jc<|?_
       try dsimp only [z1, z2, z5, z6, z7, z8]
       refine Zv rfl<|Jb<|Ja<|ag (.bool false)<|Jc<|?_
       try dsimp only [z1, z2, z5, z6, z7, z8]
       refine Ji ?_
       obtain rfl := sj H47
       exact r1 (.bool false)
      ·refine mv (sl p t58.1.length)<|mv (sl p_3 t65.1.length)<|?_
       obtain ⟨t81, h_t81, H49⟩ := Je H48; clear H48
       refine Qm (fun w hF hS => k13 (Jr w) (frs_rd (i := 2) hS rfl) (Jap (i := 5) rfl hS rfl) h_t81) call13 rfl rfl rfl<|lv (V8 rfl)<|pF (.bool (!t81))<|mv (.bool (!t81))<|?_
       revert H49
       refine sp (fun hb H50=>?_) fun hb H51=>?_
       ·refine pa<|pa<|pa<|pa<|pT (.bool true)<|Jc<|?_
        try dsimp only [z1, z2, z5, z6, z7, z8]
        refine Zv rfl<|Jb<|Ja<|ag (.bool false)<|Jc<|?_
        try dsimp only [z1, z2, z5, z6, z7, z8]
        refine Ji ?_
        obtain rfl := sj H50
        exact r1 (.bool false)
       ·refine mv (sl p_2 t58.2.1.length)<|mv (sl p_4 css_2.length)<|?_
        obtain ⟨t87, h_t87, H52⟩ := Je H51; clear H51
        refine Qm (fun w hF hS => k14 (Jr w) (frn_of (xs := t58.2.1) (frs_rd (i := 4) hS rfl) (((pf.mono hle_2).mono hle_3).mono (Jfe (i := 0) hS rfl Jbw))) (frn_of (xs := t65.2.1) (Jap (i := 7) rfl hS rfl) ((pf_2.mono hle_4).mono (Jfe (i := 0) hS rfl Jbw))) h_t87) call14 rfl rfl rfl<|lv (V8 rfl)<|pF (.bool (!t87))<|Jc<|?_
        try dsimp only [z1, z2, z5, z6, z7, z8]
        revert H52
        refine ci (!t87) rfl (fun hb H53=>?_) fun hb H54=>?_
        ·refine Jb<|Ja<|ag (.bool false)<|Jc<|?_
         try dsimp only [z1, z2, z5, z6, z7, z8]
         refine Ji ?_
         obtain rfl := sj H53
         exact r1 (.bool false)
        ·refine Jj<|Ja<|?_
         obtain ⟨t90, h_t90, H55⟩ := Je H54; clear H54
         refine lv (Qe rfl rfl h_t90)<|mv (i6 t90)<|Jc<|?_
         try dsimp only [z1, z2, z5, z6, z7, z8]
         exact cl t90 hp_5 m3 [0, 1] (by exact ⟨(by subst hn3; exact H55), trivial⟩)
    ·refine Qg<|Jb<|Ja<|ag (.bool true)<|Jc<|Ji<|?_
     obtain rfl := sj H56
     exact r1 (.bool true)
end Go.Proofs.YtlkaenijicgfcaaGreatDoor

/- Plain lemmas about models: loops that count, scans for a first error. Conditions: none. -/
namespace Go.Pl
open Go.Md
theorem up {ρ : Type} {F : (Int → Option ρ) → Int → Option ρ} (n : Nat) (spec : Nat → Option ρ)
  (step : ∀ (next : Int → Option ρ) (k : Nat), k ≤ n → (k < n → next ((k : Int) + 1) = spec (k + 1)) → F next (k : Int) = spec k) : Zp F 0 = spec 0 := by
 have h := fix_of (F := F) (fun i => spec i.toNat) (fun i => 0 ≤ i ∧ i ≤ n) (fun i => n - i.toNat) (by
  intro next a ⟨h0, h1⟩ ih
  obtain ⟨k, rfl⟩ := Int.eq_ofNat_of_zero_le h0
  simp only [Int.toNat_natCast]
  refine step next k (by omega) fun hk => ?_
  have := ih ((k : Int) + 1) (by omega) (by simp only [Int.toNat_natCast]; omega)
  rw [this, show ((k : Int) + 1).toNat = k + 1 from by omega]) 0 (by omega)
 simpa using h
theorem up2 {ρ σ : Type} {F : (Int × σ → Option ρ) → Int × σ → Option ρ} (n : Nat) (spec : Nat → σ → Option ρ) (I : Nat → σ → Prop)
  (step : ∀ (next : Int × σ → Option ρ) (k : Nat) (s : σ), k ≤ n → I k s → (∀ s', k < n → I (k + 1) s' → next ((k : Int) + 1, s') = spec (k + 1) s') → F next ((k : Int), s) = spec k s) (s : σ) (hs : I 0 s) : Zp F (0, s) = spec 0 s := by
 have h := fix_of (F := F) (fun i => spec i.1.toNat i.2) (fun i => 0 ≤ i.1 ∧ i.1 ≤ n ∧ I i.1.toNat i.2) (fun i => n - i.1.toNat) (by
  rintro next ⟨a, s⟩ ⟨h0, h1, h2⟩ ih
  simp only at h0 h1 h2
  obtain ⟨k, rfl⟩ := Int.eq_ofNat_of_zero_le h0
  simp only [Int.toNat_natCast] at h2 ⊢
  refine step next k s (by omega) h2 fun s' hk hI => ?_
  have := ih ((k : Int) + 1, s') ⟨by simp only; omega, by simp only; omega, by simp only; rw [show ((k : Int) + 1).toNat = k + 1 from by omega]; exact hI⟩ (by simp only [Int.toNat_natCast]; omega)
  rw [this, show ((k : Int) + 1).toNat = k + 1 from by omega]) (0, s) ⟨by simp, by simp, hs⟩
 simpa using h
def Vh (c : Nat → Int) : Nat → Nat → Int
 | 0, _ => 0
 | m + 1, k => if c k = 0 then Vh c m (k + 1) else c k
theorem Jbs {c : Nat → Int} : ∀ {m k : Nat}, Vh c m k = 0 → ∀ j, k ≤ j → j < k + m → c j = 0
 | 0, k, _, j, h1, h2 => by omega
 | m + 1, k, h, j, h1, h2 => by
  simp only [Vh] at h
  split at h
  ·rename_i h0
   by_cases hj : j = k
   ·subst hj; exact h0
   ·exact Jbs h j (by omega) (by omega)
  ·rename_i h0; exact absurd h h0
theorem Jg2 {c : Nat → Int} : ∀ (m k : Nat), (∀ j, k ≤ j → j < k + m → c j = 0) → Vh c m k = 0
 | 0, _, _ => rfl
 | m + 1, k, h => by
  simp only [Vh]
  rw [if_pos (h k (Nat.le_refl _) (by omega)), Jg2 m (k + 1) fun j h1 h2 => h j (by omega) (by omega)]
theorem scan {F : (Int → Option Int) → Int → Option Int} (n : Nat) (c : Nat → Int) (step : ∀ (next : Int → Option Int) (k : Nat), k < n → F next (k : Int) = if c k = 0 then next ((k : Int) + 1) else some (c k)) (last : ∀ next, F next (n : Int) = some 0) : Zp F 0 = some (Vh c n 0) := by
 have h := up (F := F) n (fun k => some (Vh c (n - k) k)) (by
  intro next k hk ih
  by_cases h : k < n
  ·rw [step next k h, show n - k = (n - (k + 1)) + 1 from by omega]
   simp only [Vh]
   split
   ·rw [ih h]
   ·rfl
  ·have : k = n := by omega
   subst this
   rw [last, Nat.sub_self]; rfl)
 simpa using h
end Go.Pl

/- More plain lemmas about models: loops that run or go on, two loops that do the same, loops that collect. Conditions: none. -/
namespace Go.Pl
open Go.Md
theorem fix_run {α ρ : Type} {F : (α → Option ρ) → α → Option ρ} (I : α → Prop) (μ : α → Nat) (Va : ρ → Prop)
  (step : ∀ a, I a → (∃ r, Va r ∧ ∀ next, F next a = some r) ∨ (∃ b, I b ∧ μ b < μ a ∧ ∀ next, F next a = next b)) (a : α) (ha : I a) : ∃ r, Zp F a = some r ∧ Va r := by
 have key : ∀ n a, I a → μ a < n → ∃ r, Zp F a = some r ∧ Va r := by
  intro n
  induction n with
  | zero => intro a _ h; omega
  | succ n ih =>
   intro a ha h
   rcases step a ha with ⟨r, h1, h2⟩ | ⟨b, h1, h2, h3⟩
   ·exact ⟨r, Ql h2, h1⟩
   ·rw [X0 b h3]; exact ih b h1 (by omega)
 exact key (μ a + 1) a ha (by omega)
theorem fix_sim {α β ρ : Type} {F : (α → Option ρ) → α → Option ρ} {G : (β → Option ρ) → β → Option ρ} (I : α → β → Prop) (μ : α → Nat) (Va : ρ → Prop)
  (step : ∀ a b, I a b → (∃ r, Va r ∧ Zp F a = some r ∧ Zp G b = some r) ∨ (∃ a' b', I a' b' ∧ μ a' < μ a ∧ Zp F a = Zp F a' ∧ Zp G b = Zp G b')) (a : α) (b : β) (h : I a b) : ∃ r, Va r ∧ Zp F a = some r ∧ Zp G b = some r := by
 have key : ∀ n a b, I a b → μ a < n → ∃ r, Va r ∧ Zp F a = some r ∧ Zp G b = some r := by
  intro n
  induction n with
  | zero => intro a b _ h; omega
  | succ n ih =>
   intro a b hI h
   rcases step a b hI with ⟨r, h0, h1, h2⟩ | ⟨a', b', h1, h2, h3, h4⟩
   ·exact ⟨r, h0, h1, h2⟩
   ·obtain ⟨r, g0, g1, g2⟩ := ih a' b' h1 (by omega)
    exact ⟨r, g0, h3.trans g1, h4.trans g2⟩
 exact key (μ a + 1) a b h (by omega)
theorem Jbt {α ρ σ : Type} {F : (Int × σ → Option ρ) → Int × σ → Option ρ} (xs : List α) (f : σ → α → σ) (J : σ → Option ρ) (I : Nat → σ → Prop)
  (more : ∀ (next : Int × σ → Option ρ) (k : Nat) (s : σ) (hk : k < xs.length), I k s → F next ((k : Int), s) = next ((k : Int) + 1, f s xs[k]) ∧ I (k + 1) (f s xs[k]))
  (stop : ∀ (next : Int × σ → Option ρ) (s : σ), I xs.length s → F next ((xs.length : Int), s) = J s) (s : σ) (hs : I 0 s) : Zp F (0, s) = J (xs.foldl f s) := by
 have key : ∀ n k s, k ≤ xs.length → xs.length - k < n → I k s → Zp F ((k : Int), s) = J ((xs.drop k).foldl f s) := by
  intro n
  induction n with
  | zero => intro k s _ h; omega
  | succ n ih =>
   intro k s hk h hI
   rcases Nat.lt_or_ge k xs.length with h1 | h1
   ·rw [X0 ((k : Int) + 1, f s xs[k]) (fun next => (more next k s h1 hI).1), List.drop_eq_getElem_cons h1, List.foldl_cons]
    exact ih (k + 1) _ (by omega) (by omega) (more (fun _ => none) k s h1 hI).2
   ·have : k = xs.length := by omega
    subst this
    rw [List.drop_length]
    exact Ql fun next => stop next s hI
 have := key (xs.length + 1) 0 s (Nat.zero_le _) (by omega) hs
 simpa using this
end Go.Pl

/- strings.Trim at an ASCII cutset, as its model tells it. Conditions: none. -/
namespace Go.M
open Go.Md Go.Pl
theorem fix_way {α ρ : Type} {F : (α → Option ρ) → α → Option ρ} {o : Option ρ} (st : Nat → α) (n : Nat) (more : ∀ k, k < n → ∀ next, F next (st k) = next (st (k + 1))) (stop : ∀ next, F next (st n) = o) : Zp F (st 0) = o := by
 have key : ∀ m, m ≤ n → Zp F (st (n - m)) = o := by
  intro m
  induction m with
  | zero => intro _; exact Ql stop
  | succ m ih =>
   intro h
   rw [X0 (b := st (n - (m + 1) + 1)) (more _ (by omega)), show n - (m + 1) + 1 = n - m from by omega]
   exact ih (by omega)
 simpa using key n (Nat.le_refl _)
def Jaa (cs : List UInt8) : Nat → Bool := cs.foldl (fun m c => Jae m c.toNat true) (fun _ => false)
theorem setC_iff (cs : List UInt8) (c : UInt8) : Jaa cs c.toNat = true ↔ c ∈ cs := by
 have key : ∀ (cs : List UInt8) (m : Nat → Bool), cs.foldl (fun m c => Jae m c.toNat true) m c.toNat = true ↔ m c.toNat = true ∨ c ∈ cs := by
  intro cs
  induction cs with
  | nil => intro m; simp
  | cons d cs ih =>
   intro m
   rw [List.foldl_cons, ih, List.mem_cons]
   unfold Jae
   by_cases h : c.toNat = d.toNat
   ·have : c = d := UInt8.toNat_inj.1 h
    simp [this]
   ·have : c ≠ d := fun e => h (by rw [e])
    simp [h, this]
 unfold Jaa
 rw [key]; simp
theorem set_step {cs : List UInt8} (hcs : ∀ c ∈ cs, c.toNat < 128) (hl : cs.length ≤ 1000) {k : Nat} (hk : k < cs.length) (next : Int × (Nat → Bool) → Option ((Nat → Bool) × Bool)) (m : Nat → Bool) :
  Qz cs next (k : Int) m = next ((k + 1 : Nat), Jae m cs[k].toNat true) := by
 have hc := hcs _ (List.getElem_mem hk)
 unfold Qz
 rw [Qr, if_pos (by omega), Jha hk, Jd, Qr, if_neg (by omega), Jd2 (by omega), Jd, Qf (by omega), Jd]
 rfl
theorem set_eq {cs : List UInt8} (hcs : ∀ c ∈ cs, c.toNat < 128) (hl : cs.length ≤ 1000) : Z9 cs = some (Jaa cs, true) := by
 unfold Z9
 refine fix_way (fun k => ((k : Int), Jaa (cs.take k))) cs.length (fun k hk next => ?_) (fun _ => ?_)
 ·show Qz cs next (k : Int) (Jaa (cs.take k)) = _
  rw [set_step hcs hl hk]
  congr 2
  unfold Jaa
  rw [List.take_add_one, List.getElem?_eq_getElem hk, List.foldl_append]; rfl
 ·show Qz cs _ (cs.length : Int) (Jaa (cs.take cs.length)) = _
  unfold Qz
  rw [Qr, if_neg (by omega), List.take_length]; rfl
theorem has_eq (cs : List UInt8) (c : UInt8) : Xt (Jaa cs) (c.toNat : Int) = some (decide (c ∈ cs), Jaa cs) := by
 have hc := c.toNat_lt
 unfold Xt
 rw [Jd2 (by omega), Jd]
 congr 2
 rw [Bool.eq_iff_iff, setC_iff]; simp
theorem trimR {cs : List UInt8} (s : List UInt8) (hs : s.length ≤ 1000) : ∃ r : List UInt8 × (Nat → Bool), Zb s (Jaa cs) = some r ∧ (∃ suf, s = r.1 ++ suf ∧ ∀ c ∈ suf, c ∈ cs) ∧ r.2 = Jaa cs ∧ (∀ c, r.1.getLast? = some c → c ∉ cs) := by
 unfold Zb
 refine fix_run (fun a => (∃ suf, s = a.1 ++ suf ∧ ∀ c ∈ suf, c ∈ cs) ∧ a.2 = Jaa cs) (fun a => a.1.length) (fun (r : List UInt8 × (Nat → Bool)) => (∃ suf, s = r.1 ++ suf ∧ ∀ c ∈ suf, c ∈ cs) ∧ r.2 = Jaa cs ∧ (∀ c, r.1.getLast? = some c → c ∉ cs)) ?_ (s, Jaa cs) ⟨⟨[], by simp, by simp⟩, rfl⟩
 rintro ⟨x, m⟩ ⟨⟨suf, h1, h2⟩, h3⟩
 simp only at h1 h3
 subst h3
 have hl : x.length ≤ 1000 := by have := congrArg List.length h1; rw [List.length_append] at this; omega
 rcases List.eq_nil_or_concat x with rfl | ⟨ini, c, rfl⟩
 ·exact .inl ⟨([], Jaa cs), ⟨⟨suf, h1, h2⟩, rfl, by simp⟩, fun _ => rfl⟩
 ·simp only [List.concat_eq_append, List.length_append, List.length_singleton] at *
  have e1 : gI (((ini.length + 1 : Nat) : Int) - 1) = some (ini.length : Int) := by rw [Qf (by omega)]; congr 1; omega
  have e2 : Uw (ini ++ [c]) (ini.length : Int) = some (c.toNat : Int) := by rw [Jha (by simp)]; simp
  have e3 : Qd (ini ++ [c]) 0 (ini.length : Int) = some ini := by rw [Jcz (by simp; omega)]; simp
  have key : ∀ next, Xr next (ini ++ [c]) (Jaa cs) = if c ∈ cs then next (ini, Jaa cs) else some (ini ++ [c], Jaa cs) := by
   intro next
   unfold Xr
   rw [List.length_append, List.length_singleton, Qr, if_pos (by omega), e1, Jd, e2, Jd, has_eq, Jd, Jd, e3, Jd]
   by_cases hd : c ∈ cs
   ·rw [if_pos hd]; simp [hd]
   ·rw [if_neg hd]; simp [hd]
  by_cases hd : c ∈ cs
  ·refine .inr ⟨(ini, Jaa cs), ⟨⟨c :: suf, by rw [h1]; simp, fun d hd' => ?_⟩, rfl⟩, by simp, fun next => (key next).trans (if_pos hd)⟩
   rcases List.mem_cons.1 hd' with rfl | h
   ·exact hd
   ·exact h2 d h
  ·exact .inl ⟨(ini ++ [c], Jaa cs), ⟨⟨suf, h1, h2⟩, rfl, fun d hd' => by simp at hd'; subst hd'; exact hd⟩, fun next => (key next).trans (if_neg hd)⟩
theorem trimL {cs : List UInt8} (s : List UInt8) (hs : s.length ≤ 1000) : ∃ r : List UInt8 × (Nat → Bool), Zz s (Jaa cs) = some r ∧ (∃ pre, s = pre ++ r.1 ∧ ∀ c ∈ pre, c ∈ cs) ∧ r.2 = Jaa cs ∧ (∀ c, r.1.head? = some c → c ∉ cs) := by
 unfold Zz
 refine fix_run (fun a => (∃ pre, s = pre ++ a.1 ∧ ∀ c ∈ pre, c ∈ cs) ∧ a.2 = Jaa cs) (fun a => a.1.length) (fun (r : List UInt8 × (Nat → Bool)) => (∃ pre, s = pre ++ r.1 ∧ ∀ c ∈ pre, c ∈ cs) ∧ r.2 = Jaa cs ∧ (∀ c, r.1.head? = some c → c ∉ cs)) ?_ (s, Jaa cs) ⟨⟨[], by simp, by simp⟩, rfl⟩
 rintro ⟨x, m⟩ ⟨⟨pre, h1, h2⟩, h3⟩
 simp only at h1 h3
 subst h3
 cases x with
 | nil => exact .inl ⟨([], Jaa cs), ⟨⟨pre, h1, h2⟩, rfl, by simp⟩, fun _ => rfl⟩
 | cons c x =>
  have e2 : Uw (c :: x) 0 = some (c.toNat : Int) := by rw [gOct_ok (by omega) (by simp)]; rfl
  have e3 : Qd (c :: x) 1 ((c :: x).length : Nat) = some x := by rw [Uh (by rw [List.length_cons]; omega)]; rfl
  have key : ∀ next, Xy next (c :: x) (Jaa cs) = if c ∈ cs then next (x, Jaa cs) else some (c :: x, Jaa cs) := by
   intro next
   unfold Xy
   rw [Qr, if_pos (by rw [List.length_cons]; omega), e2, Jd, has_eq, Jd, e3, Jd]
   by_cases hd : c ∈ cs
   ·rw [if_pos hd]; simp [hd]
   ·rw [if_neg hd]; simp [hd]
  by_cases hd : c ∈ cs
  ·refine .inr ⟨(x, Jaa cs), ⟨⟨pre ++ [c], by rw [h1]; simp, fun d hd' => ?_⟩, rfl⟩, by simp, fun next => (key next).trans (if_pos hd)⟩
   rcases List.mem_append.1 hd' with h | h
   ·exact h2 d h
   ·rw [List.mem_singleton.1 h]; exact hd
  ·exact .inl ⟨(c :: x, Jaa cs), ⟨⟨pre, h1, h2⟩, rfl, fun d hd' => by simp at hd'; subst hd'; exact hd⟩, fun next => (key next).trans (if_neg hd)⟩
theorem trim_ok {cs : List UInt8} (hcs : ∀ c ∈ cs, c.toNat < 128) (h2 : 2 ≤ cs.length) (hcl : cs.length ≤ 1000) (s : List UInt8) (hs : s.length ≤ 1000) : ∃ r, Ue s cs = some r ∧ (r = [] ↔ ∀ c ∈ s, c ∈ cs) := by
 unfold Ue
 by_cases h0 : s = []
 ·subst h0; exact ⟨[], rfl, by simp⟩
 ·have hc0 : ¬ cs = [] := fun h => by rw [h] at h2; simp at h2
  rw [Qr, if_neg h0, Qr, if_neg hc0, Qr, if_neg (by omega)]
  obtain ⟨r, hr, ⟨suf, h1, h2⟩, h3, h4⟩ := trimR (cs := cs) s hs
  have hl : r.1.length ≤ 1000 := by have := congrArg List.length h1; rw [List.length_append] at this; omega
  obtain ⟨q, hq, ⟨pre, k1, k2⟩, _, k4⟩ := trimL (cs := cs) r.1 hl
  refine ⟨q.1, ?_, fun h c hc => ?_, fun h => ?_⟩
  ·unfold U9
   rw [set_eq hcs hcl, Jd, Jh, hr, Jd, h3, hq, Jd]
  ·rw [h1, k1, h] at hc
   simp only [List.append_nil, List.mem_append] at hc
   rcases hc with h | h
   ·exact k2 c h
   ·exact h2 c h
  ·cases hq1 : q.1 with
   | nil => rfl
   | cons c x =>
    exact absurd (h c (by rw [h1, k1, hq1]; simp)) (k4 c (by rw [hq1]; rfl))
end Go.M

/- Strings in parts and as numbers, in plain Lean. Conditions: none. -/
namespace Go.M
open Go.Md Go.Pl
theorem gIxB_nat (s : List UInt8) (c : UInt8) : gIxB s (c.toNat : Int) = some (ixB s c) := by
 unfold gIxB
 rw [Int.toNat_natCast, show c.toNat.toUInt8 = c from by simp]
def Js (c : UInt8) : List UInt8 → List UInt8 × List UInt8 × Bool
 | [] => ([], [], false)
 | b :: l => if b = c then ([], l, true) else (b :: (Js c l).1, (Js c l).2.1, (Js c l).2.2)
theorem Jff {c : UInt8} {s : List UInt8} : (Js c s).2.2 = false → Js c s = (s, [], false) := by
 induction s with
 | nil => intro _; rfl
 | cons b l ih =>
  intro h
  unfold Js at h ⊢
  by_cases hb : b = c
  ·rw [if_pos hb] at h; cases h
  ·rw [if_neg hb] at h ⊢; rw [ih h]
theorem W5 {c : UInt8} {s : List UInt8} : (Js c s).2.2 = true → s = (Js c s).1 ++ c :: (Js c s).2.1 := by
 induction s with
 | nil => intro h; cases h
 | cons b l ih =>
  intro h
  unfold Js at h ⊢
  by_cases hb : b = c
  ·rw [if_pos hb]; rw [hb]; rfl
  ·rw [if_neg hb] at h ⊢
   show b :: l = b :: ((Js c l).1 ++ c :: (Js c l).2.1)
   rw [← ih h]
theorem cutS_ix (c : UInt8) (s : List UInt8) : ixB s c = if (Js c s).2.2 = true then ((Js c s).1.length : Int) else -1 := by
 induction s with
 | nil => rfl
 | cons b l ih =>
  unfold ixB Js
  by_cases hb : b = c
  ·rw [if_pos hb, if_pos hb]; rfl
  ·rw [if_neg hb, if_neg hb, ih]
   by_cases h : (Js c l).2.2 = true
   ·simp only [if_pos h, List.length_cons]
    rw [if_neg (by omega)]; omega
   ·simp only [if_neg h, if_true]
theorem Jgm (c : UInt8) (s : List UInt8) : (Js c s).1.length + (Js c s).2.1.length ≤ s.length := by
 by_cases h : (Js c s).2.2 = true
 ·have := congrArg List.length (W5 h); simp at this; omega
 ·rw [Jff (by simpa using h)]; simp
theorem Index1_eq (s : List UInt8) (c : UInt8) : Xk s [c] = some (ixB s c) := by
 unfold Xk
 rw [Qr, if_neg (by simp), Qr]
 by_cases h : [c] = s
 ·rw [if_pos h, ← h]; simp [ixB]
 ·rw [if_neg h, Qr, if_pos (show (([c] : List UInt8).length : Int) = 1 from rfl)]
  show Jq (some (c.toNat : Int)) _ = _
  rw [Jd]
  unfold Xq
  rw [gIxB_nat]; rfl
theorem Cut_eq {s : List UInt8} (hs : s.length ≤ 9223372036854775000) (c : UInt8) : Jam s [c] = some (Js c s) := by
 unfold Jam Vj
 rw [Index1_eq, Jd, cutS_ix]
 by_cases h : (Js c s).2.2 = true
 ·have hl := congrArg List.length (W5 h)
  rw [List.length_append, List.length_cons] at hl
  have e1 : s.take (Js c s).1.length = (Js c s).1 := by
   have := List.take_left' (l₁ := (Js c s).1) (l₂ := c :: (Js c s).2.1) rfl
   rwa [← W5 h] at this
  have e2 : s.drop ((Js c s).1.length + 1) = (Js c s).2.1 := by
   have := List.drop_left' (l₁ := (Js c s).1 ++ [c]) (l₂ := (Js c s).2.1) rfl
   rw [List.append_assoc, List.singleton_append, ← W5 h] at this
   simpa using this
  have e4 : (([c] : List UInt8).length : Int) = 1 := rfl
  rw [if_pos h, Qr, if_pos (by omega), Jcz (by omega), Jd, Qf (by rw [e4]; omega), Jd, Uh (by rw [e4]; omega), Jd, Jd]
  have e3 : (((Js c s).1.length : Int) + (([c] : List UInt8).length : Int)).toNat = (Js c s).1.length + 1 := by rw [e4]; omega
  rw [e3, e2, Int.toNat_natCast, e1, ← h]
 ·rw [if_neg h, Qr, if_neg (by omega), Jd, Jff (by simpa using h)]
theorem Pre_eq (s : List UInt8) (c : UInt8) : Xo s [c] = some (decide (s.head? = some c)) := by
 unfold Xo
 rw [Qr]
 cases s with
 | nil => simp
 | cons b l =>
  have e4 : (([c] : List UInt8).length : Int) = 1 := rfl
  rw [if_pos (by rw [e4, List.length_cons]; omega), Jcz (by rw [e4, List.length_cons]; omega), Jd]
  simp
theorem TrimP_eq (s : List UInt8) (c : UInt8) : Zx s [c] = some (if s.head? = some c then s.tail else s) := by
 unfold Zx Yl
 rw [Pre_eq, Jd]
 by_cases h : s.head? = some c
 ·have h1 : 1 ≤ s.length := by cases s with | nil => cases h | cons => simp
  rw [decide_eq_true h, Jh, Uh (by rw [show (([c] : List UInt8).length : Int) = 1 from rfl]; omega), Jd, Jd, if_pos h]
  simp [List.drop_one]
 ·rw [decide_eq_false h, Jf, Jd, if_neg h]
def dg (c : UInt8) : Bool := decide (48 ≤ c.toNat ∧ c.toNat ≤ 57)
def W8 (a : Nat) (l : List UInt8) : Nat := l.foldl (fun n c => n * 10 + (c.toNat - 48)) a
def D10 : List UInt8 := [48, 49, 50, 51, 52, 53, 54, 55, 56, 57]
theorem dg_mem (c : UInt8) : c ∈ D10 ↔ dg c = true := by
 unfold dg
 rw [decide_eq_true_iff]
 constructor
 ·intro h
  simp only [D10, List.mem_cons, List.not_mem_nil, or_false] at h
  rcases h with h | h | h | h | h | h | h | h | h | h <;> subst h <;> decide
 ·intro h
  have e : c = UInt8.ofNat c.toNat := by simp
  have : c.toNat = 48 ∨ c.toNat = 49 ∨ c.toNat = 50 ∨ c.toNat = 51 ∨ c.toNat = 52 ∨ c.toNat = 53 ∨ c.toNat = 54 ∨ c.toNat = 55 ∨ c.toNat = 56 ∨ c.toNat = 57 := by omega
  rcases this with h | h | h | h | h | h | h | h | h | h <;> rw [h] at e <;> rw [e] <;> decide
theorem TrimD (s : List UInt8) (hs : s.length ≤ 1000) : ∃ r, Ue s [48, 49, 50, 51, 52, 53, 54, 55, 56, 57] = some r ∧ (r = [] ↔ s.all dg = true) := by
 obtain ⟨r, h1, h2⟩ := trim_ok (cs := D10) (by decide) (by decide) (by decide) s hs
 refine ⟨r, h1, h2.trans ?_⟩
 rw [List.all_eq_true]
 exact ⟨fun h c hc => (dg_mem c).1 (h c hc), fun h c hc => (dg_mem c).2 (h c hc)⟩
theorem decF_val {l : List UInt8} : ∀ {a : Nat}, l.all dg = true → Jz a l = some (W8 a l) := by
 induction l with
 | nil => intro a _; rfl
 | cons c l ih =>
  intro a h
  rw [List.all_cons, Bool.and_eq_true] at h
  unfold Jz digV
  have := h.1
  unfold dg at this
  rw [decide_eq_true_iff] at this
  rw [if_pos this]
  exact ih h.2
theorem atoi_val {l : List UInt8} (hl : l ≠ []) (hn : l.length ≤ 18) (h : l.all dg = true) : Je5 l = some ((W8 0 l : Nat) : Int) := by
 unfold Je5
 rw [if_pos hn]
 cases l with
 | nil => exact absurd rfl hl
 | cons c l =>
  have hc : dg c = true := by rw [List.all_cons, Bool.and_eq_true] at h; exact h.1
  have h45 : ¬ (c == 45) = true := by intro e; rw [beq_iff_eq] at e; subst e; revert hc; decide
  have h43 : ¬ (c == 43) = true := by intro e; rw [beq_iff_eq] at e; subst e; revert hc; decide
  show (if (c == 45) = true then _ else if (c == 43) = true then _ else (decN (c :: l)).map fun (m : Nat) => (m : Int)) = _
  rw [if_neg h45, if_neg h43]
  unfold decN
  rw [if_neg (by simp), decF_val h]; rfl
theorem valS_app (a : Nat) (l m : List UInt8) : W8 a (l ++ m) = W8 (W8 a l) m := List.foldl_append
theorem valS_acc (l : List UInt8) : ∀ a : Nat, W8 a l = a * 10 ^ l.length + W8 0 l := by
 induction l with
 | nil => intro a; simp [W8]
 | cons c l ih =>
  intro a
  show W8 (a * 10 + (c.toNat - 48)) l = _ + W8 (0 * 10 + (c.toNat - 48)) l
  rw [ih (a * 10 + (c.toNat - 48)), ih (0 * 10 + (c.toNat - 48)), List.length_cons, Nat.pow_succ, Nat.zero_mul, Nat.zero_add, Nat.add_mul, Nat.add_assoc, Nat.mul_assoc, Nat.mul_comm 10]
theorem valS_lt {l : List UInt8} (h : l.all dg = true) : W8 0 l < 10 ^ l.length := by
 induction l with
 | nil => simp [W8]
 | cons c l ih =>
  rw [List.all_cons, Bool.and_eq_true] at h
  have h1 := ih h.2
  have h2 := h.1
  unfold dg at h2
  rw [decide_eq_true_iff] at h2
  show W8 (0 * 10 + (c.toNat - 48)) l < _
  rw [valS_acc, List.length_cons, Nat.pow_succ, Nat.zero_mul, Nat.zero_add]
  have h3 : (c.toNat - 48) * 10 ^ l.length ≤ 9 * 10 ^ l.length := Nat.mul_le_mul_right _ (by omega)
  omega
theorem Jgx {d : Nat} (h : d < 10) : dg (UInt8.ofNat (48 + d)) = true ∧ (UInt8.ofNat (48 + d)).toNat - 48 = d := by
 have e : (UInt8.ofNat (48 + d)).toNat = 48 + d := by rw [UInt8.toNat_ofNat']; omega
 unfold dg
 rw [e, decide_eq_true_iff]
 omega
theorem Jd8 : ∀ (k u : Nat), u < 10 ^ (k + 1) → (Jcs u).all dg = true ∧ W8 0 (Jcs u) = u ∧ Jcs u ≠ [] ∧ (Jcs u).length ≤ k + 1 ∧ ((Jcs u).head? = some 48 → u = 0) ∧ (u = 0 → Jcs u = [48]) := by
 intro k
 induction k with
 | zero =>
  intro u hu
  have hu : u < 10 := by simpa using hu
  unfold Jcs
  rw [if_pos hu]
  obtain ⟨h1, h2⟩ := Jgx hu
  refine ⟨by rw [List.all_cons, h1]; rfl, ?_, by simp, by simp, fun h => ?_, fun h => by subst h; rfl⟩
  ·show 0 * 10 + ((UInt8.ofNat (48 + u)).toNat - 48) = u
   omega
  ·simp only [List.head?_cons, Option.some.injEq] at h
   rw [h] at h2
   simpa using h2.symm
 | succ k ih =>
  intro u hu
  unfold Jcs
  by_cases h10 : u < 10
  ·rw [if_pos h10]
   obtain ⟨h1, h2⟩ := Jgx h10
   refine ⟨by rw [List.all_cons, h1]; rfl, ?_, by simp, by simp, fun h => ?_, fun h => by subst h; rfl⟩
   ·show 0 * 10 + ((UInt8.ofNat (48 + u)).toNat - 48) = u
    omega
   ·simp only [List.head?_cons, Option.some.injEq] at h
    rw [h] at h2
    simpa using h2.symm
  ·rw [if_neg h10]
   obtain ⟨h1, h2⟩ := Jgx (d := u % 10) (by omega)
   obtain ⟨i1, i2, i3, i4, i5, i6⟩ := ih (u / 10) (by rw [Nat.pow_succ] at hu; omega)
   refine ⟨by rw [List.all_append, i1, List.all_cons, h1]; rfl, ?_, by simp, by simp; omega, fun h => ?_, fun h => by omega⟩
   ·rw [valS_app, i2]
    show u / 10 * 10 + ((UInt8.ofNat (48 + u % 10)).toNat - 48) = u
    omega
   ·exfalso
    have : (Jcs (u / 10)).head? = some 48 := by
     cases hd : Jcs (u / 10) with
     | nil => exact absurd hd i3
     | cons c l => rw [hd] at h; simpa using h
    have := i5 this
    omega
theorem head_ne {a : List UInt8} (h : a ≠ []) (c : UInt8) : Uw a 0 = some ((a.head h).toNat : Int) := by
 cases a with
 | nil => exact absurd rfl h
 | cons x a => rfl
theorem head48 {a : List UInt8} (h : a ≠ []) : ((a.head h).toNat : Int) = 48 ↔ a.head? = some 48 := by
 cases a with
 | nil => exact absurd rfl h
 | cons x a =>
  simp only [List.head_cons, List.head?_cons, Option.some.injEq]
  constructor
  ·intro e
   have : x = UInt8.ofNat x.toNat := by simp
   rw [show x.toNat = 48 from by omega] at this
   exact this
  ·intro e; subst e; rfl
end Go.M

/- Numbers as strings: what Itoa writes of what Atoi reads, in plain Lean. Conditions: none. -/
namespace Go.M
open Go.Md
theorem valS_pos {l : List UInt8} (h : l.all dg = true) (h0 : l ≠ []) (hh : l.head? ≠ some 48) : 1 ≤ W8 0 l := by
 cases l with
 | nil => exact absurd rfl h0
 | cons c l =>
  rw [List.all_cons, Bool.and_eq_true] at h
  have h2 := h.1
  unfold dg at h2
  rw [decide_eq_true_iff] at h2
  have h3 : c ≠ 48 := fun e => hh (by rw [e]; rfl)
  have h4 : c.toNat ≠ 48 := fun e => h3 (by rw [← UInt8.ofNat_toNat (x := c), e]; rfl)
  show 1 ≤ W8 (0 * 10 + (c.toNat - 48)) l
  rw [valS_acc]
  have : 1 * 10 ^ l.length ≤ (0 * 10 + (c.toNat - 48)) * 10 ^ l.length := Nat.mul_le_mul_right _ (by omega)
  have := Nat.one_le_two_pow (n := 0)
  have h10 : 1 ≤ 10 ^ l.length := Nat.one_le_pow _ _ (by omega)
  omega
theorem dg_back {c : UInt8} (h : dg c = true) : UInt8.ofNat (48 + (c.toNat - 48)) = c := by
 unfold dg at h
 rw [decide_eq_true_iff] at h
 rw [show 48 + (c.toNat - 48) = c.toNat from by omega, UInt8.ofNat_toNat]
theorem decD_back : ∀ (k : Nat) (l : List UInt8), l.length ≤ k → l.all dg = true → l ≠ [] → (l.head? = some 48 → l = [48]) → Jcs (W8 0 l) = l := by
 intro k
 induction k with
 | zero => intro l hk _ h0; exact absurd (List.length_eq_zero_iff.1 (by omega)) h0
 | succ k ih =>
  intro l hk h h0 hh
  have e := List.dropLast_concat_getLast h0
  generalize hm : l.dropLast = m at e
  generalize hc : l.getLast h0 = c at e
  have hd : m.all dg = true ∧ dg c = true := by
   rw [← e, List.all_append, Bool.and_eq_true] at h
   exact ⟨h.1, by simpa using h.2⟩
  have hcd := hd.2
  unfold dg at hcd
  rw [decide_eq_true_iff] at hcd
  have hv : W8 0 l = W8 0 m * 10 + (c.toNat - 48) := by rw [← e, valS_app]; rfl
  have hl : m.length + 1 = l.length := by rw [← e]; simp
  by_cases m0 : m = []
  ·subst m0
   rw [hv, show W8 0 [] = 0 from rfl, Nat.zero_mul, Nat.zero_add]
   unfold Jcs
   rw [if_pos (by omega), dg_back hd.2]
   exact e
  ·have mh : m.head? ≠ some 48 := fun e1 => by
    have : l.head? = some 48 := by rw [← e, List.head?_append, e1]; rfl
    have := hh this
    rw [this] at hl
    have : m.length = 0 := by simpa using hl
    exact m0 (List.length_eq_zero_iff.1 this)
   have p1 := valS_pos hd.1 m0 mh
   have i1 := ih m (by omega) hd.1 m0 (fun e1 => absurd e1 mh)
   unfold Jcs
   rw [hv, if_neg (by omega), show (W8 0 m * 10 + (c.toNat - 48)) / 10 = W8 0 m from by omega, show (W8 0 m * 10 + (c.toNat - 48)) % 10 = c.toNat - 48 from by omega, i1, dg_back hd.2]
   exact e
def Jai (s : List UInt8) : List UInt8 := if s.head? = some 45 then s.tail else s
def Wh (s : List UInt8) : Int := if s.head? = some 45 then -((W8 0 s.tail : Nat) : Int) else ((W8 0 s : Nat) : Int)
def Jb3 (n : Nat) (s : List UInt8) : Prop := Jai s ≠ [] ∧ (Jai s).length ≤ n ∧ (Jai s).all dg = true ∧ ((Jai s).head? = some 48 → s = [48])
theorem numV_lt {s : List UInt8} {n : Nat} (hd : (Jai s).all dg = true) (hn : (Jai s).length ≤ n) : -((10 ^ n : Nat) : Int) < Wh s ∧ Wh s < ((10 ^ n : Nat) : Int) := by
 have h1 := valS_lt hd
 have h2 : 10 ^ (Jai s).length ≤ 10 ^ n := Nat.pow_le_pow_right (by omega) hn
 unfold Wh
 unfold Jai at h1 h2
 split
 ·rename_i h; rw [if_pos h] at h1 h2; omega
 ·rename_i h; rw [if_neg h] at h1 h2; omega
theorem atoi_num {s : List UInt8} (h0 : Jai s ≠ []) (hn : (Jai s).length ≤ 17) (hd : (Jai s).all dg = true) : Je5 s = some (Wh s) := by
 unfold Jai at h0 hn hd
 unfold Wh
 by_cases h : s.head? = some 45
 ·rw [if_pos h] at h0 hn hd ⊢
  cases s with
  | nil => cases h
  | cons c l =>
   have hc : c = 45 := by simpa using h
   subst hc
   rw [List.tail_cons] at h0 hn hd ⊢
   unfold Je5
   rw [if_pos (by simp; omega)]
   show (if ((45 : UInt8) == 45) = true then (decN l).map fun (m : Nat) => -(m : Int) else if ((45 : UInt8) == 43) = true then (decN l).map fun (m : Nat) => (m : Int) else (decN (45 :: l)).map fun (m : Nat) => (m : Int)) = _
   rw [if_pos (by decide)]
   unfold decN
   rw [if_neg (by simpa using h0), decF_val hd]; rfl
 ·rw [if_neg h] at h0 hn hd ⊢
  exact atoi_val h0 (by omega) hd
theorem decD_zero : Jcs 0 = [48] := by unfold Jcs; rw [if_pos (by omega)]; rfl
theorem itoa_num {s : List UInt8} (h0 : Jai s ≠ []) (hd : (Jai s).all dg = true) : Jbr (Wh s) = s ↔ ((Jai s).head? = some 48 → s = [48]) := by
 unfold Jai at h0 hd ⊢
 unfold Wh
 by_cases h : s.head? = some 45
 ·rw [if_pos h] at h0 hd ⊢
  rw [if_pos h]
  cases s with
  | nil => cases h
  | cons c l =>
   have hc : c = 45 := by simpa using h
   subst hc
   rw [List.tail_cons] at h0 hd ⊢
   by_cases hh : l.head? = some 48
   ·refine ⟨fun e => ?_, fun e => ?_⟩
    ·exfalso
     unfold Jbr at e
     split at e
     ·rename_i hneg
      have e1 : Jcs (W8 0 l) = l := by
       have : (-((W8 0 l : Nat) : Int)).natAbs = W8 0 l := by omega
       rw [this] at e
       simpa using e
      obtain ⟨k, hk⟩ : ∃ k, W8 0 l < 10 ^ (k + 1) := ⟨l.length, Nat.lt_of_lt_of_le (valS_lt hd) (Nat.pow_le_pow_right (by omega) (by omega))⟩
      have := (Jd8 k _ hk).2.2.2.2.1 (by rw [e1]; exact hh)
      omega
     ·rename_i hneg
      have hv : W8 0 l = 0 := by omega
      rw [hv] at e
      rw [show (-((0 : Nat) : Int)).toNat = 0 from rfl, decD_zero] at e
      simp at e
    ·have := e hh
     simp at this
   ·refine ⟨fun _ e => absurd e hh, fun _ => ?_⟩
    have p1 := valS_pos hd h0 hh
    unfold Jbr
    rw [if_pos (by omega), show (-((W8 0 l : Nat) : Int)).natAbs = W8 0 l from by omega, decD_back l.length l (Nat.le_refl _) hd h0 (fun e => absurd e hh)]
 ·rw [if_neg h] at h0 hd ⊢
  rw [if_neg h]
  have e1 : Jbr ((W8 0 s : Nat) : Int) = Jcs (W8 0 s) := by unfold Jbr; rw [if_neg (by omega), Int.toNat_natCast]
  rw [e1]
  refine ⟨fun e hh => ?_, fun e => decD_back s.length s (Nat.le_refl _) hd h0 e⟩
  obtain ⟨k, hk⟩ : ∃ k, W8 0 s < 10 ^ (k + 1) := ⟨s.length, Nat.lt_of_lt_of_le (valS_lt hd) (Nat.pow_le_pow_right (by omega) (by omega))⟩
  obtain ⟨_, _, _, _, a5, a6⟩ := Jd8 k _ hk
  have := a5 (by rw [e]; exact hh)
  rw [a6 this] at e
  exact e.symm
end Go.M

/- Likenesses, in plain Lean. Conditions: none. -/
namespace Go.M
open Go.Md Go.Pl
def okN (x : Int) : Bool := decide (-127 ≤ x ∧ x ≤ 127)
theorem okN_iff {x : Int} : okN x = true ↔ -127 ≤ x ∧ x ≤ 127 := by simp [okN]
def c12 (v : Nat → Int) (j : Nat) : Int := if okN (v j) = true then 0 else 2
def vecF (v : Nat → Int) : Int := Vh (c12 v) 12 0
theorem Zo (a b c : Int) : Ze a b c = some (decide (a < b ∨ c < a)) := by
 unfold Ze
 rw [Qr]; by_cases h : a < b <;> simp [h]
theorem Jhj (v : Nat → Int) : Jdi v = some (vecF v) := by
 unfold Jdi vecF
 refine scan 12 _ (fun next k hk => ?_) fun next => ?_
 ·unfold Ut c12
  by_cases h : okN (v k) = true
  ·have h' := okN_iff.1 h
   rw [if_pos h]
   simp (disch := omega) only [Qr, Qf, Jd2, Jd, if_pos, if_neg, if_true]
  ·have h' : ¬ (-127 ≤ v k ∧ v k ≤ 127) := fun hh => h (okN_iff.2 hh)
   rw [if_neg h]
   by_cases h2 : v k < -127 <;> simp (disch := omega) only [Qr, Qf, Jd2, Jd, if_pos, if_neg]
 ·unfold Ut
  rfl
theorem Jdd (v : Nat → Int) : Jbo v = some (vecF v) := by
 unfold Jbo vecF
 refine scan 12 _ (fun next k hk => ?_) fun next => ?_
 ·unfold V1 c12
  by_cases h : okN (v k) = true
  ·have h' := okN_iff.1 h
   rw [if_pos h]
   simp (disch := omega) only [Qr, Qf, Jd2, Jd, Zo, if_pos, if_neg, if_true]
  ·have h' : ¬ (-127 ≤ v k ∧ v k ≤ 127) := fun hh => h (okN_iff.2 hh)
   rw [if_neg h]
   simp (disch := omega) only [Qr, Qf, Jd2, Jd, Zo, if_pos, if_neg]
 ·unfold V1
  rfl
theorem vecF_ok {w : Nat → Int} (h : vecF w = 0) (j : Nat) (hj : j < 12) : -127 ≤ w j ∧ w j ≤ 127 := by
 have := Jbs h j (by omega) (by omega)
 unfold c12 at this
 by_cases hh : okN (w j) = true
 ·exact okN_iff.1 hh
 ·rw [if_neg hh] at this; cases this
def Jej (l : List Ta) (j : Nat) : Int :=
 if ¬ (1 ≤ (l.getD j default).Id ∧ (l.getD j default).Id ≤ 1000000) ∨ ¬ (1 ≤ (l.getD j default).Photo ∧ (l.getD j default).Photo ≤ 1000000) then 2
 else if 0 < j ∧ (l.getD j default).Id ≤ (l.getD (j - 1) default).Id then 5 else vecF (l.getD j default).Vec
theorem Jga (n : Int) : Jfr n = some (decide (1 ≤ n ∧ n ≤ 1000000)) := by
 unfold Jfr
 rw [Qr]; by_cases h : 1 ≤ n <;> simp [h]
theorem at_D {α : Type} [Inhabited α] {l : List α} {k : Nat} (h : k < l.length) : l.getD k default = l[k] := by
 rw [List.getD_eq_getElem?_getD, List.getElem?_eq_getElem h]; rfl
theorem check_eq (l : List Ta) (hl : l.length ≤ 9223372036854775807) : Ja8 l = some (if 300 < l.length then 4 else Vh (Jej l) l.length 0) := by
 unfold Ja8
 rw [Qr]
 by_cases h3 : 300 < l.length
 ·rw [if_pos (by omega), if_pos h3]
 ·rw [if_neg (by omega), if_neg h3]
  refine scan l.length _ (fun next k hk => ?_) fun next => ?_
  ·unfold Ws Jej
   rw [at_D hk]
   simp (disch := omega) only [Qr, J5, Jd, if_pos, Zo]
   by_cases h1 : 1 ≤ l[k].Id ∧ l[k].Id ≤ 1000000
   ·by_cases h2 : 1 ≤ l[k].Photo ∧ l[k].Photo ≤ 1000000
    ·have hh : ¬ (¬ (1 ≤ l[k].Id ∧ l[k].Id ≤ 1000000) ∨ ¬ (1 ≤ l[k].Photo ∧ l[k].Photo ≤ 1000000)) := by omega
     rw [if_neg (by omega), if_neg (by omega), if_neg hh]
     have hj2 : Vf (k : Int) next l[k] = if vecF l[k].Vec = 0 then next ((k : Int) + 1) else some (vecF l[k].Vec) := by
      unfold Vf
      rw [Jdd, Jd, Qf (by omega), Jd, Qr]
      by_cases hv : vecF l[k].Vec = 0 <;> simp [hv]
     by_cases hk0 : 0 < k
     ·have hm : (l.getD (k - 1) default) = l[k - 1] := at_D (show k - 1 < l.length by omega)
      rw [if_pos (by omega), Qf (by omega), Jd, show ((k : Int) - 1) = ((k - 1 : Nat) : Int) from by omega, J5 (by omega), Jd, hm]
      by_cases hle : l[k].Id ≤ l[k - 1].Id
      ·have hc : (if 0 < k ∧ l[k].Id ≤ l[k - 1].Id then (5 : Int) else vecF l[k].Vec) = 5 := if_pos ⟨hk0, hle⟩
       rw [if_pos hle, hc, if_neg (by decide)]
      ·have hc : (if 0 < k ∧ l[k].Id ≤ l[k - 1].Id then (5 : Int) else vecF l[k].Vec) = vecF l[k].Vec := if_neg fun h => hle h.2
       rw [if_neg hle, hc, hj2]
     ·have hc : (if 0 < k ∧ l[k].Id ≤ (l.getD (k - 1) default).Id then (5 : Int) else vecF l[k].Vec) = vecF l[k].Vec := if_neg fun h => hk0 h.1
      rw [if_neg (by omega), hc, hj2]
    ·have hh : ¬ (1 ≤ l[k].Id ∧ l[k].Id ≤ 1000000) ∨ ¬ (1 ≤ l[k].Photo ∧ l[k].Photo ≤ 1000000) := .inr h2
     rw [if_neg (by omega), if_pos (by omega), if_pos hh, if_neg (by decide)]
   ·have hh : ¬ (1 ≤ l[k].Id ∧ l[k].Id ≤ 1000000) ∨ ¬ (1 ≤ l[k].Photo ∧ l[k].Photo ≤ 1000000) := .inl h1
    rw [if_pos (by omega), if_pos hh, if_neg (by decide)]
  ·unfold Ws
   rw [Qr, if_neg (by omega)]
theorem likes_eq (l : List Ta) (hl : l.length ≤ 9223372036854775807) : Ud l = some (if 300 < l.length then 4 else Vh (Jej l) l.length 0) := by
 rw [← check_eq l hl]
 unfold Ud Ja8
 congr 2
 funext next a
 unfold U8 Ws
 congr 1
 congr 1
 funext t
 simp only [Jga, Zo, Jd]
 have e1 : (!decide (1 ≤ t.Id ∧ t.Id ≤ 1000000)) = decide (t.Id < 1 ∨ 1000000 < t.Id) := by
  rw [Bool.eq_iff_iff]; simp <;> omega
 have e2 : (!decide (1 ≤ t.Photo ∧ t.Photo ≤ 1000000)) = decide (t.Photo < 1 ∨ 1000000 < t.Photo) := by
  rw [Bool.eq_iff_iff]; simp <;> omega
 have e3 : ∀ b c, Wl a next t b c = Vf a next t := by
  intro b c
  unfold Wl Vf
  rw [Jhj, Jdd]
 simp only [e1, e2, e3]
end Go.M

/- FacePeople in plain Lean, first part: searches in lists. Conditions: few elements. -/
namespace Go.M
open Go.Md Go.Pl
set_option linter.unusedVariables false
theorem half {x : Int} (h : 0 ≤ x ∧ x ≤ 4611686018427387904) : gShr 64 (wU64 x) 1 = some (x / 2) ∧ Jbx (x / 2) = x / 2 := by
 refine ⟨?_, wI64_in (by omega)⟩
 rw [wU64_in (by omega)]
 unfold gShr
 rw [if_pos (by omega)]
 rfl
theorem Qa {p : Prop} [Decidable p] (h : p) : decide p = true := decide_eq_true h
theorem Jz {p : Prop} [Decidable p] (h : ¬ p) : decide p = false := decide_eq_false h
def idx {α : Type} (g : α → Bool) (l : List α) : Int := match l.findIdx? g with | some k => (k : Int) | none => -1
theorem idx_nn {α : Type} (g : α → Bool) (l : List α) : decide (0 ≤ idx g l) = l.any g := by
 unfold idx
 cases h : l.findIdx? g with
 | none =>
  rw [List.findIdx?_eq_none_iff] at h
  have : l.any g = false := by rw [List.any_eq_false]; intro x hx; simp [h x hx]
  rw [this]; rfl
 | some k =>
  have : l.any g = true := by
   rw [List.findIdx?_eq_some_iff_getElem] at h
   obtain ⟨h1, h2, _⟩ := h
   exact List.any_eq_true.2 ⟨_, List.getElem_mem h1, h2⟩
  rw [this]; simp
theorem index_loop {α : Type} {F : (Int → Option Int) → Int → Option Int} (l : List α) (g : α → Bool)
  (more : ∀ (next : Int → Option Int) (k : Nat) (h : k < l.length), F next (k : Int) = if g l[k] = true then some (k : Int) else next ((k : Int) + 1)) (last : ∀ next, F next (l.length : Int) = some (-1)) : Zp F 0 = some (idx g l) := by
 have h := up (F := F) l.length (fun k => some (match (l.drop k).findIdx? g with | some j => ((k + j : Nat) : Int) | none => -1)) (fun next k hk ih => by
  rcases Nat.lt_or_ge k l.length with h | h
  ·rw [more next k h, List.drop_eq_getElem_cons h, List.findIdx?_cons]
   by_cases hg : g l[k] = true
   ·rw [if_pos hg, if_pos hg]; rfl
   ·rw [if_neg hg, if_neg hg, ih h]
    cases (l.drop (k + 1)).findIdx? g with
    | none => rfl
    | some j => simp only [Option.map_some]; rw [show k + 1 + j = k + (j + 1) by omega]
  ·have : k = l.length := by omega
   subst this
   rw [last, List.drop_length]; rfl)
 rw [h, List.drop_zero]
 unfold idx
 cases l.findIdx? g <;> simp
theorem Jcc {α : Type} {l : List α} {f : α → Option Bool} {g : α → Bool} (hl : l.length ≤ 9223372036854775000) (hf : ∀ x ∈ l, f x = some (g x)) {F : (Int → Option Int) → Int → Option Int}
  (hF : ∀ next x, F next x = J6 (decide (x < (l.length : Int))) (Jq (Qk l x) fun t14 => Jq (f t14) fun t16 => J6 t16 (some x) (Jq (gI (x + 1)) fun t18 => next t18)) (some (-1))) : Zp F 0 = some (idx g l) := by
 refine index_loop l g (fun next k h => ?_) fun next => ?_
 ·rw [hF, Qa (by omega), Jh, J5 h, Jd, hf _ (List.getElem_mem h), Jd, Qf (by omega), Jd]
  by_cases hg : g l[k] = true
  ·rw [if_pos hg, hg, Jh]
  ·rw [if_neg hg, (by simpa using hg : g l[k] = false), Jf]
 ·rw [hF, Jz (by omega), Jf]
theorem indexInt_eq (l : List Int) (f : Int → Option Bool) (g : Int → Bool) (hl : l.length ≤ 9223372036854775000) (hf : ∀ x ∈ l, f x = some (g x)) : Ua l f = some (idx g l) := Jcc hl hf fun _ _ => rfl
theorem Jdr (l : List Int) (f : Int → Option Bool) (g : Int → Bool) (hl : l.length ≤ 9223372036854775000) (hf : ∀ x ∈ l, f x = some (g x)) : X8 l f = some (l.any g) := by
 unfold X8
 rw [indexInt_eq l f g hl hf, Jd, idx_nn]
theorem indexByte_eq (l : List Int) (f : Int → Option Bool) (g : Int → Bool) (hl : l.length ≤ 9223372036854775000) (hf : ∀ x ∈ l, f x = some (g x)) : Wu l f = some (idx g l) := Jcc hl hf fun _ _ => rfl
theorem Jf5 (l : List Int) (f : Int → Option Bool) (g : Int → Bool) (hl : l.length ≤ 9223372036854775000) (hf : ∀ x ∈ l, f x = some (g x)) : Yv l f = some (l.any g) := by
 unfold Yv
 rw [indexByte_eq l f g hl hf, Jd, idx_nn]
theorem indexLike_eq (l : List Ta) (f : Ta → Option Bool) (g : Ta → Bool) (hl : l.length ≤ 9223372036854775000) (hf : ∀ x ∈ l, f x = some (g x)) : Yp l f = some (idx g l) := Jcc hl hf fun _ _ => rfl
theorem any_eq (l : List Int) (n : Int) : l.any (fun x => decide (n = x)) = decide (n ∈ l) := by
 rw [Bool.eq_iff_iff, List.any_eq_true, decide_eq_true_iff]
 constructor
 ·rintro ⟨x, hx, h⟩; simp at h; subst h; exact hx
 ·intro h; exact ⟨n, h, by simp⟩
theorem contains_eq (l : List Int) (n : Int) (hl : l.length ≤ 9223372036854775000) : Vm l n = some (decide (n ∈ l)) := by
 unfold Vm
 rw [show Jbg l n = some (idx (fun x => decide (n = x)) l) from Jcc (f := fun t14 => some (decide (n = t14))) hl (fun _ _ => rfl) fun _ _ => rfl, Jd, idx_nn, any_eq]
theorem bin_loop {α ρ : Type} {F : (Int × Int → Option ρ) → Int × Int → Option ρ} (l : List α) (p : α → Bool) (mono : ∀ (i j : Nat) (hi : i < l.length) (hj : j < l.length), i < j → p l[j] = true → p l[i] = true) (J : Int → Option ρ)
  (more : ∀ (next : Int × Int → Option ρ) (i j : Nat) (h : (i + j) / 2 < l.length), i < j → j ≤ l.length → F next ((i : Int), (j : Int)) = if p l[(i + j) / 2] = true then next (((i + j) / 2 : Nat) + 1, (j : Int)) else next ((i : Int), (((i + j) / 2 : Nat) : Int)))
  (stop : ∀ next (i : Nat), i ≤ l.length → F next ((i : Int), (i : Int)) = J i) :
  ∃ k : Nat, k ≤ l.length ∧ (∀ (i : Nat) (h : i < l.length), i < k → p l[i] = true) ∧ (∀ (i : Nat) (h : i < l.length), k ≤ i → p l[i] = false) ∧ Zp F (0, (l.length : Int)) = J k := by
 have key : ∀ n i j, i ≤ j → j ≤ l.length → j - i < n → (∀ (q : Nat) (h : q < l.length), q < i → p l[q] = true) → (∀ (q : Nat) (h : q < l.length), j ≤ q → p l[q] = false) →
   ∃ k : Nat, k ≤ l.length ∧ (∀ (i : Nat) (h : i < l.length), i < k → p l[i] = true) ∧ (∀ (i : Nat) (h : i < l.length), k ≤ i → p l[i] = false) ∧ Zp F ((i : Int), (j : Int)) = J k := by
  intro n
  induction n with
  | zero => intro i j _ _ h; omega
  | succ n ih =>
   intro i j h1 h2 h3 h4 h5
   rcases Nat.lt_or_ge i j with h | h
   ·have hb : (i + j) / 2 < l.length := by omega
    by_cases hp : p l[(i + j) / 2] = true
    ·rw [X0 ((((i + j) / 2 + 1 : Nat) : Int), (j : Int)) fun next => by rw [more next i j hb h h2, if_pos hp]; rfl]
     refine ih _ _ (by omega) h2 (by omega) (fun q hq hq2 => ?_) h5
     rcases Nat.lt_or_ge q ((i + j) / 2) with h6 | h6
     ·exact mono q _ hq hb h6 hp
     ·have : q = (i + j) / 2 := by omega
      subst this; exact hp
    ·rw [X0 ((i : Int), (((i + j) / 2 : Nat) : Int)) fun next => by rw [more next i j hb h h2, if_neg hp]]
     refine ih _ _ (by omega) (by omega) (by omega) h4 fun q hq hq2 => ?_
     rcases Nat.lt_or_ge ((i + j) / 2) q with h6 | h6
     ·cases h7 : p l[q] with
      | false => rfl
      | true => exact absurd (mono _ q hb hq h6 h7) hp
     ·have : q = (i + j) / 2 := by omega
      subst this; simpa using hp
   ·have : i = j := by omega
    subst this
    exact ⟨i, h2, h4, h5, Ql fun next => stop next i h2⟩
 simpa using key (l.length + 1) 0 l.length (Nat.zero_le _) (Nat.le_refl _) (by omega) (fun q _ h => by omega) (fun q h h' => by omega)
def Rise (l : List Ta) : Prop := l.Pairwise fun x y => x.Id < y.Id
def has (id : Int) (x : Ta) : Bool := decide (x.Id = id)
theorem likeAt_eq (l : List Ta) (id : Int) (hl : l.length ≤ 9223372036854775000) : Jc7 l id = some (idx (has id) l) := by
 unfold Jc7
 rw [indexLike_eq l (Jeu id) (has id) hl fun _ _ => rfl, Jd]
theorem at_eq (l : List Ta) (id : Int) (hr : Rise l) (hl : l.length ≤ 1000000000) :
  ∃ i b, Jc0 l id = some (i, b) ∧ b = l.any (has id) ∧ (b = true → i = idx (has id) l) := by
 have hp := List.pairwise_iff_getElem.1 hr
 obtain ⟨k, h1, h2, h3, h4⟩ := bin_loop (F := fun next2 s => J1 l id Jba next2 s.1 s.2) l (fun x => decide (x.Id < id)) (fun i j hi hj hij h => by have := hp i j hi hj hij; simp at h ⊢; omega) (J9 l id Jba)
  (fun next i j h hij hj => by
   obtain ⟨f1, f2⟩ := half (x := (i : Int) + j) (by omega)
   rw [show ((i : Int) + j) / 2 = (((i + j) / 2 : Nat) : Int) by omega] at f1 f2
   simp only [J1]
   rw [Qa (by omega), Jh, Qf (by omega), Jd, f1, Jd, f2, J5 h, Jd]
   unfold Jba
   by_cases hlt : l[(i + j) / 2].Id < id
   ·rw [Qa hlt, Jh, Jd, Qa (by omega), Jh, Qf (by omega), Jd, if_pos rfl]
   ·rw [Jz hlt, Jf, if_neg (by simp)]
    by_cases hgt : id < l[(i + j) / 2].Id
    ·rw [Qa hgt, Jh, Jd, Jz (by omega), Jf]
    ·rw [Jz hgt, Jf, Jd, Jz (by omega), Jf])
  (fun next i hi => by
   simp only [J1]
   rw [Jz (by omega), Jf])
 have hfix : Jc0 l id = Jq (J9 l id Jba k) fun t8 => some (t8.1, t8.2) := by
  unfold Jc0 Xc
  rw [h4]
 unfold J9 at hfix
 have none_of : (∀ x ∈ l, x.Id ≠ id) → l.any (has id) = false := fun h => by
  rw [List.any_eq_false]; intro x hx; simp [has, h x hx]
 rcases Nat.lt_or_ge k l.length with hk | hk
 ·rw [Qa (by omega), Jh, J5 hk, Jd] at hfix
  unfold Jba at hfix
  have hge := h3 k hk (Nat.le_refl _)
  simp at hge
  rw [Jz (by omega), Jf] at hfix
  by_cases hgt : id < l[k].Id
  ·rw [Qa hgt, Jh, Jd, Jd] at hfix
   refine ⟨_, _, hfix, ?_, fun h => by simp at h⟩
   rw [none_of]; rfl
   intro x hx
   obtain ⟨j, hj, rfl⟩ := List.getElem_of_mem hx
   rcases Nat.lt_or_ge j k with h | h
   ·have := h2 j hj h; simp at this; omega
   ·rcases Nat.lt_or_ge k j with h' | h'
    ·have := hp k j hk hj h'; omega
    ·have : j = k := by omega
     subst this; omega
  ·rw [Jz hgt, Jf, Jd, Jd] at hfix
   have he : l[k].Id = id := by omega
   have hany : l.any (has id) = true := List.any_eq_true.2 ⟨_, List.getElem_mem hk, by simp [has, he]⟩
   refine ⟨_, _, hfix, by rw [hany]; rfl, fun _ => ?_⟩
   unfold idx
   have : l.findIdx? (has id) = some k := by
    rw [List.findIdx?_eq_some_iff_getElem]
    refine ⟨hk, by simp [has, he], fun j hj => ?_⟩
    have := h2 j (by omega) hj
    simp at this
    simp [has]; omega
   rw [this]
 ·rw [Jz (by omega), Jf, Jd] at hfix
  refine ⟨_, _, hfix, ?_, fun h => by simp at h⟩
  rw [none_of]
  intro x hx
  obtain ⟨j, hj, rfl⟩ := List.getElem_of_mem hx
  have := h2 j hj (by omega); simp at this; omega
theorem bcontains_eq (l : List Int) (n : Int) (hr : l.Pairwise fun x y => x < y) (hl : l.length ≤ 1000000000000000) : Jbk l n = some (decide (n ∈ l)) := by
 have hp := List.pairwise_iff_getElem.1 hr
 have hless : ∀ a b, Jb6 a b = some (decide (a < b)) := fun a b => by
  unfold Jb6 Jbj; simp
 obtain ⟨k, h1, h2, h3, h4⟩ := bin_loop (F := fun next2 s => Q7 l n next2 s.1 s.2) l (fun x => decide (x < n)) (fun i j hi hj hij h => by have := hp i j hi hj hij; simp at h ⊢; omega) (Yh l n)
  (fun next i j h hij hj => by
   obtain ⟨f1, f2⟩ := half (x := (i : Int) + j) (by omega)
   rw [show ((i : Int) + j) / 2 = (((i + j) / 2 : Nat) : Int) by omega] at f1 f2
   simp only [Q7]
   rw [Qa (by omega), Jh, Qf (by omega), Jd, f1, Jd, f2, J5 h, Jd, hless, Jd]
   by_cases hlt : l[(i + j) / 2] < n
   ·rw [Qa hlt, Jh, Qf (by omega), Jd, if_pos rfl]
   ·rw [Jz hlt, Jf, if_neg (by simp)])
  (fun next i hi => by
   simp only [Q7]
   rw [Jz (by omega), Jf])
 unfold Jbk Vz
 rw [h4]
 unfold Yh Uk
 rcases Nat.lt_or_ge k l.length with hk | hk
 ·rw [Qa (by omega), Jh, J5 hk, Jd]
  have hge := h3 k hk (Nat.le_refl _)
  simp at hge
  by_cases he : l[k] = n
  ·rw [Qa he, Jh, Jd, Qa (he ▸ List.getElem_mem hk)]
  ·rw [Jz he, Jf, Jd, Jd, Jz (by simp), Jf, Jd]
   rw [Jz]
   intro hm
   obtain ⟨j, hj, hje⟩ := List.getElem_of_mem hm
   rcases Nat.lt_or_ge j k with h | h
   ·have := h2 j hj h; simp at this; omega
   ·rcases Nat.lt_or_ge k j with h' | h'
    ·have := hp k j hk hj h'; omega
    ·have : j = k := by omega
     subst this; omega
 ·rw [Jz (by omega), Jf, Jd]
  rw [Jz]
  intro hm
  obtain ⟨j, hj, hje⟩ := List.getElem_of_mem hm
  have := h2 j hj (by omega); simp at this; omega
end Go.M

/- FacePeople in plain Lean, second part: distances, lists of photos, scores. Conditions: few elements. -/
namespace Go.M
open Go.Md Go.Pl
set_option linter.unusedVariables false
theorem concat_eq (a b : List Int) (ha : a.length + b.length ≤ 35184372088832) : Ww [a, b] = some (a ++ b) := by
 unfold Ww
 refine (X0 (F := fun next3 s => Qn [a, b] next3 s.1 s.2) ((a.length : Int), 1) fun next => ?_).trans ((X0 (F := fun next3 s => Qn [a, b] next3 s.1 s.2) ((a.length : Int) + (b.length : Int), 2) fun next => ?_).trans (Ql fun next => ?_))
 ·show Qn [a, b] next 0 0 = _
  unfold Qn
  rw [Qa (by simp), Jh, show Qk [a, b] 0 = some a from rfl, Jd, Qf (by omega), Jd, Jz (by omega), Jf, Qf (by omega), Jd]
  simp
 ·show Qn [a, b] next (a.length : Int) 1 = _
  unfold Qn
  rw [Qa (by simp), Jh, show Qk [a, b] 1 = some b from rfl, Jd, Qf (by omega), Jd, Jz (by omega), Jf, Qf (by omega), Jd]
  rfl
 ·show Qn [a, b] next ((a.length : Int) + (b.length : Int)) 2 = _
  unfold Qn
  rw [Jz (by simp), Jf]
  unfold W3
  rw [gGroC_ok (by omega), Jd]
  have hc : ((a.length : Int) + (b.length : Int)).toNat = a.length + b.length := by omega
  refine (X0 (F := fun next2 s => Qo [a, b] ((a.length : Int) + (b.length : Int)).toNat next2 s.1 s.2) (1, a) fun next => ?_).trans ((X0 (F := fun next2 s => Qo [a, b] ((a.length : Int) + (b.length : Int)).toNat next2 s.1 s.2) (2, a ++ b) fun next => ?_).trans (Ql fun next => ?_))
  ·show Qo [a, b] _ next 0 [] = _
   unfold Qo
   rw [Qa (by simp), Jh, show Qk [a, b] 0 = some a from rfl, Jd, gApC_ok (by rw [hc]; simp; omega), Jd, Qf (by omega), Jd]
   rfl
  ·show Qo [a, b] _ next 1 a = _
   unfold Qo
   rw [Qa (by simp), Jh, show Qk [a, b] 1 = some b from rfl, Jd, gApC_ok (by rw [hc]; omega), Jd, Qf (by omega), Jd]
   rfl
  ·show Qo [a, b] _ next 2 (a ++ b) = _
   unfold Qo
   rw [Jz (by simp), Jf]
theorem Jdv (p : Int) : ∀ l : List Int, (Zc p l).length ≤ l.length
 | [] => by simp [Zc]
 | y :: l => by
  unfold Zc
  split
  ·have := Jdv p l; simp; omega
  ·have := Jdv y l; simp; omega
theorem Jg0 : ∀ (l : List Int) (p : Int), (p :: l).Pairwise (fun x y => decide (x ≤ y) = true) → ((Zc p l).length < l.length ↔ ¬ (p :: l).Nodup)
 | [], p, _ => by simp [Zc]
 | y :: l, p, h => by
  have hp := List.pairwise_cons.1 h
  have ih := Jg0 l y hp.2
  unfold Zc
  by_cases he : y = p
  ·subst he
   rw [if_pos rfl]
   have := Jdv y l
   simp
   omega
  ·rw [if_neg he]
   simp only [List.length_cons, Nat.add_lt_add_iff_right]
   rw [ih]
   refine not_congr ⟨fun hn => List.nodup_cons.2 ⟨fun hm => ?_, hn⟩, fun hn => (List.nodup_cons.1 hn).2⟩
   have hy := hp.1 y (by simp)
   simp at hy
   rcases List.mem_cons.1 hm with h1 | h1
   ·exact he h1.symm
   ·have := (List.pairwise_cons.1 hp.2).1 p h1
    simp at this; omega
theorem cmpL_lt (l : List Int) (h : l.Pairwise (fun x y => decide (x ≤ y) = true)) : (cmpL l).length < l.length ↔ ¬ l.Nodup := by
 cases l with
 | nil => simp [cmpL]
 | cons p l => simp only [cmpL, List.length_cons, Nat.add_lt_add_iff_right]; exact Jg0 l p h
def Jeq (l : List Int) : List Int := l.mergeSort fun x y => decide (x ≤ y)
theorem sorted_pw (l : List Int) : (Jeq l).Pairwise fun x y => decide (x ≤ y) = true :=
 List.pairwise_mergeSort (le := fun x y => decide (x ≤ y)) (fun a b c h1 h2 => by simp at *; omega) (fun a b => by simp; omega) l
theorem sorted_perm (l : List Int) : (Jeq l).Perm l := List.mergeSort_perm l _
theorem sorted_len (l : List Int) : (Jeq l).length = l.length := List.length_mergeSort _
theorem with_eq (l : List Int) (hl : l.length ≤ 35184372088832) : ∃ w, Jd9 l [] = some w ∧ (w.length < l.length ↔ ¬ l.Nodup) := by
 unfold Jd9
 rw [concat_eq l [] (by simpa using hl), Jd, List.append_nil]
 unfold gSortI
 rw [if_pos (by omega), Jd]
 unfold gCmpI
 rw [if_pos (by rw [List.length_mergeSort]; omega), Jd]
 refine ⟨_, rfl, ?_⟩
 have h := cmpL_lt (Jeq l) (sorted_pw l)
 rw [sorted_len] at h
 exact h.trans (not_congr (sorted_perm l).nodup_iff)
structure Good (l : List Ta) : Prop where
 len : l.length ≤ 300
 rise : Rise l
 vec : ∀ x ∈ l, vecF x.Vec = 0
theorem likeF_get (l : List Ta) (j : Nat) (h : j < l.length) (h0 : Jej l j = 0) : vecF l[j].Vec = 0 ∧ ∀ (i : Nat) (hi : i + 1 = j), l[i].Id < l[j].Id := by
 unfold Jej at h0
 rw [at_D h] at h0
 split at h0
 ·cases h0
 split at h0
 ·cases h0
 ·rename_i h1 h2
  refine ⟨h0, fun i hi => ?_⟩
  subst hi
  rw [show i + 1 - 1 = i from rfl, at_D (by omega)] at h2
  omega
theorem good_of (l : List Ta) (hl : l.length ≤ 300) (h : Vh (Jej l) l.length 0 = 0) : Good l := by
 have hj := fun (j : Nat) (hj : j < l.length) => likeF_get l j hj (Jbs h j (Nat.zero_le _) (by omega))
 refine ⟨hl, List.pairwise_iff_getElem.2 ?_, fun x hx => ?_⟩
 ·have step : ∀ d i (hi : i < l.length) (hd : i + d + 1 < l.length), l[i].Id < l[i + d + 1].Id := by
   intro d
   induction d with
   | zero => intro i hi hd; exact (hj (i + 0 + 1) hd).2 i rfl
   | succ d ih =>
    intro i hi hd
    have h1 := ih i hi (by omega)
    have h2 := (hj (i + (d + 1) + 1) hd).2 (i + d + 1) rfl
    omega
  intro i j hi hj hij
  have := step (j - i - 1) i hi (by omega)
  simpa [show i + (j - i - 1) + 1 = j by omega] using this
 ·obtain ⟨j, hj', rfl⟩ := List.getElem_of_mem hx
  exact (hj j hj').1
def like (l : List Ta) (id : Int) : Ta := (l.find? (has id)).getD default
theorem any_idx {l : List Ta} {id : Int} (h : l.any (has id) = true) : ∃ (k : Nat) (hk : k < l.length), idx (has id) l = k ∧ l[k] = like l id ∧ l[k].Id = id := by
 have h0 := idx_nn (has id) l
 rw [h] at h0
 unfold idx at h0 ⊢
 cases hf : l.findIdx? (has id) with
 | none => rw [hf] at h0; simp at h0
 | some k =>
  have h1 := List.findIdx?_eq_some_iff_getElem.1 hf
  obtain ⟨hk, h2, h3⟩ := h1
  refine ⟨k, hk, rfl, ?_, by simpa [has] using h2⟩
  unfold like
  have : l.find? (has id) = some l[k] := by
   rw [List.find?_eq_some_iff_getElem]
   exact ⟨h2, k, hk, rfl, fun j hj => by simpa using h3 j hj⟩
  rw [this]; rfl
theorem idx_neg {l : List Ta} {id : Int} : decide (idx (has id) l < 0) = !l.any (has id) := by
 rw [← idx_nn]
 by_cases h : idx (has id) l < 0
 ·rw [Qa h, Jz (by omega)]; rfl
 ·rw [Jz h, Qa (by omega)]; rfl
theorem good_at {l : List Ta} (hg : Good l) {id : Int} (h : l.any (has id) = true) : ∃ k : Nat, ∃ hk : k < l.length, Jc0 l id = some ((k : Int), true) ∧ Qk l (k : Int) = some (like l id) ∧ Jc7 l id = some (k : Int) := by
 have := hg.len
 obtain ⟨i, b, h1, h2, h3⟩ := at_eq l id hg.rise (by omega)
 rw [h] at h2
 obtain ⟨k, hk, h4, h5, _⟩ := any_idx h
 refine ⟨k, hk, ?_, ?_, ?_⟩
 ·rw [h1, h2, h3 h2, h4]
 ·rw [J5 hk, h5]
 ·rw [likeAt_eq l id (by omega), h4]
theorem good_at_not {l : List Ta} (hg : Good l) {id : Int} (h : l.any (has id) = false) : ∃ i : Int, Jc0 l id = some (i, false) := by
 have := hg.len
 obtain ⟨i, b, h1, h2, h3⟩ := at_eq l id hg.rise (by omega)
 rw [h] at h2
 exact ⟨i, by rw [h1, h2]⟩
end Go.M

/- FacePeople in plain Lean, third part: people that are right. Conditions: few elements. -/
namespace Go.M
open Go.Md Go.Pl
set_option linter.unusedVariables false
theorem scanC {ρ : Type} {F : (Int → Option ρ) → Int → Option ρ} (n : Nat) (c : Nat → Int) (E : Int → ρ) (J : Option ρ) (step : ∀ (next : Int → Option ρ) (k : Nat), k < n → F next (k : Int) = if c k = 0 then next ((k : Int) + 1) else some (E (c k)))
  (last : ∀ next, F next (n : Int) = J) : Zp F 0 = if Vh c n 0 = 0 then J else some (E (Vh c n 0)) := by
 have h := up (F := F) n (fun k => if Vh c (n - k) k = 0 then J else some (E (Vh c (n - k) k))) (by
  intro next k hk ih
  by_cases h : k < n
  ·rw [step next k h, show n - k = (n - (k + 1)) + 1 from by omega]
   simp only [Vh]
   by_cases h0 : c k = 0
   ·simp only [h0, if_true]; rw [ih h]
   ·simp only [h0, if_false]
  ·have : k = n := by omega
   subst this
   rw [last, Nat.sub_self]; rfl)
 simpa using h
theorem ofStr_any (s : List UInt8) : (Qq s).any (fun c => decide (c < 32)) = s.any fun c => decide (c.toNat < 32) := by
 unfold Qq
 rw [List.any_map]
 congr 1
 funext c
 simp only [Function.comp]
 congr 1
 simp; omega
def Jcr (s : List UInt8) : Bool := decide (1 ≤ s.length ∧ s.length ≤ 60) && !s.any fun c => decide (c.toNat < 32)
theorem isTitle_eq (s : List UInt8) : Jb9 s = some (Jcr s) := by
 unfold Jb9 Jcr
 rw [Zo, Jd]
 by_cases h : 1 ≤ s.length ∧ s.length ≤ 60
 ·rw [Jz (by omega), Bool.not_false, Jh, gByt_ok (by omega), Jd, Jf5 (Qq s) Jci (fun c => decide (c < 32)) (by unfold Qq; rw [List.length_map]; omega) (fun _ _ => rfl), Jd, ofStr_any, Qa h, Bool.true_and]
 ·rw [Qa (by omega), Bool.not_true, Jf, Jz h, Bool.false_and]
theorem TitleOk_eq (s : List UInt8) : Jcd s = some (Jcr s) := by
 unfold Jcd Jcr
 by_cases h1 : s.length < 1
 ·rw [Qa (by omega), Jh, Jz (by omega), Bool.false_and]
 ·rw [Jz (by omega), Jf]
  by_cases h2 : 60 < s.length
  ·rw [Qa (by omega), Jh, Jz (by omega), Bool.false_and]
  ·rw [Jz (by omega), Jf, Qa (by omega), Bool.true_and]
   have h := up (F := fun next1 s' => Ja1 s next1 s') s.length (fun k => some (!(s.drop k).any fun c => decide (c.toNat < 32))) (fun next k hk ih => by
    simp only [Ja1]
    rcases Nat.lt_or_ge k s.length with h | h
    ·rw [Qa (by omega), Jh, Jha h, Jd, List.drop_eq_getElem_cons h, List.any_cons]
     by_cases hc : s[k].toNat < 32
     ·rw [Qa (by omega), Jh, Qa hc]; rfl
     ·rw [Jz (by omega), Jf, Jz hc, Qf (by omega), Jd, ih h, Bool.false_or]
    ·have : k = s.length := by omega
     subst this
     rw [Jz (by omega), Jf, List.drop_length]; rfl)
   simpa using h
def idsC (l : List Ta) (ids : List Int) (k : Nat) : Int :=
 if l.any (has (ids.getD k 0)) = false then 7 else if 0 < k ∧ ids.getD k 0 ≤ ids.getD (k - 1) 0 then 5 else 0
def Ja2 (l : List Ta) (ids : List Int) : Int := Vh (idsC l ids) ids.length 0
theorem at_D0 {l : List Int} {k : Nat} (h : k < l.length) : l.getD k 0 = l[k] := by
 rw [List.getD_eq_getElem?_getD, List.getElem?_eq_getElem h]; rfl
theorem idsC_get (l : List Ta) (ids : List Int) (j : Nat) (h : j < ids.length) (h0 : idsC l ids j = 0) : l.any (has ids[j]) = true ∧ ∀ (i : Nat) (hi : i + 1 = j), ids[i] < ids[j] := by
 unfold idsC at h0
 rw [at_D0 h] at h0
 split at h0
 ·cases h0
 split at h0
 ·cases h0
 ·rename_i h1 h2
  refine ⟨by simpa using h1, fun i hi => ?_⟩
  subst hi
  rw [show i + 1 - 1 = i from rfl, at_D0 (by omega)] at h2
  omega
structure IdsOk (l : List Ta) (ids : List Int) : Prop where
 all : ∀ k ∈ ids, l.any (has k) = true
 rise : ids.Pairwise fun x y => x < y
theorem ids_of {l : List Ta} {ids : List Int} (h : Ja2 l ids = 0) : IdsOk l ids := by
 have hj := fun (j : Nat) (hj : j < ids.length) => idsC_get l ids j hj (Jbs h j (Nat.zero_le _) (by omega))
 refine ⟨fun x hx => ?_, List.pairwise_iff_getElem.2 ?_⟩
 ·obtain ⟨j, hj', rfl⟩ := List.getElem_of_mem hx
  exact (hj j hj').1
 ·have step : ∀ d i (hi : i < ids.length) (hd : i + d + 1 < ids.length), ids[i] < ids[i + d + 1] := by
   intro d
   induction d with
   | zero => intro i hi hd; exact (hj (i + 0 + 1) hd).2 i rfl
   | succ d ih =>
    intro i hi hd
    have h1 := ih i hi (by omega)
    have h2 := (hj (i + (d + 1) + 1) hd).2 (i + d + 1) rfl
    omega
  intro i j hi hj hij
  have := step (j - i - 1) i hi (by omega)
  simpa [show i + (j - i - 1) + 1 = j by omega] using this
theorem Jf2 {l : List Ta} (hg : Good l) (ids : List Int) (hl : ids.length ≤ 17592186044000) : Jbp l ids = some (Ja2 l ids) := by
 unfold Jbp Ja2
 refine scan ids.length _ (fun next k hk => ?_) fun next => ?_
 ·simp only [V4]
  unfold idsC
  rw [Qa (by omega), Jh, J5 hk, Jd, at_D0 hk]
  cases hany : l.any (has ids[k]) with
  | false =>
   obtain ⟨i, e⟩ := good_at_not hg hany
   rw [e, Jd]
   simp
  | true =>
   obtain ⟨n, hn, e, _⟩ := good_at hg hany
   rw [e, Jd]
   have e2 : ∀ (x y : Option Int), J6 (!((n : Int), true).2) x y = y := fun _ _ => rfl
   have e3 : ∀ (x y : Int), (if true = false then x else y) = y := fun _ _ => if_neg (by simp)
   rw [e2, e3]
   unfold Ug
   by_cases h0 : 0 < k
   ·rw [Qa (by omega), Jh, Qf (by omega), Jd, show (k : Int) - 1 = ((k - 1 : Nat) : Int) by omega, J5 (by omega), Jd, at_D0 (show k - 1 < ids.length by omega)]
    by_cases h1 : ids[k] ≤ ids[k - 1]
    ·rw [Qa h1, Jh, show (if 0 < k ∧ ids[k] ≤ ids[k - 1] then (5 : Int) else 0) = 5 from if_pos ⟨h0, h1⟩]; simp
    ·rw [Jz h1, Jf, show (if 0 < k ∧ ids[k] ≤ ids[k - 1] then (5 : Int) else 0) = 0 from if_neg (fun h => h1 h.2), Qf (by omega), Jd]; simp
   ·rw [Jz (by omega), Jf, show (if 0 < k ∧ ids[k] ≤ ids.getD (k - 1) 0 then (5 : Int) else 0) = 0 from if_neg (fun h => h0 h.1), Qf (by omega), Jd]; simp
 ·simp only [V4]
  rw [Jz (by omega), Jf]
theorem fault_ids {l : List Ta} (hg : Good l) (ids : List Int) (hl : ids.length ≤ 17592186044000) (x : Int) (next8 : Int → Option Int) :
  Zp (fun next10 s => Yz l x next8 ids next10 s) 0 = if Ja2 l ids = 0 then Vw x next8 else some (Ja2 l ids) := by
 have h300 := hg.len
 refine scanC ids.length (idsC l ids) (fun e => e) _ (fun next k hk => ?_) fun next => ?_
 ·simp only [Yz]
  unfold idsC
  rw [Qa (by omega), Jh, J5 hk, Jd, at_D0 hk, likeAt_eq l _ (by omega), Jd, idx_neg]
  cases hany : l.any (has ids[k]) with
  | false => simp
  | true =>
   have e2 : ∀ (x y : Option Int), J6 (!true) x y = y := fun _ _ => rfl
   have e3 : ∀ (x y : Int), (if true = false then x else y) = y := fun _ _ => if_neg (by simp)
   rw [e2, e3]
   unfold Wv
   by_cases h0 : 0 < k
   ·rw [Qa (by omega), Jh, Qf (by omega), Jd, show (k : Int) - 1 = ((k - 1 : Nat) : Int) by omega, J5 (by omega), Jd, at_D0 (show k - 1 < ids.length by omega)]
    by_cases h1 : ids[k] ≤ ids[k - 1]
    ·rw [Qa h1, Jh, show (if 0 < k ∧ ids[k] ≤ ids[k - 1] then (5 : Int) else 0) = 5 from if_pos ⟨h0, h1⟩]; simp
    ·rw [Jz h1, Jf, show (if 0 < k ∧ ids[k] ≤ ids[k - 1] then (5 : Int) else 0) = 0 from if_neg (fun h => h1 h.2), Qf (by omega), Jd]; simp
   ·rw [Jz (by omega), Jf, show (if 0 < k ∧ ids[k] ≤ ids.getD (k - 1) 0 then (5 : Int) else 0) = 0 from if_neg (fun h => h0 h.1), Qf (by omega), Jd]; simp
 ·simp only [Yz]
  rw [Jz (by omega), Jf]
def both (p : Tb) : Bool := p.Likes.any fun k => decide (k ∈ p.Nots)
def Je9 (l : List Ta) (p : Tb) : Int := if Ja2 l p.Likes ≠ 0 then Ja2 l p.Likes else if Ja2 l p.Nots ≠ 0 then Ja2 l p.Nots else if both p = true then 11 else 0
def Z1 (l : List Ta) (p : Tb) : Int := if Jcr p.Name = false then 3 else Je9 l p
def PSz (p : Tb) : Prop := p.Likes.length ≤ 17592186044000 ∧ p.Nots.length ≤ 17592186044000
theorem Jg1 {l : List Ta} (hg : Good l) (p : Tb) (hp : PSz p) : Ul l p = some (Z1 l p) := by
 unfold Ul Z1 Je9
 rw [isTitle_eq, Jd]
 cases ht : Jcr p.Name with
 | false => rfl
 | true =>
  simp only [Bool.not_true, Jf, Bool.true_eq_false, if_false]
  have e0 : ∀ next, Xe l p next 0 = if Ja2 l p.Likes ≠ 0 then some (Ja2 l p.Likes) else next 1 := fun next => by
   simp only [Xe]
   rw [Qa (by omega), Jh, show Qk [p.Likes, p.Nots] 0 = some p.Likes from rfl, Jd, Jf2 hg _ hp.1, Jd, Qr]
   split
   ·rfl
   ·rw [Qf (by omega), Jd]; rfl
  have e1 : ∀ next, Xe l p next 1 = if Ja2 l p.Nots ≠ 0 then some (Ja2 l p.Nots) else next 2 := fun next => by
   simp only [Xe]
   rw [Qa (by omega), Jh, show Qk [p.Likes, p.Nots] 1 = some p.Nots from rfl, Jd, Jf2 hg _ hp.2, Jd, Qr]
   split
   ·rfl
   ·rw [Qf (by omega), Jd]; rfl
  by_cases h0 : Ja2 l p.Likes ≠ 0
  ·rw [if_pos h0]; exact Ql fun next => by rw [e0, if_pos h0]
  ·rw [if_neg h0]
   rw [X0 (1 : Int) fun next => by rw [e0, if_neg h0]]
   by_cases h1 : Ja2 l p.Nots ≠ 0
   ·rw [if_pos h1]; exact Ql fun next => by rw [e1, if_pos h1]
   ·rw [if_neg h1]
    rw [X0 (2 : Int) fun next => by rw [e1, if_neg h1]]
    refine Ql fun next => ?_
    simp only [Xe, Um]
    rw [Jz (by omega), Jf, Jdr p.Likes (Wb p) (fun k => decide (k ∈ p.Nots)) (by have := hp.1; omega) (fun x _ => by
     unfold Wb
     rw [bcontains_eq p.Nots x (ids_of (by simpa using h1)).rise (by have := hp.2; omega), Jd]), Jd]
    show J6 (both p) _ _ = _
    cases both p <;> rfl
theorem fault_person {l : List Ta} (hg : Good l) (p : Tb) (hp : PSz p) (x : Int) (mp : List (Int × Bool)) (next1 : (Int × (List (Int × Bool))) → Option Int) :
  Zl l x mp next1 p = if Je9 l p = 0 then X7 l x mp next1 p else some (Je9 l p) := by
 unfold Zl Je9
 have e0 : ∀ next, X6 l x mp next1 p next 0 = if Ja2 l p.Likes ≠ 0 then some (Ja2 l p.Likes) else next 1 := fun next => by
  simp only [X6]
  rw [Qa (by omega), Jh, show Qk [p.Likes, p.Nots] 0 = some p.Likes from rfl, Jd, fault_ids hg _ hp.1]
  simp only [Vw]
  rw [Qf (by omega), Jd]
  by_cases h : Ja2 l p.Likes = 0 <;> simp [h]
 have e1 : ∀ next, X6 l x mp next1 p next 1 = if Ja2 l p.Nots ≠ 0 then some (Ja2 l p.Nots) else next 2 := fun next => by
  simp only [X6]
  rw [Qa (by omega), Jh, show Qk [p.Likes, p.Nots] 1 = some p.Nots from rfl, Jd, fault_ids hg _ hp.2]
  simp only [Vw]
  rw [Qf (by omega), Jd]
  by_cases h : Ja2 l p.Nots = 0 <;> simp [h]
 by_cases h0 : Ja2 l p.Likes ≠ 0
 ·rw [if_pos h0, if_neg h0]; exact Ql fun next => by rw [e0, if_pos h0]
 ·rw [if_neg h0]
  rw [X0 (1 : Int) fun next => by rw [e0, if_neg h0]]
  by_cases h1 : Ja2 l p.Nots ≠ 0
  ·rw [if_pos h1, if_neg h1]; exact Ql fun next => by rw [e1, if_pos h1]
  ·rw [if_neg h1]
   rw [X0 (2 : Int) fun next => by rw [e1, if_neg h1]]
   refine Ql fun next => ?_
   simp only [X6, Ja5]
   rw [Jz (by omega), Jf]
   have hsc := up (F := fun next7 s => V6 l x mp next1 p next7 s) p.Likes.length (fun k => if ((p.Likes.drop k).any fun k => decide (k ∈ p.Nots)) = true then some 11 else X7 l x mp next1 p) (fun next k hk ih => by
    simp only [V6]
    rcases Nat.lt_or_ge k p.Likes.length with h | h
    ·rw [Qa (by omega), Jh, J5 h, Jd, contains_eq p.Nots _ (by have := hp.2; omega), Jd, List.drop_eq_getElem_cons h, List.any_cons]
     by_cases hc : p.Likes[k] ∈ p.Nots
     ·rw [Qa hc, Jh]; rfl
     ·rw [Jz hc, Jf, Bool.false_or, Qf (by have := hp.1; omega), Jd, ih h]
    ·have : k = p.Likes.length := by omega
     subst this
     rw [Jz (by omega), Jf, List.drop_length]; rfl)
   rw [hsc, List.drop_zero]
   show (if both p = true then _ else _) = _
   cases both p <;> simp
theorem mGet_mSet (m : List (Int × Bool)) (k : Int) (v : Bool) (x : Int) : Jcp (Ja3 m k v) x = if x = k then some v else Jcp m x := by
 unfold Jcp Ja3 mHas
 induction m with
 | nil =>
  by_cases h : x = k
  ·subst h; simp
  ·have : ¬ k = x := fun e => h e.symm
   simp [h, this]
 | cons a m ih =>
  by_cases ha : a.1 = k
  ·have e1 : ((a :: m).any fun p => decide (p.1 = k)) = true := by simp [ha]
   rw [if_pos e1, List.map_cons, if_pos ha, List.find?_cons, List.find?_cons]
   by_cases h : x = k
   ·subst h; simp
   ·have hk : ¬ k = x := fun e => h e.symm
    rw [Jz hk, if_neg h, Jz (show ¬ a.1 = x by rw [ha]; exact hk)]
    simp only
    clear ih e1
    induction m with
    | nil => rfl
    | cons b m ih2 =>
     rw [List.map_cons, List.find?_cons, List.find?_cons]
     by_cases hb : b.1 = k
     ·rw [if_pos hb, Jz hk, Jz (show ¬ b.1 = x by rw [hb]; exact hk)]; exact ih2
     ·rw [if_neg hb]
      by_cases hbx : b.1 = x
      ·rw [Qa hbx]
      ·rw [Jz hbx]; exact ih2
  ·have e1 : ((a :: m).any fun p => decide (p.1 = k)) = (m.any fun p => decide (p.1 = k)) := by simp [ha]
   rw [e1]
   by_cases hm : (m.any fun p => decide (p.1 = k)) = true
   ·rw [if_pos hm] at ih ⊢
    rw [List.map_cons, if_neg ha, List.find?_cons]
    by_cases hx : a.1 = x
    ·rw [Qa hx]
     have : ¬ x = k := fun e => ha (hx.trans e)
     rw [if_neg this, List.find?_cons, Qa hx]
    ·rw [Jz hx, List.find?_cons, Jz hx]; exact ih
   ·rw [if_neg hm] at ih ⊢
    rw [List.cons_append, List.find?_cons]
    by_cases hx : a.1 = x
    ·rw [Qa hx]
     have : ¬ x = k := fun e => ha (hx.trans e)
     rw [if_neg this, List.find?_cons, Qa hx]
    ·rw [Jz hx, List.find?_cons, Jz hx]; exact ih
def inM (m : List (Int × Bool)) (k : Int) : Bool := (Jcp m k).getD false
def Xv (m : List (Int × Bool)) (ks : List Int) : List (Int × Bool) := ks.foldl (fun m k => Ja3 m k true) m
theorem Je6 (m : List (Int × Bool)) (k x : Int) : inM (Ja3 m k true) x = (decide (x = k) || inM m x) := by
 unfold inM
 rw [mGet_mSet]
 by_cases h : x = k <;> simp [h]
theorem inM_nil (x : Int) : inM [] x = false := rfl
def V0 (l : List Ta) (k : Int) : Int := (like l k).Photo
def Yy (l : List Ta) (ks : List Int) : List Int := ks.map (V0 l)
theorem photoOf_eq {l : List Ta} (hg : Good l) {k : Int} (h : l.any (has k) = true) : Jcb l k = some (V0 l k) := by
 unfold Jcb
 obtain ⟨n, hn, e1, e2, e3⟩ := good_at hg h
 rw [e1, Jd, e2, Jd]; rfl
theorem photosOf_eq {l : List Ta} (hg : Good l) (ks : List Int) (hl : ks.length ≤ 17592186044000) (h : ∀ k ∈ ks, l.any (has k) = true) : Jbm l ks = some (Yy l ks) := by
 unfold Jbm
 have e := Jbt (F := fun next1 s => Zn l ks next1 s.1 s.2) ks (fun s k => s ++ [V0 l k]) (fun s => some s) (fun k s => s.length = k) (fun next k s hk hs => ?_) (fun next s _ => ?_) [] rfl
 ·rw [e]
  have : ∀ (ks s : List Int), ks.foldl (fun s k => s ++ [V0 l k]) s = s ++ Yy l ks := fun ks => by
   induction ks with
   | nil => intro s; simp [Yy]
   | cons k ks ih => intro s; rw [List.foldl_cons, ih]; simp [Yy]
  rw [this]; rfl
 ·simp only [Zn]
  rw [Qa (by omega), Jh, J5 hk, Jd, photoOf_eq hg (h _ (List.getElem_mem hk)), Jd, Jb7 (by simp; omega), Jd, Qf (by omega), Jd]
  exact ⟨rfl, by simp; omega⟩
 ·simp only [Zn]
  rw [Jz (by omega), Jf]
def twice (l : List Ta) (mp : List (Int × Bool)) (ks : List Int) : Prop := (∃ k ∈ ks, inM mp k = true) ∨ ¬ (Yy l ks).Nodup
theorem Jg7 {l : List Ta} (hg : Good l) (p : Tb) (x : Int) (next1 : (Int × (List (Int × Bool))) → Option Int) (hl : p.Likes.length ≤ 17592186044000) (hall : ∀ k ∈ p.Likes, l.any (has k) = true) (hr : p.Likes.Pairwise fun x y => x < y) (mp : List (Int × Bool)) :
  (twice l mp p.Likes → X7 l x mp next1 p = some 6) ∧ (¬ twice l mp p.Likes → X7 l x mp next1 p = V5 x next1 (Xv mp p.Likes)) := by
 unfold X7
 have key : ∀ (n k : Nat) (m1 m2 : List (Int × Bool)), k ≤ p.Likes.length → p.Likes.length - k < n → (∀ y, (∀ i (h : i < p.Likes.length), i < k → p.Likes[i] ≠ y) → inM m1 y = inM mp y) →
   ((∃ q ∈ p.Likes.drop k, inM mp q = true) ∨ (∃ q ∈ p.Likes.drop k, inM m2 (V0 l q) = true) ∨ ¬ (Yy l (p.Likes.drop k)).Nodup → Zp (fun next6 s => X9 l x next1 p next6 s.1 s.2.1 s.2.2) ((k : Int), m1, m2) = some 6) ∧
   (¬ ((∃ q ∈ p.Likes.drop k, inM mp q = true) ∨ (∃ q ∈ p.Likes.drop k, inM m2 (V0 l q) = true) ∨ ¬ (Yy l (p.Likes.drop k)).Nodup) → Zp (fun next6 s => X9 l x next1 p next6 s.1 s.2.1 s.2.2) ((k : Int), m1, m2) = V5 x next1 (Xv m1 (p.Likes.drop k))) := by
  intro n
  induction n with
  | zero => intro k m1 m2 _ h; omega
  | succ n ih =>
   intro k m1 m2 hk hn hm
   rcases Nat.lt_or_ge k p.Likes.length with h | h
   ·obtain ⟨i, hi, a1, a2, a3⟩ := good_at hg (hall _ (List.getElem_mem h))
    have hpw := List.pairwise_iff_getElem.1 hr
    have hm1 : inM m1 p.Likes[k] = inM mp p.Likes[k] := hm _ fun i hi hik => by have := hpw i k hi h hik; omega
    have body : ∀ next, X9 l x next1 p next (k : Int) m1 m2 = if inM mp p.Likes[k] = true then some 6 else if inM m2 (V0 l p.Likes[k]) = true then some 6 else next ((k : Int) + 1, Ja3 m1 p.Likes[k] true, Ja3 m2 (V0 l p.Likes[k]) true) := fun next => by
     simp only [X9]
     rw [Qa (by omega), Jh, J5 h, Jd, a3, Jd, a2, Jd]
     have u1 : (Jcp m1 p.Likes[k]).getD false = inM mp p.Likes[k] := hm1
     have u2 : (Jcp m2 (like l p.Likes[k]).Photo).getD false = inM m2 (V0 l p.Likes[k]) := rfl
     rw [u1, u2]
     have u3 : ∀ (b : Bool) (x y : Option Int), J6 b x y = if b = true then x else y := fun b _ _ => by cases b <;> rfl
     rw [u3, u3, Qf (by omega), Jd]
     rfl
    rw [List.drop_eq_getElem_cons h]
    by_cases c1 : inM mp p.Likes[k] = true
    ·refine ⟨fun _ => Ql fun next => by rw [body, if_pos c1], fun hno => absurd (Or.inl ⟨_, List.mem_cons_self, c1⟩) hno⟩
    ·by_cases c2 : inM m2 (V0 l p.Likes[k]) = true
     ·refine ⟨fun _ => Ql fun next => by rw [body, if_neg c1, if_pos c2], fun hno => absurd (Or.inr (Or.inl ⟨_, List.mem_cons_self, c2⟩)) hno⟩
     ·have := ih (k + 1) (Ja3 m1 p.Likes[k] true) (Ja3 m2 (V0 l p.Likes[k]) true) h (by omega) (fun y hy => by
       rw [Je6, Jz (fun e => hy k h (by omega) e.symm), Bool.false_or]
       exact hm y fun i hi hik => hy i hi (by omega))
      rw [X0 ((k : Int) + 1, Ja3 m1 p.Likes[k] true, Ja3 m2 (V0 l p.Likes[k]) true) (fun next => by rw [body, if_neg c1, if_neg c2])]
      have eq : ((∃ q ∈ p.Likes[k] :: p.Likes.drop (k + 1), inM mp q = true) ∨ (∃ q ∈ p.Likes[k] :: p.Likes.drop (k + 1), inM m2 (V0 l q) = true) ∨ ¬ (Yy l (p.Likes[k] :: p.Likes.drop (k + 1))).Nodup) ↔
        ((∃ q ∈ p.Likes.drop (k + 1), inM mp q = true) ∨ (∃ q ∈ p.Likes.drop (k + 1), inM (Ja3 m2 (V0 l p.Likes[k]) true) (V0 l q) = true) ∨ ¬ (Yy l (p.Likes.drop (k + 1))).Nodup) := by
       have hnd : (Yy l (p.Likes[k] :: p.Likes.drop (k + 1))).Nodup ↔ (∀ q ∈ p.Likes.drop (k + 1), V0 l q ≠ V0 l p.Likes[k]) ∧ (Yy l (p.Likes.drop (k + 1))).Nodup := by
        unfold Yy
        rw [List.map_cons, List.nodup_cons]
        refine and_congr ⟨fun h q hq e => h (List.mem_map.2 ⟨q, hq, e⟩), fun h hm => ?_⟩ Iff.rfl
        obtain ⟨q, hq, e⟩ := List.mem_map.1 hm
        exact h q hq e
       constructor
       ·rintro (⟨q, hq, e⟩ | ⟨q, hq, e⟩ | e)
        ·rcases List.mem_cons.1 hq with rfl | hq
         ·exact absurd e c1
         ·exact .inl ⟨q, hq, e⟩
        ·rcases List.mem_cons.1 hq with rfl | hq
         ·exact absurd e c2
         ·exact .inr (.inl ⟨q, hq, by rw [Je6, e, Bool.or_true]⟩)
        ·rw [hnd] at e
         rcases Classical.em (Yy l (p.Likes.drop (k + 1))).Nodup with e2 | e2
         ·have : ∃ q ∈ p.Likes.drop (k + 1), V0 l q = V0 l p.Likes[k] := Classical.byContradiction fun hno => e ⟨fun q hq he => hno ⟨q, hq, he⟩, e2⟩
          obtain ⟨q, hq, e⟩ := this
          exact .inr (.inl ⟨q, hq, by rw [Je6, Qa e, Bool.true_or]⟩)
         ·exact .inr (.inr e2)
       ·rintro (⟨q, hq, e⟩ | ⟨q, hq, e⟩ | e)
        ·exact .inl ⟨q, List.mem_cons_of_mem _ hq, e⟩
        ·rw [Je6, Bool.or_eq_true] at e
         rcases e with e | e
         ·exact .inr (.inr fun hh => (hnd.1 hh).1 q hq (by simpa using e))
         ·exact .inr (.inl ⟨q, List.mem_cons_of_mem _ hq, e⟩)
        ·exact .inr (.inr fun hh => e (hnd.1 hh).2)
      rw [eq]
      exact this
   ·have : k = p.Likes.length := by omega
    subst this
    rw [List.drop_length]
    refine ⟨fun h => ?_, fun _ => ?_⟩
    ·rcases h with ⟨q, hq, _⟩ | ⟨q, hq, _⟩ | h
     ·cases hq
     ·cases hq
     ·exact absurd List.Pairwise.nil h
    ·refine Ql fun next => ?_
     simp only [X9]
     rw [Jz (by omega), Jf]; rfl
 have := key (p.Likes.length + 1) 0 mp [] (Nat.zero_le _) (by omega) (fun y _ => rfl)
 rw [List.drop_zero] at this
 have eq : ((∃ q ∈ p.Likes, inM mp q = true) ∨ (∃ q ∈ p.Likes, inM [] (V0 l q) = true) ∨ ¬ (Yy l p.Likes).Nodup) ↔ twice l mp p.Likes := by
  unfold twice
  refine or_congr Iff.rfl ⟨fun h => ?_, .inr⟩
  rcases h with ⟨q, _, h⟩ | h
  ·rw [inM_nil] at h; cases h
  ·exact h
 rw [eq] at this
 exact this
theorem Jak {l : List Ta} (hg : Good l) (p : Tb) (hp : PSz p) (x : Int) (next1 : (Int × (List (Int × Bool))) → Option Int) (mp : List (Int × Bool)) :
  (Z1 l p ≠ 0 → Qu l x mp next1 p = some (Z1 l p)) ∧
  (Z1 l p = 0 → (twice l mp p.Likes → Qu l x mp next1 p = some 6) ∧ (¬ twice l mp p.Likes → Qu l x mp next1 p = Jq (gI (x + 1)) fun t77 => next1 (t77, Xv mp p.Likes))) := by
 unfold Qu
 rw [Jg1 hg p hp, Jd]
 refine ⟨fun h => by rw [Qa h, Jh], fun h => ?_⟩
 have hids : IdsOk l p.Likes := by
  refine ids_of ?_
  unfold Z1 Je9 at h
  by_cases h1 : Ja2 l p.Likes = 0
  ·exact h1
  ·rw [if_pos h1] at h
   split at h
   ·cases h
   ·exact h
 rw [Jz (by simpa using h), Jf, photosOf_eq hg _ hp.1 hids.all, Jd, Jdr p.Likes (Jaf mp) (inM mp) (by have := hp.1; omega) (fun _ _ => rfl), Jd]
 obtain ⟨w, hw, hlt⟩ := with_eq (Yy l p.Likes) (by unfold Yy; rw [List.length_map]; have := hp.1; omega)
 have hany : (p.Likes.any (inM mp) = true) ↔ ∃ k ∈ p.Likes, inM mp k = true := List.any_eq_true
 constructor
 ·rintro (h1 | h1)
  ·rw [hany.2 h1, Jh]
  ·cases p.Likes.any (inM mp) with
   | true => rfl
   | false => rw [Jf, hw, Jd, Qa (by have := hlt.2 h1; omega), Jh]
 ·intro hno
  have h1 : p.Likes.any (inM mp) = false := by
   cases hc : p.Likes.any (inM mp) with
   | false => rfl
   | true => exact absurd (.inl (hany.1 hc)) hno
  have h2 : ¬ w.length < (Yy l p.Likes).length := fun h => hno (.inr (hlt.1 h))
  rw [h1, Jf, hw, Jd, Jz (by omega), Jf]
  have e := Jbt (F := fun next4 s => Yi x next1 p (Yy l p.Likes) w next4 s.1 s.2) p.Likes (fun m k => Ja3 m k true) (fun m => Jq (gI (x + 1)) fun t77 => next1 (t77, m)) (fun _ _ => True) (fun next k s hk _ => ?_) (fun next s _ => ?_) mp trivial
  ·exact e
  ·simp only [Yi]
   rw [Qa (by omega), Jh, J5 hk, Jd, Qf (by have := hp.1; omega), Jd]
   exact ⟨rfl, trivial⟩
  ·simp only [Yi]
   rw [Jz (by omega), Jf]; rfl
structure Folk (l : List Ta) (ps : List Tb) : Prop where
 len : ps.length ≤ 100
 ids : ∀ p ∈ ps, IdsOk l p.Likes ∧ IdsOk l p.Nots
 rise : ps.Pairwise fun p q => p.Id < q.Id
theorem Jgj {l : List Ta} {p : Tb} (h : Z1 l p = 0) : IdsOk l p.Likes ∧ IdsOk l p.Nots := by
 unfold Z1 at h
 split at h
 ·cases h
 unfold Je9 at h
 by_cases h1 : Ja2 l p.Likes = 0
 ·by_cases h2 : Ja2 l p.Nots = 0
  ·exact ⟨ids_of h1, ids_of h2⟩
  ·rw [if_neg (by simpa using h1), if_pos h2] at h; exact absurd h h2
 ·rw [if_pos h1] at h; exact absurd h h1
theorem people_eq {l : List Ta} (hg : Good l) (ps : List Tb) (hsz : ∀ p ∈ ps, PSz p) (hn : ps.length ≤ 9223372036854775000) :
  ∃ e, (e = 0 → Folk l ps) ∧ Wo l ps = some e ∧ (J6 (decide (100 < (ps.length : Int))) (some 4) (Zp (fun next1 s => J2 l ps next1 s.1 s.2) (0, ([] : (List (Int × Bool))))) : Option Int) = some e := by
 unfold Wo
 by_cases hl : 100 < ps.length
 ·rw [Qa (by omega)]; exact ⟨4, fun h => absurd h (by decide), rfl, rfl⟩
 rw [Jz (by omega), Jf, Jf]
 have main := fix_sim (F := fun next1 s => Qy l ps next1 s.1 s.2) (G := fun next1 s => J2 l ps next1 s.1 s.2)
  (fun a b => a = b ∧ ∃ k : Nat, a.1 = k ∧ k ≤ ps.length ∧ (∀ i (h : i < ps.length), i < k → IdsOk l ps[i].Likes ∧ IdsOk l ps[i].Nots) ∧ (∀ i (h : i + 1 < ps.length), i + 1 < k → ps[i].Id < ps[i + 1].Id)) (fun a => ps.length - a.1.toNat) (fun e => e = 0 → Folk l ps)
  (by
   rintro ⟨_, mp⟩ _ ⟨rfl, k, rfl, hk, hI, hR⟩
   rcases Nat.lt_or_ge k ps.length with h | h
   ·generalize hp : ps[k] = p
    have hpm : p ∈ ps := hp ▸ List.getElem_mem h
    have hz := hsz p hpm
    have ord : (1 ≤ p.Id ∧ p.Id ≤ 1000000) → (0 < k ∧ ∃ h' : k - 1 < ps.length, p.Id ≤ ps[k - 1].Id) ∨ ((k = 0 ∨ ∃ h' : k - 1 < ps.length, ps[k - 1].Id < p.Id)) := fun _ => by
     rcases Nat.eq_zero_or_pos k with h0 | h0
     ·exact .inr (.inl h0)
     ·rcases Int.lt_or_le ps[k - 1].Id p.Id with h1 | h1
      ·exact .inr (.inr ⟨by omega, h1⟩)
      ·exact .inl ⟨h0, by omega, h1⟩
    by_cases hid : 1 ≤ p.Id ∧ p.Id ≤ 1000000
    ·rcases ord hid with ⟨h0, h', h1⟩ | hgood
     ·refine .inl ⟨5, fun h => absurd h (by decide), Ql fun next => ?_, Ql fun next => ?_⟩
      ·simp only [Qy]
       rw [Qa (by omega), Jh, J5 h, hp, Jd, Jga, Jd, Qa hid, Bool.not_true, Jf, Qa (by omega), Jh, Qf (by omega), Jd, show (k : Int) - 1 = ((k - 1 : Nat) : Int) by omega, J5 h', Jd, Qa h1, Jh]
      ·simp only [J2]
       rw [Qa (by omega), Jh, J5 h, hp, Jd, Zo, Jd, Jz (by omega), Jf, Qa (by omega), Jh, Qf (by omega), Jd, show (k : Int) - 1 = ((k - 1 : Nat) : Int) by omega, J5 h', Jd, Qa h1, Jh]
     ·have eR : ∀ next, Qy l ps next (k : Int) mp = Jq (Jcd p.Name) fun t51_2 => J6 (!t51_2) (some 3) (Zl l (k : Int) mp next p) := fun next => by
       simp only [Qy]
       rw [Qa (by omega), Jh, J5 h, hp, Jd, Jga, Jd, Qa hid, Bool.not_true, Jf]
       rcases hgood with h0 | ⟨h', h1⟩
       ·rw [Jz (by omega), Jf]
       ·by_cases h0 : 0 < k
        ·rw [Qa (by omega), Jh, Qf (by omega), Jd, show (k : Int) - 1 = ((k - 1 : Nat) : Int) by omega, J5 h', Jd, Jz (by omega), Jf]
        ·rw [Jz (by omega), Jf]
      have eC : ∀ next, J2 l ps next (k : Int) mp = Qu l (k : Int) mp next p := fun next => by
       simp only [J2]
       rw [Qa (by omega), Jh, J5 h, hp, Jd, Zo, Jd, Jz (by omega), Jf]
       rcases hgood with h0 | ⟨h', h1⟩
       ·rw [Jz (by omega), Jf]
       ·by_cases h0 : 0 < k
        ·rw [Qa (by omega), Jh, Qf (by omega), Jd, show (k : Int) - 1 = ((k - 1 : Nat) : Int) by omega, J5 h', Jd, Jz (by omega), Jf]
        ·rw [Jz (by omega), Jf]
      have eR2 : ∀ next, Qy l ps next (k : Int) mp = if Z1 l p = 0 then X7 l (k : Int) mp next p else some (Z1 l p) := fun next => by
       rw [eR, TitleOk_eq, Jd, fault_person hg p hz]
       unfold Z1
       cases Jcr p.Name <;> rfl
      by_cases hpe : Z1 l p = 0
      ·have hok := Jgj hpe
       by_cases ht : twice l mp p.Likes
       ·exact .inl ⟨6, fun h => absurd h (by decide), Ql fun next => by show Qy l ps next (k : Int) mp = _; rw [eR2, if_pos hpe]; exact (Jg7 hg p _ next hz.1 hok.1.all hok.1.rise mp).1 ht, Ql fun next => by show J2 l ps next (k : Int) mp = _; rw [eC]; exact ((Jak hg p hz _ next mp).2 hpe).1 ht⟩
       ·refine .inr ⟨((k : Int) + 1, Xv mp p.Likes), ((k : Int) + 1, Xv mp p.Likes), ⟨rfl, k + 1, by simp, h, fun i hi hik => ?_, fun i hi hik => ?_⟩, by simp only; omega, X0 _ fun next => ?_, X0 _ fun next => ?_⟩
        ·rcases Nat.lt_or_ge i k with h3 | h3
         ·exact hI i hi h3
         ·have : i = k := by omega
          subst this; rw [hp]; exact hok
        ·rcases Nat.lt_or_ge (i + 1) k with h3 | h3
         ·exact hR i hi h3
         ·have : k = i + 1 := by omega
          subst this
          rcases hgood with h4 | ⟨h', h4⟩
          ·omega
          ·rw [← hp] at h4; exact h4
        ·show Qy l ps next (k : Int) mp = _
         rw [eR2, if_pos hpe, (Jg7 hg p _ next hz.1 hok.1.all hok.1.rise mp).2 ht]
         simp only [V5]
         rw [Qf (by omega), Jd]
        ·show J2 l ps next (k : Int) mp = _
         rw [eC, ((Jak hg p hz _ next mp).2 hpe).2 ht, Qf (by omega), Jd]
      ·exact .inl ⟨Z1 l p, fun h => absurd h hpe, Ql fun next => by show Qy l ps next (k : Int) mp = _; rw [eR2, if_neg hpe], Ql fun next => by show J2 l ps next (k : Int) mp = _; rw [eC]; exact (Jak hg p hz _ next mp).1 hpe⟩
    ·refine .inl ⟨2, fun h => absurd h (by decide), Ql fun next => ?_, Ql fun next => ?_⟩
     ·simp only [Qy]
      rw [Qa (by omega), Jh, J5 h, hp, Jd, Jga, Jd, Jz hid, Bool.not_false, Jh]
     ·simp only [J2]
      rw [Qa (by omega), Jh, J5 h, hp, Jd, Zo, Jd, Qa (by omega), Jh]
   ·have : k = ps.length := by omega
    subst this
    refine .inl ⟨0, fun _ => ⟨by omega, fun p hp => ?_, List.pairwise_iff_getElem.2 ?_⟩, Ql fun next => ?_, Ql fun next => ?_⟩
    ·obtain ⟨j, hj, rfl⟩ := List.getElem_of_mem hp
     exact hI j hj hj
    ·have step : ∀ d i (hi : i < ps.length) (hd : i + d + 1 < ps.length), ps[i].Id < ps[i + d + 1].Id := by
      intro d
      induction d with
      | zero => intro i hi hd; exact hR i hd hd
      | succ d ih =>
       intro i hi hd
       have h1 := ih i hi (by omega)
       have h2 : ps[i + d + 1].Id < ps[i + (d + 1) + 1].Id := hR (i + d + 1) hd hd
       omega
     intro i j hi hj hij
     have := step (j - i - 1) i hi (by omega)
     simpa [show i + (j - i - 1) + 1 = j by omega] using this
    ·simp only [Qy]
     rw [Jz (by omega), Jf]
    ·simp only [J2]
     rw [Jz (by omega), Jf])
  (0, []) (0, []) ⟨rfl, 0, rfl, Nat.zero_le _, fun i _ h => by omega, fun i _ h => by omega⟩
 obtain ⟨e, h1, h2, h3⟩ := main
 exact ⟨e, h1, h2, h3⟩
end Go.M

/- FaceSuggests in plain Lean: people that are right stay so. Conditions: few elements. -/
namespace Go.M
open Go.Md Go.Pl
set_option linter.unusedVariables false
structure PersonOk (l : List Ta) (p : Tb) : Prop where
 idr : 1 ≤ p.Id ∧ p.Id ≤ 1000000
 title : Jcr p.Name = true
 likes : IdsOk l p.Likes
 nots : IdsOk l p.Nots
 apart : ∀ k ∈ p.Likes, k ∉ p.Nots
 photos : (Yy l p.Likes).Nodup
structure Right (l : List Ta) (ps : List Tb) : Prop where
 len : ps.length ≤ 100
 all : ∀ p ∈ ps, PersonOk l p
 rise : ps.Pairwise fun p q => p.Id < q.Id
 own : ps.Pairwise fun p q => ∀ k ∈ p.Likes, k ∉ q.Likes
theorem Jgc {l : List Ta} {ids : List Int} (h : IdsOk l ids) : Ja2 l ids = 0 := by
 unfold Ja2
 refine Jg2 _ _ fun j _ hj => ?_
 have hj : j < ids.length := by omega
 unfold idsC
 rw [at_D0 hj, h.all _ (List.getElem_mem hj)]
 rw [if_neg (by simp), if_neg]
 rintro ⟨h0, h1⟩
 rw [at_D0 (show j - 1 < ids.length by omega)] at h1
 have := List.pairwise_iff_getElem.1 h.rise (j - 1) j (by omega) hj (by omega)
 omega
theorem personE_iff {l : List Ta} {p : Tb} : Z1 l p = 0 ↔ Jcr p.Name = true ∧ IdsOk l p.Likes ∧ IdsOk l p.Nots ∧ ∀ k ∈ p.Likes, k ∉ p.Nots := by
 constructor
 ·intro h
  have h2 := Jgj h
  unfold Z1 at h
  cases ht : Jcr p.Name with
  | false => rw [ht] at h; simp at h
  | true =>
   rw [ht, if_neg (by simp)] at h
   refine ⟨rfl, h2.1, h2.2, fun k hk hn => ?_⟩
   unfold Je9 at h
   rw [if_neg (by rw [Jgc h2.1]; simp), if_neg (by rw [Jgc h2.2]; simp)] at h
   have : both p = true := by
    unfold both
    rw [List.any_eq_true]
    exact ⟨k, hk, by simpa using hn⟩
   rw [if_pos this] at h
   cases h
 ·rintro ⟨h1, h2, h3, h4⟩
  unfold Z1 Je9
  rw [if_neg (by rw [h1]; simp), if_neg (by rw [Jgc h2]; simp), if_neg (by rw [Jgc h3]; simp), if_neg]
  intro hb
  unfold both at hb
  rw [List.any_eq_true] at hb
  obtain ⟨k, hk, hn⟩ := hb
  exact h4 k hk (by simpa using hn)
theorem inM_setAll (ks : List Int) : ∀ (m : List (Int × Bool)) (x : Int), inM (Xv m ks) x = (decide (x ∈ ks) || inM m x) := by
 induction ks with
 | nil => intro m x; simp [Xv]
 | cons k ks ih =>
  intro m x
  show inM (Xv (Ja3 m k true) ks) x = _
  rw [ih, Je6]
  by_cases h1 : x = k
  ·subst h1; simp
  ·by_cases h2 : x ∈ ks <;> simp [h1, h2]
theorem check_right {l : List Ta} (hg : Good l) (hc : Ja8 l = some 0) (ps : List Tb) (hsz : ∀ p ∈ ps, PSz p) (hn : ps.length ≤ 9223372036854775000) : ∃ e, Qj l ps = some e ∧ (e = 0 ↔ Right l ps) := by
 unfold Qj
 rw [hc, Jd, Jz (by simp), Jf]
 by_cases hl : 100 < ps.length
 ·rw [Qa (by omega), Jh]
  exact ⟨4, rfl, fun h => absurd h (by decide), fun h => by have := h.len; omega⟩
 rw [Jz (by omega), Jf]
 refine fix_run (F := fun next1 s => J2 l ps next1 s.1 s.2)
  (fun s : Int × List (Int × Bool) => ∃ k : Nat, s.1 = k ∧ k ≤ ps.length ∧ (∀ i (h : i < ps.length), i < k → PersonOk l ps[i]) ∧ (∀ i (h : i + 1 < ps.length), i + 1 < k → ps[i].Id < ps[i + 1].Id) ∧
   (∀ i j (hi : i < ps.length) (hj : j < ps.length), i < j → j < k → ∀ x ∈ ps[i].Likes, x ∉ ps[j].Likes) ∧ ∀ x, inM s.2 x = true ↔ ∃ i, ∃ h : i < ps.length, i < k ∧ x ∈ ps[i].Likes)
  (fun s => ps.length - s.1.toNat) (fun e => e = 0 ↔ Right l ps) ?_ (0, []) ⟨0, rfl, Nat.zero_le _, fun i _ h => by omega, fun i _ h => by omega, fun i j _ _ _ h => by omega, fun x => ⟨fun h => (by rw [inM_nil] at h; cases h), fun ⟨i, _, h, _⟩ => by omega⟩⟩
 rintro ⟨_, mp⟩ ⟨k, rfl, hk, hP, hR, hO, hM⟩
 simp only at hM
 simp only [J2]
 rcases Nat.lt_or_ge k ps.length with h | h
 ·have hz := hsz _ (List.getElem_mem h)
  by_cases hid : 1 ≤ ps[k].Id ∧ ps[k].Id ≤ 1000000
  ·by_cases hord : 0 < k ∧ ∃ h' : k - 1 < ps.length, ps[k].Id ≤ ps[k - 1].Id
   ·obtain ⟨h0, h', h1⟩ := hord
    refine .inl ⟨5, ⟨fun h => absurd h (by decide), fun hr => ?_⟩, fun next => ?_⟩
    ·have := List.pairwise_iff_getElem.1 hr.rise (k - 1) k h' h (by omega)
     omega
    ·rw [Qa (by omega), Jh, J5 h, Jd, Zo, Jd, Jz (by omega), Jf, Qa (by omega), Jh, Qf (by omega), Jd, show (k : Int) - 1 = ((k - 1 : Nat) : Int) by omega, J5 h', Jd, Qa h1, Jh]
   ·have eC : ∀ next, (J6 (decide ((k : Int) < (ps.length : Int))) (Jq (Qk ps (k : Int)) fun t27 =>
      Jq (Ze t27.Id 1 1000000) fun t31 =>
      J6 t31 (some 2) (J6 (decide (0 < (k : Int))) (Jq (gI ((k : Int) - 1)) fun t39 =>
      Jq (Qk ps t39) fun t40 =>
      J6 (decide (t27.Id ≤ t40.Id)) (some 5) (Qu l (k : Int) mp next t27)) (Qu l (k : Int) mp next t27))) (some 0)) = Qu l (k : Int) mp next ps[k] := fun next => by
     rw [Qa (by omega), Jh, J5 h, Jd, Zo, Jd, Jz (by omega), Jf]
     by_cases h0 : 0 < k
     ·rw [Qa (by omega), Jh, Qf (by omega), Jd, show (k : Int) - 1 = ((k - 1 : Nat) : Int) by omega, J5 (show k - 1 < ps.length by omega), Jd, Jz (fun h1 => hord ⟨h0, by omega, h1⟩), Jf]
     ·rw [Jz (by omega), Jf]
    by_cases hpe : Z1 l ps[k] = 0
    ·have hpi := personE_iff.1 hpe
     by_cases ht : twice l mp ps[k].Likes
     ·refine .inl ⟨6, ⟨fun h => absurd h (by decide), fun hr => ?_⟩, fun next => ?_⟩
      ·rcases ht with ⟨x, hx, hm⟩ | ht
       ·obtain ⟨i, hi, hik, hxi⟩ := (hM x).1 hm
        exact (List.pairwise_iff_getElem.1 hr.own i k hi h hik x hxi hx).elim
       ·exact (ht (hr.all _ (List.getElem_mem h)).photos).elim
      ·rw [eC]; exact ((Jak hg ps[k] hz _ next mp).2 hpe).1 ht
     ·have hnt : (∀ x ∈ ps[k].Likes, ¬ inM mp x = true) ∧ (Yy l ps[k].Likes).Nodup := ⟨fun x hx hm => ht (.inl ⟨x, hx, hm⟩), Classical.byContradiction fun hh => ht (.inr hh)⟩
      refine .inr ⟨((k : Int) + 1, Xv mp ps[k].Likes), ⟨k + 1, by simp, h, fun i hi hik => ?_, fun i hi hik => ?_, fun i j hi hj hij hjk => ?_, fun x => ?_⟩, by simp only; omega, fun next => ?_⟩
      ·rcases Nat.lt_or_ge i k with h3 | h3
       ·exact hP i hi h3
       ·have : i = k := by omega
        subst this
        exact ⟨hid, hpi.1, hpi.2.1, hpi.2.2.1, hpi.2.2.2, hnt.2⟩
      ·rcases Nat.lt_or_ge (i + 1) k with h3 | h3
       ·exact hR i hi h3
       ·have : k = i + 1 := by omega
        subst this
        rcases Int.lt_or_le ps[i].Id ps[i + 1].Id with h4 | h4
        ·exact h4
        ·exact absurd ⟨by omega, by omega, h4⟩ hord
      ·rcases Nat.lt_or_ge j k with h3 | h3
       ·exact hO i j hi hj hij h3
       ·have : j = k := by omega
        subst this
        intro x hx hx2
        exact hnt.1 x hx2 ((hM x).2 ⟨i, hi, hij, hx⟩)
      ·simp only
       rw [inM_setAll, Bool.or_eq_true, decide_eq_true_iff, hM]
       constructor
       ·rintro (h3 | ⟨i, hi, hik, hx⟩)
        ·exact ⟨k, h, by omega, h3⟩
        ·exact ⟨i, hi, by omega, hx⟩
       ·rintro ⟨i, hi, hik, hx⟩
        rcases Nat.lt_or_ge i k with h3 | h3
        ·exact .inr ⟨i, hi, h3, hx⟩
        ·have : i = k := by omega
         subst this; exact .inl hx
      ·rw [eC, ((Jak hg ps[k] hz _ next mp).2 hpe).2 ht, Qf (by omega), Jd]
    ·refine .inl ⟨Z1 l ps[k], ⟨fun h => absurd h hpe, fun hr => absurd ?_ hpe⟩, fun next => ?_⟩
     ·have := hr.all _ (List.getElem_mem h)
      exact personE_iff.2 ⟨this.title, this.likes, this.nots, this.apart⟩
     ·rw [eC]; exact (Jak hg ps[k] hz _ next mp).1 hpe
  ·refine .inl ⟨2, ⟨fun h => absurd h (by decide), fun hr => absurd (hr.all _ (List.getElem_mem h)).idr hid⟩, fun next => ?_⟩
   rw [Qa (by omega), Jh, J5 h, Jd, Zo, Jd, Qa (by omega), Jh]
 ·have : k = ps.length := by omega
  subst this
  refine .inl ⟨0, ⟨fun _ => ⟨by omega, fun p hp => ?_, List.pairwise_iff_getElem.2 ?_, List.pairwise_iff_getElem.2 fun i j hi hj hij => hO i j hi hj hij hj⟩, fun _ => rfl⟩, fun next => ?_⟩
  ·obtain ⟨j, hj, rfl⟩ := List.getElem_of_mem hp
   exact hP j hj hj
  ·have step : ∀ d i (hi : i < ps.length) (hd : i + d + 1 < ps.length), ps[i].Id < ps[i + d + 1].Id := by
    intro d
    induction d with
    | zero => intro i hi hd; exact hR i hd hd
    | succ d ih =>
     intro i hi hd
     have h1 := ih i hi (by omega)
     have h2 : ps[i + d + 1].Id < ps[i + (d + 1) + 1].Id := hR (i + d + 1) hd hd
     omega
   intro i j hi hj hij
   have := step (j - i - 1) i hi (by omega)
   simpa [show i + (j - i - 1) + 1 = j by omega] using this
  ·rw [Jz (by omega), Jf]
end Go.M

/- Sizes, in plain Lean. Conditions: few elements. -/
namespace Go.M
open Go.Md Go.Pl
theorem Jg8 : ∀ {b a : List Int}, a.Pairwise (fun x y => x < y) → b.Pairwise (fun x y => x < y) → (∀ k ∈ a, k ∈ b) → a.length ≤ b.length
 | [], a, _, _, h => by
  cases a with
  | nil => simp
  | cons x a => exact absurd (h x (by simp)) (by simp)
 | y :: b, [], _, _, _ => by simp
 | y :: b, x :: a, ha, hb, h => by
  have pa := List.pairwise_cons.1 ha
  have pb := List.pairwise_cons.1 hb
  rcases List.mem_cons.1 (h x (by simp)) with e | h1
  ·subst e
   have := Jg8 (a := a) pa.2 pb.2 fun k hk => by
    rcases List.mem_cons.1 (h k (by simp [hk])) with e | h1
    ·have := pa.1 k hk; omega
    ·exact h1
   simp; omega
  ·have := Jg8 (a := x :: a) ha pb.2 fun k hk => by
    rcases List.mem_cons.1 (h k hk) with e | h2
    ·rcases List.mem_cons.1 hk with e2 | h3
     ·subst e2; exact h1
     ·have h4 := pa.1 k h3
      have h5 := pb.1 x h1
      omega
    ·exact h2
   simp at this ⊢; omega
theorem Jgt (l : List Int) (hl : l.length ≤ 9223372036854775000) : Vu l l = some true := by
 unfold Vu
 rw [Jz (by simp), Jf]
 have h := up (F := fun next1 s => Y3 l l next1 s) l.length (fun _ => some true) (fun next k hk ih => by
  simp only [Y3]
  rcases Nat.lt_or_ge k l.length with h | h
  ·rw [Qa (by omega), Jh, J5 h, Jd, Jd, Jz (by simp), Jf, Qf (by omega), Jd, ih h]
  ·rw [Jz (by omega), Jf])
 exact h
theorem has_mem {l : List Ta} {k : Int} : l.any (has k) = true ↔ k ∈ l.map (fun x => x.Id) := by
 rw [List.any_eq_true, List.mem_map]
 constructor
 ·rintro ⟨x, hx, h⟩; exact ⟨x, hx, by unfold has at h; simpa using h⟩
 ·rintro ⟨x, hx, h⟩; exact ⟨x, hx, by unfold has; simpa using h⟩
theorem ids_len {l : List Ta} (hg : Good l) {ids : List Int} (h : IdsOk l ids) : ids.length ≤ 300 := by
 have h2 : (l.map fun x => x.Id).Pairwise fun x y => x < y := by rw [List.pairwise_map]; exact hg.rise
 have := Jg8 h.rise h2 fun k hk => has_mem.1 (h.all k hk)
 rw [List.length_map] at this
 have := hg.len
 omega
theorem right_sz {l : List Ta} (hg : Good l) {ps : List Tb} (hr : Right l ps) : ∀ p ∈ ps, p.Likes.length ≤ 300 ∧ p.Nots.length ≤ 300 := fun p hp => ⟨ids_len hg (hr.all p hp).likes, ids_len hg (hr.all p hp).nots⟩
end Go.M

/- FaceTexts, in plain Lean: numbers and strings in parts. Conditions: few octets. -/
namespace Go.M
open Go.Md Go.Pl
set_option linter.unusedVariables false
instance (n : Nat) (s : List UInt8) : Decidable (Jb3 n s) := by unfold Jb3; infer_instance
theorem pn_j1 (s : List UInt8) : ∃ v, Zw s (Jai s) = some (v, decide (Jb3 7 s)) ∧ (Jb3 7 s → v = Wh s) := by
 unfold Zw
 rw [Qr, Qr]
 by_cases h0 : Jai s = []
 ·rw [if_pos h0]
  have : ¬ Jb3 7 s := fun h => h.1 h0
  exact ⟨0, by simp [this], fun h => absurd h this⟩
 by_cases h4 : (Jai s).length ≤ 7
 ·obtain ⟨r, hr, hr2⟩ := TrimD (Jai s) (by omega)
  rw [if_neg h0, if_neg (by omega), hr, Jd, Qr]
  by_cases hd : (Jai s).all dg = true
  ·have hb := numV_lt hd h4
   rw [if_neg (fun h => h (hr2.2 hd)), atoi_num h0 (by omega) hd, Jd, show gItoa (Wh s) = some (Jbr (Wh s)) from if_pos (by omega), Jd]
   refine ⟨Wh s, ?_, fun _ => rfl⟩
   congr 2
   rw [decide_eq_decide, itoa_num h0 hd]
   exact ⟨fun h => ⟨h0, h4, hd, h⟩, fun h => h.2.2.2⟩
  ·have : ¬ Jb3 7 s := fun h => hd h.2.2.1
   rw [if_pos (fun h => hd (hr2.1 h))]
   exact ⟨0, by simp [this], fun h => absurd h this⟩
 ·rw [if_neg h0, if_pos (by omega)]
  have : ¬ Jb3 7 s := fun h => h4 h.2.1
  exact ⟨0, by simp [this], fun h => absurd h this⟩
theorem wh_j1 (s : List UInt8) : ∃ v, Jac s 7 (Jai s) = some (v, decide (Jb3 7 s)) ∧ (Jb3 7 s → v = Wh s) := by
 unfold Jac
 rw [Qr, Qr]
 by_cases h0 : Jai s = []
 ·rw [if_pos h0]
  have : ¬ Jb3 7 s := fun h => h.1 h0
  exact ⟨0, by simp [this], fun h => absurd h this⟩
 by_cases h4 : (Jai s).length ≤ 7
 ·obtain ⟨r, hr, hr2⟩ := TrimD (Jai s) (by omega)
  rw [if_neg h0, if_neg (by omega), hr, Jd, Qr]
  by_cases hd : (Jai s).all dg = true
  ·rw [if_neg (fun h => h (hr2.2 hd)), head_ne h0 0, Jd, Qr, Qr]
   have j2 : Jco s = some (Wh s, true) := by
    unfold Jco
    rw [atoi_num h0 (by omega) hd, Jd]
   by_cases h48 : (((Jai s).head h0).toNat : Int) = 48
   ·rw [if_pos h48]
    by_cases hz : s = [48]
    ·have : Jb3 7 s := ⟨h0, h4, hd, fun _ => hz⟩
     rw [if_neg (by simpa using hz), j2]
     exact ⟨_, by simp [this], fun _ => rfl⟩
    ·have : ¬ Jb3 7 s := fun h => hz (h.2.2.2 ((head48 h0).1 h48))
     rw [if_pos hz]
     exact ⟨0, by simp [this], fun h => absurd h this⟩
   ·have : Jb3 7 s := ⟨h0, h4, hd, fun h => absurd ((head48 h0).2 h) h48⟩
    rw [if_neg h48, j2]
    exact ⟨_, by simp [this], fun _ => rfl⟩
  ·have : ¬ Jb3 7 s := fun h => hd h.2.2.1
   rw [if_pos (fun h => hd (hr2.1 h))]
   exact ⟨0, by simp [this], fun h => absurd h this⟩
 ·rw [if_neg h0, if_pos (by omega)]
  have : ¬ Jb3 7 s := fun h => h4 h.2.1
  exact ⟨0, by simp [this], fun h => absurd h this⟩
def nOk (sg : Bool) (s : List UInt8) : Prop := Jb3 7 s ∧ (sg = false → s.head? ≠ some 45)
instance (sg : Bool) (s : List UInt8) : Decidable (nOk sg s) := by unfold nOk; infer_instance
theorem bad_all {s : List UInt8} (h : s.head? = some 45) : ¬ s.all dg = true := by
 cases s with
 | nil => cases h
 | cons c l =>
  have : c = 45 := by simpa using h
  subst this
  rw [List.all_cons]
  intro e
  rw [Bool.and_eq_true] at e
  exact absurd e.1 (by decide)
theorem pn_bad {s : List UInt8} (h : s.head? = some 45) : Zw s s = some (0, false) := by
 unfold Zw
 have h0 : s ≠ [] := fun e => by rw [e] at h; cases h
 rw [Qr, if_neg h0, Qr]
 by_cases hl : 7 < (s.length : Int)
 ·rw [if_pos hl]
 ·obtain ⟨r, hr, hr2⟩ := TrimD s (by omega)
  rw [if_neg hl, hr, Jd, Qr, if_pos (fun e => bad_all h (hr2.1 e))]
theorem wh_bad {s : List UInt8} (h : s.head? = some 45) : Jac s 7 s = some (0, false) := by
 unfold Jac
 have h0 : s ≠ [] := fun e => by rw [e] at h; cases h
 rw [Qr, if_neg h0, Qr]
 by_cases hl : 7 < (s.length : Int)
 ·rw [if_pos hl]
 ·obtain ⟨r, hr, hr2⟩ := TrimD s (by omega)
  rw [if_neg hl, hr, Jd, Qr, if_pos (fun e => bad_all h (hr2.1 e))]
theorem pn_eq (s : List UInt8) (sg : Bool) : ∃ v, Jan s sg = some (v, decide (nOk sg s)) ∧ (nOk sg s → v = Wh s) := by
 unfold Jan
 cases sg
 ·rw [Jf]
  by_cases h : s.head? = some 45
  ·have : ¬ nOk false s := fun e => e.2 rfl h
   exact ⟨0, by rw [pn_bad h]; simp [this], fun e => absurd e this⟩
  ·obtain ⟨v, h1, h2⟩ := pn_j1 s
   rw [show Jai s = s from if_neg h] at h1
   refine ⟨v, ?_, fun e => h2 e.1⟩
   rw [h1]
   congr 2
   rw [decide_eq_decide]
   exact ⟨fun e => ⟨e, fun _ => h⟩, fun e => e.1⟩
 ·rw [Jh, TrimP_eq, Jd, show (if s.head? = some 45 then s.tail else s) = Jai s from rfl]
  obtain ⟨v, h1, h2⟩ := pn_j1 s
  refine ⟨v, ?_, fun e => h2 e.1⟩
  rw [h1]
  congr 2
  rw [decide_eq_decide]
  exact ⟨fun e => ⟨e, fun h => by cases h⟩, fun e => e.1⟩
theorem wh_eq (s : List UInt8) (sg : Bool) : ∃ v, Jcu s 7 sg = some (v, decide (nOk sg s)) ∧ (nOk sg s → v = Wh s) := by
 unfold Jcu
 cases sg
 ·rw [Jf]
  by_cases h : s.head? = some 45
  ·have : ¬ nOk false s := fun e => e.2 rfl h
   exact ⟨0, by rw [wh_bad h]; simp [this], fun e => absurd e this⟩
  ·obtain ⟨v, h1, h2⟩ := wh_j1 s
   rw [show Jai s = s from if_neg h] at h1
   refine ⟨v, ?_, fun e => h2 e.1⟩
   rw [h1]
   congr 2
   rw [decide_eq_decide]
   exact ⟨fun e => ⟨e, fun _ => h⟩, fun e => e.1⟩
 ·rw [Jh, TrimP_eq, Jd, show (if s.head? = some 45 then s.tail else s) = Jai s from rfl]
  obtain ⟨v, h1, h2⟩ := wh_j1 s
  refine ⟨v, ?_, fun e => h2 e.1⟩
  rw [h1]
  congr 2
  rw [decide_eq_decide]
  exact ⟨fun e => ⟨e, fun h => by cases h⟩, fun e => e.1⟩
def Qb (c : UInt8) : List UInt8 → List (List UInt8)
 | [] => [[]]
 | b :: l => if b = c then [] :: Qb c l else (b :: (Qb c l).headD []) :: (Qb c l).tail
def Z3 (c : UInt8) : List UInt8 → List (List UInt8)
 | [] => [[]]
 | b :: l => if b = c then [c] :: Z3 c l else (b :: (Z3 c l).headD []) :: (Z3 c l).tail
theorem splitL_cons (c b : UInt8) (l : List UInt8) : Qb c (b :: l) = if b = c then [] :: Qb c l else (b :: (Qb c l).headD []) :: (Qb c l).tail := rfl
theorem splitA_cons (c b : UInt8) (l : List UInt8) : Z3 c (b :: l) = if b = c then [c] :: Z3 c l else (b :: (Z3 c l).headD []) :: (Z3 c l).tail := rfl
theorem Jd5 (c b : UInt8) (l : List UInt8) : Js c (b :: l) = if b = c then ([], l, true) else (b :: (Js c l).1, (Js c l).2.1, (Js c l).2.2) := rfl
theorem Ve (c : UInt8) : ∀ s, Qb c s = (Js c s).1 :: (if (Js c s).2.2 = true then Qb c (Js c s).2.1 else [])
 | [] => rfl
 | b :: l => by
  have ih := Ve c l
  rw [splitL_cons, Jd5]
  by_cases hb : b = c
  ·rw [if_pos hb, if_pos hb]; rfl
  ·rw [if_neg hb, if_neg hb, ih]; rfl
theorem Ja6 (c : UInt8) : ∀ s, Z3 c s = if (Js c s).2.2 = true then ((Js c s).1 ++ [c]) :: Z3 c (Js c s).2.1 else [s]
 | [] => rfl
 | b :: l => by
  have ih := Ja6 c l
  rw [splitA_cons, Jd5]
  by_cases hb : b = c
  ·rw [if_pos hb, if_pos hb]; rfl
  ·rw [if_neg hb, if_neg hb, ih]
   show _ = if (Js c l).2.2 = true then _ else _
   by_cases h : (Js c l).2.2 = true
   ·rw [if_pos h, if_pos h]; rfl
   ·rw [if_neg h, if_neg h]; rfl
theorem Jes (c : UInt8) (s : List UInt8) : s.count c = if (Js c s).2.2 = true then (Js c s).2.1.count c + 1 else 0 := by
 induction s with
 | nil => rfl
 | cons b l ih =>
  rw [Jd5]
  by_cases hb : b = c
  ·rw [if_pos hb, hb, List.count_cons_self]; rfl
  ·rw [if_neg hb, List.count_cons_of_ne (by simpa using hb), ih]
theorem splitL_len (c : UInt8) (s : List UInt8) : (Qb c s).length = s.count c + 1 := by
 generalize hn : s.length = n
 induction n using Nat.strongRecOn generalizing s with
 | ind n ih =>
  rw [Ve, Jes c s]
  by_cases h : (Js c s).2.2 = true
  ·have := congrArg List.length (W5 h)
   rw [List.length_append, List.length_cons] at this
   rw [if_pos h, if_pos h, List.length_cons, ih (Js c s).2.1.length (by omega) _ rfl]
  ·rw [if_neg h, if_neg h]; rfl
theorem Jgw (c : UInt8) (s : List UInt8) : (Z3 c s).length = s.count c + 1 := by
 generalize hn : s.length = n
 induction n using Nat.strongRecOn generalizing s with
 | ind n ih =>
  rw [Ja6, Jes c s]
  by_cases h : (Js c s).2.2 = true
  ·have := congrArg List.length (W5 h)
   rw [List.length_append, List.length_cons] at this
   rw [if_pos h, if_pos h, List.length_cons, ih (Js c s).2.1.length (by omega) _ rfl]
  ·rw [if_neg h, if_neg h]; rfl
theorem Jgk {α : Type} {l : List α} {k : Nat} {x : α} (h : k < l.length) : (l.set k x).take (k + 1) = l.take k ++ [x] := by
 rw [List.take_succ_eq_append_getElem (by rw [List.length_set]; exact h), List.take_set_of_le (Nat.le_refl _), List.getElem_set_self]
theorem gen_loop (c : UInt8) (a2 : Nat) (ha : a2 ≤ 1) (n : Nat) (hn : n ≤ 2000000) (P : List UInt8 → List (List UInt8))
  (hP : ∀ x, P x = if (Js c x).2.2 = true then x.take ((Js c x).1.length + a2) :: P (Js c x).2.1 else [x]) :
  ∀ (m k : Nat) (x : List UInt8) (l : List (List UInt8)), x.length ≤ m → x.length ≤ 2000000 → l.length = n + 1 → k + x.count c = n →
   Zp (fun next3 s => Q0 [c] (a2 : Int) (n : Int) next3 s.1 s.2.1 s.2.2) (x, (k : Int), l) = some (l.take k ++ P x) := by
 intro m
 induction m with
 | zero =>
  intro k x l hx _ hl hk
  have : x = [] := List.length_eq_zero_iff.1 (by omega)
  subst this
  rw [hP, if_neg (fun h => by cases h)]
  have hkn : k = n := by simpa using hk
  subst hkn
  refine Ql fun next => ?_
  show Q0 [c] (a2 : Int) (k : Int) next [] (k : Int) l = _
  unfold Q0 Y9
  rw [Jz (by omega), Jf, J5 (by omega), Jd, Jd7 (by omega) (by omega), Jd, Qf (by omega), Jd, Jcz (by rw [List.length_set]; omega), Jd, Int.toNat_natCast, show ((k : Int) + 1).toNat = k + 1 from by omega, Jgk (by omega)]
 | succ m ih =>
  intro k x l hx hx2 hl hk
  have hi : U0 x [c] = some (ixB x c) := by unfold U0; rw [Index1_eq, Jd]
  have hix := cutS_ix c x
  have hct := Jes c x
  by_cases h : (Js c x).2.2 = true
  ·rw [if_pos h] at hix hct
   have hln := congrArg List.length (W5 h)
   rw [List.length_append, List.length_cons] at hln
   have e2 : x.drop ((Js c x).1.length + 1) = (Js c x).2.1 := by
    have := List.drop_left' (l₁ := (Js c x).1 ++ [c]) (l₂ := (Js c x).2.1) rfl
    rw [List.append_assoc, List.singleton_append, ← W5 h] at this
    simpa using this
   rw [X0 ((Js c x).2.1, ((k + 1 : Nat) : Int), l.set k (x.take ((Js c x).1.length + a2))) fun next => by
    show Q0 [c] (a2 : Int) (n : Int) next x (k : Int) l = _
    unfold Q0
    have e1 : (([c] : List UInt8).length : Int) = 1 := rfl
    rw [Qa (by omega), Jh, hi, Jd, hix, Jz (by omega), Jf, Qf (by omega), Jd, Jcz (by omega), Jd, J5 (by omega), Jd, Jd7 (by omega) (by omega), Jd, e1, Qf (by omega), Jd, Uh (by omega), Jd, Qf (by omega), Jd]
    rw [show (((Js c x).1.length : Int) + (a2 : Int)).toNat = (Js c x).1.length + a2 from by omega, show (((Js c x).1.length : Int) + 1).toNat = (Js c x).1.length + 1 from by omega, Int.toNat_natCast, e2]
    rfl]
   rw [ih (k + 1) _ _ (by omega) (by omega) (by rw [List.length_set]; exact hl) (by omega), hP x, if_pos h, Jgk (by omega), List.append_assoc]
   rfl
  ·rw [if_neg h] at hix hct
   have hkn : k = n := by omega
   subst hkn
   rw [hP, if_neg h]
   refine Ql fun next => ?_
   show Q0 [c] (a2 : Int) (k : Int) next x (k : Int) l = _
   unfold Q0 Y9
   rw [Jz (by omega), Jf, J5 (by omega), Jd, Jd7 (by omega) (by omega), Jd, Qf (by omega), Jd, Jcz (by rw [List.length_set]; omega), Jd, Int.toNat_natCast, show ((k : Int) + 1).toNat = k + 1 from by omega, Jgk (by omega)]
theorem Count_eq (c : UInt8) (s : List UInt8) : Jbn s [c] = some ((s.count c : Nat) : Int) := by
 unfold Jbn
 rw [Qr, if_neg (by simp), Qr, if_pos (by rfl), show Uw [c] 0 = some (c.toNat : Int) from rfl, Jd, show gCnB s (c.toNat : Int) = some ((s.count c : Nat) : Int) from by unfold gCnB; rw [Int.toNat_natCast]; simp, Jd]
theorem gen_eq (c : UInt8) (a2 : Nat) (ha : a2 ≤ 1) (s : List UInt8) (hs : s.length ≤ 1000000) (P : List UInt8 → List (List UInt8))
  (hP : ∀ x, P x = if (Js c x).2.2 = true then x.take ((Js c x).1.length + a2) :: P (Js c x).2.1 else [x]) : Vt s [c] (a2 : Int) (-1) = some (P s) := by
 have hc := List.count_le_length (a := c) (l := s)
 unfold Vt
 rw [Qr, if_neg (by omega), Qr, if_neg (by simp), Qr, if_pos (by omega), Count_eq, Jd, Qf (by omega), Jd]
 unfold Vn
 rw [Qf (by omega), Jd, show min ((s.count c : Int) + 1) ((s.length : Int) + 1) = ((s.count c + 1 : Nat) : Int) from by omega, gMake_ok (by omega), Jd, Qf (by omega), Jd, Int.toNat_natCast, show (((s.count c + 1 : Nat) : Int) - 1) = ((s.count c : Nat) : Int) from by omega]
 have := gen_loop c a2 ha (s.count c) (by omega) P hP s.length 0 s (List.replicate (s.count c + 1) []) (Nat.le_refl _) (by omega) (by simp) (by omega)
 rw [show ((0 : Nat) : Int) = 0 from rfl] at this
 rw [this]; simp
theorem take_cut {c : UInt8} {x : List UInt8} (h : (Js c x).2.2 = true) : x.take ((Js c x).1.length + 0) = (Js c x).1 ∧ x.take ((Js c x).1.length + 1) = (Js c x).1 ++ [c] := by
 have e := W5 h
 constructor
 ·have := List.take_left' (l₁ := (Js c x).1) (l₂ := c :: (Js c x).2.1) rfl
  rwa [← e] at this
 ·have := List.take_left' (l₁ := (Js c x).1 ++ [c]) (l₂ := (Js c x).2.1) rfl
  rw [List.append_assoc, List.singleton_append, ← e] at this
  simpa using this
theorem Split_eq (c : UInt8) (s : List UInt8) (hs : s.length ≤ 1000000) : U2 s [c] = some (Qb c s) := by
 unfold U2
 rw [show (0 : Int) = ((0 : Nat) : Int) from rfl, gen_eq c 0 (by omega) s hs (Qb c) (fun x => by
  rw [Ve]
  by_cases h : (Js c x).2.2 = true
  ·rw [if_pos h, if_pos h, (take_cut h).1]
  ·rw [if_neg h, if_neg h, Jff (by simpa using h)]), Jd]
theorem Jhf (c : UInt8) (s : List UInt8) (hs : s.length ≤ 1000000) : Wf s [c] = some (Z3 c s) := by
 unfold Wf
 rw [show ((([c] : List UInt8).length : Nat) : Int) = ((1 : Nat) : Int) from rfl, gen_eq c 1 (by omega) s hs (Z3 c) (fun x => by
  rw [Ja6]
  by_cases h : (Js c x).2.2 = true
  ·rw [if_pos h, if_pos h, (take_cut h).2]
  ·rw [if_neg h, if_neg h]), Jd]
theorem Jgu (c : UInt8) : ∀ s, [c].intercalate (Qb c s) = s := by
 intro s
 generalize hn : s.length = n
 induction n using Nat.strongRecOn generalizing s with
 | ind n ih =>
  rw [Ve]
  by_cases h : (Js c s).2.2 = true
  ·have e := W5 h
   have hl := congrArg List.length e
   rw [List.length_append, List.length_cons] at hl
   have := ih (Js c s).2.1.length (by omega) (Js c s).2.1 rfl
   rw [if_pos h]
   cases hs : Qb c (Js c s).2.1 with
   | nil => rw [Ve] at hs; cases hs
   | cons y ys =>
    rw [hs] at this
    rw [show [c].intercalate ((Js c s).1 :: y :: ys) = (Js c s).1 ++ ([c] ++ [c].intercalate (y :: ys)) from by simp [List.intercalate, List.intersperse], this, List.singleton_append, ← e]
  ·rw [if_neg h, Jff (by simpa using h)]
   simp [List.intercalate]
theorem split_ne (c : UInt8) (s : List UInt8) : Qb c s ≠ [] := by rw [Ve]; simp
end Go.M

/- FaceTexts, in plain Lean: what the two writers write. Conditions: what the checks let through. -/
namespace Go.M
open Go.Md Go.Pl
set_option linter.unusedVariables false
def Jat (n : Int) : Prop := -1000000 ≤ n ∧ n ≤ 1000000
theorem Jgg {n : Int} (h : Jat n) : (Jbr n).length ≤ 8 := by
 unfold Jbr
 split
 ·have := (Jd8 6 n.natAbs (by have := h.1; omega)).2.2.2.1
  simp; omega
 ·have := (Jd8 6 n.toNat (by have := h.2; omega)).2.2.2.1
  omega
theorem Jf3 {n : Int} (h : Jat n) : gItoa n = some (Jbr n) := if_pos (by have := h.1; have := h.2; omega)
def Jb1 (ns : List Int) : List UInt8 := ns.flatMap fun n => 32 :: Jbr n
theorem Y8 : ∀ {ns : List Int}, (∀ n ∈ ns, Jat n) → (Jb1 ns).length ≤ 9 * ns.length
 | [], _ => by simp [Jb1]
 | n :: ns, h => by
  have h1 := Jgg (h n (by simp))
  have h2 := Y8 (ns := ns) fun k hk => h k (by simp [hk])
  simp only [Jb1, List.flatMap_cons, List.length_append, List.length_cons] at h2 ⊢
  omega
theorem nums_app (a b : List Int) : Jb1 (a ++ b) = Jb1 a ++ Jb1 b := by unfold Jb1; rw [List.flatMap_append]
theorem Jbb {α : Type} (g : α → List UInt8) : ∀ (xs : List α) (s : List UInt8), xs.foldl (fun s x => s ++ g x) s = s ++ xs.flatMap g
 | [], s => by simp
 | x :: xs, s => by rw [List.foldl_cons, Jbb g xs]; simp
theorem Jck {ns : List Int} (h : ∀ n ∈ ns, Jat n) (hl : ns.length ≤ 1000000) : Qw ns = some (Jb1 ns) := by
 unfold Qw
 have := Jbt (F := fun next2 s => Z4 ns next2 s.1 s.2) ns (fun s n => s ++ (32 :: Jbr n)) (fun m => some m) (fun k m => m.length ≤ 9 * k) (fun next k s hk hI => by
  have h1 := Jgg (h _ (List.getElem_mem hk))
  refine ⟨?_, by simp; omega⟩
  simp only [Z4]
  rw [Qa (by omega), Jh, J5 hk, Jd, Jf3 (h _ (List.getElem_mem hk)), Jd, Wd (by simp; omega), Jd, Jdf ⟨by simp, by simp; omega⟩, Jd, Qf (by omega), Jd]
  rfl) (fun next s hI => by
  simp only [Z4]
  rw [Jz (by omega), Jf]
  rfl) [] (by simp)
 rw [this, Jbb (fun n => 32 :: Jbr n)]
 rfl
theorem Jc5 {m s : List UInt8} {ns : List Int} (hs : s ≠ []) (h : ∀ n ∈ ns, Jat n) (hl : m.length + s.length + 9 * ns.length ≤ 1000000000) : Yg m s ns = some (m ++ s ++ Jb1 ns) := by
 unfold Yg
 rw [Jdf ⟨hs, by omega⟩, Jd]
 have := Jbt (F := fun next1 s => Z5 ns next1 s.1 s.2) ns (fun s n => s ++ (32 :: Jbr n)) (fun m => some m) (fun k t => t.length ≤ m.length + s.length + 9 * k) (fun next k s hk hI => by
  have h1 := Jgg (h _ (List.getElem_mem hk))
  refine ⟨?_, by simp; omega⟩
  simp only [Z5]
  rw [Qa (by omega), Jh, J5 hk, Jd, Jf3 (h _ (List.getElem_mem hk)), Jd, Wd (by simp; omega), Jd, Jdf ⟨by simp, by simp; omega⟩, Jd, Qf (by omega), Jd]
  rfl) (fun next s hI => by
  simp only [Z5]
  rw [Jz (by omega), Jf]) (m ++ s) (by simp)
 rw [this, Jbb (fun n => 32 :: Jbr n)]
 rfl
def Jdx (x : Ta) : List UInt8 := [102, 97, 99, 101] ++ Jb1 [x.Id, x.Photo] ++ Jb1 ((List.range 12).map x.Vec) ++ [10]
def Jaq (p : Tb) : List UInt8 := ([112, 101, 114, 115, 111, 110] ++ Jb1 [p.Id] ++ [32] ++ p.Name ++ [10]) ++ ([108, 105, 107, 101, 115] ++ Jb1 p.Likes ++ [10]) ++ ([110, 111, 116, 115] ++ Jb1 p.Nots ++ [10])
structure LikeS (x : Ta) : Prop where
 id : Jat x.Id
 photo : Jat x.Photo
 vec : ∀ n ∈ (List.range 12).map x.Vec, Jat n
structure PersonS (p : Tb) : Prop where
 id : Jat p.Id
 name : p.Name.length ≤ 60
 likes : ∀ n ∈ p.Likes, Jat n
 nots : ∀ n ∈ p.Nots, Jat n
 l1 : p.Likes.length ≤ 300
 l2 : p.Nots.length ≤ 300
theorem Jc9 {a b : Int} (ha : Jat a) (hb : Jat b) : ∀ n ∈ [a, b], Jat n := by
 intro n hn
 simp only [List.mem_cons, List.not_mem_nil, or_false] at hn
 rcases hn with rfl | rfl
 ·exact ha
 ·exact hb
theorem Jdb {a : Int} (ha : Jat a) : ∀ n ∈ [a], Jat n := by
 intro n hn
 rw [List.mem_singleton] at hn
 rw [hn]; exact ha
theorem Jee {x : Ta} (h : LikeS x) : (Jdx x).length ≤ 200 := by
 have h1 := Y8 (Jc9 h.id h.photo)
 have h2 := Y8 h.vec
 unfold Jdx
 simp only [List.length_append, List.length_cons, List.length_nil, List.length_map, List.length_range] at h1 h2 ⊢
 omega
theorem Jf0 {p : Tb} (h : PersonS p) : (Jaq p).length ≤ 6000 := by
 have h1 := Y8 (Jdb h.id)
 have h2 := Y8 h.likes
 have h3 := Y8 h.nots
 have := h.name
 have := h.l1
 have := h.l2
 unfold Jaq
 simp only [List.length_append, List.length_cons, List.length_nil] at h1 h2 h3 ⊢
 omega
def folkT (l : List Ta) (ps : List Tb) : List UInt8 := l.flatMap Jdx ++ ps.flatMap Jaq
section
variable {l : List Ta} {ps : List Tb} (hl : l.length ≤ 300) (hp : ps.length ≤ 100) (h1 : ∀ x ∈ l, LikeS x) (h2 : ∀ p ∈ ps, PersonS p)
set_option linter.unusedSectionVars false
include hl hp h1 h2
theorem text_people {m : List UInt8} (hm : m.length ≤ 60000) : Jay ps m = Wc (m ++ ps.flatMap Jaq) := by
 unfold Jay
 have := Jbt (F := fun next3 s => Ub ps next3 s.1 s.2) ps (fun s p => s ++ Jaq p) Wc (fun k t => t.length ≤ 60000 + 6000 * k) (fun next k s hk hI => by
  have hx := h2 _ (List.getElem_mem hk)
  have h3 := Jf0 hx
  refine ⟨?_, by simp; omega⟩
  have i1 := Y8 (Jdb hx.id)
  have i2 := Y8 hx.likes
  have i3 := Y8 hx.nots
  have j1 := hx.name
  have j2 := hx.l1
  have j3 := hx.l2
  simp only [List.length_cons, List.length_nil] at i1
  simp only [Ub]
  rw [Qa (by omega), Jh, J5 hk, Jd, Jck (Jdb hx.id) (by simp), Jd, Wd (by simp; omega), Jd, Wd (by simp; omega), Jd, Wd (by simp; omega), Jd, Wd (by simp; omega), Jd, Jdf ⟨by simp, by simp; omega⟩, Jd,
   Jck hx.likes (by omega), Jd, Wd (by simp; omega), Jd, Wd (by simp; omega), Jd, Jdf ⟨by simp, by simp; omega⟩, Jd,
   Jck hx.nots (by omega), Jd, Wd (by simp; omega), Jd, Wd (by simp; omega), Jd, Jdf ⟨by simp, by simp; omega⟩, Jd, Qf (by omega), Jd]
  congr 2
  simp [Jaq]) (fun next s hI => by
  simp only [Ub]
  rw [Jz (by omega), Jf]) m (by simpa using hm)
 rw [this, Jbb Jaq]
theorem text_faces : Zp (fun next4 s => Wg l ps next4 s.1 s.2) (0, []) = Wc (folkT l ps) := by
 have := Jbt (F := fun next4 s => Wg l ps next4 s.1 s.2) l (fun s p => s ++ Jdx p) (Jay ps) (fun k t => t.length ≤ 200 * k) (fun next k s hk hI => by
  have hx := h1 _ (List.getElem_mem hk)
  have h3 := Jee hx
  refine ⟨?_, by simp; omega⟩
  have i1 := Y8 (Jc9 hx.id hx.photo)
  have i2 := Y8 hx.vec
  simp only [List.length_cons, List.length_nil, List.length_map, List.length_range] at i1 i2
  simp only [Wg]
  rw [Qa (by omega), Jh, J5 hk, Jd, Jck (Jc9 hx.id hx.photo) (by simp), Jd, Wd (by simp; omega), Jd, Jck hx.vec (by simp), Jd, Wd (by simp; omega), Jd, Wd (by simp; omega), Jd, Jdf ⟨by simp, by simp; omega⟩, Jd, Qf (by omega), Jd]
  congr 2 <;> simp [Jdx]) (fun next s hI => by
  simp only [Wg]
  rw [Jz (by omega), Jf]) [] (by simp)
 rw [this, Jbb Jdx, List.nil_append, text_people hl hp h1 h2]
 ·rfl
 ·clear this
  have : ∀ (xs : List Ta), (∀ x ∈ xs, LikeS x) → (xs.flatMap Jdx).length ≤ 200 * xs.length := by
   intro xs
   induction xs with
   | nil => intro _; simp
   | cons x xs ih =>
    intro h
    have := Jee (h x (by simp))
    have := ih fun y hy => h y (by simp [hy])
    simp only [List.flatMap_cons, List.length_append, List.length_cons]
    omega
  have := this l h1
  omega
theorem folk_people {m : List UInt8} (hm : m.length ≤ 60000) : Uv ps m = some (m ++ ps.flatMap Jaq) := by
 unfold Uv
 have := Jbt (F := fun next3 s => Wq ps next3 s.1 s.2) ps (fun s p => s ++ Jaq p) (fun m => some m) (fun k t => t.length ≤ 60000 + 6000 * k) (fun next k s hk hI => by
  have hx := h2 _ (List.getElem_mem hk)
  have h3 := Jf0 hx
  refine ⟨?_, by simp; omega⟩
  have i1 := Y8 (Jdb hx.id)
  have i2 := Y8 hx.likes
  have i3 := Y8 hx.nots
  have j1 := hx.name
  have j2 := hx.l1
  have j3 := hx.l2
  simp only [List.length_cons, List.length_nil] at i1
  simp only [Wq]
  rw [Qa (by omega), Jh, J5 hk, Jd, Jc5 (by simp) (Jdb hx.id) (by simp; omega), Jd, Wd (by simp; omega), Jd, Wd (by simp; omega), Jd, Jc5 (by simp) hx.likes (by simp; omega), Jd, Jc5 (by simp) hx.nots (by simp; omega), Jd,
   Jc5 (by simp) (by simp) (by simp; omega), Jd, Qf (by omega), Jd]
  congr 2
  simp [Jaq, Jb1]) (fun next s hI => by
  simp only [Wq]
  rw [Jz (by omega), Jf]
  rfl) m (by simpa using hm)
 rw [this, Jbb Jaq]
theorem folk_eq : Jde l ps = some (folkT l ps) := by
 unfold Jde
 have := Jbt (F := fun next4 s => Wr l ps next4 s.1 s.2) l (fun s p => s ++ Jdx p) (Uv ps) (fun k t => t.length ≤ 200 * k) (fun next k s hk hI => by
  have hx := h1 _ (List.getElem_mem hk)
  have h3 := Jee hx
  refine ⟨?_, by simp; omega⟩
  have i1 := Y8 (Jc9 hx.id hx.photo)
  have i2 := Y8 hx.vec
  simp only [List.length_cons, List.length_nil, List.length_map, List.length_range] at i1 i2
  have hall : ∀ n ∈ [l[k].Id, l[k].Photo] ++ (List.range 12).map l[k].Vec, Jat n := by
   intro n hn
   rcases List.mem_append.1 hn with h | h
   ·exact Jc9 hx.id hx.photo n h
   ·exact hx.vec n h
  simp only [Wr]
  rw [Qa (by omega), Jh, J5 hk, Jd, Jb7 (by simp), Jd, Jc5 (by simp) hall (by simp; omega), Jd, Jc5 (by simp) (by simp) (by rw [nums_app]; simp; omega), Jd, Qf (by omega), Jd]
  congr 2
  rw [nums_app]
  simp [Jdx, Jb1]) (fun next s hI => by
  simp only [Wr]
  rw [Jz (by omega), Jf]) [] (by simp)
 rw [this, Jbb Jdx, List.nil_append, folk_people hl hp h1 h2]
 ·rfl
 ·clear this
  have : ∀ (xs : List Ta), (∀ x ∈ xs, LikeS x) → (xs.flatMap Jdx).length ≤ 200 * xs.length := by
   intro xs
   induction xs with
   | nil => intro _; simp
   | cons x xs ih =>
    intro h
    have := Jee (h x (by simp))
    have := ih fun y hy => h y (by simp [hy])
    simp only [List.flatMap_cons, List.length_append, List.length_cons]
    omega
  have := this l h1
  omega
end
end Go.M

/- FaceTexts, in plain Lean: what the two readers read. Conditions: few octets. -/
namespace Go.M
open Go.Md Go.Pl
set_option linter.unusedVariables false
def Y2 (sg : Bool) : Nat → List (List UInt8) → Bool
 | _, [] => true
 | i, w :: ws => decide (nOk (sg && decide (2 ≤ i)) w) && Y2 sg (i + 1) ws
theorem Jfp {sg : Bool} {ws : List (List UInt8)} {k : Nat} (h : k < ws.length) : Y2 sg k (ws.drop k) = (decide (nOk (sg && decide (2 ≤ k)) ws[k]) && Y2 sg (k + 1) (ws.drop (k + 1))) := by
 rw [List.drop_eq_getElem_cons h]; rfl
theorem dec2 (k : Nat) : decide ((2 : Int) ≤ (k : Int)) = decide (2 ≤ k) := by rw [decide_eq_decide]; omega
theorem Jdu (ws : List (List UInt8)) (sg : Bool) (hl : ws.length ≤ 2000000) : Wp ws sg = some (if Y2 sg 0 ws = true then (ws.map Wh, true) else ([], false)) := by
 unfold Wp
 have := up2 (F := fun next1 s => Vq ws sg next1 s.1 s.2) ws.length (fun k l => some (if Y2 sg k (ws.drop k) = true then (l ++ (ws.drop k).map Wh, true) else ([], false))) (fun k l => l.length = k) (fun next k l hk hI ih => by
  simp only [Vq]
  rcases Nat.lt_or_ge k ws.length with h | h
  ·obtain ⟨v, h1, h2⟩ := wh_eq ws[k] (sg && decide (2 ≤ k))
   have e : J6 sg (Jq (Jcu ws[k] 7 (decide ((2 : Int) ≤ (k : Int)))) fun t25 => Ys (k : Int) l next t25.1 t25.2) (Jq (Jcu ws[k] 7 false) fun t25_2 => Ys (k : Int) l next t25_2.1 t25_2.2) = Ys (k : Int) l next v (decide (nOk (sg && decide (2 ≤ k)) ws[k])) := by
    cases sg
    ·rw [Jf]; simp only [Bool.false_and] at h1 ⊢; rw [h1, Jd]
    ·rw [Jh, dec2]; simp only [Bool.true_and] at h1 ⊢; rw [h1, Jd]
   rw [Qa (by omega), Jh, J5 h, Jd, e, Jfp h]
   unfold Ys
   by_cases hn : nOk (sg && decide (2 ≤ k)) ws[k]
   ·rw [Qa hn, Bool.not_true, Jf, Jb7 (by simp; omega), Jd, Qf (by omega), Jd, ih _ h (by simp [hI]), Bool.true_and, h2 hn, List.drop_eq_getElem_cons (l := ws) h, List.map_cons, List.append_assoc, List.singleton_append]
   ·rw [Jz hn, Bool.not_false, Jh, Bool.false_and]
    rfl
  ·have hk' : k = ws.length := by omega
   subst hk'
   rw [Jz (by omega), Jf, List.drop_length]
   simp [Y2]) [] rfl
 rw [this]
 simp
theorem list_eq (a : Tc) (ws : List (List UInt8)) (hl : ws.length ≤ 2000000) : Vp a ws = if Y2 false 0 ws = true then Yj a (ws.map Wh) else some (false, a) := by
 unfold Vp
 have := up2 (F := fun next2 s => Y7 a ws next2 s.1 s.2) ws.length (fun k l => if Y2 false k (ws.drop k) = true then Yj a (l ++ (ws.drop k).map Wh) else some (false, a)) (fun k l => l.length = k) (fun next k l hk hI ih => by
  simp only [Y7]
  rcases Nat.lt_or_ge k ws.length with h | h
  ·obtain ⟨v, h1, h2⟩ := pn_eq ws[k] false
   rw [Qa (by omega), Jh, J5 h, Jd, h1, Jd, Jfp h, Bool.false_and]
   by_cases hn : nOk false ws[k]
   ·rw [Qa hn]
    simp only [Bool.not_true, Jf, Bool.true_and]
    rw [Jb7 (by simp; omega), Jd, Qf (by omega), Jd, ih _ h (by simp [hI]), h2 hn, List.drop_eq_getElem_cons (l := ws) h, List.map_cons, List.append_assoc, List.singleton_append]
   ·rw [Jz hn]
    simp only [Bool.not_false, Jh, Bool.false_and]
    rfl
  ·have hk' : k = ws.length := by omega
   subst hk'
   rw [Jz (by omega), Jf, List.drop_length]
   simp [Y2]) [] rfl
 rw [this]
 simp
def mOf (ws : List (List UInt8)) (k : Nat) : Nat → Int := fun j => ((ws.take k).map Wh).getD j 0
theorem mOf_step {ws : List (List UInt8)} {k : Nat} (h : k < ws.length) : Jae (mOf ws k) k (Wh ws[k]) = mOf ws (k + 1) := by
 funext j
 unfold Jae mOf
 rw [List.take_succ_eq_append_getElem h, List.map_append, List.getD_eq_getElem?_getD, List.getD_eq_getElem?_getD]
 have hl : ((ws.take k).map Wh).length = k := by rw [List.length_map, List.length_take]; omega
 by_cases hj : j = k
 ·subst hj
  rw [if_pos rfl, List.getElem?_append_right (by omega), hl]
  simp
 ·rw [if_neg hj]
  rcases Nat.lt_or_ge j k with h1 | h1
  ·rw [List.getElem?_append_left (by omega)]
  ·rw [List.getElem?_eq_none (by omega), List.getElem?_eq_none (by rw [List.length_append, hl]; simp; omega)]
def mkL (ws : List (List UInt8)) : Ta := ⟨(ws.map Wh).getD 0 0, (ws.map Wh).getD 1 0, fun i => (ws.map Wh).getD (i + 2) 0⟩
theorem face_eq (a : Tc) (ws : List (List UInt8)) (hl : a.l_.length ≤ 2000000) : Uj a ws = if ws.length = 14 ∧ Y2 true 0 ws = true then some (true, ⟨a.l_ ++ [mkL ws], a.people_, a.want_⟩) else some (false, a) := by
 unfold Uj
 by_cases h14 : ws.length = 14
 ·rw [Jz (by omega), Jf]
  have := up2 (F := fun next2 s => Y5 a ws next2 s.1 s.2) ws.length (fun k m => if Y2 true k (ws.drop k) = true then Vl a (mOf ws 14) else some (false, a)) (fun k m => m = mOf ws k) (fun next k m hk hI ih => by
   simp only [Y5]
   rcases Nat.lt_or_ge k ws.length with h | h
   ·obtain ⟨v, h1, h2⟩ := pn_eq ws[k] (decide (2 ≤ k))
    rw [Qa (by omega), Jh, J5 h, Jd, dec2, h1, Jd, Jfp h, Bool.true_and]
    by_cases hn : nOk (decide (2 ≤ k)) ws[k]
    ·rw [Qa hn]
     simp only [Bool.not_true, Jf, Bool.true_and]
     rw [gIx_ok (by omega), Jd, Qf (by omega), Jd, Int.toNat_natCast, ih _ h (by rw [hI, h2 hn, mOf_step h])]
    ·rw [Jz hn]
     simp only [Bool.not_false, Jh, Bool.false_and]
     rfl
   ·have hk' : k = ws.length := by omega
    rw [Jz (by omega), Jf, hI, hk', List.drop_length, h14]
    simp [Y2]) (fun _ => 0) (by funext j; simp [mOf])
  rw [this]
  simp only [List.drop_zero, h14, true_and]
  by_cases ho : Y2 true 0 ws = true
  ·rw [if_pos ho, if_pos ho]
   unfold Vl
   rw [Jb7 (by simp; omega), Jd]
   have : mOf ws 14 = fun j => (ws.map Wh).getD j 0 := by
    funext j
    unfold mOf
    rw [List.take_of_length_le (by omega)]
   rw [this]
   rfl
  ·rw [if_neg ho, if_neg ho]
 ·rw [Qa (by omega), Jh, if_neg (fun h => h14 h.1)]
theorem person_eq (a : Tc) (s : List UInt8) (hs : s.length ≤ 2000000) (hl : a.people_.length ≤ 2000000) : ∃ v, Zt a s = some ((Js 32 s).2.2 && decide (nOk false (Js 32 s).1), ⟨a.l_, a.people_ ++ [⟨v, (Js 32 s).2.1, [], []⟩], 1⟩) ∧ (nOk false (Js 32 s).1 → v = Wh (Js 32 s).1) := by
 obtain ⟨v, h1, h2⟩ := pn_eq (Js 32 s).1 false
 refine ⟨v, ?_, h2⟩
 unfold Zt
 rw [Cut_eq (by omega), Jd, h1, Jd, Jb7 (by simp; omega), Jd]
 cases (Js 32 s).2.2 <;> rfl
def Vs (P : List Tb) : Tb := P.getD (P.length - 1) default
def Wz (P : List Tb) (p : Tb) : List Tb := P.set (P.length - 1) p
open Classical in
noncomputable def V7 (want : Int) (L : List Ta) (P : List Tb) (t : List UInt8) : Option (Int × List Ta × List Tb) :=
 if want = 0 ∧ (Js 32 t).1 = [102, 97, 99, 101] then if (Qb 32 t).tail.length = 14 ∧ Y2 true 0 (Qb 32 t).tail = true then some (0, L ++ [mkL (Qb 32 t).tail], P) else none
 else if (want = 0 ∨ want = 3) ∧ (Js 32 t).1 = [112, 101, 114, 115, 111, 110] then
  if (Js 32 (Js 32 t).2.1).2.2 = true ∧ nOk false (Js 32 (Js 32 t).2.1).1 then some (1, L, P ++ [⟨Wh (Js 32 (Js 32 t).2.1).1, (Js 32 (Js 32 t).2.1).2.1, [], []⟩]) else none
 else if want = 1 ∧ (Js 32 t).1 = [108, 105, 107, 101, 115] then if Y2 false 0 (Qb 32 t).tail = true then some (2, L, Wz P ⟨(Vs P).Id, (Vs P).Name, (Qb 32 t).tail.map Wh, (Vs P).Nots⟩) else none
 else if want = 2 ∧ (Js 32 t).1 = [110, 111, 116, 115] then if Y2 false 0 (Qb 32 t).tail = true then some (3, L, Wz P ⟨(Vs P).Id, (Vs P).Name, (Vs P).Likes, (Qb 32 t).tail.map Wh⟩) else none
 else none
theorem Jfa (t : List UInt8) (ht : t.length ≤ 1000000) : (Qb 32 t).length ≤ 1000001 ∧ (Qb 32 t).tail.length ≤ 1000000 := by
 have := splitL_len 32 t
 have := List.count_le_length (a := 32) (l := t)
 rw [List.length_tail]
 omega
theorem Jc3 (t : List UInt8) : Qd (Qb 32 t) 1 (Qb 32 t).length = some (Qb 32 t).tail ∧ Qk (Qb 32 t) 0 = some (Js 32 t).1 := by
 have h := Ve 32 t
 constructor
 ·rw [Uh (by rw [h]; simp; omega)]
  simp [List.drop_one]
 ·rw [h]; rfl
theorem list_j1 {L : List Ta} {P : List Tb} {want : Int} (hP : P ≠ []) (hl : P.length ≤ 2000000) (l : List Int) :
  Yj ⟨L, P, want⟩ l = if want = 1 then some (true, ⟨L, Wz P ⟨(Vs P).Id, (Vs P).Name, l, (Vs P).Nots⟩, 2⟩) else some (true, ⟨L, Wz P ⟨(Vs P).Id, (Vs P).Name, (Vs P).Likes, l⟩, 3⟩) := by
 have h0 : 0 < P.length := List.length_pos_iff.2 hP
 have e : (P.length : Int) - 1 = ((P.length - 1 : Nat) : Int) := by omega
 have hk : P.length - 1 < P.length := by omega
 unfold Yj
 show (Jq (gI ((P.length : Int) - 1)) fun t38 => Jq (Qk P t38) fun t39 => J6 (decide (want = 1)) (Jq (gSet P t38 (⟨t39.Id, t39.Name, l, t39.Nots⟩ : Tb)) fun l5 => some (true, (⟨L, l5, 2⟩ : Tc))) (Jq (gSet P t38 (⟨t39.Id, t39.Name, t39.Likes, l⟩ : Tb)) fun l5_2 => some (true, (⟨L, l5_2, 3⟩ : Tc)))) = _
 rw [Qf (by omega), Jd, e, J5 hk, Jd, Qr, Jd7 (by omega) (by omega), Jd7 (by omega) (by omega), Jd, Jd, Int.toNat_natCast, ← at_D hk]
 rfl
theorem line_eq {want : Int} {L : List Ta} {P : List Tb} (hP : want ≠ 0 → P ≠ []) (t : List UInt8) (ht : t.length ≤ 1000000) (hL : L.length ≤ 2000000) (hPl : P.length ≤ 2000000) (hw : want = 0 ∨ want = 1 ∨ want = 2 ∨ want = 3) :
  ∃ b r, Uf ⟨L, P, want⟩ t = some (b, r) ∧ ((∃ x, V7 want L P t = some x ∧ b = true ∧ r = ⟨x.2.1, x.2.2, x.1⟩) ∨ (V7 want L P t = none ∧ b = false)) := by
 have hc := Jgm 32 t
 have htl := (Jfa t ht).2
 unfold Uf
 rw [Cut_eq (by omega), Jd, Split_eq 32 t ht, Jd, (Jc3 t).1, Jd]
 obtain ⟨v, p1, p2⟩ := person_eq ⟨L, P, want⟩ (Js 32 t).2.1 (by omega) hPl
 have hlist := list_eq ⟨L, P, want⟩ (Qb 32 t).tail (by omega)
 have hface := face_eq ⟨L, P, want⟩ (Qb 32 t).tail hL
 have person : ∀ (hw : want = 0 ∨ want = 3) (hf : ¬ (want = 0 ∧ (Js 32 t).1 = [102, 97, 99, 101])) (hh : (Js 32 t).1 = [112, 101, 114, 115, 111, 110]), ∃ b r, (Jq (Zt ⟨L, P, want⟩ (Js 32 t).2.1) fun t50 => some (t50.1, t50.2)) = some (b, r) ∧ ((∃ x, V7 want L P t = some x ∧ b = true ∧ r = ⟨x.2.1, x.2.2, x.1⟩) ∨ (V7 want L P t = none ∧ b = false)) := by
  intro hw hf hh
  rw [p1, Jd]
  refine ⟨_, _, rfl, ?_⟩
  unfold V7
  rw [if_neg hf, if_pos ⟨hw, hh⟩]
  by_cases h : (Js 32 (Js 32 t).2.1).2.2 = true ∧ nOk false (Js 32 (Js 32 t).2.1).1
  ·rw [if_pos h]
   exact .inl ⟨_, rfl, by rw [h.1, Qa h.2]; rfl, by rw [p2 h.2]⟩
  ·rw [if_neg h]
   refine .inr ⟨rfl, ?_⟩
   show ((Js 32 (Js 32 t).2.1).2.2 && decide (nOk false (Js 32 (Js 32 t).2.1).1)) = false
   by_cases h1 : (Js 32 (Js 32 t).2.1).2.2 = true
   ·rw [Jz (fun h2 => h ⟨h1, h2⟩), Bool.and_false]
   ·rw [Bool.eq_false_iff.2 h1, Bool.false_and]
 by_cases h0 : want = 0
 ·rw [Qa h0, Jh]
  by_cases hf : (Js 32 t).1 = [102, 97, 99, 101]
  ·rw [Qa hf]
   unfold Yk
   rw [Jh, hface]
   unfold V7
   rw [if_pos (show want = 0 ∧ (Js 32 t).1 = [102, 97, 99, 101] from ⟨h0, hf⟩)]
   by_cases h : (Qb 32 t).tail.length = 14 ∧ Y2 true 0 (Qb 32 t).tail = true
   ·rw [if_pos h, if_pos h, Jd]
    exact ⟨_, _, rfl, .inl ⟨_, rfl, rfl, by rw [h0]⟩⟩
   ·rw [if_neg h, if_neg h, Jd]
    exact ⟨_, _, rfl, .inr ⟨rfl, rfl⟩⟩
  ·rw [Jz hf]
   unfold Yk
   rw [Jf, show (decide ((⟨L, P, want⟩ : Tc).want_ = 0)) = true from Qa h0, Jh]
   unfold Xu
   by_cases hh : (Js 32 t).1 = [112, 101, 114, 115, 111, 110]
   ·rw [Qa hh, Jh]
    exact person (.inl h0) (fun h => hf h.2) hh
   ·rw [Jz hh, Jf, show (decide ((⟨L, P, want⟩ : Tc).want_ = 1)) = false from Jz (by show ¬ want = 1; omega), Jf]
    unfold Xw
    rw [Jf, show (decide ((⟨L, P, want⟩ : Tc).want_ = 2)) = false from Jz (by show ¬ want = 2; omega), Jf]
    refine ⟨_, _, rfl, .inr ⟨?_, rfl⟩⟩
    unfold V7
    rw [if_neg (fun h => hf h.2), if_neg (fun h => hh h.2), if_neg (fun h => by omega), if_neg (fun h => by omega)]
 ·rw [Jz h0, Jf]
  unfold Yk
  rw [Jf, show (decide ((⟨L, P, want⟩ : Tc).want_ = 0)) = false from Jz h0, Jf]
  by_cases h3 : want = 3
  ·rw [show (decide ((⟨L, P, want⟩ : Tc).want_ = 3)) = true from Qa h3, Jh]
   unfold Xu
   by_cases hh : (Js 32 t).1 = [112, 101, 114, 115, 111, 110]
   ·rw [Qa hh, Jh]
    exact person (.inr h3) (fun h => h0 h.1) hh
   ·rw [Jz hh, Jf, show (decide ((⟨L, P, want⟩ : Tc).want_ = 1)) = false from Jz (by show ¬ want = 1; omega), Jf]
    unfold Xw
    rw [Jf, show (decide ((⟨L, P, want⟩ : Tc).want_ = 2)) = false from Jz (by show ¬ want = 2; omega), Jf]
    refine ⟨_, _, rfl, .inr ⟨?_, rfl⟩⟩
    unfold V7
    rw [if_neg (fun h => h0 h.1), if_neg (fun h => hh h.2), if_neg (fun h => by omega), if_neg (fun h => by omega)]
  ·rw [show (decide ((⟨L, P, want⟩ : Tc).want_ = 3)) = false from Jz h3, Jf]
   unfold Xu
   rw [Jf]
   have hPn := hP h0
   by_cases h1 : want = 1
   ·rw [show (decide ((⟨L, P, want⟩ : Tc).want_ = 1)) = true from Qa h1, Jh]
    unfold Xw
    by_cases hh : (Js 32 t).1 = [108, 105, 107, 101, 115]
    ·rw [Qa hh, Jh, Jh]
     unfold V7
     rw [if_neg (fun h => h0 h.1), if_neg (fun h => by omega), if_pos ⟨h1, hh⟩, hlist]
     by_cases ho : Y2 false 0 (Qb 32 t).tail = true
     ·rw [if_pos ho, if_pos ho, list_j1 hPn hPl, if_pos h1, Jd]
      exact ⟨_, _, rfl, .inl ⟨_, rfl, rfl, rfl⟩⟩
     ·rw [if_neg ho, if_neg ho, Jd]
      exact ⟨_, _, rfl, .inr ⟨rfl, rfl⟩⟩
    ·rw [Jz hh, Jf, show (decide ((⟨L, P, want⟩ : Tc).want_ = 2)) = false from Jz (by show ¬ want = 2; omega), Jf]
     refine ⟨_, _, rfl, .inr ⟨?_, rfl⟩⟩
     unfold V7
     rw [if_neg (fun h => h0 h.1), if_neg (fun h => by omega), if_neg (fun h => hh h.2), if_neg (fun h => by omega)]
   ·have h2 : want = 2 := by omega
    rw [show (decide ((⟨L, P, want⟩ : Tc).want_ = 1)) = false from Jz h1, Jf]
    unfold Xw
    rw [Jf, show (decide ((⟨L, P, want⟩ : Tc).want_ = 2)) = true from Qa h2, Jh]
    by_cases hh : (Js 32 t).1 = [110, 111, 116, 115]
    ·rw [Qa hh, Jh]
     unfold V7
     rw [if_neg (fun h => h0 h.1), if_neg (fun h => by omega), if_neg (fun h => h1 h.1), if_pos ⟨h2, hh⟩, hlist]
     by_cases ho : Y2 false 0 (Qb 32 t).tail = true
     ·rw [if_pos ho, if_pos ho, list_j1 hPn hPl, if_neg h1, Jd]
      exact ⟨_, _, rfl, .inl ⟨_, rfl, rfl, rfl⟩⟩
     ·rw [if_neg ho, if_neg ho, Jd]
      exact ⟨_, _, rfl, .inr ⟨rfl, rfl⟩⟩
    ·rw [Jz hh, Jf]
     refine ⟨_, _, rfl, .inr ⟨?_, rfl⟩⟩
     unfold V7
     rw [if_neg (fun h => h0 h.1), if_neg (fun h => by omega), if_neg (fun h => h1 h.1), if_neg (fun h => hh h.2)]
end Go.M

/- FaceTexts, in plain Lean: the two readers read alike. Conditions: few octets. -/
namespace Go.M
open Go.Md Go.Pl
set_option linter.unusedVariables false
set_option maxRecDepth 20000
def Jby (x : List UInt8) : List (List UInt8) := if (Z3 10 x).getLast? = some [] then (Z3 10 x).dropLast else Z3 10 x
theorem splitA_ne (c : UInt8) (s : List UInt8) : Z3 c s ≠ [] := by
 rw [Ja6]; split <;> simp
theorem lines_nil : Jby [] = [] := rfl
theorem lines_yes {x : List UInt8} (h : (Js 10 x).2.2 = true) : Jby x = ((Js 10 x).1 ++ [10]) :: Jby (Js 10 x).2.1 := by
 unfold Jby
 rw [Ja6 10 x, if_pos h]
 have hn := splitA_ne 10 (Js 10 x).2.1
 cases hs : Z3 10 (Js 10 x).2.1 with
 | nil => exact absurd hs hn
 | cons y ys =>
  rw [List.getLast?_cons_cons, List.dropLast_cons_cons]
  split <;> rfl
theorem lines_no {x : List UInt8} (h0 : x ≠ []) (h : (Js 10 x).2.2 = false) : Jby x = [x] := by
 unfold Jby
 rw [Ja6 10 x, if_neg (show ¬ (Js 10 x).2.2 = true by simp [h]), if_neg (by simpa using h0)]
theorem lines_len (x : List UInt8) : (Jby x).length ≤ x.length + 1 := by
 have h1 := Jgw 10 x
 have h2 := List.count_le_length (a := 10) (l := x)
 unfold Jby
 split
 ·rw [List.length_dropLast]; omega
 ·omega
theorem cutS_out {c : UInt8} {s : List UInt8} (h : (Js c s).2.2 = false) : c ∉ s := by
 induction s with
 | nil => simp
 | cons b l ih =>
  rw [Jd5] at h
  by_cases hb : b = c
  ·rw [if_pos hb] at h; cases h
  ·rw [if_neg hb] at h
   intro hc
   rcases List.mem_cons.1 hc with h1 | h1
   ·exact hb h1.symm
   ·exact ih h h1
theorem Jhk (a : List UInt8) (ha : a.length ≤ 2000000) : Xf (a ++ [10]) [10] = some (a, true) := by
 have e1 : (([10] : List UInt8).length : Int) = 1 := rfl
 have e2 : ((a ++ [10] : List UInt8).length : Int) = (a.length : Int) + 1 := by simp
 unfold Xf Xn Q8
 rw [Qa (by rw [e1, e2]; omega), Jh, Qf (by rw [e1, e2]; omega), Jd, Uh (by rw [e1, e2]; omega), Jd, Jd, e1, e2, show ((a.length : Int) + 1 - 1).toNat = a.length from by omega, List.drop_left' rfl, Qa rfl, Bool.not_true, Jf, Jd, Jcz (by rw [e2]; omega), Jd, Jd, show ((a.length : Int) + 1 - 1).toNat = a.length from by omega, List.take_left' rfl]
theorem CutSuffix_no {t : List UInt8} (h : (Js 10 t).2.2 = false) (ht : t.length ≤ 2000000) : Xf t [10] = some (t, false) := by
 have e1 : (([10] : List UInt8).length : Int) = 1 := rfl
 have hs : Q8 t [10] = some false := by
  unfold Q8
  by_cases h0 : t = []
  ·subst h0; rw [Jz (by decide), Jf]
  ·have := List.length_pos_iff.2 h0
   rw [Qa (by rw [e1]; omega), Jh, Qf (by rw [e1]; omega), Jd, Uh (by rw [e1]; omega), Jd, Jz]
   intro e
   have : (10 : UInt8) ∈ t := List.mem_of_mem_drop (i := ((t.length : Int) - (([10] : List UInt8).length : Int)).toNat) (by rw [e]; simp)
   exact cutS_out h this
 unfold Xf Xn
 rw [hs, Jd, Bool.not_false, Jh, Jd]
def m3 (want : Int) : Int := if want = 3 then 0 else want
abbrev RS := Int × Int × Int × List Tb × List Ta
abbrev RR := List Ta × List Tb × Int × Int
theorem Jel {next : RS → Option RR} {x7 x8 a b : Int} {P : List Tb} {L : List Ta} (h : 0 ≤ x8 ∧ x8 ≤ 2000000) : Xd next x7 x8 false a b P L = some ([], [], x8 + 1, 8) := by
 unfold Xd
 rw [Bool.not_false, Jh, Qf (by omega), Jd]
theorem j5_yes {next : RS → Option RR} {x7 x8 a b : Int} {P : List Tb} {L : List Ta} (h : 0 ≤ b ∧ b ≤ 2000000) : Xd next x7 x8 true a b P L = next (x7, a, b + 1, P, L) := by
 unfold Xd
 rw [Bool.not_true, Jf, Qf (by omega), Jd]
theorem j7_eq {next : RS → Option RR} {x7 a b : Int} {P : List Tb} {L : List Ta} (ok : Bool) (hx : x7 = 1 ∨ x7 = 2) : Wn x7 a b L next ok P = Xd next (if x7 = 1 then 2 else 0) b ok a b P L := by
 unfold Wn
 rw [Qf (by omega), Jd, gRem_nn (by omega) (by omega), Jd]
 rcases hx with rfl | rfl <;> rfl
theorem j8_no {next : RS → Option RR} {x7 a b : Int} {P : List Tb} {L : List Ta} {t58 : List Int × Bool} (hx : x7 = 1 ∨ x7 = 2) (h : 0 ≤ b ∧ b ≤ 2000000) : X1 x7 a b P L next t58 false = some ([], [], b + 1, 8) := by
 unfold X1 Ur
 rw [Jf, Jf, Jf, j7_eq false hx, Jel h]
theorem j6_yes {next : RS → Option RR} {x7 a b : Int} {P : List Tb} {L : List Ta} {t58 : List Int × Bool} (hx : x7 = 1 ∨ x7 = 2) (h : 0 ≤ b ∧ b ≤ 2000000) (hP : P ≠ []) (hl : P.length ≤ 2000000) :
  X1 x7 a b P L next t58 true = next (if x7 = 1 then 2 else 0, a, b + 1, if x7 = 1 then Wz P ⟨(Vs P).Id, (Vs P).Name, t58.1, (Vs P).Nots⟩ else Wz P ⟨(Vs P).Id, (Vs P).Name, (Vs P).Likes, t58.1⟩, L) := by
 have h0 : 0 < P.length := List.length_pos_iff.2 hP
 have e : (P.length : Int) - 1 = ((P.length - 1 : Nat) : Int) := by omega
 have hk : P.length - 1 < P.length := by omega
 unfold X1 Ur
 have hs : ∀ p, gSet P ((P.length - 1 : Nat) : Int) p = some (Wz P p) := fun p => by rw [Jd7 (by omega) (by omega), Int.toNat_natCast]; rfl
 have hg : Qk P ((P.length - 1 : Nat) : Int) = some (Vs P) := by rw [J5 hk, ← at_D hk]; rfl
 rw [Jh, Qf (by omega), Jd, e]
 simp only [Jd, hs, hg, Jh]
 rw [j7_eq true hx, j7_eq true hx, j5_yes h, j5_yes h, Qr]
 rcases hx with rfl | rfl <;> rfl
theorem mk_eq {ws : List (List UInt8)} (h : ws.length = 14) : W0 ((ws.map Wh).drop 2) = fun i => (ws.map Wh).getD (i + 2) 0 := by
 funext i
 unfold W0
 rw [List.getD_eq_getElem?_getD, List.getD_eq_getElem?_getD, List.getElem?_drop, Nat.add_comm]
 rfl
theorem rline_eq {want : Int} {L : List Ta} {P : List Tb} (hP : P = [] ↔ want = 0) {lines : List (List UInt8)} {k : Nat} (hk : k < lines.length) (hk2 : k ≤ 2000000) {t : List UInt8} {en : Bool} (hc : Xf lines[k] [10] = some (t, en)) (ht : t.length ≤ 1000000)
  (hL : L.length ≤ 2000000) (hPl : P.length ≤ 2000000) (hw : want = 0 ∨ want = 1 ∨ want = 2 ∨ want = 3) (next : RS → Option RR) :
  (∀ x, en = true → V7 want L P t = some x → Q3 lines next (m3 want) (lines.length : Int) (k : Int) P L = next (m3 x.1, (lines.length : Int), (k : Int) + 1, x.2.2, x.2.1)) ∧
  (en = false ∨ V7 want L P t = none → Q3 lines next (m3 want) (lines.length : Int) (k : Int) P L = some ([], [], (k : Int) + 1, 8)) := by
 have htl := (Jfa t ht).2
 have hb : 0 ≤ (k : Int) ∧ (k : Int) ≤ 2000000 := by omega
 have hhead : Q3 lines next (m3 want) (lines.length : Int) (k : Int) P L = J6 (decide (0 < m3 want)) (Jq (Wp (Qb 32 t).tail false) fun t58 =>
   J6 en (J6 t58.2 (Jq (Qk ([[], [108, 105, 107, 101, 115], [110, 111, 116, 115]] : List (List UInt8)) (m3 want)) fun t71 => X1 (m3 want) (lines.length : Int) (k : Int) P L next t58 (decide ((Js 32 t).1 = t71))) (X1 (m3 want) (lines.length : Int) (k : Int) P L next t58 false)) (X1 (m3 want) (lines.length : Int) (k : Int) P L next t58 false))
   (J6 (decide ((Js 32 t).1 = [102, 97, 99, 101])) (Zj (m3 want) (lines.length : Int) (k : Int) P L next (t, en) (Qb 32 t) (decide ((P.length : Int) = 0))) (Zj (m3 want) (lines.length : Int) (k : Int) P L next (t, en) (Qb 32 t) false)) := by
  unfold Q3
  rw [Qa (by omega), Jh, J5 hk, Jd, hc, Jd, Split_eq 32 t ht, Jd]
  simp only [(Jc3 t).1, (Jc3 t).2, Jd]
 rw [hhead]
 by_cases h12 : want = 1 ∨ want = 2
 ·have hm : m3 want = want := if_neg (by omega)
  have hPn : P ≠ [] := fun e => by have := hP.1 e; omega
  rw [hm, Qa (by omega), Jh, Jdu _ _ (by omega), Jd]
  have hat : Qk ([[], [108, 105, 107, 101, 115], [110, 111, 116, 115]] : List (List UInt8)) want = some (if want = 1 then [108, 105, 107, 101, 115] else [110, 111, 116, 115]) := by
   rcases h12 with rfl | rfl <;> rfl
  have hS : V7 want L P t = if (Js 32 t).1 = (if want = 1 then [108, 105, 107, 101, 115] else [110, 111, 116, 115]) ∧ Y2 false 0 (Qb 32 t).tail = true then some (want + 1, L, if want = 1 then Wz P ⟨(Vs P).Id, (Vs P).Name, (Qb 32 t).tail.map Wh, (Vs P).Nots⟩ else Wz P ⟨(Vs P).Id, (Vs P).Name, (Vs P).Likes, (Qb 32 t).tail.map Wh⟩) else none := by
   unfold V7
   rw [if_neg (fun h => by omega), if_neg (fun h => by omega)]
   rcases h12 with rfl | rfl
   ·by_cases hh : (Js 32 t).1 = [108, 105, 107, 101, 115]
    ·by_cases ho : Y2 false 0 (Qb 32 t).tail = true
     ·rw [if_pos ⟨rfl, hh⟩, if_pos ho, if_pos ⟨hh, ho⟩]; rfl
     ·rw [if_pos ⟨rfl, hh⟩, if_neg ho, if_neg (fun h => ho h.2)]
    ·rw [if_neg (fun h => hh h.2), if_neg (fun h => by omega), if_neg (fun h => hh h.1)]
   ·by_cases hh : (Js 32 t).1 = [110, 111, 116, 115]
    ·by_cases ho : Y2 false 0 (Qb 32 t).tail = true
     ·rw [if_neg (fun h => by omega), if_pos ⟨rfl, hh⟩, if_pos ho, if_pos ⟨hh, ho⟩]; rfl
     ·rw [if_neg (fun h => by omega), if_pos ⟨rfl, hh⟩, if_neg ho, if_neg (fun h => ho h.2)]
    ·rw [if_neg (fun h => by omega), if_neg (fun h => hh h.2), if_neg (fun h => hh h.1)]
  rw [hS, hat, Jd]
  by_cases hok : Y2 false 0 (Qb 32 t).tail = true
  ·rw [if_pos hok]
   by_cases hh : (Js 32 t).1 = (if want = 1 then [108, 105, 107, 101, 115] else [110, 111, 116, 115])
   ·rw [if_pos ⟨hh, hok⟩, Qa hh]
    constructor
    ·intro x he hx
     cases hx
     rw [he, Jh]
     dsimp only
     rw [Jh, j6_yes h12 hb hPn hPl]
     rcases h12 with rfl | rfl <;> rfl
    ·rintro (he | hn)
     ·rw [he, Jf, j8_no h12 hb]
     ·cases hn
   ·rw [if_neg (fun h => hh h.1), Jz hh]
    refine ⟨fun x _ hx => (by cases hx), fun _ => ?_⟩
    cases en
    ·rw [Jf, j8_no h12 hb]
    ·rw [Jh]; dsimp only; rw [Jh, j8_no h12 hb]
  ·rw [if_neg hok, if_neg (fun h => hok h.2)]
   refine ⟨fun x _ hx => (by cases hx), fun _ => ?_⟩
   cases en
   ·rw [Jf, j8_no h12 hb]
   ·rw [Jh]; dsimp only; rw [Jf, j8_no h12 hb]
 ·have hm : m3 want = 0 := by unfold m3; split <;> omega
  rw [hm, Jz (by omega), Jf]
  by_cases hf : (Js 32 t).1 = [102, 97, 99, 101]
  ·rw [Qa hf, Jh]
   by_cases h0 : want = 0
   ·have hP0 := hP.2 h0
    subst hP0
    have hS : V7 want L [] t = if (Qb 32 t).tail.length = 14 ∧ Y2 true 0 (Qb 32 t).tail = true then some (0, L ++ [mkL (Qb 32 t).tail], []) else none := by
     unfold V7
     rw [if_pos (show want = 0 ∧ (Js 32 t).1 = [102, 97, 99, 101] from ⟨h0, hf⟩)]
    rw [hS]
    unfold Zj
    rw [show (decide (((([] : List Tb).length : Nat) : Int) = 0)) = true from rfl, Jh, (Jc3 t).1, Jd, Jdu _ _ (by omega), Jd]
    by_cases hok : Y2 true 0 (Qb 32 t).tail = true
    ·rw [if_pos hok]
     dsimp only
     rw [Jh]
     by_cases h14 : (Qb 32 t).tail.length = 14
     ·rw [if_pos ⟨h14, hok⟩, Qa (by rw [List.length_map]; omega)]
      constructor
      ·intro x he hx
       cases hx
       rw [he, Jh]
       unfold Xz
       rw [Jh, show (0 : Int) = ((0 : Nat) : Int) from rfl, J5 (by rw [List.length_map]; omega), Jd, show (1 : Int) = ((1 : Nat) : Int) from rfl, J5 (by rw [List.length_map]; omega), Jd, Uh (by rw [List.length_map]; omega), Jd, gIf_ok (by rw [List.length_drop, List.length_map]; omega), Jd, Jb7 (by simp; omega), Jd, j5_yes hb]
       have : (⟨((Qb 32 t).tail.map Wh)[0]'(by rw [List.length_map]; omega), ((Qb 32 t).tail.map Wh)[1]'(by rw [List.length_map]; omega), W0 (((Qb 32 t).tail.map Wh).drop (2 : Int).toNat)⟩ : Ta) = mkL (Qb 32 t).tail := by
        unfold mkL
        rw [show (2 : Int).toNat = 2 from rfl, mk_eq h14, List.getD_eq_getElem?_getD, List.getD_eq_getElem?_getD, List.getElem?_eq_getElem (by rw [List.length_map]; omega), List.getElem?_eq_getElem (by rw [List.length_map]; omega)]
        rfl
       rw [this]
       rfl
      ·rintro (he | hn)
       ·rw [he, Jf]
        unfold Xz
        rw [Jf, Jel hb]
       ·cases hn
     ·rw [if_neg (fun h => h14 h.1), Jz (by rw [List.length_map]; omega)]
      refine ⟨fun x _ hx => (by cases hx), fun _ => ?_⟩
      have : Xz 0 (lines.length : Int) (k : Int) [] L next ((Qb 32 t).tail.map Wh, true) false = some ([], [], (k : Int) + 1, 8) := by unfold Xz; rw [Jf, Jel hb]
      cases en
      ·rw [Jf, this]
      ·rw [Jh, this]
    ·rw [if_neg hok, if_neg (fun h => hok h.2)]
     refine ⟨fun x _ hx => (by cases hx), fun _ => ?_⟩
     have : Xz 0 (lines.length : Int) (k : Int) [] L next ([], false) false = some ([], [], (k : Int) + 1, 8) := by unfold Xz; rw [Jf, Jel hb]
     cases en
     ·rw [Jf, this]
     ·rw [Jh]; dsimp only; rw [Jf, this]
   ·have hPn : P ≠ [] := fun e => h0 (hP.1 e)
    have hS : V7 want L P t = none := by
     unfold V7
     rw [if_neg (fun h => h0 h.1), if_neg (fun h => by rw [hf] at h; exact absurd h.2 (by decide)), if_neg (fun h => by omega), if_neg (fun h => by omega)]
    rw [hS]
    refine ⟨fun x _ hx => (by cases hx), fun _ => ?_⟩
    have := List.length_pos_iff.2 hPn
    unfold Zj
    rw [Jz (by omega), Jf, (Jc3 t).2, Jd, Jz (by rw [hf]; decide), Jf, Jel hb]
  ·rw [Jz hf, Jf]
   unfold Zj
   rw [Jf, (Jc3 t).2, Jd]
   by_cases hh : (Js 32 t).1 = [112, 101, 114, 115, 111, 110]
   ·have hS : V7 want L P t = if (Js 32 (Js 32 t).2.1).2.2 = true ∧ nOk false (Js 32 (Js 32 t).2.1).1 then some (1, L, P ++ [⟨Wh (Js 32 (Js 32 t).2.1).1, (Js 32 (Js 32 t).2.1).2.1, [], []⟩]) else none := by
     unfold V7
     rw [if_neg (fun h => hf h.2), if_pos ⟨by omega, hh⟩]
    rw [hS, Qa hh, Jh]
    have hc1 := Ve 32 t
    by_cases hcc : (Js 32 (Js 32 t).2.1).2.2 = true
    ·have hc2 := Ve 32 (Js 32 t).2.1
     have h1 : (Js 32 t).2.2 = true := by
      cases h : (Js 32 t).2.2 with
      | true => rfl
      | false => rw [Jff h] at hcc; cases hcc
     rw [if_pos h1] at hc1
     rw [if_pos hcc] at hc2
     rw [hc2] at hc1
     have hne := split_ne 32 (Js 32 (Js 32 t).2.1).2.1
     have hlen : 3 ≤ (Qb 32 t).length := by
      rw [hc1]
      have := List.length_pos_iff.2 hne
      simp only [List.length_cons]
      omega
     have hat : Qk (Qb 32 t) 1 = some (Js 32 (Js 32 t).2.1).1 := by rw [hc1]; rfl
     have hdrop : (Qb 32 t).drop 2 = Qb 32 (Js 32 (Js 32 t).2.1).2.1 := by rw [hc1]; rfl
     obtain ⟨v, w1, w2⟩ := wh_eq (Js 32 (Js 32 t).2.1).1 false
     have hl1 := Jgm 32 t
     have hl2 := Jgm 32 (Js 32 t).2.1
     have hj : ∀ ok : Bool, W4 (lines.length : Int) (k : Int) P L next (Qb 32 t) (v, decide (nOk false (Js 32 (Js 32 t).2.1).1)) ok = Xd next 1 (k : Int) ok (lines.length : Int) (k : Int) (P ++ [⟨v, (Js 32 (Js 32 t).2.1).2.1, [], []⟩]) L := by
      intro ok
      unfold W4
      rw [Uh (by omega), Jd, show (2 : Int).toNat = 2 from rfl, hdrop]
      have hs := (Jfa (Js 32 (Js 32 t).2.1).2.1 (by omega)).1
      have hg : gJoin (Qb 32 (Js 32 (Js 32 t).2.1).2.1) [32] = some (Js 32 (Js 32 t).2.1).2.1 := by
       unfold gJoin
       rw [if_pos ⟨by omega, by rw [Jgu]; omega⟩, Jgu]
      rw [hg, Jd, Jb7 (by simp; omega), Jd]
     rw [Qa (by omega), Jh, hat, Jd, w1, Jd]
     simp only [hj]
     by_cases hok : nOk false (Js 32 (Js 32 t).2.1).1
     ·rw [if_pos ⟨hcc, hok⟩, Qa hok]
      constructor
      ·intro x he hx
       cases hx
       rw [he, Jh, j5_yes hb, w2 hok]
       rfl
      ·rintro (he | hn)
       ·rw [he, Jf, Jel hb]
       ·cases hn
     ·rw [if_neg (fun h => hok h.2), Jz hok]
      refine ⟨fun x _ hx => (by cases hx), fun _ => ?_⟩
      cases en
      ·rw [Jf, Jel hb]
      ·rw [Jh, Jel hb]
    ·rw [if_neg (fun h => hcc h.1)]
     refine ⟨fun x _ hx => (by cases hx), fun _ => ?_⟩
     have hlen : ¬ 3 ≤ ((Qb 32 t).length : Int) := by
      have hc2 := Ve 32 (Js 32 t).2.1
      rw [if_neg hcc] at hc2
      rw [hc1, hc2]
      split <;> simp
     rw [Jz hlen, Jf, Jel hb]
   ·have hS : V7 want L P t = none := by
     unfold V7
     rw [if_neg (fun h => hf h.2), if_neg (fun h => hh h.2), if_neg (fun h => by omega), if_neg (fun h => by omega)]
    rw [hS, Jz hh, Jf, Jel hb]
    exact ⟨fun x _ hx => (by cases hx), fun _ => rfl⟩
end Go.M

/- FaceTexts, in plain Lean: the law. Conditions: sizes of what a machine holds. -/
namespace Go.M
open Go.Md Go.Pl
set_option linter.unusedVariables false
set_option maxRecDepth 20000
theorem faults {l : List Ta} {ps : List Tb} (hl : l.length ≤ 9223372036854775000) (hn : ps.length ≤ 9223372036854775000) (hsz : ∀ p ∈ ps, PSz p) :
  ∃ e, Qj l ps = some e ∧ (∀ {ρ : Type} (J : Int → Option ρ), (Jq (Ud l) fun f => J6 (decide (f = 0)) (Jq (Wo l ps) fun g => J g) (J f)) = J e) ∧ (e = 0 → l.length ≤ 300 ∧ Vh (Jej l) l.length 0 = 0 ∧ Good l ∧ Right l ps) := by
 have h1 := check_eq l (by omega)
 have h2 := likes_eq l (by omega)
 generalize hc : (if 300 < l.length then (4 : Int) else Vh (Jej l) l.length 0) = c at h1 h2
 by_cases h0 : c = 0
 ·subst h0
  have hlen : ¬ 300 < l.length := fun h => by rw [if_pos h] at hc; cases hc
  rw [if_neg hlen] at hc
  have hg := good_of l (by omega) hc
  obtain ⟨e, p1, p2, p3⟩ := people_eq hg ps hsz hn
  obtain ⟨e', q1, q2⟩ := check_right hg h1 ps hsz hn
  have p4 : Qj l ps = some e := by
   unfold Qj
   rw [h1, Jd, Jz (by omega), Jf, p3]
  have he : e = e' := Option.some.inj (p4.symm.trans q1)
  refine ⟨e, p4, fun J => ?_, fun h => ⟨by omega, hc, hg, q2.1 (he ▸ h)⟩⟩
  rw [h2, Jd, Qa rfl, Jh, p2, Jd]
 ·refine ⟨c, ?_, fun J => ?_, fun h => absurd h h0⟩
  ·unfold Qj
   rw [h1, Jd, Qa h0, Jh]
  ·rw [h2, Jd, Jz h0, Jf]
theorem like_small {l : List Ta} (hl : l.length ≤ 300) (hc : Vh (Jej l) l.length 0 = 0) (hg : Good l) : ∀ x ∈ l, (1 ≤ x.Id ∧ x.Id ≤ 1000000) ∧ LikeS x := by
 intro x hx
 obtain ⟨j, hj, rfl⟩ := List.getElem_of_mem hx
 have h0 := Jbs hc j (Nat.zero_le _) (by omega)
 unfold Jej at h0
 rw [at_D hj] at h0
 split at h0
 ·cases h0
 ·rename_i h
  have h1 : (1 ≤ l[j].Id ∧ l[j].Id ≤ 1000000) ∧ (1 ≤ l[j].Photo ∧ l[j].Photo ≤ 1000000) := by
   refine Classical.byContradiction fun e => h ?_
   by_cases h2 : 1 ≤ l[j].Id ∧ l[j].Id ≤ 1000000
   ·exact .inr fun h3 => e ⟨h2, h3⟩
   ·exact .inl h2
  refine ⟨h1.1, ⟨⟨by omega, by omega⟩, ⟨by omega, by omega⟩, fun n hn => ?_⟩⟩
  obtain ⟨i, hi, rfl⟩ := List.mem_map.1 hn
  have := vecF_ok (hg.vec _ hx) i (List.mem_range.1 hi)
  exact ⟨by omega, by omega⟩
theorem ids_small {l : List Ta} (h : ∀ x ∈ l, (1 ≤ x.Id ∧ x.Id ≤ 1000000) ∧ LikeS x) {ids : List Int} (hi : IdsOk l ids) : ∀ n ∈ ids, Jat n := by
 intro n hn
 obtain ⟨x, hx, rfl⟩ := List.mem_map.1 (has_mem.1 (hi.all n hn))
 exact (h x hx).2.id
theorem person_small {l : List Ta} (h : ∀ x ∈ l, (1 ≤ x.Id ∧ x.Id ≤ 1000000) ∧ LikeS x) (hg : Good l) {ps : List Tb} (hr : Right l ps) : ∀ p ∈ ps, PersonS p := by
 intro p hp
 have hok := hr.all p hp
 have hs := right_sz hg hr p hp
 have ht := hok.title
 unfold Jcr at ht
 rw [Bool.and_eq_true, decide_eq_true_iff] at ht
 exact ⟨⟨by have := hok.idr; omega, by have := hok.idr; omega⟩, ht.1.2, ids_small h hok.likes, ids_small h hok.nots, hs.1, hs.2⟩
def PB (P : List Tb) : Prop := ∀ p ∈ P, p.Likes.length ≤ 2000000 ∧ p.Nots.length ≤ 2000000
theorem last_mem {P : List Tb} (h : P ≠ []) : Vs P ∈ P := by
 have h0 : 0 < P.length := List.length_pos_iff.2 h
 unfold Vs
 rw [at_D (show P.length - 1 < P.length by omega)]
 exact List.getElem_mem _
theorem set_ne {P : List Tb} (h : P ≠ []) (p : Tb) : Wz P p ≠ [] := by
 intro e
 have := congrArg List.length e
 unfold Wz at this
 rw [List.length_set] at this
 exact h (List.length_eq_zero_iff.1 this)
theorem set_PB {P : List Tb} (h : PB P) {p : Tb} (hp : p.Likes.length ≤ 2000000 ∧ p.Nots.length ≤ 2000000) : PB (Wz P p) := by
 intro q hq
 rcases List.mem_or_eq_of_mem_set hq with h1 | h1
 ·exact h q h1
 ·rw [h1]; exact hp
theorem lineS_ok {want : Int} {L : List Ta} {P : List Tb} (hP : want ≠ 0 → P ≠ []) (hb : PB P) (t : List UInt8) (ht : t.length ≤ 1000000) {x : Int × List Ta × List Tb} (h : V7 want L P t = some x) (hP0 : P = [] ↔ want = 0) :
  (x.1 = 0 ∨ x.1 = 1 ∨ x.1 = 2 ∨ x.1 = 3) ∧ (x.2.2 = [] ↔ x.1 = 0) ∧ x.2.1.length ≤ L.length + 1 ∧ x.2.2.length ≤ P.length + 1 ∧ PB x.2.2 := by
 have htl := (Jfa t ht).2
 unfold V7 at h
 split at h
 ·rename_i hw
  split at h
  ·cases h
   exact ⟨.inl rfl, ⟨fun _ => rfl, fun _ => hP0.2 hw.1⟩, by simp, by simp, hb⟩
  ·cases h
 split at h
 ·split at h
  ·cases h
   refine ⟨.inr (.inl rfl), ⟨fun e => absurd e (by simp), fun e => absurd e (show ¬ (1 : Int) = 0 by decide)⟩, by simp, by simp, fun p hp => ?_⟩
   rcases List.mem_append.1 hp with h1 | h1
   ·exact hb p h1
   ·rw [List.mem_singleton] at h1; rw [h1]; exact ⟨by simp, by simp⟩
  ·cases h
 split at h
 ·rename_i hw
  have hn := hP (by omega)
  split at h
  ·cases h
   exact ⟨.inr (.inr (.inl rfl)), ⟨fun e => absurd e (set_ne hn _), fun e => absurd e (show ¬ (2 : Int) = 0 by decide)⟩, by simp, by simp [Wz], set_PB hb ⟨by simp only [List.length_map]; omega, (hb _ (last_mem hn)).2⟩⟩
  ·cases h
 split at h
 ·rename_i hw
  have hn := hP (by omega)
  split at h
  ·cases h
   exact ⟨.inr (.inr (.inr rfl)), ⟨fun e => absurd e (set_ne hn _), fun e => absurd e (show ¬ (3 : Int) = 0 by decide)⟩, by simp, by simp [Wz], set_PB hb ⟨(hb _ (last_mem hn)).1, by simp only [List.length_map]; omega⟩⟩
  ·cases h
 ·cases h
def Va (r : RR) : Prop := r.1.length ≤ 2000000 ∧ r.2.1.length ≤ 2000000 ∧ PB r.2.1
theorem Jfj (n e : Int) : Va ([], [], n, e) := ⟨by simp, by simp, fun p hp => by cases hp⟩
def Inv (lines : List (List UInt8)) (a : List UInt8 × Int × Int × List Ta × List Tb) (b : RS) : Prop :=
 ∃ k : Nat, a.2.1 = k ∧ b = (m3 a.2.2.1, (lines.length : Int), (k : Int), a.2.2.2.2, a.2.2.2.1) ∧ k ≤ lines.length ∧ lines.drop k = Jby a.1 ∧ a.1.length ≤ 1000000 ∧ (a.2.2.1 = 0 ∨ a.2.2.1 = 1 ∨ a.2.2.1 = 2 ∨ a.2.2.1 = 3) ∧ (a.2.2.2.2 = [] ↔ a.2.2.1 = 0) ∧ a.2.2.2.1.length ≤ k ∧ a.2.2.2.2.length ≤ k ∧ PB a.2.2.2.2
theorem read_loop {s : List UInt8} (hs : s.length ≤ 1000000) : ∃ r, Va r ∧ Zp (fun next2 s => Xa next2 s.1 s.2.1 s.2.2.1 s.2.2.2.1 s.2.2.2.2) (s, 0, 0, ([] : List Ta), ([] : List Tb)) = some r ∧ Uz (Jby s) = some r := by
 have hll := lines_len s
 unfold Uz
 generalize hlines : Jby s = lines at hll
 refine fix_sim (F := fun next2 s => Xa next2 s.1 s.2.1 s.2.2.1 s.2.2.2.1 s.2.2.2.2) (G := fun next4 s => Q3 lines next4 s.1 s.2.1 s.2.2.1 s.2.2.2.1 s.2.2.2.2) (Inv lines) (fun a => a.1.length) Va ?_ _ _ ⟨0, rfl, rfl, Nat.zero_le _, hlines.symm, hs, .inl rfl, ⟨fun _ => rfl, fun _ => rfl⟩, by simp, by simp, fun p hp => by cases hp⟩
 rintro ⟨x, n, w, L, P⟩ b ⟨k, hn, rfl, hk, hd, hx, hw, hP, hL, hPl, hb⟩
 simp only at hn hd hx hw hP hL hPl hb
 subst hn
 have hPn : w ≠ 0 → P ≠ [] := fun h e => h (hP.1 e)
 have hk2 : k ≤ 1000001 := by omega
 by_cases h0 : x = []
 ·subst h0
  rw [lines_nil] at hd
  have hke : k = lines.length := by
   have := congrArg List.length hd
   rw [List.length_drop] at this
   simp at this
   omega
  have hF : ∀ next, Xa next [] (k : Int) w L P = Jaz (k : Int) w L P := fun next => by
   unfold Xa
   rw [Jz (by simp), Jf]
  have hG : ∀ next, Q3 lines next (m3 w) (lines.length : Int) (k : Int) P L = U4 lines (m3 w) L P := fun next => by
   unfold Q3
   rw [Jz (by omega), Jf]
  left
  by_cases h12 : w = 1 ∨ w = 2
  ·refine ⟨([], [], (k : Int) + 1, 8), Jfj _ _, Ql fun next => ?_, Ql fun next => ?_⟩
   ·show Xa next [] (k : Int) w L P = _
    rw [hF]
    unfold Jaz
    rw [Qf (by omega), Jd]
    rcases h12 with rfl | rfl
    ·rw [Qa rfl, Jh]
    ·rw [Jz (by decide), Jf, Qa rfl, Jh]
   ·show Q3 lines next (m3 w) (lines.length : Int) (k : Int) P L = _
    rw [hG]
    unfold U4
    rw [Qa (by unfold m3; rw [if_neg (by omega)]; omega), Jh, Qf (by omega), Jd, ← hke]
  ·obtain ⟨e, f1, f2, _⟩ := faults (l := L) (ps := P) (by omega) (by omega) (fun p hp => ⟨by have := (hb p hp).1; omega, by have := (hb p hp).2; omega⟩)
   refine ⟨if e ≠ 0 then ([], [], 0, e) else (L, P, 0, 0), ?_, Ql fun next => ?_, Ql fun next => ?_⟩
   ·split
    ·exact Jfj _ _
    ·exact ⟨by simp only; omega, by simp only; omega, hb⟩
   ·show Xa next [] (k : Int) w L P = _
    rw [hF]
    unfold Jaz
    rw [Jz (by omega), Jf, Jz (by omega), Jf, f1, Jd, Qr]
    split <;> rfl
   ·show Q3 lines next (m3 w) (lines.length : Int) (k : Int) P L = _
    rw [hG]
    unfold U4
    rw [Jz (by unfold m3; split <;> omega), Jf, f2 (Uu L P)]
    unfold Uu
    rw [Qr]
    split <;> rfl
 ·by_cases hf : (Js 10 x).2.2 = true
  ·have hln := congrArg List.length (W5 hf)
   rw [List.length_append, List.length_cons] at hln
   rw [lines_yes hf] at hd
   have hkl : k < lines.length := by
    rcases Nat.lt_or_ge k lines.length with h | h
    ·exact h
    ·rw [List.drop_eq_nil_of_le h] at hd; cases hd
   rw [List.drop_eq_getElem_cons hkl] at hd
   have hd1 := (List.cons.inj hd).1
   have hd2 := (List.cons.inj hd).2
   have hcs : Xf lines[k] [10] = some ((Js 10 x).1, true) := by rw [hd1, Jhk _ (by omega)]
   have hr := rline_eq (L := L) hP hkl (by omega) hcs (by omega) (by omega) (by omega) hw
   obtain ⟨bb, r, l1, l2⟩ := line_eq (L := L) hPn (Js 10 x).1 (by omega) (by omega) (by omega) hw
   have hF : ∀ next, Xa next x (k : Int) w L P = J6 (!bb) (some ([], [], (k : Int) + 1, 8)) (next ((Js 10 x).2.1, (k : Int) + 1, r.want_, r.l_, r.people_)) := fun next => by
    unfold Xa
    rw [Qa h0, Jh, Cut_eq (by omega), Jd, Qf (by omega), Jd, hf, Bool.not_true, Jf, l1, Jd]
   rcases l2 with ⟨y, hy, hbb, hrr⟩ | ⟨hy, hbb⟩
   ·subst hbb
    subst hrr
    obtain ⟨o1, o2, o3, o4, o5⟩ := lineS_ok hPn hb _ (by omega) hy hP
    right
    refine ⟨((Js 10 x).2.1, (k : Int) + 1, y.1, y.2.1, y.2.2), (m3 y.1, (lines.length : Int), (k : Int) + 1, y.2.2, y.2.1), ⟨k + 1, by simp, by simp, hkl, hd2, by simp only; omega, o1, o2, by simp only; omega, by simp only; omega, o5⟩, by simp only; omega, X0 _ fun next => ?_, X0 _ fun next => ?_⟩
    ·show Xa next x (k : Int) w L P = _
     rw [hF, Bool.not_true, Jf]
    ·show Q3 lines next (m3 w) (lines.length : Int) (k : Int) P L = _
     exact (hr next).1 y rfl hy
   ·subst hbb
    left
    refine ⟨([], [], (k : Int) + 1, 8), Jfj _ _, Ql fun next => ?_, Ql fun next => ?_⟩
    ·show Xa next x (k : Int) w L P = _
     rw [hF, Bool.not_false, Jh]
    ·show Q3 lines next (m3 w) (lines.length : Int) (k : Int) P L = _
     exact (hr next).2 (.inr hy)
  ·have hf' : (Js 10 x).2.2 = false := by simpa using hf
   rw [lines_no h0 hf'] at hd
   have hkl : k < lines.length := by
    rcases Nat.lt_or_ge k lines.length with h | h
    ·exact h
    ·rw [List.drop_eq_nil_of_le h] at hd; cases hd
   rw [List.drop_eq_getElem_cons hkl] at hd
   have hd1 := (List.cons.inj hd).1
   have hcs : Xf lines[k] [10] = some (x, false) := by rw [hd1, CutSuffix_no hf' (by omega)]
   have hr := rline_eq (L := L) hP hkl (by omega) hcs (by omega) (by omega) (by omega) hw
   left
   refine ⟨([], [], (k : Int) + 1, 8), Jfj _ _, Ql fun next => ?_, Ql fun next => ?_⟩
   ·show Xa next x (k : Int) w L P = _
    unfold Xa
    rw [Qa h0, Jh, Cut_eq (by omega), Jd, Qf (by omega), Jd, hf', Bool.not_false, Jh]
   ·show Q3 lines next (m3 w) (lines.length : Int) (k : Int) P L = _
    exact (hr next).2 (.inl rfl)
theorem read_eq (s : List UInt8) : ∃ r, Va r ∧ Jec s = some r ∧ Jdk s = some r := by
 unfold Jec Jdk
 by_cases hs : 1000000 < s.length
 ·rw [Qa (by omega), Jh, Jh]
  exact ⟨_, Jfj _ _, rfl, rfl⟩
 ·have e1 : 0 < (Z3 10 s).length := List.length_pos_iff.2 (splitA_ne 10 s)
  have e2 : ((Z3 10 s).length : Int) - 1 = (((Z3 10 s).length - 1 : Nat) : Int) := by omega
  have e3 := Jgw 10 s
  have e4 := List.count_le_length (a := 10) (l := s)
  obtain ⟨r, h0, h1, h2⟩ := read_loop (s := s) (by omega)
  refine ⟨r, h0, ?_, ?_⟩
  ·rw [Jz (by omega), Jf, h1]
  ·rw [Jz (by omega), Jf, Jhf 10 s (by omega), Jd, Qf (by omega), Jd, e2, J5 (by omega), Jd, ← h2, Jd, Jcz (by omega), Jd, Int.toNat_natCast, ← List.dropLast_eq_take]
   unfold Jby
   rw [List.getLast?_eq_getElem?, List.getElem?_eq_getElem (by omega), Qr]
   by_cases h : (Z3 10 s)[(Z3 10 s).length - 1] = []
   ·rw [if_pos h, if_pos (by rw [h])]
   ·rw [if_neg h, if_neg (fun e => h (Option.some.inj e))]
theorem like_self (x : Ta) : Vx x x = true := by simp [Vx]
theorem likes_self (l : List Ta) (hl : l.length ≤ 9223372036854775000) : Yf l l = some true := by
 unfold Yf
 rw [Jz (by simp), Jf]
 have h := up (F := fun next1 s => Q9 l l next1 s) l.length (fun _ => some true) (fun next k hk ih => by
  simp only [Q9]
  rcases Nat.lt_or_ge k l.length with h | h
  ·rw [Qa (by omega), Jh, J5 h, Jd, Jd, like_self, Bool.not_true, Jf, Qf (by omega), Jd, ih h]
  ·rw [Jz (by omega), Jf])
 exact h
theorem folk_self (l : List Tb) (hl : l.length ≤ 9223372036854775000) (hb : PB l) : Jdg l l = some true := by
 unfold Jdg Qx
 rw [Jz (by simp), Jf]
 have h := up (F := fun next1 s => Jx l l Jav next1 s) l.length (fun _ => some true) (fun next k hk ih => by
  simp only [Jx]
  rcases Nat.lt_or_ge k l.length with h | h
  ·have h1 := hb _ (List.getElem_mem h)
   have hs : Jav l[k] l[k] = some true := by
    unfold Jav
    rw [Qa rfl, Jh, Qa rfl, Jh, Jgt _ (by omega), Jd, Jh, Jgt _ (by omega), Jd]
   rw [Qa (by omega), Jh, J5 h, Jd, Jd, hs, Jd, Bool.not_true, Jf, Qf (by omega), Jd, ih h]
  ·rw [Jz (by omega), Jf])
 rw [h, Jd]
theorem told_str {v w : List UInt8} {e f : Int} (h0 : f = 0 → v = w) (h1 : f ≠ 0 → v = []) (he : e = f) : U6 v e w f = some true := by
 subst he
 have key : Zs v e e v = some true := by
  unfold Zs; simp [J6]
 unfold U6
 rw [Qr]
 by_cases h : e ≠ 0
 ·rw [if_pos h]; have := h1 h; subst this; exact key
 ·rw [if_neg h, ← h0 (by simpa using h)]; exact key
theorem both_read (s x : List UInt8) : Zp (fun next3 i => Yn s x next3 i) 0 = some true := by
 have one : ∀ (t : List UInt8) (next : Int → Option Bool) (k : Nat), k < 2 → Qk ([s, x] : List (List UInt8)) (k : Int) = some t → Yn s x next (k : Int) = next ((k : Int) + 1) := by
  intro t next k hk ht
  obtain ⟨r, ⟨q1, q2, q3⟩, h1, h2⟩ := read_eq t
  unfold Yn
  rw [Qa (by omega), Jh, ht, Jd, h1, Jd, h2, Jd, Jz (by simp), Jf, Jz (by simp), Jf, likes_self _ (by omega), Jd, Bool.not_true, Jf, folk_self _ (by omega) q3, Jd, Bool.not_true, Jf, Qf (by omega), Jd]
 rw [show (0 : Int) = ((0 : Nat) : Int) from rfl, X0 (((0 : Nat) : Int) + 1) (fun next => one s next 0 (by omega) rfl), show ((0 : Nat) : Int) + 1 = ((1 : Nat) : Int) from rfl, X0 (((1 : Nat) : Int) + 1) (fun next => one x next 1 (by omega) rfl)]
 refine Ql fun next => ?_
 unfold Yn
 rw [Jz (by omega), Jf]
theorem j2_true {l : List Ta} {ps : List Tb} (s : List UInt8) {e : Int} {x t : List UInt8} (ht : Jbf l ps = some (t, e)) (h0 : e = 0 → t = x) (h1 : e ≠ 0 → t = []) : Zm l ps s e x = some true := by
 unfold Zm
 rw [ht, Jd, told_str h0 h1 rfl, Jd, Bool.not_true, Jf, both_read]
theorem faceTexts {l : List Ta} {ps : List Tb} (s : List UInt8) (hl : l.length ≤ 9223372036854775000) (hn : ps.length ≤ 9223372036854775000) (hsz : ∀ p ∈ ps, PSz p) : Jbh l ps s = some true := by
 obtain ⟨e, f1, f2, f3⟩ := faults hl hn hsz
 unfold Jbh
 rw [f2 (Vv l ps s)]
 unfold Vv
 by_cases h0 : e = 0
 ·obtain ⟨g1, g2, g3, g4⟩ := f3 h0
  have hx := like_small g1 g2 g3
  have hp := person_small hx g3 g4
  have hx' : ∀ x ∈ l, LikeS x := fun x h => (hx x h).2
  have ht : Jbf l ps = Wc (folkT l ps) := by
   unfold Jbf
   rw [f1, Jd, Jz (by omega), Jf, text_faces g1 g4.len hx' hp]
  rw [Qa h0, Jh, folk_eq g1 g4.len hx' hp, Jd]
  unfold Wc at ht
  rw [Qr] at ht ⊢
  by_cases hb : 1000000 < ((folkT l ps).length : Int)
  ·rw [if_pos hb] at ht ⊢
   exact j2_true s ht (fun h => absurd h (by decide)) (fun _ => rfl)
  ·rw [if_neg hb] at ht ⊢
   rw [h0]
   exact j2_true s ht (fun _ => rfl) (fun h => absurd rfl h)
 ·rw [Jz h0, Jf]
  have ht : Jbf l ps = some ([], e) := by
   unfold Jbf
   rw [f1, Jd, Qa h0, Jh]
  exact j2_true s ht (fun h => absurd h h0) (fun _ => rfl)
theorem faceTextsS (l : List Ta) (ps : List Tb) (s : List UInt8) {φ ψ : Prop} {α β γ δ : Tb → Prop} (h1 : (l.length ≤ 9223372036854775807 ∧ l.length * 112 ≤ 140737488351232) ∧ φ)
  (h2 : (ps.length ≤ 9223372036854775807 ∧ ps.length * 72 ≤ 140737488351232) ∧ ∀ a ∈ ps, α a ∧ β a ∧ ((a.Likes.length ≤ 9223372036854775807 ∧ a.Likes.length * 8 ≤ 140737488351232) ∧ γ a) ∧ ((a.Nots.length ≤ 9223372036854775807 ∧ a.Nots.length * 8 ≤ 140737488351232) ∧ δ a)) (_ : ψ) : Jbh l ps s = some true :=
 faceTexts s (by omega) (by omega) (fun p hp => by have := h2.2 p hp; exact ⟨by omega, by omega⟩)
end Go.M

/- Tables among the package's variables, out of a card's condition. Conditions: none. -/
namespace Go.Lx
open Go Go.Vc Go.Md
theorem tab_vars {P : Program} {W : World} {name : String} {k : IntKind} {zs : List Int} {g : Nat} {t e : TypeId} {n : Nat}
  (hg : P.globalNamed name = some g) (hty : (P.globals[g]?).map (·.type) = some t) (ht : P.underlying t = some (.array n e)) (he : P.underlying e = some (.int k)) (hce : P.cellsOf e = 1) (hct : P.cellsOf t = n) :
  ∀ (l : List (String × DataW Unit)) (ps : List MemPlace) (i : Nat), DataW.LaidVars P W l ps → l[i]? = some (name, Lib.tabData k zs) → Lib.TabIs P W name k zs
 | [], _, i, _, h => by simp at h
 | (n', d) :: r, ps, 0, hv, h => by
  simp only [List.getElem?_cons_zero, Option.some.injEq, Prod.mk.injEq] at h
  obtain ⟨rfl, rfl⟩ := h
  obtain ⟨g', t', cs, fuel, p, q, hg', ht', hvar, hd, _, _⟩ := hv
  obtain rfl := Option.some.inj (hg.symm.trans hg')
  obtain rfl := Option.some.inj (hty.symm.trans ht')
  unfold Lib.TabIs
  rw [hvar, ← Lib.cells_of_tab ht he hce hct hd]
 | _ :: r, ps, i + 1, hv, h => by
  obtain ⟨_, _, _, _, _, q, _, _, _, _, h2, _⟩ := hv
  exact tab_vars hg hty ht he hce hct r q i h2 (by simpa using h)
theorem tab_at {P : Program} {W : World} {name : String} {k : IntKind} {zs : List Int} {g : Nat} {t e : TypeId} {n : Nat} {l : List (String × DataW Unit)} (i : Nat)
  (hg : P.globalNamed name = some g) (hty : (P.globals[g]?).map (·.type) = some t) (ht : P.underlying t = some (.array n e)) (he : P.underlying e = some (.int k)) (hce : P.cellsOf e = 1) (hct : P.cellsOf t = n)
  (hL : laidMetH P l W) (hp : (l.all fun x => x.2.handleName?.isNone) = true) (hi : l[i]? = some (name, Lib.tabData k zs)) : TabH P (fun b => W.heap[b]?) name k zs := by
 rw [MakeChecks.laidMetH_plain _ _ _ hp] at hL
 obtain ⟨ps, hv, _⟩ := hL
 exact tabH_of (tab_vars hg hty ht he hce hct l ps i hv hi)
end Go.Lx

/- What a claim says of a call's arguments, as rows: slices, arrays, structs, strings. Conditions: none. -/
namespace Go.Vc
open Go
variable {H : Type} {enc : TypeId × Value → H} {P : Program} {w : World} {base : Nat} {spare : Nat → Bool} {held : Bool}
theorem Jdn {w : World} {base k : Nat} {a : Addr} {cs : List Value} (h : w.cells? base a k = some cs) : cs.length = k ∧ ∀ i, i < k → w.cell? (a.add i) = cs[i]? :=
 (World.cells?_some h).2
theorem cell_spot {w : World} {a : Addr} {v : Value} (h : w.cell? a = some v) : a.spot = none := by
 unfold World.cell? at h
 split at h
 ·split at h
  ·cases h
  ·rename_i hs; simpa using hs
 ·cases h
theorem op_int {t fuel : Nat} {k : IntKind} {cs : List Value} {x : DataW H × List MemPlace} (ht : P.underlying t = some (.int k)) (h : DataW.trod enc P w base spare held fuel t cs = some x) : ∃ n : Int, cs = [.int k n] ∧ (Lit.int k n).wf = true := by
 obtain ⟨n, h1, _, h2⟩ := DataW.trod_int ht h
 exact ⟨n, h1, h2⟩
theorem op_elem {t fuel i m e : Nat} {cs : List Value} {x : DataW H × List MemPlace} (ht : P.underlying t = some (.array m e)) (hi : i < m) (h : DataW.trod enc P w base spare held fuel t cs = some x) :
  ∃ n y, DataW.trod enc P w base spare held n e ((cs.drop (i * P.cellsOf e)).take (P.cellsOf e)) = some y := by
 obtain ⟨xs, n, _, _, _, hl, hp⟩ := DataW.trod_array ht h
 have h1 := hp i hi
 rw [List.getElem?_eq_getElem (by omega)] at h1
 exact ⟨n, _, h1⟩
end Go.Vc

/- What a claim says of a call's arguments, as values of plain types: parts of structs, arrays, slices. Conditions: none. -/
namespace Go.Lx
open Go Go.Vc Go.Md
variable {H : Type} {enc : TypeId × Value → H} {P : Program} {w : World} {base : Nat} {spare : Nat → Bool} {held : Bool}
theorem piece {cs l : List Value} {o s : Nat} (h : (cs.drop o).take s = l) (hl : l.length = s) : cs.drop o = l ++ cs.drop (o + s) := by
 have := List.take_append_drop s (cs.drop o)
 rw [h, List.drop_drop] at this
 exact this.symm
theorem op_arr {α : Type} [Inhabited α] {f : α → List Value} {good : α → Prop} {t e sz m fuel : Nat} {cs : List Value} {x : DataW H × List MemPlace} (ht : P.underlying t = some (.array m e)) (hc : P.cellsOf e = sz) (hf : ∀ a, (f a).length = sz)
  (hD : ∀ n cs x, cs.length = sz → DataW.trod enc P w base spare held n e cs = some x → ∃ a, cs = f a ∧ good a) (hlen : cs.length = m * sz) (h : DataW.trod enc P w base spare held fuel t cs = some x) :
  ∃ g : Nat → α, cs = (List.range m).flatMap (fun j => f (g j)) ∧ ∀ j, j < m → good (g j) := by
 have each : ∀ i : Fin m, ∃ a : α, (cs.drop (i * sz)).take sz = f a ∧ good a := by
  intro i
  obtain ⟨n, y, hy⟩ := op_elem ht i.2 h
  rw [hc] at hy
  have hle : (i + 1) * sz ≤ m * sz := Nat.mul_le_mul_right _ i.2
  rw [Nat.succ_mul] at hle
  exact hD _ _ _ (by rw [List.length_take, List.length_drop]; omega) hy
 have hch : ∃ g : Fin m → α, ∀ i : Fin m, (cs.drop (i * sz)).take sz = f (g i) ∧ good (g i) := ⟨fun i => (each i).choose, fun i => (each i).choose_spec⟩
 obtain ⟨g, hg⟩ := hch
 refine ⟨fun j => if h : j < m then g ⟨j, h⟩ else default, ?_, fun j hj => by show good (if h : j < m then g ⟨j, h⟩ else default); rw [dif_pos hj]; exact (hg ⟨j, hj⟩).2⟩
 have key : ∀ k, k ≤ m → cs = ((List.range k).flatMap fun j => f (if h : j < m then g ⟨j, h⟩ else default)) ++ cs.drop (k * sz) := by
  intro k
  induction k with
  | zero => intro _; simp
  | succ k ih =>
   intro hk
   have h1 := ih (by omega)
   have h2 := piece (hg ⟨k, by omega⟩).1 (hf _)
   rw [List.range_succ, List.flatMap_append, List.flatMap_singleton, dif_pos (show k < m by omega), List.append_assoc, Nat.succ_mul]
   rw [← h2]
   exact h1
 have := key m (Nat.le_refl _)
 rwa [List.drop_of_length_le (by omega), List.append_nil] at this
theorem Row.snap {w : World} {a : Option Addr} {sz : Nat} {xs : List (List Value)} (h : Row w a sz xs) (hsz : 0 < sz) : RowH (fun b => w.heap[b]?) a sz xs := by
 rcases h with h | ⟨b, off, ha, h⟩
 ·exact .inl h
 ·cases xs with
  | nil => exact .inl rfl
  | cons x r =>
   have h0 := h 0 x rfl
   have hv := h0.2 0 x[0] (by simp [h0.1, hsz])
   unfold World.cell? at hv
   split at hv
   ·rename_i c T m hb
    refine .inr ⟨b, off, c, T, m, ha, hb, fun i y hy => ⟨(h i y hy).1, fun j v hj => ?_⟩⟩
    have := (h i y hy).2 j v hj
    unfold World.cell? at this
    rw [hb] at this
    simpa using this
   ·cases hv
theorem Jgf {r : Reach} {b0 t : Nat} {v : Value} (ht : (match P.underlying t with | some (.int _) | some (.slice _) | some .string | some .bool => true | _ => false) = true) (hval : Value.okWide P w r b0 t v) : v.cells.toList = [v] := by
 unfold Value.okWide at hval
 split at hval
 ·rename_i h; rw [h] at ht; cases ht
 ·rename_i h; rw [h] at ht; cases ht
 ·cases v with
  | agg cs =>
   exfalso
   unfold Cell.okWide at hval
   split at ht <;> simp_all [Cell.ok]
  | _ => rfl
end Go.Lx

/- What a claim says of a call's arguments, where their bulk is bounded. Conditions: none. -/
namespace Go.Vc
open Go Go.Lx
variable {H : Type} {enc : TypeId × Value → H} {P : Program} {w : World} {base : Nat} {spare : Nat → Bool} {held : Bool}
structure BK (bk : DataW H → Nat) : Prop where
 slice : ∀ (es rs : List (DataW H)) (d : DataW H), d ∈ es → bk d ≤ bk (.slice es rs)
 agg : ∀ (es : List (DataW H)) (d : DataW H), d ∈ es → bk d ≤ bk (.agg es)
 Jk : ∀ bs : List UInt8, bs.length ≤ bk (.lit (.string bs))
end Go.Vc
