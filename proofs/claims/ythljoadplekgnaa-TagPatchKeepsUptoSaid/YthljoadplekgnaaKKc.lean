/- TagPatchKeeps, the law: the walks, printed by our generator; each follows its model. Conditions: the model yields a value. -/
import Derived.Test.YthljoadplekgnaaKKr
import Derived.Test.YthljoadplekgnaaMd
namespace Go.Proofs.Ythljoadplekgnaa
open Go Go.Vc Go.Md Go.M Go.Lx Try
set_option maxRecDepth 100000
set_option maxHeartbeats 4000000
theorem k37 {a0 : Tf} {r : Int} (H : Jch a0 = some r) : Ret prog 37 [.agg #[i6 a0.Num, i6 a0.Den]] (i6 r) := by
 refine Vz (n := 11) func37 rfl rfl rfl (fun wd => ?_)
 refine Jc<|Ja<|?_
 refine We (cs := [i6 a0.Num, i6 a0.Den]) rfl rfl rfl rfl (fun b1 => ?_)
 refine ag (i6 0)<|Jd<|Jc<|Jc<|Ja<|lf Try.runUnderlying46 rfl Try.sizeOf3 rfl<|ll 0 (i6 a0.Num) Try.isAgg3<|?_
 obtain ⟨t5, h_t5, H7⟩ := Je H; clear H
 refine Vb (k50 h_t5) call50 rfl rfl rfl<|mv (.bool t5)<|?_
 revert H7
 refine sp (fun hb H8=>?_) fun hb H9=>?_
 ·refine pa<|pa<|pa<|pT (.bool true)<|Jd<|Ve rfl<|Jc<|Ja<|ag (i6 2)<|Jd<|Jr<|?_
  obtain rfl := sj H8
  exact r1 (i6 2)
 ·refine lf Try.runUnderlying46 rfl Try.sizeOf3 rfl<|ll 0 (i6 a0.Den) Try.isAgg3<|?_
  obtain ⟨t9, h_t9, H10⟩ := Je H9; clear H9
  refine Vb (k50 h_t9) call50 rfl rfl rfl<|pF (.bool t9)<|Jd<|?_
  revert H10
  refine ci t9 rfl (fun hb H11=>?_) fun hb H12=>?_
  ·refine Jc<|Ja<|ag (i6 2)<|Jd<|Jr<|?_
   obtain rfl := sj H11
   exact r1 (i6 2)
  ·refine Jp<|Jc<|Ja<|ag (i6 0)<|Jd<|Jr<|?_
   obtain rfl := sj H12
   exact r1 (i6 0)
theorem k12 {a0 : Tf} {r : Tf × Int} (H : Jdo a0 = some r) : Ret prog 12 [.agg #[i6 a0.Num, i6 a0.Den]] (.tuple #[.agg #[i6 r.1.Num, i6 r.1.Den], i6 r.2]) := by
 refine Vz (n := 32) func12 rfl rfl rfl (fun wd => ?_)
 refine Jc<|Ja<|?_
 refine We (cs := [i6 a0.Num, i6 a0.Den]) rfl rfl rfl rfl (fun b2 => ?_)
 refine Xw (cs := [i6 0, i6 0]) zeroValue46 rfl rfl rfl (fun b3 => ?_)
 refine ag (i6 0)<|Jd<|Jc<|Jc<|Ja<|Q1 (i := 0) (vs := [i6 a0.Num, i6 a0.Den]) isAgg46 Try.sizeOf46 rfl rfl rfl rfl rfl<|?_
 obtain ⟨t8, h_t8, H11⟩ := Je H; clear H
 refine Vb (k37 h_t8) call37 rfl rfl rfl<|ag (i6 t8)<|Jd<|Jc<|Ja<|mv (i6 t8)<|lv (Yn rfl rfl)<|Jd<|?_
 revert H11
 refine ci (decide (t8 ≠ 0)) rfl (fun hb H12=>?_) fun hb H13=>?_
 ·refine Jc<|Ja<|lv (Xm (pl := #[(0, 1), (1, 1)]) (ps := []) (cells := #[i6 0, i6 0]) zeroValue46 Try.runUnderlying46 (fun w => by kernel_rfl) rfl rfl)<|mv (i6 t8)<|st (i := 1) [i6 0, i6 0] [i6 0, i6 0] Try.sizeOf46 rfl rfl<|ag (i6 t8)<|Jd<|Jr<|?_
  obtain rfl := sj H12
  refine retCt (i := 1) (vs := [i6 0, i6 0]) (v2 := i6 t8) isAgg46 Try.sizeOf46 rfl rfl rfl rfl rfl (fin rfl)
 ·refine Jp<|Jc<|?_
  exact Qc (Kd.p :: Kd.d [0] _ :: Kd.p :: Kd.d [0] _ :: Kd.p :: Kd.p :: []) 0 mixed (by
   refine dv (Qd Try.runUnderlying46 rfl Try.sizeOf3 rfl rfl)<|dl (i6 a0.Num) Try.isAgg3<|dv (Qd Try.runUnderlying46 rfl Try.sizeOf3 rfl rfl)<|dl (i6 a0.Den) Try.isAgg3<|Qr rfl rfl (Jy (v := i6 a0.Num) rfl)<|Qr rfl rfl (Jy (v := i6 a0.Den) rfl)<|X2<|?_
   refine Qx (r := r) (σ := Int) (τ := Unit) (fun s => Jfe a0 s) (fun s t => [(1, pz b2), (2, pz b3), (5, i6 s)]) (fun s t => [Jf b2 [i6 a0.Num, i6 a0.Den] 46, Jf b3 [i6 0, i6 0] 46]) (fun s t => True) ?_ ?_
   ·refine J0 ?_
    refine Zz (σ := Int × Int) (τ := Unit) (fun next2 s => Z1 a0 next2 s.1 s.2) (fun s t => [(1, pz b2), (2, pz b3), (5, i6 s.1), (6, i6 s.2)]) (fun s t => [Jf b2 [i6 a0.Num, i6 a0.Den] 46, Jf b3 [i6 0, i6 0] 46]) (fun s t => True) (a0.Num, a0.Den) () [0, 1] H13 (by exact trivial) (by exact ⟨rfl, rfl, rfl, rfl, trivial⟩) (by decide) rfl ?_
    rintro ⟨x5_3, x6_2⟩ _ m2 gg H17 _
    clear H13
    try dsimp only at H17
    generalize hn2 : it (fun next2 s => Z1 a0 next2 s.1 s.2) m2 = next2 at H17
    try dsimp only
    refine Jc<|Jc<|Ja<|mv (i6 x6_2)<|lv (Yn rfl rfl)<|Jd<|?_
    revert H17
    refine ci (decide (x6_2 ≠ 0)) rfl (fun hb H18=>?_) fun hb H20=>?_
    ·refine Jp<|J0<|?_
     exact Qc (Kd.p :: Kd.p :: Kd.p :: Kd.p :: Kd.p :: Kd.p :: []) 0 mixed (by
      refine dm (i6 x6_2)<|dm (i6 x5_3)<|dm (i6 x6_2)<|?_
      have h_t22 := Jx H18
      have H19 := Jq H18
      refine dv (r_remG rfl rfl h_t22)<|Qr rfl rfl (Jy (v := i6 x6_2) rfl)<|Qr rfl rfl (Jy (v := i6 (val (gRem x5_3 x6_2))) rfl)<|X2<|?_
      exact cl (x6_2, (val (gRem x5_3 x6_2))) () m2 [0, 1] (by exact ⟨(by subst hn2; exact H19), trivial⟩)
      ) (by kernel_rfl)
    ·refine Xy ?_
     exact cl x5_3 () 0 [0, 1] (by exact ⟨H20, trivial⟩)
   ·rintro x5 _ gg H14 _
    try dsimp only at H14
    try dsimp only
    refine Jc ?_
    exact Qc (Kd.p :: Kd.d [0] _ :: Kd.p :: Kd.p :: Kd.p :: Kd.d [0] _ :: Kd.p :: Kd.p :: Kd.p :: Kd.st 2 1 [_, _] 46 :: Kd.p :: []) 0 mixed (by
     refine dv (Qd Try.runUnderlying46 rfl Try.sizeOf3 rfl rfl)<|dl (i6 a0.Num) Try.isAgg3<|dm (i6 x5)<|?_
     have h_t26 := Jx H14
     have H15 := Jq H14
     refine dv (r_quoG rfl rfl h_t26)<|dv (Qd Try.runUnderlying46 rfl Try.sizeOf3 rfl rfl)<|dl (i6 a0.Den) Try.isAgg3<|dm (i6 x5)<|?_
     have h_t30 := Jx H15
     have H16 := Jq H15
     refine dv (r_quoG rfl rfl h_t30)<|dv (Xm (pl := #[(0, 1), (1, 1)]) (ps := [(0, i6 (val (gQuo a0.Num x5))), (1, i6 (val (gQuo a0.Den x5)))]) (cells := #[i6 (val (gQuo a0.Num x5)), i6 (val (gQuo a0.Den x5))]) zeroValue46 Try.runUnderlying46 (fun w => by kernel_rfl) rfl rfl)<|d_store (i := 1) (vs := [i6 (val (gQuo a0.Num x5)), i6 (val (gQuo a0.Den x5))]) (cs' := [i6 (val (gQuo a0.Num x5)), i6 (val (gQuo a0.Den x5))]) Try.sizeOf46 rfl rfl rfl rfl rfl rfl rfl rfl rfl<|Qr rfl rfl (Jy (v := i6 0) rfl)<|X2<|Jr<|?_
     obtain rfl := sj H16
     refine retCt (i := 1) (vs := [i6 (val (gQuo a0.Num x5)), i6 (val (gQuo a0.Den x5))]) (v2 := i6 0) isAgg46 Try.sizeOf46 rfl rfl rfl rfl rfl (fin rfl)
     ) (by kernel_rfl)
   ) (by kernel_rfl)
theorem k4 {r : Bool} (H : Jbi = some r) : Ret prog 4 [] (.bool r) := by
 refine Vz (n := 15) func4 rfl rfl rfl (fun wd => ?_)
 refine Jc<|Ja<|ag (.bool false)<|Jd<|Jc<|Ja<|lv (Xm (pl := #[(0, 1), (1, 1)]) (ps := [(0, i6 2), (1, i6 4)]) (cells := #[i6 2, i6 4]) zeroValue46 Try.runUnderlying46 (fun w => by kernel_rfl) rfl rfl)<|?_
 obtain ⟨t5, h_t5, H4⟩ := Je H; clear H
 refine Vb (k12 h_t5) call12 rfl rfl rfl<|mv (.tuple #[.agg #[i6 t5.1.Num, i6 t5.1.Den], i6 t5.2])<|lv (J7 (v := .agg #[i6 t5.1.Num, i6 t5.1.Den]) rfl rfl)<|lv (J7 (v := i6 t5.2) rfl rfl)<|?_
 refine Xw (cs := [i6 0, i6 0]) zeroValue46 rfl rfl rfl (fun b1 => ?_)
 refine st (i := 0) [i6 t5.1.Num, i6 t5.1.Den] [i6 t5.1.Num, i6 t5.1.Den] Try.sizeOf46 rfl rfl<|ag (i6 t5.2)<|Jd<|Jc<|Ja<|mv (i6 t5.2)<|lv (Xe rfl rfl)<|mv (.bool (decide (t5.2 = 0)))<|?_
 revert H4
 refine sp (fun hb H5=>?_) fun hb H6=>?_
 ·refine Q1 (i := 0) (vs := [i6 t5.1.Num, i6 t5.1.Den]) isAgg46 Try.sizeOf46 rfl rfl rfl rfl rfl<|lv (Xm (pl := #[(0, 1), (1, 1)]) (ps := [(0, i6 1), (1, i6 2)]) (cells := #[i6 1, i6 2]) zeroValue46 Try.runUnderlying46 (fun w => by kernel_rfl) rfl rfl)<|lv (r_eqlA (xs := #[i6 t5.1.Num, i6 t5.1.Den]) (ys := #[i6 1, i6 2]) eqGuardType46 (fun w => Jc4 w t5.1 (⟨1, 2⟩ : Tf)) rfl rfl)<|pT (.bool (Vd t5.1 (⟨1, 2⟩ : Tf)))<|ag (.bool (Vd t5.1 (⟨1, 2⟩ : Tf)))<|Jd<|Jr<|?_
  obtain rfl := sj H5
  exact r1 (.bool (Vd t5.1 (⟨1, 2⟩ : Tf)))
 ·refine pa<|pa<|pa<|pF (.bool false)<|ag (.bool false)<|Jd<|Jr<|?_
  obtain rfl := sj H6
  exact r1 (.bool false)
theorem k3 {a0 : (List UInt8)} {a1 : (List Int)} {v1 : Value} {a2 : Td} {v2_2 : Value} {v2_3 : Value} {v2_4 : Value} {r : Bool} {w : World} {h : Jt} (hw : Know h w Z2) (f1 : FrS h 1 v1 (a1.map Qa)) (f2_2 : FrS h 1 v2_2 (a2.kaj.map Qa)) (f2_3 : FrS h 2 v2_3 (a2.kag.map Jl)) (f2_4 : FrN h 6 v2_4 g_tag_Entry a2.kaf) (H : W4 a0 a1 a2 = some r) : Does prog 3 (List.toArray [str a0, v1, .agg #[i6 a2.kah, str a2.kai, v2_2, v2_3, v2_4]]) w (fun v w' => v = (.bool r) ∧ Grow w w') := by
 refine enter (n := 158) func3 rfl rfl rfl Z2 [] (Sat.nil _ _)<|X7 Xo<|Jc<|Ja<|?_
 refine We (cs := [i6 a2.kah, str a2.kai, v2_2, v2_3, v2_4]) rfl rfl rfl rfl (fun b5 => ?_)
 refine ag (.bool false)<|Jd<|Jc<|Jc<|Ja<|?_
 obtain ⟨t23, h_t23, H57⟩ := Je H; clear H
 refine Vb (k4 h_t23) call4 rfl rfl rfl<|lv (Ja6 rfl)<|Jd<|?_
 revert H57
 refine ci (!t23) rfl (fun hb H58=>?_) fun hb H59=>?_
 ·refine Jc<|Ja<|ag (.bool false)<|Jd<|Jr<|?_
  obtain rfl := sj H58
  exact r1 (.bool false)
 ·refine Jp<|Jc<|Ja<|mv (str a0)<|mv v1<|Q1 (i := 1) (vs := [i6 a2.kah, str a2.kai, v2_2, v2_3, v2_4]) Try.isAgg26 Try.sizeOf26 rfl rfl rfl rfl rfl<|?_
  obtain ⟨t29, h_t29, H60⟩ := Je H59; clear H59
  refine Qg (fun w hF hS => k5 (Jm w) (f1.mono (hw.now hF)) (f2_2.mono (hw.now hF)) (f2_3.mono (hw.now hF)) (f2_4.mono (hw.now hF)) h_t29) call5 rfl rfl rfl<|mv (.tuple #[str t29.1, i6 t29.2])<|lv (J7 (v := str t29.1) rfl rfl)<|lv (J7 (v := i6 t29.2) rfl rfl)<|ag (str t29.1)<|ag (i6 t29.2)<|Jd<|Jc<|Jc<|Ja<|mv (i6 t29.2)<|lv (Yn rfl rfl)<|Jd<|?_
  revert H60
  refine ci (decide (t29.2 ≠ 0)) rfl (fun hb H61=>?_) fun hb H62=>?_
  ·refine Jc<|Ja<|mv (str t29.1)<|lv (Jhe rfl rfl)<|ag (.bool (decide (t29.1 = [])))<|Jd<|Jr<|?_
   obtain rfl := sj H61
   exact r1 (.bool (decide (t29.1 = [])))
  ·refine Jp<|Jc<|Ja<|mv (str a0)<|?_
   obtain ⟨t38, h_t38, H63⟩ := Je H62; clear H62
   refine Za (Qs (rds := []) (fun w L' hF hS hi => k6 (Jm w)  h_t38) call6 rfl) rfl rfl rfl (fun p => ?_)
   refine Jbt 2 rfl (fun hp css hn pf => ?_)
   rw [hn]
   refine Qj 2 rfl ?_
   refine Yi 0 2 rfl rfl (by decide) (fun _ _ => Xb) (fun hp_2 hle hle_2 => ?_)
   refine mv (.tuple #[.agg #[.bool t38.1.Big, sl p css.length], i6 t38.2])<|lv (J7 (v := .agg #[.bool t38.1.Big, sl p css.length]) rfl rfl)<|lv (J7 (v := i6 t38.2) rfl rfl)<|?_
   refine Xw (cs := [.bool false, z0s]) zeroValue33 rfl rfl rfl (fun b6 => ?_)
   refine st (i := 4) [.bool t38.1.Big, sl p css.length] [.bool t38.1.Big, sl p css.length] Try.sizeOf33 rfl rfl<|ag (i6 t38.2)<|Jd<|?_
   try dsimp only [z1,z2,z5,z6,z7,z8]
   refine Jc<|Ja<|mv (str t29.1)<|?_
   obtain ⟨t43, h_t43, H64⟩ := Je H63; clear H63
   refine Za (Qs (rds := []) (fun w L' hF hS hi => k6 (Jm w)  h_t43) call6 rfl) rfl rfl rfl (fun p_2 => ?_)
   refine Jbt 5 rfl (fun hp_3 css_2 hn_2 pf_2 => ?_)
   rw [hn_2]
   refine Qj 5 rfl ?_
   refine Yi 0 5 rfl rfl (by decide) (fun _ _ => Xb) (fun hp_4 hle_3 hle_4 => ?_)
   refine mv (.tuple #[.agg #[.bool t43.1.Big, sl p_2 css_2.length], i6 t43.2])<|lv (J7 (v := .agg #[.bool t43.1.Big, sl p_2 css_2.length]) rfl rfl)<|lv (J7 (v := i6 t43.2) rfl rfl)<|?_
   refine Xw (cs := [.bool false, z0s]) zeroValue33 rfl rfl rfl (fun b7 => ?_)
   refine st (i := 7) [.bool t43.1.Big, sl p_2 css_2.length] [.bool t43.1.Big, sl p_2 css_2.length] Try.sizeOf33 rfl rfl<|ag (i6 t43.2)<|Jd<|?_
   try dsimp only [z1,z2,z5,z6,z7,z8]
   refine Jc<|Ja<|Q1 (i := 4) (vs := [.bool t38.1.Big, sl p css.length]) Try.isAgg33 Try.sizeOf33 rfl rfl rfl rfl rfl<|mv v1<|Q1 (i := 1) (vs := [i6 a2.kah, str a2.kai, v2_2, v2_3, v2_4]) Try.isAgg26 Try.sizeOf26 rfl rfl rfl rfl rfl<|?_
   obtain ⟨t50, h_t50, H65⟩ := Je H64; clear H64
   refine Za (Qs (rds := [0, 3]) (fun w L' hF hS hi => k7 (Jm w) (Wu (xs := t38.1.kal) (Xq (i := 3) rfl hS ((hi 3 (by simp)).trans rfl)) (((pf.mono hle_2).mono hle_3).mono (Y0 (i := 0) hS ((hi 0 (by simp)).trans rfl) Xb))) (f1.mono (hw.now hF)) (f2_2.mono (hw.now hF)) (f2_3.mono (hw.now hF)) (f2_4.mono (hw.now hF)) h_t50) call7 rfl) rfl rfl rfl (fun p_3 => ?_)
   refine Jd8 8 rfl (fun hp_5 pf_3 => ?_)
   refine Yi 0 8 rfl rfl (by decide) (fun _ _ => Xb) (fun hp_6 hle_5 hle_6 => ?_)
   refine mv (.tuple #[.agg #[.bool t50.1.Big, (sl p_3 t50.1.kal.length)], i6 t50.2])<|lv (J7 (v := .agg #[.bool t50.1.Big, (sl p_3 t50.1.kal.length)]) rfl rfl)<|lv (J7 (v := i6 t50.2) rfl rfl)<|?_
   refine Xw (cs := [.bool false, z0s]) zeroValue33 rfl rfl rfl (fun b8 => ?_)
   refine Yq (i := 9) (vs := [.bool t50.1.Big, (sl p_3 t50.1.kal.length)]) (cs' := [.bool t50.1.Big, (sl p_3 t50.1.kal.length)]) Try.sizeOf33 rfl rfl rfl rfl rfl rfl (by simp only [List.all_cons, List.all_nil, (pf_3.mono hle_6).one] <;> rfl) rfl rfl<|ag (i6 t50.2)<|Jd<|?_
   try dsimp only [z1,z2,z5,z6,z7,z8]
   refine Jc<|Ja<|Q1 (i := 7) (vs := [.bool t43.1.Big, sl p_2 css_2.length]) Try.isAgg33 Try.sizeOf33 rfl rfl rfl rfl rfl<|?_
   obtain ⟨t55, h_t55, H66⟩ := Je H65; clear H65
   refine Qg (fun w hF hS => k8 (Jm w) (Wu (xs := t43.1.kal) (Xq (i := 6) rfl hS rfl) (((pf_2.mono hle_4).mono hle_5).mono (Y0 (i := 0) hS rfl Xb))) h_t55) call8 rfl rfl rfl<|mv (.tuple #[str t55.1, i6 t55.2])<|lv (J7 (v := str t55.1) rfl rfl)<|lv (J7 (v := i6 t55.2) rfl rfl)<|ag (str t55.1)<|ag (i6 t55.2)<|Jd<|?_
   try dsimp only [z1,z2,z5,z6,z7,z8]
   refine Jc<|Ja<|Q1 (i := 9) (vs := [.bool t50.1.Big, (sl p_3 t50.1.kal.length)]) Try.isAgg33 Try.sizeOf33 rfl rfl rfl rfl rfl<|?_
   obtain ⟨t60, h_t60, H67⟩ := Je H66; clear H66
   refine Qg (fun w hF hS => k8 (Jm w) ((pf_3.mono hle_6).mono (Y0 (i := 0) hS rfl Xb)) h_t60) call8 rfl rfl rfl<|mv (.tuple #[str t60.1, i6 t60.2])<|lv (J7 (v := str t60.1) rfl rfl)<|lv (J7 (v := i6 t60.2) rfl rfl)<|ag (str t60.1)<|ag (i6 t60.2)<|Jd<|?_
   try dsimp only [z1,z2,z5,z6,z7,z8]
   refine Jc<|Jc<|Ja<|mv (i6 t38.2)<|lv (Yn rfl rfl)<|mv (.bool (decide (t38.2 ≠ 0)))<|?_
   revert H67
   refine sp (fun hb H68=>?_) fun hb H69=>?_
   ·refine pa<|pa<|pT (.bool true)<|mv (.bool true)<|pa<|pa<|pT (.bool true)<|mv (.bool true)<|pa<|pa<|pT (.bool true)<|mv (.bool true)<|pa<|pa<|pT (.bool true)<|mv (.bool true)<|pa<|pa<|pa<|pT (.bool true)<|mv (.bool true)<|pa<|pa<|pa<|pa<|pa<|pT (.bool true)<|Jd<|?_
    try dsimp only [z1,z2,z5,z6,z7,z8]
    refine Ve rfl<|Jc<|Ja<|ag (.bool false)<|Jd<|?_
    try dsimp only [z1,z2,z5,z6,z7,z8]
    refine Jr ?_
    obtain rfl := sj H68
    exact r1 (.bool false)
   ·refine mv (i6 t43.2)<|lv (Yn rfl rfl)<|pF (.bool (decide (t43.2 ≠ 0)))<|mv (.bool (decide (t43.2 ≠ 0)))<|?_
    revert H69
    refine sp (fun hb H70=>?_) fun hb H71=>?_
    ·refine pa<|pa<|pT (.bool true)<|mv (.bool true)<|pa<|pa<|pT (.bool true)<|mv (.bool true)<|pa<|pa<|pT (.bool true)<|mv (.bool true)<|pa<|pa<|pa<|pT (.bool true)<|mv (.bool true)<|pa<|pa<|pa<|pa<|pa<|pT (.bool true)<|Jd<|?_
     try dsimp only [z1,z2,z5,z6,z7,z8]
     refine Ve rfl<|Jc<|Ja<|ag (.bool false)<|Jd<|?_
     try dsimp only [z1,z2,z5,z6,z7,z8]
     refine Jr ?_
     obtain rfl := sj H70
     exact r1 (.bool false)
    ·refine mv (i6 t50.2)<|lv (Yn rfl rfl)<|pF (.bool (decide (t50.2 ≠ 0)))<|mv (.bool (decide (t50.2 ≠ 0)))<|?_
     revert H71
     refine sp (fun hb H72=>?_) fun hb H73=>?_
     ·refine pa<|pa<|pT (.bool true)<|mv (.bool true)<|pa<|pa<|pT (.bool true)<|mv (.bool true)<|pa<|pa<|pa<|pT (.bool true)<|mv (.bool true)<|pa<|pa<|pa<|pa<|pa<|pT (.bool true)<|Jd<|?_
      try dsimp only [z1,z2,z5,z6,z7,z8]
      refine Ve rfl<|Jc<|Ja<|ag (.bool false)<|Jd<|?_
      try dsimp only [z1,z2,z5,z6,z7,z8]
      refine Jr ?_
      obtain rfl := sj H72
      exact r1 (.bool false)
     ·refine mv (i6 t55.2)<|lv (Yn rfl rfl)<|pF (.bool (decide (t55.2 ≠ 0)))<|mv (.bool (decide (t55.2 ≠ 0)))<|?_
      revert H73
      refine sp (fun hb H74=>?_) fun hb H75=>?_
      ·refine pa<|pa<|pT (.bool true)<|mv (.bool true)<|pa<|pa<|pa<|pT (.bool true)<|mv (.bool true)<|pa<|pa<|pa<|pa<|pa<|pT (.bool true)<|Jd<|?_
       try dsimp only [z1,z2,z5,z6,z7,z8]
       refine Ve rfl<|Jc<|Ja<|ag (.bool false)<|Jd<|?_
       try dsimp only [z1,z2,z5,z6,z7,z8]
       refine Jr ?_
       obtain rfl := sj H74
       exact r1 (.bool false)
      ·refine mv (i6 t60.2)<|lv (Yn rfl rfl)<|pF (.bool (decide (t60.2 ≠ 0)))<|mv (.bool (decide (t60.2 ≠ 0)))<|?_
       revert H75
       refine sp (fun hb H76=>?_) fun hb H77=>?_
       ·refine pa<|pa<|pa<|pT (.bool true)<|mv (.bool true)<|pa<|pa<|pa<|pa<|pa<|pT (.bool true)<|Jd<|?_
        try dsimp only [z1,z2,z5,z6,z7,z8]
        refine Ve rfl<|Jc<|Ja<|ag (.bool false)<|Jd<|?_
        try dsimp only [z1,z2,z5,z6,z7,z8]
        refine Jr ?_
        obtain rfl := sj H76
        exact r1 (.bool false)
       ·refine mv (str t55.1)<|mv (str t60.1)<|lv (r_neqT rfl rfl)<|pF (.bool (decide (t55.1 ≠ t60.1)))<|mv (.bool (decide (t55.1 ≠ t60.1)))<|?_
        revert H77
        refine sp (fun hb H78=>?_) fun hb H79=>?_
        ·refine pa<|pa<|pa<|pa<|pa<|pT (.bool true)<|Jd<|?_
         try dsimp only [z1,z2,z5,z6,z7,z8]
         refine Ve rfl<|Jc<|Ja<|ag (.bool false)<|Jd<|?_
         try dsimp only [z1,z2,z5,z6,z7,z8]
         refine Jr ?_
         obtain rfl := sj H78
         exact r1 (.bool false)
        ·refine mv (str t29.1)<|lv (Ww Try.underlying9 rfl)<|mv (str a0)<|lv (Ww Try.underlying9 rfl)<|lv (Ym rfl rfl)<|pF (.bool (decide ((t29.1.length : Int) < (a0.length : Int))))<|Jd<|?_
         try dsimp only [z1,z2,z5,z6,z7,z8]
         revert H79
         refine ci (decide ((t29.1.length : Int) < (a0.length : Int))) rfl (fun hb H80=>?_) fun hb H81=>?_
         ·refine Jc<|Ja<|ag (.bool false)<|Jd<|?_
          try dsimp only [z1,z2,z5,z6,z7,z8]
          refine Jr ?_
          obtain rfl := sj H80
          exact r1 (.bool false)
         ·refine Jp<|Jc<|Ja<|Q1 (i := 4) (vs := [.bool t38.1.Big, sl p css.length]) Try.isAgg33 Try.sizeOf33 rfl rfl rfl rfl rfl<|Q1 (i := 7) (vs := [.bool t43.1.Big, sl p_2 css_2.length]) Try.isAgg33 Try.sizeOf33 rfl rfl rfl rfl rfl<|?_
          obtain ⟨t96, h_t96, H82⟩ := Je H81; clear H81
          refine Za (Qs (rds := [0, 3, 6]) (fun w L' hF hS hi => k9 (Jm w) (Wu (xs := t38.1.kal) (Xq (i := 3) rfl hS ((hi 3 (by simp)).trans rfl)) ((((pf.mono hle_2).mono hle_3).mono hle_5).mono (Y0 (i := 0) hS ((hi 0 (by simp)).trans rfl) Xb))) (Wu (xs := t43.1.kal) (Xq (i := 6) rfl hS ((hi 6 (by simp)).trans rfl)) (((pf_2.mono hle_4).mono hle_5).mono (Y0 (i := 0) hS ((hi 0 (by simp)).trans rfl) Xb))) h_t96) call9 rfl) rfl rfl rfl (fun p_4 => ?_)
          refine c_roD 10 rfl (fun hp_7 css_3 hn_3 pf_4 => ?_)
          refine Qj 10 rfl ?_
          try dsimp only [z1,z2,z5,z6,z7,z8]
          refine Yi 0 10 rfl rfl (by decide) (fun _ _ => Xb) (fun hp_8 hle_7 hle_8 => ?_)
          refine mv (.tuple #[sl p_4 t96.1.length, i6 t96.2])<|lv (J7 (v := sl p_4 t96.1.length) rfl rfl)<|lv (J7 (v := i6 t96.2) rfl rfl)<|ag (sl p_4 t96.1.length)<|ag (i6 t96.2)<|Jd<|?_
          try dsimp only [z1,z2,z5,z6,z7,z8]
          refine Qx (r := r) (σ := Unit) (τ := Unit) (fun s => Zs a0 a1 t29 t38) (fun s t => [(0, str a0), (1, v1), (7, str t29.1), (9, pz b6)]) (fun s t => [Q3 Xo hp_8, J3 24 1 (sl p css.length) css.length (css.map idC), Jf b6 [.bool t38.1.Big, sl p css.length] 33]) (fun s t => True) ?_ ?_
          ·refine Jc<|Ja<|mv (i6 t96.2)<|lv (Yn rfl rfl)<|mv (.bool (decide (t96.2 ≠ 0)))<|?_
           revert H82
           refine sp (fun hb H103=>?_) fun hb H104=>?_
           ·refine pa<|pa<|pa<|pT (.bool true)<|mv (.bool true)<|pa<|pa<|pa<|pa<|pa<|pa<|pa<|pa<|pa<|pa<|pa<|pT (.bool true)<|Jd<|?_
            try dsimp only [z1,z2,z5,z6,z7,z8]
            refine Ve rfl<|Jc<|Ja<|ag (.bool false)<|Jd<|?_
            try dsimp only [z1,z2,z5,z6,z7,z8]
            refine Jr ?_
            obtain rfl := sj H103
            exact r1 (.bool false)
           ·refine mv (sl p_4 t96.1.length)<|lv (Ur Try.underlying38 rfl)<|lv (V6 rfl rfl)<|pF (.bool (decide (1 < (t96.1.length : Int))))<|mv (.bool (decide (1 < (t96.1.length : Int))))<|?_
            revert H104
            refine sp (fun hb H105=>?_) fun hb H106=>?_
            ·refine pa<|pa<|pa<|pa<|pa<|pa<|pa<|pa<|pa<|pa<|pa<|pT (.bool true)<|Jd<|?_
             try dsimp only [z1,z2,z5,z6,z7,z8]
             refine Ve rfl<|Jc<|Ja<|ag (.bool false)<|Jd<|?_
             try dsimp only [z1,z2,z5,z6,z7,z8]
             refine Jr ?_
             obtain rfl := sj H105
             exact r1 (.bool false)
            ·refine mv (sl p_4 t96.1.length)<|lv (Ur Try.underlying38 rfl)<|lv (Xe rfl rfl)<|mv (.bool (decide ((t96.1.length : Int) = 1)))<|?_
             revert H106
             refine sp (fun hb H107=>?_) fun hb H112=>?_
             ·refine mv (sl p_4 t96.1.length) ?_
              obtain ⟨t112, h_t112, H108⟩ := Je H107; clear H107
              refine Xn (fun w hF hS => Ux Try.underlying38 Try.sizeOf22 rfl rfl (roOf (i := 11) hS rfl) hn_3 ((pf_4.mono hle_8).ix h_t112)) rfl rfl rfl<|Xn (fun w hF hS => Qt (f := idC) (i := 0) (sz := 1) (j := 0) (v := (List.getD (List.getD css_3 (Int.toNat 0) []) 0 undef)) isAgg22 rfl rfl (roOf (i := 11) hS rfl) ((pf_4.mono hle_8).ix h_t112) (Jat (((pf_4.mono hle_8).eta h_t112).trans (cgs_int ((pf_4.mono hle_8).at h_t112))) rfl)) rfl rfl rfl<|mv v1<|?_
              obtain ⟨t115, h_t115, H109⟩ := Je H108; clear H108
              refine Qg (fun w hF hS => k10 (Jm w) ((show FrS hp_8 1 (List.getD (List.getD css_3 (Int.toNat 0) []) 0 undef) (t112.map Qa) from ((pf_4.mono hle_8).at h_t112)).mono (Y0 (i := 0) hS rfl Xb)) (f1.mono (hw.now hF)) h_t115) call10 rfl rfl rfl<|lv (Ja6 rfl)<|pT (.bool (!t115))<|pF (.bool (!t115))<|Jd<|?_
              try dsimp only [z1,z2,z5,z6,z7,z8]
              revert H109
              refine ci (!t115) rfl (fun hb H110=>?_) fun hb H111=>?_
              ·refine Jc<|Ja<|ag (.bool false)<|Jd<|?_
               try dsimp only [z1,z2,z5,z6,z7,z8]
               refine Jr ?_
               obtain rfl := sj H110
               exact r1 (.bool false)
              ·refine Jp ?_
               exact cl () () 0 [0, 3, 4] (by exact ⟨H111, trivial⟩)
             ·refine pa<|pa<|pa<|pa<|pa<|pa<|pF (.bool false)<|pF (.bool false)<|Jd<|?_
              try dsimp only [z1,z2,z5,z6,z7,z8]
              refine Wr rfl<|Jp<|?_
              exact cl () () 0 [0, 3, 4] (by exact ⟨H112, trivial⟩)
          ·rintro _ _ gg H83 _
           try dsimp only at H83
           try dsimp only
           refine Jc<|Ja<|Q1 (i := 2) (vs := [.bool t38.1.Big, sl p css.length]) Try.isAgg33 Try.sizeOf33 rfl rfl rfl rfl rfl<|mv v1<|?_
           obtain ⟨t122, h_t122, H84⟩ := Je H83; clear H83
           refine Za (Qs (rds := [0, 1]) (fun w L' hF hS hi => k11 (Jm w) (Wu (xs := t38.1.kal) (Xq (i := 1) rfl hS ((hi 1 (by simp)).trans rfl)) (((((pf.mono hle_2).mono hle_3).mono hle_5).mono hle_7).mono (Y0 (i := 0) hS ((hi 0 (by simp)).trans rfl) Xb))) (f1.mono (hw.now hF)) h_t122) call11 rfl) rfl rfl rfl (fun ⟨p_5, p_6, p_7⟩ => ?_)
           refine Jd8 3 rfl (fun hp_9 pf_5 => ?_)
           refine Yi 0 3 rfl rfl (by decide) (fun _ _ => Xb) (fun hp_10 hle_9 hle_10 => ?_)
           refine mv (.tuple #[.agg #[i6 t122.1.kah, str t122.1.kai, (sl p_5 t122.1.kaj.length), (sl p_6 t122.1.kag.length), (sl p_7 t122.1.kaf.length)], i6 t122.2])<|lv (J7 (v := .agg #[i6 t122.1.kah, str t122.1.kai, (sl p_5 t122.1.kaj.length), (sl p_6 t122.1.kag.length), (sl p_7 t122.1.kaf.length)]) rfl rfl)<|lv (J7 (v := i6 t122.2) rfl rfl)<|?_
           refine Xw (cs := [i6 0, str [], z0s, z0s, z0s]) zeroValue26 rfl rfl rfl (fun b9 => ?_)
           refine Yq (i := 4) (vs := [i6 t122.1.kah, str t122.1.kai, (sl p_5 t122.1.kaj.length), (sl p_6 t122.1.kag.length), (sl p_7 t122.1.kaf.length)]) (cs' := [i6 t122.1.kah, str t122.1.kai, (sl p_5 t122.1.kaj.length), (sl p_6 t122.1.kag.length), (sl p_7 t122.1.kaf.length)]) Try.sizeOf26 rfl rfl rfl rfl rfl rfl (by simp only [List.all_cons, List.all_nil, (pf_5.1.mono hle_10).one, (pf_5.2.1.mono hle_10).one, (pf_5.2.2.mono hle_10).one] <;> rfl) rfl rfl<|ag (i6 t122.2)<|Jd<|?_
           try dsimp only [z1,z2,z5,z6,z7,z8]
           refine Jc<|Jc<|Ja<|mv (i6 t122.2)<|lv (Yn rfl rfl)<|Jd<|?_
           try dsimp only [z1,z2,z5,z6,z7,z8]
           revert H84
           refine ci (decide (t122.2 ≠ 0)) rfl (fun hb H85=>?_) fun hb H86=>?_
           ·refine Jc<|Ja<|ag (.bool false)<|Jd<|?_
            try dsimp only [z1,z2,z5,z6,z7,z8]
            refine Jr ?_
            obtain rfl := sj H85
            exact r1 (.bool false)
           ·refine Jp<|Jc<|Ja<|ag (i6 0)<|Jd<|?_
            try dsimp only [z1,z2,z5,z6,z7,z8]
            refine Qx (r := r) (σ := Int) (τ := Unit) (fun s => V2 t122 s) (fun s t => [(20, pz b9), (21, i6 s)]) (fun s t => [Q3 Xo hp_10, Jf b9 [i6 t122.1.kah, str t122.1.kai, (sl p_5 t122.1.kaj.length), (sl p_6 t122.1.kag.length), (sl p_7 t122.1.kaf.length)] 26]) (fun s t => True) ?_ ?_
            ·refine Jc<|Ja<|mv (str a0)<|lv (Ww Try.underlying9 rfl)<|mv (i6 0)<|Jd<|?_
             try dsimp only [z1,z2,z5,z6,z7,z8]
             refine J0 ?_
             refine Jce 3 <| Jce 2 <| Jce 1 ?_
             try dsimp only [z1, z2, z3, z4, z5, z6, z7, z8]
             refine Zz (σ := Int × Int) (τ := Unit) (fun next3 s => X3 a0 t29 t122 next3 s.1 s.2) (fun s t => [(0, str a0), (7, str t29.1), (20, pz b9), (21, i6 s.1), (128, i6 (a0.length : Int)), (129, i6 s.2)]) (fun s t => [Q3 Xo hp_10, Jf b9 [i6 t122.1.kah, str t122.1.kai, (sl p_5 t122.1.kaj.length), (sl p_6 t122.1.kag.length), (sl p_7 t122.1.kaf.length)] 26]) (fun s t => True) (0, 0) () [0, 1] H86 (by exact trivial) (by exact ⟨rfl, rfl, rfl, rfl, rfl, rfl, trivial⟩) (by decide) rfl ?_
             rintro ⟨x21_3, x129_2⟩ _ m3 gg H93 _
             clear H86
             try dsimp only at H93
             generalize hn3 : it (fun next3 s => X3 a0 t29 t122 next3 s.1 s.2) m3 = next3 at H93
             try dsimp only
             refine Jc<|Ja<|lv (Ym rfl rfl)<|Jd<|Jc<|?_
             revert H93
             refine ci (decide (x129_2 < (a0.length : Int))) rfl (fun hb H94=>?_) fun hb H102=>?_
             ·refine Jp ?_
              refine Qx (r := r) (σ := Int) (τ := Unit) (fun s => Zt x129_2 next3 s) (fun s t => [(0, str a0), (7, str t29.1), (20, pz b9), (21, i6 s), (128, i6 (a0.length : Int)), (129, i6 x129_2)]) (fun s t => [Q3 Xo hp_10, Jf b9 [i6 t122.1.kah, str t122.1.kai, (sl p_5 t122.1.kaj.length), (sl p_6 t122.1.kag.length), (sl p_7 t122.1.kaf.length)] 26]) (fun s t => True) ?_ ?_
              ·refine J0<|Jc<|Ja<|mv (i6 x129_2)<|ag (i6 x129_2)<|Jd<|Jc<|?_
               exact Qc (Kd.p :: Kd.p :: Kd.p :: Kd.p :: Kd.p :: Kd.p :: Kd.p :: []) 0 mixed (by
                refine dm (str a0)<|dm (i6 x129_2)<|?_
                have h_t134 := Jx H94
                have H97 := Jq H94
                refine dv (Jcv Try.underlying9 rfl rfl h_t134)<|dm (str t29.1)<|dm (i6 x129_2)<|?_
                have h_t137 := Jx H97
                have H98 := Jq H97
                refine dv (Jcv Try.underlying9 rfl rfl h_t137)<|dv (Yn rfl rfl)<|X2<|?_
                revert H98
                refine ci (decide ((val (gOct a0 x129_2)) ≠ (val (gOct t29.1 x129_2)))) rfl (fun hb H99=>?_) fun hb H101=>?_
                ·refine Ja<|mv (i6 x21_3)<|?_
                 obtain ⟨t140, h_t140, H100⟩ := Je H99; clear H99
                 refine lv (J4 rfl rfl h_t140)<|ag (i6 t140)<|Jd<|?_
                 exact cl t140 () 0 [0, 1] (by exact ⟨H100, trivial⟩)
                ·refine Jp ?_
                 exact cl x21_3 () 0 [0, 1] (by exact ⟨H101, trivial⟩)
                ) (by kernel_rfl)
              ·rintro x21_4 _ gg H95 _
               try dsimp only at H95
               try dsimp only
               refine Ja ?_
               obtain ⟨t141, h_t141, H96⟩ := Je H95; clear H95
               refine lv (J4 rfl rfl h_t141)<|mv (i6 t141)<|Jd<|?_
               exact cl (x21_4, t141) () m3 [0, 1] (by exact ⟨(by subst hn3; exact H96), trivial⟩)
             ·refine Xy ?_
              exact cl x21_3 () 0 [0, 1] (by exact ⟨H102, trivial⟩)
            ·rintro x21 _ gg H87 _
             try dsimp only at H87
             try dsimp only
             refine Jc<|Ja<|mv (i6 x21)<|lf Try.runUnderlying26 rfl Try.sizeOf22 rfl<|ll 1 (sl p_5 t122.1.kaj.length) isAgg22<|lv (Va Try.underlying22 rfl (pf_5.1.mono hle_10) rfl)<|lf Try.runUnderlying26 rfl Try.sizeOf23 rfl<|ll 1 (sl p_6 t122.1.kag.length) isAgg23<|lv (Va Try.underlying23 rfl (pf_5.2.1.mono hle_10) rfl)<|?_
             obtain ⟨t149, h_t149, H88⟩ := Je H87; clear H87
             refine lv (J4 rfl rfl h_t149) ?_
             obtain ⟨t150, h_t150, H89⟩ := Je H88; clear H88
             refine lv (Vs rfl rfl h_t150) ?_
             obtain ⟨t151, h_t151, H90⟩ := Je H89; clear H89
             refine lv (J4 rfl rfl h_t151)<|lf Try.runUnderlying26 rfl Try.sizeOf9 rfl<|ll 1 (str t122.1.kai) Try.isAgg9<|lv (Ww Try.underlying9 rfl)<|?_
             obtain ⟨t155, h_t155, H91⟩ := Je H90; clear H90
             refine lv (J4 rfl rfl h_t155) ?_
             obtain ⟨t156, h_t156, H92⟩ := Je H91; clear H91
             refine lv (J4 rfl rfl h_t156)<|lv (Je3 rfl rfl)<|ag (.bool (decide (x21 ≤ t156)))<|Jd<|Jr<|?_
             obtain rfl := sj H92
             exact r1 (.bool (decide (x21 ≤ t156)))
end Go.Proofs.Ythljoadplekgnaa

namespace Go.Pl
open Go.Md
theorem up {ρ : Type} {F : (Int → Option ρ) → Int → Option ρ} (n : Nat) (spec : Nat → Option ρ)
  (step : ∀ (next : Int → Option ρ) (k : Nat), k ≤ n → (k < n → next ((k : Int) + 1) = spec (k + 1)) → F next (k : Int) = spec k) : Wq F 0 = spec 0 := by
 have h := fix_of (F := F) (fun i => spec i.toNat) (fun i => 0 ≤ i ∧ i ≤ n) (fun i => n - i.toNat) (by
  intro next a ⟨h0, h1⟩ ih
  obtain ⟨k, rfl⟩ := Int.eq_ofNat_of_zero_le h0
  simp only [Int.toNat_natCast]
  refine step next k (by omega) fun hk => ?_
  have := ih ((k : Int) + 1) (by omega) (by simp only [Int.toNat_natCast]; omega)
  rw [this, show ((k : Int) + 1).toNat = k + 1 from by omega]) 0 (by omega)
 simpa using h
end Go.Pl

namespace Go.Pl
open Go.Md
theorem Yo {α β : Type} {m : Option α} {k k' : α → Option β} (h : ∀ a, m = some a → k a = k' a) : Jz m k = Jz m k' := by
 cases m with
 | none => rfl
 | some a => exact h a rfl
theorem Jb5 {α : Type} {b : Bool} {x y x' y' : Option α} (h1 : b = true → x = x') (h2 : b = false → y = y') : Qv b x y = Qv b x' y' := by
 cases b
 ·exact h2 rfl
 ·exact h1 rfl
theorem Jea {α ρ σ : Type} {F : (Int × σ → Option ρ) → Int × σ → Option ρ} (xs : List α) (f : σ → α → σ) (J : σ → Option ρ) (I : Nat → σ → Prop)
  (more : ∀ (next : Int × σ → Option ρ) (k : Nat) (s : σ) (hk : k < xs.length), I k s → F next ((k : Int), s) = next ((k : Int) + 1, f s xs[k]) ∧ I (k + 1) (f s xs[k]))
  (stop : ∀ (next : Int × σ → Option ρ) (s : σ), I xs.length s → F next ((xs.length : Int), s) = J s) (s : σ) (hs : I 0 s) : Wq F (0, s) = J (xs.foldl f s) := by
 have key : ∀ n k s, k ≤ xs.length → xs.length - k < n → I k s → Wq F ((k : Int), s) = J ((xs.drop k).foldl f s) := by
  intro n
  induction n with
  | zero => intro k s _ h; omega
  | succ n ih =>
   intro k s hk h hI
   rcases Nat.lt_or_ge k xs.length with h1 | h1
   ·rw [Xv ((k : Int) + 1, f s xs[k]) (fun next => (more next k s h1 hI).1), List.drop_eq_getElem_cons h1, List.foldl_cons]
    exact ih (k + 1) _ (by omega) (by omega) (more (fun _ => none) k s h1 hI).2
   ·have : k = xs.length := by omega
    subst this
    rw [List.drop_length]
    exact Qz fun next => stop next s hI
 have := key (xs.length + 1) 0 s (Nat.zero_le _) (by omega) hs
 simpa using this
theorem Jhc {α β : Type} (f : α → β) : ∀ (xs : List α) (s : List β), xs.foldl (fun s x => s ++ [f x]) s = s ++ xs.map f
 | [], s => by simp
 | x :: xs, s => by rw [List.foldl_cons, Jhc f xs]; simp
end Go.Pl

namespace Go.M
open Go.Md Go.Pl
theorem cI {α : Type} {p : Prop} [Decidable p] {x y : Option α} : Qv (decide p) x y = if p then x else y := cnd_if ..
theorem Jhw {α ρ γ : Type} {F : (α → Option ρ) → α → Option ρ} (spec : γ → α → Option ρ) (I : γ → α → Prop) (μ : γ → Nat)
  (step : ∀ (next : α → Option ρ) (g : γ) (a : α), I g a → (∀ g' b, I g' b → μ g' < μ g → next b = spec g' b) → F next a = spec g a) (g : γ) (a : α) (ha : I g a) : Wq F a = spec g a := by
 have key : ∀ (n : Nat) (g : γ) (a : α), I g a → μ g < n → it F n a = spec g a := by
  intro n
  induction n with
  | zero => intro g a _ h; omega
  | succ n ih => intro g a ha h; exact step _ g a ha fun g' b hb hlt => ih g' b hb (by omega)
 exact Jfl (k := μ g + 1) fun n hn => key n g a ha (by omega)
theorem Y7 (a b : List UInt8) : Qo (a ++ b) = Qo a ++ Qo b := List.map_append
theorem Ql (a : List UInt8) : (Qo a).length = a.length := List.length_map _
theorem Jhi (a : List UInt8) : Wn (Qo a) = a := by
 unfold Wn Qo
 rw [List.map_map]
 conv => rhs; rw [← List.map_id a]
 apply List.map_congr_left
 intro c _
 show UInt8.ofNat ((c.toNat : Int).toNat) = c
 rw [Int.toNat_natCast, UInt8.ofNat_toNat]
theorem ofStr_toStr {l : List Int} (h : ∀ x ∈ l, 0 ≤ x ∧ x ≤ 255) : Qo (Wn l) = l := by
 unfold Wn Qo
 rw [List.map_map]
 conv => rhs; rw [← List.map_id l]
 apply List.map_congr_left
 intro c hc
 have := h c hc
 show (((UInt8.ofNat c.toNat).toNat : Nat) : Int) = c
 rw [UInt8.toNat_ofNat']
 omega
theorem num_ex (big : Bool) (n : Int) (k : Nat) (hk : k ≤ 8) : ∃ L : List Int, Jh big n k = some L ∧ L.length = k ∧ (∀ x ∈ L, 0 ≤ x ∧ x ≤ 255) ∧ (n = 0 → ∀ x ∈ L, x = 0) := by
 have key : ∀ m i : Nat, i + m = k → ∀ l : List Int, l.length = k → (∀ x ∈ l, 0 ≤ x ∧ x ≤ 255) → (n = 0 → ∀ x ∈ l, x = 0) →
   ∃ L : List Int, Wq (fun next1 s => X9 big n k (List.replicate k 0) next1 s.1 s.2) ((i : Int), l) = some L ∧ L.length = k ∧ (∀ x ∈ L, 0 ≤ x ∧ x ≤ 255) ∧ (n = 0 → ∀ x ∈ L, x = 0) := by
  intro m
  induction m with
  | zero =>
   intro i hi l hl hx hz
   refine ⟨l, Qz fun next => ?_, hl, hx, hz⟩
   show X9 big n k _ next (i : Int) l = _
   unfold X9
   rw [cI, if_neg (by rw [List.length_replicate]; omega)]
  | succ m ih =>
   intro i hi l hl hx hz
   have hs : ∃ y : Int, gShr 64 n (8 * (i : Int)) = some y ∧ (n = 0 → y = 0) := by
    refine ⟨n / 2 ^ min (8 * (i : Int)).toNat 64, if_pos (by omega), fun e => by rw [e]; exact Int.zero_ediv _⟩
   obtain ⟨y, hy, hy0⟩ := hs
   have hp : ∃ q : Nat, q < k ∧ (∀ (next : Int × List Int → Option (List Int)), X9 big n k (List.replicate k 0) next (i : Int) l = next ((i : Int) + 1, l.set q (wU8 y))) := by
    cases big
    ·refine ⟨i, by omega, fun next => ?_⟩
     unfold X9
     rw [cI, if_pos (by rw [List.length_replicate]; omega), Qm]
     unfold Wl
     rw [J2 (by omega), Jb, hy, Jb, Qn (by omega), Jb, Jcu (by omega) (by omega), Jb, J2 (by omega), Jb, Int.toNat_natCast]
    ·refine ⟨k - 1 - i, by omega, fun next => ?_⟩
     unfold X9
     rw [cI, if_pos (by rw [List.length_replicate]; omega), Xf, J2 (by omega), Jb, J2 (by omega), Jb]
     unfold Wl
     rw [J2 (by omega), Jb, hy, Jb, Jf0 (by omega) (by omega), Jb, Jcu (by omega) (by omega), Jb, J2 (by omega), Jb, show ((k : Int) - 1 - (i : Int)).toNat = k - 1 - i from by omega]
   obtain ⟨q, hq, h1⟩ := hp
   obtain ⟨L, a1, a3, a4, a5⟩ := ih (i + 1) (by omega) (l.set q (wU8 y)) (by rw [List.length_set]; exact hl) (fun x hxm => by
    rcases List.mem_or_eq_of_mem_set hxm with h | h
    ·exact hx x h
    ·rw [h]; unfold wU8; omega) (fun e x hxm => by
    rcases List.mem_or_eq_of_mem_set hxm with h | h
    ·exact hz e x h
    ·rw [h, hy0 e]; rfl)
   exact ⟨L, (Xv _ h1).trans a1, a3, a4, a5⟩
 obtain ⟨L, a1, a3⟩ := key k 0 (by omega) (List.replicate k 0) (by simp) (fun x hx => by rw [(List.mem_replicate.1 hx).2]; omega) (fun _ x hx => (List.mem_replicate.1 hx).2)
 refine ⟨L, ?_, a3⟩
 unfold Jh
 rw [gMake_ok (by omega), Jb, Int.toNat_natCast]; exact a1
noncomputable def Yb (big : Bool) (n : Int) (k : Nat) : List UInt8 := Wn ((Jh big n k).getD [])
theorem num_tag (big : Bool) (n : Int) {k : Nat} (hk : k ≤ 8) : Jh big n k = some (Qo (Yb big n k)) := by
 obtain ⟨L, h1, _, h4, _⟩ := num_ex big n k hk
 unfold Yb
 rw [h1, Option.getD_some, ofStr_toStr h4]
theorem X4 (big : Bool) (n : Int) {k : Nat} (hk : k ≤ 8) : (Yb big n k).length = k := by
 obtain ⟨L, h1, h3, _⟩ := num_ex big n k hk
 unfold Yb Wn
 rw [h1, Option.getD_some, List.length_map, h3]
theorem num_zero (big : Bool) {k : Nat} (hk : k ≤ 8) : Yb big 0 k = List.replicate k 0 := by
 obtain ⟨L, h1, h3, _, h5⟩ := num_ex big 0 k hk
 have : L = List.replicate k 0 := List.eq_replicate_iff.2 ⟨h3, h5 rfl⟩
 unfold Yb Wn
 rw [h1, Option.getD_some, this, List.map_replicate]; rfl
theorem tag2 (big : Bool) (n : Int) : Jh big n 2 = some (Qo (Yb big n 2)) := num_tag big n (k := 2) (by omega)
theorem tag4 (big : Bool) (n : Int) : Jh big n 4 = some (Qo (Yb big n 4)) := num_tag big n (k := 4) (by omega)
def J6 (k : Int) : Nat := if k = 1 ∨ k = 2 ∨ k = 7 then 1 else if k = 3 then 2 else if k = 4 ∨ k = 9 then 4 else if k = 5 then 8 else 0
theorem Jbp (k : Int) : J6 k ≤ 8 := by unfold J6; (repeat' split) <;> omega
theorem Jbd (k : Int) : Zb k = some (if k = 13 then 1 else (J6 k : Int)) := by
 unfold Zb Ug J6
 by_cases h1 : k = 1
 ·subst h1; rfl
 by_cases h2 : k = 2
 ·subst h2; rfl
 by_cases h3 : k = 3
 ·subst h3; rfl
 by_cases h4 : k = 4
 ·subst h4; rfl
 by_cases h5 : k = 5
 ·subst h5; rfl
 by_cases h7 : k = 7
 ·subst h7; rfl
 by_cases h9 : k = 9
 ·subst h9; rfl
 by_cases h13 : k = 13
 ·subst h13; rfl
 simp [h1, h2, h3, h4, h5, h7, h9, h13, Qm]
def Ja7 (k : Int) : Prop := k = 1 ∨ k = 3 ∨ k = 4 ∨ k = 9
def Jc3 (k : Int) : Prop := k = 2 ∨ k = 7
instance (k : Int) : Decidable (Ja7 k) := by unfold Ja7; infer_instance
instance (k : Int) : Decidable (Jc3 k) := by unfold Jc3; infer_instance
def Jfd (k : Int) : Prop := Ja7 k ∨ Jc3 k ∨ k = 5 ∨ k = 13
instance (k : Int) : Decidable (Jfd k) := by unfold Jfd; infer_instance
def formP (v : Td) : Prop := (¬ Ja7 v.kah ∧ v.kaj ≠ []) ∨ (¬ Jc3 v.kah ∧ v.kai ≠ []) ∨ (v.kah ≠ 5 ∧ v.kag ≠ []) ∨ (v.kah ≠ 13 ∧ v.kaf ≠ [])
noncomputable def Uq (v : Td) : Int := open Classical in if ¬ Jfd v.kah then 10 else if formP v then 1 else 0
theorem ne_len {α : Type} (l : List α) : (0 : Int) < (l.length : Int) ↔ l ≠ [] := by
 cases l <;> simp <;> omega
theorem Jel (k : Int) (h : k ≠ 13) : (J6 k : Int) = 0 ↔ ¬ Jfd k := by
 unfold J6 Jfd Ja7 Jc3
 split
 ·omega
 ·split
  ·omega
  ·split
   ·omega
   ·split <;> omega
theorem j3_fields (v : Td) (b : Bool) : Vu v b = some (open Classical in if b = true ∨ (v.kah ≠ 13 ∧ v.kaf ≠ []) then 1 else 0) := by
 unfold Vu
 cases b
 ·rw [Qm, cI, cI]
  by_cases h1 : v.kah ≠ 13
  ·by_cases h2 : v.kaf = []
   ·rw [if_pos h1, if_neg (by rw [ne_len]; simpa using h2), if_neg (by simp [h2])]
   ·rw [if_pos h1, if_pos ((ne_len _).2 h2), if_pos (.inr ⟨h1, h2⟩)]
  ·rw [if_neg h1, if_neg (by simp [h1])]
 ·rw [Xf, Xf, if_pos (.inl rfl)]
theorem j2_fields (v : Td) (b : Bool) : Vv v b = some (open Classical in if b = true ∨ (v.kah ≠ 5 ∧ v.kag ≠ []) ∨ (v.kah ≠ 13 ∧ v.kaf ≠ []) then 1 else 0) := by
 unfold Vv
 cases b
 ·rw [Qm, cI, j3_fields, j3_fields]
  by_cases h1 : v.kah ≠ 5
  ·rw [if_pos h1]
   congr 1
   by_cases h2 : v.kag = []
   ·simp [h2]
   ·simp [h2, h1, List.length_pos_iff]
  ·rw [if_neg h1]; simp [h1]
 ·rw [Xf, Xf, if_pos (.inl rfl)]
theorem j1_fields (v : Td) (b : Bool) : Vt v b = some (open Classical in if b = true ∨ (¬ Jc3 v.kah ∧ v.kai ≠ []) ∨ (v.kah ≠ 5 ∧ v.kag ≠ []) ∨ (v.kah ≠ 13 ∧ v.kaf ≠ []) then 1 else 0) := by
 have ht : Jds v.kah = some (decide (Jc3 v.kah)) := by
  unfold Jds Jc3
  rw [cI]
  by_cases h : v.kah = 2
  ·simp [h]
  ·simp [h]
 unfold Vt
 cases b
 ·rw [Qm, ht, Jb, j2_fields, j2_fields]
  by_cases h1 : Jc3 v.kah
  ·rw [decide_eq_true h1]
   show Qv false _ _ = _
   rw [Qm]; simp [h1]
  ·rw [decide_eq_false h1]
   show Qv true _ _ = _
   rw [Xf]; simp [h1]
 ·rw [Xf, Xf, if_pos (.inl rfl)]
theorem Jck (v : Td) : V3 v = some (Uq v) := by
 have hi : Jdq v.kah = some (decide (Ja7 v.kah)) := by
  unfold Jdq Ja7
  rw [cI, cI, cI]
  by_cases h : v.kah = 1
  ·simp [h]
  by_cases h3 : v.kah = 3
  ·simp [h3]
  by_cases h4 : v.kah = 4
  ·simp [h4]
  simp [h, h3, h4]
 unfold V3 Uq
 rw [Jbd, Jb, cI]
 by_cases hk : Jfd v.kah
 ·have hz : ¬ (if v.kah = 13 then (1 : Int) else (J6 v.kah : Int)) = 0 := by
   by_cases h13 : v.kah = 13
   ·rw [if_pos h13]; omega
   ·rw [if_neg h13]; exact fun e => (Jel _ h13).1 e hk
  rw [if_neg hz, hi, Jb, j1_fields, j1_fields, if_neg (show ¬ ¬ Jfd v.kah from fun h => h hk)]
  by_cases h1 : Ja7 v.kah
  ·rw [decide_eq_true h1]
   show Qv false _ _ = _
   rw [Qm]; unfold formP; simp [h1]
  ·rw [decide_eq_false h1]
   show Qv true _ _ = _
   rw [Xf]; unfold formP; simp [h1, List.length_pos_iff]
 ·have h13 : v.kah ≠ 13 := fun e => hk (.inr (.inr (.inr e)))
  rw [if_neg h13, if_pos ((Jel _ h13).2 hk), if_pos hk]
def limS (k : Int) : Int × Int := if k = 1 then (0, 255) else if k = 3 then (0, 65535) else if k = 9 then (-2147483648, 2147483647) else (0, 4294967295)
theorem bounds_eq (k : Int) : Jd0 k = some (limS k) := by
 unfold Jd0 limS
 rw [cI, cI, cI]; (repeat' split) <;> rfl
theorem Jet (a b c : Int) : Vk a b c = some (decide (a < b ∨ c < a)) := by
 unfold Vk
 rw [cI]
 by_cases h : a < b
 ·rw [if_pos h]; simp [h]
 ·rw [if_neg h]; simp [h]
def ratP (r : Tf) : Prop := (r.Num < 0 ∨ 4294967295 < r.Num) ∨ (r.Den < 0 ∨ 4294967295 < r.Den)
noncomputable def Jbu (v : Td) : Int := open Classical in
 if Uq v ≠ 0 then Uq v else if ∃ n ∈ v.kaj, n < (limS v.kah).1 ∨ (limS v.kah).2 < n then 2 else if ∃ r ∈ v.kag, ratP r then 2 else if v.kah = 2 ∧ (0 : UInt8) ∈ v.kai then 9 else 0
theorem Jhf {α : Type} {F : (Int → Option Int) → Int → Option Int} (xs : List α) (p : α → Prop) (e : Int) (o : Option Int) (more : ∀ (next : Int → Option Int) (k : Nat) (hk : k < xs.length), (p xs[k] → F next (k : Int) = some e) ∧ (¬ p xs[k] → F next (k : Int) = next ((k : Int) + 1))) (stop : ∀ next, F next (xs.length : Int) = o) :
  Wq F 0 = open Classical in if ∃ x ∈ xs, p x then some e else o := by
 have key : ∀ m i : Nat, i + m = xs.length → Wq F (i : Int) = open Classical in if ∃ x ∈ xs.drop i, p x then some e else o := by
  intro m
  induction m with
  | zero =>
   intro i hi
   have : i = xs.length := by omega
   subst this
   rw [List.drop_length, if_neg (by simp)]
   exact Qz stop
  | succ m ih =>
   intro i hi
   have hlt : i < xs.length := by omega
   rw [List.drop_eq_getElem_cons hlt]
   by_cases hp : p xs[i]
   ·rw [if_pos ⟨_, List.mem_cons_self, hp⟩]
    exact Qz fun next => (more next i hlt).1 hp
   ·rw [Xv ((i : Int) + 1) (fun next => (more next i hlt).2 hp)]
    have := ih (i + 1) (by omega)
    rw [show ((i : Int) + 1) = ((i + 1 : Nat) : Int) from rfl, this]
    congr 1
    apply propext
    constructor
    ·rintro ⟨x, hx, h⟩; exact ⟨x, List.mem_cons_of_mem _ hx, h⟩
    ·rintro ⟨x, hx, h⟩
     rcases List.mem_cons.1 hx with h' | h'
     ·subst h'; exact absurd h hp
     ·exact ⟨x, h', h⟩
 have := key xs.length 0 (by omega)
 rw [List.drop_zero] at this
 exact this
def vB (v : Td) : Prop := v.kai.length ≤ 2000000 ∧ v.kaj.length ≤ 2000000 ∧ v.kag.length ≤ 2000000
theorem j2_plain {v : Td} (hb : vB v) : Wf v = some (open Classical in if v.kah = 2 ∧ (0 : UInt8) ∈ v.kai then 9 else 0) := by
 unfold Wf
 rw [cI]
 by_cases h2 : v.kah = 2
 ·rw [if_pos h2, Jhf v.kai (fun c => c = 0) 9 (some 0) (fun next k hk => ?_) (fun next => ?_)]
  ·congr 1
   by_cases hm : (0 : UInt8) ∈ v.kai
   ·rw [if_pos ⟨0, hm, rfl⟩, if_pos ⟨h2, hm⟩]
   ·rw [if_neg (fun ⟨x, hx, e⟩ => hm (e ▸ hx)), if_neg (fun h => hm h.2)]
  ·show (_ → Yu v next (k : Int) = _) ∧ (_ → Yu v next (k : Int) = _)
   have := hb.1
   unfold Yu
   rw [cI, if_pos (by omega), Ub hk, Jb, cI]
   constructor
   ·intro e; rw [if_pos (by rw [e]; rfl)]
   ·intro e
    have : v.kai[k].toNat ≠ 0 := fun h => e (by rw [← UInt8.ofNat_toNat (x := v.kai[k]), h]; rfl)
    rw [if_neg (by omega), J2 (by omega), Jb]
  ·show Yu v next (v.kai.length : Int) = _
   unfold Yu
   rw [cI, if_neg (by omega)]
 ·rw [if_neg h2, if_neg (fun h => h2 h.1)]
theorem Jff {v : Td} (hb : vB v) : Ut v = some (Jbu v) := by
 unfold Ut Jbu
 rw [Jck, Jb, cI]
 by_cases hf : Uq v ≠ 0
 ·rw [if_pos hf, if_pos hf]
 rw [if_neg hf, if_neg hf, bounds_eq, Jb]
 rw [Jhf (F := fun next5 s => Yl v (limS v.kah) next5 s) v.kaj (fun n => n < (limS v.kah).1 ∨ (limS v.kah).2 < n) 2 (V7 v) (fun next k hk => ?_) (fun next => ?_)]
 ·have e1 : V7 v = some (open Classical in if ∃ r ∈ v.kag, ratP r then 2 else if v.kah = 2 ∧ (0 : UInt8) ∈ v.kai then 9 else 0) := by
   unfold V7
   rw [Jhf (F := fun next4 s => Yj v next4 s) v.kag ratP 2 (Wf v) (fun next k hk => ?_) (fun next => ?_), j2_plain hb]
   ·split <;> rfl
   ·show (_ → Yj v next (k : Int) = _) ∧ (_ → Yj v next (k : Int) = _)
    have := hb.2.2
    unfold Yj ratP
    rw [cI, if_pos (by omega), Qn hk, Jb, Jet, Jb, cI, Jet, Jb, cI]
    constructor
    ·intro e
     by_cases h1 : v.kag[k].Num < 0 ∨ 4294967295 < v.kag[k].Num
     ·rw [if_pos h1]
     ·rw [if_neg h1, if_pos (e.resolve_left h1)]
    ·intro e
     rw [if_neg (fun h => e (.inl h)), if_neg (fun h => e (.inr h)), J2 (by omega), Jb]
   ·show Yj v next (v.kag.length : Int) = _
    unfold Yj
    rw [cI, if_neg (by omega)]
  rw [e1]; split <;> rfl
 ·show (_ → Yl v _ next (k : Int) = _) ∧ (_ → Yl v _ next (k : Int) = _)
  have := hb.2.1
  unfold Yl
  rw [cI, if_pos (by omega), Qn hk, Jb, Jet, Jb, cI]
  constructor
  ·intro e; rw [if_pos e]
  ·intro e; rw [if_neg e, J2 (by omega), Jb]
 ·show Yl v _ next (v.kaj.length : Int) = _
  unfold Yl
  rw [cI, if_neg (by omega)]
end Go.M

namespace Go.M
open Go.Md Go.Pl
def Uw : Nat → List Ta → Nat
 | 0, _ => 0
 | d + 1, l => (l.map fun e => 1 + e.Value.kai.length + e.Value.kaj.length + e.Value.kag.length + Uw d e.Value.kaf).sum
def szE (d : Nat) (e : Ta) : Nat := 1 + e.Value.kai.length + e.Value.kaj.length + e.Value.kag.length + Uw d e.Value.kaf
theorem Jb2 (d : Nat) : Uw (d + 1) [] = 0 := rfl
theorem Jed (d : Nat) (e : Ta) (l : List Ta) : Uw (d + 1) (e :: l) = szE d e + Uw (d + 1) l := by
 simp only [Uw, szE, List.map_cons, List.sum_cons]
theorem Jge {d : Nat} {e : Ta} : ∀ {l : List Ta}, e ∈ l → szE d e ≤ Uw (d + 1) l
 | [], h => by cases h
 | x :: l, h => by
  rw [Jed]
  rcases List.mem_cons.1 h with h | h
  ·subst h; omega
  ·have := Jge (d := d) h; omega
theorem Je5 {d : Nat} {e : Ta} {l : List Ta} (h : Uw (d + 1) l ≤ 2000000) (he : e ∈ l) : vB e.Value ∧ Uw d e.Value.kaf ≤ 2000000 := by
 have := Jge (d := d) he
 unfold szE at this
 unfold vB
 omega
def prevT (l : List Ta) : Nat → Option Int
 | 0 => none
 | k + 1 => (l[k]?).map (·.Tag)
def lowP (pr : Option Int) (e : Ta) : Prop := ∃ t, pr = some t ∧ e.Tag ≤ t
noncomputable def Jgv (f : Ta → Int) : Option Int → List Ta → Int
 | _, [] => 0
 | pr, e :: l => open Classical in if e.Tag < 0 ∨ 65535 < e.Tag then 2 else if lowP pr e then 5 else if f e ≠ 0 then f e else Jgv f (some e.Tag) l
theorem list_loop {G : (Int → Option Int) → Int → Option Int} (l : List Ta) (f : Ta → Int)
  (more : ∀ (next : Int → Option Int) (k : Nat) (hk : k < l.length), G next (k : Int) = open Classical in if l[k].Tag < 0 ∨ 65535 < l[k].Tag then some 2 else if lowP (prevT l k) l[k] then some 5 else if f l[k] ≠ 0 then some (f l[k]) else next ((k : Int) + 1))
  (stop : ∀ next, G next (l.length : Int) = some 0) : Wq G 0 = some (Jgv f none l) := by
 have key : ∀ m i : Nat, i + m = l.length → Wq G (i : Int) = some (Jgv f (prevT l i) (l.drop i)) := by
  intro m
  induction m with
  | zero =>
   intro i hi
   have : i = l.length := by omega
   subst this
   rw [List.drop_length]
   exact Qz stop
  | succ m ih =>
   intro i hi
   have hlt : i < l.length := by omega
   rw [List.drop_eq_getElem_cons hlt]
   unfold Jgv
   by_cases h1 : l[i].Tag < 0 ∨ 65535 < l[i].Tag
   ·rw [if_pos h1]
    exact Qz fun next => by rw [more next i hlt, if_pos h1]
   rw [if_neg h1]
   by_cases h2 : lowP (prevT l i) l[i]
   ·rw [if_pos h2]
    exact Qz fun next => by rw [more next i hlt, if_neg h1, if_pos h2]
   rw [if_neg h2]
   by_cases h3 : f l[i] ≠ 0
   ·rw [if_pos h3]
    exact Qz fun next => by rw [more next i hlt, if_neg h1, if_neg h2, if_pos h3]
   rw [if_neg h3, Xv ((i : Int) + 1) (fun next => by rw [more next i hlt, if_neg h1, if_neg h2, if_neg h3])]
   have := ih (i + 1) (by omega)
   have e1 : prevT l (i + 1) = some l[i].Tag := by show (l[i]?).map _ = _; rw [List.getElem?_eq_getElem hlt]; rfl
   rw [e1] at this
   exact this
 have := key l.length 0 (by omega)
 rw [List.drop_zero] at this
 exact this
theorem Jfk {f : Ta → Int} : ∀ {l : List Ta} {pr : Option Int}, Jgv f pr l = 0 → ∀ e ∈ l, f e = 0
 | [], _, _, e, he => by cases he
 | x :: l, pr, h, e, he => by
  unfold Jgv at h
  split at h
  ·omega
  split at h
  ·omega
  split at h
  ·rename_i h1; exact absurd h h1
  ·rename_i h1
   rcases List.mem_cons.1 he with h' | h'
   ·subst h'; simpa using h1
   ·exact Jfk h e h'
noncomputable def dE : Nat → List Ta → Int
 | 0, _ => 4
 | d + 1, l => if 200 < l.length then 4 else Jgv (fun e => if e.Value.kah ≠ 13 then Jbu e.Value else if Uq e.Value ≠ 0 then Uq e.Value else dE d e.Value.kaf) none l
theorem low_step {α : Type} {l : List Ta} {k : Nat} (hk : k < l.length) (hl : l.length ≤ 1000) (J : Option α) (x : α) :
  Qv (decide (0 < (k : Int))) (Jz (gI ((k : Int) - 1)) fun t => Jz (Q9 l t) fun t35 => Qv (decide (l[k].Tag ≤ t35.Tag)) (some x) J) J = open Classical in if lowP (prevT l k) l[k] then some x else J := by
 rw [cI]
 cases k with
 | zero =>
  rw [if_neg (by omega), if_neg]
  rintro ⟨t, h, _⟩
  cases h
 | succ k =>
  have e : prevT l (k + 1) = some l[k].Tag := by show (l[k]?).map _ = _; rw [List.getElem?_eq_getElem (by omega)]; rfl
  rw [if_pos (by omega), J2 (by omega), Jb, show (((k + 1 : Nat) : Int) - 1) = (k : Int) from by omega, Qn (by omega), Jb, cI, e]
  by_cases h : l[k + 1].Tag ≤ l[k].Tag
  ·rw [if_pos h, if_pos ⟨_, rfl, h⟩]
  ·rw [if_neg h, if_neg]
   rintro ⟨t, ht, h'⟩
   cases ht
   exact h h'
theorem Jhj (d : Nat) (l : List Ta) (deep : Int) (hd : deep = 6 - (d : Int)) (h5 : d ≤ 5) (hz : Uw d l ≤ 2000000) : Jaz l deep = some (dE d l) := by
 unfold Jaz
 refine Jhw (fun d (a : List Ta × Int) => some (dE d a.1)) (fun d a => a.2 = 6 - (d : Int) ∧ d ≤ 5 ∧ Uw d a.1 ≤ 2000000) (fun d => d) ?_ d (l, deep) ⟨hd, h5, hz⟩
 rintro next d ⟨l, deep⟩ ⟨hd, h5, hz⟩ ih
 simp only at hd hz
 show Yy next l deep = some (dE d l)
 unfold Yy
 rw [cI, cI]
 cases d with
 | zero => rw [if_pos (by omega)]; rfl
 | succ d =>
  rw [if_neg (by omega)]
  unfold dE
  by_cases hl : 200 < l.length
  ·rw [if_pos (by omega), if_pos hl]
  rw [if_neg (by omega), if_neg hl]
  refine list_loop l _ (fun nx k hk => ?_) (fun nx => ?_)
  ·obtain ⟨hb, hzn⟩ := Je5 hz (List.getElem_mem hk)
   unfold Uc
   rw [cI, if_pos (by omega), Qn hk, Jb, Jet, Jb, cI]
   by_cases h1 : l[k].Tag < 0 ∨ 65535 < l[k].Tag
   ·rw [if_pos h1, if_pos h1]
   rw [if_neg h1, if_neg h1, low_step hk (by omega)]
   congr 1
   unfold Jan
   have e3 : ∀ x : Int, V5 (k : Int) nx x = if x ≠ 0 then some x else nx ((k : Int) + 1) := fun x => by
    unfold V5; rw [cI, J2 (by omega), Jb]
   rw [cI]
   by_cases h13 : l[k].Value.kah ≠ 13
   ·rw [if_pos h13, Jff hb, Jb, e3]; simp only [if_pos h13]
   ·rw [if_neg h13, Jck, Jb, cI]
    simp only [if_neg h13]
    by_cases hf : Uq l[k].Value = 0
    ·have := ih d (l[k].Value.kaf, deep + 1) ⟨by show deep + 1 = _; omega, by omega, hzn⟩ (by omega)
     rw [if_pos hf, J2 (by omega), Jb, this, Jb, e3, if_neg (show ¬ Uq l[k].Value ≠ 0 from fun h => h hf)]
    ·rw [if_neg hf, e3]; simp [hf]
  ·unfold Uc
   rw [cI, if_neg (by omega)]
def okV (v : Td) : Prop := Jfd v.kah ∧ ¬ formP v
def okD : Nat → List Ta → Prop
 | 0, _ => False
 | d + 1, l => l.length ≤ 200 ∧ ∀ e ∈ l, okV e.Value ∧ (e.Value.kah = 13 → okD d e.Value.kaf)
theorem Jc0 {v : Td} (h : Uq v = 0) : okV v := by
 unfold Uq at h
 split at h
 ·omega
 split at h
 ·omega
 rename_i h1 h2
 exact ⟨Classical.byContradiction h1, h2⟩
theorem dE_ok : ∀ {d : Nat} {l : List Ta}, dE d l = 0 → okD d l := by
 intro d
 induction d with
 | zero => intro l h; unfold dE at h; omega
 | succ d ih =>
  intro l h
  unfold dE at h
  split at h
  ·omega
  rename_i hl
  refine ⟨by omega, fun e he => ?_⟩
  have := Jfk h e he
  split at this
  ·rename_i h13
   refine ⟨?_, fun h => absurd h h13⟩
   unfold Jbu at this
   split at this
   ·rename_i h1; exact absurd this h1
   ·rename_i h1; exact Jc0 (by simpa using h1)
  ·split at this
   ·rename_i h1; exact absurd this h1
   ·rename_i h1; exact ⟨Jc0 (by simpa using h1), fun _ => ih this⟩
theorem Jdp {α : Type} (g : α → List UInt8) : ∀ (xs : List α) (a : List UInt8), xs.foldl (fun s x => s ++ Qo (g x)) (Qo a) = Qo (a ++ xs.flatMap g)
 | [], a => by simp
 | x :: xs, a => by rw [List.foldl_cons, ← Y7, Jdp g xs]; simp
noncomputable def ratS (big : Bool) (r : Tf) : List UInt8 := Yb big r.Num 4 ++ Yb big r.Den 4
noncomputable def Zg (big : Bool) (v : Td) : List UInt8 :=
 if v.kah = 2 then v.kai ++ [0] else if v.kah = 7 then v.kai else if v.kah = 5 then v.kag.flatMap (ratS big) else v.kaj.flatMap fun n => Yb big n (J6 v.kah)
def Wp (v : Td) : Nat := if v.kah = 2 then v.kai.length + 1 else if v.kah = 7 then v.kai.length else if v.kah = 5 then v.kag.length else if v.kah = 13 then 1 else v.kaj.length
theorem Jap {α : Type} {g : α → List UInt8} {w : Nat} (h : ∀ x, (g x).length = w) : ∀ xs : List α, (xs.flatMap g).length = xs.length * w
 | [] => by simp
 | x :: xs => by rw [List.flatMap_cons, List.length_append, h, Jap h xs, List.length_cons, Nat.add_mul]; omega
theorem Jd5 (big : Bool) (r : Tf) : (ratS big r).length = 8 := by
 unfold ratS; rw [List.length_append, X4 _ _ (by omega), X4 _ _ (by omega)]
theorem Jec (big : Bool) {v : Td} (hv : okV v) (h13 : v.kah ≠ 13) : (Zg big v).length = Wp v * J6 v.kah := by
 unfold Zg Wp
 by_cases h2 : v.kah = 2
 ·rw [if_pos h2, if_pos h2, List.length_append, h2]; simp [J6]
 rw [if_neg h2, if_neg h2]
 by_cases h7 : v.kah = 7
 ·rw [if_pos h7, if_pos h7, h7]; simp [J6]
 rw [if_neg h7, if_neg h7]
 by_cases h5 : v.kah = 5
 ·rw [if_pos h5, if_pos h5, h5, Jap (Jd5 big)]; rfl
 rw [if_neg h5, if_neg h5, if_neg h13, Jap (w := J6 v.kah) (fun n => X4 _ _ (Jbp _))]
theorem Jgx (big : Bool) (v : Td) : (Zg big v).length ≤ 1 + v.kai.length + 8 * v.kaj.length + 8 * v.kag.length := by
 unfold Zg
 split
 ·rw [List.length_append, List.length_singleton]; omega
 split
 ·omega
 split
 ·rw [Jap (Jd5 big)]; omega
 ·rw [Jap (w := J6 v.kah) (fun n => X4 _ _ (Jbp _))]
  have := Nat.mul_le_mul_left v.kaj.length (Jbp v.kah)
  omega
theorem Jh9 {v : Td} (hb : vB v) : Qe v = some (Wp v : Int) := by
 unfold Qe Wp
 have := hb.1
 rw [cI, cI, cI, cI]
 by_cases h2 : v.kah = 2
 ·rw [if_pos h2, if_pos h2, J2 (by omega), Jb]; rfl
 by_cases h7 : v.kah = 7
 ·rw [if_neg h2, if_pos h7, if_neg h2, if_pos h7]
 by_cases h5 : v.kah = 5
 ·rw [if_neg h2, if_neg h7, if_pos h5, if_neg h2, if_neg h7, if_pos h5]
 by_cases h13 : v.kah = 13
 ·rw [if_neg h2, if_neg h7, if_neg h5, if_pos h13, if_neg h2, if_neg h7, if_neg h5, if_pos h13]; rfl
 rw [if_neg h2, if_neg h7, if_neg h5, if_neg h13, if_neg h2, if_neg h7, if_neg h5, if_neg h13]
theorem ok_parts {v : Td} (hv : okV v) : (¬ Ja7 v.kah → v.kaj = []) ∧ (¬ Jc3 v.kah → v.kai = []) ∧ (v.kah ≠ 5 → v.kag = []) := by
 obtain ⟨_, hf⟩ := hv
 unfold formP at hf
 refine ⟨fun h => ?_, fun h => ?_, fun h => ?_⟩
 ·exact Classical.byContradiction fun e => hf (.inl ⟨h, e⟩)
 ·exact Classical.byContradiction fun e => hf (.inr (.inl ⟨h, e⟩))
 ·exact Classical.byContradiction fun e => hf (.inr (.inr (.inl ⟨h, e⟩)))
theorem tag_ratios {big : Bool} {v : Td} (hb : vB v) (a : List UInt8) (ha : a.length ≤ 16000000) : Jaa big v (Qo a) = some (Qo (a ++ v.kag.flatMap (ratS big))) := by
 unfold Jaa
 have hr := hb.2.2
 rw [← Jdp]
 refine Jea (F := fun next2 s => Vj big v next2 s.1 s.2) v.kag (fun s r => s ++ Qo (ratS big r)) some (fun k s => s.length ≤ a.length + 8 * k) (fun next k s hk hs => ?_) (fun next s hs => ?_) _ (by rw [Ql]; omega)
 ·refine ⟨?_, by show (s ++ _).length ≤ _; rw [List.length_append, Ql, Jd5]; omega⟩
  show Vj big v next (k : Int) s = _
  unfold Vj
  have l1 : (Qo (Yb big v.kag[k].Num 4)).length = 4 := by rw [Ql, X4 _ _ (by omega)]
  have l2 : (Qo (Yb big v.kag[k].Den 4)).length = 4 := by rw [Ql, X4 _ _ (by omega)]
  rw [cI, if_pos (by omega), Qn hk, Jb, tag4, Jb, X5 (by omega), Jb, tag4, Jb, X5 (by rw [List.length_append]; omega), Jb, J2 (by omega), Jb]
  unfold ratS
  rw [Y7, List.append_assoc]
 ·show Vj big v next (v.kag.length : Int) s = _
  unfold Vj
  rw [cI, if_neg (by omega)]
theorem octets_eq {big : Bool} {v : Td} (hb : vB v) (hv : okV v) (h13 : v.kah ≠ 13) : Yr big v = some (Qo (Zg big v)) := by
 have hb' := hb
 obtain ⟨b1, b2, b3⟩ := hb'
 obtain ⟨p1, p2, p3⟩ := ok_parts hv
 unfold Yr Zg
 rw [cI, cI]
 by_cases h2 : v.kah = 2
 ·rw [if_pos h2, if_pos h2, gByt_ok (by omega), Jb]; first | (rw [gApL_ok (by rw [Ql, List.length_singleton]; omega), Jb, Y7]; rfl) | (rw [X5 (by rw [Ql, List.length_singleton]; omega), Jb, Y7]; rfl)
 by_cases h7 : v.kah = 7
 ·rw [if_neg h2, if_pos h7, if_neg h2, if_pos h7, gByt_ok (by omega), Jb]
 rw [if_neg h2, if_neg h7, if_neg h2, if_neg h7]
 have hloop := Jea (F := fun next3 s => Vm big v next3 s.1 s.2) v.kaj (fun s n => s ++ Qo (Yb big n (J6 v.kah))) (Jaa big v) (fun k s => s.length ≤ 8 * k) (fun next k s hk hs => by
   have hw := Jbp v.kah
   have l1 : (Qo (Yb big v.kaj[k] (J6 v.kah))).length = J6 v.kah := by rw [Ql, X4 _ _ hw]
   refine ⟨?_, by show (s ++ _).length ≤ _; rw [List.length_append, l1]; omega⟩
   show Vm big v next (k : Int) s = _
   unfold Vm
   rw [cI, if_pos (by omega), Qn hk, Jb, Jbd, Jb, if_neg h13, num_tag _ _ hw, Jb, X5 (by omega), Jb, J2 (by omega), Jb]) (fun next s hs => by
   show Vm big v next (v.kaj.length : Int) s = _
   unfold Vm
   rw [cI, if_neg (by omega)]) [] (by simp)
 rw [hloop, show ([] : List Int) = Qo [] from rfl, Jdp, List.nil_append]
 have hlen : (v.kaj.flatMap fun n => Yb big n (J6 v.kah)).length ≤ 16000000 := by
  rw [Jap (w := J6 v.kah) (fun n => X4 _ _ (Jbp _))]
  have := Nat.mul_le_mul_left v.kaj.length (Jbp v.kah)
  omega
 rw [tag_ratios hb _ hlen]
 by_cases h5 : v.kah = 5
 ·rw [if_pos h5, p1 (by rw [h5]; unfold Ja7; omega)]; rfl
 ·rw [if_neg h5, p3 h5, List.flatMap_nil, List.append_nil]
end Go.M

namespace Go.M
open Go.Md Go.Pl
noncomputable section
def zer (n : Nat) : List UInt8 := List.replicate n 0
def ev (p : Nat) : Nat := p + p % 2
def pad (p : Nat) : List UInt8 := zer (p % 2)
def put (s : List UInt8) (at_ : Nat) (b : List UInt8) : List UInt8 := s.take at_ ++ b ++ s.drop (at_ + b.length)
theorem U3 (n : Nat) : (zer n).length = n := List.length_replicate
theorem Jev (p : Nat) : (pad p).length = p % 2 := U3 _
theorem Jfv : Qo (zer 4) = [0, 0, 0, 0] := rfl
theorem zer_add (a b : Nat) : zer (a + b) = zer a ++ zer b := List.replicate_append_replicate.symm
theorem Ja3 {s : List UInt8} {a : Nat} {b : List UInt8} (h : a + b.length ≤ s.length) : (put s a b).length = s.length := by
 unfold put
 simp only [List.length_append, List.length_take, List.length_drop]; omega
theorem put_at (A B C b : List UInt8) (h : b.length = B.length) {a : Nat} (ha : a = A.length) : put (A ++ B ++ C) a b = A ++ b ++ C := by
 subst ha
 unfold put
 rw [h, List.append_assoc A B C, List.take_left' rfl, ← List.append_assoc A B C, List.drop_left' (by rw [List.length_append])]
theorem ofStr_take (s : List UInt8) (n : Nat) : (Qo s).take n = Qo (s.take n) := List.map_take.symm
theorem ofStr_drop (s : List UInt8) (n : Nat) : (Qo s).drop n = Qo (s.drop n) := List.map_drop.symm
theorem cpy_put {s b : List UInt8} {a : Int} {m : Nat} {p : Nat} (ha : a = (p : Int)) (hm : b.length ≤ m) : Zf (Qo s) a m (Qo b) = Qo (put s p b) := by
 subst ha
 unfold Zf put
 have h1 : (Qo b).take m = Qo b := List.take_of_length_le (by rw [Ql]; exact hm)
 rw [Int.toNat_natCast, Ql, Nat.min_eq_right hm, h1, ofStr_take, ofStr_drop, Y7, Y7, List.append_assoc]
theorem Jht {big : Bool} {s : List UInt8} {a n : Int} {p : Nat} (ha : a = (p : Int)) (h : p + 4 ≤ s.length) : Js ⟨big, Qo s⟩ a n = some ⟨big, Qo (put s p (Yb big n 4))⟩ := by
 unfold Js
 dsimp only
 rw [Uh (by rw [Ql]; omega), Jb, tag4, Jb]
 rw [cpy_put ha (by rw [X4 _ _ (by omega), List.length_drop, Ql]; omega)]
theorem begin_eq {big : Bool} {s : List UInt8} (hs : s.length ≤ 1099511627776) : Q0 ⟨big, Qo s⟩ = some (((ev s.length : Nat) : Int), ⟨big, Qo (s ++ pad s.length)⟩) := by
 unfold Q0 Zh ev pad
 dsimp only
 rw [gRem_ok (by omega), Jb, cI, Ql]
 have e : ((s.length : Int)).tmod 2 = ((s.length % 2 : Nat) : Int) := by rw [Int.tmod_eq_emod_of_nonneg (by omega)]; omega
 by_cases h : s.length % 2 = 0
 ·rw [e, if_neg (by omega), h]
  simp [zer]
 ·have h1 : s.length % 2 = 1 := by omega
  rw [e, if_pos (by omega), X5 (by rw [Ql, List.length_singleton]; omega), Jb, h1, Y7]
  simp only [List.length_append, Ql, List.length_singleton]
  rfl
def hdrS (big : Bool) (e : Ta) : List UInt8 := Yb big e.Tag 2 ++ Yb big e.Value.kah 2 ++ Yb big (Wp e.Value) 4
theorem Jen (big : Bool) (e : Ta) : (hdrS big e).length = 8 := by
 unfold hdrS; rw [List.length_append, List.length_append, X4 _ _ (by omega), X4 _ _ (by omega), X4 _ _ (by omega)]
def entF (G : List Ta → Nat → List UInt8) (big : Bool) (e : Ta) (q : Nat) : List UInt8 × List UInt8 :=
 if e.Value.kah = 13 then (Yb big (ev q) 4, G e.Value.kaf q)
 else if (Zg big e.Value).length ≤ 4 then (Zg big e.Value ++ zer (4 - (Zg big e.Value).length), [])
 else (Yb big (ev q) 4, pad q ++ Zg big e.Value)
theorem entF_len (G : List Ta → Nat → List UInt8) (big : Bool) (e : Ta) (q : Nat) : (entF G big e q).1.length = 4 := by
 unfold entF
 split
 ·exact X4 _ _ (by omega)
 split
 ·rw [List.length_append, U3]; omega
 ·exact X4 _ _ (by omega)
def bods (G : List Ta → Nat → List UInt8) (big : Bool) : List Ta → Nat → List UInt8 × List UInt8
 | [], _ => ([], [])
 | e :: l, q => (hdrS big e ++ (entF G big e q).1 ++ (bods G big l (q + (entF G big e q).2.length)).1, (entF G big e q).2 ++ (bods G big l (q + (entF G big e q).2.length)).2)
theorem bods_len (G : List Ta → Nat → List UInt8) (big : Bool) : ∀ (l : List Ta) (q : Nat), (bods G big l q).1.length = 12 * l.length
 | [], _ => rfl
 | e :: l, q => by
  unfold bods
  rw [List.length_append, List.length_append, Jen, entF_len, bods_len G big l, List.length_cons]; omega
def dirB (G : List Ta → Nat → List UInt8) (big : Bool) (l : List Ta) (p : Nat) : List UInt8 :=
 pad p ++ Yb big l.length 2 ++ (bods G big l (ev p + 2 + 12 * l.length + 4)).1 ++ zer 4 ++ (bods G big l (ev p + 2 + 12 * l.length + 4)).2
def W2 : Nat → Bool → List Ta → Nat → List UInt8
 | 0, _ => fun _ _ => []
 | d + 1, big => dirB (W2 d big) big
theorem Jgt (G : List Ta → Nat → List UInt8) (big : Bool) (l : List Ta) (p : Nat) : p + (dirB G big l p).length = ev p + 2 + 12 * l.length + 4 + (bods G big l (ev p + 2 + 12 * l.length + 4)).2.length := by
 unfold dirB ev
 simp only [List.length_append, Jev, X4 _ _ (show 2 ≤ 8 by omega), bods_len, U3]; omega
theorem dirS_le (big : Bool) : ∀ (d : Nat) (l : List Ta) (p : Nat), (W2 d big l p).length ≤ 8 + 32 * Uw d l := by
 intro d
 induction d with
 | zero => intro l p; exact Nat.zero_le _
 | succ d ih =>
  intro l p
  have hb : ∀ (l : List Ta) (q : Nat), (bods (W2 d big) big l q).2.length + 12 * l.length ≤ 32 * Uw (d + 1) l := by
   intro l
   induction l with
   | nil => intro q; exact Nat.zero_le _
   | cons e l ih2 =>
    intro q
    unfold bods
    rw [List.length_append, List.length_cons, Jed]
    have h1 := ih2 (q + (entF (W2 d big) big e q).2.length)
    have h2 : (entF (W2 d big) big e q).2.length + 12 ≤ 32 * szE d e := by
     unfold entF szE
     split
     ·have := ih e.Value.kaf q; simp only; omega
     split
     ·simp only [List.length_nil]; omega
     ·have := Jgx big e.Value
      simp only [List.length_append, Jev]; omega
    omega
  have h1 := Jgt (W2 d big) big l p
  have h2 := hb l (ev p + 2 + 12 * l.length + 4)
  show (dirB (W2 d big) big l p).length ≤ _
  have h3 : ev p ≤ p + 1 := by unfold ev; omega
  omega
def hzS (big : Bool) (l : List Ta) : List UInt8 := l.flatMap fun e => hdrS big e ++ zer 4
theorem hz_len (big : Bool) (l : List Ta) : (hzS big l).length = 12 * l.length := by
 unfold hzS
 rw [Jap (w := 12) (fun e => by rw [List.length_append, Jen, U3])]; omega
theorem heads_loop {big : Bool} {l : List Ta} (hl : l.length ≤ 200) (hv : ∀ e ∈ l, vB e.Value) {self : Te × List Ta → Option (Int × Int × Te)} {t15 : Int × Te} (ht : t15.2.kab = big) (s : List UInt8) (hs : s.length ≤ 1099511627776) :
  Wq (fun next5 a => Yk l self t15 next5 a.1 a.2) (0, Qo s) = Wg l self t15 (Qo (s ++ hzS big l)) := by
 unfold hzS
 rw [← Jdp]
 refine Jea (F := fun next5 a => Yk l self t15 next5 a.1 a.2) l (fun s e => s ++ Qo (hdrS big e ++ zer 4)) (Wg l self t15) (fun k a => a.length ≤ s.length + 12 * k) (fun next k a hk ha => ?_) (fun next a ha => ?_) _ (by rw [Ql]; omega)
 ·refine ⟨?_, by show (a ++ _).length ≤ _; rw [List.length_append, Ql, List.length_append, Jen, U3]; omega⟩
  show Yk l self t15 next (k : Int) a = _
  unfold Yk
  have n2 : ∀ n, (Qo (Yb big n 2)).length = 2 := fun n => by rw [Ql, X4 _ _ (by omega)]
  have n4 : ∀ n, (Qo (Yb big n 4)).length = 4 := fun n => by rw [Ql, X4 _ _ (by omega)]
  rw [cI, if_pos (by omega), Qn hk, Jb, ht, tag2, Jb, X5 (by rw [n2]; omega), Jb, tag2, Jb, X5 (by rw [List.length_append, n2, n2]; omega), Jb, Jh9 (hv _ (List.getElem_mem hk)), Jb, tag4, Jb, X5 (by rw [List.length_append, List.length_append, n2, n2, n4]; omega), Jb, X5 (by rw [List.length_append, List.length_append, List.length_append, n2, n2, n4]; simp; omega), Jb, J2 (by omega), Jb]
  unfold hdrS
  rw [Y7, Y7, Y7, Jfv]
  simp only [List.append_assoc]
 ·show Yk l self t15 next (l.length : Int) a = _
  unfold Yk
  rw [cI, if_neg (by omega)]
theorem prog_loop {big : Bool} {l : List Ta} (hl : l.length ≤ 200) (hv : ∀ e ∈ l, okV e.Value ∧ vB e.Value) {G : List Ta → Nat → List UInt8} {self : Te × List Ta → Option (Int × Int × Te)}
  (hself : ∀ e ∈ l, e.Value.kah = 13 → ∀ s : List UInt8, s.length + (G e.Value.kaf s.length).length ≤ 1099511627776 → ∃ q, self (⟨big, Qo s⟩, e.Value.kaf) = some (((ev s.length : Nat) : Int), q, ⟨big, Qo (s ++ G e.Value.kaf s.length)⟩))
  {t15 : Int × Te} {at_ : Nat} (ht : t15.1 = (at_ : Int)) (L : List Int) :
  ∀ (l2 : List Ta) (i : Nat) (X Y : List UInt8), i + l2.length = l.length → l.drop i = l2 → X.length = at_ + 2 + 12 * i → X.length + 12 * l2.length + 4 + Y.length + (bods G big l2 (X.length + 12 * l2.length + 4 + Y.length)).2.length ≤ 1099511627776 →
   Wq (fun next3 a => Yv l self t15 L next3 a.1 a.2.1 a.2.2) ((i : Int), big, Qo (X ++ hzS big l2 ++ zer 4 ++ Y)) = some (t15.1, (L.length : Int), ⟨big, Qo (X ++ (bods G big l2 (X.length + 12 * l2.length + 4 + Y.length)).1 ++ zer 4 ++ Y ++ (bods G big l2 (X.length + 12 * l2.length + 4 + Y.length)).2)⟩) := by
 intro l2
 induction l2 with
 | nil =>
  intro i X Y hi _ hX hM
  refine Qz fun next => ?_
  show Yv l self t15 L next (i : Int) big _ = _
  unfold Yv
  rw [cI, if_neg (by rw [List.length_nil] at hi; omega)]
  unfold Ja2 bods hzS
  simp
 | cons e l2 ih =>
  intro i X Y hi hd hX hM
  have hlt : i < l.length := by rw [List.length_cons] at hi; omega
  have he : l[i] = e := by have := List.drop_eq_getElem_cons hlt; rw [hd] at this; injection this with h1 h2; exact h1.symm
  have hd' : l.drop (i + 1) = l2 := by have := List.drop_eq_getElem_cons hlt; rw [hd] at this; injection this with h1 h2; exact h2.symm
  have hmem : e ∈ l := he ▸ List.getElem_mem hlt
  obtain ⟨hok, hvb⟩ := hv e hmem
  generalize hp : X.length + 12 * (e :: l2).length + 4 + Y.length = p at hM ⊢
  rw [List.length_cons] at hp hi
  unfold bods at hM ⊢
  simp only at hM ⊢
  generalize hF : entF G big e p = F at hM ⊢
  obtain ⟨f, b⟩ := F
  have hf4 : f.length = 4 := by have := entF_len G big e p; rw [hF] at this; exact this
  simp only at hM ⊢
  rw [List.length_append] at hM
  have hS : (X ++ hzS big (e :: l2) ++ zer 4 ++ Y).length = p := by
   simp only [List.length_append, hz_len, U3, List.length_cons]; omega
  have hsplit : ∀ Z : List UInt8, X ++ hzS big (e :: l2) ++ zer 4 ++ Y ++ Z = (X ++ hdrS big e) ++ zer 4 ++ (hzS big l2 ++ zer 4 ++ Y ++ Z) := fun Z => by
   unfold hzS
   rw [List.flatMap_cons]
   simp only [List.append_assoc]
  have hpos : (at_ : Int) + 2 + 12 * (i : Int) + 8 = ((X ++ hdrS big e).length : Int) := by
   rw [List.length_append, Jen]; omega
  have hround : ∀ next : Int × Bool × List Int → Option (Int × Int × Te), Yv l self t15 L next (i : Int) big (Qo (X ++ hzS big (e :: l2) ++ zer 4 ++ Y)) = next (((i + 1 : Nat) : Int), big, Qo ((X ++ hdrS big e ++ f) ++ hzS big l2 ++ zer 4 ++ (Y ++ b))) := fun next => by
   unfold Yv
   have e4 : ∀ a m, Z7 (i : Int) next a m = next (((i + 1 : Nat) : Int), a, m) := fun a m => by
    unfold Z7; rw [J2 (by omega), Jb]; rfl
   rw [cI, if_pos (by omega), Qn hlt, Jb, he, ht, J2 (by omega), Jb, J2 (by omega), Jb, J2 (by omega), Jb, J2 (by omega), Jb, cI]
   unfold entF at hF
   by_cases h13 : e.Value.kah = 13
   ·rw [if_pos h13] at hF ⊢
    injection hF with hF1 hF2
    obtain ⟨q, hq⟩ := hself e hmem h13 (X ++ hzS big (e :: l2) ++ zer 4 ++ Y) (by rw [hS, hF2]; omega)
    rw [hq, Jb]
    simp only
    rw [hS, hF2, Jht (p := (X ++ hdrS big e).length) hpos (by rw [hsplit]; simp only [List.length_append, U3]; omega), Jb, e4, hF1, hsplit, put_at _ _ _ _ (by rw [hf4, U3]) rfl]
    simp only [List.append_assoc]
   ·rw [if_neg h13] at hF ⊢
    rw [octets_eq hvb hok h13, Jb, cI, Ql]
    by_cases ho : (Zg big e.Value).length ≤ 4
    ·rw [if_pos ho] at hF
     injection hF with hF1 hF2
     have hpn : ((at_ : Int) + 2 + 12 * (i : Int) + 8).toNat = X.length + 8 := by omega
     rw [if_pos (by omega), Uh (by rw [Ql, hS]; omega), Jb, e4, cpy_put (p := (X ++ hdrS big e).length) hpos (by rw [List.length_drop, Ql, hS, hpn]; omega)]
     have h0 := hsplit []
     rw [List.append_nil] at h0
     have hz : zer 4 = zer (Zg big e.Value).length ++ zer (4 - (Zg big e.Value).length) := by rw [← zer_add]; congr 1; omega
     have h1 : ∀ R, (X ++ hdrS big e) ++ zer 4 ++ R = (X ++ hdrS big e) ++ zer (Zg big e.Value).length ++ (zer (4 - (Zg big e.Value).length) ++ R) := fun R => by
      rw [hz]
      simp only [List.append_assoc]
     rw [h0]
     rw [h1, put_at _ _ _ _ (by rw [U3]) rfl, ← hF1, ← hF2]
     simp only [List.append_assoc, List.append_nil]
    ·rw [if_neg ho] at hF
     injection hF with hF1 hF2
     rw [if_neg (by omega), begin_eq (by rw [hS]; omega), Jb]
     simp only
     have hol := Jgx big e.Value
     rw [hS, Jht (p := (X ++ hdrS big e).length) hpos (by rw [hsplit]; simp only [List.length_append, U3]; omega), Jb]
     simp only
     rw [X5 (by rw [Ql, Ql, Ja3 (by rw [hsplit, X4 _ _ (by omega)]; simp only [List.length_append, U3]; omega), List.length_append, hS, Jev]; rw [← hF2, List.length_append, Jev] at hM; omega), Jb, e4, hsplit, put_at _ _ _ _ (by rw [X4 _ _ (by omega), U3]) rfl, ← Y7, ← hF1, ← hF2]
     simp only [List.append_assoc]
  rw [Xv _ hround]
  have hq : (X ++ hdrS big e ++ f).length + 12 * l2.length + 4 + (Y ++ b).length = p + b.length := by
   simp only [List.length_append, Jen, hf4]; omega
  have := ih (i + 1) (X ++ hdrS big e ++ f) (Y ++ b) (by omega) hd' (by simp only [List.length_append, Jen, hf4]; omega) (by rw [hq]; omega)
  rw [this, hq]
  simp only [List.append_assoc]
end
end Go.M

namespace Go.M
open Go.Md Go.Pl
theorem dir_eq (d : Nat) (big : Bool) (s : List UInt8) (l : List Ta) (hok : okD d l) (hz : Uw d l ≤ 2000000) (hM : s.length + (W2 d big l s.length).length ≤ 1099511627776) :
  Jaw ⟨big, Qo s⟩ l = some (((ev s.length : Nat) : Int), ((ev s.length + 2 + 12 * l.length : Nat) : Int), ⟨big, Qo (s ++ W2 d big l s.length)⟩) := by
 unfold Jaw
 have := Jhw (F := fun (self : (Te × List Ta) → Option (Int × Int × Te)) (s : Te × List Ta) => Yh self s.1 s.2)
  (fun (g : Nat × Bool × List UInt8) (a : Te × List Ta) => some (((ev g.2.2.length : Nat) : Int), ((ev g.2.2.length + 2 + 12 * a.2.length : Nat) : Int), ⟨g.2.1, Qo (g.2.2 ++ W2 g.1 g.2.1 a.2 g.2.2.length)⟩))
  (fun g a => a.1 = ⟨g.2.1, Qo g.2.2⟩ ∧ okD g.1 a.2 ∧ Uw g.1 a.2 ≤ 2000000 ∧ g.2.2.length + (W2 g.1 g.2.1 a.2 g.2.2.length).length ≤ 1099511627776) (fun g => g.1) ?_ (d, big, s) (⟨big, Qo s⟩, l) ⟨rfl, hok, hz, hM⟩
 ·exact this
 rintro next ⟨d, big, s⟩ ⟨w, l⟩ ⟨hw, hok, hz, hM⟩ ih
 simp only at hw hok hz hM ih ⊢
 subst hw
 cases d with
 | zero => exact hok.elim
 | succ d =>
  obtain ⟨hl, hall⟩ := hok
  have hM' := Jgt (W2 d big) big l s.length
  have hMM : s.length + (dirB (W2 d big) big l s.length).length ≤ 1099511627776 := hM
  unfold Yh
  have hev : ev s.length = (s ++ pad s.length).length := by rw [List.length_append, Jev]; rfl
  rw [begin_eq (by omega), Jb]
  dsimp only
  rw [tag2, Jb, X5 (by rw [Ql, Ql, ← hev, X4 _ _ (by omega)]; omega), Jb, ← Y7]
  have hX : (s ++ pad s.length ++ Yb big l.length 2).length = ev s.length + 2 := by rw [List.length_append, ← hev, X4 _ _ (by omega)]
  rw [heads_loop hl (fun e he => (Je5 hz he).1) rfl _ (by rw [hX]; omega)]
  unfold Wg
  dsimp only
  rw [X5 (by rw [Ql, List.length_append, hX, hz_len]; simp; omega), Jb, ← Jfv, ← Y7]
  have := prog_loop (big := big) hl (fun e he => ⟨(hall e he).1, (Je5 hz he).1⟩) (G := W2 d big) (self := next) (fun e he h13 s' hs' => ⟨_, ih (d, big, s') (⟨big, Qo s'⟩, e.Value.kaf) ⟨rfl, (hall e he).2 h13, (Je5 hz he).2, hs'⟩ (by simp)⟩)
   (t15 := (((ev s.length : Nat) : Int), ⟨big, Qo (s ++ pad s.length)⟩)) (at_ := ev s.length) rfl (Qo (s ++ pad s.length ++ Yb big l.length 2 ++ hzS big l)) l 0 (s ++ pad s.length ++ Yb big l.length 2) [] (by omega) rfl (by rw [hX]) (by rw [hX, List.length_nil, Nat.add_zero]; omega)
  rw [List.append_nil] at this
  refine this.trans ?_
  rw [hX, Ql, List.length_append, hX, hz_len, List.length_nil, Nat.add_zero, List.append_nil]
  show some _ = some (_, _, (⟨big, Qo (s ++ dirB (W2 d big) big l s.length)⟩ : Te))
  unfold dirB
  simp only [List.append_assoc]
end Go.M

namespace Go.M
open Go.Md Go.Pl
noncomputable section
theorem even_eq (p : Nat) (hp : p ≤ 4611686018427387904) : Jcm (p : Int) = some ((ev p : Nat) : Int) := by
 unfold Jcm ev
 have e : ((p : Int)).tmod 2 = ((p % 2 : Nat) : Int) := by rw [Int.tmod_eq_emod_of_nonneg (by omega)]; omega
 rw [gRem_ok (by omega), Jb, e, J2 (by omega), Jb]; rfl
theorem Jhl {v : Td} (hb : vB v) (hok : okV v) (h13 : v.kah ≠ 13) (big : Bool) : Vf v = some ((Zg big v).length : Int) := by
 unfold Vf
 have h1 := Jgx big v
 have h2 := Jec big hok h13
 obtain ⟨b1, b2, b3⟩ := hb
 rw [Jh9 ⟨b1, b2, b3⟩, Jb, Jbd, Jb, if_neg h13, ← Int.natCast_mul, ← h2, J2 (by omega), Jb]
theorem dirEnd_eq (big : Bool) (d : Nat) (l : List Ta) (p : Nat) (hok : okD d l) (hz : Uw d l ≤ 2000000) (hM : p + (W2 d big l p).length ≤ 1099511627776) :
  Jdn l (p : Int) = some (((p + (W2 d big l p).length : Nat)) : Int) := by
 unfold Jdn
 have := Jhw (F := fun (self : (List Ta × Int) → Option Int) (s : List Ta × Int) => Zr self s.1 s.2)
  (fun (g : Nat × Nat) (a : List Ta × Int) => some (((g.2 + (W2 g.1 big a.1 g.2).length : Nat)) : Int))
  (fun g a => a.2 = (g.2 : Int) ∧ okD g.1 a.1 ∧ Uw g.1 a.1 ≤ 2000000 ∧ g.2 + (W2 g.1 big a.1 g.2).length ≤ 1099511627776) (fun g => g.1) ?_ (d, p) (l, (p : Int)) ⟨rfl, hok, hz, hM⟩
 ·exact this
 rintro next ⟨d, p⟩ ⟨l, a⟩ ⟨hw, hok, hz, hM⟩ ih
 simp only at hw hok hz hM ih ⊢
 subst hw
 cases d with
 | zero => exact hok.elim
 | succ d =>
  obtain ⟨hl, hall⟩ := hok
  have hM' := Jgt (W2 d big) big l p
  have hMM : p + (dirB (W2 d big) big l p).length ≤ 1099511627776 := hM
  unfold Zr
  rw [even_eq p (by omega), Jb, J2 (by omega), Jb, J2 (by omega), Jb, J2 (by omega), Jb, J2 (by omega), Jb]
  have key : ∀ (l2 : List Ta) (i q : Nat), i + l2.length = l.length → l.drop i = l2 → q + (bods (W2 d big) big l2 q).2.length ≤ 1099511627776 → Wq (fun next1 s => Vn l next next1 s.1 s.2) ((q : Int), (i : Int)) = some (((q + (bods (W2 d big) big l2 q).2.length : Nat)) : Int) := by
   intro l2
   induction l2 with
   | nil =>
    intro i q hi _ _
    refine Qz fun nx => ?_
    show Vn l next nx (q : Int) (i : Int) = _
    unfold Vn
    rw [cI, if_neg (by rw [List.length_nil] at hi; omega)]
    rfl
   | cons e l2 ih2 =>
    intro i q hi hd hq
    have hlt : i < l.length := by rw [List.length_cons] at hi; omega
    have he : l[i] = e := by have := List.drop_eq_getElem_cons hlt; rw [hd] at this; injection this with h1 h2; exact h1.symm
    have hd' : l.drop (i + 1) = l2 := by have := List.drop_eq_getElem_cons hlt; rw [hd] at this; injection this with h1 h2; exact h2.symm
    have hmem : e ∈ l := he ▸ List.getElem_mem hlt
    have hvb := (Je5 hz hmem).1
    have hok := (hall e hmem).1
    rw [List.length_cons] at hi
    unfold bods at hq ⊢
    simp only at hq ⊢
    generalize hF : entF (W2 d big) big e q = F at hq ⊢
    obtain ⟨f, b⟩ := F
    simp only at hq ⊢
    rw [List.length_append] at hq ⊢
    have hround : ∀ nx : Int × Int → Option Int, Vn l next nx (q : Int) (i : Int) = nx (((q + b.length : Nat) : Int), ((i + 1 : Nat) : Int)) := fun nx => by
     unfold Vn
     have e2 : ∀ x, Uf (i : Int) nx x = nx (x, ((i + 1 : Nat) : Int)) := fun x => by
      unfold Uf; rw [J2 (by omega), Jb]; rfl
     rw [cI, if_pos (by omega), Qn hlt, Jb, he, cI]
     unfold entF at hF
     by_cases h13 : e.Value.kah = 13
     ·rw [if_pos h13] at hF ⊢
      obtain ⟨_, hF2⟩ := Prod.mk.inj hF
      have := ih (d, q) (e.Value.kaf, (q : Int)) ⟨rfl, (hall e hmem).2 h13, (Je5 hz hmem).2, by show q + (W2 d big e.Value.kaf q).length ≤ _; rw [hF2]; omega⟩ (by simp)
      rw [this, Jb, e2]
      show nx (((q + (W2 d big e.Value.kaf q).length : Nat) : Int), _) = _
      rw [hF2]
     ·rw [if_neg h13] at hF ⊢
      rw [Jhl hvb hok h13 big, Jb, cI, e2]
      by_cases ho : (Zg big e.Value).length ≤ 4
      ·rw [if_pos ho] at hF
       obtain ⟨_, hF2⟩ := Prod.mk.inj hF
       rw [if_neg (by omega), ← hF2]; rfl
      ·rw [if_neg ho] at hF
       obtain ⟨_, hF2⟩ := Prod.mk.inj hF
       have hbl : b.length = q % 2 + (Zg big e.Value).length := by rw [← hF2, List.length_append, Jev]
       rw [if_pos (by omega), even_eq q (by omega), Jb, Jb, J2 (by unfold ev; omega), Jb, e2, hbl]
       congr 2
       unfold ev; omega
    rw [Xv _ hround, ih2 (i + 1) (q + b.length) (by omega) hd' (by omega)]
    congr 2
    omega
  have := key l 0 (ev p + 2 + 12 * l.length + 4) (by omega) rfl (by omega)
  have e0 : ((ev p : Nat) : Int) + 2 + 12 * (l.length : Int) + 4 = ((ev p + 2 + 12 * l.length + 4 : Nat) : Int) := by omega
  rw [e0]
  refine this.trans ?_
  rw [← hM']
  rfl
def filS (big : Bool) : List (List Ta) → List UInt8 → Nat → List UInt8
 | [], s, _ => s
 | l :: ls, s, link => filS big ls (put (s ++ W2 5 big l s.length) link (Yb big ((ev s.length : Nat) : Int) 4)) (ev s.length + 2 + 12 * l.length)
def lenF (big : Bool) : List (List Ta) → Nat → Nat
 | [], p => p
 | l :: ls, p => lenF big ls (p + (W2 5 big l p).length)
def szL : List (List Ta) → Nat
 | [] => 0
 | l :: ls => 8 + 32 * Uw 5 l + szL ls
def dirsOk (ls : List (List Ta)) : Prop := ∀ l ∈ ls, okD 5 l ∧ Uw 5 l ≤ 2000000
theorem dir5_len {big : Bool} {l : List Ta} {p : Nat} : ev p + 2 + 12 * l.length + 4 ≤ p + (W2 5 big l p).length := by
 have := Jgt (W2 4 big) big l p
 show _ ≤ p + (dirB (W2 4 big) big l p).length
 omega
theorem filS_len (big : Bool) : ∀ (ls : List (List Ta)) (s : List UInt8) (link : Nat), link + 4 ≤ s.length → (filS big ls s link).length = lenF big ls s.length
 | [], _, _, _ => rfl
 | l :: ls, s, link, h => by
  unfold filS lenF
  have h5 := dir5_len (big := big) (l := l) (p := s.length)
  have hp : (put (s ++ W2 5 big l s.length) link (Yb big ((ev s.length : Nat) : Int) 4)).length = s.length + (W2 5 big l s.length).length := by
   rw [Ja3 (by rw [X4 _ _ (by omega), List.length_append]; omega), List.length_append]
  rw [filS_len big ls _ _ (by rw [hp]; omega), hp]
theorem oct_loop (f : Tg) (hok : dirsOk f.kal) (hn : f.kal.length ≤ 20) : ∀ (ls : List (List Ta)) (i : Nat) (s : List UInt8) (link : Nat), i + ls.length = f.kal.length → f.kal.drop i = ls → link + 4 ≤ s.length → s.length + szL ls ≤ 549755813888 →
  Wq (fun next3 a => Z4 f next3 a.1 a.2.1 a.2.2.1 a.2.2.2) ((link : Int), (i : Int), f.Big, Qo s) = some (filS f.Big ls s link) := by
 intro ls
 induction ls with
 | nil =>
  intro i s link hi _ _ _
  rw [List.length_nil] at hi
  refine Qz fun next => ?_
  ·show Z4 f next _ (i : Int) f.Big (Qo s) = _
   unfold Z4
   rw [cI, if_neg (by omega)]
   unfold Jb8 filS
   rw [Jhi]
 | cons l ls ih =>
  intro i s link hi hd hlk hsz
  rw [List.length_cons] at hi
  have hlt : i < f.kal.length := by omega
  have he : f.kal[i] = l := by have := List.drop_eq_getElem_cons hlt; rw [hd] at this; injection this with h1 h2; exact h1.symm
  have hd' : f.kal.drop (i + 1) = ls := by have := List.drop_eq_getElem_cons hlt; rw [hd] at this; injection this with h1 h2; exact h2.symm
  obtain ⟨o1, o2⟩ := hok l (he ▸ List.getElem_mem hlt)
  unfold szL at hsz
  have hle := dirS_le f.Big 5 l s.length
  have h5 := dir5_len (big := f.Big) (l := l) (p := s.length)
  have hl200 : l.length ≤ 200 := o1.1
  have hp : (put (s ++ W2 5 f.Big l s.length) link (Yb f.Big ((ev s.length : Nat) : Int) 4)).length = s.length + (W2 5 f.Big l s.length).length := by
   rw [Ja3 (by rw [X4 _ _ (by omega), List.length_append]; omega), List.length_append]
  have a2 := ih (i + 1) (put (s ++ W2 5 f.Big l s.length) link (Yb f.Big ((ev s.length : Nat) : Int) 4)) (ev s.length + 2 + 12 * l.length) (by omega) hd' (by rw [hp]; omega) (by rw [hp]; omega)
  have hev : ev s.length ≤ s.length + 1 := by unfold ev; omega
  ·refine Eq.trans (Xv _ fun next => ?_) a2
   show Z4 f next (link : Int) (i : Int) f.Big (Qo s) = _
   unfold Z4
   rw [cI, if_pos (by omega), Qn hlt, Jb, he, dir_eq 5 f.Big s l o1 o2 (by omega), Jb]
   show Jz (Js ⟨f.Big, Qo (s ++ W2 5 f.Big l s.length)⟩ _ _) _ = _
   rw [Jht (p := link) rfl (by rw [List.length_append]; omega), Jb, J2 (by omega), Jb]
   rfl
def headS (big : Bool) : List UInt8 := (if big then [77, 77] else [73, 73]) ++ Yb big 42 2 ++ zer 4
theorem Jey (big : Bool) : (headS big).length = 8 := by
 unfold headS
 rw [List.length_append, List.length_append, X4 _ _ (by omega), U3]
 cases big <;> rfl
def octF (f : Tg) : List UInt8 := filS f.Big f.kal (headS f.Big) 4
theorem octF_len (f : Tg) : (octF f).length = lenF f.Big f.kal 8 := by
 unfold octF; rw [filS_len _ _ _ _ (by rw [Jey]; omega), Jey]
theorem written_eq {f : Tg} (hok : dirsOk f.kal) (hn : f.kal.length ≤ 20) (hsz : szL f.kal ≤ 274877906944) : Jcn f = some (octF f) := by
 have key : ∀ m : List UInt8, m.length = 2 → m ++ Yb f.Big 42 2 ++ zer 4 = headS f.Big → Uu f (Qo m) = some (octF f) := fun m hm hh => by
  unfold Uu
  have l2 : (Qo (Yb f.Big 42 2)).length = 2 := by rw [Ql, X4 _ _ (by omega)]
  rw [tag2, Jb, gApN_ok (by rw [l2, Ql, hm]; omega), Jb, X5 (by rw [List.length_append, l2, Ql, hm]; simp), Jb, ← Y7, ← Jfv, ← Y7, hh, Ql, List.length_append, hm, X4 _ _ (by omega)]
  exact (oct_loop f hok hn f.kal 0 (headS f.Big) 4 (by omega) rfl (by rw [Jey]; omega) (by rw [Jey]; omega))
 unfold Jcn
 cases h : f.Big
 ·rw [Qm, show ([73, 73] : List Int) = Qo [73, 73] from rfl, key [73, 73] rfl (by rw [h]; rfl)]
 ·rw [Xf, show ([77, 77] : List Int) = Qo [77, 77] from rfl, key [77, 77] rfl (by rw [h]; rfl)]
theorem size_eq {f : Tg} (hok : dirsOk f.kal) (hn : f.kal.length ≤ 20) (hsz : szL f.kal ≤ 274877906944) : Jgl f = some ((octF f).length : Int) := by
 rw [octF_len]
 unfold Jgl
 have key : ∀ (ls : List (List Ta)) (i p : Nat), i + ls.length = f.kal.length → f.kal.drop i = ls → p + szL ls ≤ 549755813888 → Wq (fun next1 s => Wy f next1 s.1 s.2) ((p : Int), (i : Int)) = some (lenF f.Big ls p : Int) := by
  intro ls
  induction ls with
  | nil =>
   intro i p hi _ _
   rw [List.length_nil] at hi
   refine Qz fun next => ?_
   show Wy f next (p : Int) (i : Int) = _
   unfold Wy
   rw [cI, if_neg (by omega)]; rfl
  | cons l ls ih =>
   intro i p hi hd hs
   rw [List.length_cons] at hi
   have hlt : i < f.kal.length := by omega
   have he : f.kal[i] = l := by have := List.drop_eq_getElem_cons hlt; rw [hd] at this; injection this with h1 h2; exact h1.symm
   have hd' : f.kal.drop (i + 1) = ls := by have := List.drop_eq_getElem_cons hlt; rw [hd] at this; injection this with h1 h2; exact h2.symm
   obtain ⟨o1, o2⟩ := hok l (he ▸ List.getElem_mem hlt)
   unfold szL at hs
   have hle := dirS_le f.Big 5 l p
   refine Eq.trans (Xv (((p + (W2 5 f.Big l p).length : Nat) : Int), ((i + 1 : Nat) : Int)) fun next => ?_) (ih (i + 1) (p + (W2 5 f.Big l p).length) (by omega) hd' (by omega))
   show Wy f next (p : Int) (i : Int) = _
   unfold Wy
   rw [cI, if_pos (by omega), Qn hlt, Jb, he, dirEnd_eq f.Big 5 l p o1 o2 (by omega), Jb, J2 (by omega), Jb]
   rfl
 exact key f.kal 0 8 (by omega) rfl (by omega)
def W3 : List (List Ta) → Int
 | [] => 0
 | l :: ls => if dE 5 l ≠ 0 then dE 5 l else W3 ls
theorem Jhd : ∀ {ls : List (List Ta)}, W3 ls = 0 → ∀ l ∈ ls, dE 5 l = 0
 | [], _, l, hl => by cases hl
 | x :: ls, h, l, hl => by
  unfold W3 at h
  split at h
  ·rename_i h1; exact absurd h h1
  ·rename_i h1
   rcases List.mem_cons.1 hl with h' | h'
   ·subst h'; simpa using h1
   ·exact Jhd h l h'
theorem scan_dirs {F : (Int → Option Int) → Int → Option Int} (ls : List (List Ta)) (o : Option Int) (more : ∀ (next : Int → Option Int) (k : Nat) (hk : k < ls.length), F next (k : Int) = if dE 5 ls[k] ≠ 0 then some (dE 5 ls[k]) else next ((k : Int) + 1)) (stop : W3 ls = 0 → ∀ next, F next (ls.length : Int) = o) :
  Wq F 0 = if W3 ls ≠ 0 then some (W3 ls) else o := by
 have key : ∀ m i : Nat, i + m = ls.length → (W3 ls = W3 (ls.drop i)) → Wq F (i : Int) = if W3 ls ≠ 0 then some (W3 ls) else o := by
  intro m
  induction m with
  | zero =>
   intro i hi hf
   have : i = ls.length := by omega
   subst this
   rw [List.drop_length] at hf
   have h0 : W3 ls = 0 := hf
   rw [if_neg (by simpa using h0)]
   exact Qz (stop h0)
  | succ m ih =>
   intro i hi hf
   have hlt : i < ls.length := by omega
   rw [List.drop_eq_getElem_cons hlt] at hf
   unfold W3 at hf
   by_cases h : dE 5 ls[i] ≠ 0
   ·rw [if_pos h] at hf
    have : Wq F (i : Int) = some (dE 5 ls[i]) := Qz fun next => by rw [more next i hlt, if_pos h]
    have hf' : W3 ls = dE 5 ls[i] := by unfold W3; exact hf
    rw [this, hf', if_pos h]
   ·rw [if_neg h] at hf
    rw [Xv ((i : Int) + 1) (fun next => by rw [more next i hlt, if_neg h])]
    exact ih (i + 1) (by omega) (by conv => lhs; unfold W3
                                    exact hf)
 exact key ls.length 0 (by omega) rfl
def Jcj (f : Tg) : Prop := (∀ l ∈ f.kal, Uw 5 l ≤ 2000000) ∧ szL f.kal ≤ 274877906944
def Jac (f : Tg) : Int := if 20 < f.kal.length then 4 else if W3 f.kal ≠ 0 then W3 f.kal else if 65000 < (octF f).length then 4 else 0
theorem dirs_ok {f : Tg} (hb : Jcj f) (h : W3 f.kal = 0) : dirsOk f.kal := fun l hl => ⟨dE_ok (Jhd h l hl), hb.1 l hl⟩
theorem Us {f : Tg} (hb : Jcj f) : Zw f = some (Jac f) := by
 unfold Zw Jac
 rw [cI]
 by_cases hn : 20 < f.kal.length
 ·rw [if_pos (by omega), if_pos hn]
 rw [if_neg (by omega), if_neg hn]
 rw [scan_dirs (F := fun next2 s => V9 f next2 s) f.kal (some (if 65000 < (octF f).length then 4 else 0)) (fun next k hk => ?_) (fun h0 next => ?_)]
 ·split <;> rfl
 ·show V9 f next (k : Int) = _
  unfold V9
  rw [cI, if_pos (by omega), Qn hk, Jb, Jhj 5 _ 1 (by omega) (by omega) (hb.1 _ (List.getElem_mem hk)), Jb, cI, J2 (by omega), Jb]
 ·show V9 f next (f.kal.length : Int) = _
  unfold V9
  rw [cI, if_neg (by omega)]
  unfold Jdt
  rw [size_eq (dirs_ok hb h0) (by omega) hb.2, Jb, cI]
  by_cases h : 65000 < (octF f).length
  ·rw [if_pos (by omega), if_pos h]
  ·rw [if_neg (by omega), if_neg h]
theorem Jh4 {f : Tg} (hb : Jcj f) (h : Jac f = 0) : dirsOk f.kal ∧ f.kal.length ≤ 20 := by
 unfold Jac at h
 split at h
 ·omega
 rename_i hn
 split at h
 ·rename_i h1; exact absurd h h1
 ·rename_i h1; exact ⟨dirs_ok hb (by simpa using h1), by omega⟩
theorem szL_eq : ∀ ls : List (List Ta), szL ls = 8 * ls.length + 32 * (ls.map (Uw 5)).sum
 | [] => rfl
 | l :: ls => by unfold szL; rw [szL_eq ls, List.map_cons, List.sum_cons, List.length_cons]; omega
theorem sz_in {l : List Ta} : ∀ {ls : List (List Ta)}, l ∈ ls → Uw 5 l ≤ (ls.map (Uw 5)).sum
 | [], h => by cases h
 | x :: ls, h => by
  rw [List.map_cons, List.sum_cons]
  rcases List.mem_cons.1 h with h | h
  ·subst h; omega
  ·have := sz_in h; omega
theorem fileB_of {f : Tg} (h1 : f.kal.length ≤ 1048576) (h2 : (f.kal.map (Uw 5)).sum ≤ 1048576) : Jcj f :=
 ⟨fun l hl => by have := sz_in hl; omega, by rw [szL_eq]; omega⟩
end
end Go.M

namespace Go.M
open Go.Md Go.Pl
def Vg (big : Bool) (bs : List UInt8) : Nat := (if big then bs else bs.reverse).foldl (fun v b => v * 256 + b.toNat) 0
theorem fold_bd : ∀ (L : List UInt8) (v : Nat), L.foldl (fun v b => v * 256 + b.toNat) v < (v + 1) * 256 ^ L.length
 | [], v => by simp
 | b :: L, v => by
  rw [List.foldl_cons, List.length_cons, Nat.pow_succ]
  have h := fold_bd L (v * 256 + b.toNat)
  have hb := b.toNat_lt
  have : (v * 256 + b.toNat + 1) * 256 ^ L.length ≤ ((v + 1) * 256) * 256 ^ L.length := Nat.mul_le_mul_right _ (by omega)
  calc _ < _ := h
   _ ≤ _ := this
   _ = _ := by rw [Nat.mul_assoc, Nat.mul_comm 256]
theorem valB_lt (big : Bool) (bs : List UInt8) : Vg big bs < 256 ^ bs.length := by
 unfold Vg
 have := fold_bd (if big then bs else bs.reverse) 0
 cases big <;> simpa using this
theorem valB4 (big : Bool) {bs : List UInt8} (h : bs.length ≤ 4) : Vg big bs ≤ 4294967295 := by
 have := valB_lt big bs
 have h2 : 256 ^ bs.length ≤ 256 ^ 4 := Nat.pow_le_pow_right (by omega) h
 omega
theorem valB2 (big : Bool) {bs : List UInt8} (h : bs.length ≤ 2) : Vg big bs ≤ 65535 := by
 have := valB_lt big bs
 have h2 : 256 ^ bs.length ≤ 256 ^ 2 := Nat.pow_le_pow_right (by omega) h
 omega
theorem or_byte {v b : Nat} (hv : v ≤ 16777216) (hb : b < 256) : U6 (bOr 64 ((v : Int) * 256) (b : Int)) = ((v * 256 + b : Nat) : Int) := by
 have e : bOr 64 ((v : Int) * 256) (b : Int) = ((v * 256 + b : Nat) : Int) := by
  unfold bOr
  rw [BitVec.toNat_or, show (v : Int) * 256 = ((v * 256 : Nat) : Int) by omega]
  have h1 : (BitVec.ofInt 64 ((v * 256 : Nat) : Int)).toNat = v * 256 := by rw [BitVec.ofInt_natCast, BitVec.toNat_ofNat, Nat.mod_eq_of_lt (by omega)]
  have h2 : (BitVec.ofInt 64 ((b : Nat) : Int)).toNat = b := by rw [BitVec.ofInt_natCast, BitVec.toNat_ofNat, Nat.mod_eq_of_lt (by omega)]
  rw [h1, h2]
  have := Nat.shiftLeft_add_eq_or_of_lt (i := 8) (b := b) (by omega) v
  rw [Nat.shiftLeft_eq] at this
  rw [← this]
 rw [e]
 unfold U6; omega
theorem numAt_eq (big : Bool) (s : List UInt8) {a k : Nat} (h : a + k ≤ s.length) (hk : k ≤ 4) (hs : s.length ≤ 65000) : Xx big s (a : Int) (k : Int) = some (Vg big ((s.drop a).take k) : Int) := by
 let L := if big then (s.drop a).take k else ((s.drop a).take k).reverse
 have hL : L.length = k := by
  show (if big then (s.drop a).take k else ((s.drop a).take k).reverse).length = k
  cases big <;> simp <;> omega
 have hi : ∀ i (hik : i < k), ∃ q : Nat, ∃ hq : q < k, q = (if big then i else k - 1 - i) ∧ s[a + q]'(by omega) = L[i]'(by omega) := by
  intro i hik
  cases big
  ·refine ⟨k - 1 - i, by omega, rfl, ?_⟩
   show _ = (((s.drop a).take k).reverse)[i]'_
   rw [List.getElem_reverse, List.getElem_take, List.getElem_drop]
   congr 2; simp; omega
  ·refine ⟨i, by omega, rfl, ?_⟩
   show _ = ((s.drop a).take k)[i]'_
   rw [List.getElem_take, List.getElem_drop]
 have key : ∀ m i v : Nat, i + m = k → v < 256 ^ i → Wq (fun next1 s' => Zp big s a k next1 s'.1 s'.2) ((v : Int), (i : Int)) = some (((L.drop i).foldl (fun v b => v * 256 + b.toNat) v : Nat) : Int) := by
  intro m
  induction m with
  | zero =>
   intro i v him hv
   rw [List.drop_eq_nil_of_le (by omega)]
   refine Qz fun next => ?_
   show Zp big s a k next (v : Int) (i : Int) = _
   unfold Zp
   rw [cI, if_neg (by omega)]; rfl
  | succ m ih =>
   intro i v him hv
   obtain ⟨q, hq, hqe, hsq⟩ := hi i (by omega)
   have hv4 : v < 16777216 := Nat.lt_of_lt_of_le hv (Nat.le_trans (Nat.pow_le_pow_right (by omega) (show i ≤ 3 by omega)) (by decide))
   have hb := (s[a + q]'(by omega)).toNat_lt
   rw [List.drop_eq_getElem_cons (show i < L.length by omega), List.foldl_cons]
   have hlt : v * 256 + (L[i]'(by omega)).toNat < 256 ^ (i + 1) := by
    rw [← hsq, Nat.pow_succ]; omega
   refine Eq.trans (Xv _ fun next => ?_) (ih (i + 1) (v * 256 + (L[i]'(by omega)).toNat) (by omega) hlt)
   show Zp big s a k next (v : Int) (i : Int) = _
   unfold Zp
   rw [cI, if_pos (by omega), J2 (by omega), Jb, J2 (by omega), Jb]
   have go : ∀ x : Int, x = (q : Int) → W9 s a v i next x = next (((v * 256 + (L[i]'(by omega)).toNat : Nat) : Int), ((i + 1 : Nat) : Int)) := by
    intro x hx
    subst hx
    unfold W9
    have e8 : (2 : Int) ^ (8 : Int).toNat = 256 := by decide
    have hsh : gShl (v : Int) 8 = some ((v : Int) * 256) := by
     unfold gShl
     rw [if_pos ⟨by decide, by decide⟩, e8]
     exact J2 (by omega)
    rw [hsh, Jb, J2 (by omega), Jb, show (a : Int) + (q : Int) = ((a + q : Nat) : Int) by omega, Ub (by omega), Jb]
    unfold gK
    rw [if_pos (by omega), Jb, J2 (by omega), Jb, or_byte (by omega) hb, hsq]
    rfl
   cases big
   ·rw [Qm]; exact go _ (by rw [hqe]; simp; omega)
   ·rw [Xf]; exact go _ (by rw [hqe]; simp)
 unfold Xx
 have := key k 0 0 (by omega) (by simp)
 rw [List.drop_zero] at this
 exact this
theorem Jau (r : Tb) {a k : Nat} (h : a + k ≤ r.s_.length) (hk : k ≤ 4) (hs : r.s_.length ≤ 65000) : Jg r (a : Int) (k : Int) = some (Vg r.kab ((r.s_.drop a).take k) : Int) := by
 unfold Jg
 rw [numAt_eq _ _ h hk hs]; rfl
theorem Jhs (r : Tb) {a : Nat} (h : a + 4 ≤ r.s_.length) (hs : r.s_.length ≤ 65000) : Jg r (a : Int) 4 = some (Vg r.kab ((r.s_.drop a).take 4) : Int) := Jau (k := 4) r h (by omega) hs
theorem number2 (r : Tb) {a : Nat} (h : a + 2 ≤ r.s_.length) (hs : r.s_.length ≤ 65000) : Jg r (a : Int) 2 = some (Vg r.kab ((r.s_.drop a).take 2) : Int) := Jau (k := 2) r h (by omega) hs
def fl (r : Tb) (e : Int) : Tb := if r.no_ = 0 then ⟨r.s_, r.kab, r.kaa, r.kae, r.kad, r.kac, e⟩ else r
theorem Yf (r : Tb) (e : Int) : J9 r e = some (fl r e) := by
 unfold J9 fl
 rw [cI]; split <;> rfl
theorem fl_fl (r : Tb) {e : Int} (h : e ≠ 0) : fl (fl r e) e = fl r e := by
 unfold fl
 by_cases h0 : r.no_ = 0
 ·rw [if_pos h0, if_neg h]
 ·rw [if_neg h0, if_neg h0]
theorem Xz (r : Tb) {e : Int} (h : e ≠ 0) : (fl r e).no_ ≠ 0 := by
 unfold fl
 split
 ·exact h
 ·assumption
theorem Jd3 (r : Tb) {p n : Nat} (hn : n ≤ 1099511627776) (hs : r.s_.length ≤ 65000) : Yp r (p : Int) (n : Int) = some (decide (8 ≤ p ∧ p + n ≤ r.s_.length)) := by
 unfold Yp
 rw [cI, cI]
 by_cases h1 : 8 ≤ p
 ·rw [if_pos (by omega)]
  by_cases h2 : n ≤ r.s_.length
  ·rw [if_pos (by omega), J2 (by omega), Jb]
   congr 1
   rw [decide_eq_decide]; omega
  ·rw [if_neg (by omega)]
   congr 1; symm; rw [decide_eq_false_iff_not]; omega
 ·rw [if_neg (by omega)]
  congr 1; symm; rw [decide_eq_false_iff_not]; omega
def ratR (big : Bool) (b : List UInt8) (i : Nat) : Tf := ⟨(Vg big ((b.drop (8 * i)).take 4) : Nat), (Vg big ((b.drop (8 * i + 4)).take 4) : Nat)⟩
def intR (big : Bool) (k : Int) (b : List UInt8) (i : Nat) : Int := if k = 9 then U6 (wI32 (Vg big ((b.drop (i * J6 k)).take (J6 k)))) else Vg big ((b.drop (i * J6 k)).take (J6 k))
noncomputable def Ja1 (r : Tb) (k : Int) (c : Nat) (b : List UInt8) : Td × Tb := open Classical in
 if k = 2 then (if b = [] ∨ b.getLast? ≠ some 0 then (⟨2, [], [], [], []⟩, fl r 1) else (⟨2, b.dropLast, [], [], []⟩, if (0 : UInt8) ∈ b.dropLast then fl r 9 else r))
 else if k = 7 then (⟨7, b, [], [], []⟩, r)
 else if k = 5 then (⟨5, [], [], (List.range c).map (ratR r.kab b), []⟩, r)
 else (⟨k, [], (List.range c).map (intR r.kab k b), [], []⟩, r)
noncomputable def Jbe (r : Tb) (k : Int) (c a : Nat) : Td × Tb :=
 if 4 < c * J6 k then
  let p := Vg r.kab ((r.s_.drop a).take 4)
  if 8 ≤ p ∧ p + c * J6 k ≤ r.s_.length then Ja1 ⟨r.s_, r.kab, r.kaa ++ [⟨(p : Int), ((p + c * J6 k : Nat) : Int)⟩], r.kae, r.kad, r.kac, r.no_⟩ k c ((r.s_.drop p).take (c * J6 k))
  else (⟨0, [], [], [], []⟩, fl r 2)
 else Ja1 r k c ((r.s_.drop a).take (c * J6 k))
theorem ascii_loop (t : List UInt8) (ht : t.length ≤ 65000) : ∀ (m i : Nat) (r : Tb), i + m = t.length →
  Wq (fun next1 s => Xa t next1 s.1 s.2.1 s.2.2.1 s.2.2.2.1 s.2.2.2.2.1 s.2.2.2.2.2.1 s.2.2.2.2.2.2.1 s.2.2.2.2.2.2.2) ((i : Int), r.s_, r.kab, r.kad, r.kac, r.no_, r.kaa, r.kae) = some (t, open Classical in if (0 : UInt8) ∈ t.drop i then fl r 9 else r) := by
 intro m
 induction m with
 | zero =>
  intro i r hi
  rw [List.drop_eq_nil_of_le (by omega), if_neg (by simp)]
  refine Qz fun next => ?_
  show Xa t next (i : Int) _ _ _ _ _ _ _ = _
  unfold Xa
  rw [cI, if_neg (by omega)]
 | succ m ih =>
  intro i r hi
  have hb := (t[i]'(by omega)).toNat_lt
  rw [List.drop_eq_getElem_cons (show i < t.length by omega)]
  by_cases h0 : t[i]'(by omega) = 0
  ·have e : (open Classical in if (0 : UInt8) ∈ t[i]'(by omega) :: t.drop (i + 1) then fl r 9 else r) = (open Classical in if (0 : UInt8) ∈ t.drop (i + 1) then fl (fl r 9) 9 else fl r 9) := by
    rw [if_pos (by rw [h0]; simp), fl_fl _ (by decide)]; split <;> rfl
   rw [e]
   refine Eq.trans (Xv _ fun next => ?_) (ih (i + 1) (fl r 9) (by omega))
   show Xa t next (i : Int) _ _ _ _ _ _ _ = _
   unfold Xa
   rw [cI, if_pos (by omega), Ub (by omega), Jb, cI, if_pos (by rw [h0]; rfl), Yf, Jb]
   unfold Zm
   rw [J2 (by omega), Jb]; rfl
  ·have e : (open Classical in if (0 : UInt8) ∈ t[i]'(by omega) :: t.drop (i + 1) then fl r 9 else r) = (open Classical in if (0 : UInt8) ∈ t.drop (i + 1) then fl r 9 else r) := by
    simp only [List.mem_cons, show (0 : UInt8) = t[i]'(by omega) ↔ False from ⟨fun e => h0 e.symm, False.elim⟩, false_or]
   rw [e]
   refine Eq.trans (Xv _ fun next => ?_) (ih (i + 1) r (by omega))
   show Xa t next (i : Int) _ _ _ _ _ _ _ = _
   unfold Xa
   rw [cI, if_pos (by omega), Ub (by omega), Jb, cI, if_neg (fun e => h0 (UInt8.toNat_inj.1 (by have : ((t[i]'(by omega)).toNat : Int) = 0 := e; show _ = 0; omega)))]
   unfold Zm
   rw [J2 (by omega), Jb]; rfl
theorem ascii_eq (r : Tb) (t : List UInt8) (ht : t.length ≤ 65000) : Wx r t = some (open Classical in if t = [] ∨ t.getLast? ≠ some 0 then ([], fl r 1) else (t.dropLast, if (0 : UInt8) ∈ t.dropLast then fl r 9 else r)) := by
 unfold Wx
 rw [cI]
 by_cases h : t = []
 ·rw [if_pos h, if_pos (.inl h), Yf]; rfl
 ·have hl : 0 < t.length := List.length_pos_iff.2 h
  have hg : t.getLast? = some (t[t.length - 1]'(by omega)) := by rw [List.getLast?_eq_getElem?, List.getElem?_eq_getElem (by omega)]
  rw [if_neg h, J2 (by omega), Jb, show (t.length : Int) - 1 = ((t.length - 1 : Nat) : Int) by omega, Ub (by omega), Jb, cI]
  by_cases h0 : t[t.length - 1]'(by omega) = 0
  ·rw [if_neg (by rw [h0]; decide), if_neg (by rw [hg, h0]; simp [h]), Jb, Jhu (by omega), Jb, Int.toNat_natCast, ← List.dropLast_eq_take]
   have := ascii_loop t.dropLast (by rw [List.length_dropLast]; omega) t.dropLast.length 0 r (by omega)
   rw [List.drop_zero] at this
   exact this
  ·rw [if_pos (fun e => h0 (UInt8.toNat_inj.1 (by have : ((t[t.length - 1]'(by omega)).toNat : Int) = 0 := e; show _ = 0; omega))), if_pos (.inr (by rw [hg]; simpa using h0)), Yf]; rfl
theorem drop_in (s : List UInt8) {p n o k : Nat} (h : o + k ≤ n) : ((s.drop p).take n |>.drop o).take k = (s.drop (p + o)).take k := by
 rw [List.drop_take, List.take_take, List.drop_drop, Nat.min_eq_left (by omega)]
theorem wide_pos {k : Int} (h : J6 k ≠ 0) (h2 : k ≠ 2) (h7 : k ≠ 7) (h5 : k ≠ 5) : J6 k ≤ 4 ∧ 1 ≤ J6 k := by
 refine ⟨?_, by omega⟩
 unfold J6
 (repeat' split) <;> omega
theorem value_j1 (r : Tb) {k : Int} {c p : Nat} (parts : List Tc) (hw : J6 k ≠ 0) (h13 : k ≠ 13) (hp : p + c * J6 k ≤ r.s_.length) (hs : r.s_.length ≤ 65000) :
  Zk r k (c : Int) ((c * J6 k : Nat) : Int) (p : Int) parts = some (Ja1 ⟨r.s_, r.kab, parts, r.kae, r.kad, r.kac, r.no_⟩ k c ((r.s_.drop p).take (c * J6 k))) := by
 have hcw : c ≤ c * J6 k := Nat.le_mul_of_pos_right _ (by omega)
 unfold Zk Ja1
 rw [cI, cI, cI]
 by_cases h2 : k = 2
 ·rw [if_pos h2, if_pos h2, J2 (by omega), Jb, Jcr (by omega), Jb, show ((p : Int) + ((c * J6 k : Nat) : Int)).toNat - (p : Int).toNat = c * J6 k by omega, Int.toNat_natCast, ascii_eq _ _ (by rw [List.length_take, List.length_drop]; omega), Jb, h2]
  split <;> rfl
 rw [if_neg h2, if_neg h2]
 by_cases h7 : k = 7
 ·rw [if_pos h7, if_pos h7, J2 (by omega), Jb, Jcr (by omega), Jb, show ((p : Int) + ((c * J6 k : Nat) : Int)).toNat - (p : Int).toNat = c * J6 k by omega, Int.toNat_natCast, h7]
  rfl
 rw [if_neg h7, if_neg h7]
 by_cases h5 : k = 5
 ·rw [if_pos h5, if_pos h5]
  have hw8 : J6 k = 8 := by rw [h5]; rfl
  rw [hw8] at hp ⊢
  have := Jea (F := fun next3 s => Xt r k (c : Int) (p : Int) parts next3 s.1 s.2) (List.range c) (fun l i => l ++ [ratR r.kab ((r.s_.drop p).take (c * 8)) i]) (fun l => some ((⟨k, [], [], l, []⟩ : Td), (⟨r.s_, r.kab, parts, r.kae, r.kad, r.kac, r.no_⟩ : Tb))) (fun i l => l.length = i)
   (fun next i l hi hl => by
    have hic : i < c := by rw [List.length_range] at hi; exact hi
    refine ⟨?_, by rw [List.length_append, hl]; rfl⟩
    rw [List.getElem_range]
    show Xt r k (c : Int) (p : Int) parts next (i : Int) l = _
    unfold Xt
    rw [cI, if_pos (by omega), J2 (by omega), Jb, J2 (by omega), Jb, show (p : Int) + 8 * (i : Int) = ((p + 8 * i : Nat) : Int) by omega, Jhs ⟨r.s_, r.kab, parts, r.kae, r.kad, r.kac, r.no_⟩ (by show _ ≤ r.s_.length; omega) hs, Jb, Jb, J2 (by omega), Jb, J2 (by omega), Jb]
    rw [show (p : Int) + 8 * (i : Int) + 4 = ((p + (8 * i + 4) : Nat) : Int) by omega, Jhs ⟨r.s_, r.kab, parts, r.kae, r.kad, r.kac, r.no_⟩ (by show _ ≤ r.s_.length; omega) hs, Jb, X5 (by rw [hl]; simp; omega), Jb, J2 (by omega), Jb]
    unfold ratR
    rw [drop_in _ (by omega), drop_in _ (by omega)])
   (fun next l hl => by
    rw [List.length_range]
    show Xt r k (c : Int) (p : Int) parts next (c : Int) l = _
    unfold Xt
    rw [cI, if_neg (by omega)]; rfl) [] rfl
  rw [Jhc] at this
  rw [this, h5]; rfl
 ·rw [if_neg h5, if_neg h5]
  obtain ⟨w4, w1⟩ := wide_pos hw h2 h7 h5
  have := Jea (F := fun next4 s => Xu r k (c : Int) (p : Int) parts next4 s.1 s.2) (List.range c) (fun l i => l ++ [intR r.kab k ((r.s_.drop p).take (c * J6 k)) i]) (fun l => some ((⟨k, [], l, [], []⟩ : Td), (⟨r.s_, r.kab, parts, r.kae, r.kad, r.kac, r.no_⟩ : Tb))) (fun i l => l.length = i)
   (fun next i l hi hl => by
    have hic : i < c := by rw [List.length_range] at hi; exact hi
    have hiw : i * J6 k + J6 k ≤ c * J6 k := by
     have := Nat.mul_le_mul_right (J6 k) (show i + 1 ≤ c by omega)
     rw [Nat.add_mul] at this; omega
    refine ⟨?_, by rw [List.length_append, hl]; rfl⟩
    rw [List.getElem_range]
    show Xu r k (c : Int) (p : Int) parts next (i : Int) l = _
    unfold Xu
    have esz : Zb k = some ((J6 k : Nat) : Int) := by rw [Jbd, if_neg h13]
    rw [cI, if_pos (by omega), esz, Jb, show (i : Int) * ((J6 k : Nat) : Int) = ((i * J6 k : Nat) : Int) by rw [Int.natCast_mul], J2 (by omega), Jb, J2 (by omega), Jb, Jb,
     show (p : Int) + ((i * J6 k : Nat) : Int) = ((p + i * J6 k : Nat) : Int) by omega, Jau ⟨r.s_, r.kab, parts, r.kae, r.kad, r.kac, r.no_⟩ (by show _ ≤ r.s_.length; omega) w4 hs, Jb, cI]
    have go : ∀ x : Int, x = intR r.kab k ((r.s_.drop p).take (c * J6 k)) i → Zo (i : Int) l next x = next ((i : Int) + 1, l ++ [intR r.kab k ((r.s_.drop p).take (c * J6 k)) i]) := by
     intro x hx
     unfold Zo
     rw [X5 (by rw [hl]; simp; omega), Jb, J2 (by omega), Jb, hx]
    have hd : ((r.s_.drop p).take (c * J6 k) |>.drop (i * J6 k)).take (J6 k) = (r.s_.drop (p + i * J6 k)).take (J6 k) := drop_in _ hiw
    by_cases h9 : k = 9
    ·rw [if_pos h9]; exact go _ (by unfold intR; rw [if_pos h9, hd])
    ·rw [if_neg h9]; exact go _ (by unfold intR; rw [if_neg h9, hd]))
   (fun next l hl => by
    rw [List.length_range]
    show Xu r k (c : Int) (p : Int) parts next (c : Int) l = _
    unfold Xu
    rw [cI, if_neg (by omega)]; rfl) [] rfl
  rw [Jhc] at this
  rw [this]; rfl
theorem value_eq (r : Tb) {k : Int} {c a : Nat} (hw : J6 k ≠ 0) (h13 : k ≠ 13) (hc : c ≤ 4294967295) (ha : a + 4 ≤ r.s_.length) (hs : r.s_.length ≤ 65000) (hp : r.kaa.length ≤ 8000000000000) :
  Vo r k (c : Int) (a : Int) = some (Jbe r k c a) := by
 have hcw : c * J6 k ≤ 4294967295 * 8 := Nat.mul_le_mul hc (Jbp k)
 unfold Vo Jbe
 rw [Jbd, if_neg h13, Jb, show (c : Int) * ((J6 k : Nat) : Int) = ((c * J6 k : Nat) : Int) by rw [Int.natCast_mul], J2 (by omega), Jb, cI]
 by_cases h4 : 4 < c * J6 k
 ·rw [if_pos (by omega), if_pos h4, Jhs _ ha hs, Jb, Jd3 _ (by omega) hs, Jb]
  have hv := valB4 r.kab (bs := (r.s_.drop a).take 4) (by rw [List.length_take]; omega)
  by_cases ht : 8 ≤ Vg r.kab ((r.s_.drop a).take 4) ∧ Vg r.kab ((r.s_.drop a).take 4) + c * J6 k ≤ r.s_.length
  ·rw [decide_eq_true ht, Bool.not_true, Qm, J2 (by omega), Jb, X5 (by simp; omega), Jb, value_j1 r _ hw h13 ht.2 hs]
   simp only [if_pos ht]
   rfl
  ·rw [decide_eq_false ht, Bool.not_false, Xf, Yf, Jb]
   simp only [if_neg ht]
 ·rw [if_neg (by omega), if_neg h4, value_j1 r _ hw h13 (by omega) hs]
end Go.M

namespace Go.M
open Go.Md Go.Pl
abbrev V0 := (Tb × Int × (List Int)) → Option ((List Ta) × Int × Tb)
abbrev Jn (r : Tb) (a k : Nat) : Nat := Vg r.kab ((r.s_.drop a).take k)
theorem n2 (r : Tb) {a : Nat} (h : a + 2 ≤ r.s_.length) (hs : r.s_.length ≤ 65000) : Jg r (a : Int) 2 = some (Jn r a 2 : Int) := number2 r h hs
theorem n4 (r : Tb) {a : Nat} (h : a + 4 ≤ r.s_.length) (hs : r.s_.length ≤ 65000) : Jg r (a : Int) 4 = some (Jn r a 4 : Int) := Jhs r h hs
theorem v4 (r : Tb) (a : Nat) : Jn r a 4 ≤ 4294967295 := valB4 _ (by rw [List.length_take]; omega)
theorem v2 (r : Tb) (a : Nat) : Jn r a 2 ≤ 65535 := valB2 _ (by rw [List.length_take]; omega)
theorem found_ok {f : Nat} (h : f ≤ 0) : ∃ g, mft52 f = some g ∧ ∀ l a, g l a = some () := by
 match f, h with
 | 0, _ => exact ⟨_, rfl, fun _ _ => rfl⟩
theorem clone_eq {l : List Int} (h : l.length ≤ 1000) : Jj l = some l := by
 unfold Jj
 rw [X5 (by simp; omega), Jb]; simp
theorem pack_eq (t : Int) (v : Td) (r : Tb) : Zj t v.kah v.kai v.kaj v.kag v.kaf r.s_ r.kab r.kad r.kac r.no_ r.kaa r.kae = some (⟨t, v⟩, r) := by cases v; cases r; rfl
noncomputable def Jc2 (self : V0) (r : Tb) (a : Nat) (path : List Int) : Option (Ta × Tb) :=
 if (Jn r (a + 2) 2 : Int) = 13 then
  (if Jn r (a + 4) 4 = 1 then Jz (self (r, (Jn r (a + 8) 4 : Int), path ++ [(Jn r a 2 : Int)])) fun t => some ((⟨(Jn r a 2 : Int), ⟨13, [], [], [], t.1⟩⟩ : Ta), t.2.2)
   else some (⟨(Jn r a 2 : Int), ⟨13, [], [], [], []⟩⟩, fl r 1))
 else if J6 (Jn r (a + 2) 2 : Int) = 0 then some (⟨(Jn r a 2 : Int), ⟨(Jn r (a + 2) 2 : Int), [], [], [], []⟩⟩, fl r 10)
 else some (⟨(Jn r a 2 : Int), (Jbe r (Jn r (a + 2) 2 : Int) (Jn r (a + 4) 4) (a + 8)).1⟩, (Jbe r (Jn r (a + 2) 2 : Int) (Jn r (a + 4) 4) (a + 8)).2)
theorem entry_eq (self : V0) (r : Tb) {a : Nat} {path : List Int} (ha : a + 12 ≤ r.s_.length) (hs : r.s_.length ≤ 65000) (hp : r.kaa.length ≤ 8000000000000) (hf : r.kac ≤ 0) (hl : path.length ≤ 100) :
  Xp self r (a : Int) path = Jc2 self r a path := by
 obtain ⟨g, hg, hg2⟩ := found_ok hf
 unfold Xp Jc2
 rw [n2 _ (by omega) hs, Jb, J2 (by omega), Jb, show (a : Int) + 2 = ((a + 2 : Nat) : Int) by omega, n2 _ (by omega) hs, Jb, J2 (by omega), Jb, show (a : Int) + 4 = ((a + 4 : Nat) : Int) by omega, n4 _ (by omega) hs, Jb, clone_eq (by omega), Jb, X5 (by simp; omega), Jb]
 unfold gFn
 rw [hg, Jb, hg2, Jb, Jbd, Jb, cI, cI]
 have h8 : (a : Int) + 8 = ((a + 8 : Nat) : Int) := by omega
 have hc4 := v4 r (a + 4)
 by_cases h13 : (Jn r (a + 2) 2 : Int) = 13
 ·rw [if_pos h13, if_pos h13, if_neg (by decide), if_pos h13]
  unfold Zl
  rw [cI]
  by_cases h1 : Jn r (a + 4) 4 = 1
  ·rw [if_neg (by omega), if_pos h1, cI, if_pos h13, J2 (by omega), Jb, h8, n4 _ (by omega) hs, Jb]
   refine Yo fun t _ => ?_
   rw [h13]; rfl
  ·rw [if_pos (by omega), if_neg h1, Yf, Jb, h13]; rfl
 ·rw [if_neg h13, if_neg h13, if_neg h13]
  by_cases h0 : J6 (Jn r (a + 2) 2 : Int) = 0
  ·rw [if_pos (by omega), if_pos h0, Yf, Jb]; rfl
  ·rw [if_neg (by omega), if_neg h0]
   unfold Zl
   rw [Qm, cI, if_neg h13, J2 (by omega), Jb, h8, value_eq _ h0 h13 hc4 (by omega) hs hp, Jb, pack_eq]
noncomputable def Wc (self : V0) (path : List Int) (pl nxt cnt i : Nat) (r : Tb) (l : List Ta) : Option ((List Ta) × Int × Tb) :=
 Wq (fun next4 s => Xi path self next4 s.1 s.2.1 s.2.2.1 s.2.2.2.1 s.2.2.2.2.1 s.2.2.2.2.2.1 s.2.2.2.2.2.2.1 s.2.2.2.2.2.2.2.1 s.2.2.2.2.2.2.2.2.1 s.2.2.2.2.2.2.2.2.2.1 s.2.2.2.2.2.2.2.2.2.2.1 s.2.2.2.2.2.2.2.2.2.2.2) ((pl : Int), (nxt : Int), (cnt : Int), (i : Int), r.s_, r.kab, r.kad, r.kac, r.no_, r.kaa, r.kae, l)
theorem Wv (self : V0) (path : List Int) (pl nxt cnt i : Nat) (r : Tb) (l : List Ta) (h : cnt ≤ i ∨ r.no_ ≠ 0) : Wc self path pl nxt cnt i r l = some (l, (nxt : Int), r) := by
 refine Qz fun next => ?_
 show Xi path self next (pl : Int) (nxt : Int) (cnt : Int) (i : Int) _ _ _ _ _ _ _ l = _
 unfold Xi
 rw [cI]
 by_cases h1 : cnt ≤ i
 ·rw [if_neg (by omega)]; rfl
 ·rw [if_pos (by omega), cI, if_neg (show ¬ r.no_ = 0 from h.resolve_left h1)]; rfl
theorem Jgh (self : V0) (path : List Int) (pl nxt cnt i : Nat) (r : Tb) (l : List Ta) (hi : i < cnt) (hno : r.no_ = 0) (h0 : 0 < i) (hl : i ≤ l.length) (ha : pl + 2 + 12 * cnt ≤ r.s_.length) (hs : r.s_.length ≤ 65000)
  (hlow : (Jn r (pl + 2 + 12 * i) 2 : Int) ≤ (l[i - 1]'(by omega)).Tag) : Wc self path pl nxt cnt i r l = some (l, (nxt : Int), fl r 5) := by
 refine Qz fun next => ?_
 show Xi path self next (pl : Int) (nxt : Int) (cnt : Int) (i : Int) _ _ _ _ _ _ _ l = _
 unfold Xi
 rw [cI, if_pos (by omega), cI, if_pos hno, cI, if_pos (by omega), J2 (by omega), Jb, J2 (by omega), Jb, J2 (by omega), Jb, show (pl : Int) + 2 + 12 * (i : Int) = ((pl + 2 + 12 * i : Nat) : Int) by omega,
  n2 r (by omega) hs, Jb, J2 (by omega), Jb, show (i : Int) - 1 = ((i - 1 : Nat) : Int) by omega, Qn (by omega), Jb, cI, if_pos hlow, Yf r, Jb]
 rfl
theorem Jc6 (self : V0) (path : List Int) (pl nxt cnt i : Nat) (r : Tb) (l : List Ta) (hi : i < cnt) (hno : r.no_ = 0) (hl : l.length = i) (hn : i ≤ 1000) (ha : pl + 2 + 12 * cnt ≤ r.s_.length) (hs : r.s_.length ≤ 65000)
  (hlow : ∀ (h : 0 < i), ¬ (Jn r (pl + 2 + 12 * i) 2 : Int) ≤ (l[i - 1]'(by omega)).Tag) (hp : r.kaa.length ≤ 8000000000000) (hf : r.kac ≤ 0) (hpl : path.length ≤ 100) {e : Ta} {r' : Tb} (he : Jc2 self r (pl + 2 + 12 * i) path = some (e, r')) :
  Wc self path pl nxt cnt i r l = Wc self path pl nxt cnt (i + 1) r' (l ++ [e]) := by
 have go : ∀ next, Z6 path self (pl : Int) (nxt : Int) (cnt : Int) (i : Int) r.s_ r.kab r.kad r.kac r.no_ r.kaa r.kae l next = next ((pl : Int), (nxt : Int), (cnt : Int), ((i + 1 : Nat) : Int), r'.s_, r'.kab, r'.kad, r'.kac, r'.no_, r'.kaa, r'.kae, l ++ [e]) := by
  intro next
  unfold Z6
  rw [J2 (by omega), Jb, J2 (by omega), Jb, J2 (by omega), Jb, show (pl : Int) + 2 + 12 * (i : Int) = ((pl + 2 + 12 * i : Nat) : Int) by omega, entry_eq self r (by omega) hs hp hf hpl, he, Jb, X5 (by simp; omega), Jb, J2 (by omega), Jb]
  rfl
 refine Xv _ fun next => ?_
 show Xi path self next (pl : Int) (nxt : Int) (cnt : Int) (i : Int) _ _ _ _ _ _ _ l = _
 unfold Xi
 rw [cI, if_pos (by omega), cI, if_pos hno, cI]
 by_cases h0 : 0 < i
 ·rw [if_pos (by omega), J2 (by omega), Jb, J2 (by omega), Jb, J2 (by omega), Jb, show (pl : Int) + 2 + 12 * (i : Int) = ((pl + 2 + 12 * i : Nat) : Int) by omega,
   n2 r (by omega) hs, Jb, J2 (by omega), Jb, show (i : Int) - 1 = ((i - 1 : Nat) : Int) by omega, Qn (by omega), Jb, cI, if_neg (hlow h0)]
  exact go next
 ·rw [if_neg (by omega)]
  exact go next
noncomputable def dirR (self : V0) (r : Tb) (pl : Nat) (path : List Int) : Option ((List Ta) × Int × Tb) :=
 if ¬ (8 ≤ pl ∧ pl + 2 ≤ r.s_.length) then some ([], 0, fl r 2)
 else if (Jdm r.kae (pl : Int)).getD false = true then some ([], 0, fl r 13)
 else if 20 < r.kad ∨ 5 < path.length ∨ 200 < Jn r pl 2 then some ([], 0, fl r 4)
 else if ¬ (pl + (2 + 12 * Jn r pl 2 + 4) ≤ r.s_.length) then some ([], 0, fl r 2)
 else if r.no_ ≠ 0 then some ([], 0, r)
 else Wc self path pl (Jn r (pl + 2 + 12 * Jn r pl 2) 4) (Jn r pl 2) 0
  (if 1 < path.length ∧ Jn r (pl + 2 + 12 * Jn r pl 2) 4 ≠ 0 then fl ⟨r.s_, r.kab, r.kaa ++ [⟨(pl : Int), ((pl + (2 + 12 * Jn r pl 2 + 4) : Nat) : Int)⟩], W0 r.kae (pl : Int) true, r.kad, r.kac, r.no_⟩ 1
   else ⟨r.s_, r.kab, r.kaa ++ [⟨(pl : Int), ((pl + (2 + 12 * Jn r pl 2 + 4) : Nat) : Int)⟩], W0 r.kae (pl : Int) true, r.kad, r.kac, r.no_⟩) []
theorem Jai (pl cnt : Int) (path : List Int) (self : V0) (r : Tb) (h : r.no_ ≠ 0) : Xk pl path self cnt r.s_ r.kab r.kad r.kac r.no_ r.kaa r.kae = some ([], 0, r) := by
 unfold Xk
 rw [cI, if_pos h]
theorem Jcc (self : V0) (r : Tb) {pl : Nat} {path : List Int} (hpl : pl ≤ 4294967295) (hs : r.s_.length ≤ 65000) (hp : r.kaa.length ≤ 7999999999999) :
  J1 self r (pl : Int) path = dirR self r pl path := by
 unfold J1 dirR
 rw [show (2 : Int) = ((2 : Nat) : Int) from rfl, Jd3 _ (by omega) hs, Jb, show ((2 : Nat) : Int) = 2 from rfl]
 by_cases ht : 8 ≤ pl ∧ pl + 2 ≤ r.s_.length
 ·rw [decide_eq_true ht, Bool.not_true, Qm, if_neg (by simp [ht]), n2 _ ht.2 hs, Jb]
  have hv := v2 r pl
  by_cases hsn : (Jdm r.kae (pl : Int)).getD false = true
  ·rw [if_pos hsn, hsn, Xf, Yf, Jb, Jai _ _ _ _ _ (Xz _ (by decide))]
  ·rw [if_neg hsn, Bool.not_eq_true _ |>.mp hsn, Qm, cI, cI, cI]
   by_cases h20 : 20 < r.kad
   ·rw [if_pos h20, if_pos (.inl h20), Yf, Jb, Jai _ _ _ _ _ (Xz _ (by decide))]
   rw [if_neg h20]
   by_cases h5 : 5 < path.length
   ·rw [if_pos (by omega), if_pos (.inr (.inl h5)), Yf, Jb, Jai _ _ _ _ _ (Xz _ (by decide))]
   rw [if_neg (by omega)]
   by_cases h200 : 200 < Jn r pl 2
   ·rw [if_pos (by omega), if_pos (.inr (.inr h200)), Yf, Jb, Jai _ _ _ _ _ (Xz _ (by decide))]
   rw [if_neg (by omega), if_neg (by omega), J2 (by omega), Jb, J2 (by omega), Jb, J2 (by omega), Jb, show (2 : Int) + 12 * (Jn r pl 2 : Int) + 4 = ((2 + 12 * Jn r pl 2 + 4 : Nat) : Int) by omega, Jd3 _ (by omega) hs, Jb]
   by_cases hb : pl + (2 + 12 * Jn r pl 2 + 4) ≤ r.s_.length
   ·rw [decide_eq_true ⟨ht.1, hb⟩, Bool.not_true, Qm, if_neg (by omega)]
    by_cases hno : r.no_ = 0
    ·rw [if_neg (by simp [hno])]
     unfold Xk
     have hb' : pl + (2 + 12 * Jn r pl 2 + 4) ≤ r.s_.length := hb
     rw [cI, if_neg (by simp [hno]), J2 (by omega), Jb, J2 (by omega), Jb, J2 (by omega), Jb, J2 (by omega), Jb, X5 (by simp; omega), Jb, Jb, Jb, J2 (by omega), Jb,
      show (pl : Int) + 2 + 12 * (Jn r pl 2 : Int) = ((pl + 2 + 12 * Jn r pl 2 : Nat) : Int) by omega,
      show ((pl + 2 + 12 * Jn r pl 2 : Nat) : Int) + 4 = ((pl + (2 + 12 * Jn r pl 2 + 4) : Nat) : Int) by omega,
      n4 (a := pl + 2 + 12 * Jn r pl 2) (⟨r.s_, r.kab, r.kaa ++ [(⟨(pl : Int), ((pl + (2 + 12 * Jn r pl 2 + 4) : Nat) : Int)⟩ : Tc)], W0 r.kae (pl : Int) true, r.kad, r.kac, r.no_⟩ : Tb) (by show _ ≤ r.s_.length; omega) hs, Jb, cI, cI]
     by_cases h1 : 1 < path.length
     ·rw [if_pos (by omega)]
      by_cases hn : Jn r (pl + 2 + 12 * Jn r pl 2) 4 = 0
      ·rw [if_neg (by show ¬ ((Jn r (pl + 2 + 12 * Jn r pl 2) 4 : Nat) : Int) ≠ 0; omega), if_neg (by omega)]; rfl
      ·rw [if_pos (by show ((Jn r (pl + 2 + 12 * Jn r pl 2) 4 : Nat) : Int) ≠ 0; omega), if_pos ⟨h1, hn⟩, Yf, Jb]; rfl
     ·rw [if_neg (by omega), if_neg (by omega)]; rfl
    ·rw [if_pos hno, Jai _ _ _ _ _ hno]
   ·rw [decide_eq_false (by omega), Bool.not_false, Xf, if_pos hb, Yf, Jb, Jai _ _ _ _ _ (Xz _ (by decide))]
 ·rw [decide_eq_false ht, Bool.not_false, Xf, if_pos ht, Yf, Jb]
end Go.M

namespace Go.M
open Go.Md Go.Pl
def okS (n : Nat) (x : Tc) : Prop := 8 ≤ x.From ∧ x.From < x.To ∧ x.To ≤ (n : Int)
def Jbx (l : List Tc) : Int := (l.map fun x => x.To - x.From).sum
theorem Jhy (a b : List Tc) : Jbx (a ++ b) = Jbx a + Jbx b := by unfold Jbx; rw [List.map_append, List.sum_append]
theorem lenS_nil : Jbx [] = 0 := rfl
theorem lenS_one (x : Tc) : Jbx [x] = x.To - x.From := by unfold Jbx; simp
def Adds (r r' : Tb) (K : Nat) (z : Int) : Prop :=
 r'.s_ = r.s_ ∧ r'.kab = r.kab ∧ r'.kad = r.kad ∧ r'.kac = r.kac ∧ ∃ new, r'.kaa = r.kaa ++ new ∧ (∀ x ∈ new, okS r.s_.length x) ∧ new.length ≤ K ∧ z ≤ Jbx new
theorem Adds.same (r : Tb) {K : Nat} {z : Int} (hz : z ≤ 0) : Adds r r K z := ⟨rfl, rfl, rfl, rfl, [], by simp, by simp, Nat.zero_le _, hz⟩
theorem Adds.fail (r : Tb) (e : Int) {K : Nat} {z : Int} (hz : z ≤ 0) : Adds r (fl r e) K z := by
 unfold fl; split
 ·exact ⟨rfl, rfl, rfl, rfl, [], by simp, by simp, Nat.zero_le _, hz⟩
 ·exact Adds.same r hz
theorem Adds.trans {a b c : Tb} {K L : Nat} {y z : Int} (h : Adds a b K y) (g : Adds b c L z) : Adds a c (K + L) (y + z) := by
 obtain ⟨h1, h2, h3, h4, n, h5, h6, h7, h8⟩ := h
 obtain ⟨g1, g2, g3, g4, m, g5, g6, g7, g8⟩ := g
 refine ⟨g1.trans h1, g2.trans h2, g3.trans h3, g4.trans h4, n ++ m, by rw [g5, h5, List.append_assoc], ?_, by rw [List.length_append]; omega, by rw [Jhy]; omega⟩
 intro x hx
 rcases List.mem_append.1 hx with hx | hx
 ·exact h6 x hx
 ·rw [← h1]; exact g6 x hx
theorem Adds.mono {a b : Tb} {K L : Nat} {y z : Int} (h : Adds a b K y) (hK : K ≤ L) (hz : z ≤ y) : Adds a b L z := by
 obtain ⟨h1, h2, h3, h4, n, h5, h6, h7, h8⟩ := h
 exact ⟨h1, h2, h3, h4, n, h5, h6, by omega, by omega⟩
theorem Adds.part (r : Tb) (x : Tc) (seen : List (Int × Bool)) (h : okS r.s_.length x) : Adds r ⟨r.s_, r.kab, r.kaa ++ [x], seen, r.kad, r.kac, r.no_⟩ 1 (x.To - x.From) :=
 ⟨rfl, rfl, rfl, rfl, [x], rfl, fun y hy => by rw [List.mem_singleton.1 hy]; exact h, by simp, by rw [lenS_one]; omega⟩
theorem Adds.parts {r r' : Tb} {K : Nat} {z : Int} (h : Adds r r' K z) : r'.kaa.length ≤ r.kaa.length + K := by
 obtain ⟨_, _, _, _, n, h5, _, h7, _⟩ := h
 rw [h5, List.length_append]; omega
theorem Adds.len {r r' : Tb} {K : Nat} {z : Int} (h : Adds r r' K z) : r'.s_.length = r.s_.length := by rw [h.1]
def szV (v : Td) : Nat := v.kai.length + v.kaj.length + v.kag.length
theorem valT_adds (r : Tb) {k : Int} {c : Nat} {b : List UInt8} (hw : J6 k ≠ 0) (hb : b.length ≤ c * J6 k) : Adds r (Ja1 r k c b).2 0 0 ∧ szV (Ja1 r k c b).1 ≤ c * J6 k ∧ (Ja1 r k c b).1.kaf = [] := by
 have hcw : c ≤ c * J6 k := Nat.le_mul_of_pos_right _ (by omega)
 unfold Ja1
 by_cases h2 : k = 2
 ·rw [if_pos h2]
  split
  ·exact ⟨Adds.fail _ _ (by omega), by simp [szV], rfl⟩
  ·refine ⟨?_, by simp [szV]; omega, rfl⟩
   simp only
   split
   ·exact Adds.fail _ _ (by omega)
   ·exact Adds.same _ (by omega)
 rw [if_neg h2]
 by_cases h7 : k = 7
 ·rw [if_pos h7]; exact ⟨Adds.same _ (by omega), by simp [szV]; omega, rfl⟩
 rw [if_neg h7]
 by_cases h5 : k = 5
 ·rw [if_pos h5]; exact ⟨Adds.same _ (by omega), by simp [szV]; omega, rfl⟩
 rw [if_neg h5]; exact ⟨Adds.same _ (by omega), by simp [szV]; omega, rfl⟩
theorem valR_adds (r : Tb) {k : Int} {c a : Nat} (hw : J6 k ≠ 0) : Adds r (Jbe r k c a).2 1 ((szV (Jbe r k c a).1 : Int) - 4) ∧ (Jbe r k c a).1.kaf = [] := by
 unfold Jbe
 by_cases h4 : 4 < c * J6 k
 ·rw [if_pos h4]
  simp only
  split
  ·rename_i h
   obtain ⟨a1, a2, a3⟩ := valT_adds ⟨r.s_, r.kab, r.kaa ++ [⟨(Vg r.kab ((r.s_.drop a).take 4) : Nat), ((Vg r.kab ((r.s_.drop a).take 4) + c * J6 k : Nat) : Int)⟩], r.kae, r.kad, r.kac, r.no_⟩ (k := k) (c := c) (b := (r.s_.drop (Vg r.kab ((r.s_.drop a).take 4))).take (c * J6 k)) hw (by rw [List.length_take]; omega)
   refine ⟨((Adds.part r ⟨(Vg r.kab ((r.s_.drop a).take 4) : Nat), ((Vg r.kab ((r.s_.drop a).take 4) + c * J6 k : Nat) : Int)⟩ r.kae ⟨by simp only; omega, by simp only; omega, by simp only; omega⟩).trans a1).mono (by omega) ?_, a3⟩
   simp only; omega
  ·exact ⟨Adds.fail _ _ (by simp [szV]), rfl⟩
 ·rw [if_neg h4]
  obtain ⟨a1, a2, a3⟩ := valT_adds r (k := k) (c := c) (b := (r.s_.drop a).take (c * J6 k)) hw (by rw [List.length_take]; omega)
  exact ⟨a1.mono (by omega) (by omega), a3⟩
def cap : Nat → Nat
 | 0 => 0
 | d + 1 => 1 + 200 * (1 + cap d)
def Jfg (d : Nat) (self : V0) : Prop := ∀ (r : Tb) (pl : Nat) (path : List Int), path.length + d = 6 → pl ≤ 4294967295 → r.s_.length ≤ 65000 → r.kaa.length + cap d ≤ 7999999999999 → r.kac ≤ 0 →
 ∃ (l : List Ta) (nx : Nat) (r' : Tb), self (r, (pl : Int), path) = some (l, (nx : Int), r') ∧ nx ≤ 4294967295 ∧ Adds r r' (cap d) (Uw d l : Nat) ∧ (20 < r.kad → r'.no_ ≠ 0)
theorem Jc8 {d : Nat} {self : V0} (H : Jfg d self) (r : Tb) {a : Nat} {path : List Int} (hpl : path.length + d + 1 = 6) (hs : r.s_.length ≤ 65000) (hp : r.kaa.length + (1 + cap d) ≤ 7999999999999) (hf : r.kac ≤ 0) :
  ∃ e r', Jc2 self r a path = some (e, r') ∧ Adds r r' (1 + cap d) ((szE d e : Nat) - 5 : Int) := by
 unfold Jc2
 split
 ·split
  ·obtain ⟨l, nx, r', h1, h2, h3, _⟩ := H r (Jn r (a + 8) 4) (path ++ [(Jn r a 2 : Int)]) (by simp; omega) (v4 _ _) hs (by omega) hf
   rw [h1, Jb]
   exact ⟨_, _, rfl, h3.mono (by omega) (by simp only [szE, List.length_nil]; omega)⟩
  ·refine ⟨_, _, rfl, Adds.fail _ _ ?_⟩
   have : Uw d [] = 0 := by cases d <;> rfl
   simp only [szE, List.length_nil, this]; omega
 ·split
  ·refine ⟨_, _, rfl, Adds.fail _ _ ?_⟩
   have : Uw d [] = 0 := by cases d <;> rfl
   simp only [szE, List.length_nil, this]; omega
  ·rename_i h13 h0
   obtain ⟨a1, a2⟩ := valR_adds r (k := (Jn r (a + 2) 2 : Int)) (c := Jn r (a + 4) 4) (a := a + 8) h0
   refine ⟨_, _, rfl, a1.mono (by omega) ?_⟩
   have : Uw d [] = 0 := by cases d <;> rfl
   simp only [szE, a2, this, szV]; omega
theorem Jgy (d : Nat) (e : Ta) : ∀ l : List Ta, Uw (d + 1) (l ++ [e]) = Uw (d + 1) l + szE d e
 | [] => by rw [List.nil_append, Jed, Jb2]; omega
 | x :: l => by rw [List.cons_append, Jed, Jed, Jgy d e l]; omega
theorem loop_adds {d : Nat} {self : V0} (H : Jfg d self) {path : List Int} (hpl : path.length + d + 1 = 6) (r : Tb) {pl nxt cnt : Nat} (hs : r.s_.length ≤ 65000) (hcnt : cnt ≤ 200) (hin : pl + 2 + 12 * cnt ≤ r.s_.length) (hp : r.kaa.length + cap (d + 1) ≤ 7999999999999) (hf : r.kac ≤ 0) :
  ∀ (m i : Nat) (rc : Tb) (l : List Ta), i + m = cnt → l.length = i → Adds r rc (1 + i * (1 + cap d)) ((Uw (d + 1) l : Nat) + 12 * m : Int) →
   ∃ l' r', Wc self path pl nxt cnt i rc l = some (l', (nxt : Int), r') ∧ Adds r r' (cap (d + 1)) (Uw (d + 1) l' : Nat) := by
 intro m
 have hcap : ∀ i, i ≤ 200 → 1 + i * (1 + cap d) ≤ cap (d + 1) := fun i hi => by
  show _ ≤ 1 + 200 * (1 + cap d)
  have := Nat.mul_le_mul_right (1 + cap d) hi; omega
 induction m with
 | zero =>
  intro i rc l him hl hA
  exact ⟨l, rc, Wv _ _ _ _ _ _ _ _ (.inl (by omega)), hA.mono (hcap i (by omega)) (by omega)⟩
 | succ m ih =>
  intro i rc l him hl hA
  have hend : Adds r rc (cap (d + 1)) (Uw (d + 1) l : Nat) := hA.mono (hcap i (by omega)) (by omega)
  have hsl := hA.len
  by_cases hno : rc.no_ = 0
  ·have hin' : pl + 2 + 12 * cnt ≤ rc.s_.length := by omega
   by_cases hlow : ∃ h : 0 < i, (Jn rc (pl + 2 + 12 * i) 2 : Int) ≤ (l[i - 1]'(by omega)).Tag
   ·obtain ⟨h0, hlow⟩ := hlow
    exact ⟨l, fl rc 5, Jgh _ _ _ _ _ _ _ _ (by omega) hno h0 (by omega) hin' (by omega) hlow, (hend.trans (Adds.fail rc 5 (K := 0) (z := 0) (by omega))).mono (by omega) (by omega)⟩
   ·have hi1 := hcap (i + 1) (by omega)
    rw [Nat.add_mul, Nat.one_mul] at hi1
    have hpr := hA.parts
    obtain ⟨e, r', he, hA'⟩ := Jc8 H rc (a := pl + 2 + 12 * i) hpl (by omega) (by omega) (by rw [hA.2.2.2.1]; exact hf)
    rw [Jc6 self path pl nxt cnt i rc l (by omega) hno hl (by omega) hin' (by omega) (fun h hh => hlow ⟨h, hh⟩) (by omega) (by rw [hA.2.2.2.1]; exact hf) (by omega) he]
    refine ih (i + 1) r' (l ++ [e]) (by omega) (by simp; omega) ((hA.trans hA').mono (by rw [Nat.add_mul, Nat.one_mul]; omega) ?_)
    rw [Jgy]; omega
  ·exact ⟨l, rc, Wv _ _ _ _ _ _ _ _ (.inr hno), hend⟩
theorem dirR_ok {d : Nat} {self : V0} (H : Jfg d self) (r : Tb) (pl : Nat) (path : List Int) (hpl : path.length + d + 1 = 6) (hs : r.s_.length ≤ 65000) (hp : r.kaa.length + cap (d + 1) ≤ 7999999999999) (hf : r.kac ≤ 0) :
  ∃ (l : List Ta) (nx : Nat) (r' : Tb), dirR self r pl path = some (l, (nx : Int), r') ∧ nx ≤ 4294967295 ∧ Adds r r' (cap (d + 1)) (Uw (d + 1) l : Nat) ∧ (20 < r.kad → r'.no_ ≠ 0) := by
 unfold dirR
 split
 ·exact ⟨[], 0, _, rfl, by omega, Adds.fail _ _ (by rw [Jb2]; omega), fun _ => Xz _ (by decide)⟩
 rename_i h8
 split
 ·exact ⟨[], 0, _, rfl, by omega, Adds.fail _ _ (by rw [Jb2]; omega), fun _ => Xz _ (by decide)⟩
 split
 ·exact ⟨[], 0, _, rfl, by omega, Adds.fail _ _ (by rw [Jb2]; omega), fun _ => Xz _ (by decide)⟩
 rename_i hlim
 split
 ·exact ⟨[], 0, _, rfl, by omega, Adds.fail _ _ (by rw [Jb2]; omega), fun _ => Xz _ (by decide)⟩
 rename_i hin
 split
 ·rename_i hno
  exact ⟨[], 0, _, rfl, by omega, Adds.same _ (by rw [Jb2]; omega), fun _ => hno⟩
 have hpart := Adds.part r ⟨(pl : Int), ((pl + (2 + 12 * Jn r pl 2 + 4) : Nat) : Int)⟩ (W0 r.kae (pl : Int) true) ⟨by simp only; omega, by simp only; omega, by simp only; omega⟩
 have run : ∀ r2 : Tb, Adds r r2 1 ((2 + 12 * Jn r pl 2 + 4 : Nat) : Int) → ∃ (l : List Ta) (nx : Nat) (r' : Tb), Wc self path pl (Jn r (pl + 2 + 12 * Jn r pl 2) 4) (Jn r pl 2) 0 r2 [] = some (l, (nx : Int), r') ∧ nx ≤ 4294967295 ∧ Adds r r' (cap (d + 1)) (Uw (d + 1) l : Nat) ∧ (20 < r.kad → r'.no_ ≠ 0) := by
  intro r2 h2
  obtain ⟨l, r', h3, h4⟩ := loop_adds (nxt := Jn r (pl + 2 + 12 * Jn r pl 2) 4) H hpl r hs (show Jn r pl 2 ≤ 200 by omega) (show pl + 2 + 12 * Jn r pl 2 ≤ r.s_.length by omega) hp hf (Jn r pl 2) 0 r2 [] (by omega) rfl (h2.mono (by omega) (by rw [Jb2]; omega))
  exact ⟨l, _, r', h3, v4 _ _, h4, fun h => absurd h (by omega)⟩
 split
 ·exact run _ ((hpart.trans (Adds.fail _ 1 (K := 0) (z := 0) (by omega))).mono (by omega) (by simp only; omega))
 ·exact run _ (hpart.mono (by omega) (by simp only; omega))
theorem dirR_zero {self : V0} (r : Tb) (pl : Nat) (path : List Int) (hpl : path.length = 6) : ∃ r', dirR self r pl path = some ([], 0, r') ∧ Adds r r' 0 0 ∧ r'.no_ ≠ 0 := by
 unfold dirR
 split
 ·exact ⟨_, rfl, Adds.fail _ _ (by omega), Xz _ (by decide)⟩
 split
 ·exact ⟨_, rfl, Adds.fail _ _ (by omega), Xz _ (by decide)⟩
 rw [if_pos (.inr (.inl (by omega)))]
 exact ⟨_, rfl, Adds.fail _ _ (by omega), Xz _ (by decide)⟩
theorem it_ok : ∀ (d n : Nat), d < n → Jfg d (it (fun (self : V0) (s : Tb × Int × List Int) => J1 self s.1 s.2.1 s.2.2) n) := by
 intro d
 induction d with
 | zero =>
  intro n hn r pl path h6 hpl hs hp hf
  obtain ⟨n, rfl⟩ : ∃ m, n = m + 1 := ⟨n - 1, by omega⟩
  obtain ⟨r', h1, h2, h3⟩ := dirR_zero (self := it (fun (self : V0) (s : Tb × Int × List Int) => J1 self s.1 s.2.1 s.2.2) n) r pl path (by omega)
  refine ⟨[], 0, r', ?_, by omega, h2, fun _ => h3⟩
  show J1 _ r (pl : Int) path = _
  rw [Jcc _ r hpl hs (by omega), h1]; rfl
 | succ d ih =>
  intro n hn r pl path h6 hpl hs hp hf
  obtain ⟨n, rfl⟩ : ∃ m, n = m + 1 := ⟨n - 1, by omega⟩
  obtain ⟨l, nx, r', h1, h2⟩ := dirR_ok (ih n (by omega)) r pl path (by omega) hs hp hf
  refine ⟨l, nx, r', ?_, h2⟩
  show J1 _ r (pl : Int) path = _
  rw [Jcc _ r hpl hs (by omega), h1]
theorem entry_congr {self self' : V0} {path : List Int} (h : ∀ r pl p, p.length = path.length + 1 → self (r, pl, p) = self' (r, pl, p)) (r : Tb) (a : Int) : Xp self r a path = Xp self' r a path := by
 unfold Xp
 refine Yo fun t13 _ => Yo fun _ _ => Yo fun _ _ => Yo fun _ _ => Yo fun _ _ => Yo fun t23 h23 => Yo fun l26 h26 => ?_
 have hl : l26.length = path.length + 1 := by
  unfold Jj at h23
  cases hg : Xd 8 ([] : List Int) path with
  | none => rw [hg] at h23; cases h23
  | some u => rw [hg, Jb] at h23; cases h23; rw [(Ul h26).1, (Ul hg).1]; simp
 have e : ∀ x y, self (x, y, l26) = self' (x, y, l26) := fun x y => h x y l26 hl
 unfold Zl
 simp only [e]
theorem loop_congr {self self' : V0} {path : List Int} (h : ∀ r pl p, p.length = path.length + 1 → self (r, pl, p) = self' (r, pl, p)) (r : Tb) (pl : Int) : J1 self r pl path = J1 self' r pl path := by
 have e : ∀ r a, Xp self r a path = Xp self' r a path := entry_congr h
 have e4 : Xi path self = Xi path self' := by
  funext next x1 x7 x9 x10 m1 m2 m3 m4 m5 l1 mp l2
  unfold Xi Z6
  simp only [e]
 have e1 : ∀ a1 t m m2 m3 m4 m5 l mp, Xk a1 path self t m m2 m3 m4 m5 l mp = Xk a1 path self' t m m2 m3 m4 m5 l mp := by
  intro a1 t m m2 m3 m4 m5 l mp
  unfold Xk Wb
  rw [e4]
 unfold J1
 simp only [e1]
theorem deep_congr {self self' : V0} {path : List Int} (h : 5 < path.length) (r : Tb) (pl : Int) : J1 self r pl path = J1 self' r pl path := by
 unfold J1
 refine Yo fun t _ => Jb5 (fun _ => rfl) fun _ => Yo fun c _ => Jb5 (fun _ => ?_) fun _ => Jb5 (fun _ => ?_) fun _ => ?_
 ·rw [Yf, Jb, Jb, Jai _ _ _ _ _ (Xz _ (by decide)), Jai _ _ _ _ _ (Xz _ (by decide))]
 ·rw [Yf, Jb, Jb, Jai _ _ _ _ _ (Xz _ (by decide)), Jai _ _ _ _ _ (Xz _ (by decide))]
 ·rw [cI, if_pos (by omega), cI, if_pos (by omega), Yf, Jb, Jb, Jai _ _ _ _ _ (Xz _ (by decide)), Jai _ _ _ _ _ (Xz _ (by decide))]
noncomputable abbrev dirF : V0 → V0 := fun self s => J1 self s.1 s.2.1 s.2.2
theorem it_same : ∀ (d n m : Nat), d < n → d < m → ∀ (r : Tb) (pl : Int) (path : List Int), path.length + d = 6 → it dirF n (r, pl, path) = it dirF m (r, pl, path) := by
 intro d
 induction d with
 | zero =>
  intro n m hn hm r pl path h6
  obtain ⟨n, rfl⟩ : ∃ k, n = k + 1 := ⟨n - 1, by omega⟩
  obtain ⟨m, rfl⟩ : ∃ k, m = k + 1 := ⟨m - 1, by omega⟩
  exact deep_congr (path := path) (by omega) r pl
 | succ d ih =>
  intro n m hn hm r pl path h6
  obtain ⟨n, rfl⟩ : ∃ k, n = k + 1 := ⟨n - 1, by omega⟩
  obtain ⟨m, rfl⟩ : ∃ k, m = k + 1 := ⟨m - 1, by omega⟩
  exact loop_congr (path := path) (fun r pl p hp => ih n m (by omega) (by omega) r pl p (by omega)) r pl
theorem dir_it (r : Tb) (pl : Int) (path : List Int) (h1 : path.length = 1) : Z5 r pl path = it dirF 6 (r, pl, path) := by
 unfold Z5
 exact Jfl (k := 6) fun n hn => it_same 5 n 6 (by omega) (by omega) r pl path (by omega)
theorem dir_ok (r : Tb) (pl : Nat) (path : List Int) (h6 : path.length = 1) (hpl : pl ≤ 4294967295) (hs : r.s_.length ≤ 65000) (hp : r.kaa.length + cap 5 ≤ 7999999999999) (hf : r.kac ≤ 0) :
  ∃ (l : List Ta) (nx : Nat) (r' : Tb), Z5 r (pl : Int) path = some (l, (nx : Int), r') ∧ nx ≤ 4294967295 ∧ Adds r r' (cap 5) (Uw 5 l : Nat) ∧ (20 < r.kad → r'.no_ ≠ 0) := by
 rw [dir_it _ _ _ h6]
 exact it_ok 5 6 (by omega) r pl path (by omega) hpl hs hp hf
end Go.M

namespace Go.M
open Go.Md Go.Pl
def cmpI (a b : Int) : Int := if a < b then -1 else if b < a then 1 else 0
theorem Jiq (a b : Int) : cmp_Compare_int a b = some (cmpI a b) := by
 unfold cmp_Compare_int Jbk cmpI
 rw [Jb, Jb, decide_eq_false (by simp), decide_eq_false (by simp), Qm, Qm, cI, cI]
 split
 ·rfl
 split <;> rfl
theorem or2_eq (a b : Int) : Jcb [a, b] = some (if a ≠ 0 then a else b) := by
 unfold Jcb
 by_cases ha : a = 0
 ·rw [if_neg (by simp [ha])]
  rw [Xv (1 : Int) fun next => by
   unfold Yz
   rw [cI, if_pos (by simp), show Q9 [a, b] 0 = some a from rfl, Jb, cI, if_neg (by simp [ha]), J2 (by omega), Jb]; rfl]
  by_cases hb : b = 0
  ·rw [Xv (2 : Int) fun next => by
    unfold Yz
    rw [cI, if_pos (by simp), show Q9 [a, b] 1 = some b from rfl, Jb, cI, if_neg (by simp [hb]), J2 (by omega), Jb]; rfl]
   exact Qz fun next => by
    unfold Yz
    rw [cI, if_neg (by simp), hb]
  ·exact Qz fun next => by
    unfold Yz
    rw [cI, if_pos (by simp), show Q9 [a, b] 1 = some b from rfl, Jb, cI, if_pos hb]
 ·rw [if_pos ha]
  exact Qz fun next => by
   unfold Yz
   rw [cI, if_pos (by simp), show Q9 [a, b] 0 = some a from rfl, Jb, cI, if_pos ha]
theorem Jin (x y : Tc) : J8 x y = some (if cmpI x.From y.From ≠ 0 then cmpI x.From y.From else cmpI x.To y.To) := by
 unfold J8
 rw [Jiq, Jb, Jiq, Jb, or2_eq, Jb]
theorem Jda (x y : Tc) : (J8 x y).getD 0 ≤ 0 ↔ x.From < y.From ∨ (x.From = y.From ∧ x.To ≤ y.To) := by
 rw [Jin, Option.getD_some]; unfold cmpI
 (repeat' split) <;> omega
theorem spans_lt (x y : Tc) : (J8 x y).getD 0 < 0 ↔ x.From < y.From ∨ (x.From = y.From ∧ x.To < y.To) := by
 rw [Jin, Option.getD_some]; unfold cmpI
 (repeat' split) <;> omega
theorem spans_ok : CmpOk J8 where
 tot x y := ⟨_, Jin x y⟩
 flip x y := by
  have h1 := spans_lt x y
  have h2 := Jda y x
  omega
 trans x y z := by
  rw [Jda, Jda, Jda]; omega
 anti x y h := by
  have h1 := Jda x y
  have h2 := spans_lt x y
  have h3 : x.From = y.From ∧ x.To = y.To := by omega
  cases x; cases y; simp only at h3; rw [h3.1, h3.2]
theorem lenS_perm {a b : List Tc} (h : a.Perm b) : Jbx a = Jbx b := by
 unfold Jbx
 induction h with
 | nil => rfl
 | cons x _ ih => simp only [List.map_cons, List.sum_cons, ih]
 | swap x y l => simp only [List.map_cons, List.sum_cons]; omega
 | trans _ _ h1 h2 => exact h1.trans h2
def sepS (n : Int) : Int → List Tc → Prop
 | a, [] => a ≤ n
 | a, x :: l => a ≤ x.From ∧ x.From < x.To ∧ sepS n x.To l
theorem Jh0 {n : Int} : ∀ {l : List Tc} {a : Int}, sepS n a l → a ≤ n ∧ (l.length : Int) ≤ n - a ∧ Jbx l ≤ n - a
 | [], a, h => ⟨h, by simp; exact h, by rw [lenS_nil]; have : a ≤ n := h; omega⟩
 | x :: l, a, h => by
  obtain ⟨h1, h2, h3⟩ := Jh0 h.2.2
  have h4 := h.1
  have h5 := h.2.1
  refine ⟨by omega, by rw [List.length_cons]; omega, ?_⟩
  have : Jbx (x :: l) = x.To - x.From + Jbx l := by unfold Jbx; simp
  rw [this]; omega
def lapP (l : List Tc) : Prop := ∃ i : Nat, ∃ h : i + 1 < l.length, (l[i + 1]'h).From < (l[i]'(by omega)).To
open Classical in
theorem Jfp (l : List Tc) (hl : l.length ≤ 1099511627776000) : Uz l = some (decide (lapP l)) := by
 have key : ∀ m i : Nat, i + m = l.length → 1 ≤ i → Wq (fun next1 s => Z3 l next1 s) (i : Int) = some (decide (∃ j : Nat, i ≤ j + 1 ∧ ∃ h : j + 1 < l.length, (l[j + 1]'h).From < (l[j]'(by omega)).To)) := by
  intro m
  induction m with
  | zero =>
   intro i hi h1
   refine Qz fun next => ?_
   unfold Z3
   rw [cI, if_neg (by omega)]
   congr 1; symm
   rw [decide_eq_false_iff_not]
   rintro ⟨j, h2, h3, _⟩; omega
  | succ m ih =>
   intro i hi h1
   have hh : ∀ next : Int → Option Bool, Z3 l next (i : Int) = if (l[i]'(by omega)).From < (l[i - 1]'(by omega)).To then some true else next ((i + 1 : Nat) : Int) := by
    intro next
    unfold Z3
    rw [cI, if_pos (by omega), Qn (by omega), Jb, J2 (by omega), Jb, show (i : Int) - 1 = ((i - 1 : Nat) : Int) by omega, Qn (by omega), Jb, cI]
    split
    ·rfl
    ·rw [J2 (by omega), Jb]; rfl
   by_cases hlap : (l[i]'(by omega)).From < (l[i - 1]'(by omega)).To
   ·rw [Qz (o := some true) fun next => by rw [hh, if_pos hlap]]
    congr 1; symm
    rw [decide_eq_true_iff]
    obtain ⟨k, rfl⟩ : ∃ k, i = k + 1 := ⟨i - 1, by omega⟩
    exact ⟨k, by omega, by omega, hlap⟩
   ·rw [Xv (((i + 1 : Nat) : Int)) fun next => by rw [hh, if_neg hlap], ih (i + 1) (by omega) (by omega)]
    congr 1
    rw [decide_eq_decide]
    constructor
    ·rintro ⟨j, h2, h3⟩; exact ⟨j, by omega, h3⟩
    ·rintro ⟨j, h2, h3, h4⟩
     rcases Nat.lt_or_ge i (j + 1) with h5 | h5
     ·exact ⟨j, by omega, h3, h4⟩
     ·exfalso
      have : i = j + 1 := by omega
      subst this
      exact hlap h4
 unfold Uz
 rcases Nat.lt_or_ge l.length 1 with h0 | h0
 ·rw [Qz (o := some false) fun next => by unfold Z3; rw [cI, if_neg (by omega)]]
  congr 1; symm
  rw [decide_eq_false_iff_not]
  rintro ⟨j, h3, _⟩; omega
 ·rw [show (1 : Int) = ((1 : Nat) : Int) from rfl, key (l.length - 1) 1 (by omega) (by omega)]
  congr 1
  rw [decide_eq_decide]
  constructor
  ·rintro ⟨j, _, h3⟩; exact ⟨j, h3⟩
  ·rintro ⟨j, h3⟩; exact ⟨j, by omega, h3⟩
theorem sep_of {n : Nat} : ∀ {l : List Tc} {a : Int}, (∀ x ∈ l, okS n x) → ¬ lapP l → (∀ x ∈ l.head?, a ≤ x.From) → a ≤ n → sepS n a l
 | [], a, _, _, _, ha => ha
 | x :: l, a, h, hl, hh, ha => by
  have hx := h x (by simp)
  refine ⟨hh x (by simp), hx.2.1, sep_of (fun y hy => h y (by simp [hy])) ?_ ?_ hx.2.2⟩
  ·rintro ⟨i, hi, hlt⟩
   exact hl ⟨i + 1, by simp at hi ⊢; omega, by simpa using hlt⟩
  ·intro y hy
   cases l with
   | nil => simp at hy
   | cons z l =>
    simp at hy; subst hy
    by_cases hz : x.To ≤ z.From
    ·exact hz
    ·exfalso
     exact hl ⟨0, by simp, by simp; omega⟩
theorem Jdg (s : List UInt8) : ∃ b, Jcd s = some b ∧ (b = true → 8 ≤ s.length) := by
 unfold Jcd
 rw [cI]
 by_cases h : (s.length : Int) < 8
 ·rw [if_pos h]; exact ⟨_, rfl, by simp⟩
 ·rw [if_neg h, Jhu (by omega), Jb, cI, Jb]
  split <;> exact ⟨_, rfl, fun _ => by omega⟩
noncomputable def Jbc (t : Int) (nx : Nat) (r : Tb) (ls : List (List Ta)) : Option (Tg × List Tc × Int) :=
 Wq (fun next4 s => Wz t next4 s.1 s.2.1 s.2.2.1 s.2.2.2.1 s.2.2.2.2.1 s.2.2.2.2.2.1 s.2.2.2.2.2.2.1 s.2.2.2.2.2.2.2.1 s.2.2.2.2.2.2.2.2) ((nx : Int), r.s_, r.kab, r.kad, r.kac, r.no_, r.kaa, ls, r.kae)
theorem Jeb (t : Int) (nx : Nat) (r : Tb) (ls : List (List Ta)) (h : nx = 0 ∨ r.no_ ≠ 0) : Jbc t nx r ls = Yx t r.s_ r.kab r.kad r.kac r.no_ r.kaa ls r.kae := by
 refine Qz fun next => ?_
 show Wz t next (nx : Int) r.s_ r.kab r.kad r.kac r.no_ r.kaa ls r.kae = _
 unfold Wz
 rw [cI]
 by_cases h0 : nx = 0
 ·rw [if_neg (by simp [h0])]
 ·rw [if_pos (by simpa using h0), cI, if_neg (h.resolve_left h0)]
theorem Jf8 (t : Int) (nx : Nat) (r : Tb) (ls : List (List Ta)) (h0 : nx ≠ 0) (hno : r.no_ = 0) (hd : 0 ≤ r.kad ∧ r.kad ≤ 1000) (hl : ls.length ≤ 1000) {l : List Ta} {nx' : Nat} {r' : Tb}
  (h : Z5 ⟨r.s_, r.kab, r.kaa, r.kae, r.kad + 1, r.kac, r.no_⟩ (nx : Int) [(ls.length : Int)] = some (l, (nx' : Int), r')) : Jbc t nx r ls = Jbc t nx' r' (ls ++ [l]) := by
 refine Xv _ fun next => ?_
 show Wz t next (nx : Int) r.s_ r.kab r.kad r.kac r.no_ r.kaa ls r.kae = _
 unfold Wz
 rw [cI, if_pos (by simpa using h0), cI, if_pos hno, J2 (by omega), Jb, h, Jb, X5 (by simp; omega), Jb]
open Classical in
theorem read_j1 (t : Int) (r : Tb) (ls : List (List Ta)) (hs : 8 ≤ r.s_.length ∧ r.s_.length ≤ 65000) (hp : r.kaa.length ≤ 8000000000000) (hok : ∀ x ∈ r.kaa, okS r.s_.length x) (hsz : (((ls.map (Uw 5)).sum : Nat) : Int) ≤ Jbx r.kaa) (hl : ls.length ≤ 1000) :
  ∃ f ps e, Yx t r.s_ r.kab r.kad r.kac r.no_ r.kaa ls r.kae = some (f, ps, e) ∧ (e = 0 → sepS r.s_.length 8 ps) := by
 unfold Yx
 have hperm := List.mergeSort_perm r.kaa (leC J8)
 have hS : Jcy r.kaa J8 = some (r.kaa.mergeSort (leC J8)) := if_pos ⟨by omega, spans_ok⟩
 rw [hS, Jb, cI]
 generalize r.kaa.mergeSort (leC J8) = ps at hperm
 have hlen : Jbx ps = Jbx r.kaa := lenS_perm hperm
 have hfail : ∀ e : Int, e ≠ 0 → Y4 t ls ps e = some (⟨false, []⟩, [], e) := fun e he => by unfold Y4; rw [cI, if_pos he]
 by_cases hno : r.no_ = 0
 ·rw [if_pos hno, Jfp _ (by rw [hperm.length_eq]; omega), Jb, cI]
  by_cases hlap : lapP ps
  ·rw [if_pos hlap]
   unfold Yt
   rw [cI, if_neg (by decide), hfail 6 (by decide)]
   exact ⟨_, _, _, rfl, by simp⟩
  ·rw [if_neg hlap]
   have hsep : sepS r.s_.length 8 ps := by
    refine sep_of (fun x hx => hok x (hperm.mem_iff.1 hx)) hlap (fun x hx => ?_) (by omega)
    exact (hok x (hperm.mem_iff.1 (List.mem_of_mem_head? hx))).1
   have hsum := (Jh0 hsep).2.2
   have hB : Jcj (⟨decide (t = 77), ls⟩ : Tg) := fileB_of (by show ls.length ≤ _; omega) (by show (ls.map (Uw 5)).sum ≤ _; omega)
   unfold Yt
   rw [cI, if_pos hno, Us hB, Jb]
   by_cases he : Jac (⟨decide (t = 77), ls⟩ : Tg) = 0
   ·unfold Y4
    rw [cI, if_neg (by simp [he])]
    exact ⟨_, _, _, rfl, fun _ => hsep⟩
   ·rw [hfail _ he]
    exact ⟨_, _, _, rfl, fun h => absurd h he⟩
 ·rw [if_neg hno]
  unfold Yt
  rw [cI, if_neg hno, hfail _ hno]
  exact ⟨_, _, _, rfl, fun h => absurd h hno⟩
theorem rd_ok (t : Int) : ∀ (m D nx : Nat) (r : Tb) (ls : List (List Ta)), D + m = 21 → nx ≤ 4294967295 → r.kad = D → ls.length = D → (D ≤ 20 ∨ r.no_ ≠ 0) → (8 ≤ r.s_.length ∧ r.s_.length ≤ 65000) → r.kaa.length ≤ D * 323216080401 → (∀ x ∈ r.kaa, okS r.s_.length x) → (((ls.map (Uw 5)).sum : Nat) : Int) ≤ Jbx r.kaa → r.kac ≤ 0 →
  ∃ f ps e, Jbc t nx r ls = some (f, ps, e) ∧ (e = 0 → sepS r.s_.length 8 ps) := by
 have hcap : cap 5 = 323216080401 := by rfl
 intro m
 induction m with
 | zero =>
  intro D nx r ls hD hnx hd hl h20 hs hp hok hsz hf
  rw [Jeb _ _ _ _ (.inr (h20.resolve_left (by omega)))]
  exact read_j1 t r ls hs (by omega) hok hsz (by omega)
 | succ m ih =>
  intro D nx r ls hD hnx hd hl h20 hs hp hok hsz hf
  by_cases hend : nx = 0 ∨ r.no_ ≠ 0
  ·rw [Jeb _ _ _ _ hend]
   exact read_j1 t r ls hs (by omega) hok hsz (by omega)
  ·have h0 : nx ≠ 0 := fun h => hend (.inl h)
   have hno : r.no_ = 0 := Classical.byContradiction fun h => hend (.inr h)
   obtain ⟨l, nx', r', h1, h2, h3, h4⟩ := dir_ok ⟨r.s_, r.kab, r.kaa, r.kae, r.kad + 1, r.kac, r.no_⟩ nx [(ls.length : Int)] rfl hnx hs.2 (by show r.kaa.length + cap 5 ≤ _; rw [hcap]; omega) hf
   rw [Jf8 t nx r ls h0 hno (by omega) (by omega) h1]
   have hlen' := h3.len
   have hsl : r'.s_.length = r.s_.length := hlen'
   have hpa := h3.parts
   rw [hcap] at hpa
   have hpa' : r'.kaa.length ≤ r.kaa.length + 323216080401 := hpa
   obtain ⟨g1, g2, g3, g4, new, g5, g6, g7, g8⟩ := h3
   have g5' : r'.kaa = r.kaa ++ new := g5
   have := ih (D + 1) nx' r' (ls ++ [l]) (by omega) h2 (by have : r'.kad = r.kad + 1 := g3; omega) (by simp; omega) (by
    by_cases hh : D + 1 ≤ 20
    ·exact .inl hh
    ·exact .inr (h4 (by show 20 < r.kad + 1; omega))) (by omega) (by omega) (by
    intro x hx
    rw [g5'] at hx
    rw [hsl]
    rcases List.mem_append.1 hx with hx | hx
    ·exact hok x hx
    ·exact g6 x hx) (by
    rw [g5', Jhy, List.map_append, List.sum_append]
    simp only [List.map_cons, List.map_nil, List.sum_cons, List.sum_nil]
    omega) (by have : r'.kac = r.kac := g4; omega)
   rw [hsl] at this
   exact this
theorem read_ok (s : List UInt8) {fd : Nat} (hfd : fd ≤ 0) : ∃ f ps e, Wi s fd = some (f, ps, e) ∧ (e = 0 → s.length ≤ 65000 ∧ sepS s.length 8 ps) := by
 unfold Wi
 rw [cI]
 by_cases hl : (65000 : Int) < s.length
 ·rw [if_pos hl]; exact ⟨_, _, _, rfl, by simp⟩
 ·obtain ⟨b, hb, hb8⟩ := Jdg s
  rw [if_neg hl, hb, Jb]
  cases b with
  | false => rw [Bool.not_false, Xf]; exact ⟨_, _, _, rfl, by simp⟩
  | true =>
   have h8 := hb8 rfl
   rw [Bool.not_true, Qm, show (0 : Int) = ((0 : Nat) : Int) from rfl, Ub (by omega), Jb, show (4 : Int) = ((4 : Nat) : Int) from rfl, Jau (a := 4) (k := 4) _ (by show 4 + 4 ≤ s.length; omega) (by omega) (by show s.length ≤ 65000; omega), Jb]
   obtain ⟨f, ps, e, h1, h2⟩ := rd_ok ((s[0]'(by omega)).toNat : Int) 21 0 (Vg (decide (((s[0]'(by omega)).toNat : Int) = 77)) ((s.drop 4).take 4)) ⟨s, decide (((s[0]'(by omega)).toNat : Int) = 77), [], [], 0, fd, 0⟩ [] (by omega) (valB4 _ (by rw [List.length_take]; omega)) rfl rfl (.inl (by omega)) ⟨h8, by show s.length ≤ 65000; omega⟩ (by simp) (by simp) (by simp [Jbx]) hfd
   exact ⟨f, ps, e, h1, fun h => ⟨by omega, h2 h⟩⟩
end Go.M

namespace Go.M
open Go.Md Go.Pl
theorem awake_eq : Jbi = some true := by
 unfold Jbi
 have h : Jdo ⟨2, 4⟩ = some (⟨1, 2⟩, 0) := by
  have hc : Jch ⟨2, 4⟩ = some 0 := by rfl
  unfold Jdo
  rw [hc, Jb, cI, if_neg (by decide)]
  rw [Xv ((4 : Int), (2 : Int)) fun next => by
   show Z1 _ next 2 4 = _
   unfold Z1
   rw [cI, if_pos (by decide)]; rfl,
  Xv ((2 : Int), (0 : Int)) fun next => by
   show Z1 _ next 4 2 = _
   unfold Z1
   rw [cI, if_pos (by decide)]; rfl]
  exact Qz fun next => by
   show Z1 _ next 2 0 = _
   unfold Z1
   rw [cI, if_neg (by decide)]; rfl
 rw [h, Jb]
 rfl
end Go.M

namespace Go.M
open Go.Md Go.Pl
def digs (n : Int) (k : Nat) : List Int := (List.range k).map fun i => wU8 (n / 2 ^ (8 * i))
theorem Ji2 (n : Int) (k : Nat) : (digs n k).length = k := by simp [digs]
theorem digs_succ (n : Int) (k : Nat) : digs n (k + 1) = digs n k ++ [wU8 (n / 2 ^ (8 * k))] := by
 unfold digs; rw [List.range_succ, List.map_append]; rfl
def Jde (big : Bool) (n : Int) (k i : Nat) : List Int := if big then List.replicate (k - i) 0 ++ (digs n i).reverse else digs n i ++ List.replicate (k - i) 0
theorem partN_set {n : Int} {k i : Nat} (h : i < k) (big : Bool) : (Jde big n k i).set (if big then k - 1 - i else i) (wU8 (n / 2 ^ (8 * i))) = Jde big n k (i + 1) := by
 obtain ⟨m, hm⟩ : ∃ m, k - i = m + 1 := ⟨k - i - 1, by omega⟩
 have hm2 : k - (i + 1) = m := by omega
 unfold Jde
 rw [hm, hm2, digs_succ]
 cases big
 ·simp only [Bool.false_eq_true, if_false]
  rw [List.set_append_right _ _ (by rw [Ji2]; exact Nat.le_refl _), Ji2, Nat.sub_self, List.replicate_succ, List.set_cons_zero, List.append_assoc]; rfl
 ·simp only [if_true]
  rw [List.reverse_append, List.replicate_succ', List.append_assoc, show k - 1 - i = m by omega, List.set_append_right _ _ (by simp), List.length_replicate, Nat.sub_self]
  rfl
theorem num_dig (big : Bool) (n : Int) (k : Nat) (hk : k ≤ 8) : Jh big n k = some (Jde big n k k) := by
 have key : ∀ m i : Nat, i + m = k → Wq (fun next1 s => X9 big n k (List.replicate k 0) next1 s.1 s.2) ((i : Int), Jde big n k i) = some (Jde big n k k) := by
  intro m
  induction m with
  | zero =>
   intro i hi
   have : i = k := by omega
   subst this
   refine Qz fun next => ?_
   show X9 big n i _ next (i : Int) _ = _
   unfold X9
   rw [cI, if_neg (by rw [List.length_replicate]; omega)]
  | succ m ih =>
   intro i hi
   have hl : (Jde big n k i).length = k := by unfold Jde; cases big <;> simp [Ji2] <;> omega
   have hsh : gShr 64 n (8 * (i : Int)) = some (n / 2 ^ (8 * i)) := by
    unfold gShr
    rw [if_pos (by omega), show min (8 * (i : Int)).toNat 64 = 8 * i by omega]
   refine Eq.trans (Xv ((i : Int) + 1, (Jde big n k i).set (if big then k - 1 - i else i) (wU8 (n / 2 ^ (8 * i)))) fun next => ?_) ?_
   ·show X9 big n k (List.replicate k 0) next (i : Int) (Jde big n k i) = _
    unfold X9
    rw [cI, if_pos (by rw [List.length_replicate]; omega)]
    cases big
    ·rw [Qm]
     unfold Wl
     rw [J2 (by omega), Jb, hsh, Jb, Qn (by omega), Jb, Jcu (by omega) (by omega), Jb, J2 (by omega), Jb, Int.toNat_natCast]; rfl
    ·rw [Xf, J2 (by omega), Jb, J2 (by omega), Jb]
     unfold Wl
     rw [J2 (by omega), Jb, hsh, Jb, Jf0 (by omega) (by omega), Jb, Jcu (by omega) (by omega), Jb, J2 (by omega), Jb, show ((k : Int) - 1 - (i : Int)).toNat = k - 1 - i from by omega]; rfl
   ·rw [partN_set (by omega)]
    exact ih (i + 1) (by omega)
 unfold Jh
 rw [gMake_ok (by omega), Jb, Int.toNat_natCast]
 have h0 : Jde big n k 0 = List.replicate k 0 := by unfold Jde digs; cases big <;> simp
 have := key k 0 (by omega)
 rw [h0] at this
 exact this
theorem numS_dig (big : Bool) (n : Int) (k : Nat) (hk : k ≤ 8) : Yb big n k = Wn (if big then (digs n k).reverse else digs n k) := by
 unfold Yb
 rw [num_dig big n k hk, Option.getD_some]
 unfold Jde
 cases big <;> simp
theorem valB_num (big : Bool) (n : Int) (k : Nat) (hk : k ≤ 8) : Vg big (Yb big n k) = (Wn (digs n k).reverse).foldl (fun v b => v * 256 + b.toNat) 0 := by
 rw [numS_dig big n k hk]
 unfold Vg
 cases big
 ·simp only [Bool.false_eq_true, if_false]
  unfold Wn; rw [← List.map_reverse]
 ·simp only [if_true]
theorem oct_dig (x : Int) : ((UInt8.ofNat (wU8 x).toNat).toNat : Int) = x % 256 := by
 rw [UInt8.toNat_ofNat']; unfold wU8; omega
theorem emod_two (n : Int) {B : Int} (hB : 0 < B) : n % (B * 256) = n % B + B * (n / B % 256) := by
 have h1 := Int.mul_ediv_add_emod n B
 have h2 := Int.mul_ediv_add_emod (n / B) 256
 have h3 := Int.emod_nonneg n (show B ≠ 0 by omega)
 have h4 := Int.emod_lt_of_pos n hB
 have h5 : 0 ≤ n / B % 256 ∧ n / B % 256 ≤ 255 := by omega
 have h6 : B * (n / B % 256) ≤ B * 255 := Int.mul_le_mul_of_nonneg_left h5.2 (by omega)
 have h7 : 0 ≤ B * (n / B % 256) := Int.mul_nonneg (by omega) h5.1
 have e : n = (n % B + B * (n / B % 256)) + (B * 256) * (n / B / 256) := by
  have h8 : B * (n / B) = B * (256 * (n / B / 256)) + B * (n / B % 256) := by rw [← Int.mul_add, h2]
  rw [Int.mul_assoc]; omega
 conv => lhs; rw [e]
 rw [Int.add_mul_emod_self_left, Int.emod_eq_of_lt (by omega) (by omega)]
theorem fold_dig (n : Int) : ∀ (k v : Nat), (((Wn (digs n k).reverse).foldl (fun v b => v * 256 + b.toNat) v : Nat) : Int) = v * 256 ^ k + n % 256 ^ k
 | 0, v => by simp [digs, Wn]
 | k + 1, v => by
  rw [digs_succ, List.reverse_append]
  show (((Wn ([wU8 (n / 2 ^ (8 * k))] ++ (digs n k).reverse)).foldl _ v : Nat) : Int) = _
  unfold Wn
  rw [List.map_append, List.map_singleton, List.singleton_append, List.foldl_cons]
  have := fold_dig n k (v * 256 + (UInt8.ofNat (wU8 (n / 2 ^ (8 * k))).toNat).toNat)
  unfold Wn at this
  rw [this]
  have e : (2 : Int) ^ (8 * k) = 256 ^ k := by rw [Int.pow_mul]; rfl
  rw [Int.natCast_add, Int.natCast_mul, oct_dig, e]
  have hm := emod_two n (B := 256 ^ k) (Int.pow_pos (by decide))
  rw [Int.pow_succ, hm, Int.add_mul, Int.mul_comm (256 ^ k) (n / 256 ^ k % 256)]
  have : (v : Int) * ((256 : Nat) : Int) * 256 ^ k = v * (256 ^ k * 256) := by
   rw [show ((256 : Nat) : Int) = 256 from rfl, Int.mul_assoc, Int.mul_comm 256]
  omega
theorem val_num (big : Bool) (n : Int) (k : Nat) (hk : k ≤ 8) : (Vg big (Yb big n k) : Int) = n % 256 ^ k := by
 rw [valB_num big n k hk, fold_dig]; simp
theorem val_num2 (big : Bool) {n : Int} (h : 0 ≤ n ∧ n ≤ 65535) : (Vg big (Yb big n 2) : Int) = n := by
 rw [val_num _ _ _ (by omega)]; omega
theorem Jgr (big : Bool) {n : Int} (h : 0 ≤ n ∧ n ≤ 4294967295) : (Vg big (Yb big n 4) : Int) = n := by
 rw [val_num _ _ _ (by omega)]; omega
def win (s : List UInt8) (a : Nat) (bs : List UInt8) : Prop := (s.drop a).take bs.length = bs
theorem Jgc {α : Type} {g : α → List UInt8} {w : Nat} (hg : ∀ x, (g x).length = w) : ∀ (xs : List α) (i : Nat) (h : i < xs.length), ((xs.flatMap g).drop (i * w)).take w = g (xs[i]'h)
 | x :: xs, 0, _ => by
  rw [Nat.zero_mul, List.drop_zero, List.flatMap_cons, List.take_left' (hg x)]; rfl
 | x :: xs, i + 1, h => by
  rw [List.flatMap_cons, Nat.add_mul, Nat.one_mul, Nat.add_comm, ← List.drop_drop, List.drop_left' (hg x)]
  exact Jgc hg xs i (by simpa using h)
theorem list_back {α : Type} {g : α → List UInt8} {w : Nat} (hg : ∀ x, (g x).length = w) (xs : List α) (f : Nat → α) (hf : ∀ i (h : i < xs.length), f i = xs[i]'h) : (List.range xs.length).map f = xs := by
 apply List.ext_getElem
 ·simp
 ·intro i h1 h2
  rw [List.getElem_map, List.getElem_range, hf i h2]
theorem Jie {v : Td} (h : Jbu v = 0) : okV v ∧ (∀ n ∈ v.kaj, (limS v.kah).1 ≤ n ∧ n ≤ (limS v.kah).2) ∧ (∀ r ∈ v.kag, ¬ ratP r) ∧ (v.kah = 2 → (0 : UInt8) ∉ v.kai) := by
 unfold Jbu at h
 split at h
 ·rename_i h0; exact absurd h h0
 split at h
 ·exact absurd h (by decide)
 split at h
 ·exact absurd h (by decide)
 split at h
 ·exact absurd h (by decide)
 rename_i h1 h2 h3 h4
 refine ⟨Jc0 (Classical.byContradiction fun h => h1 h), fun n hn => ?_, fun r hr hp => h3 ⟨r, hr, hp⟩, fun hk hm => h4 ⟨hk, hm⟩⟩
 exact Classical.byContradiction fun hc => h2 ⟨n, hn, by omega⟩
theorem valT_back (r : Tb) {v : Td} (h : Jbu v = 0) (h13 : v.kah ≠ 13) : Ja1 r v.kah (Wp v) (Zg r.kab v) = (v, r) := by
 obtain ⟨hok, hi, hr, ht⟩ := Jie h
 obtain ⟨p1, p2, p3⟩ := ok_parts hok
 have hE : v.kaf = [] := by
  have := hok.2
  unfold formP at this
  exact Classical.byContradiction fun hc => this (.inr (.inr (.inr ⟨h13, hc⟩)))
 have hkind := hok.1
 unfold Ja1 Zg Wp
 by_cases h2 : v.kah = 2
 ·have hI : v.kaj = [] := p1 (by unfold Ja7; omega)
  have hR : v.kag = [] := p3 (by omega)
  rw [if_pos h2, if_pos h2, if_neg (by simp), List.dropLast_concat, if_neg (ht h2)]
  cases v; simp only at h2 hI hR hE ⊢; rw [h2, hI, hR, hE]
 rw [if_neg h2, if_neg h2, if_neg h2]
 by_cases h7 : v.kah = 7
 ·have hI : v.kaj = [] := p1 (by unfold Ja7; omega)
  have hR : v.kag = [] := p3 (by omega)
  rw [if_pos h7, if_pos h7]
  cases v; simp only at h7 hI hR hE ⊢; rw [h7, hI, hR, hE]
 rw [if_neg h7, if_neg h7, if_neg h7]
 have hT : v.kai = [] := p2 (by unfold Jc3; omega)
 by_cases h5 : v.kah = 5
 ·have hI : v.kaj = [] := p1 (by unfold Ja7; omega)
  rw [if_pos h5, if_pos h5, if_pos h5]
  have hb : (List.range v.kag.length).map (ratR r.kab (v.kag.flatMap (ratS r.kab))) = v.kag := by
   refine list_back (Jd5 r.kab) v.kag _ fun i hi' => ?_
   have hw := Jgc (Jd5 r.kab) v.kag i hi'
   have hn := hr _ (List.getElem_mem hi')
   unfold ratP at hn
   have e1 : ((v.kag.flatMap (ratS r.kab)).drop (8 * i)).take 4 = Yb r.kab (v.kag[i]'hi').Num 4 := by
    have := congrArg (List.take 4) hw
    rw [List.take_take, Nat.mul_comm, show min 4 8 = 4 from rfl] at this
    rw [this]; unfold ratS; rw [List.take_left' (X4 _ _ (by omega))]
   have e2 : ((v.kag.flatMap (ratS r.kab)).drop (8 * i + 4)).take 4 = Yb r.kab (v.kag[i]'hi').Den 4 := by
    have := congrArg (List.drop 4) hw
    rw [List.drop_take, List.drop_drop, Nat.mul_comm] at this
    rw [this]; unfold ratS; rw [List.drop_left' (X4 _ _ (by omega))]
   unfold ratR
   rw [e1, e2, Jgr _ (by omega), Jgr _ (by omega)]
  rw [hb]
  cases v; simp only at h5 hI hT hE ⊢; rw [h5, hI, hT, hE]
 ·have hR : v.kag = [] := p3 h5
  have hK : Ja7 v.kah := by unfold Jfd Jc3 Ja7 at hkind; unfold Ja7; omega
  rw [if_neg h5, if_neg h5, if_neg h5, if_neg h13]
  have hw8 := Jbp v.kah
  have hlen : ∀ n : Int, (Yb r.kab n (J6 v.kah)).length = J6 v.kah := fun n => X4 _ _ hw8
  have hb : (List.range v.kaj.length).map (intR r.kab v.kah (v.kaj.flatMap fun n => Yb r.kab n (J6 v.kah))) = v.kaj := by
   refine list_back hlen v.kaj _ fun i hi' => ?_
   have hw := Jgc hlen v.kaj i hi'
   have hn := hi _ (List.getElem_mem hi')
   unfold intR
   rw [hw, val_num _ _ _ hw8]
   unfold limS at hn
   unfold Ja7 at hK
   rcases hK with hk | hk | hk | hk <;> rw [hk] at hn ⊢ <;> simp only [J6] at hn ⊢ <;> simp at hn ⊢
   ·omega
   ·omega
   ·omega
   ·unfold U6 wI32; omega
  rw [hb]
  cases v; simp only at hR hT hE ⊢; rw [hR, hT, hE]
end Go.M

namespace Go.M
open Go.Md Go.Pl
def fresh (sn : List (Int × Bool)) (p : Nat) : Prop := ∀ k : Nat, p ≤ k → (Jdm sn (k : Int)).getD false = false
structure Back (r r' : Tb) (new : List Tc) (p : Nat) : Prop where
 s : r'.s_ = r.s_
 big : r'.kab = r.kab
 dirs : r'.kad = r.kad
 found : r'.kac = r.kac
 no : r'.no_ = 0
 parts : r'.kaa = r.kaa ++ new
 seen : fresh r'.kae p
theorem Back.trans {a b c : Tb} {x y : List Tc} {p q : Nat} (h : Back a b x p) (g : Back b c y q) : Back a c (x ++ y) q :=
 ⟨g.s.trans h.s, g.big.trans h.big, g.dirs.trans h.dirs, g.found.trans h.found, g.no, by rw [g.parts, h.parts, List.append_assoc], g.seen⟩
end Go.M

namespace Go.M
open Go.Md Go.Pl
theorem put_win {s : List UInt8} {k a : Nat} {b x : List UInt8} (hk : k + b.length ≤ s.length) (hd : a + x.length ≤ k ∨ k + b.length ≤ a) (h : win s a x) : win (put s k b) a x := by
 unfold win at *
 rcases hd with hd | hd
 ·unfold put
  rw [List.append_assoc, List.drop_append_of_le_length (by rw [List.length_take]; omega), List.take_append_of_le_length (by rw [List.length_drop, List.length_take]; omega), List.drop_take, List.take_take, Nat.min_eq_left (by omega)]
  exact h
 ·have e : (put s k b).drop a = s.drop a := by
   unfold put
   have hlen : (s.take k ++ b).length = k + b.length := by rw [List.length_append, List.length_take]; omega
   rw [List.drop_append, hlen, List.drop_eq_nil_of_le (by omega), List.nil_append, List.drop_drop]
   congr 1; omega
  rw [e]; exact h
theorem put_at_win {s : List UInt8} {k : Nat} {b : List UInt8} (hk : k + b.length ≤ s.length) : win (put s k b) k b := by
 unfold win put
 rw [List.append_assoc, List.drop_append, List.length_take, Nat.min_eq_left (by omega), Nat.sub_self, List.drop_zero, List.drop_eq_nil_of_le (by rw [List.length_take]; omega), List.nil_append, List.take_left' rfl]
end Go.M

namespace Go.M
open Go.Md Go.Pl
theorem Write_eq {f : Tg} (hb : Jcj f) : Jb6 f = some (if Jac f = 0 then (octF f, 0) else ([], Jac f)) := by
 unfold Jb6
 rw [Us hb, Jb, cI]
 by_cases he : Jac f = 0
 ·obtain ⟨hok, hn⟩ := Jh4 hb he
  rw [if_neg (by simp [he]), if_pos he, written_eq hok hn hb.2, Jb]
 ·rw [if_pos he, if_neg he]
end Go.M

namespace Go.M
open Go.Md Go.Pl
noncomputable section
def vS (s : List UInt8) (big : Bool) (a k : Nat) : Nat := Vg big ((s.drop a).take k)
abbrev Trc := List Int × Nat × Ta
def trL (G : List Int → Nat → List Ta → List Trc) (s : List UInt8) (big : Bool) (path : List Int) (pl : Nat) : Nat → List Ta → List Trc
 | _, [] => []
 | i, e :: l => (path ++ [e.Tag], pl + 2 + 12 * i, e) :: (if e.Value.kah = 13 then G (path ++ [e.Tag]) (vS s big (pl + 2 + 12 * i + 8) 4) e.Value.kaf else []) ++ trL G s big path pl (i + 1) l
def trD (s : List UInt8) (big : Bool) : Nat → List Int → Nat → List Ta → List Trc
 | 0, _, _, _ => []
 | d + 1, path, pl, l => trL (trD s big d) s big path pl 0 l
theorem valT_kind (r : Tb) (k : Int) (c : Nat) (b : List UInt8) : (Ja1 r k c b).1.kah = k := by
 unfold Ja1
 split
 ·rename_i h; subst h; split <;> rfl
 ·split
  ·rename_i h; subst h; rfl
  ·split
   ·rename_i h; subst h; rfl
   ·rfl
def trF (s : List UInt8) (big : Bool) : Nat → Nat → List (List Ta) → List Trc
 | _, _, [] => []
 | i, nx, l :: ls => trD s big 5 [(i : Int)] nx l ++ trF s big (i + 1) (vS s big (nx + 2 + 12 * l.length) 4) ls
def Ja4 (s : List UInt8) : Bool := decide (((s.headD 0).toNat : Int) = 77)
theorem bigS_eq {s : List UInt8} (h : 0 < s.length) : Ja4 s = decide (((s[0]'h).toNat : Int) = 77) := by
 cases s with
 | nil => simp at h
 | cons x s => rfl
theorem Jej {r : Tb} {k : Int} {c a : Nat} (h : 4 < c * J6 k) : Jbe r k c a = if 8 ≤ Jn r a 4 ∧ Jn r a 4 + c * J6 k ≤ r.s_.length then Ja1 ⟨r.s_, r.kab, r.kaa ++ [⟨(Jn r a 4 : Int), ((Jn r a 4 + c * J6 k : Nat) : Int)⟩], r.kae, r.kad, r.kac, r.no_⟩ k c ((r.s_.drop (Jn r a 4)).take (c * J6 k)) else (⟨0, [], [], [], []⟩, fl r 2) := by
 unfold Jbe; rw [if_pos h]
theorem Jdd {r : Tb} {k : Int} {c a : Nat} (h : ¬ 4 < c * J6 k) : Jbe r k c a = Ja1 r k c ((r.s_.drop a).take (c * J6 k)) := by
 unfold Jbe; rw [if_neg h]
theorem loop_nextC {d : Nat} {self : V0} (H : Jfg d self) {path : List Int} (hpl : path.length + d + 1 = 6) (r : Tb) {pl nxt cnt : Nat} (hs : r.s_.length ≤ 65000) (hcnt : cnt ≤ 200) (hin : pl + 2 + 12 * cnt ≤ r.s_.length) (hp : r.kaa.length + cap (d + 1) ≤ 7999999999999) (hf : r.kac ≤ 0) :
  ∀ (m i : Nat) (rc : Tb) (l : List Ta), i + m = cnt → l.length = i → Adds r rc (1 + i * (1 + cap d)) ((Uw (d + 1) l : Nat) + 12 * m : Int) →
   ∀ l' nx r', Wc self path pl nxt cnt i rc l = some (l', nx, r') → nx = (nxt : Int) ∧ (r'.no_ = 0 → l'.length = cnt) := by
 intro m
 have hcap : ∀ i, i ≤ 200 → 1 + i * (1 + cap d) ≤ cap (d + 1) := fun i hi => by
  show _ ≤ 1 + 200 * (1 + cap d)
  have := Nat.mul_le_mul_right (1 + cap d) hi; omega
 induction m with
 | zero =>
  intro i rc l him hl hA l' nx r' hd
  rw [Wv _ _ _ _ _ _ _ _ (.inl (by omega))] at hd
  cases hd
  exact ⟨rfl, fun _ => by omega⟩
 | succ m ih =>
  intro i rc l him hl hA l' nx r' hd
  have hsl := hA.len
  by_cases hno : rc.no_ = 0
  ·have hin' : pl + 2 + 12 * cnt ≤ rc.s_.length := by omega
   by_cases hlow : ∃ h : 0 < i, (Jn rc (pl + 2 + 12 * i) 2 : Int) ≤ (l[i - 1]'(by omega)).Tag
   ·obtain ⟨h0, hlow⟩ := hlow
    rw [Jgh _ _ _ _ _ _ _ _ (by omega) hno h0 (by omega) hin' (by omega) hlow] at hd
    cases hd
    exact ⟨rfl, fun h => absurd h (Xz rc (by decide))⟩
   ·have hi1 := hcap (i + 1) (by omega)
    rw [Nat.add_mul, Nat.one_mul] at hi1
    have hpr := hA.parts
    obtain ⟨e, r2, he, hA'⟩ := Jc8 H rc (a := pl + 2 + 12 * i) hpl (by omega) (by omega) (by rw [hA.2.2.2.1]; exact hf)
    rw [Jc6 self path pl nxt cnt i rc l (by omega) hno hl (by omega) hin' (by omega) (fun h hh => hlow ⟨h, hh⟩) (by omega) (by rw [hA.2.2.2.1]; exact hf) (by omega) he] at hd
    exact ih (i + 1) r2 (l ++ [e]) (by omega) (by simp; omega) ((hA.trans hA').mono (by rw [Nat.add_mul, Nat.one_mul]; omega) (by rw [Jgy]; omega)) l' nx r' hd
  ·rw [Wv _ _ _ _ _ _ _ _ (.inr hno)] at hd
   cases hd
   exact ⟨rfl, fun h => absurd h hno⟩
theorem dirR_next {d : Nat} {self : V0} (H : Jfg d self) (r : Tb) (pl : Nat) (path : List Int) (hno : r.no_ = 0) (hpl : path.length + d + 1 = 6) (hs : r.s_.length ≤ 65000) (hp : r.kaa.length + cap (d + 1) ≤ 7999999999999) (hf : r.kac ≤ 0) {l : List Ta} {nx : Int} {r' : Tb}
  (hd : dirR self r pl path = some (l, nx, r')) (hno' : r'.no_ = 0) : nx = (vS r.s_ r.kab (pl + 2 + 12 * l.length) 4 : Int) ∧ l.length = vS r.s_ r.kab pl 2 := by
 unfold dirR at hd
 split at hd
 ·cases hd; exact absurd hno' (Xz _ (by decide))
 rename_i h8
 split at hd
 ·cases hd; exact absurd hno' (Xz _ (by decide))
 split at hd
 ·cases hd; exact absurd hno' (Xz _ (by decide))
 rename_i hlim
 split at hd
 ·cases hd; exact absurd hno' (Xz _ (by decide))
 rename_i hin
 split at hd
 ·rename_i h; exact absurd hno h
 have hpart := Adds.part r ⟨(pl : Int), ((pl + (2 + 12 * Jn r pl 2 + 4) : Nat) : Int)⟩ (W0 r.kae (pl : Int) true) ⟨by simp only; omega, by simp only; omega, by simp only; omega⟩
 split at hd
 ·rw [Wv _ _ _ _ _ _ _ _ (.inr (Xz _ (by decide)))] at hd
  cases hd
  exact absurd hno' (Xz _ (by decide))
 ·obtain ⟨k1, k2⟩ := loop_nextC (nxt := Jn r (pl + 2 + 12 * Jn r pl 2) 4) H hpl r hs (show Jn r pl 2 ≤ 200 by omega) (show pl + 2 + 12 * Jn r pl 2 ≤ r.s_.length by omega) hp hf (Jn r pl 2) 0 _ [] (by omega) rfl (hpart.mono (by omega) (by rw [Jb2]; simp only; omega)) l nx r' hd
  have k2 := k2 hno'
  rw [k1, k2]
  exact ⟨rfl, rfl⟩
theorem dir_next {r : Tb} {pl : Nat} {i : Int} {l : List Ta} {nx : Nat} {r' : Tb} (hd : Z5 r (pl : Int) [i] = some (l, (nx : Int), r')) (hno : r.no_ = 0) (hb : pl ≤ 4294967295) (hs : r.s_.length ≤ 65000) (hp : r.kaa.length + cap 5 ≤ 7999999999999) (hf : r.kac ≤ 0) (hno' : r'.no_ = 0) : vS r.s_ r.kab (pl + 2 + 12 * l.length) 4 = nx := by
 rw [dir_it _ _ _ rfl] at hd
 have hd : J1 (it dirF 5) r (pl : Int) [i] = some (l, (nx : Int), r') := hd
 rw [Jcc _ r hb hs (by omega)] at hd
 have := (dirR_next (it_ok 4 5 (by omega)) r pl [i] hno rfl hs hp hf hd hno').1
 omega
def Ris (l : List Ta) : Prop := l.Pairwise fun x y => x.Tag < y.Tag
def okR : Nat → List Ta → Prop
 | 0, _ => False
 | d + 1, l => l.length ≤ 200 ∧ Ris l ∧ ∀ e ∈ l, okV e.Value ∧ (e.Value.kah = 13 → okR d e.Value.kaf)
theorem listE_rise {f : Ta → Int} : ∀ {l : List Ta} {pr : Option Int}, Jgv f pr l = 0 → (∀ t, pr = some t → ∀ e ∈ l, t < e.Tag) ∧ Ris l := by
 intro l
 induction l with
 | nil => intro pr _; exact ⟨fun _ _ _ h => (by cases h), List.Pairwise.nil⟩
 | cons e l ih =>
  intro pr h
  unfold Jgv at h
  split at h
  ·omega
  split at h
  ·omega
  rename_i h1 h2
  split at h
  ·rename_i h3; exact absurd h h3
  obtain ⟨a1, a2⟩ := ih h
  have key : ∀ t, pr = some t → t < e.Tag := fun t ht => Classical.byContradiction fun hh => h2 ⟨t, ht, by omega⟩
  refine ⟨fun t ht x hx => ?_, List.pairwise_cons.2 ⟨fun x hx => a1 _ rfl x hx, a2⟩⟩
  rcases List.mem_cons.1 hx with h | h
  ·subst h; exact key t ht
  ·have := key t ht; have := a1 _ rfl x h; omega
theorem dE_okR : ∀ {d : Nat} {l : List Ta}, dE d l = 0 → okR d l := by
 intro d
 induction d with
 | zero => intro l h; unfold dE at h; omega
 | succ d ih =>
  intro l h
  have hok := dE_ok h
  unfold dE at h
  split at h
  ·omega
  refine ⟨hok.1, (listE_rise h).2, fun e he => ⟨(hok.2 e he).1, fun h13 => ?_⟩⟩
  have := Jfk h e he
  rw [if_neg (fun hh => hh h13)] at this
  split at this
  ·rename_i h1; exact absurd this h1
  ·exact ih this
def same (v w : Td) : Prop := v.kah = w.kah ∧ v.kai = w.kai ∧ v.kaj = w.kaj ∧ v.kag = w.kag
def dm (W8 : Ta → Ta → List (List Int)) (path : List Int) : List Ta → List Ta → List (List Int)
 | [], [] => []
 | a :: az, [] => (path ++ [a.Tag]) :: dm W8 path az []
 | [], b :: bs => (path ++ [b.Tag]) :: dm W8 path [] bs
 | a :: az, b :: bs => if a.Tag < b.Tag then (path ++ [a.Tag]) :: dm W8 path az (b :: bs) else if b.Tag < a.Tag then (path ++ [b.Tag]) :: dm W8 path (a :: az) bs else W8 a b ++ dm W8 path az bs
termination_by a b => a.length + b.length
def dif : Nat → List Ta → List Ta → List Int → List (List Int)
 | 0, _, _, _ => []
 | d + 1, a, b, path => dm (fun x y => open Classical in if x.Value.kah = 13 ∧ y.Value.kah = 13 then dif d x.Value.kaf y.Value.kaf (path ++ [x.Tag]) else if same x.Value y.Value then [] else [path ++ [x.Tag]]) path a b
def W8 (d : Nat) (path : List Int) (x y : Ta) : List (List Int) := open Classical in if x.Value.kah = 13 ∧ y.Value.kah = 13 then dif d x.Value.kaf y.Value.kaf (path ++ [x.Tag]) else if same x.Value y.Value then [] else [path ++ [x.Tag]]
theorem Jf4 (d : Nat) (a b : List Ta) (path : List Int) : dif (d + 1) a b path = dm (W8 d path) path a b := rfl
theorem dm_len {h : Ta → Ta → List (List Int)} {path : List Int} {m : Ta → Nat} : ∀ (n : Nat) (a b : List Ta), a.length + b.length ≤ n → (∀ x ∈ a, 1 ≤ m x) → (∀ y ∈ b, 1 ≤ m y) → (∀ x ∈ a, ∀ y ∈ b, (h x y).length ≤ m x + m y) →
  (dm h path a b).length ≤ (a.map m).sum + (b.map m).sum := by
 intro n
 induction n with
 | zero =>
  intro a b hn _ _ _
  obtain rfl : a = [] := List.length_eq_zero_iff.1 (by omega)
  obtain rfl : b = [] := List.length_eq_zero_iff.1 (by omega)
  rw [dm]; simp
 | succ n ih =>
  intro a b hn h1 h2 h3
  cases a with
  | nil =>
   cases b with
   | nil => rw [dm]; simp
   | cons b bs =>
    rw [dm]
    have := ih [] bs (by simp only [List.length_cons, List.length_nil] at hn ⊢; omega) h1 (fun y hy => h2 y (.tail _ hy)) (fun x hx => by cases hx)
    have hb := h2 b (.head _)
    simp only [List.length_cons, List.map_cons, List.sum_cons, List.map_nil, List.sum_nil] at this ⊢
    omega
  | cons a az =>
   have ha := h1 a (.head _)
   cases b with
   | nil =>
    rw [dm]
    have := ih az [] (by simp only [List.length_cons, List.length_nil] at hn ⊢; omega) (fun y hy => h1 y (.tail _ hy)) h2 (fun x _ y hy => by cases hy)
    simp only [List.length_cons, List.map_cons, List.sum_cons, List.map_nil, List.sum_nil] at this ⊢
    omega
   | cons b bs =>
    have hb := h2 b (.head _)
    simp only [List.length_cons] at hn
    rw [dm]
    split
    ·have := ih az (b :: bs) (by simp only [List.length_cons]; omega) (fun y hy => h1 y (.tail _ hy)) h2 (fun x hx y hy => h3 x (.tail _ hx) y hy)
     simp only [List.length_cons, List.map_cons, List.sum_cons] at this ⊢
     omega
    ·split
     ·have := ih (a :: az) bs (by simp only [List.length_cons]; omega) h1 (fun y hy => h2 y (.tail _ hy)) (fun x hx y hy => h3 x hx y (.tail _ hy))
      simp only [List.length_cons, List.map_cons, List.sum_cons] at this ⊢
      omega
     ·have := ih az bs (by omega) (fun y hy => h1 y (.tail _ hy)) (fun y hy => h2 y (.tail _ hy)) (fun x hx y hy => h3 x (.tail _ hx) y (.tail _ hy))
      have h4 := h3 a (.head _) b (.head _)
      simp only [List.length_append, List.map_cons, List.sum_cons] at this ⊢
      omega
theorem szD_sum (d : Nat) (l : List Ta) : (l.map (szE d)).sum = Uw (d + 1) l := rfl
theorem dif_len : ∀ (d : Nat) (a b : List Ta) (path : List Int), (dif d a b path).length ≤ Uw d a + Uw d b := by
 intro d
 induction d with
 | zero => intro a b path; exact Nat.zero_le _
 | succ d ih =>
  intro a b path
  rw [Jf4, ← szD_sum, ← szD_sum]
  refine dm_len _ a b (Nat.le_refl _) (fun x _ => by unfold szE; omega) (fun x _ => by unfold szE; omega) fun x _ y _ => ?_
  unfold W8
  split
  ·have := ih x.Value.kaf y.Value.kaf (path ++ [x.Tag])
   unfold szE; omega
  ·split
   ·simp
   ·unfold szE; simp only [List.length_cons, List.length_nil]; omega
theorem eqInts (a b : List Int) (h : a.length ≤ 2000000) : Vp a b = some (decide (a = b)) := by
 unfold Vp
 rw [cI]
 by_cases hl : a.length = b.length
 ·rw [if_neg (by omega)]
  refine (up (F := fun next1 s => Zn a b next1 s) a.length (fun k => some (decide (a.drop k = b.drop k))) fun next k hk ih => ?_)
  show Zn a b next (k : Int) = _
  unfold Zn
  rw [cI]
  by_cases h : k < a.length
  ·rw [if_pos (by omega), Qn h, Jb, Qn (by omega), Jb, cI]
   have q : (a.drop k = b.drop k) = (a[k] = b[k]'(by omega) ∧ a.drop (k + 1) = b.drop (k + 1)) := by
    rw [List.drop_eq_getElem_cons h, List.drop_eq_getElem_cons (show k < b.length by omega), List.cons.injEq]
   simp only [q]
   by_cases he : a[k] = b[k]'(by omega)
   ·rw [if_neg (fun hh => hh he), J2 (by omega), Jb, ih h]; simp [he]
   ·rw [if_pos he]; simp [he]
  ·rw [if_neg (by omega), List.drop_eq_nil_of_le (by omega), List.drop_eq_nil_of_le (by omega)]; simp
 ·rw [if_pos (by omega), decide_eq_false (fun hh => hl (by rw [hh]))]
theorem eqRats (a b : List Tf) (h : a.length ≤ 2000000) : Vh a b = some (open Classical in decide (a = b)) := by
 classical
 unfold Vh
 rw [cI]
 by_cases hl : a.length = b.length
 ·rw [if_neg (by omega)]
  refine (up (F := fun next1 s => Ya a b next1 s) a.length (fun k => some (decide (a.drop k = b.drop k))) fun next k hk ih => ?_).trans (by simp)
  show Ya a b next (k : Int) = _
  unfold Ya
  rw [cI]
  by_cases h : k < a.length
  ·rw [if_pos (by omega), Qn h, Jb, Qn (by omega), Jb]
   have q : (a.drop k = b.drop k) = (a[k] = b[k]'(by omega) ∧ a.drop (k + 1) = b.drop (k + 1)) := by
    rw [List.drop_eq_getElem_cons h, List.drop_eq_getElem_cons (show k < b.length by omega), List.cons.injEq]
   simp only [q]
   have e : ∀ x y : Tf, Vd x y = decide (x = y) := fun x y => by
    unfold Vd; cases x; cases y; simp
   rw [e]
   by_cases he : a[k] = b[k]'(by omega)
   ·rw [decide_eq_true he]
    show Qv false _ _ = _
    rw [Qm, J2 (by omega), Jb, ih h]; simp [he]
   ·rw [decide_eq_false he]
    show Qv true _ _ = _
    rw [Xf]; simp [he]
  ·rw [if_neg (by omega), List.drop_eq_nil_of_le (by omega), List.drop_eq_nil_of_le (by omega)]; simp
 ·rw [if_pos (by omega), decide_eq_false (fun hh => hl (by rw [hh]))]
theorem sameValue_eq (v w : Td) (h : vB v) : Jbg v w = some (open Classical in decide (same v w)) := by
 classical
 unfold Jbg same
 rw [cI]
 by_cases h1 : v.kah = w.kah
 ·rw [if_pos h1, cI]
  by_cases h2 : v.kai = w.kai
  ·rw [if_pos h2, eqInts _ _ h.2.1, Jb, cI]
   by_cases h3 : v.kaj = w.kaj
   ·rw [if_pos h3, eqRats _ _ h.2.2, Jb]; simp [h1, h2, h3]
   ·rw [if_neg h3]; simp [h3]
  ·rw [if_neg h2]; simp [h2]
 ·rw [if_neg h1]; simp [h1]
theorem Ji0 {v : Td} (h : okV v) (h13 : v.kah ≠ 13) : v.kaf = [] :=
 Classical.byContradiction fun hh => h.2 (.inr (.inr (.inr ⟨h13, hh⟩)))
theorem clone_eqX (p : List Int) (h : p.length ≤ 1000000) : Jj p = some p := by
 unfold Jj
 rw [X5 (by simp only [List.length_nil]; omega), Jb]; rfl
theorem tell_eq (l : List (List Int)) (p : List Int) (h : p.length ≤ 1000000) (hl : l.length ≤ 1000000000000) : Wa l p = some (l ++ [p]) := by
 unfold Wa
 rw [clone_eqX p h, Jb, X5 (by simp only [List.length_cons, List.length_nil]; omega), Jb]
def DI (d : Nat) (path : List Int) (a b : List Ta) (s : Int × Int × List (List Int)) : Prop :=
 ∃ i k : Nat, s.1 = i ∧ s.2.1 = k ∧ i ≤ a.length ∧ k ≤ b.length ∧ s.2.2.length + (dm (W8 d path) path (a.drop i) (b.drop k)).length ≤ 1000000000000
theorem differ_eq (d : Nat) : ∀ (a b : List Ta) (path : List Int) (l : List (List Int)), okR d a → okR d b → Uw d a ≤ 2000000 → Uw d b ≤ 2000000 → path.length + d ≤ 100 → l.length + (dif d a b path).length ≤ 1000000000000 →
  Jb9 a b path l = some (l ++ dif d a b path) := by
 intro a b path l h1 h2 h3 h4 h5 h6
 unfold Jb9
 refine Jhw (fun (g : Nat) (s : List Ta × List Ta × List Int × List (List Int)) => some (s.2.2.2 ++ dif g s.1 s.2.1 s.2.2.1))
  (fun g s => okR g s.1 ∧ okR g s.2.1 ∧ Uw g s.1 ≤ 2000000 ∧ Uw g s.2.1 ≤ 2000000 ∧ s.2.2.1.length + g ≤ 100 ∧ s.2.2.2.length + (dif g s.1 s.2.1 s.2.2.1).length ≤ 1000000000000) (fun g => g) ?_ d (a, b, path, l) ⟨h1, h2, h3, h4, h5, h6⟩
 clear h1 h2 h3 h4 h5 h6 a b path l d
 classical
 rintro next g ⟨a, b, path, l⟩ ⟨h1, h2, h3, h4, h5, h6⟩ ih
 simp only at h1 h2 h3 h4 h5 h6 ih
 show Zq next a b path l = some (l ++ dif g a b path)
 cases g with
 | zero => exact absurd h1 id
 | succ d =>
  obtain ⟨la, ra, ea⟩ := h1
  obtain ⟨lb, rb, eb⟩ := h2
  rw [Jf4] at h6 ⊢
  unfold Zq
  have fin := fix_of (F := fun next1 s => Z0 a b path next next1 s.1 s.2.1 s.2.2) (fun s => some (s.2.2 ++ dm (W8 d path) path (a.drop s.1.toNat) (b.drop s.2.1.toNat))) (DI d path a b)
   (fun s => (a.length - s.1.toNat) + (b.length - s.2.1.toNat)) ?_ (0, 0, l) ⟨0, 0, rfl, rfl, Nat.zero_le _, Nat.zero_le _, h6⟩
  ·exact fin
  rintro nx ⟨x, y, l⟩ ⟨i, k, hx, hy, hi, hk, hl⟩ ih2
  simp only at hx hy hl ih2
  subst hx; subst hy
  simp only [Int.toNat_natCast]
  show Z0 a b path next nx (i : Int) (k : Int) l = _
  have gp : ∀ t : Int, Xd 8 path ([t] : List Int) = some (path ++ [t]) := fun t => X5 (by simp only [List.length_cons, List.length_nil]; omega)
  have pl : ∀ t : Int, (path ++ [t]).length ≤ 1000000 := fun t => by rw [List.length_append, List.length_singleton]; omega
  have SA : ∀ (hi' : i < a.length), dm (W8 d path) path (a.drop i) (b.drop k) = (path ++ [a[i].Tag]) :: dm (W8 d path) path (a.drop (i + 1)) (b.drop k) →
    Vl a b path next (i : Int) (k : Int) l nx true = some (l ++ dm (W8 d path) path (a.drop i) (b.drop k)) := fun hi' e => by
   rw [e, List.length_cons] at hl
   unfold Vl
   rw [Xf, Qn hi', Jb, gp, Jb, tell_eq _ _ (pl _) (by omega), Jb, J2 (by omega), Jb]
   refine (ih2 (((i + 1 : Nat) : Int), (k : Int), l ++ [path ++ [a[i].Tag]]) ⟨i + 1, k, rfl, rfl, hi', hk, ?_⟩ ?_).trans ?_
   ·rw [List.length_append, List.length_singleton]; omega
   ·simp only [Int.toNat_natCast]; omega
   ·simp only [Int.toNat_natCast]; rw [e, List.append_assoc]; rfl
  have SB : ∀ (hk' : k < b.length), dm (W8 d path) path (a.drop i) (b.drop k) = (path ++ [b[k].Tag]) :: dm (W8 d path) path (a.drop i) (b.drop (k + 1)) →
    Uk a b path next (i : Int) (k : Int) l nx true = some (l ++ dm (W8 d path) path (a.drop i) (b.drop k)) := fun hk' e => by
   rw [e, List.length_cons] at hl
   unfold Uk
   rw [Xf, Qn hk', Jb, gp, Jb, tell_eq _ _ (pl _) (by omega), Jb, J2 (by omega), Jb]
   refine (ih2 ((i : Int), ((k + 1 : Nat) : Int), l ++ [path ++ [b[k].Tag]]) ⟨i, k + 1, rfl, rfl, hi, hk', ?_⟩ ?_).trans ?_
   ·rw [List.length_append, List.length_singleton]; omega
   ·simp only [Int.toNat_natCast]; omega
   ·simp only [Int.toNat_natCast]; rw [e, List.append_assoc]; rfl
  rcases Nat.lt_or_ge i a.length with hi' | hi'
  ·have ea1 := List.drop_eq_getElem_cons hi'
   have hgo : Z0 a b path next nx (i : Int) (k : Int) l = Ui a b path next (i : Int) (k : Int) l nx := by
    unfold Z0
    rw [cI, if_pos (by omega)]
   rw [hgo]
   unfold Ui
   rw [cI]
   rcases Nat.lt_or_ge k b.length with hk' | hk'
   ·have eb1 := List.drop_eq_getElem_cons hk'
    rw [if_neg (by omega), cI, if_pos (by omega), Qn hi', Jb, Qn hk', Jb]
    by_cases hab : a[i].Tag < b[k].Tag
    ·rw [decide_eq_true hab]
     refine SA hi' ?_
     rw [ea1, eb1, dm, if_pos hab]
    rw [decide_eq_false hab]
    unfold Vl
    rw [Qm, cI, if_neg (by omega), Qn hk', Jb, Qn hi', Jb]
    by_cases hba : b[k].Tag < a[i].Tag
    ·rw [decide_eq_true hba]
     refine SB hk' ?_
     rw [ea1, eb1, dm, if_neg hab, if_pos hba]
    rw [decide_eq_false hba]
    have e : dm (W8 d path) path (a.drop i) (b.drop k) = W8 d path a[i] b[k] ++ dm (W8 d path) path (a.drop (i + 1)) (b.drop (k + 1)) := by
     rw [ea1, eb1, dm, if_neg hab, if_neg hba]
    rw [e, List.length_append] at hl
    rw [e]
    unfold Uk
    rw [Qm, Qn hi', Jb, gp, Jb, Jb, Qn hk', Jb]
    have mi : a[i] ∈ a := List.getElem_mem hi'
    have mk : b[k] ∈ b := List.getElem_mem hk'
    obtain ⟨va, sa⟩ := Je5 h3 mi
    obtain ⟨vb, sb⟩ := Je5 h4 mk
    have step : ∀ l' : List (List Int), l' = l ++ W8 d path a[i] b[k] → Ue (i : Int) (k : Int) nx l' = some (l ++ (W8 d path a[i] b[k] ++ dm (W8 d path) path (a.drop (i + 1)) (b.drop (k + 1)))) := fun l' hl' => by
     unfold Ue
     rw [J2 (by omega), Jb, J2 (by omega), Jb]
     refine (ih2 (((i + 1 : Nat) : Int), ((k + 1 : Nat) : Int), l') ⟨i + 1, k + 1, rfl, rfl, hi', hk', ?_⟩ ?_).trans ?_
     ·rw [hl', List.length_append]; omega
     ·simp only [Int.toNat_natCast]; omega
     ·simp only [Int.toNat_natCast]; rw [hl', List.append_assoc]
    have plain : ¬ (a[i].Value.kah = 13 ∧ b[k].Value.kah = 13) → Uj next (i : Int) (k : Int) l nx (path ++ [a[i].Tag]) a[i] b[k] false = some (l ++ (W8 d path a[i] b[k] ++ dm (W8 d path) path (a.drop (i + 1)) (b.drop (k + 1)))) := fun hn => by
     unfold Uj
     rw [Qm, sameValue_eq _ _ va, Jb]
     by_cases hs : same a[i].Value b[k].Value
     ·rw [decide_eq_true hs]
      show Qv false _ _ = _
      rw [Qm]
      refine step l ?_
      unfold W8; rw [if_neg hn, if_pos hs, List.append_nil]
     ·rw [decide_eq_false hs]
      show Qv true _ _ = _
      have eh : W8 d path a[i] b[k] = [path ++ [a[i].Tag]] := by unfold W8; rw [if_neg hn, if_neg hs]
      rw [Xf, tell_eq _ _ (pl _) (by omega), Jb]
      exact step _ (by rw [eh])
    rw [cI]
    by_cases ha13 : a[i].Value.kah = 13
    ·rw [if_pos ha13]
     by_cases hb13 : b[k].Value.kah = 13
     ·have eh : W8 d path a[i] b[k] = dif d a[i].Value.kaf b[k].Value.kaf (path ++ [a[i].Tag]) := by unfold W8; rw [if_pos ⟨ha13, hb13⟩]
      rw [decide_eq_true hb13]
      unfold Uj
      rw [Xf]
      have := ih d (a[i].Value.kaf, b[k].Value.kaf, path ++ [a[i].Tag], l) ⟨(ea _ mi).2 ha13, (eb _ mk).2 hb13, sa, sb, by rw [List.length_append, List.length_singleton]; omega, by show l.length + (dif d a[i].Value.kaf b[k].Value.kaf (path ++ [a[i].Tag])).length ≤ 1000000000000; rw [← eh]; omega⟩ (by omega)
      simp only at this
      rw [this, Jb]
      exact step _ (by rw [eh])
     ·rw [decide_eq_false hb13]
      exact plain fun h => hb13 h.2
    ·rw [if_neg ha13]
     exact plain fun h => ha13 h.1
   ·obtain rfl : k = b.length := by omega
    rw [if_pos rfl]
    refine SA hi' ?_
    rw [List.drop_length, ea1, dm]
  ·obtain rfl : i = a.length := by omega
   rcases Nat.lt_or_ge k b.length with hk' | hk'
   ·have eb1 := List.drop_eq_getElem_cons hk'
    unfold Z0
    rw [cI, if_neg (by omega), cI, if_pos (by omega)]
    unfold Ui
    rw [cI, if_neg (by omega), cI, if_neg (by omega)]
    unfold Vl
    rw [Qm, cI, if_pos rfl]
    refine SB hk' ?_
    rw [List.drop_length, eb1, dm]
   ·obtain rfl : k = b.length := by omega
    unfold Z0
    rw [cI, if_neg (by omega), cI, if_neg (by omega), List.drop_length, List.drop_length, dm, List.append_nil]
theorem half {x : Int} (h : 0 ≤ x ∧ x ≤ 4611686018427387904) : gShr 64 (wU64 x) 1 = some (x / 2) ∧ U6 (x / 2) = x / 2 := by
 refine ⟨?_, wI64_in (by omega)⟩
 rw [wU64_in (by omega)]
 unfold gShr
 rw [if_pos (by omega)]
 rfl
theorem bin_loop {α ρ : Type} {F : (Int × Int → Option ρ) → Int × Int → Option ρ} (l : List α) (p : α → Bool) (mono : ∀ (i j : Nat) (hi : i < l.length) (hj : j < l.length), i < j → p l[j] = true → p l[i] = true) (J : Int → Option ρ)
  (more : ∀ (next : Int × Int → Option ρ) (i j : Nat) (h : (i + j) / 2 < l.length), i < j → j ≤ l.length → F next ((i : Int), (j : Int)) = if p l[(i + j) / 2] = true then next (((i + j) / 2 : Nat) + 1, (j : Int)) else next ((i : Int), (((i + j) / 2 : Nat) : Int)))
  (stop : ∀ next (i : Nat), i ≤ l.length → F next ((i : Int), (i : Int)) = J i) :
  ∃ k : Nat, k ≤ l.length ∧ (∀ (i : Nat) (h : i < l.length), i < k → p l[i] = true) ∧ (∀ (i : Nat) (h : i < l.length), k ≤ i → p l[i] = false) ∧ Wq F (0, (l.length : Int)) = J k := by
 have key : ∀ n i j, i ≤ j → j ≤ l.length → j - i < n → (∀ (q : Nat) (h : q < l.length), q < i → p l[q] = true) → (∀ (q : Nat) (h : q < l.length), j ≤ q → p l[q] = false) →
   ∃ k : Nat, k ≤ l.length ∧ (∀ (i : Nat) (h : i < l.length), i < k → p l[i] = true) ∧ (∀ (i : Nat) (h : i < l.length), k ≤ i → p l[i] = false) ∧ Wq F ((i : Int), (j : Int)) = J k := by
  intro n
  induction n with
  | zero => intro i j _ _ h; omega
  | succ n ih =>
   intro i j h1 h2 h3 h4 h5
   rcases Nat.lt_or_ge i j with h | h
   ·have hb : (i + j) / 2 < l.length := by omega
    by_cases hp : p l[(i + j) / 2] = true
    ·rw [Xv ((((i + j) / 2 + 1 : Nat) : Int), (j : Int)) fun next => by rw [more next i j hb h h2, if_pos hp]; rfl]
     refine ih _ _ (by omega) h2 (by omega) (fun q hq hq2 => ?_) h5
     rcases Nat.lt_or_ge q ((i + j) / 2) with h6 | h6
     ·exact mono q _ hq hb h6 hp
     ·have : q = (i + j) / 2 := by omega
      subst this; exact hp
    ·rw [Xv ((i : Int), (((i + j) / 2 : Nat) : Int)) fun next => by rw [more next i j hb h h2, if_neg hp]]
     refine ih _ _ (by omega) (by omega) (by omega) h4 fun q hq hq2 => ?_
     rcases Nat.lt_or_ge ((i + j) / 2) q with h6 | h6
     ·cases h7 : p l[q] with
      | false => rfl
      | true => exact absurd (mono _ q hb hq h6 h7) hp
     ·have : q = (i + j) / 2 := by omega
      subst this; simpa using hp
   ·have : i = j := by omega
    subst this
    exact ⟨i, h2, h4, h5, Qz fun next => stop next i h2⟩
 simpa using key (l.length + 1) 0 l.length (Nat.zero_le _) (Nat.le_refl _) (by omega) (fun q _ h => by omega) (fun q h h' => by omega)
def lk : List Ta → Int → Option Ta
 | [], _ => none
 | e :: l, t => if e.Tag = t then some e else lk l t
theorem lk_ne {e : Ta} {l : List Ta} {t : Int} (h : e.Tag < t) : lk (e :: l) t = lk l t := by rw [lk, if_neg (by omega)]
theorem lk_at {l : List Ta} (hr : Ris l) {k : Nat} (hk : k < l.length) : lk l l[k].Tag = some l[k] := by
 induction l generalizing k with
 | nil => cases hk
 | cons e l ih =>
  obtain ⟨h1, h2⟩ := List.pairwise_cons.1 hr
  cases k with
  | zero => rw [lk]; exact if_pos rfl
  | succ k =>
   have hk' : k < l.length := by simpa using hk
   rw [show (e :: l)[k + 1] = l[k] from rfl, lk_ne (h1 _ (List.getElem_mem hk'))]
   exact ih h2 hk'
theorem lk_no {l : List Ta} {t : Int} (h : ∀ x ∈ l, x.Tag ≠ t) : lk l t = none := by
 induction l with
 | nil => rfl
 | cons x l ih => rw [lk, if_neg (h x (.head _)), ih fun y hy => h y (.tail _ hy)]
def Jdc (a0 : Ta) (a1 : Int) : Option Int := some (if a0.Tag < a1 then -1 else if a1 < a0.Tag then 1 else 0)
def Jbs (l : List Ta) (t : Int) : Option (Int × Bool) := Jz (X0 l t Jdc) fun t8 => some (t8.1, t8.2)
theorem Jip (e : Ta) (t : Int) : Jdc e t = some (if e.Tag < t then -1 else if t < e.Tag then 1 else 0) := rfl
theorem place1_eq : Jcq = Jdc := by
 funext e t
 rw [Jip]
 unfold Jcq
 rw [cI, cI]; (repeat' split) <;> rfl
theorem Jgz (l : List Ta) (t : Int) : Jb4 l t = Jbs l t := by
 unfold Jb4 Jbs; rw [place1_eq]
theorem find_eq (l : List Ta) (t : Int) (hr : Ris l) (hl : l.length ≤ 200) :
  (Jbs l t = some (Jbs l t |>.getD (0, false)) ∧ lk l t = none ∧ (Jbs l t |>.getD (0, false)).2 = false) ∨ ∃ k, ∃ hk : k < l.length, Jbs l t = some ((k : Int), true) ∧ lk l t = some l[k] ∧ l[k].Tag = t := by
 have hp := List.pairwise_iff_getElem.1 hr
 obtain ⟨k, h1, h2, h3, h4⟩ := bin_loop (F := fun next2 s => Qq l t Jdc next2 s.1 s.2) l (fun x => decide (x.Tag < t)) (fun i j hi hj hij h => by have := hp i j hi hj hij; simp at h ⊢; omega) (Q6 l t Jdc)
  (fun next i j h hij hj => by
   obtain ⟨f1, f2⟩ := half (x := (i : Int) + j) (by omega)
   rw [show ((i : Int) + j) / 2 = (((i + j) / 2 : Nat) : Int) by omega] at f1 f2
   simp only [Qq]
   rw [cI, if_pos (by omega), J2 (by omega), Jb, f1, Jb, f2, Qn h, Jb, Jip, Jb, cI]
   by_cases hlt : l[(i + j) / 2].Tag < t
   ·rw [if_pos hlt, if_pos (by omega), J2 (by omega), Jb, if_pos (by simpa using hlt)]
   ·rw [if_neg hlt, if_neg (by split <;> omega), if_neg (by simpa using hlt)])
  (fun next i hi => by
   simp only [Qq]
   rw [cI, if_neg (by omega)])
 have hfix : Jbs l t = Jz (Q6 l t Jdc k) fun t8 => some (t8.1, t8.2) := by
  unfold Jbs X0
  rw [h4]
 unfold Q6 at hfix
 have out : ∀ j (hj : j < l.length), l[j].Tag = t → k < l.length ∧ j = k := fun j hj e => by
  rcases Nat.lt_or_ge j k with h | h
  ·have := h2 j hj h; simp at this; omega
  ·rcases Nat.lt_or_ge k j with h' | h'
   ·have g3 := h3 k (by omega) (Nat.le_refl _); simp at g3
    have := hp k j (by omega) hj h'; omega
   ·exact ⟨by omega, by omega⟩
 rw [cI] at hfix
 rcases Nat.lt_or_ge k l.length with hk | hk
 ·rw [if_pos (by omega), Qn hk, Jb, Jip, Jb, Jb] at hfix
  by_cases he : l[k].Tag = t
  ·refine .inr ⟨k, hk, ?_, by rw [← he]; exact lk_at hr hk, he⟩
   rw [hfix, if_neg (by omega), if_neg (by omega)]; rfl
  ·refine .inl ⟨by rw [hfix]; rfl, lk_no fun x hx e => ?_, ?_⟩
   ·obtain ⟨j, hj, rfl⟩ := List.getElem_of_mem hx
    obtain ⟨_, rfl⟩ := out j hj e
    exact he e
   ·rw [hfix]
    show decide _ = false
    refine decide_eq_false ?_
    split
    ·omega
    ·rw [if_pos (by omega)]; omega
 ·rw [if_neg (by omega), Jb] at hfix
  refine .inl ⟨by rw [hfix]; rfl, lk_no fun x hx e => ?_, by rw [hfix]; rfl⟩
  obtain ⟨j, hj, rfl⟩ := List.getElem_of_mem hx
  have := out j hj e
  omega
def valE (v : Td) : Int := if v.kah ≠ 13 then Jbu v else if Uq v ≠ 0 then Uq v else dE 5 v.kaf
theorem Jfc {v : Td} (hb : vB v) (hz : Uw 5 v.kaf ≤ 2000000) : Uy v = some (valE v) := by
 unfold Uy valE
 rw [cI]
 by_cases h : v.kah = 13
 ·rw [if_neg (fun hh => hh h), if_neg (fun hh => hh h), Jck, Jb, cI]
  split
  ·rfl
  ·rw [Jhj 5 _ 1 (by omega) (by omega) hz, Jb]
 ·rw [if_pos h, if_pos h, Jff hb, Jb]
theorem plain_fields {v : Td} (h : Jbu v = 0) : Uq v = 0 := by
 unfold Jbu at h
 split at h
 ·exact h
 ·rename_i h1; simpa using h1
theorem val_ok {v : Td} (h : valE v = 0) : okV v ∧ (v.kah = 13 → okR 5 v.kaf) := by
 unfold valE at h
 split at h
 ·rename_i h1; exact ⟨Jc0 (plain_fields h), fun hh => absurd hh h1⟩
 ·split at h
  ·rename_i h1; exact absurd h h1
  ·rename_i h1; exact ⟨Jc0 (by simpa using h1), fun _ => dE_okR h⟩
theorem fits_nil (d : Nat) : fits (d + 1) [] := ⟨Nat.zero_le _, fun x hx => by cases hx⟩
theorem fits_okR : ∀ (d : Nat) (l : List Ta), okR d l → Uw d l ≤ 2000000 → fits (d + 1) l := by
 intro d
 induction d with
 | zero => intro l h _; exact absurd h id
 | succ d ih =>
  intro l ⟨h1, h2, h3⟩ hz
  refine ⟨by omega, fun x hx => ?_⟩
  have hm := Jge (d := d) hx
  unfold szE at hm
  refine ⟨by omega, by omega, ?_⟩
  by_cases hk : x.Value.kah = 13
  ·exact ih _ ((h3 x hx).2 hk) (by omega)
  ·rw [Ji0 (h3 x hx).1 hk]; exact fits_nil d
theorem fits_mono : ∀ (d : Nat) (l : List Ta), fits d l → fits (d + 1) l := by
 intro d
 induction d with
 | zero => intro l h; exact absurd h id
 | succ d ih => intro l ⟨h1, h2⟩; exact ⟨h1, fun x hx => ⟨(h2 x hx).1, (h2 x hx).2.1, ih _ (h2 x hx).2.2⟩⟩
theorem fits_le {d k : Nat} (h : d ≤ k) {l : List Ta} (hf : fits d l) : fits k l := by
 induction k with
 | zero => rw [show d = 0 by omega] at hf; exact hf
 | succ k ih =>
  rcases Nat.lt_or_ge k d with hh | hh
  ·rw [show d = k + 1 by omega] at hf; exact hf
  ·exact fits_mono _ _ (ih hh)
theorem fits8 {d : Nat} {l : List Ta} (h : okR d l) (hz : Uw d l ≤ 2000000) (hd : d ≤ 5) : fits 8 l := fits_le (by omega) (fits_okR d l h hz)
theorem fitV8 {v : Td} {d : Nat} (hd : d ≤ 5) (h : okV v) (h13 : v.kah = 13 → okR d v.kaf) (h1 : v.kaj.length ≤ 2000000) (h2 : v.kag.length ≤ 2000000) (hz : Uw d v.kaf ≤ 2000000) : fitV 8 v := by
 refine ⟨h1, h2, ?_⟩
 by_cases hk : v.kah = 13
 ·exact fits8 (h13 hk) hz hd
 ·rw [Ji0 h hk]; exact fits_nil 7
theorem gAt_mid {α : Type} (pre : List α) (u : α) (rest : List α) : Q9 (pre ++ u :: rest) (pre.length : Int) = some u := by
 rw [Qn (by simp)]; simp
def valueC (v : Td) : Prop := v.kai.length + v.kaj.length + v.kag.length ≤ 1048576 ∧ Uw 5 v.kaf ≤ 1048576
theorem valueC_of {v : Td} (h1 : v.kai.length + v.kaj.length + v.kag.length ≤ 1048576) (h2 : Uw 5 v.kaf ≤ 1048576) : valueC v := ⟨h1, h2⟩
def difs : List (List Ta) → List (List Ta) → Nat → List (List Int)
 | a :: az, b :: bs, i => dif 5 a b [(i : Int)] ++ difs az bs (i + 1)
 | _, _, _ => []
def okF (ls : List (List Ta)) : Prop := ∀ l ∈ ls, okR 5 l ∧ Uw 5 l ≤ 2000000
theorem Differ_j1_eq {f g : Tg} (h1 : okF f.kal) (h2 : okF g.kal) (hl : f.kal.length = g.kal.length) (hn : f.kal.length ≤ 20) : Jaf f g = some (difs f.kal g.kal 0, 0) := by
 have key : ∀ m i : Nat, i + m = f.kal.length → ∀ l : List (List Int), l.length ≤ 4000000 * i → Wq (fun next3 s => Vi f g next3 s.1 s.2) ((i : Int), l) = some (l ++ difs (f.kal.drop i) (g.kal.drop i) i, 0) := by
  intro m
  induction m with
  | zero =>
   intro i hi l _
   rw [List.drop_eq_nil_of_le (by omega)]
   refine Qz fun next => ?_
   show Vi f g next (i : Int) l = _
   unfold Vi
   rw [cI, if_neg (by omega), difs, List.append_nil]
   ·rfl
   ·intros; contradiction
  | succ m ih =>
   intro i hi l hll
   have hf : i < f.kal.length := by omega
   have hg : i < g.kal.length := by omega
   obtain ⟨a1, a2⟩ := h1 _ (List.getElem_mem hf)
   obtain ⟨b1, b2⟩ := h2 _ (List.getElem_mem hg)
   have h3 := dif_len 5 f.kal[i] g.kal[i] [(i : Int)]
   rw [List.drop_eq_getElem_cons hf, List.drop_eq_getElem_cons hg, difs, ← List.append_assoc]
   refine Eq.trans (Xv (((i + 1 : Nat) : Int), l ++ dif 5 f.kal[i] g.kal[i] [(i : Int)]) fun next => ?_) (ih (i + 1) (by omega) _ (by rw [List.length_append]; omega))
   show Vi f g next (i : Int) l = _
   unfold Vi
   rw [cI, if_pos (by omega), Qn hf, Jb, Qn hg, Jb, differ_eq 5 _ _ _ _ a1 b1 a2 b2 (by rw [List.length_singleton]; omega) (by omega), Jb, J2 (by omega), Jb]; rfl
 unfold Jaf
 rw [cI, if_neg (by omega)]
 exact key f.kal.length 0 (by omega) [] (Nat.zero_le _)
theorem Differ_eq {f g : Tg} (hf : Jcj f) (hg : Jcj g) : Jdw f g = if Jac f ≠ 0 then some ([], Jac f) else if Jac g ≠ 0 then some ([], Jac g) else Jaf f g := by
 have g0 : Q9 [f, g] (0 : Int) = some f := Qn (xs := [f, g]) (k := 0) (by simp)
 have g1 : Q9 [f, g] (1 : Int) = some g := Qn (xs := [f, g]) (k := 1) (by simp)
 unfold Jdw
 by_cases h1 : Jac f = 0
 ·rw [if_neg (fun hh => hh h1)]
  refine (Xv 1 fun next => ?_).trans ?_
  ·show Yg f g next 0 = _
   unfold Yg
   rw [cI, if_pos (by omega), g0, Jb, Us hf, Jb, cI, if_neg (fun hh => hh h1), J2 (by omega), Jb]; rfl
  by_cases h2 : Jac g = 0
  ·rw [if_neg (fun hh => hh h2)]
   refine (Xv 2 fun next => ?_).trans (Qz fun next => ?_)
   ·show Yg f g next 1 = _
    unfold Yg
    rw [cI, if_pos (by omega), g1, Jb, Us hg, Jb, cI, if_neg (fun hh => hh h2), J2 (by omega), Jb]; rfl
   ·show Yg f g next 2 = _
    unfold Yg
    rw [cI, if_neg (by omega)]
  ·rw [if_pos h2]
   refine Qz fun next => ?_
   show Yg f g next 1 = _
   unfold Yg
   rw [cI, if_pos (by omega), g1, Jb, Us hg, Jb, cI, if_pos h2]
 ·rw [if_pos h1]
  refine Qz fun next => ?_
  show Yg f g next 0 = _
  unfold Yg
  rw [cI, if_pos (by omega), g0, Jb, Us hf, Jb, cI, if_pos h1]
end
end Go.M

namespace Go.M
open Go.Md Go.Pl
def Jaq : List Ta → List Int → Option Ta
 | _, [] => none
 | l, [t] => lk l t
 | l, t :: u :: ts => match lk l t with
  | some e => if e.Value.kah = 13 then Jaq e.Value.kaf (u :: ts) else none
  | none => none
theorem gotD_ne {e : Ta} {l : List Ta} {t : Int} (ts : List Int) (h : e.Tag < t) : Jaq (e :: l) (t :: ts) = Jaq l (t :: ts) := by
 cases ts with
 | nil => exact lk_ne h
 | cons u ts => simp only [Jaq, lk_ne h]
theorem gotD_at {e : Ta} {l : List Ta} {u : Int} {ts : List Int} (h : e.Value.kah = 13) : Jaq (e :: l) (e.Tag :: u :: ts) = Jaq e.Value.kaf (u :: ts) := by
 simp only [Jaq, lk, if_pos, h]
theorem Jg7 {l : List Ta} {t : Int} {e : Ta} (h : lk l t = some e) : e ∈ l ∧ e.Tag = t := by
 induction l with
 | nil => cases h
 | cons x l ih =>
  rw [lk] at h
  split at h
  ·rename_i ht; cases h; exact ⟨.head _, ht⟩
  ·obtain ⟨h1, h2⟩ := ih h; exact ⟨.tail _ h1, h2⟩
theorem Jh6 {l : List Ta} {t : Int} {ts : List Int} {e : Ta} (h : Jaq l (t :: ts) = some e) : ∃ x ∈ l, x.Tag = t := by
 cases ts with
 | nil => have := Jg7 (l := l) (t := t) h; exact ⟨e, this⟩
 | cons u ts =>
  simp only [Jaq] at h
  cases hl : lk l t with
  | none => rw [hl] at h; cases h
  | some x => exact ⟨x, Jg7 hl⟩
variable (s : List UInt8) (big : Bool)
def TrOk (G : List Int → Nat → List Ta → List Trc) (P : List Ta → Prop) : Prop :=
 ∀ path pl l, P l → (∀ x ∈ G path pl l, ∃ rest, rest ≠ [] ∧ x.1 = path ++ rest ∧ Jaq l rest = some x.2.2) ∧ ∀ rest e, Jaq l rest = some e → ∃ a, (path ++ rest, a, e) ∈ G path pl l
theorem trL_ok {G : List Int → Nat → List Ta → List Trc} {P : List Ta → Prop} (H : TrOk G P) (path : List Int) (pl : Nat) : ∀ (l : List Ta) (i : Nat), Ris l → (∀ e ∈ l, e.Value.kah = 13 → P e.Value.kaf) →
  (∀ x ∈ trL G s big path pl i l, ∃ rest, rest ≠ [] ∧ x.1 = path ++ rest ∧ Jaq l rest = some x.2.2) ∧ ∀ rest e, Jaq l rest = some e → ∃ a, (path ++ rest, a, e) ∈ trL G s big path pl i l := by
 intro l
 induction l with
 | nil =>
  intro i _ _
  refine ⟨fun x hx => by simp [trL] at hx, fun rest e h => ?_⟩
  cases rest with
  | nil => cases h
  | cons t ts => obtain ⟨x, hx, _⟩ := Jh6 h; cases hx
 | cons e l ih =>
  intro i hr hP
  obtain ⟨hr1, hr2⟩ := List.pairwise_cons.1 hr
  obtain ⟨i1, i2⟩ := ih (i + 1) hr2 fun x hx => hP x (.tail _ hx)
  have hsub : e.Value.kah = 13 → _ := fun h13 => H (path ++ [e.Tag]) (vS s big (pl + 2 + 12 * i + 8) 4) e.Value.kaf (hP e (.head _) h13)
  rw [trL]
  constructor
  ·intro x hx
   rcases List.mem_append.1 hx with hx | hx
   ·rcases List.mem_cons.1 hx with hx | hx
    ·subst hx
     exact ⟨[e.Tag], by simp, rfl, by show lk (e :: l) e.Tag = _; rw [lk, if_pos rfl]⟩
    ·split at hx
     ·rename_i h13
      obtain ⟨rest, h1, h2, h3⟩ := (hsub h13).1 x hx
      refine ⟨e.Tag :: rest, by simp, by rw [h2]; simp, ?_⟩
      cases rest with
      | nil => exact absurd rfl h1
      | cons u ts => rw [gotD_at h13]; exact h3
     ·simp at hx
   ·obtain ⟨rest, h1, h2, h3⟩ := i1 x hx
    refine ⟨rest, h1, h2, ?_⟩
    cases rest with
    | nil => exact absurd rfl h1
    | cons t ts =>
     obtain ⟨y, hy, hyt⟩ := Jh6 h3
     rw [gotD_ne ts (by have := hr1 y hy; omega)]; exact h3
  ·intro rest x h
   cases rest with
   | nil => cases h
   | cons t ts =>
    by_cases ht : e.Tag = t
    ·subst ht
     cases ts with
     | nil =>
      have h : lk (e :: l) e.Tag = some x := h
      rw [lk, if_pos rfl] at h
      cases h
      exact ⟨_, List.mem_append_left _ (.head _)⟩
     | cons u ts =>
      by_cases h13 : e.Value.kah = 13
      ·rw [gotD_at h13] at h
       obtain ⟨a, ha⟩ := (hsub h13).2 _ _ h
       refine ⟨a, List.mem_append_left _ (.tail _ ?_)⟩
       rw [if_pos h13]
       rw [List.append_assoc] at ha; exact ha
      ·simp only [Jaq, lk, if_pos, if_neg h13] at h
       cases h
    ·have hne : Jaq (e :: l) (t :: ts) = Jaq l (t :: ts) := by
      cases ts with
      | nil => show lk (e :: l) t = lk l t; rw [lk, if_neg ht]
      | cons u ts => simp only [Jaq, lk, if_neg ht]
     rw [hne] at h
     obtain ⟨a, ha⟩ := i2 _ _ h
     exact ⟨a, List.mem_append_right _ ha⟩
theorem trD_ok : ∀ d, TrOk (trD s big d) (okR d) := by
 intro d
 induction d with
 | zero => intro path pl l h; exact absurd h id
 | succ d ih =>
  intro path pl l h
  obtain ⟨_, h2, h3⟩ := h
  exact trL_ok s big ih path pl l 0 h2 fun e he => (h3 e he).2
def gotF (ls : List (List Ta)) : List Int → Option Ta
 | [] => none
 | i :: ts => if 0 ≤ i then (match ls[i.toNat]? with | some l => Jaq l ts | none => none) else none
theorem trF_ok : ∀ (ls : List (List Ta)) (i nx : Nat), (∀ l ∈ ls, okR 5 l) →
  (∀ x ∈ trF s big i nx ls, ∃ k rest, ∃ hk : k < ls.length, rest ≠ [] ∧ x.1 = ((i + k : Nat) : Int) :: rest ∧ Jaq ls[k] rest = some x.2.2) ∧ ∀ k rest e, ∀ hk : k < ls.length, Jaq ls[k] rest = some e → ∃ a, (((i + k : Nat) : Int) :: rest, a, e) ∈ trF s big i nx ls := by
 intro ls
 induction ls with
 | nil => intro i nx _; exact ⟨fun x hx => by simp [trF] at hx, fun k rest e hk => by cases hk⟩
 | cons l ls ih =>
  intro i nx h
  obtain ⟨h1, h2⟩ := trD_ok s big 5 [(i : Int)] nx l (h l (.head _))
  obtain ⟨i1, i2⟩ := ih (i + 1) (vS s big (nx + 2 + 12 * l.length) 4) fun x hx => h x (.tail _ hx)
  rw [trF]
  constructor
  ·intro x hx
   rcases List.mem_append.1 hx with hx | hx
   ·obtain ⟨rest, a1, a2, a3⟩ := h1 x hx
    exact ⟨0, rest, by simp, a1, a2, a3⟩
   ·obtain ⟨k, rest, hk, a1, a2, a3⟩ := i1 x hx
    exact ⟨k + 1, rest, by simp; omega, a1, by rw [a2]; congr 2; omega, a3⟩
  ·intro k rest e hk hg
   cases k with
   | zero =>
    obtain ⟨a, ha⟩ := h2 rest e hg
    exact ⟨a, List.mem_append_left _ ha⟩
   | succ k =>
    obtain ⟨a, ha⟩ := i2 k rest e (by simpa using hk) hg
    refine ⟨a, List.mem_append_right _ ?_⟩
    rw [show i + (k + 1) = i + 1 + k by omega]; exact ha
theorem trF_mem {ls : List (List Ta)} (h : ∀ l ∈ ls, okR 5 l) (nx : Nat) {path : List Int} {a : Nat} {e : Ta} (hx : (path, a, e) ∈ trF s big 0 nx ls) : gotF ls path = some e := by
 obtain ⟨k, rest, hk, h1, h2, h3⟩ := (trF_ok s big ls 0 nx h).1 _ hx
 have h2 : path = ((0 + k : Nat) : Int) :: rest := h2
 rw [h2, gotF, if_pos (by omega), show ((0 + k : Nat) : Int).toNat = k by omega, List.getElem?_eq_getElem hk]
 exact h3
def Jcf (q0 : List Int) (at_ : Int) (x : Trc) : Int := open Classical in if x.1 = q0 then (x.2.1 : Int) else at_
abbrev Jb7 := (List Int × Int × Tb × Int × List Int) → Option (List Ta × Int × Int × Tb)
def entOk (s : List UInt8) (big : Bool) (x : Trc) : Prop :=
 (∀ t ∈ x.1, 0 ≤ t ∧ t ≤ 99999) ∧ x.1.length ≤ 6 ∧ 10 ≤ x.2.1 ∧ x.2.1 + 12 ≤ s.length ∧ x.2.2.Value.kah = (vS s big (x.2.1 + 2) 2 : Int) ∧
  (x.2.2.Value.kah ≠ 13 → Wp x.2.2.Value = vS s big (x.2.1 + 4) 4 ∧ (4 < vS s big (x.2.1 + 4) 4 * J6 x.2.2.Value.kah → 8 ≤ vS s big (x.2.1 + 8) 4 ∧ vS s big (x.2.1 + 8) 4 + vS s big (x.2.1 + 4) 4 * J6 x.2.2.Value.kah ≤ s.length))
theorem valT_cnt (r : Tb) {k : Int} {c : Nat} {b : List UInt8} (hw : J6 k ≠ 0) (h13 : k ≠ 13) (hb : b.length = c * J6 k) (hno : (Ja1 r k c b).2.no_ = 0) : (Ja1 r k c b).1.kah = k ∧ Wp (Ja1 r k c b).1 = c := by
 refine ⟨valT_kind r k c b, ?_⟩
 unfold Wp
 rw [valT_kind]
 unfold Ja1 at hno ⊢
 by_cases h2 : k = 2
 ·rw [if_pos h2] at hno ⊢
  rw [if_pos h2]
  split at hno
  ·exact absurd hno (Xz _ (by decide))
  ·rename_i h
   rw [if_neg h]
   have h1 : J6 k = 1 := by rw [h2]; rfl
   rw [h1, Nat.mul_one] at hb
   show b.dropLast.length + 1 = c
   rw [List.length_dropLast]
   have : b ≠ [] := fun e => h (.inl e)
   have := List.length_pos_iff.2 this
   omega
 rw [if_neg h2, if_neg h2]
 by_cases h7 : k = 7
 ·have h1 : J6 k = 1 := by rw [h7]; rfl
  rw [if_pos h7, if_pos h7]
  show b.length = c
  rw [hb, h1]; omega
 rw [if_neg h7, if_neg h7]
 by_cases h5 : k = 5
 ·rw [if_pos h5, if_pos h5]
  show ((List.range c).map _).length = c
  simp
 ·rw [if_neg h5, if_neg h5, if_neg h13]
  show ((List.range c).map _).length = c
  simp
theorem Jid (r : Tb) {k : Int} {c a : Nat} (hw : J6 k ≠ 0) (h13 : k ≠ 13) (ha : a + 4 ≤ r.s_.length) (hno : (Jbe r k c a).2.no_ = 0) :
  (Jbe r k c a).1.kah = k ∧ Wp (Jbe r k c a).1 = c ∧ (4 < c * J6 k → 8 ≤ Jn r a 4 ∧ Jn r a 4 + c * J6 k ≤ r.s_.length) := by
 by_cases h4 : 4 < c * J6 k
 ·rw [Jej h4] at hno ⊢
  split at hno
  ·rename_i h
   rw [if_pos h]
   obtain ⟨h1, h2⟩ := valT_cnt _ hw h13 (by rw [List.length_take, List.length_drop]; omega) hno
   exact ⟨h1, h2, fun _ => h⟩
  ·exact absurd hno (Xz _ (by decide))
 ·rw [Jdd h4] at hno ⊢
  obtain ⟨h1, h2⟩ := valT_cnt _ hw h13 (by rw [List.length_take, List.length_drop]; omega) hno
  exact ⟨h1, h2, fun h => absurd h h4⟩
theorem found_step (q0 : List Int) (at_ : Int) (p : List Int) (a : Nat) (e : Ta) (hp : p.length ≤ 2000000) : Jct q0 at_ p (a : Int) = some (Jcf q0 at_ (p, a, e)) := by
 unfold Jct Jcf
 rw [eqInts _ _ hp, Jb, cI]
 split <;> rfl
theorem packC_eq (t : Int) (at_ : Int) (v : Td) (r : Tb) : Y5 t at_ r.s_ r.kab r.kad r.kac r.no_ r.kaa r.kae v.kah v.kai v.kaj v.kag v.kaf = some (⟨t, v⟩, at_, r) := by cases v; cases r; rfl
def SimC (d : Nat) (self : V0) (selfC : Jb7) : Prop := ∀ (q0 : List Int) (at_ : Int) (r : Tb) (pl : Nat) (path : List Int), path.length + d = 6 → (∀ t ∈ path, 0 ≤ t ∧ t ≤ 99999) → pl ≤ 4294967295 → r.s_.length ≤ 65000 → r.kaa.length + cap d ≤ 7999999999999 → r.kac ≤ 0 →
 ∀ l nx r', self (r, (pl : Int), path) = some (l, nx, r') → ∃ at', selfC (q0, at_, r, (pl : Int), path) = some (l, nx, at', r') ∧ (r'.no_ = 0 → at' = (trD r.s_ r.kab d path pl l).foldl (Jcf q0) at_ ∧ ∀ x ∈ trD r.s_ r.kab d path pl l, entOk r.s_ r.kab x)
noncomputable def trE (s : List UInt8) (big : Bool) (d : Nat) (path : List Int) (a : Nat) (e : Ta) : List Trc :=
 (path ++ [e.Tag], a, e) :: (if e.Value.kah = 13 then trD s big d (path ++ [e.Tag]) (vS s big (a + 8) 4) e.Value.kaf else [])
theorem Jh8 (s : List UInt8) (big : Bool) (d : Nat) (path : List Int) (pl i : Nat) (e : Ta) (l : List Ta) : trL (trD s big d) s big path pl i (e :: l) = trE s big d path (pl + 2 + 12 * i) e ++ trL (trD s big d) s big path pl (i + 1) l := rfl
theorem ent_C {d : Nat} {self : V0} {selfC : Jb7} (G : SimC d self selfC) (q0 : List Int) (at_ : Int) (r : Tb) {a : Nat} {path : List Int} (hpl : path.length + d + 1 = 6) (ht : ∀ t ∈ path, 0 ≤ t ∧ t ≤ 99999) (ha : a + 12 ≤ r.s_.length) (ha8 : 10 ≤ a) (hs : r.s_.length ≤ 65000) (hp : r.kaa.length + (1 + cap d) ≤ 7999999999999) (hf : r.kac ≤ 0)
  {e : Ta} {r' : Tb} (he : Jc2 self r a path = some (e, r')) :
  ∃ at', Xc selfC q0 at_ r (a : Int) path = some (e, at', r') ∧ (r'.no_ = 0 → at' = (trE r.s_ r.kab d path a e).foldl (Jcf q0) at_ ∧ ∀ x ∈ trE r.s_ r.kab d path a e, entOk r.s_ r.kab x) := by
 have hv2 := v2 r a
 have ht' : ∀ t ∈ path ++ [(Jn r a 2 : Int)], 0 ≤ t ∧ t ≤ 99999 := fun t htm => by
  rcases List.mem_append.1 htm with h | h
  ·exact ht t h
  ·rw [List.mem_singleton.1 h]; omega
 unfold Xc
 rw [n2 _ (by omega) hs, Jb, J2 (by omega), Jb, show (a : Int) + 2 = ((a + 2 : Nat) : Int) by omega, n2 _ (by omega) hs, Jb, J2 (by omega), Jb, show (a : Int) + 4 = ((a + 4 : Nat) : Int) by omega, n4 _ (by omega) hs, Jb, clone_eq (by omega), Jb, X5 (by simp; omega), Jb, found_step q0 at_ _ a e (by simp; omega), Jb, Jbd, Jb, cI, cI]
 have h8 : (a : Int) + 8 = ((a + 8 : Nat) : Int) := by omega
 have hc4 := v4 r (a + 4)
 unfold Jc2 at he
 by_cases h13 : (Jn r (a + 2) 2 : Int) = 13
 ·rw [if_pos h13] at he
  rw [if_pos h13, if_neg (by decide), if_pos h13]
  unfold Y6
  rw [cI]
  by_cases h1 : Jn r (a + 4) 4 = 1
  ·rw [if_pos h1] at he
   rw [if_neg (by omega), cI, if_pos h13, J2 (by omega), Jb, h8, n4 _ (by omega) hs, Jb]
   cases hsf : self (r, (Jn r (a + 8) 4 : Int), path ++ [(Jn r a 2 : Int)]) with
   | none => rw [hsf] at he; cases he
   | some t =>
    obtain ⟨l, nx, r2⟩ := t
    rw [hsf, Jb] at he
    cases he
    obtain ⟨at', g1, g2⟩ := G q0 (Jcf q0 at_ (path ++ [(Jn r a 2 : Int)], a, ⟨(Jn r a 2 : Int), ⟨13, [], [], [], l⟩⟩)) r (Jn r (a + 8) 4) (path ++ [(Jn r a 2 : Int)]) (by simp; omega) ht' (v4 _ _) hs (by omega) hf l nx _ hsf
    rw [g1, Jb, h13]
    refine ⟨at', rfl, fun hno => ?_⟩
    obtain ⟨k1, k2⟩ := g2 hno
    unfold trE
    rw [if_pos rfl, List.foldl_cons]
    refine ⟨k1, fun x hx => ?_⟩
    rcases List.mem_cons.1 hx with hx | hx
    ·subst hx
     exact ⟨ht', by simp; omega, ha8, ha, h13.symm, fun h => absurd rfl h⟩
    ·exact k2 x hx
  ·rw [if_neg h1] at he
   cases he
   rw [if_pos (by omega), Yf, Jb, h13]
   exact ⟨_, rfl, fun h => absurd h (Xz _ (by decide))⟩
 ·rw [if_neg h13] at he
  rw [if_neg h13, if_neg h13]
  by_cases h0 : J6 (Jn r (a + 2) 2 : Int) = 0
  ·rw [if_pos h0] at he
   cases he
   rw [if_pos (by omega), Yf, Jb]
   exact ⟨_, rfl, fun h => absurd h (Xz _ (by decide))⟩
  ·rw [if_neg h0] at he
   cases he
   rw [if_neg (by omega)]
   unfold Y6
   rw [Qm, cI, if_neg h13, J2 (by omega), Jb, h8, value_eq _ h0 h13 hc4 (by omega) hs (by omega), Jb, packC_eq]
   refine ⟨_, rfl, fun hno => ?_⟩
   obtain ⟨k1, k2, k3⟩ := Jid r h0 h13 (by omega) hno
   unfold trE
   simp only
   rw [if_neg (by rw [k1]; exact h13), List.foldl_cons, List.foldl_nil]
   refine ⟨rfl, fun x hx => ?_⟩
   rw [List.mem_singleton.1 hx]
   refine ⟨ht', by simp; omega, ha8, ha, k1, fun _ => ⟨k2, fun h4 => ?_⟩⟩
   simp only at h4 ⊢
   rw [k1] at h4 ⊢
   exact k3 h4
noncomputable def Jdi (self : Jb7) (q0 path : List Int) (pl nxt cnt i : Nat) (at_ : Int) (r : Tb) (l : List Ta) : Option (List Ta × Int × Int × Tb) :=
 Wq (fun next4 s => Q7 q0 path self next4 s.1 s.2.1 s.2.2.1 s.2.2.2.1 s.2.2.2.2.1 s.2.2.2.2.2.1 s.2.2.2.2.2.2.1 s.2.2.2.2.2.2.2.1 s.2.2.2.2.2.2.2.2.1 s.2.2.2.2.2.2.2.2.2.1 s.2.2.2.2.2.2.2.2.2.2.1 s.2.2.2.2.2.2.2.2.2.2.2.1 s.2.2.2.2.2.2.2.2.2.2.2.2) ((pl : Int), (nxt : Int), (cnt : Int), (i : Int), at_, r.s_, r.kab, r.kad, r.kac, r.no_, r.kaa, r.kae, l)
theorem Jg1 (self : Jb7) (q0 path : List Int) (pl nxt cnt i : Nat) (at_ : Int) (r : Tb) (l : List Ta) (h : cnt ≤ i ∨ r.no_ ≠ 0) : Jdi self q0 path pl nxt cnt i at_ r l = some (l, (nxt : Int), at_, r) := by
 refine Qz fun next => ?_
 show Q7 q0 path self next (pl : Int) (nxt : Int) (cnt : Int) (i : Int) at_ _ _ _ _ _ _ _ l = _
 unfold Q7
 rw [cI]
 by_cases h1 : cnt ≤ i
 ·rw [if_neg (by omega)]; rfl
 ·rw [if_pos (by omega), cI, if_neg (show ¬ r.no_ = 0 from h.resolve_left h1)]; rfl
theorem loopC_low (self : Jb7) (q0 path : List Int) (pl nxt cnt i : Nat) (at_ : Int) (r : Tb) (l : List Ta) (hi : i < cnt) (hno : r.no_ = 0) (h0 : 0 < i) (hl : i ≤ l.length) (ha : pl + 2 + 12 * cnt ≤ r.s_.length) (hs : r.s_.length ≤ 65000)
  (hlow : (Jn r (pl + 2 + 12 * i) 2 : Int) ≤ (l[i - 1]'(by omega)).Tag) : Jdi self q0 path pl nxt cnt i at_ r l = some (l, (nxt : Int), at_, fl r 5) := by
 refine Qz fun next => ?_
 show Q7 q0 path self next (pl : Int) (nxt : Int) (cnt : Int) (i : Int) at_ _ _ _ _ _ _ _ l = _
 unfold Q7
 rw [cI, if_pos (by omega), cI, if_pos hno, cI, if_pos (by omega), J2 (by omega), Jb, J2 (by omega), Jb, J2 (by omega), Jb, show (pl : Int) + 2 + 12 * (i : Int) = ((pl + 2 + 12 * i : Nat) : Int) by omega,
  n2 r (by omega) hs, Jb, J2 (by omega), Jb, show (i : Int) - 1 = ((i - 1 : Nat) : Int) by omega, Qn (by omega), Jb, cI, if_pos hlow, Yf r, Jb]
 rfl
theorem loopC_next (self : Jb7) (q0 path : List Int) (pl nxt cnt i : Nat) (at_ : Int) (r : Tb) (l : List Ta) (hi : i < cnt) (hno : r.no_ = 0) (hl : l.length = i) (hn : i ≤ 1000) (ha : pl + 2 + 12 * cnt ≤ r.s_.length) (hs : r.s_.length ≤ 65000)
  (hlow : ∀ (h : 0 < i), ¬ (Jn r (pl + 2 + 12 * i) 2 : Int) ≤ (l[i - 1]'(by omega)).Tag) {e : Ta} {at' : Int} {r' : Tb} (he : Xc self q0 at_ r ((pl + 2 + 12 * i : Nat) : Int) path = some (e, at', r')) :
  Jdi self q0 path pl nxt cnt i at_ r l = Jdi self q0 path pl nxt cnt (i + 1) at' r' (l ++ [e]) := by
 have go : ∀ next, Zy q0 path self (pl : Int) (nxt : Int) (cnt : Int) (i : Int) at_ r.s_ r.kab r.kad r.kac r.no_ r.kaa r.kae l next = next ((pl : Int), (nxt : Int), (cnt : Int), ((i + 1 : Nat) : Int), at', r'.s_, r'.kab, r'.kad, r'.kac, r'.no_, r'.kaa, r'.kae, l ++ [e]) := by
  intro next
  unfold Zy
  rw [J2 (by omega), Jb, J2 (by omega), Jb, J2 (by omega), Jb, show (pl : Int) + 2 + 12 * (i : Int) = ((pl + 2 + 12 * i : Nat) : Int) by omega, he, Jb, X5 (by simp; omega), Jb, J2 (by omega), Jb]
  rfl
 refine Xv _ fun next => ?_
 show Q7 q0 path self next (pl : Int) (nxt : Int) (cnt : Int) (i : Int) at_ _ _ _ _ _ _ _ l = _
 unfold Q7
 rw [cI, if_pos (by omega), cI, if_pos hno, cI]
 by_cases h0 : 0 < i
 ·rw [if_pos (by omega), J2 (by omega), Jb, J2 (by omega), Jb, J2 (by omega), Jb, show (pl : Int) + 2 + 12 * (i : Int) = ((pl + 2 + 12 * i : Nat) : Int) by omega,
   n2 r (by omega) hs, Jb, J2 (by omega), Jb, show (i : Int) - 1 = ((i - 1 : Nat) : Int) by omega, Qn (by omega), Jb, cI, if_neg (hlow h0)]
  exact go next
 ·rw [if_neg (by omega)]
  exact go next
theorem loop_C {d : Nat} {self : V0} {selfC : Jb7} (H : Jfg d self) (G : SimC d self selfC) (q0 : List Int) {path : List Int} (hpl : path.length + d + 1 = 6) (ht : ∀ t ∈ path, 0 ≤ t ∧ t ≤ 99999) (r : Tb) {pl nxt cnt : Nat} (hs : r.s_.length ≤ 65000) (hcnt : cnt ≤ 200) (hin : pl + 2 + 12 * cnt ≤ r.s_.length) (hp8 : 8 ≤ pl) (hp : r.kaa.length + cap (d + 1) ≤ 7999999999999) (hf : r.kac ≤ 0) :
  ∀ (m i : Nat) (rc : Tb) (l : List Ta) (at_ : Int), i + m = cnt → l.length = i → Adds r rc (1 + i * (1 + cap d)) ((Uw (d + 1) l : Nat) + 12 * m : Int) →
   ∀ l' nx r', Wc self path pl nxt cnt i rc l = some (l', nx, r') → ∃ at', Jdi selfC q0 path pl nxt cnt i at_ rc l = some (l', nx, at', r') ∧ (r'.no_ = 0 → ∃ rest, l' = l ++ rest ∧ at' = (trL (trD r.s_ r.kab d) r.s_ r.kab path pl i rest).foldl (Jcf q0) at_ ∧ ∀ x ∈ trL (trD r.s_ r.kab d) r.s_ r.kab path pl i rest, entOk r.s_ r.kab x) := by
 intro m
 have hcap : ∀ i, i ≤ 200 → 1 + i * (1 + cap d) ≤ cap (d + 1) := fun i hi => by
  show _ ≤ 1 + 200 * (1 + cap d)
  have := Nat.mul_le_mul_right (1 + cap d) hi; omega
 induction m with
 | zero =>
  intro i rc l at_ him hl hA l' nx r' hd
  rw [Wv _ _ _ _ _ _ _ _ (.inl (by omega))] at hd
  cases hd
  exact ⟨_, Jg1 _ _ _ _ _ _ _ _ _ _ (.inl (by omega)), fun _ => ⟨[], (List.append_nil _).symm, rfl, fun x hx => by simp [trL] at hx⟩⟩
 | succ m ih =>
  intro i rc l at_ him hl hA l' nx r' hd
  have hsl := hA.len
  by_cases hno : rc.no_ = 0
  ·have hin' : pl + 2 + 12 * cnt ≤ rc.s_.length := by omega
   by_cases hlow : ∃ h : 0 < i, (Jn rc (pl + 2 + 12 * i) 2 : Int) ≤ (l[i - 1]'(by omega)).Tag
   ·obtain ⟨h0, hlow⟩ := hlow
    rw [Jgh _ _ _ _ _ _ _ _ (by omega) hno h0 (by omega) hin' (by omega) hlow] at hd
    cases hd
    exact ⟨_, loopC_low _ _ _ _ _ _ _ _ _ _ (by omega) hno h0 (by omega) hin' (by omega) hlow, fun h => absurd h (Xz rc (by decide))⟩
   ·have hi1 := hcap (i + 1) (by omega)
    rw [Nat.add_mul, Nat.one_mul] at hi1
    have hpr := hA.parts
    have hff : rc.kac ≤ 0 := by rw [hA.2.2.2.1]; exact hf
    obtain ⟨e, r2, he, hA'⟩ := Jc8 H rc (a := pl + 2 + 12 * i) hpl (by omega) (by omega) hff
    rw [Jc6 self path pl nxt cnt i rc l (by omega) hno hl (by omega) hin' (by omega) (fun h hh => hlow ⟨h, hh⟩) (by omega) hff (by omega) he] at hd
    obtain ⟨at1, g1, g2⟩ := ent_C G q0 at_ rc (a := pl + 2 + 12 * i) hpl ht (by omega) (by omega) (by omega) (by omega) hff he
    rw [loopC_next selfC q0 path pl nxt cnt i at_ rc l (by omega) hno hl (by omega) hin' (by omega) (fun h hh => hlow ⟨h, hh⟩) g1]
    obtain ⟨at', k1, k2⟩ := ih (i + 1) r2 (l ++ [e]) at1 (by omega) (by simp; omega) ((hA.trans hA').mono (by rw [Nat.add_mul, Nat.one_mul]; omega) (by rw [Jgy]; omega)) l' nx r' hd
    refine ⟨at', k1, fun hno' => ?_⟩
    obtain ⟨rest, b1, b2, b3⟩ := k2 hno'
    have hno2 : r2.no_ = 0 := by
     refine Classical.byContradiction fun hh => ?_
     rw [Wv _ _ _ _ _ _ _ _ (.inr hh)] at hd
     cases hd
     exact hh hno'
    obtain ⟨c1, c2⟩ := g2 hno2
    rw [hA.1, hA.2.1] at c1 c2
    refine ⟨e :: rest, by rw [b1]; simp, ?_, fun x hx => ?_⟩
    ·rw [Jh8, List.foldl_append, ← c1, b2]
    ·rw [Jh8] at hx
     rcases List.mem_append.1 hx with hx | hx
     ·exact c2 x hx
     ·exact b3 x hx
  ·rw [Wv _ _ _ _ _ _ _ _ (.inr hno)] at hd
   cases hd
   exact ⟨_, Jg1 _ _ _ _ _ _ _ _ _ _ (.inr hno), fun h => absurd h hno⟩
theorem Ud (q0 : List Int) (at_ pl cnt : Int) (path : List Int) (self : Jb7) (r : Tb) (h : r.no_ ≠ 0) : Q8 q0 at_ pl path self cnt r.s_ r.kab r.kad r.kac r.no_ r.kaa r.kae = some ([], 0, at_, r) := by
 unfold Q8
 rw [cI, if_pos h]
theorem dirC_of (selfC : Jb7) (q0 : List Int) (at_ : Int) (r : Tb) {pl : Nat} {path : List Int} (hpl : pl ≤ 4294967295) (hs : r.s_.length ≤ 65000) (hp : r.kaa.length ≤ 7999999999999) :
  Qh selfC q0 at_ r (pl : Int) path =
  if ¬ (8 ≤ pl ∧ pl + 2 ≤ r.s_.length) then some ([], 0, at_, fl r 2)
  else if (Jdm r.kae (pl : Int)).getD false = true then some ([], 0, at_, fl r 13)
  else if 20 < r.kad ∨ 5 < path.length ∨ 200 < Jn r pl 2 then some ([], 0, at_, fl r 4)
  else if ¬ (pl + (2 + 12 * Jn r pl 2 + 4) ≤ r.s_.length) then some ([], 0, at_, fl r 2)
  else if r.no_ ≠ 0 then some ([], 0, at_, r)
  else Jdi selfC q0 path pl (Jn r (pl + 2 + 12 * Jn r pl 2) 4) (Jn r pl 2) 0 at_
   (if 1 < path.length ∧ Jn r (pl + 2 + 12 * Jn r pl 2) 4 ≠ 0 then fl ⟨r.s_, r.kab, r.kaa ++ [⟨(pl : Int), ((pl + (2 + 12 * Jn r pl 2 + 4) : Nat) : Int)⟩], W0 r.kae (pl : Int) true, r.kad, r.kac, r.no_⟩ 1
    else ⟨r.s_, r.kab, r.kaa ++ [⟨(pl : Int), ((pl + (2 + 12 * Jn r pl 2 + 4) : Nat) : Int)⟩], W0 r.kae (pl : Int) true, r.kad, r.kac, r.no_⟩) [] := by
 unfold Qh
 rw [show (2 : Int) = ((2 : Nat) : Int) from rfl, Jd3 _ (by omega) hs, Jb, show ((2 : Nat) : Int) = 2 from rfl]
 by_cases ht : 8 ≤ pl ∧ pl + 2 ≤ r.s_.length
 ·rw [decide_eq_true ht, Bool.not_true, Qm, if_neg (by simp [ht]), n2 _ ht.2 hs, Jb]
  have hv := v2 r pl
  by_cases hsn : (Jdm r.kae (pl : Int)).getD false = true
  ·rw [if_pos hsn, hsn, Xf, Yf, Jb, Ud _ _ _ _ _ _ _ (Xz _ (by decide))]
  ·rw [if_neg hsn, Bool.not_eq_true _ |>.mp hsn, Qm, cI, cI, cI]
   by_cases h20 : 20 < r.kad
   ·rw [if_pos h20, if_pos (.inl h20), Yf, Jb, Ud _ _ _ _ _ _ _ (Xz _ (by decide))]
   rw [if_neg h20]
   by_cases h5 : 5 < path.length
   ·rw [if_pos (by omega), if_pos (.inr (.inl h5)), Yf, Jb, Ud _ _ _ _ _ _ _ (Xz _ (by decide))]
   rw [if_neg (by omega)]
   by_cases h200 : 200 < Jn r pl 2
   ·rw [if_pos (by omega), if_pos (.inr (.inr h200)), Yf, Jb, Ud _ _ _ _ _ _ _ (Xz _ (by decide))]
   rw [if_neg (by omega), if_neg (by omega), J2 (by omega), Jb, J2 (by omega), Jb, J2 (by omega), Jb, show (2 : Int) + 12 * (Jn r pl 2 : Int) + 4 = ((2 + 12 * Jn r pl 2 + 4 : Nat) : Int) by omega, Jd3 _ (by omega) hs, Jb]
   by_cases hb : pl + (2 + 12 * Jn r pl 2 + 4) ≤ r.s_.length
   ·rw [decide_eq_true ⟨ht.1, hb⟩, Bool.not_true, Qm, if_neg (by omega)]
    by_cases hno : r.no_ = 0
    ·rw [if_neg (by simp [hno])]
     unfold Q8
     have hb' : pl + (2 + 12 * Jn r pl 2 + 4) ≤ r.s_.length := hb
     rw [cI, if_neg (by simp [hno]), J2 (by omega), Jb, J2 (by omega), Jb, J2 (by omega), Jb, J2 (by omega), Jb, X5 (by simp; omega), Jb, Jb, Jb, J2 (by omega), Jb,
      show (pl : Int) + 2 + 12 * (Jn r pl 2 : Int) = ((pl + 2 + 12 * Jn r pl 2 : Nat) : Int) by omega,
      show ((pl + 2 + 12 * Jn r pl 2 : Nat) : Int) + 4 = ((pl + (2 + 12 * Jn r pl 2 + 4) : Nat) : Int) by omega,
      n4 (a := pl + 2 + 12 * Jn r pl 2) (⟨r.s_, r.kab, r.kaa ++ [(⟨(pl : Int), ((pl + (2 + 12 * Jn r pl 2 + 4) : Nat) : Int)⟩ : Tc)], W0 r.kae (pl : Int) true, r.kad, r.kac, r.no_⟩ : Tb) (by show _ ≤ r.s_.length; omega) hs, Jb, cI, cI]
     by_cases h1 : 1 < path.length
     ·rw [if_pos (by omega)]
      by_cases hn : Jn r (pl + 2 + 12 * Jn r pl 2) 4 = 0
      ·rw [if_neg (by show ¬ ((Jn r (pl + 2 + 12 * Jn r pl 2) 4 : Nat) : Int) ≠ 0; omega), if_neg (by omega)]; rfl
      ·rw [if_pos (by show ((Jn r (pl + 2 + 12 * Jn r pl 2) 4 : Nat) : Int) ≠ 0; omega), if_pos ⟨h1, hn⟩, Yf, Jb]; rfl
     ·rw [if_neg (by omega), if_neg (by omega)]; rfl
    ·rw [if_pos hno, Ud _ _ _ _ _ _ _ hno]
   ·rw [decide_eq_false (by omega), Bool.not_false, Xf, if_pos hb, Yf, Jb, Ud _ _ _ _ _ _ _ (Xz _ (by decide))]
 ·rw [decide_eq_false ht, Bool.not_false, Xf, if_pos ht, Yf, Jb]
theorem dir_C {d : Nat} {self : V0} {selfC : Jb7} (H : Jfg d self) (G : SimC d self selfC) (q0 : List Int) (at_ : Int) (r : Tb) {pl : Nat} {path : List Int} (hpl : path.length + d + 1 = 6) (ht : ∀ t ∈ path, 0 ≤ t ∧ t ≤ 99999) (hb : pl ≤ 4294967295) (hs : r.s_.length ≤ 65000) (hp : r.kaa.length + cap (d + 1) ≤ 7999999999999) (hf : r.kac ≤ 0)
  {l : List Ta} {nx : Int} {r' : Tb} (hd : dirR self r pl path = some (l, nx, r')) :
  ∃ at', Qh selfC q0 at_ r (pl : Int) path = some (l, nx, at', r') ∧ (r'.no_ = 0 → at' = (trD r.s_ r.kab (d + 1) path pl l).foldl (Jcf q0) at_ ∧ ∀ x ∈ trD r.s_ r.kab (d + 1) path pl l, entOk r.s_ r.kab x) := by
 rw [dirC_of selfC q0 at_ r hb hs (by omega)]
 unfold dirR at hd
 split at hd
 ·rename_i h; cases hd; rw [if_pos h]; exact ⟨_, rfl, fun h => absurd h (Xz _ (by decide))⟩
 rename_i h8
 rw [if_neg h8]
 split at hd
 ·rename_i h; cases hd; rw [if_pos h]; exact ⟨_, rfl, fun h => absurd h (Xz _ (by decide))⟩
 rename_i hsn
 rw [if_neg hsn]
 split at hd
 ·rename_i h; cases hd; rw [if_pos h]; exact ⟨_, rfl, fun h => absurd h (Xz _ (by decide))⟩
 rename_i hlim
 rw [if_neg hlim]
 split at hd
 ·rename_i h; cases hd; rw [if_pos h]; exact ⟨_, rfl, fun h => absurd h (Xz _ (by decide))⟩
 rename_i hin
 rw [if_neg hin]
 split at hd
 ·rename_i h; cases hd; rw [if_pos h]; exact ⟨_, rfl, fun hh => absurd hh h⟩
 rename_i hno
 rw [if_neg hno]
 have hpart := Adds.part r ⟨(pl : Int), ((pl + (2 + 12 * Jn r pl 2 + 4) : Nat) : Int)⟩ (W0 r.kae (pl : Int) true) ⟨by simp only; omega, by simp only; omega, by simp only; omega⟩
 split at hd
 ·rename_i h
  rw [if_pos h, Jg1 _ _ _ _ _ _ _ _ _ _ (.inr (Xz _ (by decide)))]
  rw [Wv _ _ _ _ _ _ _ _ (.inr (Xz _ (by decide)))] at hd
  cases hd
  exact ⟨_, rfl, fun h => absurd h (Xz _ (by decide))⟩
 ·rename_i h
  rw [if_neg h]
  obtain ⟨at', k1, k2⟩ := loop_C H G q0 hpl ht r (nxt := Jn r (pl + 2 + 12 * Jn r pl 2) 4) hs (show Jn r pl 2 ≤ 200 by omega) (show pl + 2 + 12 * Jn r pl 2 ≤ r.s_.length by omega) (by omega) hp hf (Jn r pl 2) 0 _ [] at_ (by omega) rfl (hpart.mono (by omega) (by rw [Jb2]; simp only; omega)) l nx r' hd
  refine ⟨at', k1, fun h => ?_⟩
  obtain ⟨rest, b1, b2, b3⟩ := k2 h
  rw [List.nil_append] at b1
  rw [b1]
  exact ⟨b2, b3⟩
theorem entC_congr {self self' : Jb7} {path : List Int} (h : ∀ q0 at_ r pl p, p.length = path.length + 1 → self (q0, at_, r, pl, p) = self' (q0, at_, r, pl, p)) (q0 : List Int) (at_ : Int) (r : Tb) (a : Int) : Xc self q0 at_ r a path = Xc self' q0 at_ r a path := by
 unfold Xc
 refine Yo fun t13 _ => Yo fun _ _ => Yo fun _ _ => Yo fun _ _ => Yo fun _ _ => Yo fun t23 h23 => Yo fun l26 h26 => ?_
 have hl : l26.length = path.length + 1 := by
  unfold Jj at h23
  cases hg : Xd 8 ([] : List Int) path with
  | none => rw [hg] at h23; cases h23
  | some u => rw [hg, Jb] at h23; cases h23; rw [(Ul h26).1, (Ul hg).1]; simp
 have e : ∀ q0 at_ x y, self (q0, at_, x, y, l26) = self' (q0, at_, x, y, l26) := fun q0 at_ x y => h q0 at_ x y l26 hl
 unfold Y6
 simp only [e]
theorem dirC_congr {self self' : Jb7} {path : List Int} (h : ∀ q0 at_ r pl p, p.length = path.length + 1 → self (q0, at_, r, pl, p) = self' (q0, at_, r, pl, p)) (q0 : List Int) (at_ : Int) (r : Tb) (pl : Int) : Qh self q0 at_ r pl path = Qh self' q0 at_ r pl path := by
 have e : ∀ q0 at_ r a, Xc self q0 at_ r a path = Xc self' q0 at_ r a path := entC_congr h
 have e4 : Q7 q0 path self = Q7 q0 path self' := by
  funext next x1 x7 x9 x10 m0 m1 m2 m3 m4 m5 l1 mp l2
  unfold Q7 Zy
  simp only [e]
 have e1 : ∀ a1 t m m2 m3 m4 m5 l mp, Q8 q0 at_ a1 path self t m m2 m3 m4 m5 l mp = Q8 q0 at_ a1 path self' t m m2 m3 m4 m5 l mp := by
  intro a1 t m m2 m3 m4 m5 l mp
  unfold Q8 Vy
  rw [e4]
 unfold Qh
 simp only [e1]
theorem deepC_congr {self self' : Jb7} {path : List Int} (h : 5 < path.length) (q0 : List Int) (at_ : Int) (r : Tb) (pl : Int) : Qh self q0 at_ r pl path = Qh self' q0 at_ r pl path := by
 unfold Qh
 refine Yo fun t _ => Jb5 (fun _ => rfl) fun _ => Yo fun c _ => Jb5 (fun _ => ?_) fun _ => Jb5 (fun _ => ?_) fun _ => ?_
 ·rw [Yf, Jb, Jb, Ud _ _ _ _ _ _ _ (Xz _ (by decide)), Ud _ _ _ _ _ _ _ (Xz _ (by decide))]
 ·rw [Yf, Jb, Jb, Ud _ _ _ _ _ _ _ (Xz _ (by decide)), Ud _ _ _ _ _ _ _ (Xz _ (by decide))]
 ·rw [cI, if_pos (by omega), cI, if_pos (by omega), Yf, Jb, Jb, Ud _ _ _ _ _ _ _ (Xz _ (by decide)), Ud _ _ _ _ _ _ _ (Xz _ (by decide))]
noncomputable abbrev dirFC : Jb7 → Jb7 := fun self s => Qh self s.1 s.2.1 s.2.2.1 s.2.2.2.1 s.2.2.2.2
theorem it_sameC : ∀ (d n m : Nat), d < n → d < m → ∀ (q0 : List Int) (at_ : Int) (r : Tb) (pl : Int) (path : List Int), path.length + d = 6 → it dirFC n (q0, at_, r, pl, path) = it dirFC m (q0, at_, r, pl, path) := by
 intro d
 induction d with
 | zero =>
  intro n m hn hm q0 at_ r pl path h6
  obtain ⟨n, rfl⟩ : ∃ k, n = k + 1 := ⟨n - 1, by omega⟩
  obtain ⟨m, rfl⟩ : ∃ k, m = k + 1 := ⟨m - 1, by omega⟩
  exact deepC_congr (path := path) (by omega) q0 at_ r pl
 | succ d ih =>
  intro n m hn hm q0 at_ r pl path h6
  obtain ⟨n, rfl⟩ : ∃ k, n = k + 1 := ⟨n - 1, by omega⟩
  obtain ⟨m, rfl⟩ : ∃ k, m = k + 1 := ⟨m - 1, by omega⟩
  exact dirC_congr (path := path) (fun q0 at_ r pl p hp => ih n m (by omega) (by omega) q0 at_ r pl p (by omega)) q0 at_ r pl
theorem dirC_it (q0 : List Int) (at_ : Int) (r : Tb) (pl : Int) (path : List Int) (h1 : path.length = 1) : Jal q0 at_ r pl path = it dirFC 6 (q0, at_, r, pl, path) := by
 unfold Jal
 exact Jfl (k := 6) fun n hn => it_sameC 5 n 6 (by omega) (by omega) q0 at_ r pl path (by omega)
theorem it_C : ∀ d n : Nat, d < n → SimC d (it dirF n) (it dirFC n) := by
 intro d
 induction d with
 | zero =>
  intro n hn q0 at_ r pl path h6 ht hb hs hp hf l nx r' hd
  obtain ⟨n, rfl⟩ : ∃ k, n = k + 1 := ⟨n - 1, by omega⟩
  have hd : J1 (it dirF n) r (pl : Int) path = some (l, nx, r') := hd
  rw [Jcc _ r hb hs (by omega)] at hd
  obtain ⟨r2, h1, h2, h3⟩ := dirR_zero (self := it dirF n) r pl path (by omega)
  rw [h1] at hd
  cases hd
  show ∃ at', Qh (it dirFC n) q0 at_ r (pl : Int) path = _ ∧ _
  rw [dirC_of _ q0 at_ r hb hs (by omega)]
  unfold dirR at h1
  split at h1
  ·rename_i h; cases h1; rw [if_pos h]; exact ⟨_, rfl, fun h => absurd h h3⟩
  rename_i h8
  rw [if_neg h8]
  split at h1
  ·rename_i h; cases h1; rw [if_pos h]; exact ⟨_, rfl, fun h => absurd h h3⟩
  rename_i hsn
  rw [if_neg hsn]
  rw [if_pos (.inr (.inl (by omega)))] at h1
  cases h1
  rw [if_pos (.inr (.inl (by omega)))]
  exact ⟨_, rfl, fun h => absurd h h3⟩
 | succ d ih =>
  intro n hn q0 at_ r pl path h6 ht hb hs hp hf l nx r' hd
  obtain ⟨n, rfl⟩ : ∃ k, n = k + 1 := ⟨n - 1, by omega⟩
  have hd : J1 (it dirF n) r (pl : Int) path = some (l, nx, r') := hd
  rw [Jcc _ r hb hs (by omega)] at hd
  exact dir_C (it_ok d n (by omega)) (ih n (by omega)) q0 at_ r (by omega) ht hb hs hp hf hd
theorem j3_at (t m : Int) (ls : List (List Ta)) (ps : List Tc) (e : Int) : Jay t m ls ps e = Jz (Y4 t ls ps e) fun x => some (x.1, x.2.1, x.2.2, m) := by
 unfold Jay Y4
 rw [cI, cI]
 split <;> rfl
theorem j2_at (t m : Int) (ls : List (List Ta)) (ps : List Tc) (e : Int) : U7 t m ls ps e = Jz (Yt t ls ps e) fun x => some (x.1, x.2.1, x.2.2, m) := by
 unfold U7 Yt
 rw [cI, cI]
 split
 ·cases Zw ⟨decide (t = 77), ls⟩ with
  | none => rfl
  | some x => rw [Jb, Jb, j3_at]
 ·rw [j3_at]
theorem j1_at (t m : Int) (a : List UInt8) (b : Bool) (c : Int) (d : Nat) (e : Int) (l : List Tc) (ls : List (List Ta)) (mp : List (Int × Bool)) : Ja0 t m a b c d e l ls mp = Jz (Yx t a b c d e l ls mp) fun x => some (x.1, x.2.1, x.2.2, m) := by
 unfold Ja0 Yx
 cases Jcy l J8 with
 | none => rfl
 | some ps =>
  rw [Jb, Jb, cI, cI]
  split
  ·cases Uz ps with
   | none => rfl
   | some b => rw [Jb, Jb]; cases b with
   | true => rw [Xf, Xf]; exact j2_at _ _ _ _ _
   | false => rw [Qm, Qm]; exact j2_at _ _ _ _ _
  ·exact j2_at _ _ _ _ _
theorem Jhr {t : Int} {a : List UInt8} {b : Bool} {c : Int} {d : Nat} {no : Int} {l : List Tc} {ls : List (List Ta)} {mp : List (Int × Bool)} {f : Tg} {ps : List Tc} {e : Int} (h : Yx t a b c d no l ls mp = some (f, ps, e)) (he : e = 0) : f.kal = ls ∧ no = 0 ∧ f.Big = decide (t = 77) := by
 have k3 : ∀ qs x, Y4 t ls qs x = some (f, ps, e) → f.kal = ls ∧ x = 0 ∧ f.Big = decide (t = 77) := by
  intro qs x hx
  unfold Y4 at hx
  rw [cI] at hx
  split at hx
  ·rename_i h1; cases hx; exact absurd he h1
  ·rename_i h1; cases hx; exact ⟨rfl, by simpa using h1, rfl⟩
 have k2 : ∀ qs x, Yt t ls qs x = some (f, ps, e) → f.kal = ls ∧ x = 0 ∧ f.Big = decide (t = 77) := by
  intro qs x hx
  unfold Yt at hx
  rw [cI] at hx
  split at hx
  ·rename_i h1
   cases hc : Zw ⟨decide (t = 77), ls⟩ with
   | none => rw [hc] at hx; cases hx
   | some y => rw [hc, Jb] at hx; exact ⟨(k3 _ _ hx).1, h1, (k3 _ _ hx).2.2⟩
  ·exact k3 _ _ hx
 unfold Yx at h
 cases hs : Jcy l J8 with
 | none => rw [hs] at h; cases h
 | some qs =>
  rw [hs, Jb, cI] at h
  split at h
  ·rename_i h1
   cases ho : Uz qs with
   | none => rw [ho] at h; cases h
   | some o =>
    rw [ho, Jb] at h
    cases o with
    | true => rw [Xf] at h; exact absurd (k2 _ _ h).2.1 (by decide)
    | false => rw [Qm] at h; exact k2 _ _ h
  ·exact k2 _ _ h
noncomputable def rdLoopC (q0 : List Int) (t : Int) (nx : Nat) (at_ : Int) (r : Tb) (ls : List (List Ta)) : Option (Tg × List Tc × Int × Int) :=
 Wq (fun next4 s => Wh q0 t next4 s.1 s.2.1 s.2.2.1 s.2.2.2.1 s.2.2.2.2.1 s.2.2.2.2.2.1 s.2.2.2.2.2.2.1 s.2.2.2.2.2.2.2.1 s.2.2.2.2.2.2.2.2.1 s.2.2.2.2.2.2.2.2.2) ((nx : Int), at_, r.s_, r.kab, r.kad, r.kac, r.no_, r.kaa, ls, r.kae)
theorem rdC_end (q0 : List Int) (t : Int) (nx : Nat) (at_ : Int) (r : Tb) (ls : List (List Ta)) (h : nx = 0 ∨ r.no_ ≠ 0) : rdLoopC q0 t nx at_ r ls = Jz (Jbc t nx r ls) fun x => some (x.1, x.2.1, x.2.2, at_) := by
 rw [Jeb _ _ _ _ h, ← j1_at]
 refine Qz fun next => ?_
 show Wh q0 t next (nx : Int) at_ r.s_ r.kab r.kad r.kac r.no_ r.kaa ls r.kae = _
 unfold Wh
 rw [cI]
 by_cases h0 : nx = 0
 ·rw [if_neg (by simp [h0])]
 ·rw [if_pos (by simpa using h0), cI, if_neg (h.resolve_left h0)]
theorem rd_C (q0 : List Int) (t : Int) : ∀ (m D nx : Nat) (at_ : Int) (r : Tb) (ls : List (List Ta)), D + m = 21 → nx ≤ 4294967295 → r.kad = D → ls.length = D → (D ≤ 20 ∨ r.no_ ≠ 0) → r.s_.length ≤ 65000 → r.kaa.length ≤ D * 323216080401 → r.kac ≤ 0 →
  ∀ f ps e, Jbc t nx r ls = some (f, ps, e) → ∃ at', rdLoopC q0 t nx at_ r ls = some (f, ps, e, at') ∧ (e = 0 → r.no_ = 0 ∧ f.Big = decide (t = 77) ∧ ∃ rest, f.kal = ls ++ rest ∧ at' = (trF r.s_ r.kab ls.length nx rest).foldl (Jcf q0) at_ ∧ ∀ x ∈ trF r.s_ r.kab ls.length nx rest, entOk r.s_ r.kab x) := by
 have hcap : cap 5 = 323216080401 := by rfl
 have stop : ∀ (nx : Nat) (at_ : Int) (r : Tb) (ls : List (List Ta)) f ps e, nx = 0 ∨ r.no_ ≠ 0 → Jbc t nx r ls = some (f, ps, e) → ∃ at', rdLoopC q0 t nx at_ r ls = some (f, ps, e, at') ∧ (e = 0 → r.no_ = 0 ∧ f.Big = decide (t = 77) ∧ ∃ rest, f.kal = ls ++ rest ∧ at' = (trF r.s_ r.kab ls.length nx rest).foldl (Jcf q0) at_ ∧ ∀ x ∈ trF r.s_ r.kab ls.length nx rest, entOk r.s_ r.kab x) := by
  intro nx at_ r ls f ps e h0 h
  refine ⟨at_, by rw [rdC_end _ _ _ _ _ _ h0, h, Jb], fun he => ?_⟩
  rw [Jeb _ _ _ _ h0] at h
  obtain ⟨k1, k2, k3⟩ := Jhr h he
  exact ⟨k2, k3, [], by rw [k1, List.append_nil], rfl, fun x hx => by simp [trF] at hx⟩
 intro m
 induction m with
 | zero =>
  intro D nx at_ r ls hD hnx hd hl h20 hs hp hf f ps e h
  exact stop nx at_ r ls f ps e (.inr (h20.resolve_left (by omega))) h
 | succ m ih =>
  intro D nx at_ r ls hD hnx hd hl h20 hs hp hf f ps e h
  by_cases hend : nx = 0 ∨ r.no_ ≠ 0
  ·exact stop nx at_ r ls f ps e hend h
  ·have h0 : nx ≠ 0 := fun h => hend (.inl h)
   have hno : r.no_ = 0 := Classical.byContradiction fun h => hend (.inr h)
   obtain ⟨l, nx', r', h1, h2, h3, h4⟩ := dir_ok ⟨r.s_, r.kab, r.kaa, r.kae, r.kad + 1, r.kac, r.no_⟩ nx [(ls.length : Int)] rfl hnx hs (by show r.kaa.length + cap 5 ≤ _; rw [hcap]; omega) hf
   rw [Jf8 t nx r ls h0 hno (by omega) (by omega) h1] at h
   have h1' := h1
   rw [dir_it _ _ _ rfl] at h1'
   obtain ⟨at1, g1, g2⟩ := it_C 5 6 (by omega) q0 at_ ⟨r.s_, r.kab, r.kaa, r.kae, r.kad + 1, r.kac, r.no_⟩ nx [(ls.length : Int)] rfl (fun t ht => by rw [List.mem_singleton.1 ht]; omega) hnx hs (by show r.kaa.length + cap 5 ≤ _; rw [hcap]; omega) hf l _ r' h1'
   rw [← dirC_it _ _ _ _ _ rfl] at g1
   have hlen' := h3.len
   have hsl : r'.s_.length = r.s_.length := hlen'
   have hpa := h3.parts
   rw [hcap] at hpa
   have hpa' : r'.kaa.length ≤ r.kaa.length + 323216080401 := hpa
   obtain ⟨k1, k2, k3, k4, new, k5, k6, k7, k8⟩ := h3
   have k1' : r'.s_ = r.s_ := k1
   have k2' : r'.kab = r.kab := k2
   obtain ⟨at', b1, b2⟩ := ih (D + 1) nx' at1 r' (ls ++ [l]) (by omega) h2 (by have : r'.kad = r.kad + 1 := k3; omega) (by simp; omega) (by
    by_cases hh : D + 1 ≤ 20
    ·exact .inl hh
    ·exact .inr (h4 (by show 20 < r.kad + 1; omega))) (by omega) (by omega) (by have : r'.kac = r.kac := k4; omega) f ps e h
   refine ⟨at', ?_, fun he => ?_⟩
   ·rw [← b1]
    refine Xv _ fun next => ?_
    show Wh q0 t next (nx : Int) at_ r.s_ r.kab r.kad r.kac r.no_ r.kaa ls r.kae = _
    unfold Wh
    rw [cI, if_pos (by simpa using h0), cI, if_pos hno, J2 (by omega), Jb, g1, Jb, X5 (by simp; omega), Jb]
   ·obtain ⟨c0, cb, rest, c1, c2, c3⟩ := b2 he
    obtain ⟨d1, d2⟩ := g2 c0
    have hnxt : vS r.s_ r.kab (nx + 2 + 12 * l.length) 4 = nx' := dir_next (r := ⟨r.s_, r.kab, r.kaa, r.kae, r.kad + 1, r.kac, r.no_⟩) h1 hno hnx hs (by show r.kaa.length + cap 5 ≤ _; rw [hcap]; omega) hf c0
    rw [k1', k2'] at c2 c3
    have hl1 : (ls ++ [l]).length = ls.length + 1 := by simp
    rw [hl1] at c2 c3
    refine ⟨hno, cb, l :: rest, by rw [c1]; simp, ?_, fun x hx => ?_⟩
    ·rw [trF, hnxt, List.foldl_append, c2, d1]
    ·rw [trF, hnxt] at hx
     rcases List.mem_append.1 hx with hx | hx
     ·exact d2 x hx
     ·exact c3 x hx
theorem read_C (q0 : List Int) (s : List UInt8) {f : Tg} {ps : List Tc} {e : Int} (h : Wi s 0 = some (f, ps, e)) :
  ∃ at', Jeu q0 (-1) s 0 = some (f, ps, e, at') ∧ (e = 0 → f.Big = Ja4 s ∧ at' = (trF s (Ja4 s) 0 (vS s (Ja4 s) 4 4) f.kal).foldl (Jcf q0) (-1) ∧ ∀ x ∈ trF s (Ja4 s) 0 (vS s (Ja4 s) 4 4) f.kal, entOk s (Ja4 s) x) := by
 unfold Wi at h
 unfold Jeu
 rw [cI] at h ⊢
 by_cases hl : (65000 : Int) < s.length
 ·rw [if_pos hl] at h ⊢
  cases h
  exact ⟨_, rfl, fun h => absurd h (by decide)⟩
 ·obtain ⟨b, hb, hb8⟩ := Jdg s
  rw [if_neg hl, hb, Jb] at h ⊢
  cases b with
  | false =>
   rw [Bool.not_false, Xf] at h ⊢
   cases h
   exact ⟨_, rfl, fun h => absurd h (by decide)⟩
  | true =>
   have h8 := hb8 rfl
   rw [Bool.not_true, Qm, show (0 : Int) = ((0 : Nat) : Int) from rfl, Ub (by omega), Jb, show (4 : Int) = ((4 : Nat) : Int) from rfl, Jau (a := 4) (k := 4) _ (by show 4 + 4 ≤ s.length; omega) (by omega) (by show s.length ≤ 65000; omega), Jb] at h ⊢
   obtain ⟨at', h1, h2⟩ := rd_C q0 ((s[0]'(by omega)).toNat : Int) 21 0 (Vg (decide (((s[0]'(by omega)).toNat : Int) = 77)) ((s.drop 4).take 4)) (-1) ⟨s, decide (((s[0]'(by omega)).toNat : Int) = 77), [], [], 0, 0, 0⟩ [] (by omega) (valB4 _ (by rw [List.length_take]; omega)) rfl rfl (.inl (by omega)) (by show s.length ≤ 65000; omega) (by simp) (Nat.le_refl _) f ps e h
   refine ⟨at', h1, fun he => ?_⟩
   obtain ⟨_, cb, rest, c1, c2, c3⟩ := h2 he
   rw [List.nil_append] at c1
   rw [bigS_eq (by omega), c1]
   exact ⟨cb, c2, c3⟩
theorem okFs {f : Tg} (hf : Jcj f) (h : Jac f = 0) : (∀ l ∈ f.kal, okR 5 l ∧ Uw 5 l ≤ 2000000) ∧ f.kal.length ≤ 20 := by
 have h2 := (Jh4 hf h).2
 unfold Jac at h
 split at h
 ·omega
 split at h
 ·rename_i h1; exact absurd h h1
 rename_i h1
 have h0 : W3 f.kal = 0 := by simpa using h1
 exact ⟨fun l hl => ⟨dE_okR (Jhd h0 l hl), hf.1 l hl⟩, h2⟩
theorem Jhq (l : List Ta) (t : Int) (hr : Ris l) (hl : l.length ≤ 200) : (∃ k : Int, Jbs l t = some (k, false) ∧ lk l t = none) ∨ ∃ k, ∃ hk : k < l.length, Jbs l t = some ((k : Int), true) ∧ lk l t = some l[k] := by
 rcases find_eq l t hr hl with ⟨h1, h2, h3⟩ | ⟨k, hk, h1, h2, _⟩
 ·refine .inl ⟨(Jbs l t |>.getD (0, false)).1, ?_, h2⟩
  refine h1.trans (congrArg some ?_)
  generalize (Jbs l t).getD (0, false) = x at h3
  cases x
  exact Prod.ext rfl h3
 ·exact .inr ⟨k, hk, h1, h2⟩
theorem Jic {ls : List (List Ta)} {path : List Int} (h : path.length < 2) : gotF ls path = none := by
 cases path with
 | nil => rfl
 | cons i ts =>
  have : ts = [] := List.eq_nil_of_length_eq_zero (by simp at h; omega)
  subst this
  rw [gotF]
  split
  ·split <;> rfl
  ·rfl
theorem gotF_at {ls : List (List Ta)} {k : Nat} (hk : k < ls.length) (ts : List Int) : gotF ls ((k : Int) :: ts) = Jaq ls[k] ts := by
 rw [gotF, if_pos (by omega), Int.toNat_natCast, List.getElem?_eq_getElem hk]
theorem Jib {ls : List (List Ta)} {i : Int} (h : i < 0 ∨ (ls.length : Int) ≤ i) (ts : List Int) : gotF ls (i :: ts) = none := by
 rw [gotF]
 split
 ·rw [List.getElem?_eq_none (by omega)]
 ·rfl
theorem dirG : ∀ (inner : List Int) (d : Nat) (l : List Ta), okR d l → ∃ r, Zu l inner = some r ∧ (∀ t, Jaq l (inner ++ [t]) = match r with | none => none | some ks => lk (V8 ks l) t) ∧ (∀ ks, r = some ks → ∃ d', d' ≤ d ∧ okR d' (V8 ks l) ∧ Uw d' (V8 ks l) ≤ Uw d l) := by
 intro inner
 induction inner with
 | nil => intro d l h; exact ⟨some [], rfl, fun t => rfl, fun ks hk => by cases hk; exact ⟨d, Nat.le_refl _, h, Nat.le_refl _⟩⟩
 | cons u ts ih =>
  intro d l h
  cases d with
  | zero => exact absurd h id
  | succ d =>
   obtain ⟨hl, hr, hv⟩ := h
   have more : ∀ t, ∃ w ws, (u :: ts) ++ [t] = u :: w :: ws ∧ w :: ws = ts ++ [t] := fun t => by
    cases ts with
    | nil => exact ⟨t, [], rfl, rfl⟩
    | cons w ws => exact ⟨w, ws ++ [t], rfl, rfl⟩
   rw [Zu, Jgz]
   rcases Jhq l u hr hl with ⟨k, hf, hk⟩ | ⟨k, hk', hf, hk⟩
   ·refine ⟨none, by rw [hf]; rfl, fun t => ?_, fun ks h => by cases h⟩
    obtain ⟨w, ws, e1, _⟩ := more t
    rw [e1]; simp only [Jaq, hk]
   ·rw [hf, Jb]
    show ∃ r, (Jz (Q9 l (k : Int)) fun e => Qv (decide (e.Value.kah ≠ 13)) (some none) (Jz (Zu e.Value.kaf ts) fun r => some (r.map (k :: ·)))) = some r ∧ _
    rw [Qn hk', Jb, cI]
    have hm : l[k] ∈ l := List.getElem_mem hk'
    by_cases h13 : l[k].Value.kah = 13
    ·obtain ⟨r, h1, h2, h3⟩ := ih d l[k].Value.kaf ((hv _ hm).2 h13)
     rw [if_neg (fun hh => hh h13), h1, Jb]
     refine ⟨_, rfl, fun t => ?_, fun ks hks => ?_⟩
     ·obtain ⟨w, ws, e1, e2⟩ := more t
      rw [e1]
      simp only [Jaq, hk, if_pos h13]
      rw [e2, h2 t]
      cases r with
      | none => rfl
      | some ks => show _ = lk (V8 (k :: ks) l) t; rw [V8, List.getElem?_eq_getElem hk']
     ·cases r with
      | none => cases hks
      | some ks' =>
       cases hks
       obtain ⟨d', a1, a2, a3⟩ := h3 ks' rfl
       rw [V8, List.getElem?_eq_getElem hk']
       refine ⟨d', by omega, a2, Nat.le_trans a3 ?_⟩
       have := Jge (d := d) hm
       unfold szE at this; omega
    ·rw [if_pos h13]
     refine ⟨none, rfl, fun t => ?_, fun ks h => by cases h⟩
     obtain ⟨w, ws, e1, _⟩ := more t
     rw [e1]; simp only [Jaq, hk, if_neg h13]
theorem Get_eq {f : Tg} {path : List Int} (hok : ∀ l ∈ f.kal, okR 5 l ∧ Uw 5 l ≤ 2000000) (hn : f.kal.length ≤ 20) (hp : path.length ≤ 1048576) (hc : Zw f = some 0) : Jeq f path = some (match gotF f.kal path with | some e => (e.Value, 0) | none => (noV, 7)) := by
 unfold Jeq
 rw [hc, Jb, cI, if_neg (fun hh => hh rfl)]
 by_cases h2 : path.length < 2
 ·unfold Jbb
  rw [cI, if_pos (by omega), Jb, Jic h2]
 obtain ⟨p0, inner, t, rfl⟩ : ∃ p0 inner t, path = p0 :: (inner ++ [t]) := by
  cases path with
  | nil => simp at h2
  | cons p0 q =>
   have hq : q ≠ [] := fun hh => by rw [hh] at h2; simp at h2
   exact ⟨p0, q.dropLast, q.getLast hq, by rw [List.dropLast_concat_getLast]⟩
 have hlen : (p0 :: (inner ++ [t])).length = inner.length + 2 := by simp
 have g0 : Q9 (p0 :: (inner ++ [t])) (0 : Int) = some p0 := Qn (xs := p0 :: (inner ++ [t])) (k := 0) (by simp)
 have gl : Q9 (p0 :: (inner ++ [t])) (((p0 :: (inner ++ [t])).length : Int) - 1) = some t := by
  have := gAt_mid (p0 :: inner) t []
  rw [hlen]
  rw [show ((p0 :: inner).length : Int) = ((inner.length + 2 : Nat) : Int) - 1 by simp; omega] at this
  exact this
 have c1 : Xr (p0 :: (inner ++ [t])) 1 (((p0 :: (inner ++ [t])).length : Int) - 1) = some inner := by
  rw [Jcr (by omega), hlen]
  have e1 : (1 : Int).toNat = 1 := rfl
  have e2 : (((inner.length + 2 : Nat) : Int) - 1).toNat - 1 = inner.length := by omega
  rw [e1, e2]
  simp
 unfold Jbb
 rw [cI, if_neg (by omega), g0, Jb, J2 (by omega), Jb, Jet, Jb, cI]
 by_cases h0 : p0 < 0 ∨ (f.kal.length : Int) - 1 < p0
 ·rw [if_pos h0, Jb, Jib (by omega)]
 rw [if_neg h0]
 obtain ⟨k, rfl⟩ : ∃ k : Nat, p0 = k := ⟨p0.toNat, by omega⟩
 have hk : k < f.kal.length := by omega
 obtain ⟨o1, o2⟩ := hok _ (List.getElem_mem hk)
 obtain ⟨r, r1, r2, r3⟩ := dirG inner 5 f.kal[k] o1
 rw [J2 (by omega), Qn hk, Jb, Jb, c1, Jb, r1, Jb, Jb, gotF_at hk, r2 t]
 cases r with
 | none => rfl
 | some ks =>
  obtain ⟨d, d1, d2, d3⟩ := r3 ks rfl
  simp only [Option.map_some, Int.toNat_natCast]
  have hgF : getF (k :: ks) f.kal = V8 ks f.kal[k] := by rw [getF, List.getElem?_eq_getElem hk]
  rw [Jb, gl, Jb, hgF, Jgz]
  cases d with
  | zero => exact absurd d2 id
  | succ d =>
   obtain ⟨hl, hr, hv⟩ := d2
   rcases Jhq (V8 ks f.kal[k]) t hr hl with ⟨j, hf, hj⟩ | ⟨j, hj', hf, hj⟩
   ·rw [hf, Jb]
    show Qv true _ _ = _
    rw [Xf]; simp only [hj]
   ·rw [hf, Jb]
    show Qv false _ _ = _
    rw [Qm]
    show Jz (Q9 (V8 ks f.kal[k]) (j : Int)) _ = _
    have hm : (V8 ks f.kal[k])[j] ∈ V8 ks f.kal[k] := List.getElem_mem hj'
    have hs := Jge (d := d) hm
    unfold szE at hs
    have hfv : fitV 8 (V8 ks f.kal[k])[j].Value := fitV8 (d := d) (by omega) (hv _ hm).1 (hv _ hm).2 (by omega) (by omega) (by omega)
    rw [Qn hj', Jb, if_pos hfv]; simp only [hj]
theorem Ji7 {s b : List UInt8} {a m : Nat} (h : a + b.length ≤ s.length) (hm : b.length ≤ m) : Zf (Qo s) (a : Int) m (Qo b) = Qo (put s a b) := cpy_put rfl hm
theorem Jh3 {s : List UInt8} {a : Nat} (h : a ≤ s.length) : Xr (Qo s) (a : Int) (Qo s).length = some ((Qo s).drop a) := by
 rw [Uh (by rw [Ql]; omega), Int.toNat_natCast]
theorem Jh5 (s : List UInt8) (a : Nat) : ((Qo s).drop a).length = s.length - a := by rw [List.length_drop, Ql]
theorem set_tag {big : Bool} {s : List UInt8} {a : Nat} (n : Int) (h : a + 4 ≤ s.length) : Js ⟨big, Qo s⟩ (a : Int) n = some ⟨big, Qo (put s a (Yb big n 4))⟩ := Jht rfl h
def Ja5 (s : List UInt8) : List UInt8 := if s.length % 2 = 0 then s else s ++ [0]
theorem padS_len (s : List UInt8) : s.length ≤ (Ja5 s).length ∧ (Ja5 s).length ≤ s.length + 1 := by
 unfold Ja5; split <;> simp
theorem begin_tag {big : Bool} {s : List UInt8} (hs : s.length ≤ 1000000) : Q0 ⟨big, Qo s⟩ = some (((Ja5 s).length : Int), ⟨big, Qo (Ja5 s)⟩) := by
 unfold Q0 Ja5
 have hr : gRem ((Qo s).length : Int) 2 = some ((s.length % 2 : Nat) : Int) := by
  unfold gRem
  rw [Ql, if_neg (by omega), Int.tmod_eq_emod_of_nonneg (by omega), show ((s.length : Int) % 2) = ((s.length % 2 : Nat) : Int) by omega]
 rw [hr, Jb, cI]
 by_cases h : s.length % 2 = 0
 ·rw [if_neg (by omega), if_pos h]
  unfold Zh
  rw [Ql]
 ·rw [if_pos (by omega), if_neg h, X5 (by rw [Ql, List.length_singleton]; omega), Jb]
  unfold Zh
  rw [show Qo s ++ [0] = Qo (s ++ [0]) by rw [Y7]; rfl, Ql]
theorem put_app {s b c : List UInt8} {a : Nat} (h : a + b.length ≤ s.length) : put s a b ++ c = put (s ++ c) a b := by
 unfold put
 rw [List.take_append_of_le_length (by omega), List.drop_append_of_le_length (by omega)]
 simp
theorem put_put {s z b w : List UInt8} {a : Nat} (h : a + z.length ≤ s.length) (hz : b.length + w.length = z.length) (hw : w = z.drop b.length) : put (put s a z) a b = put s a (b ++ w) := by
 have e : put s a z = s.take a ++ z.take b.length ++ (w ++ s.drop (a + z.length)) := by
  unfold put
  rw [hw, List.append_assoc, List.append_assoc, ← List.append_assoc (z.take b.length), List.take_append_drop]
 rw [e, put_at _ _ _ _ (by rw [List.length_take]; omega) (by rw [List.length_take]; omega)]
 unfold put
 rw [List.length_append, hz]
 simp
theorem gotD_ok : ∀ (rest : List Int) (d : Nat) (l : List Ta) (e : Ta), okR d l → Uw d l ≤ 2000000 → Jaq l rest = some e → okV e.Value ∧ vB e.Value := by
 intro rest
 induction rest with
 | nil => intro d l e _ _ h; cases h
 | cons t ts ih =>
  intro d l e h hz hg
  cases d with
  | zero => exact absurd h id
  | succ d =>
   obtain ⟨hl, hr, hv⟩ := h
   cases ts with
   | nil =>
    obtain ⟨h1, _⟩ := Jg7 (l := l) (t := t) hg
    exact ⟨(hv _ h1).1, (Je5 hz h1).1⟩
   | cons u ts =>
    simp only [Jaq] at hg
    cases hk : lk l t with
    | none => rw [hk] at hg; cases hg
    | some x =>
     rw [hk] at hg
     simp only at hg
     split at hg
     ·rename_i h13
      obtain ⟨h1, _⟩ := Jg7 hk
      exact ih d _ e ((hv _ h1).2 h13) (Je5 hz h1).2 hg
     ·cases hg
theorem gotF_ok {ls : List (List Ta)} {path : List Int} {e : Ta} (h : ∀ l ∈ ls, okR 5 l ∧ Uw 5 l ≤ 2000000) (hg : gotF ls path = some e) : okV e.Value ∧ vB e.Value := by
 cases path with
 | nil => cases hg
 | cons i ts =>
  rw [gotF] at hg
  split at hg
  ·split at hg
   ·rename_i l hl
    obtain ⟨hk, rfl⟩ := List.getElem?_eq_some_iff.1 hl
    obtain ⟨h1, h2⟩ := h _ (List.getElem_mem hk)
    exact gotD_ok ts 5 _ e h1 h2 hg
   ·cases hg
  ·cases hg
end Go.M

namespace Go.M
open Go.Md Go.Pl
def apartP (x y : Tc) : Prop := x.To ≤ y.From ∨ y.To ≤ x.From
theorem apartP.symm {x y : Tc} (h : apartP x y) : apartP y x := h.elim .inr .inl
theorem lap_pair {l : List Tc} (hs : l.Pairwise fun x y => x.From ≤ y.From) (hne : ∀ x ∈ l, x.From < x.To) (h : ¬ lapP l) : l.Pairwise apartP := by
 rw [List.pairwise_iff_getElem] at hs ⊢
 intro i j hi hj hij
 refine .inl ?_
 have h1 : ¬ (l[i + 1]'(by omega)).From < l[i].To := fun hh => h ⟨i, by omega, hh⟩
 rcases Nat.lt_or_ge (i + 1) j with h2 | h2
 ·have := hs (i + 1) j (by omega) hj h2
  omega
 ·have : j = i + 1 := by omega
  subst this; omega
def withV (e : Ta) (l : List Ta) : Ta := ⟨e.Tag, ⟨e.Value.kah, e.Value.kai, e.Value.kaj, e.Value.kag, l⟩⟩
def Vq : List Ta → List Int → Td → List Ta
 | l, [], _ => l
 | l, [t], v => l.map fun e => if e.Tag = t then ⟨e.Tag, v⟩ else e
 | l, t :: u :: ts, v => l.map fun e => if e.Tag = t then withV e (Vq e.Value.kaf (u :: ts) v) else e
def putE (e : Ta) (ts : List Int) (v : Td) : Ta := match ts with | [] => ⟨e.Tag, v⟩ | u :: ts => withV e (Vq e.Value.kaf (u :: ts) v)
theorem Jdh (l : List Ta) (t : Int) (ts : List Int) (v : Td) : Vq l (t :: ts) v = l.map fun e => if e.Tag = t then putE e ts v else e := by
 cases ts <;> rfl
theorem putD_low {l : List Ta} {t : Int} (h : ∀ x ∈ l, x.Tag ≠ t) (ts : List Int) (v : Td) : Vq l (t :: ts) v = l := by
 rw [Jdh]
 conv => rhs; rw [← List.map_id l]
 exact List.map_congr_left fun x hx => by rw [if_neg (h x hx)]; rfl
theorem putE_tag (e : Ta) (ts : List Int) (v : Td) : (putE e ts v).Tag = e.Tag := by cases ts <;> rfl
theorem putD_head {e : Ta} {l : List Ta} (hr : Ris (e :: l)) (ts : List Int) (v : Td) : Vq (e :: l) (e.Tag :: ts) v = putE e ts v :: l := by
 obtain ⟨h1, h2⟩ := List.pairwise_cons.1 hr
 have := putD_low (l := l) (t := e.Tag) (fun x hx => by have := h1 x hx; omega) ts v
 rw [Jdh] at this ⊢
 rw [List.map_cons, if_pos rfl, this]
theorem putD_tail {e : Ta} {l : List Ta} {t : Int} (h : e.Tag ≠ t) (ts : List Int) (v : Td) : Vq (e :: l) (t :: ts) v = e :: Vq l (t :: ts) v := by
 rw [Jdh, Jdh, List.map_cons, if_neg h]
structure Mod (S T : List UInt8) (big : Bool) (a p0 n0 : Nat) (v : Td) : Prop where
 len : S.length ≤ T.length
 t65 : T.length ≤ 65000
 ag : ∀ i k, (i + k ≤ a + 2 ∨ a + 12 ≤ i) → (4 < n0 → i + k ≤ p0 ∨ p0 + n0 ≤ i) → i + k ≤ S.length → (T.drop i).take k = (S.drop i).take k
 a12 : a + 12 ≤ S.length
 hn0 : n0 = vS S big (a + 4) 4 * J6 (vS S big (a + 2) 2 : Int)
 hp0 : p0 = vS S big (a + 8) 4
 vok : Jbu v = 0
 v13 : v.kah ≠ 13
 o13 : (vS S big (a + 2) 2 : Int) ≠ 13
 val : (4 < n0 → a + 12 ≤ p0 ∨ p0 + n0 ≤ a) → (vS T big (a + 2) 2 : Int) = v.kah ∧ vS T big (a + 4) 4 = Wp v ∧ ((Zg big v).length ≤ 4 → (T.drop (a + 8)).take (Zg big v).length = Zg big v) ∧
  (4 < (Zg big v).length → 8 ≤ vS T big (a + 8) 4 ∧ vS T big (a + 8) 4 + (Zg big v).length ≤ T.length ∧ (T.drop (vS T big (a + 8) 4)).take (Zg big v).length = Zg big v)
def Jbq (a p0 n0 : Nat) (x : Tc) : Prop := (x.To ≤ (a : Int) ∨ ((a + 12 : Nat) : Int) ≤ x.From) ∧ (4 < n0 → x.To ≤ (p0 : Int) ∨ ((p0 + n0 : Nat) : Int) ≤ x.From)
def Cov (a p0 n0 : Nat) (l : List Tc) : Prop := (∃ D ∈ l, D.From ≤ (a : Int) ∧ ((a + 12 : Nat) : Int) ≤ D.To) ∧ (4 < n0 → (⟨(p0 : Int), ((p0 + n0 : Nat) : Int)⟩ : Tc) ∈ l)
theorem Cov.off {a p0 n0 : Nat} {l : List Tc} (h : Cov a p0 n0 l) {x : Tc} (hx : ∀ y ∈ l, apartP x y) : Jbq a p0 n0 x := by
 obtain ⟨⟨D, hD, h1, h2⟩, h3⟩ := h
 refine ⟨?_, fun h4 => ?_⟩
 ·rcases hx D hD with h | h <;> omega
 ·rcases hx _ (h3 h4) with h | h
  ·exact .inl h
  ·exact .inr h
theorem Cov.mono {a p0 n0 : Nat} {l m : List Tc} (h : Cov a p0 n0 l) (hs : ∀ x ∈ l, x ∈ m) : Cov a p0 n0 m := by
 obtain ⟨⟨D, hD, h1⟩, h3⟩ := h
 exact ⟨⟨D, hs D hD, h1⟩, fun h4 => hs _ (h3 h4)⟩
section
variable {S T : List UInt8} {big : Bool} {a p0 n0 : Nat} {v : Td} {en : Ta}
structure Rel (S T : List UInt8) (big : Bool) (r rt : Tb) : Prop where
 s : r.s_ = S
 s' : rt.s_ = T
 bg : r.kab = big
 bg' : rt.kab = big
 seen : rt.kae = r.kae
 dirs : rt.kad = r.kad
 found : rt.kac = r.kac
 no : r.no_ = 0
 no' : rt.no_ = 0
theorem Mod.win (M : Mod S T big a p0 n0 v) {r rt : Tb} (R : Rel S T big r rt) {i k : Nat} (h1 : i + k ≤ a + 2 ∨ a + 12 ≤ i) (h2 : 4 < n0 → i + k ≤ p0 ∨ p0 + n0 ≤ i) (h : i + k ≤ S.length) : Jn rt i k = Jn r i k := by
 show Vg rt.kab ((rt.s_.drop i).take k) = Vg r.kab ((r.s_.drop i).take k)
 rw [R.bg, R.bg', R.s, R.s', M.ag i k h1 h2 h]
theorem Mod.winO (M : Mod S T big a p0 n0 v) {r rt : Tb} (R : Rel S T big r rt) {i k : Nat} {x : Tc} (hx : Jbq a p0 n0 x) (h1 : x.From ≤ (i : Int)) (h2 : ((i + k : Nat) : Int) ≤ x.To) (h : i + k ≤ S.length) : (rt.s_.drop i).take k = (r.s_.drop i).take k := by
 obtain ⟨x1, x2⟩ := hx
 rw [R.s, R.s']
 refine M.ag i k (by omega) (fun h4 => ?_) h
 have := x2 h4
 omega
theorem Mod.valO (M : Mod S T big a p0 n0 v) {r rt : Tb} (R : Rel S T big r rt) {i k : Nat} {x : Tc} (hx : Jbq a p0 n0 x) (h1 : x.From ≤ (i : Int)) (h2 : ((i + k : Nat) : Int) ≤ x.To) (h : i + k ≤ S.length) : Jn rt i k = Jn r i k := by
 show Vg rt.kab ((rt.s_.drop i).take k) = Vg r.kab ((r.s_.drop i).take k)
 rw [M.winO R hx h1 h2 h, R.bg, R.bg']
theorem Jer {r : Tb} {k : Int} {c : Nat} {b : List UInt8} (hno : r.no_ = 0) (h : (Ja1 r k c b).2.no_ = 0) : (Ja1 r k c b).2 = r ∧ ∀ rt : Tb, rt.kab = r.kab → Ja1 rt k c b = ((Ja1 r k c b).1, rt) := by
 unfold Ja1 at h ⊢
 by_cases h2 : k = 2
 ·simp only [if_pos h2] at h ⊢
  split at h
  ·exact absurd h (Xz _ (by decide))
  ·rename_i h3
   simp only [if_neg h3] at h ⊢
   split at h
   ·exact absurd h (Xz _ (by decide))
   ·rename_i h4
    simp only [if_neg h4]
    exact ⟨trivial, fun _ _ => trivial⟩
 ·simp only [if_neg h2] at h ⊢
  by_cases h7 : k = 7
  ·simp only [if_pos h7]; exact ⟨trivial, fun _ _ => trivial⟩
  ·simp only [if_neg h7]
   by_cases h5 : k = 5
   ·simp only [if_pos h5]; exact ⟨trivial, fun rt hb => by rw [hb]⟩
   ·simp only [if_neg h5]; exact ⟨trivial, fun rt hb => by rw [hb]⟩
def withP (r : Tb) (x : Tc) : Tb := ⟨r.s_, r.kab, r.kaa ++ [x], r.kae, r.kad, r.kac, r.no_⟩
theorem Rel.withP {r rt : Tb} (R : Rel S T big r rt) (x y : Tc) : Rel S T big (withP r x) (withP rt y) := by
 obtain ⟨h1, h2, h3, h4, h5, h6, h7, h8, h9⟩ := R
 exact ⟨h1, h2, h3, h4, h5, h6, h7, h8, h9⟩
theorem valR_same (M : Mod S T big a p0 n0 v) {r rt : Tb} (R : Rel S T big r rt) {k : Int} {c a1 : Nat} (hw : J6 k ≠ 0) (h13 : k ≠ 13) (hoff : Jbq a p0 n0 ⟨(a1 : Int), ((a1 + 12 : Nat) : Int)⟩) (ha1 : a1 + 12 ≤ S.length) {new : List Tc} (hnew : (Jbe r k c (a1 + 8)).2.kaa = r.kaa ++ new) (hno : (Jbe r k c (a1 + 8)).2.no_ = 0) (hon : ∀ x ∈ new, Jbq a p0 n0 x) :
  ∃ rt', Jbe rt k c (a1 + 8) = ((Jbe r k c (a1 + 8)).1, rt') ∧ Rel S T big (Jbe r k c (a1 + 8)).2 rt' := by
 have hsl : r.s_.length = S.length := by rw [R.s]
 have htl : rt.s_.length = T.length := by rw [R.s']
 have hlen := M.len
 by_cases h4 : 4 < c * J6 k
 ·have hv : Jn rt (a1 + 8) 4 = Jn r (a1 + 8) 4 := M.valO R hoff (by simp only; omega) (by simp only; omega) (by omega)
  obtain ⟨k1, k2, k3⟩ := Jid r hw h13 (by rw [hsl]; omega) hno
  have k3 := k3 h4
  rw [Jej (r := r) h4, if_pos k3] at hno hnew ⊢
  rw [Jej (r := rt) h4, hv, if_pos (by omega)]
  have e := Jer (r := withP r ⟨(Jn r (a1 + 8) 4 : Int), ((Jn r (a1 + 8) 4 + c * J6 k : Nat) : Int)⟩) R.no hno
  obtain ⟨e1, e2⟩ := e
  have hnew2 : new = [⟨(Jn r (a1 + 8) 4 : Int), ((Jn r (a1 + 8) 4 + c * J6 k : Nat) : Int)⟩] := by
   have : (Ja1 (withP r ⟨(Jn r (a1 + 8) 4 : Int), ((Jn r (a1 + 8) 4 + c * J6 k : Nat) : Int)⟩) k c ((r.s_.drop (Jn r (a1 + 8) 4)).take (c * J6 k))).2.kaa = r.kaa ++ new := hnew
   rw [e1] at this
   exact (List.append_cancel_left this).symm
  have hx := hon ⟨(Jn r (a1 + 8) 4 : Int), ((Jn r (a1 + 8) 4 + c * J6 k : Nat) : Int)⟩ (by rw [hnew2]; simp)
  have hw2 := M.winO R hx (i := Jn r (a1 + 8) 4) (k := c * J6 k) (by simp only; omega) (by simp only; omega) (by omega)
  rw [hw2]
  refine ⟨withP rt ⟨(Jn r (a1 + 8) 4 : Int), ((Jn r (a1 + 8) 4 + c * J6 k : Nat) : Int)⟩, e2 _ (by show rt.kab = r.kab; rw [R.bg, R.bg']), ?_⟩
  show Rel S T big (Ja1 (withP r ⟨(Jn r (a1 + 8) 4 : Int), ((Jn r (a1 + 8) 4 + c * J6 k : Nat) : Int)⟩) k c ((r.s_.drop (Jn r (a1 + 8) 4)).take (c * J6 k))).2 _
  rw [e1]
  exact R.withP _ _
 ·rw [Jdd (r := r) h4] at hno hnew ⊢
  rw [Jdd (r := rt) h4]
  obtain ⟨e1, e2⟩ := Jer R.no hno
  have hw2 := M.winO R hoff (i := a1 + 8) (k := c * J6 k) (by simp only; omega) (by simp only; omega) (by omega)
  rw [hw2]
  refine ⟨rt, e2 _ (by rw [R.bg, R.bg']), ?_⟩
  rw [e1]; exact R
theorem valR_mod (M : Mod S T big a p0 n0 v) (hpp : 4 < n0 → a + 12 ≤ p0 ∨ p0 + n0 ≤ a) {r rt : Tb} (R : Rel S T big r rt) :
  ∃ rt', Jbe rt v.kah (Wp v) (a + 8) = (v, rt') ∧ rt'.no_ = 0 ∧ rt'.s_ = T ∧ rt'.kab = big ∧ rt'.kae = rt.kae ∧ rt'.kad = rt.kad ∧ rt'.kac = rt.kac := by
 have hv := (Jie M.vok).1
 obtain ⟨_, _, hnear, hfar⟩ := M.val hpp
 have hol := Jec big hv M.v13
 by_cases h4 : 4 < Wp v * J6 v.kah
 ·obtain ⟨f1, f2, f3⟩ := hfar (by omega)
  have e : Jn rt (a + 8) 4 = vS T big (a + 8) 4 := by show Vg rt.kab _ = Vg big _; rw [R.bg', R.s']
  rw [Jej h4, e, if_pos (by rw [R.s']; omega)]
  refine ⟨withP rt ⟨(vS T big (a + 8) 4 : Int), ((vS T big (a + 8) 4 + Wp v * J6 v.kah : Nat) : Int)⟩, ?_, R.no', R.s', R.bg', rfl, rfl, rfl⟩
  refine Eq.trans ?_ (valT_back (withP rt ⟨(vS T big (a + 8) 4 : Int), ((vS T big (a + 8) 4 + Wp v * J6 v.kah : Nat) : Int)⟩) M.vok M.v13)
  show Ja1 (withP rt _) _ _ _ = Ja1 (withP rt _) _ _ (Zg rt.kab v)
  rw [R.bg', ← f3, hol, R.s']
 ·rw [Jdd h4]
  refine ⟨rt, ?_, R.no', R.s', R.bg', rfl, rfl, rfl⟩
  have := valT_back rt M.vok M.v13
  rw [← this, R.bg', R.s', ← hol, hnear (by omega)]
def SimT (S T : List UInt8) (big : Bool) (a p0 n0 : Nat) (v : Td) (en : Ta) (d : Nat) (self : V0) : Prop := ∀ (r rt : Tb) (pl : Nat) (path : List Int), path.length + d = 6 → pl ≤ 4294967295 → r.kaa.length + cap d ≤ 7999999999990 → rt.kaa.length + cap d ≤ 7999999999990 → r.kac ≤ 0 → Rel S T big r rt →
 ∀ l nx r' new, self (r, (pl : Int), path) = some (l, nx, r') → r'.no_ = 0 → r'.kaa = r.kaa ++ new → new.Pairwise apartP → okR d l →
  ((∀ x ∈ new, Jbq a p0 n0 x) → ∃ rt', self (rt, (pl : Int), path) = some (l, nx, rt') ∧ Rel S T big r' rt') ∧
  ∀ rest, (path ++ rest, a, en) ∈ trD S big d path pl l → ∃ rt', self (rt, (pl : Int), path) = some (Vq l rest v, nx, rt') ∧ Rel S T big r' rt' ∧ Cov a p0 n0 new
theorem ent_T {d : Nat} {self : V0} (M : Mod S T big a p0 n0 v) (G : SimT S T big a p0 n0 v en d self) {r rt : Tb} (R : Rel S T big r rt) {a1 : Nat} {path : List Int} (hpl : path.length + d + 1 = 6) (ha : a1 + 12 ≤ S.length) (hp : r.kaa.length + (1 + cap d) ≤ 7999999999990) (hpt : rt.kaa.length + (1 + cap d) ≤ 7999999999990) (hf : r.kac ≤ 0)
  {e : Ta} {r' : Tb} {new : List Tc} (he : Jc2 self r a1 path = some (e, r')) (hno : r'.no_ = 0) (hnew : r'.kaa = r.kaa ++ new) (hpw : new.Pairwise apartP) (hok : e.Value.kah = 13 → okR d e.Value.kaf) :
  (Jbq a p0 n0 ⟨(a1 : Int), ((a1 + 12 : Nat) : Int)⟩ → (∀ x ∈ new, Jbq a p0 n0 x) → ∃ rt', Jc2 self rt a1 path = some (e, rt') ∧ Rel S T big r' rt') ∧
  (a1 = a → (4 < n0 → (⟨(p0 : Int), ((p0 + n0 : Nat) : Int)⟩ : Tc) ∈ new) ∧ ((4 < n0 → a + 12 ≤ p0 ∨ p0 + n0 ≤ a) → ∃ rt', Jc2 self rt a1 path = some (⟨e.Tag, v⟩, rt') ∧ Rel S T big r' rt')) ∧
  (e.Value.kah = 13 → ∀ rest, ((path ++ [e.Tag]) ++ rest, a, en) ∈ trD S big d (path ++ [e.Tag]) (vS S big (a1 + 8) 4) e.Value.kaf → Cov a p0 n0 new ∧ (Jbq a p0 n0 ⟨(a1 : Int), ((a1 + 12 : Nat) : Int)⟩ → ∃ rt', Jc2 self rt a1 path = some (withV e (Vq e.Value.kaf rest v), rt') ∧ Rel S T big r' rt')) := by
 have hlen := M.len
 have wv : ∀ i k, Jn r i k = vS S big i k := fun i k => by show Vg r.kab _ = Vg big _; rw [R.bg, R.s]
 have wt : ∀ i k, Jn rt i k = vS T big i k := fun i k => by show Vg rt.kab _ = Vg big _; rw [R.bg', R.s']
 unfold Jc2 at he
 by_cases h13 : (Jn r (a1 + 2) 2 : Int) = 13
 ·rw [if_pos h13] at he
  by_cases h1 : Jn r (a1 + 4) 4 = 1
  rotate_left
  ·rw [if_neg h1] at he
   cases he
   exact absurd hno (Xz _ (by decide))
  rw [if_pos h1] at he
  cases hsf : self (r, (Jn r (a1 + 8) 4 : Int), path ++ [(Jn r a1 2 : Int)]) with
  | none => rw [hsf] at he; cases he
  | some t =>
   obtain ⟨l, nx, r2⟩ := t
   rw [hsf, Jb] at he
   cases he
   have gg := G r rt (Jn r (a1 + 8) 4) (path ++ [(Jn r a1 2 : Int)]) (by simp; omega) (v4 _ _) (by omega) (by omega) hf R l nx _ new hsf hno hnew hpw (hok rfl)
   have same : Jbq a p0 n0 ⟨(a1 : Int), ((a1 + 12 : Nat) : Int)⟩ → Jn rt a1 2 = Jn r a1 2 ∧ Jn rt (a1 + 2) 2 = Jn r (a1 + 2) 2 ∧ Jn rt (a1 + 4) 4 = Jn r (a1 + 4) 4 ∧ Jn rt (a1 + 8) 4 = Jn r (a1 + 8) 4 := fun ho =>
    ⟨M.valO R ho (by simp only; omega) (by simp only; omega) (by omega), M.valO R ho (by simp only; omega) (by simp only; omega) (by omega), M.valO R ho (by simp only; omega) (by simp only; omega) (by omega), M.valO R ho (by simp only; omega) (by simp only; omega) (by omega)⟩
   refine ⟨fun ho hon => ?_, fun hae => ?_, fun _ rest hm => ?_⟩
   ·obtain ⟨q1, q2, q3, q4⟩ := same ho
    obtain ⟨rt', g1, g2⟩ := gg.1 hon
    unfold Jc2
    rw [q1, q2, q3, q4, if_pos h13, if_pos h1, g1, Jb]
    exact ⟨rt', rfl, g2⟩
   ·exfalso
    rw [hae, wv] at h13
    exact M.o13 h13
   ·obtain ⟨rt', g1, g2, g3⟩ := gg.2 rest (by rw [wv (a1 + 8) 4]; exact hm)
    refine ⟨g3, fun ho => ?_⟩
    obtain ⟨q1, q2, q3, q4⟩ := same ho
    unfold Jc2
    rw [q1, q2, q3, q4, if_pos h13, if_pos h1, g1, Jb]
    exact ⟨rt', rfl, g2⟩
 ·rw [if_neg h13] at he
  by_cases h0 : J6 (Jn r (a1 + 2) 2 : Int) = 0
  ·rw [if_pos h0] at he
   cases he
   exact absurd hno (Xz _ (by decide))
  rw [if_neg h0] at he
  cases he
  have hk := (Jid r h0 h13 (a := a1 + 8) (c := Jn r (a1 + 4) 4) (by rw [R.s]; omega) hno)
  refine ⟨fun ho hon => ?_, fun hae => ?_, fun hk13 => absurd (hk.1.symm.trans hk13) h13⟩
  ·obtain ⟨rt', g1, g2⟩ := valR_same M R h0 h13 ho ha hnew hno hon
   unfold Jc2
   rw [M.valO R ho (i := a1) (k := 2) (by simp only; omega) (by simp only; omega) (by omega), M.valO R ho (i := a1 + 2) (k := 2) (by simp only; omega) (by simp only; omega) (by omega), M.valO R ho (i := a1 + 4) (k := 4) (by simp only; omega) (by simp only; omega) (by omega), if_neg h13, if_neg h0, g1]
   exact ⟨rt', rfl, g2⟩
  ·subst hae
   have ew : J6 v.kah ≠ 0 := fun e => (Jel _ M.v13).1 (by rw [e]; rfl) (Jie M.vok).1.1
   have hr2 : ∃ V, (Jbe r (Jn r (a1 + 2) 2 : Int) (Jn r (a1 + 4) 4) (a1 + 8)).2.kaa = r.kaa ++ V ∧ V.length ≤ 1 ∧ (4 < n0 → (⟨(p0 : Int), ((p0 + n0 : Nat) : Int)⟩ : Tc) ∈ V) ∧ (Jbe r (Jn r (a1 + 2) 2 : Int) (Jn r (a1 + 4) 4) (a1 + 8)).2.kae = r.kae ∧ (Jbe r (Jn r (a1 + 2) 2 : Int) (Jn r (a1 + 4) 4) (a1 + 8)).2.s_ = S ∧ (Jbe r (Jn r (a1 + 2) 2 : Int) (Jn r (a1 + 4) 4) (a1 + 8)).2.kab = big ∧ (Jbe r (Jn r (a1 + 2) 2 : Int) (Jn r (a1 + 4) 4) (a1 + 8)).2.kad = r.kad ∧ (Jbe r (Jn r (a1 + 2) 2 : Int) (Jn r (a1 + 4) 4) (a1 + 8)).2.kac = r.kac := by
    have hn0 := M.hn0
    rw [← wv, ← wv] at hn0
    have hp0 := M.hp0
    rw [← wv] at hp0
    by_cases h4 : 4 < Jn r (a1 + 4) 4 * J6 (Jn r (a1 + 2) 2 : Int)
    ·have k3 := hk.2.2 h4
     rw [Jej h4, if_pos k3] at hno ⊢
     obtain ⟨z1, _⟩ := Jer (r := withP r ⟨(Jn r (a1 + 8) 4 : Int), ((Jn r (a1 + 8) 4 + Jn r (a1 + 4) 4 * J6 (Jn r (a1 + 2) 2 : Int) : Nat) : Int)⟩) R.no hno
     refine ⟨[⟨(Jn r (a1 + 8) 4 : Int), ((Jn r (a1 + 8) 4 + Jn r (a1 + 4) 4 * J6 (Jn r (a1 + 2) 2 : Int) : Nat) : Int)⟩], ?_⟩
     rw [show Ja1 ⟨r.s_, r.kab, r.kaa ++ [⟨(Jn r (a1 + 8) 4 : Int), ((Jn r (a1 + 8) 4 + Jn r (a1 + 4) 4 * J6 (Jn r (a1 + 2) 2 : Int) : Nat) : Int)⟩], r.kae, r.kad, r.kac, r.no_⟩ (Jn r (a1 + 2) 2 : Int) (Jn r (a1 + 4) 4) ((r.s_.drop (Jn r (a1 + 8) 4)).take (Jn r (a1 + 4) 4 * J6 (Jn r (a1 + 2) 2 : Int))) = Ja1 (withP r ⟨(Jn r (a1 + 8) 4 : Int), ((Jn r (a1 + 8) 4 + Jn r (a1 + 4) 4 * J6 (Jn r (a1 + 2) 2 : Int) : Nat) : Int)⟩) (Jn r (a1 + 2) 2 : Int) (Jn r (a1 + 4) 4) ((r.s_.drop (Jn r (a1 + 8) 4)).take (Jn r (a1 + 4) 4 * J6 (Jn r (a1 + 2) 2 : Int))) from rfl, z1]
     exact ⟨rfl, Nat.le_refl _, fun _ => by rw [hp0, hn0]; simp, rfl, R.s, R.bg, rfl, rfl⟩
    ·rw [Jdd h4] at hno ⊢
     obtain ⟨z1, _⟩ := Jer R.no hno
     rw [z1]
     exact ⟨[], (List.append_nil _).symm, Nat.zero_le _, fun h => absurd h (by rw [hn0]; exact h4), rfl, R.s, R.bg, rfl, rfl⟩
   obtain ⟨V, w1, w2, w3, w4, w5, w6, w7, w8⟩ := hr2
   have hVn : V = new := List.append_cancel_left (w1.symm.trans hnew)
   refine ⟨fun h4 => by rw [← hVn]; exact w3 h4, fun hpp => ?_⟩
   obtain ⟨rt', g1, g2, g3, g4, g5, g6, g7⟩ := valR_mod M hpp R
   have e2 : (Jn rt (a1 + 2) 2 : Int) = v.kah := by rw [wt]; exact (M.val hpp).1
   have e4 : Jn rt (a1 + 4) 4 = Wp v := by rw [wt]; exact (M.val hpp).2.1
   refine ⟨rt', ?_, ⟨w5, g3, w6, g4, by rw [g5, w4, R.seen], by rw [g6, w7, R.dirs], by rw [g7, w8, R.found], hno, g2⟩⟩
   have e0 : Jn rt a1 2 = Jn r a1 2 := M.win R (by omega) (fun h4 => by have := hpp h4; omega) (by omega)
   unfold Jc2
   rw [e0, e2, e4, if_neg M.v13, if_neg ew, g1]
theorem Jf2 {x y : Tc} (h : Jbq a p0 n0 y) (h1 : y.From ≤ x.From) (h2 : x.To ≤ y.To) : Jbq a p0 n0 x := by
 obtain ⟨g1, g2⟩ := h
 refine ⟨by omega, fun h4 => ?_⟩
 have := g2 h4
 omega
theorem loop_T {d : Nat} {self : V0} (H : Jfg d self) (M : Mod S T big a p0 n0 v) (G : SimT S T big a p0 n0 v en d self) {path : List Int} (hpl : path.length + d + 1 = 6) {pl nxt cnt : Nat} (hcnt : cnt ≤ 200) (hin : pl + (2 + 12 * cnt + 4) ≤ S.length) (B Bt : Nat) (hp : B + cap (d + 1) ≤ 7999999999990) (hpt : Bt + cap (d + 1) ≤ 7999999999990) :
  ∀ (m i : Nat) (rc rct : Tb) (l lt : List Ta), i + m = cnt → l.length = i → lt.map (·.Tag) = l.map (·.Tag) → Rel S T big rc rct → rc.kac ≤ 0 → rc.kaa.length ≤ B + (1 + i * (1 + cap d)) → rct.kaa.length ≤ Bt + (1 + i * (1 + cap d)) →
   ∀ l' nx r', Wc self path pl nxt cnt i rc l = some (l', nx, r') → r'.no_ = 0 → okR (d + 1) l' →
   ∃ rest new, l' = l ++ rest ∧ r'.kaa = rc.kaa ++ new ∧
    (new.Pairwise apartP → (∀ q, (path ++ q, a, en) ∈ trL (trD S big d) S big path pl i rest → (∃ j, i ≤ j ∧ j < cnt ∧ a = pl + 2 + 12 * j ∧ (4 < n0 → (⟨(p0 : Int), ((p0 + n0 : Nat) : Int)⟩ : Tc) ∈ new)) ∨ Cov a p0 n0 new)) ∧
    (new.Pairwise apartP → (∀ x ∈ new, apartP ⟨(pl : Int), ((pl + (2 + 12 * cnt + 4) : Nat) : Int)⟩ x) →
     ((∀ x ∈ new, Jbq a p0 n0 x) → (∀ j, i ≤ j → j < cnt → Jbq a p0 n0 ⟨((pl + 2 + 12 * j : Nat) : Int), ((pl + 2 + 12 * j + 12 : Nat) : Int)⟩) → ∃ rt', Wc self path pl nxt cnt i rct lt = some (lt ++ rest, nx, rt') ∧ Rel S T big r' rt') ∧
     ∀ q, (path ++ q, a, en) ∈ trL (trD S big d) S big path pl i rest → ∃ rt', Wc self path pl nxt cnt i rct lt = some (lt ++ Vq rest q v, nx, rt') ∧ Rel S T big r' rt') := by
 intro m
 have hlen := M.len
 have hcap : ∀ i, i ≤ 200 → 1 + i * (1 + cap d) ≤ cap (d + 1) := fun i hi => by
  show _ ≤ 1 + 200 * (1 + cap d)
  have := Nat.mul_le_mul_right (1 + cap d) hi; omega
 induction m with
 | zero =>
  intro i rc rct l lt him hl ht R hf hb hbt l' nx r' hd hno hok
  rw [Wv _ _ _ _ _ _ _ _ (.inl (by omega))] at hd
  cases hd
  refine ⟨[], [], (List.append_nil _).symm, (List.append_nil _).symm, fun _ q hq => by simp [trL] at hq, fun _ _ => ⟨fun _ _ => ⟨rct, ?_, R⟩, fun q hq => by simp [trL] at hq⟩⟩
  rw [Wv _ _ _ _ _ _ _ _ (.inl (by omega)), List.append_nil]
 | succ m ih =>
  intro i rc rct l lt him hl ht R hf hb hbt l' nx r' hd hno hok
  have hrs : rc.s_.length = S.length := by rw [R.s]
  have hrts : rct.s_.length = T.length := by rw [R.s']
  have hltl : lt.length = i := by have := congrArg List.length ht; simpa [hl] using this
  have hi1 := hcap (i + 1) (by omega)
  rw [Nat.add_mul, Nat.one_mul] at hi1
  have h65 := M.t65
  have hin' : pl + 2 + 12 * cnt ≤ rc.s_.length := by omega
  have hlow : ¬ ∃ h : 0 < i, (Jn rc (pl + 2 + 12 * i) 2 : Int) ≤ (l[i - 1]'(by omega)).Tag := fun ⟨h0, hlow⟩ => by
   rw [Jgh _ _ _ _ _ _ _ _ (by omega) R.no h0 (by omega) hin' (by omega) hlow] at hd
   cases hd
   exact Xz rc (by decide) hno
  obtain ⟨e, r2, he, hA⟩ := Jc8 H rc (a := pl + 2 + 12 * i) hpl (by omega) (by omega) hf
  rw [Jc6 self path pl nxt cnt i rc l (by omega) R.no hl (by omega) hin' (by omega) (fun h hh => hlow ⟨h, hh⟩) (by omega) hf (by omega) he] at hd
  have hno2 : r2.no_ = 0 := by
   refine Classical.byContradiction fun hh => ?_
   rw [Wv _ _ _ _ _ _ _ _ (.inr hh)] at hd
   cases hd
   exact hh hno
  obtain ⟨a1, a2, a3, a4, new1, a5, a6, a7, a8⟩ := hA
  have hf2 : r2.kac ≤ 0 := by rw [a4]; exact hf
  have hb2 : r2.kaa.length ≤ B + (1 + (i + 1) * (1 + cap d)) := by rw [a5, List.length_append, Nat.add_mul, Nat.one_mul]; omega
  obtain ⟨rest, new2, b1, b2, b3, _⟩ := ih (i + 1) r2 ⟨T, big, [], r2.kae, r2.kad, r2.kac, 0⟩ (l ++ [e]) (l ++ [e]) (by omega) (by simp; omega) rfl ⟨by rw [a1]; exact R.s, rfl, by rw [a2]; exact R.bg, rfl, rfl, rfl, rfl, hno2, rfl⟩ hf2 hb2 (Nat.zero_le _) l' nx r' hd hno hok
  have hb1 : l' = l ++ (e :: rest) := by rw [b1]; simp
  have hok' := hok
  obtain ⟨ok1, ok2, ok3⟩ := hok'
  have hel : e ∈ l' := by rw [hb1]; simp
  have hris : Ris (e :: rest) := by
   have := ok2
   rw [hb1] at this
   exact (List.pairwise_append.1 this).2.1
  have go : ∀ (rct : Tb) (lt : List Ta), lt.map (·.Tag) = l.map (·.Tag) → Rel S T big rc rct → rct.kaa.length ≤ Bt + (1 + i * (1 + cap d)) → ∀ (e' : Ta) (rt1 : Tb), e'.Tag = e.Tag → Jc2 self rct (pl + 2 + 12 * i) path = some (e', rt1) → Rel S T big r2 rt1 →
    Wc self path pl nxt cnt i rct lt = Wc self path pl nxt cnt (i + 1) rt1 (lt ++ [e']) ∧ (lt ++ [e']).map (·.Tag) = (l ++ [e]).map (·.Tag) ∧ rt1.kaa.length ≤ Bt + (1 + (i + 1) * (1 + cap d)) := by
   intro rct lt ht R hbt e' rt1 hte hent R1
   have hrts : rct.s_.length = T.length := by rw [R.s']
   have hltl : lt.length = i := by have := congrArg List.length ht; simpa [hl] using this
   have hft : rct.kac ≤ 0 := by rw [R.found]; exact hf
   obtain ⟨eT, rT, heT, hAT⟩ := Jc8 H rct (a := pl + 2 + 12 * i) hpl (by omega) (by omega) hft
   rw [hent] at heT
   cases heT
   have hpa := hAT.parts
   refine ⟨Jc6 self path pl nxt cnt i rct lt (by omega) R.no' hltl (by omega) (by omega) (by omega) (fun h hh => ?_) (by omega) hft (by omega) hent, by rw [List.map_append, List.map_append, ht]; simp [hte], by rw [Nat.add_mul, Nat.one_mul]; omega⟩
   refine hlow ⟨h, ?_⟩
   have htag : (lt[i - 1]'(by omega)).Tag = (l[i - 1]'(by omega)).Tag := by
    have := congrArg (fun z => z[i - 1]?) ht
    simp only [List.getElem?_map] at this
    rw [List.getElem?_eq_getElem (by omega), List.getElem?_eq_getElem (by omega)] at this
    simpa using this
   rw [htag] at hh
   have e1 : (Jn rct (pl + 2 + 12 * i) 2 : Int) = e'.Tag := by
    unfold Jc2 at hent
    split at hent
    ·split at hent
     ·cases hs : self (rct, (Jn rct (pl + 2 + 12 * i + 8) 4 : Int), path ++ [(Jn rct (pl + 2 + 12 * i) 2 : Int)]) with
      | none => rw [hs] at hent; cases hent
      | some z => rw [hs, Jb] at hent; cases hent; rfl
     ·cases hent; rfl
    ·split at hent <;> (cases hent; rfl)
   have e2 : (Jn rc (pl + 2 + 12 * i) 2 : Int) = e.Tag := by
    unfold Jc2 at he
    split at he
    ·split at he
     ·cases hs : self (rc, (Jn rc (pl + 2 + 12 * i + 8) 4 : Int), path ++ [(Jn rc (pl + 2 + 12 * i) 2 : Int)]) with
      | none => rw [hs] at he; cases he
      | some z => rw [hs, Jb] at he; cases he; rfl
     ·cases he; rfl
    ·split at he <;> (cases he; rfl)
   rw [e2, ← hte, ← e1]; exact hh
  have ent := fun (rct : Tb) (R : Rel S T big rc rct) (hbt : rct.kaa.length ≤ Bt + (1 + i * (1 + cap d))) (hpw : new1.Pairwise apartP) => ent_T M G R (a1 := pl + 2 + 12 * i) hpl (by omega) (by omega) (by omega) hf he hno2 a5 hpw (ok3 e hel).2
  have tr : ∀ q, (path ++ q, a, en) ∈ trL (trD S big d) S big path pl i (e :: rest) → (q = [e.Tag] ∧ pl + 2 + 12 * i = a) ∨ (e.Value.kah = 13 ∧ ∃ u ts, q = e.Tag :: u :: ts ∧ ((path ++ [e.Tag]) ++ (u :: ts), a, en) ∈ trD S big d (path ++ [e.Tag]) (vS S big (pl + 2 + 12 * i + 8) 4) e.Value.kaf) ∨ ((path ++ q, a, en) ∈ trL (trD S big d) S big path pl (i + 1) rest ∧ ∃ t ts, q = t :: ts ∧ e.Tag ≠ t) := by
   intro q hq
   rw [Jh8] at hq
   rcases List.mem_append.1 hq with hq | hq
   ·unfold trE at hq
    rcases List.mem_cons.1 hq with hq | hq
    ·have h1 := congrArg (·.1) hq
     have h2 := congrArg (·.2.1) hq
     exact .inl ⟨List.append_cancel_left h1, h2.symm⟩
    ·split at hq
     ·rename_i h13
      obtain ⟨rs, c1, c2, c3⟩ := (trD_ok S big d (path ++ [e.Tag]) (vS S big (pl + 2 + 12 * i + 8) 4) e.Value.kaf ((ok3 e hel).2 h13)).1 _ hq
      have c2 : path ++ q = (path ++ [e.Tag]) ++ rs := c2
      have c4 : q = e.Tag :: rs := by rw [List.append_assoc] at c2; exact List.append_cancel_left c2
      cases rs with
      | nil => exact absurd rfl c1
      | cons u ts => exact .inr (.inl ⟨h13, u, ts, c4, by rw [← c2]; exact hq⟩)
     ·simp at hq
   ·obtain ⟨rs, c1, c2, c3⟩ := (trL_ok S big (trD_ok S big d) path pl rest (i + 1) (List.pairwise_cons.1 hris).2 fun x hx => (ok3 x (by rw [hb1]; simp [hx])).2).1 _ hq
    have c4 : q = rs := List.append_cancel_left c2
    subst c4
    cases q with
    | nil => exact absurd rfl c1
    | cons t ts =>
     obtain ⟨y, hy, hyt⟩ := Jh6 c3
     have := (List.pairwise_cons.1 hris).1 y hy
     exact .inr (.inr ⟨hq, t, ts, rfl, by omega⟩)
  refine ⟨e :: rest, new1 ++ new2, hb1, by rw [b2, a5, List.append_assoc], fun hpw q hq => ?_, fun hpw hD => ?_⟩
  ·obtain ⟨pw1, pw2, pw3⟩ := List.pairwise_append.1 hpw
   have ent0 := ent ⟨T, big, [], rc.kae, rc.kad, rc.kac, 0⟩ ⟨R.s, rfl, R.bg, rfl, rfl, rfl, rfl, R.no, rfl⟩ (Nat.zero_le _) pw1
   rcases tr q hq with ⟨_, ha⟩ | ⟨h13, u, ts, _, hm⟩ | ⟨hm, _⟩
   ·exact .inl ⟨i, Nat.le_refl _, by omega, ha.symm, fun h4 => List.mem_append_left _ ((ent0.2.1 ha).1 h4)⟩
   ·exact .inr (((ent0.2.2 h13 _ hm).1).mono fun x hx => List.mem_append_left _ hx)
   ·rcases b3 pw2 q hm with ⟨j, j1, j2, j3, j4⟩ | hc
    ·exact .inl ⟨j, by omega, j2, j3, fun h4 => List.mem_append_right _ (j4 h4)⟩
    ·exact .inr (hc.mono fun x hx => List.mem_append_right _ hx)
  ·obtain ⟨pw1, pw2, pw3⟩ := List.pairwise_append.1 hpw
   have hent := ent rct R hbt pw1
   have next : ∀ (e' : Ta) (rt1 : Tb), e'.Tag = e.Tag → Jc2 self rct (pl + 2 + 12 * i) path = some (e', rt1) → Rel S T big r2 rt1 →
     ((∀ x ∈ new2, Jbq a p0 n0 x) → (∀ j, i + 1 ≤ j → j < cnt → Jbq a p0 n0 ⟨((pl + 2 + 12 * j : Nat) : Int), ((pl + 2 + 12 * j + 12 : Nat) : Int)⟩) → ∃ rt', Wc self path pl nxt cnt i rct lt = some (lt ++ (e' :: rest), nx, rt') ∧ Rel S T big r' rt') ∧
     ∀ q, (path ++ q, a, en) ∈ trL (trD S big d) S big path pl (i + 1) rest → ∃ rt', Wc self path pl nxt cnt i rct lt = some (lt ++ (e' :: Vq rest q v), nx, rt') ∧ Rel S T big r' rt' := by
    intro e' rt1 hte h1 R1
    obtain ⟨g1, g2, g3⟩ := go rct lt ht R hbt e' rt1 hte h1 R1
    obtain ⟨rest', new2', c1, c2, _, c4⟩ := ih (i + 1) r2 rt1 (l ++ [e]) (lt ++ [e']) (by omega) (by simp; omega) g2 R1 hf2 hb2 g3 l' nx r' hd hno hok
    have c5 : rest' = rest := List.append_cancel_left (c1.symm.trans b1)
    have c6 : new2' = new2 := List.append_cancel_left (c2.symm.trans b2)
    subst c5 c6
    obtain ⟨d1, d2⟩ := c4 pw2 fun x hx => hD x (List.mem_append_right _ hx)
    rw [g1]
    refine ⟨fun ho hj => ?_, fun q hq => ?_⟩
    ·obtain ⟨rt', k1, k2⟩ := d1 ho hj
     exact ⟨rt', by rw [k1]; simp, k2⟩
    ·obtain ⟨rt', k1, k2⟩ := d2 q hq
     exact ⟨rt', by rw [k1]; simp, k2⟩
   refine ⟨fun hon hj => ?_, fun q hq => ?_⟩
   ·obtain ⟨rt1, k1, k2⟩ := hent.1 (hj i (Nat.le_refl _) (by omega)) fun x hx => hon x (List.mem_append_left _ hx)
    exact (next e rt1 rfl k1 k2).1 (fun x hx => hon x (List.mem_append_right _ hx)) fun j h1 h2 => hj j (by omega) h2
   ·rcases tr q hq with ⟨hqe, ha⟩ | ⟨h13, u, ts, hqe, hm⟩ | ⟨hm, t, ts, hqe, hne⟩
    ·obtain ⟨v1, v2⟩ := hent.2.1 ha
     have hV : 4 < n0 → apartP ⟨(pl : Int), ((pl + (2 + 12 * cnt + 4) : Nat) : Int)⟩ ⟨(p0 : Int), ((p0 + n0 : Nat) : Int)⟩ := fun h4 => hD _ (List.mem_append_left _ (v1 h4))
     obtain ⟨rt1, k1, k2⟩ := v2 fun h4 => by
      rcases hV h4 with h | h <;> simp only at h <;> omega
     have s1 : ∀ x ∈ new2, Jbq a p0 n0 x := fun x hx => by
      have hx1 := hD x (List.mem_append_right _ hx)
      refine ⟨?_, fun h4 => ?_⟩
      ·rcases hx1 with h | h <;> simp only at h <;> omega
      ·rcases pw3 _ (v1 h4) x hx with h | h <;> simp only at h <;> omega
     have s2 : ∀ j, i + 1 ≤ j → j < cnt → Jbq a p0 n0 ⟨((pl + 2 + 12 * j : Nat) : Int), ((pl + 2 + 12 * j + 12 : Nat) : Int)⟩ := fun j h1 h2 => by
      refine ⟨by simp only; omega, fun h4 => ?_⟩
      rcases hV h4 with h | h <;> simp only at h ⊢ <;> omega
     obtain ⟨rt', z1, z2⟩ := (next ⟨e.Tag, v⟩ rt1 rfl k1 k2).1 s1 s2
     refine ⟨rt', ?_, z2⟩
     rw [hqe, putD_head hris]; exact z1
    ·obtain ⟨v1, v2⟩ := hent.2.2 h13 _ hm
     have hDo : Jbq a p0 n0 ⟨(pl : Int), ((pl + (2 + 12 * cnt + 4) : Nat) : Int)⟩ := v1.off fun y hy => hD y (List.mem_append_left _ hy)
     obtain ⟨rt1, k1, k2⟩ := v2 (Jf2 hDo (by simp only; omega) (by simp only; omega))
     obtain ⟨rt', z1, z2⟩ := (next (withV e (Vq e.Value.kaf (u :: ts) v)) rt1 rfl k1 k2).1 (fun x hx => v1.off fun y hy => (pw3 y hy x hx).symm) fun j h1 h2 => Jf2 hDo (by simp only; omega) (by simp only; omega)
     refine ⟨rt', ?_, z2⟩
     rw [hqe, putD_head hris]; exact z1
    ·have hwin : Jbq a p0 n0 ⟨((pl + 2 + 12 * i : Nat) : Int), ((pl + 2 + 12 * i + 12 : Nat) : Int)⟩ ∧ ∀ x ∈ new1, Jbq a p0 n0 x := by
      rcases b3 pw2 q hm with ⟨j, j1, j2, j3, j4⟩ | hc
      ·refine ⟨⟨by simp only; omega, fun h4 => ?_⟩, fun x hx => ⟨?_, fun h4 => ?_⟩⟩
       ·rcases hD _ (List.mem_append_right _ (j4 h4)) with h | h <;> simp only at h ⊢ <;> omega
       ·rcases hD x (List.mem_append_left _ hx) with h | h <;> simp only at h <;> omega
       ·rcases pw3 x hx _ (j4 h4) with h | h <;> simp only at h <;> omega
      ·exact ⟨Jf2 (hc.off (x := ⟨(pl : Int), ((pl + (2 + 12 * cnt + 4) : Nat) : Int)⟩) fun y hy => hD y (List.mem_append_right _ hy)) (by simp only; omega) (by simp only; omega), fun x hx => hc.off fun y hy => pw3 x hx y hy⟩
     obtain ⟨rt1, k1, k2⟩ := hent.1 hwin.1 hwin.2
     obtain ⟨rt', z1, z2⟩ := (next e rt1 rfl k1 k2).2 q hm
     refine ⟨rt', ?_, z2⟩
     rw [hqe, putD_tail hne, ← hqe]; exact z1
end
end Go.M
