/- TopCarried, pictures: the walks, printed by our generator; each follows its model. Conditions: the model yields a value. -/
import Derived.Test.YtdcppgplkfkjiaaGreatDoorKUa
import Derived.Test.YtdcppgplkfkjiaaGreatDoorLx2
import Derived.Test.YtdcppgplkfkjiaaGreatDoorMd
namespace Go.Proofs.YtdcppgplkfkjiaaGreatDoor
open Go Go.Vc Go.Md Go.M Go.Lx Tryz
set_option maxRecDepth 100000
set_option maxHeartbeats 4000000
set_option linter.unusedVariables false
theorem k53 {a0 : Int} {r : Bool} (H : tag_isKind a0 = some r) : Ret prog 53 [i6 a0] (.bool r) := by
 refine Xr (n := 14) func53 rfl rfl rfl (fun wd => ?_)
 refine Jc<|Ja<|ag (.bool false)<|Jd<|Jc<|Ja<|mv (i6 a0)<|?_
 obtain ⟨t4, h_t4, H6⟩ := Je H; clear H
 refine Xy (k16 h_t4) call16 rfl rfl rfl<|lv (Uu rfl)<|mv (.bool (!t4))<|?_
 revert H6
 refine sp (fun hb H7=>?_) fun hb H10=>?_
 ·refine mv (i6 a0)<|lv (Yo rfl rfl)<|pT (.bool (decide (a0 ≠ 216)))<|mv (.bool (decide (a0 ≠ 216)))<|?_
  revert H7
  refine sp (fun hb H8=>?_) fun hb H9=>?_
  ·refine mv (i6 a0)<|lv (Yo rfl rfl)<|pT (.bool (decide (a0 ≠ 217)))<|ag (.bool (decide (a0 ≠ 217)))<|Jd<|Jh<|?_
   obtain rfl := sj H8
   exact r1 (.bool (decide (a0 ≠ 217)))
  ·refine pa<|pa<|pF (.bool false)<|ag (.bool false)<|Jd<|Jh<|?_
   obtain rfl := sj H9
   exact r1 (.bool false)
 ·refine pa<|pa<|pF (.bool false)<|mv (.bool false)<|pa<|pa<|pF (.bool false)<|ag (.bool false)<|Jd<|Jh<|?_
  obtain rfl := sj H10
  exact r1 (.bool false)
theorem k54 {a : Option Addr} {n c : Nat} (hc : n ≤ c) : Ret prog 54 [.slice a n c] (.slice (Q7 a 0 n 2) n n) := by
  refine Xr (n := 9) func54 rfl rfl rfl (fun wd => ?_)
  refine Jc<|Ja<|ag (.slice none 0 0)<|Jd<|Jc<|Ja<|mv (.slice a n c)<|mv (.slice a n c)<|lv (Uf underlying67 rfl)<|mv (.slice a n c)<|lv (Uf underlying67 rfl)<|lv (r_sliceHM (a := a) (m := n) (c := c) (h := (n : Int)) (q := (n : Int)) underlying67 sizeOf72 rfl rfl rfl (Int.natCast_nonneg n) (Int.le_refl _) (Int.ofNat_le.2 hc))<|ag (.slice (Q7 a 0 n 2) n n)<|Jd<|Jh<|?_
  exact ret1 (v := .slice (Q7 a 0 n 2) n n) rfl rfl (fin rfl)
theorem k25 {a0 : (List UInt8)} {r : (List T_tag_Segment) × Int} {w : World} {h : Jo} (hw : Know h w Y2) (H : Wp a0 = some r) : Does prog 25 (List.toArray [str a0]) w (fun v w' => ∃ x : (Option Addr × Nat), v = (.tuple #[sl x r.1.length, i6 r.2]) ∧ Turn w w' Y2 (rofD true 72 2 g_tag_Segment (sl x r.1.length) r.1.length r.1)) := by
 refine enter (n := 98) func25 rfl rfl rfl Y2 [] (Sat.nil _ _)<|Zp X1<|Jc<|Ja<|ag (.slice none 0 0)<|ag (i6 0)<|Jd<|Jc<|Jc<|Ja<|mv (str a0)<|lv (Vn underlying9 rfl)<|lv (Vz rfl rfl)<|Jd<|?_
 revert H
 refine ci (decide (200000 < (a0.length : Int))) rfl (fun hb H105=>?_) fun hb H106=>?_
 ·refine Jc<|Ja<|ag (.slice none 0 0)<|ag (i6 4)<|Jd<|Jh<|J5 72 2<|?_
  obtain rfl := sj H105
  refine Qn 1 rfl (Zg _ _ _ _ _)<|bo 0 1 rfl rfl<|Qn 0 rfl (Wf (k := true) (p := nn) rfl (fun _ => rfl) (AllC.nil (G := g_tag_Segment) (h := X1) (sz := 2)))<|?_
  refine Z2 (v1 := sl nn (([] : List (List Value)).length)) (v2 := i6 4) rfl rfl rfl (Yy nn (i := 0) rfl (by first | rfl | rw [(show (([] : List (List Value)).length) = ([] : List T_tag_Segment).length from (AllC.nil (G := g_tag_Segment) (h := X1) (sz := 2)).len)]) (by first | exact Imp.refl _ | exact Imp.of (by rw [(show (([] : List (List Value)).length) = ([] : List T_tag_Segment).length from (AllC.nil (G := g_tag_Segment) (h := X1) (sz := 2)).len)] <;> rfl)))
 ·refine Ji<|Jc<|Jc<|Ja<|mv (str a0)<|lv (Vn underlying9 rfl)<|lv (Yc rfl rfl)<|mv (.bool (decide ((a0.length : Int) < 2)))<|?_
  revert H106
  refine sp (fun hb H107=>?_) fun hb H108=>?_
  ·refine pa<|pa<|pa<|pT (.bool true)<|Jd<|Ws rfl<|Jc<|Ja<|ag (.slice none 0 0)<|ag (i6 8)<|Jd<|Jh<|J5 72 2<|?_
   obtain rfl := sj H107
   refine Qn 1 rfl (Zg _ _ _ _ _)<|bo 0 1 rfl rfl<|Qn 0 rfl (Wf (k := true) (p := nn) rfl (fun _ => rfl) (AllC.nil (G := g_tag_Segment) (h := X1) (sz := 2)))<|?_
   refine Z2 (v1 := sl nn (([] : List (List Value)).length)) (v2 := i6 8) rfl rfl rfl (Yy nn (i := 0) rfl (by first | rfl | rw [(show (([] : List (List Value)).length) = ([] : List T_tag_Segment).length from (AllC.nil (G := g_tag_Segment) (h := X1) (sz := 2)).len)]) (by first | exact Imp.refl _ | exact Imp.of (by rw [(show (([] : List (List Value)).length) = ([] : List T_tag_Segment).length from (AllC.nil (G := g_tag_Segment) (h := X1) (sz := 2)).len)] <;> rfl)))
  ·refine mv (str a0) ?_
   obtain ⟨t15, h_t15, H109⟩ := Je H108; clear H108
   refine lv (r_cutToG underlying9 rfl rfl h_t15)<|lv (r_neqT rfl rfl)<|pF (.bool (decide (t15 ≠ [255, 216])))<|Jd<|?_
   revert H109
   refine ci (decide (t15 ≠ [255, 216])) rfl (fun hb H110=>?_) fun hb H111=>?_
   ·refine Jc<|Ja<|ag (.slice none 0 0)<|ag (i6 8)<|Jd<|Jh<|J5 72 2<|?_
    obtain rfl := sj H110
    refine Qn 1 rfl (Zg _ _ _ _ _)<|bo 0 1 rfl rfl<|Qn 0 rfl (Wf (k := true) (p := nn) rfl (fun _ => rfl) (AllC.nil (G := g_tag_Segment) (h := X1) (sz := 2)))<|?_
    refine Z2 (v1 := sl nn (([] : List (List Value)).length)) (v2 := i6 8) rfl rfl rfl (Yy nn (i := 0) rfl (by first | rfl | rw [(show (([] : List (List Value)).length) = ([] : List T_tag_Segment).length from (AllC.nil (G := g_tag_Segment) (h := X1) (sz := 2)).len)]) (by first | exact Imp.refl _ | exact Imp.of (by rw [(show (([] : List (List Value)).length) = ([] : List T_tag_Segment).length from (AllC.nil (G := g_tag_Segment) (h := X1) (sz := 2)).len)] <;> rfl)))
   ·refine Ji<|Jc<|Ja<|ag (.slice none 0 0)<|Jd<|?_
    refine Q3 (r := r) (σ := (List UInt8) × (List T_tag_Segment)) (τ := (List (List Value)) × (Option Addr × Nat)) (fun s => tag_Segments_j1 s.1 s.2) (fun s t => [(0, str s.1), (4, .slice t.2.1 t.1.length t.2.2)]) (fun s t => [Xm X1 X1, Js 72 2 (.slice t.2.1 t.1.length t.2.2) t.1.length (t.1.map idC)]) (fun s t => AllC g_tag_Segment X1 2 t.1 s.2) ?_ ?_
    ·refine Jc<|Ja<|mv (str a0)<|?_
     obtain ⟨t19, h_t19, H124⟩ := Je H111; clear H111
     refine lv (r_cutFromG underlying9 rfl rfl h_t19)<|ag (str t19)<|Jd<|Jx<|J5 72 2<|?_
     refine Zn (σ := (List UInt8) × (List T_tag_Segment)) (τ := (List (List Value)) × (Option Addr × Nat)) (fun next2 s => Qh next2 s.1 s.2) (fun s t => [(0, str s.1), (4, .slice t.2.1 t.1.length t.2.2)]) (fun s t => [Xm X1 X1, Js 72 2 (.slice t.2.1 t.1.length t.2.2) t.1.length (t.1.map idC)]) (fun s t => AllC g_tag_Segment X1 2 t.1 s.2) (t19, ([] : List T_tag_Segment)) (([] : List (List Value)), nn) [0, 1] H124 (by exact (AllC.nil (G := g_tag_Segment) (h := X1) (sz := 2))) (by exact ⟨rfl, rfl, trivial⟩) (by decide) rfl ?_
     rintro ⟨x0_3, l_3⟩ ⟨css_2, p_3⟩ m2 gg H125 pf_4
     clear H124
     try dsimp only at H125
     generalize hn2 : it (fun next2 s => Qh next2 s.1 s.2) m2 = next2 at H125
     try dsimp only
     refine Jx<|Jc<|Jc<|Ja<|mv (str x0_3)<|lv (Vn underlying9 rfl)<|lv (Yc rfl rfl)<|mv (.bool (decide ((x0_3.length : Int) < 2)))<|?_
     revert H125
     refine sp (fun hb H126=>?_) fun hb H127=>?_
     ·refine pa<|pa<|pa<|pT (.bool true)<|mv (.bool true)<|pa<|pa<|pa<|pa<|pa<|pT (.bool true)<|Jd<|Ws rfl<|Jc<|Ja<|ag (.slice none 0 0)<|ag (i6 8)<|Jd<|Jh<|J5 72 2<|?_
      obtain rfl := sj H126
      refine Qn 2 rfl (Zg _ _ _ _ _)<|bo 0 2 rfl rfl<|Qn 0 rfl (Wf (k := true) (p := nn) rfl (fun _ => rfl) (AllC.nil (G := g_tag_Segment) (h := X1) (sz := 2)))<|?_
      refine Z2 (v1 := sl nn (([] : List (List Value)).length)) (v2 := i6 8) rfl rfl rfl (Yy nn (i := 0) rfl (by first | rfl | rw [(show (([] : List (List Value)).length) = ([] : List T_tag_Segment).length from (AllC.nil (G := g_tag_Segment) (h := X1) (sz := 2)).len)]) (by first | exact Imp.refl _ | exact Imp.of (by rw [(show (([] : List (List Value)).length) = ([] : List T_tag_Segment).length from (AllC.nil (G := g_tag_Segment) (h := X1) (sz := 2)).len)] <;> rfl)))
     ·refine mv (str x0_3) ?_
      obtain ⟨t25, h_t25, H128⟩ := Je H127; clear H127
      refine lv (r_octG underlying9 rfl rfl h_t25)<|lv (Yo rfl rfl)<|pF (.bool (decide (t25 ≠ 255)))<|mv (.bool (decide (t25 ≠ 255)))<|?_
      revert H128
      refine sp (fun hb H129=>?_) fun hb H130=>?_
      ·refine pa<|pa<|pa<|pa<|pa<|pT (.bool true)<|Jd<|Ws rfl<|Jc<|Ja<|ag (.slice none 0 0)<|ag (i6 8)<|Jd<|Jh<|J5 72 2<|?_
       obtain rfl := sj H129
       refine Qn 2 rfl (Zg _ _ _ _ _)<|bo 0 2 rfl rfl<|Qn 0 rfl (Wf (k := true) (p := nn) rfl (fun _ => rfl) (AllC.nil (G := g_tag_Segment) (h := X1) (sz := 2)))<|?_
       refine Z2 (v1 := sl nn (([] : List (List Value)).length)) (v2 := i6 8) rfl rfl rfl (Yy nn (i := 0) rfl (by first | rfl | rw [(show (([] : List (List Value)).length) = ([] : List T_tag_Segment).length from (AllC.nil (G := g_tag_Segment) (h := X1) (sz := 2)).len)]) (by first | exact Imp.refl _ | exact Imp.of (by rw [(show (([] : List (List Value)).length) = ([] : List T_tag_Segment).length from (AllC.nil (G := g_tag_Segment) (h := X1) (sz := 2)).len)] <;> rfl)))
      ·refine mv (str x0_3) ?_
       obtain ⟨t30, h_t30, H131⟩ := Je H130; clear H130
       refine lv (r_octG underlying9 rfl rfl h_t30) ?_
       obtain ⟨t31, h_t31, H132⟩ := Je H131; clear H131
       refine lv (W9 runUnderlying5 runUnderlying3 rfl (gK_i64 h_t31)) ?_
       obtain ⟨t32, h_t32, H133⟩ := Je H132; clear H132
       refine Xy (k53 h_t32) call53 rfl rfl rfl<|lv (Uu rfl)<|pF (.bool (!t32))<|Jd<|?_
       revert H133
       refine ci (!t32) rfl (fun hb H134=>?_) fun hb H135=>?_
       ·refine Jc<|Ja<|ag (.slice none 0 0)<|ag (i6 8)<|Jd<|Jh<|J5 72 2<|?_
        obtain rfl := sj H134
        refine Qn 2 rfl (Zg _ _ _ _ _)<|bo 0 2 rfl rfl<|Qn 0 rfl (Wf (k := true) (p := nn) rfl (fun _ => rfl) (AllC.nil (G := g_tag_Segment) (h := X1) (sz := 2)))<|?_
        refine Z2 (v1 := sl nn (([] : List (List Value)).length)) (v2 := i6 8) rfl rfl rfl (Yy nn (i := 0) rfl (by first | rfl | rw [(show (([] : List (List Value)).length) = ([] : List T_tag_Segment).length from (AllC.nil (G := g_tag_Segment) (h := X1) (sz := 2)).len)]) (by first | exact Imp.refl _ | exact Imp.of (by rw [(show (([] : List (List Value)).length) = ([] : List T_tag_Segment).length from (AllC.nil (G := g_tag_Segment) (h := X1) (sz := 2)).len)] <;> rfl)))
       ·refine Ji<|Jc<|Ja<|mv (str x0_3)<|?_
        obtain ⟨t36, h_t36, H136⟩ := Je H135; clear H135
        refine lv (r_octG underlying9 rfl rfl h_t36) ?_
        obtain ⟨t37, h_t37, H137⟩ := Je H136; clear H136
        refine lv (W9 runUnderlying5 runUnderlying3 rfl (gK_i64 h_t37))<|ag (i6 t37)<|Jd<|Jc<|Jc<|Ja<|mv (i6 t37)<|lv (Xg rfl rfl)<|Jd<|?_
        revert H137
        refine ci (decide (t37 = 218)) rfl (fun hb H138=>?_) fun hb H139=>?_
        ·refine Xx ?_
         exact cl (x0_3, l_3) (css_2, p_3) 0 [0, 1] (by exact ⟨H138, pf_4⟩)
        ·refine Ji<|Jc<|Jc<|Ja<|mv (str x0_3)<|lv (Vn underlying9 rfl)<|lv (Yc rfl rfl)<|Jd<|?_
         revert H139
         refine ci (decide ((x0_3.length : Int) < 4)) rfl (fun hb H140=>?_) fun hb H141=>?_
         ·refine Jc<|Ja<|ag (.slice none 0 0)<|ag (i6 8)<|Jd<|Jh<|J5 72 2<|?_
          obtain rfl := sj H140
          refine Qn 2 rfl (Zg _ _ _ _ _)<|bo 0 2 rfl rfl<|Qn 0 rfl (Wf (k := true) (p := nn) rfl (fun _ => rfl) (AllC.nil (G := g_tag_Segment) (h := X1) (sz := 2)))<|?_
          refine Z2 (v1 := sl nn (([] : List (List Value)).length)) (v2 := i6 8) rfl rfl rfl (Yy nn (i := 0) rfl (by first | rfl | rw [(show (([] : List (List Value)).length) = ([] : List T_tag_Segment).length from (AllC.nil (G := g_tag_Segment) (h := X1) (sz := 2)).len)]) (by first | exact Imp.refl _ | exact Imp.of (by rw [(show (([] : List (List Value)).length) = ([] : List T_tag_Segment).length from (AllC.nil (G := g_tag_Segment) (h := X1) (sz := 2)).len)] <;> rfl)))
         ·refine Ji<|Jc<|?_
          exact Qi (Kd.p :: Kd.p :: Kd.p :: Kd.p :: Kd.p :: Kd.p :: Kd.p :: Kd.p :: Kd.p :: []) 0 mixed (by
           refine dm (str x0_3) ?_
           have h_t44 := J0 H141
           have H142 := Ju H141
           refine dv (r_octG underlying9 rfl rfl h_t44) ?_
           have h_t45 := J0 H142
           have H143 := Ju H142
           refine dv (W9 runUnderlying5 runUnderlying3 rfl (gK_i64 h_t45)) ?_
           have h_t46 := J0 H143
           have H144 := Ju H143
           refine dv (r_shlG rfl rfl h_t46)<|dm (str x0_3)<|?_
           have h_t48 := J0 H144
           have H145 := Ju H144
           refine dv (r_octG underlying9 rfl rfl h_t48) ?_
           have h_t49 := J0 H145
           have H146 := Ju H145
           refine dv (W9 runUnderlying5 runUnderlying3 rfl (gK_i64 h_t49))<|dv (r_bitsOr (bits := 64) rfl rfl rfl (wr_i64 _))<|Qq rfl rfl (Jw (v := i6 (V0 (bOr 64 (val (gShl (val (gK (-9223372036854775808) 9223372036854775807 (val (Ue x0_3 2)))) 8)) (val (gK (-9223372036854775808) 9223372036854775807 (val (Ue x0_3 3))))))) rfl)<|Y8<|Jc<|Jc<|Ja<|mv (i6 (V0 (bOr 64 (val (gShl (val (gK (-9223372036854775808) 9223372036854775807 (val (Ue x0_3 2)))) 8)) (val (gK (-9223372036854775808) 9223372036854775807 (val (Ue x0_3 3)))))))<|lv (Yc rfl rfl)<|mv (.bool (decide ((V0 (bOr 64 (val (gShl (val (gK (-9223372036854775808) 9223372036854775807 (val (Ue x0_3 2)))) 8)) (val (gK (-9223372036854775808) 9223372036854775807 (val (Ue x0_3 3)))))) < 2)))<|?_
           revert H146
           refine sp (fun hb H147=>?_) fun hb H148=>?_
           ·refine pa<|pa<|pa<|pa<|pa<|pT (.bool true)<|Jd<|Ws rfl<|Jc<|Ja<|ag (.slice none 0 0)<|ag (i6 8)<|Jd<|Jh<|J5 72 2<|?_
            obtain rfl := sj H147
            refine Qn 2 rfl (Zg _ _ _ _ _)<|bo 0 2 rfl rfl<|Qn 0 rfl (Wf (k := true) (p := nn) rfl (fun _ => rfl) (AllC.nil (G := g_tag_Segment) (h := X1) (sz := 2)))<|?_
            refine Z2 (v1 := sl nn (([] : List (List Value)).length)) (v2 := i6 8) rfl rfl rfl (Yy nn (i := 0) rfl (by first | rfl | rw [(show (([] : List (List Value)).length) = ([] : List T_tag_Segment).length from (AllC.nil (G := g_tag_Segment) (h := X1) (sz := 2)).len)]) (by first | exact Imp.refl _ | exact Imp.of (by rw [(show (([] : List (List Value)).length) = ([] : List T_tag_Segment).length from (AllC.nil (G := g_tag_Segment) (h := X1) (sz := 2)).len)] <;> rfl)))
           ·refine mv (i6 (V0 (bOr 64 (val (gShl (val (gK (-9223372036854775808) 9223372036854775807 (val (Ue x0_3 2)))) 8)) (val (gK (-9223372036854775808) 9223372036854775807 (val (Ue x0_3 3)))))))<|mv (str x0_3)<|lv (Vn underlying9 rfl)<|?_
            obtain ⟨t57, h_t57, H149⟩ := Je H148; clear H148
            refine lv (Vh rfl rfl h_t57)<|lv (Vz rfl rfl)<|pF (.bool (decide (t57 < (V0 (bOr 64 (val (gShl (val (gK (-9223372036854775808) 9223372036854775807 (val (Ue x0_3 2)))) 8)) (val (gK (-9223372036854775808) 9223372036854775807 (val (Ue x0_3 3)))))))))<|Jd<|?_
            revert H149
            refine ci (decide (t57 < (V0 (bOr 64 (val (gShl (val (gK (-9223372036854775808) 9223372036854775807 (val (Ue x0_3 2)))) 8)) (val (gK (-9223372036854775808) 9223372036854775807 (val (Ue x0_3 3)))))))) rfl (fun hb H150=>?_) fun hb H151=>?_
            ·refine Jc<|Ja<|ag (.slice none 0 0)<|ag (i6 8)<|Jd<|Jh<|J5 72 2<|?_
             obtain rfl := sj H150
             refine Qn 2 rfl (Zg _ _ _ _ _)<|bo 0 2 rfl rfl<|Qn 0 rfl (Wf (k := true) (p := nn) rfl (fun _ => rfl) (AllC.nil (G := g_tag_Segment) (h := X1) (sz := 2)))<|?_
             refine Z2 (v1 := sl nn (([] : List (List Value)).length)) (v2 := i6 8) rfl rfl rfl (Yy nn (i := 0) rfl (by first | rfl | rw [(show (([] : List (List Value)).length) = ([] : List T_tag_Segment).length from (AllC.nil (G := g_tag_Segment) (h := X1) (sz := 2)).len)]) (by first | exact Imp.refl _ | exact Imp.of (by rw [(show (([] : List (List Value)).length) = ([] : List T_tag_Segment).length from (AllC.nil (G := g_tag_Segment) (h := X1) (sz := 2)).len)] <;> rfl)))
            ·refine Ji<|Jc<|Ja<|mv (sl p_3 css_2.length)<|mv (i6 t37)<|mv (str x0_3)<|mv (i6 (V0 (bOr 64 (val (gShl (val (gK (-9223372036854775808) 9223372036854775807 (val (Ue x0_3 2)))) 8)) (val (gK (-9223372036854775808) 9223372036854775807 (val (Ue x0_3 3)))))))<|?_
             obtain ⟨t64, h_t64, H152⟩ := Je H151; clear H151
             refine lv (J1 rfl rfl h_t64) ?_
             obtain ⟨t65, h_t65, H153⟩ := Je H152; clear H152
             refine lv (r_cutTG underlying9 rfl rfl rfl h_t65)<|lv (Q6 (pl := #[(0, 1), (1, 1)]) (ps := [(0, i6 t37), (1, str t65)]) (cells := #[i6 t37, str t65]) zeroValue72 runUnderlying72 (fun w => by kernel_rfl) rfl rfl)<|?_
             refine J9 (vs := [.agg #[i6 t37, str t65]]) (cs := [i6 t37, str t65]) underlying67 sizeOf72 zeroValue72 rfl rfl rfl rfl rfl rfl rfl (fun b5 => ?_)
             obtain ⟨l68, h_l68, H154⟩ := Je H153; clear H153
             refine Qk (Jaw (i := 1) (k := 2) (p := p_3) (f := idC) (ys := css_2) (ls := [[i6 t37, str t65]]) underlying67 (Qp typeInfo72) rfl rfl rfl rfl rfl rfl rfl rfl rfl rfl rfl rfl rfl rfl rfl (app63 (pf_4.app h_l68 (nc := [[i6 t37, str t65]]) rfl)) rfl) rfl rfl rfl (fun p_4 => ?_)
             have pf_5 : AllC g_tag_Segment X1 2 (css_2 ++ [[i6 t37, str t65]]) l68 := AllC.snocG pf_4 h_l68 rfl (⟨rfl, rfl⟩)
             refine ag (sl p_4 ((css_2 ++ [[i6 t37, str t65]]).length))<|Jd<|?_
             try dsimp only [z1, z2, z5, z6, z7, z8]
             refine Ja<|mv (str x0_3)<|mv (i6 (V0 (bOr 64 (val (gShl (val (gK (-9223372036854775808) 9223372036854775807 (val (Ue x0_3 2)))) 8)) (val (gK (-9223372036854775808) 9223372036854775807 (val (Ue x0_3 3)))))))<|?_
             obtain ⟨t71, h_t71, H155⟩ := Je H154; clear H154
             refine lv (J1 rfl rfl h_t71) ?_
             obtain ⟨t72, h_t72, H156⟩ := Je H155; clear H155
             refine lv (r_cutFromG underlying9 rfl rfl h_t72)<|ag (str t72)<|Jd<|?_
             try dsimp only [z1, z2, z5, z6, z7, z8]
             exact cl (t72, l68) ((css_2 ++ [[i6 t37, str t65]]), p_4) m2 [0, 1] (by exact ⟨(by subst hn2; exact H156), pf_5⟩)
           ) (by kernel_rfl)
    ·rintro ⟨x0, l⟩ ⟨css, p⟩ gg H112 pf
     try dsimp only at H112
     try dsimp only
     refine Jc<|Jc<|Ja<|mv (str x0)<|lv (Vn underlying9 rfl)<|lv (Yc rfl rfl)<|mv (.bool (decide ((x0.length : Int) < 4)))<|?_
     revert H112
     refine sp (fun hb H113=>?_) fun hb H114=>?_
     ·refine pa<|pa<|pa<|pa<|pa<|pa<|pT (.bool true)<|Jd<|Ws rfl<|Jc<|Ja<|ag (.slice none 0 0)<|ag (i6 8)<|Jd<|Jh<|J5 72 2<|?_
      obtain rfl := sj H113
      refine Qn 2 rfl (Zg _ _ _ _ _)<|bo 0 2 rfl rfl<|Qn 0 rfl (Wf (k := true) (p := nn) rfl (fun _ => rfl) (AllC.nil (G := g_tag_Segment) (h := X1) (sz := 2)))<|?_
      refine Z2 (v1 := sl nn (([] : List (List Value)).length)) (v2 := i6 8) rfl rfl rfl (Yy nn (i := 0) rfl (by first | rfl | rw [(show (([] : List (List Value)).length) = ([] : List T_tag_Segment).length from (AllC.nil (G := g_tag_Segment) (h := X1) (sz := 2)).len)]) (by first | exact Imp.refl _ | exact Imp.of (by rw [(show (([] : List (List Value)).length) = ([] : List T_tag_Segment).length from (AllC.nil (G := g_tag_Segment) (h := X1) (sz := 2)).len)] <;> rfl)))
     ·refine mv (str x0)<|mv (str x0)<|lv (Vn underlying9 rfl)<|?_
      obtain ⟨t80, h_t80, H115⟩ := Je H114; clear H114
      refine lv (Vh rfl rfl h_t80) ?_
      obtain ⟨t81, h_t81, H116⟩ := Je H115; clear H115
      refine lv (r_cutFromG underlying9 rfl rfl h_t81)<|lv (r_neqT rfl rfl)<|pF (.bool (decide (t81 ≠ [255, 217])))<|Jd<|?_
      revert H116
      refine ci (decide (t81 ≠ [255, 217])) rfl (fun hb H117=>?_) fun hb H118=>?_
      ·refine Jc<|Ja<|ag (.slice none 0 0)<|ag (i6 8)<|Jd<|Jh<|J5 72 2<|?_
       obtain rfl := sj H117
       refine Qn 2 rfl (Zg _ _ _ _ _)<|bo 0 2 rfl rfl<|Qn 0 rfl (Wf (k := true) (p := nn) rfl (fun _ => rfl) (AllC.nil (G := g_tag_Segment) (h := X1) (sz := 2)))<|?_
       refine Z2 (v1 := sl nn (([] : List (List Value)).length)) (v2 := i6 8) rfl rfl rfl (Yy nn (i := 0) rfl (by first | rfl | rw [(show (([] : List (List Value)).length) = ([] : List T_tag_Segment).length from (AllC.nil (G := g_tag_Segment) (h := X1) (sz := 2)).len)]) (by first | exact Imp.refl _ | exact Imp.of (by rw [(show (([] : List (List Value)).length) = ([] : List T_tag_Segment).length from (AllC.nil (G := g_tag_Segment) (h := X1) (sz := 2)).len)] <;> rfl)))
      ·refine Ji<|Jc<|Ja<|mv (sl p css.length)<|mv (str x0)<|mv (str x0)<|lv (Vn underlying9 rfl)<|?_
       obtain ⟨t88, h_t88, H119⟩ := Je H118; clear H118
       refine lv (Vh rfl rfl h_t88) ?_
       obtain ⟨t89, h_t89, H120⟩ := Je H119; clear H119
       refine lv (r_cutTG underlying9 rfl rfl rfl h_t89)<|lv (Q6 (pl := #[(0, 1), (1, 1)]) (ps := [(0, i6 218), (1, str t89)]) (cells := #[i6 218, str t89]) zeroValue72 runUnderlying72 (fun w => by kernel_rfl) rfl rfl)<|?_
       refine J9 (vs := [.agg #[i6 218, str t89]]) (cs := [i6 218, str t89]) underlying67 sizeOf72 zeroValue72 rfl rfl rfl rfl rfl rfl rfl (fun b4 => ?_)
       obtain ⟨l92, h_l92, H121⟩ := Je H120; clear H120
       refine Qk (Jaw (i := 1) (k := 2) (p := p) (f := idC) (ys := css) (ls := [[i6 218, str t89]]) underlying67 (Qp typeInfo72) rfl rfl rfl rfl rfl rfl rfl rfl rfl rfl rfl rfl rfl rfl rfl (app63 (pf.app h_l92 (nc := [[i6 218, str t89]]) rfl)) rfl) rfl rfl rfl (fun p_2 => ?_)
       have pf_2 : AllC g_tag_Segment X1 2 (css ++ [[i6 218, str t89]]) l92 := AllC.snocG pf h_l92 rfl (⟨rfl, rfl⟩)
       refine ag (sl p_2 ((css ++ [[i6 218, str t89]]).length))<|Jd<|?_
       try dsimp only [z1, z2, z5, z6, z7, z8]
       refine Jc<|Jc<|Ja<|mv (sl p_2 ((css ++ [[i6 218, str t89]]).length))<|lv (r_lenN underlying67 rfl pf_2.len)<|lv (Vz rfl rfl)<|Jd<|?_
       try dsimp only [z1, z2, z5, z6, z7, z8]
       revert H121
       refine ci (decide (200 < (l92.length : Int))) rfl (fun hb H122=>?_) fun hb H123=>?_
       ·refine Jc<|Ja<|ag (.slice none 0 0)<|ag (i6 4)<|Jd<|?_
        try dsimp only [z1, z2, z5, z6, z7, z8]
        refine Jh<|J5 72 2<|?_
        obtain rfl := sj H122
        refine Qn 3 rfl (Zg _ _ _ _ _)<|bo 0 3 rfl rfl<|Qn 0 rfl (Wf (k := true) (p := nn) rfl (fun _ => rfl) (AllC.nil (G := g_tag_Segment) (h := X1) (sz := 2)))<|?_
        refine Z2 (v1 := sl nn (([] : List (List Value)).length)) (v2 := i6 4) rfl rfl rfl (Yy nn (i := 0) rfl (by first | rfl | rw [(show (([] : List (List Value)).length) = ([] : List T_tag_Segment).length from (AllC.nil (G := g_tag_Segment) (h := X1) (sz := 2)).len)]) (by first | exact Imp.refl _ | exact Imp.of (by rw [(show (([] : List (List Value)).length) = ([] : List T_tag_Segment).length from (AllC.nil (G := g_tag_Segment) (h := X1) (sz := 2)).len)] <;> rfl)))
       ·refine Ji<|Jc<|Ja<|mv (sl p_2 ((css ++ [[i6 218, str t89]]).length))<|Qo (fun w hF hS => k54 (capOf (i := 1) hS rfl) w) call54 rfl rfl rfl<|ag (.slice (Q7 p_2.1 0 ((css ++ [[i6 218, str t89]]).length) 2) ((css ++ [[i6 218, str t89]]).length) ((css ++ [[i6 218, str t89]]).length))<|ag (i6 0)<|Jd<|?_
        try dsimp only [z1, z2, z5, z6, z7, z8]
        refine Jh ?_
        obtain rfl := sj H123
        refine Qn 1 rfl (imp_clipR _ _ _ _ _ _)<|bo 0 1 rfl rfl<|Qn 0 rfl (Wf (k := true) (p := (Q7 p_2.1 0 ((css ++ [[i6 218, str t89]]).length) 2, ((css ++ [[i6 218, str t89]]).length))) rfl (fun _ => rfl) pf_2)<|?_
        refine Z2 (v1 := .slice (Q7 p_2.1 0 ((css ++ [[i6 218, str t89]]).length) 2) ((css ++ [[i6 218, str t89]]).length) ((css ++ [[i6 218, str t89]]).length)) (v2 := i6 0) rfl rfl rfl (Yy (Q7 p_2.1 0 ((css ++ [[i6 218, str t89]]).length) 2, ((css ++ [[i6 218, str t89]]).length)) (i := 0) rfl (by first | rfl | rw [(show ((css ++ [[i6 218, str t89]]).length) = l92.length from pf_2.len)]) (by first | exact Imp.refl _ | exact Imp.of (by rw [(show ((css ++ [[i6 218, str t89]]).length) = l92.length from pf_2.len)] <;> rfl)))
theorem k58 {a0 : (List T_tag_Segment)} {v0 : Value} {a1 : (T_tag_Segment → Option (Bool))} {v1 : Value} {r : Int} {w : World} {h : Jo} (hw : Know h w Y2) (f0 : FrN h 2 v0 g_tag_Segment a0) (f1 : FnH prog h v1 (Ut a1)) (H : Zs a0 a1 = some r) : Does prog 58 (List.toArray [v0, v1]) w (fun v w' => v = (i6 r) ∧ Grow w w') := by
 refine enter (n := 19) func58 rfl rfl rfl Y2 [] (Sat.nil _ _)<|Jc<|Ja<|ag (i6 0)<|Jd<|Jc<|Jc<|Ja<|mv v0<|lv (Yv underlying67 rfl f0)<|mv (i6 0)<|Jd<|Jx<|?_
 refine Zn (σ := Int) (τ := Unit) (fun next1 s => J8 a0 a1 next1 s) (fun s t => [(0, v0), (1, v1), (7, i6 (a0.length : Int)), (8, i6 s)]) (fun s t => []) (fun s t => True) 0 () [] H (by exact trivial) (by exact ⟨rfl, rfl, rfl, rfl, trivial⟩) (by decide) rfl ?_
 rintro x8_2 _ m1 gg H9 _
 clear H
 try dsimp only at H9
 generalize hn1 : it (fun next1 s => J8 a0 a1 next1 s) m1 = next1 at H9
 try dsimp only
 refine Jc<|Ja<|lv (Yc rfl rfl)<|Jd<|Jc<|?_
 revert H9
 refine ci (decide (x8_2 < (a0.length : Int))) rfl (fun hb H10=>?_) fun hb H16=>?_
 ·refine Ji<|Jc<|Jx<|Jc<|Ja<|mv (i6 x8_2)<|ag (i6 x8_2)<|Jd<|Jc<|Ja<|mv v1<|mv v0<|mv (i6 x8_2)<|?_
  obtain ⟨t14, h_t14, H11⟩ := Je H10; clear H10
  refine lv (Xq underlying67 sizeOf72 rfl rfl f0.frs (f0.ix h_t14))<|Qs (fun w hF hS => Zb (f := (elC h v0 2)) (i := x8_2) (sz := 2) (j := 0) (vs := [i6 t14.Kind, str t14.Text]) isAgg72 sizeOf72 rfl rfl (f0.frs.row (hw.now hF)) (f0.ix h_t14) (rd_of (cg_tag_Segment (f0.at h_t14)) rfl)) rfl rfl rfl<|?_
  obtain ⟨t16, h_t16, H12⟩ := Je H11; clear H11
  refine l_callV (R := Ut a1) (r := .bool t16) (v := v1) (fun w hF hS => ⟨(f1.mono (hw.now hF)), ⟨t14, _, rfl, h_t16, rfl⟩⟩) rfl rfl rfl rfl<|Jd<|?_
  revert H12
  refine ci t16 rfl (fun hb H13=>?_) fun hb H14=>?_
  ·refine Jc<|Ja<|mv (i6 x8_2)<|ag (i6 x8_2)<|Jd<|Jh<|?_
   obtain rfl := sj H13
   exact r1 (i6 x8_2)
  ·refine Ji<|Ja<|?_
   obtain ⟨t18, h_t18, H15⟩ := Je H14; clear H14
   refine lv (J1 rfl rfl h_t18)<|mv (i6 t18)<|Jd<|?_
   exact cl t18 () m1 [] (by exact ⟨(by subst hn1; exact H15), trivial⟩)
 ·refine Xx<|Jc<|Ja<|ag (i6 (-1))<|Jd<|Jh<|?_
  obtain rfl := sj H16
  exact r1 (i6 (-1))
theorem k59 {a0 : T_tag_Segment} {r : Bool} (H : Vi a0 = some r) : Ret prog 59 [.agg #[i6 a0.Kind, str a0.Text]] (.bool r) := by
 refine Xr (n := 18) func59 rfl rfl rfl (fun wd => ?_)
 refine Jc<|Ja<|?_
 refine Z5 (cs := [i6 a0.Kind, str a0.Text]) rfl rfl rfl rfl (fun b1 => ?_)
 refine ag (.bool false)<|Jd<|Jc<|Ja<|lf runUnderlying72 rfl sizeOf3 rfl<|ll 0 (i6 a0.Kind) isAgg3<|lv (Xg rfl rfl)<|mv (.bool (decide (a0.Kind = 225)))<|?_
 revert H
 refine sp (fun hb H6=>?_) fun hb H10=>?_
 ·refine lf runUnderlying72 rfl sizeOf9 rfl<|ll 0 (str a0.Text) isAgg9<|lv (Vn underlying9 rfl)<|lv (r_geq rfl rfl)<|pT (.bool (decide (6 ≤ (a0.Text.length : Int))))<|mv (.bool (decide (6 ≤ (a0.Text.length : Int))))<|?_
  revert H6
  refine sp (fun hb H7=>?_) fun hb H9=>?_
  ·refine lf runUnderlying72 rfl sizeOf9 rfl<|ll 0 (str a0.Text) isAgg9<|?_
   obtain ⟨t15, h_t15, H8⟩ := Je H7; clear H7
   refine lv (r_cutToG underlying9 rfl rfl h_t15)<|lv (r_eqlT rfl rfl)<|pT (.bool (decide (t15 = [69, 120, 105, 102, 0, 0])))<|ag (.bool (decide (t15 = [69, 120, 105, 102, 0, 0])))<|Jd<|Jh<|?_
   obtain rfl := sj H8
   exact r1 (.bool (decide (t15 = [69, 120, 105, 102, 0, 0])))
  ·refine pa<|pa<|pa<|pa<|pF (.bool false)<|ag (.bool false)<|Jd<|Jh<|?_
   obtain rfl := sj H9
   exact r1 (.bool false)
 ·refine pa<|pa<|pa<|pa<|pF (.bool false)<|mv (.bool false)<|pa<|pa<|pa<|pa<|pF (.bool false)<|ag (.bool false)<|Jd<|Jh<|?_
  obtain rfl := sj H10
  exact r1 (.bool false)
theorem k27 {a0 : (List T_tag_Segment)} {v0 : Value} {r : Int} {w : World} {h : Jo} (hw : Know h w Y2) (f0 : FrN h 2 v0 g_tag_Segment a0) (H : Z0 a0 = some r) : Does prog 27 (List.toArray [v0]) w (fun v w' => v = (i6 r) ∧ Grow w w') := by
 refine enter (n := 5) func27 rfl rfl rfl Y2 [] (Sat.nil _ _)<|Jc<|Ja<|ag (i6 0)<|Jd<|Jc<|Ja<|mv v0<|?_
 obtain ⟨t4, h_t4, H2⟩ := Je H; clear H
 refine Qo (fun w hF hS => k58 (Jn w) (f0.mono (hw.now hF)) (FnH.mk ⟨59, #[], #[], rfl, call59, fun args2 post2 w2 hk2 hR2 => by obtain ⟨a0_, r_, rfl, H_, rfl⟩ := hR2; exact k59 H_ w2⟩) h_t4) call58 rfl rfl rfl<|ag (i6 t4)<|Jd<|Jh<|?_
 obtain rfl := sj H2
 exact r1 (i6 t4)
theorem ovl60 (x y : Value) (w : World) : (callFunc 60 (List.toArray [x, y])).run prog w = (do pure (.value (← Extern.SlicesOverlaps.overlaps #[67, 67] #[4] #[x, y])) : Sem Next).run prog w := by kernel_rfl
theorem k28 {css r : List (List Value)} {cs1 : List Value} {p0 : Option Addr × Nat} {n0 b2 T2 : Nat} {a1 : Int} {w : World} {h : Jo} {S : Nat → Prop} (hcs : (Zw 72 2 (sl p0 n0) n0 (css.map idC)).P S w) (hlt : ∀ b, S b → b < w.heap.size) (hw : Know h w S) (hn0 : n0 = css.length) (hone : ∀ cs ∈ css, ∀ u ∈ cs, u.oneCell' = true) (hone1 : (([cs1].map idC).all fun x => x.all Value.oneCell') = true) (hl1 : cs1.length = 2) (hb2 : h b2 = some (.cells cs1.toArray T2 (0, 0))) (H : gInsN 24 css a1 cs1 = some r) :
    Does prog 28 (List.toArray [sl p0 n0, i6 a1, .slice (some ⟨b2, 0, none⟩) 1 1]) w (fun v w' => ∃ x : Option Addr × Nat, v = sl x r.length ∧ Turn w w' S (Zw 72 2 (sl x r.length) r.length (r.map idC))) := by
 obtain ⟨rfl, g0, g1, g2, g3⟩ := gInsN_some H
 have f2r : RowH h (some ⟨b2, 0, none⟩) 2 ([cs1].map idC) := .inr ⟨b2, 0, cs1.toArray, T2, (0, 0), rfl, hb2, fun i x hx => by
  cases i with
  | zero => simp [idC] at hx; subst hx; exact ⟨hl1, fun j v hv => by simpa using hv⟩
  | succ i => simp at hx⟩
 have hone1 : ∀ u ∈ cs1, u.oneCell' = true := fun u hu => List.all_eq_true.1 (List.all_eq_true.1 hone1 cs1 (by simp [idC])) u hu
 have hins : (Zr css a1 cs1).length = css.length + 1 := insL_len g1 g0
 have h_hi : Yu css a1 css.length = some (css.drop a1.toNat) := Yb (by omega)
 have l_hi : (css.drop a1.toNat).length = css.length - a1.toNat := List.length_drop
 refine enter (n := 95) func28 rfl rfl rfl S [Zw 72 2 (sl p0 n0) n0 (css.map idC)] (Sat.one hcs hlt) ?_
 refine c_know (fun w hF hS => capOfO (i := 0) hS rfl) (fun hcap => ?_)
 refine c_know (fun w hF hS => rowO_all (i := 0) hS rfl) (fun hall => ?_)
 rw [Qv] at hall
 refine Jc<|Ja<|ag (.slice none 0 0)<|Jd<|Jc<|Ja<|mv (sl p0 n0)<|mv (i6 a1)<|Qs (fun w hF hS => Xn (xs := css) underlying67 sizeOf72 rfl rfl hn0 (by omega) h_hi) rfl rfl rfl<|Jd<|Jc<|Ja<|mv (.slice (some ⟨b2, 0, none⟩) 1 1)<|lv (Uf underlying67 rfl)<|ag (i6 ((1 : Nat) : Int))<|Jd<|Jc<|Jc<|Ja<|mv (i6 ((1 : Nat) : Int))<|lv (Xg rfl rfl)<|Jd<|?_
 refine c_if (b := (decide (((1 : Nat) : Int) = 0))) rfl (fun hb => absurd hb (by decide)) (fun hb => ?_)
 refine Ji<|Jc<|Ja<|mv (sl p0 n0)<|lv (r_lenN underlying67 rfl hn0)<|ag (i6 (css.length : Int))<|Jd<|Jc<|Jc<|Ja<|mv (i6 a1)<|mv (i6 (css.length : Int))<|lv (Xg rfl rfl)<|Jd<|?_
 refine c_if (b := (decide (a1 = (css.length : Int)))) rfl (fun hb => ?_) (fun hb => ?_)
 ·have hab : a1 = css.length := of_decide_eq_true hb
  have he : css ++ [cs1] = Zr css a1 cs1 := by
   have ht : a1.toNat = css.length := by omega
   unfold Zr; rw [ht, List.take_length, List.drop_length, List.append_nil]
  refine Jc<|Ja<|mv (sl p0 n0)<|mv (.slice (some ⟨b2, 0, none⟩) 1 1)<|?_
  refine Qk (turns_appendO (i := 0) (sz := 2) (by_ := 24) (rds := []) (news := [cs1].map idC) (m := n0) (q := 1) (p := p0) underlying67 (Qp typeInfo72) rfl rfl rfl rfl rfl rfl rfl rfl rfl (fun x hx => by rw [Qv] at hx; rw [List.mem_singleton.1 hx]; exact hl1) (fun w L' hF hS hj => f2r.row (hw.now hF)) (fun x hx => by rw [Qv] at hx; rw [List.mem_singleton.1 hx]; exact hone1) (by simp only [maxLen]; omega) (by rw [hn0]; exact g2)) rfl rfl rfl (fun p1 => ?_)
  refine ag (sl p1 (n0 + 1))<|Jd<|Jh<|?_
  refine ret1 (v := sl p1 (n0 + 1)) rfl rfl (Yy p1 (i := 0) rfl (by rw [hins, hn0]) (Imp.of (by rw [hins, hn0, ← List.map_append, he])))
 ·have hab : ¬ a1 = css.length := of_decide_eq_false hb
  refine Ji<|Jc<|Jc<|Ja<|mv (i6 (css.length : Int))<|mv (i6 ((1 : Nat) : Int))<|lv (r_add rfl rfl (by omega))<|mv (sl p0 n0)<|lv (r_cap underlying67 rfl)<|lv (Vz rfl rfl)<|Jd<|?_
  refine c_if (b := (decide ((p0.2 : Int) < (css.length : Int) + ((1 : Nat) : Int)))) rfl (fun hb => ?_) (fun hb => ?_)
  ·have hb1 := of_decide_eq_true hb
   have h_lo : Yu css 0 a1 = some (css.take a1.toNat) := gCut_to (by omega)
   have l_lo : (css.take a1.toNat).length = a1.toNat := by rw [List.length_take]; omega
   refine Jc<|Ja<|mv (sl p0 n0)<|mv (i6 a1)<|Qs (v := sl p0 (css.take a1.toNat).length) (fun w hF hS => run_sliceHO0 (xs := css) underlying67 sizeOf72 rfl rfl hn0 (by omega) h_lo) rfl rfl rfl<|mv (i6 (css.length : Int))<|mv (i6 ((1 : Nat) : Int))<|lv (r_add rfl rfl (by omega))<|mv (i6 a1)<|lv (r_sub rfl rfl (by omega))<|?_
   have hk : (css.length : Int) + ((1 : Nat) : Int) - a1 = ((css.length + 1 - a1.toNat : Nat) : Int) := by omega
   rw [l_lo, hk]
   have hsum : a1.toNat + (css.length + 1 - a1.toNat) = css.length + 1 := by omega
   refine Yw (makes_growZ (i := 0) (sz := 2) (by_ := 24) (xs := css.map idC) (p := p0) (m := n0) (a := a1.toNat) (k := css.length + 1 - a1.toNat) underlying67 underlying3 (Qp typeInfo72) rfl rfl rfl rfl rfl rfl rfl (by omega) rfl (by omega) (by omega) (by rw [hsum]; simp only [maxLen]; omega) (by rw [hsum]; exact g2)) rfl rfl rfl (fun p1 => ?_)
   refine ag (sl p1 (a1.toNat + (css.length + 1 - a1.toNat)))<|Jd<|?_
   have hr1 : (css.map idC).take a1.toNat ++ List.replicate (css.length + 1 - a1.toNat) [i6 0, str []] = (css.take a1.toNat ++ (List.replicate (css.length + 1 - a1.toNat) [i6 0, str []])) := by rw [Qv]
   refine Qn 1 rfl (Imp.of (congrArg (Js 72 2 (sl p1 (a1.toNat + (css.length + 1 - a1.toNat))) (a1.toNat + (css.length + 1 - a1.toNat))) hr1)) ?_
   have len1 : (css.take a1.toNat ++ (List.replicate (css.length + 1 - a1.toNat) [i6 0, str []])).length = (a1.toNat + (css.length + 1 - a1.toNat)) := by rw [List.length_append, l_lo, List.length_replicate]
   generalize hR1 : (css.take a1.toNat ++ (List.replicate (css.length + 1 - a1.toNat) [i6 0, str []])) = R1 at len1
   have hcut1 : Yu R1 a1 R1.length = some (R1.drop a1.toNat) := Yb (by omega)
   have ldr1 : (R1.drop a1.toNat).length = css.length + 1 - a1.toNat := by rw [List.length_drop, len1]; omega
   refine Jc<|Ja<|mv (sl p1 (a1.toNat + (css.length + 1 - a1.toNat)))<|mv (i6 a1)<|Qs (v := .slice (Q7 p1.1 a1.toNat p1.2 2) (R1.drop a1.toNat).length (p1.2 - a1.toNat)) (fun w hF hS => Xn (xs := R1) underlying67 sizeOf72 rfl rfl len1.symm (capOf (i := 1) hS rfl) hcut1) rfl rfl rfl<|mv (.slice (some ⟨b2, 0, none⟩) 1 1)<|?_
   refine Qk (turns_copyK (i := 1) (rds := []) (xs := R1) (news := [cs1].map idC) (sz := 2) (m := (a1.toNat + (css.length + 1 - a1.toNat))) (a := a1.toNat) (q := 1) (p := p1) underlying67 (Qp typeInfo72) rfl rfl len1.symm rfl (by omega) rfl (by omega) rfl (by omega) (fun w L' hF hS hj => f2r.row (hw.now hF)) (fun x hx => by rw [Qv] at hx; rw [List.mem_singleton.1 hx]; exact hl1) (fun x hx => by rw [Qv] at hx; rw [List.mem_singleton.1 hx]; exact hone1)) rfl rfl rfl (fun _ => ?_)
   refine Jd ?_
   have len2 : (R1.take a1.toNat ++ [cs1].map idC ++ R1.drop (a1.toNat + 1)).length = (a1.toNat + (css.length + 1 - a1.toNat)) := by simp only [List.length_append, List.length_take, List.length_drop, List.length_map, List.length_cons, List.length_nil, len1]; omega
   generalize hR2 : R1.take a1.toNat ++ [cs1].map idC ++ R1.drop (a1.toNat + 1) = R2 at len2
   have hcut2 : Yu R2 (a1 + ((1 : Nat) : Int)) R2.length = some (R2.drop (a1 + ((1 : Nat) : Int)).toNat) := Yb (by omega)
   have ht1 : (a1 + ((1 : Nat) : Int)).toNat = a1.toNat + 1 := by omega
   rw [ht1] at hcut2
   have ldr2 : (R2.drop (a1.toNat + 1)).length = css.length - a1.toNat := by rw [List.length_drop, len2]; omega
   refine Jc ?_
   exact Qi (Kd.p :: Kd.p :: Kd.p :: Kd.p :: Kd.d [1] _ :: Kd.p :: Kd.p :: Kd.d [0] _ :: Kd.t 1 [0] _ _ :: []) 0 mixed (by
    refine dm (sl p1 (a1.toNat + (css.length + 1 - a1.toNat)))<|dm (i6 a1)<|dm (i6 ((1 : Nat) : Int))<|dv (r_add rfl rfl (by omega))<|Zl (v := .slice (Q7 p1.1 (a1.toNat + 1) p1.2 2) (R2.drop (a1.toNat + 1)).length (p1.2 - (a1.toNat + 1))) (fun w L' hF hS hi => ht1 ▸ Xn (xs := R2) underlying67 sizeOf72 rfl rfl len2.symm (capOf (i := 1) hS ((hi 1 (by simp)).trans rfl)) (ht1.symm ▸ hcut2)) rfl rfl<|dm (sl p0 n0)<|dm (i6 a1)<|Zl (v := .slice (Q7 p0.1 a1.toNat p0.2 2) (css.drop a1.toNat).length (p0.2 - a1.toNat)) (fun w L' hF hS hi => Xn (xs := css) underlying67 sizeOf72 rfl rfl hn0 (by omega) h_hi) rfl rfl<|?_
    refine d_turn (Cv := fun _ => Js 72 2 (sl p1 (a1.toNat + (css.length + 1 - a1.toNat))) (a1.toNat + (css.length + 1 - a1.toNat)) (R2.take (a1.toNat + 1) ++ (css.drop a1.toNat).map idC ++ R2.drop (a1.toNat + 1 + (css.drop a1.toNat).length))) ()
     (turns_copyK (i := 1) (rds := [0]) (xs := R2) (news := (css.drop a1.toNat).map idC) (sz := 2) (m := (a1.toNat + (css.length + 1 - a1.toNat))) (a := a1.toNat + 1) (q := (css.drop a1.toNat).length) (p := p1) underlying67 (Qp typeInfo72) rfl rfl len2.symm rfl (by omega) rfl (by omega) (List.length_map _).symm (by omega)
      (fun w L' hF hS hj => Row.cutG (xs := css) (f := idC) (offOf (i := 0) hS ((hj 0 (by simp)).trans rfl)) hn0 (by omega) h_hi) (by rw [Qv]; exact fun x hx => hall x (List.mem_of_mem_drop hx)) (by rw [Qv]; exact fun x hx => hone x (List.mem_of_mem_drop hx))) (fun _ => rfl) rfl rfl (fun _ => ?_)
    refine Y8 ?_
    have hch : R2.take (a1.toNat + 1) ++ (css.drop a1.toNat).map idC ++ R2.drop (a1.toNat + 1 + (css.drop a1.toNat).length) = (Zr css a1 cs1).map idC := by
     have e3 : R2.drop (a1.toNat + 1 + (css.drop a1.toNat).length) = [] := List.eq_nil_of_length_eq_zero (by rw [List.length_drop, len2]; omega)
     have t1 : R1.take a1.toNat = css.take a1.toNat := by rw [← hR1, List.take_append_of_le_length (by omega), List.take_of_length_le (by omega)]
     have t2 : R2.take (a1.toNat + 1) = css.take a1.toNat ++ [cs1] := by
      rw [← hR2, t1, List.take_append_of_le_length (by simp only [List.length_append, List.length_map, List.length_cons, List.length_nil, l_lo]; omega), List.take_of_length_le (by simp only [List.length_append, List.length_map, List.length_cons, List.length_nil, l_lo]; omega), Qv]
     rw [e3, t2, List.append_nil, Qv, Qv, List.append_assoc]; rfl
    refine Jc<|Ja<|mv (sl p1 (a1.toNat + (css.length + 1 - a1.toNat)))<|ag (sl p1 (a1.toNat + (css.length + 1 - a1.toNat)))<|Jd<|Jh<|Qn 1 rfl (Zg _ _ _ _ _)<|?_
    refine ret1 (v := sl p1 (a1.toNat + (css.length + 1 - a1.toNat))) rfl rfl (Yy p1 (i := 1) rfl (by rw [hins, hsum]) (Imp.of (by rw [hins, hch, hsum])))
    ) (by kernel_rfl)
  ·have hroom : css.length + 1 ≤ p0.2 := by have := of_decide_eq_false hb; omega
   refine Ji<|Qn 0 rfl (imp_room1 (by omega))<|?_
   refine c_ex 0 rfl (fun y0 => ?_)
   refine c_know (fun w hF hS => rowO_all (i := 0) hS rfl) (fun hall1 => ?_)
   have hy0 : y0.length = 2 := hall1 y0 (by simp)
   have lenR : (css.map idC ++ [y0]).length = n0 + 1 := by rw [List.length_append, List.length_map, List.length_singleton, hn0]
   generalize hR1 : css.map idC ++ [y0] = R1 at lenR hall1
   refine Jc<|Ja<|mv (sl p0 n0)<|mv (i6 (css.length : Int))<|mv (i6 ((1 : Nat) : Int))<|lv (r_add rfl rfl (by omega))<|?_
   refine Jp (v := sl p0 (n0 + 1)) rfl rfl rfl (by
    have e1 : ((css.length : Int) + ((1 : Nat) : Int)).toNat = n0 + 1 := by omega
    rw [← e1]; exact run_sliceHRoom underlying67 sizeOf72 rfl rfl (by omega) (by omega)) ?_
   refine ag (sl p0 (n0 + 1))<|Jd<|?_
   have h_hi1 : Yu R1 a1 R1.length = some (R1.drop a1.toNat) := Yb (by omega)
   have ht1 : (a1 + ((1 : Nat) : Int)).toNat = a1.toNat + 1 := by omega
   have h_hi2 : Yu R1 (a1 + ((1 : Nat) : Int)) R1.length = some (R1.drop (a1.toNat + 1)) := by rw [← ht1]; exact Yb (by omega)
   have ld1 : (R1.drop a1.toNat).length = n0 + 1 - a1.toNat := by rw [List.length_drop, lenR]
   have ld2 : (R1.drop (a1.toNat + 1)).length = n0 - a1.toNat := by rw [List.length_drop, lenR]; omega
   have hd1 : R1.drop a1.toNat = (css.drop a1.toNat).map idC ++ [y0] := by
    rw [← hR1, List.drop_append_of_le_length (by rw [List.length_map]; omega), ← List.map_drop]
   refine Jc<|Jc<|Ja<|mv (.slice (some ⟨b2, 0, none⟩) 1 1)<|mv (sl p0 (n0 + 1))<|mv (i6 a1)<|mv (i6 ((1 : Nat) : Int))<|lv (r_add rfl rfl (by omega))<|Qs (v := .slice (Q7 p0.1 (a1.toNat + 1) p0.2 2) (R1.drop (a1.toNat + 1)).length (p0.2 - (a1.toNat + 1))) (fun w hF hS => ht1 ▸ Xn (xs := R1) underlying67 sizeOf72 rfl rfl lenR.symm (by omega) (ht1.symm ▸ h_hi2)) rfl rfl rfl<|?_
   refine Qs (v := .bool false) (fun W hF hS => by
    obtain ⟨S1, hC1, hS1⟩ := hS.at (i := 0) rfl
    obtain ⟨g1, g2⟩ := hw b2 _ hb2
    refine run_ovl (f := 60) (ovl60) underlying67 sizeOf72 rfl hC1 (by omega) (hw.now hF b2 _ hb2) (fun hs1 => ?_) rfl rfl
    rcases (hS1 b2 hs1).2 with hh | hh
    ·have hlt2 : b2 < w.heap.size := (Array.getElem?_eq_some_iff.1 g1).1
     exact absurd hh (by show ¬ w.heap.size ≤ b2; omega)
    ·exact g2 hh) rfl rfl rfl ?_
   refine lv (Uu rfl)<|Jd<|?_
   refine c_if (b := !false) rfl (fun _ => ?_) (fun hb => absurd hb (by decide))
   refine Jc ?_
   exact Qi (Kd.p :: Kd.p :: Kd.p :: Kd.p :: Kd.d [0] _ :: Kd.p :: Kd.p :: Kd.d [0] _ :: Kd.t 0 [] _ _ :: []) 0 mixed (by
    refine dm (sl p0 (n0 + 1))<|dm (i6 a1)<|dm (i6 ((1 : Nat) : Int))<|dv (r_add rfl rfl (by omega))<|Zl (v := .slice (Q7 p0.1 (a1.toNat + 1) p0.2 2) (R1.drop (a1.toNat + 1)).length (p0.2 - (a1.toNat + 1))) (fun w L' hF hS hi => ht1 ▸ Xn (xs := R1) underlying67 sizeOf72 rfl rfl lenR.symm (by omega) (ht1.symm ▸ h_hi2)) rfl rfl<|dm (sl p0 (n0 + 1))<|dm (i6 a1)<|Zl (v := .slice (Q7 p0.1 a1.toNat p0.2 2) (R1.drop a1.toNat).length (p0.2 - a1.toNat)) (fun w L' hF hS hi => Xn (xs := R1) underlying67 sizeOf72 rfl rfl lenR.symm (by omega) h_hi1) rfl rfl<|?_
    refine d_turn (Cv := fun _ => Zw 72 2 (sl p0 (n0 + 1)) (n0 + 1) (R1.take (a1.toNat + 1) ++ (css.drop a1.toNat).map idC ++ R1.drop (a1.toNat + 1 + (css.drop a1.toNat).length))) ()
     (turns_copyKO (i := 0) (rds := []) (xs := R1) (news := (css.drop a1.toNat).map idC) (sz := 2) (m := n0 + 1) (a := a1.toNat + 1) (k := (css.drop a1.toNat).length) (p := p0) underlying67 (Qp typeInfo72) rfl rfl lenR.symm rfl (by omega) rfl (by omega) (List.length_map _).symm (by omega)
      (fun w L' hF hS hj => by
       have hr := Row.cutG (xs := R1) (f := fun z : List Value => z) (by rw [List.map_id']; exact offOf (i := 0) hS ((hj 0 (.inr rfl)).trans rfl)) lenR.symm (show n0 + 1 ≤ p0.2 by omega) h_hi1
       rw [List.map_id', hd1] at hr
       exact Row.pre hr) (by rw [Qv]; exact fun x hx => hall x (List.mem_of_mem_drop hx)) (by rw [Qv]; exact fun x hx => hone x (List.mem_of_mem_drop hx))) (fun _ => rfl) rfl rfl (fun _ => ?_)
    refine Y8 ?_
    have len2 : (R1.take (a1.toNat + 1) ++ (css.drop a1.toNat).map idC ++ R1.drop (a1.toNat + 1 + (css.drop a1.toNat).length)).length = n0 + 1 := by simp only [List.length_append, List.length_take, List.length_drop, List.length_map, lenR]; omega
    generalize hR2 : R1.take (a1.toNat + 1) ++ (css.drop a1.toNat).map idC ++ R1.drop (a1.toNat + 1 + (css.drop a1.toNat).length) = R2 at len2
    have h_hi3 : Yu R2 a1 R2.length = some (R2.drop a1.toNat) := Yb (by omega)
    have ld3 : (R2.drop a1.toNat).length = n0 + 1 - a1.toNat := by rw [List.length_drop, len2]
    refine Jc<|Ja<|mv (sl p0 (n0 + 1))<|mv (i6 a1)<|Qs (v := .slice (Q7 p0.1 a1.toNat p0.2 2) (R2.drop a1.toNat).length (p0.2 - a1.toNat)) (fun w hF hS => Xn (xs := R2) underlying67 sizeOf72 rfl rfl len2.symm (by omega) h_hi3) rfl rfl rfl<|mv (.slice (some ⟨b2, 0, none⟩) 1 1)<|?_
    refine Qk (turns_copyKO (i := 0) (rds := []) (xs := R2) (news := [cs1].map idC) (sz := 2) (m := n0 + 1) (a := a1.toNat) (q := 1) (k := 1) (p := p0) underlying67 (Qp typeInfo72) rfl rfl len2.symm rfl (by omega) rfl (by omega) rfl (by omega) (fun w L' hF hS hj => f2r.row (hw.now hF)) (fun x hx => by rw [Qv] at hx; rw [List.mem_singleton.1 hx]; exact hl1) (fun x hx => by rw [Qv] at hx; rw [List.mem_singleton.1 hx]; exact hone1)) rfl rfl rfl (fun _ => ?_)
    refine Jd ?_
    have hch : R2.take a1.toNat ++ [cs1].map idC ++ R2.drop (a1.toNat + 1) = (Zr css a1 cs1).map idC := by
     have e3 : R1.drop (a1.toNat + 1 + (css.drop a1.toNat).length) = [] := List.eq_nil_of_length_eq_zero (by rw [List.length_drop, lenR]; omega)
     have l1 : (R1.take (a1.toNat + 1)).length = a1.toNat + 1 := by rw [List.length_take, lenR]; omega
     have t1 : R1.take a1.toNat = css.take a1.toNat := by rw [← hR1, Qv, List.take_append_of_le_length (by omega)]
     have t2 : R2.take a1.toNat = css.take a1.toNat := by
      rw [← hR2, List.append_assoc, List.take_append_of_le_length (by omega), List.take_take, Nat.min_eq_left (by omega), t1]
     have t3 : R2.drop (a1.toNat + 1) = css.drop a1.toNat := by
      rw [← hR2, e3, List.append_nil, List.drop_append_of_le_length (by omega), List.drop_eq_nil_of_le (by omega), List.nil_append, Qv]
     rw [t2, t3, Qv, Qv, List.append_assoc]; rfl
    refine Jc<|Ja<|mv (sl p0 (n0 + 1))<|ag (sl p0 (n0 + 1))<|Jd<|Jh<|?_
    refine ret1 (v := sl p0 (n0 + 1)) rfl rfl (Yy p0 (i := 0) rfl (by rw [hins, hn0]) (Imp.of (by rw [hins, hch, hn0])))
    ) (by kernel_rfl)
theorem k62 {a0 : T_tag_Segment} {a1 : Bool} {r : Int} (H : Ur a0 a1 = some r) : Ret prog 62 [.agg #[i6 a0.Kind, str a0.Text], .bool a1] (i6 r) := by
 refine Xr (n := 26) func62 rfl rfl rfl (fun wd => ?_)
 refine Jc<|Ja<|?_
 refine Z5 (cs := [i6 a0.Kind, str a0.Text]) rfl rfl rfl rfl (fun b1 => ?_)
 refine ag (i6 0)<|Jd<|Jc<|Jx<|Jc<|Ja<|lf runUnderlying72 rfl sizeOf3 rfl<|ll 0 (i6 a0.Kind) isAgg3<|?_
 obtain ⟨t8, h_t8, H10⟩ := Je H; clear H
 refine Xy (k53 h_t8) call53 rfl rfl rfl<|lv (Uu rfl)<|ag (.bool (!t8))<|Jd<|?_
 revert H10
 refine ci (!t8) rfl (fun hb H11=>?_) fun hb H12=>?_
 ·refine Jc<|Ja<|ag (i6 10)<|Jd<|Jh<|?_
  obtain rfl := sj H11
  exact r1 (i6 10)
 ·refine Jc<|Ja<|lf runUnderlying72 rfl sizeOf3 rfl<|ll 0 (i6 a0.Kind) isAgg3<|lv (Xg rfl rfl)<|mv (.bool a1)<|lv (r_neqB underlying4 rfl rfl)<|ag (.bool (decide ((decide (a0.Kind = 218)) ≠ a1)))<|Jd<|?_
  revert H12
  refine ci (decide ((decide (a0.Kind = 218)) ≠ a1)) rfl (fun hb H13=>?_) fun hb H14=>?_
  ·refine Jc<|Ja<|ag (i6 5)<|Jd<|Jh<|?_
   obtain rfl := sj H13
   exact r1 (i6 5)
  ·refine Jc<|Ja<|lf runUnderlying72 rfl sizeOf3 rfl<|ll 0 (i6 a0.Kind) isAgg3<|lv (Yo rfl rfl)<|mv (.bool (decide (a0.Kind ≠ 218)))<|?_
   revert H14
   refine sp (fun hb H15=>?_) fun hb H18=>?_
   ·refine lf runUnderlying72 rfl sizeOf9 rfl<|ll 0 (str a0.Text) isAgg9<|lv (Vn underlying9 rfl)<|lv (Vz rfl rfl)<|pT (.bool (decide (65533 < (a0.Text.length : Int))))<|ag (.bool (decide (65533 < (a0.Text.length : Int))))<|Jd<|?_
    revert H15
    refine ci (decide (65533 < (a0.Text.length : Int))) rfl (fun hb H16=>?_) fun hb H17=>?_
    ·refine Jc<|Ja<|ag (i6 4)<|Jd<|Jh<|?_
     obtain rfl := sj H16
     exact r1 (i6 4)
    ·refine Ji<|Jc<|Ja<|ag (i6 0)<|Jd<|Jh<|?_
     obtain rfl := sj H17
     exact r1 (i6 0)
   ·refine pa<|pa<|pa<|pa<|pF (.bool false)<|ag (.bool false)<|Jd<|U7 rfl<|Ji<|Jc<|Ja<|ag (i6 0)<|Jd<|Jh<|?_
    obtain rfl := sj H18
    exact r1 (i6 0)
theorem k29 {a0 : (List T_tag_Segment)} {v0 : Value} {r : (List UInt8) × Int} {w : World} {h : Jo} (hw : Know h w Y2) (f0 : FrN h 2 v0 g_tag_Segment a0) (H : tag_Joined a0 = some r) : Does prog 29 (List.toArray [v0]) w (fun v w' => v = (.tuple #[str r.1, i6 r.2]) ∧ Grow w w') := by
 refine enter (n := 67) func29 rfl rfl rfl Y2 [] (Sat.nil _ _)<|Jc<|Ja<|ag (str [])<|ag (i6 0)<|Jd<|Jc<|Jx<|Jc<|Ja<|mv v0<|lv (Yv underlying67 rfl f0)<|lv (Vz rfl rfl)<|ag (.bool (decide (200 < (a0.length : Int))))<|Jd<|?_
 revert H
 refine ci (decide (200 < (a0.length : Int))) rfl (fun hb H29=>?_) fun hb H30=>?_
 ·refine Jc<|Ja<|ag (str [])<|ag (i6 4)<|Jd<|Jh<|?_
  obtain rfl := sj H29
  refine Z2 (v1 := str []) (v2 := i6 4) rfl rfl rfl (fin rfl)
 ·refine Jc<|Ja<|mv v0<|lv (Yv underlying67 rfl f0)<|lv (Xg rfl rfl)<|ag (.bool (decide ((a0.length : Int) = 0)))<|Jd<|?_
  revert H30
  refine ci (decide ((a0.length : Int) = 0)) rfl (fun hb H31=>?_) fun hb H32=>?_
  ·refine Jc<|Ja<|ag (str [])<|ag (i6 5)<|Jd<|Jh<|?_
   obtain rfl := sj H31
   refine Z2 (v1 := str []) (v2 := i6 5) rfl rfl rfl (fin rfl)
  ·refine Ji<|Jc<|Ja<|?_
   refine J9 (vs := [.int .u8 255, .int .u8 216]) (cs := [.int .u8 255, .int .u8 216]) underlying91 sizeOf5 zeroValue5 rfl rfl rfl rfl rfl rfl rfl (fun b4 => ?_)
   refine Qk (turns_mark (i := 0) (rds := []) (f := Xc) (xs := ([255, 216] : List Int)) (m := 2) (sz := 1) rfl underlying91 underlying5 rfl rfl rfl rfl rfl rfl) rfl rfl rfl (fun _ => ?_)
   refine ag (.slice ((some ⟨b4, 0, none⟩, 2) : Option Addr × Nat).1 2 ((some ⟨b4, 0, none⟩, 2) : Option Addr × Nat).2)<|Jd<|?_
   refine Q3 (r := r) (σ := (List Int)) (τ := (Option Addr × Nat) × Nat) (fun s => tag_Joined_j1 s) (fun s t => [(4, .slice t.1.1 t.2 t.1.2)]) (fun s t => [apV 5 1 (.slice t.1.1 t.2 t.1.2) t.2 (s.map Xc)]) (fun s t => t.2 = s.length) ?_ ?_
   ·refine Jc<|Ja<|mv v0<|lv (Yv underlying67 rfl f0)<|mv (i6 0)<|Jd<|Jx<|?_
    refine Zn (σ := Int × (List Int)) (τ := (Option Addr × Nat) × Nat) (fun next2 s => Yz a0 next2 s.1 s.2) (fun s t => [(0, v0), (4, .slice t.1.1 t.2 t.1.2), (18, v0), (19, i6 (a0.length : Int)), (20, i6 s.1)]) (fun s t => [apV 5 1 (.slice t.1.1 t.2 t.1.2) t.2 (s.2.map Xc)]) (fun s t => t.2 = s.2.length) (0, ([255, 216] : List Int)) (((some ⟨b4, 0, none⟩, 2) : Option Addr × Nat), 2) [0] H32 (by exact rfl) (by exact ⟨rfl, rfl, rfl, rfl, rfl, trivial⟩) (by decide) rfl ?_
    rintro ⟨x20_2, l_3⟩ ⟨p_3, n_2⟩ m2 gg H37 hl_3
    clear H32
    try dsimp only at H37
    generalize hn2 : it (fun next2 s => Yz a0 next2 s.1 s.2) m2 = next2 at H37
    try dsimp only
    refine Jc<|Ja<|lv (Yc rfl rfl)<|Jd<|Jc<|?_
    revert H37
    refine ci (decide (x20_2 < (a0.length : Int))) rfl (fun hb H38=>?_) fun hb H56=>?_
    ·refine Ji ?_
     refine Q3 (r := r) (σ := (List Int)) (τ := (Option Addr × Nat)) (fun s => Uz x20_2 next2 s) (fun s t => [(0, v0), (4, sl t s.length), (18, v0), (19, i6 (a0.length : Int)), (20, i6 x20_2)]) (fun s t => [Js 5 1 (sl t s.length) s.length (s.map Xc)]) (fun s t => True) ?_ ?_
     ·refine Jx<|Jc<|Ja<|mv (i6 x20_2)<|?_
      obtain ⟨t23, h_t23, H41⟩ := Je H38; clear H38
      refine lv (Xq underlying67 sizeOf72 rfl rfl f0.frs (f0.ix h_t23))<|Qs (fun w hF hS => Zb (f := (elC h v0 2)) (i := x20_2) (sz := 2) (j := 0) (vs := [i6 t23.Kind, str t23.Text]) isAgg72 sizeOf72 rfl rfl (f0.frs.row (hw.now hF)) (f0.ix h_t23) (rd_of (cg_tag_Segment (f0.at h_t23)) rfl)) rfl rfl rfl<|?_
      refine Xf (cs := [i6 0, str []]) zeroValue72 rfl rfl rfl (fun b6 => ?_)
      refine ag (i6 x20_2)<|st (i := 1) [i6 t23.Kind, str t23.Text] [i6 t23.Kind, str t23.Text] sizeOf72 rfl rfl<|Jd<|Jc<|Jc<|Ja<|Qx (i := 1) (vs := [i6 t23.Kind, str t23.Text]) isAgg72 sizeOf72 rfl rfl rfl rfl rfl<|mv (i6 x20_2)<|mv v0<|lv (Yv underlying67 rfl f0)<|?_
      obtain ⟨t29, h_t29, H42⟩ := Je H41; clear H41
      refine lv (Vh rfl rfl h_t29)<|lv (Xg rfl rfl)<|?_
      obtain ⟨t31, h_t31, H43⟩ := Je H42; clear H42
      refine Xy (k62 h_t31) call62 rfl rfl rfl<|ag (i6 t31)<|Jd<|Jc<|Ja<|mv (i6 t31)<|lv (Yo rfl rfl)<|Jd<|?_
      revert H43
      refine ci (decide (t31 ≠ 0)) rfl (fun hb H44=>?_) fun hb H45=>?_
      ·refine Jc<|Ja<|mv (i6 t31)<|ag (str [])<|ag (i6 t31)<|Jd<|Jh<|?_
       obtain rfl := sj H44
       refine Z2 (v1 := str []) (v2 := i6 t31) rfl rfl rfl (fin rfl)
      ·refine Ji<|Jc<|Ja<|mv (sl p_3 n_2)<|lf runUnderlying72 rfl sizeOf3 rfl<|ll 1 (i6 t23.Kind) isAgg3<|lv (W9 runUnderlying3 runUnderlying5 rfl (wr_u8 _))<|?_
       refine J9 (vs := [.int .u8 255, .int .u8 (wU8 t23.Kind)]) (cs := [.int .u8 255, .int .u8 (wU8 t23.Kind)]) underlying91 sizeOf5 zeroValue5 rfl rfl rfl rfl rfl rfl rfl (fun b7 => ?_)
       obtain ⟨l40, h_l40, H46⟩ := Je H45; clear H45
       refine Qk (turns_appN (i := 0) (hn := hl_3) (rds := [2]) (p := p_3) (sz := 1) (by_ := 1) (f := Xc) (ys := l_3) (ls := ([255, (wU8 t23.Kind)] : List Int)) (V := .slice (some ⟨b7, 0, none⟩) 2 2) underlying91 (Qp typeInfo5) rfl rfl rfl rfl rfl rfl rfl rfl rfl rfl (fun w L' hF hS hi => Wr (i := 2) hS ((hi 2 (by simp)).trans rfl) rfl rfl) (fun _ => rfl) (fun _ => rfl) h_l40) rfl rfl rfl (fun p_5 => ?_)
       refine ag (sl p_5 l40.length)<|Jd<|?_
       refine Q3 (r := r) (σ := (List Int)) (τ := (Option Addr × Nat)) (fun s => U3 x20_2 next2 t23 s) (fun s t => [(0, v0), (4, sl t s.length), (6, .pointer (some ⟨b6, 0, none⟩)), (18, v0), (19, i6 (a0.length : Int)), (20, i6 x20_2)]) (fun s t => [Js 5 1 (sl t s.length) s.length (s.map Xc), Jg b6 [i6 t23.Kind, str t23.Text] 72]) (fun s t => True) ?_ ?_
       ·refine Jc ?_
        try dsimp only [z1, z2, z5, z6, z7, z8]
        refine Ja<|lf runUnderlying72 rfl sizeOf3 rfl<|ll 1 (i6 t23.Kind) isAgg3<|lv (Yo rfl rfl)<|Jd<|?_
        revert H46
        refine ci (decide (t23.Kind ≠ 218)) rfl (fun hb H51=>?_) fun hb H55=>?_
        ·refine Ja<|mv (sl p_5 l40.length)<|lf runUnderlying72 rfl sizeOf9 rfl<|ll 1 (str t23.Text) isAgg9<|lv (Vn underlying9 rfl)<|?_
         obtain ⟨t48, h_t48, H52⟩ := Je H51; clear H51
         refine lv (J1 rfl rfl h_t48) ?_
         obtain ⟨t49, h_t49, H53⟩ := Je H52; clear H52
         refine Yw (Qm (rds := []) (G := fun x : (Option Addr × Nat) => sl x t49.length) (C := fun x : (Option Addr × Nat) => Js 5 1 (sl x t49.length) t49.length (t49.map Xc)) (fun w L' hF hS hi => k55 (Jn w)  h_t49) call55 rfl) rfl rfl rfl (fun p_8 => ?_)
         obtain ⟨l50, h_l50, H54⟩ := Je H53; clear H53
         refine Qk (Xo (i := 0) (hn := rfl) (rds := [3]) (p := p_5) (sz := 1) (by_ := 1) (f := Xc) (ys := l40) (ls := t49) (V := sl p_8 t49.length) underlying91 (Qp typeInfo5) rfl rfl rfl rfl rfl rfl rfl rfl rfl rfl (fun w L' hF hS hi => V3 (i := 3) hS ((hi 3 (by simp)).trans rfl)) (fun _ => rfl) (fun _ => rfl) h_l50) rfl rfl rfl (fun p_9 => ?_)
         refine ag (sl p_9 l50.length)<|Jd<|?_
         exact cl l50 p_9 0 [0, 1] (by exact ⟨H54, trivial⟩)
        ·refine Ji ?_
         exact cl l40 p_5 0 [0, 1] (by exact ⟨H55, trivial⟩)
       ·rintro l_5 p_6 gg H47 _
        try dsimp only at H47
        try dsimp only
        refine Jc<|Ja<|mv (sl p_6 l_5.length)<|lv (Uf underlying91 rfl)<|lv (r_leq rfl rfl)<|Jd<|?_
        revert H47
        refine ci (decide ((l_5.length : Int) ≤ 200000)) rfl (fun hb H48=>?_) fun hb H50=>?_
        ·refine Ja<|mv (sl p_6 l_5.length)<|lf runUnderlying72 rfl sizeOf9 rfl<|ll 1 (str t23.Text) isAgg9<|?_
         obtain ⟨l57, h_l57, H49⟩ := Je H48; clear H48
         refine Qk (turns_strG (i := 0) (rds := []) (p := p_6) (f := Xc) (ys := l_5) rfl underlying91 underlying9 (Qp typeInfo5) rfl rfl rfl rfl rfl rfl (fun _ => rfl) h_l57) rfl rfl rfl (fun p_7 => ?_)
         refine ag (sl p_7 l57.length)<|Jd<|?_
         exact cl l57 p_7 0 [0] (by exact ⟨H49, trivial⟩)
        ·refine Ji ?_
         exact cl l_5 p_6 0 [0] (by exact ⟨H50, trivial⟩)
     ·rintro l_4 p_4 gg H39 _
      try dsimp only at H39
      try dsimp only
      refine Ja ?_
      obtain ⟨t58, h_t58, H40⟩ := Je H39; clear H39
      refine lv (J1 rfl rfl h_t58)<|mv (i6 t58)<|Jd<|Qn 0 rfl (imp_ap _ _ _ _ _)<|?_
      exact cl (t58, l_4) (p_4, l_4.length) m2 [0] (by exact ⟨(by subst hn2; exact H40), rfl⟩)
    ·refine Xx ?_
     exact cl l_3 (p_3, n_2) 0 [0] (by exact ⟨H56, hl_3⟩)
   ·rintro l ⟨p, n⟩ gg H33 hl
    try dsimp only at H33
    try dsimp only
    refine Jc<|Ja<|mv (sl p n)<|?_
    refine J9 (vs := [.int .u8 255, .int .u8 217]) (cs := [.int .u8 255, .int .u8 217]) underlying91 sizeOf5 zeroValue5 rfl rfl rfl rfl rfl rfl rfl (fun b5 => ?_)
    obtain ⟨l61, h_l61, H34⟩ := Je H33; clear H33
    refine Qk (turns_appN (i := 0) (hn := hl) (rds := [1]) (p := p) (sz := 1) (by_ := 1) (f := Xc) (ys := l) (ls := ([255, 217] : List Int)) (V := .slice (some ⟨b5, 0, none⟩) 2 2) underlying91 (Qp typeInfo5) rfl rfl rfl rfl rfl rfl rfl rfl rfl rfl (fun w L' hF hS hi => Wr (i := 1) hS ((hi 1 (by simp)).trans rfl) rfl rfl) (fun _ => rfl) (fun _ => rfl) h_l61) rfl rfl rfl (fun p_2 => ?_)
    refine ag (sl p_2 l61.length)<|Jd<|Jc<|Jc<|Ja<|mv (sl p_2 l61.length)<|lv (Uf underlying91 rfl)<|lv (Vz rfl rfl)<|Jd<|?_
    revert H34
    refine ci (decide (200000 < (l61.length : Int))) rfl (fun hb H35=>?_) fun hb H36=>?_
    ·refine Jc<|Ja<|ag (str [])<|ag (i6 4)<|Jd<|Jh<|?_
     obtain rfl := sj H35
     refine Z2 (v1 := str []) (v2 := i6 4) rfl rfl rfl (fin rfl)
    ·refine Ji<|Jc<|Ja<|mv (sl p_2 l61.length)<|Qs (fun w hF hS => run_bytes (f := Xc) (xs := l61) rfl underlying91 underlying5 underlying9 rfl (fun _ => rfl) (V3 (i := 0) hS rfl)) rfl rfl rfl<|ag (str (Z8 l61))<|ag (i6 0)<|Jd<|Jh<|?_
     obtain rfl := sj H36
     refine Z2 (v1 := str (Z8 l61)) (v2 := i6 0) rfl rfl rfl (fin rfl)
theorem k8 {a0 : (List UInt8)} {a1 : T_tag_File} {v1_1 : Value} {r : (List UInt8) × Int} {w : World} {h : Jo} (hw : Know h w Y2) (f1_1 : FrN h 1 v1_1 gs_tag_Entry a1.Dirs) (H : Wd a0 a1 = some r) : Does prog 8 (List.toArray [str a0, .agg #[.bool a1.Big, v1_1]]) w (fun v w' => v = (.tuple #[str r.1, i6 r.2]) ∧ Grow w w') := by
 refine enter (n := 44) func8 rfl rfl rfl Y2 [] (Sat.nil _ _)<|Zp X1<|Jc<|Ja<|?_
 refine Z5 (cs := [.bool a1.Big, v1_1]) rfl rfl rfl rfl (fun b3 => ?_)
 refine ag (str [])<|ag (i6 0)<|Jd<|Jc<|Jc<|Ja<|Qx (i := 1) (vs := [.bool a1.Big, v1_1]) isAgg24 sizeOf24 rfl rfl rfl rfl rfl<|?_
 obtain ⟨t12, h_t12, H17⟩ := Je H; clear H
 refine Qo (fun w hF hS => k17 (Jn w) (f1_1.mono (hw.now hF)) h_t12) call17 rfl rfl rfl<|ag (i6 t12)<|Jd<|Jc<|Ja<|mv (i6 t12)<|lv (Yo rfl rfl)<|Jd<|?_
 revert H17
 refine ci (decide (t12 ≠ 0)) rfl (fun hb H18=>?_) fun hb H19=>?_
 ·refine Jc<|Ja<|mv (i6 t12)<|ag (str [])<|ag (i6 t12)<|Jd<|Jh<|?_
  obtain rfl := sj H18
  refine Z2 (v1 := str []) (v2 := i6 t12) rfl rfl rfl (fin rfl)
 ·refine Ji<|Jc<|Ja<|mv (str a0)<|?_
  obtain ⟨t18, h_t18, H20⟩ := Je H19; clear H19
  refine Yw (Qm (rds := []) (G := fun x : (Option Addr × Nat) => .tuple #[sl x t18.1.length, i6 t18.2]) (C := fun x : (Option Addr × Nat) => rofD true 72 2 g_tag_Segment (sl x t18.1.length) t18.1.length t18.1) (fun w L' hF hS hi => k25 (Jn w)  h_t18) call25 rfl) rfl rfl rfl (fun p => ?_)
  refine c_rofD 2 rfl (fun hp css hn hc pf => ?_)
  rw [hn]
  refine Xv 2 rfl ?_
  refine Y0 0 2 rfl rfl (by decide) (fun _ _ => Yx) (fun hp_2 hle hle_2 => ?_)
  refine mv (.tuple #[sl p css.length, i6 t18.2])<|lv (Jv (v := sl p css.length) rfl rfl)<|lv (Jv (v := i6 t18.2) rfl rfl)<|ag (sl p css.length)<|ag (i6 t18.2)<|Jd<|?_
  try dsimp only [z1, z2, z5, z6, z7, z8]
  refine Jc<|Jc<|Ja<|mv (i6 t18.2)<|lv (Yo rfl rfl)<|Jd<|?_
  try dsimp only [z1, z2, z5, z6, z7, z8]
  revert H20
  refine ci (decide (t18.2 ≠ 0)) rfl (fun hb H21=>?_) fun hb H22=>?_
  ·refine Jc<|Ja<|mv (i6 t18.2)<|ag (str [])<|ag (i6 t18.2)<|Jd<|?_
   try dsimp only [z1, z2, z5, z6, z7, z8]
   refine Jh ?_
   obtain rfl := sj H21
   refine Z2 (v1 := str []) (v2 := i6 t18.2) rfl rfl rfl (fin rfl)
  ·refine Ji<|Jc<|Ja<|Qx (i := 1) (vs := [.bool a1.Big, v1_1]) isAgg24 sizeOf24 rfl rfl rfl rfl rfl<|?_
   obtain ⟨t25, h_t25, H23⟩ := Je H22; clear H22
   refine Qo (fun w hF hS => k26 (Jn w) (f1_1.mono (hw.now hF)) h_t25) call26 rfl rfl rfl ?_
   obtain ⟨t26, h_t26, H24⟩ := Je H23; clear H23
   refine lv (r_concatG rfl rfl h_t26)<|lv (Q6 (pl := #[(0, 1), (1, 1)]) (ps := [(0, i6 225), (1, str t26)]) (cells := #[i6 225, str t26]) zeroValue72 runUnderlying72 (fun w => by kernel_rfl) rfl rfl)<|?_
   refine Xf (cs := [i6 0, str []]) zeroValue72 rfl rfl rfl (fun b4 => ?_)
   refine st (i := 4) [i6 225, str t26] [i6 225, str t26] sizeOf72 rfl rfl<|Jd<|?_
   try dsimp only [z1, z2, z5, z6, z7, z8]
   refine Q3 (r := r) (σ := (List T_tag_Segment)) (τ := (List (List Value)) × (Option Addr × Nat)) (fun s => Zy s) (fun s t => [(7, .slice t.2.1 t.1.length t.2.2)]) (fun s t => [Xm X1 hp_2, Zw 72 2 (.slice t.2.1 t.1.length t.2.2) t.1.length (t.1.map idC)]) (fun s t => AllC g_tag_Segment hp_2 2 t.1 s) ?_ ?_
   ·refine Jc ?_
    try dsimp only [z1, z2, z5, z6, z7, z8]
    refine Ja<|mv (sl p css.length)<|?_
    obtain ⟨t29, h_t29, H27⟩ := Je H24; clear H24
    refine Qo (fun w hF hS => k27 (Jn w) (Ux (xs := t18.1) (frs_off (i := 3) rfl hS rfl) ((pf.mono hle_2).mono (Zj (i := 0) hS rfl Yx))) h_t29) call27 rfl rfl rfl<|ag (i6 t29)<|Jd<|?_
    try dsimp only [z1, z2, z5, z6, z7, z8]
    refine Jc<|Ja<|mv (i6 t29)<|lv (r_geq rfl rfl)<|Jd<|?_
    try dsimp only [z1, z2, z5, z6, z7, z8]
    revert H27
    refine ci (decide (0 ≤ t29)) rfl (fun hb H28=>?_) fun hb H31=>?_
    ·refine Ja<|mv (sl p css.length)<|mv (i6 t29)<|Qx (i := 4) (vs := [i6 225, str t26]) isAgg72 sizeOf72 rfl rfl rfl rfl rfl<|?_
     obtain ⟨t35, h_t35, H29⟩ := Je H28; clear H28
     refine Qs (fun w hF hS => Zt underlying67 sizeOf72 rfl rfl (offOf (i := 3) hS rfl) rfl ((pf.mono hle_2).ix h_t35)) rfl rfl rfl ?_
     obtain ⟨l3, h_l3, H30⟩ := Je H29; clear H29
     refine l_turn0 (turns_storeGO (rds := []) (q := 3) (j := 0) (i := t29) (sz := 2) (hm := rfl) (f := idC) (xs := css) (z := [i6 225, str t26]) (vs := [i6 225, str t26]) sizeOf72 rfl rfl rfl rfl rfl rfl rfl rfl (fun y_ hy_ => (pf.mono hle_2).wrE h_l3 rfl y_ hy_) ((pf.mono hle_2).gSetE h_l3)) rfl rfl (fun _ => ?_)
     have pf_3 : AllC g_tag_Segment hp_2 2 (List.set css (Int.toNat t29) [Value.int .i64 225, str t26]) l3 := AllC.setE (pf.mono hle_2) h_l3 rfl (⟨rfl, rfl⟩)
     refine Jd ?_
     try dsimp only [z1, z2, z5, z6, z7, z8]
     rw [show css.length = (List.set css (Int.toNat t29) [Value.int .i64 225, str t26]).length from (rfl.trans (setE_len _ _ _))]
     exact cl l3 ((List.set css (Int.toNat t29) [Value.int .i64 225, str t26]), p) 0 [0, 3] (by exact ⟨H30, pf_3⟩)
    ·refine Ja<|mv (sl p css.length)<|Qx (i := 4) (vs := [i6 225, str t26]) isAgg72 sizeOf72 rfl rfl rfl rfl rfl<|?_
     refine J9 (vs := [.agg #[i6 225, str t26]]) (cs := [i6 225, str t26]) underlying67 sizeOf72 zeroValue72 rfl rfl rfl rfl rfl rfl rfl (fun b5 => ?_)
     obtain ⟨t39, h_t39, H32⟩ := Je H31; clear H31
     obtain ⟨hg, pf_4⟩ := AllC.ins (cs := [i6 225, str t26]) (pf.mono hle_2) h_t39 rfl (⟨rfl, rfl⟩)
     refine Qk (Qe (i := 3) (rds := [5]) (G := fun x : Option Addr × Nat => sl x (Zr css 0 [i6 225, str t26]).length) (C := fun x : Option Addr × Nat => Zw 72 2 (sl x (Zr css 0 [i6 225, str t26]).length) (Zr css 0 [i6 225, str t26]).length ((Zr css 0 [i6 225, str t26]).map idC)) rfl (fun w L' S hF hS hi hp hlt ho hA => k28 (p0 := p) (cs1 := [i6 225, str t26]) hp hlt (Xi w S) rfl (AllC.ones (pf.mono hle_2) (fun c_ x_ f_ => by obtain ⟨q0_, q1_⟩ := f_; exact fun j_ hj_ => match j_, hj_ with | 0, _ => (by rw [q0_]; rfl) | 1, _ => (by rw [q1_]; rfl))) rfl rfl (cell_but (j := 5) hA hS (by decide) ((hi 5 (by simp)).trans rfl)) hg) call28 rfl) rfl rfl rfl (fun p_3 => ?_)
     refine ag (sl p_3 ((Zr css 0 [i6 225, str t26]).length))<|Jd<|?_
     try dsimp only [z1, z2, z5, z6, z7, z8]
     exact cl t39 ((Zr css 0 [i6 225, str t26]), p_3) 0 [0, 3] (by exact ⟨H32, pf_4⟩)
   ·rintro l ⟨css_2, p_2⟩ gg H25 pf_2
    try dsimp only at H25
    try dsimp only
    refine Jc<|Ja<|mv (sl p_2 css_2.length)<|?_
    obtain ⟨t41, h_t41, H26⟩ := Je H25; clear H25
    refine Qo (fun w hF hS => k29 (Jn w) (Ux (xs := l) (frs_off (i := 1) rfl hS rfl) (pf_2.mono (Zj (i := 0) hS rfl Yx))) h_t41) call29 rfl rfl rfl<|lv (Jv (v := str t41.1) rfl rfl)<|lv (Jv (v := i6 t41.2) rfl rfl)<|ag (str t41.1)<|ag (i6 t41.2)<|Jd<|Jh<|?_
    obtain rfl := sj H26
    refine Z2 (v1 := str t41.1) (v2 := i6 t41.2) rfl rfl rfl (fin rfl)
theorem k30 {a0 : (List UInt8)} {r : T_tag_File × Int} {w : World} {h : Jo} (hw : Know h w Y2) (H : tag_Read a0 = some r) : Does prog 30 (List.toArray [str a0]) w (fun v w' => ∃ x : (Option Addr × Nat), v = (.tuple #[.agg #[.bool r.1.Big, sl x r.1.Dirs.length], i6 r.2]) ∧ Turn w w' Y2 (rowD 36 1 gs_tag_Entry (sl x r.1.Dirs.length) r.1.Dirs.length r.1.Dirs)) := by
 refine enter (n := 15) func30 rfl rfl rfl Y2 [] (Sat.nil _ _)<|Zp X1<|Jc<|Ja<|?_
 refine Xf (cs := [.bool false, .slice none 0 0]) zeroValue24 rfl rfl rfl (fun b2 => ?_)
 refine ag (i6 0)<|Jd<|Jc<|Ja<|mv (str a0)<|?_
 obtain ⟨t9, h_t9, H2⟩ := Je H; clear H
 refine Yw (Qm (rds := []) (G := fun x : (Option Addr × Nat) × (Option Addr × Nat) => .tuple #[.agg #[.bool t9.1.Big, .slice x.1.1 t9.1.Dirs.length x.1.2], .slice x.2.1 t9.2.1.length x.2.2, i6 t9.2.2]) (C := fun x : (Option Addr × Nat) × (Option Addr × Nat) => Jt (rowD 36 1 gs_tag_Entry (.slice x.1.1 t9.1.Dirs.length x.1.2) t9.1.Dirs.length t9.1.Dirs) (Js 140 2 (.slice x.2.1 t9.2.1.length x.2.2) t9.2.1.length (t9.2.1.map Jm))) (fun w L' hF hS hi => k63 (Jn w)  h_t9) call63 rfl) rfl rfl rfl (fun ⟨p, p_2⟩ => ?_)
 refine Xv 2 rfl ?_
 refine c_rowD 2 rfl (fun hp css hn pf => ?_)
 rw [hn]
 refine Xv 2 rfl ?_
 refine Y0 0 2 rfl rfl (by decide) (fun _ _ => Yx) (fun hp_2 hle hle_2 => ?_)
 refine mv (.tuple #[.agg #[.bool t9.1.Big, sl p css.length], sl p_2 t9.2.1.length, i6 t9.2.2])<|lv (Jv (v := .agg #[.bool t9.1.Big, sl p css.length]) rfl rfl)<|lv (Jv (v := sl p_2 t9.2.1.length) rfl rfl)<|lv (Jv (v := i6 t9.2.2) rfl rfl)<|?_
 refine Xf (cs := [.bool false, .slice none 0 0]) zeroValue24 rfl rfl rfl (fun b3 => ?_)
 refine st (i := 5) [.bool t9.1.Big, sl p css.length] [.bool t9.1.Big, sl p css.length] sizeOf24 rfl rfl<|ag (sl p_2 t9.2.1.length)<|ag (i6 t9.2.2)<|Jd<|?_
 try dsimp only [z1, z2, z5, z6, z7, z8]
 refine Jc<|Ja<|Qx (i := 5) (vs := [.bool t9.1.Big, sl p css.length]) isAgg24 sizeOf24 rfl rfl rfl rfl rfl<|mv (i6 t9.2.2)<|st (i := 1) [.bool t9.1.Big, sl p css.length] [.bool t9.1.Big, sl p css.length] sizeOf24 rfl rfl<|ag (i6 t9.2.2)<|Jd<|?_
 try dsimp only [z1, z2, z5, z6, z7, z8]
 refine Jh ?_
 obtain rfl := sj H2
 refine bo 0 4 rfl rfl<|Qn 0 rfl (Wj (p := p) rfl (pf.mono hle_2))<|?_
 refine retCt (i := 1) (vs := [.bool t9.1.Big, sl p css.length]) (v2 := i6 t9.2.2) isAgg24 sizeOf24 rfl rfl rfl rfl rfl (Yy p (i := 0) rfl (by first | rfl | rw [(show css.length = t9.1.Dirs.length from hn.symm)]) (by first | exact Imp.refl _ | exact Imp.of (by rw [(show css.length = t9.1.Dirs.length from hn.symm)] <;> rfl)))
theorem k9 {a0 : (List UInt8)} {r : T_tag_File × Int} {w : World} {h : Jo} (hw : Know h w Y2) (H : Up a0 = some r) : Does prog 9 (List.toArray [str a0]) w (fun v w' => ∃ x : (Option Addr × Nat), v = (.tuple #[.agg #[.bool r.1.Big, sl x r.1.Dirs.length], i6 r.2]) ∧ Turn w w' Y2 (rowD 36 1 gs_tag_Entry (sl x r.1.Dirs.length) r.1.Dirs.length r.1.Dirs)) := by
 refine enter (n := 30) func9 rfl rfl rfl Y2 [] (Sat.nil _ _)<|Zp X1<|Jc<|Ja<|?_
 refine Xf (cs := [.bool false, .slice none 0 0]) zeroValue24 rfl rfl rfl (fun b1 => ?_)
 refine ag (i6 0)<|Jd<|Jc<|Ja<|mv (str a0)<|?_
 obtain ⟨t9, h_t9, H10⟩ := Je H; clear H
 refine Yw (Qm (rds := []) (G := fun x : (Option Addr × Nat) => .tuple #[sl x t9.1.length, i6 t9.2]) (C := fun x : (Option Addr × Nat) => rofD true 72 2 g_tag_Segment (sl x t9.1.length) t9.1.length t9.1) (fun w L' hF hS hi => k25 (Jn w)  h_t9) call25 rfl) rfl rfl rfl (fun p => ?_)
 refine c_rofD 2 rfl (fun hp css hn hc pf => ?_)
 rw [hn]
 refine Xv 2 rfl ?_
 refine Y0 0 2 rfl rfl (by decide) (fun _ _ => Yx) (fun hp_2 hle hle_2 => ?_)
 refine mv (.tuple #[sl p css.length, i6 t9.2])<|lv (Jv (v := sl p css.length) rfl rfl)<|lv (Jv (v := i6 t9.2) rfl rfl)<|ag (sl p css.length)<|ag (i6 t9.2)<|Jd<|?_
 try dsimp only [z1, z2, z5, z6, z7, z8]
 refine Jc<|Jc<|Ja<|mv (i6 t9.2)<|lv (Yo rfl rfl)<|Jd<|?_
 try dsimp only [z1, z2, z5, z6, z7, z8]
 revert H10
 refine ci (decide (t9.2 ≠ 0)) rfl (fun hb H11=>?_) fun hb H12=>?_
 ·refine Jc<|Ja<|lv (Q6 (pl := #[(0, 1), (1, 1)]) (ps := []) (cells := #[.bool false, .slice none 0 0]) zeroValue24 runUnderlying24 (fun w => by kernel_rfl) rfl rfl)<|mv (i6 t9.2)<|st (i := 1) [.bool false, .slice none 0 0] [.bool false, .slice none 0 0] sizeOf24 rfl rfl<|ag (i6 t9.2)<|Jd<|?_
  try dsimp only [z1, z2, z5, z6, z7, z8]
  refine Jh<|J5 36 1<|?_
  obtain rfl := sj H11
  refine bo 0 4 rfl rfl<|Qn 0 rfl (Wj (p := nn) rfl (AllC.nil (G := gs_tag_Entry) (h := hp_2) (sz := 1)))<|?_
  refine retCt (i := 1) (vs := [.bool false, sl nn (([] : List (List Value)).length)]) (v2 := i6 t9.2) isAgg24 sizeOf24 rfl rfl rfl rfl rfl (Yy nn (i := 0) rfl (by first | rfl | rw [(show (([] : List (List Value)).length) = ([] : List (List T_tag_Entry)).length from (AllC.nil (G := gs_tag_Entry) (h := hp_2) (sz := 1)).len)]) (by first | exact Imp.refl _ | exact Imp.of (by rw [(show (([] : List (List Value)).length) = ([] : List (List T_tag_Entry)).length from (AllC.nil (G := gs_tag_Entry) (h := hp_2) (sz := 1)).len)] <;> rfl)))
 ·refine Ji<|Jc<|Ja<|mv (sl p css.length)<|?_
  obtain ⟨t17, h_t17, H13⟩ := Je H12; clear H12
  refine Qo (fun w hF hS => k27 (Jn w) (Ux (xs := t9.1) (frs_off (i := 3) rfl hS rfl) ((pf.mono hle_2).mono (Zj (i := 0) hS rfl Yx))) h_t17) call27 rfl rfl rfl<|ag (i6 t17)<|Jd<|?_
  try dsimp only [z1, z2, z5, z6, z7, z8]
  refine Jc<|Jc<|Ja<|mv (i6 t17)<|lv (Yc rfl rfl)<|Jd<|?_
  try dsimp only [z1, z2, z5, z6, z7, z8]
  revert H13
  refine ci (decide (t17 < 0)) rfl (fun hb H14=>?_) fun hb H15=>?_
  ·refine Jc<|Ja<|lv (Q6 (pl := #[(0, 1), (1, 1)]) (ps := []) (cells := #[.bool false, .slice none 0 0]) zeroValue24 runUnderlying24 (fun w => by kernel_rfl) rfl rfl)<|st (i := 1) [.bool false, .slice none 0 0] [.bool false, .slice none 0 0] sizeOf24 rfl rfl<|ag (i6 7)<|Jd<|?_
   try dsimp only [z1, z2, z5, z6, z7, z8]
   refine Jh<|J5 36 1<|?_
   obtain rfl := sj H14
   refine bo 0 4 rfl rfl<|Qn 0 rfl (Wj (p := nn) rfl (AllC.nil (G := gs_tag_Entry) (h := hp_2) (sz := 1)))<|?_
   refine retCt (i := 1) (vs := [.bool false, sl nn (([] : List (List Value)).length)]) (v2 := i6 7) isAgg24 sizeOf24 rfl rfl rfl rfl rfl (Yy nn (i := 0) rfl (by first | rfl | rw [(show (([] : List (List Value)).length) = ([] : List (List T_tag_Entry)).length from (AllC.nil (G := gs_tag_Entry) (h := hp_2) (sz := 1)).len)]) (by first | exact Imp.refl _ | exact Imp.of (by rw [(show (([] : List (List Value)).length) = ([] : List (List T_tag_Entry)).length from (AllC.nil (G := gs_tag_Entry) (h := hp_2) (sz := 1)).len)] <;> rfl)))
  ·refine Ji<|Jc<|Ja<|mv (sl p css.length)<|mv (i6 t17)<|?_
   obtain ⟨t23, h_t23, H16⟩ := Je H15; clear H15
   refine Qs (fun w hF hS => Zt underlying67 sizeOf72 rfl rfl (offOf (i := 3) hS rfl) rfl ((pf.mono hle_2).ix h_t23)) rfl rfl rfl ?_
   refine c_know (fun w hF hS => someOfO (i := 3) hS rfl ((pf.mono hle_2).ix h_t23)) (fun hs => ?_)
   refine lv (r_fieldP runUnderlying72 rfl sizeOf9 rfl rfl hs)<|Qs (fun w hF hS => Q9 (f := idC) (i := t17) (sz := 2) (j := 1) (v := str t23.Text) isAgg9 rfl rfl (offOf (i := 3) hS rfl) ((pf.mono hle_2).ix h_t23) (rg_of (((pf.mono hle_2).eta h_t23).trans (cg_tag_Segment ((pf.mono hle_2).at h_t23))) rfl)) rfl rfl rfl<|?_
   obtain ⟨t26, h_t26, H17⟩ := Je H16; clear H16
   refine lv (r_cutFromG underlying9 rfl rfl h_t26) ?_
   obtain ⟨t27, h_t27, H18⟩ := Je H17; clear H17
   refine Yw (Qm (rds := []) (G := fun x : (Option Addr × Nat) => .tuple #[.agg #[.bool t27.1.Big, sl x t27.1.Dirs.length], i6 t27.2]) (C := fun x : (Option Addr × Nat) => rowD 36 1 gs_tag_Entry (sl x t27.1.Dirs.length) t27.1.Dirs.length t27.1.Dirs) (fun w L' hF hS hi => k30 (Jn w)  h_t27) call30 rfl) rfl rfl rfl (fun p_2 => ?_)
   refine c_rowD 4 rfl (fun hp_3 css_2 hn_2 pf_2 => ?_)
   rw [hn_2]
   refine Xv 4 rfl ?_
   refine Y0 0 4 rfl rfl (by decide) (fun _ _ => Yx) (fun hp_4 hle_3 hle_4 => ?_)
   refine lv (Jv (v := .agg #[.bool t27.1.Big, sl p_2 css_2.length]) rfl rfl)<|lv (Jv (v := i6 t27.2) rfl rfl)<|st (i := 1) [.bool t27.1.Big, sl p_2 css_2.length] [.bool t27.1.Big, sl p_2 css_2.length] sizeOf24 rfl rfl<|ag (i6 t27.2)<|Jd<|?_
   try dsimp only [z1, z2, z5, z6, z7, z8]
   refine Jh ?_
   obtain rfl := sj H18
   refine bo 0 5 rfl rfl<|Qn 0 rfl (Wj (p := p_2) rfl (pf_2.mono hle_4))<|?_
   refine retCt (i := 1) (vs := [.bool t27.1.Big, sl p_2 css_2.length]) (v2 := i6 t27.2) isAgg24 sizeOf24 rfl rfl rfl rfl rfl (Yy p_2 (i := 0) rfl (by first | rfl | rw [(show css_2.length = t27.1.Dirs.length from hn_2.symm)]) (by first | exact Imp.refl _ | exact Imp.of (by rw [(show css_2.length = t27.1.Dirs.length from hn_2.symm)] <;> rfl)))
end Go.Proofs.YtdcppgplkfkjiaaGreatDoor

/- TopCarried, places: the walks, printed by our generator; each follows its model. Conditions: the model yields a value. -/
namespace Go.Proofs.YtdcppgplkfkjiaaGreatDoor
open Go Go.Vc Go.Md Go.M Go.Lx Tryz
set_option maxRecDepth 100000
set_option maxHeartbeats 4000000
set_option linter.unusedVariables false
theorem k36 {a0 : Int} {a1 : Int} {a2 : Int} {r : Bool} (H : Z4 a0 a1 a2 = some r) : Ret prog 36 [i6 a0, i6 a1, i6 a2] (.bool r) := by
 refine Xr (n := 15) func36 rfl rfl rfl (fun wd => ?_)
 refine Jc<|Ja<|ag (.bool false)<|Jd<|Jc<|Ja<|mv (i6 a0)<|mv (i6 a1)<|lv (Yc rfl rfl)<|mv (.bool (decide (a0 < a1)))<|?_
 revert H
 refine sp (fun hb H3=>?_) fun hb H4=>?_
 ·refine pa<|pa<|pa<|pT (.bool true)<|ag (.bool true)<|Jd<|Jh<|?_
  obtain rfl := sj H3
  exact r1 (.bool true)
 ·refine mv (i6 a0)<|mv (i6 a2)<|lv (Vz rfl rfl)<|pF (.bool (decide (a2 < a0)))<|ag (.bool (decide (a2 < a0)))<|Jd<|Jh<|?_
  obtain rfl := sj H4
  exact r1 (.bool (decide (a2 < a0)))
theorem k14 {a0 : Int} {r : Bool} (H : where_isLat a0 = some r) : Ret prog 14 [i6 a0] (.bool r) := by
 refine Xr (n := 6) func14 rfl rfl rfl (fun wd => ?_)
 refine Jc<|Ja<|ag (.bool false)<|Jd<|Jc<|Ja<|mv (i6 a0)<|?_
 obtain ⟨t4, h_t4, H2⟩ := Je H; clear H
 refine Xy (k36 h_t4) call36 rfl rfl rfl<|lv (Uu rfl)<|ag (.bool (!t4))<|Jd<|Jh<|?_
 obtain rfl := sj H2
 exact r1 (.bool (!t4))
theorem k15 {a0 : Int} {r : Bool} (H : where_isLon a0 = some r) : Ret prog 15 [i6 a0] (.bool r) := by
 refine Xr (n := 6) func15 rfl rfl rfl (fun wd => ?_)
 refine Jc<|Ja<|ag (.bool false)<|Jd<|Jc<|Ja<|mv (i6 a0)<|?_
 obtain ⟨t4, h_t4, H2⟩ := Je H; clear H
 refine Xy (k36 h_t4) call36 rfl rfl rfl<|lv (Uu rfl)<|ag (.bool (!t4))<|Jd<|Jh<|?_
 obtain rfl := sj H2
 exact r1 (.bool (!t4))
theorem k5 {a0 : T_api_Place} {r : Int} (H : Yt a0 = some r) : Ret prog 5 [.agg #[i6 a0.Lat, i6 a0.Lon]] (i6 r) := by
 refine Xr (n := 13) func5 rfl rfl rfl (fun wd => ?_)
 refine Jc<|Ja<|?_
 refine Z5 (cs := [i6 a0.Lat, i6 a0.Lon]) rfl rfl rfl rfl (fun b1 => ?_)
 refine ag (i6 0)<|Jd<|Jc<|Jc<|Ja<|lf runUnderlying26 rfl sizeOf3 rfl<|ll 0 (i6 a0.Lat) isAgg3<|?_
 obtain ⟨t5, h_t5, H7⟩ := Je H; clear H
 refine Xy (k14 h_t5) call14 rfl rfl rfl<|lv (Uu rfl)<|mv (.bool (!t5))<|?_
 revert H7
 refine sp (fun hb H8=>?_) fun hb H9=>?_
 ·refine pa<|pa<|pa<|pa<|pT (.bool true)<|Jd<|Ws rfl<|Jc<|Ja<|ag (i6 2)<|Jd<|Jh<|?_
  obtain rfl := sj H8
  exact r1 (i6 2)
 ·refine lf runUnderlying26 rfl sizeOf3 rfl<|ll 0 (i6 a0.Lon) isAgg3<|?_
  obtain ⟨t10, h_t10, H10⟩ := Je H9; clear H9
  refine Xy (k15 h_t10) call15 rfl rfl rfl<|lv (Uu rfl)<|pF (.bool (!t10))<|Jd<|?_
  revert H10
  refine ci (!t10) rfl (fun hb H11=>?_) fun hb H12=>?_
  ·refine Jc<|Ja<|ag (i6 2)<|Jd<|Jh<|?_
   obtain rfl := sj H11
   exact r1 (i6 2)
  ·refine Ji<|Jc<|Ja<|ag (i6 0)<|Jd<|Jh<|?_
   obtain rfl := sj H12
   exact r1 (i6 0)
theorem k67 {a0 : Int} {r : (List UInt8)} {w : World} {h : Jo} (hw : Know h w Y2) (tb_pow10 : TabH prog h "internal/strconv.uint64pow10" .u64 Lib.pow10Tab) (H : gItoa a0 = some r) : Does prog 67 (List.toArray [i6 a0]) w (fun v w' => v = (str r) ∧ Grow w w') :=
  itoa_does (ρ := Go.Proofs.Tryz.laysM171_ren) Go.Proofs.Tryz.laysM171 hw tb_pow10 H
theorem k68 {a0 : (List UInt8)} {a1 : Int} {r : (List UInt8)} (H : gRep a0 a1 = some r) : Ret prog 68 [str a0, i6 a1] (str r) :=
  rep_ret (ρ := Go.Proofs.Tryz.lays105_ren) Go.Proofs.Tryz.lays105 Go.Proofs.Tryz.Builder_Extra_105 H
theorem k39 {a0 : Int} {r : (List UInt8)} {w : World} {h : Jo} (hw : Know h w Y2) (tb_pow10 : TabH prog h "internal/strconv.uint64pow10" .u64 Lib.pow10Tab) (H : Zd a0 = some r) : Does prog 39 (List.toArray [i6 a0]) w (fun v w' => v = (str r) ∧ Grow w w') := by
 refine enter (n := 25) func39 rfl rfl rfl Y2 [] (Sat.nil _ _)<|Jc<|Ja<|ag (str [])<|Jd<|Jc<|Ja<|ag (str [])<|Jd<|?_
 refine Q3 (r := r) (σ := Int × (List UInt8)) (τ := Unit) (fun s => Ul s.1 s.2) (fun s t => [(0, i6 s.1), (3, str s.2)]) (fun s t => []) (fun s t => True) ?_ ?_
 ·refine Jc<|Ja<|mv (i6 a0)<|lv (Yc rfl rfl)<|Jd<|?_
  revert H
  refine ci (decide (a0 < 0)) rfl (fun hb H26=>?_) fun hb H28=>?_
  ·refine Ja<|mv (i6 a0)<|?_
   obtain ⟨t8, h_t8, H27⟩ := Je H26; clear H26
   refine lv (r_negG rfl h_t8)<|ag (str [45])<|ag (i6 t8)<|Jd<|?_
   exact cl (t8, [45]) () 0 [] (by exact ⟨H27, trivial⟩)
  ·refine Ji ?_
   exact cl (a0, []) () 0 [] (by exact ⟨H28, trivial⟩)
 ·rintro ⟨x0, x3⟩ _ gg H15 _
  try dsimp only at H15
  try dsimp only
  refine Jc<|Ja<|mv (i6 x0)<|?_
  obtain ⟨t10, h_t10, H16⟩ := Je H15; clear H15
  refine lv (r_remG rfl rfl h_t10) ?_
  obtain ⟨t11, h_t11, H17⟩ := Je H16; clear H16
  refine Qo (fun w hF hS => k67 (Jn w) (tb_pow10.mono (hw.now hF)) h_t11) call67 rfl rfl rfl<|ag (str t11)<|Jd<|Jc<|Ja<|mv (str x3)<|mv (i6 x0)<|?_
  obtain ⟨t14, h_t14, H18⟩ := Je H17; clear H17
  refine lv (r_quoG rfl rfl h_t14) ?_
  obtain ⟨t15, h_t15, H19⟩ := Je H18; clear H18
  refine Qo (fun w hF hS => k67 (Jn w) (tb_pow10.mono (hw.now hF)) h_t15) call67 rfl rfl rfl ?_
  obtain ⟨t16, h_t16, H20⟩ := Je H19; clear H19
  refine lv (r_concatG rfl rfl h_t16) ?_
  obtain ⟨t17, h_t17, H21⟩ := Je H20; clear H20
  refine lv (r_concatG rfl rfl h_t17)<|mv (str t11)<|lv (Vn underlying9 rfl)<|?_
  obtain ⟨t20, h_t20, H22⟩ := Je H21; clear H21
  refine lv (Vh rfl rfl h_t20) ?_
  obtain ⟨t21, h_t21, H23⟩ := Je H22; clear H22
  refine Xy (k68 h_t21) call68 rfl rfl rfl ?_
  obtain ⟨t22, h_t22, H24⟩ := Je H23; clear H23
  refine lv (r_concatG rfl rfl h_t22)<|mv (str t11)<|?_
  obtain ⟨t24, h_t24, H25⟩ := Je H24; clear H24
  refine lv (r_concatG rfl rfl h_t24)<|ag (str t24)<|Jd<|Jh<|?_
  obtain rfl := sj H25
  exact r1 (str t24)
theorem k13 {a0 : T_api_Place} {r : (List UInt8) × Int} {w : World} {h : Jo} (hw : Know h w Y2) (tb_pow10 : TabH prog h "internal/strconv.uint64pow10" .u64 Lib.pow10Tab) (H : where_PlaceText a0 = some r) : Does prog 13 (List.toArray [.agg #[i6 a0.Lat, i6 a0.Lon]]) w (fun v w' => v = (.tuple #[str r.1, i6 r.2]) ∧ Grow w w') := by
 refine enter (n := 18) func13 rfl rfl rfl Y2 [] (Sat.nil _ _)<|Jc<|Ja<|?_
 refine Z5 (cs := [i6 a0.Lat, i6 a0.Lon]) rfl rfl rfl rfl (fun b1 => ?_)
 refine ag (str [])<|ag (i6 0)<|Jd<|Jc<|Jc<|Ja<|Qx (i := 0) (vs := [i6 a0.Lat, i6 a0.Lon]) isAgg26 sizeOf26 rfl rfl rfl rfl rfl<|?_
 obtain ⟨t6, h_t6, H8⟩ := Je H; clear H
 refine Xy (k5 h_t6) call5 rfl rfl rfl<|ag (i6 t6)<|Jd<|Jc<|Ja<|mv (i6 t6)<|lv (Yo rfl rfl)<|Jd<|?_
 revert H8
 refine ci (decide (t6 ≠ 0)) rfl (fun hb H9=>?_) fun hb H10=>?_
 ·refine Jc<|Ja<|mv (i6 t6)<|ag (str [])<|ag (i6 t6)<|Jd<|Jh<|?_
  obtain rfl := sj H9
  refine Z2 (v1 := str []) (v2 := i6 t6) rfl rfl rfl (fin rfl)
 ·refine Ji<|Jc<|?_
  exact Qi (Kd.p :: Kd.d [0] _ :: Kd.d [] _ :: Kd.p :: Kd.p :: Kd.d [0] _ :: Kd.d [] _ :: Kd.p :: Kd.p :: Kd.p :: []) 0 mixed (by
   refine dv (J3 runUnderlying26 rfl sizeOf3 rfl rfl)<|dl (i6 a0.Lat) isAgg3<|?_
   have h_t12 := J0 H10
   have H11 := Ju H10
   refine Ua (fun w L' hF hS hi => k39 (Jn w) (tb_pow10.mono (hw.now hF)) h_t12) call39 rfl rfl ?_
   have h_t13 := J0 H11
   have H12 := Ju H11
   refine dv (r_concatG rfl rfl h_t13)<|dv (J3 runUnderlying26 rfl sizeOf3 rfl rfl)<|dl (i6 a0.Lon) isAgg3<|?_
   have h_t16 := J0 H12
   have H13 := Ju H12
   refine Ua (fun w L' hF hS hi => k39 (Jn w) (tb_pow10.mono (hw.now hF)) h_t16) call39 rfl rfl ?_
   have h_t17 := J0 H13
   have H14 := Ju H13
   refine dv (r_concatG rfl rfl h_t17)<|Qq rfl rfl (Jw (v := str (val (gCat (val (gCat (val (Zd a0.Lat)) [32])) (val (Zd a0.Lon))))) rfl)<|Qq rfl rfl (Jw (v := i6 0) rfl)<|Y8<|Jh<|?_
   obtain rfl := sj H14
   refine Z2 (v1 := str (val (gCat (val (gCat (val (Zd a0.Lat)) [32])) (val (Zd a0.Lon))))) (v2 := i6 0) rfl rfl rfl (fin rfl)
   ) (by kernel_rfl)
theorem k4 {r : Bool} {w : World} {h : Jo} (hw : Know h w Y2) (tb_pow10 : TabH prog h "internal/strconv.uint64pow10" .u64 Lib.pow10Tab) (H : Jap = some r) : Does prog 4 (List.toArray []) w (fun v w' => v = (.bool r) ∧ Grow w w') := by
 refine enter (n := 14) func4 rfl rfl rfl Y2 [] (Sat.nil _ _)<|Jc<|Ja<|ag (.bool false)<|Jd<|Jc<|Ja<|lv (Q6 (pl := #[(0, 1), (1, 1)]) (ps := []) (cells := #[i6 0, i6 0]) zeroValue26 runUnderlying26 (fun w => by kernel_rfl) rfl rfl)<|?_
 obtain ⟨t5, h_t5, H4⟩ := Je H; clear H
 refine Qo (fun w hF hS => k13 (Jn w) (tb_pow10.mono (hw.now hF)) h_t5) call13 rfl rfl rfl<|mv (.tuple #[str t5.1, i6 t5.2])<|lv (Jv (v := str t5.1) rfl rfl)<|lv (Jv (v := i6 t5.2) rfl rfl)<|ag (str t5.1)<|ag (i6 t5.2)<|Jd<|Jc<|Ja<|mv (i6 t5.2)<|lv (Xg rfl rfl)<|mv (.bool (decide (t5.2 = 0)))<|?_
 revert H4
 refine sp (fun hb H5=>?_) fun hb H6=>?_
 ·refine mv (str t5.1)<|lv (r_eqlT rfl rfl)<|pT (.bool (decide (t5.1 = [48, 46, 48, 48, 48, 48, 48, 48, 32, 48, 46, 48, 48, 48, 48, 48, 48])))<|ag (.bool (decide (t5.1 = [48, 46, 48, 48, 48, 48, 48, 48, 32, 48, 46, 48, 48, 48, 48, 48, 48])))<|Jd<|Jh<|?_
  obtain rfl := sj H5
  exact r1 (.bool (decide (t5.1 = [48, 46, 48, 48, 48, 48, 48, 48, 32, 48, 46, 48, 48, 48, 48, 48, 48])))
 ·refine pa<|pa<|pF (.bool false)<|ag (.bool false)<|Jd<|Jh<|?_
  obtain rfl := sj H6
  exact r1 (.bool false)
theorem k6 {a0 : Int} {r : (List T_tag_Ratio) × Int} {w : World} {h : Jo} (hw : Know h w Y2) (H : tag_Ratios a0 = some r) : Does prog 6 (List.toArray [i6 a0]) w (fun v w' => ∃ x : (Option Addr × Nat), v = (.tuple #[sl x r.1.length, i6 r.2]) ∧ Turn w w' Y2 (Js 52 2 (sl x r.1.length) r.1.length (r.1.map Jl))) := by
 refine enter (n := 24) func6 rfl rfl rfl Y2 [] (Sat.nil _ _)<|Jc<|Ja<|ag (.slice none 0 0)<|ag (i6 0)<|Jd<|Jc<|Jc<|Ja<|mv (i6 a0)<|?_
 obtain ⟨t7, h_t7, H11⟩ := Je H; clear H
 refine Xy (k16 h_t7) call16 rfl rfl rfl<|Jd<|?_
 revert H11
 refine ci t7 rfl (fun hb H12=>?_) fun hb H13=>?_
 ·refine Jc<|Ja<|ag (.slice none 0 0)<|ag (i6 2)<|Jd<|Jh<|J5 52 2<|?_
  obtain rfl := sj H12
  refine Z2 (v1 := sl nn ([] : List T_tag_Ratio).length) (v2 := i6 2) rfl rfl rfl (Yy nn (i := 0) rfl rfl (Imp.refl _))
 ·refine Ji<|Jc<|Ja<|mv (i6 a0)<|?_
  obtain ⟨t9, h_t9, H14⟩ := Je H13; clear H13
  refine lv (r_remG rfl rfl h_t9) ?_
  obtain ⟨t10, h_t10, H15⟩ := Je H14; clear H14
  refine lv (V5 rfl rfl h_t10)<|ag (i6 t10)<|Jd<|Jc<|Ja<|mv (i6 t10)<|?_
  obtain ⟨t12, h_t12, H16⟩ := Je H15; clear H15
  refine lv (r_remG rfl rfl h_t12) ?_
  obtain ⟨t13, h_t13, H17⟩ := Je H16; clear H16
  refine lv (V5 rfl rfl h_t13)<|ag (i6 t13)<|Jd<|Jc<|Ja<|mv (i6 a0)<|?_
  obtain ⟨t15, h_t15, H18⟩ := Je H17; clear H17
  refine lv (r_quoG rfl rfl h_t15)<|lv (Q6 (pl := #[(0, 1), (1, 1)]) (ps := [(0, i6 t15), (1, i6 1)]) (cells := #[i6 t15, i6 1]) zeroValue52 runUnderlying52 (fun w => by kernel_rfl) rfl rfl)<|mv (i6 t10)<|?_
  obtain ⟨t18, h_t18, H19⟩ := Je H18; clear H18
  refine lv (r_quoG rfl rfl h_t18)<|lv (Q6 (pl := #[(0, 1), (1, 1)]) (ps := [(0, i6 t18), (1, i6 1)]) (cells := #[i6 t18, i6 1]) zeroValue52 runUnderlying52 (fun w => by kernel_rfl) rfl rfl)<|mv (i6 t13)<|?_
  obtain ⟨t21, h_t21, H20⟩ := Je H19; clear H19
  refine lv (r_quoG rfl rfl h_t21)<|lv (Q6 (pl := #[(0, 1), (1, 1)]) (ps := [(0, i6 t21), (1, i6 10000)]) (cells := #[i6 t21, i6 10000]) zeroValue52 runUnderlying52 (fun w => by kernel_rfl) rfl rfl)<|?_
  refine J9 (vs := [.agg #[i6 t15, i6 1], .agg #[i6 t18, i6 1], .agg #[i6 t21, i6 10000]]) (cs := [i6 t15, i6 1, i6 t18, i6 1, i6 t21, i6 10000]) underlying31 sizeOf52 zeroValue52 rfl rfl rfl rfl rfl rfl rfl (fun b1 => ?_)
  refine ag (.slice (some ⟨b1, 0, none⟩) 3 3)<|ag (i6 0)<|Jd<|Jh<|Qn 0 rfl (imp_box (m := 3) (E := 52) (sz := 2) (xs := (([(⟨t15, 1⟩ : T_tag_Ratio), (⟨t18, 1⟩ : T_tag_Ratio), (⟨t21, 10000⟩ : T_tag_Ratio)] : List T_tag_Ratio)).map Jl) rfl rfl rfl ⟨rfl, by decide⟩)<|?_
  obtain rfl := sj H20
  refine Z2 (v1 := .slice ((some ⟨b1, 0, none⟩, 3) : Option Addr × Nat).1 3 ((some ⟨b1, 0, none⟩, 3) : Option Addr × Nat).2) (v2 := i6 0) rfl rfl rfl (Yy ((some ⟨b1, 0, none⟩, 3) : Option Addr × Nat) (i := 0) rfl rfl (Imp.refl _))
theorem k31 {a0 : T_tag_Ratio} {r : Int} (H : Jak a0 = some r) : Ret prog 31 [.agg #[i6 a0.Num, i6 a0.Den]] (i6 r) := by
 refine Xr (n := 11) func31 rfl rfl rfl (fun wd => ?_)
 refine Jc<|Ja<|?_
 refine Z5 (cs := [i6 a0.Num, i6 a0.Den]) rfl rfl rfl rfl (fun b1 => ?_)
 refine ag (i6 0)<|Jd<|Jc<|Jc<|Ja<|lf runUnderlying52 rfl sizeOf3 rfl<|ll 0 (i6 a0.Num) isAgg3<|?_
 obtain ⟨t5, h_t5, H7⟩ := Je H; clear H
 refine Xy (k16 h_t5) call16 rfl rfl rfl<|mv (.bool t5)<|?_
 revert H7
 refine sp (fun hb H8=>?_) fun hb H9=>?_
 ·refine pa<|pa<|pa<|pT (.bool true)<|Jd<|Ws rfl<|Jc<|Ja<|ag (i6 2)<|Jd<|Jh<|?_
  obtain rfl := sj H8
  exact r1 (i6 2)
 ·refine lf runUnderlying52 rfl sizeOf3 rfl<|ll 0 (i6 a0.Den) isAgg3<|?_
  obtain ⟨t9, h_t9, H10⟩ := Je H9; clear H9
  refine Xy (k16 h_t9) call16 rfl rfl rfl<|pF (.bool t9)<|Jd<|?_
  revert H10
  refine ci t9 rfl (fun hb H11=>?_) fun hb H12=>?_
  ·refine Jc<|Ja<|ag (i6 2)<|Jd<|Jh<|?_
   obtain rfl := sj H11
   exact r1 (i6 2)
  ·refine Ji<|Jc<|Ja<|ag (i6 0)<|Jd<|Jh<|?_
   obtain rfl := sj H12
   exact r1 (i6 0)
theorem k66 {a0 : Int} {a1 : Int} {r : Int × Int} (H : Wv a0 a1 = some r) : Ret prog 66 [.int .u64 a0, .int .u64 a1] (.tuple #[.int .u64 r.1, .int .u64 r.2]) := by
 refine Xr (n := 51) func66 rfl rfl rfl (fun wd => ?_)
 refine Jc<|Ja<|ag (.int .u64 0)<|ag (.int .u64 0)<|Jd<|Jc<|Ja<|mv (.int .u64 a0)<|lv (r_bitsAnd (bits := 64) rfl rfl rfl (W5 _))<|ag (.int .u64 (Qw (Uw 64 a0 4294967295)))<|Jd<|Jc<|Ja<|mv (.int .u64 a0)<|?_
 obtain ⟨t17, h_t17, H6⟩ := Je H; clear H
 refine lv (r_shrG rfl rfl rfl h_t17)<|ag (.int .u64 t17)<|Jd<|Jc<|Ja<|mv (.int .u64 a1)<|lv (r_bitsAnd (bits := 64) rfl rfl rfl (W5 _))<|ag (.int .u64 (Qw (Uw 64 a1 4294967295)))<|Jd<|Jc<|Ja<|mv (.int .u64 a1)<|?_
 obtain ⟨t21, h_t21, H7⟩ := Je H6; clear H6
 refine lv (r_shrG rfl rfl rfl h_t21)<|ag (.int .u64 t21)<|Jd<|Jc<|Ja<|mv (.int .u64 (Qw (Uw 64 a0 4294967295)))<|mv (.int .u64 (Qw (Uw 64 a1 4294967295)))<|lv (r_mulW rfl rfl (W5 _))<|ag (.int .u64 (Qw ((Qw (Uw 64 a0 4294967295)) * (Qw (Uw 64 a1 4294967295)))))<|Jd<|Jc<|Ja<|mv (.int .u64 t17)<|mv (.int .u64 (Qw (Uw 64 a1 4294967295)))<|lv (r_mulW rfl rfl (W5 _))<|mv (.int .u64 (Qw ((Qw (Uw 64 a0 4294967295)) * (Qw (Uw 64 a1 4294967295)))))<|?_
 obtain ⟨t29, h_t29, H8⟩ := Je H7; clear H7
 refine lv (r_shrG rfl rfl rfl h_t29)<|lv (r_addW rfl rfl (W5 _))<|ag (.int .u64 (Qw ((Qw (t17 * (Qw (Uw 64 a1 4294967295)))) + t29)))<|Jd<|Jc<|Ja<|mv (.int .u64 (Qw ((Qw (t17 * (Qw (Uw 64 a1 4294967295)))) + t29)))<|lv (r_bitsAnd (bits := 64) rfl rfl rfl (W5 _))<|ag (.int .u64 (Qw (Uw 64 (Qw ((Qw (t17 * (Qw (Uw 64 a1 4294967295)))) + t29)) 4294967295)))<|Jd<|Jc<|Ja<|mv (.int .u64 (Qw ((Qw (t17 * (Qw (Uw 64 a1 4294967295)))) + t29)))<|?_
 obtain ⟨t34, h_t34, H9⟩ := Je H8; clear H8
 refine lv (r_shrG rfl rfl rfl h_t34)<|ag (.int .u64 t34)<|Jd<|Jc<|Ja<|mv (.int .u64 (Qw (Uw 64 (Qw ((Qw (t17 * (Qw (Uw 64 a1 4294967295)))) + t29)) 4294967295)))<|mv (.int .u64 (Qw (Uw 64 a0 4294967295)))<|mv (.int .u64 t21)<|lv (r_mulW rfl rfl (W5 _))<|lv (r_addW rfl rfl (W5 _))<|ag (.int .u64 (Qw ((Qw (Uw 64 (Qw ((Qw (t17 * (Qw (Uw 64 a1 4294967295)))) + t29)) 4294967295)) + (Qw ((Qw (Uw 64 a0 4294967295)) * t21)))))<|Jd<|Jc<|Ja<|mv (.int .u64 t17)<|mv (.int .u64 t21)<|lv (r_mulW rfl rfl (W5 _))<|mv (.int .u64 t34)<|lv (r_addW rfl rfl (W5 _))<|mv (.int .u64 (Qw ((Qw (Uw 64 (Qw ((Qw (t17 * (Qw (Uw 64 a1 4294967295)))) + t29)) 4294967295)) + (Qw ((Qw (Uw 64 a0 4294967295)) * t21)))))<|?_
 obtain ⟨t46, h_t46, H10⟩ := Je H9; clear H9
 refine lv (r_shrG rfl rfl rfl h_t46)<|lv (r_addW rfl rfl (W5 _))<|ag (.int .u64 (Qw ((Qw ((Qw (t17 * t21)) + t34)) + t46)))<|Jd<|Jc<|Ja<|mv (.int .u64 a0)<|mv (.int .u64 a1)<|lv (r_mulW rfl rfl (W5 _))<|ag (.int .u64 (Qw (a0 * a1)))<|Jd<|Jh<|?_
 obtain rfl := sj H10
 refine Z2 (v1 := .int .u64 (Qw ((Qw ((Qw (t17 * t21)) + t34)) + t46))) (v2 := .int .u64 (Qw (a0 * a1))) rfl rfl rfl (fin rfl)
theorem k34 {a0 : T_tag_wide} {a1 : Int} {r : T_tag_wide} (H : Q5 a0 a1 = some r) : Ret prog 34 [.agg #[.int .u64 a0.high_, .int .u64 a0.low_], .int .u64 a1] (.agg #[.int .u64 r.high_, .int .u64 r.low_]) := by
 refine Xr (n := 22) func34 rfl rfl rfl (fun wd => ?_)
 refine Jc<|Ja<|?_
 refine Z5 (cs := [.int .u64 a0.high_, .int .u64 a0.low_]) rfl rfl rfl rfl (fun b2 => ?_)
 refine Xf (cs := [.int .u64 0, .int .u64 0]) zeroValue81 rfl rfl rfl (fun b3 => ?_)
 refine Jd<|Jc<|Ja<|lf runUnderlying81 rfl sizeOf76 rfl<|ll 0 (.int .u64 a0.low_) isAgg76<|mv (.int .u64 a1)<|?_
 obtain ⟨t11, h_t11, H2⟩ := Je H; clear H
 refine Xy (k66 h_t11) call66 rfl rfl rfl<|mv (.tuple #[.int .u64 t11.1, .int .u64 t11.2])<|lv (Jv (v := .int .u64 t11.1) rfl rfl)<|lv (Jv (v := .int .u64 t11.2) rfl rfl)<|ag (.int .u64 t11.1)<|ag (.int .u64 t11.2)<|Jd<|Jc<|Ja<|mv (.int .u64 t11.1)<|lf runUnderlying81 rfl sizeOf76 rfl<|ll 0 (.int .u64 a0.high_) isAgg76<|mv (.int .u64 a1)<|lv (r_mulW rfl rfl (W5 _))<|lv (r_addW rfl rfl (W5 _))<|mv (.int .u64 t11.2)<|lv (Q6 (pl := #[(0, 1), (1, 1)]) (ps := [(0, .int .u64 (Qw (t11.1 + (Qw (a0.high_ * a1))))), (1, .int .u64 t11.2)]) (cells := #[.int .u64 (Qw (t11.1 + (Qw (a0.high_ * a1)))), .int .u64 t11.2]) zeroValue81 runUnderlying81 (fun w => by kernel_rfl) rfl rfl)<|st (i := 1) [.int .u64 (Qw (t11.1 + (Qw (a0.high_ * a1)))), .int .u64 t11.2] [.int .u64 (Qw (t11.1 + (Qw (a0.high_ * a1)))), .int .u64 t11.2] sizeOf81 rfl rfl<|Jd<|Jh<|?_
 obtain rfl := sj H2
 refine retC (i := 1) (vs := [.int .u64 (Qw (t11.1 + (Qw (a0.high_ * a1)))), .int .u64 t11.2]) isAgg81 sizeOf81 rfl rfl rfl rfl (fin rfl)
theorem k32 {a0 : (List Int)} {v0 : Value} {r : T_tag_wide} {w : World} {h : Jo} (hw : Know h w Y2) (f0 : FrS h 1 v0 (a0.map e_u64)) (H : Jz a0 = some r) : Does prog 32 (List.toArray [v0]) w (fun v w' => v = (.agg #[.int .u64 r.high_, .int .u64 r.low_]) ∧ Grow w w') := by
 refine enter (n := 18) func32 rfl rfl rfl Y2 [] (Sat.nil _ _)<|Jc<|Ja<|?_
 refine Xf (cs := [.int .u64 0, .int .u64 0]) zeroValue81 rfl rfl rfl (fun b2 => ?_)
 refine Jd<|Jc<|Ja<|lv (Q6 (pl := #[(0, 1), (1, 1)]) (ps := [(0, .int .u64 0), (1, .int .u64 1)]) (cells := #[.int .u64 0, .int .u64 1]) zeroValue81 runUnderlying81 (fun w => by kernel_rfl) rfl rfl)<|?_
 refine Xf (cs := [.int .u64 0, .int .u64 0]) zeroValue81 rfl rfl rfl (fun b3 => ?_)
 refine st (i := 1) [.int .u64 0, .int .u64 1] [.int .u64 0, .int .u64 1] sizeOf81 rfl rfl<|Jd<|?_
 refine Q3 (r := r) (σ := Int × Int) (τ := Unit) (fun s => tag_product_j1 s.1 s.2) (fun s t => [(2, .pointer (some ⟨b2, 0, none⟩)), (3, .pointer (some ⟨b3, 0, none⟩))]) (fun s t => [Jg b2 [.int .u64 0, .int .u64 0] 81, Jg b3 [.int .u64 s.1, .int .u64 s.2] 81]) (fun s t => True) ?_ ?_
 ·refine Jc<|Ja<|mv v0<|lv (Wu underlying119 rfl f0 rfl)<|mv (i6 0)<|Jd<|Jx<|?_
  refine Zn (σ := Int × Int × Int) (τ := Unit) (fun next2 s => Wc a0 next2 s.1 s.2.1 s.2.2) (fun s t => [(2, .pointer (some ⟨b2, 0, none⟩)), (3, .pointer (some ⟨b3, 0, none⟩)), (7, v0), (8, i6 (a0.length : Int)), (9, i6 s.1)]) (fun s t => [Jg b2 [.int .u64 0, .int .u64 0] 81, Jg b3 [.int .u64 s.2.1, .int .u64 s.2.2] 81]) (fun s t => True) (0, 0, 1) () [0, 1] H (by exact trivial) (by exact ⟨rfl, rfl, rfl, rfl, rfl, trivial⟩) (by decide) rfl ?_
  rintro ⟨x9_2, m_5, m_6⟩ _ m2 gg H9 _
  clear H
  try dsimp only at H9
  generalize hn2 : it (fun next2 s => Wc a0 next2 s.1 s.2.1 s.2.2) m2 = next2 at H9
  try dsimp only
  refine Jc<|Ja<|lv (Yc rfl rfl)<|Jd<|Jc<|?_
  revert H9
  refine ci (decide (x9_2 < (a0.length : Int))) rfl (fun hb H10=>?_) fun hb H14=>?_
  ·refine Ji<|Jc<|Jx<|Jc<|Ja<|?_
   obtain ⟨t11, h_t11, H11⟩ := Je H10; clear H10
   refine lv (Xq underlying119 sizeOf76 rfl rfl f0 h_t11)<|Qs (fun w hF hS => Q9 (f := e_u64) (i := x9_2) (sz := 1) (j := 0) (v := .int .u64 t11) isAgg76 rfl rfl (f0.row (hw.now hF)) h_t11 rfl) rfl rfl rfl<|ag (.int .u64 t11)<|Jd<|Ja<|Qx (i := 1) (vs := [.int .u64 m_5, .int .u64 m_6]) isAgg81 sizeOf81 rfl rfl rfl rfl rfl<|mv (.int .u64 t11)<|?_
   obtain ⟨t15, h_t15, H12⟩ := Je H11; clear H11
   refine Xy (k34 h_t15) call34 rfl rfl rfl<|st (i := 1) [.int .u64 t15.high_, .int .u64 t15.low_] [.int .u64 t15.high_, .int .u64 t15.low_] sizeOf81 rfl rfl<|Jd<|Ja<|?_
   obtain ⟨t16, h_t16, H13⟩ := Je H12; clear H12
   refine lv (J1 rfl rfl h_t16)<|mv (i6 t16)<|Jd<|?_
   exact cl (t16, t15.high_, t15.low_) () m2 [0, 1] (by exact ⟨(by subst hn2; exact H13), trivial⟩)
  ·refine Xx ?_
   exact cl (m_5, m_6) () 0 [0, 1] (by exact ⟨H14, trivial⟩)
 ·rintro ⟨m, m_2⟩ _ gg H8 _
  try dsimp only at H8
  try dsimp only
  refine Jc<|Ja<|Qx (i := 1) (vs := [.int .u64 m, .int .u64 m_2]) isAgg81 sizeOf81 rfl rfl rfl rfl rfl<|st (i := 0) [.int .u64 m, .int .u64 m_2] [.int .u64 m, .int .u64 m_2] sizeOf81 rfl rfl<|Jd<|Jh<|?_
  obtain rfl := sj H8
  refine retC (i := 0) (vs := [.int .u64 m, .int .u64 m_2]) isAgg81 sizeOf81 rfl rfl rfl rfl (fin rfl)
theorem ext65 (x y c : Int) (p : Int × Int) (h : gAdd64 x y c = some p) (w : World) : (callFunc 65 (List.toArray [.int .u64 x, .int .u64 y, .int .u64 c])).run prog w = .ok (.value (.tuple #[.int .u64 p.1, .int .u64 p.2])) w := by
  have h0 : (callFunc 65 #[.int .u64 x, .int .u64 y, .int .u64 c]).run prog w = (do pure (.value (← add64Entry #[.int .u64 x, .int .u64 y, .int .u64 c])) : Sem Next).run prog w := by kernel_rfl
  rw [h0]
  simp only [Sem.run_bind, Go.Lx.run_add64 x y c p h, Result.andThen_ok, Sem.run_pure]
theorem k33 {a0 : T_tag_wide} {a1 : T_tag_wide} {r : T_tag_wide} (H : J4 a0 a1 = some r) : Ret prog 33 [.agg #[.int .u64 a0.high_, .int .u64 a0.low_], .agg #[.int .u64 a1.high_, .int .u64 a1.low_]] (.agg #[.int .u64 r.high_, .int .u64 r.low_]) := by
 refine Xr (n := 29) func33 rfl rfl rfl (fun wd => ?_)
 refine Jc<|Ja<|?_
 refine Z5 (cs := [.int .u64 a0.high_, .int .u64 a0.low_]) rfl rfl rfl rfl (fun b3 => ?_)
 refine Z5 (cs := [.int .u64 a1.high_, .int .u64 a1.low_]) rfl rfl rfl rfl (fun b4 => ?_)
 refine Xf (cs := [.int .u64 0, .int .u64 0]) zeroValue81 rfl rfl rfl (fun b5 => ?_)
 refine Jd<|Jc<|Ja<|lf runUnderlying81 rfl sizeOf76 rfl<|ll 0 (.int .u64 a0.low_) isAgg76<|lf runUnderlying81 rfl sizeOf76 rfl<|ll 1 (.int .u64 a1.low_) isAgg76<|?_
 obtain ⟨t14, h_t14, H3⟩ := Je H; clear H
 refine lv (r_ext (args := [.int .u64 a0.low_, .int .u64 a1.low_, .int .u64 0]) (ext65 _ _ _ _ h_t14) rfl)<|mv (.tuple #[.int .u64 t14.1, .int .u64 t14.2])<|lv (Jv (v := .int .u64 t14.1) rfl rfl)<|lv (Jv (v := .int .u64 t14.2) rfl rfl)<|ag (.int .u64 t14.1)<|ag (.int .u64 t14.2)<|Jd<|Jc<|Ja<|lf runUnderlying81 rfl sizeOf76 rfl<|ll 0 (.int .u64 a0.high_) isAgg76<|lf runUnderlying81 rfl sizeOf76 rfl<|ll 1 (.int .u64 a1.high_) isAgg76<|mv (.int .u64 t14.2)<|?_
 obtain ⟨t23, h_t23, H4⟩ := Je H3; clear H3
 refine lv (r_ext (args := [.int .u64 a0.high_, .int .u64 a1.high_, .int .u64 t14.2]) (ext65 _ _ _ _ h_t23) rfl)<|mv (.tuple #[.int .u64 t23.1, .int .u64 t23.2])<|lv (Jv (v := .int .u64 t23.1) rfl rfl)<|lv (Jv (v := .int .u64 t23.2) rfl rfl)<|ag (.int .u64 t23.1)<|ag (.int .u64 t23.2)<|Jd<|Jc<|Ja<|mv (.int .u64 t23.1)<|mv (.int .u64 t14.1)<|lv (Q6 (pl := #[(0, 1), (1, 1)]) (ps := [(0, .int .u64 t23.1), (1, .int .u64 t14.1)]) (cells := #[.int .u64 t23.1, .int .u64 t14.1]) zeroValue81 runUnderlying81 (fun w => by kernel_rfl) rfl rfl)<|st (i := 2) [.int .u64 t23.1, .int .u64 t14.1] [.int .u64 t23.1, .int .u64 t14.1] sizeOf81 rfl rfl<|Jd<|Jh<|?_
 obtain rfl := sj H4
 refine retC (i := 2) (vs := [.int .u64 t23.1, .int .u64 t14.1]) isAgg81 sizeOf81 rfl rfl rfl rfl (fin rfl)
theorem k35 {a0 : T_tag_wide} {a1 : T_tag_wide} {r : Bool} (H : We a0 a1 = some r) : Ret prog 35 [.agg #[.int .u64 a0.high_, .int .u64 a0.low_], .agg #[.int .u64 a1.high_, .int .u64 a1.low_]] (.bool r) := by
 refine Xr (n := 24) func35 rfl rfl rfl (fun wd => ?_)
 refine Jc<|Ja<|?_
 refine Z5 (cs := [.int .u64 a0.high_, .int .u64 a0.low_]) rfl rfl rfl rfl (fun b2 => ?_)
 refine Z5 (cs := [.int .u64 a1.high_, .int .u64 a1.low_]) rfl rfl rfl rfl (fun b3 => ?_)
 refine ag (.bool false)<|Jd<|Jc<|Ja<|lf runUnderlying81 rfl sizeOf76 rfl<|ll 0 (.int .u64 a0.high_) isAgg76<|lf runUnderlying81 rfl sizeOf76 rfl<|ll 1 (.int .u64 a1.high_) isAgg76<|lv (Vz rfl rfl)<|mv (.bool (decide (a1.high_ < a0.high_)))<|?_
 revert H
 refine sp (fun hb H5=>?_) fun hb H6=>?_
 ·refine pa<|pa<|pa<|pa<|pa<|pa<|pa<|pa<|pa<|pa<|pa<|pa<|pT (.bool true)<|ag (.bool true)<|Jd<|Jh<|?_
  obtain rfl := sj H5
  exact r1 (.bool true)
 ·refine lf runUnderlying81 rfl sizeOf76 rfl<|ll 0 (.int .u64 a0.high_) isAgg76<|lf runUnderlying81 rfl sizeOf76 rfl<|ll 1 (.int .u64 a1.high_) isAgg76<|lv (Xg rfl rfl)<|mv (.bool (decide (a0.high_ = a1.high_)))<|?_
  revert H6
  refine sp (fun hb H7=>?_) fun hb H8=>?_
  ·refine lf runUnderlying81 rfl sizeOf76 rfl<|ll 0 (.int .u64 a0.low_) isAgg76<|lf runUnderlying81 rfl sizeOf76 rfl<|ll 1 (.int .u64 a1.low_) isAgg76<|lv (r_geq rfl rfl)<|pT (.bool (decide (a1.low_ ≤ a0.low_)))<|pF (.bool (decide (a1.low_ ≤ a0.low_)))<|ag (.bool (decide (a1.low_ ≤ a0.low_)))<|Jd<|Jh<|?_
   obtain rfl := sj H7
   exact r1 (.bool (decide (a1.low_ ≤ a0.low_)))
  ·refine pa<|pa<|pa<|pa<|pa<|pF (.bool false)<|pF (.bool false)<|ag (.bool false)<|Jd<|Jh<|?_
   obtain rfl := sj H8
   exact r1 (.bool false)
theorem k11 {a0 : (List T_tag_Ratio)} {v0 : Value} {r : Int × Int} {w : World} {h : Jo} (hw : Know h w Y2) (f0 : FrS h 2 v0 (a0.map Jl)) (H : Ud a0 = some r) : Does prog 11 (List.toArray [v0]) w (fun v w' => v = (.tuple #[i6 r.1, i6 r.2]) ∧ Grow w w') := by
 refine enter (n := 99) func11 rfl rfl rfl Y2 [] (Sat.nil _ _)<|Jc<|Ja<|ag (i6 0)<|ag (i6 0)<|Jd<|Jc<|Jc<|Ja<|mv v0<|lv (Wu underlying31 rfl f0 rfl)<|lv (Yo rfl rfl)<|Jd<|?_
 revert H
 refine ci (decide ((a0.length : Int) ≠ 3)) rfl (fun hb H35=>?_) fun hb H36=>?_
 ·refine Jc<|Ja<|ag (i6 0)<|ag (i6 1)<|Jd<|Jh<|?_
  obtain rfl := sj H35
  refine Z2 (v1 := i6 0) (v2 := i6 1) rfl rfl rfl (fin rfl)
 ·refine Ji<|Jc<|Ja<|ag (i6 0)<|Jd<|Jc<|Ja<|?_
  refine Xf (cs := [.int .u64 0, .int .u64 0, .int .u64 0]) zeroValue77 rfl rfl rfl (fun b8 => ?_)
  refine Xf (cs := [.int .u64 0, .int .u64 0, .int .u64 0]) zeroValue77 rfl rfl rfl (fun b9 => ?_)
  refine Jd ?_
  refine Q3 (r := r) (σ := Int × (Nat → Int) × (Nat → Int)) (τ := Unit) (fun s => Uk s.1 s.2.1 s.2.2) (fun s t => [(4, i6 s.1), (5, .pointer (some ⟨b8, 0, none⟩)), (6, .pointer (some ⟨b9, 0, none⟩))]) (fun s t => [Jg b8 [.int .u64 (s.2.1 0), .int .u64 (s.2.1 1), .int .u64 (s.2.1 2)] 77, Jg b9 [.int .u64 (s.2.2 0), .int .u64 (s.2.2 1), .int .u64 (s.2.2 2)] 77]) (fun s t => True) ?_ ?_
  ·refine Jc<|Ja<|mv v0<|lv (Wu underlying31 rfl f0 rfl)<|mv (i6 0)<|Jd<|Jx<|?_
   refine Zn (σ := Int × Int × (Nat → Int) × (Nat → Int)) (τ := Unit) (fun next4 s => Zk a0 next4 s.1 s.2.1 s.2.2.1 s.2.2.2) (fun s t => [(4, i6 s.1), (5, .pointer (some ⟨b8, 0, none⟩)), (6, .pointer (some ⟨b9, 0, none⟩)), (17, v0), (18, i6 (a0.length : Int)), (19, i6 s.2.1)]) (fun s t => [Jg b8 [.int .u64 (s.2.2.1 0), .int .u64 (s.2.2.1 1), .int .u64 (s.2.2.1 2)] 77, Jg b9 [.int .u64 (s.2.2.2 0), .int .u64 (s.2.2.2 1), .int .u64 (s.2.2.2 2)] 77]) (fun s t => True) (0, 0, (fun _ => 0), (fun _ => 0)) () [0, 1] H36 (by exact trivial) (by exact ⟨rfl, rfl, rfl, rfl, rfl, rfl, trivial⟩) (by decide) rfl ?_
   rintro ⟨x4_6, x19_2, m_5, m_6⟩ _ m4 gg H53 _
   clear H36
   try dsimp only at H53
   generalize hn4 : it (fun next4 s => Zk a0 next4 s.1 s.2.1 s.2.2.1 s.2.2.2) m4 = next4 at H53
   try dsimp only
   refine Jc<|Ja<|lv (Yc rfl rfl)<|Jd<|Jc<|?_
   revert H53
   refine ci (decide (x19_2 < (a0.length : Int))) rfl (fun hb H54=>?_) fun hb H68=>?_
   ·refine Ji<|Jc<|Jx<|Jc<|Ja<|mv (i6 x19_2)<|?_
    obtain ⟨t22, h_t22, H55⟩ := Je H54; clear H54
    refine lv (Xq underlying31 sizeOf52 rfl rfl f0 h_t22)<|Qs (fun w hF hS => Zb (f := Jl) (i := x19_2) (sz := 2) (j := 0) (vs := [i6 t22.Num, i6 t22.Den]) isAgg52 sizeOf52 rfl rfl (f0.row (hw.now hF)) h_t22 rfl) rfl rfl rfl<|?_
    refine Xf (cs := [i6 0, i6 0]) zeroValue52 rfl rfl rfl (fun b15 => ?_)
    refine ag (i6 x19_2)<|st (i := 2) [i6 t22.Num, i6 t22.Den] [i6 t22.Num, i6 t22.Den] sizeOf52 rfl rfl<|Jd<|Jc<|Jc<|Ja<|Qx (i := 2) (vs := [i6 t22.Num, i6 t22.Den]) isAgg52 sizeOf52 rfl rfl rfl rfl rfl<|?_
    obtain ⟨t25, h_t25, H56⟩ := Je H55; clear H55
    refine Xy (k31 h_t25) call31 rfl rfl rfl<|ag (i6 t25)<|Jd<|Jc<|Ja<|mv (i6 t25)<|lv (Yo rfl rfl)<|Jd<|?_
    revert H56
    refine ci (decide (t25 ≠ 0)) rfl (fun hb H57=>?_) fun hb H58=>?_
    ·refine Jc<|Ja<|mv (i6 t25)<|ag (i6 0)<|ag (i6 t25)<|Jd<|Jh<|?_
     obtain rfl := sj H57
     refine Z2 (v1 := i6 0) (v2 := i6 t25) rfl rfl rfl (fin rfl)
    ·refine Ji<|Jc<|?_
     exact Qi (Kd.p :: Kd.d [2] _ :: Kd.p :: Kd.p :: Kd.d [2] _ :: Kd.p :: Kd.p :: Kd.p :: Kd.p :: Kd.p :: Kd.p :: []) 0 mixed (by
      refine dv (J3 runUnderlying52 rfl sizeOf3 rfl rfl)<|dl (i6 t22.Num) isAgg3<|?_
      have h_t31 := J0 H58
      have H59 := Ju H58
      refine dv (V5 rfl rfl h_t31)<|dv (J3 runUnderlying52 rfl sizeOf3 rfl rfl)<|dl (i6 t22.Den) isAgg3<|dv (r_buildA (ps := [(0, i6 1), (1, i6 60), (2, i6 3600)]) (cells := #[i6 1, i6 60, i6 3600]) zeroValue79 runUnderlying79 sizeOf3 rfl rfl)<|dm (i6 x19_2)<|?_
      have h_k36 := J0 H59
      have H60 := Ju H59
      refine dv (r_indexAG (f := fun j_ => i6 ((ofL [1, 60, 3600]) j_)) runUnderlying79 isAgg3 sizeOf3 rfl rfl rfl h_k36) ?_
      have h_t37 := J0 H60
      have H61 := Ju H60
      refine dv (V5 rfl rfl h_t37)<|Qq rfl rfl (Jw (v := i6 (val (gI (t22.Num * 1000000)))) rfl)<|Qq rfl rfl (Jw (v := i6 (val (gI (t22.Den * ((ofL [1, 60, 3600]) (val (gIx 3 x19_2))))))) rfl)<|Y8<|Jc<|Ja<|mv (i6 x4_6)<|mv (i6 (val (gI (t22.Num * 1000000))))<|mv (i6 (val (gI (t22.Den * ((ofL [1, 60, 3600]) (val (gIx 3 x19_2)))))))<|?_
      obtain ⟨t41, h_t41, H62⟩ := Je H61; clear H61
      refine lv (r_quoG rfl rfl h_t41) ?_
      obtain ⟨t42, h_t42, H63⟩ := Je H62; clear H62
      refine lv (J1 rfl rfl h_t42)<|ag (i6 t42)<|Jd<|Ja<|mv (i6 x19_2)<|mv (i6 x19_2)<|mv (i6 (val (gI (t22.Num * 1000000))))<|mv (i6 (val (gI (t22.Den * ((ofL [1, 60, 3600]) (val (gIx 3 x19_2)))))))<|?_
      obtain ⟨t47, h_t47, H64⟩ := Je H63; clear H63
      refine lv (r_remG rfl rfl h_t47)<|lv (W9 runUnderlying3 runUnderlying76 rfl (W5 _))<|mv (i6 (val (gI (t22.Den * ((ofL [1, 60, 3600]) (val (gIx 3 x19_2)))))))<|lv (W9 runUnderlying3 runUnderlying76 rfl (W5 _))<|?_
      obtain ⟨k51, h_k51, H65⟩ := Je H64; clear H64
      refine lv (r_indexPG runUnderlying77 sizeOf76 rfl rfl h_k51)<|Ya (i := 0) (vs := [.int .u64 (Qw t47)]) (cs' := [.int .u64 ((Zh m_5 k51 (Qw t47)) 0), .int .u64 ((Zh m_5 k51 (Qw t47)) 1), .int .u64 ((Zh m_5 k51 (Qw t47)) 2)]) sizeOf76 rfl rfl rfl rfl rfl rfl rfl rfl (wr_arr (pre := []) (post := []) (f := fun (j_ : Int) => [.int .u64 j_]) (n := 3) (sz := 1) (a := m_5) (x := (Qw t47)) rfl rfl (fun _ => rfl) (gIx_lt h_k51) rfl rfl)<|?_
      obtain ⟨k52, h_k52, H66⟩ := Je H65; clear H65
      refine lv (r_indexPG runUnderlying77 sizeOf76 rfl rfl h_k52)<|Ya (i := 1) (vs := [.int .u64 (Qw (val (gI (t22.Den * ((ofL [1, 60, 3600]) (val (gIx 3 x19_2)))))))]) (cs' := [.int .u64 ((Zh m_6 k52 (Qw (val (gI (t22.Den * ((ofL [1, 60, 3600]) (val (gIx 3 x19_2)))))))) 0), .int .u64 ((Zh m_6 k52 (Qw (val (gI (t22.Den * ((ofL [1, 60, 3600]) (val (gIx 3 x19_2)))))))) 1), .int .u64 ((Zh m_6 k52 (Qw (val (gI (t22.Den * ((ofL [1, 60, 3600]) (val (gIx 3 x19_2)))))))) 2)]) sizeOf76 rfl rfl rfl rfl rfl rfl rfl rfl (wr_arr (pre := []) (post := []) (f := fun (j_ : Int) => [.int .u64 j_]) (n := 3) (sz := 1) (a := m_6) (x := (Qw (val (gI (t22.Den * ((ofL [1, 60, 3600]) (val (gIx 3 x19_2)))))))) rfl rfl (fun _ => rfl) (gIx_lt h_k52) rfl rfl)<|Jd<|Ja<|?_
      obtain ⟨t53, h_t53, H67⟩ := Je H66; clear H66
      refine lv (J1 rfl rfl h_t53)<|mv (i6 t53)<|Jd<|?_
      exact cl (t42, t53, (Zh m_5 k51 (Qw t47)), (Zh m_6 k52 (Qw (val (gI (t22.Den * ((ofL [1, 60, 3600]) (val (gIx 3 x19_2))))))))) () m4 [0, 1] (by exact ⟨(by subst hn4; exact H67), trivial⟩)
      ) (by kernel_rfl)
   ·refine Xx ?_
    exact cl (x4_6, m_5, m_6) () 0 [0, 1] (by exact ⟨H68, trivial⟩)
  ·rintro ⟨x4, m, m_2⟩ _ gg H37 _
   try dsimp only at H37
   try dsimp only
   refine Jc ?_
   exact Qi (Kd.p :: Kd.d [0] _ :: Kd.p :: Kd.d [1] _ :: Kd.p :: Kd.d [1] _ :: Kd.ns 2 [_, _, _] 76 3 :: Kd.d [2] _ :: Kd.p :: Kd.d [1] _ :: Kd.p :: Kd.d [0] _ :: Kd.p :: Kd.d [1] _ :: Kd.ns 3 [_, _, _] 76 3 :: Kd.d [3] _ :: Kd.d [] _ :: Kd.p :: Kd.d [1] _ :: Kd.p :: Kd.d [1] _ :: Kd.p :: Kd.d [0] _ :: Kd.ns 4 [_, _, _] 76 3 :: Kd.d [4] _ :: Kd.d [] _ :: Kd.d [] _ :: Kd.nw 5 [_, _] 81 :: Kd.st 12 5 [_, _] 81 :: []) 4 mixed (by
    refine dv (Vd runUnderlying77 sizeOf76 rfl rfl (by decide) (by decide))<|dl (.int .u64 (m 0)) isAgg76<|dv (Vd runUnderlying77 sizeOf76 rfl rfl (by decide) (by decide))<|dl (.int .u64 (m_2 1)) isAgg76<|dv (Vd runUnderlying77 sizeOf76 rfl rfl (by decide) (by decide))<|dl (.int .u64 (m_2 2)) isAgg76<|?_
    refine d_newS rfl rfl (Vm (vs := [.int .u64 (m 0), .int .u64 (m_2 1), .int .u64 (m_2 2)]) (cs := [.int .u64 (m 0), .int .u64 (m_2 1), .int .u64 (m_2 2)]) underlying119 sizeOf76 zeroValue76 rfl rfl rfl rfl rfl) rfl (fun b10 => ?_)
    have h_t61 := J0 H37
    have H38 := Ju H37
    refine Ua (fun w L' hF hS hi => k32 (Jn w) (frs_box (i := 2) (xs := ([(m 0), (m_2 1), (m_2 2)] : List Int)) (f := e_u64) hS ((hi 2 (by simp)).trans rfl) rfl rfl rfl rfl) h_t61) call32 rfl rfl<|dv (Vd runUnderlying77 sizeOf76 rfl rfl (by decide) (by decide))<|dl (.int .u64 (m_2 0)) isAgg76<|dv (Vd runUnderlying77 sizeOf76 rfl rfl (by decide) (by decide))<|dl (.int .u64 (m 1)) isAgg76<|dv (Vd runUnderlying77 sizeOf76 rfl rfl (by decide) (by decide))<|dl (.int .u64 (m_2 2)) isAgg76<|?_
    refine d_newS rfl rfl (Vm (vs := [.int .u64 (m_2 0), .int .u64 (m 1), .int .u64 (m_2 2)]) (cs := [.int .u64 (m_2 0), .int .u64 (m 1), .int .u64 (m_2 2)]) underlying119 sizeOf76 zeroValue76 rfl rfl rfl rfl rfl) rfl (fun b11 => ?_)
    have h_t69 := J0 H38
    have H39 := Ju H38
    refine Ua (fun w L' hF hS hi => k32 (Jn w) (frs_box (i := 3) (xs := ([(m_2 0), (m 1), (m_2 2)] : List Int)) (f := e_u64) hS ((hi 3 (by simp)).trans rfl) rfl rfl rfl rfl) h_t69) call32 rfl rfl ?_
    have h_t70 := J0 H39
    have H40 := Ju H39
    refine d_call (k33 h_t70) call33 rfl rfl<|dv (Vd runUnderlying77 sizeOf76 rfl rfl (by decide) (by decide))<|dl (.int .u64 (m_2 0)) isAgg76<|dv (Vd runUnderlying77 sizeOf76 rfl rfl (by decide) (by decide))<|dl (.int .u64 (m_2 1)) isAgg76<|dv (Vd runUnderlying77 sizeOf76 rfl rfl (by decide) (by decide))<|dl (.int .u64 (m 2)) isAgg76<|?_
    refine d_newS rfl rfl (Vm (vs := [.int .u64 (m_2 0), .int .u64 (m_2 1), .int .u64 (m 2)]) (cs := [.int .u64 (m_2 0), .int .u64 (m_2 1), .int .u64 (m 2)]) underlying119 sizeOf76 zeroValue76 rfl rfl rfl rfl rfl) rfl (fun b12 => ?_)
    have h_t78 := J0 H40
    have H41 := Ju H40
    refine Ua (fun w L' hF hS hi => k32 (Jn w) (frs_box (i := 4) (xs := ([(m_2 0), (m_2 1), (m 2)] : List Int)) (f := e_u64) hS ((hi 4 (by simp)).trans rfl) rfl rfl rfl rfl) h_t78) call32 rfl rfl ?_
    have h_t79 := J0 H41
    have H42 := Ju H41
    refine d_call (k33 h_t79) call33 rfl rfl ?_
    have h_t80 := J0 H42
    have H43 := Ju H42
    refine d_call (k34 h_t80) call34 rfl rfl ?_
    refine d_new rfl rfl (run_alloc (cs := [.int .u64 0, .int .u64 0]) zeroValue81 rfl) rfl (fun b13 => ?_)
    refine d_store (i := 5) (vs := [.int .u64 (val (Q5 (val (J4 (val (J4 (val (Jz ([(m 0), (m_2 1), (m_2 2)] : List Int))) (val (Jz ([(m_2 0), (m 1), (m_2 2)] : List Int))))) (val (Jz ([(m_2 0), (m_2 1), (m 2)] : List Int))))) 2)).high_, .int .u64 (val (Q5 (val (J4 (val (J4 (val (Jz ([(m 0), (m_2 1), (m_2 2)] : List Int))) (val (Jz ([(m_2 0), (m 1), (m_2 2)] : List Int))))) (val (Jz ([(m_2 0), (m_2 1), (m 2)] : List Int))))) 2)).low_]) (cs' := [.int .u64 (val (Q5 (val (J4 (val (J4 (val (Jz ([(m 0), (m_2 1), (m_2 2)] : List Int))) (val (Jz ([(m_2 0), (m 1), (m_2 2)] : List Int))))) (val (Jz ([(m_2 0), (m_2 1), (m 2)] : List Int))))) 2)).high_, .int .u64 (val (Q5 (val (J4 (val (J4 (val (Jz ([(m 0), (m_2 1), (m_2 2)] : List Int))) (val (Jz ([(m_2 0), (m 1), (m_2 2)] : List Int))))) (val (Jz ([(m_2 0), (m_2 1), (m 2)] : List Int))))) 2)).low_]) sizeOf81 rfl rfl rfl rfl rfl rfl rfl rfl rfl<|Y8<|?_
    refine Q3 (r := r) (σ := Int) (τ := Unit) (fun s => tag_Degrees_j2 s) (fun s t => [(4, i6 s)]) (fun s t => []) (fun s t => True) ?_ ?_
    ·refine Jc<|Ja<|ag (.int .u64 1)<|Jd<|Jx<|?_
     refine c_dr 4 <| c_dr 3 <| c_dr 2 <| c_dr 0 ?_
     try dsimp only [z1, z2, z3, z4, z5, z6, z7, z8]
     refine Zn (σ := Int × Int) (τ := Unit) (fun next3 s => Wk m_2 (val (Q5 (val (J4 (val (J4 (val (Jz ([(m 0), (m_2 1), (m_2 2)] : List Int))) (val (Jz ([(m_2 0), (m 1), (m_2 2)] : List Int))))) (val (Jz ([(m_2 0), (m_2 1), (m 2)] : List Int))))) 2)) next3 s.1 s.2) (fun s t => [(4, i6 s.1), (6, .pointer (some ⟨b9, 0, none⟩)), (12, .pointer (some ⟨b13, 0, none⟩)), (13, .int .u64 s.2)]) (fun s t => [Jg b9 [.int .u64 (m_2 0), .int .u64 (m_2 1), .int .u64 (m_2 2)] 77, Jg b13 [.int .u64 (val (Q5 (val (J4 (val (J4 (val (Jz ([(m 0), (m_2 1), (m_2 2)] : List Int))) (val (Jz ([(m_2 0), (m 1), (m_2 2)] : List Int))))) (val (Jz ([(m_2 0), (m_2 1), (m 2)] : List Int))))) 2)).high_, .int .u64 (val (Q5 (val (J4 (val (J4 (val (Jz ([(m 0), (m_2 1), (m_2 2)] : List Int))) (val (Jz ([(m_2 0), (m 1), (m_2 2)] : List Int))))) (val (Jz ([(m_2 0), (m_2 1), (m 2)] : List Int))))) 2)).low_] 81]) (fun s t => True) (x4, 1) () [0, 1] H43 (by exact trivial) (by exact ⟨rfl, rfl, rfl, rfl, trivial⟩) (by decide) rfl ?_
     rintro ⟨x4_4, x13_2⟩ _ m3 gg H47 _
     clear H43
     try dsimp only at H47
     generalize hn3 : it (fun next3 s => Wk m_2 (val (Q5 (val (J4 (val (J4 (val (Jz ([(m 0), (m_2 1), (m_2 2)] : List Int))) (val (Jz ([(m_2 0), (m 1), (m_2 2)] : List Int))))) (val (Jz ([(m_2 0), (m_2 1), (m 2)] : List Int))))) 2)) next3 s.1 s.2) m3 = next3 at H47
     try dsimp only
     refine Jc<|Jc<|?_
     exact Qi (Kd.d [1] _ :: Kd.p :: Kd.p :: Kd.d [0] _ :: Kd.p :: Kd.d [0] _ :: Kd.p :: Kd.d [0] _ :: Kd.ns 2 [_, _, _, _] 76 4 :: Kd.d [2] _ :: Kd.d [] _ :: []) 1 mixed (by
      refine d_loadN (i := 1) (vs := [.int .u64 (val (Q5 (val (J4 (val (J4 (val (Jz ([(m 0), (m_2 1), (m_2 2)] : List Int))) (val (Jz ([(m_2 0), (m 1), (m_2 2)] : List Int))))) (val (Jz ([(m_2 0), (m_2 1), (m 2)] : List Int))))) 2)).high_, .int .u64 (val (Q5 (val (J4 (val (J4 (val (Jz ([(m 0), (m_2 1), (m_2 2)] : List Int))) (val (Jz ([(m_2 0), (m 1), (m_2 2)] : List Int))))) (val (Jz ([(m_2 0), (m_2 1), (m 2)] : List Int))))) 2)).low_]) isAgg81 sizeOf81 rfl rfl rfl rfl<|dm (.int .u64 x13_2)<|dv (Vd runUnderlying77 sizeOf76 rfl rfl (by decide) (by decide))<|dl (.int .u64 (m_2 0)) isAgg76<|dv (Vd runUnderlying77 sizeOf76 rfl rfl (by decide) (by decide))<|dl (.int .u64 (m_2 1)) isAgg76<|dv (Vd runUnderlying77 sizeOf76 rfl rfl (by decide) (by decide))<|dl (.int .u64 (m_2 2)) isAgg76<|?_
      refine d_newS rfl rfl (Vm (vs := [.int .u64 x13_2, .int .u64 (m_2 0), .int .u64 (m_2 1), .int .u64 (m_2 2)]) (cs := [.int .u64 x13_2, .int .u64 (m_2 0), .int .u64 (m_2 1), .int .u64 (m_2 2)]) underlying119 sizeOf76 zeroValue76 rfl rfl rfl rfl rfl) rfl (fun b14 => ?_)
      have h_t90 := J0 H47
      have H48 := Ju H47
      refine Ua (fun w L' hF hS hi => k32 (Jn w) (frs_box (i := 2) (xs := ([x13_2, (m_2 0), (m_2 1), (m_2 2)] : List Int)) (f := e_u64) hS ((hi 2 (by simp)).trans rfl) rfl rfl rfl rfl) h_t90) call32 rfl rfl ?_
      have h_t91 := J0 H48
      have H49 := Ju H48
      refine d_call (k35 h_t91) call35 rfl rfl<|Y8<|?_
      revert H49
      refine ci (val (We (val (Q5 (val (J4 (val (J4 (val (Jz ([(m 0), (m_2 1), (m_2 2)] : List Int))) (val (Jz ([(m_2 0), (m 1), (m_2 2)] : List Int))))) (val (Jz ([(m_2 0), (m_2 1), (m 2)] : List Int))))) 2)) (val (Jz ([x13_2, (m_2 0), (m_2 1), (m_2 2)] : List Int))))) rfl (fun hb H50=>?_) fun hb H52=>?_
      ·refine Ji<|Jc<|Jx<|Ja<|mv (i6 x4_4)<|?_
       obtain ⟨t95, h_t95, H51⟩ := Je H50; clear H50
       refine lv (J1 rfl rfl h_t95)<|ag (i6 t95)<|Jd<|Ja<|mv (.int .u64 x13_2)<|lv (r_addW rfl rfl (W5 _))<|ag (.int .u64 (Qw (x13_2 + 2)))<|Jd<|?_
       exact cl (t95, (Qw (x13_2 + 2))) () m3 [0, 1] (by exact ⟨(by subst hn3; exact H51), trivial⟩)
      ·refine Xx ?_
       exact cl x4_4 () 0 [] (by exact ⟨H52, trivial⟩)
      ) (by kernel_rfl)
    ·rintro x4_2 _ gg H44 _
     try dsimp only at H44
     try dsimp only
     refine Jc<|Jc<|Ja<|mv (i6 x4_2)<|lv (Vz rfl rfl)<|Jd<|?_
     revert H44
     refine ci (decide (180000000 < x4_2)) rfl (fun hb H45=>?_) fun hb H46=>?_
     ·refine Jc<|Ja<|ag (i6 0)<|ag (i6 2)<|Jd<|Jh<|?_
      obtain rfl := sj H45
      refine Z2 (v1 := i6 0) (v2 := i6 2) rfl rfl rfl (fin rfl)
     ·refine Ji<|Jc<|Ja<|mv (i6 x4_2)<|ag (i6 x4_2)<|ag (i6 0)<|Jd<|Jh<|?_
      obtain rfl := sj H46
      refine Z2 (v1 := i6 x4_2) (v2 := i6 0) rfl rfl rfl (fin rfl)
    ) (by kernel_rfl)
theorem k37 {r : T_where_Box} (H : where_whole = some r) : Ret prog 37 [] (.agg #[i6 r.South, i6 r.West, i6 r.North, i6 r.East]) := by
 refine Xr (n := 2) func37 rfl rfl rfl (fun wd => ?_)
 refine Jc<|Ja<|?_
 refine Xf (cs := [i6 0, i6 0, i6 0, i6 0]) zeroValue88 rfl rfl rfl (fun b1 => ?_)
 refine Jd<|Jc<|Ja<|lv (Q6 (pl := #[(0, 1), (1, 1), (2, 1), (3, 1)]) (ps := [(0, i6 (-90000000)), (1, i6 (-180000000)), (2, i6 90000000), (3, i6 179999999)]) (cells := #[i6 (-90000000), i6 (-180000000), i6 90000000, i6 179999999]) zeroValue88 runUnderlying88 (fun w => by kernel_rfl) rfl rfl)<|st (i := 0) [i6 (-90000000), i6 (-180000000), i6 90000000, i6 179999999] [i6 (-90000000), i6 (-180000000), i6 90000000, i6 179999999] sizeOf88 rfl rfl<|Jd<|Jh<|?_
 obtain rfl := sj H
 refine retC (i := 0) (vs := [i6 (-90000000), i6 (-180000000), i6 90000000, i6 179999999]) isAgg88 sizeOf88 rfl rfl rfl rfl (fin rfl)
theorem k38 {a0 : T_where_Box} {a1 : Int} {r : T_where_Box} (H : V1 a0 a1 = some r) : Ret prog 38 [.agg #[i6 a0.South, i6 a0.West, i6 a0.North, i6 a0.East], i6 a1] (.agg #[i6 r.South, i6 r.West, i6 r.North, i6 r.East]) := by
 refine Xr (n := 43) func38 rfl rfl rfl (fun wd => ?_)
 refine Jc<|Ja<|?_
 refine Z5 (cs := [i6 a0.South, i6 a0.West, i6 a0.North, i6 a0.East]) rfl rfl rfl rfl (fun b2 => ?_)
 refine Xf (cs := [i6 0, i6 0, i6 0, i6 0]) zeroValue88 rfl rfl rfl (fun b3 => ?_)
 refine Jd<|Jc<|?_
 exact Qi (Kd.p :: Kd.d [0] _ :: Kd.p :: Kd.d [0] _ :: Kd.p :: Kd.d [0] _ :: Kd.p :: Kd.p :: Kd.p :: Kd.p :: Kd.p :: Kd.d [0] _ :: Kd.p :: Kd.d [0] _ :: Kd.p :: Kd.d [0] _ :: Kd.p :: Kd.p :: Kd.p :: Kd.p :: Kd.p :: Kd.p :: []) 0 mixed (by
  refine dv (J3 runUnderlying88 rfl sizeOf3 rfl rfl)<|dl (i6 a0.South) isAgg3<|dv (J3 runUnderlying88 rfl sizeOf3 rfl rfl)<|dl (i6 a0.North) isAgg3<|dv (J3 runUnderlying88 rfl sizeOf3 rfl rfl)<|dl (i6 a0.South) isAgg3<|?_
  have h_t13 := J0 H
  have H18 := Ju H
  refine dv (Vh rfl rfl h_t13) ?_
  have h_t14 := J0 H18
  have H19 := Ju H18
  refine dv (J1 rfl rfl h_t14) ?_
  have h_t15 := J0 H19
  have H20 := Ju H19
  refine dv (r_quoG rfl rfl h_t15) ?_
  have h_t16 := J0 H20
  have H21 := Ju H20
  refine dv (J1 rfl rfl h_t16)<|dv (J3 runUnderlying88 rfl sizeOf3 rfl rfl)<|dl (i6 a0.West) isAgg3<|dv (J3 runUnderlying88 rfl sizeOf3 rfl rfl)<|dl (i6 a0.East) isAgg3<|dv (J3 runUnderlying88 rfl sizeOf3 rfl rfl)<|dl (i6 a0.West) isAgg3<|?_
  have h_t23 := J0 H21
  have H22 := Ju H21
  refine dv (Vh rfl rfl h_t23) ?_
  have h_t24 := J0 H22
  have H23 := Ju H22
  refine dv (J1 rfl rfl h_t24) ?_
  have h_t25 := J0 H23
  have H24 := Ju H23
  refine dv (r_quoG rfl rfl h_t25) ?_
  have h_t26 := J0 H24
  have H25 := Ju H24
  refine dv (J1 rfl rfl h_t26)<|Qq rfl rfl (Jw (v := i6 (val (gI (a0.South + (val (gQuo (val (gI ((val (gI (a0.North - a0.South))) + 1))) 2)))))) rfl)<|Qq rfl rfl (Jw (v := i6 (val (gI (a0.West + (val (gQuo (val (gI ((val (gI (a0.East - a0.West))) + 1))) 2)))))) rfl)<|Y8<|?_
  refine Q3 (r := r) (σ := Int × Int) (τ := Unit) (fun s => Zi a0 a1 (val (gI (a0.West + (val (gQuo (val (gI ((val (gI (a0.East - a0.West))) + 1))) 2))))) s.1 s.2) (fun s t => [(1, i6 a1), (2, .pointer (some ⟨b2, 0, none⟩)), (4, .pointer (some ⟨b3, 0, none⟩)), (6, i6 (val (gI (a0.West + (val (gQuo (val (gI ((val (gI (a0.East - a0.West))) + 1))) 2))))))]) (fun s t => [Jg b2 [i6 s.1, i6 a0.West, i6 s.2, i6 a0.East] 88, Jg b3 [i6 0, i6 0, i6 0, i6 0] 88]) (fun s t => True) ?_ ?_
  ·refine Jc<|Ja<|mv (i6 a1)<|lv (r_geq rfl rfl)<|Jd<|?_
   revert H25
   refine ci (decide (2 ≤ a1)) rfl (fun hb H32=>?_) fun hb H33=>?_
   ·refine Ja<|mv (i6 (val (gI (a0.South + (val (gQuo (val (gI ((val (gI (a0.North - a0.South))) + 1))) 2))))))<|lf runUnderlying88 rfl sizeOf3 rfl<|st (i := 0) [i6 (val (gI (a0.South + (val (gQuo (val (gI ((val (gI (a0.North - a0.South))) + 1))) 2)))))] [i6 (val (gI (a0.South + (val (gQuo (val (gI ((val (gI (a0.North - a0.South))) + 1))) 2))))), i6 a0.West, i6 a0.North, i6 a0.East] sizeOf3 rfl rfl<|Jd<|?_
    exact cl ((val (gI (a0.South + (val (gQuo (val (gI ((val (gI (a0.North - a0.South))) + 1))) 2))))), a0.North) () 0 [0, 1] (by exact ⟨H32, trivial⟩)
   ·refine Ja<|mv (i6 (val (gI (a0.South + (val (gQuo (val (gI ((val (gI (a0.North - a0.South))) + 1))) 2))))))<|?_
    obtain ⟨t32, h_t32, H34⟩ := Je H33; clear H33
    refine lv (Vh rfl rfl h_t32)<|lf runUnderlying88 rfl sizeOf3 rfl<|st (i := 0) [i6 t32] [i6 a0.South, i6 a0.West, i6 t32, i6 a0.East] sizeOf3 rfl rfl<|Jd<|?_
    exact cl (a0.South, t32) () 0 [0, 1] (by exact ⟨H34, trivial⟩)
  ·rintro ⟨m, m_2⟩ _ gg H26 _
   try dsimp only at H26
   try dsimp only
   refine Q3 (r := r) (σ := Int × Int) (τ := Unit) (fun s => Vr m m_2 s.1 s.2) (fun s t => [(2, .pointer (some ⟨b2, 0, none⟩)), (4, .pointer (some ⟨b3, 0, none⟩))]) (fun s t => [Jg b2 [i6 m, i6 s.1, i6 m_2, i6 s.2] 88, Jg b3 [i6 0, i6 0, i6 0, i6 0] 88]) (fun s t => True) ?_ ?_
   ·refine Jc<|Ja<|mv (i6 a1)<|?_
    obtain ⟨t35, h_t35, H28⟩ := Je H26; clear H26
    refine lv (r_remG rfl rfl h_t35)<|lv (Xg rfl rfl)<|Jd<|?_
    revert H28
    refine ci (decide (t35 = 1)) rfl (fun hb H29=>?_) fun hb H30=>?_
    ·refine Ja<|mv (i6 (val (gI (a0.West + (val (gQuo (val (gI ((val (gI (a0.East - a0.West))) + 1))) 2))))))<|lf runUnderlying88 rfl sizeOf3 rfl<|st (i := 0) [i6 (val (gI (a0.West + (val (gQuo (val (gI ((val (gI (a0.East - a0.West))) + 1))) 2)))))] [i6 m, i6 (val (gI (a0.West + (val (gQuo (val (gI ((val (gI (a0.East - a0.West))) + 1))) 2))))), i6 m_2, i6 a0.East] sizeOf3 rfl rfl<|Jd<|?_
     exact cl ((val (gI (a0.West + (val (gQuo (val (gI ((val (gI (a0.East - a0.West))) + 1))) 2))))), a0.East) () 0 [0, 1] (by exact ⟨H29, trivial⟩)
    ·refine Ja<|mv (i6 (val (gI (a0.West + (val (gQuo (val (gI ((val (gI (a0.East - a0.West))) + 1))) 2))))))<|?_
     obtain ⟨t40, h_t40, H31⟩ := Je H30; clear H30
     refine lv (Vh rfl rfl h_t40)<|lf runUnderlying88 rfl sizeOf3 rfl<|st (i := 0) [i6 t40] [i6 m, i6 a0.West, i6 m_2, i6 t40] sizeOf3 rfl rfl<|Jd<|?_
     exact cl (a0.West, t40) () 0 [0, 1] (by exact ⟨H31, trivial⟩)
   ·rintro ⟨m_3, m_4⟩ _ gg H27 _
    try dsimp only at H27
    try dsimp only
    refine Jc<|Ja<|Qx (i := 0) (vs := [i6 m, i6 m_3, i6 m_2, i6 m_4]) isAgg88 sizeOf88 rfl rfl rfl rfl rfl<|st (i := 1) [i6 m, i6 m_3, i6 m_2, i6 m_4] [i6 m, i6 m_3, i6 m_2, i6 m_4] sizeOf88 rfl rfl<|Jd<|Jh<|?_
    obtain rfl := sj H27
    refine retC (i := 1) (vs := [i6 m, i6 m_3, i6 m_2, i6 m_4]) isAgg88 sizeOf88 rfl rfl rfl rfl (fin rfl)
  ) (by kernel_rfl)
theorem k12 {a0 : T_api_Place} {a1 : Int} {r : (List UInt8) × Int} (H : where_Cell a0 a1 = some r) : Ret prog 12 [.agg #[i6 a0.Lat, i6 a0.Lon], i6 a1] (.tuple #[str r.1, i6 r.2]) := by
 refine Xr (n := 59) func12 rfl rfl rfl (fun wd => ?_)
 refine Jc<|Ja<|?_
 refine Z5 (cs := [i6 a0.Lat, i6 a0.Lon]) rfl rfl rfl rfl (fun b4 => ?_)
 refine ag (str [])<|ag (i6 0)<|Jd<|Jc<|Jc<|Ja<|Qx (i := 0) (vs := [i6 a0.Lat, i6 a0.Lon]) isAgg26 sizeOf26 rfl rfl rfl rfl rfl<|?_
 obtain ⟨t13, h_t13, H29⟩ := Je H; clear H
 refine Xy (k5 h_t13) call5 rfl rfl rfl<|ag (i6 t13)<|Jd<|Jc<|Ja<|mv (i6 t13)<|lv (Yo rfl rfl)<|Jd<|?_
 revert H29
 refine ci (decide (t13 ≠ 0)) rfl (fun hb H30=>?_) fun hb H31=>?_
 ·refine Jc<|Ja<|mv (i6 t13)<|ag (str [])<|ag (i6 t13)<|Jd<|Jh<|?_
  obtain rfl := sj H30
  refine Z2 (v1 := str []) (v2 := i6 t13) rfl rfl rfl (fin rfl)
 ·refine Ji<|Jc<|Jc<|Ja<|mv (i6 a1)<|?_
  obtain ⟨t18, h_t18, H32⟩ := Je H31; clear H31
  refine Xy (k36 h_t18) call36 rfl rfl rfl<|Jd<|?_
  revert H32
  refine ci t18 rfl (fun hb H33=>?_) fun hb H34=>?_
  ·refine Jc<|Ja<|ag (str [])<|ag (i6 2)<|Jd<|Jh<|?_
   obtain rfl := sj H33
   refine Z2 (v1 := str []) (v2 := i6 2) rfl rfl rfl (fin rfl)
  ·refine Ji<|Jc<|Ja<|?_
   refine Xf (cs := [.int .u8 0, .int .u8 0, .int .u8 0, .int .u8 0, .int .u8 0, .int .u8 0, .int .u8 0, .int .u8 0, .int .u8 0, .int .u8 0, .int .u8 0, .int .u8 0, .int .u8 0, .int .u8 0, .int .u8 0, .int .u8 0, .int .u8 0, .int .u8 0, .int .u8 0, .int .u8 0, .int .u8 0, .int .u8 0, .int .u8 0, .int .u8 0]) zeroValue86 rfl rfl rfl (fun b5 => ?_)
   refine Jd<|Jc<|Ja<|?_
   obtain ⟨t19, h_t19, H35⟩ := Je H34; clear H34
   refine Xy (k37 h_t19) call37 rfl rfl rfl ?_
   refine Xf (cs := [i6 0, i6 0, i6 0, i6 0]) zeroValue88 rfl rfl rfl (fun b6 => ?_)
   refine st (i := 2) [i6 t19.South, i6 t19.West, i6 t19.North, i6 t19.East] [i6 t19.South, i6 t19.West, i6 t19.North, i6 t19.East] sizeOf88 rfl rfl<|Jd<|?_
   refine Q3 (r := r) (σ := (Nat → Int)) (τ := Unit) (fun s => where_Cell_j1 a1 s) (fun s t => [(1, i6 a1), (7, .pointer (some ⟨b5, 0, none⟩))]) (fun s t => [Jg b5 [.int .u8 (s 0), .int .u8 (s 1), .int .u8 (s 2), .int .u8 (s 3), .int .u8 (s 4), .int .u8 (s 5), .int .u8 (s 6), .int .u8 (s 7), .int .u8 (s 8), .int .u8 (s 9), .int .u8 (s 10), .int .u8 (s 11), .int .u8 (s 12), .int .u8 (s 13), .int .u8 (s 14), .int .u8 (s 15), .int .u8 (s 16), .int .u8 (s 17), .int .u8 (s 18), .int .u8 (s 19), .int .u8 (s 20), .int .u8 (s 21), .int .u8 (s 22), .int .u8 (s 23)] 86]) (fun s t => True) ?_ ?_
   ·refine Jc<|Ja<|mv (i6 a1)<|mv (i6 0)<|Jd<|Jx<|?_
    refine Zn (σ := Int × (Nat → Int) × Int × Int × Int × Int) (τ := Unit) (fun next2 s => Z6 a0 a1 next2 s.1 s.2.1 s.2.2.1 s.2.2.2.1 s.2.2.2.2.1 s.2.2.2.2.2) (fun s t => [(1, i6 a1), (2, .pointer (some ⟨b4, 0, none⟩)), (7, .pointer (some ⟨b5, 0, none⟩)), (8, .pointer (some ⟨b6, 0, none⟩)), (20, i6 a1), (21, i6 s.1)]) (fun s t => [Jg b4 [i6 a0.Lat, i6 a0.Lon] 26, Jg b5 [.int .u8 (s.2.1 0), .int .u8 (s.2.1 1), .int .u8 (s.2.1 2), .int .u8 (s.2.1 3), .int .u8 (s.2.1 4), .int .u8 (s.2.1 5), .int .u8 (s.2.1 6), .int .u8 (s.2.1 7), .int .u8 (s.2.1 8), .int .u8 (s.2.1 9), .int .u8 (s.2.1 10), .int .u8 (s.2.1 11), .int .u8 (s.2.1 12), .int .u8 (s.2.1 13), .int .u8 (s.2.1 14), .int .u8 (s.2.1 15), .int .u8 (s.2.1 16), .int .u8 (s.2.1 17), .int .u8 (s.2.1 18), .int .u8 (s.2.1 19), .int .u8 (s.2.1 20), .int .u8 (s.2.1 21), .int .u8 (s.2.1 22), .int .u8 (s.2.1 23)] 86, Jg b6 [i6 s.2.2.1, i6 s.2.2.2.1, i6 s.2.2.2.2.1, i6 s.2.2.2.2.2] 88]) (fun s t => True) (0, (fun _ => 0), t19.South, t19.West, t19.North, t19.East) () [0, 1, 2] H35 (by exact trivial) (by exact ⟨rfl, rfl, rfl, rfl, rfl, rfl, trivial⟩) (by decide) rfl ?_
    rintro ⟨x21_2, m_7, m_8, m_9, m_10, m_11⟩ _ m2 gg H38 _
    clear H35
    try dsimp only at H38
    generalize hn2 : it (fun next2 s => Z6 a0 a1 next2 s.1 s.2.1 s.2.2.1 s.2.2.2.1 s.2.2.2.2.1 s.2.2.2.2.2) m2 = next2 at H38
    try dsimp only
    refine Jc<|Ja<|lv (Yc rfl rfl)<|Jd<|Jc<|?_
    revert H38
    refine ci (decide (x21_2 < a1)) rfl (fun hb H39=>?_) fun hb H56=>?_
    ·refine Ji ?_
     refine Q3 (r := r) (σ := (Nat → Int) × Int × Int × Int × Int) (τ := Unit) (fun s => U0 x21_2 next2 s.1 s.2.1 s.2.2.1 s.2.2.2.1 s.2.2.2.2) (fun s t => [(1, i6 a1), (2, .pointer (some ⟨b4, 0, none⟩)), (7, .pointer (some ⟨b5, 0, none⟩)), (8, .pointer (some ⟨b6, 0, none⟩)), (20, i6 a1), (21, i6 x21_2)]) (fun s t => [Jg b4 [i6 a0.Lat, i6 a0.Lon] 26, Jg b5 [.int .u8 (s.1 0), .int .u8 (s.1 1), .int .u8 (s.1 2), .int .u8 (s.1 3), .int .u8 (s.1 4), .int .u8 (s.1 5), .int .u8 (s.1 6), .int .u8 (s.1 7), .int .u8 (s.1 8), .int .u8 (s.1 9), .int .u8 (s.1 10), .int .u8 (s.1 11), .int .u8 (s.1 12), .int .u8 (s.1 13), .int .u8 (s.1 14), .int .u8 (s.1 15), .int .u8 (s.1 16), .int .u8 (s.1 17), .int .u8 (s.1 18), .int .u8 (s.1 19), .int .u8 (s.1 20), .int .u8 (s.1 21), .int .u8 (s.1 22), .int .u8 (s.1 23)] 86, Jg b6 [i6 s.2.1, i6 s.2.2.1, i6 s.2.2.2.1, i6 s.2.2.2.2] 88]) (fun s t => True) ?_ ?_
     ·refine Jx<|Jc<|Ja<|mv (i6 x21_2)<|ag (i6 x21_2)<|Jd<|Jc<|Ja<|mv (i6 0)<|Jd<|Jx<|?_
      refine Zn (σ := Int) (τ := Unit) (fun next4 s => Va a0 x21_2 m_7 m_8 m_9 m_10 m_11 next2 next4 s) (fun s t => [(1, i6 a1), (2, .pointer (some ⟨b4, 0, none⟩)), (7, .pointer (some ⟨b5, 0, none⟩)), (8, .pointer (some ⟨b6, 0, none⟩)), (9, i6 x21_2), (20, i6 a1), (21, i6 x21_2), (24, i6 s)]) (fun s t => [Jg b4 [i6 a0.Lat, i6 a0.Lon] 26, Jg b5 [.int .u8 (m_7 0), .int .u8 (m_7 1), .int .u8 (m_7 2), .int .u8 (m_7 3), .int .u8 (m_7 4), .int .u8 (m_7 5), .int .u8 (m_7 6), .int .u8 (m_7 7), .int .u8 (m_7 8), .int .u8 (m_7 9), .int .u8 (m_7 10), .int .u8 (m_7 11), .int .u8 (m_7 12), .int .u8 (m_7 13), .int .u8 (m_7 14), .int .u8 (m_7 15), .int .u8 (m_7 16), .int .u8 (m_7 17), .int .u8 (m_7 18), .int .u8 (m_7 19), .int .u8 (m_7 20), .int .u8 (m_7 21), .int .u8 (m_7 22), .int .u8 (m_7 23)] 86, Jg b6 [i6 m_8, i6 m_9, i6 m_10, i6 m_11] 88]) (fun s t => True) 0 () [0, 1, 2] H39 (by exact trivial) (by exact ⟨rfl, rfl, rfl, rfl, rfl, rfl, rfl, rfl, trivial⟩) (by decide) rfl ?_
      rintro x24_2 _ m4 gg H42 _
      clear H39
      try dsimp only at H42
      generalize hn4 : it (fun next4 s => Va a0 x21_2 m_7 m_8 m_9 m_10 m_11 next2 next4 s) m4 = next4 at H42
      try dsimp only
      refine Jc<|Ja<|lv (Yc rfl rfl)<|Jd<|Jc<|?_
      revert H42
      refine ci (decide (x24_2 < 4)) rfl (fun hb H43=>?_) fun hb H55=>?_
      ·refine Ji ?_
       refine Q3 (r := r) (σ := Unit) (τ := Unit) (fun s => U5 x24_2 next4) (fun s t => [(1, i6 a1), (2, .pointer (some ⟨b4, 0, none⟩)), (7, .pointer (some ⟨b5, 0, none⟩)), (8, .pointer (some ⟨b6, 0, none⟩)), (9, i6 x21_2), (20, i6 a1), (21, i6 x21_2), (24, i6 x24_2)]) (fun s t => [Jg b4 [i6 a0.Lat, i6 a0.Lon] 26, Jg b5 [.int .u8 (m_7 0), .int .u8 (m_7 1), .int .u8 (m_7 2), .int .u8 (m_7 3), .int .u8 (m_7 4), .int .u8 (m_7 5), .int .u8 (m_7 6), .int .u8 (m_7 7), .int .u8 (m_7 8), .int .u8 (m_7 9), .int .u8 (m_7 10), .int .u8 (m_7 11), .int .u8 (m_7 12), .int .u8 (m_7 13), .int .u8 (m_7 14), .int .u8 (m_7 15), .int .u8 (m_7 16), .int .u8 (m_7 17), .int .u8 (m_7 18), .int .u8 (m_7 19), .int .u8 (m_7 20), .int .u8 (m_7 21), .int .u8 (m_7 22), .int .u8 (m_7 23)] 86, Jg b6 [i6 m_8, i6 m_9, i6 m_10, i6 m_11] 88]) (fun s t => True) ?_ ?_
       ·refine Jx<|Jc<|Ja<|mv (i6 x24_2)<|ag (i6 x24_2)<|Jd<|Jc<|Ja<|Qx (i := 2) (vs := [i6 m_8, i6 m_9, i6 m_10, i6 m_11]) isAgg88 sizeOf88 rfl rfl rfl rfl rfl<|mv (i6 x24_2)<|?_
        obtain ⟨t29, h_t29, H46⟩ := Je H43; clear H43
        refine Xy (k38 h_t29) call38 rfl rfl rfl ?_
        refine Xf (cs := [i6 0, i6 0, i6 0, i6 0]) zeroValue88 rfl rfl rfl (fun b7 => ?_)
        refine st (i := 3) [i6 t29.South, i6 t29.West, i6 t29.North, i6 t29.East] [i6 t29.South, i6 t29.West, i6 t29.North, i6 t29.East] sizeOf88 rfl rfl<|Jd<|Jc<|?_
        try dsimp only [z1, z2, z5, z6, z7, z8]
        refine Ja<|lf runUnderlying26 rfl sizeOf3 rfl<|ll 0 (i6 a0.Lat) isAgg3<|lf runUnderlying88 rfl sizeOf3 rfl<|ll 3 (i6 t29.South) isAgg3<|lf runUnderlying88 rfl sizeOf3 rfl<|ll 3 (i6 t29.North) isAgg3<|?_
        obtain ⟨t36, h_t36, H47⟩ := Je H46; clear H46
        refine Xy (k36 h_t36) call36 rfl rfl rfl<|lv (Uu rfl)<|mv (.bool (!t36))<|?_
        revert H47
        refine sp (fun hb H48=>?_) fun hb H54=>?_
        ·refine lf runUnderlying26 rfl sizeOf3 rfl<|ll 0 (i6 a0.Lon) isAgg3<|lf runUnderlying88 rfl sizeOf3 rfl<|ll 3 (i6 t29.West) isAgg3<|lf runUnderlying88 rfl sizeOf3 rfl<|ll 3 (i6 t29.East) isAgg3<|?_
         obtain ⟨t45, h_t45, H49⟩ := Je H48; clear H48
         refine Xy (k36 h_t45) call36 rfl rfl rfl<|lv (Uu rfl)<|pT (.bool (!t45))<|Jd<|?_
         revert H49
         refine ci (!t45) rfl (fun hb H50=>?_) fun hb H53=>?_
         ·refine Jc ?_
          exact Qi (Kd.p :: Kd.p :: Kd.p :: Kd.p :: Kd.d [3] _ :: Kd.p :: Kd.st 53 1 [_, _, _, _, _, _, _, _, _, _, _, _, _, _, _, _, _, _, _, _, _, _, _, _] 86 :: Kd.st 8 2 [_, _, _, _] 88 :: []) 0 mixed (by
           refine dm (i6 x21_2)<|dm (i6 x24_2)<|?_
           have h_t50 := J0 H50
           have H51 := Ju H50
           refine dv (J1 rfl rfl h_t50)<|dv (W9 runUnderlying3 runUnderlying5 rfl (wr_u8 _))<|d_loadN (i := 3) (vs := [i6 t29.South, i6 t29.West, i6 t29.North, i6 t29.East]) isAgg88 sizeOf88 rfl rfl rfl rfl<|?_
           have h_k53 := J0 H51
           have H52 := Ju H51
           refine dv (r_indexPG runUnderlying86 sizeOf5 rfl rfl h_k53)<|d_store (i := 1) (vs := [.int .u8 (wU8 (val (gI (48 + x24_2))))]) (cs' := [.int .u8 ((Zh m_7 (val (gIx 24 x21_2)) (wU8 (val (gI (48 + x24_2))))) 0), .int .u8 ((Zh m_7 (val (gIx 24 x21_2)) (wU8 (val (gI (48 + x24_2))))) 1), .int .u8 ((Zh m_7 (val (gIx 24 x21_2)) (wU8 (val (gI (48 + x24_2))))) 2), .int .u8 ((Zh m_7 (val (gIx 24 x21_2)) (wU8 (val (gI (48 + x24_2))))) 3), .int .u8 ((Zh m_7 (val (gIx 24 x21_2)) (wU8 (val (gI (48 + x24_2))))) 4), .int .u8 ((Zh m_7 (val (gIx 24 x21_2)) (wU8 (val (gI (48 + x24_2))))) 5), .int .u8 ((Zh m_7 (val (gIx 24 x21_2)) (wU8 (val (gI (48 + x24_2))))) 6), .int .u8 ((Zh m_7 (val (gIx 24 x21_2)) (wU8 (val (gI (48 + x24_2))))) 7), .int .u8 ((Zh m_7 (val (gIx 24 x21_2)) (wU8 (val (gI (48 + x24_2))))) 8), .int .u8 ((Zh m_7 (val (gIx 24 x21_2)) (wU8 (val (gI (48 + x24_2))))) 9), .int .u8 ((Zh m_7 (val (gIx 24 x21_2)) (wU8 (val (gI (48 + x24_2))))) 10), .int .u8 ((Zh m_7 (val (gIx 24 x21_2)) (wU8 (val (gI (48 + x24_2))))) 11), .int .u8 ((Zh m_7 (val (gIx 24 x21_2)) (wU8 (val (gI (48 + x24_2))))) 12), .int .u8 ((Zh m_7 (val (gIx 24 x21_2)) (wU8 (val (gI (48 + x24_2))))) 13), .int .u8 ((Zh m_7 (val (gIx 24 x21_2)) (wU8 (val (gI (48 + x24_2))))) 14), .int .u8 ((Zh m_7 (val (gIx 24 x21_2)) (wU8 (val (gI (48 + x24_2))))) 15), .int .u8 ((Zh m_7 (val (gIx 24 x21_2)) (wU8 (val (gI (48 + x24_2))))) 16), .int .u8 ((Zh m_7 (val (gIx 24 x21_2)) (wU8 (val (gI (48 + x24_2))))) 17), .int .u8 ((Zh m_7 (val (gIx 24 x21_2)) (wU8 (val (gI (48 + x24_2))))) 18), .int .u8 ((Zh m_7 (val (gIx 24 x21_2)) (wU8 (val (gI (48 + x24_2))))) 19), .int .u8 ((Zh m_7 (val (gIx 24 x21_2)) (wU8 (val (gI (48 + x24_2))))) 20), .int .u8 ((Zh m_7 (val (gIx 24 x21_2)) (wU8 (val (gI (48 + x24_2))))) 21), .int .u8 ((Zh m_7 (val (gIx 24 x21_2)) (wU8 (val (gI (48 + x24_2))))) 22), .int .u8 ((Zh m_7 (val (gIx 24 x21_2)) (wU8 (val (gI (48 + x24_2))))) 23)]) sizeOf5 rfl rfl rfl rfl rfl rfl rfl rfl (wr_arr (pre := []) (post := []) (f := fun (j_ : Int) => [.int .u8 j_]) (n := 24) (sz := 1) (a := m_7) (x := (wU8 (val (gI (48 + x24_2))))) rfl rfl (fun _ => rfl) (gIx_lt h_k53) rfl rfl)<|d_store (i := 2) (vs := [i6 t29.South, i6 t29.West, i6 t29.North, i6 t29.East]) (cs' := [i6 t29.South, i6 t29.West, i6 t29.North, i6 t29.East]) sizeOf88 rfl rfl rfl rfl rfl rfl rfl rfl rfl<|Y8<|Xx<|?_
           exact cl ((Zh m_7 (val (gIx 24 x21_2)) (wU8 (val (gI (48 + x24_2))))), t29.South, t29.West, t29.North, t29.East) () 0 [0, 1, 2] (by exact ⟨H52, trivial⟩)
           ) (by kernel_rfl)
         ·refine Ji ?_
          exact cl () () 0 [0, 1, 2] (by exact ⟨H53, trivial⟩)
        ·refine pa<|pa<|pa<|pa<|pa<|pa<|pa<|pa<|pF (.bool false)<|Jd<|U7 rfl<|Ji<|?_
         exact cl () () 0 [0, 1, 2] (by exact ⟨H54, trivial⟩)
       ·rintro _ _ gg H44 _
        try dsimp only at H44
        try dsimp only
        refine Ja ?_
        obtain ⟨t54, h_t54, H45⟩ := Je H44; clear H44
        refine lv (J1 rfl rfl h_t54)<|mv (i6 t54)<|Jd<|?_
        exact cl t54 () m4 [0, 1, 2] (by exact ⟨(by subst hn4; exact H45), trivial⟩)
      ·refine Xx ?_
       exact cl (m_7, m_8, m_9, m_10, m_11) () 0 [0, 1, 2] (by exact ⟨H55, trivial⟩)
     ·rintro ⟨m_12, m_13, m_14, m_15, m_16⟩ _ gg H40 _
      try dsimp only at H40
      try dsimp only
      refine Ja ?_
      obtain ⟨t55, h_t55, H41⟩ := Je H40; clear H40
      refine lv (J1 rfl rfl h_t55)<|mv (i6 t55)<|Jd<|?_
      exact cl (t55, m_12, m_13, m_14, m_15, m_16) () m2 [0, 1, 2] (by exact ⟨(by subst hn2; exact H41), trivial⟩)
    ·refine Xx ?_
     exact cl m_7 () 0 [1] (by exact ⟨H56, trivial⟩)
   ·rintro m _ gg H36 _
    try dsimp only at H36
    try dsimp only
    refine Jc<|Ja<|mv (i6 a1)<|?_
    obtain ⟨t57, h_t57, H37⟩ := Je H36; clear H36
    refine lv (r_sliceArr underlying86 sizeOf5 rfl rfl h_t57)<|Qs (fun w hF hS => run_bytes (f := Xc) (xs := t57) rfl underlying91 underlying5 underlying9 rfl (fun _ => rfl) (row_arr (f := Xc) (i := 0) hS rfl (by kernel_rfl) (fun _ => rfl) h_t57)) rfl rfl rfl<|ag (str (Z8 t57))<|ag (i6 0)<|Jd<|Jh<|?_
    obtain rfl := sj H37
    refine Z2 (v1 := str (Z8 t57)) (v2 := i6 0) rfl rfl rfl (fin rfl)
end Go.Proofs.YtdcppgplkfkjiaaGreatDoor

/- Directories of one's own, in a heap, with the blocks that they take. Conditions: those that each rule names. -/
namespace Go.Proofs.YtdcppgplkfkjiaaGreatDoor
open Go Go.Vc Go.Md Go.M Go.Lx
set_option linter.unusedVariables false
def TreeE (R : Jo → Value → List T_tag_Entry → List Nat → Prop) (h : Jo) (c : List Value) (x : T_tag_Entry) (bs : List Nat) : Prop :=
  ∃ (v3 v4 v5 : Value) (b5 : List Nat), c = [.int .i64 x.Tag, .int .i64 x.Value.Kind, str x.Value.Text, v3, v4, v5] ∧ FrS h 1 v3 (x.Value.Ints.map Qc) ∧ FrS h 2 v4 (x.Value.Ratios.map Jl) ∧ R h v5 x.Value.Entries b5 ∧ bs = roB v3 x.Value.Ints.length ++ (roB v4 x.Value.Ratios.length ++ b5)
abbrev KidsL (R : Jo → Value → List T_tag_Entry → List Nat → Prop) (h : Jo) (css : List (List Value)) (xs : List T_tag_Entry) (bs : List Nat) : Prop := KidsG (TreeE R) h css xs bs
def TreeL : Nat → Jo → Value → List T_tag_Entry → List Nat → Prop
  | 0, _, v, xs, bs => v = .slice none 0 0 ∧ xs = [] ∧ bs = []
  | d + 1, h, v, xs, bs => ∃ (css : List (List Value)) (b2 : List Nat), RowP h 62 6 v css ∧ KidsL (TreeL d) h css xs b2 ∧ bs = v.ownBlock.toList ++ b2
theorem TreeE.agree {R : Jo → Value → List T_tag_Entry → List Nat → Prop} {h h' : Jo} {c : List Value} {x : T_tag_Entry} {bs : List Nat} (hR : ∀ v xs b, R h v xs b → (∀ q ∈ b, ∀ o, h q = some o → h' q = some o) → R h' v xs b) (e : TreeE R h c x bs) (k : ∀ q ∈ bs, ∀ o, h q = some o → h' q = some o) : TreeE R h' c x bs := by
  obtain ⟨v3, v4, v5, b5, e1, e2, e3, e4, rfl⟩ := e
  exact ⟨v3, v4, v5, b5, e1, e2.agree (by rw [List.length_map]; exact fun q hq => k q (by simp [hq])), e3.agree (by rw [List.length_map]; exact fun q hq => k q (by simp [hq])), hR _ _ _ e4 (fun q hq => k q (by simp [hq])), rfl⟩
theorem TreeL.agree : ∀ {d : Nat} {h h' : Jo} {v : Value} {xs : List T_tag_Entry} {bs : List Nat}, TreeL d h v xs bs → (∀ q ∈ bs, ∀ o, h q = some o → h' q = some o) → TreeL d h' v xs bs := by
  intro d
  induction d with
  | zero => intro h h' v xs bs t _; exact t
  | succ d ih =>
    rintro h h' v xs bs ⟨css, b2, r, k, rfl⟩ q
    exact ⟨css, b2, r.mono fun b hb => q b (by simp [hb]), k.agree (fun c x b t k => t.agree (fun v xs b t k => ih t k) k) fun y hy => q y (List.mem_append_right _ hy), rfl⟩
theorem TreeL.mono {d : Nat} {h h' : Jo} {v : Value} {xs : List T_tag_Entry} {bs : List Nat} (t : TreeL d h v xs bs) (k : ∀ b o, h b = some o → h' b = some o) : TreeL d h' v xs bs := t.agree fun q _ => k q
theorem TreeE.mono {d : Nat} {h h' : Jo} {c : List Value} {x : T_tag_Entry} {bs : List Nat} (t : TreeE (TreeL d) h c x bs) (k : ∀ b o, h b = some o → h' b = some o) : TreeE (TreeL d) h' c x bs := t.agree (fun v xs b t k => t.agree k) fun q _ => k q
theorem kidsL_mono {d : Nat} {h h' : Jo} {css : List (List Value)} {xs : List T_tag_Entry} {bs : List Nat} (t : KidsL (TreeL d) h css xs bs) (k : ∀ b o, h b = some o → h' b = some o) : KidsL (TreeL d) h' css xs bs := t.agree (fun c x b t k => t.agree (fun v xs b t k => t.agree k) k) fun q _ => k q
theorem TreeL.frn : ∀ {d : Nat} {h : Jo} {v : Value} {xs : List T_tag_Entry} {bs : List Nat}, TreeL d h v xs bs → FrN h 6 v g_tag_Entry xs := by
  intro d
  induction d with
  | zero =>
    rintro h v xs bs ⟨rfl, rfl, _⟩
    exact ⟨FrS.nil _ _, fun i x hx => by cases hx⟩
  | succ d ih =>
    rintro h v xs bs ⟨css, b2, r, k, rfl⟩
    have hid : css.map idC = css := by unfold idC; simp
    refine Ux (by rw [hid]; exact r.frs) ?_
    refine k.allC fun c x b t => ?_
    obtain ⟨v3, v4, v5, b5, e1, e2, e3, e4, _⟩ := t
    subst e1
    have f := ih e4
    exact ⟨rfl, .mk rfl rfl rfl e2 e3 f.frs f.el⟩
abbrev treeC (d : Nat) (v : Value) (xs : List T_tag_Entry) : Chunk := ownC fun h bs => TreeL d h v xs bs
abbrev kidsC (d : Nat) (css : List (List Value)) (xs : List T_tag_Entry) : Chunk := ownC fun h bs => KidsL (TreeL d) h css xs bs
theorem imp_kid {d : Nat} {v3 v4 v5 : Value} {x : T_tag_Entry} :
    Imp (Jt (roV 1 v3 x.Value.Ints.length (x.Value.Ints.map Qc)) (Jt (roV 2 v4 x.Value.Ratios.length (x.Value.Ratios.map Jl)) (treeC d v5 x.Value.Entries)))
      (ownC fun h bs => TreeE (TreeL d) h [.int .i64 x.Tag, .int .i64 x.Value.Kind, str x.Value.Text, v3, v4, v5] x bs) := by
  have i1 := imp_bothM (imp_roOwn (sz := 2) (n := x.Value.Ratios.length) (v := v4) (xs := x.Value.Ratios.map Jl)) (Imp.refl (treeC d v5 x.Value.Entries))
  have i2 := imp_trans i1 (own_both (Χ := fun h bs => ∃ b5, FrS h 2 v4 (x.Value.Ratios.map Jl) ∧ TreeL d h v5 x.Value.Entries b5 ∧ bs = roB v4 x.Value.Ratios.length ++ b5) (fun h h' bs k t => ⟨t.1.mono k, t.2⟩) (fun h h' bs k t => t.mono k) fun h b1 b2 t1 t2 => ⟨b2, t1.1, t2, by rw [t1.2, List.length_map]⟩)
  have i3 := imp_bothM (imp_roOwn (sz := 1) (n := x.Value.Ints.length) (v := v3) (xs := x.Value.Ints.map Qc)) i2
  exact imp_trans i3 (own_both (fun h h' bs k t => ⟨t.1.mono k, t.2⟩) (fun h h' bs k ⟨b5, t1, t2, t3⟩ => ⟨b5, t1.mono k, t2.mono k, t3⟩) fun h b1 b2 t1 ⟨b5, t2, t3, t4⟩ => ⟨v3, v4, v5, b5, rfl, t1.1, t2, t3, by rw [t1.2, t4, List.length_map]⟩)
theorem imp_kids {d : Nat} {css : List (List Value)} {xs : List T_tag_Entry} {c : List Value} {x : T_tag_Entry} : Imp (Jt (kidsC d css xs) (ownC fun h bs => TreeE (TreeL d) h c x bs)) (kidsC d (css ++ [c]) (xs ++ [x])) :=
  own_both (fun h h' bs k t => kidsL_mono t k) (fun h h' bs k t => t.mono k) fun h b1 b2 t1 t2 => t1.snoc t2
theorem imp_tree {d n : Nat} {v : Value} {css : List (List Value)} {xs : List T_tag_Entry} : Imp (Jt (Js 62 6 v n css) (kidsC d css xs)) (treeC (d + 1) v xs) :=
  imp_trans (imp_bothM imp_rowOwn (Imp.refl _)) (own_both (fun h h' bs k t => ⟨t.1.mono fun b _ => k b, t.2⟩) (fun h h' bs k t => kidsL_mono t k) fun h b1 b2 t1 t2 => ⟨css, b2, t1.1, t2, by rw [t1.2.2]⟩)
theorem imp_tree0 {d : Nat} : Imp empC (treeC (d + 1) (.slice none 0 0) []) := imp_emptyOwn ⟨[], [], ⟨by simp, .inl ⟨rfl, rfl⟩⟩, rfl, rfl⟩
theorem imp_kids0 {d : Nat} : Imp empC (kidsC d [] []) := imp_emptyOwn rfl
end Go.Proofs.YtdcppgplkfkjiaaGreatDoor

/- What copies entries makes new ones of its own. Conditions: sizes. -/
namespace Go.Proofs.YtdcppgplkfkjiaaGreatDoor
open Go Go.Vc Go.Md Go.M Go.Lx
set_option maxRecDepth 100000
set_option maxHeartbeats 4000000
set_option linter.unusedVariables false
def EntsC (d : Nat) : Prop := ∀ {xs : List T_tag_Entry} {v0 : Value} {w : World} {h : Jo} (_ : Know h w Y2) (_ : FrN h 6 v0 g_tag_Entry xs) (_ : fits d xs),
  Does Tryz.prog 44 (List.toArray [v0]) w (fun v w' => ∃ x : Option Addr × Nat, v = .slice x.1 xs.length x.2 ∧ Turn w w' Y2 (treeC d (.slice x.1 xs.length x.2) xs))
theorem clone_ints {l : List Int} (h : l.length ≤ 2000000) : Za l = some l := by
  unfold Za
  rw [Yl (by simp only [List.length_nil]; omega)]; rfl
theorem clone_rats {l : List T_tag_Ratio} (h : l.length ≤ 2000000) : Wt l = some l := by
  unfold Wt
  rw [Yl (by simp only [List.length_nil]; omega)]; rfl
theorem k21_of {d : Nat} (C : EntsC d) {a0 : T_tag_Value} {v0_2 v0_3 v0_4 : Value} {w : World} {h : Jo} (hw : Know h w Y2) (f0_2 : FrS h 1 v0_2 (a0.Ints.map Qc)) (f0_3 : FrS h 2 v0_3 (a0.Ratios.map Jl)) (f0_4 : FrN h 6 v0_4 g_tag_Entry a0.Entries) (hf : fitV d a0) :
    Does Tryz.prog 21 (List.toArray [.agg #[.int .i64 a0.Kind, str a0.Text, v0_2, v0_3, v0_4]]) w (fun v w' => ∃ x : (Option Addr × Nat) × (Option Addr × Nat) × (Option Addr × Nat), v = (.agg #[.int .i64 a0.Kind, str a0.Text, .slice x.1.1 a0.Ints.length x.1.2, .slice x.2.1.1 a0.Ratios.length x.2.1.2, .slice x.2.2.1 a0.Entries.length x.2.2.2]) ∧
      Turn w w' Y2 (Jt (roV 1 (.slice x.1.1 a0.Ints.length x.1.2) a0.Ints.length (a0.Ints.map Qc)) (Jt (roV 2 (.slice x.2.1.1 a0.Ratios.length x.2.1.2) a0.Ratios.length (a0.Ratios.map Jl)) (treeC d (.slice x.2.2.1 a0.Entries.length x.2.2.2) a0.Entries)))) := by
 obtain ⟨z1_, z2_, z3_⟩ := hf
 have h_t5 := clone_ints z1_
 have h_t10 := clone_rats z2_
 refine enter (n := 18) Tryz.func21 rfl rfl rfl Y2 [] (Sat.nil _ _) ?_
 refine Zp X1 ?_
 refine Jc ?_
 refine Ja ?_
 refine Z5 (cs := [.int .i64 a0.Kind, str a0.Text, v0_2, v0_3, v0_4]) rfl rfl rfl rfl (fun b4 => ?_)
 refine Xf (cs := [.int .i64 0, str [], .slice none 0 0, .slice none 0 0, .slice none 0 0]) Tryz.zeroValue38 rfl rfl rfl (fun b5 => ?_)
 refine Jd ?_
 refine Jc ?_
 refine Ja ?_
 refine Jp rfl rfl rfl (J3 Tryz.runUnderlying38 rfl Tryz.sizeOf30 rfl rfl) ?_
 refine l_load1 (i := 1) (v := v0_2) Tryz.isAgg30 rfl rfl rfl rfl rfl ?_
 refine Yw (Qm (rds := []) (G := fun x : (Option Addr × Nat) => .slice x.1 a0.Ints.length x.2) (C := fun x : (Option Addr × Nat) => Js 3 1 (.slice x.1 a0.Ints.length x.2) a0.Ints.length (a0.Ints.map Qc)) (fun w L' hF hS hi => k46 (Jn w) (f0_2.mono (hw.now hF)) h_t5) Tryz.call46 rfl) rfl rfl rfl (fun p => ?_)
 refine Qo (fun w hF hS => k45 (capOf (i := 3) hS rfl) w) Tryz.call45 rfl rfl rfl ?_
 refine Jp rfl rfl rfl (J3 Tryz.runUnderlying38 rfl Tryz.sizeOf30 rfl rfl) ?_
 refine Ya (i := 1) (vs := [.slice (Q7 p.1 0 a0.Ints.length 1) a0.Ints.length a0.Ints.length]) (cs' := [.int .i64 a0.Kind, str a0.Text, .slice (Q7 p.1 0 a0.Ints.length 1) a0.Ints.length a0.Ints.length, v0_3, v0_4]) Tryz.sizeOf30 rfl rfl rfl rfl rfl rfl rfl rfl rfl ?_
 refine Jd ?_
 refine Jc ?_
 refine Ja ?_
 refine Jp rfl rfl rfl (J3 Tryz.runUnderlying38 rfl Tryz.sizeOf31 rfl rfl) ?_
 refine l_load1 (i := 1) (v := v0_3) Tryz.isAgg31 rfl rfl rfl rfl rfl ?_
 refine Yw (Qm (rds := []) (G := fun x : (Option Addr × Nat) => .slice x.1 a0.Ratios.length x.2) (C := fun x : (Option Addr × Nat) => Js 52 2 (.slice x.1 a0.Ratios.length x.2) a0.Ratios.length (a0.Ratios.map Jl)) (fun w L' hF hS hi => k48 (Jn w) (f0_3.mono (hw.now hF)) h_t10) Tryz.call48 rfl) rfl rfl rfl (fun p_2 => ?_)
 refine Qo (fun w hF hS => k47 (capOf (i := 4) hS rfl) w) Tryz.call47 rfl rfl rfl ?_
 refine Jp rfl rfl rfl (J3 Tryz.runUnderlying38 rfl Tryz.sizeOf31 rfl rfl) ?_
 refine Ya (i := 1) (vs := [.slice (Q7 p_2.1 0 a0.Ratios.length 2) a0.Ratios.length a0.Ratios.length]) (cs' := [.int .i64 a0.Kind, str a0.Text, .slice (Q7 p.1 0 a0.Ints.length 1) a0.Ints.length a0.Ints.length, .slice (Q7 p_2.1 0 a0.Ratios.length 2) a0.Ratios.length a0.Ratios.length, v0_4]) Tryz.sizeOf31 rfl rfl rfl rfl rfl rfl rfl rfl rfl ?_
 refine Jd ?_
 refine Jc ?_
 refine Ja ?_
 refine Jp rfl rfl rfl (J3 Tryz.runUnderlying38 rfl Tryz.sizeOf36 rfl rfl) ?_
 refine l_load1 (i := 1) (v := v0_4) Tryz.isAgg36 rfl rfl rfl rfl rfl ?_
 refine Yw (Qm (rds := []) (G := fun x : (Option Addr × Nat) => .slice x.1 a0.Entries.length x.2) (C := fun x : (Option Addr × Nat) => treeC d (.slice x.1 a0.Entries.length x.2) a0.Entries) (fun w L' hF hS hi => C (Jn w) (f0_4.mono (hw.now hF)) z3_) Tryz.call44 rfl) rfl rfl rfl (fun p_3 => ?_)
 refine Jp rfl rfl rfl (J3 Tryz.runUnderlying38 rfl Tryz.sizeOf36 rfl rfl) ?_
 refine Ya (i := 1) (vs := [.slice p_3.1 a0.Entries.length p_3.2]) (cs' := [.int .i64 a0.Kind, str a0.Text, .slice (Q7 p.1 0 a0.Ints.length 1) a0.Ints.length a0.Ints.length, .slice (Q7 p_2.1 0 a0.Ratios.length 2) a0.Ratios.length a0.Ratios.length, .slice p_3.1 a0.Entries.length p_3.2]) Tryz.sizeOf36 rfl rfl rfl rfl rfl rfl rfl rfl rfl ?_
 refine Jd ?_
 refine Jc ?_
 refine Ja ?_
 refine Qx (i := 1) (vs := [.int .i64 a0.Kind, str a0.Text, .slice (Q7 p.1 0 a0.Ints.length 1) a0.Ints.length a0.Ints.length, .slice (Q7 p_2.1 0 a0.Ratios.length 2) a0.Ratios.length a0.Ratios.length, .slice p_3.1 a0.Entries.length p_3.2]) Tryz.isAgg38 Tryz.sizeOf38 rfl rfl rfl rfl rfl ?_
 refine Ya (i := 2) (vs := [.int .i64 a0.Kind, str a0.Text, .slice (Q7 p.1 0 a0.Ints.length 1) a0.Ints.length a0.Ints.length, .slice (Q7 p_2.1 0 a0.Ratios.length 2) a0.Ratios.length a0.Ratios.length, .slice p_3.1 a0.Entries.length p_3.2]) (cs' := [.int .i64 a0.Kind, str a0.Text, .slice (Q7 p.1 0 a0.Ints.length 1) a0.Ints.length a0.Ints.length, .slice (Q7 p_2.1 0 a0.Ratios.length 2) a0.Ratios.length a0.Ratios.length, .slice p_3.1 a0.Entries.length p_3.2]) Tryz.sizeOf38 rfl rfl rfl rfl rfl rfl rfl rfl rfl ?_
 refine Jd ?_
 refine Jh ?_
 refine c_dr 1 ?_
 refine Qn 2 rfl (imp_clipO _ _ _ _ _ _) ?_
 refine Qn 3 rfl (imp_clipO _ _ _ _ _ _) ?_
 refine c_both 3 4 rfl rfl (by decide) ?_
 refine c_both 2 3 rfl rfl (by decide) ?_
 refine retC (i := 1) (vs := [.int .i64 a0.Kind, str a0.Text, .slice (Q7 p.1 0 a0.Ints.length 1) a0.Ints.length a0.Ints.length, .slice (Q7 p_2.1 0 a0.Ratios.length 2) a0.Ratios.length a0.Ratios.length, .slice p_3.1 a0.Entries.length p_3.2]) Tryz.isAgg38 Tryz.sizeOf38 rfl rfl rfl rfl (Yy ((Q7 p.1 0 a0.Ints.length 1, a0.Ints.length), (Q7 p_2.1 0 a0.Ratios.length 2, a0.Ratios.length), p_3) (i := 2) rfl rfl (Imp.refl _))
theorem elC_len {h : Jo} {v : Value} {sz i : Nat} : (elC h v sz i).length = sz := by simp [elC]
theorem ent_one {h : Jo} {c : Nat → Value} {x : T_tag_Entry} (f : g_tag_Entry h c x) : ∀ j, j < 6 → (c j).oneCell' = true := fun j hj => by
  cases f with
  | mk h0 h1 h2 h3 h4 h5 h6 => rcases (show j = 0 ∨ j = 1 ∨ j = 2 ∨ j = 3 ∨ j = 4 ∨ j = 5 from by omega) with rfl | rfl | rfl | rfl | rfl | rfl <;> first | (rw [h0]; rfl) | (rw [h1]; rfl) | (rw [h2]; rfl) | exact h3.one | exact h4.one | exact h5.one
theorem k44_all (d : Nat) : EntsC d := by
 induction d with
 | zero => intro xs v0 w h hw f0 hf; exact hf.elim
 | succ d ih =>
 intro xs v0 w h hw f0 hf
 obtain ⟨hlen, hkids⟩ := hf
 refine enter (n := 31) Tryz.func44 rfl rfl rfl Y2 [] (Sat.nil _ _) ?_
 refine Jc ?_
 refine Ja ?_
 refine Jp rfl rfl rfl (Jw (v := .slice none 0 0) rfl) ?_
 refine Jd ?_
 refine Jc ?_
 refine Jc ?_
 refine Ja ?_
 refine Jp rfl rfl rfl (J2 (v := v0) rfl) ?_
 refine Jp rfl rfl rfl (Yv Tryz.underlying36 rfl f0) ?_
 refine Jp rfl rfl rfl (Xg rfl rfl) ?_
 refine Jd ?_
 refine c_if (b := (decide ((xs.length : Int) = 0))) rfl (fun hb => ?_) (fun hb => ?_)
 ·have h0 : xs = [] := List.length_eq_zero_iff.1 (by have := of_decide_eq_true hb; omega)
  subst h0
  refine Jc ?_
  refine Ja ?_
  refine Jp rfl rfl rfl (Jw (v := .slice none 0 0) rfl) ?_
  refine Jd ?_
  refine Jh ?_
  refine c_emp ?_
  refine Qn 0 rfl (imp_tree0 (d := d)) ?_
  exact ret1 (v := .slice none 0 0) rfl rfl (Yy ((none, 0) : Option Addr × Nat) (i := 0) rfl rfl (Imp.refl _))
 ·have hpos : 0 < xs.length := by have := of_decide_eq_false hb; omega
  have hnews : ((List.range xs.length).map (elC h v0 6)).length = xs.length := by simp
  refine Ji ?_
  refine Jc ?_
  refine Ja ?_
  refine Jp rfl rfl rfl (J2 (v := v0) rfl) ?_
  refine Jp rfl rfl rfl (Yv Tryz.underlying36 rfl f0) ?_
  refine Yw (makes_makeSlice (E := 62) (sz := 6) (by_ := 104) (m := xs.length) (c := xs.length) (rds := []) Tryz.underlying36 (Qp Tryz.typeInfo62) rfl rfl rfl rfl rfl rfl rfl rfl (by omega) (by omega) rfl) rfl rfl rfl (fun p => ?_)
  refine Jp rfl rfl rfl (Jw (v := .slice p.1 xs.length p.2) rfl) ?_
  refine Jd ?_
  refine Jc ?_
  refine Ja ?_
  refine Jp rfl rfl rfl (J2 (v := .slice p.1 xs.length p.2) rfl) ?_
  refine Jp rfl rfl rfl (J2 (v := v0) rfl) ?_
  refine Qk (turns_copyK (i := 0) (rds := []) (sz := 6) (p := p) (m := xs.length) (a := 0) (dl := xs.length) (cd := p.2) (q := xs.length) (ax := sa v0) (c := sc v0) (news := (List.range xs.length).map (elC h v0 6)) Tryz.underlying36 (Qp Tryz.typeInfo62) rfl rfl (by simp) (by rw [cutA_zero]; rfl) (by omega) ((show _ = v0 from rfl).trans (f0.frs.eq.trans (by rw [hnews]))) (Nat.le_refl _) hnews.symm hpos
    (fun w L' hF hS hj => f0.frs.row (hw.now hF)) (fun x hx => by obtain ⟨i, _, rfl⟩ := List.mem_map.1 hx; exact elC_len) (fun x hx u hu => List.all_eq_true.1 (AllC.oneN (fun {c x} f j hj => ent_one f j hj) f0.allC x hx) u hu)) rfl rfl rfl (fun _ => ?_)
  refine Jd ?_
  refine Qn 0 rfl (Imp.of (show Js 62 6 (.slice p.1 xs.length p.2) xs.length (_ ++ _ ++ _) = Js 62 6 (.slice p.1 xs.length p.2) ((List.range xs.length).map (elC h v0 6)).length (((List.range xs.length).map (elC h v0 6)).map idC) from by rw [hnews, Qv, List.take_zero, List.nil_append, List.drop_eq_nil_of_le (by simp), List.append_nil])) ?_
  refine Jc ?_
  refine Jc ?_
  refine Ja ?_
  refine Jp rfl rfl rfl (J2 (v := .slice p.1 xs.length p.2) rfl) ?_
  refine Jp rfl rfl rfl (Uf Tryz.underlying36 rfl) ?_
  refine Jp rfl rfl rfl (J2 (v := .int .i64 0) rfl) ?_
  refine Jd ?_
  refine c_emp ?_
  refine Qn 1 rfl (imp_kids0 (d := d)) ?_
  refine Jx ?_
  refine Zn (σ := Nat) (τ := List (List Value)) (cntB xs.length) (fun s t => [(3, .slice p.1 xs.length p.2), (15, .int .i64 (xs.length : Int)), (16, .int .i64 (s : Int))]) (fun s t => [Js 62 6 (.slice p.1 xs.length p.2) xs.length (t.map idC), kidsC d (t.take s) (xs.take s)])
   (fun s t => t.length = xs.length ∧ s ≤ xs.length ∧ ∀ j, s ≤ j → j < xs.length → t[j]? = some (elC h v0 6 j)) 0 ((List.range xs.length).map (elC h v0 6)) [0, 1] (cnt_fix _) ⟨hnews, Nat.zero_le _, fun j _ hj => by simp [hj]⟩ (by exact ⟨rfl, rfl, rfl, trivial⟩) (by decide) (by rw [List.take_zero, List.take_zero, hnews]; rfl) ?_
  rintro i css m gg H ⟨hcl, hin, hcs⟩
  try dsimp only
  refine Jc ?_
  refine Ja ?_
  refine Jp rfl rfl rfl (Yc rfl rfl) ?_
  refine Jd ?_
  refine Jc ?_
  refine c_if (b := (decide ((i : Int) < (xs.length : Int)))) rfl (fun hb => ?_) (fun hb => ?_)
  ·have hi : i < xs.length := by have := of_decide_eq_true hb; omega
   have hci : i < css.length := by omega
   have hat : Yp css (i : Int) = some (elC h v0 6 i) := by
    rw [Qz hci]; have := hcs i (Nat.le_refl _) hi; rw [List.getElem?_eq_getElem hci] at this; exact this
   have hat0 : Yp xs (i : Int) = some xs[i] := Qz hi
   have f := f0.at hat0
   rw [Int.toNat_natCast] at f
   have fk := hkids xs[i] (List.getElem_mem hi)
   have ec : idC (elC h v0 6 i) = [.int .i64 xs[i].Tag, .int .i64 xs[i].Value.Kind, str xs[i].Value.Text, Xt h v0 6 i 3, Xt h v0 6 i 4, Xt h v0 6 i 5] := by
    rw [← Yh f]; rfl
   obtain ⟨q0, q1⟩ := g_tag_Entry_iff.1 f
   have f2 : FrS h 1 (Xt h v0 6 i 3) (xs[i].Value.Ints.map Qc) := Xj q1
   have f3 : FrS h 2 (Xt h v0 6 i 4) (xs[i].Value.Ratios.map Jl) := Xh q1
   have f4 : FrN h 6 (Xt h v0 6 i 5) g_tag_Entry xs[i].Value.Entries := Qt q1
   refine Ji ?_
   refine Jc ?_
   refine Jx ?_
   refine Jc ?_
   refine Ja ?_
   refine Jp rfl rfl rfl (J2 (v := .int .i64 (i : Int)) rfl) ?_
   refine Jp rfl rfl rfl (Jw (v := .int .i64 (i : Int)) rfl) ?_
   refine Jd ?_
   refine Ja ?_
   refine Jp rfl rfl rfl (J2 (v := .slice p.1 xs.length p.2) rfl) ?_
   refine Jp rfl rfl rfl (J2 (v := .int .i64 (i : Int)) rfl) ?_
   refine Jp rfl rfl rfl (J2 (v := .slice p.1 xs.length p.2) rfl) ?_
   refine Jp rfl rfl rfl (J2 (v := .int .i64 (i : Int)) rfl) ?_
   refine Qs (fun w hF hS => Zt Tryz.underlying36 Tryz.sizeOf62 rfl rfl (V3 (i := 0) hS rfl) hcl.symm hat) rfl rfl rfl ?_
   refine Qs (fun w hF hS => run_fieldG Tryz.runUnderlying62 rfl Tryz.sizeOf38 rfl rfl (V3 (i := 0) hS rfl) hat) rfl rfl rfl ?_
   refine Qs (fun w hF hS => Zb (f := idC) (i := (i : Int)) (sz := 6) (j := 1) (vs := [.int .i64 xs[i].Value.Kind, str xs[i].Value.Text, Xt h v0 6 i 3, Xt h v0 6 i 4, Xt h v0 6 i 5]) Tryz.isAgg38 Tryz.sizeOf38 rfl rfl (V3 (i := 0) hS rfl) hat (by rw [ec]; rfl)) rfl rfl rfl ?_
   refine Yw (Qm (rds := []) (G := fun x : (Option Addr × Nat) × (Option Addr × Nat) × (Option Addr × Nat) => (.agg #[.int .i64 xs[i].Value.Kind, str xs[i].Value.Text, .slice x.1.1 xs[i].Value.Ints.length x.1.2, .slice x.2.1.1 xs[i].Value.Ratios.length x.2.1.2, .slice x.2.2.1 xs[i].Value.Entries.length x.2.2.2])) (C := fun x : (Option Addr × Nat) × (Option Addr × Nat) × (Option Addr × Nat) => (Jt (roV 1 (.slice x.1.1 xs[i].Value.Ints.length x.1.2) xs[i].Value.Ints.length (xs[i].Value.Ints.map Qc)) (Jt (roV 2 (.slice x.2.1.1 xs[i].Value.Ratios.length x.2.1.2) xs[i].Value.Ratios.length (xs[i].Value.Ratios.map Jl)) (treeC d (.slice x.2.2.1 xs[i].Value.Entries.length x.2.2.2) xs[i].Value.Entries)))) (fun w L' hF hS hi' => k21_of ih (Jn w) (f2.mono (hw.now hF)) (f3.mono (hw.now hF)) (f4.mono (hw.now hF)) fk) Tryz.call21 rfl) rfl rfl rfl (fun ⟨p3, p4, p5⟩ => ?_)
   refine Qs (fun w hF hS => Zt Tryz.underlying36 Tryz.sizeOf62 rfl rfl (V3 (i := 0) hS rfl) hcl.symm hat) rfl rfl rfl ?_
   refine Qs (fun w hF hS => run_fieldG Tryz.runUnderlying62 rfl Tryz.sizeOf38 rfl rfl (V3 (i := 0) hS rfl) hat) rfl rfl rfl ?_
   refine l_storeG (q := 0) (j := 1) (i := (i : Int)) (sz := 6) (hm := hcl.symm) (f := idC) (z := [.int .i64 xs[i].Tag, .int .i64 xs[i].Value.Kind, str xs[i].Value.Text, .slice p3.1 xs[i].Value.Ints.length p3.2, .slice p4.1 xs[i].Value.Ratios.length p4.2, .slice p5.1 xs[i].Value.Entries.length p5.2]) (ys := css.set i [.int .i64 xs[i].Tag, .int .i64 xs[i].Value.Kind, str xs[i].Value.Text, .slice p3.1 xs[i].Value.Ints.length p3.2, .slice p4.1 xs[i].Value.Ratios.length p4.2, .slice p5.1 xs[i].Value.Entries.length p5.2]) (vs := [.int .i64 xs[i].Value.Kind, str xs[i].Value.Text, .slice p3.1 xs[i].Value.Ints.length p3.2, .slice p4.1 xs[i].Value.Ratios.length p4.2, .slice p5.1 xs[i].Value.Entries.length p5.2]) Tryz.sizeOf38 rfl rfl rfl rfl rfl rfl rfl rfl rfl (fun y_ hy_ => by cases hy_.symm.trans hat; rw [ec]; rfl) (by rw [U6 (by omega) (by omega), Int.toNat_natCast]) ?_
   refine Jd ?_
   refine Ja ?_
   refine Jp rfl rfl rfl (J1 rfl rfl (Jy (by omega))) ?_
   refine Jp rfl rfl rfl (J2 (v := .int .i64 ((i : Int) + 1)) rfl) ?_
   refine Jd ?_
   refine Qn 2 rfl (imp_kid (x := xs[i])) ?_
   refine c_both 1 2 rfl rfl (by decide) ?_
   refine Qn 1 rfl imp_kids ?_
   refine c_close (i + 1) (css.set i [.int .i64 xs[i].Tag, .int .i64 xs[i].Value.Kind, str xs[i].Value.Text, .slice p3.1 xs[i].Value.Ints.length p3.2, .slice p4.1 xs[i].Value.Ratios.length p4.2, .slice p5.1 xs[i].Value.Entries.length p5.2]) m [0, 1] (by exact ⟨rfl, rfl, rfl, trivial⟩) (by decide) (by
     rw [take_setS hci, take_snocS hi]; rfl) (by exact ⟨cnt_step H hi, by simpa using hcl, hi, fun j hj hj2 => by rw [List.getElem?_set_ne (by omega)]; exact hcs j (by omega) hj2⟩) (Nat.lt_succ_self _)
  ·have hi : i = xs.length := by have := of_decide_eq_false hb; omega
   refine Xx ?_
   refine Jc ?_
   refine Ja ?_
   refine Jp rfl rfl rfl (J2 (v := .slice p.1 xs.length p.2) rfl) ?_
   refine Jp rfl rfl rfl (Jw (v := .slice p.1 xs.length p.2) rfl) ?_
   refine Jd ?_
   refine Jh ?_
   refine c_both 0 1 rfl rfl (by decide) ?_
   refine Qn 0 rfl (Imp.of (show Jt (Js 62 6 (.slice p.1 xs.length p.2) xs.length (css.map idC)) (kidsC d (css.take i) (xs.take i)) = Jt (Js 62 6 (.slice p.1 xs.length p.2) xs.length css) (kidsC d css xs) from by rw [Qv, hi, List.take_of_length_le (by omega), List.take_length])) ?_
   refine Qn 0 rfl imp_tree ?_
   exact ret1 (v := .slice p.1 xs.length p.2) rfl rfl (Yy p (i := 0) rfl rfl (Imp.refl _))
end Go.Proofs.YtdcppgplkfkjiaaGreatDoor

/- What copies a file makes one of its own. Conditions: sizes. -/
namespace Go.Proofs.YtdcppgplkfkjiaaGreatDoor
open Go Go.Vc Go.Md Go.M Go.Lx
set_option maxRecDepth 100000
set_option maxHeartbeats 4000000
set_option linter.unusedVariables false
def DirE (d : Nat) (h : Jo) (c : List Value) (l : List T_tag_Entry) (bs : List Nat) : Prop := ∃ u, c = [u] ∧ TreeL d h u l bs
def TreeF (d : Nat) (h : Jo) (v : Value) (ls : List (List T_tag_Entry)) (bs : List Nat) : Prop :=
  ∃ (css : List (List Value)) (b2 : List Nat), RowP h 36 1 v css ∧ KidsG (DirE d) h css ls b2 ∧ bs = v.ownBlock.toList ++ b2
theorem DirE.agree {d : Nat} {h h' : Jo} {c : List Value} {l : List T_tag_Entry} {bs : List Nat} (t : DirE d h c l bs) (k : ∀ q ∈ bs, ∀ o, h q = some o → h' q = some o) : DirE d h' c l bs := by
  obtain ⟨u, e, t⟩ := t; exact ⟨u, e, t.agree k⟩
theorem dirs_mono {d : Nat} {h h' : Jo} {css : List (List Value)} {ls : List (List T_tag_Entry)} {bs : List Nat} (t : KidsG (DirE d) h css ls bs) (k : ∀ b o, h b = some o → h' b = some o) : KidsG (DirE d) h' css ls bs := t.agree (fun c x b t k => t.agree k) fun q _ => k q
theorem TreeF.mono {d : Nat} {h h' : Jo} {v : Value} {ls : List (List T_tag_Entry)} {bs : List Nat} (t : TreeF d h v ls bs) (k : ∀ b o, h b = some o → h' b = some o) : TreeF d h' v ls bs := by
  obtain ⟨css, b2, r, g, e⟩ := t; exact ⟨css, b2, r.mono fun b _ => k b, dirs_mono g k, e⟩
theorem TreeF.frn {d : Nat} {h : Jo} {v : Value} {ls : List (List T_tag_Entry)} {bs : List Nat} (t : TreeF d h v ls bs) : FrN h 1 v gs_tag_Entry ls := by
  obtain ⟨css, b2, r, g, e⟩ := t
  have hid : css.map idC = css := by unfold idC; simp
  refine Ux (by rw [hid]; exact r.frs) (g.allC fun c x b t => ?_)
  obtain ⟨u, rfl, t⟩ := t
  exact ⟨rfl, t.frn⟩
abbrev fileC (d : Nat) (v : Value) (ls : List (List T_tag_Entry)) : Chunk := ownC fun h bs => TreeF d h v ls bs
abbrev dirsC (d : Nat) (css : List (List Value)) (ls : List (List T_tag_Entry)) : Chunk := ownC fun h bs => KidsG (DirE d) h css ls bs
theorem imp_dirs0 {d : Nat} : Imp empC (dirsC d [] []) := imp_emptyOwn rfl
theorem imp_dir {d : Nat} {u : Value} {l : List T_tag_Entry} {css : List (List Value)} {ls : List (List T_tag_Entry)} : Imp (Jt (dirsC d css ls) (treeC d u l)) (dirsC d (css ++ [[u]]) (ls ++ [l])) :=
  own_both (fun h h' bs k t => dirs_mono t k) (fun h h' bs k t => t.mono k) fun h b1 b2 t1 t2 => t1.snoc ⟨u, rfl, t2⟩
theorem imp_file {d n : Nat} {v : Value} {css : List (List Value)} {ls : List (List T_tag_Entry)} : Imp (Jt (Js 36 1 v n css) (dirsC d css ls)) (fileC d v ls) :=
  imp_trans (imp_bothM imp_rowOwn (Imp.refl _)) (own_both (fun h h' bs k t => ⟨t.1.mono fun b _ => k b, t.2⟩) (fun h h' bs k t => dirs_mono t k) fun h b1 b2 t1 t2 => ⟨css, b2, t1.1, t2, by rw [t1.2.2]⟩)
theorem k19_of {d : Nat} {a0 : T_tag_File} {v0_1 : Value} {w : World} {h : Jo} (hw : Know h w Y2) (f0 : FrN h 1 v0_1 gs_tag_Entry a0.Dirs) (hf : fitF d a0) :
    Does Tryz.prog 19 (List.toArray [.agg #[.bool a0.Big, v0_1]]) w (fun v w' => ∃ x : Option Addr × Nat, v = (.agg #[.bool a0.Big, .slice x.1 a0.Dirs.length x.2]) ∧ Turn w w' Y2 (fileC d (.slice x.1 a0.Dirs.length x.2) a0.Dirs)) := by
 obtain ⟨hlen, hkids⟩ := hf
 refine enter (n := 27) Tryz.func19 rfl rfl rfl Y2 [] (Sat.nil _ _) ?_
 refine Jc ?_
 refine Ja ?_
 refine Z5 (cs := [.bool a0.Big, v0_1]) rfl rfl rfl rfl (fun b4 => ?_)
 refine Xf (cs := [.bool false, .slice none 0 0]) Tryz.zeroValue24 rfl rfl rfl (fun b5 => ?_)
 refine Jd ?_
 refine Jc ?_
 refine Ja ?_
 refine Jp rfl rfl rfl (J3 Tryz.runUnderlying24 rfl Tryz.sizeOf22 rfl rfl) ?_
 refine l_load1 (i := 0) (v := v0_1) Tryz.isAgg22 rfl rfl rfl rfl rfl ?_
 refine Jp rfl rfl rfl (Yv Tryz.underlying22 rfl f0) ?_
 refine Yw (makes_makeSlice (E := 36) (sz := 1) (by_ := 24) (m := a0.Dirs.length) (c := a0.Dirs.length) (rds := []) Tryz.underlying22 (Qp Tryz.typeInfo36) rfl rfl rfl rfl rfl rfl rfl rfl (by omega) (by omega) rfl) rfl rfl rfl (fun p => ?_)
 refine Jp rfl rfl rfl (Jw (v := .slice p.1 a0.Dirs.length p.2) rfl) ?_
 refine Jd ?_
 refine Qn 2 rfl (Imp.of (show Js 36 1 (.slice p.1 a0.Dirs.length p.2) a0.Dirs.length _ = Js 36 1 (.slice p.1 a0.Dirs.length p.2) a0.Dirs.length ((List.replicate a0.Dirs.length [.slice none 0 0]).map idC) from by rw [Qv]; rfl)) ?_
 refine Jc ?_
 refine Jc ?_
 refine Ja ?_
 refine Jp rfl rfl rfl (J3 Tryz.runUnderlying24 rfl Tryz.sizeOf22 rfl rfl) ?_
 refine l_load1 (i := 0) (v := v0_1) Tryz.isAgg22 rfl rfl rfl rfl rfl ?_
 refine Jp rfl rfl rfl (Yv Tryz.underlying22 rfl f0) ?_
 refine Jp rfl rfl rfl (J2 (v := .int .i64 0) rfl) ?_
 refine Jd ?_
 refine c_emp ?_
 refine Qn 3 rfl (imp_dirs0 (d := d)) ?_
 refine Jx ?_
 refine Zn (σ := Nat) (τ := List (List Value)) (cntB a0.Dirs.length) (fun s t => [(1, .pointer (some ⟨b4, 0, none⟩)), (2, .pointer (some ⟨b5, 0, none⟩)), (3, .slice p.1 a0.Dirs.length p.2), (11, v0_1), (12, .int .i64 (a0.Dirs.length : Int)), (13, .int .i64 (s : Int))])
  (fun s t => [Jg b4 [.bool a0.Big, v0_1] 24, Jg b5 [.bool false, .slice none 0 0] 24, Js 36 1 (.slice p.1 a0.Dirs.length p.2) a0.Dirs.length (t.map idC), dirsC d (t.take s) (a0.Dirs.take s)])
  (fun s t => t.length = a0.Dirs.length ∧ s ≤ a0.Dirs.length ∧ ∀ j, s ≤ j → j < a0.Dirs.length → t[j]? = some [.slice none 0 0]) 0 (List.replicate a0.Dirs.length [.slice none 0 0]) [0, 1, 2, 3] (cnt_fix _) ⟨by simp, Nat.zero_le _, fun j _ hj => by simp [hj]⟩ (by exact ⟨rfl, rfl, rfl, rfl, rfl, rfl, trivial⟩) (by decide) (by rw [List.take_zero, List.take_zero]; rfl) ?_
 rintro i css m gg H ⟨hcl, hin, hcs⟩
 try dsimp only
 refine Jc ?_
 refine Ja ?_
 refine Jp rfl rfl rfl (Yc rfl rfl) ?_
 refine Jd ?_
 refine Jc ?_
 refine c_if (b := (decide ((i : Int) < (a0.Dirs.length : Int)))) rfl (fun hb => ?_) (fun hb => ?_)
 ·have hi : i < a0.Dirs.length := by have := of_decide_eq_true hb; omega
  have hci : i < css.length := by omega
  have hat : Yp css (i : Int) = some [.slice none 0 0] := by
   rw [Qz hci]; have := hcs i (Nat.le_refl _) hi; rw [List.getElem?_eq_getElem hci] at this; exact this
  have hat0 : Yp a0.Dirs (i : Int) = some a0.Dirs[i] := Qz hi
  have f : FrN h 6 (Xt h v0_1 1 (Int.toNat (i : Int)) 0) g_tag_Entry a0.Dirs[i] := f0.at hat0
  refine Ji ?_
  refine Jc ?_
  refine Jx ?_
  refine Jc ?_
  refine Ja ?_
  refine Jp rfl rfl rfl (J2 (v := .int .i64 (i : Int)) rfl) ?_
  refine Jp rfl rfl rfl (Xq Tryz.underlying22 Tryz.sizeOf36 rfl rfl f0.frs (f0.ix hat0)) ?_
  refine Qs (fun w hF hS => Q9 (f := (elC h v0_1 1)) (i := (i : Int)) (sz := 1) (j := 0) (v := (Xt h v0_1 1 (Int.toNat (i : Int)) 0)) Tryz.isAgg36 rfl rfl (f0.frs.row (hw.now hF)) (f0.ix hat0) (rg_of (U2 (f0.at hat0)) rfl)) rfl rfl rfl ?_
  refine Jp rfl rfl rfl (Jw (v := .int .i64 (i : Int)) rfl) ?_
  refine Jp rfl rfl rfl (Jw (v := (Xt h v0_1 1 (Int.toNat (i : Int)) 0)) rfl) ?_
  refine Jd ?_
  refine Ja ?_
  refine Jp rfl rfl rfl (J2 (v := .slice p.1 a0.Dirs.length p.2) rfl) ?_
  refine Jp rfl rfl rfl (J2 (v := .int .i64 (i : Int)) rfl) ?_
  refine Jp rfl rfl rfl (J2 (v := (Xt h v0_1 1 (Int.toNat (i : Int)) 0)) rfl) ?_
  refine Yw (Qm (rds := []) (G := fun x : (Option Addr × Nat) => .slice x.1 a0.Dirs[i].length x.2) (C := fun x : (Option Addr × Nat) => treeC d (.slice x.1 a0.Dirs[i].length x.2) a0.Dirs[i]) (fun w L' hF hS hi' => k44_all d (Jn w) (f.mono (hw.now hF)) (hkids _ (List.getElem_mem hi))) Tryz.call44 rfl) rfl rfl rfl (fun p5 => ?_)
  refine Qs (fun w hF hS => Zt Tryz.underlying22 Tryz.sizeOf36 rfl rfl (V3 (i := 2) hS rfl) hcl.symm hat) rfl rfl rfl ?_
  refine l_storeG (q := 2) (j := 0) (i := (i : Int)) (sz := 1) (hm := hcl.symm) (f := idC) (z := [.slice p5.1 a0.Dirs[i].length p5.2]) (ys := css.set i [.slice p5.1 a0.Dirs[i].length p5.2]) (vs := [.slice p5.1 a0.Dirs[i].length p5.2]) Tryz.sizeOf36 rfl rfl rfl rfl rfl rfl rfl rfl rfl (fun y_ hy_ => by cases hy_.symm.trans hat; rfl) (by rw [U6 (by omega) (by omega), Int.toNat_natCast]) ?_
  refine Jd ?_
  refine Ja ?_
  refine Jp rfl rfl rfl (J1 rfl rfl (Jy (by omega))) ?_
  refine Jp rfl rfl rfl (J2 (v := .int .i64 ((i : Int) + 1)) rfl) ?_
  refine Jd ?_
  refine c_both 3 4 rfl rfl (by decide) ?_
  refine Qn 3 rfl imp_dir ?_
  refine c_close (i + 1) (css.set i [.slice p5.1 a0.Dirs[i].length p5.2]) m [0, 1, 2, 3] (by exact ⟨rfl, rfl, rfl, rfl, rfl, rfl, trivial⟩) (by decide) (by
    rw [take_setS hci, take_snocS hi]; rfl) (by exact ⟨cnt_step H hi, by simpa using hcl, hi, fun j hj hj2 => by rw [List.getElem?_set_ne (by omega)]; exact hcs j (by omega) hj2⟩) (Nat.lt_succ_self _)
 ·have hi : i = a0.Dirs.length := by have := of_decide_eq_false hb; omega
  refine Xx ?_
  refine Jc ?_
  refine Ja ?_
  refine Jp rfl rfl rfl (J2 (v := .slice p.1 a0.Dirs.length p.2) rfl) ?_
  refine Jp rfl rfl rfl (J3 Tryz.runUnderlying24 rfl Tryz.sizeOf22 rfl rfl) ?_
  refine Ya (i := 0) (vs := [.slice p.1 a0.Dirs.length p.2]) (cs' := [.bool a0.Big, .slice p.1 a0.Dirs.length p.2]) Tryz.sizeOf22 rfl rfl rfl rfl rfl rfl rfl rfl rfl ?_
  refine Jd ?_
  refine Jc ?_
  refine Ja ?_
  refine Qx (i := 0) (vs := [.bool a0.Big, .slice p.1 a0.Dirs.length p.2]) Tryz.isAgg24 Tryz.sizeOf24 rfl rfl rfl rfl rfl ?_
  refine Ya (i := 1) (vs := [.bool a0.Big, .slice p.1 a0.Dirs.length p.2]) (cs' := [.bool a0.Big, .slice p.1 a0.Dirs.length p.2]) Tryz.sizeOf24 rfl rfl rfl rfl rfl rfl rfl rfl rfl ?_
  refine Jd ?_
  refine Jh ?_
  refine c_both 2 3 rfl rfl (by decide) ?_
  refine Qn 2 rfl (Imp.of (show Jt (Js 36 1 (.slice p.1 a0.Dirs.length p.2) a0.Dirs.length (css.map idC)) (dirsC d (css.take i) (a0.Dirs.take i)) = Jt (Js 36 1 (.slice p.1 a0.Dirs.length p.2) a0.Dirs.length css) (dirsC d css a0.Dirs) from by rw [Qv, hi, List.take_of_length_le (by omega), List.take_length])) ?_
  refine Qn 2 rfl imp_file ?_
  refine retC (i := 1) (vs := [.bool a0.Big, .slice p.1 a0.Dirs.length p.2]) Tryz.isAgg24 Tryz.sizeOf24 rfl rfl rfl rfl (Yy p (i := 2) rfl rfl (Imp.refl _))
end Go.Proofs.YtdcppgplkfkjiaaGreatDoor

/- Places inside a file in a heap: what is read there, and what the file is when another directory stands there. Conditions: those that each rule names. -/
namespace Go.Proofs.YtdcppgplkfkjiaaGreatDoor
open Go Go.Vc Go.Md Go.M Go.Lx
set_option linter.unusedVariables false
inductive Pth (h : Jo) (dv : Value) (ls : List (List T_tag_Entry)) : List Nat → Addr → Value → List T_tag_Entry → Prop
  | base {i : Nat} {a : Addr} (hi : i < ls.length) (ha : sa dv = some a) : Pth h dv ls [i] ⟨a.block, a.off + i * 1, none⟩ (Xt h dv 1 i 0) ls[i]
  | step {ks : List Nat} {a b : Addr} {u : Value} {l : List T_tag_Entry} {n : Nat} (p : Pth h dv ls ks a u l) (hn : n < l.length) (hb : sa u = some b) : Pth h dv ls (ks ++ [n]) ⟨b.block, b.off + (n * 6 + 1 + 4), none⟩ (Xt h u 6 n 5) l[n].Value.Entries
theorem Pth.frn {h : Jo} {dv : Value} {ls : List (List T_tag_Entry)} (f0 : FrN h 1 dv gs_tag_Entry ls) {ks : List Nat} {a : Addr} {u : Value} {l : List T_tag_Entry} (p : Pth h dv ls ks a u l) : FrN h 6 u g_tag_Entry l := by
  induction p with
  | base hi ha => exact f0.el _ _ (List.getElem?_eq_getElem hi)
  | step p hn hb ih => exact Qt (g_tag_Entry_iff.1 (ih.el _ _ (List.getElem?_eq_getElem hn))).2
section
variable {cx : Cx} {e : Xb} {d : Nat} {ty : TypeId} {pos : String} {af : Array Edge} {g : Option (Nat × Bool)}
theorem Pth.load {h : Jo} {dv : Value} {ls : List (List T_tag_Entry)} (f0 : FrN h 1 dv gs_tag_Entry ls) {ks : List Nat} {a : Addr} {u : Value} {l : List T_tag_Entry} (p : Pth h dv ls ks a u l) {A : Operand} (hA : ev e A = .pointer (some a)) {w : World}
    (k : ∀ b o, h b = some o → w.heap[b]? = some o) : (execOp (ev e) ⟨some d, .load 36 A, ty, pos, af, g⟩).run Tryz.prog w = .ok (.value u) w := by
  cases p with
  | @base i a hi ha =>
    have hr := f0.frs.row k
    rw [ha] at hr
    exact Q9 (f := elC h dv 1) (i := (i : Int)) (sz := 1) (j := 0) (k := i * 1) (a := some a) Tryz.isAgg36 hA (by simp) hr (f0.ix (Qz hi)) (rg_of (U2 (f0.at (Qz hi))) rfl)
  | @step ks a b u l n p hn hb =>
    have f := p.frn f0
    have hr := f.frs.row k
    rw [hb] at hr
    exact Q9 (f := elC h u 6) (i := (n : Int)) (sz := 6) (j := 5) (k := n * 6 + 1 + 4) (a := some b) Tryz.isAgg36 hA (by simp [Nat.add_assoc]) hr (f.ix (Qz hn)) (rg_of (Yh (f.at (Qz hn))) rfl)
end
theorem getL_snoc : ∀ (ks : List Nat) (l : List T_tag_Entry) (n : Nat) (hn : n < (getL ks l).length), getL (ks ++ [n]) l = (getL ks l)[n].Value.Entries
  | [], l, n, hn => by
    have hn : n < l.length := hn
    show (match l[n]? with | some e => getL [] e.Value.Entries | none => []) = _
    rw [List.getElem?_eq_getElem hn]; rfl
  | k :: ks, l, n, hn => by
    show (match l[k]? with | some e => getL (ks ++ [n]) e.Value.Entries | none => []) = _
    have hn' : n < (match l[k]? with | some e => getL ks e.Value.Entries | none => []).length := hn
    cases hk : l[k]? with
    | none => rw [hk] at hn'; exact absurd hn' (by simp)
    | some e =>
      rw [hk] at hn'
      have := getL_snoc ks e.Value.Entries n hn'
      have e2 : getL (k :: ks) l = getL ks e.Value.Entries := by
        show (match l[k]? with | some e => getL ks e.Value.Entries | none => []) = _
        rw [hk]
      simp only [e2]
      exact this
theorem putL_snoc : ∀ (ks : List Nat) (l : List T_tag_Entry) (n : Nat) (l' : List T_tag_Entry) (hn : n < (getL ks l).length), putL (ks ++ [n]) l l' = putL ks l ((getL ks l).set n (withE (getL ks l)[n] l'))
  | [], l, n, l', hn => by
    have hn : n < l.length := hn
    show (match l[n]? with | some e => l.set n (withE e l') | none => l) = _
    rw [List.getElem?_eq_getElem hn]; rfl
  | k :: ks, l, n, l', hn => by
    show (match l[k]? with | some e => l.set k (withE e (putL (ks ++ [n]) e.Value.Entries l')) | none => l) = (match l[k]? with | some e => l.set k (withE e (putL ks e.Value.Entries _)) | none => l)
    have hn' : n < (match l[k]? with | some e => getL ks e.Value.Entries | none => []).length := hn
    cases hk : l[k]? with
    | none => rfl
    | some e =>
      rw [hk] at hn'
      have e2 : getL (k :: ks) l = getL ks e.Value.Entries := by
        show (match l[k]? with | some e => getL ks e.Value.Entries | none => []) = _
        rw [hk]
      simp only [e2]
      rw [putL_snoc ks e.Value.Entries n l' hn']
theorem Pth.get {h : Jo} {dv : Value} {ls : List (List T_tag_Entry)} {ks : List Nat} {a : Addr} {u : Value} {l : List T_tag_Entry} (p : Pth h dv ls ks a u l) : ∃ i r, ∃ hi : i < ls.length, ks = i :: r ∧ getL r ls[i] = l := by
  induction p with
  | @base i a hi ha => exact ⟨i, [], hi, rfl, rfl⟩
  | @step ks a b u l n p hn hb ih =>
    obtain ⟨i, r, hi, rfl, hg⟩ := ih
    subst hg
    exact ⟨i, r ++ [n], hi, rfl, getL_snoc r ls[i] n hn⟩
theorem Pth.getF {h : Jo} {dv : Value} {ls : List (List T_tag_Entry)} {ks : List Nat} {a : Addr} {u : Value} {l : List T_tag_Entry} (p : Pth h dv ls ks a u l) : getF ks ls = l := by
  obtain ⟨i, r, hi, rfl, hg⟩ := p.get
  show (match ls[i]? with | some l => getL r l | none => []) = l
  rw [List.getElem?_eq_getElem hi]; exact hg
theorem ent_with {h : Jo} {c : Nat → Value} {x : T_tag_Entry} {v3 v4 u : Value} {l : List T_tag_Entry} (e3 : FrS h 1 v3 (x.Value.Ints.map Qc)) (e4 : FrS h 2 v4 (x.Value.Ratios.map Jl)) (f : FrN h 6 u g_tag_Entry l) :
    g_tag_Entry h (fun j => [.int .i64 x.Tag, .int .i64 x.Value.Kind, str x.Value.Text, v3, v4, u].getD j undef) (withE x l) := .mk rfl rfl rfl e3 e4 f.frs f.el
theorem flat_set {sz : Nat} : ∀ {css : List (List Value)} {n j : Nat} {x : Value} (hl : ∀ c ∈ css, c.length = sz) (hn : n < css.length) (hj : j < sz), (css.set n ((css.getD n []).set j x)).flatten = css.flatten.set (n * sz + j) x := fun hl hn hj => flatten_setR sz _ _ _ _ hl hn hj
theorem row_upd {h h' : Jo} {E sz n j g o : Nat} {u : Value} {css : List (List Value)} {u' : Value} {cl : List Value} {T : Nat} (r : RowP h E sz u css) (hu : u.ownBlock = some g) (hn : n < css.length) (hj : j < sz) (hg : h g = some (.cells cl.toArray T (0, 0))) (ho : o = n * sz + j)
    (h1 : h' g = some (.cells (cl.set o u').toArray T (0, 0))) : RowP h' E sz u (css.set n ((css.getD n []).set j u')) := by
  subst ho
  refine ⟨fun x hx => ?_, ?_⟩
  · rcases List.mem_or_eq_of_mem_set hx with k | k
    · exact r.1 x k
    · subst k
      rw [List.length_set, List.getD_eq_getElem?_getD, List.getElem?_eq_getElem hn]
      exact r.1 _ (List.getElem_mem hn)
  · rcases r.2 with ⟨rfl, h0⟩ | ⟨g', cap, cur, rfl, hb, q1, q2, q3, q4⟩
    · cases hu
    · simp [Value.ownBlock] at hu
      subst hu
      rw [hb] at hg
      simp only [Option.some.injEq, Obj.cells.injEq] at hg
      obtain ⟨rfl, rfl, _⟩ := hg
      refine .inr ⟨g', cap, (cl.set (n * sz + j) u').toArray, by rw [List.length_set], h1, by rwa [List.length_set], q2, by simpa using q3, ?_⟩
      rw [List.length_set, flat_set r.1 hn hj, ← q4]
      show (cl.set (n * sz + j) u').take _ = (cl.take _).set _ _
      rw [List.take_set]
def Hole (d : Nat) (h : Jo) (dv : Value) (ls : List (List T_tag_Entry)) (bs : List Nat) (ks : List Nat) (a : Addr) (u : Value) (l : List T_tag_Entry) : Prop :=
  ∃ (cl : List Value) (T d' : Nat) (bsub : List Nat), h a.block = some (.cells cl.toArray T (0, 0)) ∧ cl[a.off]? = some u ∧ a.block ∈ bs ∧ a.block ∉ bsub ∧ (∀ q ∈ bsub, q ∈ bs) ∧ bsub.Nodup ∧ TreeL d' h u l bsub ∧
    ∀ (h' : Jo) (u1 : Value) (l1 : List T_tag_Entry), (∀ q ∈ bs, q ≠ a.block → q ∉ bsub → ∀ o, h q = some o → h' q = some o) → h' a.block = some (.cells (cl.set a.off u1).toArray T (0, 0)) → FrN h' 6 u1 g_tag_Entry l1 → FrN h' 1 dv gs_tag_Entry (putF ks ls l1)
theorem set_self {cl : List Value} {o : Nat} {u : Value} (h : cl[o]? = some u) : cl.set o u = cl := by
  obtain ⟨ho, e⟩ := List.getElem?_eq_some_iff.1 h
  rw [← e]; exact List.set_getElem_self ho
theorem hole_of {d : Nat} {h : Jo} {dv : Value} {ls : List (List T_tag_Entry)} {bs : List Nat} (t : TreeF d h dv ls bs) (hn : bs.Nodup) {ks : List Nat} {a : Addr} {u : Value} {l : List T_tag_Entry} (p : Pth h dv ls ks a u l) : Hole d h dv ls bs ks a u l := by
  have f0 := t.frn
  induction p with
  | @base i a hi ha =>
    obtain ⟨css, b2, r, g, rfl⟩ := t
    obtain ⟨n1, n2, n3⟩ := List.nodup_append.1 hn
    have hci : i < css.length := by rw [g.len]; exact hi
    obtain ⟨b, ⟨u, hc, tu⟩, hbs, hbn, hput⟩ := g.at i (List.getElem?_eq_getElem hci) (List.getElem?_eq_getElem hi) n2
    rcases r.2 with ⟨rfl, h0⟩ | ⟨gb, cap, cur, rfl, hb, q1, q2, q3, q4⟩
    · rw [h0] at hci; simp at hci
    · have ea : a = ⟨gb, 0, none⟩ := by simp [sa] at ha; exact ha.symm
      subst ea
      have hcell : cur.toList[i]? = some u := by
        have h1 := row_get css i css[i] (List.all_eq_true.2 fun x hx => by simpa using r.1 x hx) (List.getElem?_eq_getElem hci) 0 u (by rw [hc]; rfl)
        rw [← q4, List.getElem?_take] at h1
        split at h1
        · simpa using h1
        · cases h1
      have hu : Xt h (.slice (some ⟨gb, 0, none⟩) css.length cap) 1 i 0 = u := by
        have h1 := f0.el i _ (List.getElem?_eq_getElem hi)
        simp only [Xt, hb]
        rw [if_pos (by decide), Array.getD_eq_getD_getElem?, ← Array.getElem?_toList]
        simp only [Nat.zero_add, Nat.mul_one, Nat.add_zero, hcell]; rfl
      rw [hu]
      have hgb : gb ∈ (Value.slice (some ⟨gb, 0, none⟩) css.length cap).ownBlock.toList := by simp [Value.ownBlock]
      refine ⟨cur.toList, _, d, b, by simpa using hb, by simpa using hcell, List.mem_append_left _ hgb, fun hq => n3 gb hgb gb (hbs gb hq) rfl, fun q hq => List.mem_append_right _ (hbs q hq), hbn, tu, fun h' u1 l1 hag hcl hf => ?_⟩
      have hk : KidsG (fun h c (x : List T_tag_Entry) _ => c.length = 1 ∧ gs_tag_Entry h (fun j => c.getD j undef) x) h' (css.set i [u1]) (ls.set i l1) b2 := hput _ h' [u1] l1 (fun c x b t k => by
          obtain ⟨u, rfl, t⟩ := t
          exact ⟨rfl, (t.agree k).frn⟩) (fun q hq hqb => hag q (List.mem_append_right _ hq) (fun e => n3 gb hgb q hq e.symm) hqb) ⟨rfl, hf⟩
      have hr := row_upd (n := i) (j := 0) (o := i) (u' := u1) r rfl hci (by decide) (by simpa using hb) (by simp) (by simpa using hcl)
      have e1 : (css.getD i []).set 0 u1 = [u1] := by rw [List.getD_eq_getElem?_getD, List.getElem?_eq_getElem hci, hc]; rfl
      rw [e1] at hr
      have hid : (css.set i [u1]).map idC = css.set i [u1] := by unfold idC; simp
      have e2 : putF [i] ls l1 = ls.set i l1 := by
        show (match ls[i]? with | some l => ls.set i (putL [] l l1) | none => ls) = _
        rw [List.getElem?_eq_getElem hi]; rfl
      rw [e2]
      exact Ux (by rw [hid]; exact hr.frs) (hk.allC fun c x b t => t)
  | @step ks a b u l n p hln hb ih =>
    obtain ⟨cl, T, d', bsub, c1, c2, c3, c4, c5, c6, c7, c8⟩ := ih
    have fu := c7.frn
    cases d' with
    | zero => obtain ⟨_, rfl, _⟩ := c7; simp at hln
    | succ d' =>
      obtain ⟨css, b2, r, k, rfl⟩ := c7
      obtain ⟨n1, n2, n3⟩ := List.nodup_append.1 c6
      have hci : n < css.length := by rw [k.len]; exact hln
      obtain ⟨bk, ⟨v3, v4, v5, b5, hc, e3, e4, e5, ebk⟩, hbs, hbn, hput⟩ := k.at n (List.getElem?_eq_getElem hci) (List.getElem?_eq_getElem hln) n2
      rcases r.2 with ⟨rfl, h0⟩ | ⟨gb, cap, cur, rfl, hgb, q1, q2, q3, q4⟩
      · rw [h0] at hci; simp at hci
      · have eb : b = ⟨gb, 0, none⟩ := by simp [sa] at hb; exact hb.symm
        subst eb
        have hcell : cur.toList[n * 6 + 5]? = some v5 := by
          have h1 := row_get css n css[n] (List.all_eq_true.2 fun x hx => by simpa using r.1 x hx) (List.getElem?_eq_getElem hci) 5 v5 (by rw [hc]; rfl)
          rw [← q4, List.getElem?_take] at h1
          split at h1
          · exact h1
          · cases h1
        have hu : Xt h (.slice (some ⟨gb, 0, none⟩) css.length cap) 6 n 5 = v5 := by
          simp only [Xt, hgb]
          rw [if_pos (by decide), Array.getD_eq_getD_getElem?, ← Array.getElem?_toList]
          simp only [Nat.zero_add, hcell]; rfl
        rw [hu]
        have hmem : gb ∈ (Value.slice (some ⟨gb, 0, none⟩) css.length cap).ownBlock.toList := by simp [Value.ownBlock]
        have hb5 : ∀ q ∈ b5, q ∈ bk := fun q hq => by rw [ebk]; simp [hq]
        rw [ebk] at hbn
        have nb5 : b5.Nodup := (List.nodup_append.1 (List.nodup_append.1 hbn).2.1).2.1
        have disj : ∀ q ∈ roB v3 l[n].Value.Ints.length ++ roB v4 l[n].Value.Ratios.length, q ∉ b5 := fun q hq hq5 => by
          rw [← List.append_assoc] at hbn
          exact (List.nodup_append.1 hbn).2.2 q hq q hq5 rfl
        have gne : gb ≠ a.block := fun e => c4 (by rw [← e]; exact List.mem_append_left _ hmem)
        refine ⟨cur.toList, _, d', b5, by simpa using hgb, by simpa [Nat.add_assoc] using hcell, c5 gb (List.mem_append_left _ hmem), fun hq => n3 gb hmem gb (hbs gb (hb5 gb hq)) rfl, fun q hq => c5 q (List.mem_append_right _ (hbs q (hb5 q hq))), nb5, e5, fun h' u1 l1 hag hcl hf => ?_⟩
        have agk : ∀ q ∈ b2, q ∉ b5 → ∀ o, h q = some o → h' q = some o := fun q hq hq5 => hag q (c5 q (List.mem_append_right _ hq)) (fun e => n3 gb hmem q hq e.symm) hq5
        have hag3 : ∀ q ∈ roB v3 l[n].Value.Ints.length ++ roB v4 l[n].Value.Ratios.length, ∀ o, h q = some o → h' q = some o := fun q hq => agk q (hbs q (by
          rw [ebk]
          rcases List.mem_append.1 hq with h | h <;> simp [h])) (disj q hq)
        have hk : KidsG (fun h c (x : T_tag_Entry) _ => c.length = 6 ∧ g_tag_Entry h (fun j => c.getD j undef) x) h' (css.set n [.int .i64 l[n].Tag, .int .i64 l[n].Value.Kind, str l[n].Value.Text, v3, v4, u1]) (l.set n (withE l[n] l1)) b2 := hput _ h' _ _ (fun c x b t k => by
            have t' := t.agree (fun v xs b t k => t.agree k) k
            obtain ⟨w3, w4, w5, z5, rfl, z3, z4, zt, _⟩ := t'
            have f := zt.frn
            exact ⟨rfl, .mk rfl rfl rfl z3 z4 f.frs f.el⟩) (fun q hq hqb => agk q hq fun h5 => hqb (hb5 q h5))
          ⟨rfl, ent_with (c := fun _ => undef) (e3.agree (by rw [List.length_map]; exact fun q hq => hag3 q (List.mem_append_left _ hq))) (e4.agree (by rw [List.length_map]; exact fun q hq => hag3 q (List.mem_append_right _ hq))) hf⟩
        have hr := row_upd (n := n) (j := 5) (o := n * 6 + 5) (u' := u1) r rfl hci (by decide) (by simpa using hgb) rfl (by simpa [Nat.add_assoc] using hcl)
        have e1 : (css.getD n []).set 5 u1 = [.int .i64 l[n].Tag, .int .i64 l[n].Value.Kind, str l[n].Value.Text, v3, v4, u1] := by rw [List.getD_eq_getElem?_getD, List.getElem?_eq_getElem hci, Option.getD_some, hc]; rfl
        rw [e1] at hr
        have hid : ∀ z : List (List Value), z.map idC = z := fun z => by unfold idC; simp
        have fl : FrN h' 6 (.slice (some ⟨gb, 0, none⟩) css.length cap) g_tag_Entry (l.set n (withE l[n] l1)) := Ux (by rw [hid]; exact hr.frs) (hk.allC fun c x b t => t)
        obtain ⟨i, rk, hi, rfl, hgt⟩ := p.get
        have e2 : putF ((i :: rk) ++ [n]) ls l1 = putF (i :: rk) ls (l.set n (withE l[n] l1)) := by
          subst hgt
          show (match ls[i]? with | some l => ls.set i (putL (rk ++ [n]) l l1) | none => ls) = (match ls[i]? with | some l => ls.set i (putL rk l _) | none => ls)
          rw [List.getElem?_eq_getElem hi]
          simp only
          rw [putL_snoc rk ls[i] n l1 hln]
        rw [e2]
        refine c8 h' (.slice (some ⟨gb, 0, none⟩) css.length cap) _ (fun q hq hqa hqs o ho => hag q hq (fun e => hqs (by rw [e]; exact List.mem_append_left _ hmem)) (fun h5 => hqs (List.mem_append_right _ (hbs q (hb5 q h5)))) o ho) ?_ fl
        rw [set_self c2]
        exact hag a.block c3 (fun e => gne e.symm) (fun h5 => c4 (List.mem_append_right _ (hbs _ (hb5 _ h5)))) _ c1
end Go.Proofs.YtdcppgplkfkjiaaGreatDoor

/- The place of a directory is looked for. Conditions: none. -/
namespace Go.Proofs.YtdcppgplkfkjiaaGreatDoor
open Go Go.Vc Go.Md Go.M Go.Lx
set_option maxRecDepth 100000
set_option maxHeartbeats 4000000
set_option linter.unusedVariables false
theorem r_indexP {P : Program} {e : Xb} {d : Option Nat} {ty : TypeId} {pos : String} {af : Array Edge} {g : Option (Nat × Bool)} {X I : Operand} {t u sz : Nat} {h : Jo} {v : Value} {a : Addr} {α : Type} {f : α → List Value} {xs : List α} {x : α} {k : IntKind} {i : Int} (hu : P.underlying t = some (.slice u)) (hs : ∀ w, (sizeOf u).run P w = .ok sz w)
    (hx : ev e X = v) (hi : ev e I = .int k i) (hf : FrS h sz v (xs.map f)) (hg : Yp xs i = some x) (ha : sa v = some a) (w : World) :
    (execOp (ev e) ⟨d, .indexAddr t X I, ty, pos, af, g⟩).run P w = .ok (.value (.pointer (some ⟨a.block, a.off + i.toNat * sz, none⟩))) w := by
  rw [Xq hu hs hx hi hf hg w, ha]; rfl
theorem sa_some {h : Jo} {sz : Nat} {v : Value} {xs : List (List Value)} (f : FrS h sz v xs) (hp : 0 < xs.length) : ∃ a, sa v = some a := by
  obtain ⟨a, c, rfl, _, _, r⟩ := f.out
  rcases r with r | ⟨b, off, cs, T, m, rfl, _⟩
  · rw [r] at hp; simp at hp
  · exact ⟨_, rfl⟩
abbrev DirR (h : Jo) (dv : Value) (ls : List (List T_tag_Entry)) (r : Option (List Nat)) (x : Value) : Prop := (r = none → x = .pointer none) ∧ ∀ ks, r = some ks → ∃ a u l, x = .pointer (some a) ∧ Pth h dv ls ks a u l
theorem k20_of {pb T : Nat} {big : Bool} {dv v1 : Value} {ls : List (List T_tag_Entry)} {path : List Int} {r : Option (List Nat)} {w : World} {h hA hB : Jo} (hw : Know h w Y2) (hwA : Know hA w Y2) (hwB : Know hB w Y2) (hb0 : hA pb = some (.cells [.bool big, dv].toArray T (0, 0))) (f0 : FrN h 1 dv gs_tag_Entry ls) (f1 : FrS hB 1 v1 (path.map Qc)) (H : tag_dirOf ls path = some r) :
    Does Tryz.prog 20 (List.toArray [.pointer (some ⟨pb, 0, none⟩), v1]) w (fun v w' => (∃ x : Value, v = .tuple #[x, .bool r.isSome] ∧ DirR h dv ls r x) ∧ Grow w w') := by
 unfold tag_dirOf at H
 refine enter (n := 74) Tryz.func20 rfl rfl rfl Y2 [] (Sat.nil _ _) ?_
 refine Jc ?_
 refine Ja ?_
 refine Jp rfl rfl rfl (Jw (v := .pointer none) rfl) ?_
 refine Jp rfl rfl rfl (Jw (v := .bool false) rfl) ?_
 refine Jd ?_
 refine Jc ?_
 refine Jc ?_
 by_cases hlen : (path.length : Int) < 2
 ·have H1 := cnd_t (decide_eq_true hlen) H
  have hr : r = none := (Option.some.inj H1).symm
  exact Qi (Kd.p :: Kd.p :: Kd.p :: Kd.p :: Kd.p :: Kd.p :: Kd.d [] undef :: Kd.p :: Kd.p :: Kd.p :: Kd.d [] undef :: Kd.p :: Kd.p :: Kd.d [] undef :: Kd.p :: []) 0 mixed (by
   refine Qq rfl rfl (J2 (v := v1) rfl) ?_
   refine Qq rfl rfl (Wu Tryz.underlying30 rfl f1 rfl) ?_
   refine Qq rfl rfl (Yc rfl rfl) ?_
   refine Qq rfl rfl (J2 (v := .bool (decide ((path.length : Int) < 2))) rfl) ?_
   refine splitS (fun hb => ?_) (fun hb => ?_)
   ·refine d_pass rfl rfl ?_
    refine d_pass rfl rfl ?_
    refine d_pass rfl rfl ?_
    refine d_pass rfl rfl ?_
    refine d_pass rfl rfl ?_
    refine d_pass rfl rfl ?_
    refine d_pass rfl rfl ?_
    refine d_pass rfl rfl ?_
    refine d_pass rfl rfl ?_
    refine d_pass rfl rfl ?_
    refine Qq rfl rfl (r_pickT (v := .bool true) rfl rfl) ?_
    refine Y8 ?_
    refine Ws rfl ?_
    refine Jc ?_
    refine Ja ?_
    refine Jp rfl rfl rfl (Jw (v := .pointer none) rfl) ?_
    refine Jp rfl rfl rfl (Jw (v := .bool false) rfl) ?_
    refine Jd ?_
    refine Jh ?_
    exact Z2 (v1 := .pointer none) (v2 := .bool false) rfl rfl rfl (finC (.pointer none) (by rw [hr]; rfl) ⟨fun _ => rfl, fun ks hk => by rw [hr] at hk; cases hk⟩)
   ·exact absurd hlen (of_decide_eq_false hb)
  ) (by kernel_rfl)
 ·have H2 := cnd_f (decide_eq_false hlen) H
  obtain ⟨p0, h_p0, H3⟩ := Je H2
  obtain ⟨m0, h_m0, H4⟩ := Je H3
  obtain ⟨ob, h_ob, H5⟩ := Je H4
  exact Qi (Kd.p :: Kd.p :: Kd.p :: Kd.p :: Kd.p :: Kd.p :: Kd.d [] (.int .i64 p0) :: Kd.p :: Kd.p :: Kd.p :: Kd.d [] dv :: Kd.p :: Kd.p :: Kd.d [] (.bool ob) :: Kd.p :: []) 0 mixed (by
   refine Qq rfl rfl (J2 (v := v1) rfl) ?_
   refine Qq rfl rfl (Wu Tryz.underlying30 rfl f1 rfl) ?_
   refine Qq rfl rfl (Yc rfl rfl) ?_
   refine Qq rfl rfl (J2 (v := .bool (decide ((path.length : Int) < 2))) rfl) ?_
   refine splitS (fun hb => ?_) (fun hb => ?_)
   ·exact absurd (of_decide_eq_true hb) hlen
   ·refine Qq rfl rfl (J2 (v := v1) rfl) ?_
    refine Qq rfl rfl (Xq Tryz.underlying30 Tryz.sizeOf3 rfl rfl f1 h_p0) ?_
    refine d_read (fun w hF => Q9 (f := Qc) (i := 0) (sz := 1) (j := 0) (v := .int .i64 p0) Tryz.isAgg3 rfl rfl (f1.row (hwB.now hF)) h_p0 rfl) rfl rfl ?_
    refine Qq rfl rfl (J2 (v := .pointer (some ⟨pb, 0, none⟩)) rfl) ?_
    refine Qq rfl rfl (Jj rfl) ?_
    refine Qq rfl rfl (J3 Tryz.runUnderlying24 rfl Tryz.sizeOf22 rfl rfl) ?_
    refine d_read (fun w hF => Ub (v := dv) Tryz.isAgg22 rfl (hwA.now hF _ _ hb0) rfl) rfl rfl ?_
    refine Qq rfl rfl (Yv Tryz.underlying22 rfl f0) ?_
    refine Qq rfl rfl (Vh rfl rfl h_m0) ?_
    refine d_call (k16 h_ob) Tryz.call16 rfl rfl ?_
    refine Qq rfl rfl (r_pickF (v := .bool ob) rfl rfl) ?_
    refine Y8 ?_
    refine c_if (b := ob) rfl (fun hb => ?_) (fun hb => ?_)
    ·have H6 := cnd_t hb H5
     have hr : r = none := (Option.some.inj H6).symm
     refine Jc ?_
     refine Ja ?_
     refine Jp rfl rfl rfl (Jw (v := .pointer none) rfl) ?_
     refine Jp rfl rfl rfl (Jw (v := .bool false) rfl) ?_
     refine Jd ?_
     refine Jh ?_
     exact Z2 (v1 := .pointer none) (v2 := .bool false) rfl rfl rfl (finC (.pointer none) (by rw [hr]; rfl) ⟨fun _ => rfl, fun ks hk => by rw [hr] at hk; cases hk⟩)
    ·have H6 := cnd_f hb H5
     obtain ⟨l0, h_l0, H7⟩ := Je H6
     obtain ⟨q, h_q, H8⟩ := Je H7
     obtain ⟨ts, h_ts, H9⟩ := Je H8
     obtain ⟨hp0, hp1, hpe⟩ := Y9 h_l0
     obtain ⟨a0, ha0⟩ := sa_some f0.frs (by rw [List.length_map, List.length_range]; omega)
     have hbase : Pth h dv ls [p0.toNat] ⟨a0.block, a0.off + p0.toNat * 1, none⟩ (Xt h dv 1 p0.toNat 0) l0 := by
      have := Pth.base (h := h) (dv := dv) (ls := ls) (i := p0.toNat) (a := a0) (by omega) ha0
      rw [List.getElem?_eq_getElem (by omega)] at hpe
      rwa [Option.some.inj hpe] at this
     refine Ji ?_
     refine Jc ?_
     exact Qi (Kd.p :: Kd.p :: Kd.p :: Kd.d [] dv :: Kd.p :: Kd.p :: Kd.d [] (.int .i64 p0) :: Kd.p :: Kd.p :: []) 0 mixed (by
      refine Qq rfl rfl (J2 (v := .pointer (some ⟨pb, 0, none⟩)) rfl) ?_
      refine Qq rfl rfl (Jj rfl) ?_
      refine Qq rfl rfl (J3 Tryz.runUnderlying24 rfl Tryz.sizeOf22 rfl rfl) ?_
      refine d_read (fun w hF => Ub (v := dv) Tryz.isAgg22 rfl (hwA.now hF _ _ hb0) rfl) rfl rfl ?_
      refine Qq rfl rfl (J2 (v := v1) rfl) ?_
      refine Qq rfl rfl (Xq Tryz.underlying30 Tryz.sizeOf3 rfl rfl f1 h_p0) ?_
      refine d_read (fun w hF => Q9 (f := Qc) (i := 0) (sz := 1) (j := 0) (v := .int .i64 p0) Tryz.isAgg3 rfl rfl (f1.row (hwB.now hF)) h_p0 rfl) rfl rfl ?_
      refine Qq rfl rfl (r_indexP Tryz.underlying22 Tryz.sizeOf36 rfl rfl f0.frs (f0.ix h_l0) ha0) ?_
      refine Qq rfl rfl (Jw (v := .pointer (some ⟨a0.block, a0.off + p0.toNat * 1, none⟩)) rfl) ?_
      refine Y8 ?_
      refine Jc ?_
      refine Jc ?_
      refine Ja ?_
      refine Jp rfl rfl rfl (J2 (v := v1) rfl) ?_
      refine Jp rfl rfl rfl (J2 (v := v1) rfl) ?_
      refine Jp rfl rfl rfl (Wu Tryz.underlying30 rfl f1 rfl) ?_
      refine Jp rfl rfl rfl (Vh rfl rfl h_q) ?_
      refine Jp rfl rfl rfl (r_sliceLHF Tryz.underlying30 Tryz.sizeOf3 rfl rfl rfl f1 h_ts) ?_
      refine Jp rfl rfl rfl (Wu Tryz.underlying30 rfl (f1.cut h_ts) rfl) ?_
      refine Jp rfl rfl rfl (J2 (v := .int .i64 0) rfl) ?_
      refine Jd ?_
      refine Jx ?_
      have f2 := f1.cut h_ts
      refine Zn (σ := Nat) (τ := Addr × Value × List T_tag_Entry × List Nat) (cntB ts.length) (fun s t => [(6, .pointer (some t.1)), (38, cutV 1 v1 1 q), (39, .int .i64 (ts.length : Int)), (40, .int .i64 (s : Int))]) (fun s t => [])
       (fun s t => s ≤ ts.length ∧ Pth h dv ls t.2.2.2 t.1 t.2.1 t.2.2.1 ∧ Jr (tag_dirOfG t.2.2.1 (ts.drop s)) (fun z => some (z.map (t.2.2.2 ++ ·))) = some r) 0 (⟨a0.block, a0.off + p0.toNat * 1, none⟩, Xt h dv 1 p0.toNat 0, l0, [p0.toNat]) [] (cnt_fix _) ⟨Nat.zero_le _, hbase, H9⟩ (by exact ⟨rfl, rfl, rfl, rfl, trivial⟩) (by decide) rfl ?_
      rintro i ⟨a, u, l, ks⟩ m gg Hc ⟨hin, hP, HG⟩
      try dsimp only at hin hP HG ⊢
      have fl := hP.frn f0
      refine Jc ?_
      refine Ja ?_
      refine Jp rfl rfl rfl (Yc rfl rfl) ?_
      refine Jd ?_
      refine Jc ?_
      refine c_if (b := (decide ((i : Int) < (ts.length : Int)))) rfl (fun hb => ?_) (fun hb => ?_)
      ·have hi : i < ts.length := by have := of_decide_eq_true hb; omega
       have hat : Yp ts (i : Int) = some ts[i] := Qz hi
       rw [List.drop_eq_getElem_cons hi] at HG
       unfold tag_dirOfG at HG
       obtain ⟨z, HG1, HG2⟩ := Je HG
       obtain ⟨⟨n, ok⟩, h_pl, HG3⟩ := Je HG1
       refine Ji ?_
       refine Jc ?_
       refine Jx ?_
       refine Jc ?_
       refine Ja ?_
       refine Jp rfl rfl rfl (Xq Tryz.underlying30 Tryz.sizeOf3 rfl rfl f2 hat) ?_
       refine Qs (fun w hF hS => Q9 (f := Qc) (i := (i : Int)) (sz := 1) (j := 0) (v := .int .i64 ts[i]) Tryz.isAgg3 rfl rfl (f2.row (hwB.now hF)) hat rfl) rfl rfl rfl ?_
       refine Jp rfl rfl rfl (Jw (v := .int .i64 ts[i]) rfl) ?_
       refine Jd ?_
       refine Jc ?_
       refine Ja ?_
       refine Jp rfl rfl rfl (J2 (v := .pointer (some a)) rfl) ?_
       refine Jp rfl rfl rfl (Jj rfl) ?_
       refine Qs (fun w hF hS => hP.load f0 rfl (hw.now hF)) rfl rfl rfl ?_
       refine Jp rfl rfl rfl (J2 (v := .int .i64 ts[i]) rfl) ?_
       refine Qo (fun w hF hS => k22 (Jn w) (fl.mono (hw.now hF)) h_pl) Tryz.call22 rfl rfl rfl ?_
       refine Jp rfl rfl rfl (J2 (v := .tuple #[.int .i64 n, .bool ok]) rfl) ?_
       refine Jp rfl rfl rfl (Jv (v := .int .i64 n) rfl rfl) ?_
       refine Jp rfl rfl rfl (Jv (v := .bool ok) rfl rfl) ?_
       refine Jp rfl rfl rfl (Jw (v := .int .i64 n) rfl) ?_
       refine Jp rfl rfl rfl (Jw (v := .bool ok) rfl) ?_
       refine Jd ?_
       refine Jc ?_
       refine Jc ?_
       refine Ja ?_
       refine Jp rfl rfl rfl (J2 (v := .bool ok) rfl) ?_
       refine Jp rfl rfl rfl (Uu rfl) ?_
       refine Jp rfl rfl rfl (J2 (v := .bool (!ok)) rfl) ?_
       cases ok with
       | false =>
        have hz : z = none := (Option.some.inj HG3).symm
        have hr : r = none := by rw [hz] at HG2; exact (Option.some.inj HG2).symm
        refine U1 rfl rfl rfl ?_
        refine U1 rfl rfl rfl ?_
        refine U1 rfl rfl rfl ?_
        refine U1 rfl rfl rfl ?_
        refine U1 rfl rfl rfl ?_
        refine U1 rfl rfl rfl ?_
        refine U1 rfl rfl rfl ?_
        refine U1 rfl rfl rfl ?_
        refine U1 rfl rfl rfl ?_
        refine Jp rfl rfl rfl (r_pickT (v := .bool true) rfl rfl) ?_
        refine Jd ?_
        refine Ws rfl ?_
        refine Jc ?_
        refine Ja ?_
        refine Jp rfl rfl rfl (Jw (v := .pointer none) rfl) ?_
        refine Jp rfl rfl rfl (Jw (v := .bool false) rfl) ?_
        refine Jd ?_
        refine Jh ?_
        exact Z2 (v1 := .pointer none) (v2 := .bool false) rfl rfl rfl (finC (.pointer none) (by rw [hr]; rfl) ⟨fun _ => rfl, fun ks hk => by rw [hr] at hk; cases hk⟩)
       | true =>
        have HG4 : Jr (Yp l n) (fun e => Ql (decide (e.Value.Kind ≠ 13)) (some none) (Jr (tag_dirOfG e.Value.Entries (ts.drop (i + 1))) fun r => some (r.map (n.toNat :: ·)))) = some z := HG3
        obtain ⟨x, h_x, HG5⟩ := Je HG4
        obtain ⟨hn0, hn1, hne⟩ := Y9 h_x
        obtain ⟨b, hb2⟩ := sa_some fl.frs (by rw [List.length_map, List.length_range]; omega)
        refine Jp rfl rfl rfl (J2 (v := .pointer (some a)) rfl) ?_
        refine Jp rfl rfl rfl (Jj rfl) ?_
        refine Qs (fun w hF hS => hP.load f0 rfl (hw.now hF)) rfl rfl rfl ?_
        refine Jp rfl rfl rfl (J2 (v := .int .i64 n) rfl) ?_
        refine Jp rfl rfl rfl (r_indexP Tryz.underlying36 Tryz.sizeOf62 rfl rfl fl.frs (fl.ix h_x) hb2) ?_
        refine Jp rfl rfl rfl (J3 Tryz.runUnderlying62 rfl Tryz.sizeOf38 rfl rfl) ?_
        refine Jp rfl rfl rfl (J3 Tryz.runUnderlying38 rfl Tryz.sizeOf3 rfl rfl) ?_
        refine Qs (fun w hF hS => Q9 (f := elC h u 6) (i := n) (sz := 6) (j := 1) (k := n.toNat * 6 + 1) (a := some b) (v := .int .i64 x.Value.Kind) Tryz.isAgg3 (by simp [Wy, Nat.add_assoc, upd, ev]) rfl (by rw [← hb2]; exact fl.frs.row (hw.now hF)) (fl.ix h_x) (rg_of (Yh (fl.at h_x)) rfl)) rfl rfl rfl ?_
        refine Jp rfl rfl rfl (Yo rfl rfl) ?_
        refine Jp rfl rfl rfl (r_pickF (v := .bool (decide (x.Value.Kind ≠ 13))) rfl rfl) ?_
        refine Jd ?_
        refine c_if (b := decide (x.Value.Kind ≠ 13)) rfl (fun hk => ?_) (fun hk => ?_)
        ·have HG6 := cnd_t hk HG5
         have hz : z = none := (Option.some.inj HG6).symm
         have hr : r = none := by rw [hz] at HG2; exact (Option.some.inj HG2).symm
         refine Jc ?_
         refine Ja ?_
         refine Jp rfl rfl rfl (Jw (v := .pointer none) rfl) ?_
         refine Jp rfl rfl rfl (Jw (v := .bool false) rfl) ?_
         refine Jd ?_
         refine Jh ?_
         exact Z2 (v1 := .pointer none) (v2 := .bool false) rfl rfl rfl (finC (.pointer none) (by rw [hr]; rfl) ⟨fun _ => rfl, fun ks hk => by rw [hr] at hk; cases hk⟩)
        ·have HG6 := cnd_f hk HG5
         obtain ⟨z2, h_z2, HG7⟩ := Je HG6
         have hz : z = z2.map (n.toNat :: ·) := (Option.some.inj HG7).symm
         have hnx : l[n.toNat]'(by omega) = x := by rw [List.getElem?_eq_getElem (by omega)] at hne; exact Option.some.inj hne
         have hP2 := hP.step (n := n.toNat) (by omega) hb2
         rw [hnx] at hP2
         refine Ji ?_
         refine Ja ?_
         refine Jp rfl rfl rfl (J2 (v := .pointer (some a)) rfl) ?_
         refine Jp rfl rfl rfl (Jj rfl) ?_
         refine Qs (fun w hF hS => hP.load f0 rfl (hw.now hF)) rfl rfl rfl ?_
         refine Jp rfl rfl rfl (J2 (v := .int .i64 n) rfl) ?_
         refine Jp rfl rfl rfl (r_indexP Tryz.underlying36 Tryz.sizeOf62 rfl rfl fl.frs (fl.ix h_x) hb2) ?_
         refine Jp rfl rfl rfl (J3 Tryz.runUnderlying62 rfl Tryz.sizeOf38 rfl rfl) ?_
         refine Jp rfl rfl rfl (J3 Tryz.runUnderlying38 rfl Tryz.sizeOf36 rfl rfl) ?_
         refine Jp rfl rfl rfl (Jw (v := .pointer (some ⟨b.block, b.off + n.toNat * 6 + 1 + 4, none⟩)) rfl) ?_
         refine Jd ?_
         refine Ja ?_
         refine Jp rfl rfl rfl (J1 rfl rfl (Jy (by have := f2.len; simp only [List.length_map] at this; omega))) ?_
         refine Jp rfl rfl rfl (J2 (v := .int .i64 ((i : Int) + 1)) rfl) ?_
         refine Jd ?_
         refine c_close (i + 1) (⟨b.block, b.off + (n.toNat * 6 + 1 + 4), none⟩, Xt h u 6 n.toNat 5, x.Value.Entries, ks ++ [n.toNat]) m [] (by exact ⟨rfl, rfl, rfl, rfl, trivial⟩) (by decide) rfl (by
           refine ⟨cnt_step Hc hi, hi, hP2, ?_⟩
           show Jr (tag_dirOfG x.Value.Entries (ts.drop (i + 1))) _ = _
           rw [h_z2, Jb, ← HG2, hz]
           congr 1
           cases z2 <;> simp) (Nat.lt_succ_self _)
      ·have hi : i = ts.length := by have := of_decide_eq_false hb; omega
       rw [List.drop_eq_nil_of_le (by omega)] at HG
       have hr : r = some ks := by
        have : some (some (ks ++ ([] : List Nat))) = some r := HG
        rw [List.append_nil] at this; exact (Option.some.inj this).symm
       refine Xx ?_
       refine Jc ?_
       refine Ja ?_
       refine Jp rfl rfl rfl (J2 (v := .pointer (some a)) rfl) ?_
       refine Jp rfl rfl rfl (Jw (v := .pointer (some a)) rfl) ?_
       refine Jp rfl rfl rfl (Jw (v := .bool true) rfl) ?_
       refine Jd ?_
       refine Jh ?_
       exact Z2 (v1 := .pointer (some a)) (v2 := .bool true) rfl rfl rfl (finC (.pointer (some a)) (by rw [hr]; rfl) ⟨fun h => (by rw [hr] at h; cases h), fun ks' hk => (by rw [hr] at hk; cases hk; exact ⟨a, u, l, rfl, hP⟩)⟩)
     ) (by kernel_rfl)
  ) (by kernel_rfl)
end Go.Proofs.YtdcppgplkfkjiaaGreatDoor

/- A value is got. Conditions: sizes. -/
namespace Go.Proofs.YtdcppgplkfkjiaaGreatDoor
open Go Go.Vc Go.Md Go.M Go.Lx
set_option maxRecDepth 100000
set_option maxHeartbeats 4000000
set_option linter.unusedVariables false
theorem imp_pooledE {Φ : Jo → Prop} (h : Φ X1) : Imp empC (W8 X1 Φ) := ⟨fun S w k => ⟨X1, h, Yx, fun b o hb => by cases hb⟩⟩
abbrev valP (v3 v4 v5 : Value) (x : T_tag_Value) (hp : Jo) : Prop := FrS hp 1 v3 (x.Ints.map Qc) ∧ FrS hp 2 v4 (x.Ratios.map Jl) ∧ FrN hp 6 v5 g_tag_Entry x.Entries
theorem imp_ownP {Φ : Jo → List Nat → Prop} {Ψ : Jo → Prop} (k : ∀ h bs, Φ h bs → Ψ h) : Imp (ownC Φ) (W8 X1 Ψ) := ⟨fun _ _ ⟨hp, ⟨bs, h1, h2⟩, h3⟩ => ⟨hp, k _ _ h1, h3⟩⟩
theorem imp_valP {d : Nat} {v3 v4 v5 : Value} {x : T_tag_Value} :
    Imp (Jt (roV 1 v3 x.Ints.length (x.Ints.map Qc)) (Jt (roV 2 v4 x.Ratios.length (x.Ratios.map Jl)) (treeC d v5 x.Entries))) (W8 X1 (valP v3 v4 v5 x)) :=
  imp_trans (imp_kid (x := ⟨0, x⟩)) (imp_ownP fun h bs t => by
    obtain ⟨w3, w4, w5, b5, e, e3, e4, e5, _⟩ := t
    simp only [List.cons.injEq, and_true, true_and] at e
    obtain ⟨rfl, rfl, rfl⟩ := e
    exact ⟨e3, e4, e5.frn⟩)
theorem valP_nil : valP (.slice none 0 0) (.slice none 0 0) (.slice none 0 0) noV X1 := ⟨FrS.nil _ _, FrS.nil _ _, ⟨FrS.nil _ _, fun i x hx => by cases hx⟩⟩
theorem k10 {a0 : T_tag_File} {v0_1 : Value} {a1 : List Int} {v1 : Value} {r : T_tag_Value × Int} {w : World} {h : Jo} (hw : Know h w Y2) (f0_1 : FrN h 1 v0_1 gs_tag_Entry a0.Dirs) (f1 : FrS h 1 v1 (a1.map Qc)) (H : tag_Get a0 a1 = some r) :
    Does Tryz.prog 10 (List.toArray [.agg #[.bool a0.Big, v0_1], v1]) w (fun v w' => ∃ x : (Option Addr × Nat) × (Option Addr × Nat) × (Option Addr × Nat), v = (.tuple #[.agg #[.int .i64 r.1.Kind, str r.1.Text, .slice x.1.1 r.1.Ints.length x.1.2, .slice x.2.1.1 r.1.Ratios.length x.2.1.2, .slice x.2.2.1 r.1.Entries.length x.2.2.2], .int .i64 r.2]) ∧
      Turn w w' Y2 (W8 X1 (valP (.slice x.1.1 r.1.Ints.length x.1.2) (.slice x.2.1.1 r.1.Ratios.length x.2.1.2) (.slice x.2.2.1 r.1.Entries.length x.2.2.2) r.1))) := by
 unfold tag_Get at H
 refine enter (n := 48) Tryz.func10 rfl rfl rfl Y2 [] (Sat.nil _ _) ?_
 refine Jc ?_
 refine Ja ?_
 refine Z5 (cs := [.bool a0.Big, v0_1]) rfl rfl rfl rfl (fun b0 => ?_)
 refine Xf (cs := [.int .i64 0, str [], .slice none 0 0, .slice none 0 0, .slice none 0 0]) Tryz.zeroValue38 rfl rfl rfl (fun b1 => ?_)
 refine Jp rfl rfl rfl (Jw (v := .int .i64 0) rfl) ?_
 refine Jd ?_
 refine Jc ?_
 refine Jc ?_
 refine Ja ?_
 refine Qx (i := 0) (vs := [.bool a0.Big, v0_1]) Tryz.isAgg24 Tryz.sizeOf24 rfl rfl rfl rfl rfl ?_
 obtain ⟨t11, h_t11, H1⟩ := Je H
 refine Qo (fun w hF hS => k17 (Jn w) (f0_1.mono (hw.now hF)) h_t11) Tryz.call17 rfl rfl rfl ?_
 refine Jp rfl rfl rfl (Jw (v := .int .i64 t11) rfl) ?_
 refine Jd ?_
 refine Jc ?_
 refine Ja ?_
 refine Jp rfl rfl rfl (J2 (v := .int .i64 t11) rfl) ?_
 refine Jp rfl rfl rfl (Yo rfl rfl) ?_
 refine Jd ?_
 have err : ∀ {t : Int} {e : Xb} {fn : Func}, fn.results = #[.cell 4 38, .tmp 5] → r = (noV, t) → e 4 = .pointer (some ⟨b1, 0, none⟩) → e 5 = .int .i64 t → At ⟨w, Y2⟩ (BodyQ Tryz.prog fn (fun v w' => ∃ x : (Option Addr × Nat) × (Option Addr × Nat) × (Option Addr × Nat), v = (.tuple #[.agg #[.int .i64 r.1.Kind, str r.1.Text, .slice x.1.1 r.1.Ints.length x.1.2, .slice x.2.1.1 r.1.Ratios.length x.2.1.2, .slice x.2.2.1 r.1.Entries.length x.2.2.2], .int .i64 r.2]) ∧
      Turn w w' Y2 (W8 X1 (valP (.slice x.1.1 r.1.Ints.length x.1.2) (.slice x.2.1.1 r.1.Ratios.length x.2.1.2) (.slice x.2.2.1 r.1.Entries.length x.2.2.2) r.1))) .ret) e [Jg b0 [.bool a0.Big, v0_1] 24, Jg b1 [.int .i64 0, str [], .slice none 0 0, .slice none 0 0, .slice none 0 0] 38] := fun hfn hr h4 h5 => by
   subst hr
   refine c_emp ?_
   refine Qn 2 rfl (imp_pooledE valP_nil) ?_
   exact retCt (i := 1) (vs := [.int .i64 0, str [], .slice none 0 0, .slice none 0 0, .slice none 0 0]) (v2 := .int .i64 _) Tryz.isAgg38 Tryz.sizeOf38 hfn h4 rfl rfl h5 (Yy (((none, 0) : Option Addr × Nat), ((none, 0) : Option Addr × Nat), ((none, 0) : Option Addr × Nat)) (i := 2) rfl rfl (Imp.refl _))
 refine c_if (b := (decide (t11 ≠ 0))) rfl (fun hb => ?_) (fun hb => ?_)
 ·have H2 := cnd_t hb H1
  refine Jc ?_
  refine Ja ?_
  refine Jp rfl rfl rfl (Q6 (pl := #[(0, 1), (1, 1), (2, 1), (3, 1), (4, 1)]) (ps := []) (cells := #[.int .i64 0, str [], .slice none 0 0, .slice none 0 0, .slice none 0 0]) Tryz.zeroValue38 Tryz.runUnderlying38 (fun w => by kernel_rfl) rfl rfl) ?_
  refine Jp rfl rfl rfl (J2 (v := .int .i64 t11) rfl) ?_
  refine Ya (i := 1) (vs := [.int .i64 0, str [], .slice none 0 0, .slice none 0 0, .slice none 0 0]) (cs' := [.int .i64 0, str [], .slice none 0 0, .slice none 0 0, .slice none 0 0]) Tryz.sizeOf38 rfl rfl rfl rfl rfl rfl rfl rfl rfl ?_
  refine Jp rfl rfl rfl (Jw (v := .int .i64 t11) rfl) ?_
  refine Jd ?_
  refine Jh ?_
  refine err ?_ (Option.some.inj H2).symm ?_ ?_ <;> rfl
 ·have H3 := cnd_f hb H1
  obtain ⟨z, h_z, H4⟩ := Je H3
  refine Ji ?_
  refine Jc ?_
  refine Ja ?_
  refine Jp rfl rfl rfl (J2 (v := v1) rfl) ?_
  refine l_callC (σ := Value) (G := fun x => .tuple #[x, .bool z.isSome]) (Φ := DirR h v0_1 a0.Dirs z) (fun w hF hS => k20_of (hw.at hF) (Jn w) (hw.at hF) (Q8 (i := 0) hS rfl) f0_1 f1 h_z) Tryz.call20 rfl rfl rfl (fun pv hpv => ?_)
  refine Jp rfl rfl rfl (J2 (v := .tuple #[pv, .bool z.isSome]) rfl) ?_
  refine Jp rfl rfl rfl (Jv (v := pv) rfl rfl) ?_
  refine Jp rfl rfl rfl (Jv (v := .bool z.isSome) rfl rfl) ?_
  refine Jp rfl rfl rfl (Jw (v := pv) rfl) ?_
  refine Jp rfl rfl rfl (Jw (v := .bool z.isSome) rfl) ?_
  refine Jd ?_
  refine Jc ?_
  refine Jc ?_
  refine Ja ?_
  refine Jp rfl rfl rfl (J2 (v := .bool z.isSome) rfl) ?_
  refine Jp rfl rfl rfl (Uu rfl) ?_
  refine Jd ?_
  cases z with
  | none =>
   refine Ws rfl ?_
   refine Jc ?_
   refine Ja ?_
   refine Jp rfl rfl rfl (Q6 (pl := #[(0, 1), (1, 1), (2, 1), (3, 1), (4, 1)]) (ps := []) (cells := #[.int .i64 0, str [], .slice none 0 0, .slice none 0 0, .slice none 0 0]) Tryz.zeroValue38 Tryz.runUnderlying38 (fun w => by kernel_rfl) rfl rfl) ?_
   refine Ya (i := 1) (vs := [.int .i64 0, str [], .slice none 0 0, .slice none 0 0, .slice none 0 0]) (cs' := [.int .i64 0, str [], .slice none 0 0, .slice none 0 0, .slice none 0 0]) Tryz.sizeOf38 rfl rfl rfl rfl rfl rfl rfl rfl rfl ?_
   refine Jp rfl rfl rfl (Jw (v := .int .i64 7) rfl) ?_
   refine Jd ?_
   refine Jh ?_
   refine err ?_ (Option.some.inj H4).symm ?_ ?_ <;> rfl
  | some ks =>
   obtain ⟨a, u, l, rfl, hP⟩ := hpv.2 ks rfl
   have hl : getF ks a0.Dirs = l := hP.getF
   have fl := hP.frn f0_1
   obtain ⟨q, h_q, H5⟩ := Je H4
   obtain ⟨t, h_t, H6⟩ := Je H5
   rw [hl] at H6
   obtain ⟨⟨n, ok⟩, h_pl, H7⟩ := Je H6
   refine U7 rfl ?_
   refine Ji ?_
   refine Jc ?_
   exact Qi (Kd.p :: Kd.p :: Kd.d [] u :: Kd.p :: Kd.p :: Kd.p :: Kd.p :: Kd.p :: Kd.d [] (.int .i64 t) :: Kd.d [] (.tuple #[.int .i64 n, .bool ok]) :: Kd.p :: Kd.p :: Kd.p :: Kd.p :: Kd.p :: []) 0 mixed (by
    refine Qq rfl rfl (J2 (v := .pointer (some a)) rfl) ?_
    refine Qq rfl rfl (Jj rfl) ?_
    refine d_read (fun w hF => hP.load f0_1 rfl (hw.now hF)) rfl rfl ?_
    refine Qq rfl rfl (J2 (v := v1) rfl) ?_
    refine Qq rfl rfl (J2 (v := v1) rfl) ?_
    refine Qq rfl rfl (Wu Tryz.underlying30 rfl f1 rfl) ?_
    refine Qq rfl rfl (Vh rfl rfl h_q) ?_
    refine Qq rfl rfl (Xq Tryz.underlying30 Tryz.sizeOf3 rfl rfl f1 h_t) ?_
    refine d_read (fun w hF => Q9 (f := Qc) (i := q) (sz := 1) (j := 0) (v := .int .i64 t) Tryz.isAgg3 rfl rfl (f1.row (hw.now hF)) h_t rfl) rfl rfl ?_
    refine Ua (fun w L' hF hS hi => k22 (Jn w) (fl.mono (hw.now hF)) h_pl) Tryz.call22 rfl rfl ?_
    refine Qq rfl rfl (J2 (v := .tuple #[.int .i64 n, .bool ok]) rfl) ?_
    refine Qq rfl rfl (Jv (v := .int .i64 n) rfl rfl) ?_
    refine Qq rfl rfl (Jv (v := .bool ok) rfl rfl) ?_
    refine Qq rfl rfl (Jw (v := .int .i64 n) rfl) ?_
    refine Qq rfl rfl (Jw (v := .bool ok) rfl) ?_
    refine Y8 ?_
    refine Jc ?_
    refine Jc ?_
    refine Ja ?_
    refine Jp rfl rfl rfl (J2 (v := .bool ok) rfl) ?_
    refine Jp rfl rfl rfl (Uu rfl) ?_
    refine Jd ?_
    cases ok with
    | false =>
     refine Ws rfl ?_
     refine Jc ?_
     refine Ja ?_
     refine Jp rfl rfl rfl (Q6 (pl := #[(0, 1), (1, 1), (2, 1), (3, 1), (4, 1)]) (ps := []) (cells := #[.int .i64 0, str [], .slice none 0 0, .slice none 0 0, .slice none 0 0]) Tryz.zeroValue38 Tryz.runUnderlying38 (fun w => by kernel_rfl) rfl rfl) ?_
     refine Ya (i := 1) (vs := [.int .i64 0, str [], .slice none 0 0, .slice none 0 0, .slice none 0 0]) (cs' := [.int .i64 0, str [], .slice none 0 0, .slice none 0 0, .slice none 0 0]) Tryz.sizeOf38 rfl rfl rfl rfl rfl rfl rfl rfl rfl ?_
     refine Jp rfl rfl rfl (Jw (v := .int .i64 7) rfl) ?_
     refine Jd ?_
     refine Jh ?_
     refine err ?_ (Option.some.inj H7).symm ?_ ?_ <;> rfl
    | true =>
     have H8 : Jr (Yp l n) (fun e => open Classical in if fitV 8 e.Value then some (e.Value, 0) else none) = some r := H7
     obtain ⟨x, h_x, H9⟩ := Je H8
     have hfit : fitV 8 x.Value := Classical.byContradiction fun hh => by rw [if_neg hh] at H9; cases H9
     rw [if_pos hfit] at H9
     obtain rfl := Option.some.inj H9
     obtain ⟨hn0, hn1, hne⟩ := Y9 h_x
     obtain ⟨b, hb2⟩ := sa_some fl.frs (by rw [List.length_map, List.length_range]; omega)
     obtain ⟨q0, q1⟩ := g_tag_Entry_iff.1 (fl.at h_x)
     refine U7 rfl ?_
     refine Ji ?_
     refine Jc ?_
     refine Ja ?_
     refine Jp rfl rfl rfl (J2 (v := .pointer (some a)) rfl) ?_
     refine Jp rfl rfl rfl (Jj rfl) ?_
     refine Qs (fun w hF hS => hP.load f0_1 rfl (hw.now hF)) rfl rfl rfl ?_
     refine Jp rfl rfl rfl (J2 (v := .int .i64 n) rfl) ?_
     refine Jp rfl rfl rfl (r_indexP Tryz.underlying36 Tryz.sizeOf62 rfl rfl fl.frs (fl.ix h_x) hb2) ?_
     refine Jp rfl rfl rfl (J3 Tryz.runUnderlying62 rfl Tryz.sizeOf38 rfl rfl) ?_
     refine Qs (fun w hF hS => Zb (f := elC h u 6) (i := n) (sz := 6) (j := 1) (k := n.toNat * 6 + 1) (a := some b) (vs := [.int .i64 x.Value.Kind, str x.Value.Text, Xt h u 6 n.toNat 3, Xt h u 6 n.toNat 4, Xt h u 6 n.toNat 5]) Tryz.isAgg38 Tryz.sizeOf38 rfl rfl (by rw [← hb2]; exact fl.frs.row (hw.now hF)) (fl.ix h_x) (rd_of (Yh (fl.at h_x)) rfl)) rfl rfl rfl ?_
     refine Yw (Qm (rds := []) (G := fun y : (Option Addr × Nat) × (Option Addr × Nat) × (Option Addr × Nat) => (.agg #[.int .i64 x.Value.Kind, str x.Value.Text, .slice y.1.1 x.Value.Ints.length y.1.2, .slice y.2.1.1 x.Value.Ratios.length y.2.1.2, .slice y.2.2.1 x.Value.Entries.length y.2.2.2])) (C := fun y : (Option Addr × Nat) × (Option Addr × Nat) × (Option Addr × Nat) => (Jt (roV 1 (.slice y.1.1 x.Value.Ints.length y.1.2) x.Value.Ints.length (x.Value.Ints.map Qc)) (Jt (roV 2 (.slice y.2.1.1 x.Value.Ratios.length y.2.1.2) x.Value.Ratios.length (x.Value.Ratios.map Jl)) (treeC 8 (.slice y.2.2.1 x.Value.Entries.length y.2.2.2) x.Value.Entries)))) (fun w L' hF hS hi' => k21_of (k44_all 8) (Jn w) ((show FrS h 1 (Xt h u 6 n.toNat 3) (x.Value.Ints.map Qc) from Xj q1).mono (hw.now hF)) ((show FrS h 2 (Xt h u 6 n.toNat 4) (x.Value.Ratios.map Jl) from Xh q1).mono (hw.now hF)) ((show FrN h 6 (Xt h u 6 n.toNat 5) g_tag_Entry x.Value.Entries from Qt q1).mono (hw.now hF)) hfit) Tryz.call21 rfl) rfl rfl rfl (fun ⟨p3, p4, p5⟩ => ?_)
     refine Ya (i := 1) (vs := [.int .i64 x.Value.Kind, str x.Value.Text, .slice p3.1 x.Value.Ints.length p3.2, .slice p4.1 x.Value.Ratios.length p4.2, .slice p5.1 x.Value.Entries.length p5.2]) (cs' := [.int .i64 x.Value.Kind, str x.Value.Text, .slice p3.1 x.Value.Ints.length p3.2, .slice p4.1 x.Value.Ratios.length p4.2, .slice p5.1 x.Value.Entries.length p5.2]) Tryz.sizeOf38 rfl rfl rfl rfl rfl rfl rfl rfl rfl ?_
     refine Jp rfl rfl rfl (Jw (v := .int .i64 0) rfl) ?_
     refine Jd ?_
     refine Jh ?_
     refine Qn 2 rfl imp_valP ?_
     exact retCt (i := 1) (vs := [.int .i64 x.Value.Kind, str x.Value.Text, .slice p3.1 x.Value.Ints.length p3.2, .slice p4.1 x.Value.Ratios.length p4.2, .slice p5.1 x.Value.Entries.length p5.2]) (v2 := .int .i64 0) Tryz.isAgg38 Tryz.sizeOf38 rfl rfl rfl rfl rfl (Yy (p3, p4, p5) (i := 2) rfl rfl (Imp.refl _))
   ) (by kernel_rfl)
end Go.Proofs.YtdcppgplkfkjiaaGreatDoor

/- An entry is dropped. Conditions: sizes. -/
namespace Go.Proofs.YtdcppgplkfkjiaaGreatDoor
open Go Go.Vc Go.Md Go.M Go.Lx
set_option maxRecDepth 100000
set_option maxHeartbeats 4000000
set_option linter.unusedVariables false
theorem Pth.addr {h : Jo} {dv : Value} {ls : List (List T_tag_Entry)} {ks : List Nat} {a : Addr} {u : Value} {l : List T_tag_Entry} (p : Pth h dv ls ks a u l) : ∃ b o, a = ⟨b, o, none⟩ := by
  cases p with
  | base hi ha => exact ⟨_, _, rfl⟩
  | step p hn hb => exact ⟨_, _, rfl⟩
theorem putF_len (ks : List Nat) (ls : List (List T_tag_Entry)) (l' : List T_tag_Entry) : (putF ks ls l').length = ls.length := by
  cases ks with
  | nil => rfl
  | cons i ks =>
    show (match ls[i]? with | some l => ls.set i (putL ks l l') | none => ls).length = _
    cases ls[i]? with
    | none => rfl
    | some l => exact List.length_set
theorem tree_row {d : Nat} {h : Jo} {u : Value} {l : List T_tag_Entry} {bs : List Nat} (t : TreeL d h u l bs) (hn : bs.Nodup) :
    ∃ (p : Option Addr × Nat) (css : List (List Value)), u = .slice p.1 css.length p.2 ∧ css.length = l.length ∧ RowP h 62 6 u css ∧ (∀ b, u.ownBlock = some b → b ∈ bs) ∧ ∀ h' : Jo, (∀ q ∈ bs, u.ownBlock ≠ some q → ∀ o, h q = some o → h' q = some o) → AllC g_tag_Entry h' 6 css l := by
  cases d with
  | zero =>
    obtain ⟨rfl, rfl, rfl⟩ := t
    exact ⟨(none, 0), [], rfl, rfl, ⟨by simp, .inl ⟨rfl, rfl⟩⟩, fun b hb => (by cases hb), fun h' _ => AllC.nil⟩
  | succ d =>
    obtain ⟨css, b2, r, k, rfl⟩ := t
    obtain ⟨n1, n2, n3⟩ := List.nodup_append.1 hn
    obtain ⟨p, hu⟩ : ∃ p : Option Addr × Nat, u = .slice p.1 css.length p.2 := by
      rcases r.2 with ⟨rfl, rfl⟩ | ⟨g, cap, cur, rfl, _⟩
      · exact ⟨(none, 0), rfl⟩
      · exact ⟨(some ⟨g, 0, none⟩, cap), rfl⟩
    refine ⟨p, css, hu, k.len, r, fun b hb => by simp [hb], fun h' ag => ?_⟩
    have k2 : KidsG (TreeE (TreeL d)) h' css l b2 := k.agree (fun c x b t k => t.agree (fun v xs b t k => t.agree k) k) fun q hq => ag q (List.mem_append_right _ hq) fun e => n3 q (by simp [e]) q hq rfl
    exact k2.allC fun c x b t => by
      obtain ⟨v3, v4, v5, b5, rfl, e2, e3, e4, _⟩ := t
      have f := e4.frn
      exact ⟨rfl, .mk rfl rfl rfl e2 e3 f.frs f.el⟩
theorem at_frn {h' : Jo} {u : Value} {css : List (List Value)} {l : List T_tag_Entry} (f : FrS h' 6 u (css.map idC)) (p : AllC g_tag_Entry h' 6 css l) : FrN h' 6 u g_tag_Entry l := Ux f p
abbrev filP (v : Value) (ls : List (List T_tag_Entry)) (hp : Jo) : Prop := FrN hp 1 v gs_tag_Entry ls
theorem filP_nil : filP (.slice none 0 0) [] X1 := ⟨FrS.nil _ _, fun i x hx => by cases hx⟩
end Go.Proofs.YtdcppgplkfkjiaaGreatDoor

/- An entry is put. Conditions: sizes. -/
namespace Go.Proofs.YtdcppgplkfkjiaaGreatDoor
open Go Go.Vc Go.Md Go.M Go.Lx
set_option maxRecDepth 100000
set_option maxHeartbeats 4000000
set_option linter.unusedVariables false
theorem k7 {a0 : T_tag_File} {v0_1 : Value} {a1 : List Int} {v1 : Value} {a2 : T_tag_Value} {v2_2 v2_3 v2_4 : Value} {r : T_tag_File × Int} {w : World} {h : Jo} (hw : Know h w Y2) (f0_1 : FrN h 1 v0_1 gs_tag_Entry a0.Dirs) (f1 : FrS h 1 v1 (a1.map Qc))
  (f2_2 : FrS h 1 v2_2 (a2.Ints.map Qc)) (f2_3 : FrS h 2 v2_3 (a2.Ratios.map Jl)) (f2_4 : FrN h 6 v2_4 g_tag_Entry a2.Entries) (H : tag_Put a0 a1 a2 = some r) :
    Does Tryz.prog 7 (List.toArray [.agg #[.bool a0.Big, v0_1], v1, .agg #[.int .i64 a2.Kind, str a2.Text, v2_2, v2_3, v2_4]]) w (fun v w' => ∃ x : (Option Addr × Nat), v = (.tuple #[.agg #[.bool r.1.Big, .slice x.1 r.1.Dirs.length x.2], .int .i64 r.2]) ∧ Turn w w' Y2 (W8 X1 (filP (.slice x.1 r.1.Dirs.length x.2) r.1.Dirs))) := by
 unfold tag_Put at H
 refine enter (n := 80) Tryz.func7 rfl rfl rfl Y2 [] (Sat.nil _ _) ?_
 refine Jc ?_
 refine Ja ?_
 refine Z5 (cs := [.bool a0.Big, v0_1]) rfl rfl rfl rfl (fun b0 => ?_)
 refine Z5 (cs := [.int .i64 a2.Kind, str a2.Text, v2_2, v2_3, v2_4]) rfl rfl rfl rfl (fun b1 => ?_)
 refine Xf (cs := [.bool false, .slice none 0 0]) Tryz.zeroValue24 rfl rfl rfl (fun b2 => ?_)
 refine Jp rfl rfl rfl (Jw (v := .int .i64 0) rfl) ?_
 refine Jd ?_
 try dsimp only [z1, z2, z3, z4, z5, z6, z7, z8]
 have err : ∀ {t : Int} {e : Xb} {fn : Func} {bx bv rest}, fn.results = #[.cell 6 24, .tmp 7] → r = (noF, t) → e 6 = .pointer (some ⟨b2, 0, none⟩) → e 7 = .int .i64 t → At ⟨w, Y2⟩ (BodyQ Tryz.prog fn (fun v w' => ∃ x : (Option Addr × Nat), v = (.tuple #[.agg #[.bool r.1.Big, .slice x.1 r.1.Dirs.length x.2], .int .i64 r.2]) ∧ Turn w w' Y2 (W8 X1 (filP (.slice x.1 r.1.Dirs.length x.2) r.1.Dirs))) .ret) e (bx :: bv :: Jg b2 [.bool false, .slice none 0 0] 24 :: rest) := fun {t e fn bx bv rest} hfn hr h4 h5 => by
   subst hr
   refine c_emp ?_
   have e1 : (bx :: bv :: Jg b2 [.bool false, .slice none 0 0] 24 :: rest ++ [empC])[rest.length + 3]? = some empC := by
    rw [List.getElem?_append_right (by simp)]; simp
   refine Qn (rest.length + 3) e1 (imp_pooledE filP_nil) ?_
   exact retCt (i := 2) (vs := [.bool false, .slice none 0 0]) (v2 := .int .i64 _) Tryz.isAgg24 Tryz.sizeOf24 hfn h4 (by rw [List.getElem?_set_ne (by omega)]; rfl) rfl h5 (Yy ((none, 0) : Option Addr × Nat) (i := rest.length + 3) (List.getElem?_set_self (by simp)) rfl (Imp.refl _))
 refine Jc ?_
 refine Jc ?_
 refine Ja ?_
 refine Qx (i := 0) (vs := [.bool a0.Big, v0_1]) Tryz.isAgg24 Tryz.sizeOf24 rfl rfl rfl rfl rfl ?_
 obtain ⟨t11, h_t11, H1⟩ := Je H
 refine Qo (fun w hF hS => k17 (Jn w) (f0_1.mono (hw.now hF)) h_t11) Tryz.call17 rfl rfl rfl ?_
 refine Jp rfl rfl rfl (Jw (v := .int .i64 t11) rfl) ?_
 refine Jd ?_
 try dsimp only [z1, z2, z3, z4, z5, z6, z7, z8]
 refine Jc ?_
 refine Ja ?_
 refine Jp rfl rfl rfl (J2 (v := .int .i64 t11) rfl) ?_
 refine Jp rfl rfl rfl (Yo rfl rfl) ?_
 refine Jd ?_
 try dsimp only [z1, z2, z3, z4, z5, z6, z7, z8]
 refine c_if (b := (decide (t11 ≠ 0))) rfl (fun hb => ?_) (fun hb => ?_)
 ·have H2 := cnd_t hb H1
  refine Jc ?_
  refine Ja ?_
  refine Jp rfl rfl rfl (Q6 (pl := #[(0, 1), (1, 1)]) (ps := []) (cells := #[.bool false, .slice none 0 0]) Tryz.zeroValue24 Tryz.runUnderlying24 (fun w => by kernel_rfl) rfl rfl) ?_
  refine Jp rfl rfl rfl (J2 (v := .int .i64 t11) rfl) ?_
  refine Ya (i := 2) (vs := [.bool false, .slice none 0 0]) (cs' := [.bool false, .slice none 0 0]) Tryz.sizeOf24 rfl rfl rfl rfl rfl rfl rfl rfl rfl ?_
  refine Jp rfl rfl rfl (Jw (v := .int .i64 t11) rfl) ?_
  refine Jd ?_
  try dsimp only [z1, z2, z3, z4, z5, z6, z7, z8]
  refine Jh ?_
  refine err ?_ (Option.some.inj H2).symm ?_ ?_ <;> rfl
 ·have H3 := cnd_f hb H1
  obtain ⟨t23, h_t23, H4⟩ := Je H3
  refine Ji ?_
  refine Jc ?_
  refine Jc ?_
  refine Ja ?_
  refine Qx (i := 1) (vs := [.int .i64 a2.Kind, str a2.Text, v2_2, v2_3, v2_4]) Tryz.isAgg38 Tryz.sizeOf38 rfl rfl rfl rfl rfl ?_
  refine Qo (fun w hF hS => k18 (Jn w) (f2_2.mono (hw.now hF)) (f2_3.mono (hw.now hF)) (f2_4.mono (hw.now hF)) h_t23) Tryz.call18 rfl rfl rfl ?_
  refine Jp rfl rfl rfl (Jw (v := .int .i64 t23) rfl) ?_
  refine Jd ?_
  try dsimp only [z1, z2, z3, z4, z5, z6, z7, z8]
  refine Jc ?_
  refine Ja ?_
  refine Jp rfl rfl rfl (J2 (v := .int .i64 t23) rfl) ?_
  refine Jp rfl rfl rfl (Yo rfl rfl) ?_
  refine Jd ?_
  try dsimp only [z1, z2, z3, z4, z5, z6, z7, z8]
  refine c_if (b := (decide (t23 ≠ 0))) rfl (fun hb => ?_) (fun hb => ?_)
  ·have H5 := cnd_t hb H4
   refine Jc ?_
   refine Ja ?_
   refine Jp rfl rfl rfl (Q6 (pl := #[(0, 1), (1, 1)]) (ps := []) (cells := #[.bool false, .slice none 0 0]) Tryz.zeroValue24 Tryz.runUnderlying24 (fun w => by kernel_rfl) rfl rfl) ?_
   refine Jp rfl rfl rfl (J2 (v := .int .i64 t23) rfl) ?_
   refine Ya (i := 2) (vs := [.bool false, .slice none 0 0]) (cs' := [.bool false, .slice none 0 0]) Tryz.sizeOf24 rfl rfl rfl rfl rfl rfl rfl rfl rfl ?_
   refine Jp rfl rfl rfl (Jw (v := .int .i64 t23) rfl) ?_
   refine Jd ?_
   try dsimp only [z1, z2, z3, z4, z5, z6, z7, z8]
   refine Jh ?_
   refine err ?_ (Option.some.inj H5).symm ?_ ?_ <;> rfl
  ·have H5 := cnd_f hb H4
   have hfit : fitF 8 a0 ∧ fitV 8 a2 := Classical.byContradiction fun hh => by rw [if_neg hh] at H5; cases H5
   rw [if_pos hfit] at H5
   obtain ⟨z, h_z, H6⟩ := Je H5
   refine Ji ?_
   refine Jc ?_
   refine Ja ?_
   refine Qx (i := 0) (vs := [.bool a0.Big, v0_1]) Tryz.isAgg24 Tryz.sizeOf24 rfl rfl rfl rfl rfl ?_
   refine Yw (Qm (rds := []) (G := fun x : (Option Addr × Nat) => (.agg #[.bool a0.Big, .slice x.1 a0.Dirs.length x.2])) (C := fun x : (Option Addr × Nat) => fileC 8 (.slice x.1 a0.Dirs.length x.2) a0.Dirs) (fun w L' hF hS hi => k19_of (Jn w) (f0_1.mono (hw.now hF)) hfit.1) Tryz.call19 rfl) rfl rfl rfl (fun p => ?_)
   refine Ya (i := 0) (vs := [.bool a0.Big, .slice p.1 a0.Dirs.length p.2]) (cs' := [.bool a0.Big, .slice p.1 a0.Dirs.length p.2]) Tryz.sizeOf24 rfl rfl rfl rfl rfl rfl rfl rfl rfl ?_
   refine Jd ?_
   try dsimp only [z1, z2, z3, z4, z5, z6, z7, z8]
   refine c_pooled 3 rfl (fun hp ⟨bs, tF, hnd, hdom⟩ => ?_)
   try dsimp only [z1, z2, z3, z4, z5, z6, z7, z8]
   have f0 := tF.frn
   refine Jc ?_
   refine Ja ?_
   refine Jp rfl rfl rfl (J2 (v := v1) rfl) ?_
   refine l_callC (σ := Value) (G := fun x => .tuple #[x, .bool z.isSome]) (Φ := DirR hp (.slice p.1 a0.Dirs.length p.2) a0.Dirs z) (fun w hF hS => k20_of (know_pool (i := 3) hS rfl Yx) (Jn w) (hw.at hF) (Q8 (i := 0) hS rfl) f0 f1 h_z) Tryz.call20 rfl rfl rfl (fun pv hpv => ?_)
   refine Jp rfl rfl rfl (J2 (v := .tuple #[pv, .bool z.isSome]) rfl) ?_
   refine Jp rfl rfl rfl (Jv (v := pv) rfl rfl) ?_
   refine Jp rfl rfl rfl (Jv (v := .bool z.isSome) rfl rfl) ?_
   refine Jp rfl rfl rfl (Jw (v := pv) rfl) ?_
   refine Jp rfl rfl rfl (Jw (v := .bool z.isSome) rfl) ?_
   refine Jd ?_
   try dsimp only [z1, z2, z3, z4, z5, z6, z7, z8]
   refine Jc ?_
   refine Jc ?_
   refine Ja ?_
   refine Jp rfl rfl rfl (J2 (v := .bool z.isSome) rfl) ?_
   refine Jp rfl rfl rfl (Uu rfl) ?_
   refine Jd ?_
   try dsimp only [z1, z2, z3, z4, z5, z6, z7, z8]
   cases z with
   | none =>
    refine Ws rfl ?_
    refine Jc ?_
    refine Ja ?_
    refine Jp rfl rfl rfl (Q6 (pl := #[(0, 1), (1, 1)]) (ps := []) (cells := #[.bool false, .slice none 0 0]) Tryz.zeroValue24 Tryz.runUnderlying24 (fun w => by kernel_rfl) rfl rfl) ?_
    refine Ya (i := 2) (vs := [.bool false, .slice none 0 0]) (cs' := [.bool false, .slice none 0 0]) Tryz.sizeOf24 rfl rfl rfl rfl rfl rfl rfl rfl rfl ?_
    refine Jp rfl rfl rfl (Jw (v := .int .i64 7) rfl) ?_
    refine Jd ?_
    try dsimp only [z1, z2, z3, z4, z5, z6, z7, z8]
    refine Jh ?_
    refine err ?_ (Option.some.inj H6).symm ?_ ?_ <;> rfl
   | some ks =>
    obtain ⟨a, u, l, rfl, hP⟩ := hpv.2 ks rfl
    have hl : getF ks a0.Dirs = l := hP.getF
    have fl := hP.frn f0
    obtain ⟨q, h_q, H7⟩ := Je H6
    obtain ⟨t, h_t, H8⟩ := Je H7
    rw [hl] at H8
    obtain ⟨⟨n, ok⟩, h_pl, H9⟩ := Je H8
    obtain ⟨ab, ao, rfl⟩ := hP.addr
    obtain ⟨cl, T, d', bsub, c1, c2, c3, c4, c5, c6, c7, c8⟩ := hole_of tF hnd hP
    obtain ⟨pu, css, rfl, hcl, rw_, hob, hall⟩ := tree_row c7 c6
    have hA0 := hall hp (fun q _ _ o k => k)
    have hone := AllC.ones hA0 (fun c x f j hj => ent_one f j hj)
    have hne : (Value.slice pu.1 css.length pu.2).ownBlock ≠ some ab := fun e => c4 (hob ab e)
    have hob1 : rmV hp (Value.slice pu.1 css.length pu.2) ab = some (.cells cl.toArray T (0, 0)) := (if_neg hne).trans c1
    have hrg : rg cl ao = some (Value.slice pu.1 css.length pu.2) := (rg_eq _ _).trans c2
    refine U7 rfl ?_
    refine Ji ?_
    refine Jc ?_
    exact Qi (Kd.p :: Kd.p :: Kd.p :: Kd.p :: Kd.p :: Kd.d [] (.int .i64 t) :: Kd.d [1] (.agg (List.toArray [.int .i64 a2.Kind, str a2.Text, v2_2, v2_3, v2_4])) :: Kd.t 4 [] (fun y : (Option Addr × Nat) × (Option Addr × Nat) × (Option Addr × Nat) => (.agg #[.int .i64 a2.Kind, str a2.Text, .slice y.1.1 a2.Ints.length y.1.2, .slice y.2.1.1 a2.Ratios.length y.2.1.2, .slice y.2.2.1 a2.Entries.length y.2.2.2])) (fun v_ => (Jt (roV 1 (vcell v_ 2) a2.Ints.length (a2.Ints.map Qc)) (Jt (roV 2 (vcell v_ 3) a2.Ratios.length (a2.Ratios.map Jl)) (treeC 8 (vcell v_ 4) a2.Entries)))) :: Kd.p :: Kd.nw 5 [.int .i64 0, .int .i64 0, str [], .slice none 0 0, .slice none 0 0, .slice none 0 0] 62 :: Kd.sv 12 46 5 (fun v_ => v_.cells.toList) 62 :: []) 2 mixed (by
     refine Qq rfl rfl (J2 (v := v1) rfl) ?_
     refine Qq rfl rfl (J2 (v := v1) rfl) ?_
     refine Qq rfl rfl (Wu Tryz.underlying30 rfl f1 rfl) ?_
     refine Qq rfl rfl (Vh rfl rfl h_q) ?_
     refine Qq rfl rfl (Xq Tryz.underlying30 Tryz.sizeOf3 rfl rfl f1 h_t) ?_
     refine d_read (fun w hF => Q9 (f := Qc) (i := q) (sz := 1) (j := 0) (v := .int .i64 t) Tryz.isAgg3 rfl rfl (f1.row (hw.now hF)) h_t rfl) rfl rfl ?_
     refine d_loadN (i := 1) (vs := [.int .i64 a2.Kind, str a2.Text, v2_2, v2_3, v2_4]) Tryz.isAgg38 Tryz.sizeOf38 rfl rfl rfl rfl ?_
     refine d_make (((none, 0) : Option Addr × Nat), ((none, 0) : Option Addr × Nat), ((none, 0) : Option Addr × Nat)) (Qm (rds := []) (G := fun y : (Option Addr × Nat) × (Option Addr × Nat) × (Option Addr × Nat) => (.agg #[.int .i64 a2.Kind, str a2.Text, .slice y.1.1 a2.Ints.length y.1.2, .slice y.2.1.1 a2.Ratios.length y.2.1.2, .slice y.2.2.1 a2.Entries.length y.2.2.2])) (C := fun y : (Option Addr × Nat) × (Option Addr × Nat) × (Option Addr × Nat) => (Jt (roV 1 (.slice y.1.1 a2.Ints.length y.1.2) a2.Ints.length (a2.Ints.map Qc)) (Jt (roV 2 (.slice y.2.1.1 a2.Ratios.length y.2.1.2) a2.Ratios.length (a2.Ratios.map Jl)) (treeC 8 (.slice y.2.2.1 a2.Entries.length y.2.2.2) a2.Entries)))) (fun w L' hF hS hi => k21_of (k44_all 8) (Jn w) (f2_2.mono (hw.now hF)) (f2_3.mono (hw.now hF)) (f2_4.mono (hw.now hF)) hfit.2) Tryz.call21 rfl) (fun _ => rfl) rfl rfl rfl (fun ⟨p3, p4, p5⟩ => ?_)
     refine Qq rfl rfl (Q6 (pl := #[(0, 1), (1, 5)]) (ps := [(0, .int .i64 t), (1, .agg #[.int .i64 a2.Kind, str a2.Text, .slice p3.1 a2.Ints.length p3.2, .slice p4.1 a2.Ratios.length p4.2, .slice p5.1 a2.Entries.length p5.2])]) (cells := #[.int .i64 t, .int .i64 a2.Kind, str a2.Text, .slice p3.1 a2.Ints.length p3.2, .slice p4.1 a2.Ratios.length p4.2, .slice p5.1 a2.Entries.length p5.2]) Tryz.zeroValue62 Tryz.runUnderlying62 (fun w => by kernel_rfl) rfl rfl) ?_
     refine d_new rfl rfl (run_alloc (cs := [.int .i64 0, .int .i64 0, str [], .slice none 0 0, .slice none 0 0, .slice none 0 0]) Tryz.zeroValue62 rfl) rfl (fun b12 => ?_)
     refine Jaj (i := 5) (a := 12) (q := 46) (x := .agg #[.int .i64 t, .int .i64 a2.Kind, str a2.Text, .slice p3.1 a2.Ints.length p3.2, .slice p4.1 a2.Ratios.length p4.2, .slice p5.1 a2.Entries.length p5.2]) (vs := [.int .i64 t, .int .i64 a2.Kind, str a2.Text, .slice p3.1 a2.Ints.length p3.2, .slice p4.1 a2.Ratios.length p4.2, .slice p5.1 a2.Entries.length p5.2]) (cs' := fun v_ => v_.cells.toList) Tryz.sizeOf62 rfl rfl rfl rfl rfl rfl rfl rfl rfl ?_
     refine Y8 ?_
     try dsimp only [z1, z2, z3, z4, z5, z6, z7, z8]
     refine Qn 4 rfl imp_valP ?_
     try dsimp only [z1, z2, z3, z4, z5, z6, z7, z8]
     refine c_pooled 4 rfl (fun hv hvp => ?_)
     try dsimp only [z1, z2, z3, z4, z5, z6, z7, z8]
     refine Jc ?_
     refine Jc ?_
     exact Qi (Kd.p :: Kd.p :: Kd.d [3] (Value.slice pu.1 css.length pu.2) :: Kd.p :: Kd.d [5] (.int .i64 t) :: Kd.d [3] (.tuple #[.int .i64 n, .bool ok]) :: Kd.p :: Kd.p :: Kd.p :: Kd.p :: Kd.p :: []) 0 mixed (by
      refine Qq rfl rfl (J2 (v := .pointer (some ⟨ab, ao, none⟩)) rfl) ?_
      refine Qq rfl rfl (Jj rfl) ?_
      refine Zl (fun w L' hF hS hi => hP.load f0 rfl (Zj (i := 3) hS ((hi 3 (by simp)).trans rfl) Yx)) rfl rfl ?_
      refine Qq rfl rfl (J3 Tryz.runUnderlying62 rfl Tryz.sizeOf3 rfl rfl) ?_
      refine d_load1 (i := 5) (v := .int .i64 t) Tryz.isAgg3 rfl rfl rfl rfl ?_
      refine Ua (fun w L' hF hS hi => k22 (Jn w) (fl.mono (Zj (i := 3) hS ((hi 3 (by simp)).trans rfl) Yx)) h_pl) Tryz.call22 rfl rfl ?_
      refine Qq rfl rfl (J2 (v := .tuple #[.int .i64 n, .bool ok]) rfl) ?_
      refine Qq rfl rfl (Jv (v := .int .i64 n) rfl rfl) ?_
      refine Qq rfl rfl (Jv (v := .bool ok) rfl rfl) ?_
      refine Qq rfl rfl (Jw (v := .int .i64 n) rfl) ?_
      refine Qq rfl rfl (Jw (v := .bool ok) rfl) ?_
      refine Y8 ?_
      try dsimp only [z1, z2, z3, z4, z5, z6, z7, z8]
      refine Jc ?_
      refine Ja ?_
      refine Jp rfl rfl rfl (J2 (v := .bool ok) rfl) ?_
      refine Jd ?_
      try dsimp only [z1, z2, z3, z4, z5, z6, z7, z8]
      refine c_if (b := ok) rfl (fun hb => ?_) (fun hb => ?_)
      ·have H10 := cnd_t hb H9
       obtain ⟨l', h_l', HE⟩ := Je H10
       obtain ⟨hn0, hn1, hle'⟩ := W1 h_l'
       have h_x : Yp l n = some (l[n.toNat]'(by omega)) := gAt_ok hn0 (by omega)
       have hat := hA0.ix h_x
       have ec := (hA0.eta h_x).trans (Yh (hA0.at h_x))
       refine Qn 3 rfl (imp_thaw rw_ rfl) ?_
       try dsimp only [z1, z2, z3, z4, z5, z6, z7, z8]
       refine Xv 3 rfl ?_
       try dsimp only [z1, z2, z3, z4, z5, z6, z7, z8]
       refine Qn 6 rfl (Imp.of (show Js 62 6 (Value.slice pu.1 css.length pu.2) css.length css = Js 62 6 (Value.slice pu.1 css.length pu.2) css.length (css.map idC) from by rw [Qv])) ?_
       try dsimp only [z1, z2, z3, z4, z5, z6, z7, z8]
       exact Qi (Kd.p :: Kd.p :: Kd.d [3] (Value.slice pu.1 css.length pu.2) :: Kd.p :: Kd.d [5] (.agg (List.toArray [.int .i64 t, .int .i64 a2.Kind, str a2.Text, .slice p3.1 a2.Ints.length p3.2, .slice p4.1 a2.Ratios.length p4.2, .slice p5.1 a2.Entries.length p5.2])) :: Kd.d [6] (Wy pu.1 (n.toNat * 6)) :: Kd.sr 6 (Js 62 6 (Value.slice pu.1 css.length pu.2) css.length ((css.set n.toNat [.int .i64 t, .int .i64 a2.Kind, str a2.Text, .slice p3.1 a2.Ints.length p3.2, .slice p4.1 a2.Ratios.length p4.2, .slice p5.1 a2.Entries.length p5.2]).map idC)) :: []) 0 mixed (by
        refine Qq rfl rfl (J2 (v := .pointer (some ⟨ab, ao, none⟩)) rfl) ?_
        refine Qq rfl rfl (Jj rfl) ?_
        refine Zl (fun w L' hF hS hi => Ub (v := (Value.slice pu.1 css.length pu.2)) Tryz.isAgg36 rfl (Zj (i := 3) hS ((hi 3 (by simp)).trans rfl) Yx _ _ hob1) hrg) rfl rfl ?_
        refine Qq rfl rfl (J2 (v := .int .i64 n) rfl) ?_
        refine d_loadN (i := 5) (vs := [.int .i64 t, .int .i64 a2.Kind, str a2.Text, .slice p3.1 a2.Ints.length p3.2, .slice p4.1 a2.Ratios.length p4.2, .slice p5.1 a2.Entries.length p5.2]) Tryz.isAgg62 Tryz.sizeOf62 rfl rfl rfl rfl ?_
        refine Zl (fun w L' hF hS hi => Zt Tryz.underlying36 Tryz.sizeOf62 rfl rfl (V3 (i := 6) (E := 62) (sz := 6) (n := css.length) (a := pu.1) (c := pu.2) hS ((hi 6 (by simp)).trans rfl)) rfl hat) rfl rfl ?_
        refine d_storeG (q := 6) (j := 0) (i := n) (sz := 6) (hm := rfl) (f := idC) (z := [.int .i64 t, .int .i64 a2.Kind, str a2.Text, .slice p3.1 a2.Ints.length p3.2, .slice p4.1 a2.Ratios.length p4.2, .slice p5.1 a2.Entries.length p5.2]) (ys := css.set n.toNat [.int .i64 t, .int .i64 a2.Kind, str a2.Text, .slice p3.1 a2.Ints.length p3.2, .slice p4.1 a2.Ratios.length p4.2, .slice p5.1 a2.Entries.length p5.2]) (vs := [.int .i64 t, .int .i64 a2.Kind, str a2.Text, .slice p3.1 a2.Ints.length p3.2, .slice p4.1 a2.Ratios.length p4.2, .slice p5.1 a2.Entries.length p5.2]) Tryz.sizeOf62 rfl rfl rfl rfl rfl rfl rfl rfl rfl (fun y_ hy_ => by cases hy_.symm.trans hat; rw [ec]; rfl) (U6 hn0 (by omega)) ?_
        refine Y8 ?_
        try dsimp only [z1, z2, z3, z4, z5, z6, z7, z8]
        refine c_freeze (Φ := fun H_ => FrS H_ 6 (Value.slice pu.1 css.length pu.2) ((css.set n.toNat [.int .i64 t, .int .i64 a2.Kind, str a2.Text, .slice p3.1 a2.Ints.length p3.2, .slice p4.1 a2.Ratios.length p4.2, .slice p5.1 a2.Entries.length p5.2]).map idC)) 3 6 rfl rfl (by decide) (fun _ _ => Yx) (fz_own _) (fun hp2 hle hf => ?_)
        try dsimp only [z1, z2, z3, z4, z5, z6, z7, z8]
        refine Y0 3 4 rfl rfl (by decide) (fun _ _ => Yx) (fun hp3 hle1 hle2 => ?_)
        try dsimp only [z1, z2, z3, z4, z5, z6, z7, z8]
        have ag : ∀ q ∈ bs, (Value.slice pu.1 css.length pu.2).ownBlock ≠ some q → ∀ o, hp q = some o → hp3 q = some o := fun q hq hqu o ho => hle1 q o (hle q o ((if_neg hqu).trans ho))
        have hA2 := hall hp3 (fun q hq hqu o ho => ag q (c5 q hq) hqu o ho)
        have pf := hA2.setE h_l' (vs := [.int .i64 t, .int .i64 a2.Kind, str a2.Text, .slice p3.1 a2.Ints.length p3.2, .slice p4.1 a2.Ratios.length p4.2, .slice p5.1 a2.Entries.length p5.2]) rfl (.mk rfl rfl rfl (hvp.1.mono hle2) (hvp.2.1.mono hle2) ((hvp.2.2.mono hle2)).frs ((hvp.2.2.mono hle2)).el)
        have fin := c8 hp3 (Value.slice pu.1 css.length pu.2) l' (fun q hq hqa hqs o ho => ag q hq (fun e => hqs (hob q e)) o ho) (by rw [set_self c2]; exact ag ab c3 hne _ c1) (at_frn (hf.mono hle1) pf)
        unfold tag_PutE at HE
        obtain ⟨c15, h_c15, HE1⟩ := Je HE
        refine Jc ?_
        refine Jc ?_
        refine Ja ?_
        refine Qx (i := 0) (vs := [.bool a0.Big, .slice p.1 a0.Dirs.length p.2]) Tryz.isAgg24 Tryz.sizeOf24 rfl rfl rfl rfl rfl ?_
        refine Qo (fun w hF hS => k17 (a0 := ⟨a0.Big, putF ks a0.Dirs l'⟩) (Jn w) (fin.mono (Zj (i := 3) hS rfl Yx)) h_c15) Tryz.call17 rfl rfl rfl ?_
        refine Jp rfl rfl rfl (Jw (v := .int .i64 c15) rfl) ?_
        refine Jd ?_
        try dsimp only [z1, z2, z3, z4, z5, z6, z7, z8]
        refine Jc ?_
        refine Ja ?_
        refine Jp rfl rfl rfl (J2 (v := .int .i64 c15) rfl) ?_
        refine Jp rfl rfl rfl (Yo rfl rfl) ?_
        refine Jd ?_
        try dsimp only [z1, z2, z3, z4, z5, z6, z7, z8]
        refine c_if (b := (decide (c15 ≠ 0))) rfl (fun hb => ?_) (fun hb => ?_)
        ·have HE2 := cnd_t hb HE1
         refine Jc ?_
         refine Ja ?_
         refine Jp rfl rfl rfl (Q6 (pl := #[(0, 1), (1, 1)]) (ps := []) (cells := #[.bool false, .slice none 0 0]) Tryz.zeroValue24 Tryz.runUnderlying24 (fun w => by kernel_rfl) rfl rfl) ?_
         refine Jp rfl rfl rfl (J2 (v := .int .i64 c15) rfl) ?_
         refine Ya (i := 2) (vs := [.bool false, .slice none 0 0]) (cs' := [.bool false, .slice none 0 0]) Tryz.sizeOf24 rfl rfl rfl rfl rfl rfl rfl rfl rfl ?_
         refine Jp rfl rfl rfl (Jw (v := .int .i64 c15) rfl) ?_
         refine Jd ?_
         try dsimp only [z1, z2, z3, z4, z5, z6, z7, z8]
         refine Jh ?_
         refine err ?_ (Option.some.inj HE2).symm ?_ ?_ <;> rfl
        ·have HE2 := cnd_f hb HE1
         obtain rfl := Option.some.inj HE2
         refine Ji ?_
         refine Jc ?_
         refine Ja ?_
         refine Qx (i := 0) (vs := [.bool a0.Big, .slice p.1 a0.Dirs.length p.2]) Tryz.isAgg24 Tryz.sizeOf24 rfl rfl rfl rfl rfl ?_
         refine Ya (i := 2) (vs := [.bool a0.Big, .slice p.1 a0.Dirs.length p.2]) (cs' := [.bool a0.Big, .slice p.1 a0.Dirs.length p.2]) Tryz.sizeOf24 rfl rfl rfl rfl rfl rfl rfl rfl rfl ?_
         refine Jp rfl rfl rfl (Jw (v := .int .i64 0) rfl) ?_
         refine Jd ?_
         try dsimp only [z1, z2, z3, z4, z5, z6, z7, z8]
         refine Jh ?_
         refine Qn 3 rfl (imp_pooled (Φ := filP (.slice p.1 (putF ks a0.Dirs l').length p.2) (putF ks a0.Dirs l')) (by rw [putF_len]; exact fin)) ?_
         try dsimp only [z1, z2, z3, z4, z5, z6, z7, z8]
         exact retCt (i := 2) (vs := [.bool a0.Big, .slice p.1 a0.Dirs.length p.2]) (v2 := .int .i64 0) Tryz.isAgg24 Tryz.sizeOf24 rfl rfl rfl rfl rfl (Yy p (i := 3) rfl (by rw [putF_len]) (Imp.refl _))
       ) (by kernel_rfl)
      ·have H10 := cnd_f hb H9
       obtain ⟨l', h_l', HE⟩ := Je H10
       have hi0 : gInsN 104 css n [.int .i64 t, .int .i64 a2.Kind, str a2.Text, .slice p3.1 a2.Ints.length p3.2, .slice p4.1 a2.Ratios.length p4.2, .slice p5.1 a2.Entries.length p5.2] = some (Zr css n [.int .i64 t, .int .i64 a2.Kind, str a2.Text, .slice p3.1 a2.Ints.length p3.2, .slice p4.1 a2.Ratios.length p4.2, .slice p5.1 a2.Entries.length p5.2]) := by
        obtain ⟨_, g0, g1, g2, g3⟩ := gInsN_some h_l'
        exact gInsN_ok ⟨g0, by omega, by rw [hcl]; exact g2, by rw [hcl]; exact g3⟩
       refine Qn 3 rfl (imp_thaw rw_ rfl) ?_
       try dsimp only [z1, z2, z3, z4, z5, z6, z7, z8]
       refine Xv 3 rfl ?_
       try dsimp only [z1, z2, z3, z4, z5, z6, z7, z8]
       refine Qn 6 rfl (imp_trans (Zg _ _ _ _ _) (Imp.of (show Zw 62 6 (Value.slice pu.1 css.length pu.2) css.length css = Zw 62 6 (Value.slice pu.1 css.length pu.2) css.length (css.map idC) from by rw [Qv]))) ?_
       try dsimp only [z1, z2, z3, z4, z5, z6, z7, z8]
       exact Qi (Kd.p :: Kd.p :: Kd.p :: Kd.d [3] (Value.slice pu.1 css.length pu.2) :: Kd.p :: Kd.d [5] (.agg (List.toArray [.int .i64 t, .int .i64 a2.Kind, str a2.Text, .slice p3.1 a2.Ints.length p3.2, .slice p4.1 a2.Ratios.length p4.2, .slice p5.1 a2.Entries.length p5.2])) :: Kd.ns 7 [.int .i64 t, .int .i64 a2.Kind, str a2.Text, .slice p3.1 a2.Ints.length p3.2, .slice p4.1 a2.Ratios.length p4.2, .slice p5.1 a2.Entries.length p5.2] 62 1 :: Kd.t 6 [7] (fun x : Option Addr × Nat => .slice x.1 (Zr css n [.int .i64 t, .int .i64 a2.Kind, str a2.Text, .slice p3.1 a2.Ints.length p3.2, .slice p4.1 a2.Ratios.length p4.2, .slice p5.1 a2.Entries.length p5.2]).length x.2) (fun v_ => Zw 62 6 v_ (Zr css n [.int .i64 t, .int .i64 a2.Kind, str a2.Text, .slice p3.1 a2.Ints.length p3.2, .slice p4.1 a2.Ratios.length p4.2, .slice p5.1 a2.Entries.length p5.2]).length ((Zr css n [.int .i64 t, .int .i64 a2.Kind, str a2.Text, .slice p3.1 a2.Ints.length p3.2, .slice p4.1 a2.Ratios.length p4.2, .slice p5.1 a2.Entries.length p5.2]).map idC)) :: Kd.dv 70 [6] (clipV 6) :: Kd.p :: Kd.sp 72 71 3 (fun v_ => Xm X1 (updH (rmV hp (Value.slice pu.1 css.length pu.2)) ab (.cells (cl.set ao v_).toArray T (0, 0)))) :: []) 1 mixed (by
        refine Qq rfl rfl (J2 (v := .pointer (some ⟨ab, ao, none⟩)) rfl) ?_
        refine Qq rfl rfl (J2 (v := .pointer (some ⟨ab, ao, none⟩)) rfl) ?_
        refine Qq rfl rfl (Jj rfl) ?_
        refine Zl (fun w L' hF hS hi => Ub (v := (Value.slice pu.1 css.length pu.2)) Tryz.isAgg36 rfl (Zj (i := 3) hS ((hi 3 (by simp)).trans rfl) Yx _ _ hob1) hrg) rfl rfl ?_
        refine Qq rfl rfl (J2 (v := .int .i64 n) rfl) ?_
        refine d_loadN (i := 5) (vs := [.int .i64 t, .int .i64 a2.Kind, str a2.Text, .slice p3.1 a2.Ints.length p3.2, .slice p4.1 a2.Ratios.length p4.2, .slice p5.1 a2.Entries.length p5.2]) Tryz.isAgg62 Tryz.sizeOf62 rfl rfl rfl rfl ?_
        refine d_newS rfl rfl (Vm (vs := [.agg #[.int .i64 t, .int .i64 a2.Kind, str a2.Text, .slice p3.1 a2.Ints.length p3.2, .slice p4.1 a2.Ratios.length p4.2, .slice p5.1 a2.Entries.length p5.2]]) (cs := [.int .i64 t, .int .i64 a2.Kind, str a2.Text, .slice p3.1 a2.Ints.length p3.2, .slice p4.1 a2.Ratios.length p4.2, .slice p5.1 a2.Entries.length p5.2]) Tryz.underlying36 Tryz.sizeOf62 Tryz.zeroValue62 rfl rfl rfl rfl rfl) rfl (fun b7 => ?_)
        refine d_turn (Cv := fun v_ => Zw 62 6 v_ (Zr css n [.int .i64 t, .int .i64 a2.Kind, str a2.Text, .slice p3.1 a2.Ints.length p3.2, .slice p4.1 a2.Ratios.length p4.2, .slice p5.1 a2.Entries.length p5.2]).length ((Zr css n [.int .i64 t, .int .i64 a2.Kind, str a2.Text, .slice p3.1 a2.Ints.length p3.2, .slice p4.1 a2.Ratios.length p4.2, .slice p5.1 a2.Entries.length p5.2]).map idC)) ((none, 0) : Option Addr × Nat) (Qe (i := 6) (rds := [7]) (G := fun x : Option Addr × Nat => .slice x.1 (Zr css n [.int .i64 t, .int .i64 a2.Kind, str a2.Text, .slice p3.1 a2.Ints.length p3.2, .slice p4.1 a2.Ratios.length p4.2, .slice p5.1 a2.Entries.length p5.2]).length x.2) (C := fun x : Option Addr × Nat => Zw 62 6 (.slice x.1 (Zr css n [.int .i64 t, .int .i64 a2.Kind, str a2.Text, .slice p3.1 a2.Ints.length p3.2, .slice p4.1 a2.Ratios.length p4.2, .slice p5.1 a2.Entries.length p5.2]).length x.2) (Zr css n [.int .i64 t, .int .i64 a2.Kind, str a2.Text, .slice p3.1 a2.Ints.length p3.2, .slice p4.1 a2.Ratios.length p4.2, .slice p5.1 a2.Entries.length p5.2]).length ((Zr css n [.int .i64 t, .int .i64 a2.Kind, str a2.Text, .slice p3.1 a2.Ints.length p3.2, .slice p4.1 a2.Ratios.length p4.2, .slice p5.1 a2.Entries.length p5.2]).map idC)) rfl (fun w L' S hF hS hi hp hlt ho hA => k24 (p0 := pu) (cs1 := [.int .i64 t, .int .i64 a2.Kind, str a2.Text, .slice p3.1 a2.Ints.length p3.2, .slice p4.1 a2.Ratios.length p4.2, .slice p5.1 a2.Entries.length p5.2]) hp hlt (Xi w S) rfl hone rfl rfl (cell_but (j := 7) hA hS (by decide) ((hi 7 (by simp)).trans rfl)) hi0) Tryz.call24 rfl) (fun _ => rfl) rfl rfl (fun p7 => ?_)
        refine d_callDV (a := 70) (v := .slice (Q7 p7.1 0 (Zr css n [.int .i64 t, .int .i64 a2.Kind, str a2.Text, .slice p3.1 a2.Ints.length p3.2, .slice p4.1 a2.Ratios.length p4.2, .slice p5.1 a2.Entries.length p5.2]).length 6) (Zr css n [.int .i64 t, .int .i64 a2.Kind, str a2.Text, .slice p3.1 a2.Ints.length p3.2, .slice p4.1 a2.Ratios.length p4.2, .slice p5.1 a2.Entries.length p5.2]).length (Zr css n [.int .i64 t, .int .i64 a2.Kind, str a2.Text, .slice p3.1 a2.Ints.length p3.2, .slice p4.1 a2.Ratios.length p4.2, .slice p5.1 a2.Entries.length p5.2]).length) rfl (fun w L' hF hS hi => k23 (a := p7.1) (n := (Zr css n [.int .i64 t, .int .i64 a2.Kind, str a2.Text, .slice p3.1 a2.Ints.length p3.2, .slice p4.1 a2.Ratios.length p4.2, .slice p5.1 a2.Entries.length p5.2]).length) (c := p7.2) (capOfO (i := 6) hS ((hi 6 (by simp)).trans rfl)) w) Tryz.call23 rfl rfl ?_
        refine Qq rfl rfl (Jj rfl) ?_
        refine d_storeP (C := fun v_ => Xm X1 (updH (rmV hp (Value.slice pu.1 css.length pu.2)) ab (.cells (cl.set ao v_).toArray T (0, 0)))) (turns_storeP (q := 3) (b := ab) (o := ao) (cs := cl) (cs' := cl.set ao (.slice (Q7 p7.1 0 (Zr css n [.int .i64 t, .int .i64 a2.Kind, str a2.Text, .slice p3.1 a2.Ints.length p3.2, .slice p4.1 a2.Ratios.length p4.2, .slice p5.1 a2.Entries.length p5.2]).length 6) (Zr css n [.int .i64 t, .int .i64 a2.Kind, str a2.Text, .slice p3.1 a2.Ints.length p3.2, .slice p4.1 a2.Ratios.length p4.2, .slice p5.1 a2.Entries.length p5.2]).length (Zr css n [.int .i64 t, .int .i64 a2.Kind, str a2.Text, .slice p3.1 a2.Ints.length p3.2, .slice p4.1 a2.Ratios.length p4.2, .slice p5.1 a2.Entries.length p5.2]).length)) (T0 := T) (hp := rmV hp (Value.slice pu.1 css.length pu.2)) (vs := [.slice (Q7 p7.1 0 (Zr css n [.int .i64 t, .int .i64 a2.Kind, str a2.Text, .slice p3.1 a2.Ints.length p3.2, .slice p4.1 a2.Ratios.length p4.2, .slice p5.1 a2.Entries.length p5.2]).length 6) (Zr css n [.int .i64 t, .int .i64 a2.Kind, str a2.Text, .slice p3.1 a2.Ints.length p3.2, .slice p4.1 a2.Ratios.length p4.2, .slice p5.1 a2.Entries.length p5.2]).length (Zr css n [.int .i64 t, .int .i64 a2.Kind, str a2.Text, .slice p3.1 a2.Ints.length p3.2, .slice p4.1 a2.Ratios.length p4.2, .slice p5.1 a2.Entries.length p5.2]).length]) Tryz.sizeOf36 rfl rfl rfl rfl rfl rfl (wr_set (List.getElem?_eq_some_iff.1 c2).1) rfl hob1) rfl rfl ?_
        refine Y8 ?_
        try dsimp only [z1, z2, z3, z4, z5, z6, z7, z8]
        refine Qn 6 rfl (imp_clipRO _ _ _ _ _ _) ?_
        try dsimp only [z1, z2, z3, z4, z5, z6, z7, z8]
        refine c_freeze (Φ := fun H_ => FrS H_ 6 (.slice (Q7 p7.1 0 (Zr css n [.int .i64 t, .int .i64 a2.Kind, str a2.Text, .slice p3.1 a2.Ints.length p3.2, .slice p4.1 a2.Ratios.length p4.2, .slice p5.1 a2.Entries.length p5.2]).length 6) (Zr css n [.int .i64 t, .int .i64 a2.Kind, str a2.Text, .slice p3.1 a2.Ints.length p3.2, .slice p4.1 a2.Ratios.length p4.2, .slice p5.1 a2.Entries.length p5.2]).length (Zr css n [.int .i64 t, .int .i64 a2.Kind, str a2.Text, .slice p3.1 a2.Ints.length p3.2, .slice p4.1 a2.Ratios.length p4.2, .slice p5.1 a2.Entries.length p5.2]).length) ((Zr css n [.int .i64 t, .int .i64 a2.Kind, str a2.Text, .slice p3.1 a2.Ints.length p3.2, .slice p4.1 a2.Ratios.length p4.2, .slice p5.1 a2.Entries.length p5.2]).map idC)) 3 6 rfl rfl (by decide) (fun _ _ => Yx) (fz_offO _) (fun hp2 hle hf => ?_)
        try dsimp only [z1, z2, z3, z4, z5, z6, z7, z8]
        refine Y0 3 4 rfl rfl (by decide) (fun _ _ => Yx) (fun hp3 hle1 hle2 => ?_)
        try dsimp only [z1, z2, z3, z4, z5, z6, z7, z8]
        have ag : ∀ q ∈ bs, q ≠ ab → (Value.slice pu.1 css.length pu.2).ownBlock ≠ some q → ∀ o, hp q = some o → hp3 q = some o := fun q hq hqa hqu o ho => hle1 q o (hle q o (by show updH _ ab _ q = _; rw [updH_ne hqa]; exact (if_neg hqu).trans ho))
        have hA2 := hall hp3 (fun q hq hqu o ho => ag q (c5 q hq) (fun e => c4 (e ▸ hq)) hqu o ho)
        obtain ⟨_, pf⟩ := AllC.ins (cs := [.int .i64 t, .int .i64 a2.Kind, str a2.Text, .slice p3.1 a2.Ints.length p3.2, .slice p4.1 a2.Ratios.length p4.2, .slice p5.1 a2.Entries.length p5.2]) hA2 h_l' rfl (.mk rfl rfl rfl (hvp.1.mono hle2) (hvp.2.1.mono hle2) ((hvp.2.2.mono hle2)).frs ((hvp.2.2.mono hle2)).el)
        have fin := c8 hp3 _ l' (fun q hq hqa hqs o ho => ag q hq hqa (fun e => hqs (hob q e)) o ho) (hle1 _ _ (hle _ _ updH_self)) (at_frn (hf.mono hle1) pf)
        unfold tag_PutE at HE
        obtain ⟨c15, h_c15, HE1⟩ := Je HE
        refine Jc ?_
        refine Jc ?_
        refine Ja ?_
        refine Qx (i := 0) (vs := [.bool a0.Big, .slice p.1 a0.Dirs.length p.2]) Tryz.isAgg24 Tryz.sizeOf24 rfl rfl rfl rfl rfl ?_
        refine Qo (fun w hF hS => k17 (a0 := ⟨a0.Big, putF ks a0.Dirs l'⟩) (Jn w) (fin.mono (Zj (i := 3) hS rfl Yx)) h_c15) Tryz.call17 rfl rfl rfl ?_
        refine Jp rfl rfl rfl (Jw (v := .int .i64 c15) rfl) ?_
        refine Jd ?_
        try dsimp only [z1, z2, z3, z4, z5, z6, z7, z8]
        refine Jc ?_
        refine Ja ?_
        refine Jp rfl rfl rfl (J2 (v := .int .i64 c15) rfl) ?_
        refine Jp rfl rfl rfl (Yo rfl rfl) ?_
        refine Jd ?_
        try dsimp only [z1, z2, z3, z4, z5, z6, z7, z8]
        refine c_if (b := (decide (c15 ≠ 0))) rfl (fun hb => ?_) (fun hb => ?_)
        ·have HE2 := cnd_t hb HE1
         refine Jc ?_
         refine Ja ?_
         refine Jp rfl rfl rfl (Q6 (pl := #[(0, 1), (1, 1)]) (ps := []) (cells := #[.bool false, .slice none 0 0]) Tryz.zeroValue24 Tryz.runUnderlying24 (fun w => by kernel_rfl) rfl rfl) ?_
         refine Jp rfl rfl rfl (J2 (v := .int .i64 c15) rfl) ?_
         refine Ya (i := 2) (vs := [.bool false, .slice none 0 0]) (cs' := [.bool false, .slice none 0 0]) Tryz.sizeOf24 rfl rfl rfl rfl rfl rfl rfl rfl rfl ?_
         refine Jp rfl rfl rfl (Jw (v := .int .i64 c15) rfl) ?_
         refine Jd ?_
         try dsimp only [z1, z2, z3, z4, z5, z6, z7, z8]
         refine Jh ?_
         refine err ?_ (Option.some.inj HE2).symm ?_ ?_ <;> rfl
        ·have HE2 := cnd_f hb HE1
         obtain rfl := Option.some.inj HE2
         refine Ji ?_
         refine Jc ?_
         refine Ja ?_
         refine Qx (i := 0) (vs := [.bool a0.Big, .slice p.1 a0.Dirs.length p.2]) Tryz.isAgg24 Tryz.sizeOf24 rfl rfl rfl rfl rfl ?_
         refine Ya (i := 2) (vs := [.bool a0.Big, .slice p.1 a0.Dirs.length p.2]) (cs' := [.bool a0.Big, .slice p.1 a0.Dirs.length p.2]) Tryz.sizeOf24 rfl rfl rfl rfl rfl rfl rfl rfl rfl ?_
         refine Jp rfl rfl rfl (Jw (v := .int .i64 0) rfl) ?_
         refine Jd ?_
         try dsimp only [z1, z2, z3, z4, z5, z6, z7, z8]
         refine Jh ?_
         refine Qn 3 rfl (imp_pooled (Φ := filP (.slice p.1 (putF ks a0.Dirs l').length p.2) (putF ks a0.Dirs l')) (by rw [putF_len]; exact fin)) ?_
         try dsimp only [z1, z2, z3, z4, z5, z6, z7, z8]
         exact retCt (i := 2) (vs := [.bool a0.Big, .slice p.1 a0.Dirs.length p.2]) (v2 := .int .i64 0) Tryz.isAgg24 Tryz.sizeOf24 rfl rfl rfl rfl rfl (Yy p (i := 3) rfl (by rw [putF_len]) (Imp.refl _))
       ) (by kernel_rfl)
     ) (by kernel_rfl)
    ) (by kernel_rfl)
end Go.Proofs.YtdcppgplkfkjiaaGreatDoor

/- TopCarried, the law: the walks, printed by our generator; each follows its model. Conditions: the model yields a value. -/
namespace Go.Proofs.YtdcppgplkfkjiaaGreatDoor
open Go Go.Vc Go.Md Go.M Go.Lx Tryz
set_option maxRecDepth 100000
set_option maxHeartbeats 4000000
set_option linter.unusedVariables false
theorem k3 {a0 : (List UInt8)} {a1 : T_tag_File} {v1_1 : Value} {a2 : T_api_Place} {a3 : Int} {r : Bool} {w : World} {h : Jo} (hw : Know h w Y2) (f1_1 : FrN h 1 v1_1 gs_tag_Entry a1.Dirs) (tb_pow10 : TabH prog h "internal/strconv.uint64pow10" .u64 Lib.pow10Tab) (H : Jai a0 a1 a2 a3 = some r) : Does prog 3 (List.toArray [str a0, .agg #[.bool a1.Big, v1_1], .agg #[i6 a2.Lat, i6 a2.Lon], i6 a3]) w (fun v w' => v = (.bool r) ∧ Grow w w') := by
 refine enter (n := 189) func3 rfl rfl rfl Y2 [] (Sat.nil _ _)<|Zp h<|Jc<|Ja<|?_
 refine Z5 (cs := [.bool a1.Big, v1_1]) rfl rfl rfl rfl (fun b11 => ?_)
 refine Z5 (cs := [i6 a2.Lat, i6 a2.Lon]) rfl rfl rfl rfl (fun b12 => ?_)
 refine ag (.bool false)<|Jd<|Jc<|Jc<|Ja<|?_
 obtain ⟨t30, h_t30, H72⟩ := Je H; clear H
 refine Qo (fun w hF hS => k4 (Jn w) (tb_pow10.mono (hw.now hF)) h_t30) call4 rfl rfl rfl<|lv (Uu rfl)<|Jd<|?_
 revert H72
 refine ci (!t30) rfl (fun hb H73=>?_) fun hb H74=>?_
 ·refine Jc<|Ja<|ag (.bool false)<|Jd<|Jh<|?_
  obtain rfl := sj H73
  exact r1 (.bool false)
 ·refine Ji<|Jc<|Jc<|Ja<|Qx (i := 2) (vs := [i6 a2.Lat, i6 a2.Lon]) isAgg26 sizeOf26 rfl rfl rfl rfl rfl<|?_
  obtain ⟨t33, h_t33, H75⟩ := Je H74; clear H74
  refine Xy (k5 h_t33) call5 rfl rfl rfl<|lv (Yo rfl rfl)<|mv (.bool (decide (t33 ≠ 0)))<|?_
  revert H75
  refine sp (fun hb H76=>?_) fun hb H77=>?_
  ·refine pa<|pa<|pa<|pa<|pT (.bool true)<|Jd<|Ws rfl<|Jc<|Ja<|ag (.bool true)<|Jd<|Jh<|?_
   obtain rfl := sj H76
   exact r1 (.bool true)
  ·refine lf runUnderlying24 rfl sizeOf22 rfl<|ll 1 v1_1 isAgg22<|lv (Yv underlying22 rfl f1_1)<|lv (Xg rfl rfl)<|pF (.bool (decide ((a1.Dirs.length : Int) = 0)))<|Jd<|?_
   revert H77
   refine ci (decide ((a1.Dirs.length : Int) = 0)) rfl (fun hb H78=>?_) fun hb H79=>?_
   ·refine Jc<|Ja<|ag (.bool true)<|Jd<|Jh<|?_
    obtain rfl := sj H78
    exact r1 (.bool true)
   ·refine Ji<|Jc<|Ja<|lf runUnderlying26 rfl sizeOf3 rfl<|ll 2 (i6 a2.Lat) isAgg3<|lf runUnderlying26 rfl sizeOf3 rfl<|ll 2 (i6 a2.Lon) isAgg3<|?_
    refine J9 (vs := [i6 a2.Lat, i6 a2.Lon]) (cs := [i6 a2.Lat, i6 a2.Lon]) underlying30 sizeOf3 zeroValue3 rfl rfl rfl rfl rfl rfl rfl (fun b13 => ?_)
    refine ag (.slice (some ⟨b13, 0, none⟩) 2 2)<|Jd<|?_
    refine Q3 (r := r) (σ := Bool × (List (List T_tag_Entry))) (τ := Jo × Value) (fun s => Jah a0 a2 a3 s.1 s.2) (fun s t => [(0, str a0), (3, i6 a3), (5, .pointer (some ⟨b11, 0, none⟩)), (6, .pointer (some ⟨b12, 0, none⟩)), (9, .slice (some ⟨b13, 0, none⟩) 2 2)]) (fun s t => [Xm h t.1, Jg b11 [.bool s.1, t.2] 24, Jg b12 [i6 a2.Lat, i6 a2.Lon] 26, Jg b13 [i6 a2.Lat, i6 a2.Lon] 3]) (fun s t => FrN t.1 1 t.2 gs_tag_Entry s.2) ?_ ?_
    ·refine Jc<|Ja<|mv (.slice (some ⟨b13, 0, none⟩) 2 2)<|lv (Uf underlying30 rfl)<|mv (i6 0)<|Jd<|Jx<|?_
     refine c_poolLe 0 rfl (fun hle_ => ?_)
     refine Zn (σ := Int × Bool × (List (List T_tag_Entry))) (τ := Jo × Value) (fun next5 s => X6 a0 a2 a3 next5 s.1 s.2.1 s.2.2) (fun s t => [(0, str a0), (3, i6 a3), (5, .pointer (some ⟨b11, 0, none⟩)), (6, .pointer (some ⟨b12, 0, none⟩)), (9, .slice (some ⟨b13, 0, none⟩) 2 2), (46, .slice (some ⟨b13, 0, none⟩) 2 2), (47, i6 2), (48, i6 s.1)]) (fun s t => [Xm h t.1, Jg b11 [.bool s.2.1, t.2] 24, Jg b12 [i6 a2.Lat, i6 a2.Lon] 26, Jg b13 [i6 a2.Lat, i6 a2.Lon] 3]) (fun s t => FrN t.1 1 t.2 gs_tag_Entry s.2.2) (0, a1.Big, a1.Dirs) (h, v1_1) [0, 1, 2, 3] H79 (by exact (f1_1.mono hle_)) (by exact ⟨rfl, rfl, rfl, rfl, rfl, rfl, rfl, rfl, trivial⟩) (by decide) rfl ?_
     rintro ⟨x48_2, m_5, m_6⟩ ⟨hp_11, gv_2⟩ m5 gg H121 gf_3
     clear H79
     try dsimp only at H121
     generalize hn5 : it (fun next5 s => X6 a0 a2 a3 next5 s.1 s.2.1 s.2.2) m5 = next5 at H121
     try dsimp only
     refine Jc<|Ja<|lv (Yc rfl rfl)<|Jd<|Jc<|?_
     revert H121
     refine ci (decide (x48_2 < 2)) rfl (fun hb H122=>?_) fun hb H142=>?_
     ·refine Ji<|Jc<|Jx<|Jc<|Ja<|mv (i6 x48_2)<|?_
      obtain ⟨t51, h_t51, H123⟩ := Je H122; clear H122
      refine lv (r_indexS underlying30 sizeOf3 rfl rfl h_t51 rfl)<|Qs (fun w hF hS => Q9 (f := Qc) (i := x48_2) (sz := 1) (j := 0) (v := i6 t51) isAgg3 rfl rfl (Wr (sz := 1) (xs := ([a2.Lat, a2.Lon] : List Int).map Qc) (i := 3) hS rfl rfl rfl) h_t51 rfl) rfl rfl rfl<|ag (i6 x48_2)<|ag (i6 t51)<|Jd<|Jc<|Ja<|mv (i6 t51)<|mv (i6 t51)<|?_
      obtain ⟨t56, h_t56, H124⟩ := Je H123; clear H123
      refine lv (r_negG rfl h_t56)<|lv (r_max rfl rfl)<|?_
      obtain ⟨t58, h_t58, H125⟩ := Je H124; clear H124
      refine Yw (Qm (rds := []) (G := fun x : (Option Addr × Nat) => .tuple #[sl x t58.1.length, i6 t58.2]) (C := fun x : (Option Addr × Nat) => Js 52 2 (sl x t58.1.length) t58.1.length (t58.1.map Jl)) (fun w L' hF hS hi => k6 (Jn w)  h_t58) call6 rfl) rfl rfl rfl (fun p_8 => ?_)
      refine mv (.tuple #[sl p_8 t58.1.length, i6 t58.2])<|lv (Jv (v := sl p_8 t58.1.length) rfl rfl)<|lv (Jv (v := i6 t58.2) rfl rfl)<|ag (sl p_8 t58.1.length)<|ag (i6 t58.2)<|Jd<|Jc<|Jc<|Ja<|mv (i6 t58.2)<|lv (Yo rfl rfl)<|Jd<|?_
      revert H125
      refine ci (decide (t58.2 ≠ 0)) rfl (fun hb H126=>?_) fun hb H127=>?_
      ·refine Jc<|Ja<|ag (.bool false)<|Jd<|Jh<|?_
       obtain rfl := sj H126
       exact r1 (.bool false)
      ·refine Ji<|Jc<|Ja<|ag (str [43])<|Jd<|?_
       refine Q3 (r := r) (σ := (List UInt8)) (τ := Unit) (fun s => X8 x48_2 m_5 m_6 next5 t58 s) (fun s t => [(0, str a0), (3, i6 a3), (5, .pointer (some ⟨b11, 0, none⟩)), (6, .pointer (some ⟨b12, 0, none⟩)), (9, .slice (some ⟨b13, 0, none⟩) 2 2), (10, i6 x48_2), (12, sl p_8 t58.1.length), (14, str s), (46, .slice (some ⟨b13, 0, none⟩) 2 2), (47, i6 2), (48, i6 x48_2)]) (fun s t => [Xm h hp_11, Jg b11 [.bool m_5, gv_2] 24, Jg b12 [i6 a2.Lat, i6 a2.Lon] 26, Jg b13 [i6 a2.Lat, i6 a2.Lon] 3, Js 52 2 (sl p_8 t58.1.length) t58.1.length (t58.1.map Jl)]) (fun s t => True) ?_ ?_
       ·refine Jc ?_
        try dsimp only [z1, z2, z5, z6, z7, z8]
        refine Ja<|mv (i6 t51)<|lv (Yc rfl rfl)<|Jd<|?_
        revert H127
        refine ci (decide (t51 < 0)) rfl (fun hb H140=>?_) fun hb H141=>?_
        ·refine Ja<|ag (str [45])<|Jd<|?_
         exact cl [45] () 0 [0, 1, 2, 3, 4] (by exact ⟨H140, trivial⟩)
        ·refine Ji ?_
         exact cl [43] () 0 [0, 1, 2, 3, 4] (by exact ⟨H141, trivial⟩)
       ·rintro x14 _ gg H128 _
        try dsimp only at H128
        try dsimp only
        refine Jc<|Jc<|Ja<|Qx (i := 1) (vs := [.bool m_5, gv_2]) isAgg24 sizeOf24 rfl rfl rfl rfl rfl<|mv (i6 x48_2)<|?_
        obtain ⟨t68, h_t68, H129⟩ := Je H128; clear H128
        refine lv (V5 rfl rfl h_t68) ?_
        obtain ⟨t69, h_t69, H130⟩ := Je H129; clear H129
        refine lv (J1 rfl rfl h_t69) ?_
        refine J9 (vs := [i6 0, i6 t69]) (cs := [i6 0, i6 t69]) underlying30 sizeOf3 zeroValue3 rfl rfl rfl rfl rfl rfl rfl (fun b20 => ?_)
        refine mv (sl p_8 t58.1.length)<|lv (Q6 (pl := #[(0, 1), (1, 1), (2, 1), (3, 1), (4, 1)]) (ps := [(0, i6 5), (3, sl p_8 t58.1.length)]) (cells := #[i6 5, str [], .slice none 0 0, sl p_8 t58.1.length, .slice none 0 0]) zeroValue38 runUnderlying38 (fun w => by kernel_rfl) rfl rfl)<|?_
        obtain ⟨t73, h_t73, H131⟩ := Je H130; clear H130
        refine Yw (Qm (rds := [0, 4, 5]) (G := fun x : (Option Addr × Nat) => .tuple #[.agg #[.bool t73.1.Big, sl x t73.1.Dirs.length], i6 t73.2]) (C := fun x : (Option Addr × Nat) => W8 X1 (fun hp_ => FrN hp_ 1 (sl x t73.1.Dirs.length) gs_tag_Entry t73.1.Dirs)) (fun w L' hF hS hi => k7 (Jn w) (gf_3.mono (Zj (i := 0) hS ((hi 0 (by simp)).trans rfl) (hw.now hF))) (frs_box (i := 5) (xs := ([0, t69] : List Int)) (f := Qc) hS ((hi 5 (by simp)).trans rfl) rfl rfl rfl rfl) (FrS.nil _ _) (Zm (i := 4) rfl hS ((hi 4 (by simp)).trans rfl)) (FrN.nil _ _ _) h_t73) call7 rfl) rfl rfl rfl (fun p_9 => ?_)
        refine c_pooled 6 rfl (fun hp_12 pf_7 => ?_)
        refine Y0 0 6 rfl rfl (by decide) (fun w hF => hw.now hF) (fun hp_13 hle_7 hle_8 => ?_)
        refine mv (.tuple #[.agg #[.bool t73.1.Big, (sl p_9 t73.1.Dirs.length)], i6 t73.2])<|lv (Jv (v := .agg #[.bool t73.1.Big, (sl p_9 t73.1.Dirs.length)]) rfl rfl)<|lv (Jv (v := i6 t73.2) rfl rfl)<|Ya (i := 1) (vs := [.bool t73.1.Big, (sl p_9 t73.1.Dirs.length)]) (cs' := [.bool t73.1.Big, (sl p_9 t73.1.Dirs.length)]) sizeOf24 rfl rfl rfl rfl rfl rfl (by simp only [List.all_cons, List.all_nil, (pf_7.mono hle_8).one] <;> rfl) rfl rfl<|ag (i6 t73.2)<|Jd<|Jc<|?_
        try dsimp only [z1, z2, z5, z6, z7, z8]
        refine Ja<|mv (i6 t73.2)<|lv (Yo rfl rfl)<|Jd<|?_
        revert H131
        refine ci (decide (t73.2 ≠ 0)) rfl (fun hb H132=>?_) fun hb H133=>?_
        ·refine Jc<|Ja<|ag (.bool true)<|Jd<|Jh<|?_
         obtain rfl := sj H132
         exact r1 (.bool true)
        ·refine Ji<|Jc<|Ja<|Qx (i := 1) (vs := [.bool t73.1.Big, (sl p_9 t73.1.Dirs.length)]) isAgg24 sizeOf24 rfl rfl rfl rfl rfl<|mv (i6 x48_2)<|?_
         obtain ⟨t81, h_t81, H134⟩ := Je H133; clear H133
         refine lv (V5 rfl rfl h_t81) ?_
         obtain ⟨t82, h_t82, H135⟩ := Je H134; clear H134
         refine lv (J1 rfl rfl h_t82) ?_
         refine J9 (vs := [i6 0, i6 t82]) (cs := [i6 0, i6 t82]) underlying30 sizeOf3 zeroValue3 rfl rfl rfl rfl rfl rfl rfl (fun b21 => ?_)
         refine mv (str x14)<|lv (Q6 (pl := #[(0, 1), (1, 1), (2, 1), (3, 1), (4, 1)]) (ps := [(0, i6 2), (1, str x14)]) (cells := #[i6 2, str x14, .slice none 0 0, .slice none 0 0, .slice none 0 0]) zeroValue38 runUnderlying38 (fun w => by kernel_rfl) rfl rfl)<|?_
         obtain ⟨t86, h_t86, H136⟩ := Je H135; clear H135
         refine Yw (Qm (rds := [0, 7]) (G := fun x : (Option Addr × Nat) => .tuple #[.agg #[.bool t86.1.Big, sl x t86.1.Dirs.length], i6 t86.2]) (C := fun x : (Option Addr × Nat) => W8 X1 (fun hp_ => FrN hp_ 1 (sl x t86.1.Dirs.length) gs_tag_Entry t86.1.Dirs)) (fun w L' hF hS hi => k7 (Jn w) ((pf_7.mono hle_8).mono (Zj (i := 0) hS ((hi 0 (by simp)).trans rfl) (hw.now hF))) (frs_box (i := 7) (xs := ([0, t82] : List Int)) (f := Qc) hS ((hi 7 (by simp)).trans rfl) rfl rfl rfl rfl) (FrS.nil _ _) (FrS.nil _ _) (FrN.nil _ _ _) h_t86) call7 rfl) rfl rfl rfl (fun p_10 => ?_)
         refine c_pooled 8 rfl (fun hp_14 pf_8 => ?_)
         refine Y0 0 8 rfl rfl (by decide) (fun w hF => hw.now hF) (fun hp_15 hle_9 hle_10 => ?_)
         refine mv (.tuple #[.agg #[.bool t86.1.Big, (sl p_10 t86.1.Dirs.length)], i6 t86.2])<|lv (Jv (v := .agg #[.bool t86.1.Big, (sl p_10 t86.1.Dirs.length)]) rfl rfl)<|lv (Jv (v := i6 t86.2) rfl rfl)<|Ya (i := 1) (vs := [.bool t86.1.Big, (sl p_10 t86.1.Dirs.length)]) (cs' := [.bool t86.1.Big, (sl p_10 t86.1.Dirs.length)]) sizeOf24 rfl rfl rfl rfl rfl rfl (by simp only [List.all_cons, List.all_nil, (pf_8.mono hle_10).one] <;> rfl) rfl rfl<|ag (i6 t86.2)<|Jd<|Jc<|Ja<|mv (i6 t86.2)<|lv (Yo rfl rfl)<|Jd<|?_
         revert H136
         refine ci (decide (t86.2 ≠ 0)) rfl (fun hb H137=>?_) fun hb H138=>?_
         ·refine Jc<|Ja<|ag (.bool true)<|Jd<|Jh<|?_
          obtain rfl := sj H137
          exact r1 (.bool true)
         ·refine Ji<|Ja<|?_
          obtain ⟨t91, h_t91, H139⟩ := Je H138; clear H138
          refine lv (J1 rfl rfl h_t91)<|mv (i6 t91)<|Jd<|?_
          refine c_poolLe 0 rfl (fun hle_ => ?_)
          exact cl (t91, t86.1.Big, t86.1.Dirs) (hp_15, (sl p_10 t86.1.Dirs.length)) m5 [0, 1, 2, 3] (by exact ⟨(by subst hn5; exact H139), (pf_8.mono hle_10)⟩)
     ·refine Xx ?_
      refine c_poolLe 0 rfl (fun hle_ => ?_)
      exact cl (m_5, m_6) (hp_11, gv_2) 0 [0, 1, 2, 3] (by exact ⟨H142, gf_3⟩)
    ·rintro ⟨m, m_2⟩ ⟨hp, gv⟩ gg H80 gf
     try dsimp only at H80
     try dsimp only
     refine Jc<|Ja<|mv (str a0)<|Qx (i := 1) (vs := [.bool m, gv]) isAgg24 sizeOf24 rfl rfl rfl rfl rfl<|?_
     obtain ⟨t95, h_t95, H81⟩ := Je H80; clear H80
     refine Qo (fun w hF hS => k8 (Jn w) (gf.mono (Zj (i := 0) hS rfl (hw.now hF))) h_t95) call8 rfl rfl rfl<|mv (.tuple #[str t95.1, i6 t95.2])<|lv (Jv (v := str t95.1) rfl rfl)<|lv (Jv (v := i6 t95.2) rfl rfl)<|ag (str t95.1)<|ag (i6 t95.2)<|Jd<|Jc<|Jc<|Ja<|mv (i6 t95.2)<|lv (Yo rfl rfl)<|Jd<|?_
     revert H81
     refine ci (decide (t95.2 ≠ 0)) rfl (fun hb H82=>?_) fun hb H83=>?_
     ·refine Jc<|Ja<|ag (.bool true)<|Jd<|Jh<|?_
      obtain rfl := sj H82
      exact r1 (.bool true)
     ·refine Ji<|Jc<|Ja<|mv (str t95.1)<|?_
      obtain ⟨t102, h_t102, H84⟩ := Je H83; clear H83
      refine Yw (Qm (rds := []) (G := fun x : (Option Addr × Nat) => .tuple #[.agg #[.bool t102.1.Big, sl x t102.1.Dirs.length], i6 t102.2]) (C := fun x : (Option Addr × Nat) => rowD 36 1 gs_tag_Entry (sl x t102.1.Dirs.length) t102.1.Dirs.length t102.1.Dirs) (fun w L' hF hS hi => k9 (Jn w)  h_t102) call9 rfl) rfl rfl rfl (fun p => ?_)
      refine c_rowD 4 rfl (fun hp_2 css hn pf => ?_)
      rw [hn]
      refine Xv 4 rfl ?_
      refine Y0 0 4 rfl rfl (by decide) (fun w hF => hw.now hF) (fun hp_3 hle hle_2 => ?_)
      refine mv (.tuple #[.agg #[.bool t102.1.Big, sl p css.length], i6 t102.2])<|lv (Jv (v := .agg #[.bool t102.1.Big, sl p css.length]) rfl rfl)<|lv (Jv (v := i6 t102.2) rfl rfl)<|?_
      refine Xf (cs := [.bool false, .slice none 0 0]) zeroValue24 rfl rfl rfl (fun b14 => ?_)
      refine st (i := 6) [.bool t102.1.Big, sl p css.length] [.bool t102.1.Big, sl p css.length] sizeOf24 rfl rfl<|ag (i6 t102.2)<|Jd<|?_
      try dsimp only [z1, z2, z5, z6, z7, z8]
      refine Jc<|Jc<|Ja<|mv (i6 t102.2)<|lv (Yo rfl rfl)<|Jd<|?_
      try dsimp only [z1, z2, z5, z6, z7, z8]
      revert H84
      refine ci (decide (t102.2 ≠ 0)) rfl (fun hb H85=>?_) fun hb H86=>?_
      ·refine Jc<|Ja<|ag (.bool false)<|Jd<|?_
       try dsimp only [z1, z2, z5, z6, z7, z8]
       refine Jh ?_
       obtain rfl := sj H85
       exact r1 (.bool false)
      ·refine Ji ?_
       refine Q3 (r := r) (σ := (List Int)) (τ := Jo) (fun s => Jao a2 a3 s) (fun s t => [(3, i6 a3), (6, .pointer (some ⟨b12, 0, none⟩)), (9, .slice ((some ⟨b13, 0, none⟩, 2) : Option Addr × Nat).1 2 ((some ⟨b13, 0, none⟩, 2) : Option Addr × Nat).2)]) (fun s t => [Xm h t, Jg b12 [i6 a2.Lat, i6 a2.Lon] 26, Js 3 1 (.slice ((some ⟨b13, 0, none⟩, 2) : Option Addr × Nat).1 2 ((some ⟨b13, 0, none⟩, 2) : Option Addr × Nat).2) 2 (s.map Qc)]) (fun s t => 2 = s.length) ?_ ?_
       ·refine Jc<|Ja<|mv (.slice (some ⟨b13, 0, none⟩) 2 2)<|lv (Uf underlying30 rfl)<|mv (i6 0)<|Jd<|?_
        try dsimp only [z1, z2, z5, z6, z7, z8]
        refine Jx ?_
        refine c_dr 4 <| c_dr 1 ?_
        try dsimp only [z1, z2, z3, z4, z5, z6, z7, z8]
        refine Qn 2 rfl (imp_box (m := 2) (E := 3) (sz := 1) (xs := (([a2.Lat, a2.Lon] : List Int)).map Qc) rfl rfl rfl ⟨rfl, by decide⟩) ?_
        refine Zn (σ := Int × (List Int)) (τ := Jo) (fun next3 s => Y1 a2 a3 t102 next3 s.1 s.2) (fun s t => [(3, i6 a3), (6, .pointer (some ⟨b12, 0, none⟩)), (9, .slice ((some ⟨b13, 0, none⟩, 2) : Option Addr × Nat).1 2 ((some ⟨b13, 0, none⟩, 2) : Option Addr × Nat).2), (17, .pointer (some ⟨b14, 0, none⟩)), (108, i6 2), (109, i6 s.1)]) (fun s t => [Xm h t, Jg b12 [i6 a2.Lat, i6 a2.Lon] 26, Js 3 1 (.slice ((some ⟨b13, 0, none⟩, 2) : Option Addr × Nat).1 2 ((some ⟨b13, 0, none⟩, 2) : Option Addr × Nat).2) 2 (s.2.map Qc), Js 36 1 (sl p css.length) css.length (css.map idC), Jg b14 [.bool t102.1.Big, sl p css.length] 24]) (fun s t => 2 = s.2.length ∧ AllC gs_tag_Entry t 1 css t102.1.Dirs) (0, ([a2.Lat, a2.Lon] : List Int)) hp_3 [0, 1, 2, 3, 4] H86 (by exact ⟨rfl, (pf.mono hle_2)⟩) (by exact ⟨rfl, rfl, rfl, rfl, rfl, rfl, trivial⟩) (by decide) rfl ?_
        rintro ⟨x109_2, l_3⟩ hp_5 m3 gg H96 ⟨hl_3, pf_3⟩
        clear H86
        try dsimp only at H96
        generalize hn3 : it (fun next3 s => Y1 a2 a3 t102 next3 s.1 s.2) m3 = next3 at H96
        try dsimp only
        refine Jc<|Ja<|lv (Yc rfl rfl)<|Jd<|?_
        try dsimp only [z1, z2, z5, z6, z7, z8]
        refine Jc ?_
        revert H96
        refine ci (decide (x109_2 < 2)) rfl (fun hb H97=>?_) fun hb H120=>?_
        ·refine Ji ?_
         refine Q3 (r := r) (σ := Int × Bool × (List Int)) (τ := Jo) (fun s => Vu x109_2 next3 s.1 s.2.1 s.2.2) (fun s t => [(3, i6 a3), (6, .pointer (some ⟨b12, 0, none⟩)), (9, .slice ((some ⟨b13, 0, none⟩, 2) : Option Addr × Nat).1 2 ((some ⟨b13, 0, none⟩, 2) : Option Addr × Nat).2), (17, .pointer (some ⟨b14, 0, none⟩)), (108, i6 2), (109, i6 x109_2), (133, i6 s.1), (134, .bool s.2.1)]) (fun s t => [Xm h t, Jg b12 [i6 a2.Lat, i6 a2.Lon] 26, Js 3 1 (.slice ((some ⟨b13, 0, none⟩, 2) : Option Addr × Nat).1 2 ((some ⟨b13, 0, none⟩, 2) : Option Addr × Nat).2) 2 (s.2.2.map Qc), Js 36 1 (sl p css.length) css.length (css.map idC), Jg b14 [.bool t102.1.Big, sl p css.length] 24]) (fun s t => 2 = s.2.2.length ∧ AllC gs_tag_Entry t 1 css t102.1.Dirs) ?_ ?_
         ·refine Jx<|Jc<|Ja<|mv (i6 x109_2)<|ag (i6 x109_2)<|Jd<|?_
          try dsimp only [z1, z2, z5, z6, z7, z8]
          refine Jc<|Ja<|Qx (i := 4) (vs := [.bool t102.1.Big, sl p css.length]) isAgg24 sizeOf24 rfl rfl rfl rfl rfl<|mv (i6 x109_2)<|?_
          obtain ⟨t115, h_t115, H100⟩ := Je H97; clear H97
          refine lv (V5 rfl rfl h_t115) ?_
          obtain ⟨t116, h_t116, H101⟩ := Je H100; clear H100
          refine lv (J1 rfl rfl h_t116) ?_
          refine J9 (vs := [i6 0, i6 t116]) (cs := [i6 0, i6 t116]) underlying30 sizeOf3 zeroValue3 rfl rfl rfl rfl rfl rfl rfl (fun b16 => ?_)
          obtain ⟨t118, h_t118, H102⟩ := Je H101; clear H101
          refine Yw (Qm (rds := [0, 3, 5]) (G := fun x : (Option Addr × Nat) × (Option Addr × Nat) × (Option Addr × Nat) => .tuple #[.agg #[i6 t118.1.Kind, str t118.1.Text, .slice x.1.1 t118.1.Ints.length x.1.2, .slice x.2.1.1 t118.1.Ratios.length x.2.1.2, .slice x.2.2.1 t118.1.Entries.length x.2.2.2], i6 t118.2]) (C := fun x : (Option Addr × Nat) × (Option Addr × Nat) × (Option Addr × Nat) => W8 X1 (fun hp_ => FrS hp_ 1 (.slice x.1.1 t118.1.Ints.length x.1.2) (t118.1.Ints.map Qc) ∧ FrS hp_ 2 (.slice x.2.1.1 t118.1.Ratios.length x.2.1.2) (t118.1.Ratios.map Jl) ∧ FrN hp_ 6 (.slice x.2.2.1 t118.1.Entries.length x.2.2.2) g_tag_Entry t118.1.Entries)) (fun w L' hF hS hi => k10 (Jn w) (Ux (xs := t102.1.Dirs) (Zm (i := 3) rfl hS ((hi 3 (by simp)).trans rfl)) (pf_3.mono (Zj (i := 0) hS ((hi 0 (by simp)).trans rfl) (hw.now hF)))) (frs_box (i := 5) (xs := ([0, t116] : List Int)) (f := Qc) hS ((hi 5 (by simp)).trans rfl) rfl rfl rfl rfl) h_t118) call10 rfl) rfl rfl rfl (fun ⟨p_2, p_3, p_4⟩ => ?_)
          refine c_pooled 6 rfl (fun hp_7 pf_5 => ?_)
          refine Y0 0 6 rfl rfl (by decide) (fun w hF => hw.now hF) (fun hp_8 hle_3 hle_4 => ?_)
          refine mv (.tuple #[.agg #[i6 t118.1.Kind, str t118.1.Text, (sl p_2 t118.1.Ints.length), (sl p_3 t118.1.Ratios.length), (sl p_4 t118.1.Entries.length)], i6 t118.2])<|lv (Jv (v := .agg #[i6 t118.1.Kind, str t118.1.Text, (sl p_2 t118.1.Ints.length), (sl p_3 t118.1.Ratios.length), (sl p_4 t118.1.Entries.length)]) rfl rfl)<|lv (Jv (v := i6 t118.2) rfl rfl)<|?_
          refine Xf (cs := [i6 0, str [], .slice none 0 0, .slice none 0 0, .slice none 0 0]) zeroValue38 rfl rfl rfl (fun b17 => ?_)
          refine Ya (i := 7) (vs := [i6 t118.1.Kind, str t118.1.Text, (sl p_2 t118.1.Ints.length), (sl p_3 t118.1.Ratios.length), (sl p_4 t118.1.Entries.length)]) (cs' := [i6 t118.1.Kind, str t118.1.Text, (sl p_2 t118.1.Ints.length), (sl p_3 t118.1.Ratios.length), (sl p_4 t118.1.Entries.length)]) sizeOf38 rfl rfl rfl rfl rfl rfl (by simp only [List.all_cons, List.all_nil, (pf_5.1.mono hle_4).one, (pf_5.2.1.mono hle_4).one, (pf_5.2.2.mono hle_4).one] <;> rfl) rfl rfl<|ag (i6 t118.2)<|Jd<|?_
          try dsimp only [z1, z2, z5, z6, z7, z8]
          refine Jc<|Ja<|Qx (i := 4) (vs := [.bool t102.1.Big, sl p css.length]) isAgg24 sizeOf24 rfl rfl rfl rfl rfl<|mv (i6 x109_2)<|?_
          obtain ⟨t124, h_t124, H103⟩ := Je H102; clear H102
          refine lv (V5 rfl rfl h_t124) ?_
          obtain ⟨t125, h_t125, H104⟩ := Je H103; clear H103
          refine lv (J1 rfl rfl h_t125) ?_
          refine J9 (vs := [i6 0, i6 t125]) (cs := [i6 0, i6 t125]) underlying30 sizeOf3 zeroValue3 rfl rfl rfl rfl rfl rfl rfl (fun b18 => ?_)
          obtain ⟨t127, h_t127, H105⟩ := Je H104; clear H104
          refine Yw (Qm (rds := [0, 3, 8]) (G := fun x : (Option Addr × Nat) × (Option Addr × Nat) × (Option Addr × Nat) => .tuple #[.agg #[i6 t127.1.Kind, str t127.1.Text, .slice x.1.1 t127.1.Ints.length x.1.2, .slice x.2.1.1 t127.1.Ratios.length x.2.1.2, .slice x.2.2.1 t127.1.Entries.length x.2.2.2], i6 t127.2]) (C := fun x : (Option Addr × Nat) × (Option Addr × Nat) × (Option Addr × Nat) => W8 X1 (fun hp_ => FrS hp_ 1 (.slice x.1.1 t127.1.Ints.length x.1.2) (t127.1.Ints.map Qc) ∧ FrS hp_ 2 (.slice x.2.1.1 t127.1.Ratios.length x.2.1.2) (t127.1.Ratios.map Jl) ∧ FrN hp_ 6 (.slice x.2.2.1 t127.1.Entries.length x.2.2.2) g_tag_Entry t127.1.Entries)) (fun w L' hF hS hi => k10 (Jn w) (Ux (xs := t102.1.Dirs) (Zm (i := 3) rfl hS ((hi 3 (by simp)).trans rfl)) ((pf_3.mono hle_3).mono (Zj (i := 0) hS ((hi 0 (by simp)).trans rfl) (hw.now hF)))) (frs_box (i := 8) (xs := ([0, t125] : List Int)) (f := Qc) hS ((hi 8 (by simp)).trans rfl) rfl rfl rfl rfl) h_t127) call10 rfl) rfl rfl rfl (fun ⟨p_5, p_6, p_7⟩ => ?_)
          refine c_pooled 9 rfl (fun hp_9 pf_6 => ?_)
          refine Y0 0 9 rfl rfl (by decide) (fun w hF => hw.now hF) (fun hp_10 hle_5 hle_6 => ?_)
          refine mv (.tuple #[.agg #[i6 t127.1.Kind, str t127.1.Text, (sl p_5 t127.1.Ints.length), (sl p_6 t127.1.Ratios.length), (sl p_7 t127.1.Entries.length)], i6 t127.2])<|lv (Jv (v := .agg #[i6 t127.1.Kind, str t127.1.Text, (sl p_5 t127.1.Ints.length), (sl p_6 t127.1.Ratios.length), (sl p_7 t127.1.Entries.length)]) rfl rfl)<|lv (Jv (v := i6 t127.2) rfl rfl)<|?_
          refine Xf (cs := [i6 0, str [], .slice none 0 0, .slice none 0 0, .slice none 0 0]) zeroValue38 rfl rfl rfl (fun b19 => ?_)
          refine Ya (i := 10) (vs := [i6 t127.1.Kind, str t127.1.Text, (sl p_5 t127.1.Ints.length), (sl p_6 t127.1.Ratios.length), (sl p_7 t127.1.Entries.length)]) (cs' := [i6 t127.1.Kind, str t127.1.Text, (sl p_5 t127.1.Ints.length), (sl p_6 t127.1.Ratios.length), (sl p_7 t127.1.Entries.length)]) sizeOf38 rfl rfl rfl rfl rfl rfl (by simp only [List.all_cons, List.all_nil, (pf_6.1.mono hle_6).one, (pf_6.2.1.mono hle_6).one, (pf_6.2.2.mono hle_6).one] <;> rfl) rfl rfl<|ag (i6 t127.2)<|Jd<|?_
          try dsimp only [z1, z2, z5, z6, z7, z8]
          refine Jc<|Jc<|Ja<|mv (i6 t118.2)<|lv (Yo rfl rfl)<|mv (.bool (decide (t118.2 ≠ 0)))<|?_
          revert H105
          refine sp (fun hb H106=>?_) fun hb H107=>?_
          ·refine pa<|pa<|pT (.bool true)<|Jd<|?_
           try dsimp only [z1, z2, z5, z6, z7, z8]
           refine Ws rfl<|Jc<|Ja<|ag (.bool false)<|Jd<|?_
           try dsimp only [z1, z2, z5, z6, z7, z8]
           refine Jh ?_
           obtain rfl := sj H106
           exact r1 (.bool false)
          ·refine mv (i6 t127.2)<|lv (Yo rfl rfl)<|pF (.bool (decide (t127.2 ≠ 0)))<|Jd<|?_
           try dsimp only [z1, z2, z5, z6, z7, z8]
           revert H107
           refine ci (decide (t127.2 ≠ 0)) rfl (fun hb H108=>?_) fun hb H109=>?_
           ·refine Jc<|Ja<|ag (.bool false)<|Jd<|?_
            try dsimp only [z1, z2, z5, z6, z7, z8]
            refine Jh ?_
            obtain rfl := sj H108
            exact r1 (.bool false)
           ·refine Ji<|Jc<|Ja<|lf runUnderlying38 rfl sizeOf31 rfl<|ll 7 (sl p_3 t118.1.Ratios.length) isAgg31<|?_
            obtain ⟨t139, h_t139, H110⟩ := Je H109; clear H109
            refine Qo (fun w hF hS => k11 (Jn w) (((pf_5.2.1.mono hle_4).mono hle_5).mono (Zj (i := 0) hS rfl (hw.now hF))) h_t139) call11 rfl rfl rfl<|mv (.tuple #[i6 t139.1, i6 t139.2])<|lv (Jv (v := i6 t139.1) rfl rfl)<|lv (Jv (v := i6 t139.2) rfl rfl)<|ag (i6 t139.1)<|ag (i6 t139.2)<|Jd<|?_
            try dsimp only [z1, z2, z5, z6, z7, z8]
            refine Jc<|Jc<|Ja<|mv (i6 t139.2)<|lv (Yo rfl rfl)<|Jd<|?_
            try dsimp only [z1, z2, z5, z6, z7, z8]
            revert H110
            refine ci (decide (t139.2 ≠ 0)) rfl (fun hb H111=>?_) fun hb H112=>?_
            ·refine Jc<|Ja<|ag (.bool false)<|Jd<|?_
             try dsimp only [z1, z2, z5, z6, z7, z8]
             refine Jh ?_
             obtain rfl := sj H111
             exact r1 (.bool false)
            ·refine Ji<|Jc<|Ja<|mv (.slice ((some ⟨b13, 0, none⟩, 2) : Option Addr × Nat).1 2 ((some ⟨b13, 0, none⟩, 2) : Option Addr × Nat).2)<|mv (i6 x109_2)<|mv (i6 t139.1)<|?_
             obtain ⟨t147, h_t147, H113⟩ := Je H112; clear H112
             refine Qs (fun w hF hS => Zt underlying30 sizeOf3 rfl rfl (V3 (i := 2) hS rfl) hl_3 h_t147) rfl rfl rfl ?_
             obtain ⟨l2, h_l2, H114⟩ := Je H113; clear H113
             refine l_storeG (q := 2) (j := 0) (i := x109_2) (sz := 1) (hm := hl_3) (f := Qc) (vs := [i6 t139.1]) sizeOf3 rfl rfl rfl rfl rfl rfl rfl rfl rfl (fun y_ hy_ => by first | rfl | (cases hy_.symm.trans h_t147; rfl)) h_l2<|Jd<|?_
             try dsimp only [z1, z2, z5, z6, z7, z8]
             refine Jc<|Ja<|lf runUnderlying38 rfl sizeOf9 rfl<|ll 10 (str t127.1.Text) isAgg9<|lv (r_eqlT rfl rfl)<|Jd<|?_
             try dsimp only [z1, z2, z5, z6, z7, z8]
             revert H114
             refine ci (decide (t127.1.Text = [45])) rfl (fun hb H115=>?_) fun hb H119=>?_
             ·refine Ja<|mv (.slice ((some ⟨b13, 0, none⟩, 2) : Option Addr × Nat).1 2 ((some ⟨b13, 0, none⟩, 2) : Option Addr × Nat).2)<|mv (i6 x109_2)<|mv (i6 t139.1)<|?_
              obtain ⟨t154, h_t154, H116⟩ := Je H115; clear H115
              refine lv (r_negG rfl h_t154) ?_
              obtain ⟨t155, h_t155, H117⟩ := Je H116; clear H116
              refine Qs (fun w hF hS => Zt underlying30 sizeOf3 rfl rfl (V3 (i := 2) hS rfl) (gSet_n hl_3 h_l2) h_t155) rfl rfl rfl ?_
              obtain ⟨l2_2, h_l2_2, H118⟩ := Je H117; clear H117
              refine l_storeG (q := 2) (j := 0) (i := x109_2) (sz := 1) (hm := (gSet_n hl_3 h_l2)) (f := Qc) (vs := [i6 t154]) sizeOf3 rfl rfl rfl rfl rfl rfl rfl rfl rfl (fun y_ hy_ => by first | rfl | (cases hy_.symm.trans h_t155; rfl)) h_l2_2<|Jd<|?_
              try dsimp only [z1, z2, z5, z6, z7, z8]
              exact cl (t127.2, (decide (t127.2 ≠ 0)), l2_2) hp_10 0 [0, 1, 2, 3, 4] (by exact ⟨H118, ⟨(gSet_n (gSet_n hl_3 h_l2) h_l2_2), ((pf_3.mono hle_3).mono hle_5)⟩⟩)
             ·refine Ji ?_
              exact cl (t127.2, (decide (t127.2 ≠ 0)), l2) hp_10 0 [0, 1, 2, 3, 4] (by exact ⟨H119, ⟨(gSet_n hl_3 h_l2), ((pf_3.mono hle_3).mono hle_5)⟩⟩)
         ·rintro ⟨x133, x134, l_5⟩ hp_6 gg H98 ⟨hl_4, pf_4⟩
          try dsimp only at H98
          try dsimp only
          refine Ja ?_
          obtain ⟨t156, h_t156, H99⟩ := Je H98; clear H98
          refine lv (J1 rfl rfl h_t156)<|mv (i6 t156)<|Jd<|?_
          try dsimp only [z1, z2, z5, z6, z7, z8]
          exact cl (t156, l_5) hp_6 m3 [0, 1, 2, 3, 4] (by exact ⟨(by subst hn3; exact H99), ⟨hl_4, pf_4⟩⟩)
        ·refine Xx ?_
         exact cl l_3 hp_5 0 [0, 1, 2] (by exact ⟨H120, hl_3⟩)
       ·rintro l hp_4 gg H87 hl
        try dsimp only at H87
        try dsimp only
        refine Jc ?_
        exact Qi (Kd.p :: Kd.d [2] _ :: Kd.d [2] _ :: Kd.p :: Kd.d [2] _ :: Kd.d [2] _ :: Kd.p :: Kd.nw 3 [_, _] 26 :: Kd.st 25 3 [_, _] 26 :: []) 1 mixed (by
         refine dm (.slice ((some ⟨b13, 0, none⟩, 2) : Option Addr × Nat).1 2 ((some ⟨b13, 0, none⟩, 2) : Option Addr × Nat).2) ?_
         have h_t158 := J0 H87
         have H88 := Ju H87
         refine Zl (fun w L' hF hS hi => Zt underlying30 sizeOf3 rfl rfl (V3 (i := 2) (E := 3) (sz := 1) (n := 2) (a := ((some ⟨b13, 0, none⟩, 2) : Option Addr × Nat).1) (c := ((some ⟨b13, 0, none⟩, 2) : Option Addr × Nat).2) hS ((hi 2 (by simp)).trans rfl)) hl h_t158) rfl rfl<|Zl (fun w L' hF hS hi => Q9 (f := Qc) (i := 0) (sz := 1) (j := 0) (v := i6 (val (Yp l 0))) isAgg3 rfl rfl (V3 (i := 2) (E := 3) (sz := 1) (n := 2) (a := ((some ⟨b13, 0, none⟩, 2) : Option Addr × Nat).1) (c := ((some ⟨b13, 0, none⟩, 2) : Option Addr × Nat).2) hS ((hi 2 (by simp)).trans rfl)) h_t158 rfl) rfl rfl<|dm (.slice ((some ⟨b13, 0, none⟩, 2) : Option Addr × Nat).1 2 ((some ⟨b13, 0, none⟩, 2) : Option Addr × Nat).2)<|?_
         have h_t161 := J0 H88
         have H89 := Ju H88
         refine Zl (fun w L' hF hS hi => Zt underlying30 sizeOf3 rfl rfl (V3 (i := 2) (E := 3) (sz := 1) (n := 2) (a := ((some ⟨b13, 0, none⟩, 2) : Option Addr × Nat).1) (c := ((some ⟨b13, 0, none⟩, 2) : Option Addr × Nat).2) hS ((hi 2 (by simp)).trans rfl)) hl h_t161) rfl rfl<|Zl (fun w L' hF hS hi => Q9 (f := Qc) (i := 1) (sz := 1) (j := 0) (v := i6 (val (Yp l 1))) isAgg3 rfl rfl (V3 (i := 2) (E := 3) (sz := 1) (n := 2) (a := ((some ⟨b13, 0, none⟩, 2) : Option Addr × Nat).1) (c := ((some ⟨b13, 0, none⟩, 2) : Option Addr × Nat).2) hS ((hi 2 (by simp)).trans rfl)) h_t161 rfl) rfl rfl<|dv (Q6 (pl := #[(0, 1), (1, 1)]) (ps := [(0, i6 (val (Yp l 0))), (1, i6 (val (Yp l 1)))]) (cells := #[i6 (val (Yp l 0)), i6 (val (Yp l 1))]) zeroValue26 runUnderlying26 (fun w => by kernel_rfl) rfl rfl)<|?_
         refine d_new rfl rfl (run_alloc (cs := [i6 0, i6 0]) zeroValue26 rfl) rfl (fun b15 => ?_)
         refine d_store (i := 3) (vs := [i6 (val (Yp l 0)), i6 (val (Yp l 1))]) (cs' := [i6 (val (Yp l 0)), i6 (val (Yp l 1))]) sizeOf26 rfl rfl rfl rfl rfl rfl rfl rfl rfl<|Y8<|Jc<|Ja<|Qx (i := 1) (vs := [i6 a2.Lat, i6 a2.Lon]) isAgg26 sizeOf26 rfl rfl rfl rfl rfl<|mv (i6 a3)<|?_
         obtain ⟨t167, h_t167, H90⟩ := Je H89; clear H89
         refine Xy (k12 h_t167) call12 rfl rfl rfl<|mv (.tuple #[str t167.1, i6 t167.2])<|lv (Jv (v := str t167.1) rfl rfl)<|lv (Jv (v := i6 t167.2) rfl rfl)<|ag (str t167.1)<|ag (i6 t167.2)<|Jd<|Jc<|Ja<|Qx (i := 3) (vs := [i6 (val (Yp l 0)), i6 (val (Yp l 1))]) isAgg26 sizeOf26 rfl rfl rfl rfl rfl<|mv (i6 a3)<|?_
         obtain ⟨t173, h_t173, H91⟩ := Je H90; clear H90
         refine Xy (k12 h_t173) call12 rfl rfl rfl<|mv (.tuple #[str t173.1, i6 t173.2])<|lv (Jv (v := str t173.1) rfl rfl)<|lv (Jv (v := i6 t173.2) rfl rfl)<|ag (str t173.1)<|ag (i6 t173.2)<|Jd<|Jc<|Ja<|Qx (i := 3) (vs := [i6 (val (Yp l 0)), i6 (val (Yp l 1))]) isAgg26 sizeOf26 rfl rfl rfl rfl rfl<|Qx (i := 1) (vs := [i6 a2.Lat, i6 a2.Lon]) isAgg26 sizeOf26 rfl rfl rfl rfl rfl<|lv (r_eqlA (xs := #[i6 (val (Yp l 0)), i6 (val (Yp l 1))]) (ys := #[i6 a2.Lat, i6 a2.Lon]) eqGuardType26 (fun w => run_eq_api_Place w (⟨(val (Yp l 0)), (val (Yp l 1))⟩ : T_api_Place) a2) rfl rfl)<|mv (.bool (Jat (⟨(val (Yp l 0)), (val (Yp l 1))⟩ : T_api_Place) a2))<|?_
         revert H91
         refine sp (fun hb H92=>?_) fun hb H95=>?_
         ·refine mv (i6 t167.2)<|mv (i6 t173.2)<|lv (Xg rfl rfl)<|pT (.bool (decide (t167.2 = t173.2)))<|mv (.bool (decide (t167.2 = t173.2)))<|?_
          revert H92
          refine sp (fun hb H93=>?_) fun hb H94=>?_
          ·refine mv (str t167.1)<|mv (str t173.1)<|lv (r_eqlT rfl rfl)<|pT (.bool (decide (t167.1 = t173.1)))<|ag (.bool (decide (t167.1 = t173.1)))<|Jd<|Jh<|?_
           obtain rfl := sj H93
           exact r1 (.bool (decide (t167.1 = t173.1)))
          ·refine pa<|pa<|pa<|pF (.bool false)<|ag (.bool false)<|Jd<|Jh<|?_
           obtain rfl := sj H94
           exact r1 (.bool false)
         ·refine pa<|pa<|pa<|pF (.bool false)<|mv (.bool false)<|pa<|pa<|pa<|pF (.bool false)<|ag (.bool false)<|Jd<|Jh<|?_
          obtain rfl := sj H95
          exact r1 (.bool false)
         ) (by kernel_rfl)
end Go.Proofs.YtdcppgplkfkjiaaGreatDoor

/- Plain lemmas about models: loops that count, scans for a first error. Conditions: none. -/
namespace Go.Pl
open Go.Md
theorem up {ρ : Type} {F : (Int → Option ρ) → Int → Option ρ} (n : Nat) (spec : Nat → Option ρ)
  (step : ∀ (next : Int → Option ρ) (k : Nat), k ≤ n → (k < n → next ((k : Int) + 1) = spec (k + 1)) → F next (k : Int) = spec k) : V8 F 0 = spec 0 := by
 have h := fix_of (F := F) (fun i => spec i.toNat) (fun i => 0 ≤ i ∧ i ≤ n) (fun i => n - i.toNat) (by
  intro next a ⟨h0, h1⟩ ih
  obtain ⟨k, rfl⟩ := Int.eq_ofNat_of_zero_le h0
  simp only [Int.toNat_natCast]
  refine step next k (by omega) fun hk => ?_
  have := ih ((k : Int) + 1) (by omega) (by simp only [Int.toNat_natCast]; omega)
  rw [this, show ((k : Int) + 1).toNat = k + 1 from by omega]) 0 (by omega)
 simpa using h
theorem up2 {ρ σ : Type} {F : (Int × σ → Option ρ) → Int × σ → Option ρ} (n : Nat) (spec : Nat → σ → Option ρ) (I : Nat → σ → Prop)
  (step : ∀ (next : Int × σ → Option ρ) (k : Nat) (s : σ), k ≤ n → I k s → (∀ s', k < n → I (k + 1) s' → next ((k : Int) + 1, s') = spec (k + 1) s') → F next ((k : Int), s) = spec k s) (s : σ) (hs : I 0 s) : V8 F (0, s) = spec 0 s := by
 have h := fix_of (F := F) (fun i => spec i.1.toNat i.2) (fun i => 0 ≤ i.1 ∧ i.1 ≤ n ∧ I i.1.toNat i.2) (fun i => n - i.1.toNat) (by
  rintro next ⟨a, s⟩ ⟨h0, h1, h2⟩ ih
  simp only at h0 h1 h2
  obtain ⟨k, rfl⟩ := Int.eq_ofNat_of_zero_le h0
  simp only [Int.toNat_natCast] at h2 ⊢
  refine step next k s (by omega) h2 fun s' hk hI => ?_
  have := ih ((k : Int) + 1, s') ⟨by simp only; omega, by simp only; omega, by simp only; rw [show ((k : Int) + 1).toNat = k + 1 from by omega]; exact hI⟩ (by simp only [Int.toNat_natCast]; omega)
  rw [this, show ((k : Int) + 1).toNat = k + 1 from by omega]) (0, s) ⟨by simp, by simp, hs⟩
 simpa using h
end Go.Pl

/- More plain lemmas about models: loops that run or go on, two loops that do the same, loops that collect. Conditions: none. -/
namespace Go.Pl
open Go.Md
theorem W3 {α β : Type} {m : Option α} {k k' : α → Option β} (h : ∀ a, m = some a → k a = k' a) : Jr m k = Jr m k' := by
 cases m with
 | none => rfl
 | some a => exact h a rfl
theorem cnd_congr {α : Type} {b : Bool} {x y x' y' : Option α} (h1 : b = true → x = x') (h2 : b = false → y = y') : Ql b x y = Ql b x' y' := by
 cases b
 ·exact h2 rfl
 ·exact h1 rfl
theorem fix_list {α ρ σ : Type} {F : (Int × σ → Option ρ) → Int × σ → Option ρ} (xs : List α) (f : σ → α → σ) (J : σ → Option ρ) (I : Nat → σ → Prop)
  (more : ∀ (next : Int × σ → Option ρ) (k : Nat) (s : σ) (hk : k < xs.length), I k s → F next ((k : Int), s) = next ((k : Int) + 1, f s xs[k]) ∧ I (k + 1) (f s xs[k]))
  (stop : ∀ (next : Int × σ → Option ρ) (s : σ), I xs.length s → F next ((xs.length : Int), s) = J s) (s : σ) (hs : I 0 s) : V8 F (0, s) = J (xs.foldl f s) := by
 have key : ∀ n k s, k ≤ xs.length → xs.length - k < n → I k s → V8 F ((k : Int), s) = J ((xs.drop k).foldl f s) := by
  intro n
  induction n with
  | zero => intro k s _ h; omega
  | succ n ih =>
   intro k s hk h hI
   rcases Nat.lt_or_ge k xs.length with h1 | h1
   ·rw [Q0 ((k : Int) + 1, f s xs[k]) (fun next => (more next k s h1 hI).1), List.drop_eq_getElem_cons h1, List.foldl_cons]
    exact ih (k + 1) _ (by omega) (by omega) (more (fun _ => none) k s h1 hI).2
   ·have : k = xs.length := by omega
    subst this
    rw [List.drop_length]
    exact Qb fun next => stop next s hI
 have := key (xs.length + 1) 0 s (Nat.zero_le _) (by omega) hs
 simpa using this
theorem foldl_app {α β : Type} (f : α → β) : ∀ (xs : List α) (s : List β), xs.foldl (fun s x => s ++ [f x]) s = s ++ xs.map f
 | [], s => by simp
 | x :: xs, s => by rw [List.foldl_cons, foldl_app f xs]; simp
end Go.Pl
