/- TagMetadata, the law: the walks, printed by our generator; each follows its model. Conditions: the model yields a value. -/
import Derived.Test.YtgjpnjncfilgnaaGreatDoorKMb
import Derived.Test.YtgjpnjncfilgnaaGreatDoorMd
namespace Go.Proofs.YtgjpnjncfilgnaaGreatDoor
open Go Go.Vc Go.Md Go.M Go.Lx Tryz
set_option maxRecDepth 100000
set_option maxHeartbeats 4000000
set_option linter.unusedVariables false
theorem k116 {a0 : Int} {r : Bool} (H : Jbq a0 = some r) : Ret prog 116 [i6 a0] (.bool r) := by
 refine Yu (n := 14) func116 rfl rfl rfl (fun wd => ?_)
 refine Jc<|Ja<|ag (.bool false)<|Jd<|Jc<|Ja<|mv (i6 a0)<|?_
 obtain ⟨t4, h_t4, H6⟩ := Je H; clear H
 refine Yy (k42 h_t4) call42 rfl rfl rfl<|lv (Ja4 rfl)<|mv (.bool (!t4))<|?_
 revert H6
 refine sp (fun hb H7=>?_) fun hb H10=>?_
 ·refine mv (i6 a0)<|lv (Yt rfl rfl)<|pT (.bool (decide (a0 ≠ 216)))<|mv (.bool (decide (a0 ≠ 216)))<|?_
  revert H7
  refine sp (fun hb H8=>?_) fun hb H9=>?_
  ·refine mv (i6 a0)<|lv (Yt rfl rfl)<|pT (.bool (decide (a0 ≠ 217)))<|ag (.bool (decide (a0 ≠ 217)))<|Jd<|Jl<|?_
   obtain rfl := sj H8
   exact r1 (.bool (decide (a0 ≠ 217)))
  ·refine pa<|pa<|pF (.bool false)<|ag (.bool false)<|Jd<|Jl<|?_
   obtain rfl := sj H9
   exact r1 (.bool false)
 ·refine pa<|pa<|pF (.bool false)<|mv (.bool false)<|pa<|pa<|pF (.bool false)<|ag (.bool false)<|Jd<|Jl<|?_
  obtain rfl := sj H10
  exact r1 (.bool false)
theorem k117 {a : Option Addr} {n c : Nat} (hc : n ≤ c) : Ret prog 117 [.slice a n c] (.slice (Vr a 0 n 2) n n) := by
  refine Yu (n := 9) func117 rfl rfl rfl (fun wd => ?_)
  refine Jc<|Ja<|ag (.slice none 0 0)<|Jd<|Jc<|Ja<|mv (.slice a n c)<|mv (.slice a n c)<|lv (Jdj underlying88 rfl)<|mv (.slice a n c)<|lv (Jdj underlying88 rfl)<|lv (r_sliceHM (a := a) (m := n) (c := c) (h := (n : Int)) (q := (n : Int)) underlying88 sizeOf92 rfl rfl rfl (Int.natCast_nonneg n) (Int.le_refl _) (Int.ofNat_le.2 hc))<|ag (.slice (Vr a 0 n 2) n n)<|Jd<|Jl<|?_
  exact ret1 (v := .slice (Vr a 0 n 2) n n) rfl rfl (fin rfl)
theorem k50 {a0 : (List UInt8)} {r : (List Tc) × Int} {w : World} {h : J3} (hw : Know h w Zo) (H : Zw a0 = some r) : Does prog 50 (List.toArray [str a0]) w (fun v w' => ∃ x : (Option Addr × Nat), v = (.tuple #[sl x r.1.length, i6 r.2]) ∧ Turn w w' Zo (rofD true 92 2 g_tag_Segment (sl x r.1.length) r.1.length r.1)) := by
 refine enter (n := 98) func50 rfl rfl rfl Zo [] (Sat.nil _ _)<|Yg Qt<|Jc<|Ja<|ag (.slice none 0 0)<|ag (i6 0)<|Jd<|Jc<|Jc<|Ja<|mv (str a0)<|lv (Xn underlying9 rfl)<|lv (Yn rfl rfl)<|Jd<|?_
 revert H
 refine ci (decide (200000 < (a0.length : Int))) rfl (fun hb H105=>?_) fun hb H106=>?_
 ·refine Jc<|Ja<|ag (.slice none 0 0)<|ag (i6 4)<|Jd<|Jl<|Jm 92 2<|?_
  obtain rfl := sj H105
  refine Qp 1 rfl (Vg _ _ _ _ _)<|bo 0 1 rfl rfl<|Qp 0 rfl (Uo (k := true) (p := nn) rfl (fun _ => rfl) (AllC.nil (G := g_tag_Segment) (h := Qt) (sz := 2)))<|?_
  refine Z7 (v1 := sl nn (([] : List (List Value)).length)) (v2 := i6 4) rfl rfl rfl (X7 nn (i := 0) rfl (by first | rfl | rw [(show (([] : List (List Value)).length) = ([] : List Tc).length from (AllC.nil (G := g_tag_Segment) (h := Qt) (sz := 2)).len)]) (by first | exact Imp.refl _ | exact Imp.of (by rw [(show (([] : List (List Value)).length) = ([] : List Tc).length from (AllC.nil (G := g_tag_Segment) (h := Qt) (sz := 2)).len)] <;> rfl)))
 ·refine Jk<|Jc<|Jc<|Ja<|mv (str a0)<|lv (Xn underlying9 rfl)<|lv (Xz rfl rfl)<|mv (.bool (decide ((a0.length : Int) < 2)))<|?_
  revert H106
  refine sp (fun hb H107=>?_) fun hb H108=>?_
  ·refine pa<|pa<|pa<|pT (.bool true)<|Jd<|Vj rfl<|Jc<|Ja<|ag (.slice none 0 0)<|ag (i6 8)<|Jd<|Jl<|Jm 92 2<|?_
   obtain rfl := sj H107
   refine Qp 1 rfl (Vg _ _ _ _ _)<|bo 0 1 rfl rfl<|Qp 0 rfl (Uo (k := true) (p := nn) rfl (fun _ => rfl) (AllC.nil (G := g_tag_Segment) (h := Qt) (sz := 2)))<|?_
   refine Z7 (v1 := sl nn (([] : List (List Value)).length)) (v2 := i6 8) rfl rfl rfl (X7 nn (i := 0) rfl (by first | rfl | rw [(show (([] : List (List Value)).length) = ([] : List Tc).length from (AllC.nil (G := g_tag_Segment) (h := Qt) (sz := 2)).len)]) (by first | exact Imp.refl _ | exact Imp.of (by rw [(show (([] : List (List Value)).length) = ([] : List Tc).length from (AllC.nil (G := g_tag_Segment) (h := Qt) (sz := 2)).len)] <;> rfl)))
  ·refine mv (str a0) ?_
   obtain ⟨t15, h_t15, H109⟩ := Je H108; clear H108
   refine lv (Un underlying9 rfl rfl h_t15)<|lv (Jea rfl rfl)<|pF (.bool (decide (t15 ≠ [255, 216])))<|Jd<|?_
   revert H109
   refine ci (decide (t15 ≠ [255, 216])) rfl (fun hb H110=>?_) fun hb H111=>?_
   ·refine Jc<|Ja<|ag (.slice none 0 0)<|ag (i6 8)<|Jd<|Jl<|Jm 92 2<|?_
    obtain rfl := sj H110
    refine Qp 1 rfl (Vg _ _ _ _ _)<|bo 0 1 rfl rfl<|Qp 0 rfl (Uo (k := true) (p := nn) rfl (fun _ => rfl) (AllC.nil (G := g_tag_Segment) (h := Qt) (sz := 2)))<|?_
    refine Z7 (v1 := sl nn (([] : List (List Value)).length)) (v2 := i6 8) rfl rfl rfl (X7 nn (i := 0) rfl (by first | rfl | rw [(show (([] : List (List Value)).length) = ([] : List Tc).length from (AllC.nil (G := g_tag_Segment) (h := Qt) (sz := 2)).len)]) (by first | exact Imp.refl _ | exact Imp.of (by rw [(show (([] : List (List Value)).length) = ([] : List Tc).length from (AllC.nil (G := g_tag_Segment) (h := Qt) (sz := 2)).len)] <;> rfl)))
   ·refine Jk<|Jc<|Ja<|ag (.slice none 0 0)<|Jd<|?_
    refine Qj (r := r) (σ := (List UInt8) × (List Tc)) (τ := (List (List Value)) × (Option Addr × Nat)) (fun s => Vp s.1 s.2) (fun s t => [(0, str s.1), (4, .slice t.2.1 t.1.length t.2.2)]) (fun s t => [X8 Qt Qt, Jw 92 2 (.slice t.2.1 t.1.length t.2.2) t.1.length (t.1.map idC)]) (fun s t => AllC g_tag_Segment Qt 2 t.1 s.2) ?_ ?_
    ·refine Jc<|Ja<|mv (str a0)<|?_
     obtain ⟨t19, h_t19, H124⟩ := Je H111; clear H111
     refine lv (Uc underlying9 rfl rfl h_t19)<|ag (str t19)<|Jd<|Ju<|Jm 92 2<|?_
     refine Za (σ := (List UInt8) × (List Tc)) (τ := (List (List Value)) × (Option Addr × Nat)) (fun next2 s => J2 next2 s.1 s.2) (fun s t => [(0, str s.1), (4, .slice t.2.1 t.1.length t.2.2)]) (fun s t => [X8 Qt Qt, Jw 92 2 (.slice t.2.1 t.1.length t.2.2) t.1.length (t.1.map idC)]) (fun s t => AllC g_tag_Segment Qt 2 t.1 s.2) (t19, ([] : List Tc)) (([] : List (List Value)), nn) [0, 1] H124 (by exact (AllC.nil (G := g_tag_Segment) (h := Qt) (sz := 2))) (by exact ⟨rfl, rfl, trivial⟩) (by decide) rfl ?_
     rintro ⟨x0_3, l_3⟩ ⟨css_2, p_3⟩ m2 gg H125 pf_4
     clear H124
     try dsimp only at H125
     generalize hn2 : it (fun next2 s => J2 next2 s.1 s.2) m2 = next2 at H125
     try dsimp only
     refine Ju<|Jc<|Jc<|Ja<|mv (str x0_3)<|lv (Xn underlying9 rfl)<|lv (Xz rfl rfl)<|mv (.bool (decide ((x0_3.length : Int) < 2)))<|?_
     revert H125
     refine sp (fun hb H126=>?_) fun hb H127=>?_
     ·refine pa<|pa<|pa<|pT (.bool true)<|mv (.bool true)<|pa<|pa<|pa<|pa<|pa<|pT (.bool true)<|Jd<|Vj rfl<|Jc<|Ja<|ag (.slice none 0 0)<|ag (i6 8)<|Jd<|Jl<|Jm 92 2<|?_
      obtain rfl := sj H126
      refine Qp 2 rfl (Vg _ _ _ _ _)<|bo 0 2 rfl rfl<|Qp 0 rfl (Uo (k := true) (p := nn) rfl (fun _ => rfl) (AllC.nil (G := g_tag_Segment) (h := Qt) (sz := 2)))<|?_
      refine Z7 (v1 := sl nn (([] : List (List Value)).length)) (v2 := i6 8) rfl rfl rfl (X7 nn (i := 0) rfl (by first | rfl | rw [(show (([] : List (List Value)).length) = ([] : List Tc).length from (AllC.nil (G := g_tag_Segment) (h := Qt) (sz := 2)).len)]) (by first | exact Imp.refl _ | exact Imp.of (by rw [(show (([] : List (List Value)).length) = ([] : List Tc).length from (AllC.nil (G := g_tag_Segment) (h := Qt) (sz := 2)).len)] <;> rfl)))
     ·refine mv (str x0_3) ?_
      obtain ⟨t25, h_t25, H128⟩ := Je H127; clear H127
      refine lv (Jaf underlying9 rfl rfl h_t25)<|lv (Yt rfl rfl)<|pF (.bool (decide (t25 ≠ 255)))<|mv (.bool (decide (t25 ≠ 255)))<|?_
      revert H128
      refine sp (fun hb H129=>?_) fun hb H130=>?_
      ·refine pa<|pa<|pa<|pa<|pa<|pT (.bool true)<|Jd<|Vj rfl<|Jc<|Ja<|ag (.slice none 0 0)<|ag (i6 8)<|Jd<|Jl<|Jm 92 2<|?_
       obtain rfl := sj H129
       refine Qp 2 rfl (Vg _ _ _ _ _)<|bo 0 2 rfl rfl<|Qp 0 rfl (Uo (k := true) (p := nn) rfl (fun _ => rfl) (AllC.nil (G := g_tag_Segment) (h := Qt) (sz := 2)))<|?_
       refine Z7 (v1 := sl nn (([] : List (List Value)).length)) (v2 := i6 8) rfl rfl rfl (X7 nn (i := 0) rfl (by first | rfl | rw [(show (([] : List (List Value)).length) = ([] : List Tc).length from (AllC.nil (G := g_tag_Segment) (h := Qt) (sz := 2)).len)]) (by first | exact Imp.refl _ | exact Imp.of (by rw [(show (([] : List (List Value)).length) = ([] : List Tc).length from (AllC.nil (G := g_tag_Segment) (h := Qt) (sz := 2)).len)] <;> rfl)))
      ·refine mv (str x0_3) ?_
       obtain ⟨t30, h_t30, H131⟩ := Je H130; clear H130
       refine lv (Jaf underlying9 rfl rfl h_t30) ?_
       obtain ⟨t31, h_t31, H132⟩ := Je H131; clear H131
       refine lv (Ui runUnderlying5 runUnderlying3 rfl (Jd7 h_t31)) ?_
       obtain ⟨t32, h_t32, H133⟩ := Je H132; clear H132
       refine Yy (k116 h_t32) call116 rfl rfl rfl<|lv (Ja4 rfl)<|pF (.bool (!t32))<|Jd<|?_
       revert H133
       refine ci (!t32) rfl (fun hb H134=>?_) fun hb H135=>?_
       ·refine Jc<|Ja<|ag (.slice none 0 0)<|ag (i6 8)<|Jd<|Jl<|Jm 92 2<|?_
        obtain rfl := sj H134
        refine Qp 2 rfl (Vg _ _ _ _ _)<|bo 0 2 rfl rfl<|Qp 0 rfl (Uo (k := true) (p := nn) rfl (fun _ => rfl) (AllC.nil (G := g_tag_Segment) (h := Qt) (sz := 2)))<|?_
        refine Z7 (v1 := sl nn (([] : List (List Value)).length)) (v2 := i6 8) rfl rfl rfl (X7 nn (i := 0) rfl (by first | rfl | rw [(show (([] : List (List Value)).length) = ([] : List Tc).length from (AllC.nil (G := g_tag_Segment) (h := Qt) (sz := 2)).len)]) (by first | exact Imp.refl _ | exact Imp.of (by rw [(show (([] : List (List Value)).length) = ([] : List Tc).length from (AllC.nil (G := g_tag_Segment) (h := Qt) (sz := 2)).len)] <;> rfl)))
       ·refine Jk<|Jc<|Ja<|mv (str x0_3)<|?_
        obtain ⟨t36, h_t36, H136⟩ := Je H135; clear H135
        refine lv (Jaf underlying9 rfl rfl h_t36) ?_
        obtain ⟨t37, h_t37, H137⟩ := Je H136; clear H136
        refine lv (Ui runUnderlying5 runUnderlying3 rfl (Jd7 h_t37))<|ag (i6 t37)<|Jd<|Jc<|Jc<|Ja<|mv (i6 t37)<|lv (Ql rfl rfl)<|Jd<|?_
        revert H137
        refine ci (decide (t37 = 218)) rfl (fun hb H138=>?_) fun hb H139=>?_
        ·refine Xa ?_
         exact cl (x0_3, l_3) (css_2, p_3) 0 [0, 1] (by exact ⟨H138, pf_4⟩)
        ·refine Jk<|Jc<|Jc<|Ja<|mv (str x0_3)<|lv (Xn underlying9 rfl)<|lv (Xz rfl rfl)<|Jd<|?_
         revert H139
         refine ci (decide ((x0_3.length : Int) < 4)) rfl (fun hb H140=>?_) fun hb H141=>?_
         ·refine Jc<|Ja<|ag (.slice none 0 0)<|ag (i6 8)<|Jd<|Jl<|Jm 92 2<|?_
          obtain rfl := sj H140
          refine Qp 2 rfl (Vg _ _ _ _ _)<|bo 0 2 rfl rfl<|Qp 0 rfl (Uo (k := true) (p := nn) rfl (fun _ => rfl) (AllC.nil (G := g_tag_Segment) (h := Qt) (sz := 2)))<|?_
          refine Z7 (v1 := sl nn (([] : List (List Value)).length)) (v2 := i6 8) rfl rfl rfl (X7 nn (i := 0) rfl (by first | rfl | rw [(show (([] : List (List Value)).length) = ([] : List Tc).length from (AllC.nil (G := g_tag_Segment) (h := Qt) (sz := 2)).len)]) (by first | exact Imp.refl _ | exact Imp.of (by rw [(show (([] : List (List Value)).length) = ([] : List Tc).length from (AllC.nil (G := g_tag_Segment) (h := Qt) (sz := 2)).len)] <;> rfl)))
         ·refine Jk<|Jc<|?_
          exact Qx (Kd.p :: Kd.p :: Kd.p :: Kd.p :: Kd.p :: Kd.p :: Kd.p :: Kd.p :: Kd.p :: []) 0 mixed (by
           refine dm (str x0_3) ?_
           have h_t44 := Jy H141
           have H142 := Jq H141
           refine dv (Jaf underlying9 rfl rfl h_t44) ?_
           have h_t45 := Jy H142
           have H143 := Jq H142
           refine dv (Ui runUnderlying5 runUnderlying3 rfl (Jd7 h_t45)) ?_
           have h_t46 := Jy H143
           have H144 := Jq H143
           refine dv (r_shlG rfl rfl h_t46)<|dm (str x0_3)<|?_
           have h_t48 := Jy H144
           have H145 := Jq H144
           refine dv (Jaf underlying9 rfl rfl h_t48) ?_
           have h_t49 := Jy H145
           have H146 := Jq H145
           refine dv (Ui runUnderlying5 runUnderlying3 rfl (Jd7 h_t49))<|dv (Jgx (bits := 64) rfl rfl rfl (Jhz _))<|Vf rfl rfl (Xd (v := i6 (Ud (bOr 64 (val (Jbt (val (gK (-9223372036854775808) 9223372036854775807 (val (Zt x0_3 2)))) 8)) (val (gK (-9223372036854775808) 9223372036854775807 (val (Zt x0_3 3))))))) rfl)<|Yw<|Jc<|Jc<|Ja<|mv (i6 (Ud (bOr 64 (val (Jbt (val (gK (-9223372036854775808) 9223372036854775807 (val (Zt x0_3 2)))) 8)) (val (gK (-9223372036854775808) 9223372036854775807 (val (Zt x0_3 3)))))))<|lv (Xz rfl rfl)<|mv (.bool (decide ((Ud (bOr 64 (val (Jbt (val (gK (-9223372036854775808) 9223372036854775807 (val (Zt x0_3 2)))) 8)) (val (gK (-9223372036854775808) 9223372036854775807 (val (Zt x0_3 3)))))) < 2)))<|?_
           revert H146
           refine sp (fun hb H147=>?_) fun hb H148=>?_
           ·refine pa<|pa<|pa<|pa<|pa<|pT (.bool true)<|Jd<|Vj rfl<|Jc<|Ja<|ag (.slice none 0 0)<|ag (i6 8)<|Jd<|Jl<|Jm 92 2<|?_
            obtain rfl := sj H147
            refine Qp 2 rfl (Vg _ _ _ _ _)<|bo 0 2 rfl rfl<|Qp 0 rfl (Uo (k := true) (p := nn) rfl (fun _ => rfl) (AllC.nil (G := g_tag_Segment) (h := Qt) (sz := 2)))<|?_
            refine Z7 (v1 := sl nn (([] : List (List Value)).length)) (v2 := i6 8) rfl rfl rfl (X7 nn (i := 0) rfl (by first | rfl | rw [(show (([] : List (List Value)).length) = ([] : List Tc).length from (AllC.nil (G := g_tag_Segment) (h := Qt) (sz := 2)).len)]) (by first | exact Imp.refl _ | exact Imp.of (by rw [(show (([] : List (List Value)).length) = ([] : List Tc).length from (AllC.nil (G := g_tag_Segment) (h := Qt) (sz := 2)).len)] <;> rfl)))
           ·refine mv (i6 (Ud (bOr 64 (val (Jbt (val (gK (-9223372036854775808) 9223372036854775807 (val (Zt x0_3 2)))) 8)) (val (gK (-9223372036854775808) 9223372036854775807 (val (Zt x0_3 3)))))))<|mv (str x0_3)<|lv (Xn underlying9 rfl)<|?_
            obtain ⟨t57, h_t57, H149⟩ := Je H148; clear H148
            refine lv (Zf rfl rfl h_t57)<|lv (Yn rfl rfl)<|pF (.bool (decide (t57 < (Ud (bOr 64 (val (Jbt (val (gK (-9223372036854775808) 9223372036854775807 (val (Zt x0_3 2)))) 8)) (val (gK (-9223372036854775808) 9223372036854775807 (val (Zt x0_3 3)))))))))<|Jd<|?_
            revert H149
            refine ci (decide (t57 < (Ud (bOr 64 (val (Jbt (val (gK (-9223372036854775808) 9223372036854775807 (val (Zt x0_3 2)))) 8)) (val (gK (-9223372036854775808) 9223372036854775807 (val (Zt x0_3 3)))))))) rfl (fun hb H150=>?_) fun hb H151=>?_
            ·refine Jc<|Ja<|ag (.slice none 0 0)<|ag (i6 8)<|Jd<|Jl<|Jm 92 2<|?_
             obtain rfl := sj H150
             refine Qp 2 rfl (Vg _ _ _ _ _)<|bo 0 2 rfl rfl<|Qp 0 rfl (Uo (k := true) (p := nn) rfl (fun _ => rfl) (AllC.nil (G := g_tag_Segment) (h := Qt) (sz := 2)))<|?_
             refine Z7 (v1 := sl nn (([] : List (List Value)).length)) (v2 := i6 8) rfl rfl rfl (X7 nn (i := 0) rfl (by first | rfl | rw [(show (([] : List (List Value)).length) = ([] : List Tc).length from (AllC.nil (G := g_tag_Segment) (h := Qt) (sz := 2)).len)]) (by first | exact Imp.refl _ | exact Imp.of (by rw [(show (([] : List (List Value)).length) = ([] : List Tc).length from (AllC.nil (G := g_tag_Segment) (h := Qt) (sz := 2)).len)] <;> rfl)))
            ·refine Jk<|Jc<|Ja<|mv (sl p_3 css_2.length)<|mv (i6 t37)<|mv (str x0_3)<|mv (i6 (Ud (bOr 64 (val (Jbt (val (gK (-9223372036854775808) 9223372036854775807 (val (Zt x0_3 2)))) 8)) (val (gK (-9223372036854775808) 9223372036854775807 (val (Zt x0_3 3)))))))<|?_
             obtain ⟨t64, h_t64, H152⟩ := Je H151; clear H151
             refine lv (J1 rfl rfl h_t64) ?_
             obtain ⟨t65, h_t65, H153⟩ := Je H152; clear H152
             refine lv (Jc7 underlying9 rfl rfl rfl h_t65)<|lv (Xv (pl := #[(0, 1), (1, 1)]) (ps := [(0, i6 t37), (1, str t65)]) (cells := #[i6 t37, str t65]) zeroValue92 runUnderlying92 (fun w => by kernel_rfl) rfl rfl)<|?_
             refine Qg (vs := [.agg #[i6 t37, str t65]]) (cs := [i6 t37, str t65]) underlying88 sizeOf92 zeroValue92 rfl rfl rfl rfl rfl rfl rfl (fun b5 => ?_)
             obtain ⟨l68, h_l68, H154⟩ := Je H153; clear H153
             refine Qe (V5 (i := 1) (k := 2) (p := p_3) (f := idC) (ys := css_2) (ls := [[i6 t37, str t65]]) underlying88 (Q5 typeInfo92) rfl rfl rfl rfl rfl rfl rfl rfl rfl rfl rfl rfl rfl rfl rfl (app63 (pf_4.app h_l68 (nc := [[i6 t37, str t65]]) rfl)) rfl) rfl rfl rfl (fun p_4 => ?_)
             have pf_5 : AllC g_tag_Segment Qt 2 (css_2 ++ [[i6 t37, str t65]]) l68 := AllC.snocG pf_4 h_l68 rfl (⟨rfl, rfl⟩)
             refine ag (sl p_4 ((css_2 ++ [[i6 t37, str t65]]).length))<|Jd<|?_
             try dsimp only [z1, z2, z5, z6, z7, z8]
             refine Ja<|mv (str x0_3)<|mv (i6 (Ud (bOr 64 (val (Jbt (val (gK (-9223372036854775808) 9223372036854775807 (val (Zt x0_3 2)))) 8)) (val (gK (-9223372036854775808) 9223372036854775807 (val (Zt x0_3 3)))))))<|?_
             obtain ⟨t71, h_t71, H155⟩ := Je H154; clear H154
             refine lv (J1 rfl rfl h_t71) ?_
             obtain ⟨t72, h_t72, H156⟩ := Je H155; clear H155
             refine lv (Uc underlying9 rfl rfl h_t72)<|ag (str t72)<|Jd<|?_
             try dsimp only [z1, z2, z5, z6, z7, z8]
             exact cl (t72, l68) ((css_2 ++ [[i6 t37, str t65]]), p_4) m2 [0, 1] (by exact ⟨(by subst hn2; exact H156), pf_5⟩)
           ) (by kernel_rfl)
    ·rintro ⟨x0, l⟩ ⟨css, p⟩ gg H112 pf
     try dsimp only at H112
     try dsimp only
     refine Jc<|Jc<|Ja<|mv (str x0)<|lv (Xn underlying9 rfl)<|lv (Xz rfl rfl)<|mv (.bool (decide ((x0.length : Int) < 4)))<|?_
     revert H112
     refine sp (fun hb H113=>?_) fun hb H114=>?_
     ·refine pa<|pa<|pa<|pa<|pa<|pa<|pT (.bool true)<|Jd<|Vj rfl<|Jc<|Ja<|ag (.slice none 0 0)<|ag (i6 8)<|Jd<|Jl<|Jm 92 2<|?_
      obtain rfl := sj H113
      refine Qp 2 rfl (Vg _ _ _ _ _)<|bo 0 2 rfl rfl<|Qp 0 rfl (Uo (k := true) (p := nn) rfl (fun _ => rfl) (AllC.nil (G := g_tag_Segment) (h := Qt) (sz := 2)))<|?_
      refine Z7 (v1 := sl nn (([] : List (List Value)).length)) (v2 := i6 8) rfl rfl rfl (X7 nn (i := 0) rfl (by first | rfl | rw [(show (([] : List (List Value)).length) = ([] : List Tc).length from (AllC.nil (G := g_tag_Segment) (h := Qt) (sz := 2)).len)]) (by first | exact Imp.refl _ | exact Imp.of (by rw [(show (([] : List (List Value)).length) = ([] : List Tc).length from (AllC.nil (G := g_tag_Segment) (h := Qt) (sz := 2)).len)] <;> rfl)))
     ·refine mv (str x0)<|mv (str x0)<|lv (Xn underlying9 rfl)<|?_
      obtain ⟨t80, h_t80, H115⟩ := Je H114; clear H114
      refine lv (Zf rfl rfl h_t80) ?_
      obtain ⟨t81, h_t81, H116⟩ := Je H115; clear H115
      refine lv (Uc underlying9 rfl rfl h_t81)<|lv (Jea rfl rfl)<|pF (.bool (decide (t81 ≠ [255, 217])))<|Jd<|?_
      revert H116
      refine ci (decide (t81 ≠ [255, 217])) rfl (fun hb H117=>?_) fun hb H118=>?_
      ·refine Jc<|Ja<|ag (.slice none 0 0)<|ag (i6 8)<|Jd<|Jl<|Jm 92 2<|?_
       obtain rfl := sj H117
       refine Qp 2 rfl (Vg _ _ _ _ _)<|bo 0 2 rfl rfl<|Qp 0 rfl (Uo (k := true) (p := nn) rfl (fun _ => rfl) (AllC.nil (G := g_tag_Segment) (h := Qt) (sz := 2)))<|?_
       refine Z7 (v1 := sl nn (([] : List (List Value)).length)) (v2 := i6 8) rfl rfl rfl (X7 nn (i := 0) rfl (by first | rfl | rw [(show (([] : List (List Value)).length) = ([] : List Tc).length from (AllC.nil (G := g_tag_Segment) (h := Qt) (sz := 2)).len)]) (by first | exact Imp.refl _ | exact Imp.of (by rw [(show (([] : List (List Value)).length) = ([] : List Tc).length from (AllC.nil (G := g_tag_Segment) (h := Qt) (sz := 2)).len)] <;> rfl)))
      ·refine Jk<|Jc<|Ja<|mv (sl p css.length)<|mv (str x0)<|mv (str x0)<|lv (Xn underlying9 rfl)<|?_
       obtain ⟨t88, h_t88, H119⟩ := Je H118; clear H118
       refine lv (Zf rfl rfl h_t88) ?_
       obtain ⟨t89, h_t89, H120⟩ := Je H119; clear H119
       refine lv (Jc7 underlying9 rfl rfl rfl h_t89)<|lv (Xv (pl := #[(0, 1), (1, 1)]) (ps := [(0, i6 218), (1, str t89)]) (cells := #[i6 218, str t89]) zeroValue92 runUnderlying92 (fun w => by kernel_rfl) rfl rfl)<|?_
       refine Qg (vs := [.agg #[i6 218, str t89]]) (cs := [i6 218, str t89]) underlying88 sizeOf92 zeroValue92 rfl rfl rfl rfl rfl rfl rfl (fun b4 => ?_)
       obtain ⟨l92, h_l92, H121⟩ := Je H120; clear H120
       refine Qe (V5 (i := 1) (k := 2) (p := p) (f := idC) (ys := css) (ls := [[i6 218, str t89]]) underlying88 (Q5 typeInfo92) rfl rfl rfl rfl rfl rfl rfl rfl rfl rfl rfl rfl rfl rfl rfl (app63 (pf.app h_l92 (nc := [[i6 218, str t89]]) rfl)) rfl) rfl rfl rfl (fun p_2 => ?_)
       have pf_2 : AllC g_tag_Segment Qt 2 (css ++ [[i6 218, str t89]]) l92 := AllC.snocG pf h_l92 rfl (⟨rfl, rfl⟩)
       refine ag (sl p_2 ((css ++ [[i6 218, str t89]]).length))<|Jd<|?_
       try dsimp only [z1, z2, z5, z6, z7, z8]
       refine Jc<|Jc<|Ja<|mv (sl p_2 ((css ++ [[i6 218, str t89]]).length))<|lv (Jhx underlying88 rfl pf_2.len)<|lv (Yn rfl rfl)<|Jd<|?_
       try dsimp only [z1, z2, z5, z6, z7, z8]
       revert H121
       refine ci (decide (200 < (l92.length : Int))) rfl (fun hb H122=>?_) fun hb H123=>?_
       ·refine Jc<|Ja<|ag (.slice none 0 0)<|ag (i6 4)<|Jd<|?_
        try dsimp only [z1, z2, z5, z6, z7, z8]
        refine Jl<|Jm 92 2<|?_
        obtain rfl := sj H122
        refine Qp 3 rfl (Vg _ _ _ _ _)<|bo 0 3 rfl rfl<|Qp 0 rfl (Uo (k := true) (p := nn) rfl (fun _ => rfl) (AllC.nil (G := g_tag_Segment) (h := Qt) (sz := 2)))<|?_
        refine Z7 (v1 := sl nn (([] : List (List Value)).length)) (v2 := i6 4) rfl rfl rfl (X7 nn (i := 0) rfl (by first | rfl | rw [(show (([] : List (List Value)).length) = ([] : List Tc).length from (AllC.nil (G := g_tag_Segment) (h := Qt) (sz := 2)).len)]) (by first | exact Imp.refl _ | exact Imp.of (by rw [(show (([] : List (List Value)).length) = ([] : List Tc).length from (AllC.nil (G := g_tag_Segment) (h := Qt) (sz := 2)).len)] <;> rfl)))
       ·refine Jk<|Jc<|Ja<|mv (sl p_2 ((css ++ [[i6 218, str t89]]).length))<|Qd (fun w hF hS => k117 (capOf (i := 1) hS rfl) w) call117 rfl rfl rfl<|ag (.slice (Vr p_2.1 0 ((css ++ [[i6 218, str t89]]).length) 2) ((css ++ [[i6 218, str t89]]).length) ((css ++ [[i6 218, str t89]]).length))<|ag (i6 0)<|Jd<|?_
        try dsimp only [z1, z2, z5, z6, z7, z8]
        refine Jl ?_
        obtain rfl := sj H123
        refine Qp 1 rfl (imp_clipR _ _ _ _ _ _)<|bo 0 1 rfl rfl<|Qp 0 rfl (Uo (k := true) (p := (Vr p_2.1 0 ((css ++ [[i6 218, str t89]]).length) 2, ((css ++ [[i6 218, str t89]]).length))) rfl (fun _ => rfl) pf_2)<|?_
        refine Z7 (v1 := .slice (Vr p_2.1 0 ((css ++ [[i6 218, str t89]]).length) 2) ((css ++ [[i6 218, str t89]]).length) ((css ++ [[i6 218, str t89]]).length)) (v2 := i6 0) rfl rfl rfl (X7 (Vr p_2.1 0 ((css ++ [[i6 218, str t89]]).length) 2, ((css ++ [[i6 218, str t89]]).length)) (i := 0) rfl (by first | rfl | rw [(show ((css ++ [[i6 218, str t89]]).length) = l92.length from pf_2.len)]) (by first | exact Imp.refl _ | exact Imp.of (by rw [(show ((css ++ [[i6 218, str t89]]).length) = l92.length from pf_2.len)] <;> rfl)))
theorem k119 {a0 : (List Tc)} {v0 : Value} {a1 : (Tc → Option (Bool))} {v1 : Value} {r : Int} {w : World} {h : J3} (hw : Know h w Zo) (f0 : FrN h 2 v0 g_tag_Segment a0) (f1 : FnH prog h v1 (Ja5 a1)) (H : Zh a0 a1 = some r) : Does prog 119 (List.toArray [v0, v1]) w (fun v w' => v = (i6 r) ∧ Grow w w') := by
 refine enter (n := 19) func119 rfl rfl rfl Zo [] (Sat.nil _ _)<|Jc<|Ja<|ag (i6 0)<|Jd<|Jc<|Jc<|Ja<|mv v0<|lv (Xs underlying88 rfl f0)<|mv (i6 0)<|Jd<|Ju<|?_
 refine Za (σ := Int) (τ := Unit) (fun next1 s => Qm a0 a1 next1 s) (fun s t => [(0, v0), (1, v1), (7, i6 (a0.length : Int)), (8, i6 s)]) (fun s t => []) (fun s t => True) 0 () [] H (by exact trivial) (by exact ⟨rfl, rfl, rfl, rfl, trivial⟩) (by decide) rfl ?_
 rintro x8_2 _ m1 gg H9 _
 clear H
 try dsimp only at H9
 generalize hn1 : it (fun next1 s => Qm a0 a1 next1 s) m1 = next1 at H9
 try dsimp only
 refine Jc<|Ja<|lv (Xz rfl rfl)<|Jd<|Jc<|?_
 revert H9
 refine ci (decide (x8_2 < (a0.length : Int))) rfl (fun hb H10=>?_) fun hb H16=>?_
 ·refine Jk<|Jc<|Ju<|Jc<|Ja<|mv (i6 x8_2)<|ag (i6 x8_2)<|Jd<|Jc<|Ja<|mv v1<|mv v0<|mv (i6 x8_2)<|?_
  obtain ⟨t14, h_t14, H11⟩ := Je H10; clear H10
  refine lv (Xc underlying88 sizeOf92 rfl rfl f0.frs (f0.ix h_t14))<|Xi (fun w hF hS => Yz (f := (elC h v0 2)) (i := x8_2) (sz := 2) (j := 0) (vs := [i6 t14.Kind, str t14.Text]) isAgg92 sizeOf92 rfl rfl (f0.frs.row (hw.now hF)) (f0.ix h_t14) (Jfp (Jap (f0.at h_t14)) rfl)) rfl rfl rfl<|?_
  obtain ⟨t16, h_t16, H12⟩ := Je H11; clear H11
  refine Jig (R := Ja5 a1) (r := .bool t16) (v := v1) (fun w hF hS => ⟨(f1.mono (hw.now hF)), ⟨t14, _, rfl, h_t16, rfl⟩⟩) rfl rfl rfl rfl<|Jd<|?_
  revert H12
  refine ci t16 rfl (fun hb H13=>?_) fun hb H14=>?_
  ·refine Jc<|Ja<|mv (i6 x8_2)<|ag (i6 x8_2)<|Jd<|Jl<|?_
   obtain rfl := sj H13
   exact r1 (i6 x8_2)
  ·refine Jk<|Ja<|?_
   obtain ⟨t18, h_t18, H15⟩ := Je H14; clear H14
   refine lv (J1 rfl rfl h_t18)<|mv (i6 t18)<|Jd<|?_
   exact cl t18 () m1 [] (by exact ⟨(by subst hn1; exact H15), trivial⟩)
 ·refine Xa<|Jc<|Ja<|ag (i6 (-1))<|Jd<|Jl<|?_
  obtain rfl := sj H16
  exact r1 (i6 (-1))
theorem k120 {a0 : Tc} {r : Bool} (H : tag_metadata_1 a0 = some r) : Ret prog 120 [.agg #[i6 a0.Kind, str a0.Text]] (.bool r) := by
 refine Yu (n := 18) func120 rfl rfl rfl (fun wd => ?_)
 refine Jc<|Ja<|?_
 refine Wj (cs := [i6 a0.Kind, str a0.Text]) rfl rfl rfl rfl (fun b1 => ?_)
 refine ag (.bool false)<|Jd<|Jc<|Ja<|lf runUnderlying92 rfl sizeOf3 rfl<|ll 0 (i6 a0.Kind) isAgg3<|lv (Ql rfl rfl)<|mv (.bool (decide (a0.Kind = 225)))<|?_
 revert H
 refine sp (fun hb H6=>?_) fun hb H10=>?_
 ·refine lf runUnderlying92 rfl sizeOf9 rfl<|ll 0 (str a0.Text) isAgg9<|lv (Xn underlying9 rfl)<|lv (Jff rfl rfl)<|pT (.bool (decide (6 ≤ (a0.Text.length : Int))))<|mv (.bool (decide (6 ≤ (a0.Text.length : Int))))<|?_
  revert H6
  refine sp (fun hb H7=>?_) fun hb H9=>?_
  ·refine lf runUnderlying92 rfl sizeOf9 rfl<|ll 0 (str a0.Text) isAgg9<|?_
   obtain ⟨t15, h_t15, H8⟩ := Je H7; clear H7
   refine lv (Un underlying9 rfl rfl h_t15)<|lv (Jfn rfl rfl)<|pT (.bool (decide (t15 = [69, 120, 105, 102, 0, 0])))<|ag (.bool (decide (t15 = [69, 120, 105, 102, 0, 0])))<|Jd<|Jl<|?_
   obtain rfl := sj H8
   exact r1 (.bool (decide (t15 = [69, 120, 105, 102, 0, 0])))
  ·refine pa<|pa<|pa<|pa<|pF (.bool false)<|ag (.bool false)<|Jd<|Jl<|?_
   obtain rfl := sj H9
   exact r1 (.bool false)
 ·refine pa<|pa<|pa<|pa<|pF (.bool false)<|mv (.bool false)<|pa<|pa<|pa<|pa<|pF (.bool false)<|ag (.bool false)<|Jd<|Jl<|?_
  obtain rfl := sj H10
  exact r1 (.bool false)
theorem k52 {a0 : (List Tc)} {v0 : Value} {r : Int} {w : World} {h : J3} (hw : Know h w Zo) (f0 : FrN h 2 v0 g_tag_Segment a0) (H : Va a0 = some r) : Does prog 52 (List.toArray [v0]) w (fun v w' => v = (i6 r) ∧ Grow w w') := by
 refine enter (n := 5) func52 rfl rfl rfl Zo [] (Sat.nil _ _)<|Jc<|Ja<|ag (i6 0)<|Jd<|Jc<|Ja<|mv v0<|?_
 obtain ⟨t4, h_t4, H2⟩ := Je H; clear H
 refine Qd (fun w hF hS => k119 (Jp w) (f0.mono (hw.now hF)) (FnH.mk ⟨120, #[], #[], rfl, call120, fun args2 post2 w2 hk2 hR2 => by obtain ⟨a0_, r_, rfl, H_, rfl⟩ := hR2; exact k120 H_ w2⟩) h_t4) call119 rfl rfl rfl<|ag (i6 t4)<|Jd<|Jl<|?_
 obtain rfl := sj H2
 exact r1 (i6 t4)
theorem ovl121 (x y : Value) (w : World) : (callFunc 121 (List.toArray [x, y])).run prog w = (do pure (.value (← Extern.SlicesOverlaps.overlaps #[88, 88] #[4] #[x, y])) : Sem Next).run prog w := by kernel_rfl
theorem k53 {css r : List (List Value)} {cs1 : List Value} {p0 : Option Addr × Nat} {n0 b2 T2 : Nat} {a1 : Int} {w : World} {h : J3} {S : Nat → Prop} (hcs : (Up 92 2 (sl p0 n0) n0 (css.map idC)).P S w) (hlt : ∀ b, S b → b < w.heap.size) (hw : Know h w S) (hn0 : n0 = css.length) (hone : ∀ cs ∈ css, ∀ u ∈ cs, u.oneCell' = true) (hone1 : (([cs1].map idC).all fun x => x.all Value.oneCell') = true) (hl1 : cs1.length = 2) (hb2 : h b2 = some (.cells cs1.toArray T2 (0, 0))) (H : gInsN 24 css a1 cs1 = some r) :
    Does prog 53 (List.toArray [sl p0 n0, i6 a1, .slice (some ⟨b2, 0, none⟩) 1 1]) w (fun v w' => ∃ x : Option Addr × Nat, v = sl x r.length ∧ Turn w w' S (Up 92 2 (sl x r.length) r.length (r.map idC))) := by
 obtain ⟨rfl, g0, g1, g2, g3⟩ := Ji3 H
 have f2r : RowH h (some ⟨b2, 0, none⟩) 2 ([cs1].map idC) := .inr ⟨b2, 0, cs1.toArray, T2, (0, 0), rfl, hb2, fun i x hx => by
  cases i with
  | zero => simp [idC] at hx; subst hx; exact ⟨hl1, fun j v hv => by simpa using hv⟩
  | succ i => simp at hx⟩
 have hone1 : ∀ u ∈ cs1, u.oneCell' = true := fun u hu => List.all_eq_true.1 (List.all_eq_true.1 hone1 cs1 (by simp [idC])) u hu
 have hins : (Jcx css a1 cs1).length = css.length + 1 := insL_len g1 g0
 have h_hi : Q7 css a1 css.length = some (css.drop a1.toNat) := Y3 (by omega)
 have l_hi : (css.drop a1.toNat).length = css.length - a1.toNat := List.length_drop
 refine enter (n := 95) func53 rfl rfl rfl S [Up 92 2 (sl p0 n0) n0 (css.map idC)] (Sat.one hcs hlt) ?_
 refine Jgc (fun w hF hS => capOfO (i := 0) hS rfl) (fun hcap => ?_)
 refine Jgc (fun w hF hS => rowO_all (i := 0) hS rfl) (fun hall => ?_)
 rw [Vx] at hall
 refine Jc<|Ja<|ag (.slice none 0 0)<|Jd<|Jc<|Ja<|mv (sl p0 n0)<|mv (i6 a1)<|Xi (fun w hF hS => V9 (xs := css) underlying88 sizeOf92 rfl rfl hn0 (by omega) h_hi) rfl rfl rfl<|Jd<|Jc<|Ja<|mv (.slice (some ⟨b2, 0, none⟩) 1 1)<|lv (Jdj underlying88 rfl)<|ag (i6 ((1 : Nat) : Int))<|Jd<|Jc<|Jc<|Ja<|mv (i6 ((1 : Nat) : Int))<|lv (Ql rfl rfl)<|Jd<|?_
 refine c_if (b := (decide (((1 : Nat) : Int) = 0))) rfl (fun hb => absurd hb (by decide)) (fun hb => ?_)
 refine Jk<|Jc<|Ja<|mv (sl p0 n0)<|lv (Jhx underlying88 rfl hn0)<|ag (i6 (css.length : Int))<|Jd<|Jc<|Jc<|Ja<|mv (i6 a1)<|mv (i6 (css.length : Int))<|lv (Ql rfl rfl)<|Jd<|?_
 refine c_if (b := (decide (a1 = (css.length : Int)))) rfl (fun hb => ?_) (fun hb => ?_)
 ·have hab : a1 = css.length := of_decide_eq_true hb
  have he : css ++ [cs1] = Jcx css a1 cs1 := by
   have ht : a1.toNat = css.length := by omega
   unfold Jcx; rw [ht, List.take_length, List.drop_length, List.append_nil]
  refine Jc<|Ja<|mv (sl p0 n0)<|mv (.slice (some ⟨b2, 0, none⟩) 1 1)<|?_
  refine Qe (Jji (i := 0) (sz := 2) (by_ := 24) (rds := []) (news := [cs1].map idC) (m := n0) (q := 1) (p := p0) underlying88 (Q5 typeInfo92) rfl rfl rfl rfl rfl rfl rfl rfl rfl (fun x hx => by rw [Vx] at hx; rw [List.mem_singleton.1 hx]; exact hl1) (fun w L' hF hS hj => f2r.row (hw.now hF)) (fun x hx => by rw [Vx] at hx; rw [List.mem_singleton.1 hx]; exact hone1) (by simp only [maxLen]; omega) (by rw [hn0]; exact g2)) rfl rfl rfl (fun p1 => ?_)
  refine ag (sl p1 (n0 + 1))<|Jd<|Jl<|?_
  refine ret1 (v := sl p1 (n0 + 1)) rfl rfl (X7 p1 (i := 0) rfl (by rw [hins, hn0]) (Imp.of (by rw [hins, hn0, ← List.map_append, he])))
 ·have hab : ¬ a1 = css.length := of_decide_eq_false hb
  refine Jk<|Jc<|Jc<|Ja<|mv (i6 (css.length : Int))<|mv (i6 ((1 : Nat) : Int))<|lv (r_add rfl rfl (by omega))<|mv (sl p0 n0)<|lv (r_cap underlying88 rfl)<|lv (Yn rfl rfl)<|Jd<|?_
  refine c_if (b := (decide ((p0.2 : Int) < (css.length : Int) + ((1 : Nat) : Int)))) rfl (fun hb => ?_) (fun hb => ?_)
  ·have hb1 := of_decide_eq_true hb
   have h_lo : Q7 css 0 a1 = some (css.take a1.toNat) := Uz (by omega)
   have l_lo : (css.take a1.toNat).length = a1.toNat := by rw [List.length_take]; omega
   refine Jc<|Ja<|mv (sl p0 n0)<|mv (i6 a1)<|Xi (v := sl p0 (css.take a1.toNat).length) (fun w hF hS => run_sliceHO0 (xs := css) underlying88 sizeOf92 rfl rfl hn0 (by omega) h_lo) rfl rfl rfl<|mv (i6 (css.length : Int))<|mv (i6 ((1 : Nat) : Int))<|lv (r_add rfl rfl (by omega))<|mv (i6 a1)<|lv (r_sub rfl rfl (by omega))<|?_
   have hk : (css.length : Int) + ((1 : Nat) : Int) - a1 = ((css.length + 1 - a1.toNat : Nat) : Int) := by omega
   rw [l_lo, hk]
   have hsum : a1.toNat + (css.length + 1 - a1.toNat) = css.length + 1 := by omega
   refine Wv (makes_growZ (i := 0) (sz := 2) (by_ := 24) (xs := css.map idC) (p := p0) (m := n0) (a := a1.toNat) (k := css.length + 1 - a1.toNat) underlying88 underlying3 (Q5 typeInfo92) rfl rfl rfl rfl rfl rfl rfl (by omega) rfl (by omega) (by omega) (by rw [hsum]; simp only [maxLen]; omega) (by rw [hsum]; exact g2)) rfl rfl rfl (fun p1 => ?_)
   refine ag (sl p1 (a1.toNat + (css.length + 1 - a1.toNat)))<|Jd<|?_
   have hr1 : (css.map idC).take a1.toNat ++ List.replicate (css.length + 1 - a1.toNat) [i6 0, str []] = (css.take a1.toNat ++ (List.replicate (css.length + 1 - a1.toNat) [i6 0, str []])) := by rw [Vx]
   refine Qp 1 rfl (Imp.of (congrArg (Jw 92 2 (sl p1 (a1.toNat + (css.length + 1 - a1.toNat))) (a1.toNat + (css.length + 1 - a1.toNat))) hr1)) ?_
   have len1 : (css.take a1.toNat ++ (List.replicate (css.length + 1 - a1.toNat) [i6 0, str []])).length = (a1.toNat + (css.length + 1 - a1.toNat)) := by rw [List.length_append, l_lo, List.length_replicate]
   generalize hR1 : (css.take a1.toNat ++ (List.replicate (css.length + 1 - a1.toNat) [i6 0, str []])) = R1 at len1
   have hcut1 : Q7 R1 a1 R1.length = some (R1.drop a1.toNat) := Y3 (by omega)
   have ldr1 : (R1.drop a1.toNat).length = css.length + 1 - a1.toNat := by rw [List.length_drop, len1]; omega
   refine Jc<|Ja<|mv (sl p1 (a1.toNat + (css.length + 1 - a1.toNat)))<|mv (i6 a1)<|Xi (v := .slice (Vr p1.1 a1.toNat p1.2 2) (R1.drop a1.toNat).length (p1.2 - a1.toNat)) (fun w hF hS => V9 (xs := R1) underlying88 sizeOf92 rfl rfl len1.symm (capOf (i := 1) hS rfl) hcut1) rfl rfl rfl<|mv (.slice (some ⟨b2, 0, none⟩) 1 1)<|?_
   refine Qe (Jh6 (i := 1) (rds := []) (xs := R1) (news := [cs1].map idC) (sz := 2) (m := (a1.toNat + (css.length + 1 - a1.toNat))) (a := a1.toNat) (q := 1) (p := p1) underlying88 (Q5 typeInfo92) rfl rfl len1.symm rfl (by omega) rfl (by omega) rfl (by omega) (fun w L' hF hS hj => f2r.row (hw.now hF)) (fun x hx => by rw [Vx] at hx; rw [List.mem_singleton.1 hx]; exact hl1) (fun x hx => by rw [Vx] at hx; rw [List.mem_singleton.1 hx]; exact hone1)) rfl rfl rfl (fun _ => ?_)
   refine Jd ?_
   have len2 : (R1.take a1.toNat ++ [cs1].map idC ++ R1.drop (a1.toNat + 1)).length = (a1.toNat + (css.length + 1 - a1.toNat)) := by simp only [List.length_append, List.length_take, List.length_drop, List.length_map, List.length_cons, List.length_nil, len1]; omega
   generalize hR2 : R1.take a1.toNat ++ [cs1].map idC ++ R1.drop (a1.toNat + 1) = R2 at len2
   have hcut2 : Q7 R2 (a1 + ((1 : Nat) : Int)) R2.length = some (R2.drop (a1 + ((1 : Nat) : Int)).toNat) := Y3 (by omega)
   have ht1 : (a1 + ((1 : Nat) : Int)).toNat = a1.toNat + 1 := by omega
   rw [ht1] at hcut2
   have ldr2 : (R2.drop (a1.toNat + 1)).length = css.length - a1.toNat := by rw [List.length_drop, len2]; omega
   refine Jc ?_
   exact Qx (Kd.p :: Kd.p :: Kd.p :: Kd.p :: Kd.d [1] _ :: Kd.p :: Kd.p :: Kd.d [0] _ :: Kd.t 1 [0] _ _ :: []) 0 mixed (by
    refine dm (sl p1 (a1.toNat + (css.length + 1 - a1.toNat)))<|dm (i6 a1)<|dm (i6 ((1 : Nat) : Int))<|dv (r_add rfl rfl (by omega))<|Jah (v := .slice (Vr p1.1 (a1.toNat + 1) p1.2 2) (R2.drop (a1.toNat + 1)).length (p1.2 - (a1.toNat + 1))) (fun w L' hF hS hi => ht1 ▸ V9 (xs := R2) underlying88 sizeOf92 rfl rfl len2.symm (capOf (i := 1) hS ((hi 1 (by simp)).trans rfl)) (ht1.symm ▸ hcut2)) rfl rfl<|dm (sl p0 n0)<|dm (i6 a1)<|Jah (v := .slice (Vr p0.1 a1.toNat p0.2 2) (css.drop a1.toNat).length (p0.2 - a1.toNat)) (fun w L' hF hS hi => V9 (xs := css) underlying88 sizeOf92 rfl rfl hn0 (by omega) h_hi) rfl rfl<|?_
    refine Jdr (Cv := fun _ => Jw 92 2 (sl p1 (a1.toNat + (css.length + 1 - a1.toNat))) (a1.toNat + (css.length + 1 - a1.toNat)) (R2.take (a1.toNat + 1) ++ (css.drop a1.toNat).map idC ++ R2.drop (a1.toNat + 1 + (css.drop a1.toNat).length))) ()
     (Jh6 (i := 1) (rds := [0]) (xs := R2) (news := (css.drop a1.toNat).map idC) (sz := 2) (m := (a1.toNat + (css.length + 1 - a1.toNat))) (a := a1.toNat + 1) (q := (css.drop a1.toNat).length) (p := p1) underlying88 (Q5 typeInfo92) rfl rfl len2.symm rfl (by omega) rfl (by omega) (List.length_map _).symm (by omega)
      (fun w L' hF hS hj => Row.cutG (xs := css) (f := idC) (offOf (i := 0) hS ((hj 0 (by simp)).trans rfl)) hn0 (by omega) h_hi) (by rw [Vx]; exact fun x hx => hall x (List.mem_of_mem_drop hx)) (by rw [Vx]; exact fun x hx => hone x (List.mem_of_mem_drop hx))) (fun _ => rfl) rfl rfl (fun _ => ?_)
    refine Yw ?_
    have hch : R2.take (a1.toNat + 1) ++ (css.drop a1.toNat).map idC ++ R2.drop (a1.toNat + 1 + (css.drop a1.toNat).length) = (Jcx css a1 cs1).map idC := by
     have e3 : R2.drop (a1.toNat + 1 + (css.drop a1.toNat).length) = [] := List.eq_nil_of_length_eq_zero (by rw [List.length_drop, len2]; omega)
     have t1 : R1.take a1.toNat = css.take a1.toNat := by rw [← hR1, List.take_append_of_le_length (by omega), List.take_of_length_le (by omega)]
     have t2 : R2.take (a1.toNat + 1) = css.take a1.toNat ++ [cs1] := by
      rw [← hR2, t1, List.take_append_of_le_length (by simp only [List.length_append, List.length_map, List.length_cons, List.length_nil, l_lo]; omega), List.take_of_length_le (by simp only [List.length_append, List.length_map, List.length_cons, List.length_nil, l_lo]; omega), Vx]
     rw [e3, t2, List.append_nil, Vx, Vx, List.append_assoc]; rfl
    refine Jc<|Ja<|mv (sl p1 (a1.toNat + (css.length + 1 - a1.toNat)))<|ag (sl p1 (a1.toNat + (css.length + 1 - a1.toNat)))<|Jd<|Jl<|Qp 1 rfl (Vg _ _ _ _ _)<|?_
    refine ret1 (v := sl p1 (a1.toNat + (css.length + 1 - a1.toNat))) rfl rfl (X7 p1 (i := 1) rfl (by rw [hins, hsum]) (Imp.of (by rw [hins, hch, hsum])))
    ) (by kernel_rfl)
  ·have hroom : css.length + 1 ≤ p0.2 := by have := of_decide_eq_false hb; omega
   refine Jk<|Qp 0 rfl (imp_room1 (by omega))<|?_
   refine c_ex 0 rfl (fun y0 => ?_)
   refine Jgc (fun w hF hS => rowO_all (i := 0) hS rfl) (fun hall1 => ?_)
   have hy0 : y0.length = 2 := hall1 y0 (by simp)
   have lenR : (css.map idC ++ [y0]).length = n0 + 1 := by rw [List.length_append, List.length_map, List.length_singleton, hn0]
   generalize hR1 : css.map idC ++ [y0] = R1 at lenR hall1
   refine Jc<|Ja<|mv (sl p0 n0)<|mv (i6 (css.length : Int))<|mv (i6 ((1 : Nat) : Int))<|lv (r_add rfl rfl (by omega))<|?_
   refine l_val (v := sl p0 (n0 + 1)) rfl rfl rfl (by
    have e1 : ((css.length : Int) + ((1 : Nat) : Int)).toNat = n0 + 1 := by omega
    rw [← e1]; exact Jiu underlying88 sizeOf92 rfl rfl (by omega) (by omega)) ?_
   refine ag (sl p0 (n0 + 1))<|Jd<|?_
   have h_hi1 : Q7 R1 a1 R1.length = some (R1.drop a1.toNat) := Y3 (by omega)
   have ht1 : (a1 + ((1 : Nat) : Int)).toNat = a1.toNat + 1 := by omega
   have h_hi2 : Q7 R1 (a1 + ((1 : Nat) : Int)) R1.length = some (R1.drop (a1.toNat + 1)) := by rw [← ht1]; exact Y3 (by omega)
   have ld1 : (R1.drop a1.toNat).length = n0 + 1 - a1.toNat := by rw [List.length_drop, lenR]
   have ld2 : (R1.drop (a1.toNat + 1)).length = n0 - a1.toNat := by rw [List.length_drop, lenR]; omega
   have hd1 : R1.drop a1.toNat = (css.drop a1.toNat).map idC ++ [y0] := by
    rw [← hR1, List.drop_append_of_le_length (by rw [List.length_map]; omega), ← List.map_drop]
   refine Jc<|Jc<|Ja<|mv (.slice (some ⟨b2, 0, none⟩) 1 1)<|mv (sl p0 (n0 + 1))<|mv (i6 a1)<|mv (i6 ((1 : Nat) : Int))<|lv (r_add rfl rfl (by omega))<|Xi (v := .slice (Vr p0.1 (a1.toNat + 1) p0.2 2) (R1.drop (a1.toNat + 1)).length (p0.2 - (a1.toNat + 1))) (fun w hF hS => ht1 ▸ V9 (xs := R1) underlying88 sizeOf92 rfl rfl lenR.symm (by omega) (ht1.symm ▸ h_hi2)) rfl rfl rfl<|?_
   refine Xi (v := .bool false) (fun W hF hS => by
    obtain ⟨S1, hC1, hS1⟩ := hS.at (i := 0) rfl
    obtain ⟨g1, g2⟩ := hw b2 _ hb2
    refine run_ovl (f := 121) (ovl121) underlying88 sizeOf92 rfl hC1 (by omega) (hw.now hF b2 _ hb2) (fun hs1 => ?_) rfl rfl
    rcases (hS1 b2 hs1).2 with hh | hh
    ·have hlt2 : b2 < w.heap.size := (Array.getElem?_eq_some_iff.1 g1).1
     exact absurd hh (by show ¬ w.heap.size ≤ b2; omega)
    ·exact g2 hh) rfl rfl rfl ?_
   refine lv (Ja4 rfl)<|Jd<|?_
   refine c_if (b := !false) rfl (fun _ => ?_) (fun hb => absurd hb (by decide))
   refine Jc ?_
   exact Qx (Kd.p :: Kd.p :: Kd.p :: Kd.p :: Kd.d [0] _ :: Kd.p :: Kd.p :: Kd.d [0] _ :: Kd.t 0 [] _ _ :: []) 0 mixed (by
    refine dm (sl p0 (n0 + 1))<|dm (i6 a1)<|dm (i6 ((1 : Nat) : Int))<|dv (r_add rfl rfl (by omega))<|Jah (v := .slice (Vr p0.1 (a1.toNat + 1) p0.2 2) (R1.drop (a1.toNat + 1)).length (p0.2 - (a1.toNat + 1))) (fun w L' hF hS hi => ht1 ▸ V9 (xs := R1) underlying88 sizeOf92 rfl rfl lenR.symm (by omega) (ht1.symm ▸ h_hi2)) rfl rfl<|dm (sl p0 (n0 + 1))<|dm (i6 a1)<|Jah (v := .slice (Vr p0.1 a1.toNat p0.2 2) (R1.drop a1.toNat).length (p0.2 - a1.toNat)) (fun w L' hF hS hi => V9 (xs := R1) underlying88 sizeOf92 rfl rfl lenR.symm (by omega) h_hi1) rfl rfl<|?_
    refine Jdr (Cv := fun _ => Up 92 2 (sl p0 (n0 + 1)) (n0 + 1) (R1.take (a1.toNat + 1) ++ (css.drop a1.toNat).map idC ++ R1.drop (a1.toNat + 1 + (css.drop a1.toNat).length))) ()
     (Jg4 (i := 0) (rds := []) (xs := R1) (news := (css.drop a1.toNat).map idC) (sz := 2) (m := n0 + 1) (a := a1.toNat + 1) (k := (css.drop a1.toNat).length) (p := p0) underlying88 (Q5 typeInfo92) rfl rfl lenR.symm rfl (by omega) rfl (by omega) (List.length_map _).symm (by omega)
      (fun w L' hF hS hj => by
       have hr := Row.cutG (xs := R1) (f := fun z : List Value => z) (by rw [List.map_id']; exact offOf (i := 0) hS ((hj 0 (.inr rfl)).trans rfl)) lenR.symm (show n0 + 1 ≤ p0.2 by omega) h_hi1
       rw [List.map_id', hd1] at hr
       exact Row.pre hr) (by rw [Vx]; exact fun x hx => hall x (List.mem_of_mem_drop hx)) (by rw [Vx]; exact fun x hx => hone x (List.mem_of_mem_drop hx))) (fun _ => rfl) rfl rfl (fun _ => ?_)
    refine Yw ?_
    have len2 : (R1.take (a1.toNat + 1) ++ (css.drop a1.toNat).map idC ++ R1.drop (a1.toNat + 1 + (css.drop a1.toNat).length)).length = n0 + 1 := by simp only [List.length_append, List.length_take, List.length_drop, List.length_map, lenR]; omega
    generalize hR2 : R1.take (a1.toNat + 1) ++ (css.drop a1.toNat).map idC ++ R1.drop (a1.toNat + 1 + (css.drop a1.toNat).length) = R2 at len2
    have h_hi3 : Q7 R2 a1 R2.length = some (R2.drop a1.toNat) := Y3 (by omega)
    have ld3 : (R2.drop a1.toNat).length = n0 + 1 - a1.toNat := by rw [List.length_drop, len2]
    refine Jc<|Ja<|mv (sl p0 (n0 + 1))<|mv (i6 a1)<|Xi (v := .slice (Vr p0.1 a1.toNat p0.2 2) (R2.drop a1.toNat).length (p0.2 - a1.toNat)) (fun w hF hS => V9 (xs := R2) underlying88 sizeOf92 rfl rfl len2.symm (by omega) h_hi3) rfl rfl rfl<|mv (.slice (some ⟨b2, 0, none⟩) 1 1)<|?_
    refine Qe (Jg4 (i := 0) (rds := []) (xs := R2) (news := [cs1].map idC) (sz := 2) (m := n0 + 1) (a := a1.toNat) (q := 1) (k := 1) (p := p0) underlying88 (Q5 typeInfo92) rfl rfl len2.symm rfl (by omega) rfl (by omega) rfl (by omega) (fun w L' hF hS hj => f2r.row (hw.now hF)) (fun x hx => by rw [Vx] at hx; rw [List.mem_singleton.1 hx]; exact hl1) (fun x hx => by rw [Vx] at hx; rw [List.mem_singleton.1 hx]; exact hone1)) rfl rfl rfl (fun _ => ?_)
    refine Jd ?_
    have hch : R2.take a1.toNat ++ [cs1].map idC ++ R2.drop (a1.toNat + 1) = (Jcx css a1 cs1).map idC := by
     have e3 : R1.drop (a1.toNat + 1 + (css.drop a1.toNat).length) = [] := List.eq_nil_of_length_eq_zero (by rw [List.length_drop, lenR]; omega)
     have l1 : (R1.take (a1.toNat + 1)).length = a1.toNat + 1 := by rw [List.length_take, lenR]; omega
     have t1 : R1.take a1.toNat = css.take a1.toNat := by rw [← hR1, Vx, List.take_append_of_le_length (by omega)]
     have t2 : R2.take a1.toNat = css.take a1.toNat := by
      rw [← hR2, List.append_assoc, List.take_append_of_le_length (by omega), List.take_take, Nat.min_eq_left (by omega), t1]
     have t3 : R2.drop (a1.toNat + 1) = css.drop a1.toNat := by
      rw [← hR2, e3, List.append_nil, List.drop_append_of_le_length (by omega), List.drop_eq_nil_of_le (by omega), List.nil_append, Vx]
     rw [t2, t3, Vx, Vx, List.append_assoc]; rfl
    refine Jc<|Ja<|mv (sl p0 (n0 + 1))<|ag (sl p0 (n0 + 1))<|Jd<|Jl<|?_
    refine ret1 (v := sl p0 (n0 + 1)) rfl rfl (X7 p0 (i := 0) rfl (by rw [hins, hn0]) (Imp.of (by rw [hins, hch, hn0])))
    ) (by kernel_rfl)
theorem k123 {a0 : Tc} {a1 : Bool} {r : Int} (H : Z9 a0 a1 = some r) : Ret prog 123 [.agg #[i6 a0.Kind, str a0.Text], .bool a1] (i6 r) := by
 refine Yu (n := 26) func123 rfl rfl rfl (fun wd => ?_)
 refine Jc<|Ja<|?_
 refine Wj (cs := [i6 a0.Kind, str a0.Text]) rfl rfl rfl rfl (fun b1 => ?_)
 refine ag (i6 0)<|Jd<|Jc<|Ju<|Jc<|Ja<|lf runUnderlying92 rfl sizeOf3 rfl<|ll 0 (i6 a0.Kind) isAgg3<|?_
 obtain ⟨t8, h_t8, H10⟩ := Je H; clear H
 refine Yy (k116 h_t8) call116 rfl rfl rfl<|lv (Ja4 rfl)<|ag (.bool (!t8))<|Jd<|?_
 revert H10
 refine ci (!t8) rfl (fun hb H11=>?_) fun hb H12=>?_
 ·refine Jc<|Ja<|ag (i6 10)<|Jd<|Jl<|?_
  obtain rfl := sj H11
  exact r1 (i6 10)
 ·refine Jc<|Ja<|lf runUnderlying92 rfl sizeOf3 rfl<|ll 0 (i6 a0.Kind) isAgg3<|lv (Ql rfl rfl)<|mv (.bool a1)<|lv (r_neqB underlying4 rfl rfl)<|ag (.bool (decide ((decide (a0.Kind = 218)) ≠ a1)))<|Jd<|?_
  revert H12
  refine ci (decide ((decide (a0.Kind = 218)) ≠ a1)) rfl (fun hb H13=>?_) fun hb H14=>?_
  ·refine Jc<|Ja<|ag (i6 5)<|Jd<|Jl<|?_
   obtain rfl := sj H13
   exact r1 (i6 5)
  ·refine Jc<|Ja<|lf runUnderlying92 rfl sizeOf3 rfl<|ll 0 (i6 a0.Kind) isAgg3<|lv (Yt rfl rfl)<|mv (.bool (decide (a0.Kind ≠ 218)))<|?_
   revert H14
   refine sp (fun hb H15=>?_) fun hb H18=>?_
   ·refine lf runUnderlying92 rfl sizeOf9 rfl<|ll 0 (str a0.Text) isAgg9<|lv (Xn underlying9 rfl)<|lv (Yn rfl rfl)<|pT (.bool (decide (65533 < (a0.Text.length : Int))))<|ag (.bool (decide (65533 < (a0.Text.length : Int))))<|Jd<|?_
    revert H15
    refine ci (decide (65533 < (a0.Text.length : Int))) rfl (fun hb H16=>?_) fun hb H17=>?_
    ·refine Jc<|Ja<|ag (i6 4)<|Jd<|Jl<|?_
     obtain rfl := sj H16
     exact r1 (i6 4)
    ·refine Jk<|Jc<|Ja<|ag (i6 0)<|Jd<|Jl<|?_
     obtain rfl := sj H17
     exact r1 (i6 0)
   ·refine pa<|pa<|pa<|pa<|pF (.bool false)<|ag (.bool false)<|Jd<|Uh rfl<|Jk<|Jc<|Ja<|ag (i6 0)<|Jd<|Jl<|?_
    obtain rfl := sj H18
    exact r1 (i6 0)
theorem k54 {a0 : (List Tc)} {v0 : Value} {r : (List UInt8) × Int} {w : World} {h : J3} (hw : Know h w Zo) (f0 : FrN h 2 v0 g_tag_Segment a0) (H : Jcb a0 = some r) : Does prog 54 (List.toArray [v0]) w (fun v w' => v = (.tuple #[str r.1, i6 r.2]) ∧ Grow w w') := by
 refine enter (n := 67) func54 rfl rfl rfl Zo [] (Sat.nil _ _)<|Jc<|Ja<|ag (str [])<|ag (i6 0)<|Jd<|Jc<|Ju<|Jc<|Ja<|mv v0<|lv (Xs underlying88 rfl f0)<|lv (Yn rfl rfl)<|ag (.bool (decide (200 < (a0.length : Int))))<|Jd<|?_
 revert H
 refine ci (decide (200 < (a0.length : Int))) rfl (fun hb H29=>?_) fun hb H30=>?_
 ·refine Jc<|Ja<|ag (str [])<|ag (i6 4)<|Jd<|Jl<|?_
  obtain rfl := sj H29
  refine Z7 (v1 := str []) (v2 := i6 4) rfl rfl rfl (fin rfl)
 ·refine Jc<|Ja<|mv v0<|lv (Xs underlying88 rfl f0)<|lv (Ql rfl rfl)<|ag (.bool (decide ((a0.length : Int) = 0)))<|Jd<|?_
  revert H30
  refine ci (decide ((a0.length : Int) = 0)) rfl (fun hb H31=>?_) fun hb H32=>?_
  ·refine Jc<|Ja<|ag (str [])<|ag (i6 5)<|Jd<|Jl<|?_
   obtain rfl := sj H31
   refine Z7 (v1 := str []) (v2 := i6 5) rfl rfl rfl (fin rfl)
  ·refine Jk<|Jc<|Ja<|?_
   refine Qg (vs := [.int .u8 255, .int .u8 216]) (cs := [.int .u8 255, .int .u8 216]) underlying111 sizeOf5 zeroValue5 rfl rfl rfl rfl rfl rfl rfl (fun b4 => ?_)
   refine Qe (Jgm (i := 0) (rds := []) (f := Xm) (xs := ([255, 216] : List Int)) (m := 2) (sz := 1) rfl underlying111 underlying5 rfl rfl rfl rfl rfl rfl) rfl rfl rfl (fun _ => ?_)
   refine ag (.slice ((some ⟨b4, 0, none⟩, 2) : Option Addr × Nat).1 2 ((some ⟨b4, 0, none⟩, 2) : Option Addr × Nat).2)<|Jd<|?_
   refine Qj (r := r) (σ := (List Int)) (τ := (Option Addr × Nat) × Nat) (fun s => Jcm s) (fun s t => [(4, .slice t.1.1 t.2 t.1.2)]) (fun s t => [apV 5 1 (.slice t.1.1 t.2 t.1.2) t.2 (s.map Xm)]) (fun s t => t.2 = s.length) ?_ ?_
   ·refine Jc<|Ja<|mv v0<|lv (Xs underlying88 rfl f0)<|mv (i6 0)<|Jd<|Ju<|?_
    refine Za (σ := Int × (List Int)) (τ := (Option Addr × Nat) × Nat) (fun next2 s => Yi a0 next2 s.1 s.2) (fun s t => [(0, v0), (4, .slice t.1.1 t.2 t.1.2), (18, v0), (19, i6 (a0.length : Int)), (20, i6 s.1)]) (fun s t => [apV 5 1 (.slice t.1.1 t.2 t.1.2) t.2 (s.2.map Xm)]) (fun s t => t.2 = s.2.length) (0, ([255, 216] : List Int)) (((some ⟨b4, 0, none⟩, 2) : Option Addr × Nat), 2) [0] H32 (by exact rfl) (by exact ⟨rfl, rfl, rfl, rfl, rfl, trivial⟩) (by decide) rfl ?_
    rintro ⟨x20_2, l_3⟩ ⟨p_3, n_2⟩ m2 gg H37 hl_3
    clear H32
    try dsimp only at H37
    generalize hn2 : it (fun next2 s => Yi a0 next2 s.1 s.2) m2 = next2 at H37
    try dsimp only
    refine Jc<|Ja<|lv (Xz rfl rfl)<|Jd<|Jc<|?_
    revert H37
    refine ci (decide (x20_2 < (a0.length : Int))) rfl (fun hb H38=>?_) fun hb H56=>?_
    ·refine Jk ?_
     refine Qj (r := r) (σ := (List Int)) (τ := (Option Addr × Nat)) (fun s => Jcl x20_2 next2 s) (fun s t => [(0, v0), (4, sl t s.length), (18, v0), (19, i6 (a0.length : Int)), (20, i6 x20_2)]) (fun s t => [Jw 5 1 (sl t s.length) s.length (s.map Xm)]) (fun s t => True) ?_ ?_
     ·refine Ju<|Jc<|Ja<|mv (i6 x20_2)<|?_
      obtain ⟨t23, h_t23, H41⟩ := Je H38; clear H38
      refine lv (Xc underlying88 sizeOf92 rfl rfl f0.frs (f0.ix h_t23))<|Xi (fun w hF hS => Yz (f := (elC h v0 2)) (i := x20_2) (sz := 2) (j := 0) (vs := [i6 t23.Kind, str t23.Text]) isAgg92 sizeOf92 rfl rfl (f0.frs.row (hw.now hF)) (f0.ix h_t23) (Jfp (Jap (f0.at h_t23)) rfl)) rfl rfl rfl<|?_
      refine X1 (cs := [i6 0, str []]) zeroValue92 rfl rfl rfl (fun b6 => ?_)
      refine ag (i6 x20_2)<|st (i := 1) [i6 t23.Kind, str t23.Text] [i6 t23.Kind, str t23.Text] sizeOf92 rfl rfl<|Jd<|Jc<|Jc<|Ja<|Q4 (i := 1) (vs := [i6 t23.Kind, str t23.Text]) isAgg92 sizeOf92 rfl rfl rfl rfl rfl<|mv (i6 x20_2)<|mv v0<|lv (Xs underlying88 rfl f0)<|?_
      obtain ⟨t29, h_t29, H42⟩ := Je H41; clear H41
      refine lv (Zf rfl rfl h_t29)<|lv (Ql rfl rfl)<|?_
      obtain ⟨t31, h_t31, H43⟩ := Je H42; clear H42
      refine Yy (k123 h_t31) call123 rfl rfl rfl<|ag (i6 t31)<|Jd<|Jc<|Ja<|mv (i6 t31)<|lv (Yt rfl rfl)<|Jd<|?_
      revert H43
      refine ci (decide (t31 ≠ 0)) rfl (fun hb H44=>?_) fun hb H45=>?_
      ·refine Jc<|Ja<|mv (i6 t31)<|ag (str [])<|ag (i6 t31)<|Jd<|Jl<|?_
       obtain rfl := sj H44
       refine Z7 (v1 := str []) (v2 := i6 t31) rfl rfl rfl (fin rfl)
      ·refine Jk<|Jc<|Ja<|mv (sl p_3 n_2)<|lf runUnderlying92 rfl sizeOf3 rfl<|ll 1 (i6 t23.Kind) isAgg3<|lv (Ui runUnderlying3 runUnderlying5 rfl (wr_u8 _))<|?_
       refine Qg (vs := [.int .u8 255, .int .u8 (wU8 t23.Kind)]) (cs := [.int .u8 255, .int .u8 (wU8 t23.Kind)]) underlying111 sizeOf5 zeroValue5 rfl rfl rfl rfl rfl rfl rfl (fun b7 => ?_)
       obtain ⟨l40, h_l40, H46⟩ := Je H45; clear H45
       refine Qe (Jf9 (i := 0) (hn := hl_3) (rds := [2]) (p := p_3) (sz := 1) (by_ := 1) (f := Xm) (ys := l_3) (ls := ([255, (wU8 t23.Kind)] : List Int)) (V := .slice (some ⟨b7, 0, none⟩) 2 2) underlying111 (Q5 typeInfo5) rfl rfl rfl rfl rfl rfl rfl rfl rfl rfl (fun w L' hF hS hi => Wr (i := 2) hS ((hi 2 (by simp)).trans rfl) rfl rfl) (fun _ => rfl) (fun _ => rfl) h_l40) rfl rfl rfl (fun p_5 => ?_)
       refine ag (sl p_5 l40.length)<|Jd<|?_
       refine Qj (r := r) (σ := (List Int)) (τ := (Option Addr × Nat)) (fun s => Jbd x20_2 next2 t23 s) (fun s t => [(0, v0), (4, sl t s.length), (6, .pointer (some ⟨b6, 0, none⟩)), (18, v0), (19, i6 (a0.length : Int)), (20, i6 x20_2)]) (fun s t => [Jw 5 1 (sl t s.length) s.length (s.map Xm), Jf b6 [i6 t23.Kind, str t23.Text] 92]) (fun s t => True) ?_ ?_
       ·refine Jc ?_
        try dsimp only [z1, z2, z5, z6, z7, z8]
        refine Ja<|lf runUnderlying92 rfl sizeOf3 rfl<|ll 1 (i6 t23.Kind) isAgg3<|lv (Yt rfl rfl)<|Jd<|?_
        revert H46
        refine ci (decide (t23.Kind ≠ 218)) rfl (fun hb H51=>?_) fun hb H55=>?_
        ·refine Ja<|mv (sl p_5 l40.length)<|lf runUnderlying92 rfl sizeOf9 rfl<|ll 1 (str t23.Text) isAgg9<|lv (Xn underlying9 rfl)<|?_
         obtain ⟨t48, h_t48, H52⟩ := Je H51; clear H51
         refine lv (J1 rfl rfl h_t48) ?_
         obtain ⟨t49, h_t49, H53⟩ := Je H52; clear H52
         refine Wv (X0 (rds := []) (G := fun x : (Option Addr × Nat) => sl x t49.length) (C := fun x : (Option Addr × Nat) => Jw 5 1 (sl x t49.length) t49.length (t49.map Xm)) (fun w L' hF hS hi => k73 (Jp w)  h_t49) call73 rfl) rfl rfl rfl (fun p_8 => ?_)
         obtain ⟨l50, h_l50, H54⟩ := Je H53; clear H53
         refine Qe (Xp (i := 0) (hn := rfl) (rds := [3]) (p := p_5) (sz := 1) (by_ := 1) (f := Xm) (ys := l40) (ls := t49) (V := sl p_8 t49.length) underlying111 (Q5 typeInfo5) rfl rfl rfl rfl rfl rfl rfl rfl rfl rfl (fun w L' hF hS hi => Wt (i := 3) hS ((hi 3 (by simp)).trans rfl)) (fun _ => rfl) (fun _ => rfl) h_l50) rfl rfl rfl (fun p_9 => ?_)
         refine ag (sl p_9 l50.length)<|Jd<|?_
         exact cl l50 p_9 0 [0, 1] (by exact ⟨H54, trivial⟩)
        ·refine Jk ?_
         exact cl l40 p_5 0 [0, 1] (by exact ⟨H55, trivial⟩)
       ·rintro l_5 p_6 gg H47 _
        try dsimp only at H47
        try dsimp only
        refine Jc<|Ja<|mv (sl p_6 l_5.length)<|lv (Jdj underlying111 rfl)<|lv (Jfo rfl rfl)<|Jd<|?_
        revert H47
        refine ci (decide ((l_5.length : Int) ≤ 200000)) rfl (fun hb H48=>?_) fun hb H50=>?_
        ·refine Ja<|mv (sl p_6 l_5.length)<|lf runUnderlying92 rfl sizeOf9 rfl<|ll 1 (str t23.Text) isAgg9<|?_
         obtain ⟨l57, h_l57, H49⟩ := Je H48; clear H48
         refine Qe (turns_strG (i := 0) (rds := []) (p := p_6) (f := Xm) (ys := l_5) rfl underlying111 underlying9 (Q5 typeInfo5) rfl rfl rfl rfl rfl rfl (fun _ => rfl) h_l57) rfl rfl rfl (fun p_7 => ?_)
         refine ag (sl p_7 l57.length)<|Jd<|?_
         exact cl l57 p_7 0 [0] (by exact ⟨H49, trivial⟩)
        ·refine Jk ?_
         exact cl l_5 p_6 0 [0] (by exact ⟨H50, trivial⟩)
     ·rintro l_4 p_4 gg H39 _
      try dsimp only at H39
      try dsimp only
      refine Ja ?_
      obtain ⟨t58, h_t58, H40⟩ := Je H39; clear H39
      refine lv (J1 rfl rfl h_t58)<|mv (i6 t58)<|Jd<|Qp 0 rfl (imp_ap _ _ _ _ _)<|?_
      exact cl (t58, l_4) (p_4, l_4.length) m2 [0] (by exact ⟨(by subst hn2; exact H40), rfl⟩)
    ·refine Xa ?_
     exact cl l_3 (p_3, n_2) 0 [0] (by exact ⟨H56, hl_3⟩)
   ·rintro l ⟨p, n⟩ gg H33 hl
    try dsimp only at H33
    try dsimp only
    refine Jc<|Ja<|mv (sl p n)<|?_
    refine Qg (vs := [.int .u8 255, .int .u8 217]) (cs := [.int .u8 255, .int .u8 217]) underlying111 sizeOf5 zeroValue5 rfl rfl rfl rfl rfl rfl rfl (fun b5 => ?_)
    obtain ⟨l61, h_l61, H34⟩ := Je H33; clear H33
    refine Qe (Jf9 (i := 0) (hn := hl) (rds := [1]) (p := p) (sz := 1) (by_ := 1) (f := Xm) (ys := l) (ls := ([255, 217] : List Int)) (V := .slice (some ⟨b5, 0, none⟩) 2 2) underlying111 (Q5 typeInfo5) rfl rfl rfl rfl rfl rfl rfl rfl rfl rfl (fun w L' hF hS hi => Wr (i := 1) hS ((hi 1 (by simp)).trans rfl) rfl rfl) (fun _ => rfl) (fun _ => rfl) h_l61) rfl rfl rfl (fun p_2 => ?_)
    refine ag (sl p_2 l61.length)<|Jd<|Jc<|Jc<|Ja<|mv (sl p_2 l61.length)<|lv (Jdj underlying111 rfl)<|lv (Yn rfl rfl)<|Jd<|?_
    revert H34
    refine ci (decide (200000 < (l61.length : Int))) rfl (fun hb H35=>?_) fun hb H36=>?_
    ·refine Jc<|Ja<|ag (str [])<|ag (i6 4)<|Jd<|Jl<|?_
     obtain rfl := sj H35
     refine Z7 (v1 := str []) (v2 := i6 4) rfl rfl rfl (fin rfl)
    ·refine Jk<|Jc<|Ja<|mv (sl p_2 l61.length)<|Xi (fun w hF hS => Jfu (f := Xm) (xs := l61) rfl underlying111 underlying5 underlying9 rfl (fun _ => rfl) (Wt (i := 0) hS rfl)) rfl rfl rfl<|ag (str (Yp l61))<|ag (i6 0)<|Jd<|Jl<|?_
     obtain rfl := sj H36
     refine Z7 (v1 := str (Yp l61)) (v2 := i6 0) rfl rfl rfl (fin rfl)
theorem k13 {a0 : (List UInt8)} {a1 : Tf} {v1_1 : Value} {r : (List UInt8) × Int} {w : World} {h : J3} (hw : Know h w Zo) (f1_1 : FrN h 1 v1_1 gs_tag_Entry a1.Dirs) (H : Jat a0 a1 = some r) : Does prog 13 (List.toArray [str a0, .agg #[.bool a1.Big, v1_1]]) w (fun v w' => v = (.tuple #[str r.1, i6 r.2]) ∧ Grow w w') := by
 refine enter (n := 44) func13 rfl rfl rfl Zo [] (Sat.nil _ _)<|Yg Qt<|Jc<|Ja<|?_
 refine Wj (cs := [.bool a1.Big, v1_1]) rfl rfl rfl rfl (fun b3 => ?_)
 refine ag (str [])<|ag (i6 0)<|Jd<|Jc<|Jc<|Ja<|Q4 (i := 1) (vs := [.bool a1.Big, v1_1]) isAgg24 sizeOf24 rfl rfl rfl rfl rfl<|?_
 obtain ⟨t12, h_t12, H17⟩ := Je H; clear H
 refine Qd (fun w hF hS => k37 (Jp w) (f1_1.mono (hw.now hF)) h_t12) call37 rfl rfl rfl<|ag (i6 t12)<|Jd<|Jc<|Ja<|mv (i6 t12)<|lv (Yt rfl rfl)<|Jd<|?_
 revert H17
 refine ci (decide (t12 ≠ 0)) rfl (fun hb H18=>?_) fun hb H19=>?_
 ·refine Jc<|Ja<|mv (i6 t12)<|ag (str [])<|ag (i6 t12)<|Jd<|Jl<|?_
  obtain rfl := sj H18
  refine Z7 (v1 := str []) (v2 := i6 t12) rfl rfl rfl (fin rfl)
 ·refine Jk<|Jc<|Ja<|mv (str a0)<|?_
  obtain ⟨t18, h_t18, H20⟩ := Je H19; clear H19
  refine Wv (X0 (rds := []) (G := fun x : (Option Addr × Nat) => .tuple #[sl x t18.1.length, i6 t18.2]) (C := fun x : (Option Addr × Nat) => rofD true 92 2 g_tag_Segment (sl x t18.1.length) t18.1.length t18.1) (fun w L' hF hS hi => k50 (Jp w)  h_t18) call50 rfl) rfl rfl rfl (fun p => ?_)
  refine c_rofD 2 rfl (fun hp css hn hc pf => ?_)
  rw [hn]
  refine Qv 2 rfl ?_
  refine Zm 0 2 rfl rfl (by decide) (fun _ _ => Zn) (fun hp_2 hle hle_2 => ?_)
  refine mv (.tuple #[sl p css.length, i6 t18.2])<|lv (Qb (v := sl p css.length) rfl rfl)<|lv (Qb (v := i6 t18.2) rfl rfl)<|ag (sl p css.length)<|ag (i6 t18.2)<|Jd<|?_
  try dsimp only [z1, z2, z5, z6, z7, z8]
  refine Jc<|Jc<|Ja<|mv (i6 t18.2)<|lv (Yt rfl rfl)<|Jd<|?_
  try dsimp only [z1, z2, z5, z6, z7, z8]
  revert H20
  refine ci (decide (t18.2 ≠ 0)) rfl (fun hb H21=>?_) fun hb H22=>?_
  ·refine Jc<|Ja<|mv (i6 t18.2)<|ag (str [])<|ag (i6 t18.2)<|Jd<|?_
   try dsimp only [z1, z2, z5, z6, z7, z8]
   refine Jl ?_
   obtain rfl := sj H21
   refine Z7 (v1 := str []) (v2 := i6 t18.2) rfl rfl rfl (fin rfl)
  ·refine Jk<|Jc<|Ja<|Q4 (i := 1) (vs := [.bool a1.Big, v1_1]) isAgg24 sizeOf24 rfl rfl rfl rfl rfl<|?_
   obtain ⟨t25, h_t25, H23⟩ := Je H22; clear H22
   refine Qd (fun w hF hS => k51 (Jp w) (f1_1.mono (hw.now hF)) h_t25) call51 rfl rfl rfl ?_
   obtain ⟨t26, h_t26, H24⟩ := Je H23; clear H23
   refine lv (Yj rfl rfl h_t26)<|lv (Xv (pl := #[(0, 1), (1, 1)]) (ps := [(0, i6 225), (1, str t26)]) (cells := #[i6 225, str t26]) zeroValue92 runUnderlying92 (fun w => by kernel_rfl) rfl rfl)<|?_
   refine X1 (cs := [i6 0, str []]) zeroValue92 rfl rfl rfl (fun b4 => ?_)
   refine st (i := 4) [i6 225, str t26] [i6 225, str t26] sizeOf92 rfl rfl<|Jd<|?_
   try dsimp only [z1, z2, z5, z6, z7, z8]
   refine Qj (r := r) (σ := (List Tc)) (τ := (List (List Value)) × (Option Addr × Nat)) (fun s => Vw s) (fun s t => [(7, .slice t.2.1 t.1.length t.2.2)]) (fun s t => [X8 Qt hp_2, Up 92 2 (.slice t.2.1 t.1.length t.2.2) t.1.length (t.1.map idC)]) (fun s t => AllC g_tag_Segment hp_2 2 t.1 s) ?_ ?_
   ·refine Jc ?_
    try dsimp only [z1, z2, z5, z6, z7, z8]
    refine Ja<|mv (sl p css.length)<|?_
    obtain ⟨t29, h_t29, H27⟩ := Je H24; clear H24
    refine Qd (fun w hF hS => k52 (Jp w) (Jag (xs := t18.1) (Jic (i := 3) rfl hS rfl) ((pf.mono hle_2).mono (Jbw (i := 0) hS rfl Zn))) h_t29) call52 rfl rfl rfl<|ag (i6 t29)<|Jd<|?_
    try dsimp only [z1, z2, z5, z6, z7, z8]
    refine Jc<|Ja<|mv (i6 t29)<|lv (Jff rfl rfl)<|Jd<|?_
    try dsimp only [z1, z2, z5, z6, z7, z8]
    revert H27
    refine ci (decide (0 ≤ t29)) rfl (fun hb H28=>?_) fun hb H31=>?_
    ·refine Ja<|mv (sl p css.length)<|mv (i6 t29)<|Q4 (i := 4) (vs := [i6 225, str t26]) isAgg92 sizeOf92 rfl rfl rfl rfl rfl<|?_
     obtain ⟨t35, h_t35, H29⟩ := Je H28; clear H28
     refine Xi (fun w hF hS => Ue underlying88 sizeOf92 rfl rfl (offOf (i := 3) hS rfl) rfl ((pf.mono hle_2).ix h_t35)) rfl rfl rfl ?_
     obtain ⟨l3, h_l3, H30⟩ := Je H29; clear H29
     refine Jha (Jf1 (rds := []) (q := 3) (j := 0) (i := t29) (sz := 2) (hm := rfl) (f := idC) (xs := css) (z := [i6 225, str t26]) (vs := [i6 225, str t26]) sizeOf92 rfl rfl rfl rfl rfl rfl rfl rfl (fun y_ hy_ => (pf.mono hle_2).wrE h_l3 rfl y_ hy_) ((pf.mono hle_2).gSetE h_l3)) rfl rfl (fun _ => ?_)
     have pf_3 : AllC g_tag_Segment hp_2 2 (List.set css (Int.toNat t29) [Value.int .i64 225, str t26]) l3 := AllC.setE (pf.mono hle_2) h_l3 rfl (⟨rfl, rfl⟩)
     refine Jd ?_
     try dsimp only [z1, z2, z5, z6, z7, z8]
     rw [show css.length = (List.set css (Int.toNat t29) [Value.int .i64 225, str t26]).length from (rfl.trans (setE_len _ _ _))]
     exact cl l3 ((List.set css (Int.toNat t29) [Value.int .i64 225, str t26]), p) 0 [0, 3] (by exact ⟨H30, pf_3⟩)
    ·refine Ja<|mv (sl p css.length)<|Q4 (i := 4) (vs := [i6 225, str t26]) isAgg92 sizeOf92 rfl rfl rfl rfl rfl<|?_
     refine Qg (vs := [.agg #[i6 225, str t26]]) (cs := [i6 225, str t26]) underlying88 sizeOf92 zeroValue92 rfl rfl rfl rfl rfl rfl rfl (fun b5 => ?_)
     obtain ⟨t39, h_t39, H32⟩ := Je H31; clear H31
     obtain ⟨hg, pf_4⟩ := AllC.ins (cs := [i6 225, str t26]) (pf.mono hle_2) h_t39 rfl (⟨rfl, rfl⟩)
     refine Qe (J4 (i := 3) (rds := [5]) (G := fun x : Option Addr × Nat => sl x (Jcx css 0 [i6 225, str t26]).length) (C := fun x : Option Addr × Nat => Up 92 2 (sl x (Jcx css 0 [i6 225, str t26]).length) (Jcx css 0 [i6 225, str t26]).length ((Jcx css 0 [i6 225, str t26]).map idC)) rfl (fun w L' S hF hS hi hp hlt ho hA => k53 (p0 := p) (cs1 := [i6 225, str t26]) hp hlt (Qr w S) rfl (AllC.ones (pf.mono hle_2) (fun c_ x_ f_ => by obtain ⟨q0_, q1_⟩ := f_; exact fun j_ hj_ => match j_, hj_ with | 0, _ => (by rw [q0_]; rfl) | 1, _ => (by rw [q1_]; rfl))) rfl rfl (cell_but (j := 5) hA hS (by decide) ((hi 5 (by simp)).trans rfl)) hg) call53 rfl) rfl rfl rfl (fun p_3 => ?_)
     refine ag (sl p_3 ((Jcx css 0 [i6 225, str t26]).length))<|Jd<|?_
     try dsimp only [z1, z2, z5, z6, z7, z8]
     exact cl t39 ((Jcx css 0 [i6 225, str t26]), p_3) 0 [0, 3] (by exact ⟨H32, pf_4⟩)
   ·rintro l ⟨css_2, p_2⟩ gg H25 pf_2
    try dsimp only at H25
    try dsimp only
    refine Jc<|Ja<|mv (sl p_2 css_2.length)<|?_
    obtain ⟨t41, h_t41, H26⟩ := Je H25; clear H25
    refine Qd (fun w hF hS => k54 (Jp w) (Jag (xs := l) (Jic (i := 1) rfl hS rfl) (pf_2.mono (Jbw (i := 0) hS rfl Zn))) h_t41) call54 rfl rfl rfl<|lv (Qb (v := str t41.1) rfl rfl)<|lv (Qb (v := i6 t41.2) rfl rfl)<|ag (str t41.1)<|ag (i6 t41.2)<|Jd<|Jl<|?_
    obtain rfl := sj H26
    refine Z7 (v1 := str t41.1) (v2 := i6 t41.2) rfl rfl rfl (fin rfl)
theorem k18 {a0 : (List UInt8)} {r : Tf × Int} {w : World} {h : J3} (hw : Know h w Zo) (H : Jhb a0 = some r) : Does prog 18 (List.toArray [str a0]) w (fun v w' => ∃ x : (Option Addr × Nat), v = (.tuple #[.agg #[.bool r.1.Big, sl x r.1.Dirs.length], i6 r.2]) ∧ Turn w w' Zo (Wp 36 1 gs_tag_Entry (sl x r.1.Dirs.length) r.1.Dirs.length r.1.Dirs)) := by
 refine enter (n := 15) func18 rfl rfl rfl Zo [] (Sat.nil _ _)<|Yg Qt<|Jc<|Ja<|?_
 refine X1 (cs := [.bool false, .slice none 0 0]) zeroValue24 rfl rfl rfl (fun b2 => ?_)
 refine ag (i6 0)<|Jd<|Jc<|Ja<|mv (str a0)<|?_
 obtain ⟨t9, h_t9, H2⟩ := Je H; clear H
 refine Wv (X0 (rds := []) (G := fun x : (Option Addr × Nat) × (Option Addr × Nat) => .tuple #[.agg #[.bool t9.1.Big, .slice x.1.1 t9.1.Dirs.length x.1.2], .slice x.2.1 t9.2.1.length x.2.2, i6 t9.2.2]) (C := fun x : (Option Addr × Nat) × (Option Addr × Nat) => Jt (Wp 36 1 gs_tag_Entry (.slice x.1.1 t9.1.Dirs.length x.1.2) t9.1.Dirs.length t9.1.Dirs) (Jw 56 2 (.slice x.2.1 t9.2.1.length x.2.2) t9.2.1.length (t9.2.1.map Jg))) (fun w L' hF hS hi => k63 (Jp w)  h_t9) call63 rfl) rfl rfl rfl (fun ⟨p, p_2⟩ => ?_)
 refine Qv 2 rfl ?_
 refine Jcd 2 rfl (fun hp css hn pf => ?_)
 rw [hn]
 refine Qv 2 rfl ?_
 refine Zm 0 2 rfl rfl (by decide) (fun _ _ => Zn) (fun hp_2 hle hle_2 => ?_)
 refine mv (.tuple #[.agg #[.bool t9.1.Big, sl p css.length], sl p_2 t9.2.1.length, i6 t9.2.2])<|lv (Qb (v := .agg #[.bool t9.1.Big, sl p css.length]) rfl rfl)<|lv (Qb (v := sl p_2 t9.2.1.length) rfl rfl)<|lv (Qb (v := i6 t9.2.2) rfl rfl)<|?_
 refine X1 (cs := [.bool false, .slice none 0 0]) zeroValue24 rfl rfl rfl (fun b3 => ?_)
 refine st (i := 5) [.bool t9.1.Big, sl p css.length] [.bool t9.1.Big, sl p css.length] sizeOf24 rfl rfl<|ag (sl p_2 t9.2.1.length)<|ag (i6 t9.2.2)<|Jd<|?_
 try dsimp only [z1, z2, z5, z6, z7, z8]
 refine Jc<|Ja<|Q4 (i := 5) (vs := [.bool t9.1.Big, sl p css.length]) isAgg24 sizeOf24 rfl rfl rfl rfl rfl<|mv (i6 t9.2.2)<|st (i := 1) [.bool t9.1.Big, sl p css.length] [.bool t9.1.Big, sl p css.length] sizeOf24 rfl rfl<|ag (i6 t9.2.2)<|Jd<|?_
 try dsimp only [z1, z2, z5, z6, z7, z8]
 refine Jl ?_
 obtain rfl := sj H2
 refine bo 0 4 rfl rfl<|Qp 0 rfl (Qh (p := p) rfl (pf.mono hle_2))<|?_
 refine Jao (i := 1) (vs := [.bool t9.1.Big, sl p css.length]) (v2 := i6 t9.2.2) isAgg24 sizeOf24 rfl rfl rfl rfl rfl (X7 p (i := 0) rfl (by first | rfl | rw [(show css.length = t9.1.Dirs.length from hn.symm)]) (by first | exact Imp.refl _ | exact Imp.of (by rw [(show css.length = t9.1.Dirs.length from hn.symm)] <;> rfl)))
theorem k14 {a0 : (List UInt8)} {r : Tf × Int} {w : World} {h : J3} (hw : Know h w Zo) (H : Jc4 a0 = some r) : Does prog 14 (List.toArray [str a0]) w (fun v w' => ∃ x : (Option Addr × Nat), v = (.tuple #[.agg #[.bool r.1.Big, sl x r.1.Dirs.length], i6 r.2]) ∧ Turn w w' Zo (Wp 36 1 gs_tag_Entry (sl x r.1.Dirs.length) r.1.Dirs.length r.1.Dirs)) := by
 refine enter (n := 30) func14 rfl rfl rfl Zo [] (Sat.nil _ _)<|Yg Qt<|Jc<|Ja<|?_
 refine X1 (cs := [.bool false, .slice none 0 0]) zeroValue24 rfl rfl rfl (fun b1 => ?_)
 refine ag (i6 0)<|Jd<|Jc<|Ja<|mv (str a0)<|?_
 obtain ⟨t9, h_t9, H10⟩ := Je H; clear H
 refine Wv (X0 (rds := []) (G := fun x : (Option Addr × Nat) => .tuple #[sl x t9.1.length, i6 t9.2]) (C := fun x : (Option Addr × Nat) => rofD true 92 2 g_tag_Segment (sl x t9.1.length) t9.1.length t9.1) (fun w L' hF hS hi => k50 (Jp w)  h_t9) call50 rfl) rfl rfl rfl (fun p => ?_)
 refine c_rofD 2 rfl (fun hp css hn hc pf => ?_)
 rw [hn]
 refine Qv 2 rfl ?_
 refine Zm 0 2 rfl rfl (by decide) (fun _ _ => Zn) (fun hp_2 hle hle_2 => ?_)
 refine mv (.tuple #[sl p css.length, i6 t9.2])<|lv (Qb (v := sl p css.length) rfl rfl)<|lv (Qb (v := i6 t9.2) rfl rfl)<|ag (sl p css.length)<|ag (i6 t9.2)<|Jd<|?_
 try dsimp only [z1, z2, z5, z6, z7, z8]
 refine Jc<|Jc<|Ja<|mv (i6 t9.2)<|lv (Yt rfl rfl)<|Jd<|?_
 try dsimp only [z1, z2, z5, z6, z7, z8]
 revert H10
 refine ci (decide (t9.2 ≠ 0)) rfl (fun hb H11=>?_) fun hb H12=>?_
 ·refine Jc<|Ja<|lv (Xv (pl := #[(0, 1), (1, 1)]) (ps := []) (cells := #[.bool false, .slice none 0 0]) zeroValue24 runUnderlying24 (fun w => by kernel_rfl) rfl rfl)<|mv (i6 t9.2)<|st (i := 1) [.bool false, .slice none 0 0] [.bool false, .slice none 0 0] sizeOf24 rfl rfl<|ag (i6 t9.2)<|Jd<|?_
  try dsimp only [z1, z2, z5, z6, z7, z8]
  refine Jl<|Jm 36 1<|?_
  obtain rfl := sj H11
  refine bo 0 4 rfl rfl<|Qp 0 rfl (Qh (p := nn) rfl (AllC.nil (G := gs_tag_Entry) (h := hp_2) (sz := 1)))<|?_
  refine Jao (i := 1) (vs := [.bool false, sl nn (([] : List (List Value)).length)]) (v2 := i6 t9.2) isAgg24 sizeOf24 rfl rfl rfl rfl rfl (X7 nn (i := 0) rfl (by first | rfl | rw [(show (([] : List (List Value)).length) = ([] : List (List Ta)).length from (AllC.nil (G := gs_tag_Entry) (h := hp_2) (sz := 1)).len)]) (by first | exact Imp.refl _ | exact Imp.of (by rw [(show (([] : List (List Value)).length) = ([] : List (List Ta)).length from (AllC.nil (G := gs_tag_Entry) (h := hp_2) (sz := 1)).len)] <;> rfl)))
 ·refine Jk<|Jc<|Ja<|mv (sl p css.length)<|?_
  obtain ⟨t17, h_t17, H13⟩ := Je H12; clear H12
  refine Qd (fun w hF hS => k52 (Jp w) (Jag (xs := t9.1) (Jic (i := 3) rfl hS rfl) ((pf.mono hle_2).mono (Jbw (i := 0) hS rfl Zn))) h_t17) call52 rfl rfl rfl<|ag (i6 t17)<|Jd<|?_
  try dsimp only [z1, z2, z5, z6, z7, z8]
  refine Jc<|Jc<|Ja<|mv (i6 t17)<|lv (Xz rfl rfl)<|Jd<|?_
  try dsimp only [z1, z2, z5, z6, z7, z8]
  revert H13
  refine ci (decide (t17 < 0)) rfl (fun hb H14=>?_) fun hb H15=>?_
  ·refine Jc<|Ja<|lv (Xv (pl := #[(0, 1), (1, 1)]) (ps := []) (cells := #[.bool false, .slice none 0 0]) zeroValue24 runUnderlying24 (fun w => by kernel_rfl) rfl rfl)<|st (i := 1) [.bool false, .slice none 0 0] [.bool false, .slice none 0 0] sizeOf24 rfl rfl<|ag (i6 7)<|Jd<|?_
   try dsimp only [z1, z2, z5, z6, z7, z8]
   refine Jl<|Jm 36 1<|?_
   obtain rfl := sj H14
   refine bo 0 4 rfl rfl<|Qp 0 rfl (Qh (p := nn) rfl (AllC.nil (G := gs_tag_Entry) (h := hp_2) (sz := 1)))<|?_
   refine Jao (i := 1) (vs := [.bool false, sl nn (([] : List (List Value)).length)]) (v2 := i6 7) isAgg24 sizeOf24 rfl rfl rfl rfl rfl (X7 nn (i := 0) rfl (by first | rfl | rw [(show (([] : List (List Value)).length) = ([] : List (List Ta)).length from (AllC.nil (G := gs_tag_Entry) (h := hp_2) (sz := 1)).len)]) (by first | exact Imp.refl _ | exact Imp.of (by rw [(show (([] : List (List Value)).length) = ([] : List (List Ta)).length from (AllC.nil (G := gs_tag_Entry) (h := hp_2) (sz := 1)).len)] <;> rfl)))
  ·refine Jk<|Jc<|Ja<|mv (sl p css.length)<|mv (i6 t17)<|?_
   obtain ⟨t23, h_t23, H16⟩ := Je H15; clear H15
   refine Xi (fun w hF hS => Ue underlying88 sizeOf92 rfl rfl (offOf (i := 3) hS rfl) rfl ((pf.mono hle_2).ix h_t23)) rfl rfl rfl ?_
   refine Jgc (fun w hF hS => someOfO (i := 3) hS rfl ((pf.mono hle_2).ix h_t23)) (fun hs => ?_)
   refine lv (Jdl runUnderlying92 rfl sizeOf9 rfl rfl hs)<|Xi (fun w hF hS => Xo (f := idC) (i := t17) (sz := 2) (j := 1) (v := str t23.Text) isAgg9 rfl rfl (offOf (i := 3) hS rfl) ((pf.mono hle_2).ix h_t23) (Jei (((pf.mono hle_2).eta h_t23).trans (Jap ((pf.mono hle_2).at h_t23))) rfl)) rfl rfl rfl<|?_
   obtain ⟨t26, h_t26, H17⟩ := Je H16; clear H16
   refine lv (Uc underlying9 rfl rfl h_t26) ?_
   obtain ⟨t27, h_t27, H18⟩ := Je H17; clear H17
   refine Wv (X0 (rds := []) (G := fun x : (Option Addr × Nat) => .tuple #[.agg #[.bool t27.1.Big, sl x t27.1.Dirs.length], i6 t27.2]) (C := fun x : (Option Addr × Nat) => Wp 36 1 gs_tag_Entry (sl x t27.1.Dirs.length) t27.1.Dirs.length t27.1.Dirs) (fun w L' hF hS hi => k18 (Jp w)  h_t27) call18 rfl) rfl rfl rfl (fun p_2 => ?_)
   refine Jcd 4 rfl (fun hp_3 css_2 hn_2 pf_2 => ?_)
   rw [hn_2]
   refine Qv 4 rfl ?_
   refine Zm 0 4 rfl rfl (by decide) (fun _ _ => Zn) (fun hp_4 hle_3 hle_4 => ?_)
   refine lv (Qb (v := .agg #[.bool t27.1.Big, sl p_2 css_2.length]) rfl rfl)<|lv (Qb (v := i6 t27.2) rfl rfl)<|st (i := 1) [.bool t27.1.Big, sl p_2 css_2.length] [.bool t27.1.Big, sl p_2 css_2.length] sizeOf24 rfl rfl<|ag (i6 t27.2)<|Jd<|?_
   try dsimp only [z1, z2, z5, z6, z7, z8]
   refine Jl ?_
   obtain rfl := sj H18
   refine bo 0 5 rfl rfl<|Qp 0 rfl (Qh (p := p_2) rfl (pf_2.mono hle_4))<|?_
   refine Jao (i := 1) (vs := [.bool t27.1.Big, sl p_2 css_2.length]) (v2 := i6 t27.2) isAgg24 sizeOf24 rfl rfl rfl rfl rfl (X7 p_2 (i := 0) rfl (by first | rfl | rw [(show css_2.length = t27.1.Dirs.length from hn_2.symm)]) (by first | exact Imp.refl _ | exact Imp.of (by rw [(show css_2.length = t27.1.Dirs.length from hn_2.symm)] <;> rfl)))
theorem k137 {a0 : (List (List Ta))} {v0 : Value} {a1 : (List (List Ta))} {v1 : Value} {a2 : ((List Ta) → (List Ta) → Option (Bool))} {v2 : Value} {r : Bool} {w : World} {h : J3} (hw : Know h w Zo) (f0 : FrN h 1 v0 gs_tag_Entry a0) (f1 : FrN h 1 v1 gs_tag_Entry a1) (f2 : FnH prog h v2 (Ws a2)) (H : Q9 a0 a1 a2 = some r) : Does prog 137 (List.toArray [v0, v1, v2]) w (fun v w' => v = (.bool r) ∧ Grow w w') := by
 refine enter (n := 32) func137 rfl rfl rfl Zo [] (Sat.nil _ _)<|Jc<|Ja<|ag (.bool false)<|Jd<|Jc<|Jc<|Ja<|mv v0<|lv (Xs underlying22 rfl f0)<|mv v1<|lv (Xs underlying22 rfl f1)<|lv (Yt rfl rfl)<|Jd<|?_
 revert H
 refine ci (decide ((a0.length : Int) ≠ (a1.length : Int))) rfl (fun hb H12=>?_) fun hb H13=>?_
 ·refine Jc<|Ja<|ag (.bool false)<|Jd<|Jl<|?_
  obtain rfl := sj H12
  exact r1 (.bool false)
 ·refine Jk<|Jc<|Jc<|Ja<|mv v0<|lv (Xs underlying22 rfl f0)<|mv (i6 0)<|Jd<|Ju<|?_
  refine Za (σ := Int) (τ := Unit) (fun next1 s => Jv a0 a1 a2 next1 s) (fun s t => [(1, v1), (2, v2), (15, v0), (16, i6 (a0.length : Int)), (17, i6 s)]) (fun s t => []) (fun s t => True) 0 () [] H13 (by exact trivial) (by exact ⟨rfl, rfl, rfl, rfl, rfl, trivial⟩) (by decide) rfl ?_
  rintro x17_2 _ m1 gg H14 _
  clear H13
  try dsimp only at H14
  generalize hn1 : it (fun next1 s => Jv a0 a1 a2 next1 s) m1 = next1 at H14
  try dsimp only
  refine Jc<|Ja<|lv (Xz rfl rfl)<|Jd<|Jc<|?_
  revert H14
  refine ci (decide (x17_2 < (a0.length : Int))) rfl (fun hb H15=>?_) fun hb H22=>?_
  ·refine Jk<|Jc<|Ju<|Jc<|Ja<|mv (i6 x17_2)<|?_
   obtain ⟨t20, h_t20, H16⟩ := Je H15; clear H15
   refine lv (Xc underlying22 sizeOf36 rfl rfl f0.frs (f0.ix h_t20))<|Xi (fun w hF hS => Xo (f := (elC h v0 1)) (i := x17_2) (sz := 1) (j := 0) (v := (Qz h v0 1 (Int.toNat x17_2) 0)) isAgg36 rfl rfl (f0.frs.row (hw.now hF)) (f0.ix h_t20) (Jei (Ua (f0.at h_t20)) rfl)) rfl rfl rfl<|ag (i6 x17_2)<|ag ((Qz h v0 1 (Int.toNat x17_2) 0))<|Jd<|Jc<|Ja<|mv v1<|mv (i6 x17_2)<|?_
   obtain ⟨t24, h_t24, H17⟩ := Je H16; clear H16
   refine lv (Xc underlying22 sizeOf36 rfl rfl f1.frs (f1.ix h_t24))<|Xi (fun w hF hS => Xo (f := (elC h v1 1)) (i := x17_2) (sz := 1) (j := 0) (v := (Qz h v1 1 (Int.toNat x17_2) 0)) isAgg36 rfl rfl (f1.frs.row (hw.now hF)) (f1.ix h_t24) (Jei (Ua (f1.at h_t24)) rfl)) rfl rfl rfl<|ag ((Qz h v1 1 (Int.toNat x17_2) 0))<|Jd<|Jc<|Ja<|mv v2<|mv ((Qz h v0 1 (Int.toNat x17_2) 0))<|mv ((Qz h v1 1 (Int.toNat x17_2) 0))<|?_
   obtain ⟨t29, h_t29, H18⟩ := Je H17; clear H17
   refine Jig (R := Ws a2) (r := .bool t29) (v := v2) (fun w hF hS => ⟨(f2.mono (hw.now hF)), ⟨t20, _, t24, _, _, ((show FrN h 6 (Qz h v0 1 (Int.toNat x17_2) 0) g_tag_Entry t20 from (f0.at h_t20)).mono (hw.now hF)), ((show FrN h 6 (Qz h v1 1 (Int.toNat x17_2) 0) g_tag_Entry t24 from (f1.at h_t24)).mono (hw.now hF)), rfl, h_t29, rfl⟩⟩) rfl rfl rfl rfl<|lv (Ja4 rfl)<|Jd<|?_
   revert H18
   refine ci (!t29) rfl (fun hb H19=>?_) fun hb H20=>?_
   ·refine Jc<|Ja<|ag (.bool false)<|Jd<|Jl<|?_
    obtain rfl := sj H19
    exact r1 (.bool false)
   ·refine Jk<|Ja<|?_
    obtain ⟨t31, h_t31, H21⟩ := Je H20; clear H20
    refine lv (J1 rfl rfl h_t31)<|mv (i6 t31)<|Jd<|?_
    exact cl t31 () m1 [] (by exact ⟨(by subst hn1; exact H21), trivial⟩)
  ·refine Xa<|Jc<|Ja<|ag (.bool true)<|Jd<|Jl<|?_
   obtain rfl := sj H22
   exact r1 (.bool true)
theorem k180 {a0 : (List Ta)} {v0 : Value} {a1 : (List Ta)} {v1 : Value} {a2 : (Ta → Ta → Option (Bool))} {v2 : Value} {r : Bool} {w : World} {h : J3} (hw : Know h w Zo) (f0 : FrN h 6 v0 g_tag_Entry a0) (f1 : FrN h 6 v1 g_tag_Entry a1) (f2 : FnH prog h v2 (Vk a2)) (H : Q8 a0 a1 a2 = some r) : Does prog 180 (List.toArray [v0, v1, v2]) w (fun v w' => v = (.bool r) ∧ Grow w w') := by
 refine enter (n := 32) func180 rfl rfl rfl Zo [] (Sat.nil _ _)<|Jc<|Ja<|ag (.bool false)<|Jd<|Jc<|Jc<|Ja<|mv v0<|lv (Xs underlying36 rfl f0)<|mv v1<|lv (Xs underlying36 rfl f1)<|lv (Yt rfl rfl)<|Jd<|?_
 revert H
 refine ci (decide ((a0.length : Int) ≠ (a1.length : Int))) rfl (fun hb H12=>?_) fun hb H13=>?_
 ·refine Jc<|Ja<|ag (.bool false)<|Jd<|Jl<|?_
  obtain rfl := sj H12
  exact r1 (.bool false)
 ·refine Jk<|Jc<|Jc<|Ja<|mv v0<|lv (Xs underlying36 rfl f0)<|mv (i6 0)<|Jd<|Ju<|?_
  refine Za (σ := Int) (τ := Unit) (fun next1 s => J6 a0 a1 a2 next1 s) (fun s t => [(1, v1), (2, v2), (15, v0), (16, i6 (a0.length : Int)), (17, i6 s)]) (fun s t => []) (fun s t => True) 0 () [] H13 (by exact trivial) (by exact ⟨rfl, rfl, rfl, rfl, rfl, trivial⟩) (by decide) rfl ?_
  rintro x17_2 _ m1 gg H14 _
  clear H13
  try dsimp only at H14
  generalize hn1 : it (fun next1 s => J6 a0 a1 a2 next1 s) m1 = next1 at H14
  try dsimp only
  refine Jc<|Ja<|lv (Xz rfl rfl)<|Jd<|Jc<|?_
  revert H14
  refine ci (decide (x17_2 < (a0.length : Int))) rfl (fun hb H15=>?_) fun hb H22=>?_
  ·refine Jk<|Jc<|Ju<|Jc<|Ja<|mv (i6 x17_2)<|?_
   obtain ⟨t20, h_t20, H16⟩ := Je H15; clear H15
   refine lv (Xc underlying36 sizeOf83 rfl rfl f0.frs (f0.ix h_t20))<|Xi (fun w hF hS => Yz (f := (elC h v0 6)) (i := x17_2) (sz := 6) (j := 0) (vs := [i6 t20.Tag, i6 t20.Value.Kind, str t20.Value.Text, (Qz h v0 6 (Int.toNat x17_2) 3), (Qz h v0 6 (Int.toNat x17_2) 4), (Qz h v0 6 (Int.toNat x17_2) 5)]) isAgg83 sizeOf83 rfl rfl (f0.frs.row (hw.now hF)) (f0.ix h_t20) (Jfp (Zi (f0.at h_t20)) rfl)) rfl rfl rfl<|?_
   refine X1 (cs := [i6 0, i6 0, str [], .slice none 0 0, .slice none 0 0, .slice none 0 0]) zeroValue83 rfl rfl rfl (fun b2 => ?_)
   refine ag (i6 x17_2)<|Jck (i := 0) (vs := [i6 t20.Tag, i6 t20.Value.Kind, str t20.Value.Text, (Qz h v0 6 (Int.toNat x17_2) 3), (Qz h v0 6 (Int.toNat x17_2) 4), (Qz h v0 6 (Int.toNat x17_2) 5)]) (cs' := [i6 t20.Tag, i6 t20.Value.Kind, str t20.Value.Text, (Qz h v0 6 (Int.toNat x17_2) 3), (Qz h v0 6 (Int.toNat x17_2) 4), (Qz h v0 6 (Int.toNat x17_2) 5)]) sizeOf83 rfl rfl rfl rfl rfl rfl (by simp only [List.all_cons, List.all_nil, (show FrN h 6 (Qz h v0 6 (Int.toNat x17_2) 5) g_tag_Entry t20.Value.Entries from (Qc (Jj (f0.at h_t20)))).one, (show FrS h 1 (Qz h v0 6 (Int.toNat x17_2) 3) (t20.Value.Ints.map Q1) from (Qo (Jj (f0.at h_t20)))).one, (show FrS h 2 (Qz h v0 6 (Int.toNat x17_2) 4) (t20.Value.Ratios.map Jn) from (Qn (Jj (f0.at h_t20)))).one] <;> rfl) rfl rfl<|Jd<|Jc<|Ja<|mv v1<|mv (i6 x17_2)<|?_
   obtain ⟨t24, h_t24, H17⟩ := Je H16; clear H16
   refine lv (Xc underlying36 sizeOf83 rfl rfl f1.frs (f1.ix h_t24))<|Xi (fun w hF hS => Yz (f := (elC h v1 6)) (i := x17_2) (sz := 6) (j := 0) (vs := [i6 t24.Tag, i6 t24.Value.Kind, str t24.Value.Text, (Qz h v1 6 (Int.toNat x17_2) 3), (Qz h v1 6 (Int.toNat x17_2) 4), (Qz h v1 6 (Int.toNat x17_2) 5)]) isAgg83 sizeOf83 rfl rfl (f1.frs.row (hw.now hF)) (f1.ix h_t24) (Jfp (Zi (f1.at h_t24)) rfl)) rfl rfl rfl<|?_
   refine X1 (cs := [i6 0, i6 0, str [], .slice none 0 0, .slice none 0 0, .slice none 0 0]) zeroValue83 rfl rfl rfl (fun b3 => ?_)
   refine Jck (i := 1) (vs := [i6 t24.Tag, i6 t24.Value.Kind, str t24.Value.Text, (Qz h v1 6 (Int.toNat x17_2) 3), (Qz h v1 6 (Int.toNat x17_2) 4), (Qz h v1 6 (Int.toNat x17_2) 5)]) (cs' := [i6 t24.Tag, i6 t24.Value.Kind, str t24.Value.Text, (Qz h v1 6 (Int.toNat x17_2) 3), (Qz h v1 6 (Int.toNat x17_2) 4), (Qz h v1 6 (Int.toNat x17_2) 5)]) sizeOf83 rfl rfl rfl rfl rfl rfl (by simp only [List.all_cons, List.all_nil, (show FrN h 6 (Qz h v1 6 (Int.toNat x17_2) 5) g_tag_Entry t24.Value.Entries from (Qc (Jj (f1.at h_t24)))).one, (show FrS h 1 (Qz h v1 6 (Int.toNat x17_2) 3) (t24.Value.Ints.map Q1) from (Qo (Jj (f1.at h_t24)))).one, (show FrS h 2 (Qz h v1 6 (Int.toNat x17_2) 4) (t24.Value.Ratios.map Jn) from (Qn (Jj (f1.at h_t24)))).one] <;> rfl) rfl rfl<|Jd<|Jc<|Ja<|mv v2<|Q4 (i := 0) (vs := [i6 t20.Tag, i6 t20.Value.Kind, str t20.Value.Text, (Qz h v0 6 (Int.toNat x17_2) 3), (Qz h v0 6 (Int.toNat x17_2) 4), (Qz h v0 6 (Int.toNat x17_2) 5)]) isAgg83 sizeOf83 rfl rfl rfl rfl rfl<|Q4 (i := 1) (vs := [i6 t24.Tag, i6 t24.Value.Kind, str t24.Value.Text, (Qz h v1 6 (Int.toNat x17_2) 3), (Qz h v1 6 (Int.toNat x17_2) 4), (Qz h v1 6 (Int.toNat x17_2) 5)]) isAgg83 sizeOf83 rfl rfl rfl rfl rfl<|?_
   obtain ⟨t29, h_t29, H18⟩ := Je H17; clear H17
   refine Jig (R := Vk a2) (r := .bool t29) (v := v2) (fun w hF hS => ⟨(f2.mono (hw.now hF)), ⟨t20, _, _, _, t24, _, _, _, _, ((show FrS h 1 (Qz h v0 6 (Int.toNat x17_2) 3) (t20.Value.Ints.map Q1) from (Qo (Jj (f0.at h_t20)))).mono (hw.now hF)), ((show FrS h 2 (Qz h v0 6 (Int.toNat x17_2) 4) (t20.Value.Ratios.map Jn) from (Qn (Jj (f0.at h_t20)))).mono (hw.now hF)), ((show FrN h 6 (Qz h v0 6 (Int.toNat x17_2) 5) g_tag_Entry t20.Value.Entries from (Qc (Jj (f0.at h_t20)))).mono (hw.now hF)), ((show FrS h 1 (Qz h v1 6 (Int.toNat x17_2) 3) (t24.Value.Ints.map Q1) from (Qo (Jj (f1.at h_t24)))).mono (hw.now hF)), ((show FrS h 2 (Qz h v1 6 (Int.toNat x17_2) 4) (t24.Value.Ratios.map Jn) from (Qn (Jj (f1.at h_t24)))).mono (hw.now hF)), ((show FrN h 6 (Qz h v1 6 (Int.toNat x17_2) 5) g_tag_Entry t24.Value.Entries from (Qc (Jj (f1.at h_t24)))).mono (hw.now hF)), rfl, h_t29, rfl⟩⟩) rfl rfl rfl rfl<|lv (Ja4 rfl)<|Jd<|?_
   revert H18
   refine ci (!t29) rfl (fun hb H19=>?_) fun hb H20=>?_
   ·refine Jc<|Ja<|ag (.bool false)<|Jd<|Jl<|?_
    obtain rfl := sj H19
    exact r1 (.bool false)
   ·refine Jk<|Ja<|?_
    obtain ⟨t31, h_t31, H21⟩ := Je H20; clear H20
    refine lv (J1 rfl rfl h_t31)<|mv (i6 t31)<|Jd<|?_
    exact cl t31 () m1 [] (by exact ⟨(by subst hn1; exact H21), trivial⟩)
  ·refine Xa<|Jc<|Ja<|ag (.bool true)<|Jd<|Jl<|?_
   obtain rfl := sj H22
   exact r1 (.bool true)
theorem k71 {a0 : (List Int)} {v0 : Value} {a1 : (List Int)} {v1 : Value} {r : Bool} {w : World} {h : J3} (hw : Know h w Zo) (f0 : FrS h 1 v0 (a0.map Q1)) (f1 : FrS h 1 v1 (a1.map Q1)) (H : Ja3 a0 a1 = some r) : Does prog 71 (List.toArray [v0, v1]) w (fun v w' => v = (.bool r) ∧ Grow w w') := by
 refine enter (n := 26) func71 rfl rfl rfl Zo [] (Sat.nil _ _)<|Jc<|Ja<|ag (.bool false)<|Jd<|Jc<|Jc<|Ja<|mv v0<|lv (Vy underlying30 rfl f0 rfl)<|mv v1<|lv (Vy underlying30 rfl f1 rfl)<|lv (Yt rfl rfl)<|Jd<|?_
 revert H
 refine ci (decide ((a0.length : Int) ≠ (a1.length : Int))) rfl (fun hb H11=>?_) fun hb H12=>?_
 ·refine Jc<|Ja<|ag (.bool false)<|Jd<|Jl<|?_
  obtain rfl := sj H11
  exact r1 (.bool false)
 ·refine Jk<|Jc<|Jc<|Ja<|mv v0<|lv (Vy underlying30 rfl f0 rfl)<|mv (i6 0)<|Jd<|Ju<|?_
  refine Za (σ := Int) (τ := Unit) (fun next1 s => Y5 a0 a1 next1 s) (fun s t => [(0, v0), (1, v1), (12, i6 (a0.length : Int)), (13, i6 s)]) (fun s t => []) (fun s t => True) 0 () [] H12 (by exact trivial) (by exact ⟨rfl, rfl, rfl, rfl, trivial⟩) (by decide) rfl ?_
  rintro x13_2 _ m1 gg H13 _
  clear H12
  try dsimp only at H13
  generalize hn1 : it (fun next1 s => Y5 a0 a1 next1 s) m1 = next1 at H13
  try dsimp only
  refine Jc<|Ja<|lv (Xz rfl rfl)<|Jd<|Jc<|?_
  revert H13
  refine ci (decide (x13_2 < (a0.length : Int))) rfl (fun hb H14=>?_) fun hb H20=>?_
  ·refine Jk<|Jc<|Ju<|Jc<|Ja<|mv (i6 x13_2)<|ag (i6 x13_2)<|Jd<|Jc<|?_
   exact Qx (Kd.p :: Kd.p :: Kd.p :: Kd.d [] _ :: Kd.p :: Kd.p :: Kd.p :: Kd.d [] _ :: Kd.p :: []) 0 mixed (by
    refine dm v0<|dm (i6 x13_2)<|?_
    have h_t18 := Jy H14
    have H15 := Jq H14
    refine dv (Xc underlying30 sizeOf3 rfl rfl f0 h_t18)<|Jcy (fun w hF => Xo (f := Q1) (i := x13_2) (sz := 1) (j := 0) (v := i6 (val (Zu a0 x13_2))) isAgg3 rfl rfl (f0.row (hw.now hF)) h_t18 rfl) rfl rfl<|dm v1<|dm (i6 x13_2)<|?_
    have h_t22 := Jy H15
    have H16 := Jq H15
    refine dv (Xc underlying30 sizeOf3 rfl rfl f1 h_t22)<|Jcy (fun w hF => Xo (f := Q1) (i := x13_2) (sz := 1) (j := 0) (v := i6 (val (Zu a1 x13_2))) isAgg3 rfl rfl (f1.row (hw.now hF)) h_t22 rfl) rfl rfl<|dv (Yt rfl rfl)<|Yw<|?_
    revert H16
    refine ci (decide ((val (Zu a0 x13_2)) ≠ (val (Zu a1 x13_2)))) rfl (fun hb H17=>?_) fun hb H18=>?_
    ·refine Jc<|Ja<|ag (.bool false)<|Jd<|Jl<|?_
     obtain rfl := sj H17
     exact r1 (.bool false)
    ·refine Jk<|Ja<|?_
     obtain ⟨t25, h_t25, H19⟩ := Je H18; clear H18
     refine lv (J1 rfl rfl h_t25)<|mv (i6 t25)<|Jd<|?_
     exact cl t25 () m1 [] (by exact ⟨(by subst hn1; exact H19), trivial⟩)
    ) (by kernel_rfl)
  ·refine Xa<|Jc<|Ja<|ag (.bool true)<|Jd<|Jl<|?_
   obtain rfl := sj H20
   exact r1 (.bool true)
theorem k219 {a0 : (List Th)} {v0 : Value} {a1 : (List Th)} {v1 : Value} {r : Bool} {w : World} {h : J3} (hw : Know h w Zo) (f0 : FrS h 2 v0 (a0.map Jn)) (f1 : FrS h 2 v1 (a1.map Jn)) (H : V1 a0 a1 = some r) : Does prog 219 (List.toArray [v0, v1]) w (fun v w' => v = (.bool r) ∧ Grow w w') := by
 refine enter (n := 26) func219 rfl rfl rfl Zo [] (Sat.nil _ _)<|Jc<|Ja<|ag (.bool false)<|Jd<|Jc<|Jc<|Ja<|mv v0<|lv (Vy underlying31 rfl f0 rfl)<|mv v1<|lv (Vy underlying31 rfl f1 rfl)<|lv (Yt rfl rfl)<|Jd<|?_
 revert H
 refine ci (decide ((a0.length : Int) ≠ (a1.length : Int))) rfl (fun hb H11=>?_) fun hb H12=>?_
 ·refine Jc<|Ja<|ag (.bool false)<|Jd<|Jl<|?_
  obtain rfl := sj H11
  exact r1 (.bool false)
 ·refine Jk<|Jc<|Jc<|Ja<|mv v0<|lv (Vy underlying31 rfl f0 rfl)<|mv (i6 0)<|Jd<|Ju<|?_
  refine Za (σ := Int) (τ := Unit) (fun next1 s => Xw a0 a1 next1 s) (fun s t => [(0, v0), (1, v1), (12, i6 (a0.length : Int)), (13, i6 s)]) (fun s t => []) (fun s t => True) 0 () [] H12 (by exact trivial) (by exact ⟨rfl, rfl, rfl, rfl, trivial⟩) (by decide) rfl ?_
  rintro x13_2 _ m1 gg H13 _
  clear H12
  try dsimp only at H13
  generalize hn1 : it (fun next1 s => Xw a0 a1 next1 s) m1 = next1 at H13
  try dsimp only
  refine Jc<|Ja<|lv (Xz rfl rfl)<|Jd<|Jc<|?_
  revert H13
  refine ci (decide (x13_2 < (a0.length : Int))) rfl (fun hb H14=>?_) fun hb H20=>?_
  ·refine Jk<|Jc<|Ju<|Jc<|Ja<|mv (i6 x13_2)<|ag (i6 x13_2)<|Jd<|Jc<|?_
   exact Qx (Kd.p :: Kd.p :: Kd.p :: Kd.d [] _ :: Kd.p :: Kd.p :: Kd.p :: Kd.d [] _ :: Kd.p :: []) 0 mixed (by
    refine dm v0<|dm (i6 x13_2)<|?_
    have h_t18 := Jy H14
    have H15 := Jq H14
    refine dv (Xc underlying31 sizeOf74 rfl rfl f0 h_t18)<|Jcy (fun w hF => Yz (f := Jn) (i := x13_2) (sz := 2) (j := 0) (vs := [i6 (val (Zu a0 x13_2)).Num, i6 (val (Zu a0 x13_2)).Den]) isAgg74 sizeOf74 rfl rfl (f0.row (hw.now hF)) h_t18 rfl) rfl rfl<|dm v1<|dm (i6 x13_2)<|?_
    have h_t22 := Jy H15
    have H16 := Jq H15
    refine dv (Xc underlying31 sizeOf74 rfl rfl f1 h_t22)<|Jcy (fun w hF => Yz (f := Jn) (i := x13_2) (sz := 2) (j := 0) (vs := [i6 (val (Zu a1 x13_2)).Num, i6 (val (Zu a1 x13_2)).Den]) isAgg74 sizeOf74 rfl rfl (f1.row (hw.now hF)) h_t22 rfl) rfl rfl<|dv (r_neqA (xs := #[i6 (val (Zu a0 x13_2)).Num, i6 (val (Zu a0 x13_2)).Den]) (ys := #[i6 (val (Zu a1 x13_2)).Num, i6 (val (Zu a1 x13_2)).Den]) eqGuardType74 (fun w => Jhq w (val (Zu a0 x13_2)) (val (Zu a1 x13_2))) rfl rfl)<|Yw<|?_
    revert H16
    refine ci (!(Jbx (val (Zu a0 x13_2)) (val (Zu a1 x13_2)))) rfl (fun hb H17=>?_) fun hb H18=>?_
    ·refine Jc<|Ja<|ag (.bool false)<|Jd<|Jl<|?_
     obtain rfl := sj H17
     exact r1 (.bool false)
    ·refine Jk<|Ja<|?_
     obtain ⟨t25, h_t25, H19⟩ := Je H18; clear H18
     refine lv (J1 rfl rfl h_t25)<|mv (i6 t25)<|Jd<|?_
     exact cl t25 () m1 [] (by exact ⟨(by subst hn1; exact H19), trivial⟩)
    ) (by kernel_rfl)
  ·refine Xa<|Jc<|Ja<|ag (.bool true)<|Jd<|Jl<|?_
   obtain rfl := sj H20
   exact r1 (.bool true)
theorem k182_b {self : ((List Ta) × (List Ta)) → Option (Bool)} (ih : ∀ {a0 : (List Ta)} {v0 : Value} {a1 : (List Ta)} {v1 : Value} {r : Bool} {w : World} {h : J3} (hw : Know h w Zo) (f0 : FrN h 6 v0 g_tag_Entry a0) (f1 : FrN h 6 v1 g_tag_Entry a1) (_ : self (a0, a1) = some r), Does prog 138 (List.toArray [v0, v1]) w (fun v w' => v = (.bool r) ∧ Grow w w')) {a0 : Tg} {v0_2 : Value} {v0_3 : Value} {v0_4 : Value} {a1 : Tg} {v1_2 : Value} {v1_3 : Value} {v1_4 : Value} {r : Bool} {w : World} {h : J3} (hw : Know h w Zo) (f0_2 : FrS h 1 v0_2 (a0.Ints.map Q1)) (f0_3 : FrS h 2 v0_3 (a0.Ratios.map Jn)) (f0_4 : FrN h 6 v0_4 g_tag_Entry a0.Entries) (f1_2 : FrS h 1 v1_2 (a1.Ints.map Q1)) (f1_3 : FrS h 2 v1_3 (a1.Ratios.map Jn)) (f1_4 : FrN h 6 v1_4 g_tag_Entry a1.Entries) (H : Jce self a0 a1 = some r) : Does prog 182 (List.toArray [.agg #[i6 a0.Kind, str a0.Text, v0_2, v0_3, v0_4], .agg #[i6 a1.Kind, str a1.Text, v1_2, v1_3, v1_4]]) w (fun v w' => v = (.bool r) ∧ Grow w w') := by
 refine enter (n := 38) func182 rfl rfl rfl Zo [] (Sat.nil _ _)<|Jc<|Ja<|?_
 refine Wj (cs := [i6 a0.Kind, str a0.Text, v0_2, v0_3, v0_4]) rfl rfl rfl rfl (fun b2 => ?_)
 refine Wj (cs := [i6 a1.Kind, str a1.Text, v1_2, v1_3, v1_4]) rfl rfl rfl rfl (fun b3 => ?_)
 refine ag (.bool false)<|Jd<|Jc<|Ja<|lf runUnderlying38 rfl sizeOf3 rfl<|ll 0 (i6 a0.Kind) isAgg3<|lf runUnderlying38 rfl sizeOf3 rfl<|ll 1 (i6 a1.Kind) isAgg3<|lv (Ql rfl rfl)<|mv (.bool (decide (a0.Kind = a1.Kind)))<|?_
 revert H
 refine sp (fun hb H12=>?_) fun hb H22=>?_
 ·refine lf runUnderlying38 rfl sizeOf9 rfl<|ll 0 (str a0.Text) isAgg9<|lf runUnderlying38 rfl sizeOf9 rfl<|ll 1 (str a1.Text) isAgg9<|lv (Jfn rfl rfl)<|pT (.bool (decide (a0.Text = a1.Text)))<|mv (.bool (decide (a0.Text = a1.Text)))<|?_
  revert H12
  refine sp (fun hb H13=>?_) fun hb H21=>?_
  ·refine lf runUnderlying38 rfl sizeOf30 rfl<|ll 0 v0_2 isAgg30<|lf runUnderlying38 rfl sizeOf30 rfl<|ll 1 v1_2 isAgg30<|?_
   obtain ⟨t22, h_t22, H14⟩ := Je H13; clear H13
   refine Qd (fun w hF hS => k71 (Jp w) (f0_2.mono (hw.now hF)) (f1_2.mono (hw.now hF)) h_t22) call71 rfl rfl rfl<|pT (.bool t22)<|mv (.bool t22)<|?_
   revert H14
   refine sp (fun hb H15=>?_) fun hb H20=>?_
   ·refine lf runUnderlying38 rfl sizeOf31 rfl<|ll 0 v0_3 isAgg31<|lf runUnderlying38 rfl sizeOf31 rfl<|ll 1 v1_3 isAgg31<|?_
    obtain ⟨t29, h_t29, H16⟩ := Je H15; clear H15
    refine Qd (fun w hF hS => k219 (Jp w) (f0_3.mono (hw.now hF)) (f1_3.mono (hw.now hF)) h_t29) call219 rfl rfl rfl<|pT (.bool t29)<|mv (.bool t29)<|?_
    revert H16
    refine sp (fun hb H17=>?_) fun hb H19=>?_
    ·refine lf runUnderlying38 rfl sizeOf36 rfl<|ll 0 v0_4 isAgg36<|lf runUnderlying38 rfl sizeOf36 rfl<|ll 1 v1_4 isAgg36<|?_
     obtain ⟨t36, h_t36, H18⟩ := Je H17; clear H17
     refine Qd (fun w hF hS => ih (Jp w) (f0_4.mono (hw.now hF)) (f1_4.mono (hw.now hF)) h_t36) call138 rfl rfl rfl<|pT (.bool t36)<|ag (.bool t36)<|Jd<|Jl<|?_
     obtain rfl := sj H18
     exact r1 (.bool t36)
    ·refine pa<|pa<|pa<|pa<|pa<|pF (.bool false)<|ag (.bool false)<|Jd<|Jl<|?_
     obtain rfl := sj H19
     exact r1 (.bool false)
   ·refine pa<|pa<|pa<|pa<|pa<|pF (.bool false)<|mv (.bool false)<|pa<|pa<|pa<|pa<|pa<|pF (.bool false)<|ag (.bool false)<|Jd<|Jl<|?_
    obtain rfl := sj H20
    exact r1 (.bool false)
  ·refine pa<|pa<|pa<|pa<|pa<|pF (.bool false)<|mv (.bool false)<|pa<|pa<|pa<|pa<|pa<|pF (.bool false)<|mv (.bool false)<|pa<|pa<|pa<|pa<|pa<|pF (.bool false)<|ag (.bool false)<|Jd<|Jl<|?_
   obtain rfl := sj H21
   exact r1 (.bool false)
 ·refine pa<|pa<|pa<|pa<|pa<|pF (.bool false)<|mv (.bool false)<|pa<|pa<|pa<|pa<|pa<|pF (.bool false)<|mv (.bool false)<|pa<|pa<|pa<|pa<|pa<|pF (.bool false)<|mv (.bool false)<|pa<|pa<|pa<|pa<|pa<|pF (.bool false)<|ag (.bool false)<|Jd<|Jl<|?_
  obtain rfl := sj H22
  exact r1 (.bool false)
theorem k181_b {self : ((List Ta) × (List Ta)) → Option (Bool)} (ih : ∀ {a0 : (List Ta)} {v0 : Value} {a1 : (List Ta)} {v1 : Value} {r : Bool} {w : World} {h : J3} (hw : Know h w Zo) (f0 : FrN h 6 v0 g_tag_Entry a0) (f1 : FrN h 6 v1 g_tag_Entry a1) (_ : self (a0, a1) = some r), Does prog 138 (List.toArray [v0, v1]) w (fun v w' => v = (.bool r) ∧ Grow w w')) {a0 : Ta} {v0_1_2 : Value} {v0_1_3 : Value} {v0_1_4 : Value} {a1 : Ta} {v1_1_2 : Value} {v1_1_3 : Value} {v1_1_4 : Value} {r : Bool} {w : World} {h : J3} (hw : Know h w Zo) (f0_1_2 : FrS h 1 v0_1_2 (a0.Value.Ints.map Q1)) (f0_1_3 : FrS h 2 v0_1_3 (a0.Value.Ratios.map Jn)) (f0_1_4 : FrN h 6 v0_1_4 g_tag_Entry a0.Value.Entries) (f1_1_2 : FrS h 1 v1_1_2 (a1.Value.Ints.map Q1)) (f1_1_3 : FrS h 2 v1_1_3 (a1.Value.Ratios.map Jn)) (f1_1_4 : FrN h 6 v1_1_4 g_tag_Entry a1.Value.Entries) (H : Jcc self a0 a1 = some r) : Does prog 181 (List.toArray [.agg #[i6 a0.Tag, i6 a0.Value.Kind, str a0.Value.Text, v0_1_2, v0_1_3, v0_1_4], .agg #[i6 a1.Tag, i6 a1.Value.Kind, str a1.Value.Text, v1_1_2, v1_1_3, v1_1_4]]) w (fun v w' => v = (.bool r) ∧ Grow w w') := by
 refine enter (n := 17) func181 rfl rfl rfl Zo [] (Sat.nil _ _)<|Jc<|Ja<|?_
 refine Wj (cs := [i6 a0.Tag, i6 a0.Value.Kind, str a0.Value.Text, v0_1_2, v0_1_3, v0_1_4]) rfl rfl rfl rfl (fun b2 => ?_)
 refine Wj (cs := [i6 a1.Tag, i6 a1.Value.Kind, str a1.Value.Text, v1_1_2, v1_1_3, v1_1_4]) rfl rfl rfl rfl (fun b3 => ?_)
 refine ag (.bool false)<|Jd<|Jc<|Ja<|lf runUnderlying83 rfl sizeOf3 rfl<|ll 0 (i6 a0.Tag) isAgg3<|lf runUnderlying83 rfl sizeOf3 rfl<|ll 1 (i6 a1.Tag) isAgg3<|lv (Ql rfl rfl)<|mv (.bool (decide (a0.Tag = a1.Tag)))<|?_
 revert H
 refine sp (fun hb H4=>?_) fun hb H6=>?_
 ·refine lf runUnderlying83 rfl sizeOf38 rfl<|Q4 (i := 0) (vs := [i6 a0.Value.Kind, str a0.Value.Text, v0_1_2, v0_1_3, v0_1_4]) isAgg38 sizeOf38 rfl rfl rfl rfl rfl<|lf runUnderlying83 rfl sizeOf38 rfl<|Q4 (i := 1) (vs := [i6 a1.Value.Kind, str a1.Value.Text, v1_1_2, v1_1_3, v1_1_4]) isAgg38 sizeOf38 rfl rfl rfl rfl rfl<|?_
  obtain ⟨t15, h_t15, H5⟩ := Je H4; clear H4
  refine Qd (fun w hF hS => k182_b ih (Jp w) (f0_1_2.mono (hw.now hF)) (f0_1_3.mono (hw.now hF)) (f0_1_4.mono (hw.now hF)) (f1_1_2.mono (hw.now hF)) (f1_1_3.mono (hw.now hF)) (f1_1_4.mono (hw.now hF)) h_t15) call182 rfl rfl rfl<|pT (.bool t15)<|ag (.bool t15)<|Jd<|Jl<|?_
  obtain rfl := sj H5
  exact r1 (.bool t15)
 ·refine pa<|pa<|pa<|pa<|pa<|pF (.bool false)<|ag (.bool false)<|Jd<|Jl<|?_
  obtain rfl := sj H6
  exact r1 (.bool false)
theorem k138_it (mm : Nat) : ∀ {a0 : (List Ta)} {v0 : Value} {a1 : (List Ta)} {v1 : Value} {r : Bool} {w : World} {h : J3} (hw : Know h w Zo) (f0 : FrN h 6 v0 g_tag_Entry a0) (f1 : FrN h 6 v1 g_tag_Entry a1) (H : it (fun (self : ((List Ta) × (List Ta)) → Option (Bool)) (s : (List Ta) × (List Ta)) => X5 self s.1 s.2) mm (a0, a1) = some r), Does prog 138 (List.toArray [v0, v1]) w (fun v w' => v = (.bool r) ∧ Grow w w') := by
 induction mm with
 | zero => intros; rename_i H; exact absurd H (by simp [it])
 | succ mm ih =>
  intro a0 v0 a1 v1 r w h hw f0 f1 H
  replace H : X5 (it (fun (self : ((List Ta) × (List Ta)) → Option (Bool)) (s : (List Ta) × (List Ta)) => X5 self s.1 s.2) mm) a0 a1 = some r := H
  generalize it (fun (self : ((List Ta) × (List Ta)) → Option (Bool)) (s : (List Ta) × (List Ta)) => X5 self s.1 s.2) mm = self at H ih
  refine enter (n := 8) func138 rfl rfl rfl Zo [] (Sat.nil _ _)<|Jc<|Ja<|ag (.bool false)<|Jd<|Jc<|Ja<|mv v0<|mv v1<|?_
  obtain ⟨t7, h_t7, H2⟩ := Je H; clear H
  refine Qd (fun w hF hS => k180 (Jp w) (f0.mono (hw.now hF)) (f1.mono (hw.now hF)) (FnH.mk ⟨181, #[], #[], rfl, call181, fun args2 post2 w2 hk2 hR2 => by obtain ⟨a0_, v0_1_2_, v0_1_3_, v0_1_4_, a1_, v1_1_2_, v1_1_3_, v1_1_4_, r_, fa0_1_2_, fa0_1_3_, fa0_1_4_, fa1_1_2_, fa1_1_3_, fa1_1_4_, rfl, H_, rfl⟩ := hR2; exact k181_b ih (Jp w2) fa0_1_2_ fa0_1_3_ fa0_1_4_ fa1_1_2_ fa1_1_3_ fa1_1_4_ H_⟩) h_t7) call180 rfl rfl rfl<|ag (.bool t7)<|Jd<|Jl<|?_
  obtain rfl := sj H2
  exact r1 (.bool t7)
theorem k138 {a0 : (List Ta)} {v0 : Value} {a1 : (List Ta)} {v1 : Value} {r : Bool} {w : World} {h : J3} (hw : Know h w Zo) (f0 : FrN h 6 v0 g_tag_Entry a0) (f1 : FrN h 6 v1 g_tag_Entry a1) (H : Jdc a0 a1 = some r) : Does prog 138 (List.toArray [v0, v1]) w (fun v w' => v = (.bool r) ∧ Grow w w') := by
 obtain ⟨mm, hm⟩ := Je1 (show Zs (fun (self : ((List Ta) × (List Ta)) → Option (Bool)) (s : (List Ta) × (List Ta)) => X5 self s.1 s.2) (a0, a1) = some r from H)
 exact k138_it mm hw f0 f1 hm
theorem k68 {a0 : Tf} {v0_1 : Value} {a1 : Tf} {v1_1 : Value} {r : Bool} {w : World} {h : J3} (hw : Know h w Zo) (f0_1 : FrN h 1 v0_1 gs_tag_Entry a0.Dirs) (f1_1 : FrN h 1 v1_1 gs_tag_Entry a1.Dirs) (H : Ux a0 a1 = some r) : Does prog 68 (List.toArray [.agg #[.bool a0.Big, v0_1], .agg #[.bool a1.Big, v1_1]]) w (fun v w' => v = (.bool r) ∧ Grow w w') := by
 refine enter (n := 17) func68 rfl rfl rfl Zo [] (Sat.nil _ _)<|Jc<|Ja<|?_
 refine Wj (cs := [.bool a0.Big, v0_1]) rfl rfl rfl rfl (fun b2 => ?_)
 refine Wj (cs := [.bool a1.Big, v1_1]) rfl rfl rfl rfl (fun b3 => ?_)
 refine ag (.bool false)<|Jd<|Jc<|Ja<|lf runUnderlying24 rfl sizeOf4 rfl<|ll 0 (.bool a0.Big) isAgg4<|lf runUnderlying24 rfl sizeOf4 rfl<|ll 1 (.bool a1.Big) isAgg4<|lv (r_eqlB underlying4 rfl rfl)<|mv (.bool (decide (a0.Big = a1.Big)))<|?_
 revert H
 refine sp (fun hb H4=>?_) fun hb H6=>?_
 ·refine lf runUnderlying24 rfl sizeOf22 rfl<|ll 0 v0_1 isAgg22<|lf runUnderlying24 rfl sizeOf22 rfl<|ll 1 v1_1 isAgg22<|?_
  obtain ⟨t15, h_t15, H5⟩ := Je H4; clear H4
  refine Qd (fun w hF hS => k137 (Jp w) (f0_1.mono (hw.now hF)) (f1_1.mono (hw.now hF)) (FnH.mk ⟨138, #[], #[], rfl, call138, fun args2 post2 w2 hk2 hR2 => by obtain ⟨a0_, v0_, a1_, v1_, r_, fa0_, fa1_, rfl, H_, rfl⟩ := hR2; exact k138 (Jp w2) fa0_ fa1_ H_⟩) h_t15) call137 rfl rfl rfl<|pT (.bool t15)<|ag (.bool t15)<|Jd<|Jl<|?_
  obtain rfl := sj H5
  exact r1 (.bool t15)
 ·refine pa<|pa<|pa<|pa<|pa<|pF (.bool false)<|ag (.bool false)<|Jd<|Jl<|?_
  obtain rfl := sj H6
  exact r1 (.bool false)
theorem k23 {a0 : Tf} {v0_1 : Value} {a1 : Int} {a2 : Tf} {v2_1 : Value} {a3 : Int} {r : Bool} {w : World} {h : J3} (hw : Know h w Zo) (f0_1 : FrN h 1 v0_1 gs_tag_Entry a0.Dirs) (f2_1 : FrN h 1 v2_1 gs_tag_Entry a2.Dirs) (H : Jg5 a0 a1 a2 a3 = some r) : Does prog 23 (List.toArray [.agg #[.bool a0.Big, v0_1], i6 a1, .agg #[.bool a2.Big, v2_1], i6 a3]) w (fun v w' => v = (.bool r) ∧ Grow w w') := by
 refine enter (n := 20) func23 rfl rfl rfl Zo [] (Sat.nil _ _)<|Jc<|Ja<|?_
 refine Wj (cs := [.bool a0.Big, v0_1]) rfl rfl rfl rfl (fun b2 => ?_)
 refine Wj (cs := [.bool a2.Big, v2_1]) rfl rfl rfl rfl (fun b3 => ?_)
 refine ag (.bool false)<|Jd<|?_
 refine Qj (r := r) (σ := Bool × (List (List Ta))) (τ := Value) (fun s => Jcr a0 a1 a3 s.1 s.2) (fun s t => [(1, i6 a1), (3, i6 a3), (4, .pointer (some ⟨b2, 0, none⟩)), (6, .pointer (some ⟨b3, 0, none⟩))]) (fun s t => [Jf b2 [.bool a0.Big, v0_1] 24, Jf b3 [.bool s.1, t] 24]) (fun s t => FrN h 1 t gs_tag_Entry s.2) ?_ ?_
 ·refine Jc<|Ja<|mv (i6 a3)<|lv (Yt rfl rfl)<|Jd<|?_
  revert H
  refine ci (decide (a3 ≠ 0)) rfl (fun hb H11=>?_) fun hb H12=>?_
  ·refine Ja<|lv (Xv (pl := #[(0, 1), (1, 1)]) (ps := []) (cells := #[.bool false, .slice none 0 0]) zeroValue24 runUnderlying24 (fun w => by kernel_rfl) rfl rfl)<|st (i := 1) [.bool false, .slice none 0 0] [.bool false, .slice none 0 0] sizeOf24 rfl rfl<|Jd<|?_
   exact cl (false, ([] : (List (List Ta)))) (.slice none 0 0) 0 [0, 1] (by exact ⟨H11, (FrN.nil _ _ _)⟩)
  ·refine Jk ?_
   exact cl (a2.Big, a2.Dirs) v2_1 0 [0, 1] (by exact ⟨H12, f2_1⟩)
 ·rintro ⟨m, m_2⟩ gv gg H7 gf
  try dsimp only at H7
  try dsimp only
  refine Jc<|Ja<|Q4 (i := 0) (vs := [.bool a0.Big, v0_1]) isAgg24 sizeOf24 rfl rfl rfl rfl rfl<|Q4 (i := 1) (vs := [.bool m, gv]) isAgg24 sizeOf24 rfl rfl rfl rfl rfl<|?_
  obtain ⟨t14, h_t14, H8⟩ := Je H7; clear H7
  refine Qd (fun w hF hS => k68 (Jp w) (f0_1.mono (hw.now hF)) (gf.mono (hw.now hF)) h_t14) call68 rfl rfl rfl<|mv (.bool t14)<|?_
  revert H8
  refine sp (fun hb H9=>?_) fun hb H10=>?_
  ·refine mv (i6 a1)<|mv (i6 a3)<|lv (Ql rfl rfl)<|pT (.bool (decide (a1 = a3)))<|ag (.bool (decide (a1 = a3)))<|Jd<|Jl<|?_
   obtain rfl := sj H9
   exact r1 (.bool (decide (a1 = a3)))
  ·refine pa<|pa<|pa<|pF (.bool false)<|ag (.bool false)<|Jd<|Jl<|?_
   obtain rfl := sj H10
   exact r1 (.bool false)
theorem k27 {a0 : (List UInt8)} {a1 : Int} {a2 : (List UInt8)} {a3 : Int} {r : Bool} (H : Jbn a0 a1 a2 a3 = some r) : Ret prog 27 [str a0, i6 a1, str a2, i6 a3] (.bool r) := by
 refine Yu (n := 21) func27 rfl rfl rfl (fun wd => ?_)
 refine Jc<|Ja<|ag (.bool false)<|Jd<|Jc<|Ja<|ag (str [])<|Jd<|?_
 refine Qj (r := r) (σ := (List UInt8)) (τ := Unit) (fun s => Wi a0 a1 a3 s) (fun s t => [(0, str a0), (1, i6 a1), (2, str s), (3, i6 a3)]) (fun s t => []) (fun s t => True) ?_ ?_
 ·refine Jc<|Ja<|mv (i6 a3)<|lv (Yt rfl rfl)<|Jd<|?_
  revert H
  refine ci (decide (a3 ≠ 0)) rfl (fun hb H9=>?_) fun hb H10=>?_
  ·refine Ja<|mv (str [])<|ag (str [])<|Jd<|?_
   exact cl [] () 0 [] (by exact ⟨H9, trivial⟩)
  ·refine Jk ?_
   exact cl a2 () 0 [] (by exact ⟨H10, trivial⟩)
 ·rintro x2 _ gg H6 _
  try dsimp only at H6
  try dsimp only
  refine Jc<|Ja<|mv (str a0)<|mv (str x2)<|lv (Jfn rfl rfl)<|mv (.bool (decide (a0 = x2)))<|?_
  revert H6
  refine sp (fun hb H7=>?_) fun hb H8=>?_
  ·refine mv (i6 a1)<|mv (i6 a3)<|lv (Ql rfl rfl)<|pT (.bool (decide (a1 = a3)))<|ag (.bool (decide (a1 = a3)))<|Jd<|Jl<|?_
   obtain rfl := sj H7
   exact r1 (.bool (decide (a1 = a3)))
  ·refine pa<|pa<|pa<|pF (.bool false)<|ag (.bool false)<|Jd<|Jl<|?_
   obtain rfl := sj H8
   exact r1 (.bool false)
theorem k19 {a0 : (List UInt8)} {r : Tf × Int} {w : World} {h : J3} (hw : Know h w Zo) (tb_pow10 : TabH prog h "internal/strconv.uint64pow10" .u64 Lib.pow10Tab) (H : Jet a0 = some r) : Does prog 19 (List.toArray [str a0]) w (fun v w' => ∃ x : (Option Addr × Nat), v = (.tuple #[.agg #[.bool r.1.Big, sl x r.1.Dirs.length], i6 r.2]) ∧ Turn w w' Zo (Wp 36 1 gs_tag_Entry (sl x r.1.Dirs.length) r.1.Dirs.length r.1.Dirs)) := by
 refine enter (n := 12) func19 rfl rfl rfl Zo [] (Sat.nil _ _)<|Jc<|Ja<|?_
 refine X1 (cs := [.bool false, .slice none 0 0]) zeroValue24 rfl rfl rfl (fun b2 => ?_)
 refine ag (i6 0)<|Jd<|Jc<|Ja<|mv (str a0)<|lv (Xv (pl := #[(0, 1), (1, 1), (2, 1), (3, 1), (4, 1)]) (ps := [(0, str a0)]) (cells := #[str a0, .bool false, .map none, .slice none 0 0, .map none]) zeroValue119 runUnderlying119 (fun w => by kernel_rfl) rfl rfl)<|?_
 refine Wj (cs := [str a0, .bool false, .map none, .slice none 0 0, .map none]) rfl rfl rfl rfl (fun b3 => ?_)
 refine ag (.pointer (some ⟨b3, 0, none⟩))<|Jd<|Jc<|Ja<|mv (.pointer (some ⟨b3, 0, none⟩))<|Jm 56 2<|bo 1 2 rfl rfl<|?_
 refine l_turnK (i := 1) (rds := []) (G := fun (t9 : Tf × Int × Te) (x : (Option Addr × Nat) × Nat × (Option Addr × Nat) × Nat) => .tuple #[.agg #[.bool t9.1.Big, .slice x.1.1 t9.1.Dirs.length x.1.2], i6 t9.2.1]) (C := fun (t9 : Tf × Int × Te) (x : (Option Addr × Nat) × Nat × (Option Addr × Nat) × Nat) => Jt (Jf b3 [str t9.2.2.s_, .bool t9.2.2.big_, .map (some x.2.1), .slice x.2.2.1.1 t9.2.2.parts_.length x.2.2.1.2, .map (some x.2.2.2)] 119) (Jt (Q0 (fun x_ : Int => i6 x_) (fun x_ : Bool => .bool x_) x.2.1 t9.2.2.starts_) (Jt (Jw 56 2 (.slice x.2.2.1.1 t9.2.2.parts_.length x.2.2.1.2) t9.2.2.parts_.length (t9.2.2.parts_.map Jg)) (Jt (Q0 (fun x_ : (List UInt8) => str x_) (fun x_ : Ti => .agg #[i6 x_.entry_, i6 x_.from_, i6 x_.to_]) x.2.2.2 t9.2.2.places_) (Wp 36 1 gs_tag_Entry (.slice x.1.1 t9.1.Dirs.length x.1.2) t9.1.Dirs.length t9.1.Dirs))))) rfl (fun w L' S hF hS hi hp hlt ho hA => k65 (a0 := (⟨a0, false, ([] : (List (Int × Bool))), ([] : List Td), ([] : (List ((List UInt8) × Ti)))⟩ : Te)) (p0_3 := nn) hp hlt (Qr w S) rfl (tb_pow10.mono (hw.but hF ho)) H) call65 rfl rfl rfl (fun t9 ⟨p, p_2, p_3, p_4⟩ H2 => ?_)
 clear H
 refine ub 1 2 rfl rfl<|Qv 2 rfl<|Qv 3 rfl<|Qv 4 rfl<|lv (Qb (v := .agg #[.bool t9.1.Big, sl p t9.1.Dirs.length]) rfl rfl)<|lv (Qb (v := i6 t9.2.1) rfl rfl)<|st (i := 0) [.bool t9.1.Big, sl p t9.1.Dirs.length] [.bool t9.1.Big, sl p t9.1.Dirs.length] sizeOf24 rfl rfl<|ag (i6 t9.2.1)<|Jd<|Jl<|?_
 obtain rfl := sj H2
 refine Jao (i := 0) (vs := [.bool t9.1.Big, sl p t9.1.Dirs.length]) (v2 := i6 t9.2.1) isAgg24 sizeOf24 rfl rfl rfl rfl rfl (X7 p (i := 5) rfl rfl (Imp.refl _))
theorem k186 {a0 : (List UInt8)} {a1 : (List UInt8)} {r : Bool} (H : X6 a0 a1 = some r) : Ret prog 186 [str a0, str a1] (.bool r) := by
 refine Yu (n := 18) func186 rfl rfl rfl (fun wd => ?_)
 refine Jc<|Ja<|ag (.bool false)<|Jd<|Jc<|Ja<|mv (str a0)<|lv (Xn underlying9 rfl)<|mv (str a1)<|lv (Xn underlying9 rfl)<|lv (Jff rfl rfl)<|mv (.bool (decide ((a1.length : Int) ≤ (a0.length : Int))))<|?_
 revert H
 refine sp (fun hb H4=>?_) fun hb H6=>?_
 ·refine mv (str a0)<|mv (str a1)<|lv (Xn underlying9 rfl)<|?_
  obtain ⟨t14, h_t14, H5⟩ := Je H4; clear H4
  refine lv (Un underlying9 rfl rfl h_t14)<|mv (str a1)<|lv (Jfn rfl rfl)<|pT (.bool (decide (t14 = a1)))<|ag (.bool (decide (t14 = a1)))<|Jd<|Jl<|?_
  obtain rfl := sj H5
  exact r1 (.bool (decide (t14 = a1)))
 ·refine pa<|pa<|pa<|pa<|pa<|pa<|pF (.bool false)<|ag (.bool false)<|Jd<|Jl<|?_
  obtain rfl := sj H6
  exact r1 (.bool false)
theorem k147 {a0 : (List UInt8)} {a1 : (List UInt8)} {r : Bool} (H : Y9 a0 a1 = some r) : Ret prog 147 [str a0, str a1] (.bool r) := by
 refine Yu (n := 8) func147 rfl rfl rfl (fun wd => ?_)
 refine Jc<|Ja<|ag (.bool false)<|Jd<|Jc<|Ja<|mv (str a0)<|mv (str a1)<|?_
 obtain ⟨t7, h_t7, H2⟩ := Je H; clear H
 refine Yy (k186 h_t7) call186 rfl rfl rfl<|ag (.bool t7)<|Jd<|Jl<|?_
 obtain rfl := sj H2
 exact r1 (.bool t7)
theorem k149 {a0 : Int} {r : Bool} (H : Jbe a0 = some r) : Ret prog 149 [i6 a0] (.bool r) := by
 refine Yu (n := 17) func149 rfl rfl rfl (fun wd => ?_)
 refine Jc<|Ja<|ag (.bool false)<|Jd<|Jc<|Ja<|mv (i6 a0)<|lv (Jff rfl rfl)<|mv (.bool (decide (192 ≤ a0)))<|?_
 revert H
 refine sp (fun hb H7=>?_) fun hb H12=>?_
 ·refine mv (i6 a0)<|lv (Jfo rfl rfl)<|pT (.bool (decide (a0 ≤ 254)))<|mv (.bool (decide (a0 ≤ 254)))<|?_
  revert H7
  refine sp (fun hb H8=>?_) fun hb H11=>?_
  ·refine mv (i6 a0)<|lv (Yt rfl rfl)<|pT (.bool (decide (a0 ≠ 216)))<|mv (.bool (decide (a0 ≠ 216)))<|?_
   revert H8
   refine sp (fun hb H9=>?_) fun hb H10=>?_
   ·refine mv (i6 a0)<|lv (Yt rfl rfl)<|pT (.bool (decide (a0 ≠ 217)))<|ag (.bool (decide (a0 ≠ 217)))<|Jd<|Jl<|?_
    obtain rfl := sj H9
    exact r1 (.bool (decide (a0 ≠ 217)))
   ·refine pa<|pa<|pF (.bool false)<|ag (.bool false)<|Jd<|Jl<|?_
    obtain rfl := sj H10
    exact r1 (.bool false)
  ·refine pa<|pa<|pF (.bool false)<|mv (.bool false)<|pa<|pa<|pF (.bool false)<|ag (.bool false)<|Jd<|Jl<|?_
   obtain rfl := sj H11
   exact r1 (.bool false)
 ·refine pa<|pa<|pF (.bool false)<|mv (.bool false)<|pa<|pa<|pF (.bool false)<|mv (.bool false)<|pa<|pa<|pF (.bool false)<|ag (.bool false)<|Jd<|Jl<|?_
  obtain rfl := sj H12
  exact r1 (.bool false)
theorem k87 {a0 : (List UInt8)} {r : (List Tc) × Int} {w : World} {h : J3} (hw : Know h w Zo) (H : Vz a0 = some r) : Does prog 87 (List.toArray [str a0]) w (fun v w' => ∃ x : (Option Addr × Nat), v = (.tuple #[sl x r.1.length, i6 r.2]) ∧ Turn w w' Zo (Wp 92 2 g_tag_Segment (sl x r.1.length) r.1.length r.1)) := by
 refine enter (n := 112) func87 rfl rfl rfl Zo [] (Sat.nil _ _)<|Yg Qt<|Jc<|Ja<|ag (.slice none 0 0)<|ag (i6 0)<|Jd<|Jc<|Jc<|Ja<|mv (str a0)<|lv (Xn underlying9 rfl)<|lv (Yn rfl rfl)<|Jd<|?_
 revert H
 refine ci (decide (200000 < (a0.length : Int))) rfl (fun hb H57=>?_) fun hb H58=>?_
 ·refine Jc<|Ja<|ag (.slice none 0 0)<|ag (i6 4)<|Jd<|Jl<|Jm 92 2<|?_
  obtain rfl := sj H57
  refine bo 0 1 rfl rfl<|Qp 0 rfl (Qh (p := nn) rfl (AllC.nil (G := g_tag_Segment) (h := Qt) (sz := 2)))<|?_
  refine Z7 (v1 := sl nn (([] : List (List Value)).length)) (v2 := i6 4) rfl rfl rfl (X7 nn (i := 0) rfl (by first | rfl | rw [(show (([] : List (List Value)).length) = ([] : List Tc).length from (AllC.nil (G := g_tag_Segment) (h := Qt) (sz := 2)).len)]) (by first | exact Imp.refl _ | exact Imp.of (by rw [(show (([] : List (List Value)).length) = ([] : List Tc).length from (AllC.nil (G := g_tag_Segment) (h := Qt) (sz := 2)).len)] <;> rfl)))
 ·refine Jk<|Jc<|Jc<|Ja<|mv (str a0)<|?_
  obtain ⟨t12, h_t12, H59⟩ := Je H58; clear H58
  refine Yy (k147 h_t12) call147 rfl rfl rfl<|lv (Ja4 rfl)<|Jd<|?_
  revert H59
  refine ci (!t12) rfl (fun hb H60=>?_) fun hb H61=>?_
  ·refine Jc<|Ja<|ag (.slice none 0 0)<|ag (i6 8)<|Jd<|Jl<|Jm 92 2<|?_
   obtain rfl := sj H60
   refine bo 0 1 rfl rfl<|Qp 0 rfl (Qh (p := nn) rfl (AllC.nil (G := g_tag_Segment) (h := Qt) (sz := 2)))<|?_
   refine Z7 (v1 := sl nn (([] : List (List Value)).length)) (v2 := i6 8) rfl rfl rfl (X7 nn (i := 0) rfl (by first | rfl | rw [(show (([] : List (List Value)).length) = ([] : List Tc).length from (AllC.nil (G := g_tag_Segment) (h := Qt) (sz := 2)).len)]) (by first | exact Imp.refl _ | exact Imp.of (by rw [(show (([] : List (List Value)).length) = ([] : List Tc).length from (AllC.nil (G := g_tag_Segment) (h := Qt) (sz := 2)).len)] <;> rfl)))
  ·refine Jk<|Jc<|Ja<|ag (.slice none 0 0)<|Jd<|?_
   refine Qj (r := r) (σ := (List Tc)) (τ := (List (List Value)) × (Option Addr × Nat)) (fun s => Jbh s) (fun s t => [(4, .slice t.2.1 t.1.length t.2.2)]) (fun s t => [X8 Qt Qt, Jw 92 2 (.slice t.2.1 t.1.length t.2.2) t.1.length (t.1.map idC)]) (fun s t => AllC g_tag_Segment Qt 2 t.1 s) ?_ ?_
   ·refine Jc<|Ja<|ag (i6 2)<|Jd<|Ju<|Jm 92 2<|?_
    refine Za (σ := (List UInt8) × Int × (List Tc)) (τ := (List (List Value)) × (Option Addr × Nat)) (fun next2 s => Xj next2 s.1 s.2.1 s.2.2) (fun s t => [(0, str s.1), (4, .slice t.2.1 t.1.length t.2.2), (5, i6 s.2.1)]) (fun s t => [X8 Qt Qt, Jw 92 2 (.slice t.2.1 t.1.length t.2.2) t.1.length (t.1.map idC)]) (fun s t => AllC g_tag_Segment Qt 2 t.1 s.2.2) (a0, 2, ([] : List Tc)) (([] : List (List Value)), nn) [0, 1] H61 (by exact (AllC.nil (G := g_tag_Segment) (h := Qt) (sz := 2))) (by exact ⟨rfl, rfl, rfl, trivial⟩) (by decide) rfl ?_
    rintro ⟨x0_2, x5_2, l_3⟩ ⟨css_2, p_2⟩ m2 gg H65 pf_3
    clear H61
    try dsimp only at H65
    generalize hn2 : it (fun next2 s => Xj next2 s.1 s.2.1 s.2.2) m2 = next2 at H65
    try dsimp only
    refine Ju<|Jc<|Jc<|Ja<|mv (str x0_2)<|lv (Xn underlying9 rfl)<|mv (i6 x5_2)<|?_
    obtain ⟨t17, h_t17, H66⟩ := Je H65; clear H65
    refine lv (Zf rfl rfl h_t17)<|lv (Xz rfl rfl)<|mv (.bool (decide (t17 < 2)))<|?_
    revert H66
    refine sp (fun hb H67=>?_) fun hb H68=>?_
    ·refine pa<|pa<|pa<|pa<|pT (.bool true)<|mv (.bool true)<|pa<|pa<|pa<|pa<|pa<|pa<|pa<|pT (.bool true)<|Jd<|Vj rfl<|Jc<|Ja<|ag (.slice none 0 0)<|ag (i6 8)<|Jd<|Jl<|Jm 92 2<|?_
     obtain rfl := sj H67
     refine bo 0 2 rfl rfl<|Qp 0 rfl (Qh (p := nn) rfl (AllC.nil (G := g_tag_Segment) (h := Qt) (sz := 2)))<|?_
     refine Z7 (v1 := sl nn (([] : List (List Value)).length)) (v2 := i6 8) rfl rfl rfl (X7 nn (i := 0) rfl (by first | rfl | rw [(show (([] : List (List Value)).length) = ([] : List Tc).length from (AllC.nil (G := g_tag_Segment) (h := Qt) (sz := 2)).len)]) (by first | exact Imp.refl _ | exact Imp.of (by rw [(show (([] : List (List Value)).length) = ([] : List Tc).length from (AllC.nil (G := g_tag_Segment) (h := Qt) (sz := 2)).len)] <;> rfl)))
    ·refine mv (str x0_2)<|mv (i6 x5_2)<|?_
     obtain ⟨t22, h_t22, H69⟩ := Je H68; clear H68
     refine lv (Jaf underlying9 rfl rfl h_t22)<|lv (Yt rfl rfl)<|pF (.bool (decide (t22 ≠ 255)))<|mv (.bool (decide (t22 ≠ 255)))<|?_
     revert H69
     refine sp (fun hb H70=>?_) fun hb H71=>?_
     ·refine pa<|pa<|pa<|pa<|pa<|pa<|pa<|pT (.bool true)<|Jd<|Vj rfl<|Jc<|Ja<|ag (.slice none 0 0)<|ag (i6 8)<|Jd<|Jl<|Jm 92 2<|?_
      obtain rfl := sj H70
      refine bo 0 2 rfl rfl<|Qp 0 rfl (Qh (p := nn) rfl (AllC.nil (G := g_tag_Segment) (h := Qt) (sz := 2)))<|?_
      refine Z7 (v1 := sl nn (([] : List (List Value)).length)) (v2 := i6 8) rfl rfl rfl (X7 nn (i := 0) rfl (by first | rfl | rw [(show (([] : List (List Value)).length) = ([] : List Tc).length from (AllC.nil (G := g_tag_Segment) (h := Qt) (sz := 2)).len)]) (by first | exact Imp.refl _ | exact Imp.of (by rw [(show (([] : List (List Value)).length) = ([] : List Tc).length from (AllC.nil (G := g_tag_Segment) (h := Qt) (sz := 2)).len)] <;> rfl)))
     ·refine mv (str x0_2)<|mv (i6 x5_2)<|?_
      obtain ⟨t28, h_t28, H72⟩ := Je H71; clear H71
      refine lv (J1 rfl rfl h_t28) ?_
      obtain ⟨t29, h_t29, H73⟩ := Je H72; clear H72
      refine lv (Jaf underlying9 rfl rfl h_t29) ?_
      obtain ⟨t30, h_t30, H74⟩ := Je H73; clear H73
      refine lv (Ui runUnderlying5 runUnderlying3 rfl (Jd7 h_t30)) ?_
      obtain ⟨t31, h_t31, H75⟩ := Je H74; clear H74
      refine Yy (k149 h_t31) call149 rfl rfl rfl<|lv (Ja4 rfl)<|pF (.bool (!t31))<|Jd<|?_
      revert H75
      refine ci (!t31) rfl (fun hb H76=>?_) fun hb H77=>?_
      ·refine Jc<|Ja<|ag (.slice none 0 0)<|ag (i6 8)<|Jd<|Jl<|Jm 92 2<|?_
       obtain rfl := sj H76
       refine bo 0 2 rfl rfl<|Qp 0 rfl (Qh (p := nn) rfl (AllC.nil (G := g_tag_Segment) (h := Qt) (sz := 2)))<|?_
       refine Z7 (v1 := sl nn (([] : List (List Value)).length)) (v2 := i6 8) rfl rfl rfl (X7 nn (i := 0) rfl (by first | rfl | rw [(show (([] : List (List Value)).length) = ([] : List Tc).length from (AllC.nil (G := g_tag_Segment) (h := Qt) (sz := 2)).len)]) (by first | exact Imp.refl _ | exact Imp.of (by rw [(show (([] : List (List Value)).length) = ([] : List Tc).length from (AllC.nil (G := g_tag_Segment) (h := Qt) (sz := 2)).len)] <;> rfl)))
      ·refine Jk<|Jc<|Ja<|mv (str x0_2)<|mv (i6 x5_2)<|?_
       obtain ⟨t36, h_t36, H78⟩ := Je H77; clear H77
       refine lv (J1 rfl rfl h_t36) ?_
       obtain ⟨t37, h_t37, H79⟩ := Je H78; clear H78
       refine lv (Jaf underlying9 rfl rfl h_t37) ?_
       obtain ⟨t38, h_t38, H80⟩ := Je H79; clear H79
       refine lv (Ui runUnderlying5 runUnderlying3 rfl (Jd7 h_t38))<|ag (i6 t38)<|Jd<|Jc<|Ja<|mv (i6 x5_2)<|?_
       obtain ⟨t40, h_t40, H81⟩ := Je H80; clear H80
       refine lv (J1 rfl rfl h_t40)<|ag (i6 t40)<|Jd<|Jc<|Jc<|Ja<|mv (i6 t38)<|lv (Ql rfl rfl)<|Jd<|?_
       revert H81
       refine ci (decide (t38 = 218)) rfl (fun hb H82=>?_) fun hb H93=>?_
       ·refine Jc<|Jc<|Ja<|mv (str x0_2)<|lv (Xn underlying9 rfl)<|mv (i6 t40)<|?_
        obtain ⟨t46, h_t46, H83⟩ := Je H82; clear H82
        refine lv (Zf rfl rfl h_t46)<|lv (Xz rfl rfl)<|mv (.bool (decide (t46 < 2)))<|?_
        revert H83
        refine sp (fun hb H84=>?_) fun hb H85=>?_
        ·refine pa<|pa<|pa<|pa<|pa<|pa<|pT (.bool true)<|Jd<|Vj rfl<|Jc<|Ja<|ag (.slice none 0 0)<|ag (i6 8)<|Jd<|Jl<|Jm 92 2<|?_
         obtain rfl := sj H84
         refine bo 0 2 rfl rfl<|Qp 0 rfl (Qh (p := nn) rfl (AllC.nil (G := g_tag_Segment) (h := Qt) (sz := 2)))<|?_
         refine Z7 (v1 := sl nn (([] : List (List Value)).length)) (v2 := i6 8) rfl rfl rfl (X7 nn (i := 0) rfl (by first | rfl | rw [(show (([] : List (List Value)).length) = ([] : List Tc).length from (AllC.nil (G := g_tag_Segment) (h := Qt) (sz := 2)).len)]) (by first | exact Imp.refl _ | exact Imp.of (by rw [(show (([] : List (List Value)).length) = ([] : List Tc).length from (AllC.nil (G := g_tag_Segment) (h := Qt) (sz := 2)).len)] <;> rfl)))
        ·refine mv (str x0_2)<|mv (str x0_2)<|lv (Xn underlying9 rfl)<|?_
         obtain ⟨t52, h_t52, H86⟩ := Je H85; clear H85
         refine lv (Zf rfl rfl h_t52) ?_
         obtain ⟨t53, h_t53, H87⟩ := Je H86; clear H86
         refine lv (Uc underlying9 rfl rfl h_t53)<|lv (Jea rfl rfl)<|pF (.bool (decide (t53 ≠ [255, 217])))<|Jd<|?_
         revert H87
         refine ci (decide (t53 ≠ [255, 217])) rfl (fun hb H88=>?_) fun hb H89=>?_
         ·refine Jc<|Ja<|ag (.slice none 0 0)<|ag (i6 8)<|Jd<|Jl<|Jm 92 2<|?_
          obtain rfl := sj H88
          refine bo 0 2 rfl rfl<|Qp 0 rfl (Qh (p := nn) rfl (AllC.nil (G := g_tag_Segment) (h := Qt) (sz := 2)))<|?_
          refine Z7 (v1 := sl nn (([] : List (List Value)).length)) (v2 := i6 8) rfl rfl rfl (X7 nn (i := 0) rfl (by first | rfl | rw [(show (([] : List (List Value)).length) = ([] : List Tc).length from (AllC.nil (G := g_tag_Segment) (h := Qt) (sz := 2)).len)]) (by first | exact Imp.refl _ | exact Imp.of (by rw [(show (([] : List (List Value)).length) = ([] : List Tc).length from (AllC.nil (G := g_tag_Segment) (h := Qt) (sz := 2)).len)] <;> rfl)))
         ·refine Jk<|Jc<|Ja<|mv (sl p_2 css_2.length)<|mv (i6 t38)<|mv (str x0_2)<|mv (i6 t40)<|mv (str x0_2)<|lv (Xn underlying9 rfl)<|?_
          obtain ⟨t62, h_t62, H90⟩ := Je H89; clear H89
          refine lv (Zf rfl rfl h_t62) ?_
          obtain ⟨t63, h_t63, H91⟩ := Je H90; clear H90
          refine lv (Jc7 underlying9 rfl rfl rfl h_t63)<|lv (Xv (pl := #[(0, 1), (1, 1)]) (ps := [(0, i6 t38), (1, str t63)]) (cells := #[i6 t38, str t63]) zeroValue92 runUnderlying92 (fun w => by kernel_rfl) rfl rfl)<|?_
          refine Qg (vs := [.agg #[i6 t38, str t63]]) (cs := [i6 t38, str t63]) underlying88 sizeOf92 zeroValue92 rfl rfl rfl rfl rfl rfl rfl (fun b2 => ?_)
          obtain ⟨l66, h_l66, H92⟩ := Je H91; clear H91
          refine Qe (V5 (i := 1) (k := 2) (p := p_2) (f := idC) (ys := css_2) (ls := [[i6 t38, str t63]]) underlying88 (Q5 typeInfo92) rfl rfl rfl rfl rfl rfl rfl rfl rfl rfl rfl rfl rfl rfl rfl (app63 (pf_3.app h_l66 (nc := [[i6 t38, str t63]]) rfl)) rfl) rfl rfl rfl (fun p_3 => ?_)
          have pf_4 : AllC g_tag_Segment Qt 2 (css_2 ++ [[i6 t38, str t63]]) l66 := AllC.snocG pf_3 h_l66 rfl (⟨rfl, rfl⟩)
          refine ag (sl p_3 ((css_2 ++ [[i6 t38, str t63]]).length))<|Jd<|?_
          try dsimp only [z1, z2, z5, z6, z7, z8]
          refine Xa ?_
          exact cl l66 ((css_2 ++ [[i6 t38, str t63]]), p_3) 0 [0, 1] (by exact ⟨H92, pf_4⟩)
       ·refine Jk<|Jc<|Jc<|Ja<|mv (str x0_2)<|lv (Xn underlying9 rfl)<|mv (i6 t40)<|?_
        obtain ⟨t70, h_t70, H94⟩ := Je H93; clear H93
        refine lv (Zf rfl rfl h_t70)<|lv (Xz rfl rfl)<|Jd<|?_
        revert H94
        refine ci (decide (t70 < 2)) rfl (fun hb H95=>?_) fun hb H96=>?_
        ·refine Jc<|Ja<|ag (.slice none 0 0)<|ag (i6 8)<|Jd<|Jl<|Jm 92 2<|?_
         obtain rfl := sj H95
         refine bo 0 2 rfl rfl<|Qp 0 rfl (Qh (p := nn) rfl (AllC.nil (G := g_tag_Segment) (h := Qt) (sz := 2)))<|?_
         refine Z7 (v1 := sl nn (([] : List (List Value)).length)) (v2 := i6 8) rfl rfl rfl (X7 nn (i := 0) rfl (by first | rfl | rw [(show (([] : List (List Value)).length) = ([] : List Tc).length from (AllC.nil (G := g_tag_Segment) (h := Qt) (sz := 2)).len)]) (by first | exact Imp.refl _ | exact Imp.of (by rw [(show (([] : List (List Value)).length) = ([] : List Tc).length from (AllC.nil (G := g_tag_Segment) (h := Qt) (sz := 2)).len)] <;> rfl)))
        ·refine Jk<|Jc<|?_
         exact Qx (Kd.p :: Kd.p :: Kd.p :: Kd.p :: Kd.p :: Kd.p :: Kd.p :: Kd.p :: Kd.p :: Kd.p :: Kd.p :: Kd.p :: []) 0 mixed (by
          refine dm (str x0_2)<|dm (i6 t40)<|?_
          have h_t74 := Jy H96
          have H97 := Jq H96
          refine dv (Jaf underlying9 rfl rfl h_t74) ?_
          have h_t75 := Jy H97
          have H98 := Jq H97
          refine dv (Ui runUnderlying5 runUnderlying3 rfl (Jd7 h_t75)) ?_
          have h_t76 := Jy H98
          have H99 := Jq H98
          refine dv (r_shlG rfl rfl h_t76)<|dm (str x0_2)<|dm (i6 t40)<|?_
          have h_t79 := Jy H99
          have H100 := Jq H99
          refine dv (J1 rfl rfl h_t79) ?_
          have h_t80 := Jy H100
          have H101 := Jq H100
          refine dv (Jaf underlying9 rfl rfl h_t80) ?_
          have h_t81 := Jy H101
          have H102 := Jq H101
          refine dv (Ui runUnderlying5 runUnderlying3 rfl (Jd7 h_t81))<|dv (Jgx (bits := 64) rfl rfl rfl (Jhz _))<|Vf rfl rfl (Xd (v := i6 (Ud (bOr 64 (val (Jbt (val (gK (-9223372036854775808) 9223372036854775807 (val (Zt x0_2 t40)))) 8)) (val (gK (-9223372036854775808) 9223372036854775807 (val (Zt x0_2 (val (gI (t40 + 1)))))))))) rfl)<|Yw<|Jc<|Jc<|Ja<|mv (i6 (Ud (bOr 64 (val (Jbt (val (gK (-9223372036854775808) 9223372036854775807 (val (Zt x0_2 t40)))) 8)) (val (gK (-9223372036854775808) 9223372036854775807 (val (Zt x0_2 (val (gI (t40 + 1))))))))))<|lv (Xz rfl rfl)<|mv (.bool (decide ((Ud (bOr 64 (val (Jbt (val (gK (-9223372036854775808) 9223372036854775807 (val (Zt x0_2 t40)))) 8)) (val (gK (-9223372036854775808) 9223372036854775807 (val (Zt x0_2 (val (gI (t40 + 1))))))))) < 2)))<|?_
          revert H102
          refine sp (fun hb H103=>?_) fun hb H104=>?_
          ·refine pa<|pa<|pa<|pa<|pa<|pa<|pT (.bool true)<|Jd<|Vj rfl<|Jc<|Ja<|ag (.slice none 0 0)<|ag (i6 8)<|Jd<|Jl<|Jm 92 2<|?_
           obtain rfl := sj H103
           refine bo 0 2 rfl rfl<|Qp 0 rfl (Qh (p := nn) rfl (AllC.nil (G := g_tag_Segment) (h := Qt) (sz := 2)))<|?_
           refine Z7 (v1 := sl nn (([] : List (List Value)).length)) (v2 := i6 8) rfl rfl rfl (X7 nn (i := 0) rfl (by first | rfl | rw [(show (([] : List (List Value)).length) = ([] : List Tc).length from (AllC.nil (G := g_tag_Segment) (h := Qt) (sz := 2)).len)]) (by first | exact Imp.refl _ | exact Imp.of (by rw [(show (([] : List (List Value)).length) = ([] : List Tc).length from (AllC.nil (G := g_tag_Segment) (h := Qt) (sz := 2)).len)] <;> rfl)))
          ·refine mv (i6 (Ud (bOr 64 (val (Jbt (val (gK (-9223372036854775808) 9223372036854775807 (val (Zt x0_2 t40)))) 8)) (val (gK (-9223372036854775808) 9223372036854775807 (val (Zt x0_2 (val (gI (t40 + 1))))))))))<|mv (str x0_2)<|lv (Xn underlying9 rfl)<|mv (i6 t40)<|?_
           obtain ⟨t90, h_t90, H105⟩ := Je H104; clear H104
           refine lv (Zf rfl rfl h_t90)<|lv (Yn rfl rfl)<|pF (.bool (decide (t90 < (Ud (bOr 64 (val (Jbt (val (gK (-9223372036854775808) 9223372036854775807 (val (Zt x0_2 t40)))) 8)) (val (gK (-9223372036854775808) 9223372036854775807 (val (Zt x0_2 (val (gI (t40 + 1))))))))))))<|Jd<|?_
           revert H105
           refine ci (decide (t90 < (Ud (bOr 64 (val (Jbt (val (gK (-9223372036854775808) 9223372036854775807 (val (Zt x0_2 t40)))) 8)) (val (gK (-9223372036854775808) 9223372036854775807 (val (Zt x0_2 (val (gI (t40 + 1))))))))))) rfl (fun hb H106=>?_) fun hb H107=>?_
           ·refine Jc<|Ja<|ag (.slice none 0 0)<|ag (i6 8)<|Jd<|Jl<|Jm 92 2<|?_
            obtain rfl := sj H106
            refine bo 0 2 rfl rfl<|Qp 0 rfl (Qh (p := nn) rfl (AllC.nil (G := g_tag_Segment) (h := Qt) (sz := 2)))<|?_
            refine Z7 (v1 := sl nn (([] : List (List Value)).length)) (v2 := i6 8) rfl rfl rfl (X7 nn (i := 0) rfl (by first | rfl | rw [(show (([] : List (List Value)).length) = ([] : List Tc).length from (AllC.nil (G := g_tag_Segment) (h := Qt) (sz := 2)).len)]) (by first | exact Imp.refl _ | exact Imp.of (by rw [(show (([] : List (List Value)).length) = ([] : List Tc).length from (AllC.nil (G := g_tag_Segment) (h := Qt) (sz := 2)).len)] <;> rfl)))
           ·refine Jk<|Jc<|Ja<|mv (sl p_2 css_2.length)<|mv (i6 t38)<|mv (str x0_2)<|mv (i6 t40)<|?_
            obtain ⟨t97, h_t97, H108⟩ := Je H107; clear H107
            refine lv (J1 rfl rfl h_t97)<|mv (i6 t40)<|mv (i6 (Ud (bOr 64 (val (Jbt (val (gK (-9223372036854775808) 9223372036854775807 (val (Zt x0_2 t40)))) 8)) (val (gK (-9223372036854775808) 9223372036854775807 (val (Zt x0_2 (val (gI (t40 + 1))))))))))<|?_
            obtain ⟨t100, h_t100, H109⟩ := Je H108; clear H108
            refine lv (J1 rfl rfl h_t100) ?_
            obtain ⟨t101, h_t101, H110⟩ := Je H109; clear H109
            refine lv (Jc7 underlying9 rfl rfl rfl h_t101)<|lv (Xv (pl := #[(0, 1), (1, 1)]) (ps := [(0, i6 t38), (1, str t101)]) (cells := #[i6 t38, str t101]) zeroValue92 runUnderlying92 (fun w => by kernel_rfl) rfl rfl)<|?_
            refine Qg (vs := [.agg #[i6 t38, str t101]]) (cs := [i6 t38, str t101]) underlying88 sizeOf92 zeroValue92 rfl rfl rfl rfl rfl rfl rfl (fun b3 => ?_)
            obtain ⟨l104, h_l104, H111⟩ := Je H110; clear H110
            refine Qe (V5 (i := 1) (k := 2) (p := p_2) (f := idC) (ys := css_2) (ls := [[i6 t38, str t101]]) underlying88 (Q5 typeInfo92) rfl rfl rfl rfl rfl rfl rfl rfl rfl rfl rfl rfl rfl rfl rfl (app63 (pf_3.app h_l104 (nc := [[i6 t38, str t101]]) rfl)) rfl) rfl rfl rfl (fun p_4 => ?_)
            have pf_5 : AllC g_tag_Segment Qt 2 (css_2 ++ [[i6 t38, str t101]]) l104 := AllC.snocG pf_3 h_l104 rfl (⟨rfl, rfl⟩)
            refine ag (sl p_4 ((css_2 ++ [[i6 t38, str t101]]).length))<|Jd<|?_
            try dsimp only [z1, z2, z5, z6, z7, z8]
            refine Ja<|mv (i6 t40)<|mv (i6 (Ud (bOr 64 (val (Jbt (val (gK (-9223372036854775808) 9223372036854775807 (val (Zt x0_2 t40)))) 8)) (val (gK (-9223372036854775808) 9223372036854775807 (val (Zt x0_2 (val (gI (t40 + 1))))))))))<|?_
            obtain ⟨t107, h_t107, H112⟩ := Je H111; clear H111
            refine lv (J1 rfl rfl h_t107)<|ag (i6 t107)<|Jd<|?_
            try dsimp only [z1, z2, z5, z6, z7, z8]
            exact cl (x0_2, t107, l104) ((css_2 ++ [[i6 t38, str t101]]), p_4) m2 [0, 1] (by exact ⟨(by subst hn2; exact H112), pf_5⟩)
          ) (by kernel_rfl)
   ·rintro l ⟨css, p⟩ gg H62 pf
    try dsimp only at H62
    try dsimp only
    refine Jc<|Jc<|Ja<|mv (sl p css.length)<|lv (Jhx underlying88 rfl pf.len)<|lv (Yn rfl rfl)<|Jd<|?_
    revert H62
    refine ci (decide (200 < (l.length : Int))) rfl (fun hb H63=>?_) fun hb H64=>?_
    ·refine Jc<|Ja<|ag (.slice none 0 0)<|ag (i6 4)<|Jd<|Jl<|Jm 92 2<|?_
     obtain rfl := sj H63
     refine bo 0 2 rfl rfl<|Qp 0 rfl (Qh (p := nn) rfl (AllC.nil (G := g_tag_Segment) (h := Qt) (sz := 2)))<|?_
     refine Z7 (v1 := sl nn (([] : List (List Value)).length)) (v2 := i6 4) rfl rfl rfl (X7 nn (i := 0) rfl (by first | rfl | rw [(show (([] : List (List Value)).length) = ([] : List Tc).length from (AllC.nil (G := g_tag_Segment) (h := Qt) (sz := 2)).len)]) (by first | exact Imp.refl _ | exact Imp.of (by rw [(show (([] : List (List Value)).length) = ([] : List Tc).length from (AllC.nil (G := g_tag_Segment) (h := Qt) (sz := 2)).len)] <;> rfl)))
    ·refine Jk<|Jc<|Ja<|mv (sl p css.length)<|ag (sl p css.length)<|ag (i6 0)<|Jd<|Jl<|?_
     obtain rfl := sj H64
     refine bo 0 1 rfl rfl<|Qp 0 rfl (Qh (p := p) rfl pf)<|?_
     refine Z7 (v1 := sl p css.length) (v2 := i6 0) rfl rfl rfl (X7 p (i := 0) rfl (by first | rfl | rw [(show css.length = l.length from pf.len)]) (by first | exact Imp.refl _ | exact Imp.of (by rw [(show css.length = l.length from pf.len)] <;> rfl)))
theorem k150 {a0 : Tc} {r : Bool} (H : Jdn a0 = some r) : Ret prog 150 [.agg #[i6 a0.Kind, str a0.Text]] (.bool r) := by
 refine Yu (n := 11) func150 rfl rfl rfl (fun wd => ?_)
 refine Jc<|Ja<|?_
 refine Wj (cs := [i6 a0.Kind, str a0.Text]) rfl rfl rfl rfl (fun b1 => ?_)
 refine ag (.bool false)<|Jd<|Jc<|Ja<|lf runUnderlying92 rfl sizeOf3 rfl<|ll 0 (i6 a0.Kind) isAgg3<|lv (Ql rfl rfl)<|mv (.bool (decide (a0.Kind = 225)))<|?_
 revert H
 refine sp (fun hb H4=>?_) fun hb H6=>?_
 ·refine lf runUnderlying92 rfl sizeOf9 rfl<|ll 0 (str a0.Text) isAgg9<|?_
  obtain ⟨t9, h_t9, H5⟩ := Je H4; clear H4
  refine Yy (k147 h_t9) call147 rfl rfl rfl<|pT (.bool t9)<|ag (.bool t9)<|Jd<|Jl<|?_
  obtain rfl := sj H5
  exact r1 (.bool t9)
 ·refine pa<|pa<|pa<|pF (.bool false)<|ag (.bool false)<|Jd<|Jl<|?_
  obtain rfl := sj H6
  exact r1 (.bool false)
theorem k88 {a0 : (List Tc)} {v0 : Value} {r : Int} {w : World} {h : J3} (hw : Know h w Zo) (f0 : FrN h 2 v0 g_tag_Segment a0) (H : Jfj a0 = some r) : Does prog 88 (List.toArray [v0]) w (fun v w' => v = (i6 r) ∧ Grow w w') := by
 refine enter (n := 5) func88 rfl rfl rfl Zo [] (Sat.nil _ _)<|Jc<|Ja<|ag (i6 0)<|Jd<|Jc<|Ja<|mv v0<|?_
 obtain ⟨t4, h_t4, H2⟩ := Je H; clear H
 refine Qd (fun w hF hS => k119 (Jp w) (f0.mono (hw.now hF)) (FnH.mk ⟨150, #[], #[], rfl, call150, fun args2 post2 w2 hk2 hR2 => by obtain ⟨a0_, r_, rfl, H_, rfl⟩ := hR2; exact k150 H_ w2⟩) h_t4) call119 rfl rfl rfl<|ag (i6 t4)<|Jd<|Jl<|?_
 obtain rfl := sj H2
 exact r1 (i6 t4)
theorem k28 {a0 : (List UInt8)} {r : Tf × Int} {w : World} {h : J3} (hw : Know h w Zo) (tb_pow10 : TabH prog h "internal/strconv.uint64pow10" .u64 Lib.pow10Tab) (H : Jc5 a0 = some r) : Does prog 28 (List.toArray [str a0]) w (fun v w' => ∃ x : (Option Addr × Nat), v = (.tuple #[.agg #[.bool r.1.Big, sl x r.1.Dirs.length], i6 r.2]) ∧ Turn w w' Zo (Wp 36 1 gs_tag_Entry (sl x r.1.Dirs.length) r.1.Dirs.length r.1.Dirs)) := by
 refine enter (n := 30) func28 rfl rfl rfl Zo [] (Sat.nil _ _)<|Yg Qt<|Jc<|Ja<|?_
 refine X1 (cs := [.bool false, .slice none 0 0]) zeroValue24 rfl rfl rfl (fun b1 => ?_)
 refine ag (i6 0)<|Jd<|Jc<|Ja<|mv (str a0)<|?_
 obtain ⟨t9, h_t9, H10⟩ := Je H; clear H
 refine Wv (X0 (rds := []) (G := fun x : (Option Addr × Nat) => .tuple #[sl x t9.1.length, i6 t9.2]) (C := fun x : (Option Addr × Nat) => Wp 92 2 g_tag_Segment (sl x t9.1.length) t9.1.length t9.1) (fun w L' hF hS hi => k87 (Jp w)  h_t9) call87 rfl) rfl rfl rfl (fun p => ?_)
 refine Jcd 2 rfl (fun hp css hn pf => ?_)
 rw [hn]
 refine Qv 2 rfl ?_
 refine Zm 0 2 rfl rfl (by decide) (fun _ _ => Zn) (fun hp_2 hle hle_2 => ?_)
 refine mv (.tuple #[sl p css.length, i6 t9.2])<|lv (Qb (v := sl p css.length) rfl rfl)<|lv (Qb (v := i6 t9.2) rfl rfl)<|ag (sl p css.length)<|ag (i6 t9.2)<|Jd<|?_
 try dsimp only [z1, z2, z5, z6, z7, z8]
 refine Jc<|Jc<|Ja<|mv (i6 t9.2)<|lv (Yt rfl rfl)<|Jd<|?_
 try dsimp only [z1, z2, z5, z6, z7, z8]
 revert H10
 refine ci (decide (t9.2 ≠ 0)) rfl (fun hb H11=>?_) fun hb H12=>?_
 ·refine Jc<|Ja<|lv (Xv (pl := #[(0, 1), (1, 1)]) (ps := []) (cells := #[.bool false, .slice none 0 0]) zeroValue24 runUnderlying24 (fun w => by kernel_rfl) rfl rfl)<|mv (i6 t9.2)<|st (i := 1) [.bool false, .slice none 0 0] [.bool false, .slice none 0 0] sizeOf24 rfl rfl<|ag (i6 t9.2)<|Jd<|?_
  try dsimp only [z1, z2, z5, z6, z7, z8]
  refine Jl<|Jm 36 1<|?_
  obtain rfl := sj H11
  refine bo 0 4 rfl rfl<|Qp 0 rfl (Qh (p := nn) rfl (AllC.nil (G := gs_tag_Entry) (h := hp_2) (sz := 1)))<|?_
  refine Jao (i := 1) (vs := [.bool false, sl nn (([] : List (List Value)).length)]) (v2 := i6 t9.2) isAgg24 sizeOf24 rfl rfl rfl rfl rfl (X7 nn (i := 0) rfl (by first | rfl | rw [(show (([] : List (List Value)).length) = ([] : List (List Ta)).length from (AllC.nil (G := gs_tag_Entry) (h := hp_2) (sz := 1)).len)]) (by first | exact Imp.refl _ | exact Imp.of (by rw [(show (([] : List (List Value)).length) = ([] : List (List Ta)).length from (AllC.nil (G := gs_tag_Entry) (h := hp_2) (sz := 1)).len)] <;> rfl)))
 ·refine Jk<|Jc<|Ja<|mv (sl p css.length)<|?_
  obtain ⟨t17, h_t17, H13⟩ := Je H12; clear H12
  refine Qd (fun w hF hS => k88 (Jp w) (Jag (xs := t9.1) (Ye (i := 3) rfl hS rfl) ((pf.mono hle_2).mono (Jbw (i := 0) hS rfl Zn))) h_t17) call88 rfl rfl rfl<|ag (i6 t17)<|Jd<|?_
  try dsimp only [z1, z2, z5, z6, z7, z8]
  refine Jc<|Jc<|Ja<|mv (i6 t17)<|lv (Xz rfl rfl)<|Jd<|?_
  try dsimp only [z1, z2, z5, z6, z7, z8]
  revert H13
  refine ci (decide (t17 < 0)) rfl (fun hb H14=>?_) fun hb H15=>?_
  ·refine Jc<|Ja<|lv (Xv (pl := #[(0, 1), (1, 1)]) (ps := []) (cells := #[.bool false, .slice none 0 0]) zeroValue24 runUnderlying24 (fun w => by kernel_rfl) rfl rfl)<|st (i := 1) [.bool false, .slice none 0 0] [.bool false, .slice none 0 0] sizeOf24 rfl rfl<|ag (i6 7)<|Jd<|?_
   try dsimp only [z1, z2, z5, z6, z7, z8]
   refine Jl<|Jm 36 1<|?_
   obtain rfl := sj H14
   refine bo 0 4 rfl rfl<|Qp 0 rfl (Qh (p := nn) rfl (AllC.nil (G := gs_tag_Entry) (h := hp_2) (sz := 1)))<|?_
   refine Jao (i := 1) (vs := [.bool false, sl nn (([] : List (List Value)).length)]) (v2 := i6 7) isAgg24 sizeOf24 rfl rfl rfl rfl rfl (X7 nn (i := 0) rfl (by first | rfl | rw [(show (([] : List (List Value)).length) = ([] : List (List Ta)).length from (AllC.nil (G := gs_tag_Entry) (h := hp_2) (sz := 1)).len)]) (by first | exact Imp.refl _ | exact Imp.of (by rw [(show (([] : List (List Value)).length) = ([] : List (List Ta)).length from (AllC.nil (G := gs_tag_Entry) (h := hp_2) (sz := 1)).len)] <;> rfl)))
  ·refine Jk<|Jc<|Ja<|mv (sl p css.length)<|mv (i6 t17)<|?_
   obtain ⟨t23, h_t23, H16⟩ := Je H15; clear H15
   refine Xi (fun w hF hS => Ue underlying88 sizeOf92 rfl rfl (Wt (i := 3) hS rfl) rfl ((pf.mono hle_2).ix h_t23)) rfl rfl rfl ?_
   refine Jgc (fun w hF hS => someOf (i := 3) hS rfl ((pf.mono hle_2).ix h_t23)) (fun hs => ?_)
   refine lv (Jdl runUnderlying92 rfl sizeOf9 rfl rfl hs)<|Xi (fun w hF hS => Xo (f := idC) (i := t17) (sz := 2) (j := 1) (v := str t23.Text) isAgg9 rfl rfl (Wt (i := 3) hS rfl) ((pf.mono hle_2).ix h_t23) (Jei (((pf.mono hle_2).eta h_t23).trans (Jap ((pf.mono hle_2).at h_t23))) rfl)) rfl rfl rfl<|?_
   obtain ⟨t26, h_t26, H17⟩ := Je H16; clear H16
   refine lv (Uc underlying9 rfl rfl h_t26) ?_
   obtain ⟨t27, h_t27, H18⟩ := Je H17; clear H17
   refine Wv (X0 (rds := []) (G := fun x : (Option Addr × Nat) => .tuple #[.agg #[.bool t27.1.Big, sl x t27.1.Dirs.length], i6 t27.2]) (C := fun x : (Option Addr × Nat) => Wp 36 1 gs_tag_Entry (sl x t27.1.Dirs.length) t27.1.Dirs.length t27.1.Dirs) (fun w L' hF hS hi => k19 (Jp w) (tb_pow10.mono (hw.now hF)) h_t27) call19 rfl) rfl rfl rfl (fun p_2 => ?_)
   refine Jcd 4 rfl (fun hp_3 css_2 hn_2 pf_2 => ?_)
   rw [hn_2]
   refine Qv 4 rfl ?_
   refine Zm 0 4 rfl rfl (by decide) (fun _ _ => Zn) (fun hp_4 hle_3 hle_4 => ?_)
   refine lv (Qb (v := .agg #[.bool t27.1.Big, sl p_2 css_2.length]) rfl rfl)<|lv (Qb (v := i6 t27.2) rfl rfl)<|st (i := 1) [.bool t27.1.Big, sl p_2 css_2.length] [.bool t27.1.Big, sl p_2 css_2.length] sizeOf24 rfl rfl<|ag (i6 t27.2)<|Jd<|?_
   try dsimp only [z1, z2, z5, z6, z7, z8]
   refine Jl ?_
   obtain rfl := sj H18
   refine bo 0 5 rfl rfl<|Qp 0 rfl (Qh (p := p_2) rfl (pf_2.mono hle_4))<|?_
   refine Jao (i := 1) (vs := [.bool t27.1.Big, sl p_2 css_2.length]) (v2 := i6 t27.2) isAgg24 sizeOf24 rfl rfl rfl rfl rfl (X7 p_2 (i := 0) rfl (by first | rfl | rw [(show css_2.length = t27.1.Dirs.length from hn_2.symm)]) (by first | exact Imp.refl _ | exact Imp.of (by rw [(show css_2.length = t27.1.Dirs.length from hn_2.symm)] <;> rfl)))
theorem k90 {a0 : (List Tc)} {v0 : Value} {r : (List UInt8) × Int} {w : World} {h : J3} (hw : Know h w Zo) (f0 : FrN h 2 v0 g_tag_Segment a0) (H : Jcg a0 = some r) : Does prog 90 (List.toArray [v0]) w (fun v w' => v = (.tuple #[str r.1, i6 r.2]) ∧ Grow w w') := by
 refine enter (n := 74) func90 rfl rfl rfl Zo [] (Sat.nil _ _)<|Jc<|Ja<|ag (str [])<|ag (i6 0)<|Jd<|Jc<|Jc<|Ja<|mv v0<|lv (Xs underlying88 rfl f0)<|lv (Yn rfl rfl)<|Jd<|?_
 revert H
 refine ci (decide (200 < (a0.length : Int))) rfl (fun hb H34=>?_) fun hb H35=>?_
 ·refine Jc<|Ja<|ag (str [])<|ag (i6 4)<|Jd<|Jl<|?_
  obtain rfl := sj H34
  refine Z7 (v1 := str []) (v2 := i6 4) rfl rfl rfl (fin rfl)
 ·refine Jk<|Jc<|Jc<|Ja<|mv v0<|lv (Xs underlying88 rfl f0)<|lv (Ql rfl rfl)<|Jd<|?_
  revert H35
  refine ci (decide ((a0.length : Int) = 0)) rfl (fun hb H36=>?_) fun hb H37=>?_
  ·refine Jc<|Ja<|ag (str [])<|ag (i6 5)<|Jd<|Jl<|?_
   obtain rfl := sj H36
   refine Z7 (v1 := str []) (v2 := i6 5) rfl rfl rfl (fin rfl)
  ·refine Jk<|Jc<|Ja<|ag (str [255, 216])<|Jd<|?_
   refine Qj (r := r) (σ := (List UInt8)) (τ := Unit) (fun s => Jcq s) (fun s t => [(4, str s)]) (fun s t => []) (fun s t => True) ?_ ?_
   ·refine Jc<|Ja<|mv v0<|lv (Xs underlying88 rfl f0)<|mv (i6 0)<|Jd<|Ju<|?_
    refine Za (σ := (List UInt8) × Int) (τ := Unit) (fun next2 s => Yf a0 next2 s.1 s.2) (fun s t => [(0, v0), (4, str s.1), (14, v0), (15, i6 (a0.length : Int)), (16, i6 s.2)]) (fun s t => []) (fun s t => True) ([255, 216], 0) () [] H37 (by exact trivial) (by exact ⟨rfl, rfl, rfl, rfl, rfl, trivial⟩) (by decide) rfl ?_
    rintro ⟨x4_3, x16_2⟩ _ m2 gg H42 _
    clear H37
    try dsimp only at H42
    generalize hn2 : it (fun next2 s => Yf a0 next2 s.1 s.2) m2 = next2 at H42
    try dsimp only
    refine Jc<|Ja<|lv (Xz rfl rfl)<|Jd<|Jc<|?_
    revert H42
    refine ci (decide (x16_2 < (a0.length : Int))) rfl (fun hb H43=>?_) fun hb H66=>?_
    ·refine Jk<|Jc<|Ju<|Jc<|Ja<|mv (i6 x16_2)<|?_
     obtain ⟨t19, h_t19, H44⟩ := Je H43; clear H43
     refine lv (Xc underlying88 sizeOf92 rfl rfl f0.frs (f0.ix h_t19))<|Xi (fun w hF hS => Yz (f := (elC h v0 2)) (i := x16_2) (sz := 2) (j := 0) (vs := [i6 t19.Kind, str t19.Text]) isAgg92 sizeOf92 rfl rfl (f0.frs.row (hw.now hF)) (f0.ix h_t19) (Jfp (Jap (f0.at h_t19)) rfl)) rfl rfl rfl<|?_
     refine X1 (cs := [i6 0, str []]) zeroValue92 rfl rfl rfl (fun b2 => ?_)
     refine ag (i6 x16_2)<|st (i := 0) [i6 t19.Kind, str t19.Text] [i6 t19.Kind, str t19.Text] sizeOf92 rfl rfl<|Jd<|Jc<|Ja<|lf runUnderlying92 rfl sizeOf3 rfl<|ll 0 (i6 t19.Kind) isAgg3<|lv (Ql rfl rfl)<|ag (.bool (decide (t19.Kind = 218)))<|Jd<|?_
     refine Qj (r := r) (σ := Unit) (τ := Unit) (fun s => Wb x4_3 x16_2 next2 t19) (fun s t => [(0, v0), (4, str x4_3), (6, .pointer (some ⟨b2, 0, none⟩)), (7, .bool (decide (t19.Kind = 218))), (14, v0), (15, i6 (a0.length : Int)), (16, i6 x16_2)]) (fun s t => [Jf b2 [i6 t19.Kind, str t19.Text] 92]) (fun s t => True) ?_ ?_
     ·refine Ju<|Jc<|Ja<|lf runUnderlying92 rfl sizeOf3 rfl<|ll 0 (i6 t19.Kind) isAgg3<|?_
      obtain ⟨t27, h_t27, H56⟩ := Je H44; clear H44
      refine Yy (k149 h_t27) call149 rfl rfl rfl<|lv (Ja4 rfl)<|ag (.bool (!t27))<|Jd<|?_
      revert H56
      refine ci (!t27) rfl (fun hb H57=>?_) fun hb H58=>?_
      ·refine Jc<|Ja<|ag (str [])<|ag (i6 10)<|Jd<|Jl<|?_
       obtain rfl := sj H57
       refine Z7 (v1 := str []) (v2 := i6 10) rfl rfl rfl (fin rfl)
      ·refine Jc<|Ja<|mv (.bool (decide (t19.Kind = 218)))<|mv (i6 x16_2)<|mv v0<|lv (Xs underlying88 rfl f0)<|?_
       obtain ⟨t34, h_t34, H59⟩ := Je H58; clear H58
       refine lv (Zf rfl rfl h_t34)<|lv (Ql rfl rfl)<|lv (r_neqB underlying4 rfl rfl)<|ag (.bool (decide ((decide (t19.Kind = 218)) ≠ (decide (x16_2 = t34)))))<|Jd<|?_
       revert H59
       refine ci (decide ((decide (t19.Kind = 218)) ≠ (decide (x16_2 = t34)))) rfl (fun hb H60=>?_) fun hb H61=>?_
       ·refine Jc<|Ja<|ag (str [])<|ag (i6 5)<|Jd<|Jl<|?_
        obtain rfl := sj H60
        refine Z7 (v1 := str []) (v2 := i6 5) rfl rfl rfl (fin rfl)
       ·refine Jc<|Ja<|mv (.bool (decide (t19.Kind = 218)))<|lv (Ja4 rfl)<|mv (.bool (!(decide (t19.Kind = 218))))<|?_
        revert H61
        refine sp (fun hb H62=>?_) fun hb H65=>?_
        ·refine lf runUnderlying92 rfl sizeOf9 rfl<|ll 0 (str t19.Text) isAgg9<|lv (Xn underlying9 rfl)<|lv (Yn rfl rfl)<|pT (.bool (decide (65533 < (t19.Text.length : Int))))<|ag (.bool (decide (65533 < (t19.Text.length : Int))))<|Jd<|?_
         revert H62
         refine ci (decide (65533 < (t19.Text.length : Int))) rfl (fun hb H63=>?_) fun hb H64=>?_
         ·refine Jc<|Ja<|ag (str [])<|ag (i6 4)<|Jd<|Jl<|?_
          obtain rfl := sj H63
          refine Z7 (v1 := str []) (v2 := i6 4) rfl rfl rfl (fin rfl)
         ·refine Jk ?_
          exact cl () () 0 [0] (by exact ⟨H64, trivial⟩)
        ·refine pa<|pa<|pa<|pa<|pF (.bool false)<|ag (.bool false)<|Jd<|Uh rfl<|Jk<|?_
         exact cl () () 0 [0] (by exact ⟨H65, trivial⟩)
     ·rintro _ _ gg H45 _
      try dsimp only at H45
      try dsimp only
      refine Jc<|Ja<|mv (str x4_3)<|lf runUnderlying92 rfl sizeOf3 rfl<|ll 0 (i6 t19.Kind) isAgg3<|lv (Ui runUnderlying3 runUnderlying5 rfl (wr_u8 _))<|?_
      refine Qg (vs := [.int .u8 (wU8 t19.Kind)]) (cs := [.int .u8 (wU8 t19.Kind)]) underlying111 sizeOf5 zeroValue5 rfl rfl rfl rfl rfl rfl rfl (fun b3 => ?_)
      refine Xi (fun w hF hS => Jfu (f := Xm) (xs := ([(wU8 t19.Kind)] : List Int)) rfl underlying111 underlying5 underlying9 rfl (fun _ => rfl) (Wr (sz := 1) (xs := ([(wU8 t19.Kind)] : List Int).map Xm) (i := 1) hS rfl rfl rfl)) rfl rfl rfl ?_
      obtain ⟨t52, h_t52, H46⟩ := Je H45; clear H45
      refine lv (Yj rfl rfl h_t52) ?_
      obtain ⟨t53, h_t53, H47⟩ := Je H46; clear H46
      refine lv (Yj rfl rfl h_t53)<|ag (str t53)<|Jd<|?_
      refine Qj (r := r) (σ := (List UInt8)) (τ := Unit) (fun s => Ub x16_2 next2 t19 s) (fun s t => [(0, v0), (4, str s), (6, .pointer (some ⟨b2, 0, none⟩)), (14, v0), (15, i6 (a0.length : Int)), (16, i6 x16_2)]) (fun s t => [Jf b2 [i6 t19.Kind, str t19.Text] 92]) (fun s t => True) ?_ ?_
      ·refine Jc<|Ja<|mv (.bool (decide (t19.Kind = 218)))<|lv (Ja4 rfl)<|Jd<|?_
       revert H47
       refine ci (!(decide (t19.Kind = 218))) rfl (fun hb H51=>?_) fun hb H55=>?_
       ·refine Ja<|mv (str t53)<|lf runUnderlying92 rfl sizeOf9 rfl<|ll 0 (str t19.Text) isAgg9<|lv (Xn underlying9 rfl)<|?_
        obtain ⟨t60, h_t60, H52⟩ := Je H51; clear H51
        refine lv (J1 rfl rfl h_t60) ?_
        obtain ⟨t61, h_t61, H53⟩ := Je H52; clear H52
        refine Yy (k145 h_t61) call145 rfl rfl rfl ?_
        obtain ⟨t62, h_t62, H54⟩ := Je H53; clear H53
        refine lv (Yj rfl rfl h_t62)<|ag (str t62)<|Jd<|?_
        exact cl t62 () 0 [0] (by exact ⟨H54, trivial⟩)
       ·refine Jk ?_
        exact cl t53 () 0 [0] (by exact ⟨H55, trivial⟩)
      ·rintro x4_4 _ gg H48 _
       try dsimp only at H48
       try dsimp only
       refine Ja<|mv (str x4_4)<|lf runUnderlying92 rfl sizeOf9 rfl<|ll 0 (str t19.Text) isAgg9<|?_
       obtain ⟨t66, h_t66, H49⟩ := Je H48; clear H48
       refine lv (Yj rfl rfl h_t66)<|ag (str t66)<|Jd<|Ja<|?_
       obtain ⟨t67, h_t67, H50⟩ := Je H49; clear H49
       refine lv (J1 rfl rfl h_t67)<|mv (i6 t67)<|Jd<|?_
       exact cl (t66, t67) () m2 [] (by exact ⟨(by subst hn2; exact H50), trivial⟩)
    ·refine Xa ?_
     exact cl x4_3 () 0 [] (by exact ⟨H66, trivial⟩)
   ·rintro x4 _ gg H38 _
    try dsimp only at H38
    try dsimp only
    refine Jc<|Jc<|Ja<|mv (str x4)<|?_
    obtain ⟨t69, h_t69, H39⟩ := Je H38; clear H38
    refine lv (Yj rfl rfl h_t69)<|ag (str t69)<|Jd<|Jc<|Ja<|mv (str t69)<|lv (Xn underlying9 rfl)<|lv (Yn rfl rfl)<|Jd<|?_
    revert H39
    refine ci (decide (200000 < (t69.length : Int))) rfl (fun hb H40=>?_) fun hb H41=>?_
    ·refine Jc<|Ja<|ag (str [])<|ag (i6 4)<|Jd<|Jl<|?_
     obtain rfl := sj H40
     refine Z7 (v1 := str []) (v2 := i6 4) rfl rfl rfl (fin rfl)
    ·refine Jk<|Jc<|Ja<|mv (str t69)<|ag (str t69)<|ag (i6 0)<|Jd<|Jl<|?_
     obtain rfl := sj H41
     refine Z7 (v1 := str t69) (v2 := i6 0) rfl rfl rfl (fin rfl)
theorem k29 {a0 : (List UInt8)} {a1 : Tf} {v1_1 : Value} {r : (List UInt8) × Int} {w : World} {h : J3} (hw : Know h w Zo) (f1_1 : FrN h 1 v1_1 gs_tag_Entry a1.Dirs) (H : Jaw a0 a1 = some r) : Does prog 29 (List.toArray [str a0, .agg #[.bool a1.Big, v1_1]]) w (fun v w' => v = (.tuple #[str r.1, i6 r.2]) ∧ Grow w w') := by
 refine enter (n := 44) func29 rfl rfl rfl Zo [] (Sat.nil _ _)<|Yg Qt<|Jc<|Ja<|?_
 refine Wj (cs := [.bool a1.Big, v1_1]) rfl rfl rfl rfl (fun b3 => ?_)
 refine ag (str [])<|ag (i6 0)<|Jd<|Jc<|Jc<|Ja<|Q4 (i := 1) (vs := [.bool a1.Big, v1_1]) isAgg24 sizeOf24 rfl rfl rfl rfl rfl<|?_
 obtain ⟨t12, h_t12, H17⟩ := Je H; clear H
 refine Qd (fun w hF hS => k30 (Jp w) (f1_1.mono (hw.now hF)) h_t12) call30 rfl rfl rfl<|ag (i6 t12)<|Jd<|Jc<|Ja<|mv (i6 t12)<|lv (Yt rfl rfl)<|Jd<|?_
 revert H17
 refine ci (decide (t12 ≠ 0)) rfl (fun hb H18=>?_) fun hb H19=>?_
 ·refine Jc<|Ja<|mv (i6 t12)<|ag (str [])<|ag (i6 t12)<|Jd<|Jl<|?_
  obtain rfl := sj H18
  refine Z7 (v1 := str []) (v2 := i6 t12) rfl rfl rfl (fin rfl)
 ·refine Jk<|Jc<|Ja<|mv (str a0)<|?_
  obtain ⟨t18, h_t18, H20⟩ := Je H19; clear H19
  refine Wv (X0 (rds := []) (G := fun x : (Option Addr × Nat) => .tuple #[sl x t18.1.length, i6 t18.2]) (C := fun x : (Option Addr × Nat) => Wp 92 2 g_tag_Segment (sl x t18.1.length) t18.1.length t18.1) (fun w L' hF hS hi => k87 (Jp w)  h_t18) call87 rfl) rfl rfl rfl (fun p => ?_)
  refine Jcd 2 rfl (fun hp css hn pf => ?_)
  rw [hn]
  refine Qv 2 rfl ?_
  refine Zm 0 2 rfl rfl (by decide) (fun _ _ => Zn) (fun hp_2 hle hle_2 => ?_)
  refine mv (.tuple #[sl p css.length, i6 t18.2])<|lv (Qb (v := sl p css.length) rfl rfl)<|lv (Qb (v := i6 t18.2) rfl rfl)<|ag (sl p css.length)<|ag (i6 t18.2)<|Jd<|?_
  try dsimp only [z1, z2, z5, z6, z7, z8]
  refine Jc<|Jc<|Ja<|mv (i6 t18.2)<|lv (Yt rfl rfl)<|Jd<|?_
  try dsimp only [z1, z2, z5, z6, z7, z8]
  revert H20
  refine ci (decide (t18.2 ≠ 0)) rfl (fun hb H21=>?_) fun hb H22=>?_
  ·refine Jc<|Ja<|mv (i6 t18.2)<|ag (str [])<|ag (i6 t18.2)<|Jd<|?_
   try dsimp only [z1, z2, z5, z6, z7, z8]
   refine Jl ?_
   obtain rfl := sj H21
   refine Z7 (v1 := str []) (v2 := i6 t18.2) rfl rfl rfl (fin rfl)
  ·refine Jk<|Jc<|Ja<|Q4 (i := 1) (vs := [.bool a1.Big, v1_1]) isAgg24 sizeOf24 rfl rfl rfl rfl rfl<|?_
   obtain ⟨t25, h_t25, H23⟩ := Je H22; clear H22
   refine Qd (fun w hF hS => k89 (Jp w) (f1_1.mono (hw.now hF)) h_t25) call89 rfl rfl rfl ?_
   obtain ⟨t26, h_t26, H24⟩ := Je H23; clear H23
   refine lv (Yj rfl rfl h_t26)<|lv (Xv (pl := #[(0, 1), (1, 1)]) (ps := [(0, i6 225), (1, str t26)]) (cells := #[i6 225, str t26]) zeroValue92 runUnderlying92 (fun w => by kernel_rfl) rfl rfl)<|?_
   refine X1 (cs := [i6 0, str []]) zeroValue92 rfl rfl rfl (fun b4 => ?_)
   refine st (i := 4) [i6 225, str t26] [i6 225, str t26] sizeOf92 rfl rfl<|Jd<|?_
   try dsimp only [z1, z2, z5, z6, z7, z8]
   refine Qj (r := r) (σ := (List Tc)) (τ := (List (List Value)) × (Option Addr × Nat)) (fun s => Vt s) (fun s t => [(7, .slice t.2.1 t.1.length t.2.2)]) (fun s t => [X8 Qt hp_2, Up 92 2 (.slice t.2.1 t.1.length t.2.2) t.1.length (t.1.map idC)]) (fun s t => AllC g_tag_Segment hp_2 2 t.1 s) ?_ ?_
   ·refine Jc ?_
    try dsimp only [z1, z2, z5, z6, z7, z8]
    refine Ja<|mv (sl p css.length)<|?_
    obtain ⟨t29, h_t29, H27⟩ := Je H24; clear H24
    refine Qd (fun w hF hS => k88 (Jp w) (Jag (xs := t18.1) (Ye (i := 3) rfl hS rfl) ((pf.mono hle_2).mono (Jbw (i := 0) hS rfl Zn))) h_t29) call88 rfl rfl rfl<|ag (i6 t29)<|Jd<|?_
    try dsimp only [z1, z2, z5, z6, z7, z8]
    refine Jc<|Ja<|mv (i6 t29)<|lv (Jff rfl rfl)<|Jd<|?_
    try dsimp only [z1, z2, z5, z6, z7, z8]
    revert H27
    refine ci (decide (0 ≤ t29)) rfl (fun hb H28=>?_) fun hb H31=>?_
    ·refine Ja<|mv (sl p css.length)<|mv (i6 t29)<|Q4 (i := 4) (vs := [i6 225, str t26]) isAgg92 sizeOf92 rfl rfl rfl rfl rfl<|?_
     obtain ⟨t35, h_t35, H29⟩ := Je H28; clear H28
     refine Xi (fun w hF hS => Ue underlying88 sizeOf92 rfl rfl (Wt (i := 3) hS rfl) rfl ((pf.mono hle_2).ix h_t35)) rfl rfl rfl<|Qp 3 rfl (Vg _ _ _ _ _)<|?_
     obtain ⟨l3, h_l3, H30⟩ := Je H29; clear H29
     refine Jha (Jf1 (rds := []) (q := 3) (j := 0) (i := t29) (sz := 2) (hm := rfl) (f := idC) (xs := css) (z := [i6 225, str t26]) (vs := [i6 225, str t26]) sizeOf92 rfl rfl rfl rfl rfl rfl rfl rfl (fun y_ hy_ => (pf.mono hle_2).wrE h_l3 rfl y_ hy_) ((pf.mono hle_2).gSetE h_l3)) rfl rfl (fun _ => ?_)
     have pf_3 : AllC g_tag_Segment hp_2 2 (List.set css (Int.toNat t29) [Value.int .i64 225, str t26]) l3 := AllC.setE (pf.mono hle_2) h_l3 rfl (⟨rfl, rfl⟩)
     refine Jd ?_
     try dsimp only [z1, z2, z5, z6, z7, z8]
     rw [show css.length = (List.set css (Int.toNat t29) [Value.int .i64 225, str t26]).length from (rfl.trans (setE_len _ _ _))]
     exact cl l3 ((List.set css (Int.toNat t29) [Value.int .i64 225, str t26]), p) 0 [0, 3] (by exact ⟨H30, pf_3⟩)
    ·refine Ja<|mv (sl p css.length)<|Q4 (i := 4) (vs := [i6 225, str t26]) isAgg92 sizeOf92 rfl rfl rfl rfl rfl<|?_
     refine Qg (vs := [.agg #[i6 225, str t26]]) (cs := [i6 225, str t26]) underlying88 sizeOf92 zeroValue92 rfl rfl rfl rfl rfl rfl rfl (fun b5 => ?_)
     refine Qp 3 rfl (Vg _ _ _ _ _) ?_
     obtain ⟨t39, h_t39, H32⟩ := Je H31; clear H31
     obtain ⟨hg, pf_4⟩ := AllC.ins (cs := [i6 225, str t26]) (pf.mono hle_2) h_t39 rfl (⟨rfl, rfl⟩)
     refine Qe (J4 (i := 3) (rds := [5]) (G := fun x : Option Addr × Nat => sl x (Jcx css 0 [i6 225, str t26]).length) (C := fun x : Option Addr × Nat => Up 92 2 (sl x (Jcx css 0 [i6 225, str t26]).length) (Jcx css 0 [i6 225, str t26]).length ((Jcx css 0 [i6 225, str t26]).map idC)) rfl (fun w L' S hF hS hi hp hlt ho hA => k53 (p0 := p) (cs1 := [i6 225, str t26]) hp hlt (Qr w S) rfl (AllC.ones (pf.mono hle_2) (fun c_ x_ f_ => by obtain ⟨q0_, q1_⟩ := f_; exact fun j_ hj_ => match j_, hj_ with | 0, _ => (by rw [q0_]; rfl) | 1, _ => (by rw [q1_]; rfl))) rfl rfl (cell_but (j := 5) hA hS (by decide) ((hi 5 (by simp)).trans rfl)) hg) call53 rfl) rfl rfl rfl (fun p_3 => ?_)
     refine ag (sl p_3 ((Jcx css 0 [i6 225, str t26]).length))<|Jd<|?_
     try dsimp only [z1, z2, z5, z6, z7, z8]
     exact cl t39 ((Jcx css 0 [i6 225, str t26]), p_3) 0 [0, 3] (by exact ⟨H32, pf_4⟩)
   ·rintro l ⟨css_2, p_2⟩ gg H25 pf_2
    try dsimp only at H25
    try dsimp only
    refine Jc<|Ja<|mv (sl p_2 css_2.length)<|?_
    obtain ⟨t41, h_t41, H26⟩ := Je H25; clear H25
    refine Qd (fun w hF hS => k90 (Jp w) (Jag (xs := l) (Jic (i := 1) rfl hS rfl) (pf_2.mono (Jbw (i := 0) hS rfl Zn))) h_t41) call90 rfl rfl rfl<|lv (Qb (v := str t41.1) rfl rfl)<|lv (Qb (v := i6 t41.2) rfl rfl)<|ag (str t41.1)<|ag (i6 t41.2)<|Jd<|Jl<|?_
    obtain rfl := sj H26
    refine Z7 (v1 := str t41.1) (v2 := i6 t41.2) rfl rfl rfl (fin rfl)
theorem k6 {a0 : (List UInt8)} {a1 : Tf} {v1_1 : Value} {r : Bool} {w : World} {h : J3} (hw : Know h w Zo) (f1_1 : FrN h 1 v1_1 gs_tag_Entry a1.Dirs) (tb_pow10 : TabH prog h "internal/strconv.uint64pow10" .u64 Lib.pow10Tab) (H : Jbo a0 a1 = some r) : Does prog 6 (List.toArray [str a0, .agg #[.bool a1.Big, v1_1]]) w (fun v w' => v = (.bool r) ∧ Grow w w') := by
 refine enter (n := 47) func6 rfl rfl rfl Zo [] (Sat.nil _ _)<|Yg Qt<|Jc<|Ja<|?_
 refine Wj (cs := [.bool a1.Big, v1_1]) rfl rfl rfl rfl (fun b3 => ?_)
 refine ag (.bool false)<|Jd<|Jc<|Ja<|mv (str a0)<|?_
 obtain ⟨t15, h_t15, H9⟩ := Je H; clear H
 refine Wv (X0 (rds := []) (G := fun x : (Option Addr × Nat) => .tuple #[.agg #[.bool t15.1.Big, sl x t15.1.Dirs.length], i6 t15.2]) (C := fun x : (Option Addr × Nat) => Wp 36 1 gs_tag_Entry (sl x t15.1.Dirs.length) t15.1.Dirs.length t15.1.Dirs) (fun w L' hF hS hi => k14 (Jp w)  h_t15) call14 rfl) rfl rfl rfl (fun p => ?_)
 refine Jcd 2 rfl (fun hp css hn pf => ?_)
 rw [hn]
 refine Qv 2 rfl ?_
 refine Zm 0 2 rfl rfl (by decide) (fun _ _ => Zn) (fun hp_2 hle hle_2 => ?_)
 refine mv (.tuple #[.agg #[.bool t15.1.Big, sl p css.length], i6 t15.2])<|lv (Qb (v := .agg #[.bool t15.1.Big, sl p css.length]) rfl rfl)<|lv (Qb (v := i6 t15.2) rfl rfl)<|?_
 refine X1 (cs := [.bool false, .slice none 0 0]) zeroValue24 rfl rfl rfl (fun b4 => ?_)
 refine st (i := 4) [.bool t15.1.Big, sl p css.length] [.bool t15.1.Big, sl p css.length] sizeOf24 rfl rfl<|ag (i6 t15.2)<|Jd<|?_
 try dsimp only [z1, z2, z5, z6, z7, z8]
 refine Jc<|Ja<|mv (str a0)<|?_
 obtain ⟨t20, h_t20, H10⟩ := Je H9; clear H9
 refine Wv (X0 (rds := []) (G := fun x : (Option Addr × Nat) => .tuple #[.agg #[.bool t20.1.Big, sl x t20.1.Dirs.length], i6 t20.2]) (C := fun x : (Option Addr × Nat) => Wp 36 1 gs_tag_Entry (sl x t20.1.Dirs.length) t20.1.Dirs.length t20.1.Dirs) (fun w L' hF hS hi => k28 (Jp w) (tb_pow10.mono (hw.now hF)) h_t20) call28 rfl) rfl rfl rfl (fun p_2 => ?_)
 refine Jcd 5 rfl (fun hp_3 css_2 hn_2 pf_2 => ?_)
 rw [hn_2]
 refine Qv 5 rfl ?_
 refine Zm 0 5 rfl rfl (by decide) (fun _ _ => Zn) (fun hp_4 hle_3 hle_4 => ?_)
 refine mv (.tuple #[.agg #[.bool t20.1.Big, sl p_2 css_2.length], i6 t20.2])<|lv (Qb (v := .agg #[.bool t20.1.Big, sl p_2 css_2.length]) rfl rfl)<|lv (Qb (v := i6 t20.2) rfl rfl)<|?_
 refine X1 (cs := [.bool false, .slice none 0 0]) zeroValue24 rfl rfl rfl (fun b5 => ?_)
 refine st (i := 7) [.bool t20.1.Big, sl p_2 css_2.length] [.bool t20.1.Big, sl p_2 css_2.length] sizeOf24 rfl rfl<|ag (i6 t20.2)<|Jd<|?_
 try dsimp only [z1, z2, z5, z6, z7, z8]
 refine Jc<|Ja<|mv (str a0)<|Q4 (i := 1) (vs := [.bool a1.Big, v1_1]) isAgg24 sizeOf24 rfl rfl rfl rfl rfl<|?_
 obtain ⟨t26, h_t26, H11⟩ := Je H10; clear H10
 refine Qd (fun w hF hS => k13 (Jp w) (f1_1.mono (hw.now hF)) h_t26) call13 rfl rfl rfl<|mv (.tuple #[str t26.1, i6 t26.2])<|lv (Qb (v := str t26.1) rfl rfl)<|lv (Qb (v := i6 t26.2) rfl rfl)<|ag (str t26.1)<|ag (i6 t26.2)<|Jd<|?_
 try dsimp only [z1, z2, z5, z6, z7, z8]
 refine Jc<|Ja<|mv (str a0)<|Q4 (i := 1) (vs := [.bool a1.Big, v1_1]) isAgg24 sizeOf24 rfl rfl rfl rfl rfl<|?_
 obtain ⟨t32, h_t32, H12⟩ := Je H11; clear H11
 refine Qd (fun w hF hS => k29 (Jp w) (f1_1.mono (hw.now hF)) h_t32) call29 rfl rfl rfl<|mv (.tuple #[str t32.1, i6 t32.2])<|lv (Qb (v := str t32.1) rfl rfl)<|lv (Qb (v := i6 t32.2) rfl rfl)<|ag (str t32.1)<|ag (i6 t32.2)<|Jd<|?_
 try dsimp only [z1, z2, z5, z6, z7, z8]
 refine Jc<|Ja<|Q4 (i := 4) (vs := [.bool t15.1.Big, sl p css.length]) isAgg24 sizeOf24 rfl rfl rfl rfl rfl<|mv (i6 t15.2)<|Q4 (i := 7) (vs := [.bool t20.1.Big, sl p_2 css_2.length]) isAgg24 sizeOf24 rfl rfl rfl rfl rfl<|mv (i6 t20.2)<|?_
 obtain ⟨t39, h_t39, H13⟩ := Je H12; clear H12
 refine Qd (fun w hF hS => k23 (Jp w) (Jag (xs := t15.1.Dirs) (Ye (i := 3) rfl hS rfl) (((pf.mono hle_2).mono hle_3).mono (Jbw (i := 0) hS rfl Zn))) (Jag (xs := t20.1.Dirs) (Ye (i := 6) rfl hS rfl) ((pf_2.mono hle_4).mono (Jbw (i := 0) hS rfl Zn))) h_t39) call23 rfl rfl rfl<|mv (.bool t39)<|?_
 revert H13
 refine sp (fun hb H14=>?_) fun hb H16=>?_
 ·refine mv (str t26.1)<|mv (i6 t26.2)<|mv (str t32.1)<|mv (i6 t32.2)<|?_
  obtain ⟨t45, h_t45, H15⟩ := Je H14; clear H14
  refine Yy (k27 h_t45) call27 rfl rfl rfl<|pT (.bool t45)<|ag (.bool t45)<|Jd<|?_
  try dsimp only [z1, z2, z5, z6, z7, z8]
  refine Jl ?_
  obtain rfl := sj H15
  exact r1 (.bool t45)
 ·refine pa<|pa<|pa<|pa<|pa<|pF (.bool false)<|ag (.bool false)<|Jd<|?_
  try dsimp only [z1, z2, z5, z6, z7, z8]
  refine Jl ?_
  obtain rfl := sj H16
  exact r1 (.bool false)
end Go.Proofs.YtgjpnjncfilgnaaGreatDoor

/- Plain lemmas about models: loops that count, scans for a first error. Conditions: none. -/
namespace Go.Pl
open Go.Md
end Go.Pl

/- More plain lemmas about models: loops that run or go on, two loops that do the same, loops that collect. Conditions: none. -/
namespace Go.Pl
open Go.Md
theorem Xt {α β : Type} {m : Option α} {k k' : α → Option β} (h : ∀ a, m = some a → k a = k' a) : Js m k = Js m k' := by
 cases m with
 | none => rfl
 | some a => exact h a rfl
theorem Jab {α : Type} {b : Bool} {x y x' y' : Option α} (h1 : b = true → x = x') (h2 : b = false → y = y') : Qa b x y = Qa b x' y' := by
 cases b
 ·exact h2 rfl
 ·exact h1 rfl
theorem Jhg {ρ : Type} {F : (Int → Option ρ) → Int → Option ρ} {o : Option ρ} (i e : Nat) (hie : i ≤ e) (more : ∀ (next : Int → Option ρ) (k : Nat), i ≤ k → k < e → F next (k : Int) = next ((k : Int) + 1)) (stop : ∀ next, F next (e : Int) = o) : Zs F (i : Int) = o := by
 have key : ∀ n k, i ≤ k → k ≤ e → e - k < n → Zs F (k : Int) = o := by
  intro n
  induction n with
  | zero => intro k _ _ h; omega
  | succ n ih =>
   intro k h1 h2 h3
   rcases Nat.lt_or_ge k e with h | h
   ·rw [Q2 ((k : Int) + 1) (fun next => more next k h1 h)]; exact ih (k + 1) (by omega) (by omega) (by omega)
   ·have : k = e := by omega
    subst this; exact Jz stop
 exact key (e - i + 1) i (Nat.le_refl _) hie (by omega)
theorem Jfi {α ρ σ : Type} {F : (Int × σ → Option ρ) → Int × σ → Option ρ} (xs : List α) (f : σ → α → σ) (J : σ → Option ρ) (I : Nat → σ → Prop)
  (more : ∀ (next : Int × σ → Option ρ) (k : Nat) (s : σ) (hk : k < xs.length), I k s → F next ((k : Int), s) = next ((k : Int) + 1, f s xs[k]) ∧ I (k + 1) (f s xs[k]))
  (stop : ∀ (next : Int × σ → Option ρ) (s : σ), I xs.length s → F next ((xs.length : Int), s) = J s) (s : σ) (hs : I 0 s) : Zs F (0, s) = J (xs.foldl f s) := by
 have key : ∀ n k s, k ≤ xs.length → xs.length - k < n → I k s → Zs F ((k : Int), s) = J ((xs.drop k).foldl f s) := by
  intro n
  induction n with
  | zero => intro k s _ h; omega
  | succ n ih =>
   intro k s hk h hI
   rcases Nat.lt_or_ge k xs.length with h1 | h1
   ·rw [Q2 ((k : Int) + 1, f s xs[k]) (fun next => (more next k s h1 hI).1), List.drop_eq_getElem_cons h1, List.foldl_cons]
    exact ih (k + 1) _ (by omega) (by omega) (more (fun _ => none) k s h1 hI).2
   ·have : k = xs.length := by omega
    subst this
    rw [List.drop_length]
    exact Jz fun next => stop next s hI
 have := key (xs.length + 1) 0 s (Nat.zero_le _) (by omega) hs
 simpa using this
theorem Jhn {α β : Type} (f : α → β) : ∀ (xs : List α) (s : List β), xs.foldl (fun s x => s ++ [f x]) s = s ++ xs.map f
 | [], s => by simp
 | x :: xs, s => by rw [List.foldl_cons, Jhn f xs]; simp
end Go.Pl

/- Numbers and values as octets, values checked, in plain Lean. Conditions: none. -/
namespace Go.M
open Go.Md Go.Pl
theorem cI {α : Type} {p : Prop} [Decidable p] {x y : Option α} : Qa (decide p) x y = if p then x else y := Qy ..
theorem Jhe {α ρ γ : Type} {F : (α → Option ρ) → α → Option ρ} (spec : γ → α → Option ρ) (I : γ → α → Prop) (μ : γ → Nat)
  (step : ∀ (next : α → Option ρ) (g : γ) (a : α), I g a → (∀ g' b, I g' b → μ g' < μ g → next b = spec g' b) → F next a = spec g a) (g : γ) (a : α) (ha : I g a) : Zs F a = spec g a := by
 have key : ∀ (n : Nat) (g : γ) (a : α), I g a → μ g < n → it F n a = spec g a := by
  intro n
  induction n with
  | zero => intro g a _ h; omega
  | succ n ih => intro g a ha h; exact step _ g a ha fun g' b hb hlt => ih g' b hb (by omega)
 exact Jez (k := μ g + 1) fun n hn => key n g a ha (by omega)
theorem Zq (a b : List UInt8) : Qk (a ++ b) = Qk a ++ Qk b := List.map_append
theorem Qu (a : List UInt8) : (Qk a).length = a.length := List.length_map _
theorem toStr_ofStr (a : List UInt8) : Yp (Qk a) = a := by
 unfold Yp Qk
 rw [List.map_map]
 conv => rhs; rw [← List.map_id a]
 apply List.map_congr_left
 intro c _
 show UInt8.ofNat ((c.toNat : Int).toNat) = c
 rw [Int.toNat_natCast, UInt8.ofNat_toNat]
theorem ofStr_toStr {l : List Int} (h : ∀ x ∈ l, 0 ≤ x ∧ x ≤ 255) : Qk (Yp l) = l := by
 unfold Yp Qk
 rw [List.map_map]
 conv => rhs; rw [← List.map_id l]
 apply List.map_congr_left
 intro c hc
 have := h c hc
 show (((UInt8.ofNat c.toNat).toNat : Nat) : Int) = c
 rw [UInt8.toNat_ofNat']
 omega
theorem num_ex (big : Bool) (n : Int) (k : Nat) (hk : k ≤ 8) : ∃ L : List Int, Ji big n k = some L ∧ X2 big n k = some (Yp L) ∧ L.length = k ∧ (∀ x ∈ L, 0 ≤ x ∧ x ≤ 255) ∧ (n = 0 → ∀ x ∈ L, x = 0) := by
 have key : ∀ m i : Nat, i + m = k → ∀ l : List Int, l.length = k → (∀ x ∈ l, 0 ≤ x ∧ x ≤ 255) → (n = 0 → ∀ x ∈ l, x = 0) →
   ∃ L : List Int, Zs (fun next1 s => Xg big n k (List.replicate k 0) next1 s.1 s.2) ((i : Int), l) = some L ∧ Zs (fun next2 s => Zr big n k (List.replicate k 0) next2 s.1 s.2) ((i : Int), l) = some (Yp L) ∧ L.length = k ∧ (∀ x ∈ L, 0 ≤ x ∧ x ≤ 255) ∧ (n = 0 → ∀ x ∈ L, x = 0) := by
  intro m
  induction m with
  | zero =>
   intro i hi l hl hx hz
   refine ⟨l, Jz fun next => ?_, Jz fun next => ?_, hl, hx, hz⟩
   ·show Xg big n k _ next (i : Int) l = _
    unfold Xg
    rw [cI, if_neg (by rw [List.length_replicate]; omega)]
   ·show Zr big n k _ next (i : Int) l = _
    unfold Zr
    rw [cI, if_neg (by rw [List.length_replicate]; omega)]; rfl
  | succ m ih =>
   intro i hi l hl hx hz
   have hs : ∃ y : Int, gShr 64 n (8 * (i : Int)) = some y ∧ (n = 0 → y = 0) := by
    refine ⟨n / 2 ^ min (8 * (i : Int)).toNat 64, if_pos (by omega), fun e => by rw [e]; exact Int.zero_ediv _⟩
   obtain ⟨y, hy, hy0⟩ := hs
   have hp : ∃ q : Nat, q < k ∧ (∀ (next : Int × List Int → Option (List Int)), Xg big n k (List.replicate k 0) next (i : Int) l = next ((i : Int) + 1, l.set q (wU8 y))) ∧ (∀ (next : Int × List Int → Option (List UInt8)), Zr big n k (List.replicate k 0) next (i : Int) l = next ((i : Int) + 1, l.set q (wU8 y))) := by
    cases big
    ·refine ⟨i, by omega, fun next => ?_, fun next => ?_⟩
     ·unfold Xg
      rw [cI, if_pos (by rw [List.length_replicate]; omega), Jx]
      unfold V6
      rw [Jr (by omega), Jb, hy, Jb, Xk (by omega), Jb, Jd3 (by omega) (by omega), Jb, Jr (by omega), Jb, Int.toNat_natCast]
     ·unfold Zr
      rw [cI, if_pos (by rw [List.length_replicate]; omega), Jx]
      unfold Jbu
      rw [Jr (by omega), Jb, hy, Jb, Xk (by omega), Jb, Jd3 (by omega) (by omega), Jb, Jr (by omega), Jb, Int.toNat_natCast]
    ·refine ⟨k - 1 - i, by omega, fun next => ?_, fun next => ?_⟩
     ·unfold Xg
      rw [cI, if_pos (by rw [List.length_replicate]; omega), J9, Jr (by omega), Jb, Jr (by omega), Jb]
      unfold V6
      rw [Jr (by omega), Jb, hy, Jb, Jhj (by omega) (by omega), Jb, Jd3 (by omega) (by omega), Jb, Jr (by omega), Jb, show ((k : Int) - 1 - (i : Int)).toNat = k - 1 - i from by omega]
     ·unfold Zr
      rw [cI, if_pos (by rw [List.length_replicate]; omega), J9, Jr (by omega), Jb, Jr (by omega), Jb]
      unfold Jbu
      rw [Jr (by omega), Jb, hy, Jb, Jhj (by omega) (by omega), Jb, Jd3 (by omega) (by omega), Jb, Jr (by omega), Jb, show ((k : Int) - 1 - (i : Int)).toNat = k - 1 - i from by omega]
   obtain ⟨q, hq, h1, h2⟩ := hp
   obtain ⟨L, a1, a2, a3, a4, a5⟩ := ih (i + 1) (by omega) (l.set q (wU8 y)) (by rw [List.length_set]; exact hl) (fun x hxm => by
    rcases List.mem_or_eq_of_mem_set hxm with h | h
    ·exact hx x h
    ·rw [h]; unfold wU8; omega) (fun e x hxm => by
    rcases List.mem_or_eq_of_mem_set hxm with h | h
    ·exact hz e x h
    ·rw [h, hy0 e]; rfl)
   exact ⟨L, (Q2 _ h1).trans a1, (Q2 _ h2).trans a2, a3, a4, a5⟩
 obtain ⟨L, a1, a2, a3⟩ := key k 0 (by omega) (List.replicate k 0) (by simp) (fun x hx => by rw [(List.mem_replicate.1 hx).2]; omega) (fun _ x hx => (List.mem_replicate.1 hx).2)
 refine ⟨L, ?_, ?_, a3⟩
 ·unfold Ji
  rw [Jfs (by omega), Jb, Int.toNat_natCast]; exact a1
 ·unfold X2
  rw [Jfs (by omega), Jb, Int.toNat_natCast]; exact a2
noncomputable def Y4 (big : Bool) (n : Int) (k : Nat) : List UInt8 := Yp ((Ji big n k).getD [])
theorem Jgv (big : Bool) (n : Int) {k : Nat} (hk : k ≤ 8) : Ji big n k = some (Qk (Y4 big n k)) := by
 obtain ⟨L, h1, _, _, h4, _⟩ := num_ex big n k hk
 unfold Y4
 rw [h1, Option.getD_some, ofStr_toStr h4]
theorem num_R (big : Bool) (n : Int) {k : Nat} (hk : k ≤ 8) : X2 big n k = some (Y4 big n k) := by
 obtain ⟨L, h1, h2, _⟩ := num_ex big n k hk
 unfold Y4
 rw [h1, Option.getD_some, h2]
theorem Xr (big : Bool) (n : Int) {k : Nat} (hk : k ≤ 8) : (Y4 big n k).length = k := by
 obtain ⟨L, h1, _, h3, _⟩ := num_ex big n k hk
 unfold Y4 Yp
 rw [h1, Option.getD_some, List.length_map, h3]
theorem num_zero (big : Bool) {k : Nat} (hk : k ≤ 8) : Y4 big 0 k = List.replicate k 0 := by
 obtain ⟨L, h1, _, h3, _, h5⟩ := num_ex big 0 k hk
 have : L = List.replicate k 0 := List.eq_replicate_iff.2 ⟨h3, h5 rfl⟩
 unfold Y4 Yp
 rw [h1, Option.getD_some, this, List.map_replicate]; rfl
theorem tag2 (big : Bool) (n : Int) : Ji big n 2 = some (Qk (Y4 big n 2)) := Jgv big n (k := 2) (by omega)
theorem tag4 (big : Bool) (n : Int) : Ji big n 4 = some (Qk (Y4 big n 4)) := Jgv big n (k := 4) (by omega)
theorem R2 (big : Bool) (n : Int) : X2 big n 2 = some (Y4 big n 2) := num_R big n (k := 2) (by omega)
theorem R4 (big : Bool) (n : Int) : X2 big n 4 = some (Y4 big n 4) := num_R big n (k := 4) (by omega)
def J5 (k : Int) : Nat := if k = 1 ∨ k = 2 ∨ k = 7 then 1 else if k = 3 then 2 else if k = 4 ∨ k = 9 then 4 else if k = 5 then 8 else 0
theorem Jal (k : Int) : J5 k ≤ 8 := by unfold J5; (repeat' split) <;> omega
theorem Jde (k : Int) : Z8 k = some (if k = 13 then 1 else (J5 k : Int)) := by
 unfold Z8 Jac J5
 by_cases h1 : k = 1
 ·subst h1; rfl
 by_cases h2 : k = 2
 ·subst h2; rfl
 by_cases h3 : k = 3
 ·subst h3; rfl
 by_cases h4 : k = 4
 ·subst h4; rfl
 by_cases h5 : k = 5
 ·subst h5; rfl
 by_cases h7 : k = 7
 ·subst h7; rfl
 by_cases h9 : k = 9
 ·subst h9; rfl
 by_cases h13 : k = 13
 ·subst h13; rfl
 simp [h1, h2, h3, h4, h5, h7, h9, h13, Jx]
theorem Jfx (k : Int) : Je4 k = some (if k = 13 then 4 else (J5 k : Int)) := by
 unfold Je4 Jeo J5
 by_cases h1 : k = 1
 ·subst h1; rfl
 by_cases h2 : k = 2
 ·subst h2; rfl
 by_cases h3 : k = 3
 ·subst h3; rfl
 by_cases h4 : k = 4
 ·subst h4; rfl
 by_cases h5 : k = 5
 ·subst h5; rfl
 by_cases h7 : k = 7
 ·subst h7; rfl
 by_cases h9 : k = 9
 ·subst h9; rfl
 by_cases h13 : k = 13
 ·subst h13; rfl
 simp [h1, h2, h3, h4, h5, h7, h9, h13, Jx]
def Jb7 (k : Int) : Prop := k = 1 ∨ k = 3 ∨ k = 4 ∨ k = 9
def Jc2 (k : Int) : Prop := k = 2 ∨ k = 7
instance (k : Int) : Decidable (Jb7 k) := by unfold Jb7; infer_instance
instance (k : Int) : Decidable (Jc2 k) := by unfold Jc2; infer_instance
def Jfq (k : Int) : Prop := Jb7 k ∨ Jc2 k ∨ k = 5 ∨ k = 13
instance (k : Int) : Decidable (Jfq k) := by unfold Jfq; infer_instance
def Jg2 (v : Tg) : Prop := (¬ Jb7 v.Kind ∧ v.Ints ≠ []) ∨ (¬ Jc2 v.Kind ∧ v.Text ≠ []) ∨ (v.Kind ≠ 5 ∧ v.Ratios ≠ []) ∨ (v.Kind ≠ 13 ∧ v.Entries ≠ [])
noncomputable def Jai (v : Tg) : Int := open Classical in if ¬ Jfq v.Kind then 10 else if Jg2 v then 1 else 0
theorem Jch {α : Type} (l : List α) : (0 : Int) < (l.length : Int) ↔ l ≠ [] := by
 cases l <;> simp <;> omega
theorem Jeg (k : Int) (h : k ≠ 13) : (J5 k : Int) = 0 ↔ ¬ Jfq k := by
 unfold J5 Jfq Jb7 Jc2
 split
 ·omega
 ·split
  ·omega
  ·split
   ·omega
   ·split <;> omega
theorem j3_fields (v : Tg) (b : Bool) : Wk v b = some (open Classical in if b = true ∨ (v.Kind ≠ 13 ∧ v.Entries ≠ []) then 1 else 0) := by
 unfold Wk
 cases b
 ·rw [Jx, cI, cI]
  by_cases h1 : v.Kind ≠ 13
  ·by_cases h2 : v.Entries = []
   ·rw [if_pos h1, if_neg (by rw [Jch]; simpa using h2), if_neg (by simp [h2])]
   ·rw [if_pos h1, if_pos ((Jch _).2 h2), if_pos (.inr ⟨h1, h2⟩)]
  ·rw [if_neg h1, if_neg (by simp [h1])]
 ·rw [J9, J9, if_pos (.inl rfl)]
theorem j2_fields (v : Tg) (b : Bool) : Wg v b = some (open Classical in if b = true ∨ (v.Kind ≠ 5 ∧ v.Ratios ≠ []) ∨ (v.Kind ≠ 13 ∧ v.Entries ≠ []) then 1 else 0) := by
 unfold Wg
 cases b
 ·rw [Jx, cI, j3_fields, j3_fields]
  by_cases h1 : v.Kind ≠ 5
  ·rw [if_pos h1]
   congr 1
   by_cases h2 : v.Ratios = []
   ·simp [h2]
   ·simp [h2, h1, List.length_pos_iff]
  ·rw [if_neg h1]; simp [h1]
 ·rw [J9, J9, if_pos (.inl rfl)]
theorem j1_fields (v : Tg) (b : Bool) : Wo v b = some (open Classical in if b = true ∨ (¬ Jc2 v.Kind ∧ v.Text ≠ []) ∨ (v.Kind ≠ 5 ∧ v.Ratios ≠ []) ∨ (v.Kind ≠ 13 ∧ v.Entries ≠ []) then 1 else 0) := by
 have ht : Je3 v.Kind = some (decide (Jc2 v.Kind)) := by
  unfold Je3 Jc2
  rw [cI]
  by_cases h : v.Kind = 2
  ·simp [h]
  ·simp [h]
 unfold Wo
 cases b
 ·rw [Jx, ht, Jb, j2_fields, j2_fields]
  by_cases h1 : Jc2 v.Kind
  ·rw [decide_eq_true h1]
   show Qa false _ _ = _
   rw [Jx]; simp [h1]
  ·rw [decide_eq_false h1]
   show Qa true _ _ = _
   rw [J9]; simp [h1]
 ·rw [J9, J9, if_pos (.inl rfl)]
theorem Jfg (v : Tg) : U7 v = some (Jai v) := by
 have hi : Jep v.Kind = some (decide (Jb7 v.Kind)) := by
  unfold Jep Jb7
  rw [cI, cI, cI]
  by_cases h : v.Kind = 1
  ·simp [h]
  by_cases h3 : v.Kind = 3
  ·simp [h3]
  by_cases h4 : v.Kind = 4
  ·simp [h4]
  simp [h, h3, h4]
 unfold U7 Jai
 rw [Jde, Jb, cI]
 by_cases hk : Jfq v.Kind
 ·have hz : ¬ (if v.Kind = 13 then (1 : Int) else (J5 v.Kind : Int)) = 0 := by
   by_cases h13 : v.Kind = 13
   ·rw [if_pos h13]; omega
   ·rw [if_neg h13]; exact fun e => (Jeg _ h13).1 e hk
  rw [if_neg hz, hi, Jb, j1_fields, j1_fields, if_neg (show ¬ ¬ Jfq v.Kind from fun h => h hk)]
  by_cases h1 : Jb7 v.Kind
  ·rw [decide_eq_true h1]
   show Qa false _ _ = _
   rw [Jx]; unfold Jg2; simp [h1]
  ·rw [decide_eq_false h1]
   show Qa true _ _ = _
   rw [J9]; unfold Jg2; simp [h1, List.length_pos_iff]
 ·have h13 : v.Kind ≠ 13 := fun e => hk (.inr (.inr (.inr e)))
  rw [if_neg h13, if_pos ((Jeg _ h13).2 hk), if_pos hk]
def limS (k : Int) : Int × Int := if k = 1 then (0, 255) else if k = 3 then (0, 65535) else if k = 9 then (-2147483648, 2147483647) else (0, 4294967295)
theorem bounds_eq (k : Int) : Jew k = some (limS k) := by
 unfold Jew limS
 rw [cI, cI, cI]; (repeat' split) <;> rfl
theorem limits_eq (k : Int) : Jgs k = some (limS k) := by
 unfold Jgs limS
 rw [cI, cI, cI]; (repeat' split) <;> rfl
theorem Jgt (a b c : Int) : W0 a b c = some (decide (a < b ∨ c < a)) := by
 unfold W0
 rw [cI]
 by_cases h : a < b
 ·rw [if_pos h]; simp [h]
 ·rw [if_neg h]; simp [h]
def ratP (r : Th) : Prop := (r.Num < 0 ∨ 4294967295 < r.Num) ∨ (r.Den < 0 ∨ 4294967295 < r.Den)
noncomputable def Jh0 (v : Tg) : Int := open Classical in
 if Jai v ≠ 0 then Jai v else if ∃ n ∈ v.Ints, n < (limS v.Kind).1 ∨ (limS v.Kind).2 < n then 2 else if ∃ r ∈ v.Ratios, ratP r then 2 else if v.Kind = 2 ∧ (0 : UInt8) ∈ v.Text then 9 else 0
theorem Jen {α : Type} {F : (Int → Option Int) → Int → Option Int} (xs : List α) (p : α → Prop) (e : Int) (o : Option Int) (more : ∀ (next : Int → Option Int) (k : Nat) (hk : k < xs.length), (p xs[k] → F next (k : Int) = some e) ∧ (¬ p xs[k] → F next (k : Int) = next ((k : Int) + 1))) (stop : ∀ next, F next (xs.length : Int) = o) :
  Zs F 0 = open Classical in if ∃ x ∈ xs, p x then some e else o := by
 have key : ∀ m i : Nat, i + m = xs.length → Zs F (i : Int) = open Classical in if ∃ x ∈ xs.drop i, p x then some e else o := by
  intro m
  induction m with
  | zero =>
   intro i hi
   have : i = xs.length := by omega
   subst this
   rw [List.drop_length, if_neg (by simp)]
   exact Jz stop
  | succ m ih =>
   intro i hi
   have hlt : i < xs.length := by omega
   rw [List.drop_eq_getElem_cons hlt]
   by_cases hp : p xs[i]
   ·rw [if_pos ⟨_, List.mem_cons_self, hp⟩]
    exact Jz fun next => (more next i hlt).1 hp
   ·rw [Q2 ((i : Int) + 1) (fun next => (more next i hlt).2 hp)]
    have := ih (i + 1) (by omega)
    rw [show ((i : Int) + 1) = ((i + 1 : Nat) : Int) from rfl, this]
    congr 1
    apply propext
    constructor
    ·rintro ⟨x, hx, h⟩; exact ⟨x, List.mem_cons_of_mem _ hx, h⟩
    ·rintro ⟨x, hx, h⟩
     rcases List.mem_cons.1 hx with h' | h'
     ·subst h'; exact absurd h hp
     ·exact ⟨x, h', h⟩
 have := key xs.length 0 (by omega)
 rw [List.drop_zero] at this
 exact this
def vB (v : Tg) : Prop := v.Text.length ≤ 2000000 ∧ v.Ints.length ≤ 2000000 ∧ v.Ratios.length ≤ 2000000
theorem j2_plain {v : Tg} (hb : vB v) : W5 v = some (open Classical in if v.Kind = 2 ∧ (0 : UInt8) ∈ v.Text then 9 else 0) := by
 unfold W5
 rw [cI]
 by_cases h2 : v.Kind = 2
 ·rw [if_pos h2, Jen v.Text (fun c => c = 0) 9 (some 0) (fun next k hk => ?_) (fun next => ?_)]
  ·congr 1
   by_cases hm : (0 : UInt8) ∈ v.Text
   ·rw [if_pos ⟨0, hm, rfl⟩, if_pos ⟨h2, hm⟩]
   ·rw [if_neg (fun ⟨x, hx, e⟩ => hm (e ▸ hx)), if_neg (fun h => hm h.2)]
  ·show (_ → Y6 v next (k : Int) = _) ∧ (_ → Y6 v next (k : Int) = _)
   have := hb.1
   unfold Y6
   rw [cI, if_pos (by omega), U3 hk, Jb, cI]
   constructor
   ·intro e; rw [if_pos (by rw [e]; rfl)]
   ·intro e
    have : v.Text[k].toNat ≠ 0 := fun h => e (by rw [← UInt8.ofNat_toNat (x := v.Text[k]), h]; rfl)
    rw [if_neg (by omega), Jr (by omega), Jb]
  ·show Y6 v next (v.Text.length : Int) = _
   unfold Y6
   rw [cI, if_neg (by omega)]
 ·rw [if_neg h2, if_neg (fun h => h2 h.1)]
theorem Jjk {v : Tg} (hb : vB v) : Jb2 v = some (Jh0 v) := by
 unfold Jb2 Jh0
 rw [Jfg, Jb, cI]
 by_cases hf : Jai v ≠ 0
 ·rw [if_pos hf, if_pos hf]
 rw [if_neg hf, if_neg hf, bounds_eq, Jb]
 rw [Jen (F := fun next5 s => Yq v (limS v.Kind) next5 s) v.Ints (fun n => n < (limS v.Kind).1 ∨ (limS v.Kind).2 < n) 2 (Wz v) (fun next k hk => ?_) (fun next => ?_)]
 ·have e1 : Wz v = some (open Classical in if ∃ r ∈ v.Ratios, ratP r then 2 else if v.Kind = 2 ∧ (0 : UInt8) ∈ v.Text then 9 else 0) := by
   unfold Wz
   rw [Jen (F := fun next4 s => Yr v next4 s) v.Ratios ratP 2 (W5 v) (fun next k hk => ?_) (fun next => ?_), j2_plain hb]
   ·split <;> rfl
   ·show (_ → Yr v next (k : Int) = _) ∧ (_ → Yr v next (k : Int) = _)
    have := hb.2.2
    unfold Yr ratP
    rw [cI, if_pos (by omega), Xk hk, Jb, Jgt, Jb, cI, Jgt, Jb, cI]
    constructor
    ·intro e
     by_cases h1 : v.Ratios[k].Num < 0 ∨ 4294967295 < v.Ratios[k].Num
     ·rw [if_pos h1]
     ·rw [if_neg h1, if_pos (e.resolve_left h1)]
    ·intro e
     rw [if_neg (fun h => e (.inl h)), if_neg (fun h => e (.inr h)), Jr (by omega), Jb]
   ·show Yr v next (v.Ratios.length : Int) = _
    unfold Yr
    rw [cI, if_neg (by omega)]
  rw [e1]; split <;> rfl
 ·show (_ → Yq v _ next (k : Int) = _) ∧ (_ → Yq v _ next (k : Int) = _)
  have := hb.2.1
  unfold Yq
  rw [cI, if_pos (by omega), Xk hk, Jb, Jgt, Jb, cI]
  constructor
  ·intro e; rw [if_pos e]
  ·intro e; rw [if_neg e, Jr (by omega), Jb]
 ·show Yq v _ next (v.Ints.length : Int) = _
  unfold Yq
  rw [cI, if_neg (by omega)]
theorem ixB_mem (c : UInt8) (t : List UInt8) : -1 ≤ ixB t c ∧ (0 ≤ ixB t c ↔ c ∈ t) := by
 induction t with
 | nil => exact ⟨by unfold ixB; omega, by simp [ixB]⟩
 | cons b t ih =>
  unfold ixB
  by_cases hb : b = c
  ·rw [if_pos hb]; exact ⟨by omega, fun _ => by simp [hb], fun _ => by omega⟩
  ·rw [if_neg hb]
   have hc : ¬ c = b := fun e => hb e.symm
   rw [List.mem_cons]
   by_cases h1 : ixB t c = -1
   ·rw [if_pos h1]
    exact ⟨by omega, fun h => by omega, fun h => by have := ih.2.2 (h.resolve_left hc); omega⟩
   ·rw [if_neg h1]
    exact ⟨by omega, fun h => .inr (ih.2.1 (by omega)), fun h => by have := ih.2.2 (h.resolve_left hc); omega⟩
theorem j2_fault {v : Tg} (hb : vB v) (h13 : v.Kind ≠ 13) : Yc v = some (open Classical in if ∃ n ∈ v.Ints, n < (limS v.Kind).1 ∨ (limS v.Kind).2 < n then 2 else if ∃ r ∈ v.Ratios, ratP r then 2 else if v.Kind = 2 ∧ (0 : UInt8) ∈ v.Text then 9 else 0) := by
 have e4 : U1 v = some (open Classical in if v.Kind = 2 ∧ (0 : UInt8) ∈ v.Text then 9 else 0) := by
  unfold U1 Jbl
  rw [cI, cI, if_neg h13]
  by_cases h2 : v.Kind = 2
  ·rw [if_pos h2]
   unfold W8 Y2
   have hx : gIxB v.Text 0 = some (ixB v.Text 0) := by unfold gIxB; rfl
   have hm := (ixB_mem 0 v.Text).2
   rw [hx, Jb, Jb, Jb, cI]
   by_cases h0 : (0 : UInt8) ∈ v.Text
   ·rw [if_pos (hm.2 h0), if_pos ⟨h2, h0⟩]
   ·rw [if_neg (fun h => h0 (hm.1 h)), if_neg (fun h => h0 h.2)]
  ·rw [if_neg h2, if_neg (fun h => h2 h.1)]
 have e3 : Jaa v = some (open Classical in if ∃ r ∈ v.Ratios, ratP r then 2 else if v.Kind = 2 ∧ (0 : UInt8) ∈ v.Text then 9 else 0) := by
  unfold Jaa
  rw [Jen (F := fun next6 s => Zk v next6 s) v.Ratios ratP 2 (U1 v) (fun next k hk => ?_) (fun next => ?_), e4]
  ·split <;> rfl
  ·show (_ → Zk v next (k : Int) = _) ∧ (_ → Zk v next (k : Int) = _)
   have := hb.2.2
   unfold Zk ratP
   rw [cI, if_pos (by omega), Xk hk, Jb, cI, cI, cI, cI]
   constructor
   ·intro e
    by_cases h1 : v.Ratios[k].Num < 0
    ·rw [if_pos h1]
    by_cases h2 : 4294967295 < v.Ratios[k].Num
    ·rw [if_neg h1, if_pos h2]
    by_cases h3 : v.Ratios[k].Den < 0
    ·rw [if_neg h1, if_neg h2, if_pos h3]
    rw [if_neg h1, if_neg h2, if_neg h3, if_pos (by omega)]
   ·intro e
    rw [if_neg (by omega), if_neg (by omega), if_neg (by omega), if_neg (by omega), Jr (by omega), Jb]
  ·show Zk v next (v.Ratios.length : Int) = _
   unfold Zk
   rw [cI, if_neg (by omega)]
 unfold Yc
 rw [limits_eq, Jb]
 rw [Jen (F := fun next7 s => Zl v (limS v.Kind) next7 s) v.Ints (fun n => n < (limS v.Kind).1 ∨ (limS v.Kind).2 < n) 2 (Jaa v) (fun next k hk => ?_) (fun next => ?_), e3]
 ·split <;> rfl
 ·show (_ → Zl v _ next (k : Int) = _) ∧ (_ → Zl v _ next (k : Int) = _)
  have := hb.2.1
  unfold Zl
  rw [cI, if_pos (by omega), Xk hk, Jb, cI, cI]
  constructor
  ·intro e
   by_cases h1 : v.Ints[k] < (limS v.Kind).1
   ·rw [if_pos h1]
   ·rw [if_neg h1, if_pos (e.resolve_left h1)]
  ·intro e
   rw [if_neg (fun h => e (.inl h)), if_neg (fun h => e (.inr h)), Jr (by omega), Jb]
 ·show Zl v _ next (v.Ints.length : Int) = _
  unfold Zl
  rw [cI, if_neg (by omega)]
theorem j10_fault (v : Tg) (b : Bool) : Um v b = open Classical in if b = true ∨ (v.Kind ≠ 13 ∧ v.Entries ≠ []) then some 1 else Yc v := by
 unfold Um
 cases b
 ·rw [Jx, cI, cI]
  by_cases h2 : v.Entries = []
  ·rw [if_neg (by rw [Jch]; simpa using h2), if_neg (by simp [h2])]
  ·rw [if_pos ((Jch _).2 h2)]
   by_cases h1 : v.Kind = 13
   ·rw [if_neg (by simpa using h1), if_neg (by simp [h1])]
   ·rw [if_pos h1, if_pos (.inr ⟨h1, h2⟩)]
 ·rw [J9, J9, if_pos (.inl rfl)]
theorem j9_fault (v : Tg) (b : Bool) : U4 v b = open Classical in if b = true ∨ (v.Kind ≠ 5 ∧ v.Ratios ≠ []) ∨ (v.Kind ≠ 13 ∧ v.Entries ≠ []) then some 1 else Yc v := by
 unfold U4
 cases b
 ·rw [Jx, cI, j10_fault, j10_fault]
  by_cases h2 : v.Ratios = []
  ·rw [if_neg (by rw [Jch]; simpa using h2)]; simp [h2]
  ·rw [if_pos ((Jch _).2 h2)]; simp [h2]
 ·rw [J9, J9, if_pos (.inl rfl)]
theorem j8_fault (v : Tg) (x4 b : Bool) : U6 v x4 b = open Classical in if b = true ∨ (x4 = false ∧ v.Ints ≠ []) ∨ (v.Kind ≠ 5 ∧ v.Ratios ≠ []) ∨ (v.Kind ≠ 13 ∧ v.Entries ≠ []) then some 1 else Yc v := by
 unfold U6
 cases b
 ·rw [Jx, cI, j9_fault, j9_fault]
  by_cases h2 : v.Ints = []
  ·rw [if_neg (by rw [Jch]; simpa using h2)]; simp [h2]
  ·rw [if_pos ((Jch _).2 h2)]; cases x4 <;> simp [h2]
 ·rw [J9, J9, if_pos (.inl rfl)]
theorem Jjm {v : Tg} (hb : vB v) (h13 : v.Kind ≠ 13) : Jb8 v = some (Jh0 v) := by
 have e : Jb8 v = Yd v (decide (Jc2 v.Kind)) (decide (Jb7 v.Kind)) := by
  unfold Jb8 Jc2 Jb7
  by_cases h2 : v.Kind = 2
  ·simp [h2, J9, Jx]
  by_cases h1 : v.Kind = 1
  ·simp [h1, J9, Jx]
  by_cases h3 : v.Kind = 3
  ·simp [h3, J9, Jx]
  by_cases h4 : v.Kind = 4
  ·simp [h4, J9, Jx]
  simp [h2, h1, h3, h4, Jx]
 rw [e]
 unfold Yd
 rw [Jfx, Jb, cI, if_neg h13]
 unfold Jh0 Jai
 by_cases hk : Jfq v.Kind
 ·rw [if_neg (fun e => (Jeg _ h13).1 e hk), cI, j8_fault, j8_fault, j2_fault hb h13, if_neg (show ¬ ¬ Jfq v.Kind from fun h => h hk)]
  have hfm : (if v.Text ≠ [] then (open Classical in if (!decide (Jc2 v.Kind)) = true ∨ (decide (Jb7 v.Kind) = false ∧ v.Ints ≠ []) ∨ (v.Kind ≠ 5 ∧ v.Ratios ≠ []) ∨ (v.Kind ≠ 13 ∧ v.Entries ≠ []) then True else False) else (open Classical in if false = true ∨ (decide (Jb7 v.Kind) = false ∧ v.Ints ≠ []) ∨ (v.Kind ≠ 5 ∧ v.Ratios ≠ []) ∨ (v.Kind ≠ 13 ∧ v.Entries ≠ []) then True else False)) ↔ Jg2 v := by
   unfold Jg2
   by_cases ht : v.Text = [] <;> by_cases hk1 : Jc2 v.Kind <;> by_cases hk2 : Jb7 v.Kind <;> simp [ht, hk1, hk2]
  by_cases hf : Jg2 v
  ·rw [if_pos hf, if_pos (show (1 : Int) ≠ 0 by omega)]
   by_cases ht : v.Text = []
   ·rw [if_neg (by simpa using ht)]
    rw [if_neg (by simpa using ht)] at hfm
    have := hfm.2 hf
    split at this
    ·rename_i h; rw [if_pos h]
    ·exact this.elim
   ·rw [if_pos ht]
    rw [if_pos ht] at hfm
    have := hfm.2 hf
    split at this
    ·rename_i h; rw [if_pos h]
    ·exact this.elim
  ·rw [if_neg hf, if_neg (show ¬ ((0 : Int) ≠ 0) by omega)]
   by_cases ht : v.Text = []
   ·rw [if_neg (by simpa using ht)]
    rw [if_neg (by simpa using ht)] at hfm
    rw [if_neg (fun h => hf (hfm.1 (by rw [if_pos h]; trivial)))]
   ·rw [if_pos ht]
    rw [if_pos ht] at hfm
    rw [if_neg (fun h => hf (hfm.1 (by rw [if_pos h]; trivial)))]
 ·rw [if_pos ((Jeg _ h13).2 hk), if_pos hk, if_pos (show (10 : Int) ≠ 0 by omega)]
end Go.M

/- Directories checked, values as octets, in plain Lean. Conditions: none. -/
namespace Go.M
open Go.Md Go.Pl
def szD : Nat → List Ta → Nat
 | 0, _ => 0
 | d + 1, l => (l.map fun e => 1 + e.Value.Text.length + e.Value.Ints.length + e.Value.Ratios.length + szD d e.Value.Entries).sum
def szE (d : Nat) (e : Ta) : Nat := 1 + e.Value.Text.length + e.Value.Ints.length + e.Value.Ratios.length + szD d e.Value.Entries
theorem Jd1 (d : Nat) : szD (d + 1) [] = 0 := rfl
theorem Jem (d : Nat) (e : Ta) (l : List Ta) : szD (d + 1) (e :: l) = szE d e + szD (d + 1) l := by
 simp only [szD, szE, List.map_cons, List.sum_cons]
theorem szD_mem {d : Nat} {e : Ta} : ∀ {l : List Ta}, e ∈ l → szE d e ≤ szD (d + 1) l
 | [], h => by cases h
 | x :: l, h => by
  rw [Jem]
  rcases List.mem_cons.1 h with h | h
  ·subst h; omega
  ·have := szD_mem (d := d) h; omega
theorem szD_len {d : Nat} : ∀ l : List Ta, l.length ≤ szD (d + 1) l
 | [] => Nat.zero_le _
 | x :: l => by rw [Jem, List.length_cons]; have := szD_len (d := d) l; unfold szE; omega
theorem Jf2 {d : Nat} {e : Ta} {l : List Ta} (h : szD (d + 1) l ≤ 2000000) (he : e ∈ l) : vB e.Value ∧ szD d e.Value.Entries ≤ 2000000 := by
 have := szD_mem (d := d) he
 unfold szE at this
 unfold vB
 omega
def prevT (l : List Ta) : Nat → Option Int
 | 0 => none
 | k + 1 => (l[k]?).map (·.Tag)
def lowP (pr : Option Int) (e : Ta) : Prop := ∃ t, pr = some t ∧ e.Tag ≤ t
noncomputable def listE (f : Ta → Int) : Option Int → List Ta → Int
 | _, [] => 0
 | pr, e :: l => open Classical in if e.Tag < 0 ∨ 65535 < e.Tag then 2 else if lowP pr e then 5 else if f e ≠ 0 then f e else listE f (some e.Tag) l
theorem list_loop {G : (Int → Option Int) → Int → Option Int} (l : List Ta) (f : Ta → Int)
  (more : ∀ (next : Int → Option Int) (k : Nat) (hk : k < l.length), G next (k : Int) = open Classical in if l[k].Tag < 0 ∨ 65535 < l[k].Tag then some 2 else if lowP (prevT l k) l[k] then some 5 else if f l[k] ≠ 0 then some (f l[k]) else next ((k : Int) + 1))
  (stop : ∀ next, G next (l.length : Int) = some 0) : Zs G 0 = some (listE f none l) := by
 have key : ∀ m i : Nat, i + m = l.length → Zs G (i : Int) = some (listE f (prevT l i) (l.drop i)) := by
  intro m
  induction m with
  | zero =>
   intro i hi
   have : i = l.length := by omega
   subst this
   rw [List.drop_length]
   exact Jz stop
  | succ m ih =>
   intro i hi
   have hlt : i < l.length := by omega
   rw [List.drop_eq_getElem_cons hlt]
   unfold listE
   by_cases h1 : l[i].Tag < 0 ∨ 65535 < l[i].Tag
   ·rw [if_pos h1]
    exact Jz fun next => by rw [more next i hlt, if_pos h1]
   rw [if_neg h1]
   by_cases h2 : lowP (prevT l i) l[i]
   ·rw [if_pos h2]
    exact Jz fun next => by rw [more next i hlt, if_neg h1, if_pos h2]
   rw [if_neg h2]
   by_cases h3 : f l[i] ≠ 0
   ·rw [if_pos h3]
    exact Jz fun next => by rw [more next i hlt, if_neg h1, if_neg h2, if_pos h3]
   rw [if_neg h3, Q2 ((i : Int) + 1) (fun next => by rw [more next i hlt, if_neg h1, if_neg h2, if_neg h3])]
   have := ih (i + 1) (by omega)
   have e1 : prevT l (i + 1) = some l[i].Tag := by show (l[i]?).map _ = _; rw [List.getElem?_eq_getElem hlt]; rfl
   rw [e1] at this
   exact this
 have := key l.length 0 (by omega)
 rw [List.drop_zero] at this
 exact this
theorem Jiv {f : Ta → Int} : ∀ {l : List Ta} {pr : Option Int}, listE f pr l = 0 → ∀ e ∈ l, f e = 0
 | [], _, _, e, he => by cases he
 | x :: l, pr, h, e, he => by
  unfold listE at h
  split at h
  ·omega
  split at h
  ·omega
  split at h
  ·rename_i h1; exact absurd h h1
  ·rename_i h1
   rcases List.mem_cons.1 he with h' | h'
   ·subst h'; simpa using h1
   ·exact Jiv h e h'
noncomputable def dE : Nat → List Ta → Int
 | 0, _ => 4
 | d + 1, l => if 200 < l.length then 4 else listE (fun e => if e.Value.Kind ≠ 13 then Jh0 e.Value else if Jai e.Value ≠ 0 then Jai e.Value else dE d e.Value.Entries) none l
theorem low_step {α : Type} {l : List Ta} {k : Nat} (hk : k < l.length) (hl : l.length ≤ 1000) (J : Option α) (x : α) :
  Qa (decide (0 < (k : Int))) (Js (gI ((k : Int) - 1)) fun t => Js (Zu l t) fun t35 => Qa (decide (l[k].Tag ≤ t35.Tag)) (some x) J) J = open Classical in if lowP (prevT l k) l[k] then some x else J := by
 rw [cI]
 cases k with
 | zero =>
  rw [if_neg (by omega), if_neg]
  rintro ⟨t, h, _⟩
  cases h
 | succ k =>
  have e : prevT l (k + 1) = some l[k].Tag := by show (l[k]?).map _ = _; rw [List.getElem?_eq_getElem (by omega)]; rfl
  rw [if_pos (by omega), Jr (by omega), Jb, show (((k + 1 : Nat) : Int) - 1) = (k : Int) from by omega, Xk (by omega), Jb, cI, e]
  by_cases h : l[k + 1].Tag ≤ l[k].Tag
  ·rw [if_pos h, if_pos ⟨_, rfl, h⟩]
  ·rw [if_neg h, if_neg]
   rintro ⟨t, ht, h'⟩
   cases ht
   exact h h'
theorem checkDir_eq (d : Nat) (l : List Ta) (deep : Int) (hd : deep = 6 - (d : Int)) (h5 : d ≤ 5) (hz : szD d l ≤ 2000000) : Jc9 l deep = some (dE d l) := by
 unfold Jc9
 refine Jhe (fun d (a : List Ta × Int) => some (dE d a.1)) (fun d a => a.2 = 6 - (d : Int) ∧ d ≤ 5 ∧ szD d a.1 ≤ 2000000) (fun d => d) ?_ d (l, deep) ⟨hd, h5, hz⟩
 rintro next d ⟨l, deep⟩ ⟨hd, h5, hz⟩ ih
 simp only at hd hz
 show Y8 next l deep = some (dE d l)
 unfold Y8
 rw [cI, cI]
 cases d with
 | zero => rw [if_pos (by omega)]; rfl
 | succ d =>
  rw [if_neg (by omega)]
  unfold dE
  by_cases hl : 200 < l.length
  ·rw [if_pos (by omega), if_pos hl]
  rw [if_neg (by omega), if_neg hl]
  refine list_loop l _ (fun nx k hk => ?_) (fun nx => ?_)
  ·obtain ⟨hb, hzn⟩ := Jf2 hz (List.getElem_mem hk)
   unfold U5
   rw [cI, if_pos (by omega), Xk hk, Jb, Jgt, Jb, cI]
   by_cases h1 : l[k].Tag < 0 ∨ 65535 < l[k].Tag
   ·rw [if_pos h1, if_pos h1]
   rw [if_neg h1, if_neg h1, low_step hk (by omega)]
   congr 1
   unfold Jbm
   have e3 : ∀ x : Int, Wx (k : Int) nx x = if x ≠ 0 then some x else nx ((k : Int) + 1) := fun x => by
    unfold Wx; rw [cI, Jr (by omega), Jb]
   rw [cI]
   by_cases h13 : l[k].Value.Kind ≠ 13
   ·rw [if_pos h13, Jjk hb, Jb, e3]; simp only [if_pos h13]
   ·rw [if_neg h13, Jfg, Jb, cI]
    simp only [if_neg h13]
    by_cases hf : Jai l[k].Value = 0
    ·have := ih d (l[k].Value.Entries, deep + 1) ⟨by show deep + 1 = _; omega, by omega, hzn⟩ (by omega)
     rw [if_pos hf, Jr (by omega), Jb, this, Jb, e3, if_neg (show ¬ Jai l[k].Value ≠ 0 from fun h => h hf)]
    ·rw [if_neg hf, e3]; simp [hf]
  ·unfold U5
   rw [cI, if_neg (by omega)]
theorem fields13 {v : Tg} (h : v.Kind = 13) : Jai v = open Classical in if v.Text ≠ [] ∨ v.Ints ≠ [] ∨ v.Ratios ≠ [] then 1 else 0 := by
 unfold Jai
 rw [if_neg (show ¬ ¬ Jfq v.Kind from fun x => x (.inr (.inr (.inr h))))]
 congr 1
 apply propext
 unfold Jg2 Jb7 Jc2
 rw [h]
 constructor
 ·rintro (⟨_, a⟩ | ⟨_, a⟩ | ⟨_, a⟩ | ⟨a, _⟩)
  ·exact .inr (.inl a)
  ·exact .inl a
  ·exact .inr (.inr a)
  ·exact absurd rfl a
 ·rintro (a | a | a)
  ·exact .inr (.inl ⟨by omega, a⟩)
  ·exact .inl ⟨by omega, a⟩
  ·exact .inr (.inr (.inl ⟨by omega, a⟩))
theorem dirFault_eq (d : Nat) (l : List Ta) (deep : Int) (hd : deep = 6 - (d : Int)) (h5 : d ≤ 5) (hz : szD d l ≤ 2000000) : Jeu l deep = some (dE d l) := by
 unfold Jeu
 refine Jhe (fun d (a : List Ta × Int) => some (dE d a.1)) (fun d a => a.2 = 6 - (d : Int) ∧ d ≤ 5 ∧ szD d a.1 ≤ 2000000) (fun d => d) ?_ d (l, deep) ⟨hd, h5, hz⟩
 rintro next d ⟨l, deep⟩ ⟨hd, h5, hz⟩ ih
 simp only at hd hz
 show Z3 next l deep = some (dE d l)
 unfold Z3
 rw [cI, cI]
 cases d with
 | zero => rw [if_pos (by omega)]; rfl
 | succ d =>
  rw [if_neg (by omega)]
  unfold dE
  by_cases hl : 200 < l.length
  ·rw [if_pos (by omega), if_pos hl]
  rw [if_neg (by omega), if_neg hl]
  refine list_loop l _ (fun nx k hk => ?_) (fun nx => ?_)
  ·obtain ⟨hb, hzn⟩ := Jf2 hz (List.getElem_mem hk)
   unfold Jba
   rw [cI, if_pos (by omega), Xk hk, Jb, cI, cI]
   by_cases h1 : l[k].Tag < 0
   ·rw [if_pos h1, if_pos (.inl h1)]
   by_cases h2 : 65535 < l[k].Tag
   ·rw [if_neg h1, if_pos h2, if_pos (.inr h2)]
   rw [if_neg h1, if_neg h2, if_neg (show ¬ (l[k].Tag < 0 ∨ 65535 < l[k].Tag) by omega), low_step hk (by omega)]
   congr 1
   unfold Jcn
   have e3 : ∀ a b c g i j m o, Jbc (k : Int) nx a b c g i j m o = nx ((k : Int) + 1) := fun a b c g i j m o => by
    unfold Jbc; rw [Jr (by omega), Jb]
   simp only [e3]
   rw [cI]
   by_cases h13 : l[k].Value.Kind ≠ 13
   ·rw [if_pos h13, Jjm hb h13, Jb, cI]; simp only [if_pos h13]
   ·have h13' : l[k].Value.Kind = 13 := by simpa using h13
    rw [if_neg h13, cI, cI, cI]
    simp only [if_neg h13]
    rw [fields13 h13']
    by_cases a1 : l[k].Value.Text = []
    ·by_cases a2 : l[k].Value.Ints = []
     ·by_cases a3 : l[k].Value.Ratios = []
      ·have := ih d (l[k].Value.Entries, deep + 1) ⟨by show deep + 1 = _; omega, by omega, hzn⟩ (by omega)
       rw [if_neg (show ¬ (l[k].Value.Text ≠ []) by simpa using a1), if_neg (by rw [Jch]; simpa using a2), if_neg (by rw [Jch]; simpa using a3), Jr (by omega), Jb, this, Jb, cI]
       simp [a1, a2, a3]
      ·rw [if_neg (show ¬ (l[k].Value.Text ≠ []) by simpa using a1), if_neg (by rw [Jch]; simpa using a2), if_pos ((Jch _).2 a3)]
       simp [a3]
     ·rw [if_neg (show ¬ (l[k].Value.Text ≠ []) by simpa using a1), if_pos ((Jch _).2 a2)]
      simp [a2]
    ·rw [if_pos a1]
     simp [a1]
  ·unfold Jba
   rw [cI, if_neg (by omega)]
def okV (v : Tg) : Prop := Jfq v.Kind ∧ ¬ Jg2 v
def okD : Nat → List Ta → Prop
 | 0, _ => False
 | d + 1, l => l.length ≤ 200 ∧ ∀ e ∈ l, okV e.Value ∧ (e.Value.Kind = 13 → okD d e.Value.Entries)
theorem fields_ok {v : Tg} (h : Jai v = 0) : okV v := by
 unfold Jai at h
 split at h
 ·omega
 split at h
 ·omega
 rename_i h1 h2
 exact ⟨Classical.byContradiction h1, h2⟩
theorem dE_ok : ∀ {d : Nat} {l : List Ta}, dE d l = 0 → okD d l := by
 intro d
 induction d with
 | zero => intro l h; unfold dE at h; omega
 | succ d ih =>
  intro l h
  unfold dE at h
  split at h
  ·omega
  rename_i hl
  refine ⟨by omega, fun e he => ?_⟩
  have := Jiv h e he
  split at this
  ·rename_i h13
   refine ⟨?_, fun h => absurd h h13⟩
   unfold Jh0 at this
   split at this
   ·rename_i h1; exact absurd this h1
   ·rename_i h1; exact fields_ok (by simpa using h1)
  ·split at this
   ·rename_i h1; exact absurd this h1
   ·rename_i h1; exact ⟨fields_ok (by simpa using h1), fun _ => ih this⟩
theorem fix_listR {α ρ σ : Type} {F : (σ × Int → Option ρ) → σ × Int → Option ρ} (xs : List α) (f : σ → α → σ) (J : σ → Option ρ) (I : Nat → σ → Prop)
  (more : ∀ (next : σ × Int → Option ρ) (k : Nat) (s : σ) (hk : k < xs.length), I k s → F next (s, (k : Int)) = next (f s xs[k], (k : Int) + 1) ∧ I (k + 1) (f s xs[k]))
  (stop : ∀ (next : σ × Int → Option ρ) (s : σ), I xs.length s → F next (s, (xs.length : Int)) = J s) (s : σ) (hs : I 0 s) : Zs F (s, 0) = J (xs.foldl f s) := by
 have key : ∀ n k s, k ≤ xs.length → xs.length - k < n → I k s → Zs F (s, (k : Int)) = J ((xs.drop k).foldl f s) := by
  intro n
  induction n with
  | zero => intro k s _ h; omega
  | succ n ih =>
   intro k s hk h hI
   rcases Nat.lt_or_ge k xs.length with h1 | h1
   ·rw [Q2 (f s xs[k], (k : Int) + 1) (fun next => (more next k s h1 hI).1), List.drop_eq_getElem_cons h1, List.foldl_cons]
    exact ih (k + 1) _ (by omega) (by omega) (more (fun _ => none) k s h1 hI).2
   ·have : k = xs.length := by omega
    subst this
    rw [List.drop_length]
    exact Jz fun next => stop next s hI
 have := key (xs.length + 1) 0 s (Nat.zero_le _) (by omega) hs
 simpa using this
theorem Jhi {α : Type} (g : α → List UInt8) : ∀ (xs : List α) (a : List UInt8), xs.foldl (fun s x => s ++ g x) a = a ++ xs.flatMap g
 | [], a => by simp
 | x :: xs, a => by rw [List.foldl_cons, Jhi g xs]; simp
theorem Je5 {α : Type} (g : α → List UInt8) : ∀ (xs : List α) (a : List UInt8), xs.foldl (fun s x => s ++ Qk (g x)) (Qk a) = Qk (a ++ xs.flatMap g)
 | [], a => by simp
 | x :: xs, a => by rw [List.foldl_cons, ← Zq, Je5 g xs]; simp
noncomputable def ratS (big : Bool) (r : Th) : List UInt8 := Y4 big r.Num 4 ++ Y4 big r.Den 4
noncomputable def Ja7 (big : Bool) (v : Tg) : List UInt8 :=
 if v.Kind = 2 then v.Text ++ [0] else if v.Kind = 7 then v.Text else if v.Kind = 5 then v.Ratios.flatMap (ratS big) else v.Ints.flatMap fun n => Y4 big n (J5 v.Kind)
def cntS (v : Tg) : Nat := if v.Kind = 2 then v.Text.length + 1 else if v.Kind = 7 then v.Text.length else if v.Kind = 5 then v.Ratios.length else if v.Kind = 13 then 1 else v.Ints.length
theorem Jak {α : Type} {g : α → List UInt8} {w : Nat} (h : ∀ x, (g x).length = w) : ∀ xs : List α, (xs.flatMap g).length = xs.length * w
 | [] => by simp
 | x :: xs => by rw [List.flatMap_cons, List.length_append, h, Jak h xs, List.length_cons, Nat.add_mul]; omega
theorem Jg3 (big : Bool) (r : Th) : (ratS big r).length = 8 := by
 unfold ratS; rw [List.length_append, Xr _ _ (by omega), Xr _ _ (by omega)]
theorem Jiw (big : Bool) {v : Tg} (hv : okV v) (h13 : v.Kind ≠ 13) : (Ja7 big v).length = cntS v * J5 v.Kind := by
 unfold Ja7 cntS
 by_cases h2 : v.Kind = 2
 ·rw [if_pos h2, if_pos h2, List.length_append, h2]; simp [J5]
 rw [if_neg h2, if_neg h2]
 by_cases h7 : v.Kind = 7
 ·rw [if_pos h7, if_pos h7, h7]; simp [J5]
 rw [if_neg h7, if_neg h7]
 by_cases h5 : v.Kind = 5
 ·rw [if_pos h5, if_pos h5, h5, Jak (Jg3 big)]; rfl
 rw [if_neg h5, if_neg h5, if_neg h13, Jak (w := J5 v.Kind) (fun n => Xr _ _ (Jal _))]
theorem Jh9 (big : Bool) (v : Tg) : (Ja7 big v).length ≤ 1 + v.Text.length + 8 * v.Ints.length + 8 * v.Ratios.length := by
 unfold Ja7
 split
 ·rw [List.length_append, List.length_singleton]; omega
 split
 ·omega
 split
 ·rw [Jak (Jg3 big)]; omega
 ·rw [Jak (w := J5 v.Kind) (fun n => Xr _ _ (Jal _))]
  have := Nat.mul_le_mul_left v.Ints.length (Jal v.Kind)
  omega
theorem count_eq {v : Tg} (hb : vB v) : Ys v = some (cntS v : Int) := by
 unfold Ys cntS
 have := hb.1
 rw [cI, cI, cI, cI]
 by_cases h2 : v.Kind = 2
 ·rw [if_pos h2, if_pos h2, Jr (by omega), Jb]; rfl
 by_cases h7 : v.Kind = 7
 ·rw [if_neg h2, if_pos h7, if_neg h2, if_pos h7]
 by_cases h5 : v.Kind = 5
 ·rw [if_neg h2, if_neg h7, if_pos h5, if_neg h2, if_neg h7, if_pos h5]
 by_cases h13 : v.Kind = 13
 ·rw [if_neg h2, if_neg h7, if_neg h5, if_pos h13, if_neg h2, if_neg h7, if_neg h5, if_pos h13]; rfl
 rw [if_neg h2, if_neg h7, if_neg h5, if_neg h13, if_neg h2, if_neg h7, if_neg h5, if_neg h13]
theorem ok_parts {v : Tg} (hv : okV v) : (¬ Jb7 v.Kind → v.Ints = []) ∧ (¬ Jc2 v.Kind → v.Text = []) ∧ (v.Kind ≠ 5 → v.Ratios = []) := by
 obtain ⟨_, hf⟩ := hv
 unfold Jg2 at hf
 refine ⟨fun h => ?_, fun h => ?_, fun h => ?_⟩
 ·exact Classical.byContradiction fun e => hf (.inl ⟨h, e⟩)
 ·exact Classical.byContradiction fun e => hf (.inr (.inl ⟨h, e⟩))
 ·exact Classical.byContradiction fun e => hf (.inr (.inr (.inl ⟨h, e⟩)))
theorem tag_ratios {big : Bool} {v : Tg} (hb : vB v) (a : List UInt8) (ha : a.length ≤ 16000000) : Jbf big v (Qk a) = some (Qk (a ++ v.Ratios.flatMap (ratS big))) := by
 unfold Jbf
 have hr := hb.2.2
 rw [← Je5]
 refine Jfi (F := fun next2 s => V3 big v next2 s.1 s.2) v.Ratios (fun s r => s ++ Qk (ratS big r)) some (fun k s => s.length ≤ a.length + 8 * k) (fun next k s hk hs => ?_) (fun next s hs => ?_) _ (by rw [Qu]; omega)
 ·refine ⟨?_, by show (s ++ _).length ≤ _; rw [List.length_append, Qu, Jg3]; omega⟩
  show V3 big v next (k : Int) s = _
  unfold V3
  have l1 : (Qk (Y4 big v.Ratios[k].Num 4)).length = 4 := by rw [Qu, Xr _ _ (by omega)]
  have l2 : (Qk (Y4 big v.Ratios[k].Den 4)).length = 4 := by rw [Qu, Xr _ _ (by omega)]
  rw [cI, if_pos (by omega), Xk hk, Jb, tag4, Jb, Ya (by omega), Jb, tag4, Jb, Ya (by rw [List.length_append]; omega), Jb, Jr (by omega), Jb]
  unfold ratS
  rw [Zq, List.append_assoc]
 ·show V3 big v next (v.Ratios.length : Int) s = _
  unfold V3
  rw [cI, if_neg (by omega)]
theorem octets_eq {big : Bool} {v : Tg} (hb : vB v) (hv : okV v) (h13 : v.Kind ≠ 13) : X9 big v = some (Qk (Ja7 big v)) := by
 have hb' := hb
 obtain ⟨b1, b2, b3⟩ := hb'
 obtain ⟨p1, p2, p3⟩ := ok_parts hv
 unfold X9 Ja7
 rw [cI, cI]
 by_cases h2 : v.Kind = 2
 ·rw [if_pos h2, if_pos h2, gByt_ok (by omega), Jb, gApL_ok (by rw [Qu, List.length_singleton]; omega), Jb, Zq]; rfl
 by_cases h7 : v.Kind = 7
 ·rw [if_neg h2, if_pos h7, if_neg h2, if_pos h7, gByt_ok (by omega), Jb]
 rw [if_neg h2, if_neg h7, if_neg h2, if_neg h7]
 have hloop := Jfi (F := fun next3 s => V8 big v next3 s.1 s.2) v.Ints (fun s n => s ++ Qk (Y4 big n (J5 v.Kind))) (Jbf big v) (fun k s => s.length ≤ 8 * k) (fun next k s hk hs => by
   have hw := Jal v.Kind
   have l1 : (Qk (Y4 big v.Ints[k] (J5 v.Kind))).length = J5 v.Kind := by rw [Qu, Xr _ _ hw]
   refine ⟨?_, by show (s ++ _).length ≤ _; rw [List.length_append, l1]; omega⟩
   show V8 big v next (k : Int) s = _
   unfold V8
   rw [cI, if_pos (by omega), Xk hk, Jb, Jde, Jb, if_neg h13, Jgv _ _ hw, Jb, Ya (by omega), Jb, Jr (by omega), Jb]) (fun next s hs => by
   show V8 big v next (v.Ints.length : Int) s = _
   unfold V8
   rw [cI, if_neg (by omega)]) [] (by simp)
 rw [hloop, show ([] : List Int) = Qk [] from rfl, Je5, List.nil_append]
 have hlen : (v.Ints.flatMap fun n => Y4 big n (J5 v.Kind)).length ≤ 16000000 := by
  rw [Jak (w := J5 v.Kind) (fun n => Xr _ _ (Jal _))]
  have := Nat.mul_le_mul_left v.Ints.length (Jal v.Kind)
  omega
 rw [tag_ratios hb _ hlen]
 by_cases h5 : v.Kind = 5
 ·rw [if_pos h5, p1 (by rw [h5]; unfold Jb7; omega)]; rfl
 ·rw [if_neg h5, p3 h5, List.flatMap_nil, List.append_nil]
theorem Jh3 {big : Bool} {v : Tg} (hb : vB v) (hv : okV v) (h13 : v.Kind ≠ 13) : Zx big v = some (Ja7 big v) := by
 have hb' := hb
 obtain ⟨b1, b2, b3⟩ := hb'
 obtain ⟨p1, p2, p3⟩ := ok_parts hv
 have j2 : ∀ a : List UInt8, a.length ≤ 32000000 → Jcs big v a = some (a ++ v.Ratios.flatMap (ratS big)) := fun a ha => by
  unfold Jcs
  rw [← Jhi]
  refine fix_listR (F := fun next3 s => Uv big v next3 s.1 s.2) v.Ratios (fun s r => s ++ ratS big r) some (fun k s => s.length ≤ a.length + 8 * k) (fun next k s hk hs => ?_) (fun next s hs => ?_) _ (by omega)
  ·refine ⟨?_, by show (s ++ _).length ≤ _; rw [List.length_append, Jg3]; omega⟩
   show Uv big v next s (k : Int) = _
   unfold Uv
   have l1 : (Y4 big v.Ratios[k].Num 4).length = 4 := Xr _ _ (by omega)
   have l2 : (Y4 big v.Ratios[k].Den 4).length = 4 := Xr _ _ (by omega)
   rw [cI, if_pos (by omega), Xk hk, Jb, R4, Jb, R4, Jb, Vb (by omega), Jb, Vb (by rw [List.length_append]; omega), Jb, Jr (by omega), Jb]
   rfl
  ·show Uv big v next s (v.Ratios.length : Int) = _
   unfold Uv
   rw [cI, if_neg (by omega)]
 have j1 : ∀ a : List UInt8, a.length ≤ 4000000 → Jcw big v a = some (a ++ (v.Ints.flatMap fun n => Y4 big n (J5 v.Kind)) ++ v.Ratios.flatMap (ratS big)) := fun a ha => by
  unfold Jcw
  have hloop := fix_listR (F := fun next4 s => Us big v next4 s.1 s.2) v.Ints (fun s n => s ++ Y4 big n (J5 v.Kind)) (Jcs big v) (fun k s => s.length ≤ a.length + 8 * k) (fun next k s hk hs => by
   have hw := Jal v.Kind
   have l1 : (Y4 big v.Ints[k] (J5 v.Kind)).length = J5 v.Kind := Xr _ _ hw
   refine ⟨?_, by show (s ++ _).length ≤ _; rw [List.length_append, l1]; omega⟩
   show Us big v next s (k : Int) = _
   unfold Us
   rw [cI, if_pos (by omega), Xk hk, Jb, Jfx, Jb, if_neg h13, num_R _ _ hw, Jb, Vb (by omega), Jb, Jr (by omega), Jb]) (fun next s hs => by
   show Us big v next s (v.Ints.length : Int) = _
   unfold Us
   rw [cI, if_neg (by omega)]) a (by omega)
  rw [hloop, Jhi, j2]
  rw [List.length_append, Jak (w := J5 v.Kind) (fun n => Xr _ _ (Jal _))]
  have := Nat.mul_le_mul_left v.Ints.length (Jal v.Kind)
  omega
 unfold Zx Ja7
 rw [cI]
 by_cases h2 : v.Kind = 2
 ·rw [if_pos h2, if_pos h2, Vb (by rw [List.length_singleton]; omega), Jb, j1 _ (by rw [List.length_append, List.length_singleton]; omega), p1 (by rw [h2]; unfold Jb7; omega), p3 (by omega)]
  simp
 rw [if_neg h2, if_neg h2, j1 _ (by omega)]
 by_cases h7 : v.Kind = 7
 ·rw [if_pos h7, p1 (by rw [h7]; unfold Jb7; omega), p3 (by omega)]
  simp
 rw [if_neg h7, p2 (by unfold Jc2; omega), List.nil_append]
 by_cases h5 : v.Kind = 5
 ·rw [if_pos h5, p1 (by rw [h5]; unfold Jb7; omega)]; rfl
 ·rw [if_neg h5, p3 h5, List.flatMap_nil, List.append_nil]
theorem R_count_eq {v : Tg} (hb : vB v) (hv : okV v) : Jib v = some (cntS v : Int) := by
 unfold Jib
 rw [cI]
 by_cases h13 : v.Kind = 13
 ·rw [if_pos h13]; unfold cntS; rw [h13]; rfl
 ·rw [if_neg h13, Jh3 hb hv h13, Jb, Jfx, Jb, if_neg h13, Jiw false hv h13]
  have hw : J5 v.Kind ≠ 0 := fun e => (Jeg _ h13).1 (by rw [e]; rfl) hv.1
  have hle := Jh9 false v
  rw [Jiw false hv h13] at hle
  have hb1 := hb.1; have hb2 := hb.2.1; have hb3 := hb.2.2
  have e : (((cntS v * J5 v.Kind : Nat) : Int)).tdiv (J5 v.Kind : Int) = (cntS v : Int) := by
   rw [Int.natCast_mul, Int.mul_tdiv_cancel _ (by omega)]
  have hc : cntS v ≤ cntS v * J5 v.Kind := Nat.le_mul_of_pos_right _ (by omega)
  unfold gQuo
  rw [if_neg (by omega), e, Jr (by omega), Jb]
end Go.M

/- Directories and files written, in plain Lean; the law TagWrites. Conditions: none. -/
namespace Go.M
open Go.Md Go.Pl
def V2 (n : Nat) : List UInt8 := List.replicate n 0
def ev (p : Nat) : Nat := p + p % 2
def pad (p : Nat) : List UInt8 := V2 (p % 2)
def put (s : List UInt8) (at_ : Nat) (b : List UInt8) : List UInt8 := s.take at_ ++ b ++ s.drop (at_ + b.length)
theorem Xx (n : Nat) : (V2 n).length = n := List.length_replicate
theorem Jc3 (p : Nat) : (pad p).length = p % 2 := Xx _
theorem Jf8 : Qk (V2 4) = [0, 0, 0, 0] := rfl
theorem Jd4 (a b : Nat) : V2 (a + b) = V2 a ++ V2 b := List.replicate_append_replicate.symm
theorem put_len {s : List UInt8} {a : Nat} {b : List UInt8} (h : a + b.length ≤ s.length) : (put s a b).length = s.length := by
 unfold put
 simp only [List.length_append, List.length_take, List.length_drop]; omega
theorem Jd9 (A B C b : List UInt8) (h : b.length = B.length) {a : Nat} (ha : a = A.length) : put (A ++ B ++ C) a b = A ++ b ++ C := by
 subst ha
 unfold put
 rw [h, List.append_assoc A B C, List.take_left' rfl, ← List.append_assoc A B C, List.drop_left' (by rw [List.length_append])]
theorem ofStr_take (s : List UInt8) (n : Nat) : (Qk s).take n = Qk (s.take n) := List.map_take.symm
theorem ofStr_drop (s : List UInt8) (n : Nat) : (Qk s).drop n = Qk (s.drop n) := List.map_drop.symm
theorem cpy_put {s b : List UInt8} {a : Int} {m : Nat} {p : Nat} (ha : a = (p : Int)) (hm : b.length ≤ m) : cpyL (Qk s) a m (Qk b) = Qk (put s p b) := by
 subst ha
 unfold cpyL put
 have h1 : (Qk b).take m = Qk b := List.take_of_length_le (by rw [Qu]; exact hm)
 rw [Int.toNat_natCast, Qu, Nat.min_eq_right hm, h1, ofStr_take, ofStr_drop, Zq, Zq, List.append_assoc]
theorem set_eq4 {big : Bool} {s : List UInt8} {a n : Int} {p : Nat} (ha : a = (p : Int)) (h : p + 4 ≤ s.length) : Wn ⟨big, Qk s⟩ a n = some ⟨big, Qk (put s p (Y4 big n 4))⟩ := by
 unfold Wn
 dsimp only
 rw [Y3 (by rw [Qu]; omega), Jb, tag4, Jb]
 rw [cpy_put ha (by rw [Xr _ _ (by omega), List.length_drop, Qu]; omega)]
theorem Jdm {big : Bool} {s : List UInt8} {a n : Int} {p k : Nat} {k' : Int} (ha : a = (p : Int)) (hk' : k' = (k : Int)) (hk : k ≤ 8) (h : p + k ≤ s.length) (hs : s.length ≤ 4611686018427387904) : Yh ⟨s, big⟩ a n k' = some ⟨put s p (Y4 big n k), big⟩ := by
 subst ha hk'
 unfold Yh
 dsimp only
 have hl := Xr big n hk
 rw [Uz (by omega), Jb, num_R _ _ hk, Jb, Vb (by rw [List.length_take]; omega), Jb, Jr (by omega), Jb, Y3 (by omega), Jb, Vb (by rw [List.length_append, List.length_take, List.length_drop]; omega), Jb]
 unfold put
 rw [hl, Int.toNat_natCast, show ((p : Int) + (k : Int)).toNat = p + k from by omega]
theorem begin_eq {big : Bool} {s : List UInt8} (hs : s.length ≤ 1099511627776) : Uk ⟨big, Qk s⟩ = some (((ev s.length : Nat) : Int), ⟨big, Qk (s ++ pad s.length)⟩) := by
 unfold Uk Uj ev pad
 dsimp only
 rw [gRem_ok (by omega), Jb, cI, Qu]
 have e : ((s.length : Int)).tmod 2 = ((s.length % 2 : Nat) : Int) := by rw [Int.tmod_eq_emod_of_nonneg (by omega)]; omega
 by_cases h : s.length % 2 = 0
 ·rw [e, if_neg (by omega), h]
  simp [V2]
 ·have h1 : s.length % 2 = 1 := by omega
  rw [e, if_pos (by omega), Ya (by rw [Qu, List.length_singleton]; omega), Jb, h1, Zq]
  simp only [List.length_append, Qu, List.length_singleton]
  rfl
theorem R_add_eq {big : Bool} {s a : List UInt8} (hs : s.length + a.length ≤ 4611686018427387904) : Ja8 ⟨s, big⟩ a = some (((ev s.length : Nat) : Int), ⟨s ++ pad s.length ++ a, big⟩) := by
 unfold Ja8 Jay ev pad
 dsimp only
 rw [gRem_ok (by omega), Jb, cI]
 have e : ((s.length : Int)).tmod 2 = ((s.length % 2 : Nat) : Int) := by rw [Int.tmod_eq_emod_of_nonneg (by omega)]; omega
 by_cases h : s.length % 2 = 0
 ·rw [e, if_neg (by omega), h, Vb (by omega), Jb]
  simp [V2]
 ·have h1 : s.length % 2 = 1 := by omega
  rw [e, if_pos (by omega), Vb (by rw [List.length_singleton]; omega), Jb, h1, Vb (by rw [List.length_append, List.length_singleton]; omega), Jb]
  simp [V2]
noncomputable def Uf (big : Bool) (e : Ta) : List UInt8 := Y4 big e.Tag 2 ++ Y4 big e.Value.Kind 2 ++ Y4 big (cntS e.Value) 4
theorem Jby (big : Bool) (e : Ta) : (Uf big e).length = 8 := by
 unfold Uf; rw [List.length_append, List.length_append, Xr _ _ (by omega), Xr _ _ (by omega), Xr _ _ (by omega)]
noncomputable def entF (G : List Ta → Nat → List UInt8) (big : Bool) (e : Ta) (q : Nat) : List UInt8 × List UInt8 :=
 if e.Value.Kind = 13 then (Y4 big (ev q) 4, G e.Value.Entries q)
 else if (Ja7 big e.Value).length ≤ 4 then (Ja7 big e.Value ++ V2 (4 - (Ja7 big e.Value).length), [])
 else (Y4 big (ev q) 4, pad q ++ Ja7 big e.Value)
theorem Jjb (G : List Ta → Nat → List UInt8) (big : Bool) (e : Ta) (q : Nat) : (entF G big e q).1.length = 4 := by
 unfold entF
 split
 ·exact Xr _ _ (by omega)
 split
 ·rw [List.length_append, Xx]; omega
 ·exact Xr _ _ (by omega)
noncomputable def Jdx (G : List Ta → Nat → List UInt8) (big : Bool) : List Ta → Nat → List UInt8 × List UInt8
 | [], _ => ([], [])
 | e :: l, q => (Uf big e ++ (entF G big e q).1 ++ (Jdx G big l (q + (entF G big e q).2.length)).1, (entF G big e q).2 ++ (Jdx G big l (q + (entF G big e q).2.length)).2)
theorem bods_len (G : List Ta → Nat → List UInt8) (big : Bool) : ∀ (l : List Ta) (q : Nat), (Jdx G big l q).1.length = 12 * l.length
 | [], _ => rfl
 | e :: l, q => by
  unfold Jdx
  rw [List.length_append, List.length_append, Jby, Jjb, bods_len G big l, List.length_cons]; omega
noncomputable def dirB (G : List Ta → Nat → List UInt8) (big : Bool) (l : List Ta) (p : Nat) : List UInt8 :=
 pad p ++ Y4 big l.length 2 ++ (Jdx G big l (ev p + 2 + 12 * l.length + 4)).1 ++ V2 4 ++ (Jdx G big l (ev p + 2 + 12 * l.length + 4)).2
noncomputable def Wd : Nat → Bool → List Ta → Nat → List UInt8
 | 0, _ => fun _ _ => []
 | d + 1, big => dirB (Wd d big) big
theorem Jfl (G : List Ta → Nat → List UInt8) (big : Bool) (l : List Ta) (p : Nat) : p + (dirB G big l p).length = ev p + 2 + 12 * l.length + 4 + (Jdx G big l (ev p + 2 + 12 * l.length + 4)).2.length := by
 unfold dirB ev
 simp only [List.length_append, Jc3, Xr _ _ (show 2 ≤ 8 by omega), bods_len, Xx]; omega
theorem dirS_le (big : Bool) : ∀ (d : Nat) (l : List Ta) (p : Nat), (Wd d big l p).length ≤ 8 + 32 * szD d l := by
 intro d
 induction d with
 | zero => intro l p; exact Nat.zero_le _
 | succ d ih =>
  intro l p
  have hb : ∀ (l : List Ta) (q : Nat), (Jdx (Wd d big) big l q).2.length + 12 * l.length ≤ 32 * szD (d + 1) l := by
   intro l
   induction l with
   | nil => intro q; exact Nat.zero_le _
   | cons e l ih2 =>
    intro q
    unfold Jdx
    rw [List.length_append, List.length_cons, Jem]
    have h1 := ih2 (q + (entF (Wd d big) big e q).2.length)
    have h2 : (entF (Wd d big) big e q).2.length + 12 ≤ 32 * szE d e := by
     unfold entF szE
     split
     ·have := ih e.Value.Entries q; simp only; omega
     split
     ·simp only [List.length_nil]; omega
     ·have := Jh9 big e.Value
      simp only [List.length_append, Jc3]; omega
    omega
  have h1 := Jfl (Wd d big) big l p
  have h2 := hb l (ev p + 2 + 12 * l.length + 4)
  show (dirB (Wd d big) big l p).length ≤ _
  have h3 : ev p ≤ p + 1 := by unfold ev; omega
  omega
noncomputable def hzS (big : Bool) (l : List Ta) : List UInt8 := l.flatMap fun e => Uf big e ++ V2 4
theorem hz_len (big : Bool) (l : List Ta) : (hzS big l).length = 12 * l.length := by
 unfold hzS
 rw [Jak (w := 12) (fun e => by rw [List.length_append, Jby, Xx])]; omega
theorem heads_loop {big : Bool} {l : List Ta} (hl : l.length ≤ 200) (hv : ∀ e ∈ l, vB e.Value) {self : Tj × List Ta → Option (Int × Int × Tj)} {t15 : Int × Tj} (ht : t15.2.big_ = big) (s : List UInt8) (hs : s.length ≤ 1099511627776) :
  Zs (fun next5 a => Yo l self t15 next5 a.1 a.2) (0, Qk s) = W2 l self t15 (Qk (s ++ hzS big l)) := by
 unfold hzS
 rw [← Je5]
 refine Jfi (F := fun next5 a => Yo l self t15 next5 a.1 a.2) l (fun s e => s ++ Qk (Uf big e ++ V2 4)) (W2 l self t15) (fun k a => a.length ≤ s.length + 12 * k) (fun next k a hk ha => ?_) (fun next a ha => ?_) _ (by rw [Qu]; omega)
 ·refine ⟨?_, by show (a ++ _).length ≤ _; rw [List.length_append, Qu, List.length_append, Jby, Xx]; omega⟩
  show Yo l self t15 next (k : Int) a = _
  unfold Yo
  have n2 : ∀ n, (Qk (Y4 big n 2)).length = 2 := fun n => by rw [Qu, Xr _ _ (by omega)]
  have n4 : ∀ n, (Qk (Y4 big n 4)).length = 4 := fun n => by rw [Qu, Xr _ _ (by omega)]
  rw [cI, if_pos (by omega), Xk hk, Jb, ht, tag2, Jb, Ya (by rw [n2]; omega), Jb, tag2, Jb, Ya (by rw [List.length_append, n2, n2]; omega), Jb, count_eq (hv _ (List.getElem_mem hk)), Jb, tag4, Jb, Ya (by rw [List.length_append, List.length_append, n2, n2, n4]; omega), Jb, Ya (by rw [List.length_append, List.length_append, List.length_append, n2, n2, n4]; simp; omega), Jb, Jr (by omega), Jb]
  unfold Uf
  rw [Zq, Zq, Zq, Jf8]
  simp only [List.append_assoc]
 ·show Yo l self t15 next (l.length : Int) a = _
  unfold Yo
  rw [cI, if_neg (by omega)]
theorem prog_loop {big : Bool} {l : List Ta} (hl : l.length ≤ 200) (hv : ∀ e ∈ l, okV e.Value ∧ vB e.Value) {G : List Ta → Nat → List UInt8} {self : Tj × List Ta → Option (Int × Int × Tj)}
  (hself : ∀ e ∈ l, e.Value.Kind = 13 → ∀ s : List UInt8, s.length + (G e.Value.Entries s.length).length ≤ 1099511627776 → ∃ q, self (⟨big, Qk s⟩, e.Value.Entries) = some (((ev s.length : Nat) : Int), q, ⟨big, Qk (s ++ G e.Value.Entries s.length)⟩))
  {t15 : Int × Tj} {at_ : Nat} (ht : t15.1 = (at_ : Int)) (L : List Int) :
  ∀ (l2 : List Ta) (i : Nat) (X Y : List UInt8), i + l2.length = l.length → l.drop i = l2 → X.length = at_ + 2 + 12 * i → X.length + 12 * l2.length + 4 + Y.length + (Jdx G big l2 (X.length + 12 * l2.length + 4 + Y.length)).2.length ≤ 1099511627776 →
   Zs (fun next3 a => Zb l self t15 L next3 a.1 a.2.1 a.2.2) ((i : Int), big, Qk (X ++ hzS big l2 ++ V2 4 ++ Y)) = some (t15.1, (L.length : Int), ⟨big, Qk (X ++ (Jdx G big l2 (X.length + 12 * l2.length + 4 + Y.length)).1 ++ V2 4 ++ Y ++ (Jdx G big l2 (X.length + 12 * l2.length + 4 + Y.length)).2)⟩) := by
 intro l2
 induction l2 with
 | nil =>
  intro i X Y hi _ hX hM
  refine Jz fun next => ?_
  show Zb l self t15 L next (i : Int) big _ = _
  unfold Zb
  rw [cI, if_neg (by rw [List.length_nil] at hi; omega)]
  unfold Jb4 Jdx hzS
  simp
 | cons e l2 ih =>
  intro i X Y hi hd hX hM
  have hlt : i < l.length := by rw [List.length_cons] at hi; omega
  have he : l[i] = e := by have := List.drop_eq_getElem_cons hlt; rw [hd] at this; injection this with h1 h2; exact h1.symm
  have hd' : l.drop (i + 1) = l2 := by have := List.drop_eq_getElem_cons hlt; rw [hd] at this; injection this with h1 h2; exact h2.symm
  have hmem : e ∈ l := he ▸ List.getElem_mem hlt
  obtain ⟨hok, hvb⟩ := hv e hmem
  generalize hp : X.length + 12 * (e :: l2).length + 4 + Y.length = p at hM ⊢
  rw [List.length_cons] at hp hi
  unfold Jdx at hM ⊢
  simp only at hM ⊢
  generalize hF : entF G big e p = F at hM ⊢
  obtain ⟨f, b⟩ := F
  have hf4 : f.length = 4 := by have := Jjb G big e p; rw [hF] at this; exact this
  simp only at hM ⊢
  rw [List.length_append] at hM
  have hS : (X ++ hzS big (e :: l2) ++ V2 4 ++ Y).length = p := by
   simp only [List.length_append, hz_len, Xx, List.length_cons]; omega
  have hsplit : ∀ Z : List UInt8, X ++ hzS big (e :: l2) ++ V2 4 ++ Y ++ Z = (X ++ Uf big e) ++ V2 4 ++ (hzS big l2 ++ V2 4 ++ Y ++ Z) := fun Z => by
   unfold hzS
   rw [List.flatMap_cons]
   simp only [List.append_assoc]
  have hpos : (at_ : Int) + 2 + 12 * (i : Int) + 8 = ((X ++ Uf big e).length : Int) := by
   rw [List.length_append, Jby]; omega
  have hround : ∀ next : Int × Bool × List Int → Option (Int × Int × Tj), Zb l self t15 L next (i : Int) big (Qk (X ++ hzS big (e :: l2) ++ V2 4 ++ Y)) = next (((i + 1 : Nat) : Int), big, Qk ((X ++ Uf big e ++ f) ++ hzS big l2 ++ V2 4 ++ (Y ++ b))) := fun next => by
   unfold Zb
   have e4 : ∀ a m, Vn (i : Int) next a m = next (((i + 1 : Nat) : Int), a, m) := fun a m => by
    unfold Vn; rw [Jr (by omega), Jb]; rfl
   rw [cI, if_pos (by omega), Xk hlt, Jb, he, ht, Jr (by omega), Jb, Jr (by omega), Jb, Jr (by omega), Jb, Jr (by omega), Jb, cI]
   unfold entF at hF
   by_cases h13 : e.Value.Kind = 13
   ·rw [if_pos h13] at hF ⊢
    injection hF with hF1 hF2
    obtain ⟨q, hq⟩ := hself e hmem h13 (X ++ hzS big (e :: l2) ++ V2 4 ++ Y) (by rw [hS, hF2]; omega)
    rw [hq, Jb]
    simp only
    rw [hS, hF2, set_eq4 (p := (X ++ Uf big e).length) hpos (by rw [hsplit]; simp only [List.length_append, Xx]; omega), Jb, e4, hF1, hsplit, Jd9 _ _ _ _ (by rw [hf4, Xx]) rfl]
    simp only [List.append_assoc]
   ·rw [if_neg h13] at hF ⊢
    rw [octets_eq hvb hok h13, Jb, cI, Qu]
    by_cases ho : (Ja7 big e.Value).length ≤ 4
    ·rw [if_pos ho] at hF
     injection hF with hF1 hF2
     have hpn : ((at_ : Int) + 2 + 12 * (i : Int) + 8).toNat = X.length + 8 := by omega
     rw [if_pos (by omega), Y3 (by rw [Qu, hS]; omega), Jb, e4, cpy_put (p := (X ++ Uf big e).length) hpos (by rw [List.length_drop, Qu, hS, hpn]; omega)]
     have h0 := hsplit []
     rw [List.append_nil] at h0
     have hz : V2 4 = V2 (Ja7 big e.Value).length ++ V2 (4 - (Ja7 big e.Value).length) := by rw [← Jd4]; congr 1; omega
     have h1 : ∀ R, (X ++ Uf big e) ++ V2 4 ++ R = (X ++ Uf big e) ++ V2 (Ja7 big e.Value).length ++ (V2 (4 - (Ja7 big e.Value).length) ++ R) := fun R => by
      rw [hz]
      simp only [List.append_assoc]
     rw [h0]
     rw [h1, Jd9 _ _ _ _ (by rw [Xx]) rfl, ← hF1, ← hF2]
     simp only [List.append_assoc, List.append_nil]
    ·rw [if_neg ho] at hF
     injection hF with hF1 hF2
     rw [if_neg (by omega), begin_eq (by rw [hS]; omega), Jb]
     simp only
     have hol := Jh9 big e.Value
     rw [hS, set_eq4 (p := (X ++ Uf big e).length) hpos (by rw [hsplit]; simp only [List.length_append, Xx]; omega), Jb]
     simp only
     rw [Ya (by rw [Qu, Qu, put_len (by rw [hsplit, Xr _ _ (by omega)]; simp only [List.length_append, Xx]; omega), List.length_append, hS, Jc3]; rw [← hF2, List.length_append, Jc3] at hM; omega), Jb, e4, hsplit, Jd9 _ _ _ _ (by rw [Xr _ _ (by omega), Xx]) rfl, ← Zq, ← hF1, ← hF2]
     simp only [List.append_assoc]
  rw [Q2 _ hround]
  have hq : (X ++ Uf big e ++ f).length + 12 * l2.length + 4 + (Y ++ b).length = p + b.length := by
   simp only [List.length_append, Jby, hf4]; omega
  have := ih (i + 1) (X ++ Uf big e ++ f) (Y ++ b) (by omega) hd' (by simp only [List.length_append, Jby, hf4]; omega) (by rw [hq]; omega)
  rw [this, hq]
  simp only [List.append_assoc]
end Go.M

/- Directories and files written by both, in plain Lean. Conditions: none. -/
namespace Go.M
open Go.Md Go.Pl
theorem zer_mul (n : Nat) : V2 (12 * (n + 1)) = V2 2 ++ V2 2 ++ V2 4 ++ V2 4 ++ V2 (12 * n) := by
 rw [← Jd4, ← Jd4, ← Jd4, ← Jd4]; congr 1; omega
theorem spec_loop {big : Bool} {l : List Ta} (hl : l.length ≤ 200) (hv : ∀ e ∈ l, okV e.Value ∧ vB e.Value) {G : List Ta → Nat → List UInt8} {self : Tk × List Ta → Option (Int × Tk)}
  (hself : ∀ e ∈ l, e.Value.Kind = 13 → ∀ s : List UInt8, s.length + (G e.Value.Entries s.length).length ≤ 1099511627776 → self (⟨s, big⟩, e.Value.Entries) = some (((ev s.length : Nat) : Int), ⟨s ++ G e.Value.Entries s.length, big⟩))
  {t17 : Int × Tk} {at_ : Nat} (ht : t17.1 = (at_ : Int)) :
  ∀ (l2 : List Ta) (i : Nat) (X Y : List UInt8), i + l2.length = l.length → l.drop i = l2 → X.length = at_ + 2 + 12 * i → X.length + 12 * l2.length + 4 + Y.length + (Jdx G big l2 (X.length + 12 * l2.length + 4 + Y.length)).2.length ≤ 1099511627776 →
   Zs (fun next1 a => Zp l self t17 next1 a.1 a.2.1 a.2.2) ((i : Int), X ++ V2 (12 * l2.length) ++ V2 4 ++ Y, big) = some (t17.1, ⟨X ++ (Jdx G big l2 (X.length + 12 * l2.length + 4 + Y.length)).1 ++ V2 4 ++ Y ++ (Jdx G big l2 (X.length + 12 * l2.length + 4 + Y.length)).2, big⟩) := by
 intro l2
 induction l2 with
 | nil =>
  intro i X Y hi _ hX hM
  refine Jz fun next => ?_
  show Zp l self t17 next (i : Int) _ big = _
  unfold Zp
  rw [cI, if_neg (by rw [List.length_nil] at hi; omega)]
  unfold Jdx
  simp [V2]
 | cons e l2 ih =>
  intro i X Y hi hd hX hM
  have hlt : i < l.length := by rw [List.length_cons] at hi; omega
  have he : l[i] = e := by have := List.drop_eq_getElem_cons hlt; rw [hd] at this; injection this with h1 h2; exact h1.symm
  have hd' : l.drop (i + 1) = l2 := by have := List.drop_eq_getElem_cons hlt; rw [hd] at this; injection this with h1 h2; exact h2.symm
  have hmem : e ∈ l := he ▸ List.getElem_mem hlt
  obtain ⟨hok, hvb⟩ := hv e hmem
  generalize hp : X.length + 12 * (e :: l2).length + 4 + Y.length = p at hM ⊢
  rw [List.length_cons] at hp hi ⊢
  unfold Jdx at hM ⊢
  simp only at hM ⊢
  generalize hF : entF G big e p = F at hM ⊢
  obtain ⟨f, b⟩ := F
  have hf4 : f.length = 4 := by have := Jjb G big e p; rw [hF] at this; exact this
  simp only at hM ⊢
  rw [List.length_append] at hM
  have n2 : ∀ n, (Y4 big n 2).length = 2 := fun n => Xr _ _ (by omega)
  have n4 : ∀ n, (Y4 big n 4).length = 4 := fun n => Xr _ _ (by omega)
  generalize hR : V2 (12 * l2.length) ++ V2 4 ++ Y = R
  have hRl : R.length = 12 * l2.length + 4 + Y.length := by rw [← hR]; simp only [List.length_append, Xx]
  have s0 : X ++ V2 (12 * (l2.length + 1)) ++ V2 4 ++ Y = X ++ V2 2 ++ (V2 2 ++ V2 4 ++ V2 4 ++ R) := by
   rw [zer_mul, ← hR]; simp only [List.append_assoc]
  have e1 : put (X ++ V2 2 ++ (V2 2 ++ V2 4 ++ V2 4 ++ R)) X.length (Y4 big e.Tag 2) = (X ++ Y4 big e.Tag 2) ++ V2 2 ++ (V2 4 ++ V2 4 ++ R) := by
   rw [Jd9 _ _ _ _ (by rw [n2, Xx]) rfl]; simp only [List.append_assoc]
  have e2 : put ((X ++ Y4 big e.Tag 2) ++ V2 2 ++ (V2 4 ++ V2 4 ++ R)) (X.length + 2) (Y4 big e.Value.Kind 2) = (X ++ Y4 big e.Tag 2 ++ Y4 big e.Value.Kind 2) ++ V2 4 ++ (V2 4 ++ R) := by
   rw [Jd9 _ _ _ _ (by rw [n2, Xx]) (by rw [List.length_append, n2])]; simp only [List.append_assoc]
  have e3 : put ((X ++ Y4 big e.Tag 2 ++ Y4 big e.Value.Kind 2) ++ V2 4 ++ (V2 4 ++ R)) (X.length + 4) (Y4 big (cntS e.Value) 4) = (X ++ Uf big e) ++ V2 4 ++ R := by
   rw [Jd9 _ _ _ _ (by rw [n4, Xx]) (by rw [List.length_append, List.length_append, n2, n2])]
   unfold Uf; simp only [List.append_assoc]
  have hS : ((X ++ Uf big e) ++ V2 4 ++ R).length = p := by
   simp only [List.length_append, Jby, Xx, hRl]; omega
  have hpos : (at_ : Int) + 2 + 12 * (i : Int) + 8 = ((X ++ Uf big e).length : Int) := by
   rw [List.length_append, Jby]; omega
  have hround : ∀ next : Int × List UInt8 × Bool → Option (Int × Tk), Zp l self t17 next (i : Int) (X ++ V2 (12 * (l2.length + 1)) ++ V2 4 ++ Y) big = next (((i + 1 : Nat) : Int), (X ++ Uf big e ++ f) ++ V2 (12 * l2.length) ++ V2 4 ++ (Y ++ b), big) := fun next => by
   unfold Zp
   have e5 : ∀ m a, Wf (i : Int) next m a = next (((i + 1 : Nat) : Int), m, a) := fun m a => by
    unfold Wf; rw [Jr (by omega), Jb]; rfl
   rw [cI, if_pos (by omega), Xk hlt, Jb, he, ht, Jr (by omega), Jb, Jr (by omega), Jb, Jr (by omega), Jb, s0]
   rw [Jdm (p := X.length) (k := 2) (k' := 2) (by omega) rfl (by omega) (by simp only [List.length_append, Xx]; omega) (by simp only [List.length_append, Xx, hRl]; omega), Jb, e1, Jr (by omega), Jb]
   rw [Jdm (p := X.length + 2) (k := 2) (k' := 2) (by omega) rfl (by omega) (by simp only [List.length_append, Xx, n2]; omega) (by simp only [List.length_append, Xx, hRl, n2]; omega), Jb, e2, Jr (by omega), Jb, R_count_eq hvb hok, Jb]
   rw [Jdm (p := X.length + 4) (k := 4) (k' := 4) (by omega) rfl (by omega) (by simp only [List.length_append, Xx, n2]; omega) (by simp only [List.length_append, Xx, hRl, n2]; omega), Jb, e3, cI]
   unfold entF at hF
   by_cases h13 : e.Value.Kind = 13
   ·rw [if_pos h13] at hF ⊢
    obtain ⟨hF1, hF2⟩ := Prod.mk.inj hF
    rw [Jr (by omega), Jb, hself e hmem h13 ((X ++ Uf big e) ++ V2 4 ++ R) (by rw [hS, hF2]; omega), Jb]
    show Js (Yh ⟨(X ++ Uf big e) ++ V2 4 ++ R ++ G e.Value.Entries ((X ++ Uf big e) ++ V2 4 ++ R).length, big⟩ _ _ 4) _ = _
    rw [hS, hF2, Jdm (p := (X ++ Uf big e).length) (k := 4) (k' := 4) (by omega) rfl (by omega) (by simp only [List.length_append, Xx]; omega) (by rw [List.length_append, hS]; omega), Jb, e5, hF1]
    have : (X ++ Uf big e) ++ V2 4 ++ R ++ b = (X ++ Uf big e) ++ V2 4 ++ (R ++ b) := by simp only [List.append_assoc]
    rw [this, Jd9 _ _ _ _ (by rw [hf4, Xx]) rfl, ← hR]
    simp only [List.append_assoc]
   ·rw [if_neg h13] at hF ⊢
    dsimp only
    rw [Jh3 hvb hok h13, Jb, cI]
    by_cases ho : (Ja7 big e.Value).length ≤ 4
    ·rw [if_pos ho] at hF
     obtain ⟨hF1, hF2⟩ := Prod.mk.inj hF
     have hpn : ((at_ : Int) + 2 + 12 * (i : Int) + 8).toNat = (X ++ Uf big e).length := by omega
     have hp2 : ((at_ : Int) + 2 + 12 * (i : Int) + 8 + ((Ja7 big e.Value).length : Int)).toNat = (X ++ Uf big e).length + (Ja7 big e.Value).length := by omega
     have hXl : (X ++ Uf big e).length = X.length + 8 := by rw [List.length_append, Jby]
     rw [if_neg (by omega), Jr (by omega), Jb, Uz (by rw [hS]; omega), Jb, hpn]
     rw [Vb (by rw [List.length_take]; omega), Jb, Jb, Jr (by omega), Jb, Y3 (by rw [hS]; omega), Jb, hp2]
     rw [Vb (by simp only [List.length_append, List.length_take, List.length_drop, hS]; omega), Jb, e5]
     have hput : List.take (X ++ Uf big e).length ((X ++ Uf big e) ++ V2 4 ++ R) ++ Ja7 big e.Value ++ List.drop ((X ++ Uf big e).length + (Ja7 big e.Value).length) ((X ++ Uf big e) ++ V2 4 ++ R) = put ((X ++ Uf big e) ++ V2 4 ++ R) (X ++ Uf big e).length (Ja7 big e.Value) := rfl
     have hz : V2 4 = V2 (Ja7 big e.Value).length ++ V2 (4 - (Ja7 big e.Value).length) := by rw [← Jd4]; congr 1; omega
     have h1 : (X ++ Uf big e) ++ V2 4 ++ R = (X ++ Uf big e) ++ V2 (Ja7 big e.Value).length ++ (V2 (4 - (Ja7 big e.Value).length) ++ R) := by
      rw [hz]
      simp only [List.append_assoc]
     rw [hput, h1, Jd9 _ _ _ _ (by rw [Xx]) rfl, ← hF1, ← hF2, ← hR]
     simp only [List.append_assoc, List.append_nil]
    ·rw [if_neg ho] at hF
     obtain ⟨hF1, hF2⟩ := Prod.mk.inj hF
     have hbl : b.length = p % 2 + (Ja7 big e.Value).length := by rw [← hF2, List.length_append, Jc3]
     rw [if_pos (by omega), Jr (by omega), Jb, R_add_eq (by rw [hS]; omega), Jb]
     dsimp only
     rw [hS, Jdm (p := (X ++ Uf big e).length) (k := 4) (k' := 4) (by omega) rfl (by omega) (by simp only [List.length_append, Xx]; omega) (by simp only [List.length_append, Jc3]; rw [← List.length_append, ← List.length_append, ← List.length_append, hS]; omega), Jb, e5]
     have : (X ++ Uf big e) ++ V2 4 ++ R ++ pad p ++ Ja7 big e.Value = (X ++ Uf big e) ++ V2 4 ++ (R ++ pad p ++ Ja7 big e.Value) := by simp only [List.append_assoc]
     rw [this, Jd9 _ _ _ _ (by rw [n4, Xx]) rfl, ← hF1, ← hF2, ← hR]
     simp only [List.append_assoc]
  rw [Q2 _ hround]
  have hq : (X ++ Uf big e ++ f).length + 12 * l2.length + 4 + (Y ++ b).length = p + b.length := by
   simp only [List.length_append, Jby, hf4]; omega
  have := ih (i + 1) (X ++ Uf big e ++ f) (Y ++ b) (by omega) hd' (by simp only [List.length_append, Jby, hf4]; omega) (by rw [hq]; omega)
  rw [this, hq]
  simp only [List.append_assoc]
theorem dir_eq (d : Nat) (big : Bool) (s : List UInt8) (l : List Ta) (hok : okD d l) (hz : szD d l ≤ 2000000) (hM : s.length + (Wd d big l s.length).length ≤ 1099511627776) :
  Jb6 ⟨big, Qk s⟩ l = some (((ev s.length : Nat) : Int), ((ev s.length + 2 + 12 * l.length : Nat) : Int), ⟨big, Qk (s ++ Wd d big l s.length)⟩) := by
 unfold Jb6
 have := Jhe (F := fun (self : (Tj × List Ta) → Option (Int × Int × Tj)) (s : Tj × List Ta) => Yk self s.1 s.2)
  (fun (g : Nat × Bool × List UInt8) (a : Tj × List Ta) => some (((ev g.2.2.length : Nat) : Int), ((ev g.2.2.length + 2 + 12 * a.2.length : Nat) : Int), ⟨g.2.1, Qk (g.2.2 ++ Wd g.1 g.2.1 a.2 g.2.2.length)⟩))
  (fun g a => a.1 = ⟨g.2.1, Qk g.2.2⟩ ∧ okD g.1 a.2 ∧ szD g.1 a.2 ≤ 2000000 ∧ g.2.2.length + (Wd g.1 g.2.1 a.2 g.2.2.length).length ≤ 1099511627776) (fun g => g.1) ?_ (d, big, s) (⟨big, Qk s⟩, l) ⟨rfl, hok, hz, hM⟩
 ·exact this
 rintro next ⟨d, big, s⟩ ⟨w, l⟩ ⟨hw, hok, hz, hM⟩ ih
 simp only at hw hok hz hM ih ⊢
 subst hw
 cases d with
 | zero => exact hok.elim
 | succ d =>
  obtain ⟨hl, hall⟩ := hok
  have hM' := Jfl (Wd d big) big l s.length
  have hMM : s.length + (dirB (Wd d big) big l s.length).length ≤ 1099511627776 := hM
  unfold Yk
  have hev : ev s.length = (s ++ pad s.length).length := by rw [List.length_append, Jc3]; rfl
  rw [begin_eq (by omega), Jb]
  dsimp only
  rw [tag2, Jb, Ya (by rw [Qu, Qu, ← hev, Xr _ _ (by omega)]; omega), Jb, ← Zq]
  have hX : (s ++ pad s.length ++ Y4 big l.length 2).length = ev s.length + 2 := by rw [List.length_append, ← hev, Xr _ _ (by omega)]
  rw [heads_loop hl (fun e he => (Jf2 hz he).1) rfl _ (by rw [hX]; omega)]
  unfold W2
  dsimp only
  rw [Ya (by rw [Qu, List.length_append, hX, hz_len]; simp; omega), Jb, ← Jf8, ← Zq]
  have := prog_loop (big := big) hl (fun e he => ⟨(hall e he).1, (Jf2 hz he).1⟩) (G := Wd d big) (self := next) (fun e he h13 s' hs' => ⟨_, ih (d, big, s') (⟨big, Qk s'⟩, e.Value.Entries) ⟨rfl, (hall e he).2 h13, (Jf2 hz he).2, hs'⟩ (by simp)⟩)
   (t15 := (((ev s.length : Nat) : Int), ⟨big, Qk (s ++ pad s.length)⟩)) (at_ := ev s.length) rfl (Qk (s ++ pad s.length ++ Y4 big l.length 2 ++ hzS big l)) l 0 (s ++ pad s.length ++ Y4 big l.length 2) [] (by omega) rfl (by rw [hX]) (by rw [hX, List.length_nil, Nat.add_zero]; omega)
  rw [List.append_nil] at this
  refine this.trans ?_
  rw [hX, Qu, List.length_append, hX, hz_len, List.length_nil, Nat.add_zero, List.append_nil]
  show some _ = some (_, _, (⟨big, Qk (s ++ dirB (Wd d big) big l s.length)⟩ : Tj))
  unfold dirB
  simp only [List.append_assoc]
end Go.M

/- Files written and checked; the law TagWrites, in plain Lean. Conditions: none. -/
namespace Go.M
open Go.Md Go.Pl
theorem rep_zero (n : Nat) : (List.replicate n ([0] : List UInt8)).flatten = V2 n := by
 unfold V2
 induction n with
 | zero => rfl
 | succ n ih => rw [List.replicate_succ, List.flatten_cons, ih, List.replicate_succ]; rfl
theorem R_dir_eq (d : Nat) (big : Bool) (s : List UInt8) (l : List Ta) (hok : okD d l) (hz : szD d l ≤ 2000000) (hM : s.length + (Wd d big l s.length).length ≤ 1099511627776) :
  Jcp ⟨s, big⟩ l = some (((ev s.length : Nat) : Int), ⟨s ++ Wd d big l s.length, big⟩) := by
 unfold Jcp
 have := Jhe (F := fun (self : (Tk × List Ta) → Option (Int × Tk)) (s : Tk × List Ta) => Yx self s.1 s.2)
  (fun (g : Nat × Bool × List UInt8) (a : Tk × List Ta) => some (((ev g.2.2.length : Nat) : Int), ⟨g.2.2 ++ Wd g.1 g.2.1 a.2 g.2.2.length, g.2.1⟩))
  (fun g a => a.1 = ⟨g.2.2, g.2.1⟩ ∧ okD g.1 a.2 ∧ szD g.1 a.2 ≤ 2000000 ∧ g.2.2.length + (Wd g.1 g.2.1 a.2 g.2.2.length).length ≤ 1099511627776) (fun g => g.1) ?_ (d, big, s) (⟨s, big⟩, l) ⟨rfl, hok, hz, hM⟩
 ·exact this
 rintro next ⟨d, big, s⟩ ⟨w, l⟩ ⟨hw, hok, hz, hM⟩ ih
 simp only at hw hok hz hM ih ⊢
 subst hw
 cases d with
 | zero => exact hok.elim
 | succ d =>
  obtain ⟨hl, hall⟩ := hok
  have hM' := Jfl (Wd d big) big l s.length
  have hMM : s.length + (dirB (Wd d big) big l s.length).length ≤ 1099511627776 := hM
  have hev : ev s.length = (s ++ pad s.length).length := by rw [List.length_append, Jc3]; rfl
  unfold Yx
  have ht : (2 + 12 * (l.length : Int) + 4).toNat = 2 + 12 * l.length + 4 := by omega
  rw [Jr (by omega), Jb, Jr (by omega), Jb, Jr (by omega), Jb]
  have hrep : gRep [0] (2 + 12 * (l.length : Int) + 4) = some (V2 (2 + 12 * l.length + 4)) := by
   unfold gRep
   rw [if_pos (by rw [List.length_singleton]; omega), ht, rep_zero]
  rw [hrep, Jb, R_add_eq (by rw [Xx]; omega), Jb]
  have hsp : s ++ pad s.length ++ V2 (2 + 12 * l.length + 4) = (s ++ pad s.length) ++ V2 2 ++ (V2 (12 * l.length) ++ V2 4) := by
   rw [Jd4, Jd4]; simp only [List.append_assoc]
  show Js (Yh ⟨s ++ pad s.length ++ V2 (2 + 12 * l.length + 4), big⟩ _ _ 2) _ = _
  rw [Jdm (p := ev s.length) (k := 2) (k' := 2) rfl rfl (by omega) (by rw [List.length_append, ← hev, Xx]; omega) (by rw [List.length_append, ← hev, Xx]; omega), Jb, hsp, Jd9 _ _ _ _ (by rw [Xr _ _ (by omega), Xx]) hev]
  have hX : (s ++ pad s.length ++ Y4 big l.length 2).length = ev s.length + 2 := by rw [List.length_append, ← hev, Xr _ _ (by omega)]
  have := spec_loop (big := big) hl (fun e he => ⟨(hall e he).1, (Jf2 hz he).1⟩) (G := Wd d big) (self := next) (fun e he h13 s' hs' => ih (d, big, s') (⟨s', big⟩, e.Value.Entries) ⟨rfl, (hall e he).2 h13, (Jf2 hz he).2, hs'⟩ (by simp))
   (t17 := (((ev s.length : Nat) : Int), ⟨s ++ pad s.length ++ V2 (2 + 12 * l.length + 4), big⟩)) (at_ := ev s.length) rfl l 0 (s ++ pad s.length ++ Y4 big l.length 2) [] (by omega) rfl (by rw [hX]) (by rw [hX, List.length_nil, Nat.add_zero]; omega)
  rw [List.append_nil] at this
  have hst : s ++ pad s.length ++ Y4 big l.length 2 ++ (V2 (12 * l.length) ++ V2 4) = s ++ pad s.length ++ Y4 big l.length 2 ++ V2 (12 * l.length) ++ V2 4 := by simp only [List.append_assoc]
  rw [hst, ← hsp]
  refine this.trans ?_
  rw [hX, List.length_nil, Nat.add_zero, List.append_nil]
  show some _ = some (_, (⟨s ++ dirB (Wd d big) big l s.length, big⟩ : Tk))
  unfold dirB
  simp only [List.append_assoc]
theorem even_eq (p : Nat) (hp : p ≤ 4611686018427387904) : Jdu (p : Int) = some ((ev p : Nat) : Int) := by
 unfold Jdu ev
 have e : ((p : Int)).tmod 2 = ((p % 2 : Nat) : Int) := by rw [Int.tmod_eq_emod_of_nonneg (by omega)]; omega
 rw [gRem_ok (by omega), Jb, e, Jr (by omega), Jb]; rfl
theorem octetsOf_eq {v : Tg} (hb : vB v) (hok : okV v) (h13 : v.Kind ≠ 13) (big : Bool) : U0 v = some ((Ja7 big v).length : Int) := by
 unfold U0
 have h1 := Jh9 big v
 have h2 := Jiw big hok h13
 obtain ⟨b1, b2, b3⟩ := hb
 rw [count_eq ⟨b1, b2, b3⟩, Jb, Jde, Jb, if_neg h13, ← Int.natCast_mul, ← h2, Jr (by omega), Jb]
theorem dirEnd_eq (big : Bool) (d : Nat) (l : List Ta) (p : Nat) (hok : okD d l) (hz : szD d l ≤ 2000000) (hM : p + (Wd d big l p).length ≤ 1099511627776) :
  Jex l (p : Int) = some (((p + (Wd d big l p).length : Nat)) : Int) := by
 unfold Jex
 have := Jhe (F := fun (self : (List Ta × Int) → Option Int) (s : List Ta × Int) => Z2 self s.1 s.2)
  (fun (g : Nat × Nat) (a : List Ta × Int) => some (((g.2 + (Wd g.1 big a.1 g.2).length : Nat)) : Int))
  (fun g a => a.2 = (g.2 : Int) ∧ okD g.1 a.1 ∧ szD g.1 a.1 ≤ 2000000 ∧ g.2 + (Wd g.1 big a.1 g.2).length ≤ 1099511627776) (fun g => g.1) ?_ (d, p) (l, (p : Int)) ⟨rfl, hok, hz, hM⟩
 ·exact this
 rintro next ⟨d, p⟩ ⟨l, a⟩ ⟨hw, hok, hz, hM⟩ ih
 simp only at hw hok hz hM ih ⊢
 subst hw
 cases d with
 | zero => exact hok.elim
 | succ d =>
  obtain ⟨hl, hall⟩ := hok
  have hM' := Jfl (Wd d big) big l p
  have hMM : p + (dirB (Wd d big) big l p).length ≤ 1099511627776 := hM
  unfold Z2
  rw [even_eq p (by omega), Jb, Jr (by omega), Jb, Jr (by omega), Jb, Jr (by omega), Jb, Jr (by omega), Jb]
  have key : ∀ (l2 : List Ta) (i q : Nat), i + l2.length = l.length → l.drop i = l2 → q + (Jdx (Wd d big) big l2 q).2.length ≤ 1099511627776 → Zs (fun next1 s => V4 l next next1 s.1 s.2) ((q : Int), (i : Int)) = some (((q + (Jdx (Wd d big) big l2 q).2.length : Nat)) : Int) := by
   intro l2
   induction l2 with
   | nil =>
    intro i q hi _ _
    refine Jz fun nx => ?_
    show V4 l next nx (q : Int) (i : Int) = _
    unfold V4
    rw [cI, if_neg (by rw [List.length_nil] at hi; omega)]
    rfl
   | cons e l2 ih2 =>
    intro i q hi hd hq
    have hlt : i < l.length := by rw [List.length_cons] at hi; omega
    have he : l[i] = e := by have := List.drop_eq_getElem_cons hlt; rw [hd] at this; injection this with h1 h2; exact h1.symm
    have hd' : l.drop (i + 1) = l2 := by have := List.drop_eq_getElem_cons hlt; rw [hd] at this; injection this with h1 h2; exact h2.symm
    have hmem : e ∈ l := he ▸ List.getElem_mem hlt
    have hvb := (Jf2 hz hmem).1
    have hok := (hall e hmem).1
    rw [List.length_cons] at hi
    unfold Jdx at hq ⊢
    simp only at hq ⊢
    generalize hF : entF (Wd d big) big e q = F at hq ⊢
    obtain ⟨f, b⟩ := F
    simp only at hq ⊢
    rw [List.length_append] at hq ⊢
    have hround : ∀ nx : Int × Int → Option Int, V4 l next nx (q : Int) (i : Int) = nx (((q + b.length : Nat) : Int), ((i + 1 : Nat) : Int)) := fun nx => by
     unfold V4
     have e2 : ∀ x, Jad (i : Int) nx x = nx (x, ((i + 1 : Nat) : Int)) := fun x => by
      unfold Jad; rw [Jr (by omega), Jb]; rfl
     rw [cI, if_pos (by omega), Xk hlt, Jb, he, cI]
     unfold entF at hF
     by_cases h13 : e.Value.Kind = 13
     ·rw [if_pos h13] at hF ⊢
      obtain ⟨_, hF2⟩ := Prod.mk.inj hF
      have := ih (d, q) (e.Value.Entries, (q : Int)) ⟨rfl, (hall e hmem).2 h13, (Jf2 hz hmem).2, by show q + (Wd d big e.Value.Entries q).length ≤ _; rw [hF2]; omega⟩ (by simp)
      rw [this, Jb, e2]
      show nx (((q + (Wd d big e.Value.Entries q).length : Nat) : Int), _) = _
      rw [hF2]
     ·rw [if_neg h13] at hF ⊢
      rw [octetsOf_eq hvb hok h13 big, Jb, cI, e2]
      by_cases ho : (Ja7 big e.Value).length ≤ 4
      ·rw [if_pos ho] at hF
       obtain ⟨_, hF2⟩ := Prod.mk.inj hF
       rw [if_neg (by omega), ← hF2]; rfl
      ·rw [if_neg ho] at hF
       obtain ⟨_, hF2⟩ := Prod.mk.inj hF
       have hbl : b.length = q % 2 + (Ja7 big e.Value).length := by rw [← hF2, List.length_append, Jc3]
       rw [if_pos (by omega), even_eq q (by omega), Jb, Jb, Jr (by unfold ev; omega), Jb, e2, hbl]
       congr 2
       unfold ev; omega
    rw [Q2 _ hround, ih2 (i + 1) (q + b.length) (by omega) hd' (by omega)]
    congr 2
    omega
  have := key l 0 (ev p + 2 + 12 * l.length + 4) (by omega) rfl (by omega)
  have e0 : ((ev p : Nat) : Int) + 2 + 12 * (l.length : Int) + 4 = ((ev p + 2 + 12 * l.length + 4 : Nat) : Int) := by omega
  rw [e0]
  refine this.trans ?_
  rw [← hM']
  rfl
noncomputable def filS (big : Bool) : List (List Ta) → List UInt8 → Nat → List UInt8
 | [], s, _ => s
 | l :: ls, s, link => filS big ls (put (s ++ Wd 5 big l s.length) link (Y4 big ((ev s.length : Nat) : Int) 4)) (ev s.length + 2 + 12 * l.length)
noncomputable def lenF (big : Bool) : List (List Ta) → Nat → Nat
 | [], p => p
 | l :: ls, p => lenF big ls (p + (Wd 5 big l p).length)
def szL : List (List Ta) → Nat
 | [] => 0
 | l :: ls => 8 + 32 * szD 5 l + szL ls
def Jhk (ls : List (List Ta)) : Prop := ∀ l ∈ ls, okD 5 l ∧ szD 5 l ≤ 2000000
theorem dir5_len {big : Bool} {l : List Ta} {p : Nat} : ev p + 2 + 12 * l.length + 4 ≤ p + (Wd 5 big l p).length := by
 have := Jfl (Wd 4 big) big l p
 show _ ≤ p + (dirB (Wd 4 big) big l p).length
 omega
theorem filS_len (big : Bool) : ∀ (ls : List (List Ta)) (s : List UInt8) (link : Nat), link + 4 ≤ s.length → (filS big ls s link).length = lenF big ls s.length
 | [], _, _, _ => rfl
 | l :: ls, s, link, h => by
  unfold filS lenF
  have h5 := dir5_len (big := big) (l := l) (p := s.length)
  have hp : (put (s ++ Wd 5 big l s.length) link (Y4 big ((ev s.length : Nat) : Int) 4)).length = s.length + (Wd 5 big l s.length).length := by
   rw [put_len (by rw [Xr _ _ (by omega), List.length_append]; omega), List.length_append]
  rw [filS_len big ls _ _ (by rw [hp]; omega), hp]
theorem oct_loop (f : Tf) (hok : Jhk f.Dirs) (hn : f.Dirs.length ≤ 20) : ∀ (ls : List (List Ta)) (i : Nat) (s : List UInt8) (link : Nat), i + ls.length = f.Dirs.length → f.Dirs.drop i = ls → link + 4 ≤ s.length → s.length + szL ls ≤ 549755813888 →
  Zs (fun next3 a => Ut f next3 a.1 a.2.1 a.2.2.1 a.2.2.2) ((link : Int), (i : Int), s, f.Big) = some (filS f.Big ls s link) ∧ Zs (fun next3 a => Ve f next3 a.1 a.2.1 a.2.2.1 a.2.2.2) ((link : Int), (i : Int), f.Big, Qk s) = some (filS f.Big ls s link) := by
 intro ls
 induction ls with
 | nil =>
  intro i s link hi _ _ _
  rw [List.length_nil] at hi
  refine ⟨Jz fun next => ?_, Jz fun next => ?_⟩
  ·show Ut f next _ (i : Int) s f.Big = _
   unfold Ut
   rw [cI, if_neg (by omega)]; rfl
  ·show Ve f next _ (i : Int) f.Big (Qk s) = _
   unfold Ve
   rw [cI, if_neg (by omega)]
   unfold Jdw filS
   rw [toStr_ofStr]
 | cons l ls ih =>
  intro i s link hi hd hlk hsz
  rw [List.length_cons] at hi
  have hlt : i < f.Dirs.length := by omega
  have he : f.Dirs[i] = l := by have := List.drop_eq_getElem_cons hlt; rw [hd] at this; injection this with h1 h2; exact h1.symm
  have hd' : f.Dirs.drop (i + 1) = ls := by have := List.drop_eq_getElem_cons hlt; rw [hd] at this; injection this with h1 h2; exact h2.symm
  obtain ⟨o1, o2⟩ := hok l (he ▸ List.getElem_mem hlt)
  unfold szL at hsz
  have hle := dirS_le f.Big 5 l s.length
  have h5 := dir5_len (big := f.Big) (l := l) (p := s.length)
  have hl200 : l.length ≤ 200 := o1.1
  have hp : (put (s ++ Wd 5 f.Big l s.length) link (Y4 f.Big ((ev s.length : Nat) : Int) 4)).length = s.length + (Wd 5 f.Big l s.length).length := by
   rw [put_len (by rw [Xr _ _ (by omega), List.length_append]; omega), List.length_append]
  obtain ⟨a1, a2⟩ := ih (i + 1) (put (s ++ Wd 5 f.Big l s.length) link (Y4 f.Big ((ev s.length : Nat) : Int) 4)) (ev s.length + 2 + 12 * l.length) (by omega) hd' (by rw [hp]; omega) (by rw [hp]; omega)
  have hev : ev s.length ≤ s.length + 1 := by unfold ev; omega
  refine ⟨?_, ?_⟩
  ·refine Eq.trans (Q2 _ fun next => ?_) a1
   show Ut f next (link : Int) (i : Int) s f.Big = _
   unfold Ut
   rw [cI, if_pos (by omega), Xk hlt, Jb, he, R_dir_eq 5 f.Big s l o1 o2 (by omega), Jb]
   show Js (Yh ⟨s ++ Wd 5 f.Big l s.length, f.Big⟩ _ _ 4) _ = _
   rw [Jdm (p := link) (k := 4) (k' := 4) rfl rfl (by omega) (by rw [List.length_append]; omega) (by rw [List.length_append]; omega), Jb]
   show Js (gI (((ev s.length : Nat) : Int) + 2)) _ = _
   rw [Jr (by omega), Jb, Jr (by omega), Jb, Jr (by omega), Jb, Jr (by omega), Jb]
   rfl
  ·refine Eq.trans (Q2 _ fun next => ?_) a2
   show Ve f next (link : Int) (i : Int) f.Big (Qk s) = _
   unfold Ve
   rw [cI, if_pos (by omega), Xk hlt, Jb, he, dir_eq 5 f.Big s l o1 o2 (by omega), Jb]
   show Js (Wn ⟨f.Big, Qk (s ++ Wd 5 f.Big l s.length)⟩ _ _) _ = _
   rw [set_eq4 (p := link) rfl (by rw [List.length_append]; omega), Jb, Jr (by omega), Jb]
   rfl
noncomputable def headS (big : Bool) : List UInt8 := (if big then [77, 77] else [73, 73]) ++ Y4 big 42 2 ++ V2 4
theorem Jdg (big : Bool) : (headS big).length = 8 := by
 unfold headS
 rw [List.length_append, List.length_append, Xr _ _ (by omega), Xx]
 cases big <;> rfl
noncomputable def octF (f : Tf) : List UInt8 := filS f.Big f.Dirs (headS f.Big) 4
theorem octF_len (f : Tf) : (octF f).length = lenF f.Big f.Dirs 8 := by
 unfold octF; rw [filS_len _ _ _ _ (by rw [Jdg]; omega), Jdg]
theorem Octets_eq {f : Tf} (hok : Jhk f.Dirs) (hn : f.Dirs.length ≤ 20) (hsz : szL f.Dirs ≤ 274877906944) : Jfc f = some (octF f) := by
 have key : ∀ m : List UInt8, m.length = 2 → m ++ Y4 f.Big 42 2 ++ V2 4 = headS f.Big → Jcv f m = some (octF f) := fun m hm hh => by
  unfold Jcv
  have hz : Y4 f.Big 0 4 = V2 4 := num_zero f.Big (by omega)
  rw [R2, Jb, R4, Jb, hz, Vb (by rw [Xr _ _ (by omega), Xx]; omega), Jb, Vb (by rw [List.length_append, Xr _ _ (by omega), Xx]; omega), Jb, ← List.append_assoc, hh]
  exact (oct_loop f hok hn f.Dirs 0 (headS f.Big) 4 (by omega) rfl (by rw [Jdg]; omega) (by rw [Jdg]; omega)).1
 unfold Jfc
 cases h : f.Big
 ·rw [Jx, key [73, 73] rfl (by rw [h]; rfl)]
 ·rw [J9, key [77, 77] rfl (by rw [h]; rfl)]
theorem written_eq {f : Tf} (hok : Jhk f.Dirs) (hn : f.Dirs.length ≤ 20) (hsz : szL f.Dirs ≤ 274877906944) : Jdz f = some (octF f) := by
 have key : ∀ m : List UInt8, m.length = 2 → m ++ Y4 f.Big 42 2 ++ V2 4 = headS f.Big → Jam f (Qk m) = some (octF f) := fun m hm hh => by
  unfold Jam
  have l2 : (Qk (Y4 f.Big 42 2)).length = 2 := by rw [Qu, Xr _ _ (by omega)]
  rw [tag2, Jb, gApN_ok (by rw [l2, Qu, hm]; omega), Jb, Ya (by rw [List.length_append, l2, Qu, hm]; simp), Jb, ← Zq, ← Jf8, ← Zq, hh, Qu, List.length_append, hm, Xr _ _ (by omega)]
  exact (oct_loop f hok hn f.Dirs 0 (headS f.Big) 4 (by omega) rfl (by rw [Jdg]; omega) (by rw [Jdg]; omega)).2
 unfold Jdz
 cases h : f.Big
 ·rw [Jx, show ([73, 73] : List Int) = Qk [73, 73] from rfl, key [73, 73] rfl (by rw [h]; rfl)]
 ·rw [J9, show ([77, 77] : List Int) = Qk [77, 77] from rfl, key [77, 77] rfl (by rw [h]; rfl)]
theorem size_eq {f : Tf} (hok : Jhk f.Dirs) (hn : f.Dirs.length ≤ 20) (hsz : szL f.Dirs ≤ 274877906944) : Jgu f = some ((octF f).length : Int) := by
 rw [octF_len]
 unfold Jgu
 have key : ∀ (ls : List (List Ta)) (i p : Nat), i + ls.length = f.Dirs.length → f.Dirs.drop i = ls → p + szL ls ≤ 549755813888 → Zs (fun next1 s => Uu f next1 s.1 s.2) ((p : Int), (i : Int)) = some (lenF f.Big ls p : Int) := by
  intro ls
  induction ls with
  | nil =>
   intro i p hi _ _
   rw [List.length_nil] at hi
   refine Jz fun next => ?_
   show Uu f next (p : Int) (i : Int) = _
   unfold Uu
   rw [cI, if_neg (by omega)]; rfl
  | cons l ls ih =>
   intro i p hi hd hs
   rw [List.length_cons] at hi
   have hlt : i < f.Dirs.length := by omega
   have he : f.Dirs[i] = l := by have := List.drop_eq_getElem_cons hlt; rw [hd] at this; injection this with h1 h2; exact h1.symm
   have hd' : f.Dirs.drop (i + 1) = ls := by have := List.drop_eq_getElem_cons hlt; rw [hd] at this; injection this with h1 h2; exact h2.symm
   obtain ⟨o1, o2⟩ := hok l (he ▸ List.getElem_mem hlt)
   unfold szL at hs
   have hle := dirS_le f.Big 5 l p
   refine Eq.trans (Q2 (((p + (Wd 5 f.Big l p).length : Nat) : Int), ((i + 1 : Nat) : Int)) fun next => ?_) (ih (i + 1) (p + (Wd 5 f.Big l p).length) (by omega) hd' (by omega))
   show Uu f next (p : Int) (i : Int) = _
   unfold Uu
   rw [cI, if_pos (by omega), Xk hlt, Jb, he, dirEnd_eq f.Big 5 l p o1 o2 (by omega), Jb, Jr (by omega), Jb]
   rfl
 exact key f.Dirs 0 8 (by omega) rfl (by omega)
noncomputable def Jae : List (List Ta) → Int
 | [] => 0
 | l :: ls => if dE 5 l ≠ 0 then dE 5 l else Jae ls
theorem firstD_ok : ∀ {ls : List (List Ta)}, Jae ls = 0 → ∀ l ∈ ls, dE 5 l = 0
 | [], _, l, hl => by cases hl
 | x :: ls, h, l, hl => by
  unfold Jae at h
  split at h
  ·rename_i h1; exact absurd h h1
  ·rename_i h1
   rcases List.mem_cons.1 hl with h' | h'
   ·subst h'; simpa using h1
   ·exact firstD_ok h l h'
theorem scan_dirs {F : (Int → Option Int) → Int → Option Int} (ls : List (List Ta)) (o : Option Int) (more : ∀ (next : Int → Option Int) (k : Nat) (hk : k < ls.length), F next (k : Int) = if dE 5 ls[k] ≠ 0 then some (dE 5 ls[k]) else next ((k : Int) + 1)) (stop : Jae ls = 0 → ∀ next, F next (ls.length : Int) = o) :
  Zs F 0 = if Jae ls ≠ 0 then some (Jae ls) else o := by
 have key : ∀ m i : Nat, i + m = ls.length → (Jae ls = Jae (ls.drop i)) → Zs F (i : Int) = if Jae ls ≠ 0 then some (Jae ls) else o := by
  intro m
  induction m with
  | zero =>
   intro i hi hf
   have : i = ls.length := by omega
   subst this
   rw [List.drop_length] at hf
   have h0 : Jae ls = 0 := hf
   rw [if_neg (by simpa using h0)]
   exact Jz (stop h0)
  | succ m ih =>
   intro i hi hf
   have hlt : i < ls.length := by omega
   rw [List.drop_eq_getElem_cons hlt] at hf
   unfold Jae at hf
   by_cases h : dE 5 ls[i] ≠ 0
   ·rw [if_pos h] at hf
    have : Zs F (i : Int) = some (dE 5 ls[i]) := Jz fun next => by rw [more next i hlt, if_pos h]
    have hf' : Jae ls = dE 5 ls[i] := by unfold Jae; exact hf
    rw [this, hf', if_pos h]
   ·rw [if_neg h] at hf
    rw [Q2 ((i : Int) + 1) (fun next => by rw [more next i hlt, if_neg h])]
    exact ih (i + 1) (by omega) (by conv => lhs; unfold Jae
                                    exact hf)
 exact key ls.length 0 (by omega) rfl
def Je8 (f : Tf) : Prop := (∀ l ∈ f.Dirs, szD 5 l ≤ 2000000) ∧ szL f.Dirs ≤ 274877906944
noncomputable def Jfa (f : Tf) : Int := if 20 < f.Dirs.length then 4 else if Jae f.Dirs ≠ 0 then Jae f.Dirs else if 65000 < (octF f).length then 4 else 0
theorem dirs_ok {f : Tf} (hb : Je8 f) (h : Jae f.Dirs = 0) : Jhk f.Dirs := fun l hl => ⟨dE_ok (firstD_ok h l hl), hb.1 l hl⟩
theorem Jiz {f : Tf} (hb : Je8 f) : Jef f = some (Jfa f) := by
 unfold Jef Jfa
 rw [cI]
 by_cases hn : 20 < f.Dirs.length
 ·rw [if_pos (by omega), if_pos hn]
 rw [if_neg (by omega), if_neg hn]
 rw [scan_dirs (F := fun next2 s => W4 f next2 s) f.Dirs (some (if 65000 < (octF f).length then 4 else 0)) (fun next k hk => ?_) (fun h0 next => ?_)]
 ·split <;> rfl
 ·show W4 f next (k : Int) = _
  unfold W4
  rw [cI, if_pos (by omega), Xk hk, Jb, checkDir_eq 5 _ 1 (by omega) (by omega) (hb.1 _ (List.getElem_mem hk)), Jb, cI, Jr (by omega), Jb]
 ·show W4 f next (f.Dirs.length : Int) = _
  unfold W4
  rw [cI, if_neg (by omega)]
  unfold Je2
  rw [size_eq (dirs_ok hb h0) (by omega) hb.2, Jb, cI]
  by_cases h : 65000 < (octF f).length
  ·rw [if_pos (by omega), if_pos h]
  ·rw [if_neg (by omega), if_neg h]
theorem Jes {f : Tf} (hb : Je8 f) : Jct f = some (Jfa f) := by
 unfold Jct Jfa
 rw [cI]
 by_cases hn : 20 < f.Dirs.length
 ·rw [if_pos (by omega), if_pos hn]
 rw [if_neg (by omega), if_neg hn]
 rw [scan_dirs (F := fun next2 s => Vi f next2 s) f.Dirs (some (if 65000 < (octF f).length then 4 else 0)) (fun next k hk => ?_) (fun h0 next => ?_)]
 ·split <;> rfl
 ·show Vi f next (k : Int) = _
  unfold Vi
  rw [cI, if_pos (by omega), Xk hk, Jb, dirFault_eq 5 _ 1 (by omega) (by omega) (hb.1 _ (List.getElem_mem hk)), Jb, cI, Jr (by omega), Jb]
 ·show Vi f next (f.Dirs.length : Int) = _
  unfold Vi
  rw [cI, if_neg (by omega)]
  unfold Jdh
  rw [Octets_eq (dirs_ok hb h0) (by omega) hb.2, Jb, cI]
  by_cases h : 65000 < (octF f).length
  ·rw [if_pos (by omega), if_pos h]
  ·rw [if_neg (by omega), if_neg h]
theorem Jim {f : Tf} (hb : Je8 f) (h : Jfa f = 0) : Jhk f.Dirs ∧ f.Dirs.length ≤ 20 := by
 unfold Jfa at h
 split at h
 ·omega
 rename_i hn
 split at h
 ·rename_i h1; exact absurd h h1
 ·rename_i h1; exact ⟨dirs_ok hb (by simpa using h1), by omega⟩
theorem told_str {v w : List UInt8} {e f : Int} (h0 : f = 0 → v = w) (h1 : f ≠ 0 → v = []) (he : e = f) : Jbn v e w f = some true := by
 subst he
 have key : Wi v e e v = some true := by
  unfold Wi; simp [Qa]
 unfold Jbn
 rw [cI]
 by_cases h : e ≠ 0
 ·rw [if_pos h]; have := h1 h; subst this; exact key
 ·rw [if_neg h, ← h0 (by simpa using h)]; exact key
theorem szL_eq : ∀ ls : List (List Ta), szL ls = 8 * ls.length + 32 * (ls.map (szD 5)).sum
 | [] => rfl
 | l :: ls => by unfold szL; rw [szL_eq ls, List.map_cons, List.sum_cons, List.length_cons]; omega
theorem sz_in {l : List Ta} : ∀ {ls : List (List Ta)}, l ∈ ls → szD 5 l ≤ (ls.map (szD 5)).sum
 | [], h => by cases h
 | x :: ls, h => by
  rw [List.map_cons, List.sum_cons]
  rcases List.mem_cons.1 h with h | h
  ·subst h; omega
  ·have := sz_in h; omega
theorem Jir {f : Tf} (h1 : f.Dirs.length ≤ 1048576) (h2 : (f.Dirs.map (szD 5)).sum ≤ 1048576) : Je8 f :=
 ⟨fun l hl => by have := sz_in hl; omega, by rw [szL_eq]; omega⟩
end Go.M

/- Numbers and values read from octets, in plain Lean. Conditions: none. -/
namespace Go.M
open Go.Md Go.Pl
set_option linter.unusedVariables false
def Ja6 (big : Bool) (bs : List UInt8) : Nat := (if big then bs else bs.reverse).foldl (fun v b => v * 256 + b.toNat) 0
theorem fold_bd : ∀ (L : List UInt8) (v : Nat), L.foldl (fun v b => v * 256 + b.toNat) v < (v + 1) * 256 ^ L.length
 | [], v => by simp
 | b :: L, v => by
  rw [List.foldl_cons, List.length_cons, Nat.pow_succ]
  have h := fold_bd L (v * 256 + b.toNat)
  have hb := b.toNat_lt
  have : (v * 256 + b.toNat + 1) * 256 ^ L.length ≤ ((v + 1) * 256) * 256 ^ L.length := Nat.mul_le_mul_right _ (by omega)
  calc _ < _ := h
   _ ≤ _ := this
   _ = _ := by rw [Nat.mul_assoc, Nat.mul_comm 256]
theorem valB_lt (big : Bool) (bs : List UInt8) : Ja6 big bs < 256 ^ bs.length := by
 unfold Ja6
 have := fold_bd (if big then bs else bs.reverse) 0
 cases big <;> simpa using this
theorem valB4 (big : Bool) {bs : List UInt8} (h : bs.length ≤ 4) : Ja6 big bs ≤ 4294967295 := by
 have := valB_lt big bs
 have h2 : 256 ^ bs.length ≤ 256 ^ 4 := Nat.pow_le_pow_right (by omega) h
 omega
theorem valB2 (big : Bool) {bs : List UInt8} (h : bs.length ≤ 2) : Ja6 big bs ≤ 65535 := by
 have := valB_lt big bs
 have h2 : 256 ^ bs.length ≤ 256 ^ 2 := Nat.pow_le_pow_right (by omega) h
 omega
theorem Jg0 {v b : Nat} (hv : v ≤ 16777216) (hb : b < 256) : Ud (bOr 64 ((v : Int) * 256) (b : Int)) = ((v * 256 + b : Nat) : Int) := by
 have e : bOr 64 ((v : Int) * 256) (b : Int) = ((v * 256 + b : Nat) : Int) := by
  unfold bOr
  rw [BitVec.toNat_or, show (v : Int) * 256 = ((v * 256 : Nat) : Int) by omega]
  have h1 : (BitVec.ofInt 64 ((v * 256 : Nat) : Int)).toNat = v * 256 := by rw [BitVec.ofInt_natCast, BitVec.toNat_ofNat, Nat.mod_eq_of_lt (by omega)]
  have h2 : (BitVec.ofInt 64 ((b : Nat) : Int)).toNat = b := by rw [BitVec.ofInt_natCast, BitVec.toNat_ofNat, Nat.mod_eq_of_lt (by omega)]
  rw [h1, h2]
  have := Nat.shiftLeft_add_eq_or_of_lt (i := 8) (b := b) (by omega) v
  rw [Nat.shiftLeft_eq] at this
  rw [← this]
 rw [e]
 unfold Ud; omega
theorem numAt_eq (big : Bool) (s : List UInt8) {a k : Nat} (h : a + k ≤ s.length) (hk : k ≤ 4) (hs : s.length ≤ 65000) : Jar big s (a : Int) (k : Int) = some (Ja6 big ((s.drop a).take k) : Int) := by
 let L := if big then (s.drop a).take k else ((s.drop a).take k).reverse
 have hL : L.length = k := by
  show (if big then (s.drop a).take k else ((s.drop a).take k).reverse).length = k
  cases big <;> simp <;> omega
 have hi : ∀ i (hik : i < k), ∃ q : Nat, ∃ hq : q < k, q = (if big then i else k - 1 - i) ∧ s[a + q]'(by omega) = L[i]'(by omega) := by
  intro i hik
  cases big
  ·refine ⟨k - 1 - i, by omega, rfl, ?_⟩
   show _ = (((s.drop a).take k).reverse)[i]'_
   rw [List.getElem_reverse, List.getElem_take, List.getElem_drop]
   congr 2; simp; omega
  ·refine ⟨i, by omega, rfl, ?_⟩
   show _ = ((s.drop a).take k)[i]'_
   rw [List.getElem_take, List.getElem_drop]
 have key : ∀ m i v : Nat, i + m = k → v < 256 ^ i → Zs (fun next1 s' => Z0 big s a k next1 s'.1 s'.2) ((v : Int), (i : Int)) = some (((L.drop i).foldl (fun v b => v * 256 + b.toNat) v : Nat) : Int) := by
  intro m
  induction m with
  | zero =>
   intro i v him hv
   rw [List.drop_eq_nil_of_le (by omega)]
   refine Jz fun next => ?_
   show Z0 big s a k next (v : Int) (i : Int) = _
   unfold Z0
   rw [cI, if_neg (by omega)]; rfl
  | succ m ih =>
   intro i v him hv
   obtain ⟨q, hq, hqe, hsq⟩ := hi i (by omega)
   have hv4 : v < 16777216 := Nat.lt_of_lt_of_le hv (Nat.le_trans (Nat.pow_le_pow_right (by omega) (show i ≤ 3 by omega)) (by decide))
   have hb := (s[a + q]'(by omega)).toNat_lt
   rw [List.drop_eq_getElem_cons (show i < L.length by omega), List.foldl_cons]
   have hlt : v * 256 + (L[i]'(by omega)).toNat < 256 ^ (i + 1) := by
    rw [← hsq, Nat.pow_succ]; omega
   refine Eq.trans (Q2 _ fun next => ?_) (ih (i + 1) (v * 256 + (L[i]'(by omega)).toNat) (by omega) hlt)
   show Z0 big s a k next (v : Int) (i : Int) = _
   unfold Z0
   rw [cI, if_pos (by omega), Jr (by omega), Jb, Jr (by omega), Jb]
   have go : ∀ x : Int, x = (q : Int) → U9 s a v i next x = next (((v * 256 + (L[i]'(by omega)).toNat : Nat) : Int), ((i + 1 : Nat) : Int)) := by
    intro x hx
    subst hx
    unfold U9
    have e8 : (2 : Int) ^ (8 : Int).toNat = 256 := by decide
    have hsh : Jbt (v : Int) 8 = some ((v : Int) * 256) := by
     unfold Jbt
     rw [if_pos ⟨by decide, by decide⟩, e8]
     exact Jr (by omega)
    rw [hsh, Jb, Jr (by omega), Jb, show (a : Int) + (q : Int) = ((a + q : Nat) : Int) by omega, U3 (by omega), Jb]
    unfold gK
    rw [if_pos (by omega), Jb, Jr (by omega), Jb, Jg0 (by omega) hb, hsq]
    rfl
   cases big
   ·rw [Jx]; exact go _ (by rw [hqe]; simp; omega)
   ·rw [J9]; exact go _ (by rw [hqe]; simp)
 unfold Jar
 have := key k 0 0 (by omega) (by simp)
 rw [List.drop_zero] at this
 exact this
theorem Jeh (r : Tb) {a k : Nat} (h : a + k ≤ r.s_.length) (hk : k ≤ 4) (hs : r.s_.length ≤ 65000) : Jo r (a : Int) (k : Int) = some (Ja6 r.big_ ((r.s_.drop a).take k) : Int) := by
 unfold Jo
 rw [numAt_eq _ _ h hk hs]; rfl
theorem Jih (r : Tb) {a : Nat} (h : a + 4 ≤ r.s_.length) (hs : r.s_.length ≤ 65000) : Jo r (a : Int) 4 = some (Ja6 r.big_ ((r.s_.drop a).take 4) : Int) := Jeh (k := 4) r h (by omega) hs
theorem number2 (r : Tb) {a : Nat} (h : a + 2 ≤ r.s_.length) (hs : r.s_.length ≤ 65000) : Jo r (a : Int) 2 = some (Ja6 r.big_ ((r.s_.drop a).take 2) : Int) := Jeh (k := 2) r h (by omega) hs
def fl (r : Tb) (e : Int) : Tb := if r.no_ = 0 then ⟨r.s_, r.big_, r.parts_, r.seen_, r.dirs_, r.found_, e⟩ else r
theorem W7 (r : Tb) (e : Int) : Q6 r e = some (fl r e) := by
 unfold Q6 fl
 rw [cI]; split <;> rfl
theorem fl_fl (r : Tb) {e : Int} (h : e ≠ 0) : fl (fl r e) e = fl r e := by
 unfold fl
 by_cases h0 : r.no_ = 0
 ·rw [if_pos h0, if_neg h]
 ·rw [if_neg h0, if_neg h0]
theorem Jb3 (r : Tb) {e : Int} (h : e ≠ 0) : (fl r e).no_ ≠ 0 := by
 unfold fl
 split
 ·exact h
 ·assumption
theorem Ji2 (r : Tb) {p n : Nat} (hn : n ≤ 1099511627776) (hs : r.s_.length ≤ 65000) : We r (p : Int) (n : Int) = some (decide (8 ≤ p ∧ p + n ≤ r.s_.length)) := by
 unfold We
 rw [cI, cI]
 by_cases h1 : 8 ≤ p
 ·rw [if_pos (by omega)]
  by_cases h2 : n ≤ r.s_.length
  ·rw [if_pos (by omega), Jr (by omega), Jb]
   congr 1
   rw [decide_eq_decide]; omega
  ·rw [if_neg (by omega)]
   congr 1; symm; rw [decide_eq_false_iff_not]; omega
 ·rw [if_neg (by omega)]
  congr 1; symm; rw [decide_eq_false_iff_not]; omega
def ratR (big : Bool) (b : List UInt8) (i : Nat) : Th := ⟨(Ja6 big ((b.drop (8 * i)).take 4) : Nat), (Ja6 big ((b.drop (8 * i + 4)).take 4) : Nat)⟩
def intR (big : Bool) (k : Int) (b : List UInt8) (i : Nat) : Int := if k = 9 then Ud (wI32 (Ja6 big ((b.drop (i * J5 k)).take (J5 k)))) else Ja6 big ((b.drop (i * J5 k)).take (J5 k))
noncomputable def valT (r : Tb) (k : Int) (c : Nat) (b : List UInt8) : Tg × Tb := open Classical in
 if k = 2 then (if b = [] ∨ b.getLast? ≠ some 0 then (⟨2, [], [], [], []⟩, fl r 1) else (⟨2, b.dropLast, [], [], []⟩, if (0 : UInt8) ∈ b.dropLast then fl r 9 else r))
 else if k = 7 then (⟨7, b, [], [], []⟩, r)
 else if k = 5 then (⟨5, [], [], (List.range c).map (ratR r.big_ b), []⟩, r)
 else (⟨k, [], (List.range c).map (intR r.big_ k b), [], []⟩, r)
noncomputable def valR (r : Tb) (k : Int) (c a : Nat) : Tg × Tb :=
 if 4 < c * J5 k then
  let p := Ja6 r.big_ ((r.s_.drop a).take 4)
  if 8 ≤ p ∧ p + c * J5 k ≤ r.s_.length then valT ⟨r.s_, r.big_, r.parts_ ++ [⟨(p : Int), ((p + c * J5 k : Nat) : Int)⟩], r.seen_, r.dirs_, r.found_, r.no_⟩ k c ((r.s_.drop p).take (c * J5 k))
  else (⟨0, [], [], [], []⟩, fl r 2)
 else valT r k c ((r.s_.drop a).take (c * J5 k))
theorem ascii_loop (t : List UInt8) (ht : t.length ≤ 65000) : ∀ (m i : Nat) (r : Tb), i + m = t.length →
  Zs (fun next1 s => Xu t next1 s.1 s.2.1 s.2.2.1 s.2.2.2.1 s.2.2.2.2.1 s.2.2.2.2.2.1 s.2.2.2.2.2.2.1 s.2.2.2.2.2.2.2) ((i : Int), r.s_, r.big_, r.dirs_, r.found_, r.no_, r.parts_, r.seen_) = some (t, open Classical in if (0 : UInt8) ∈ t.drop i then fl r 9 else r) := by
 intro m
 induction m with
 | zero =>
  intro i r hi
  rw [List.drop_eq_nil_of_le (by omega), if_neg (by simp)]
  refine Jz fun next => ?_
  show Xu t next (i : Int) _ _ _ _ _ _ _ = _
  unfold Xu
  rw [cI, if_neg (by omega)]
 | succ m ih =>
  intro i r hi
  have hb := (t[i]'(by omega)).toNat_lt
  rw [List.drop_eq_getElem_cons (show i < t.length by omega)]
  by_cases h0 : t[i]'(by omega) = 0
  ·have e : (open Classical in if (0 : UInt8) ∈ t[i]'(by omega) :: t.drop (i + 1) then fl r 9 else r) = (open Classical in if (0 : UInt8) ∈ t.drop (i + 1) then fl (fl r 9) 9 else fl r 9) := by
    rw [if_pos (by rw [h0]; simp), fl_fl _ (by decide)]; split <;> rfl
   rw [e]
   refine Eq.trans (Q2 _ fun next => ?_) (ih (i + 1) (fl r 9) (by omega))
   show Xu t next (i : Int) _ _ _ _ _ _ _ = _
   unfold Xu
   rw [cI, if_pos (by omega), U3 (by omega), Jb, cI, if_pos (by rw [h0]; rfl), W7, Jb]
   unfold Vs
   rw [Jr (by omega), Jb]; rfl
  ·have e : (open Classical in if (0 : UInt8) ∈ t[i]'(by omega) :: t.drop (i + 1) then fl r 9 else r) = (open Classical in if (0 : UInt8) ∈ t.drop (i + 1) then fl r 9 else r) := by
    simp only [List.mem_cons, show (0 : UInt8) = t[i]'(by omega) ↔ False from ⟨fun e => h0 e.symm, False.elim⟩, false_or]
   rw [e]
   refine Eq.trans (Q2 _ fun next => ?_) (ih (i + 1) r (by omega))
   show Xu t next (i : Int) _ _ _ _ _ _ _ = _
   unfold Xu
   rw [cI, if_pos (by omega), U3 (by omega), Jb, cI, if_neg (fun e => h0 (UInt8.toNat_inj.1 (by have : ((t[i]'(by omega)).toNat : Int) = 0 := e; show _ = 0; omega)))]
   unfold Vs
   rw [Jr (by omega), Jb]; rfl
theorem ascii_eq (r : Tb) (t : List UInt8) (ht : t.length ≤ 65000) : Ja0 r t = some (open Classical in if t = [] ∨ t.getLast? ≠ some 0 then ([], fl r 1) else (t.dropLast, if (0 : UInt8) ∈ t.dropLast then fl r 9 else r)) := by
 unfold Ja0
 rw [cI]
 by_cases h : t = []
 ·rw [if_pos h, if_pos (.inl h), W7]; rfl
 ·have hl : 0 < t.length := List.length_pos_iff.2 h
  have hg : t.getLast? = some (t[t.length - 1]'(by omega)) := by rw [List.getLast?_eq_getElem?, List.getElem?_eq_getElem (by omega)]
  rw [if_neg h, Jr (by omega), Jb, show (t.length : Int) - 1 = ((t.length - 1 : Nat) : Int) by omega, U3 (by omega), Jb, cI]
  by_cases h0 : t[t.length - 1]'(by omega) = 0
  ·rw [if_neg (by rw [h0]; decide), if_neg (by rw [hg, h0]; simp [h]), Jb, Uz (by omega), Jb, Int.toNat_natCast, ← List.dropLast_eq_take]
   have := ascii_loop t.dropLast (by rw [List.length_dropLast]; omega) t.dropLast.length 0 r (by omega)
   rw [List.drop_zero] at this
   exact this
  ·rw [if_pos (fun e => h0 (UInt8.toNat_inj.1 (by have : ((t[t.length - 1]'(by omega)).toNat : Int) = 0 := e; show _ = 0; omega))), if_pos (.inr (by rw [hg]; simpa using h0)), W7]; rfl
theorem drop_in (s : List UInt8) {p n o k : Nat} (h : o + k ≤ n) : ((s.drop p).take n |>.drop o).take k = (s.drop (p + o)).take k := by
 rw [List.drop_take, List.take_take, List.drop_drop, Nat.min_eq_left (by omega)]
theorem wide_pos {k : Int} (h : J5 k ≠ 0) (h2 : k ≠ 2) (h7 : k ≠ 7) (h5 : k ≠ 5) : J5 k ≤ 4 ∧ 1 ≤ J5 k := by
 refine ⟨?_, by omega⟩
 unfold J5
 (repeat' split) <;> omega
theorem value_j1 (r : Tb) {k : Int} {c p : Nat} (parts : List Td) (hw : J5 k ≠ 0) (h13 : k ≠ 13) (hp : p + c * J5 k ≤ r.s_.length) (hs : r.s_.length ≤ 65000) :
  Vu r k (c : Int) ((c * J5 k : Nat) : Int) (p : Int) parts = some (valT ⟨r.s_, r.big_, parts, r.seen_, r.dirs_, r.found_, r.no_⟩ k c ((r.s_.drop p).take (c * J5 k))) := by
 have hcw : c ≤ c * J5 k := Nat.le_mul_of_pos_right _ (by omega)
 unfold Vu valT
 rw [cI, cI, cI]
 by_cases h2 : k = 2
 ·rw [if_pos h2, if_pos h2, Jr (by omega), Jb, Ja2 (by omega), Jb, show ((p : Int) + ((c * J5 k : Nat) : Int)).toNat - (p : Int).toNat = c * J5 k by omega, Int.toNat_natCast, ascii_eq _ _ (by rw [List.length_take, List.length_drop]; omega), Jb, h2]
  split <;> rfl
 rw [if_neg h2, if_neg h2]
 by_cases h7 : k = 7
 ·rw [if_pos h7, if_pos h7, Jr (by omega), Jb, Ja2 (by omega), Jb, show ((p : Int) + ((c * J5 k : Nat) : Int)).toNat - (p : Int).toNat = c * J5 k by omega, Int.toNat_natCast, h7]
  rfl
 rw [if_neg h7, if_neg h7]
 by_cases h5 : k = 5
 ·rw [if_pos h5, if_pos h5]
  have hw8 : J5 k = 8 := by rw [h5]; rfl
  rw [hw8] at hp ⊢
  have := Jfi (F := fun next3 s => Yl r k (c : Int) (p : Int) parts next3 s.1 s.2) (List.range c) (fun l i => l ++ [ratR r.big_ ((r.s_.drop p).take (c * 8)) i]) (fun l => some ((⟨k, [], [], l, []⟩ : Tg), (⟨r.s_, r.big_, parts, r.seen_, r.dirs_, r.found_, r.no_⟩ : Tb))) (fun i l => l.length = i)
   (fun next i l hi hl => by
    have hic : i < c := by rw [List.length_range] at hi; exact hi
    refine ⟨?_, by rw [List.length_append, hl]; rfl⟩
    rw [List.getElem_range]
    show Yl r k (c : Int) (p : Int) parts next (i : Int) l = _
    unfold Yl
    rw [cI, if_pos (by omega), Jr (by omega), Jb, Jr (by omega), Jb, show (p : Int) + 8 * (i : Int) = ((p + 8 * i : Nat) : Int) by omega, Jih ⟨r.s_, r.big_, parts, r.seen_, r.dirs_, r.found_, r.no_⟩ (by show _ ≤ r.s_.length; omega) hs, Jb, Jb, Jr (by omega), Jb, Jr (by omega), Jb]
    rw [show (p : Int) + 8 * (i : Int) + 4 = ((p + (8 * i + 4) : Nat) : Int) by omega, Jih ⟨r.s_, r.big_, parts, r.seen_, r.dirs_, r.found_, r.no_⟩ (by show _ ≤ r.s_.length; omega) hs, Jb, Ya (by rw [hl]; simp; omega), Jb, Jr (by omega), Jb]
    unfold ratR
    rw [drop_in _ (by omega), drop_in _ (by omega)])
   (fun next l hl => by
    rw [List.length_range]
    show Yl r k (c : Int) (p : Int) parts next (c : Int) l = _
    unfold Yl
    rw [cI, if_neg (by omega)]; rfl) [] rfl
  rw [Jhn] at this
  rw [this, h5]; rfl
 ·rw [if_neg h5, if_neg h5]
  obtain ⟨w4, w1⟩ := wide_pos hw h2 h7 h5
  have := Jfi (F := fun next4 s => Ym r k (c : Int) (p : Int) parts next4 s.1 s.2) (List.range c) (fun l i => l ++ [intR r.big_ k ((r.s_.drop p).take (c * J5 k)) i]) (fun l => some ((⟨k, [], l, [], []⟩ : Tg), (⟨r.s_, r.big_, parts, r.seen_, r.dirs_, r.found_, r.no_⟩ : Tb))) (fun i l => l.length = i)
   (fun next i l hi hl => by
    have hic : i < c := by rw [List.length_range] at hi; exact hi
    have hiw : i * J5 k + J5 k ≤ c * J5 k := by
     have := Nat.mul_le_mul_right (J5 k) (show i + 1 ≤ c by omega)
     rw [Nat.add_mul] at this; omega
    refine ⟨?_, by rw [List.length_append, hl]; rfl⟩
    rw [List.getElem_range]
    show Ym r k (c : Int) (p : Int) parts next (i : Int) l = _
    unfold Ym
    have esz : Z8 k = some ((J5 k : Nat) : Int) := by rw [Jde, if_neg h13]
    rw [cI, if_pos (by omega), esz, Jb, show (i : Int) * ((J5 k : Nat) : Int) = ((i * J5 k : Nat) : Int) by rw [Int.natCast_mul], Jr (by omega), Jb, Jr (by omega), Jb, Jb,
     show (p : Int) + ((i * J5 k : Nat) : Int) = ((p + i * J5 k : Nat) : Int) by omega, Jeh ⟨r.s_, r.big_, parts, r.seen_, r.dirs_, r.found_, r.no_⟩ (by show _ ≤ r.s_.length; omega) w4 hs, Jb, cI]
    have go : ∀ x : Int, x = intR r.big_ k ((r.s_.drop p).take (c * J5 k)) i → Vv (i : Int) l next x = next ((i : Int) + 1, l ++ [intR r.big_ k ((r.s_.drop p).take (c * J5 k)) i]) := by
     intro x hx
     unfold Vv
     rw [Ya (by rw [hl]; simp; omega), Jb, Jr (by omega), Jb, hx]
    have hd : ((r.s_.drop p).take (c * J5 k) |>.drop (i * J5 k)).take (J5 k) = (r.s_.drop (p + i * J5 k)).take (J5 k) := drop_in _ hiw
    by_cases h9 : k = 9
    ·rw [if_pos h9]; exact go _ (by unfold intR; rw [if_pos h9, hd])
    ·rw [if_neg h9]; exact go _ (by unfold intR; rw [if_neg h9, hd]))
   (fun next l hl => by
    rw [List.length_range]
    show Ym r k (c : Int) (p : Int) parts next (c : Int) l = _
    unfold Ym
    rw [cI, if_neg (by omega)]; rfl) [] rfl
  rw [Jhn] at this
  rw [this]; rfl
theorem value_eq (r : Tb) {k : Int} {c a : Nat} (hw : J5 k ≠ 0) (h13 : k ≠ 13) (hc : c ≤ 4294967295) (ha : a + 4 ≤ r.s_.length) (hs : r.s_.length ≤ 65000) (hp : r.parts_.length ≤ 8000000000000) :
  Jav r k (c : Int) (a : Int) = some (valR r k c a) := by
 have hcw : c * J5 k ≤ 4294967295 * 8 := Nat.mul_le_mul hc (Jal k)
 unfold Jav valR
 rw [Jde, if_neg h13, Jb, show (c : Int) * ((J5 k : Nat) : Int) = ((c * J5 k : Nat) : Int) by rw [Int.natCast_mul], Jr (by omega), Jb, cI]
 by_cases h4 : 4 < c * J5 k
 ·rw [if_pos (by omega), if_pos h4, Jih _ ha hs, Jb, Ji2 _ (by omega) hs, Jb]
  have hv := valB4 r.big_ (bs := (r.s_.drop a).take 4) (by rw [List.length_take]; omega)
  by_cases ht : 8 ≤ Ja6 r.big_ ((r.s_.drop a).take 4) ∧ Ja6 r.big_ ((r.s_.drop a).take 4) + c * J5 k ≤ r.s_.length
  ·rw [decide_eq_true ht, Bool.not_true, Jx, Jr (by omega), Jb, Ya (by simp; omega), Jb, value_j1 r _ hw h13 ht.2 hs]
   simp only [if_pos ht]
   rfl
  ·rw [decide_eq_false ht, Bool.not_false, J9, W7, Jb]
   simp only [if_neg ht]
 ·rw [if_neg (by omega), if_neg h4, value_j1 r _ hw h13 (by omega) hs]
end Go.M

/- Directories read from octets, in plain Lean. Conditions: none. -/
namespace Go.M
open Go.Md Go.Pl
set_option linter.unusedVariables false
abbrev Uw := (Tb × Int × (List Int)) → Option ((List Ta) × Int × Tb)
abbrev J0 (r : Tb) (a k : Nat) : Nat := Ja6 r.big_ ((r.s_.drop a).take k)
theorem n2 (r : Tb) {a : Nat} (h : a + 2 ≤ r.s_.length) (hs : r.s_.length ≤ 65000) : Jo r (a : Int) 2 = some (J0 r a 2 : Int) := number2 r h hs
theorem n4 (r : Tb) {a : Nat} (h : a + 4 ≤ r.s_.length) (hs : r.s_.length ≤ 65000) : Jo r (a : Int) 4 = some (J0 r a 4 : Int) := Jih r h hs
theorem v4 (r : Tb) (a : Nat) : J0 r a 4 ≤ 4294967295 := valB4 _ (by rw [List.length_take]; omega)
theorem v2 (r : Tb) (a : Nat) : J0 r a 2 ≤ 65535 := valB2 _ (by rw [List.length_take]; omega)
theorem found_ok {f : Nat} (h : f ≤ 1) : ∃ g, mft114 f = some g ∧ ∀ l a, g l a = some () := by
 match f, h with
 | 0, _ => exact ⟨_, rfl, fun _ _ => rfl⟩
 | 1, _ => exact ⟨_, rfl, fun _ _ => rfl⟩
theorem clone_eq {l : List Int} (h : l.length ≤ 1000) : Ul l = some l := by
 unfold Ul
 rw [Ya (by simp; omega), Jb]; simp
theorem pack_eq (t : Int) (v : Tg) (r : Tb) : Zy t v.Kind v.Text v.Ints v.Ratios v.Entries r.s_ r.big_ r.dirs_ r.found_ r.no_ r.parts_ r.seen_ = some (⟨t, v⟩, r) := by cases v; cases r; rfl
noncomputable def entR (self : Uw) (r : Tb) (a : Nat) (path : List Int) : Option (Ta × Tb) :=
 if (J0 r (a + 2) 2 : Int) = 13 then
  (if J0 r (a + 4) 4 = 1 then Js (self (r, (J0 r (a + 8) 4 : Int), path ++ [(J0 r a 2 : Int)])) fun t => some ((⟨(J0 r a 2 : Int), ⟨13, [], [], [], t.1⟩⟩ : Ta), t.2.2)
   else some (⟨(J0 r a 2 : Int), ⟨13, [], [], [], []⟩⟩, fl r 1))
 else if J5 (J0 r (a + 2) 2 : Int) = 0 then some (⟨(J0 r a 2 : Int), ⟨(J0 r (a + 2) 2 : Int), [], [], [], []⟩⟩, fl r 10)
 else some (⟨(J0 r a 2 : Int), (valR r (J0 r (a + 2) 2 : Int) (J0 r (a + 4) 4) (a + 8)).1⟩, (valR r (J0 r (a + 2) 2 : Int) (J0 r (a + 4) 4) (a + 8)).2)
theorem entry_eq (self : Uw) (r : Tb) {a : Nat} {path : List Int} (ha : a + 12 ≤ r.s_.length) (hs : r.s_.length ≤ 65000) (hp : r.parts_.length ≤ 8000000000000) (hf : r.found_ ≤ 1) (hl : path.length ≤ 100) :
  Xq self r (a : Int) path = entR self r a path := by
 obtain ⟨g, hg, hg2⟩ := found_ok hf
 unfold Xq entR
 rw [n2 _ (by omega) hs, Jb, Jr (by omega), Jb, show (a : Int) + 2 = ((a + 2 : Nat) : Int) by omega, n2 _ (by omega) hs, Jb, Jr (by omega), Jb, show (a : Int) + 4 = ((a + 4 : Nat) : Int) by omega, n4 _ (by omega) hs, Jb, clone_eq (by omega), Jb, Ya (by simp; omega), Jb]
 unfold gFn
 rw [hg, Jb, hg2, Jb, Jde, Jb, cI, cI]
 have h8 : (a : Int) + 8 = ((a + 8 : Nat) : Int) := by omega
 have hc4 := v4 r (a + 4)
 by_cases h13 : (J0 r (a + 2) 2 : Int) = 13
 ·rw [if_pos h13, if_pos h13, if_neg (by decide), if_pos h13]
  unfold Zz
  rw [cI]
  by_cases h1 : J0 r (a + 4) 4 = 1
  ·rw [if_neg (by omega), if_pos h1, cI, if_pos h13, Jr (by omega), Jb, h8, n4 _ (by omega) hs, Jb]
   refine Xt fun t _ => ?_
   rw [h13]; rfl
  ·rw [if_pos (by omega), if_neg h1, W7, Jb, h13]; rfl
 ·rw [if_neg h13, if_neg h13, if_neg h13]
  by_cases h0 : J5 (J0 r (a + 2) 2 : Int) = 0
  ·rw [if_pos (by omega), if_pos h0, W7, Jb]; rfl
  ·rw [if_neg (by omega), if_neg h0]
   unfold Zz
   rw [Jx, cI, if_neg h13, Jr (by omega), Jb, h8, value_eq _ h0 h13 hc4 (by omega) hs hp, Jb, pack_eq]
noncomputable def Jd2 (self : Uw) (path : List Int) (pl nxt cnt i : Nat) (r : Tb) (l : List Ta) : Option ((List Ta) × Int × Tb) :=
 Zs (fun next4 s => Xe path self next4 s.1 s.2.1 s.2.2.1 s.2.2.2.1 s.2.2.2.2.1 s.2.2.2.2.2.1 s.2.2.2.2.2.2.1 s.2.2.2.2.2.2.2.1 s.2.2.2.2.2.2.2.2.1 s.2.2.2.2.2.2.2.2.2.1 s.2.2.2.2.2.2.2.2.2.2.1 s.2.2.2.2.2.2.2.2.2.2.2) ((pl : Int), (nxt : Int), (cnt : Int), (i : Int), r.s_, r.big_, r.dirs_, r.found_, r.no_, r.parts_, r.seen_, l)
theorem Jfm (self : Uw) (path : List Int) (pl nxt cnt i : Nat) (r : Tb) (l : List Ta) (h : cnt ≤ i ∨ r.no_ ≠ 0) : Jd2 self path pl nxt cnt i r l = some (l, (nxt : Int), r) := by
 refine Jz fun next => ?_
 show Xe path self next (pl : Int) (nxt : Int) (cnt : Int) (i : Int) _ _ _ _ _ _ _ l = _
 unfold Xe
 rw [cI]
 by_cases h1 : cnt ≤ i
 ·rw [if_neg (by omega)]; rfl
 ·rw [if_pos (by omega), cI, if_neg (show ¬ r.no_ = 0 from h.resolve_left h1)]; rfl
theorem loop_low (self : Uw) (path : List Int) (pl nxt cnt i : Nat) (r : Tb) (l : List Ta) (hi : i < cnt) (hno : r.no_ = 0) (h0 : 0 < i) (hl : i ≤ l.length) (ha : pl + 2 + 12 * cnt ≤ r.s_.length) (hs : r.s_.length ≤ 65000)
  (hlow : (J0 r (pl + 2 + 12 * i) 2 : Int) ≤ (l[i - 1]'(by omega)).Tag) : Jd2 self path pl nxt cnt i r l = some (l, (nxt : Int), fl r 5) := by
 refine Jz fun next => ?_
 show Xe path self next (pl : Int) (nxt : Int) (cnt : Int) (i : Int) _ _ _ _ _ _ _ l = _
 unfold Xe
 rw [cI, if_pos (by omega), cI, if_pos hno, cI, if_pos (by omega), Jr (by omega), Jb, Jr (by omega), Jb, Jr (by omega), Jb, show (pl : Int) + 2 + 12 * (i : Int) = ((pl + 2 + 12 * i : Nat) : Int) by omega,
  n2 r (by omega) hs, Jb, Jr (by omega), Jb, show (i : Int) - 1 = ((i - 1 : Nat) : Int) by omega, Xk (by omega), Jb, cI, if_pos hlow, W7 r, Jb]
 rfl
theorem loop_next (self : Uw) (path : List Int) (pl nxt cnt i : Nat) (r : Tb) (l : List Ta) (hi : i < cnt) (hno : r.no_ = 0) (hl : l.length = i) (hn : i ≤ 1000) (ha : pl + 2 + 12 * cnt ≤ r.s_.length) (hs : r.s_.length ≤ 65000)
  (hlow : ∀ (h : 0 < i), ¬ (J0 r (pl + 2 + 12 * i) 2 : Int) ≤ (l[i - 1]'(by omega)).Tag) (hp : r.parts_.length ≤ 8000000000000) (hf : r.found_ ≤ 1) (hpl : path.length ≤ 100) {e : Ta} {r' : Tb} (he : entR self r (pl + 2 + 12 * i) path = some (e, r')) :
  Jd2 self path pl nxt cnt i r l = Jd2 self path pl nxt cnt (i + 1) r' (l ++ [e]) := by
 have go : ∀ next, Vm path self (pl : Int) (nxt : Int) (cnt : Int) (i : Int) r.s_ r.big_ r.dirs_ r.found_ r.no_ r.parts_ r.seen_ l next = next ((pl : Int), (nxt : Int), (cnt : Int), ((i + 1 : Nat) : Int), r'.s_, r'.big_, r'.dirs_, r'.found_, r'.no_, r'.parts_, r'.seen_, l ++ [e]) := by
  intro next
  unfold Vm
  rw [Jr (by omega), Jb, Jr (by omega), Jb, Jr (by omega), Jb, show (pl : Int) + 2 + 12 * (i : Int) = ((pl + 2 + 12 * i : Nat) : Int) by omega, entry_eq self r (by omega) hs hp hf hpl, he, Jb, Ya (by simp; omega), Jb, Jr (by omega), Jb]
  rfl
 refine Q2 _ fun next => ?_
 show Xe path self next (pl : Int) (nxt : Int) (cnt : Int) (i : Int) _ _ _ _ _ _ _ l = _
 unfold Xe
 rw [cI, if_pos (by omega), cI, if_pos hno, cI]
 by_cases h0 : 0 < i
 ·rw [if_pos (by omega), Jr (by omega), Jb, Jr (by omega), Jb, Jr (by omega), Jb, show (pl : Int) + 2 + 12 * (i : Int) = ((pl + 2 + 12 * i : Nat) : Int) by omega,
   n2 r (by omega) hs, Jb, Jr (by omega), Jb, show (i : Int) - 1 = ((i - 1 : Nat) : Int) by omega, Xk (by omega), Jb, cI, if_neg (hlow h0)]
  exact go next
 ·rw [if_neg (by omega)]
  exact go next
noncomputable def dirR (self : Uw) (r : Tb) (pl : Nat) (path : List Int) : Option ((List Ta) × Int × Tb) :=
 if ¬ (8 ≤ pl ∧ pl + 2 ≤ r.s_.length) then some ([], 0, fl r 2)
 else if (mGet r.seen_ (pl : Int)).getD false = true then some ([], 0, fl r 13)
 else if 20 < r.dirs_ ∨ 5 < path.length ∨ 200 < J0 r pl 2 then some ([], 0, fl r 4)
 else if ¬ (pl + (2 + 12 * J0 r pl 2 + 4) ≤ r.s_.length) then some ([], 0, fl r 2)
 else if r.no_ ≠ 0 then some ([], 0, r)
 else Jd2 self path pl (J0 r (pl + 2 + 12 * J0 r pl 2) 4) (J0 r pl 2) 0
  (if 1 < path.length ∧ J0 r (pl + 2 + 12 * J0 r pl 2) 4 ≠ 0 then fl ⟨r.s_, r.big_, r.parts_ ++ [⟨(pl : Int), ((pl + (2 + 12 * J0 r pl 2 + 4) : Nat) : Int)⟩], Z5 r.seen_ (pl : Int) true, r.dirs_, r.found_, r.no_⟩ 1
   else ⟨r.s_, r.big_, r.parts_ ++ [⟨(pl : Int), ((pl + (2 + 12 * J0 r pl 2 + 4) : Nat) : Int)⟩], Z5 r.seen_ (pl : Int) true, r.dirs_, r.found_, r.no_⟩) []
theorem Jbi (pl cnt : Int) (path : List Int) (self : Uw) (r : Tb) (h : r.no_ ≠ 0) : Xb pl path self cnt r.s_ r.big_ r.dirs_ r.found_ r.no_ r.parts_ r.seen_ = some ([], 0, r) := by
 unfold Xb
 rw [cI, if_pos h]
theorem Jgw (self : Uw) (r : Tb) {pl : Nat} {path : List Int} (hpl : pl ≤ 4294967295) (hs : r.s_.length ≤ 65000) (hp : r.parts_.length ≤ 7999999999999) :
  J7 self r (pl : Int) path = dirR self r pl path := by
 unfold J7 dirR
 rw [show (2 : Int) = ((2 : Nat) : Int) from rfl, Ji2 _ (by omega) hs, Jb, show ((2 : Nat) : Int) = 2 from rfl]
 by_cases ht : 8 ≤ pl ∧ pl + 2 ≤ r.s_.length
 ·rw [decide_eq_true ht, Bool.not_true, Jx, if_neg (by simp [ht]), n2 _ ht.2 hs, Jb]
  have hv := v2 r pl
  by_cases hsn : (mGet r.seen_ (pl : Int)).getD false = true
  ·rw [if_pos hsn, hsn, J9, W7, Jb, Jbi _ _ _ _ _ (Jb3 _ (by decide))]
  ·rw [if_neg hsn, Bool.not_eq_true _ |>.mp hsn, Jx, cI, cI, cI]
   by_cases h20 : 20 < r.dirs_
   ·rw [if_pos h20, if_pos (.inl h20), W7, Jb, Jbi _ _ _ _ _ (Jb3 _ (by decide))]
   rw [if_neg h20]
   by_cases h5 : 5 < path.length
   ·rw [if_pos (by omega), if_pos (.inr (.inl h5)), W7, Jb, Jbi _ _ _ _ _ (Jb3 _ (by decide))]
   rw [if_neg (by omega)]
   by_cases h200 : 200 < J0 r pl 2
   ·rw [if_pos (by omega), if_pos (.inr (.inr h200)), W7, Jb, Jbi _ _ _ _ _ (Jb3 _ (by decide))]
   rw [if_neg (by omega), if_neg (by omega), Jr (by omega), Jb, Jr (by omega), Jb, Jr (by omega), Jb, show (2 : Int) + 12 * (J0 r pl 2 : Int) + 4 = ((2 + 12 * J0 r pl 2 + 4 : Nat) : Int) by omega, Ji2 _ (by omega) hs, Jb]
   by_cases hb : pl + (2 + 12 * J0 r pl 2 + 4) ≤ r.s_.length
   ·rw [decide_eq_true ⟨ht.1, hb⟩, Bool.not_true, Jx, if_neg (by omega)]
    by_cases hno : r.no_ = 0
    ·rw [if_neg (by simp [hno])]
     unfold Xb
     have hb' : pl + (2 + 12 * J0 r pl 2 + 4) ≤ r.s_.length := hb
     rw [cI, if_neg (by simp [hno]), Jr (by omega), Jb, Jr (by omega), Jb, Jr (by omega), Jb, Jr (by omega), Jb, Ya (by simp; omega), Jb, Jb, Jb, Jr (by omega), Jb,
      show (pl : Int) + 2 + 12 * (J0 r pl 2 : Int) = ((pl + 2 + 12 * J0 r pl 2 : Nat) : Int) by omega,
      show ((pl + 2 + 12 * J0 r pl 2 : Nat) : Int) + 4 = ((pl + (2 + 12 * J0 r pl 2 + 4) : Nat) : Int) by omega,
      n4 (a := pl + 2 + 12 * J0 r pl 2) (⟨r.s_, r.big_, r.parts_ ++ [(⟨(pl : Int), ((pl + (2 + 12 * J0 r pl 2 + 4) : Nat) : Int)⟩ : Td)], Z5 r.seen_ (pl : Int) true, r.dirs_, r.found_, r.no_⟩ : Tb) (by show _ ≤ r.s_.length; omega) hs, Jb, cI, cI]
     by_cases h1 : 1 < path.length
     ·rw [if_pos (by omega)]
      by_cases hn : J0 r (pl + 2 + 12 * J0 r pl 2) 4 = 0
      ·rw [if_neg (by show ¬ ((J0 r (pl + 2 + 12 * J0 r pl 2) 4 : Nat) : Int) ≠ 0; omega), if_neg (by omega)]; rfl
      ·rw [if_pos (by show ((J0 r (pl + 2 + 12 * J0 r pl 2) 4 : Nat) : Int) ≠ 0; omega), if_pos ⟨h1, hn⟩, W7, Jb]; rfl
     ·rw [if_neg (by omega), if_neg (by omega)]; rfl
    ·rw [if_pos hno, Jbi _ _ _ _ _ hno]
   ·rw [decide_eq_false (by omega), Bool.not_false, J9, if_pos hb, W7, Jb, Jbi _ _ _ _ _ (Jb3 _ (by decide))]
 ·rw [decide_eq_false ht, Bool.not_false, J9, if_pos ht, W7, Jb]
end Go.M
