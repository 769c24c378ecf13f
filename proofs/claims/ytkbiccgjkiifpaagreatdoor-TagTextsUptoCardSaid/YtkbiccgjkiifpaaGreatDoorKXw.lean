/- TagTexts, texts: the walks, printed by our generator; each follows its model. Conditions: the model yields a value. -/
import Derived.Test.YtkbiccgjkiifpaaGreatDoorKXa
import Derived.Test.YtkbiccgjkiifpaaGreatDoorLx2
set_option linter.unusedVariables false
namespace Go.Proofs.YtkbiccgjkiifpaaGreatDoor
open Go Go.Vc Go.Md Go.M Go.Lx Tryz
set_option maxRecDepth 100000
set_option maxHeartbeats 4000000
theorem k81 {a0 : (List UInt8)} {r : (List UInt8)} (H : Jh8 a0 = some r) : Ret prog 81 [str a0] (str r) := by
 refine Qr (n := 35) func81 rfl rfl rfl (fun wd => ?_)
 refine Jc<|Ja<|ag (str [])<|Jd<|Jc<|Ja<|ag (str [])<|Jd<|Jc<|Jc<|Ja<|mv (str a0)<|lv (Xc Tryz.underlying9 rfl)<|mv (i6 0)<|Jd<|Jp<|?_
 refine Xu (σ := (List UInt8) × Int) (τ := Unit) (fun next1 s => U3 a0 next1 s.1 s.2) (fun s t => [(0, str a0), (3, str s.1), (6, i6 (a0.l : Int)), (7, i6 s.2)]) (fun s t => []) (fun s t => True) ([], 0) () [] H (by exact trivial) (by exact ⟨rfl, rfl, rfl, rfl, trivial⟩) (by decide) rfl ?_
 rintro ⟨x3_2, x7_2⟩ _ m1 gg H15 _
 clear H
 try dsimp only at H15
 generalize hn1 : it (fun next1 s => U3 a0 next1 s.1 s.2) m1 = next1 at H15
 try dsimp only
 refine Jc<|Ja<|lv (Xk rfl rfl)<|Jd<|Jc<|?_
 revert H15
 refine ci (decide (x7_2 < (a0.l : Int))) rfl (fun hb H16=>?_) fun hb H28=>?_
 ·refine Jh<|Jc<|Jp<|Jc<|Ja<|mv (i6 x7_2)<|ag (i6 x7_2)<|Jd<|?_
  exact Qv (Kd.p :: Kd.p :: Kd.p :: Kd.p :: Kd.p :: Kd.p :: Kd.p :: Kd.p :: Kd.p :: Kd.p :: Kd.p :: Kd.p :: Kd.p :: Kd.p :: Kd.p :: Kd.p :: Kd.p :: Kd.p :: Kd.p :: Kd.p :: Kd.p :: Kd.p :: Kd.p :: Kd.p :: []) 0 mixed (by
   refine dm (str x3_2)<|dm (str a0)<|dm (i6 x7_2)<|?_
   have h_t13 := J4 H16
   have H17 := J0 H16
   refine dv (Zs Tryz.underlying9 rfl rfl h_t13) ?_
   have h_t14 := J4 H17
   have H18 := J0 H17
   refine dv (r_shrG rfl rfl rfl h_t14)<|dm (str a0)<|dm (i6 x7_2)<|?_
   have h_t17 := J4 H18
   have H19 := J0 H18
   refine dv (Zs Tryz.underlying9 rfl rfl h_t17) ?_
   have h_t18 := J4 H19
   have H20 := J0 H19
   refine dv (r_shrG rfl rfl rfl h_t18)<|dv (r_addW rfl rfl (Jg8 _))<|?_
   have h_t20 := J4 H20
   have H21 := J0 H20
   refine dv (r_cutTG Tryz.underlying9 rfl rfl rfl h_t20)<|dm (str a0)<|dm (i6 x7_2)<|?_
   have h_t23 := J4 H21
   have H22 := J0 H21
   refine dv (Zs Tryz.underlying9 rfl rfl h_t23)<|dv (Jgu (bits := 8) rfl rfl rfl (Jg8 _))<|dm (str a0)<|dm (i6 x7_2)<|?_
   have h_t27 := J4 H22
   have H23 := J0 H22
   refine dv (Zs Tryz.underlying9 rfl rfl h_t27)<|dv (Jgu (bits := 8) rfl rfl rfl (Jg8 _))<|dv (r_addW rfl rfl (Jg8 _))<|?_
   have h_t30 := J4 H23
   have H24 := J0 H23
   refine dv (r_cutTG Tryz.underlying9 rfl rfl rfl h_t30) ?_
   have h_t31 := J4 H24
   have H25 := J0 H24
   refine dv (Qw rfl rfl h_t31) ?_
   have h_t32 := J4 H25
   have H26 := J0 H25
   refine dv (Qw rfl rfl h_t32)<|Jq rfl rfl (Jg (v := str (val (Xh x3_2 (val (Xh (val (Xx [48, 49, 50, 51, 52, 53, 54, 55, 56, 57, 97, 98, 99, 100, 101, 102] (val (gShr 8 (val (Xy a0 x7_2)) 4)) (wU8 ((val (gShr 8 (val (Xy a0 x7_2)) 4)) + 1)))) (val (Xx [48, 49, 50, 51, 52, 53, 54, 55, 56, 57, 97, 98, 99, 100, 101, 102] (wU8 (bAnd 8 (val (Xy a0 x7_2)) 15)) (wU8 ((wU8 (bAnd 8 (val (Xy a0 x7_2)) 15)) + 1))))))))) rfl)<|X6<|Ja<|?_
   obtain ⟨t33, h_t33, H27⟩ := Je H26; clear H26
   refine lv (J8 rfl rfl h_t33)<|mv (i6 t33)<|Jd<|?_
   exact cl ((val (Xh x3_2 (val (Xh (val (Xx [48, 49, 50, 51, 52, 53, 54, 55, 56, 57, 97, 98, 99, 100, 101, 102] (val (gShr 8 (val (Xy a0 x7_2)) 4)) (wU8 ((val (gShr 8 (val (Xy a0 x7_2)) 4)) + 1)))) (val (Xx [48, 49, 50, 51, 52, 53, 54, 55, 56, 57, 97, 98, 99, 100, 101, 102] (wU8 (bAnd 8 (val (Xy a0 x7_2)) 15)) (wU8 ((wU8 (bAnd 8 (val (Xy a0 x7_2)) 15)) + 1)))))))), t33) () m1 [] (by exact ⟨(by subst hn1; exact H27), trivial⟩)
   ) (by kernel_rfl)
 ·refine Qp<|Jc<|Ja<|mv (str x3_2)<|ag (str x3_2)<|Jd<|Ji<|?_
  obtain rfl := sj H28
  exact r1 (str x3_2)
theorem k42 {a0 : Tb} {v0_2 : Value} {v0_3 : Value} {v0_4 : Value} {r : (List UInt8)} {w : World} {h : Jw} (hw : Know h w Ys) (f0_2 : FrS h 1 v0_2 (a0.kaf.map Qz)) (f0_3 : FrS h 2 v0_3 (a0.kac.map Jl)) (f0_4 : FrN h 6 v0_4 g_tag_Entry a0.kab) (tb_pow10 : TabH prog h "internal/strconv.uint64pow10" .u64 Lib.pow10Tab) (H : Jar a0 = some r) : Does prog 42 (List.toArray [.agg #[i6 a0.kad, str a0.kae, v0_2, v0_3, v0_4]]) w (fun v w' => v = (str r) ∧ Grow w w') := by
 refine enter (n := 56) func42 rfl rfl rfl Ys [] (Sat.nil _ _)<|Jc<|Ja<|?_
 refine Vv (cs := [i6 a0.kad, str a0.kae, v0_2, v0_3, v0_4]) rfl rfl rfl rfl (fun b6 => ?_)
 refine ag (str [])<|Jd<|Jc<|?_
 exact Qv (Kd.t 1 [] _ _ :: Kd.p :: Kd.d [0] _ :: Kd.d [1] _ :: Kd.ns 2 [_] 9 1 :: Kd.p :: []) 2 mixed (by
  have h_t8 := J4 H
  have H27 := J0 H
  refine d_make (Cv := fun v => mapC i6 str (mapB v) (val Z2)) 0 (Xr (G := fun x : Nat => .map (some x)) (C := fun x : Nat => mapC i6 str x (val Z2)) (fun w L' hF hS hi => k80 (Ju w)  h_t8) call80 rfl) (fun _ => rfl) rfl rfl rfl (fun p => ?_)
  refine dv (Jr Tryz.runUnderlying81 rfl Tryz.sizeOf3 rfl rfl)<|dl (i6 a0.kad) Tryz.isAgg3<|Ya (fun w L' hF hS hi => run_lookup (i := 1) (fk := i6) (fv := str) (k := a0.kad) (z := []) Jdd Tryz.underlying141 Tryz.underlying3 zeroValue9 rfl rfl hS ((hi 1 (by simp)).trans rfl)) rfl rfl<|?_
  refine Jhp rfl rfl (Ve (vs := [str ((mGet (val Z2) a0.kad).getD [])]) (cs := [str ((mGet (val Z2) a0.kad).getD [])]) Tryz.underlying31 Tryz.sizeOf9 zeroValue9 rfl rfl rfl rfl rfl) rfl (fun b7 => ?_)
  refine Jq rfl rfl (Jg (v := .slice (some ⟨b7, 0, none⟩) 1 1) rfl)<|X6<|?_
  refine Qe (r := r) (σ := (List (List UInt8))) (τ := AN) (fun s => Uu a0 s) (fun s t => [(1, pz b6), (3, sl t s.l)]) (fun s t => [Jn b6 [i6 a0.kad, str a0.kae, v0_2, v0_3, v0_4] 81, J3 9 1 (sl t s.l) s.l (s.map Jz)]) (fun s t => True) ?_ ?_
  ·refine Jc<|Ja<|lf Tryz.runUnderlying81 rfl Tryz.sizeOf9 rfl<|ll 0 (str a0.kae) Tryz.isAgg9<|lv (Ja3 rfl rfl)<|Jd<|?_
   revert H27
   refine ci (decide (a0.kae ≠ [])) rfl (fun hb H49=>?_) fun hb H52=>?_
   ·refine Ja<|mv (.slice (some ⟨b7, 0, none⟩) 1 1)<|lf Tryz.runUnderlying81 rfl Tryz.sizeOf9 rfl<|ll 0 (str a0.kae) Tryz.isAgg9<|?_
    obtain ⟨t19, h_t19, H50⟩ := Je H49; clear H49
    refine Qm (k81 h_t19) call81 rfl rfl rfl ?_
    refine Q9 (vs := [str t19]) (cs := [str t19]) Tryz.underlying31 Tryz.sizeOf9 zeroValue9 rfl rfl rfl rfl rfl rfl rfl (fun b11 => ?_)
    refine J1 2 rfl (Jh5 (m := 1) (E := 9) (sz := 1) (xs := (([((mGet (val Z2) a0.kad).getD [])] : List (List UInt8))).map Jz) rfl rfl rfl ⟨rfl, by decide⟩) ?_
    obtain ⟨l21, h_l21, H51⟩ := Je H50; clear H50
    refine Q1 (Y0 (i := 2) (hn := rfl) (rds := [3]) (p := ((some ⟨b7, 0, none⟩, 1) : AN)) (sz := 1) (by_ := 16) (f := Jz) (ys := ([((mGet (val Z2) a0.kad).getD [])] : List (List UInt8))) (ls := ([t19] : List (List UInt8))) (V := .slice (some ⟨b11, 0, none⟩) 1 1) Tryz.underlying31 (Xv typeInfo9) rfl rfl rfl rfl rfl rfl rfl rfl rfl rfl (fun w L' hF hS hi => W8 (i := 3) hS ((hi 3 (by simp)).trans rfl) rfl rfl) (fun _ => rfl) (fun _ => rfl) h_l21) rfl rfl rfl (fun p_9 => ?_)
    refine ag (sl p_9 l21.l)<|Jd<|?_
    exact cl l21 p_9 0 [0, 2] (by exact ⟨H51, trivial⟩)
   ·refine Jh<|J1 2 rfl (Jh5 (m := 1) (E := 9) (sz := 1) (xs := (([((mGet (val Z2) a0.kad).getD [])] : List (List UInt8))).map Jz) rfl rfl rfl ⟨rfl, by decide⟩)<|?_
    exact cl ([((mGet (val Z2) a0.kad).getD [])] : List (List UInt8)) ((some ⟨b7, 0, none⟩, 1) : AN) 0 [0, 2] (by exact ⟨H52, trivial⟩)
  ·rintro l p_2 gg H28 _
   try dsimp only at H28
   try dsimp only
   refine Qe (r := r) (σ := (List (List UInt8))) (τ := AN) (fun s => V2 a0 s) (fun s t => [(1, pz b6), (3, sl t s.l)]) (fun s t => [Jn b6 [i6 a0.kad, str a0.kae, v0_2, v0_3, v0_4] 81, J3 9 1 (sl t s.l) s.l (s.map Jz)]) (fun s t => True) ?_ ?_
   ·refine Jc<|Ja<|lf Tryz.runUnderlying81 rfl Tryz.sizeOf76 rfl<|ll 0 v0_2 Tryz.isAgg76<|lv (Z8 Tryz.underlying76 rfl f0_2 rfl)<|mv (i6 0)<|Jd<|Jp<|?_
    refine Xu (σ := Int × (List (List UInt8))) (τ := AN) (fun next5 s => Zn a0 next5 s.1 s.2) (fun s t => [(1, pz b6), (3, sl t s.2.l), (23, v0_2), (24, i6 (a0.kaf.l : Int)), (25, i6 s.1)]) (fun s t => [Jn b6 [i6 a0.kad, str a0.kae, v0_2, v0_3, v0_4] 81, J3 9 1 (sl t s.2.l) s.2.l (s.2.map Jz)]) (fun s t => True) (0, l) p_2 [0, 1] H28 (by exact trivial) (by exact ⟨rfl, rfl, rfl, rfl, rfl, trivial⟩) (by decide) rfl ?_
    rintro ⟨x25_2, l_7⟩ p_7 m5 gg H42 _
    clear H28
    try dsimp only at H42
    generalize hn5 : it (fun next5 s => Zn a0 next5 s.1 s.2) m5 = next5 at H42
    try dsimp only
    refine Jc<|Ja<|lv (Xk rfl rfl)<|Jd<|Jc<|?_
    revert H42
    refine ci (decide (x25_2 < (a0.kaf.l : Int))) rfl (fun hb H43=>?_) fun hb H48=>?_
    ·refine Jh<|Jc<|Jp<|Jc<|Ja<|?_
     obtain ⟨t27, h_t27, H44⟩ := Je H43; clear H43
     refine lv (Q7 Tryz.underlying76 Tryz.sizeOf3 rfl rfl f0_2 h_t27)<|Qf (fun w hF hS => Qb (f := Qz) (i := x25_2) (sz := 1) (j := 0) (v := i6 t27) Tryz.isAgg3 rfl rfl (f0_2.row (hw.now hF)) h_t27 rfl) rfl rfl rfl<|ag (i6 t27)<|Jd<|Ja<|mv (sl p_7 l_7.l)<|mv (i6 t27)<|?_
     obtain ⟨t31, h_t31, H45⟩ := Je H44; clear H44
     refine Qt (fun w hF hS => k41 (Ju w) (tb_pow10.mono (hw.now hF)) h_t31) call41 rfl rfl rfl ?_
     refine Q9 (vs := [str t31]) (cs := [str t31]) Tryz.underlying31 Tryz.sizeOf9 zeroValue9 rfl rfl rfl rfl rfl rfl rfl (fun b10 => ?_)
     obtain ⟨l33, h_l33, H46⟩ := Je H45; clear H45
     refine Q1 (Y0 (i := 1) (hn := rfl) (rds := [2]) (p := p_7) (sz := 1) (by_ := 16) (f := Jz) (ys := l_7) (ls := ([t31] : List (List UInt8))) (V := .slice (some ⟨b10, 0, none⟩) 1 1) Tryz.underlying31 (Xv typeInfo9) rfl rfl rfl rfl rfl rfl rfl rfl rfl rfl (fun w L' hF hS hi => W8 (i := 2) hS ((hi 2 (by simp)).trans rfl) rfl rfl) (fun _ => rfl) (fun _ => rfl) h_l33) rfl rfl rfl (fun p_8 => ?_)
     refine ag (sl p_8 l33.l)<|Jd<|Ja<|?_
     obtain ⟨t34, h_t34, H47⟩ := Je H46; clear H46
     refine lv (J8 rfl rfl h_t34)<|mv (i6 t34)<|Jd<|?_
     exact cl (t34, l33) p_8 m5 [0, 1] (by exact ⟨(by subst hn5; exact H47), trivial⟩)
    ·refine Qp ?_
     exact cl l_7 p_7 0 [0, 1] (by exact ⟨H48, trivial⟩)
   ·rintro l_2 p_3 gg H29 _
    try dsimp only at H29
    try dsimp only
    refine Qe (r := r) (σ := (List (List UInt8))) (τ := AN) (fun s => V3 s) (fun s t => [(3, sl t s.l)]) (fun s t => [J3 9 1 (sl t s.l) s.l (s.map Jz)]) (fun s t => True) ?_ ?_
    ·refine Jc<|Ja<|lf Tryz.runUnderlying81 rfl Tryz.sizeOf79 rfl<|ll 0 v0_3 Tryz.isAgg79<|lv (Z8 Tryz.underlying79 rfl f0_3 rfl)<|mv (i6 0)<|Jd<|Jp<|Ur 0<|?_
     try dsimp only [z1, z2, z3, z4, z5, z6, z7, z8]
     refine Xu (σ := Int × (List (List UInt8))) (τ := AN) (fun next4 s => Zl a0 next4 s.1 s.2) (fun s t => [(3, sl t s.2.l), (36, v0_3), (37, i6 (a0.kac.l : Int)), (38, i6 s.1)]) (fun s t => [J3 9 1 (sl t s.2.l) s.2.l (s.2.map Jz)]) (fun s t => True) (0, l_2) p_3 [0] H29 (by exact trivial) (by exact ⟨rfl, rfl, rfl, rfl, trivial⟩) (by decide) rfl ?_
     rintro ⟨x38_2, l_5⟩ p_5 m4 gg H32 _
     clear H29
     try dsimp only at H32
     generalize hn4 : it (fun next4 s => Zl a0 next4 s.1 s.2) m4 = next4 at H32
     try dsimp only
     refine Jc<|Ja<|lv (Xk rfl rfl)<|Jd<|Jc<|?_
     revert H32
     refine ci (decide (x38_2 < (a0.kac.l : Int))) rfl (fun hb H33=>?_) fun hb H41=>?_
     ·refine Jh<|Jc<|Jp<|Jc<|Ja<|?_
      obtain ⟨t40, h_t40, H34⟩ := Je H33; clear H33
      refine lv (Q7 Tryz.underlying79 Tryz.sizeOf70 rfl rfl f0_3 h_t40)<|Qf (fun w hF hS => Yl (f := Jl) (i := x38_2) (sz := 2) (j := 0) (vs := [i6 t40.Num, i6 t40.Den]) isAgg70 Tryz.sizeOf70 rfl rfl (f0_3.row (hw.now hF)) h_t40 rfl) rfl rfl rfl<|?_
      refine Xi (cs := [i6 0, i6 0]) zeroValue70 rfl rfl rfl (fun b8 => ?_)
      refine st (i := 1) [i6 t40.Num, i6 t40.Den] [i6 t40.Num, i6 t40.Den] Tryz.sizeOf70 rfl rfl<|Jd<|?_
      exact Qv (Kd.p :: Kd.p :: Kd.d [1] _ :: Kd.d [] _ :: Kd.p :: Kd.p :: Kd.d [1] _ :: Kd.d [] _ :: Kd.p :: Kd.ns 2 [_] 9 1 :: Kd.t 0 [2] _ _ :: Kd.p :: []) 1 mixed (by
       refine dm (sl p_5 l_5.l)<|dv (Jr Tryz.runUnderlying70 rfl Tryz.sizeOf3 rfl rfl)<|dl (i6 t40.Num) Tryz.isAgg3<|?_
       have h_t45 := J4 H34
       have H35 := J0 H34
       refine Je0 (fun w L' hF hS hi => k41 (Ju w) (tb_pow10.mono (hw.now hF)) h_t45) call41 rfl rfl ?_
       have h_t46 := J4 H35
       have H36 := J0 H35
       refine dv (Qw rfl rfl h_t46)<|dv (Jr Tryz.runUnderlying70 rfl Tryz.sizeOf3 rfl rfl)<|dl (i6 t40.Den) Tryz.isAgg3<|?_
       have h_t49 := J4 H36
       have H37 := J0 H36
       refine Je0 (fun w L' hF hS hi => k41 (Ju w) (tb_pow10.mono (hw.now hF)) h_t49) call41 rfl rfl ?_
       have h_t50 := J4 H37
       have H38 := J0 H37
       refine dv (Qw rfl rfl h_t50) ?_
       refine Jhp rfl rfl (Ve (vs := [str (val (Xh (val (Xh (val (Y8 t40.Num)) [47])) (val (Y8 t40.Den))))]) (cs := [str (val (Xh (val (Xh (val (Y8 t40.Num)) [47])) (val (Y8 t40.Den))))]) Tryz.underlying31 Tryz.sizeOf9 zeroValue9 rfl rfl rfl rfl rfl) rfl (fun b9 => ?_)
       have h_l52 := J4 H38
       have H39 := J0 H38
       refine Jgf (Cv := fun v => J3 9 1 v (val (Wz 16 l_5 ([(val (Xh (val (Xh (val (Y8 t40.Num)) [47])) (val (Y8 t40.Den))))] : List (List UInt8)))).length ((val (Wz 16 l_5 ([(val (Xh (val (Xh (val (Y8 t40.Num)) [47])) (val (Y8 t40.Den))))] : List (List UInt8)))).map Jz)) (none, 0) (Y0 (i := 0) (hn := rfl) (rds := [2]) (p := p_5) (sz := 1) (by_ := 16) (f := Jz) (ys := l_5) (ls := ([(val (Xh (val (Xh (val (Y8 t40.Num)) [47])) (val (Y8 t40.Den))))] : List (List UInt8))) (V := .slice (some ⟨b9, 0, none⟩) 1 1) Tryz.underlying31 (Xv typeInfo9) rfl rfl rfl rfl rfl rfl rfl rfl rfl rfl (fun w L' hF hS hi => W8 (i := 2) hS ((hi 2 (by simp)).trans rfl) rfl rfl) (fun _ => rfl) (fun _ => rfl) h_l52) (fun _ => rfl) rfl rfl (fun p_6 => ?_)
       refine Jq rfl rfl (Jg (v := .slice p_6.1 (val (Wz 16 l_5 ([(val (Xh (val (Xh (val (Y8 t40.Num)) [47])) (val (Y8 t40.Den))))] : List (List UInt8)))).length p_6.2) rfl)<|X6<|Ja<|?_
       obtain ⟨t53, h_t53, H40⟩ := Je H39; clear H39
       refine lv (J8 rfl rfl h_t53)<|mv (i6 t53)<|Jd<|?_
       exact cl (t53, (val (Wz 16 l_5 ([(val (Xh (val (Xh (val (Y8 t40.Num)) [47])) (val (Y8 t40.Den))))] : List (List UInt8))))) p_6 m4 [0] (by exact ⟨(by subst hn4; exact H40), trivial⟩)
       ) (by kernel_rfl)
     ·refine Qp ?_
      exact cl l_5 p_5 0 [0] (by exact ⟨H41, trivial⟩)
    ·rintro l_3 p_4 gg H30 _
     try dsimp only at H30
     try dsimp only
     refine Jc<|Ja<|mv (sl p_4 l_3.l)<|?_
     obtain ⟨t55, h_t55, H31⟩ := Je H30; clear H30
     refine Qt (fun w hF hS => k82 (Ju w) (Jct (i := 0) rfl hS rfl) h_t55) call82 rfl rfl rfl<|ag (str t55)<|Jd<|Ji<|?_
     obtain rfl := sj H31
     exact r1 (str t55)
  ) (by kernel_rfl)
theorem k19_it (mm : Nat) : ∀ {a0 : (List Ta)} {v0 : Value} {a1 : Int} {r : (List UInt8)} {w : World} {h : Jw} (hw : Know h w Ys) (f0 : FrN h 6 v0 g_tag_Entry a0) (tb_pow10 : TabH prog h "internal/strconv.uint64pow10" .u64 Lib.pow10Tab) (H : it (fun (self : ((List Ta) × Int) → Option ((List UInt8))) (s : (List Ta) × Int) => Zv self s.1 s.2) mm (a0, a1) = some r), Does prog 19 (List.toArray [v0, i6 a1]) w (fun v w' => v = (str r) ∧ Grow w w') := by
 induction mm with
 | zero => intros; rename_i H; exact absurd H (by simp [it])
 | succ mm ih =>
  intro a0 v0 a1 r w h hw f0 tb_pow10 H
  replace H : Zv (it (fun (self : ((List Ta) × Int) → Option ((List UInt8))) (s : (List Ta) × Int) => Zv self s.1 s.2) mm) a0 a1 = some r := H
  generalize it (fun (self : ((List Ta) × Int) → Option ((List UInt8))) (s : (List Ta) × Int) => Zv self s.1 s.2) mm = self at H ih
  refine enter (n := 49) func19 rfl rfl rfl Ys [] (Sat.nil _ _)<|Jc<|Ja<|ag (str [])<|Jd<|Jc<|Ja<|ag (str [])<|Jd<|Jc<|Ja<|mv (i6 a1)<|?_
  obtain ⟨t10, h_t10, H23⟩ := Je H; clear H
  refine Qm (k40 h_t10) call40 rfl rfl rfl<|ag (str t10)<|Jd<|Jc<|Jc<|Ja<|mv v0<|lv (Xw Tryz.underlying41 rfl f0)<|mv (i6 0)<|Jd<|Jp<|?_
  refine Xu (σ := (List UInt8) × Int) (τ := Unit) (fun next1 s => Wy a0 a1 self t10 next1 s.1 s.2) (fun s t => [(1, i6 a1), (5, str s.1), (6, str t10), (11, v0), (12, i6 (a0.l : Int)), (13, i6 s.2)]) (fun s t => []) (fun s t => True) ([], 0) () [] H23 (by exact trivial) (by exact ⟨rfl, rfl, rfl, rfl, rfl, rfl, trivial⟩) (by decide) rfl ?_
  rintro ⟨x5_2, x13_2⟩ _ m1 gg H24 _
  clear H23
  try dsimp only at H24
  generalize hn1 : it (fun next1 s => Wy a0 a1 self t10 next1 s.1 s.2) m1 = next1 at H24
  try dsimp only
  refine Jc<|Ja<|lv (Xk rfl rfl)<|Jd<|Jc<|?_
  revert H24
  refine ci (decide (x13_2 < (a0.l : Int))) rfl (fun hb H25=>?_) fun hb H44=>?_
  ·refine Jh ?_
   refine Qe (r := r) (σ := (List UInt8)) (τ := Unit) (fun s => Jcs x13_2 next1 s) (fun s t => [(1, i6 a1), (5, str s), (6, str t10), (11, v0), (12, i6 (a0.l : Int)), (13, i6 x13_2)]) (fun s t => []) (fun s t => True) ?_ ?_
   ·refine Jp<|Jc<|Ja<|?_
    obtain ⟨t15, h_t15, H28⟩ := Je H25; clear H25
    refine lv (Q7 Tryz.underlying41 Tryz.sizeOf83 rfl rfl f0.frs (f0.ix h_t15))<|Qf (fun w hF hS => Yl (f := (elC h v0 6)) (i := x13_2) (sz := 6) (j := 0) (vs := [i6 t15.Tag, i6 t15.Value.kad, str t15.Value.kae, (Qq h v0 6 (Int.toNat x13_2) 3), (Qq h v0 6 (Int.toNat x13_2) 4), (Qq h v0 6 (Int.toNat x13_2) 5)]) isAgg83 Tryz.sizeOf83 rfl rfl (f0.frs.row (hw.now hF)) (f0.ix h_t15) (rd_of (Zt (f0.at h_t15)) rfl)) rfl rfl rfl<|?_
    refine Xi (cs := [i6 0, i6 0, str [], z0s, z0s, z0s]) zeroValue83 rfl rfl rfl (fun b1 => ?_)
    refine Qu (i := 0) (vs := [i6 t15.Tag, i6 t15.Value.kad, str t15.Value.kae, (Qq h v0 6 (Int.toNat x13_2) 3), (Qq h v0 6 (Int.toNat x13_2) 4), (Qq h v0 6 (Int.toNat x13_2) 5)]) (cs' := [i6 t15.Tag, i6 t15.Value.kad, str t15.Value.kae, (Qq h v0 6 (Int.toNat x13_2) 3), (Qq h v0 6 (Int.toNat x13_2) 4), (Qq h v0 6 (Int.toNat x13_2) 5)]) Tryz.sizeOf83 rfl rfl rfl rfl rfl rfl (by simp only [List.all_cons, List.all_nil, (show FrN h 6 (Qq h v0 6 (Int.toNat x13_2) 5) g_tag_Entry t15.Value.kab from (J6 (Jj (f0.at h_t15)))).one, (show FrS h 1 (Qq h v0 6 (Int.toNat x13_2) 3) (t15.Value.kaf.map Qz) from (Qi (Jj (f0.at h_t15)))).one, (show FrS h 2 (Qq h v0 6 (Int.toNat x13_2) 4) (t15.Value.kac.map Jl) from (Qj (Jj (f0.at h_t15)))).one] <;> rfl) rfl rfl<|Jd<|Jc<|Ja<|mv (str x5_2)<|mv (str t10)<|lf Tryz.runUnderlying83 rfl Tryz.sizeOf3 rfl<|ll 0 (i6 t15.Tag) Tryz.isAgg3<|?_
    obtain ⟨t21, h_t21, H29⟩ := Je H28; clear H28
    refine Qt (fun w hF hS => k41 (Ju w) (tb_pow10.mono (hw.now hF)) h_t21) call41 rfl rfl rfl ?_
    obtain ⟨t22, h_t22, H30⟩ := Je H29; clear H29
    refine lv (Qw rfl rfl h_t22) ?_
    obtain ⟨t23, h_t23, H31⟩ := Je H30; clear H30
    refine lv (Qw rfl rfl h_t23) ?_
    obtain ⟨t24, h_t24, H32⟩ := Je H31; clear H31
    refine lv (Qw rfl rfl h_t24)<|ag (str t24)<|Jd<|Jc<|Jc<|Ja<|lf Tryz.runUnderlying83 rfl Tryz.sizeOf81 rfl<|lf Tryz.runUnderlying81 rfl Tryz.sizeOf3 rfl<|ll 0 (i6 t15.Value.kad) Tryz.isAgg3<|lv (Qd rfl rfl)<|Jd<|?_
    revert H32
    refine ci (decide (t15.Value.kad = 13)) rfl (fun hb H33=>?_) fun hb H40=>?_
    ·refine Jc<|Ja<|mv (str t24)<|lf Tryz.runUnderlying83 rfl Tryz.sizeOf81 rfl<|lf Tryz.runUnderlying81 rfl Tryz.sizeOf41 rfl<|ll 0 (Qq h v0 6 (Int.toNat x13_2) 5) Tryz.isAgg41<|mv (i6 a1)<|?_
     obtain ⟨t34, h_t34, H34⟩ := Je H33; clear H33
     refine lv (J8 rfl rfl h_t34) ?_
     obtain ⟨t35, h_t35, H35⟩ := Je H34; clear H34
     refine Qt (fun w hF hS => ih (Ju w) ((show FrN h 6 (Qq h v0 6 (Int.toNat x13_2) 5) g_tag_Entry t15.Value.kab from (J6 (Jj (f0.at h_t15)))).mono (hw.now hF)) (tb_pow10.mono (hw.now hF)) h_t35) call19 rfl rfl rfl ?_
     obtain ⟨t36, h_t36, H36⟩ := Je H35; clear H35
     refine lv (Qw rfl rfl h_t36)<|mv (str t10)<|?_
     obtain ⟨t38, h_t38, H37⟩ := Je H36; clear H36
     refine lv (Qw rfl rfl h_t38) ?_
     obtain ⟨t39, h_t39, H38⟩ := Je H37; clear H37
     refine lv (Qw rfl rfl h_t39) ?_
     obtain ⟨t40, h_t40, H39⟩ := Je H38; clear H38
     refine lv (Qw rfl rfl h_t40)<|ag (str t40)<|Jd<|Qp<|?_
     exact cl t40 () 0 [] (by exact ⟨H39, trivial⟩)
    ·refine Jh<|Ja<|mv (str t24)<|lf Tryz.runUnderlying83 rfl Tryz.sizeOf81 rfl<|Q0 (i := 0) (vs := [i6 t15.Value.kad, str t15.Value.kae, (Qq h v0 6 (Int.toNat x13_2) 3), (Qq h v0 6 (Int.toNat x13_2) 4), (Qq h v0 6 (Int.toNat x13_2) 5)]) Tryz.isAgg81 Tryz.sizeOf81 rfl rfl rfl rfl rfl<|?_
     obtain ⟨t44, h_t44, H41⟩ := Je H40; clear H40
     refine Qt (fun w hF hS => k42 (Ju w) ((show FrS h 1 (Qq h v0 6 (Int.toNat x13_2) 3) (t15.Value.kaf.map Qz) from (Qi (Jj (f0.at h_t15)))).mono (hw.now hF)) ((show FrS h 2 (Qq h v0 6 (Int.toNat x13_2) 4) (t15.Value.kac.map Jl) from (Qj (Jj (f0.at h_t15)))).mono (hw.now hF)) ((show FrN h 6 (Qq h v0 6 (Int.toNat x13_2) 5) g_tag_Entry t15.Value.kab from (J6 (Jj (f0.at h_t15)))).mono (hw.now hF)) (tb_pow10.mono (hw.now hF)) h_t44) call42 rfl rfl rfl ?_
     obtain ⟨t45, h_t45, H42⟩ := Je H41; clear H41
     refine lv (Qw rfl rfl h_t45) ?_
     obtain ⟨t46, h_t46, H43⟩ := Je H42; clear H42
     refine lv (Qw rfl rfl h_t46)<|ag (str t46)<|Jd<|?_
     exact cl t46 () 0 [] (by exact ⟨H43, trivial⟩)
   ·rintro x5_3 _ gg H26 _
    try dsimp only at H26
    try dsimp only
    refine Ja ?_
    obtain ⟨t47, h_t47, H27⟩ := Je H26; clear H26
    refine lv (J8 rfl rfl h_t47)<|mv (i6 t47)<|Jd<|?_
    exact cl (x5_3, t47) () m1 [] (by exact ⟨(by subst hn1; exact H27), trivial⟩)
  ·refine Qp<|Jc<|Ja<|mv (str x5_2)<|ag (str x5_2)<|Jd<|Ji<|?_
   obtain rfl := sj H44
   exact r1 (str x5_2)
theorem k19 {a0 : (List Ta)} {v0 : Value} {a1 : Int} {r : (List UInt8)} {w : World} {h : Jw} (hw : Know h w Ys) (f0 : FrN h 6 v0 g_tag_Entry a0) (tb_pow10 : TabH prog h "internal/strconv.uint64pow10" .u64 Lib.pow10Tab) (H : Ji0 a0 a1 = some r) : Does prog 19 (List.toArray [v0, i6 a1]) w (fun v w' => v = (str r) ∧ Grow w w') := by
 obtain ⟨mm, hm⟩ := Jfz (show Yz (fun (self : ((List Ta) × Int) → Option ((List UInt8))) (s : (List Ta) × Int) => Zv self s.1 s.2) (a0, a1) = some r from H)
 exact k19_it mm hw f0 tb_pow10 hm
theorem k6 {a0 : Td} {v0_1 : Value} {r : (List UInt8)} {w : World} {h : Jw} (hw : Know h w Ys) (f0_1 : FrN h 1 v0_1 gs_tag_Entry a0.kag) (tb_pow10 : TabH prog h "internal/strconv.uint64pow10" .u64 Lib.pow10Tab) (H : Jf0 a0 = some r) : Does prog 6 (List.toArray [.agg #[.bool a0.Big, v0_1]]) w (fun v w' => v = (str r) ∧ Grow w w') := by
 refine enter (n := 22) func6 rfl rfl rfl Ys [] (Sat.nil _ _)<|Jc<|Ja<|?_
 refine Vv (cs := [.bool a0.Big, v0_1]) rfl rfl rfl rfl (fun b1 => ?_)
 refine ag (str [])<|Jd<|Jc<|Ja<|ag (str [108, 105, 116, 116, 108, 101, 10])<|Jd<|?_
 refine Qe (r := r) (σ := (List UInt8)) (τ := Unit) (fun s => Jby a0 s) (fun s t => [(1, pz b1), (3, str s)]) (fun s t => [Jn b1 [.bool a0.Big, v0_1] 24]) (fun s t => True) ?_ ?_
 ·refine Jc<|Ja<|lf Tryz.runUnderlying24 rfl sizeOf4 rfl<|ll 0 (.bool a0.Big) isAgg4<|Jd<|?_
  revert H
  refine ci (a0.Big) rfl (fun hb H21=>?_) fun hb H22=>?_
  ·refine Ja<|ag (str [98, 105, 103, 10])<|Jd<|?_
   exact cl [98, 105, 103, 10] () 0 [0] (by exact ⟨H21, trivial⟩)
  ·refine Jh ?_
   exact cl [108, 105, 116, 116, 108, 101, 10] () 0 [0] (by exact ⟨H22, trivial⟩)
 ·rintro x3 _ gg H12 _
  try dsimp only at H12
  try dsimp only
  refine Jc<|Jc<|Ja<|lf Tryz.runUnderlying24 rfl sizeOf22 rfl<|ll 0 v0_1 isAgg22<|lv (Xw Tryz.underlying22 rfl f0_1)<|mv (i6 0)<|Jd<|Jp<|Ur 0<|?_
  try dsimp only [z1, z2, z3, z4, z5, z6, z7, z8]
  refine Xu (σ := (List UInt8) × Int) (τ := Unit) (fun next2 s => Vy a0 next2 s.1 s.2) (fun s t => [(3, str s.1), (9, v0_1), (10, i6 (a0.kag.l : Int)), (11, i6 s.2)]) (fun s t => []) (fun s t => True) (x3, 0) () [] H12 (by exact trivial) (by exact ⟨rfl, rfl, rfl, rfl, trivial⟩) (by decide) rfl ?_
  rintro ⟨x3_3, x11_2⟩ _ m2 gg H13 _
  clear H12
  try dsimp only at H13
  generalize hn2 : it (fun next2 s => Vy a0 next2 s.1 s.2) m2 = next2 at H13
  try dsimp only
  refine Jc<|Ja<|lv (Xk rfl rfl)<|Jd<|Jc<|?_
  revert H13
  refine ci (decide (x11_2 < (a0.kag.l : Int))) rfl (fun hb H14=>?_) fun hb H20=>?_
  ·refine Jh<|Jc<|Jp<|Jc<|Ja<|?_
   obtain ⟨t13, h_t13, H15⟩ := Je H14; clear H14
   refine lv (Q7 Tryz.underlying22 Tryz.sizeOf41 rfl rfl f0_1.frs (f0_1.ix h_t13))<|Qf (fun w hF hS => Qb (f := (elC h v0_1 1)) (i := x11_2) (sz := 1) (j := 0) (v := (Qq h v0_1 1 (Int.toNat x11_2) 0)) Tryz.isAgg41 rfl rfl (f0_1.frs.row (hw.now hF)) (f0_1.ix h_t13) (Jgi (Vd (f0_1.at h_t13)) rfl)) rfl rfl rfl<|ag ((Qq h v0_1 1 (Int.toNat x11_2) 0))<|Jd<|Ja<|mv (str x3_3)<|mv ((Qq h v0_1 1 (Int.toNat x11_2) 0))<|?_
   obtain ⟨t17, h_t17, H16⟩ := Je H15; clear H15
   refine Qt (fun w hF hS => k19 (Ju w) ((show FrN h 6 (Qq h v0_1 1 (Int.toNat x11_2) 0) g_tag_Entry t13 from (f0_1.at h_t13)).mono (hw.now hF)) (tb_pow10.mono (hw.now hF)) h_t17) call19 rfl rfl rfl ?_
   obtain ⟨t18, h_t18, H17⟩ := Je H16; clear H16
   refine lv (Qw rfl rfl h_t18) ?_
   obtain ⟨t19, h_t19, H18⟩ := Je H17; clear H17
   refine lv (Qw rfl rfl h_t19)<|ag (str t19)<|Jd<|Ja<|?_
   obtain ⟨t20, h_t20, H19⟩ := Je H18; clear H18
   refine lv (J8 rfl rfl h_t20)<|mv (i6 t20)<|Jd<|?_
   exact cl (t19, t20) () m2 [] (by exact ⟨(by subst hn2; exact H19), trivial⟩)
  ·refine Qp<|Jc<|Ja<|mv (str x3_3)<|ag (str x3_3)<|Jd<|Ji<|?_
   obtain rfl := sj H20
   exact r1 (str x3_3)
theorem ext83 (x : Value) (w : World) : (callFunc 83 (List.toArray [x])).run prog w = .ok (.value x) w := by
  have h0 : (callFunc 83 #[x]).run prog w = (do pure (.value (← Extern.AbiNoEscape.same #[x])) : Sem Next).run prog w := by kernel_rfl
  rw [h0]; rfl
theorem k43 {pb0 : Nat} {q sl : Value} {w : World} {S : Nat → Prop} (hcs : (Jn pb0 [q, sl] 47).P S w) (hlt : ∀ b, S b → b < w.heap.size) (hq : q = .pointer none ∨ q = pz pb0) : Does prog 43 (List.toArray [pz pb0]) w (fun v w' => ∃ x : Unit, v = .tuple #[] ∧ Turn w w' S (Jn pb0 [pz pb0, sl] 47)) := by
  refine enter (n := 20) func43 rfl rfl rfl S [Jn pb0 [q, sl] 47] (Sat.one hcs hlt)<|Jc<|Ja<|mv (pz pb0)<|lv (Jm rfl)<|lf Tryz.runUnderlying47 rfl sizeOf44 rfl<|ll 0 q isAgg44<|?_
  rcases hq with rfl | rfl
  · refine Jf rfl rfl rfl (r_nilP (a := none) underlying44 rfl rfl) ?_
    refine Jd<|Yc rfl<|Ja<|mv (pz pb0)<|mv (pz pb0)<|Qf (fun w hF hS => run_toU (cs := [.pointer none, sl]) (T := 47) underlying44 underlying145 (Xv typeInfo47) (by decide) (Ut (i := 0) hS rfl) rfl rfl) rfl rfl rfl<|lv (r_ext (args := [pz pb0]) (ext83 _) rfl)<|Qf (fun w hF hS => run_fromU (cs := [.pointer none, sl]) (T := 47) underlying145 underlying44 (Xv typeInfo47) (Ut (i := 0) hS rfl) (by kernel_rfl) rfl) rfl rfl rfl<|lv (Jm rfl)<|lf Tryz.runUnderlying47 rfl sizeOf44 rfl<|st (i := 0) [pz pb0] [pz pb0, sl] sizeOf44 rfl rfl<|Jd<|?_
    exact ret0n rfl (Yg () (i := 0) rfl rfl (Imp.refl _))
  · refine Jf rfl rfl rfl (r_nilP (a := some ⟨pb0, 0, none⟩) underlying44 rfl rfl) ?_
    refine Jd<|Zc rfl<|Jc<|Ja<|mv (pz pb0)<|lv (Jm rfl)<|lf Tryz.runUnderlying47 rfl sizeOf44 rfl<|ll 0 (pz pb0) isAgg44<|mv (pz pb0)<|lv (r_sameP underlying44 (Xv typeInfo47) rfl rfl)<|Jd<|Zc rfl<|Jh<|?_
    exact ret0n rfl (Yg () (i := 0) rfl rfl (Imp.refl _))
theorem k20 {a0 : List UInt8} {pb0 : Nat} {a1 r : List UInt8} {w : World} {h : Jw} {S : Nat → Prop} (hcs : (U5 pb0 47 5 a0).P S w) (hlt : ∀ b, S b → b < w.heap.size) (hw : Know h w S) (H : gBld a0 a1 = some r) : Does prog 20 (List.toArray [pz pb0, str a1]) w (fun v w' => ∃ x : Unit, v = .tuple #[i6 (a1.l : Int), .nilIface] ∧ Turn w w' S (U5 pb0 47 5 r)) := by
  obtain ⟨rfl, hne, hbl⟩ := gBld_some H
  have hg : gApL 1 (Xa a0) (Xa a1) = some (Xa (a0 ++ a1)) := by rw [gApL_ok (by simp [Xa]; omega)]; simp [Xa]
  refine enter (n := 19) func20 rfl rfl rfl S [U5 pb0 47 5 a0] (Sat.one hcs hlt) ?_
  refine c_bld 0 rfl (fun q p hq hp => ?_)
  refine Xo 0 rfl<|Jc<|Ja<|ag (i6 0)<|ag (.nilIface)<|Jd<|Jc<|Ja<|mv (pz pb0)<|?_
  refine Q1 (Qa (i := 0) (rds := []) (G := fun _ : Unit => .tuple #[]) (C := fun _ => Jn pb0 [pz pb0, sl p (Xa a0).length] 47) rfl (fun w L' S hF hS hi hp' hlt ho hA => k43 hp' hlt hq) call43 rfl) rfl rfl rfl (fun _ => ?_)
  refine Jd<|Jc<|Ja<|mv (pz pb0)<|mv (pz pb0)<|lv (Jm rfl)<|lf Tryz.runUnderlying47 rfl sizeOf45 rfl<|ll 0 (sl p (Xa a0).length) isAgg45<|mv (str a1)<|?_
  refine Q1 (turns_strG (i := 1) (rds := []) (f := e8) rfl Tryz.underlying45 Tryz.underlying9 (Xv typeInfo5) rfl rfl rfl rfl rfl rfl (fun _ => rfl) hg) rfl rfl rfl (fun p2 => ?_)
  refine lv (Jm rfl)<|lf Tryz.runUnderlying47 rfl sizeOf45 rfl<|st (i := 0) [sl p2 (Xa (a0 ++ a1)).length] [pz pb0, sl p2 (Xa (a0 ++ a1)).length] sizeOf45 rfl rfl<|Jd<|Jc<|Ja<|mv (str a1)<|lv (Xc Tryz.underlying9 rfl)<|ag (i6 (a1.l : Int))<|ag (.nilIface)<|Jd<|Ji<|bo 0 1 rfl rfl<|?_
  exact Wh rfl rfl rfl (Yg () (i := 0) rfl rfl (imp_bld (by simp [hne])))
theorem k23 {a0 : List UInt8} {pb0 : Nat}  {w : World} {h : Jw} {S : Nat → Prop} (hcs : (U5 pb0 47 5 a0).P S w) (hlt : ∀ b, S b → b < w.heap.size) (hw : Know h w S)  : Does prog 23 (List.toArray [pz pb0]) w (fun v w' => ∃ x : Unit, v = str a0 ∧ Turn w w' S empC) := by
  refine enter (n := 14) func23 rfl rfl rfl S [U5 pb0 47 5 a0] (Sat.one hcs hlt) ?_
  refine c_bld 0 rfl (fun q p hq hp => ?_)
  refine Xo 0 rfl<|Jc<|Ja<|ag (str [])<|Jd<|Jc<|?_
  exact Qv (Kd.p :: Kd.p :: Kd.p :: Kd.d [0] _ :: Kd.p :: Kd.p :: Kd.p :: Kd.p :: Kd.d [0] _ :: Kd.p :: Kd.t 1 [] _ _ :: Kd.p :: []) 0 mixed (by
    refine dm (pz pb0)<|dv (Jm rfl)<|dv (Jr Tryz.runUnderlying47 rfl sizeOf45 rfl rfl)<|dl (sl p (Xa a0).length) isAgg45<|dv (r_ssd hp rfl)<|dm (pz pb0)<|dv (Jm rfl)<|dv (Jr Tryz.runUnderlying47 rfl sizeOf45 rfl rfl)<|dl (sl p (Xa a0).length) isAgg45<|dv (Wl Tryz.underlying45 rfl)<|?_
    refine Jgf (Cv := fun _ => empC) () (turns_ustr (i := 1) (bs := a0) (p := p) underlying94 (by kernel_rfl) rfl rfl rfl) (fun _ => rfl) rfl rfl (fun _ => ?_)
    refine Jq rfl rfl (Jg (v := str a0) rfl)<|X6<|Ji<|?_
    exact Ja1 rfl rfl (Yg () (i := 1) rfl rfl (Imp.refl _))
  ) (by kernel_rfl)
theorem k125 {a0 : List UInt8} {pb0 : Nat} {a1 : Int} {r : List UInt8} {w : World} {h : Jw} {S : Nat → Prop} (hcs : (U5 pb0 47 5 a0).P S w) (hlt : ∀ b, S b → b < w.heap.size) (hw : Know h w S) (H : gBldB a0 a1 = some r) : Does prog 125 (List.toArray [pz pb0, .int .u8 a1]) w (fun v w' => ∃ x : Unit, v = .nilIface ∧ Turn w w' S (U5 pb0 47 5 r)) := by
  obtain ⟨rfl, h0, h1, hbl⟩ := gBldB_some H
  have ha : Xa (a0 ++ [UInt8.ofNat a1.toNat]) = Xa a0 ++ [a1] := ofStr_snoc a0 h0 h1
  have hg : Wz 1 (Xa a0) [a1] = some (Xa (a0 ++ [UInt8.ofNat a1.toNat])) := by rw [Yk (by simp [Xa]; omega), ha]
  refine enter (n := 17) func125 rfl rfl rfl S [U5 pb0 47 5 a0] (Sat.one hcs hlt) ?_
  refine c_bld 0 rfl (fun q p hq hp => ?_)
  refine Xo 0 rfl<|Jc<|Ja<|ag (.nilIface)<|Jd<|Jc<|Ja<|mv (pz pb0)<|?_
  refine Q1 (Qa (i := 0) (rds := []) (G := fun _ : Unit => .tuple #[]) (C := fun _ => Jn pb0 [pz pb0, sl p (Xa a0).length] 47) rfl (fun w L' S hF hS hi hp' hlt ho hA => k43 hp' hlt hq) call43 rfl) rfl rfl rfl (fun _ => ?_)
  refine Jd<|Jc<|Ja<|mv (pz pb0)<|mv (pz pb0)<|lv (Jm rfl)<|lf Tryz.runUnderlying47 rfl sizeOf45 rfl<|ll 0 (sl p (Xa a0).length) isAgg45<|mv (.int .u8 a1)<|?_
  refine Q9 (vs := [.int .u8 a1]) (cs := [.int .u8 a1]) Tryz.underlying45 sizeOf5 zeroValue5 rfl rfl rfl rfl rfl rfl rfl (fun b0 => ?_)
  refine Q1 (Y0 (i := 1) (hn := rfl) (rds := [2]) (p := p) (sz := 1) (by_ := 1) (f := e8) (ys := Xa a0) (ls := [a1]) (V := .slice (some ⟨b0, 0, none⟩) 1 1) Tryz.underlying45 (Xv typeInfo5) rfl rfl rfl rfl rfl rfl rfl rfl rfl rfl (fun w L' hF hS hi => W8 (i := 2) hS ((hi 2 (by simp)).trans rfl) rfl rfl) (fun _ => rfl) (fun _ => rfl) hg) rfl rfl rfl (fun p2 => ?_)
  refine lv (Jm rfl)<|lf Tryz.runUnderlying47 rfl sizeOf45 rfl<|st (i := 0) [sl p2 (Xa (a0 ++ [UInt8.ofNat a1.toNat])).length] [pz pb0, sl p2 (Xa (a0 ++ [UInt8.ofNat a1.toNat])).length] sizeOf45 rfl rfl<|Jd<|Jc<|Ja<|ag (.nilIface)<|Jd<|Ji<|bo 0 1 rfl rfl<|?_
  exact Ja1 (v := .nilIface) rfl rfl (Yg () (i := 0) rfl rfl (imp_bld (by simp)))
theorem k85 {a0 : (List UInt8)} {r : (List UInt8)} (H : Jji a0 = some r) : Ret prog 85 [str a0] (str r) := by
 refine Qr (n := 24) func85 rfl rfl rfl (fun wd => ?_)
 refine Jc<|Ja<|ag (str [])<|Jd<|Jc<|Ja<|?_
 refine Xi (cs := [.pointer none, z0s]) zeroValue47 rfl rfl rfl (fun b1 => ?_)
 refine J1 0 rfl (Jjp _ _ 5)<|Jd<|?_
 refine Qe (r := r) (σ := (List UInt8)) (τ := Unit) (fun s => Jho s) (fun s t => [(3, pz b1)]) (fun s t => [U5 b1 47 5 s]) (fun s t => True) ?_ ?_
 ·refine Jc<|Ja<|mv (str a0)<|lv (Xc Tryz.underlying9 rfl)<|mv (i6 0)<|Jd<|Jp<|?_
  refine Xu (σ := Int × (List UInt8)) (τ := Unit) (fun next2 s => Ja6 a0 next2 s.1 s.2) (fun s t => [(0, str a0), (3, pz b1), (6, i6 (a0.l : Int)), (7, i6 s.1)]) (fun s t => [U5 b1 47 5 s.2]) (fun s t => True) (0, []) () [0] H (by exact trivial) (by exact ⟨rfl, rfl, rfl, rfl, trivial⟩) (by decide) rfl ?_
  rintro ⟨x7_2, m_3⟩ _ m2 gg H14 _
  clear H
  try dsimp only at H14
  generalize hn2 : it (fun next2 s => Ja6 a0 next2 s.1 s.2) m2 = next2 at H14
  try dsimp only
  refine Jc<|Ja<|lv (Xk rfl rfl)<|Jd<|Jc<|?_
  revert H14
  refine ci (decide (x7_2 < (a0.l : Int))) rfl (fun hb H15=>?_) fun hb H24=>?_
  ·refine Jh<|Jc<|Jp<|Jc<|Ja<|mv (i6 x7_2)<|ag (i6 x7_2)<|Jd<|Jc<|Ja<|mv (str a0)<|mv (i6 x7_2)<|?_
   obtain ⟨t12, h_t12, H16⟩ := Je H15; clear H15
   refine lv (Zs Tryz.underlying9 rfl rfl h_t12) ?_
   obtain ⟨t13, h_t13, H17⟩ := Je H16; clear H16
   refine lv (r_shrG rfl rfl rfl h_t13) ?_
   obtain ⟨t14, h_t14, H18⟩ := Je H17; clear H17
   refine lv (Zs Tryz.underlying9 rfl rfl h_t14) ?_
   obtain ⟨t15, h_t15, H19⟩ := Je H18; clear H18
   refine Q1 (Qa (i := 0) (rds := []) (G := fun _ : Unit => .nilIface) (C := fun _ => U5 b1 47 5 t15) rfl (fun w L' S hF hS hi hp hlt ho hA => k125 hp hlt (Xm w S) h_t15) call125 rfl) rfl rfl rfl (fun _ => ?_)
   refine Jd<|Ja<|mv (str a0)<|mv (i6 x7_2)<|?_
   obtain ⟨t18, h_t18, H20⟩ := Je H19; clear H19
   refine lv (Zs Tryz.underlying9 rfl rfl h_t18)<|lv (Jgu (bits := 8) rfl rfl rfl (Jg8 _))<|?_
   obtain ⟨t20, h_t20, H21⟩ := Je H20; clear H20
   refine lv (Zs Tryz.underlying9 rfl rfl h_t20) ?_
   obtain ⟨t21, h_t21, H22⟩ := Je H21; clear H21
   refine Q1 (Qa (i := 0) (rds := []) (G := fun _ : Unit => .nilIface) (C := fun _ => U5 b1 47 5 t21) rfl (fun w L' S hF hS hi hp hlt ho hA => k125 hp hlt (Xm w S) h_t21) call125 rfl) rfl rfl rfl (fun _ => ?_)
   refine Jd<|Ja<|?_
   obtain ⟨t22, h_t22, H23⟩ := Je H22; clear H22
   refine lv (J8 rfl rfl h_t22)<|mv (i6 t22)<|Jd<|?_
   exact cl (t22, t21) () m2 [0] (by exact ⟨(by subst hn2; exact H23), trivial⟩)
  ·refine Qp ?_
   exact cl m_3 () 0 [0] (by exact ⟨H24, trivial⟩)
 ·rintro m _ gg H13 _
  try dsimp only at H13
  try dsimp only
  refine Jc<|Ja<|?_
  refine Q1 (Qa (i := 0) (rds := []) (G := fun _ : Unit => str m) (C := fun _ => empC) rfl (fun w L' S hF hS hi hp hlt ho hA => k23 hp hlt (Xm w S)) call23 rfl) rfl rfl rfl (fun _ => ?_)
  refine ag (str m)<|Jd<|Ji<|?_
  obtain rfl := sj H13
  exact r1 (str m)
theorem k44 {a0 : Tb} {v0_2 : Value} {v0_3 : Value} {v0_4 : Value} {r : (List UInt8)} {w : World} {h : Jw} (hw : Know h w Ys) (f0_2 : FrS h 1 v0_2 (a0.kaf.map Qz)) (f0_3 : FrS h 2 v0_3 (a0.kac.map Jl)) (f0_4 : FrN h 6 v0_4 g_tag_Entry a0.kab) (tb_pow10 : TabH prog h "internal/strconv.uint64pow10" .u64 Lib.pow10Tab) (H : Ue a0 = some r) : Does prog 44 (List.toArray [.agg #[i6 a0.kad, str a0.kae, v0_2, v0_3, v0_4]]) w (fun v w' => v = (str r) ∧ Grow w w') := by
 refine enter (n := 55) func44 rfl rfl rfl Ys [] (Sat.nil _ _)<|Jc<|Ja<|?_
 refine Vv (cs := [i6 a0.kad, str a0.kae, v0_2, v0_3, v0_4]) rfl rfl rfl rfl (fun b6 => ?_)
 refine ag (str [])<|Jd<|Jc<|Ja<|lf Tryz.runUnderlying81 rfl Tryz.sizeOf3 rfl<|ll 0 (i6 a0.kad) Tryz.isAgg3<|?_
 obtain ⟨t10, h_t10, H27⟩ := Je H; clear H
 refine Qm (k84 h_t10) call84 rfl rfl rfl ?_
 refine Q9 (vs := [str t10]) (cs := [str t10]) Tryz.underlying31 Tryz.sizeOf9 zeroValue9 rfl rfl rfl rfl rfl rfl rfl (fun b7 => ?_)
 refine ag (.slice (some ⟨b7, 0, none⟩) 1 1)<|Jd<|?_
 refine Qe (r := r) (σ := (List (List UInt8))) (τ := AN × Nat) (fun s => V5 a0 s) (fun s t => [(1, pz b6), (3, .slice t.1.1 t.2 t.1.2)]) (fun s t => [Jn b6 [i6 a0.kad, str a0.kae, v0_2, v0_3, v0_4] 81, J3 9 1 (.slice t.1.1 t.2 t.1.2) t.2 (s.map Jz)]) (fun s t => t.2 = s.l) ?_ ?_
 ·refine Jc<|Ja<|lf Tryz.runUnderlying81 rfl Tryz.sizeOf76 rfl<|ll 0 v0_2 Tryz.isAgg76<|lv (Z8 Tryz.underlying76 rfl f0_2 rfl)<|mv (i6 0)<|Jd<|Jp<|J1 1 rfl (Jh5 (m := 1) (E := 9) (sz := 1) (xs := (([t10] : List (List UInt8))).map Jz) rfl rfl rfl ⟨rfl, by decide⟩)<|?_
  refine Xu (σ := Int × (List (List UInt8))) (τ := AN × Nat) (fun next5 s => Yt a0 next5 s.1 s.2) (fun s t => [(1, pz b6), (3, .slice t.1.1 t.2 t.1.2), (13, v0_2), (14, i6 (a0.kaf.l : Int)), (15, i6 s.1)]) (fun s t => [Jn b6 [i6 a0.kad, str a0.kae, v0_2, v0_3, v0_4] 81, J3 9 1 (.slice t.1.1 t.2 t.1.2) t.2 (s.2.map Jz)]) (fun s t => t.2 = s.2.l) (0, ([t10] : List (List UInt8))) (((some ⟨b7, 0, none⟩, 1) : AN), 1) [0, 1] H27 (by exact rfl) (by exact ⟨rfl, rfl, rfl, rfl, rfl, trivial⟩) (by decide) rfl ?_
  rintro ⟨x15_2, l_7⟩ ⟨p_7, n_5⟩ m5 gg H46 hl_7
  clear H27
  try dsimp only at H46
  generalize hn5 : it (fun next5 s => Yt a0 next5 s.1 s.2) m5 = next5 at H46
  try dsimp only
  refine Jc<|Ja<|lv (Xk rfl rfl)<|Jd<|Jc<|?_
  revert H46
  refine ci (decide (x15_2 < (a0.kaf.l : Int))) rfl (fun hb H47=>?_) fun hb H52=>?_
  ·refine Jh<|Jc<|Jp<|Jc<|Ja<|?_
   obtain ⟨t17, h_t17, H48⟩ := Je H47; clear H47
   refine lv (Q7 Tryz.underlying76 Tryz.sizeOf3 rfl rfl f0_2 h_t17)<|Qf (fun w hF hS => Qb (f := Qz) (i := x15_2) (sz := 1) (j := 0) (v := i6 t17) Tryz.isAgg3 rfl rfl (f0_2.row (hw.now hF)) h_t17 rfl) rfl rfl rfl<|ag (i6 t17)<|Jd<|Ja<|mv (sl p_7 n_5)<|mv (i6 t17)<|?_
   obtain ⟨t21, h_t21, H49⟩ := Je H48; clear H48
   refine Qt (fun w hF hS => k41 (Ju w) (tb_pow10.mono (hw.now hF)) h_t21) call41 rfl rfl rfl ?_
   refine Q9 (vs := [str t21]) (cs := [str t21]) Tryz.underlying31 Tryz.sizeOf9 zeroValue9 rfl rfl rfl rfl rfl rfl rfl (fun b11 => ?_)
   obtain ⟨l23, h_l23, H50⟩ := Je H49; clear H49
   refine Q1 (Y0 (i := 1) (hn := hl_7) (rds := [2]) (p := p_7) (sz := 1) (by_ := 16) (f := Jz) (ys := l_7) (ls := ([t21] : List (List UInt8))) (V := .slice (some ⟨b11, 0, none⟩) 1 1) Tryz.underlying31 (Xv typeInfo9) rfl rfl rfl rfl rfl rfl rfl rfl rfl rfl (fun w L' hF hS hi => W8 (i := 2) hS ((hi 2 (by simp)).trans rfl) rfl rfl) (fun _ => rfl) (fun _ => rfl) h_l23) rfl rfl rfl (fun p_8 => ?_)
   refine ag (sl p_8 l23.l)<|Jd<|Ja<|?_
   obtain ⟨t24, h_t24, H51⟩ := Je H50; clear H50
   refine lv (J8 rfl rfl h_t24)<|mv (i6 t24)<|Jd<|?_
   exact cl (t24, l23) (p_8, l23.l) m5 [0, 1] (by exact ⟨(by subst hn5; exact H51), rfl⟩)
  ·refine Qp ?_
   exact cl l_7 (p_7, n_5) 0 [0, 1] (by exact ⟨H52, hl_7⟩)
 ·rintro l ⟨p, n⟩ gg H28 hl
  try dsimp only at H28
  try dsimp only
  refine Qe (r := r) (σ := (List (List UInt8))) (τ := AN × Nat) (fun s => Z7 a0 s) (fun s t => [(1, pz b6), (3, .slice t.1.1 t.2 t.1.2)]) (fun s t => [Jn b6 [i6 a0.kad, str a0.kae, v0_2, v0_3, v0_4] 81, J3 9 1 (.slice t.1.1 t.2 t.1.2) t.2 (s.map Jz)]) (fun s t => t.2 = s.l) ?_ ?_
  ·refine Jc<|Ja<|lf Tryz.runUnderlying81 rfl Tryz.sizeOf79 rfl<|ll 0 v0_3 Tryz.isAgg79<|lv (Z8 Tryz.underlying79 rfl f0_3 rfl)<|mv (i6 0)<|Jd<|Jp<|?_
   refine Xu (σ := Int × (List (List UInt8))) (τ := AN × Nat) (fun next4 s => Zo a0 next4 s.1 s.2) (fun s t => [(1, pz b6), (3, .slice t.1.1 t.2 t.1.2), (26, v0_3), (27, i6 (a0.kac.l : Int)), (28, i6 s.1)]) (fun s t => [Jn b6 [i6 a0.kad, str a0.kae, v0_2, v0_3, v0_4] 81, J3 9 1 (.slice t.1.1 t.2 t.1.2) t.2 (s.2.map Jz)]) (fun s t => t.2 = s.2.l) (0, l) (p, n) [0, 1] H28 (by exact hl) (by exact ⟨rfl, rfl, rfl, rfl, rfl, trivial⟩) (by decide) rfl ?_
   rintro ⟨x28_2, l_5⟩ ⟨p_5, n_4⟩ m4 gg H36 hl_5
   clear H28
   try dsimp only at H36
   generalize hn4 : it (fun next4 s => Zo a0 next4 s.1 s.2) m4 = next4 at H36
   try dsimp only
   refine Jc<|Ja<|lv (Xk rfl rfl)<|Jd<|Jc<|?_
   revert H36
   refine ci (decide (x28_2 < (a0.kac.l : Int))) rfl (fun hb H37=>?_) fun hb H45=>?_
   ·refine Jh<|Jc<|Jp<|Jc<|Ja<|?_
    obtain ⟨t30, h_t30, H38⟩ := Je H37; clear H37
    refine lv (Q7 Tryz.underlying79 Tryz.sizeOf70 rfl rfl f0_3 h_t30)<|Qf (fun w hF hS => Yl (f := Jl) (i := x28_2) (sz := 2) (j := 0) (vs := [i6 t30.Num, i6 t30.Den]) isAgg70 Tryz.sizeOf70 rfl rfl (f0_3.row (hw.now hF)) h_t30 rfl) rfl rfl rfl<|?_
    refine Xi (cs := [i6 0, i6 0]) zeroValue70 rfl rfl rfl (fun b9 => ?_)
    refine st (i := 2) [i6 t30.Num, i6 t30.Den] [i6 t30.Num, i6 t30.Den] Tryz.sizeOf70 rfl rfl<|Jd<|?_
    try dsimp only [z1,z2,z5,z6,z7,z8]
    exact Qv (Kd.p :: Kd.p :: Kd.d [2] _ :: Kd.d [] _ :: Kd.p :: Kd.p :: Kd.d [2] _ :: Kd.d [] _ :: Kd.p :: Kd.ns 3 [_] 9 1 :: Kd.t 1 [3] _ _ :: Kd.p :: []) 1 mixed (by
     refine dm (sl p_5 n_4)<|dv (Jr Tryz.runUnderlying70 rfl Tryz.sizeOf3 rfl rfl)<|dl (i6 t30.Num) Tryz.isAgg3<|?_
     have h_t35 := J4 H38
     have H39 := J0 H38
     refine Je0 (fun w L' hF hS hi => k41 (Ju w) (tb_pow10.mono (hw.now hF)) h_t35) call41 rfl rfl ?_
     have h_t36 := J4 H39
     have H40 := J0 H39
     refine dv (Qw rfl rfl h_t36)<|dv (Jr Tryz.runUnderlying70 rfl Tryz.sizeOf3 rfl rfl)<|dl (i6 t30.Den) Tryz.isAgg3<|?_
     have h_t39 := J4 H40
     have H41 := J0 H40
     refine Je0 (fun w L' hF hS hi => k41 (Ju w) (tb_pow10.mono (hw.now hF)) h_t39) call41 rfl rfl ?_
     have h_t40 := J4 H41
     have H42 := J0 H41
     refine dv (Qw rfl rfl h_t40) ?_
     refine Jhp rfl rfl (Ve (vs := [str (val (Xh (val (Xh (val (Y8 t30.Num)) [47])) (val (Y8 t30.Den))))]) (cs := [str (val (Xh (val (Xh (val (Y8 t30.Num)) [47])) (val (Y8 t30.Den))))]) Tryz.underlying31 Tryz.sizeOf9 zeroValue9 rfl rfl rfl rfl rfl) rfl (fun b10 => ?_)
     have h_l42 := J4 H42
     have H43 := J0 H42
     refine Jgf (Cv := fun v => J3 9 1 v (val (Wz 16 l_5 ([(val (Xh (val (Xh (val (Y8 t30.Num)) [47])) (val (Y8 t30.Den))))] : List (List UInt8)))).length ((val (Wz 16 l_5 ([(val (Xh (val (Xh (val (Y8 t30.Num)) [47])) (val (Y8 t30.Den))))] : List (List UInt8)))).map Jz)) (none, 0) (Y0 (i := 1) (hn := hl_5) (rds := [3]) (p := p_5) (sz := 1) (by_ := 16) (f := Jz) (ys := l_5) (ls := ([(val (Xh (val (Xh (val (Y8 t30.Num)) [47])) (val (Y8 t30.Den))))] : List (List UInt8))) (V := .slice (some ⟨b10, 0, none⟩) 1 1) Tryz.underlying31 (Xv typeInfo9) rfl rfl rfl rfl rfl rfl rfl rfl rfl rfl (fun w L' hF hS hi => W8 (i := 3) hS ((hi 3 (by simp)).trans rfl) rfl rfl) (fun _ => rfl) (fun _ => rfl) h_l42) (fun _ => rfl) rfl rfl (fun p_6 => ?_)
     refine Jq rfl rfl (Jg (v := .slice p_6.1 (val (Wz 16 l_5 ([(val (Xh (val (Xh (val (Y8 t30.Num)) [47])) (val (Y8 t30.Den))))] : List (List UInt8)))).length p_6.2) rfl)<|X6<|Ja<|?_
     obtain ⟨t43, h_t43, H44⟩ := Je H43; clear H43
     refine lv (J8 rfl rfl h_t43)<|mv (i6 t43)<|Jd<|?_
     exact cl (t43, (val (Wz 16 l_5 ([(val (Xh (val (Xh (val (Y8 t30.Num)) [47])) (val (Y8 t30.Den))))] : List (List UInt8))))) (p_6, (val (Wz 16 l_5 ([(val (Xh (val (Xh (val (Y8 t30.Num)) [47])) (val (Y8 t30.Den))))] : List (List UInt8)))).length) m4 [0, 1] (by exact ⟨(by subst hn4; exact H44), rfl⟩)
     ) (by kernel_rfl)
   ·refine Qp ?_
    exact cl l_5 (p_5, n_4) 0 [0, 1] (by exact ⟨H45, hl_5⟩)
  ·rintro l_2 ⟨p_2, n_2⟩ gg H29 hl_2
   try dsimp only at H29
   try dsimp only
   refine Qe (r := r) (σ := (List (List UInt8))) (τ := AN × Nat) (fun s => V7 s) (fun s t => [(3, .slice t.1.1 t.2 t.1.2)]) (fun s t => [J3 9 1 (.slice t.1.1 t.2 t.1.2) t.2 (s.map Jz)]) (fun s t => t.2 = s.l) ?_ ?_
   ·refine Jc<|Ja<|lf Tryz.runUnderlying81 rfl Tryz.sizeOf9 rfl<|ll 0 (str a0.kae) Tryz.isAgg9<|lv (Ja3 rfl rfl)<|Jd<|?_
    revert H29
    refine ci (decide (a0.kae ≠ [])) rfl (fun hb H32=>?_) fun hb H35=>?_
    ·refine Ja<|mv (sl p_2 n_2)<|lf Tryz.runUnderlying81 rfl Tryz.sizeOf9 rfl<|ll 0 (str a0.kae) Tryz.isAgg9<|?_
     obtain ⟨t50, h_t50, H33⟩ := Je H32; clear H32
     refine Qm (k85 h_t50) call85 rfl rfl rfl ?_
     refine Q9 (vs := [str t50]) (cs := [str t50]) Tryz.underlying31 Tryz.sizeOf9 zeroValue9 rfl rfl rfl rfl rfl rfl rfl (fun b8 => ?_)
     obtain ⟨l52, h_l52, H34⟩ := Je H33; clear H33
     refine Q1 (Y0 (i := 1) (hn := hl_2) (rds := [2]) (p := p_2) (sz := 1) (by_ := 16) (f := Jz) (ys := l_2) (ls := ([t50] : List (List UInt8))) (V := .slice (some ⟨b8, 0, none⟩) 1 1) Tryz.underlying31 (Xv typeInfo9) rfl rfl rfl rfl rfl rfl rfl rfl rfl rfl (fun w L' hF hS hi => W8 (i := 2) hS ((hi 2 (by simp)).trans rfl) rfl rfl) (fun _ => rfl) (fun _ => rfl) h_l52) rfl rfl rfl (fun p_4 => ?_)
     refine ag (sl p_4 l52.l)<|Jd<|?_
     exact cl l52 (p_4, l52.l) 0 [1] (by exact ⟨H34, rfl⟩)
    ·refine Jh ?_
     exact cl l_2 (p_2, n_2) 0 [1] (by exact ⟨H35, hl_2⟩)
   ·rintro l_3 ⟨p_3, n_3⟩ gg H30 hl_3
    try dsimp only at H30
    try dsimp only
    refine Jc<|Ja<|mv (sl p_3 n_3)<|?_
    obtain ⟨t54, h_t54, H31⟩ := Je H30; clear H30
    refine Qt (fun w hF hS => k82 (Ju w) (Jct (i := 0) hl_3 hS rfl) h_t54) call82 rfl rfl rfl<|ag (str t54)<|Jd<|Ji<|?_
    obtain rfl := sj H31
    exact r1 (str t54)
theorem k21_it (mm : Nat) : ∀ {a0 : (List UInt8)} {pb0 : Nat} {a1 : (List Ta)} {v1 : Value} {a2 : (List UInt8)} {r : (List UInt8)} {w : World} {h : Jw} {S : Nat → Prop} (hcs : (U5 pb0 47 5 a0).P S w) (hlt : ∀ b, S b → b < w.heap.size) (hw : Know h w S) (f1 : FrN h 6 v1 g_tag_Entry a1) (tb_pow10 : TabH prog h "internal/strconv.uint64pow10" .u64 Lib.pow10Tab) (H : it (fun (self : ((List UInt8) × (List Ta) × (List UInt8)) → Option ((List UInt8))) (s : (List UInt8) × (List Ta) × (List UInt8)) => Yu self s.1 s.2.1 s.2.2) mm (a0, a1, a2) = some r), Does prog 21 (List.toArray [pz pb0, v1, str a2]) w (fun v w' => ∃ x : Unit, v = (.tuple #[]) ∧ Turn w w' S (U5 pb0 47 5 r)) := by
 induction mm with
 | zero => intros; rename_i H; exact absurd H (by simp [it])
 | succ mm ih =>
  intro a0 pb0 a1 v1 a2 r w h S hcs hlt hw f1 tb_pow10 H
  replace H : Yu (it (fun (self : ((List UInt8) × (List Ta) × (List UInt8)) → Option ((List UInt8))) (s : (List UInt8) × (List Ta) × (List UInt8)) => Yu self s.1 s.2.1 s.2.2) mm) a0 a1 a2 = some r := H
  generalize it (fun (self : ((List UInt8) × (List Ta) × (List UInt8)) → Option ((List UInt8))) (s : (List UInt8) × (List Ta) × (List UInt8)) => Yu self s.1 s.2.1 s.2.2) mm = self at H ih
  refine enter (n := 46) func21 rfl rfl rfl S [U5 pb0 47 5 a0] (Sat.one hcs hlt)<|Jc<|Ja<|mv v1<|lv (Xw Tryz.underlying41 rfl f1)<|mv (i6 0)<|Jd<|Jp<|?_
  refine Xu (σ := Int × (List UInt8)) (τ := Unit) (fun next1 s => Vf a1 a2 self next1 s.1 s.2) (fun s t => [(0, pz pb0), (2, str a2), (8, v1), (9, i6 (a1.l : Int)), (10, i6 s.1)]) (fun s t => [U5 pb0 47 5 s.2]) (fun s t => True) (0, a0) () [0] H (by exact trivial) (by exact ⟨rfl, rfl, rfl, rfl, rfl, trivial⟩) (by decide) rfl ?_
  rintro ⟨x10_2, m_2⟩ _ m1 gg H21 _
  clear H
  try dsimp only at H21
  generalize hn1 : it (fun next1 s => Vf a1 a2 self next1 s.1 s.2) m1 = next1 at H21
  try dsimp only
  refine Jc<|Ja<|lv (Xk rfl rfl)<|Jd<|Jc<|?_
  revert H21
  refine ci (decide (x10_2 < (a1.l : Int))) rfl (fun hb H22=>?_) fun hb H40=>?_
  ·refine Jh ?_
   refine Qe (r := r) (σ := (List UInt8)) (τ := Unit) (fun s => Jbe x10_2 next1 s) (fun s t => [(0, pz pb0), (2, str a2), (8, v1), (9, i6 (a1.l : Int)), (10, i6 x10_2)]) (fun s t => [U5 pb0 47 5 s]) (fun s t => True) ?_ ?_
   ·refine Jp<|Jc<|Ja<|?_
    obtain ⟨t12, h_t12, H25⟩ := Je H22; clear H22
    refine lv (Q7 Tryz.underlying41 Tryz.sizeOf83 rfl rfl f1.frs (f1.ix h_t12))<|Qf (fun w hF hS => Yl (f := (elC h v1 6)) (i := x10_2) (sz := 6) (j := 0) (vs := [i6 t12.Tag, i6 t12.Value.kad, str t12.Value.kae, (Qq h v1 6 (Int.toNat x10_2) 3), (Qq h v1 6 (Int.toNat x10_2) 4), (Qq h v1 6 (Int.toNat x10_2) 5)]) isAgg83 Tryz.sizeOf83 rfl rfl (f1.frs.row (hw.now hF)) (f1.ix h_t12) (rd_of (Zt (f1.at h_t12)) rfl)) rfl rfl rfl<|?_
    refine Xi (cs := [i6 0, i6 0, str [], z0s, z0s, z0s]) zeroValue83 rfl rfl rfl (fun b1 => ?_)
    refine Qu (i := 1) (vs := [i6 t12.Tag, i6 t12.Value.kad, str t12.Value.kae, (Qq h v1 6 (Int.toNat x10_2) 3), (Qq h v1 6 (Int.toNat x10_2) 4), (Qq h v1 6 (Int.toNat x10_2) 5)]) (cs' := [i6 t12.Tag, i6 t12.Value.kad, str t12.Value.kae, (Qq h v1 6 (Int.toNat x10_2) 3), (Qq h v1 6 (Int.toNat x10_2) 4), (Qq h v1 6 (Int.toNat x10_2) 5)]) Tryz.sizeOf83 rfl rfl rfl rfl rfl rfl (by simp only [List.all_cons, List.all_nil, (show FrN h 6 (Qq h v1 6 (Int.toNat x10_2) 5) g_tag_Entry t12.Value.kab from (J6 (Jj (f1.at h_t12)))).one, (show FrS h 1 (Qq h v1 6 (Int.toNat x10_2) 3) (t12.Value.kaf.map Qz) from (Qi (Jj (f1.at h_t12)))).one, (show FrS h 2 (Qq h v1 6 (Int.toNat x10_2) 4) (t12.Value.kac.map Jl) from (Qj (Jj (f1.at h_t12)))).one] <;> rfl) rfl rfl<|Jd<|Jc<|Ja<|mv (pz pb0)<|mv (str a2)<|lf Tryz.runUnderlying83 rfl Tryz.sizeOf3 rfl<|ll 1 (i6 t12.Tag) Tryz.isAgg3<|?_
    obtain ⟨t18, h_t18, H26⟩ := Je H25; clear H25
    refine Qt (fun w hF hS => k41 (Ju w) (tb_pow10.mono (hw.now hF)) h_t18) call41 rfl rfl rfl ?_
    obtain ⟨t19, h_t19, H27⟩ := Je H26; clear H26
    refine lv (Qw rfl rfl h_t19) ?_
    obtain ⟨t20, h_t20, H28⟩ := Je H27; clear H27
    refine lv (Qw rfl rfl h_t20) ?_
    obtain ⟨t21, h_t21, H29⟩ := Je H28; clear H28
    refine Q1 (Qa (i := 0) (rds := []) (G := fun _ : Unit => .tuple #[i6 (t20.l : Int), .nilIface]) (C := fun _ => U5 pb0 47 5 t21) rfl (fun w L' S hF hS hi hp hlt ho hA => k20 hp hlt (Xm w S) h_t21) call20 rfl) rfl rfl rfl (fun _ => ?_)
    refine Jd<|Jc<|Jc<|Ja<|lf Tryz.runUnderlying83 rfl Tryz.sizeOf81 rfl<|lf Tryz.runUnderlying81 rfl Tryz.sizeOf3 rfl<|ll 1 (i6 t12.Value.kad) Tryz.isAgg3<|lv (Vk rfl rfl)<|Jd<|?_
    revert H29
    refine ci (decide (t12.Value.kad ≠ 13)) rfl (fun hb H30=>?_) fun hb H34=>?_
    ·refine Jc<|Ja<|mv (pz pb0)<|lf Tryz.runUnderlying83 rfl Tryz.sizeOf81 rfl<|Q0 (i := 1) (vs := [i6 t12.Value.kad, str t12.Value.kae, (Qq h v1 6 (Int.toNat x10_2) 3), (Qq h v1 6 (Int.toNat x10_2) 4), (Qq h v1 6 (Int.toNat x10_2) 5)]) Tryz.isAgg81 Tryz.sizeOf81 rfl rfl rfl rfl rfl<|?_
     obtain ⟨t29, h_t29, H31⟩ := Je H30; clear H30
     refine Qt (fun w hF hS => k44 (Ju w) ((show FrS h 1 (Qq h v1 6 (Int.toNat x10_2) 3) (t12.Value.kaf.map Qz) from (Qi (Jj (f1.at h_t12)))).mono (hw.now hF)) ((show FrS h 2 (Qq h v1 6 (Int.toNat x10_2) 4) (t12.Value.kac.map Jl) from (Qj (Jj (f1.at h_t12)))).mono (hw.now hF)) ((show FrN h 6 (Qq h v1 6 (Int.toNat x10_2) 5) g_tag_Entry t12.Value.kab from (J6 (Jj (f1.at h_t12)))).mono (hw.now hF)) (tb_pow10.mono (hw.now hF)) h_t29) call44 rfl rfl rfl ?_
     obtain ⟨t30, h_t30, H32⟩ := Je H31; clear H31
     refine lv (Qw rfl rfl h_t30) ?_
     obtain ⟨t31, h_t31, H33⟩ := Je H32; clear H32
     refine Q1 (Qa (i := 0) (rds := []) (G := fun _ : Unit => .tuple #[i6 (t30.l : Int), .nilIface]) (C := fun _ => U5 pb0 47 5 t31) rfl (fun w L' S hF hS hi hp hlt ho hA => k20 hp hlt (Xm w S) h_t31) call20 rfl) rfl rfl rfl (fun _ => ?_)
     refine Jd<|Qp<|?_
     exact cl t31 () 0 [0] (by exact ⟨H33, trivial⟩)
    ·refine Jh<|Jc<|Ja<|mv (pz pb0)<|?_
     obtain ⟨t33, h_t33, H35⟩ := Je H34; clear H34
     refine Q1 (Qa (i := 0) (rds := []) (G := fun _ : Unit => .tuple #[i6 ([123, 10].length : Int), .nilIface]) (C := fun _ => U5 pb0 47 5 t33) rfl (fun w L' S hF hS hi hp hlt ho hA => k20 hp hlt (Xm w S) h_t33) call20 rfl) rfl rfl rfl (fun _ => ?_)
     refine Jd<|Jc<|Ja<|mv (pz pb0)<|lf Tryz.runUnderlying83 rfl Tryz.sizeOf81 rfl<|lf Tryz.runUnderlying81 rfl Tryz.sizeOf41 rfl<|ll 1 (Qq h v1 6 (Int.toNat x10_2) 5) Tryz.isAgg41<|mv (str a2)<|?_
     obtain ⟨t39, h_t39, H36⟩ := Je H35; clear H35
     refine lv (Qw rfl rfl h_t39) ?_
     obtain ⟨t40, h_t40, H37⟩ := Je H36; clear H36
     refine Q1 (Qa (i := 0) (rds := []) (G := fun x : Unit => .tuple #[]) (C := fun x : Unit => U5 pb0 47 5 t40) rfl (fun w L' S hF hS hi hp hlt ho hA => ih hp hlt (Xm w S) ((show FrN h 6 (Qq h v1 6 (Int.toNat x10_2) 5) g_tag_Entry t12.Value.kab from (J6 (Jj (f1.at h_t12)))).mono (hw.but hF ho)) (tb_pow10.mono (hw.but hF ho)) h_t40) call21 rfl) rfl rfl rfl (fun _ => ?_)
     refine Jd<|Ja<|mv (pz pb0)<|mv (str a2)<|?_
     obtain ⟨t43, h_t43, H38⟩ := Je H37; clear H37
     refine lv (Qw rfl rfl h_t43) ?_
     obtain ⟨t44, h_t44, H39⟩ := Je H38; clear H38
     refine Q1 (Qa (i := 0) (rds := []) (G := fun _ : Unit => .tuple #[i6 (t43.l : Int), .nilIface]) (C := fun _ => U5 pb0 47 5 t44) rfl (fun w L' S hF hS hi hp hlt ho hA => k20 hp hlt (Xm w S) h_t44) call20 rfl) rfl rfl rfl (fun _ => ?_)
     refine Jd ?_
     exact cl t44 () 0 [0] (by exact ⟨H39, trivial⟩)
   ·rintro m_3 _ gg H23 _
    try dsimp only at H23
    try dsimp only
    refine Ja ?_
    obtain ⟨t45, h_t45, H24⟩ := Je H23; clear H23
    refine lv (J8 rfl rfl h_t45)<|mv (i6 t45)<|Jd<|?_
    exact cl (t45, m_3) () m1 [0] (by exact ⟨(by subst hn1; exact H24), trivial⟩)
  ·refine Qp ?_
   obtain rfl := sj H40
   refine ret0n rfl (Yg () (i := 0) rfl rfl (Imp.refl _))
theorem k21 {a0 : (List UInt8)} {pb0 : Nat} {a1 : (List Ta)} {v1 : Value} {a2 : (List UInt8)} {r : (List UInt8)} {w : World} {h : Jw} {S : Nat → Prop} (hcs : (U5 pb0 47 5 a0).P S w) (hlt : ∀ b, S b → b < w.heap.size) (hw : Know h w S) (f1 : FrN h 6 v1 g_tag_Entry a1) (tb_pow10 : TabH prog h "internal/strconv.uint64pow10" .u64 Lib.pow10Tab) (H : Jgg a0 a1 a2 = some r) : Does prog 21 (List.toArray [pz pb0, v1, str a2]) w (fun v w' => ∃ x : Unit, v = (.tuple #[]) ∧ Turn w w' S (U5 pb0 47 5 r)) := by
 obtain ⟨mm, hm⟩ := Jfz (show Yz (fun (self : ((List UInt8) × (List Ta) × (List UInt8)) → Option ((List UInt8))) (s : (List UInt8) × (List Ta) × (List UInt8)) => Yu self s.1 s.2.1 s.2.2) (a0, a1, a2) = some r from H)
 exact k21_it mm hcs hlt hw f1 tb_pow10 hm
theorem k22 {a0 : List UInt8} {pb0 : Nat}  {w : World} {h : Jw} {S : Nat → Prop} (hcs : (U5 pb0 47 5 a0).P S w) (hlt : ∀ b, S b → b < w.heap.size) (hw : Know h w S)  : Does prog 22 (List.toArray [pz pb0]) w (fun v w' => ∃ x : Unit, v = i6 (a0.l : Int) ∧ Turn w w' S (U5 pb0 47 5 a0)) := by
  refine enter (n := 8) func22 rfl rfl rfl S [U5 pb0 47 5 a0] (Sat.one hcs hlt) ?_
  refine c_bld 0 rfl (fun q p hq hp => ?_)
  refine Xo 0 rfl<|Jc<|Ja<|ag (i6 0)<|Jd<|Jc<|Ja<|mv (pz pb0)<|lv (Jm rfl)<|lf Tryz.runUnderlying47 rfl sizeOf45 rfl<|ll 0 (sl p (Xa a0).length) isAgg45<|lv (Wl Tryz.underlying45 rfl)<|ag (i6 ((Xa a0).length : Int))<|Jd<|Ji<|bo 0 1 rfl rfl<|?_
  exact Ja1 (v := i6 ((Xa a0).length : Int)) rfl rfl (Yg () (i := 0) rfl (by simp [Xa]) (imp_bldQ hq hp))
theorem k7 {a0 : Td} {v0_1 : Value} {r : (List UInt8) × Int} {w : World} {h : Jw} (hw : Know h w Ys) (f0_1 : FrN h 1 v0_1 gs_tag_Entry a0.kag) (tb_pow10 : TabH prog h "internal/strconv.uint64pow10" .u64 Lib.pow10Tab) (H : Jek a0 = some r) : Does prog 7 (List.toArray [.agg #[.bool a0.Big, v0_1]]) w (fun v w' => v = (.tuple #[str r.1, i6 r.2]) ∧ Grow w w') := by
 refine enter (n := 31) func7 rfl rfl rfl Ys [] (Sat.nil _ _)<|Jc<|Ja<|?_
 refine Vv (cs := [.bool a0.Big, v0_1]) rfl rfl rfl rfl (fun b2 => ?_)
 refine ag (str [])<|ag (i6 0)<|Jd<|Jc<|Jc<|Ja<|Q0 (i := 0) (vs := [.bool a0.Big, v0_1]) isAgg24 Tryz.sizeOf24 rfl rfl rfl rfl rfl<|?_
 obtain ⟨t9, h_t9, H19⟩ := Je H; clear H
 refine Qt (fun w hF hS => k15 (Ju w) (f0_1.mono (hw.now hF)) h_t9) call15 rfl rfl rfl<|ag (i6 t9)<|Jd<|Jc<|Ja<|mv (i6 t9)<|lv (Vk rfl rfl)<|Jd<|?_
 revert H19
 refine ci (decide (t9 ≠ 0)) rfl (fun hb H20=>?_) fun hb H21=>?_
 ·refine Jc<|Ja<|mv (i6 t9)<|ag (str [])<|ag (i6 t9)<|Jd<|Ji<|?_
  obtain rfl := sj H20
  refine Wh (v1 := str []) (v2 := i6 t9) rfl rfl rfl (fin rfl)
 ·refine Jh<|Jc<|Ja<|?_
  refine Xi (cs := [.pointer none, z0s]) zeroValue47 rfl rfl rfl (fun b3 => ?_)
  refine J1 1 rfl (Jjp _ _ 5)<|Jd<|?_
  refine Qe (r := r) (σ := (List UInt8)) (τ := Unit) (fun s => Jdl a0 s) (fun s t => [(1, pz b2), (5, pz b3)]) (fun s t => [Jn b2 [.bool a0.Big, v0_1] 24, U5 b3 47 5 s]) (fun s t => True) ?_ ?_
  ·refine Jc<|Ja<|lf Tryz.runUnderlying24 rfl sizeOf4 rfl<|ll 0 (.bool a0.Big) isAgg4<|Jd<|?_
   revert H21
   refine ci (a0.Big) rfl (fun hb H33=>?_) fun hb H35=>?_
   ·refine Ja ?_
    obtain ⟨t15, h_t15, H34⟩ := Je H33; clear H33
    refine Q1 (Qa (i := 1) (rds := []) (G := fun _ : Unit => .tuple #[i6 ([98, 105, 103, 10].length : Int), .nilIface]) (C := fun _ => U5 b3 47 5 t15) rfl (fun w L' S hF hS hi hp hlt ho hA => k20 hp hlt (Xm w S) h_t15) call20 rfl) rfl rfl rfl (fun _ => ?_)
    refine Jd ?_
    exact cl t15 () 0 [0, 1] (by exact ⟨H34, trivial⟩)
   ·refine Ja ?_
    obtain ⟨t16, h_t16, H36⟩ := Je H35; clear H35
    refine Q1 (Qa (i := 1) (rds := []) (G := fun _ : Unit => .tuple #[i6 ([108, 105, 116, 116, 108, 101, 10].length : Int), .nilIface]) (C := fun _ => U5 b3 47 5 t16) rfl (fun w L' S hF hS hi hp hlt ho hA => k20 hp hlt (Xm w S) h_t16) call20 rfl) rfl rfl rfl (fun _ => ?_)
    refine Jd ?_
    exact cl t16 () 0 [0, 1] (by exact ⟨H36, trivial⟩)
  ·rintro m _ gg H22 _
   try dsimp only at H22
   try dsimp only
   refine Qe (r := r) (σ := (List UInt8)) (τ := Unit) (fun s => Jcg s) (fun s t => [(5, pz b3)]) (fun s t => [U5 b3 47 5 s]) (fun s t => True) ?_ ?_
   ·refine Jc<|Ja<|lf Tryz.runUnderlying24 rfl sizeOf22 rfl<|ll 0 v0_1 isAgg22<|lv (Xw Tryz.underlying22 rfl f0_1)<|mv (i6 0)<|Jd<|Jp<|Ur 0<|?_
    try dsimp only [z1, z2, z3, z4, z5, z6, z7, z8]
    refine Xu (σ := Int × (List UInt8)) (τ := Unit) (fun next3 s => U0 a0 next3 s.1 s.2) (fun s t => [(5, pz b3), (18, v0_1), (19, i6 (a0.kag.l : Int)), (20, i6 s.1)]) (fun s t => [U5 b3 47 5 s.2]) (fun s t => True) (0, m) () [0] H22 (by exact trivial) (by exact ⟨rfl, rfl, rfl, rfl, trivial⟩) (by decide) rfl ?_
    rintro ⟨x20_2, m_4⟩ _ m3 gg H26 _
    clear H22
    try dsimp only at H26
    generalize hn3 : it (fun next3 s => U0 a0 next3 s.1 s.2) m3 = next3 at H26
    try dsimp only
    refine Jc<|Ja<|lv (Xk rfl rfl)<|Jd<|Jc<|?_
    revert H26
    refine ci (decide (x20_2 < (a0.kag.l : Int))) rfl (fun hb H27=>?_) fun hb H32=>?_
    ·refine Jh<|Jc<|Jp<|Jc<|Ja<|?_
     obtain ⟨t22, h_t22, H28⟩ := Je H27; clear H27
     refine lv (Q7 Tryz.underlying22 Tryz.sizeOf41 rfl rfl f0_1.frs (f0_1.ix h_t22))<|Qf (fun w hF hS => Qb (f := (elC h v0_1 1)) (i := x20_2) (sz := 1) (j := 0) (v := (Qq h v0_1 1 (Int.toNat x20_2) 0)) Tryz.isAgg41 rfl rfl (f0_1.frs.row (hw.now hF)) (f0_1.ix h_t22) (Jgi (Vd (f0_1.at h_t22)) rfl)) rfl rfl rfl<|ag ((Qq h v0_1 1 (Int.toNat x20_2) 0))<|Jd<|Jc<|Ja<|?_
     obtain ⟨t24, h_t24, H29⟩ := Je H28; clear H28
     refine Q1 (Qa (i := 0) (rds := []) (G := fun _ : Unit => .tuple #[i6 ([100, 105, 114, 10].length : Int), .nilIface]) (C := fun _ => U5 b3 47 5 t24) rfl (fun w L' S hF hS hi hp hlt ho hA => k20 hp hlt (Xm w S) h_t24) call20 rfl) rfl rfl rfl (fun _ => ?_)
     refine Jd<|Ja<|mv ((Qq h v0_1 1 (Int.toNat x20_2) 0))<|?_
     obtain ⟨t26, h_t26, H30⟩ := Je H29; clear H29
     refine Q1 (Qa (i := 0) (rds := []) (G := fun x : Unit => .tuple #[]) (C := fun x : Unit => U5 b3 47 5 t26) rfl (fun w L' S hF hS hi hp hlt ho hA => k21 hp hlt (Xm w S) ((show FrN h 6 (Qq h v0_1 1 (Int.toNat x20_2) 0) g_tag_Entry t22 from (f0_1.at h_t22)).mono (hw.but hF ho)) (tb_pow10.mono (hw.but hF ho)) h_t26) call21 rfl) rfl rfl rfl (fun _ => ?_)
     refine Jd<|Ja<|?_
     obtain ⟨t27, h_t27, H31⟩ := Je H30; clear H30
     refine lv (J8 rfl rfl h_t27)<|mv (i6 t27)<|Jd<|?_
     exact cl (t27, t26) () m3 [0] (by exact ⟨(by subst hn3; exact H31), trivial⟩)
    ·refine Qp ?_
     exact cl m_4 () 0 [0] (by exact ⟨H32, trivial⟩)
   ·rintro m_2 _ gg H23 _
    try dsimp only at H23
    try dsimp only
    refine Jc<|Jc<|Ja<|?_
    refine Q1 (Qa (i := 0) (rds := []) (G := fun _ : Unit => i6 (m_2.l : Int)) (C := fun _ => U5 b3 47 5 m_2) rfl (fun w L' S hF hS hi hp hlt ho hA => k22 hp hlt (Xm w S)) call22 rfl) rfl rfl rfl (fun _ => ?_)
    refine lv (Ye rfl rfl)<|Jd<|?_
    revert H23
    refine ci (decide (1000000 < (m_2.l : Int))) rfl (fun hb H24=>?_) fun hb H25=>?_
    ·refine Jc<|Ja<|ag (str [])<|ag (i6 4)<|Jd<|Ji<|?_
     obtain rfl := sj H24
     refine Wh (v1 := str []) (v2 := i6 4) rfl rfl rfl (fin rfl)
    ·refine Jh<|Jc<|Ja<|?_
     refine Q1 (Qa (i := 0) (rds := []) (G := fun _ : Unit => str m_2) (C := fun _ => empC) rfl (fun w L' S hF hS hi hp hlt ho hA => k23 hp hlt (Xm w S)) call23 rfl) rfl rfl rfl (fun _ => ?_)
     refine ag (str m_2)<|ag (i6 0)<|Jd<|Ji<|?_
     obtain rfl := sj H25
     refine Wh (v1 := str m_2) (v2 := i6 0) rfl rfl rfl (fin rfl)
end Go.Proofs.YtkbiccgjkiifpaaGreatDoor

namespace Go.Proofs.YtkbiccgjkiifpaaGreatDoor
open Go Go.Vc Go.Md Go.M Go.Lx
def TreeE (R : Jw → Value → List Ta → List Nat → Prop) (h : Jw) (c : List Value) (x : Ta) (bs : List Nat) : Prop :=
  ∃ (v3 v4 v5 : Value) (b5 : List Nat), c = [.int .i64 x.Tag, .int .i64 x.Value.kad, str x.Value.kae, v3, v4, v5] ∧ FrS h 1 v3 (x.Value.kaf.map Qz) ∧ FrS h 2 v4 (x.Value.kac.map Jl) ∧ R h v5 x.Value.kab b5 ∧ bs = roB v3 x.Value.kaf.length ++ (roB v4 x.Value.kac.length ++ b5)
abbrev KidsL (R : Jw → Value → List Ta → List Nat → Prop) (h : Jw) (css : List (List Value)) (xs : List Ta) (bs : List Nat) : Prop := KidsG (TreeE R) h css xs bs
def TreeL : Nat → Jw → Value → List Ta → List Nat → Prop
  | 0, _, v, xs, bs => v = z0s ∧ xs = [] ∧ bs = []
  | d + 1, h, v, xs, bs => ∃ (css : List (List Value)) (b2 : List Nat), RowP h 83 6 v css ∧ KidsL (TreeL d) h css xs b2 ∧ bs = v.ownBlock.toList ++ b2
theorem TreeE.agree {R : Jw → Value → List Ta → List Nat → Prop} {h h' : Jw} {c : List Value} {x : Ta} {bs : List Nat} (hR : ∀ v xs b, R h v xs b → (∀ q ∈ b, ∀ o, h q = some o → h' q = some o) → R h' v xs b) (e : TreeE R h c x bs) (k : ∀ q ∈ bs, ∀ o, h q = some o → h' q = some o) : TreeE R h' c x bs := by
  obtain ⟨v3, v4, v5, b5, e1, e2, e3, e4, rfl⟩ := e
  exact ⟨v3, v4, v5, b5, e1, e2.agree (by rw [List.length_map]; exact fun q hq => k q (by simp [hq])), e3.agree (by rw [List.length_map]; exact fun q hq => k q (by simp [hq])), hR _ _ _ e4 (fun q hq => k q (by simp [hq])), rfl⟩
theorem TreeL.agree : ∀ {d : Nat} {h h' : Jw} {v : Value} {xs : List Ta} {bs : List Nat}, TreeL d h v xs bs → (∀ q ∈ bs, ∀ o, h q = some o → h' q = some o) → TreeL d h' v xs bs := by
  intro d
  induction d with
  | zero => intro h h' v xs bs t _; exact t
  | succ d ih =>
    rintro h h' v xs bs ⟨css, b2, r, k, rfl⟩ q
    exact ⟨css, b2, r.mono fun b hb => q b (by simp [hb]), k.agree (fun c x b t k => t.agree (fun v xs b t k => ih t k) k) fun y hy => q y (List.mem_append_right _ hy), rfl⟩
theorem TreeL.mono {d : Nat} {h h' : Jw} {v : Value} {xs : List Ta} {bs : List Nat} (t : TreeL d h v xs bs) (k : ∀ b o, h b = some o → h' b = some o) : TreeL d h' v xs bs := t.agree fun q _ => k q
theorem TreeE.mono {d : Nat} {h h' : Jw} {c : List Value} {x : Ta} {bs : List Nat} (t : TreeE (TreeL d) h c x bs) (k : ∀ b o, h b = some o → h' b = some o) : TreeE (TreeL d) h' c x bs := t.agree (fun v xs b t k => t.agree k) fun q _ => k q
theorem Jkt {d : Nat} {h h' : Jw} {css : List (List Value)} {xs : List Ta} {bs : List Nat} (t : KidsL (TreeL d) h css xs bs) (k : ∀ b o, h b = some o → h' b = some o) : KidsL (TreeL d) h' css xs bs := t.agree (fun c x b t k => t.agree (fun v xs b t k => t.agree k) k) fun q _ => k q
theorem TreeL.frn : ∀ {d : Nat} {h : Jw} {v : Value} {xs : List Ta} {bs : List Nat}, TreeL d h v xs bs → FrN h 6 v g_tag_Entry xs := by
  intro d
  induction d with
  | zero =>
    rintro h v xs bs ⟨rfl, rfl, _⟩
    exact ⟨FrS.nil _ _, fun i x hx => by cases hx⟩
  | succ d ih =>
    rintro h v xs bs ⟨css, b2, r, k, rfl⟩
    have hid : css.map Vp = css := by unfold Vp; simp
    refine frn_of (by rw [hid]; exact r.frs) ?_
    refine k.allC fun c x b t => ?_
    obtain ⟨v3, v4, v5, b5, e1, e2, e3, e4, _⟩ := t
    subst e1
    have f := ih e4
    exact ⟨rfl, .mk rfl rfl rfl e2 e3 f.frs f.el⟩
abbrev Yw (d : Nat) (v : Value) (xs : List Ta) : Chunk := Uj fun h bs => TreeL d h v xs bs
abbrev Jck (d : Nat) (css : List (List Value)) (xs : List Ta) : Chunk := Uj fun h bs => KidsL (TreeL d) h css xs bs
theorem imp_kid {d : Nat} {v3 v4 v5 : Value} {x : Ta} :
    Imp (Qy (roV 1 v3 x.Value.kaf.length (x.Value.kaf.map Qz)) (Qy (roV 2 v4 x.Value.kac.length (x.Value.kac.map Jl)) (Yw d v5 x.Value.kab)))
      (Uj fun h bs => TreeE (TreeL d) h [.int .i64 x.Tag, .int .i64 x.Value.kad, str x.Value.kae, v3, v4, v5] x bs) := by
  have i1 := Jat (imp_roOwn (sz := 2) (n := x.Value.kac.length) (v := v4) (xs := x.Value.kac.map Jl)) (Imp.refl (Yw d v5 x.Value.kab))
  have i2 := Xe i1 (Jee (Χ := fun h bs => ∃ b5, FrS h 2 v4 (x.Value.kac.map Jl) ∧ TreeL d h v5 x.Value.kab b5 ∧ bs = roB v4 x.Value.kac.length ++ b5) (fun h h' bs k t => ⟨t.1.mono k, t.2⟩) (fun h h' bs k t => t.mono k) fun h b1 b2 t1 t2 => ⟨b2, t1.1, t2, by rw [t1.2, List.length_map]⟩)
  have i3 := Jat (imp_roOwn (sz := 1) (n := x.Value.kaf.length) (v := v3) (xs := x.Value.kaf.map Qz)) i2
  exact Xe i3 (Jee (fun h h' bs k t => ⟨t.1.mono k, t.2⟩) (fun h h' bs k ⟨b5, t1, t2, t3⟩ => ⟨b5, t1.mono k, t2.mono k, t3⟩) fun h b1 b2 t1 ⟨b5, t2, t3, t4⟩ => ⟨v3, v4, v5, b5, rfl, t1.1, t2, t3, by rw [t1.2, t4, List.length_map]⟩)
theorem Jde {d : Nat} {css : List (List Value)} {xs : List Ta} {c : List Value} {x : Ta} : Imp (Qy (Jck d css xs) (Uj fun h bs => TreeE (TreeL d) h c x bs)) (Jck d (css ++ [c]) (xs ++ [x])) :=
  Jee (fun h h' bs k t => Jkt t k) (fun h h' bs k t => t.mono k) fun h b1 b2 t1 t2 => t1.snoc t2
theorem imp_tree {d n : Nat} {v : Value} {css : List (List Value)} {xs : List Ta} : Imp (Qy (J3 83 6 v n css) (Jck d css xs)) (Yw (d + 1) v xs) :=
  Xe (Jat imp_rowOwn (Imp.refl _)) (Jee (fun h h' bs k t => ⟨t.1.mono fun b _ => k b, t.2⟩) (fun h h' bs k t => Jkt t k) fun h b1 b2 t1 t2 => ⟨css, b2, t1.1, t2, by rw [t1.2.2]⟩)
theorem Jas {d : Nat} : Imp empC (Yw (d + 1) (z0s) []) := Jbh ⟨[], [], ⟨by simp, .inl ⟨rfl, rfl⟩⟩, rfl, rfl⟩
theorem imp_kids0 {d : Nat} : Imp empC (Jck d [] []) := Jbh rfl
end Go.Proofs.YtkbiccgjkiifpaaGreatDoor

namespace Go.Proofs.YtkbiccgjkiifpaaGreatDoor
open Go Go.Vc Go.Md Go.M Go.Lx
set_option maxRecDepth 100000
set_option maxHeartbeats 4000000
def EntsC (d : Nat) : Prop := ∀ {xs : List Ta} {v0 : Value} {w : World} {h : Jw} (_ : Know h w Ys) (_ : FrN h 6 v0 g_tag_Entry xs) (_ : fits d xs),
  Does Tryz.prog 50 (List.toArray [v0]) w (fun v w' => ∃ x : Option Addr × Nat, v = .slice x.1 xs.length x.2 ∧ Turn w w' Ys (Yw d (.slice x.1 xs.length x.2) xs))
theorem clone_ints {l : List Int} (h : l.length ≤ 2000000) : Um l = some l := by
  unfold Um
  rw [Yk (by simp only [List.length_nil]; omega)]; rfl
theorem clone_rats {l : List Tc} (h : l.length ≤ 2000000) : Zx l = some l := by
  unfold Zx
  rw [Yk (by simp only [List.length_nil]; omega)]; rfl
theorem k94_of {d : Nat} (C : EntsC d) {a0 : Tb} {v0_2 v0_3 v0_4 : Value} {w : World} {h : Jw} (hw : Know h w Ys) (f0_2 : FrS h 1 v0_2 (a0.kaf.map Qz)) (f0_3 : FrS h 2 v0_3 (a0.kac.map Jl)) (f0_4 : FrN h 6 v0_4 g_tag_Entry a0.kab) (hf : fitV d a0) :
    Does Tryz.prog 94 (List.toArray [.agg #[.int .i64 a0.kad, str a0.kae, v0_2, v0_3, v0_4]]) w (fun v w' => ∃ x : (Option Addr × Nat) × (Option Addr × Nat) × (Option Addr × Nat), v = (.agg #[.int .i64 a0.kad, str a0.kae, .slice x.1.1 a0.kaf.length x.1.2, .slice x.2.1.1 a0.kac.length x.2.1.2, .slice x.2.2.1 a0.kab.length x.2.2.2]) ∧
      Turn w w' Ys (Qy (roV 1 (.slice x.1.1 a0.kaf.length x.1.2) a0.kaf.length (a0.kaf.map Qz)) (Qy (roV 2 (.slice x.2.1.1 a0.kac.length x.2.1.2) a0.kac.length (a0.kac.map Jl)) (Yw d (.slice x.2.2.1 a0.kab.length x.2.2.2) a0.kab)))) := by
 obtain ⟨z1_, z2_, z3_⟩ := hf
 have h_t5 := clone_ints z1_
 have h_t10 := clone_rats z2_
 refine enter (n := 18) Tryz.func94 rfl rfl rfl Ys [] (Sat.nil _ _) ?_
 refine Jcy Wa ?_
 refine Jc ?_
 refine Ja ?_
 refine Vv (cs := [.int .i64 a0.kad, str a0.kae, v0_2, v0_3, v0_4]) rfl rfl rfl rfl (fun b4 => ?_)
 refine Xi (cs := [.int .i64 0, str [], z0s, z0s, z0s]) Tryz.zeroValue81 rfl rfl rfl (fun b5 => ?_)
 refine Jd ?_
 refine Jc ?_
 refine Ja ?_
 refine Jf rfl rfl rfl (Jr Tryz.runUnderlying81 rfl Tryz.sizeOf76 rfl rfl) ?_
 refine Y7 (i := 1) (v := v0_2) Tryz.isAgg76 rfl rfl rfl rfl rfl ?_
 refine Zy (Xr (rds := []) (G := fun x : (Option Addr × Nat) => .slice x.1 a0.kaf.length x.2) (C := fun x : (Option Addr × Nat) => J3 3 1 (.slice x.1 a0.kaf.length x.2) a0.kaf.length (a0.kaf.map Qz)) (fun w L' hF hS hi => k142 (Ju w) (f0_2.mono (hw.now hF)) h_t5) Tryz.call142 rfl) rfl rfl rfl (fun p => ?_)
 refine Qt (fun w hF hS => k141 (Jdt (i := 3) hS rfl) w) Tryz.call141 rfl rfl rfl ?_
 refine Jf rfl rfl rfl (Jr Tryz.runUnderlying81 rfl Tryz.sizeOf76 rfl rfl) ?_
 refine Qu (i := 1) (vs := [.slice (X0 p.1 0 a0.kaf.length 1) a0.kaf.length a0.kaf.length]) (cs' := [.int .i64 a0.kad, str a0.kae, .slice (X0 p.1 0 a0.kaf.length 1) a0.kaf.length a0.kaf.length, v0_3, v0_4]) Tryz.sizeOf76 rfl rfl rfl rfl rfl rfl rfl rfl rfl ?_
 refine Jd ?_
 refine Jc ?_
 refine Ja ?_
 refine Jf rfl rfl rfl (Jr Tryz.runUnderlying81 rfl Tryz.sizeOf79 rfl rfl) ?_
 refine Y7 (i := 1) (v := v0_3) Tryz.isAgg79 rfl rfl rfl rfl rfl ?_
 refine Zy (Xr (rds := []) (G := fun x : (Option Addr × Nat) => .slice x.1 a0.kac.length x.2) (C := fun x : (Option Addr × Nat) => J3 70 2 (.slice x.1 a0.kac.length x.2) a0.kac.length (a0.kac.map Jl)) (fun w L' hF hS hi => k144 (Ju w) (f0_3.mono (hw.now hF)) h_t10) Tryz.call144 rfl) rfl rfl rfl (fun p_2 => ?_)
 refine Qt (fun w hF hS => k143 (Jdt (i := 4) hS rfl) w) Tryz.call143 rfl rfl rfl ?_
 refine Jf rfl rfl rfl (Jr Tryz.runUnderlying81 rfl Tryz.sizeOf79 rfl rfl) ?_
 refine Qu (i := 1) (vs := [.slice (X0 p_2.1 0 a0.kac.length 2) a0.kac.length a0.kac.length]) (cs' := [.int .i64 a0.kad, str a0.kae, .slice (X0 p.1 0 a0.kaf.length 1) a0.kaf.length a0.kaf.length, .slice (X0 p_2.1 0 a0.kac.length 2) a0.kac.length a0.kac.length, v0_4]) Tryz.sizeOf79 rfl rfl rfl rfl rfl rfl rfl rfl rfl ?_
 refine Jd ?_
 refine Jc ?_
 refine Ja ?_
 refine Jf rfl rfl rfl (Jr Tryz.runUnderlying81 rfl Tryz.sizeOf41 rfl rfl) ?_
 refine Y7 (i := 1) (v := v0_4) Tryz.isAgg41 rfl rfl rfl rfl rfl ?_
 refine Zy (Xr (rds := []) (G := fun x : (Option Addr × Nat) => .slice x.1 a0.kab.length x.2) (C := fun x : (Option Addr × Nat) => Yw d (.slice x.1 a0.kab.length x.2) a0.kab) (fun w L' hF hS hi => C (Ju w) (f0_4.mono (hw.now hF)) z3_) Tryz.call50 rfl) rfl rfl rfl (fun p_3 => ?_)
 refine Jf rfl rfl rfl (Jr Tryz.runUnderlying81 rfl Tryz.sizeOf41 rfl rfl) ?_
 refine Qu (i := 1) (vs := [.slice p_3.1 a0.kab.length p_3.2]) (cs' := [.int .i64 a0.kad, str a0.kae, .slice (X0 p.1 0 a0.kaf.length 1) a0.kaf.length a0.kaf.length, .slice (X0 p_2.1 0 a0.kac.length 2) a0.kac.length a0.kac.length, .slice p_3.1 a0.kab.length p_3.2]) Tryz.sizeOf41 rfl rfl rfl rfl rfl rfl rfl rfl rfl ?_
 refine Jd ?_
 refine Jc ?_
 refine Ja ?_
 refine Q0 (i := 1) (vs := [.int .i64 a0.kad, str a0.kae, .slice (X0 p.1 0 a0.kaf.length 1) a0.kaf.length a0.kaf.length, .slice (X0 p_2.1 0 a0.kac.length 2) a0.kac.length a0.kac.length, .slice p_3.1 a0.kab.length p_3.2]) Tryz.isAgg81 Tryz.sizeOf81 rfl rfl rfl rfl rfl ?_
 refine Qu (i := 2) (vs := [.int .i64 a0.kad, str a0.kae, .slice (X0 p.1 0 a0.kaf.length 1) a0.kaf.length a0.kaf.length, .slice (X0 p_2.1 0 a0.kac.length 2) a0.kac.length a0.kac.length, .slice p_3.1 a0.kab.length p_3.2]) (cs' := [.int .i64 a0.kad, str a0.kae, .slice (X0 p.1 0 a0.kaf.length 1) a0.kaf.length a0.kaf.length, .slice (X0 p_2.1 0 a0.kac.length 2) a0.kac.length a0.kac.length, .slice p_3.1 a0.kab.length p_3.2]) Tryz.sizeOf81 rfl rfl rfl rfl rfl rfl rfl rfl rfl ?_
 refine Jd ?_
 refine Ji ?_
 refine Ur 1 ?_
 refine J1 2 rfl (Jgx _ _ _ _ _ _) ?_
 refine J1 3 rfl (Jgx _ _ _ _ _ _) ?_
 refine Qc 3 4 rfl rfl (by decide) ?_
 refine Qc 2 3 rfl rfl (by decide) ?_
 refine retC (i := 1) (vs := [.int .i64 a0.kad, str a0.kae, .slice (X0 p.1 0 a0.kaf.length 1) a0.kaf.length a0.kaf.length, .slice (X0 p_2.1 0 a0.kac.length 2) a0.kac.length a0.kac.length, .slice p_3.1 a0.kab.length p_3.2]) Tryz.isAgg81 Tryz.sizeOf81 rfl rfl rfl rfl (Yg ((X0 p.1 0 a0.kaf.length 1, a0.kaf.length), (X0 p_2.1 0 a0.kac.length 2, a0.kac.length), p_3) (i := 2) rfl rfl (Imp.refl _))
theorem elC_len {h : Jw} {v : Value} {sz i : Nat} : (elC h v sz i).length = sz := by simp [elC]
theorem ent_one {h : Jw} {c : Nat → Value} {x : Ta} (f : g_tag_Entry h c x) : ∀ j, j < 6 → (c j).oneCell' = true := fun j hj => by
  cases f with
  | mk h0 h1 h2 h3 h4 h5 h6 => rcases (show j = 0 ∨ j = 1 ∨ j = 2 ∨ j = 3 ∨ j = 4 ∨ j = 5 from by omega) with rfl | rfl | rfl | rfl | rfl | rfl <;> first | (rw [h0]; rfl) | (rw [h1]; rfl) | (rw [h2]; rfl) | exact h3.one | exact h4.one | exact h5.one
theorem k50_all (d : Nat) : EntsC d := by
 induction d with
 | zero => intro xs v0 w h hw f0 hf; exact hf.elim
 | succ d ih =>
 intro xs v0 w h hw f0 hf
 obtain ⟨hlen, hkids⟩ := hf
 refine enter (n := 31) Tryz.func50 rfl rfl rfl Ys [] (Sat.nil _ _) ?_
 refine Jc ?_
 refine Ja ?_
 refine Jf rfl rfl rfl (Jg (v := z0s) rfl) ?_
 refine Jd ?_
 refine Jc ?_
 refine Jc ?_
 refine Ja ?_
 refine Jf rfl rfl rfl (Jk (v := v0) rfl) ?_
 refine Jf rfl rfl rfl (Xw Tryz.underlying41 rfl f0) ?_
 refine Jf rfl rfl rfl (Qd rfl rfl) ?_
 refine Jd ?_
 refine Jak (b := (decide ((xs.length : Int) = 0))) rfl (fun hb => ?_) (fun hb => ?_)
 ·have h0 : xs = [] := List.length_eq_zero_iff.1 (by have := of_decide_eq_true hb; omega)
  subst h0
  refine Jc ?_
  refine Ja ?_
  refine Jf rfl rfl rfl (Jg (v := z0s) rfl) ?_
  refine Jd ?_
  refine Ji ?_
  refine Jed ?_
  refine J1 0 rfl (Jas (d := d)) ?_
  exact Ja1 (v := z0s) rfl rfl (Yg ((none, 0) : Option Addr × Nat) (i := 0) rfl rfl (Imp.refl _))
 ·have hpos : 0 < xs.length := by have := of_decide_eq_false hb; omega
  have hnews : ((List.range xs.length).map (elC h v0 6)).length = xs.length := by simp
  refine Jh ?_
  refine Jc ?_
  refine Ja ?_
  refine Jf rfl rfl rfl (Jk (v := v0) rfl) ?_
  refine Jf rfl rfl rfl (Xw Tryz.underlying41 rfl f0) ?_
  refine Zy (Jdx (E := 83) (sz := 6) (by_ := 104) (m := xs.length) (c := xs.length) (rds := []) Tryz.underlying41 (Xv Tryz.typeInfo83) rfl rfl rfl rfl rfl rfl rfl rfl (by omega) (by omega) rfl) rfl rfl rfl (fun p => ?_)
  refine Jf rfl rfl rfl (Jg (v := .slice p.1 xs.length p.2) rfl) ?_
  refine Jd ?_
  refine Jc ?_
  refine Ja ?_
  refine Jf rfl rfl rfl (Jk (v := .slice p.1 xs.length p.2) rfl) ?_
  refine Jf rfl rfl rfl (Jk (v := v0) rfl) ?_
  refine Q1 (turns_copyK (i := 0) (rds := []) (sz := 6) (p := p) (m := xs.length) (a := 0) (dl := xs.length) (cd := p.2) (q := xs.length) (ax := sa v0) (c := sc v0) (news := (List.range xs.length).map (elC h v0 6)) Tryz.underlying41 (Xv Tryz.typeInfo83) rfl rfl (by simp) (by rw [Jgw]; rfl) (by omega) ((show _ = v0 from rfl).trans (f0.frs.eq.trans (by rw [hnews]))) (Nat.le_refl _) hnews.symm hpos
    (fun w L' hF hS hj => f0.frs.row (hw.now hF)) (fun x hx => by obtain ⟨i, _, rfl⟩ := List.mem_map.1 hx; exact elC_len) (fun x hx u hu => List.all_eq_true.1 (AllC.oneN (fun {c x} f j hj => ent_one f j hj) f0.allC x hx) u hu)) rfl rfl rfl (fun _ => ?_)
  refine Jd ?_
  refine J1 0 rfl (Imp.of (show J3 83 6 (.slice p.1 xs.length p.2) xs.length (_ ++ _ ++ _) = J3 83 6 (.slice p.1 xs.length p.2) ((List.range xs.length).map (elC h v0 6)).length (((List.range xs.length).map (elC h v0 6)).map Vp) from by rw [hnews, W7, List.take_zero, List.nil_append, List.drop_eq_nil_of_le (by simp), List.append_nil])) ?_
  refine Jc ?_
  refine Jc ?_
  refine Ja ?_
  refine Jf rfl rfl rfl (Jk (v := .slice p.1 xs.length p.2) rfl) ?_
  refine Jf rfl rfl rfl (Wl Tryz.underlying41 rfl) ?_
  refine Jf rfl rfl rfl (Jk (v := .int .i64 0) rfl) ?_
  refine Jd ?_
  refine Jed ?_
  refine J1 1 rfl (imp_kids0 (d := d)) ?_
  refine Jp ?_
  refine Xu (σ := Nat) (τ := List (List Value)) (cntB xs.length) (fun s t => [(3, .slice p.1 xs.length p.2), (15, .int .i64 (xs.length : Int)), (16, .int .i64 (s : Int))]) (fun s t => [J3 83 6 (.slice p.1 xs.length p.2) xs.length (t.map Vp), Jck d (t.take s) (xs.take s)])
   (fun s t => t.length = xs.length ∧ s ≤ xs.length ∧ ∀ j, s ≤ j → j < xs.length → t[j]? = some (elC h v0 6 j)) 0 ((List.range xs.length).map (elC h v0 6)) [0, 1] (cnt_fix _) ⟨hnews, Nat.zero_le _, fun j _ hj => by simp [hj]⟩ (by exact ⟨rfl, rfl, rfl, trivial⟩) (by decide) (by rw [List.take_zero, List.take_zero, hnews]; rfl) ?_
  rintro i css m gg H ⟨hcl, hin, hcs⟩
  try dsimp only
  refine Jc ?_
  refine Ja ?_
  refine Jf rfl rfl rfl (Xk rfl rfl) ?_
  refine Jd ?_
  refine Jc ?_
  refine Jak (b := (decide ((i : Int) < (xs.length : Int)))) rfl (fun hb => ?_) (fun hb => ?_)
  ·have hi : i < xs.length := by have := of_decide_eq_true hb; omega
   have hci : i < css.length := by omega
   have hat : Yv css (i : Int) = some (elC h v0 6 i) := by
    rw [Qs hci]; have := hcs i (Nat.le_refl _) hi; rw [List.getElem?_eq_getElem hci] at this; exact this
   have hat0 : Yv xs (i : Int) = some xs[i] := Qs hi
   have f := f0.at hat0
   rw [Int.toNat_natCast] at f
   have fk := hkids xs[i] (List.getElem_mem hi)
   have ec : Vp (elC h v0 6 i) = [.int .i64 xs[i].Tag, .int .i64 xs[i].Value.kad, str xs[i].Value.kae, Qq h v0 6 i 3, Qq h v0 6 i 4, Qq h v0 6 i 5] := by
    rw [← Zt f]; rfl
   obtain ⟨q0, q1⟩ := g_tag_Entry_iff.1 f
   have f2 : FrS h 1 (Qq h v0 6 i 3) (xs[i].Value.kaf.map Qz) := Qi q1
   have f3 : FrS h 2 (Qq h v0 6 i 4) (xs[i].Value.kac.map Jl) := Qj q1
   have f4 : FrN h 6 (Qq h v0 6 i 5) g_tag_Entry xs[i].Value.kab := J6 q1
   refine Jh ?_
   refine Jc ?_
   refine Jp ?_
   refine Jc ?_
   refine Ja ?_
   refine Jf rfl rfl rfl (Jk (v := .int .i64 (i : Int)) rfl) ?_
   refine Jf rfl rfl rfl (Jg (v := .int .i64 (i : Int)) rfl) ?_
   refine Jd ?_
   refine Ja ?_
   refine Jf rfl rfl rfl (Jk (v := .slice p.1 xs.length p.2) rfl) ?_
   refine Jf rfl rfl rfl (Jk (v := .int .i64 (i : Int)) rfl) ?_
   refine Jf rfl rfl rfl (Jk (v := .slice p.1 xs.length p.2) rfl) ?_
   refine Jf rfl rfl rfl (Jk (v := .int .i64 (i : Int)) rfl) ?_
   refine Qf (fun w hF hS => Qx Tryz.underlying41 Tryz.sizeOf83 rfl rfl (Xd (i := 0) hS rfl) hcl.symm hat) rfl rfl rfl ?_
   refine Qf (fun w hF hS => Uf Tryz.runUnderlying83 rfl Tryz.sizeOf81 rfl rfl (Xd (i := 0) hS rfl) hat) rfl rfl rfl ?_
   refine Qf (fun w hF hS => Yl (f := Vp) (i := (i : Int)) (sz := 6) (j := 1) (vs := [.int .i64 xs[i].Value.kad, str xs[i].Value.kae, Qq h v0 6 i 3, Qq h v0 6 i 4, Qq h v0 6 i 5]) Tryz.isAgg81 Tryz.sizeOf81 rfl rfl (Xd (i := 0) hS rfl) hat (by rw [ec]; rfl)) rfl rfl rfl ?_
   refine Zy (Xr (rds := []) (G := fun x : (Option Addr × Nat) × (Option Addr × Nat) × (Option Addr × Nat) => (.agg #[.int .i64 xs[i].Value.kad, str xs[i].Value.kae, .slice x.1.1 xs[i].Value.kaf.length x.1.2, .slice x.2.1.1 xs[i].Value.kac.length x.2.1.2, .slice x.2.2.1 xs[i].Value.kab.length x.2.2.2])) (C := fun x : (Option Addr × Nat) × (Option Addr × Nat) × (Option Addr × Nat) => (Qy (roV 1 (.slice x.1.1 xs[i].Value.kaf.length x.1.2) xs[i].Value.kaf.length (xs[i].Value.kaf.map Qz)) (Qy (roV 2 (.slice x.2.1.1 xs[i].Value.kac.length x.2.1.2) xs[i].Value.kac.length (xs[i].Value.kac.map Jl)) (Yw d (.slice x.2.2.1 xs[i].Value.kab.length x.2.2.2) xs[i].Value.kab)))) (fun w L' hF hS hi' => k94_of ih (Ju w) (f2.mono (hw.now hF)) (f3.mono (hw.now hF)) (f4.mono (hw.now hF)) fk) Tryz.call94 rfl) rfl rfl rfl (fun ⟨p3, p4, p5⟩ => ?_)
   refine Qf (fun w hF hS => Qx Tryz.underlying41 Tryz.sizeOf83 rfl rfl (Xd (i := 0) hS rfl) hcl.symm hat) rfl rfl rfl ?_
   refine Qf (fun w hF hS => Uf Tryz.runUnderlying83 rfl Tryz.sizeOf81 rfl rfl (Xd (i := 0) hS rfl) hat) rfl rfl rfl ?_
   refine Jds (q := 0) (j := 1) (i := (i : Int)) (sz := 6) (hm := hcl.symm) (f := Vp) (z := [.int .i64 xs[i].Tag, .int .i64 xs[i].Value.kad, str xs[i].Value.kae, .slice p3.1 xs[i].Value.kaf.length p3.2, .slice p4.1 xs[i].Value.kac.length p4.2, .slice p5.1 xs[i].Value.kab.length p5.2]) (ys := css.set i [.int .i64 xs[i].Tag, .int .i64 xs[i].Value.kad, str xs[i].Value.kae, .slice p3.1 xs[i].Value.kaf.length p3.2, .slice p4.1 xs[i].Value.kac.length p4.2, .slice p5.1 xs[i].Value.kab.length p5.2]) (vs := [.int .i64 xs[i].Value.kad, str xs[i].Value.kae, .slice p3.1 xs[i].Value.kaf.length p3.2, .slice p4.1 xs[i].Value.kac.length p4.2, .slice p5.1 xs[i].Value.kab.length p5.2]) Tryz.sizeOf81 rfl rfl rfl rfl rfl rfl rfl rfl rfl (fun y_ hy_ => by cases hy_.symm.trans hat; rw [ec]; rfl) (by rw [Jb3 (by omega) (by omega), Int.toNat_natCast]) ?_
   refine Jd ?_
   refine Ja ?_
   refine Jf rfl rfl rfl (J8 rfl rfl (J7 (by omega))) ?_
   refine Jf rfl rfl rfl (Jk (v := .int .i64 ((i : Int) + 1)) rfl) ?_
   refine Jd ?_
   refine J1 2 rfl (imp_kid (x := xs[i])) ?_
   refine Qc 1 2 rfl rfl (by decide) ?_
   refine J1 1 rfl Jde ?_
   refine Ze (i + 1) (css.set i [.int .i64 xs[i].Tag, .int .i64 xs[i].Value.kad, str xs[i].Value.kae, .slice p3.1 xs[i].Value.kaf.length p3.2, .slice p4.1 xs[i].Value.kac.length p4.2, .slice p5.1 xs[i].Value.kab.length p5.2]) m [0, 1] (by exact ⟨rfl, rfl, rfl, trivial⟩) (by decide) (by
     rw [take_setS hci, Jhi hi]; rfl) (by exact ⟨cnt_step H hi, by simpa using hcl, hi, fun j hj hj2 => by rw [List.getElem?_set_ne (by omega)]; exact hcs j (by omega) hj2⟩) (Nat.lt_succ_self _)
  ·have hi : i = xs.length := by have := of_decide_eq_false hb; omega
   refine Qp ?_
   refine Jc ?_
   refine Ja ?_
   refine Jf rfl rfl rfl (Jk (v := .slice p.1 xs.length p.2) rfl) ?_
   refine Jf rfl rfl rfl (Jg (v := .slice p.1 xs.length p.2) rfl) ?_
   refine Jd ?_
   refine Ji ?_
   refine Qc 0 1 rfl rfl (by decide) ?_
   refine J1 0 rfl (Imp.of (show Qy (J3 83 6 (.slice p.1 xs.length p.2) xs.length (css.map Vp)) (Jck d (css.take i) (xs.take i)) = Qy (J3 83 6 (.slice p.1 xs.length p.2) xs.length css) (Jck d css xs) from by rw [W7, hi, List.take_of_length_le (by omega), List.take_length])) ?_
   refine J1 0 rfl imp_tree ?_
   exact Ja1 (v := .slice p.1 xs.length p.2) rfl rfl (Yg p (i := 0) rfl rfl (Imp.refl _))
end Go.Proofs.YtkbiccgjkiifpaaGreatDoor

namespace Go.Proofs.YtkbiccgjkiifpaaGreatDoor
open Go Go.Vc Go.Md Go.M Go.Lx
set_option maxRecDepth 100000
set_option maxHeartbeats 4000000
def DirE (d : Nat) (h : Jw) (c : List Value) (l : List Ta) (bs : List Nat) : Prop := ∃ u, c = [u] ∧ TreeL d h u l bs
def TreeF (d : Nat) (h : Jw) (v : Value) (ls : List (List Ta)) (bs : List Nat) : Prop :=
  ∃ (css : List (List Value)) (b2 : List Nat), RowP h 41 1 v css ∧ KidsG (DirE d) h css ls b2 ∧ bs = v.ownBlock.toList ++ b2
theorem DirE.agree {d : Nat} {h h' : Jw} {c : List Value} {l : List Ta} {bs : List Nat} (t : DirE d h c l bs) (k : ∀ q ∈ bs, ∀ o, h q = some o → h' q = some o) : DirE d h' c l bs := by
  obtain ⟨u, e, t⟩ := t; exact ⟨u, e, t.agree k⟩
theorem Jin {d : Nat} {h h' : Jw} {css : List (List Value)} {ls : List (List Ta)} {bs : List Nat} (t : KidsG (DirE d) h css ls bs) (k : ∀ b o, h b = some o → h' b = some o) : KidsG (DirE d) h' css ls bs := t.agree (fun c x b t k => t.agree k) fun q _ => k q
theorem TreeF.mono {d : Nat} {h h' : Jw} {v : Value} {ls : List (List Ta)} {bs : List Nat} (t : TreeF d h v ls bs) (k : ∀ b o, h b = some o → h' b = some o) : TreeF d h' v ls bs := by
  obtain ⟨css, b2, r, g, e⟩ := t; exact ⟨css, b2, r.mono fun b _ => k b, Jin g k, e⟩
theorem TreeF.frn {d : Nat} {h : Jw} {v : Value} {ls : List (List Ta)} {bs : List Nat} (t : TreeF d h v ls bs) : FrN h 1 v gs_tag_Entry ls := by
  obtain ⟨css, b2, r, g, e⟩ := t
  have hid : css.map Vp = css := by unfold Vp; simp
  refine frn_of (by rw [hid]; exact r.frs) (g.allC fun c x b t => ?_)
  obtain ⟨u, rfl, t⟩ := t
  exact ⟨rfl, t.frn⟩
abbrev Jbn (d : Nat) (v : Value) (ls : List (List Ta)) : Chunk := Uj fun h bs => TreeF d h v ls bs
abbrev Jdm (d : Nat) (css : List (List Value)) (ls : List (List Ta)) : Chunk := Uj fun h bs => KidsG (DirE d) h css ls bs
theorem imp_dirs0 {d : Nat} : Imp empC (Jdm d [] []) := Jbh rfl
theorem Jjg {d : Nat} {u : Value} {l : List Ta} {css : List (List Value)} {ls : List (List Ta)} : Imp (Qy (Jdm d css ls) (Yw d u l)) (Jdm d (css ++ [[u]]) (ls ++ [l])) :=
  Jee (fun h h' bs k t => Jin t k) (fun h h' bs k t => t.mono k) fun h b1 b2 t1 t2 => t1.snoc ⟨u, rfl, t2⟩
theorem imp_file {d n : Nat} {v : Value} {css : List (List Value)} {ls : List (List Ta)} : Imp (Qy (J3 41 1 v n css) (Jdm d css ls)) (Jbn d v ls) :=
  Xe (Jat imp_rowOwn (Imp.refl _)) (Jee (fun h h' bs k t => ⟨t.1.mono fun b _ => k b, t.2⟩) (fun h h' bs k t => Jin t k) fun h b1 b2 t1 t2 => ⟨css, b2, t1.1, t2, by rw [t1.2.2]⟩)
theorem k26_of {d : Nat} {a0 : Td} {v0_1 : Value} {w : World} {h : Jw} (hw : Know h w Ys) (f0 : FrN h 1 v0_1 gs_tag_Entry a0.kag) (hf : fitF d a0) :
    Does Tryz.prog 26 (List.toArray [.agg #[.bool a0.Big, v0_1]]) w (fun v w' => ∃ x : Option Addr × Nat, v = (.agg #[.bool a0.Big, .slice x.1 a0.kag.length x.2]) ∧ Turn w w' Ys (Jbn d (.slice x.1 a0.kag.length x.2) a0.kag)) := by
 obtain ⟨hlen, hkids⟩ := hf
 refine enter (n := 27) Tryz.func26 rfl rfl rfl Ys [] (Sat.nil _ _) ?_
 refine Jc ?_
 refine Ja ?_
 refine Vv (cs := [.bool a0.Big, v0_1]) rfl rfl rfl rfl (fun b4 => ?_)
 refine Xi (cs := [.bool false, z0s]) Tryz.zeroValue24 rfl rfl rfl (fun b5 => ?_)
 refine Jd ?_
 refine Jc ?_
 refine Ja ?_
 refine Jf rfl rfl rfl (Jr Tryz.runUnderlying24 rfl Tryz.sizeOf22 rfl rfl) ?_
 refine Y7 (i := 0) (v := v0_1) Tryz.isAgg22 rfl rfl rfl rfl rfl ?_
 refine Jf rfl rfl rfl (Xw Tryz.underlying22 rfl f0) ?_
 refine Zy (Jdx (E := 41) (sz := 1) (by_ := 24) (m := a0.kag.length) (c := a0.kag.length) (rds := []) Tryz.underlying22 (Xv Tryz.typeInfo41) rfl rfl rfl rfl rfl rfl rfl rfl (by omega) (by omega) rfl) rfl rfl rfl (fun p => ?_)
 refine Jf rfl rfl rfl (Jg (v := .slice p.1 a0.kag.length p.2) rfl) ?_
 refine Jd ?_
 refine J1 2 rfl (Imp.of (show J3 41 1 (.slice p.1 a0.kag.length p.2) a0.kag.length _ = J3 41 1 (.slice p.1 a0.kag.length p.2) a0.kag.length ((List.replicate a0.kag.length [z0s]).map Vp) from by rw [W7]; rfl)) ?_
 refine Jc ?_
 refine Jc ?_
 refine Ja ?_
 refine Jf rfl rfl rfl (Jr Tryz.runUnderlying24 rfl Tryz.sizeOf22 rfl rfl) ?_
 refine Y7 (i := 0) (v := v0_1) Tryz.isAgg22 rfl rfl rfl rfl rfl ?_
 refine Jf rfl rfl rfl (Xw Tryz.underlying22 rfl f0) ?_
 refine Jf rfl rfl rfl (Jk (v := .int .i64 0) rfl) ?_
 refine Jd ?_
 refine Jed ?_
 refine J1 3 rfl (imp_dirs0 (d := d)) ?_
 refine Jp ?_
 refine Xu (σ := Nat) (τ := List (List Value)) (cntB a0.kag.length) (fun s t => [(1, pz b4), (2, pz b5), (3, .slice p.1 a0.kag.length p.2), (11, v0_1), (12, .int .i64 (a0.kag.length : Int)), (13, .int .i64 (s : Int))])
  (fun s t => [Jn b4 [.bool a0.Big, v0_1] 24, Jn b5 [.bool false, z0s] 24, J3 41 1 (.slice p.1 a0.kag.length p.2) a0.kag.length (t.map Vp), Jdm d (t.take s) (a0.kag.take s)])
  (fun s t => t.length = a0.kag.length ∧ s ≤ a0.kag.length ∧ ∀ j, s ≤ j → j < a0.kag.length → t[j]? = some [z0s]) 0 (List.replicate a0.kag.length [z0s]) [0, 1, 2, 3] (cnt_fix _) ⟨by simp, Nat.zero_le _, fun j _ hj => by simp [hj]⟩ (by exact ⟨rfl, rfl, rfl, rfl, rfl, rfl, trivial⟩) (by decide) (by rw [List.take_zero, List.take_zero]; rfl) ?_
 rintro i css m gg H ⟨hcl, hin, hcs⟩
 try dsimp only
 refine Jc ?_
 refine Ja ?_
 refine Jf rfl rfl rfl (Xk rfl rfl) ?_
 refine Jd ?_
 refine Jc ?_
 refine Jak (b := (decide ((i : Int) < (a0.kag.length : Int)))) rfl (fun hb => ?_) (fun hb => ?_)
 ·have hi : i < a0.kag.length := by have := of_decide_eq_true hb; omega
  have hci : i < css.length := by omega
  have hat : Yv css (i : Int) = some [z0s] := by
   rw [Qs hci]; have := hcs i (Nat.le_refl _) hi; rw [List.getElem?_eq_getElem hci] at this; exact this
  have hat0 : Yv a0.kag (i : Int) = some a0.kag[i] := Qs hi
  have f : FrN h 6 (Qq h v0_1 1 (Int.toNat (i : Int)) 0) g_tag_Entry a0.kag[i] := f0.at hat0
  refine Jh ?_
  refine Jc ?_
  refine Jp ?_
  refine Jc ?_
  refine Ja ?_
  refine Jf rfl rfl rfl (Jk (v := .int .i64 (i : Int)) rfl) ?_
  refine Jf rfl rfl rfl (Q7 Tryz.underlying22 Tryz.sizeOf41 rfl rfl f0.frs (f0.ix hat0)) ?_
  refine Qf (fun w hF hS => Qb (f := (elC h v0_1 1)) (i := (i : Int)) (sz := 1) (j := 0) (v := (Qq h v0_1 1 (Int.toNat (i : Int)) 0)) Tryz.isAgg41 rfl rfl (f0.frs.row (hw.now hF)) (f0.ix hat0) (Jgi (Vd (f0.at hat0)) rfl)) rfl rfl rfl ?_
  refine Jf rfl rfl rfl (Jg (v := .int .i64 (i : Int)) rfl) ?_
  refine Jf rfl rfl rfl (Jg (v := (Qq h v0_1 1 (Int.toNat (i : Int)) 0)) rfl) ?_
  refine Jd ?_
  refine Ja ?_
  refine Jf rfl rfl rfl (Jk (v := .slice p.1 a0.kag.length p.2) rfl) ?_
  refine Jf rfl rfl rfl (Jk (v := .int .i64 (i : Int)) rfl) ?_
  refine Jf rfl rfl rfl (Jk (v := (Qq h v0_1 1 (Int.toNat (i : Int)) 0)) rfl) ?_
  refine Zy (Xr (rds := []) (G := fun x : (Option Addr × Nat) => .slice x.1 a0.kag[i].length x.2) (C := fun x : (Option Addr × Nat) => Yw d (.slice x.1 a0.kag[i].length x.2) a0.kag[i]) (fun w L' hF hS hi' => k50_all d (Ju w) (f.mono (hw.now hF)) (hkids _ (List.getElem_mem hi))) Tryz.call50 rfl) rfl rfl rfl (fun p5 => ?_)
  refine Qf (fun w hF hS => Qx Tryz.underlying22 Tryz.sizeOf41 rfl rfl (Xd (i := 2) hS rfl) hcl.symm hat) rfl rfl rfl ?_
  refine Jds (q := 2) (j := 0) (i := (i : Int)) (sz := 1) (hm := hcl.symm) (f := Vp) (z := [.slice p5.1 a0.kag[i].length p5.2]) (ys := css.set i [.slice p5.1 a0.kag[i].length p5.2]) (vs := [.slice p5.1 a0.kag[i].length p5.2]) Tryz.sizeOf41 rfl rfl rfl rfl rfl rfl rfl rfl rfl (fun y_ hy_ => by cases hy_.symm.trans hat; rfl) (by rw [Jb3 (by omega) (by omega), Int.toNat_natCast]) ?_
  refine Jd ?_
  refine Ja ?_
  refine Jf rfl rfl rfl (J8 rfl rfl (J7 (by omega))) ?_
  refine Jf rfl rfl rfl (Jk (v := .int .i64 ((i : Int) + 1)) rfl) ?_
  refine Jd ?_
  refine Qc 3 4 rfl rfl (by decide) ?_
  refine J1 3 rfl Jjg ?_
  refine Ze (i + 1) (css.set i [.slice p5.1 a0.kag[i].length p5.2]) m [0, 1, 2, 3] (by exact ⟨rfl, rfl, rfl, rfl, rfl, rfl, trivial⟩) (by decide) (by
    rw [take_setS hci, Jhi hi]; rfl) (by exact ⟨cnt_step H hi, by simpa using hcl, hi, fun j hj hj2 => by rw [List.getElem?_set_ne (by omega)]; exact hcs j (by omega) hj2⟩) (Nat.lt_succ_self _)
 ·have hi : i = a0.kag.length := by have := of_decide_eq_false hb; omega
  refine Qp ?_
  refine Jc ?_
  refine Ja ?_
  refine Jf rfl rfl rfl (Jk (v := .slice p.1 a0.kag.length p.2) rfl) ?_
  refine Jf rfl rfl rfl (Jr Tryz.runUnderlying24 rfl Tryz.sizeOf22 rfl rfl) ?_
  refine Qu (i := 0) (vs := [.slice p.1 a0.kag.length p.2]) (cs' := [.bool a0.Big, .slice p.1 a0.kag.length p.2]) Tryz.sizeOf22 rfl rfl rfl rfl rfl rfl rfl rfl rfl ?_
  refine Jd ?_
  refine Jc ?_
  refine Ja ?_
  refine Q0 (i := 0) (vs := [.bool a0.Big, .slice p.1 a0.kag.length p.2]) Tryz.isAgg24 Tryz.sizeOf24 rfl rfl rfl rfl rfl ?_
  refine Qu (i := 1) (vs := [.bool a0.Big, .slice p.1 a0.kag.length p.2]) (cs' := [.bool a0.Big, .slice p.1 a0.kag.length p.2]) Tryz.sizeOf24 rfl rfl rfl rfl rfl rfl rfl rfl rfl ?_
  refine Jd ?_
  refine Ji ?_
  refine Qc 2 3 rfl rfl (by decide) ?_
  refine J1 2 rfl (Imp.of (show Qy (J3 41 1 (.slice p.1 a0.kag.length p.2) a0.kag.length (css.map Vp)) (Jdm d (css.take i) (a0.kag.take i)) = Qy (J3 41 1 (.slice p.1 a0.kag.length p.2) a0.kag.length css) (Jdm d css a0.kag) from by rw [W7, hi, List.take_of_length_le (by omega), List.take_length])) ?_
  refine J1 2 rfl imp_file ?_
  refine retC (i := 1) (vs := [.bool a0.Big, .slice p.1 a0.kag.length p.2]) Tryz.isAgg24 Tryz.sizeOf24 rfl rfl rfl rfl (Yg p (i := 2) rfl rfl (Imp.refl _))
end Go.Proofs.YtkbiccgjkiifpaaGreatDoor

namespace Go.Proofs.YtkbiccgjkiifpaaGreatDoor
open Go Go.Vc Go.Md Go.M Go.Lx
set_option maxRecDepth 100000
theorem Jib {Φ Ψ : Jw → List Nat → Prop} (a1 : ∀ h h' bs, (∀ q ∈ bs, ∀ o, h q = some o → h' q = some o) → Φ h bs → Φ h' bs) (a2 : ∀ h h' bs, (∀ q ∈ bs, ∀ o, h q = some o → h' q = some o) → Ψ h bs → Ψ h' bs)
    {S : Nat → Prop} {w : World} {hp : Jw} {b1 b2 : List Nat} (hn : (b1 ++ b2).Nodup) (hd : ∀ b ∈ b1 ++ b2, ∃ o, hp b = some o) (p : (Vi Wa hp).P S w) (f1 : Φ hp b1) (f2 : Ψ hp b2) : (Qy (Uj Φ) (Uj Ψ)).P S w := by
  have key : ∀ b o, hp b = some o → S b ∧ w.heap[b]? = some o := fun b o h => (p.2 b o h).elim (fun h => by cases h) id
  obtain ⟨n1, n2, n3⟩ := List.nodup_append.1 hn
  have part : ∀ {Θ : Jw → List Nat → Prop} {bs : List Nat}, (∀ h h' bs, (∀ q ∈ bs, ∀ o, h q = some o → h' q = some o) → Θ h bs → Θ h' bs) → bs.Nodup → (∀ b ∈ bs, ∃ o, hp b = some o) → Θ hp bs → (Uj Θ).P (fun b => b ∈ bs) w := fun a n d f =>
    ⟨Jgm w _, ⟨_, a _ _ _ (fun q hq o ho => restr_some.2 ⟨hq, (key q o ho).2⟩) f, n, fun b hb => by obtain ⟨o, ho⟩ := d b hb; exact ⟨o, restr_some.2 ⟨hb, (key b o ho).2⟩⟩⟩, Jfi _ _⟩
  refine ⟨_, _, part a1 n1 (fun b hb => hd b (List.mem_append_left _ hb)) f1, part a2 n2 (fun b hb => hd b (List.mem_append_right _ hb)) f2, fun b hb => ?_, fun b hb => ?_, fun b h1 h2 => n3 b h1 b h2 rfl⟩
  · obtain ⟨o, ho⟩ := hd b (List.mem_append_left _ hb); exact (key b o ho).1
  · obtain ⟨o, ho⟩ := hd b (List.mem_append_right _ hb); exact (key b o ho).1
theorem own_row {Φ : Jw → List Nat → Prop} (a1 : ∀ h h' bs, (∀ q ∈ bs, ∀ o, h q = some o → h' q = some o) → Φ h bs → Φ h' bs) {S : Nat → Prop} {w : World} {hp : Jw} {E sz : Nat} {v : Value} {css : List (List Value)} {b2 : List Nat}
    (hn : (v.ownBlock.toList ++ b2).Nodup) (hd : ∀ b ∈ v.ownBlock.toList ++ b2, ∃ o, hp b = some o) (p : (Vi Wa hp).P S w) (r : RowP hp E sz v css) (f : Φ hp b2) : (Qy (Uj Φ) (J3 E sz v css.length css)).P S w := by
  obtain ⟨n1, n2, n3⟩ := List.nodup_append.1 hn
  obtain ⟨S1, S2, q1, q2, s1, s2, sd⟩ := (imp_thaw (n := css.length) r rfl).out _ _ p
  have hne : ∀ q ∈ b2, rmV hp v q = hp q := fun q hq => if_neg fun e => n3 q (by rw [e]; simp) q hq rfl
  exact ⟨S1, S2, ⟨_, ⟨b2, a1 _ _ _ (fun q hq o ho => (hne q hq).trans ho) f, n2, fun b hb => by obtain ⟨o, ho⟩ := hd b (List.mem_append_right _ hb); exact ⟨o, (hne b hb).trans ho⟩⟩, q1⟩, q2, s1, s2, sd⟩
theorem TreeE.lift {R R' : Jw → Value → List Ta → List Nat → Prop} {h : Jw} (k : ∀ v xs bs, R h v xs bs → R' h v xs bs) {c : List Value} {x : Ta} {bs : List Nat} (t : TreeE R h c x bs) : TreeE R' h c x bs := by
  obtain ⟨v3, v4, v5, b5, e1, e2, e3, e4, e5⟩ := t; exact ⟨v3, v4, v5, b5, e1, e2, e3, k _ _ _ e4, e5⟩
theorem TreeL.up : ∀ {d : Nat} {h : Jw} {v : Value} {xs : List Ta} {bs : List Nat}, TreeL d h v xs bs → TreeL (d + 1) h v xs bs := by
  intro d
  induction d with
  | zero => rintro h v xs bs ⟨rfl, rfl, rfl⟩; exact ⟨[], [], ⟨by simp, .inl ⟨rfl, rfl⟩⟩, rfl, rfl⟩
  | succ d ih => rintro h v xs bs ⟨css, b2, r, k, e⟩; exact ⟨css, b2, r, k.map (fun c x b t _ => t.lift fun v xs bs t => ih t) fun _ _ _ h => h, e⟩
theorem Jg3 {d : Nat} {v : Value} {xs : List Ta} : Imp (Yw d v xs) (Yw (d + 1) v xs) := Jid fun _ _ t => t.up
theorem imp_upK {d : Nat} {css : List (List Value)} {xs : List Ta} : Imp (Jck d css xs) (Jck (d + 1) css xs) := Jid fun _ _ k => k.map (fun c x b t _ => t.lift fun v xs bs t => t.up) fun _ _ _ h => h
theorem imp_upD {d : Nat} {css : List (List Value)} {ls : List (List Ta)} : Imp (Jdm d css ls) (Jdm (d + 1) css ls) := Jid fun _ _ k => k.map (fun c x b t _ => by obtain ⟨u, e, t⟩ := t; exact ⟨u, e, t.up⟩) fun _ _ _ h => h
theorem Jjl {d : Nat} {v : Value} {ls : List (List Ta)} : Imp (Jbn d v ls) (Jbn (d + 1) v ls) := Jid fun _ _ t => by
  obtain ⟨css, b2, r, g, e⟩ := t; exact ⟨css, b2, r, g.map (fun c x b t _ => by obtain ⟨u, e, t⟩ := t; exact ⟨u, e, t.up⟩) fun _ _ _ h => h, e⟩
theorem KidsG.unsnoc {α : Type} {T : Jw → List Value → α → List Nat → Prop} {h : Jw} {c : List Value} {x : α} : ∀ {css : List (List Value)} {xs : List α} {bs : List Nat}, KidsG T h (css ++ [c]) (xs ++ [x]) bs → ∃ b1 b2, bs = b1 ++ b2 ∧ KidsG T h css xs b1 ∧ T h c x b2
  | [], [], bs, k => by
    obtain ⟨b1, b2, k1, k2, k3⟩ := k
    have k2 : b2 = [] := k2
    subst k2
    exact ⟨[], b1, by simpa using k3, rfl, k1⟩
  | [], y :: xs, bs, k => by
    obtain ⟨b1, b2, k1, k2, k3⟩ := k
    cases xs with
    | nil => exact k2.elim
    | cons => exact k2.elim
  | y :: css, [], bs, k => by
    obtain ⟨b1, b2, k1, k2, k3⟩ := k
    cases css with
    | nil => exact k2.elim
    | cons => exact k2.elim
  | y :: css, z :: xs, bs, k => by
    obtain ⟨b1, b2, k1, k2, k3⟩ := k
    obtain ⟨b3, b4, e, k4, k5⟩ := KidsG.unsnoc (css := css) (xs := xs) k2
    exact ⟨b1 ++ b3, b4, by rw [k3, e, List.append_assoc], ⟨b1, b3, k1, k4, rfl⟩, k5⟩
theorem Jkh {d : Nat} {css : List (List Value)} {xs : List Ta} (h h' : Jw) (bs : List Nat) (k : ∀ q ∈ bs, ∀ o, h q = some o → h' q = some o) (t : KidsL (TreeL d) h css xs bs) : KidsL (TreeL d) h' css xs bs := t.agree (fun c x b t k => t.agree (fun v xs b t k => t.agree k) k) k
theorem Jjz {d : Nat} {css : List (List Value)} {ls : List (List Ta)} (h h' : Jw) (bs : List Nat) (k : ∀ q ∈ bs, ∀ o, h q = some o → h' q = some o) (t : KidsG (DirE d) h css ls bs) : KidsG (DirE d) h' css ls bs := t.agree (fun c x b t k => t.agree k) k
theorem ent_agree {d : Nat} {c : List Value} {x : Ta} (h h' : Jw) (bs : List Nat) (k : ∀ q ∈ bs, ∀ o, h q = some o → h' q = some o) (t : TreeE (TreeL d) h c x bs) : TreeE (TreeL d) h' c x bs := t.agree (fun v xs b t k => t.agree k) k
theorem imp_lastK {d : Nat} {css : List (List Value)} {xs : List Ta} {c : List Value} {x : Ta} : Imp (Jck d (css ++ [c]) (xs ++ [x])) (Qy (Jck d css xs) (Uj fun h bs => TreeE (TreeL d) h c x bs)) := ⟨fun S w ⟨hp, ⟨bs, k, hn, hd⟩, p⟩ => by
  obtain ⟨b1, b2, rfl, k1, k2⟩ := KidsG.unsnoc k
  exact Jib Jkh ent_agree hn hd p k1 k2⟩
theorem last_dir {d : Nat} {css : List (List Value)} {ls : List (List Ta)} {c : List Value} {l : List Ta} {S : Nat → Prop} {w : World} (h : (Jdm d (css ++ [c]) (ls ++ [l])).P S w) : ∃ u, c = [u] ∧ (Qy (Jdm d css ls) (Yw d u l)).P S w := by
  obtain ⟨hp, ⟨bs, k, hn, hd⟩, p⟩ := h
  obtain ⟨b1, b2, rfl, k1, u, rfl, k2⟩ := KidsG.unsnoc k
  exact ⟨u, rfl, Jib Jjz (fun h h' bs k t => t.agree k) hn hd p k1 k2⟩
theorem Jec {d : Nat} {v : Value} {xs : List Ta} {S : Nat → Prop} {w : World} (h : (Yw (d + 1) v xs).P S w) : ∃ css : List (List Value), css.length = xs.length ∧ (Qy (Jck d css xs) (J3 83 6 v css.length (css.map Vp))).P S w := by
  obtain ⟨hp, ⟨bs, ⟨css, b2, r, k, rfl⟩, hn, hd⟩, p⟩ := h
  refine ⟨css, k.len, ?_⟩
  rw [W7]
  exact own_row Jkh hn hd p r k
theorem Jiy {d : Nat} {v : Value} {ls : List (List Ta)} {S : Nat → Prop} {w : World} (h : (Jbn d v ls).P S w) : ∃ css : List (List Value), css.length = ls.length ∧ (Qy (Jdm d css ls) (J3 41 1 v css.length (css.map Vp))).P S w := by
  obtain ⟨hp, ⟨bs, ⟨css, b2, r, k, rfl⟩, hn, hd⟩, p⟩ := h
  refine ⟨css, k.len, ?_⟩
  rw [W7]
  exact own_row Jjz hn hd p r k
theorem imp_swap {C D : Chunk} : Imp (Qy C D) (Qy D C) := ⟨fun _ _ ⟨S1, S2, a, b, s1, s2, sd⟩ => ⟨S2, S1, b, a, s2, s1, fun b h1 h2 => sd b h2 h1⟩⟩
theorem Jce {d n : Nat} {v : Value} {css : List (List Value)} {xs : List Ta} : Imp (Qy (Jck d css xs) (J3 83 6 v n (css.map Vp))) (Yw (d + 1) v xs) := by
  rw [W7]
  exact Xe imp_swap imp_tree
theorem Jiu {d n : Nat} {v : Value} {css : List (List Value)} {ls : List (List Ta)} : Imp (Qy (Jdm d css ls) (J3 41 1 v n (css.map Vp))) (Jbn d v ls) := by
  rw [W7]
  exact Xe imp_swap imp_file
def LeafP (v3 v4 : Value) (x : Ta) (h : Jw) (bs : List Nat) : Prop := FrS h 1 v3 (x.Value.kaf.map Qz) ∧ FrS h 2 v4 (x.Value.kac.map Jl) ∧ bs = roB v3 x.Value.kaf.length ++ roB v4 x.Value.kac.length
theorem Jka {v3 v4 : Value} {x : Ta} (h h' : Jw) (bs : List Nat) (k : ∀ q ∈ bs, ∀ o, h q = some o → h' q = some o) (t : LeafP v3 v4 x h bs) : LeafP v3 v4 x h' bs := by
  obtain ⟨f1, f2, rfl⟩ := t
  exact ⟨f1.agree (by rw [List.length_map]; exact fun q hq => k q (List.mem_append_left _ hq)), f2.agree (by rw [List.length_map]; exact fun q hq => k q (List.mem_append_right _ hq)), rfl⟩
theorem ent_show {d : Nat} {c : List Value} {x : Ta} {S : Nat → Prop} {w : World} (h : (Uj fun h bs => TreeE (TreeL d) h c x bs).P S w) :
    ∃ y : Value × Value × Value, c = [.int .i64 x.Tag, .int .i64 x.Value.kad, str x.Value.kae, y.1, y.2.1, y.2.2] ∧ (Qy (Uj (LeafP y.1 y.2.1 x)) (Yw d y.2.2 x.Value.kab)).P S w := by
  obtain ⟨hp, ⟨bs, ⟨v3, v4, v5, b5, e1, e2, e3, e4, rfl⟩, hn, hd⟩, p⟩ := h
  rw [← List.append_assoc] at hn hd
  exact ⟨(v3, v4, v5), e1, Jib Jka (fun h h' bs k t => t.agree k) hn hd p ⟨e2, e3, rfl⟩ e4⟩
theorem imp_ent {d : Nat} {v3 v4 v5 : Value} {x : Ta} {zs : List Ta} : Imp (Qy (Uj (LeafP v3 v4 x)) (Yw d v5 zs)) (Uj fun h bs => TreeE (TreeL d) h [.int .i64 x.Tag, .int .i64 x.Value.kad, str x.Value.kae, v3, v4, v5] (W6 x zs) bs) :=
  Jee (fun h h' bs k t => Jka h h' bs (fun q _ => k q) t) (fun h h' bs k t => t.mono k) fun h b1 b2 t1 t2 => ⟨v3, v4, v5, b2, rfl, t1.1, t1.2.1, t2, by rw [t1.2.2, List.append_assoc]; rfl⟩
abbrev rdC (d pb : Nat) (r : TxR) : Chunk := exC fun x : (Option Addr × Nat) × (Option Addr × Nat) => Qy (Jn pb [.bool r.big, .slice x.1.1 r.dirs.length x.1.2, .slice x.2.1 r.op.length x.2.2] 57) (Qy (Jbn d (.slice x.1.1 r.dirs.length x.1.2) r.dirs) (Yw (d + 1) (.slice x.2.1 r.op.length x.2.2) r.op))
theorem U9 {d pb : Nat} {r : TxR} : Imp (rdC d pb r) (rdC (d + 1) pb r) := ⟨fun S w ⟨x, h⟩ => ⟨x, (Jat (Imp.refl _) (Jat Jjl Jg3)).out _ _ h⟩⟩
end Go.Proofs.YtkbiccgjkiifpaaGreatDoor

namespace Go.Lx
open Go Go.Vc Go.Md
section
variable {P : Program} {ops : Array Oper} {Q : Exit → Act → World → Prop}
theorem Je8 {i : Nat} {o : Oper} {K : Act → World → Prop} {rest : List Oper} {a : Act} {w : World} (ho : ops[i]? = some o) (h : ∀ a w, wpList P ops Q rest a w → K a w) (hw : wpList P ops Q (o :: rest) a w) : wpOp P ops Q i K a w := by
 unfold wpOp
 rw [ho]
 simp only [wpList] at hw ⊢
 split
 ·rename_i hq; rw [if_pos hq] at hw; exact hw.imp (Oper.wp_mono h) id
 ·rename_i hq; rw [if_neg hq] at hw; exact h _ _ hw
theorem wpOp_both {i : Nat} {o : Oper} {K : Act → World → Prop} {r1 r2 : List Oper} {a : Act} {w : World} (ho : ops[i]? = some o) (hv : ∃ v w', (execOp a.eval o).run P w = .ok (.value v) w') (h : ∀ a w, wpList P ops Q r1 a w → wpList P ops Q r2 a w → K a w)
  (h1 : wpList P ops Q (o :: r1) a w) (h2 : wpList P ops Q (o :: r2) a w) : wpOp P ops Q i K a w := by
 unfold wpOp
 rw [ho]
 simp only [wpList] at h1 h2 ⊢
 split
 ·rename_i hq
  rw [if_pos hq] at h1 h2
  rcases h1 with h1 | h1
  ·rcases h2 with h2 | h2
   ·obtain ⟨v, w', e⟩ := hv
    refine .inl ?_
    unfold Oper.wp at h1 h2 ⊢
    rw [e] at h1 h2 ⊢
    exact h _ _ h1 h2
   ·exact .inr h2
  ·exact .inr h1
 ·rename_i hq; rw [if_neg hq] at h1 h2; exact h _ _ h1 h2
def tossB (ops : Array Oper) : Bool :=
 Region.ready .any ops #[false, false, false, false] == [0] && Region.ready .any ops #[true, false, false, false] == [1, 2] && Region.ready .any ops #[true, true, false, false] == [2] && Region.ready .any ops #[true, false, true, false] == [1] && Region.ready .any ops #[true, true, true, false] == [3] && Region.ready .any ops #[true, true, true, true] == []
theorem wpAny_toss {o0 o1 o2 o3 : Oper} (hB : tossB #[o0, o1, o2, o3] = true) {a : Act} {w : World} (hv : ∃ v w', (execOp a.eval o0).run P w = .ok (.value v) w') (h1 : wpList P #[o0, o1, o2, o3] Q [o0, o1, o2, o3] a w) (h2 : wpList P #[o0, o1, o2, o3] Q [o0, o2, o1, o3] a w) : wpAny P .any #[o0, o1, o2, o3] Q 4 #[false, false, false, false] a w := by
 simp only [tossB, Bool.and_eq_true, beq_iff_eq] at hB
 obtain ⟨⟨⟨⟨⟨r0, r1⟩, r2⟩, r3⟩, r4⟩, r5⟩ := hB
 have e4 : ∀ a w, wpList P #[o0, o1, o2, o3] Q [] a w → wpAny P .any #[o0, o1, o2, o3] Q 0 #[true, true, true, true] a w := fun a w h => ⟨r5, h⟩
 have e3 : ∀ a w, wpList P #[o0, o1, o2, o3] Q [o3] a w → wpAny P .any #[o0, o1, o2, o3] Q 1 #[true, true, true, false] a w := fun a w h => by
  refine ⟨fun h => (by rw [r4] at h; cases h), fun i hi => ?_⟩
  rw [r4] at hi; simp at hi; subst hi
  exact Je8 rfl e4 h
 have e1 : ∀ a w, wpList P #[o0, o1, o2, o3] Q [o2, o3] a w → wpAny P .any #[o0, o1, o2, o3] Q 2 #[true, true, false, false] a w := fun a w h => by
  refine ⟨fun h => (by rw [r2] at h; cases h), fun i hi => ?_⟩
  rw [r2] at hi; simp at hi; subst hi
  exact Je8 rfl e3 h
 have e2 : ∀ a w, wpList P #[o0, o1, o2, o3] Q [o1, o3] a w → wpAny P .any #[o0, o1, o2, o3] Q 2 #[true, false, true, false] a w := fun a w h => by
  refine ⟨fun h => (by rw [r3] at h; cases h), fun i hi => ?_⟩
  rw [r3] at hi; simp at hi; subst hi
  exact Je8 rfl e3 h
 have both : ∀ a w, wpList P #[o0, o1, o2, o3] Q [o1, o2, o3] a w → wpList P #[o0, o1, o2, o3] Q [o2, o1, o3] a w → wpAny P .any #[o0, o1, o2, o3] Q 3 #[true, false, false, false] a w := fun a w g1 g2 => by
  refine ⟨fun h => (by rw [r1] at h; cases h), fun i hi => ?_⟩
  rw [r1] at hi; simp at hi
  rcases hi with rfl | rfl
  ·exact Je8 rfl e1 g1
  ·exact Je8 rfl e2 g2
 refine ⟨fun h => (by rw [r0] at h; cases h), fun i hi => ?_⟩
 rw [r0] at hi; simp at hi; subst hi
 exact wpOp_both rfl hv both h1 h2
end
theorem c_toss {P : Program} {n : Nat} {cx : Cx} {Q : Jax} {e : Xl} {L : List Chunk} {id : Nat} {o0 o1 o2 o3 : Oper} (hm : P.follows .mixedOrders = true) (hB : tossB #[o0, o1, o2, o3] = true) (hv : ∀ w, ∃ v w', (execOp (ev e) o0).run P w = .ok (.value v) w')
  (h1 : At cx (WL P n #[o0, o1, o2, o3] Q [o0, o1, o2, o3]) e L) (h2 : At cx (WL P n #[o0, o1, o2, o3] Q [o0, o2, o1, o3]) e L) : At cx (WC P n (.region id #[o0, o1, o2, o3] true) Q) e L :=
 ⟨fun w hF hS => ⟨fun a ha => by
  have hg : Grow w { w with drawn := w.drawn + 1 } := ⟨rfl, rfl, rfl, Nat.le_refl _, fun _ _ => rfl⟩
  have hF' : Fr cx { w with drawn := w.drawn + 1 } := ⟨hF.os, hF.tape, hF.output, hF.size, hF.block⟩
  have hS' := hS.grow hg
  refine wp_region_any hm (wpAny_toss hB ?_ ((h1.out _ hF' hS').out a ha) ((h2.out _ hF' hS').out a ha))
  have := ha.ev
  rw [this]
  exact hv _⟩⟩
def Jd3 (C : Chunk) (a : Value) (cs : List Value) : Chunk where
 P S w := ∃ (w' : World) (g k E : Nat) (cur : Array Value), a = .pointer (some ⟨g, k, none⟩) ∧ C.P S w' ∧ w'.heap[g]? = some (.cells cur E (0, 0)) ∧ ∀ b, S b → w.heap[b]? = (w'.setRow g (cur.toList.take k ++ cs ++ cur.toList.drop (k + cs.length)).toArray).heap[b]?
 loc S w w2 h := fun ⟨w', g, k, E, cur, h1, h3, h4, h5⟩ => ⟨w', g, k, E, cur, h1, h3, h4, fun b hb => (h b hb).trans (h5 b hb)⟩
theorem Jj3 {E sz m c i : Nat} {a : Option Addr} {xs : List (List Value)} {cs : List Value} (hi : i < xs.length) (hc : cs.length = sz) (h0 : 0 < sz) : Imp (Jd3 (J3 E sz (.slice a m c) m xs) (X1 a (i * sz)) cs) (J3 E sz (.slice a m c) m (xs.set i cs)) := ⟨fun S w ⟨w', g, k, E', cur, h1, h3, h4, h5⟩ => by
 refine Chunk.loc _ _ _ _ h5 ?_
 obtain ⟨⟨ho, hm, hl⟩, hob⟩ := h3
 have hy : xs[i]? = some xs[i] := List.getElem?_eq_getElem hi
 have hl2 : ∀ z ∈ xs.set i cs, z.length = sz := fun z hz => by
  rcases List.mem_or_eq_of_mem_set hz with h | h
  ·exact hl z h
  ·subst h; exact hc
 rcases ho.2 with ⟨_, h00⟩ | ⟨g0, cap, cur0, hv0, hb0, hh, hnc, hcm, hcs, htk⟩
 ·omega
 ·simp only [Value.slice.injEq] at hv0
  obtain ⟨rfl, _, rfl⟩ := hv0
  simp only [X1, Value.pointer.injEq, Option.some.injEq, Addr.mk.injEq] at h1
  obtain ⟨rfl, rfl, _⟩ := h1
  rw [hh] at h4
  simp only [Option.some.injEq, Obj.cells.injEq] at h4
  obtain ⟨rfl, rfl, _⟩ := h4
  have hcap : m * sz ≤ c * sz := Nat.mul_le_mul_right _ hnc
  have hle : (i + 1) * sz ≤ m * sz := Nat.mul_le_mul_right _ (by omega)
  rw [Nat.succ_mul] at hle
  refine ⟨⟨⟨?_, .inr ⟨g0, c, _, rfl, hb0, setRow_heap w' g0 cur0 _ E _ hh, hnc, hcm, ?_, ?_⟩⟩, by simpa using hm, hl2⟩, hob⟩
  ·rw [Jag (sz := sz) _ hl2]; simp [hm]
  ·simp only [List.size_toArray, List.length_append, List.length_take, List.length_drop, Array.length_toList, hcs]
   omega
  ·rw [List.toList_toArray]
   have hxi := hl _ (List.getElem_mem hi)
   have := set_cells (j := 0) (vs := cs) (x' := cs) hl htk hm hy (by simpa [hcs] using hcap) (by omega) (by rw [List.take_zero, List.nil_append, List.drop_eq_nil_of_le (by omega), List.append_nil])
   simpa using this⟩
section
variable {P : Program} {cx : Cx} {e : Xl} {L : List Chunk} {K : Xl → World → Prop} {ops : Array Oper} {F : Xl → List Chunk → Prop} {rest : List Oper} {ss : List Kd} {ty : TypeId} {pos : String} {af : Array Edge} {g : Option (Nat × Bool)}
theorem Jh6 {q T szT k m c E sz : Nat} {A X : Operand} {x : Value} {a : Option Addr} {vs : List Value} {xs : List (List Value)} (hs : ∀ w, (sizeOf T).run P w = .ok szT w) (hp : ev e A = X1 a k) (hx : ev e X = x) (hc : x.cells.toList = vs) (hsz : vs.length = szT)
  (hone : vs.all Value.oneCell' = true) (hm : 0 < m) (hk : k + vs.length ≤ m * sz) (hL : L[q]? = some (J3 E sz (.slice a m c) m xs)) :
  Turns P cx e ⟨none, .store T A X, ty, pos, af, g⟩ L q [] (fun _ : Unit => undef) (fun _ => Jd3 (J3 E sz (.slice a m c) m xs) (X1 a k) vs) := by
 intro w L' hF hS hl hi
 have hL' := (hi q (.inr rfl)).trans hL
 have hrun : ∀ (S1 : Nat → Prop), (J3 E sz (.slice a m c) m xs).P S1 w → (∀ b, S1 b → b < w.heap.size) → ∃ w', (execOp (ev e) ⟨none, .store T A X, ty, pos, af, g⟩).run P w = .ok .skip w' ∧ Turn w w' S1 (Jd3 (J3 E sz (.slice a m c) m xs) (X1 a k) vs) := fun S1 h hlt => by
  have h' := h
  obtain ⟨⟨ho, hmx, hlx⟩, hob⟩ := h
  rcases ho.2 with ⟨_, h00⟩ | ⟨g0, cap, cur, hv0, hb0, hh, hnc, hcm, hcs, htk⟩
  ·omega
  ·simp only [Value.slice.injEq] at hv0
   obtain ⟨rfl, _, rfl⟩ := hv0
   have hcap : m * sz ≤ c * sz := Nat.mul_le_mul_right _ hnc
   have hst := run_storeCells_at P g0 k E vs 0 cur w hh (by omega) (by simpa using hone)
   have hsz' : x.cells.size = szT := by rw [← hsz, ← hc]; simp
   have hp' : ev e A = .pointer (some ⟨g0, k, none⟩) := by rw [hp]; simp [X1]
   have hSg : S1 g0 := hob g0 rfl
   simp only [Nat.add_zero] at hst
   refine ⟨w.setRow g0 (cur.toList.take k ++ vs ++ cur.toList.drop (k + vs.length)).toArray, by
    simp only [execOp, Instr.storeAt, Instr.sureAddr, storeVar, hp', hx, Sem.run_bind, Sem.run_pure, Result.andThen_ok, hs, hsz', ne_eq, not_true_eq_false, if_false, hc, hst], rfl, rfl, rfl, by simp, fun d hd hn => setRow_other w g0 d _ (fun e => hn (e ▸ hSg)), S1, ⟨w, g0, k, E, cur, by simp [X1], h', hh, fun b _ => rfl⟩, fun d hd => ⟨by simpa using hlt d hd, .inl hd⟩⟩
 obtain ⟨S0, hC, hlt⟩ := hS.at hL'
 obtain ⟨w', hr, ht⟩ := hrun S0 hC (fun b hb => (hlt b hb).1)
 have hF' := hF.turn ht fun b hs => (hlt b hs).2
 have hS' := hS.turnAt hF hL' (w' := w') (C := Jd3 (J3 E sz (.slice a m c) m xs) (X1 a k) vs) (fun S1 hp hlt1 => by
  obtain ⟨w1, hr1, ht1⟩ := hrun S1 hp fun b hb => (hlt1 b hb).1
  rw [hr] at hr1
  cases hr1
  exact ht1) ht.size
 unfold RunsTo
 rw [hr]
 exact ⟨(), rfl, hF', hS'⟩
def _root_.Go.Vc.Kd.so (a i : Nat) (cs : List Value) : Kd := .g [a] [i] [i] (fun _ _ v => v = undef) (fun vs ls _ => [Jd3 ((ls.headD none).getD empC) (vs.headD undef) cs])
theorem d_storeD {o : Oper} {i a : Nat} {C0 : Chunk} {cs : List Value} (h : Turns P cx e o L i [] (fun _ : Unit => undef) (fun _ => Jd3 C0 (e a) cs)) (hL : L[i]? = some C0) (hw : X3 ops o e = true) (hd : o.dst = none) (k : Sq P cx ops F rest ss e (L.set i (Jd3 C0 (e a) cs))) : Sq P cx ops F (o :: rest) (.so a i cs :: ss) e L := by
 have hq : (([i].map (Vc.look L)).headD none).getD empC = C0 := by show (L[i]?).getD empC = C0; rw [hL]; rfl
 have ha : ([a].map e).headD undef = e a := rfl
 refine .take hw ⟨undef, rfl⟩ ⟨fun w L' hF hS hl hi => ?_⟩ fun v' hv' => ?_
 ·refine (h w L' hF hS hl fun j hj => hi j (by simpa [Kd.so, Kd.rds, Kd.wrs] using hj)).mono fun v w' ⟨x, hv, hF', hS'⟩ => ?_
  subst hv
  refine ⟨rfl, hF', ?_⟩
  show Sat cx w' (L'.set i (Jd3 ((([i].map (Vc.look L)).headD none).getD empC) (([a].map e).headD undef) cs))
  rw [hq]
  exact hS'
 ·obtain rfl : v' = undef := hv'
  show Sq P cx ops F rest ss (Jdv e o.dst undef) (L.set i (Jd3 ((([i].map (Vc.look L)).headD none).getD empC) (([a].map e).headD undef) cs))
  rw [hq, hd]
  exact k
end
end Go.Lx

namespace Go.Proofs.YtkbiccgjkiifpaaGreatDoor
open Go Go.Vc Go.Md Go.M Go.Lx
set_option maxRecDepth 100000
set_option maxHeartbeats 400000
theorem Jft {α : Type} {xs : List α} (h : 0 < xs.length) : ∃ ys y, xs = ys ++ [y] := by
  rcases List.eq_nil_or_concat xs with rfl | ⟨ys, y, rfl⟩
  · simp at h
  · exact ⟨ys, y, by simp⟩
theorem Jhs {α : Type} {xs : List α} {x y : α} {q : Int} (hq : q = ((xs ++ [x]).length : Int) - 1) (h : Yv (xs ++ [x]) q = some y) : y = x := by
  have e : q = ((xs.length : Nat) : Int) := by rw [hq]; simp
  rw [e, Qs (by simp)] at h
  simpa using h.symm
theorem gSet_last {α : Type} {xs zs : List α} {x y : α} {q : Int} (hq : q = ((xs ++ [x]).length : Int) - 1) (h : gSet (xs ++ [x]) q y = some zs) : zs = xs ++ [y] := by
  have e : q = ((xs.length : Nat) : Int) := by rw [hq]; simp
  rw [e] at h
  obtain ⟨_, _, rfl⟩ := Je6 h
  simp
theorem Jd9 {α : Type} {xs : List α} {x : α} {q : Int} (hq : q = ((xs ++ [x]).length : Int) - 1) : Yv (xs ++ [x]) q = some x := by
  have e : q = ((xs.length : Nat) : Int) := by rw [hq]; simp
  rw [e, Qs (by simp)]; simp
theorem Jkc {css : List (List Value)} {c : List Value} {q : Int} {j : Nat} {v : Value} (hq : q = ((css ++ [c]).length : Int) - 1) : setR (css ++ [c]) q j v = css ++ [c.set j v] := by
  have e : q.toNat = css.length := by rw [hq]; simp
  unfold setR
  rw [e]; simp
theorem row_some {E sz n c : Nat} {a : Option Addr} {css : List (List Value)} {S : Nat → Prop} {w : World} (h : (J3 E sz (.slice a n c) n css).P S w) (hn : 0 < n) : ∃ g, a = some ⟨g, 0, none⟩ := by
  obtain ⟨⟨ho, hm, hl⟩, hob⟩ := h
  rcases ho.2 with ⟨_, h00⟩ | ⟨g0, cap, cur, hv0, _⟩
  · omega
  · simp only [Value.slice.injEq] at hv0; exact ⟨g0, hv0.1⟩
theorem row_form {E sz : Nat} {v : Value} {css : List (List Value)} {S : Nat → Prop} {w : World} (h : (J3 E sz v css.length css).P S w) : ∃ p : Option Addr × Nat, v = .slice p.1 css.length p.2 := by
  obtain ⟨⟨ho, hm, hl⟩, hob⟩ := h
  rcases ho.2 with ⟨rfl, h00⟩ | ⟨g0, cap, cur, rfl, _⟩
  · exact ⟨(none, 0), by rw [h00]⟩
  · exact ⟨(_, cap), rfl⟩
theorem row_formI {E sz : Nat} {v : Value} {css : List (List Value)} {S : Nat → Prop} {w : World} (h : (J3 E sz v css.length (css.map Vp)).P S w) : ∃ p : Option Addr × Nat, v = .slice p.1 css.length p.2 ∧ (J3 E sz (.slice p.1 css.length p.2) css.length (css.map Vp)).P S w := by
  rw [W7] at h ⊢
  obtain ⟨p, rfl⟩ := row_form h
  exact ⟨p, rfl, h⟩
theorem Jjq {d : Nat} {v3 v4 v5 : Value} {e : Ta} {S : Nat → Prop} {w : World} (h : (Uj fun h bs => TreeE (TreeL d) h [.int .i64 e.Tag, .int .i64 e.Value.kad, str e.Value.kae, v3, v4, v5] e bs).P S w) : v3.oneCell' = true ∧ v4.oneCell' = true ∧ v5.oneCell' = true := by
  obtain ⟨hp, ⟨bs, ⟨w3, w4, w5, b5, e1, e2, e3, e4, _⟩, _⟩, _⟩ := h
  simp only [List.cons.injEq, and_true, true_and] at e1
  obtain ⟨rfl, rfl, rfl⟩ := e1
  exact ⟨e2.one, e3.one, e4.frn.frs.one⟩
theorem k46 {d pb : Nat} {v3 v4 v5 : Value} {r r' : TxR} {e : Ta} {w : World} {S : Nat → Prop} (hcs : (Qy (rdC d pb r) (Uj fun h bs => TreeE (TreeL d) h [.int .i64 e.Tag, .int .i64 e.Value.kad, str e.Value.kae, v3, v4, v5] e bs)).P S w) (hlt : ∀ b, S b → b < w.heap.size) (H : Jf3 r e = some r') :
    Does Tryz.prog 46 (List.toArray [pz pb, .agg #[.int .i64 e.Tag, .int .i64 e.Value.kad, str e.Value.kae, v3, v4, v5]]) w (fun v w' => ∃ x : Unit, v = .tuple #[] ∧ Turn w w' S (rdC (d + 1) pb r')) := by
 obtain ⟨big, dirs, op⟩ := r
 unfold Jf3 at H
 refine enter (n := 83) Tryz.func46 rfl rfl rfl S [Qy (rdC d pb ⟨big, dirs, op⟩) (Uj fun h bs => TreeE (TreeL d) h [.int .i64 e.Tag, .int .i64 e.Value.kad, str e.Value.kae, v3, v4, v5] e bs)] (Sat.one hcs hlt) ?_
 refine Xo 0 rfl ?_
 try dsimp only [z1, z2, z3, z4, z5, z6, z7, z8]
 refine c_ex 0 rfl fun ⟨pd, po⟩ => ?_
 refine Xo 0 rfl ?_
 try dsimp only [z1, z2, z3, z4, z5, z6, z7, z8]
 refine Xo 2 rfl ?_
 try dsimp only [z1, z2, z3, z4, z5, z6, z7, z8]
 refine Uq (C := Uj fun h bs => TreeE (TreeL d) h [.int .i64 e.Tag, .int .i64 e.Value.kad, str e.Value.kae, v3, v4, v5] e bs) (τ := Unit) (D := fun _ => Uj fun h bs => TreeE (TreeL d) h [.int .i64 e.Tag, .int .i64 e.Value.kad, str e.Value.kae, v3, v4, v5] e bs) (φ := fun _ => v3.oneCell' = true ∧ v4.oneCell' = true ∧ v5.oneCell' = true) 1 rfl (fun S w h => ⟨(), Jjq h, h⟩) (fun _ hones => ?_)
 try dsimp only [z1, z2, z3, z4, z5, z6, z7, z8]
 have hone : (([[.int .i64 e.Tag, .int .i64 e.Value.kad, str e.Value.kae, v3, v4, v5]].map Vp).all fun x => x.all Value.oneCell') = true := by simp only [List.map, Vp, List.all, hones.1, hones.2.1, hones.2.2]; rfl
 refine Jc ?_
 refine Ja ?_
 refine Vv (cs := [.int .i64 e.Tag, .int .i64 e.Value.kad, str e.Value.kae, v3, v4, v5]) rfl rfl rfl rfl (fun b3 => ?_)
 refine Jd ?_
 refine Jc ?_
 refine Jc ?_
 refine Ja ?_
 refine Jf rfl rfl rfl (Jk (v := pz pb) rfl) ?_
 refine Jf rfl rfl rfl (Jm rfl) ?_
 refine Jf rfl rfl rfl (Jr Tryz.runUnderlying57 rfl Tryz.sizeOf41 rfl rfl) ?_
 refine Y7 (i := 0) (v := .slice po.1 op.length po.2) Tryz.isAgg41 rfl rfl rfl rfl rfl ?_
 refine Jf rfl rfl rfl (Wl Tryz.underlying41 rfl) ?_
 refine Jf rfl rfl rfl (Jg (v := .int .i64 op.length) rfl) ?_
 refine Jd ?_
 refine Jc ?_
 refine Ja ?_
 refine Jf rfl rfl rfl (Jk (v := .int .i64 op.length) rfl) ?_
 refine Jf rfl rfl rfl (Ye rfl rfl) ?_
 refine Jd ?_
 refine Jak (b := (decide (0 < (op.length : Int)))) rfl (fun hb => ?_) (fun hb => ?_)
 ·have H1 := Xn hb H
  obtain ⟨q, h_q, H2⟩ := Je H1
  obtain ⟨x, h_x, H3⟩ := Je H2
  obtain ⟨zs, h_zs, H4⟩ := Je H3
  obtain ⟨op', h_op, H5⟩ := Je H4
  obtain rfl := Option.some.inj H5
  obtain ⟨xs0, x', rfl⟩ := Jft (xs := op) (by have := of_decide_eq_true hb; omega)
  have hq : q = ((xs0 ++ [x']).length : Int) - 1 := (Jd7 h_q).1
  obtain rfl := Jhs hq h_x
  obtain rfl := gSet_last hq h_op
  obtain ⟨rfl, hz1, hz2⟩ := Jch h_zs
  refine Jc ?_
  refine Uq (τ := List (List Value)) (D := fun css => Qy (Jck d css (xs0 ++ [x])) (J3 83 6 (.slice po.1 (xs0 ++ [x]).length po.2) css.length (css.map Vp))) (φ := fun css => css.length = (xs0 ++ [x]).length) 3 rfl (fun S w h => Jec h) (fun css hcss => ?_)
  try dsimp only [z1, z2, z3, z4, z5, z6, z7, z8]
  obtain ⟨css0, c, rfl⟩ := Jft (xs := css) (by rw [hcss]; simp)
  have hc0 : css0.length = xs0.length := by simpa using hcss
  refine Xo 3 rfl ?_
  try dsimp only [z1, z2, z3, z4, z5, z6, z7, z8]
  refine J1 3 rfl imp_lastK ?_
  try dsimp only [z1, z2, z3, z4, z5, z6, z7, z8]
  refine Xo 3 rfl ?_
  try dsimp only [z1, z2, z3, z4, z5, z6, z7, z8]
  refine Uq (τ := Value × Value × Value) (D := fun y => Qy (Uj (LeafP y.1 y.2.1 x)) (Yw d y.2.2 x.Value.kab)) (φ := fun y => c = [.int .i64 x.Tag, .int .i64 x.Value.kad, str x.Value.kae, y.1, y.2.1, y.2.2]) 6 rfl (fun S w h => ent_show h) (fun ⟨u3, u4, u5⟩ hc => ?_)
  subst hc
  refine Xo 6 rfl ?_
  try dsimp only [z1, z2, z3, z4, z5, z6, z7, z8]
  refine J1 7 rfl Jg3 ?_
  try dsimp only [z1, z2, z3, z4, z5, z6, z7, z8]
  refine Uq (C := Yw (d + 1) u5 x.Value.kab) (τ := List (List Value)) (D := fun css => Qy (Jck d css x.Value.kab) (J3 83 6 u5 css.length (css.map Vp))) (φ := fun css => css.length = x.Value.kab.length) 7 rfl (fun S w h => Jec (d := d) (v := u5) (xs := x.Value.kab) h) (fun cs5 hcs5 => ?_)
  try dsimp only [z1, z2, z3, z4, z5, z6, z7, z8]
  refine Xo 7 rfl ?_
  try dsimp only [z1, z2, z3, z4, z5, z6, z7, z8]
  refine Uq (τ := Option Addr × Nat) (D := fun p => J3 83 6 (.slice p.1 cs5.length p.2) cs5.length (cs5.map Vp)) (φ := fun p => u5 = .slice p.1 cs5.length p.2) 8 rfl (fun S w h => row_formI h) (fun p5 hu5 => ?_)
  subst hu5
  try dsimp only [z1, z2, z3, z4, z5, z6, z7, z8]
  have hcx : css0 ++ [[.int .i64 x.Tag, .int .i64 x.Value.kad, str x.Value.kae, u3, u4, .slice p5.1 cs5.length p5.2]] = css0 ++ [[.int .i64 x.Tag, .int .i64 x.Value.kad, str x.Value.kae, u3, u4, .slice p5.1 cs5.length p5.2]] := rfl
  have hqc : q = ((css0 ++ [[.int .i64 x.Tag, .int .i64 x.Value.kad, str x.Value.kae, u3, u4, .slice p5.1 cs5.length p5.2]]).length : Int) - 1 := by rw [hcss]; exact hq
  have hat := Jd9 hqc
  refine J1 5 rfl (Imp.of (show J3 83 6 (.slice po.1 (xs0 ++ [x]).length po.2) (css0 ++ [[.int .i64 x.Tag, .int .i64 x.Value.kad, str x.Value.kae, u3, u4, .slice p5.1 cs5.length p5.2]]).length ((css0 ++ [[.int .i64 x.Tag, .int .i64 x.Value.kad, str x.Value.kae, u3, u4, .slice p5.1 cs5.length p5.2]]).map Vp) = J3 83 6 (.slice po.1 (xs0 ++ [x]).length po.2) (xs0 ++ [x]).length ((css0 ++ [[.int .i64 x.Tag, .int .i64 x.Value.kad, str x.Value.kae, u3, u4, .slice p5.1 cs5.length p5.2]]).map Vp) from by rw [hcss])) ?_
  try dsimp only [z1, z2, z3, z4, z5, z6, z7, z8]
  have hzc : (cs5 ++ [[.int .i64 e.Tag, .int .i64 e.Value.kad, str e.Value.kae, v3, v4, v5]]).length * 104 ≤ 140737488355328 := by rw [List.length_append, hcs5]; simpa using hz2
  have hzz : (cs5 ++ [[.int .i64 0, .int .i64 0, str [], z0s, z0s, z0s]]).length * 104 ≤ 140737488355328 := by rw [List.length_append] at hzc ⊢; exact hzc
  have hone6 : List.all [.int .i64 e.Tag, .int .i64 e.Value.kad, str e.Value.kae, v3, v4, v5] Value.oneCell' = true := by simp only [List.all, hones.1, hones.2.1, hones.2.2]; rfl
  refine Jc ?_
  refine c_toss mixed (by kernel_rfl) (fun w => ⟨_, _, run_alloc (cs := [.bool false]) Tryz.zeroValue4 rfl w⟩) ?_ ?_
  ·refine Xi (cs := [.bool false]) Tryz.zeroValue4 rfl rfl rfl (fun b13 => ?_)
   refine Qu (i := 9) (vs := [.bool true]) (cs' := [.bool true]) Tryz.sizeOf4 rfl rfl rfl rfl rfl rfl rfl rfl rfl ?_
   refine Qu (i := 9) (vs := [.bool false]) (cs' := [.bool false]) Tryz.sizeOf4 rfl rfl rfl rfl rfl rfl rfl rfl rfl ?_
   refine Y7 (i := 9) (v := .bool false) Tryz.isAgg4 rfl rfl rfl rfl rfl ?_
   refine Jd ?_
   try dsimp only [z1, z2, z3, z4, z5, z6, z7, z8]
   refine Zc rfl ?_
   exact Qv (Kd.p :: Kd.p :: Kd.p :: Kd.d [0] (.slice po.1 (xs0 ++ [x]).length po.2) :: Kd.p :: Kd.p :: Kd.p :: Kd.p :: Kd.p :: Kd.d [0] (.slice po.1 (xs0 ++ [x]).length po.2) :: Kd.p :: Kd.p :: Kd.d [5] (X1 po.1 (q.toNat * 6)) :: Kd.d [5] (X1 po.1 (q.toNat * 6 + 1)) :: Kd.d [5] (X1 po.1 (q.toNat * 6 + 1 + 4)) :: Kd.d [5] (.slice p5.1 cs5.length p5.2) :: Kd.d [4] (.agg (List.toArray [.int .i64 e.Tag, .int .i64 e.Value.kad, str e.Value.kae, v3, v4, v5])) :: Kd.ns 10 [.int .i64 e.Tag, .int .i64 e.Value.kad, str e.Value.kae, v3, v4, v5] 83 1 :: Kd.t 8 [10] (fun y : Option Addr × Nat => .slice y.1 (cs5 ++ [[.int .i64 e.Tag, .int .i64 e.Value.kad, str e.Value.kae, v3, v4, v5]]).length y.2) (fun v_ => J3 83 6 v_ (cs5 ++ [[.int .i64 e.Tag, .int .i64 e.Value.kad, str e.Value.kae, v3, v4, v5]]).length ((cs5 ++ [[.int .i64 e.Tag, .int .i64 e.Value.kad, str e.Value.kae, v3, v4, v5]]).map Vp)) :: Kd.d [5] (X1 po.1 (q.toNat * 6)) :: Kd.d [5] (X1 po.1 (q.toNat * 6 + 1)) :: Kd.d [5] (X1 po.1 (q.toNat * 6 + 1 + 4)) :: Kd.sp 60 57 5 (fun v_ => J3 83 6 (.slice po.1 (xs0 ++ [x]).length po.2) (xs0 ++ [x]).length ((setR (css0 ++ [[.int .i64 x.Tag, .int .i64 x.Value.kad, str x.Value.kae, u3, u4, .slice p5.1 cs5.length p5.2]]) q 5 v_).map Vp)) :: []) 1 mixed (by
   refine Jq rfl rfl (Jk (v := pz pb) rfl) ?_
   refine Jq rfl rfl (Jm rfl) ?_
   refine Jq rfl rfl (Jr Tryz.runUnderlying57 rfl Tryz.sizeOf41 rfl rfl) ?_
   refine X9 (i := 0) (v := (.slice po.1 (xs0 ++ [x]).length po.2)) Tryz.isAgg41 rfl rfl rfl rfl ?_
   refine Jq rfl rfl (Jk (v := .int .i64 (xs0 ++ [x]).length) rfl) ?_
   refine Jq rfl rfl (Vh rfl rfl h_q) ?_
   refine Jq rfl rfl (Jk (v := pz pb) rfl) ?_
   refine Jq rfl rfl (Jm rfl) ?_
   refine Jq rfl rfl (Jr Tryz.runUnderlying57 rfl Tryz.sizeOf41 rfl rfl) ?_
   refine X9 (i := 0) (v := (.slice po.1 (xs0 ++ [x]).length po.2)) Tryz.isAgg41 rfl rfl rfl rfl ?_
   refine Jq rfl rfl (Jk (v := .int .i64 (xs0 ++ [x]).length) rfl) ?_
   refine Jq rfl rfl (Vh rfl rfl h_q) ?_
   refine Ya (fun w L' hF hS hi => Qx Tryz.underlying41 Tryz.sizeOf83 rfl rfl (Xd (i := 5) (E := 83) (sz := 6) (n := (xs0 ++ [x]).length) (a := po.1) (c := po.2) hS ((hi 5 (by simp)).trans rfl)) hcss.symm hat) rfl rfl ?_
   refine Ya (fun w L' hF hS hi => Uf Tryz.runUnderlying83 rfl Tryz.sizeOf81 rfl rfl (Xd (i := 5) (E := 83) (sz := 6) (n := (xs0 ++ [x]).length) (a := po.1) (c := po.2) hS ((hi 5 (by simp)).trans rfl)) hat) rfl rfl ?_
   refine Ya (fun w L' hF hS hi => Uf Tryz.runUnderlying81 rfl Tryz.sizeOf41 rfl rfl (Xd (i := 5) (E := 83) (sz := 6) (n := (xs0 ++ [x]).length) (a := po.1) (c := po.2) hS ((hi 5 (by simp)).trans rfl)) hat) rfl rfl ?_
   refine Ya (fun w L' hF hS hi => Qb (f := Vp) (i := q) (sz := 6) (j := 5) (v := (.slice p5.1 cs5.length p5.2)) Tryz.isAgg41 rfl rfl (Xd (i := 5) (E := 83) (sz := 6) (n := (xs0 ++ [x]).length) (a := po.1) (c := po.2) hS ((hi 5 (by simp)).trans rfl)) hat rfl) rfl rfl ?_
   refine Jfs (i := 4) (vs := [.int .i64 e.Tag, .int .i64 e.Value.kad, str e.Value.kae, v3, v4, v5]) Tryz.isAgg83 Tryz.sizeOf83 rfl rfl rfl rfl ?_
   refine Jhp rfl rfl (Ve (vs := [.agg (List.toArray [.int .i64 e.Tag, .int .i64 e.Value.kad, str e.Value.kae, v3, v4, v5])]) (cs := [.int .i64 e.Tag, .int .i64 e.Value.kad, str e.Value.kae, v3, v4, v5]) Tryz.underlying41 Tryz.sizeOf83 Tryz.zeroValue83 rfl rfl rfl rfl rfl) rfl (fun b7 => ?_)
   refine Jgf (Cv := fun v_ => J3 83 6 v_ (cs5 ++ [[.int .i64 e.Tag, .int .i64 e.Value.kad, str e.Value.kae, v3, v4, v5]]).length ((cs5 ++ [[.int .i64 e.Tag, .int .i64 e.Value.kad, str e.Value.kae, v3, v4, v5]]).map Vp)) ((none, 0) : Option Addr × Nat) (Ud (f := Vp) (ys := cs5) (ls := [[.int .i64 e.Tag, .int .i64 e.Value.kad, str e.Value.kae, v3, v4, v5]]) (cs := [.int .i64 e.Tag, .int .i64 e.Value.kad, str e.Value.kae, v3, v4, v5]) (i := 8) (p := p5) (k := 10) (b := b7) Tryz.underlying41 (Xv Tryz.typeInfo83) rfl rfl rfl rfl rfl rfl rfl rfl rfl rfl rfl rfl rfl rfl hone hzc rfl) (fun _ => rfl) rfl rfl (fun p6 => ?_)
   refine Ya (fun w L' hF hS hi => Qx Tryz.underlying41 Tryz.sizeOf83 rfl rfl (Xd (i := 5) (E := 83) (sz := 6) (n := (xs0 ++ [x]).length) (a := po.1) (c := po.2) hS ((hi 5 (by simp)).trans rfl)) hcss.symm hat) rfl rfl ?_
   refine Ya (fun w L' hF hS hi => Uf Tryz.runUnderlying83 rfl Tryz.sizeOf81 rfl rfl (Xd (i := 5) (E := 83) (sz := 6) (n := (xs0 ++ [x]).length) (a := po.1) (c := po.2) hS ((hi 5 (by simp)).trans rfl)) hat) rfl rfl ?_
   refine Ya (fun w L' hF hS hi => Uf Tryz.runUnderlying81 rfl Tryz.sizeOf41 rfl rfl (Xd (i := 5) (E := 83) (sz := 6) (n := (xs0 ++ [x]).length) (a := po.1) (c := po.2) hS ((hi 5 (by simp)).trans rfl)) hat) rfl rfl ?_
   refine Jjw (Jf1 (xs := xs0 ++ [x]) (i := q) (j := 5) hcss.symm hcss Tryz.sizeOf41 rfl rfl rfl rfl rfl rfl rfl (Jd9 hq)) rfl rfl ?_
   refine X6 ?_
   try dsimp only [z1, z2, z3, z4, z5, z6, z7, z8]
   refine Ji ?_
   refine Qc 7 1 rfl rfl (by decide) ?_
   try dsimp only [z1, z2, z3, z4, z5, z6, z7, z8]
   refine J1 7 rfl Jde ?_
   try dsimp only [z1, z2, z3, z4, z5, z6, z7, z8]
   refine Qc 7 8 rfl rfl (by decide) ?_
   try dsimp only [z1, z2, z3, z4, z5, z6, z7, z8]
   refine J1 7 rfl Jce ?_
   try dsimp only [z1, z2, z3, z4, z5, z6, z7, z8]
   refine Qc 6 7 rfl rfl (by decide) ?_
   try dsimp only [z1, z2, z3, z4, z5, z6, z7, z8]
   refine J1 6 rfl (imp_ent (x := x)) ?_
   try dsimp only [z1, z2, z3, z4, z5, z6, z7, z8]
   refine J1 3 rfl imp_upK ?_
   try dsimp only [z1, z2, z3, z4, z5, z6, z7, z8]
   refine Qc 3 6 rfl rfl (by decide) ?_
   try dsimp only [z1, z2, z3, z4, z5, z6, z7, z8]
   refine J1 3 rfl Jde ?_
   try dsimp only [z1, z2, z3, z4, z5, z6, z7, z8]
   refine J1 5 rfl (Imp.of (show J3 83 6 (.slice po.1 (xs0 ++ [x]).length po.2) (xs0 ++ [x]).length ((setR (css0 ++ [[.int .i64 x.Tag, .int .i64 x.Value.kad, str x.Value.kae, u3, u4, .slice p5.1 cs5.length p5.2]]) q 5 (.slice p6.1 (cs5 ++ [[.int .i64 e.Tag, .int .i64 e.Value.kad, str e.Value.kae, v3, v4, v5]]).length p6.2)).map Vp) = J3 83 6 (.slice po.1 (xs0 ++ [x]).length po.2) (xs0 ++ [x]).length ((css0 ++ [[.int .i64 x.Tag, .int .i64 x.Value.kad, str x.Value.kae, u3, u4, (.slice p6.1 (cs5 ++ [[.int .i64 e.Tag, .int .i64 e.Value.kad, str e.Value.kae, v3, v4, v5]]).length p6.2)]]).map Vp) from by rw [Jkc hqc]; rfl)) ?_
   try dsimp only [z1, z2, z3, z4, z5, z6, z7, z8]
   refine Qc 3 5 rfl rfl (by decide) ?_
   try dsimp only [z1, z2, z3, z4, z5, z6, z7, z8]
   refine J1 3 rfl Jce ?_
   try dsimp only [z1, z2, z3, z4, z5, z6, z7, z8]
   refine J1 2 rfl Jjl ?_
   try dsimp only [z1, z2, z3, z4, z5, z6, z7, z8]
   refine Qc 2 3 rfl rfl (by decide) ?_
   try dsimp only [z1, z2, z3, z4, z5, z6, z7, z8]
   refine Qc 0 2 rfl rfl (by decide) ?_
   try dsimp only [z1, z2, z3, z4, z5, z6, z7, z8]
   have hlen : (xs0 ++ [x]).length = (xs0 ++ [W6 x (x.Value.kab ++ [e])]).length := by simp
   exact ret0 rfl (Yg () (i := 0) rfl rfl (Xe (Imp.of (show _ = Qy (Jn pb [.bool big, .slice pd.1 dirs.length pd.2, .slice po.1 (xs0 ++ [W6 x (x.Value.kab ++ [e])]).length po.2] 57) (Qy (Jbn (d + 1) (.slice pd.1 dirs.length pd.2) dirs) (Yw (d + 1 + 1) (.slice po.1 (xs0 ++ [W6 x (x.Value.kab ++ [e])]).length po.2) (xs0 ++ [W6 x (x.Value.kab ++ [e])]))) from by rw [← hlen])) ⟨fun _ _ h => ⟨(pd, po), h⟩⟩))) (by kernel_rfl)
  ·refine Xi (cs := [.bool false]) Tryz.zeroValue4 rfl rfl rfl (fun b13 => ?_)
   refine Qu (i := 9) (vs := [.bool false]) (cs' := [.bool false]) Tryz.sizeOf4 rfl rfl rfl rfl rfl rfl rfl rfl rfl ?_
   refine Qu (i := 9) (vs := [.bool true]) (cs' := [.bool true]) Tryz.sizeOf4 rfl rfl rfl rfl rfl rfl rfl rfl rfl ?_
   refine Y7 (i := 9) (v := .bool true) Tryz.isAgg4 rfl rfl rfl rfl rfl ?_
   refine Jd ?_
   try dsimp only [z1, z2, z3, z4, z5, z6, z7, z8]
   refine Yc rfl ?_
   refine Jc ?_
   exact Qv (Kd.p :: Kd.p :: Kd.p :: Kd.d [0] (.slice po.1 (xs0 ++ [x]).length po.2) :: Kd.p :: Kd.p :: Kd.p :: Kd.p :: Kd.p :: Kd.d [0] (.slice po.1 (xs0 ++ [x]).length po.2) :: Kd.p :: Kd.p :: Kd.d [5] (X1 po.1 (q.toNat * 6)) :: Kd.d [5] (X1 po.1 (q.toNat * 6 + 1)) :: Kd.d [5] (X1 po.1 (q.toNat * 6 + 1 + 4)) :: Kd.d [5] (.slice p5.1 cs5.length p5.2) :: Kd.d [4] (.agg (List.toArray [.int .i64 e.Tag, .int .i64 e.Value.kad, str e.Value.kae, v3, v4, v5])) :: Kd.p :: Kd.ns 10 [.int .i64 0, .int .i64 0, str [], z0s, z0s, z0s] 83 1 :: Kd.t 8 [10] (fun y : Option Addr × Nat => .slice y.1 (cs5 ++ [[.int .i64 0, .int .i64 0, str [], z0s, z0s, z0s]]).length y.2) (fun v_ => J3 83 6 v_ (cs5 ++ [[.int .i64 0, .int .i64 0, str [], z0s, z0s, z0s]]).length ((cs5 ++ [[.int .i64 0, .int .i64 0, str [], z0s, z0s, z0s]]).map Vp)) :: Kd.d [5] (X1 po.1 (q.toNat * 6)) :: Kd.d [5] (X1 po.1 (q.toNat * 6 + 1)) :: Kd.d [5] (X1 po.1 (q.toNat * 6 + 1 + 4)) :: Kd.sp 37 34 5 (fun v_ => J3 83 6 (.slice po.1 (xs0 ++ [x]).length po.2) (xs0 ++ [x]).length ((setR (css0 ++ [[.int .i64 x.Tag, .int .i64 x.Value.kad, str x.Value.kae, u3, u4, .slice p5.1 cs5.length p5.2]]) q 5 v_).map Vp)) :: []) 1 mixed (by
   refine Jq rfl rfl (Jk (v := pz pb) rfl) ?_
   refine Jq rfl rfl (Jm rfl) ?_
   refine Jq rfl rfl (Jr Tryz.runUnderlying57 rfl Tryz.sizeOf41 rfl rfl) ?_
   refine X9 (i := 0) (v := (.slice po.1 (xs0 ++ [x]).length po.2)) Tryz.isAgg41 rfl rfl rfl rfl ?_
   refine Jq rfl rfl (Jk (v := .int .i64 (xs0 ++ [x]).length) rfl) ?_
   refine Jq rfl rfl (Vh rfl rfl h_q) ?_
   refine Jq rfl rfl (Jk (v := pz pb) rfl) ?_
   refine Jq rfl rfl (Jm rfl) ?_
   refine Jq rfl rfl (Jr Tryz.runUnderlying57 rfl Tryz.sizeOf41 rfl rfl) ?_
   refine X9 (i := 0) (v := (.slice po.1 (xs0 ++ [x]).length po.2)) Tryz.isAgg41 rfl rfl rfl rfl ?_
   refine Jq rfl rfl (Jk (v := .int .i64 (xs0 ++ [x]).length) rfl) ?_
   refine Jq rfl rfl (Vh rfl rfl h_q) ?_
   refine Ya (fun w L' hF hS hi => Qx Tryz.underlying41 Tryz.sizeOf83 rfl rfl (Xd (i := 5) (E := 83) (sz := 6) (n := (xs0 ++ [x]).length) (a := po.1) (c := po.2) hS ((hi 5 (by simp)).trans rfl)) hcss.symm hat) rfl rfl ?_
   refine Ya (fun w L' hF hS hi => Uf Tryz.runUnderlying83 rfl Tryz.sizeOf81 rfl rfl (Xd (i := 5) (E := 83) (sz := 6) (n := (xs0 ++ [x]).length) (a := po.1) (c := po.2) hS ((hi 5 (by simp)).trans rfl)) hat) rfl rfl ?_
   refine Ya (fun w L' hF hS hi => Uf Tryz.runUnderlying81 rfl Tryz.sizeOf41 rfl rfl (Xd (i := 5) (E := 83) (sz := 6) (n := (xs0 ++ [x]).length) (a := po.1) (c := po.2) hS ((hi 5 (by simp)).trans rfl)) hat) rfl rfl ?_
   refine Ya (fun w L' hF hS hi => Qb (f := Vp) (i := q) (sz := 6) (j := 5) (v := (.slice p5.1 cs5.length p5.2)) Tryz.isAgg41 rfl rfl (Xd (i := 5) (E := 83) (sz := 6) (n := (xs0 ++ [x]).length) (a := po.1) (c := po.2) hS ((hi 5 (by simp)).trans rfl)) hat rfl) rfl rfl ?_
   refine Jfs (i := 4) (vs := [.int .i64 e.Tag, .int .i64 e.Value.kad, str e.Value.kae, v3, v4, v5]) Tryz.isAgg83 Tryz.sizeOf83 rfl rfl rfl rfl ?_
   refine Jq rfl rfl (Wl Tryz.underlying41 rfl) ?_
   refine Jhp rfl rfl (Ve (vs := [.agg (List.toArray [.int .i64 0, .int .i64 0, str [], z0s, z0s, z0s])]) (cs := [.int .i64 0, .int .i64 0, str [], z0s, z0s, z0s]) Tryz.underlying41 Tryz.sizeOf83 Tryz.zeroValue83 rfl rfl rfl rfl rfl) rfl (fun b7 => ?_)
   refine Jgf (Cv := fun v_ => J3 83 6 v_ (cs5 ++ [[.int .i64 0, .int .i64 0, str [], z0s, z0s, z0s]]).length ((cs5 ++ [[.int .i64 0, .int .i64 0, str [], z0s, z0s, z0s]]).map Vp)) ((none, 0) : Option Addr × Nat) (Ud (f := Vp) (ys := cs5) (ls := [[.int .i64 0, .int .i64 0, str [], z0s, z0s, z0s]]) (cs := [.int .i64 0, .int .i64 0, str [], z0s, z0s, z0s]) (i := 8) (p := p5) (k := 10) (b := b7) Tryz.underlying41 (Xv Tryz.typeInfo83) rfl rfl rfl rfl rfl rfl rfl rfl rfl rfl rfl rfl rfl rfl rfl hzz rfl) (fun _ => rfl) rfl rfl (fun p6 => ?_)
   refine Ya (fun w L' hF hS hi => Qx Tryz.underlying41 Tryz.sizeOf83 rfl rfl (Xd (i := 5) (E := 83) (sz := 6) (n := (xs0 ++ [x]).length) (a := po.1) (c := po.2) hS ((hi 5 (by simp)).trans rfl)) hcss.symm hat) rfl rfl ?_
   refine Ya (fun w L' hF hS hi => Uf Tryz.runUnderlying83 rfl Tryz.sizeOf81 rfl rfl (Xd (i := 5) (E := 83) (sz := 6) (n := (xs0 ++ [x]).length) (a := po.1) (c := po.2) hS ((hi 5 (by simp)).trans rfl)) hat) rfl rfl ?_
   refine Ya (fun w L' hF hS hi => Uf Tryz.runUnderlying81 rfl Tryz.sizeOf41 rfl rfl (Xd (i := 5) (E := 83) (sz := 6) (n := (xs0 ++ [x]).length) (a := po.1) (c := po.2) hS ((hi 5 (by simp)).trans rfl)) hat) rfl rfl ?_
   refine Jjw (Jf1 (xs := xs0 ++ [x]) (i := q) (j := 5) hcss.symm hcss Tryz.sizeOf41 rfl rfl rfl rfl rfl rfl rfl (Jd9 hq)) rfl rfl ?_
   refine X6 ?_
   try dsimp only [z1, z2, z3, z4, z5, z6, z7, z8]
   have hat8 : Yv (cs5 ++ [[.int .i64 0, .int .i64 0, str [], z0s, z0s, z0s]]) (cs5.length : Int) = some [.int .i64 0, .int .i64 0, str [], z0s, z0s, z0s] := Jd9 (by simp)
   refine Ja ?_
   refine Qf (fun w hF hS => Qx Tryz.underlying41 Tryz.sizeOf83 rfl rfl (Xd (i := 8) hS rfl) rfl hat8) rfl rfl rfl ?_
   refine Jds (q := 8) (j := 0) (i := (cs5.length : Int)) (sz := 6) (hm := rfl) (f := Vp) (z := [.int .i64 e.Tag, .int .i64 e.Value.kad, str e.Value.kae, v3, v4, v5]) (ys := cs5 ++ [[.int .i64 e.Tag, .int .i64 e.Value.kad, str e.Value.kae, v3, v4, v5]]) (vs := [.int .i64 e.Tag, .int .i64 e.Value.kad, str e.Value.kae, v3, v4, v5]) Tryz.sizeOf83 rfl rfl rfl rfl rfl rfl rfl hone6 rfl (fun y_ hy_ => by cases hy_.symm.trans hat8; rfl) (by rw [Jb3 (by omega) (by simp)]; simp) ?_
   refine Jd ?_
   try dsimp only [z1, z2, z3, z4, z5, z6, z7, z8]
   refine Ji ?_
   refine Qc 7 1 rfl rfl (by decide) ?_
   try dsimp only [z1, z2, z3, z4, z5, z6, z7, z8]
   refine J1 7 rfl Jde ?_
   try dsimp only [z1, z2, z3, z4, z5, z6, z7, z8]
   refine Qc 7 8 rfl rfl (by decide) ?_
   try dsimp only [z1, z2, z3, z4, z5, z6, z7, z8]
   refine J1 7 rfl Jce ?_
   try dsimp only [z1, z2, z3, z4, z5, z6, z7, z8]
   refine Qc 6 7 rfl rfl (by decide) ?_
   try dsimp only [z1, z2, z3, z4, z5, z6, z7, z8]
   refine J1 6 rfl (imp_ent (x := x)) ?_
   try dsimp only [z1, z2, z3, z4, z5, z6, z7, z8]
   refine J1 3 rfl imp_upK ?_
   try dsimp only [z1, z2, z3, z4, z5, z6, z7, z8]
   refine Qc 3 6 rfl rfl (by decide) ?_
   try dsimp only [z1, z2, z3, z4, z5, z6, z7, z8]
   refine J1 3 rfl Jde ?_
   try dsimp only [z1, z2, z3, z4, z5, z6, z7, z8]
   refine J1 5 rfl (Imp.of (show J3 83 6 (.slice po.1 (xs0 ++ [x]).length po.2) (xs0 ++ [x]).length ((setR (css0 ++ [[.int .i64 x.Tag, .int .i64 x.Value.kad, str x.Value.kae, u3, u4, .slice p5.1 cs5.length p5.2]]) q 5 (.slice p6.1 (cs5 ++ [[.int .i64 0, .int .i64 0, str [], z0s, z0s, z0s]]).length p6.2)).map Vp) = J3 83 6 (.slice po.1 (xs0 ++ [x]).length po.2) (xs0 ++ [x]).length ((css0 ++ [[.int .i64 x.Tag, .int .i64 x.Value.kad, str x.Value.kae, u3, u4, (.slice p6.1 (cs5 ++ [[.int .i64 0, .int .i64 0, str [], z0s, z0s, z0s]]).length p6.2)]]).map Vp) from by rw [Jkc hqc]; rfl)) ?_
   try dsimp only [z1, z2, z3, z4, z5, z6, z7, z8]
   refine Qc 3 5 rfl rfl (by decide) ?_
   try dsimp only [z1, z2, z3, z4, z5, z6, z7, z8]
   refine J1 3 rfl Jce ?_
   try dsimp only [z1, z2, z3, z4, z5, z6, z7, z8]
   refine J1 2 rfl Jjl ?_
   try dsimp only [z1, z2, z3, z4, z5, z6, z7, z8]
   refine Qc 2 3 rfl rfl (by decide) ?_
   try dsimp only [z1, z2, z3, z4, z5, z6, z7, z8]
   refine Qc 0 2 rfl rfl (by decide) ?_
   try dsimp only [z1, z2, z3, z4, z5, z6, z7, z8]
   have hlen : (xs0 ++ [x]).length = (xs0 ++ [W6 x (x.Value.kab ++ [e])]).length := by simp
   exact ret0 rfl (Yg () (i := 0) rfl rfl (Xe (Imp.of (show _ = Qy (Jn pb [.bool big, .slice pd.1 dirs.length pd.2, .slice po.1 (xs0 ++ [W6 x (x.Value.kab ++ [e])]).length po.2] 57) (Qy (Jbn (d + 1) (.slice pd.1 dirs.length pd.2) dirs) (Yw (d + 1 + 1) (.slice po.1 (xs0 ++ [W6 x (x.Value.kab ++ [e])]).length po.2) (xs0 ++ [W6 x (x.Value.kab ++ [e])]))) from by rw [← hlen])) ⟨fun _ _ h => ⟨(pd, po), h⟩⟩))) (by kernel_rfl)
 ·have H1 := Xg hb H
  obtain ⟨q, h_q, H2⟩ := Je H1
  obtain ⟨l, h_x, H3⟩ := Je H2
  obtain ⟨zs, h_zs, H4⟩ := Je H3
  obtain ⟨op', h_op, H5⟩ := Je H4
  obtain rfl := Option.some.inj H5
  refine Jh ?_
  obtain ⟨ls0, l', rfl⟩ := Jft (xs := dirs) (by obtain ⟨_, h2, _⟩ := Vn h_x; have h2 : q.toNat < dirs.length := h2; omega)
  have hq : q = ((ls0 ++ [l']).length : Int) - 1 := (Jd7 h_q).1
  obtain rfl := Jhs hq h_x
  obtain rfl := gSet_last hq h_op
  obtain ⟨rfl, hz1, hz2⟩ := Jch h_zs
  refine Uq (τ := List (List Value)) (D := fun css => Qy (Jdm d css (ls0 ++ [l])) (J3 41 1 (.slice pd.1 (ls0 ++ [l]).length pd.2) css.length (css.map Vp))) (φ := fun css => css.length = (ls0 ++ [l]).length) 2 rfl (fun S w h => Jiy h) (fun css hcss => ?_)
  try dsimp only [z1, z2, z3, z4, z5, z6, z7, z8]
  obtain ⟨css0, c, rfl⟩ := Jft (xs := css) (by rw [hcss]; simp)
  refine Xo 2 rfl ?_
  try dsimp only [z1, z2, z3, z4, z5, z6, z7, z8]
  refine Uq (τ := Value) (D := fun u => Qy (Jdm d css0 ls0) (Yw d u l)) (φ := fun u => c = [u]) 2 rfl (fun S w h => last_dir h) (fun u hc => ?_)
  subst hc
  refine Xo 2 rfl ?_
  try dsimp only [z1, z2, z3, z4, z5, z6, z7, z8]
  refine J1 6 rfl Jg3 ?_
  try dsimp only [z1, z2, z3, z4, z5, z6, z7, z8]
  refine Uq (C := Yw (d + 1) u l) (τ := List (List Value)) (D := fun css => Qy (Jck d css l) (J3 83 6 u css.length (css.map Vp))) (φ := fun css => css.length = l.length) 6 rfl (fun S w h => Jec (d := d) (v := u) (xs := l) h) (fun cs5 hcs5 => ?_)
  try dsimp only [z1, z2, z3, z4, z5, z6, z7, z8]
  refine Xo 6 rfl ?_
  try dsimp only [z1, z2, z3, z4, z5, z6, z7, z8]
  refine Uq (τ := Option Addr × Nat) (D := fun p => J3 83 6 (.slice p.1 cs5.length p.2) cs5.length (cs5.map Vp)) (φ := fun p => u = .slice p.1 cs5.length p.2) 7 rfl (fun S w h => row_formI h) (fun p5 hu5 => ?_)
  subst hu5
  try dsimp only [z1, z2, z3, z4, z5, z6, z7, z8]
  refine J1 5 rfl (Imp.of (show J3 41 1 (.slice pd.1 (ls0 ++ [l]).length pd.2) (css0 ++ [[Value.slice p5.1 cs5.length p5.2]]).length ((css0 ++ [[Value.slice p5.1 cs5.length p5.2]]).map Vp) = J3 41 1 (.slice pd.1 (ls0 ++ [l]).length pd.2) (ls0 ++ [l]).length ((css0 ++ [[Value.slice p5.1 cs5.length p5.2]]).map Vp) from by rw [hcss])) ?_
  try dsimp only [z1, z2, z3, z4, z5, z6, z7, z8]
  refine Uq (τ := Nat) (D := fun _ => J3 41 1 (.slice pd.1 (ls0 ++ [l]).length pd.2) (ls0 ++ [l]).length ((css0 ++ [[Value.slice p5.1 cs5.length p5.2]]).map Vp)) (φ := fun g => pd.1 = some ⟨g, 0, none⟩) 5 rfl (fun S w h => by obtain ⟨g, hg⟩ := row_some h (by simp); exact ⟨g, hg, h⟩) (fun g hg => ?_)
  try dsimp only [z1, z2, z3, z4, z5, z6, z7, z8]
  obtain ⟨pa, pc⟩ := pd
  obtain rfl : pa = some ⟨g, 0, none⟩ := hg
  try dsimp only [z1, z2, z3, z4, z5, z6, z7, z8]
  have hqc : q = ((css0 ++ [[Value.slice p5.1 cs5.length p5.2]]).length : Int) - 1 := by rw [hcss]; exact hq
  have hat := Jd9 hqc
  have hzz : (cs5 ++ [[.int .i64 0, .int .i64 0, str [], z0s, z0s, z0s]]).length * 104 ≤ 140737488355328 := by rw [List.length_append, hcs5]; simpa using hz2
  have hone6 : List.all [.int .i64 e.Tag, .int .i64 e.Value.kad, str e.Value.kae, v3, v4, v5] Value.oneCell' = true := by simp only [List.all, hones.1, hones.2.1, hones.2.2]; rfl
  refine Jc ?_
  exact Qv (Kd.p :: Kd.p :: Kd.p :: Kd.p :: Kd.d [0] (.slice (some ⟨g, 0, none⟩) (ls0 ++ [l]).length pc) :: Kd.p :: Kd.p :: Kd.p :: Kd.p :: Kd.d [0] (.slice (some ⟨g, 0, none⟩) (ls0 ++ [l]).length pc) :: Kd.p :: Kd.p :: Kd.d [5] (X1 (some ⟨g, 0, none⟩) (q.toNat * 1)) :: Kd.p :: []) 0 mixed (by
   refine Jq rfl rfl (Jk (v := pz pb) rfl) ?_
   refine Jq rfl rfl (Jm rfl) ?_
   refine Jq rfl rfl (Jr Tryz.runUnderlying57 rfl Tryz.sizeOf24 rfl rfl) ?_
   refine Jq rfl rfl (Jr Tryz.runUnderlying24 rfl Tryz.sizeOf22 rfl rfl) ?_
   refine X9 (i := 0) (v := (.slice (some ⟨g, 0, none⟩) (ls0 ++ [l]).length pc)) Tryz.isAgg22 rfl rfl rfl rfl ?_
   refine Jq rfl rfl (Jk (v := pz pb) rfl) ?_
   refine Jq rfl rfl (Jm rfl) ?_
   refine Jq rfl rfl (Jr Tryz.runUnderlying57 rfl Tryz.sizeOf24 rfl rfl) ?_
   refine Jq rfl rfl (Jr Tryz.runUnderlying24 rfl Tryz.sizeOf22 rfl rfl) ?_
   refine X9 (i := 0) (v := (.slice (some ⟨g, 0, none⟩) (ls0 ++ [l]).length pc)) Tryz.isAgg22 rfl rfl rfl rfl ?_
   refine Jq rfl rfl (Wl Tryz.underlying22 rfl) ?_
   refine Jq rfl rfl (Vh rfl rfl h_q) ?_
   refine Ya (fun w L' hF hS hi => Qx Tryz.underlying22 Tryz.sizeOf41 rfl rfl (Xd (i := 5) (E := 41) (sz := 1) (n := (ls0 ++ [l]).length) (a := some ⟨g, 0, none⟩) (c := pc) hS ((hi 5 (by simp)).trans rfl)) hcss.symm hat) rfl rfl ?_
   refine Jq rfl rfl (Jg (v := X1 (some ⟨g, 0, none⟩) (q.toNat * 1)) rfl) ?_
   refine X6 ?_
   try dsimp only [z1, z2, z3, z4, z5, z6, z7, z8]
   exact Qv (Kd.p :: Kd.p :: Kd.d [5] (.slice p5.1 cs5.length p5.2) :: Kd.d [4] (.agg (List.toArray [.int .i64 e.Tag, .int .i64 e.Value.kad, str e.Value.kae, v3, v4, v5])) :: Kd.p :: Kd.ns 8 [.int .i64 0, .int .i64 0, str [], z0s, z0s, z0s] 83 1 :: Kd.t 7 [8] (fun y : Option Addr × Nat => .slice y.1 (cs5 ++ [[.int .i64 0, .int .i64 0, str [], z0s, z0s, z0s]]).length y.2) (fun v_ => J3 83 6 v_ (cs5 ++ [[.int .i64 0, .int .i64 0, str [], z0s, z0s, z0s]]).length ((cs5 ++ [[.int .i64 0, .int .i64 0, str [], z0s, z0s, z0s]]).map Vp)) :: Kd.dv 80 [7] (fun v_ => match v_ with | .slice a _ _ => X1 a (cs5.length * 6) | _ => undef) :: Kd.so 81 7 [.int .i64 e.Tag, .int .i64 e.Value.kad, str e.Value.kae, v3, v4, v5] :: Kd.p :: Kd.sp 82 80 5 (fun v_ => J3 41 1 (.slice (some ⟨g, 0, none⟩) (ls0 ++ [l]).length pc) (ls0 ++ [l]).length ((setR (css0 ++ [[Value.slice p5.1 cs5.length p5.2]]) q 0 v_).map Vp)) :: []) 1 mixed (by
    refine Jq rfl rfl (Jk (v := X1 (some ⟨g, 0, none⟩) (q.toNat * 1)) rfl) ?_
    refine Jq rfl rfl (Jm rfl) ?_
    refine Ya (fun w L' hF hS hi => Qb (f := Vp) (i := q) (sz := 1) (j := 0) (v := (.slice p5.1 cs5.length p5.2)) Tryz.isAgg41 rfl rfl (Xd (i := 5) (E := 41) (sz := 1) (n := (ls0 ++ [l]).length) (a := some ⟨g, 0, none⟩) (c := pc) hS ((hi 5 (by simp)).trans rfl)) hat rfl) rfl rfl ?_
    refine Jfs (i := 4) (vs := [.int .i64 e.Tag, .int .i64 e.Value.kad, str e.Value.kae, v3, v4, v5]) Tryz.isAgg83 Tryz.sizeOf83 rfl rfl rfl rfl ?_
    refine Jq rfl rfl (Wl Tryz.underlying41 rfl) ?_
    refine Jhp rfl rfl (Ve (vs := [.agg (List.toArray [.int .i64 0, .int .i64 0, str [], z0s, z0s, z0s])]) (cs := [.int .i64 0, .int .i64 0, str [], z0s, z0s, z0s]) Tryz.underlying41 Tryz.sizeOf83 Tryz.zeroValue83 rfl rfl rfl rfl rfl) rfl (fun b7 => ?_)
    refine Jgf (Cv := fun v_ => J3 83 6 v_ (cs5 ++ [[.int .i64 0, .int .i64 0, str [], z0s, z0s, z0s]]).length ((cs5 ++ [[.int .i64 0, .int .i64 0, str [], z0s, z0s, z0s]]).map Vp)) ((none, 0) : Option Addr × Nat) (Ud (f := Vp) (ys := cs5) (ls := [[.int .i64 0, .int .i64 0, str [], z0s, z0s, z0s]]) (cs := [.int .i64 0, .int .i64 0, str [], z0s, z0s, z0s]) (i := 7) (p := p5) (k := 8) (b := b7) Tryz.underlying41 (Xv Tryz.typeInfo83) rfl rfl rfl rfl rfl rfl rfl rfl rfl rfl rfl rfl rfl rfl rfl hzz rfl) (fun _ => rfl) rfl rfl (fun p6 => ?_)
    have hat8 : Yv (cs5 ++ [[.int .i64 0, .int .i64 0, str [], z0s, z0s, z0s]]) (cs5.length : Int) = some [.int .i64 0, .int .i64 0, str [], z0s, z0s, z0s] := Jd9 (by simp)
    refine d_readV (v := X1 p6.1 (cs5.length * 6)) rfl (fun w L' hF hS hi => Qx Tryz.underlying41 Tryz.sizeOf83 rfl rfl (Xd (i := 7) (E := 83) (sz := 6) (n := (cs5 ++ [[.int .i64 0, .int .i64 0, str [], z0s, z0s, z0s]]).length) (a := p6.1) (c := p6.2) hS ((hi 7 (by simp)).trans rfl)) rfl hat8) rfl rfl ?_
    refine d_storeD (Jh6 (sz := 6) (k := cs5.length * 6) (vs := [.int .i64 e.Tag, .int .i64 e.Value.kad, str e.Value.kae, v3, v4, v5]) (xs := (cs5 ++ [[.int .i64 0, .int .i64 0, str [], z0s, z0s, z0s]]).map Vp) Tryz.sizeOf83 rfl rfl rfl rfl hone6 (by simp) (by simp; omega) rfl) rfl rfl rfl ?_
    refine Jq rfl rfl (Jm rfl) ?_
    refine Jjw (Jf1 (xs := ls0 ++ [l]) (i := q) (j := 0) hcss.symm hcss Tryz.sizeOf41 rfl rfl rfl rfl rfl rfl rfl (Jd9 hq)) rfl rfl ?_
    refine X6 ?_
    try dsimp only [z1, z2, z3, z4, z5, z6, z7, z8]
    refine J1 7 rfl (Xe (Jj3 (i := cs5.length) (by simp) rfl (by decide)) (Imp.of (show J3 83 6 (.slice p6.1 (cs5 ++ [[.int .i64 0, .int .i64 0, str [], z0s, z0s, z0s]]).length p6.2) (cs5 ++ [[.int .i64 0, .int .i64 0, str [], z0s, z0s, z0s]]).length (((cs5 ++ [[.int .i64 0, .int .i64 0, str [], z0s, z0s, z0s]]).map Vp).set cs5.length [.int .i64 e.Tag, .int .i64 e.Value.kad, str e.Value.kae, v3, v4, v5]) = J3 83 6 (.slice p6.1 (cs5 ++ [[.int .i64 0, .int .i64 0, str [], z0s, z0s, z0s]]).length p6.2) (cs5 ++ [[.int .i64 0, .int .i64 0, str [], z0s, z0s, z0s]]).length ((cs5 ++ [[.int .i64 e.Tag, .int .i64 e.Value.kad, str e.Value.kae, v3, v4, v5]]).map Vp) from by rw [W7, W7]; simp))) ?_
    try dsimp only [z1, z2, z3, z4, z5, z6, z7, z8]
    refine Qc 6 1 rfl rfl (by decide) ?_
    try dsimp only [z1, z2, z3, z4, z5, z6, z7, z8]
    refine J1 6 rfl Jde ?_
    try dsimp only [z1, z2, z3, z4, z5, z6, z7, z8]
    refine Qc 6 7 rfl rfl (by decide) ?_
    try dsimp only [z1, z2, z3, z4, z5, z6, z7, z8]
    refine J1 6 rfl Jce ?_
    try dsimp only [z1, z2, z3, z4, z5, z6, z7, z8]
    refine J1 2 rfl imp_upD ?_
    try dsimp only [z1, z2, z3, z4, z5, z6, z7, z8]
    refine Qc 2 6 rfl rfl (by decide) ?_
    try dsimp only [z1, z2, z3, z4, z5, z6, z7, z8]
    refine J1 2 rfl Jjg ?_
    try dsimp only [z1, z2, z3, z4, z5, z6, z7, z8]
    refine J1 5 rfl (Imp.of (show J3 41 1 (.slice (some ⟨g, 0, none⟩) (ls0 ++ [l]).length pc) (ls0 ++ [l]).length ((setR (css0 ++ [[Value.slice p5.1 cs5.length p5.2]]) q 0 (Value.slice p6.1 (cs5 ++ [[.int .i64 0, .int .i64 0, str [], z0s, z0s, z0s]]).length p6.2)).map Vp) = J3 41 1 (.slice (some ⟨g, 0, none⟩) (ls0 ++ [l]).length pc) (ls0 ++ [l]).length ((css0 ++ [[(Value.slice p6.1 (cs5 ++ [[.int .i64 0, .int .i64 0, str [], z0s, z0s, z0s]]).length p6.2)]]).map Vp) from by rw [Jkc hqc]; rfl)) ?_
    try dsimp only [z1, z2, z3, z4, z5, z6, z7, z8]
    refine Qc 2 5 rfl rfl (by decide) ?_
    try dsimp only [z1, z2, z3, z4, z5, z6, z7, z8]
    refine J1 2 rfl Jiu ?_
    try dsimp only [z1, z2, z3, z4, z5, z6, z7, z8]
    refine J1 3 rfl Jg3 ?_
    try dsimp only [z1, z2, z3, z4, z5, z6, z7, z8]
    refine Qc 2 3 rfl rfl (by decide) ?_
    try dsimp only [z1, z2, z3, z4, z5, z6, z7, z8]
    refine Qc 0 2 rfl rfl (by decide) ?_
    try dsimp only [z1, z2, z3, z4, z5, z6, z7, z8]
    have hlen : (ls0 ++ [l]).length = (ls0 ++ [l ++ [e]]).length := by simp
    exact ret0n rfl (Yg () (i := 0) rfl rfl (Xe (Imp.of (show _ = Qy (Jn pb [.bool big, .slice (some ⟨g, 0, none⟩) (ls0 ++ [l ++ [e]]).length pc, .slice po.1 op.length po.2] 57) (Qy (Jbn (d + 1) (.slice (some ⟨g, 0, none⟩) (ls0 ++ [l ++ [e]]).length pc) (ls0 ++ [l ++ [e]])) (Yw (d + 1 + 1) (.slice po.1 op.length po.2) op)) from by rw [← hlen])) ⟨fun _ _ h => ⟨((some ⟨g, 0, none⟩, pc), po), h⟩⟩))) (by kernel_rfl)) (by kernel_rfl)
end Go.Proofs.YtkbiccgjkiifpaaGreatDoor

namespace Go.Proofs.YtkbiccgjkiifpaaGreatDoor
open Go Go.Vc Go.Md Go.M Go.Lx
set_option maxRecDepth 100000
set_option maxHeartbeats 400000
theorem ent_form {d : Nat} {c : List Value} {x : Ta} {S : Nat → Prop} {w : World} (h : (Uj fun h bs => TreeE (TreeL d) h c x bs).P S w) : ∃ y : Value × Value × Value, c = [.int .i64 x.Tag, .int .i64 x.Value.kad, str x.Value.kae, y.1, y.2.1, y.2.2] ∧ (Uj fun h bs => TreeE (TreeL d) h [.int .i64 x.Tag, .int .i64 x.Value.kad, str x.Value.kae, y.1, y.2.1, y.2.2] x bs).P S w := by
  have h' := h
  obtain ⟨hp, ⟨bs, ⟨w3, w4, w5, b5, rfl, _⟩, _⟩, _⟩ := h
  exact ⟨(w3, w4, w5), rfl, h'⟩
theorem gCut_init {α : Type} {xs ys : List α} {x : α} {q : Int} (hq : q = ((xs ++ [x]).length : Int) - 1) (h : Xx (xs ++ [x]) 0 q = some ys) : ys = xs := by
  have e : q = ((xs.length : Nat) : Int) := by rw [hq]; simp
  rw [e] at h
  obtain ⟨_, _, _, rfl⟩ := Z0 h
  simp
theorem Jkp {E sz n c : Nat} {a : Option Addr} {xs ys : List (List Value)} : Imp (J3 E sz (.slice a n c) n (xs ++ ys)) (J3 E sz (.slice a xs.length c) xs.length xs) := ⟨fun S w h => by
  obtain ⟨⟨ho, hm, hl⟩, hob⟩ := h
  have hl' : ∀ x ∈ xs, x.length = sz := fun x hx => hl x (List.mem_append_left _ hx)
  have hle : xs.length ≤ n := by rw [← hm]; simp
  refine ⟨⟨⟨Jag _ hl', ?_⟩, rfl, hl'⟩, fun b hb => hob b (by cases a with | none => cases hb | some g => exact hb)⟩
  rcases ho.2 with ⟨h0, h00⟩ | ⟨g, cap, cur, hv, hb0, hh, hnc, hcm, hcs, htk⟩
  · simp only [Value.slice.injEq] at h0
    obtain ⟨rfl, rfl, rfl⟩ := h0
    exact .inl ⟨by rw [show xs.length = 0 by omega], by omega⟩
  · simp only [Value.slice.injEq] at hv
    obtain ⟨rfl, _, rfl⟩ := hv
    refine .inr ⟨g, c, cur, rfl, hb0, hh, Nat.le_trans hle hnc, hcm, hcs, ?_⟩
    have h1 : xs.flatten.length = xs.length * sz := Jag _ hl'
    have h2 : cur.toList.take (xs.length * sz) = (cur.toList.take (n * sz)).take (xs.length * sz) := by rw [List.take_take, Nat.min_eq_left (Nat.mul_le_mul_right _ hle)]
    rw [h2, htk, List.flatten_append, List.take_append_of_le_length (by omega), List.take_of_length_le (by omega)]⟩
theorem rv_none {s : List UInt8} {v : Tb × Int} (h : Vu s = some v) : v.1.kab = [] := by
  have hce : ∀ {a b : List Ta}, Jam a = some b → b = [] := fun {a b} k => by
    unfold Jam at k
    cases hd : decide ((a.length : Int) = 0) with
    | true => rw [hd] at k; exact (Option.some.inj k).symm
    | false => rw [hd] at k; cases k
  have hcv : ∀ {a b : Tb}, Vw a = some b → b.kab = [] := fun {a b} k => by
    unfold Vw at k
    obtain ⟨_, _, k⟩ := Je k
    obtain ⟨_, _, k⟩ := Je k
    obtain ⟨_, k1, k⟩ := Je k
    obtain rfl := Option.some.inj k
    exact hce k1
  unfold Vu at h
  cases h1 : decide (1000000 < (s.length : Int)) with
  | true => rw [h1] at h; obtain rfl := Option.some.inj h; rfl
  | false =>
    rw [h1] at h
    replace h := Xg rfl h
    obtain ⟨t14, _, h⟩ := Je h
    obtain ⟨t16, _, h⟩ := Je h
    obtain ⟨t18, _, h⟩ := Je h
    cases h2 : decide (t18 = 0) with
    | true => rw [h2] at h; obtain rfl := Option.some.inj h; rfl
    | false =>
      rw [h2] at h
      replace h := Xg rfl h
      obtain ⟨t25, _, h⟩ := Je h
      obtain ⟨t26, _, h⟩ := Je h
      cases h3 : (!t26.2) with
      | true => rw [h3] at h; obtain rfl := Option.some.inj h; rfl
      | false =>
        rw [h3] at h
        replace h := Xg rfl h
        obtain ⟨t33, _, h⟩ := Je h
        cases h4 : decide (t33 ≠ 0) with
        | true => rw [h4] at h; obtain rfl := Option.some.inj h; rfl
        | false =>
          rw [h4] at h
          replace h := Xg rfl h
          obtain ⟨t39, h5, h⟩ := Je h
          obtain rfl := Option.some.inj h
          exact hcv h5
theorem imp_rowD0 {d : Nat} {v : Value} : Imp (rowD 83 6 g_tag_Entry v 0 []) (Yw (d + 1) v []) := ⟨fun S w ⟨hp, css, hA, hn, S1, S2, h1, h2, s1, s2, sd⟩ => by
  obtain rfl := List.length_eq_zero_iff.1 hn.symm
  obtain ⟨hp', ⟨bs, ⟨r, _, hb⟩, nd, dom⟩, pl⟩ := imp_rowOwn.out _ _ h2
  exact ⟨hp', ⟨bs, ⟨[], [], r, rfl, by simp [hb]⟩, nd, dom⟩, pl.1, fun b o h => (pl.2 b o h).imp id fun k => ⟨s2 _ k.1, k.2⟩⟩⟩
theorem imp_rv {d : Nat} {t : Int} {v : Tb} {v3 v4 : Value} {p : Option Addr × Nat} (h : v.kab = []) :
    Imp (Qy (roV 1 v3 v.kaf.length (v.kaf.map Qz)) (Qy (roV 2 v4 v.kac.length (v.kac.map Jl)) (rowD 83 6 g_tag_Entry (.slice p.1 v.kab.length p.2) v.kab.length v.kab)))
      (Uj fun h bs => TreeE (TreeL (d + 1)) h [.int .i64 t, .int .i64 v.kad, str v.kae, v3, v4, .slice p.1 v.kab.length p.2] ⟨t, v⟩ bs) := by
  have i : Imp (rowD 83 6 g_tag_Entry (.slice p.1 v.kab.length p.2) v.kab.length v.kab) (Yw (d + 1) (.slice p.1 v.kab.length p.2) v.kab) := by
    rw [h]; exact imp_rowD0
  exact Xe (Jat (Imp.refl _) (Jat (Imp.refl _) i)) (imp_kid (x := ⟨t, v⟩))
theorem imp_ent0 {d : Nat} {t : Int} : Imp empC (Uj fun h bs => TreeE (TreeL d) h [.int .i64 t, .int .i64 13, str [], z0s, z0s, z0s] ⟨t, ⟨13, [], [], [], []⟩⟩ bs) := by
  have ht : TreeL d Wa (z0s) [] [] := by
    induction d with
    | zero => exact ⟨rfl, rfl, rfl⟩
    | succ d ih => exact ih.up
  have f : ∀ {n}, FrS Wa n (z0s) [] := fun {n} => ⟨none, 0, rfl, Nat.le_refl _, by decide, .inl rfl⟩
  exact Jbh ⟨_, _, _, [], rfl, f, f, ht, rfl⟩
theorem k25 {d pb : Nat} {r : TxR} {s : List UInt8} {y : Int × TxR} {w : World} {h : Jw} {S : Nat → Prop} (hcs : (rdC d pb r).P S w) (hlt : ∀ b, S b → b < w.heap.size) (hw : Know h w S) (tb_pow10 : TabH Tryz.prog h "internal/strconv.uint64pow10" .u64 Lib.pow10Tab) (H : Zd r s = some y) :
    Does Tryz.prog 25 (List.toArray [pz pb, str s]) w (fun v w' => ∃ x : Unit, v = .int .i64 y.1 ∧ Turn w w' S (rdC (d + 2) pb y.2)) := by
 obtain ⟨big, dirs, op⟩ := r
 unfold Zd at H
 refine enter (n := 138) Tryz.func25 rfl rfl rfl S [rdC d pb ⟨big, dirs, op⟩] (Sat.one hcs hlt) ?_
 refine c_ex 0 rfl fun ⟨pd, po⟩ => ?_
 refine Xo 0 rfl ?_
 try dsimp only [z1, z2, z3, z4, z5, z6, z7, z8]
 refine Xo 1 rfl ?_
 try dsimp only [z1, z2, z3, z4, z5, z6, z7, z8]
 refine Jc ?_
 refine Ja ?_
 refine Jf rfl rfl rfl (Jg (v := .int .i64 0) rfl) ?_
 refine Jd ?_
 refine Qe (r := y) (σ := Unit) (τ := Unit) (fun _ => Jew ⟨big, dirs, op⟩ s) (fun _ _ => [(0, pz pb), (1, str s)]) (fun _ _ => [Jn pb [.bool big, (.slice pd.1 dirs.length pd.2), (.slice po.1 op.length po.2)] 57, Jbn d (.slice pd.1 dirs.length pd.2) dirs, Yw (d + 1) (.slice po.1 op.length po.2) op]) (fun _ _ => True) ?_ ?_
 ·refine Jc ?_
  refine Ja ?_
  refine Jf rfl rfl rfl (Jk (v := str s) rfl) ?_
  refine Jf rfl rfl rfl (Vl rfl rfl) ?_
  refine Jf rfl rfl rfl (Jk (v := .bool (decide (s = [100, 105, 114]))) rfl) ?_
  refine split (fun hb => ?_) (fun hb => ?_)
  ·rw [hb, Bool.true_and] at H
   refine Jf rfl rfl rfl (Jk (v := pz pb) rfl) ?_
   refine Jf rfl rfl rfl (Jm rfl) ?_
   refine Jf rfl rfl rfl (Jr Tryz.runUnderlying57 rfl Tryz.sizeOf41 rfl rfl) ?_
   refine Y7 (i := 0) (v := (.slice po.1 op.length po.2)) Tryz.isAgg41 rfl rfl rfl rfl rfl ?_
   refine Jf rfl rfl rfl (Wl Tryz.underlying41 rfl) ?_
   refine Jf rfl rfl rfl (Qd rfl rfl) ?_
   refine Jf rfl rfl rfl (Xp (v := .bool (decide ((op.length : Int) = 0))) rfl rfl) ?_
   refine Jd ?_
   refine Jak (b := decide ((op.length : Int) = 0)) rfl (fun hb2 => ?_) (fun hb2 => ?_)
   ·have H1 := Xn hb2 H
    obtain ⟨ds, h_ds, H2⟩ := Je H1
    obtain rfl := Option.some.inj H2
    obtain ⟨rfl, hz1, hz2⟩ := Jch h_ds
    refine Uq (τ := List (List Value)) (D := fun css => Qy (Jdm d css dirs) (J3 41 1 (.slice pd.1 dirs.length pd.2) css.length (css.map Vp))) (φ := fun css => css.length = dirs.length) 1 rfl (fun S w h => Jiy h) (fun css hcss => ?_)
    try dsimp only [z1, z2, z3, z4, z5, z6, z7, z8]
    refine Xo 1 rfl ?_
    try dsimp only [z1, z2, z3, z4, z5, z6, z7, z8]
    refine J1 3 rfl (Imp.of (show J3 41 1 (.slice pd.1 dirs.length pd.2) css.length (css.map Vp) = J3 41 1 (.slice pd.1 dirs.length pd.2) dirs.length (css.map Vp) from by rw [hcss])) ?_
    try dsimp only [z1, z2, z3, z4, z5, z6, z7, z8]
    have hzc : (css ++ [[Value.slice none 0 0]]).length * 24 ≤ 140737488355328 := by rw [List.length_append, hcss]; simpa using hz2
    refine Jc ?_
    refine Ja ?_
    refine Jf rfl rfl rfl (Jk (v := pz pb) rfl) ?_
    refine Jf rfl rfl rfl (Jk (v := pz pb) rfl) ?_
    refine Jf rfl rfl rfl (Jm rfl) ?_
    refine Jf rfl rfl rfl (Jr Tryz.runUnderlying57 rfl Tryz.sizeOf24 rfl rfl) ?_
    refine Jf rfl rfl rfl (Jr Tryz.runUnderlying24 rfl Tryz.sizeOf22 rfl rfl) ?_
    refine Y7 (i := 0) (v := (.slice pd.1 dirs.length pd.2)) Tryz.isAgg22 rfl rfl rfl rfl rfl ?_
    refine Q9 (vs := [z0s]) (cs := [z0s]) Tryz.underlying22 Tryz.sizeOf41 Tryz.zeroValue41 rfl rfl rfl rfl rfl rfl rfl (fun b7 => ?_)
    refine Q1 (Ud (f := Vp) (ys := css) (ls := [[Value.slice none 0 0]]) (cs := [z0s]) (i := 3) (p := pd) (k := 4) (b := b7) Tryz.underlying22 (Xv Tryz.typeInfo41) rfl rfl rfl rfl rfl rfl rfl hcss.symm rfl rfl rfl rfl rfl rfl rfl hzc rfl) rfl rfl rfl (fun p6 => ?_)
    refine Jf rfl rfl rfl (Jm rfl) ?_
    refine Jf rfl rfl rfl (Jr Tryz.runUnderlying57 rfl Tryz.sizeOf24 rfl rfl) ?_
    refine Jf rfl rfl rfl (Jr Tryz.runUnderlying24 rfl Tryz.sizeOf22 rfl rfl) ?_
    refine Qu (i := 0) (vs := [.slice p6.1 (css ++ [[Value.slice none 0 0]]).length p6.2]) (cs' := [.bool big, .slice p6.1 (css ++ [[Value.slice none 0 0]]).length p6.2, (.slice po.1 op.length po.2)]) Tryz.sizeOf22 rfl rfl rfl rfl rfl rfl rfl rfl rfl ?_
    refine Jd ?_
    try dsimp only [z1, z2, z3, z4, z5, z6, z7, z8]
    refine Jc ?_
    refine Ja ?_
    refine Jf rfl rfl rfl (Jg (v := .int .i64 0) rfl) ?_
    refine Jd ?_
    refine Ji ?_
    refine Jed ?_
    try dsimp only [z1, z2, z3, z4, z5, z6, z7, z8]
    refine J1 5 rfl (Jas (d := d)) ?_
    try dsimp only [z1, z2, z3, z4, z5, z6, z7, z8]
    refine J1 1 rfl imp_upD ?_
    try dsimp only [z1, z2, z3, z4, z5, z6, z7, z8]
    refine Qc 1 5 rfl rfl (by decide) ?_
    try dsimp only [z1, z2, z3, z4, z5, z6, z7, z8]
    refine J1 1 rfl Jjg ?_
    try dsimp only [z1, z2, z3, z4, z5, z6, z7, z8]
    refine Qc 1 3 rfl rfl (by decide) ?_
    try dsimp only [z1, z2, z3, z4, z5, z6, z7, z8]
    refine J1 1 rfl Jiu ?_
    try dsimp only [z1, z2, z3, z4, z5, z6, z7, z8]
    refine J1 2 rfl Jg3 ?_
    try dsimp only [z1, z2, z3, z4, z5, z6, z7, z8]
    refine Qc 1 2 rfl rfl (by decide) ?_
    try dsimp only [z1, z2, z3, z4, z5, z6, z7, z8]
    refine Qc 0 1 rfl rfl (by decide) ?_
    try dsimp only [z1, z2, z3, z4, z5, z6, z7, z8]
    have hlen : (css ++ [[Value.slice none 0 0]]).length = (dirs ++ [[]]).length := by rw [List.length_append, List.length_append, hcss]; rfl
    exact Ja1 rfl rfl (Yg () (i := 0) rfl rfl (Xe (Xe (Imp.of (show _ = Qy (Jn pb [.bool big, .slice p6.1 (dirs ++ [[]]).length p6.2, .slice po.1 op.length po.2] 57) (Qy (Jbn (d + 1) (.slice p6.1 (dirs ++ [[]]).length p6.2) (dirs ++ [[]])) (Yw (d + 1 + 1) (.slice po.1 op.length po.2) op)) from by rw [← hlen])) (⟨fun _ _ h => ⟨(p6, po), h⟩⟩ : Imp _ (rdC (d + 1) pb ⟨big, dirs ++ [[]], op⟩))) U9))
   ·have H1 := Xg hb2 H
    refine Jh ?_
    refine Ze () () 0 [0, 1, 2] (by exact ⟨rfl, rfl, trivial⟩) (by decide) (by kernel_rfl) (by exact ⟨H1, trivial⟩) (Nat.lt_succ_self _)
  ·rw [hb, Bool.false_and] at H
   have H1 := Xg rfl H
   refine Jx rfl rfl rfl ?_
   refine Jx rfl rfl rfl ?_
   refine Jx rfl rfl rfl ?_
   refine Jx rfl rfl rfl ?_
   refine Jx rfl rfl rfl ?_
   refine Jx rfl rfl rfl ?_
   refine Jf rfl rfl rfl (X4 (v := .bool false) rfl rfl) ?_
   refine Jd ?_
   refine Zc rfl ?_
   refine Jh ?_
   refine Ze () () 0 [0, 1, 2] (by exact ⟨rfl, rfl, trivial⟩) (by decide) (by kernel_rfl) (by exact ⟨H1, trivial⟩) (Nat.lt_succ_self _)
 ·rintro _ _ gg H2 _
  replace H2 : Jew ⟨big, dirs, op⟩ s = some y := H2
  clear H
  obtain ⟨shut, h_shut, H3⟩ := Je H2
  try dsimp only
  refine Jc ?_
  refine Ja ?_
  refine Jf rfl rfl rfl (Jk (v := pz pb) rfl) ?_
  refine Jf rfl rfl rfl (Jm rfl) ?_
  refine Jf rfl rfl rfl (Jr Tryz.runUnderlying57 rfl Tryz.sizeOf41 rfl rfl) ?_
  refine Y7 (i := 0) (v := (.slice po.1 op.length po.2)) Tryz.isAgg41 rfl rfl rfl rfl rfl ?_
  refine Jf rfl rfl rfl (Wl Tryz.underlying41 rfl) ?_
  refine Jf rfl rfl rfl (Jg (v := .int .i64 op.length) rfl) ?_
  refine Jd ?_
  refine Qe (r := y) (σ := Unit) (τ := Unit) (fun _ => Ja8 ⟨big, dirs, op⟩ s) (fun _ _ => [(0, pz pb), (1, str s), (5, .int .i64 op.length)]) (fun _ _ => [Jn pb [.bool big, (.slice pd.1 dirs.length pd.2), (.slice po.1 op.length po.2)] 57, Jbn d (.slice pd.1 dirs.length pd.2) dirs, Yw (d + 1) (.slice po.1 op.length po.2) op]) (fun _ _ => True) ?_ ?_
  ·refine Jc ?_
   refine Ja ?_
   refine Jf rfl rfl rfl (Jk (v := .int .i64 op.length) rfl) ?_
   refine Jf rfl rfl rfl (Ye rfl rfl) ?_
   refine Jf rfl rfl rfl (Jk (v := .bool (decide (0 < (op.length : Int)))) rfl) ?_
   refine split (fun hb => ?_) (fun hb => ?_)
   ·have G1 := Xn hb h_shut
    obtain ⟨t, h_t, G2⟩ := Je G1
    obtain ⟨u, h_u, G3⟩ := Je G2
    obtain rfl := Option.some.inj G3
    refine Jf rfl rfl rfl (Jk (v := str s) rfl) ?_
    refine Jf rfl rfl rfl (Jk (v := .int .i64 op.length) rfl) ?_
    refine Qm (k40 h_t) Tryz.call40 rfl rfl rfl ?_
    refine Jf rfl rfl rfl (Qw rfl rfl h_u) ?_
    refine Jf rfl rfl rfl (Vl rfl rfl) ?_
    refine Jf rfl rfl rfl (Xp (v := .bool (decide (s = u))) rfl rfl) ?_
    refine Jd ?_
    refine Jak (b := decide (s = u)) rfl (fun hb2 => ?_) (fun hb2 => ?_)
    ·have H4 := Xn hb2 H3
     obtain ⟨q, h_q, H5⟩ := Je H4
     obtain ⟨x, h_x, H6⟩ := Je H5
     obtain ⟨op', h_op, H7⟩ := Je H6
     obtain ⟨r', h_put, H8⟩ := Je H7
     obtain rfl := Option.some.inj H8
     obtain ⟨xs0, x', rfl⟩ := Jft (xs := op) (by have := of_decide_eq_true hb; omega)
     have hq : q = ((xs0 ++ [x']).length : Int) - 1 := (Jd7 h_q).1
     obtain rfl := Jhs hq h_x
     obtain rfl := gCut_init hq h_op
     refine Uq (τ := List (List Value)) (D := fun css => Qy (Jck d css (op' ++ [x])) (J3 83 6 (.slice po.1 (op' ++ [x]).length po.2) css.length (css.map Vp))) (φ := fun css => css.length = (op' ++ [x]).length) 2 rfl (fun S w h => Jec h) (fun css hcss => ?_)
     try dsimp only [z1, z2, z3, z4, z5, z6, z7, z8]
     obtain ⟨css0, c, rfl⟩ := Jft (xs := css) (by rw [hcss]; simp)
     refine Xo 2 rfl ?_
     try dsimp only [z1, z2, z3, z4, z5, z6, z7, z8]
     refine J1 2 rfl imp_lastK ?_
     try dsimp only [z1, z2, z3, z4, z5, z6, z7, z8]
     refine Xo 2 rfl ?_
     try dsimp only [z1, z2, z3, z4, z5, z6, z7, z8]
     refine Uq (C := Uj fun h bs => TreeE (TreeL d) h c x bs) (τ := Value × Value × Value) (D := fun y => Uj fun h bs => TreeE (TreeL d) h [.int .i64 x.Tag, .int .i64 x.Value.kad, str x.Value.kae, y.1, y.2.1, y.2.2] x bs) (φ := fun y => c = [.int .i64 x.Tag, .int .i64 x.Value.kad, str x.Value.kae, y.1, y.2.1, y.2.2]) 4 rfl (fun S w h => ent_form h) (fun ⟨u3, u4, u5⟩ hc => ?_)
     subst hc
     try dsimp only [z1, z2, z3, z4, z5, z6, z7, z8]
     refine Uq (C := Uj fun h bs => TreeE (TreeL d) h [.int .i64 x.Tag, .int .i64 x.Value.kad, str x.Value.kae, u3, u4, u5] x bs) (τ := Unit) (D := fun _ => Uj fun h bs => TreeE (TreeL d) h [.int .i64 x.Tag, .int .i64 x.Value.kad, str x.Value.kae, u3, u4, u5] x bs) (φ := fun _ => u3.oneCell' = true ∧ u4.oneCell' = true ∧ u5.oneCell' = true) 4 rfl (fun S w h => ⟨(), Jjq h, h⟩) (fun _ hones => ?_)
     try dsimp only [z1, z2, z3, z4, z5, z6, z7, z8]
     have hone6 : List.all [.int .i64 x.Tag, .int .i64 x.Value.kad, str x.Value.kae, u3, u4, u5] Value.oneCell' = true := by simp only [List.all, hones.1, hones.2.1, hones.2.2]; rfl
     have hat := Jd9 (xs := css0) (x := [.int .i64 x.Tag, .int .i64 x.Value.kad, str x.Value.kae, u3, u4, u5]) (q := q) (by rw [hcss]; exact hq)
     refine J1 3 rfl (Imp.of (show J3 83 6 (.slice po.1 (op' ++ [x]).length po.2) (css0 ++ [[.int .i64 x.Tag, .int .i64 x.Value.kad, str x.Value.kae, u3, u4, u5]]).length ((css0 ++ [[.int .i64 x.Tag, .int .i64 x.Value.kad, str x.Value.kae, u3, u4, u5]]).map Vp) = J3 83 6 (.slice po.1 (op' ++ [x]).length po.2) (op' ++ [x]).length ((css0 ++ [[.int .i64 x.Tag, .int .i64 x.Value.kad, str x.Value.kae, u3, u4, u5]]).map Vp) from by rw [hcss])) ?_
     try dsimp only [z1, z2, z3, z4, z5, z6, z7, z8]
     refine Jc ?_
     refine Ja ?_
     refine Jf rfl rfl rfl (Jk (v := pz pb) rfl) ?_
     refine Jf rfl rfl rfl (Jm rfl) ?_
     refine Jf rfl rfl rfl (Jr Tryz.runUnderlying57 rfl Tryz.sizeOf41 rfl rfl) ?_
     refine Y7 (i := 0) (v := (.slice po.1 (op' ++ [x]).length po.2)) Tryz.isAgg41 rfl rfl rfl rfl rfl ?_
     refine Jf rfl rfl rfl (Jk (v := .int .i64 (op' ++ [x]).length) rfl) ?_
     refine Jf rfl rfl rfl (Vh rfl rfl h_q) ?_
     refine Qf (fun w hF hS => Qx Tryz.underlying41 Tryz.sizeOf83 rfl rfl (Xd (i := 3) hS rfl) hcss.symm hat) rfl rfl rfl ?_
     refine Qf (fun w hF hS => Yl (f := Vp) (i := q) (sz := 6) (j := 0) (vs := [.int .i64 x.Tag, .int .i64 x.Value.kad, str x.Value.kae, u3, u4, u5]) Tryz.isAgg83 Tryz.sizeOf83 rfl rfl (Xd (i := 3) hS rfl) hat rfl) rfl rfl rfl ?_
     refine Xi (cs := [.int .i64 0, .int .i64 0, str [], z0s, z0s, z0s]) Tryz.zeroValue83 rfl rfl rfl (fun b6 => ?_)
     refine Qu (i := 5) (vs := [.int .i64 x.Tag, .int .i64 x.Value.kad, str x.Value.kae, u3, u4, u5]) (cs' := [.int .i64 x.Tag, .int .i64 x.Value.kad, str x.Value.kae, u3, u4, u5]) Tryz.sizeOf83 rfl rfl rfl rfl rfl rfl hone6 rfl rfl ?_
     refine Jd ?_
     try dsimp only [z1, z2, z3, z4, z5, z6, z7, z8]
     refine Jc ?_
     refine Ja ?_
     refine Jf rfl rfl rfl (Jk (v := pz pb) rfl) ?_
     refine Jf rfl rfl rfl (Jk (v := pz pb) rfl) ?_
     refine Jf rfl rfl rfl (Jm rfl) ?_
     refine Jf rfl rfl rfl (Jr Tryz.runUnderlying57 rfl Tryz.sizeOf41 rfl rfl) ?_
     refine Y7 (i := 0) (v := (.slice po.1 (op' ++ [x]).length po.2)) Tryz.isAgg41 rfl rfl rfl rfl rfl ?_
     refine Jf rfl rfl rfl (Jk (v := .int .i64 (op' ++ [x]).length) rfl) ?_
     refine Jf rfl rfl rfl (Vh rfl rfl h_q) ?_
     refine Qf (v := .slice po.1 op'.length po.2) (fun w hF hS => (Ji4 (xs := op' ++ [x]) Tryz.underlying41 Tryz.sizeOf83 rfl rfl rfl (Jdt (i := 3) hS rfl) h_op).trans (by rw [show (0 : Int).toNat = 0 from rfl, Jgw, Nat.sub_zero])) rfl rfl rfl ?_
     refine Jf rfl rfl rfl (Jm rfl) ?_
     refine Jf rfl rfl rfl (Jr Tryz.runUnderlying57 rfl Tryz.sizeOf41 rfl rfl) ?_
     refine Qu (i := 0) (vs := [.slice po.1 op'.length po.2]) (cs' := [.bool big, (.slice pd.1 dirs.length pd.2), .slice po.1 op'.length po.2]) Tryz.sizeOf41 rfl rfl rfl rfl rfl rfl rfl rfl rfl ?_
     refine Jd ?_
     try dsimp only [z1, z2, z3, z4, z5, z6, z7, z8]
     refine J1 3 rfl (Imp.of (show J3 83 6 (.slice po.1 (op' ++ [x]).length po.2) (op' ++ [x]).length ((css0 ++ [[.int .i64 x.Tag, .int .i64 x.Value.kad, str x.Value.kae, u3, u4, u5]]).map Vp) = J3 83 6 (.slice po.1 (op' ++ [x]).length po.2) (op' ++ [x]).length (css0 ++ [[.int .i64 x.Tag, .int .i64 x.Value.kad, str x.Value.kae, u3, u4, u5]]) from by rw [W7])) ?_
     try dsimp only [z1, z2, z3, z4, z5, z6, z7, z8]
     refine J1 3 rfl Jkp ?_
     try dsimp only [z1, z2, z3, z4, z5, z6, z7, z8]
     have hc0 : css0.length = op'.length := by simpa using hcss
     refine J1 3 rfl (Imp.of (show J3 83 6 (.slice po.1 css0.length po.2) css0.length css0 = J3 83 6 (.slice po.1 op'.length po.2) css0.length (css0.map Vp) from by rw [W7, hc0])) ?_
     try dsimp only [z1, z2, z3, z4, z5, z6, z7, z8]
     refine Qc 2 3 rfl rfl (by decide) ?_
     try dsimp only [z1, z2, z3, z4, z5, z6, z7, z8]
     refine J1 2 rfl Jce ?_
     try dsimp only [z1, z2, z3, z4, z5, z6, z7, z8]
     refine Qc 1 2 rfl rfl (by decide) ?_
     try dsimp only [z1, z2, z3, z4, z5, z6, z7, z8]
     refine Qc 0 1 rfl rfl (by decide) ?_
     try dsimp only [z1, z2, z3, z4, z5, z6, z7, z8]
     refine J1 0 rfl (⟨fun _ _ h => ⟨(pd, po), h⟩⟩ : Imp _ (rdC d pb ⟨big, dirs, op'⟩)) ?_
     try dsimp only [z1, z2, z3, z4, z5, z6, z7, z8]
     refine Qc 0 4 rfl rfl (by decide) ?_
     try dsimp only [z1, z2, z3, z4, z5, z6, z7, z8]
     refine Jc ?_
     refine Ja ?_
     refine Jf rfl rfl rfl (Jk (v := pz pb) rfl) ?_
     refine Q0 (i := 5) (vs := [.int .i64 x.Tag, .int .i64 x.Value.kad, str x.Value.kae, u3, u4, u5]) Tryz.isAgg83 Tryz.sizeOf83 rfl rfl rfl rfl rfl ?_
     refine Q1 (Qa (i := 0) (rds := []) (G := fun _ : Unit => .tuple #[]) (C := fun _ : Unit => rdC (d + 1) pb r') rfl (fun w L' S hF hS hi hC hlt hown hA => k46 hC hlt h_put) Tryz.call46 rfl) rfl rfl rfl (fun _ => ?_)
     refine Jd ?_
     try dsimp only [z1, z2, z3, z4, z5, z6, z7, z8]
     refine Jc ?_
     refine Ja ?_
     refine Jf rfl rfl rfl (Jg (v := .int .i64 0) rfl) ?_
     refine Jd ?_
     refine Ji ?_
     exact Ja1 rfl rfl (Yg () (i := 0) rfl rfl U9)
    ·have H4 := Xg hb2 H3
     refine Jh ?_
     refine Ze () () 0 [0, 1, 2] (by exact ⟨rfl, rfl, rfl, trivial⟩) (by decide) (by kernel_rfl) (by exact ⟨H4, trivial⟩) (Nat.lt_succ_self _)
   ·obtain rfl := Option.some.inj (Xg hb h_shut)
    refine Jx rfl rfl rfl ?_
    refine Jx rfl rfl rfl ?_
    refine Jx rfl rfl rfl ?_
    refine Jx rfl rfl rfl ?_
    refine Jx rfl rfl rfl ?_
    refine Jf rfl rfl rfl (X4 (v := .bool false) rfl rfl) ?_
    refine Jd ?_
    refine Zc rfl ?_
    refine Jh ?_
    have H4 := Xg rfl H3
    refine Ze () () 0 [0, 1, 2] (by exact ⟨rfl, rfl, rfl, trivial⟩) (by decide) (by kernel_rfl) (by exact ⟨H4, trivial⟩) (Nat.lt_succ_self _)
  ·rintro _ _ gg H4 _
   replace H4 : Ja8 ⟨big, dirs, op⟩ s = some y := H4
   try dsimp only
   unfold Ja8 at H4
   obtain ⟨n1, h_n1, H5⟩ := Je H4
   obtain ⟨t, h_t, H5⟩ := Je H5
   obtain ⟨q, h_q, H5⟩ := Je H5
   obtain ⟨c, h_c, H5⟩ := Je H5
   obtain ⟨p, h_p, H6⟩ := Je H5
   clear H5 H4
   refine Jc ?_
   refine Ja ?_
   refine Jf rfl rfl rfl (Jk (v := str s) rfl) ?_
   refine Jf rfl rfl rfl (Jk (v := .int .i64 op.length) rfl) ?_
   refine Jf rfl rfl rfl (J8 rfl rfl h_n1) ?_
   refine Qm (k40 h_t) Tryz.call40 rfl rfl rfl ?_
   refine Qm (k47 h_q) Tryz.call47 rfl rfl rfl ?_
   refine Jf rfl rfl rfl (Jk (v := .tuple #[str q.1, .bool q.2]) rfl) ?_
   refine Jf rfl rfl rfl (Jo (v := str q.1) rfl rfl) ?_
   refine Jf rfl rfl rfl (Jo (v := .bool q.2) rfl rfl) ?_
   refine Jf rfl rfl rfl (Jg (v := str q.1) rfl) ?_
   refine Jf rfl rfl rfl (Jg (v := .bool q.2) rfl) ?_
   refine Jd ?_
   refine Jc ?_
   refine Ja ?_
   refine Jf rfl rfl rfl (Jk (v := str q.1) rfl) ?_
   refine Qm (k24 h_c) Tryz.call24 rfl rfl rfl ?_
   refine Jf rfl rfl rfl (Jk (v := .tuple #[str c.1, str c.2.1, .bool c.2.2]) rfl) ?_
   refine Jf rfl rfl rfl (Jo (v := str c.1) rfl rfl) ?_
   refine Jf rfl rfl rfl (Jo (v := str c.2.1) rfl rfl) ?_
   refine Jf rfl rfl rfl (Jo (v := .bool c.2.2) rfl rfl) ?_
   refine Jf rfl rfl rfl (Jg (v := str c.1) rfl) ?_
   refine Jf rfl rfl rfl (Jg (v := str c.2.1) rfl) ?_
   refine Jf rfl rfl rfl (Jg (v := .bool c.2.2) rfl) ?_
   refine Jd ?_
   refine Jc ?_
   refine Ja ?_
   refine Jf rfl rfl rfl (Jk (v := str c.1) rfl) ?_
   refine Qt (fun w hF hS => k48 (Ju w) (tb_pow10.mono (hw.now hF)) h_p) Tryz.call48 rfl rfl rfl ?_
   refine Jf rfl rfl rfl (Jk (v := .tuple #[.int .i64 p.1, .bool p.2]) rfl) ?_
   refine Jf rfl rfl rfl (Jo (v := .int .i64 p.1) rfl rfl) ?_
   refine Jf rfl rfl rfl (Jo (v := .bool p.2) rfl rfl) ?_
   refine Jf rfl rfl rfl (Jg (v := .int .i64 p.1) rfl) ?_
   refine Jf rfl rfl rfl (Jg (v := .bool p.2) rfl) ?_
   refine Jd ?_
   refine Jc ?_
   refine Jc ?_
   refine Ja ?_
   refine Jf rfl rfl rfl (Jk (v := .bool q.2) rfl) ?_
   refine Jf rfl rfl rfl (Jay rfl) ?_
   refine Jf rfl rfl rfl (Jk (v := .bool (!q.2)) rfl) ?_
   refine split (fun hb => ?_) (fun hb => ?_)
   ·rw [hb, Bool.true_or] at H6
    have H7 := Xn rfl H6
    refine Jx rfl rfl rfl ?_
    refine Jx rfl rfl rfl ?_
    refine Jf rfl rfl rfl (Xp (v := .bool true) rfl rfl) ?_
    refine Jf rfl rfl rfl (Jk (v := .bool true) rfl) ?_
    refine Jx rfl rfl rfl ?_
    refine Jx rfl rfl rfl ?_
    refine Jf rfl rfl rfl (Xp (v := .bool true) rfl rfl) ?_
    refine Jf rfl rfl rfl (Jk (v := .bool true) rfl) ?_
    refine Jx rfl rfl rfl ?_
    refine Jx rfl rfl rfl ?_
    refine Jx rfl rfl rfl ?_
    refine Jx rfl rfl rfl ?_
    refine Jx rfl rfl rfl ?_
    refine Jx rfl rfl rfl ?_
    refine Jx rfl rfl rfl ?_
    refine Jf rfl rfl rfl (Xp (v := .bool true) rfl rfl) ?_
    refine Jd ?_
    refine Yc rfl ?_
    refine Jc ?_
    refine Ja ?_
    refine Jf rfl rfl rfl (Jg (v := .int .i64 8) rfl) ?_
    refine Jd ?_
    refine Ji ?_
    obtain rfl := Option.some.inj H7
    refine Qc 1 2 rfl rfl (by decide) ?_
    try dsimp only [z1, z2, z3, z4, z5, z6, z7, z8]
    refine Qc 0 1 rfl rfl (by decide) ?_
    try dsimp only [z1, z2, z3, z4, z5, z6, z7, z8]
    refine J1 0 rfl (⟨fun _ _ h => ⟨(pd, po), h⟩⟩ : Imp _ (rdC d pb ⟨big, dirs, op⟩)) ?_
    try dsimp only [z1, z2, z3, z4, z5, z6, z7, z8]
    exact Ja1 rfl rfl (Yg () (i := 0) rfl rfl (Xe U9 U9))
   ·rw [hb, Bool.false_or] at H6
    refine Jf rfl rfl rfl (Jk (v := .bool c.2.2) rfl) ?_
    refine Jf rfl rfl rfl (Jay rfl) ?_
    refine Jf rfl rfl rfl (X4 (v := .bool (!c.2.2)) rfl rfl) ?_
    refine Jf rfl rfl rfl (Jk (v := .bool (!c.2.2)) rfl) ?_
    refine split (fun hb => ?_) (fun hb => ?_)
    ·rw [hb, Bool.true_or] at H6
     have H7 := Xn rfl H6
     refine Jx rfl rfl rfl ?_
     refine Jx rfl rfl rfl ?_
     refine Jf rfl rfl rfl (Xp (v := .bool true) rfl rfl) ?_
     refine Jf rfl rfl rfl (Jk (v := .bool true) rfl) ?_
     refine Jx rfl rfl rfl ?_
     refine Jx rfl rfl rfl ?_
     refine Jx rfl rfl rfl ?_
     refine Jx rfl rfl rfl ?_
     refine Jx rfl rfl rfl ?_
     refine Jx rfl rfl rfl ?_
     refine Jx rfl rfl rfl ?_
     refine Jf rfl rfl rfl (Xp (v := .bool true) rfl rfl) ?_
     refine Jd ?_
     refine Yc rfl ?_
     refine Jc ?_
     refine Ja ?_
     refine Jf rfl rfl rfl (Jg (v := .int .i64 8) rfl) ?_
     refine Jd ?_
     refine Ji ?_
     obtain rfl := Option.some.inj H7
     refine Qc 1 2 rfl rfl (by decide) ?_
     try dsimp only [z1, z2, z3, z4, z5, z6, z7, z8]
     refine Qc 0 1 rfl rfl (by decide) ?_
     try dsimp only [z1, z2, z3, z4, z5, z6, z7, z8]
     refine J1 0 rfl (⟨fun _ _ h => ⟨(pd, po), h⟩⟩ : Imp _ (rdC d pb ⟨big, dirs, op⟩)) ?_
     try dsimp only [z1, z2, z3, z4, z5, z6, z7, z8]
     exact Ja1 rfl rfl (Yg () (i := 0) rfl rfl (Xe U9 U9))
    ·rw [hb, Bool.false_or] at H6
     refine Jf rfl rfl rfl (Jk (v := .bool p.2) rfl) ?_
     refine Jf rfl rfl rfl (Jay rfl) ?_
     refine Jf rfl rfl rfl (X4 (v := .bool (!p.2)) rfl rfl) ?_
     refine Jf rfl rfl rfl (Jk (v := .bool (!p.2)) rfl) ?_
     refine split (fun hb => ?_) (fun hb => ?_)
     ·rw [hb, Bool.true_or] at H6
      have H7 := Xn rfl H6
      refine Jx rfl rfl rfl ?_
      refine Jx rfl rfl rfl ?_
      refine Jx rfl rfl rfl ?_
      refine Jx rfl rfl rfl ?_
      refine Jx rfl rfl rfl ?_
      refine Jx rfl rfl rfl ?_
      refine Jx rfl rfl rfl ?_
      refine Jf rfl rfl rfl (Xp (v := .bool true) rfl rfl) ?_
      refine Jd ?_
      refine Yc rfl ?_
      refine Jc ?_
      refine Ja ?_
      refine Jf rfl rfl rfl (Jg (v := .int .i64 8) rfl) ?_
      refine Jd ?_
      refine Ji ?_
      obtain rfl := Option.some.inj H7
      refine Qc 1 2 rfl rfl (by decide) ?_
      try dsimp only [z1, z2, z3, z4, z5, z6, z7, z8]
      refine Qc 0 1 rfl rfl (by decide) ?_
      try dsimp only [z1, z2, z3, z4, z5, z6, z7, z8]
      refine J1 0 rfl (⟨fun _ _ h => ⟨(pd, po), h⟩⟩ : Imp _ (rdC d pb ⟨big, dirs, op⟩)) ?_
      try dsimp only [z1, z2, z3, z4, z5, z6, z7, z8]
      exact Ja1 rfl rfl (Yg () (i := 0) rfl rfl (Xe U9 U9))
     ·rw [hb, Bool.false_or] at H6
      refine Jf rfl rfl rfl (Jk (v := pz pb) rfl) ?_
      refine Jf rfl rfl rfl (Jm rfl) ?_
      refine Jf rfl rfl rfl (Jr Tryz.runUnderlying57 rfl Tryz.sizeOf24 rfl rfl) ?_
      refine Jf rfl rfl rfl (Jr Tryz.runUnderlying24 rfl Tryz.sizeOf22 rfl rfl) ?_
      refine Y7 (i := 0) (v := (.slice pd.1 dirs.length pd.2)) Tryz.isAgg22 rfl rfl rfl rfl rfl ?_
      refine Jf rfl rfl rfl (Wl Tryz.underlying22 rfl) ?_
      refine Jf rfl rfl rfl (Qd rfl rfl) ?_
      refine Jf rfl rfl rfl (X4 (v := .bool (decide ((dirs.length : Int) = 0))) rfl rfl) ?_
      refine Jd ?_
      refine Jak (b := decide ((dirs.length : Int) = 0)) rfl (fun hb => ?_) (fun hb => ?_)
      ·have H7 := Xn hb H6
       refine Jc ?_
       refine Ja ?_
       refine Jf rfl rfl rfl (Jg (v := .int .i64 8) rfl) ?_
       refine Jd ?_
       refine Ji ?_
       obtain rfl := Option.some.inj H7
       refine Qc 1 2 rfl rfl (by decide) ?_
       try dsimp only [z1, z2, z3, z4, z5, z6, z7, z8]
       refine Qc 0 1 rfl rfl (by decide) ?_
       try dsimp only [z1, z2, z3, z4, z5, z6, z7, z8]
       refine J1 0 rfl (⟨fun _ _ h => ⟨(pd, po), h⟩⟩ : Imp _ (rdC d pb ⟨big, dirs, op⟩)) ?_
       try dsimp only [z1, z2, z3, z4, z5, z6, z7, z8]
       exact Ja1 rfl rfl (Yg () (i := 0) rfl rfl (Xe U9 U9))
      ·have H7 := Xg hb H6
       refine Jh ?_
       refine Jc ?_
       refine Jc ?_
       refine Ja ?_
       refine Jf rfl rfl rfl (Jk (v := str c.2.1) rfl) ?_
       refine Jf rfl rfl rfl (Vl rfl rfl) ?_
       refine Jd ?_
       refine Jak (b := decide (c.2.1 = [123])) rfl (fun hb => ?_) (fun hb => ?_)
       ·have H8 := Xn hb H7
        obtain ⟨op', h_op, H9⟩ := Je H8
        obtain rfl := Option.some.inj H9
        obtain ⟨rfl, hz1, hz2⟩ := Jch h_op
        refine Uq (τ := List (List Value)) (D := fun css => Qy (Jck d css op) (J3 83 6 (.slice po.1 op.length po.2) css.length (css.map Vp))) (φ := fun css => css.length = op.length) 2 rfl (fun S w h => Jec h) (fun css hcss => ?_)
        try dsimp only [z1, z2, z3, z4, z5, z6, z7, z8]
        refine Xo 2 rfl ?_
        try dsimp only [z1, z2, z3, z4, z5, z6, z7, z8]
        refine J1 3 rfl (Imp.of (show J3 83 6 (.slice po.1 op.length po.2) css.length (css.map Vp) = J3 83 6 (.slice po.1 op.length po.2) op.length (css.map Vp) from by rw [hcss])) ?_
        try dsimp only [z1, z2, z3, z4, z5, z6, z7, z8]
        have hzz : (css ++ [[.int .i64 0, .int .i64 0, str [], z0s, z0s, z0s]]).length * 104 ≤ 140737488355328 := by rw [List.length_append, hcss]; simpa using hz2
        refine Jc ?_
        exact Qv (Kd.p :: Kd.p :: Kd.p :: Kd.d [0] (.slice po.1 op.length po.2) :: Kd.p :: Kd.p :: Kd.p :: Kd.p :: Kd.ns 4 [.int .i64 0, .int .i64 0, str [], z0s, z0s, z0s] 83 1 :: Kd.t 3 [4] (fun y : Option Addr × Nat => .slice y.1 (css ++ [[.int .i64 0, .int .i64 0, str [], z0s, z0s, z0s]]).length y.2) (fun v_ => J3 83 6 v_ (css ++ [[.int .i64 0, .int .i64 0, str [], z0s, z0s, z0s]]).length ((css ++ [[.int .i64 0, .int .i64 0, str [], z0s, z0s, z0s]]).map Vp)) :: Kd.dv 121 [3] (fun v_ => match v_ with | .slice a _ _ => X1 a (css.length * 6) | _ => undef) :: Kd.so 122 3 [.int .i64 p.1, .int .i64 13, str [], z0s, z0s, z0s] :: Kd.p :: Kd.p :: Kd.sv 124 121 0 (fun v_ => [.bool big, (.slice pd.1 dirs.length pd.2), v_]) 57 :: []) 1 mixed (by
         refine Jq rfl rfl (Jk (v := pz pb) rfl) ?_
         refine Jq rfl rfl (Jm rfl) ?_
         refine Jq rfl rfl (Jr Tryz.runUnderlying57 rfl Tryz.sizeOf41 rfl rfl) ?_
         refine X9 (i := 0) (v := (.slice po.1 op.length po.2)) Tryz.isAgg41 rfl rfl rfl rfl ?_
         refine Jq rfl rfl (Jk (v := .int .i64 p.1) rfl) ?_
         refine Jq rfl rfl (Yi (pl := #[(0, 1), (1, 1), (2, 1), (3, 1), (4, 1)]) (ps := [(0, .int .i64 13)]) (cells := #[.int .i64 13, str [], z0s, z0s, z0s]) Tryz.zeroValue81 Tryz.runUnderlying81 (fun w => by kernel_rfl) rfl (by kernel_rfl)) ?_
         refine Jq rfl rfl (Yi (pl := #[(0, 1), (1, 5)]) (ps := [(0, .int .i64 p.1), (1, .agg #[.int .i64 13, str [], z0s, z0s, z0s])]) (cells := #[.int .i64 p.1, .int .i64 13, str [], z0s, z0s, z0s]) Tryz.zeroValue83 Tryz.runUnderlying83 (fun w => by kernel_rfl) rfl (by kernel_rfl)) ?_
         refine Jq rfl rfl (Wl Tryz.underlying41 rfl) ?_
         refine Jhp rfl rfl (Ve (vs := [.agg (List.toArray [.int .i64 0, .int .i64 0, str [], z0s, z0s, z0s])]) (cs := [.int .i64 0, .int .i64 0, str [], z0s, z0s, z0s]) Tryz.underlying41 Tryz.sizeOf83 Tryz.zeroValue83 rfl rfl rfl rfl rfl) rfl (fun b7 => ?_)
         refine Jgf (Cv := fun v_ => J3 83 6 v_ (css ++ [[.int .i64 0, .int .i64 0, str [], z0s, z0s, z0s]]).length ((css ++ [[.int .i64 0, .int .i64 0, str [], z0s, z0s, z0s]]).map Vp)) ((none, 0) : Option Addr × Nat) (Ud (f := Vp) (ys := css) (ls := [[.int .i64 0, .int .i64 0, str [], z0s, z0s, z0s]]) (cs := [.int .i64 0, .int .i64 0, str [], z0s, z0s, z0s]) (i := 3) (p := po) (k := 4) (b := b7) Tryz.underlying41 (Xv Tryz.typeInfo83) rfl rfl rfl rfl rfl rfl rfl hcss.symm rfl rfl rfl rfl rfl rfl rfl hzz rfl) (fun _ => rfl) rfl rfl (fun p6 => ?_)
         have hat8 : Yv (css ++ [[.int .i64 0, .int .i64 0, str [], z0s, z0s, z0s]]) (op.length : Int) = some [.int .i64 0, .int .i64 0, str [], z0s, z0s, z0s] := Jd9 (by rw [List.length_append, hcss]; simp)
         refine d_readV (v := X1 p6.1 (css.length * 6)) rfl (fun w L' hF hS hi => (Qx Tryz.underlying41 Tryz.sizeOf83 rfl rfl (Xd (i := 3) (E := 83) (sz := 6) (n := (css ++ [[.int .i64 0, .int .i64 0, str [], z0s, z0s, z0s]]).length) (a := p6.1) (c := p6.2) hS ((hi 3 (by simp)).trans rfl)) rfl hat8).trans (by rw [hcss]; rfl)) rfl rfl ?_
         refine d_storeD (Jh6 (sz := 6) (k := css.length * 6) (vs := [.int .i64 p.1, .int .i64 13, str [], z0s, z0s, z0s]) (xs := (css ++ [[.int .i64 0, .int .i64 0, str [], z0s, z0s, z0s]]).map Vp) Tryz.sizeOf83 rfl rfl rfl rfl rfl (by simp) (by simp; omega) rfl) rfl rfl rfl ?_
         refine Jq rfl rfl (Jm rfl) ?_
         refine Jq rfl rfl (Jr Tryz.runUnderlying57 rfl Tryz.sizeOf41 rfl rfl) ?_
         refine d_storeV (i := 0) (x := .slice p6.1 (css ++ [[.int .i64 0, .int .i64 0, str [], z0s, z0s, z0s]]).length p6.2) (vs := [.slice p6.1 (css ++ [[.int .i64 0, .int .i64 0, str [], z0s, z0s, z0s]]).length p6.2]) (cs' := fun v_ => [.bool big, (.slice pd.1 dirs.length pd.2), v_]) Tryz.sizeOf41 rfl rfl rfl rfl rfl rfl rfl rfl rfl ?_
         refine X6 ?_
         try dsimp only [z1, z2, z3, z4, z5, z6, z7, z8]
         refine J1 3 rfl (Xe (Jj3 (i := css.length) (by simp) rfl (by decide)) (Imp.of (show J3 83 6 (.slice p6.1 (css ++ [[.int .i64 0, .int .i64 0, str [], z0s, z0s, z0s]]).length p6.2) (css ++ [[.int .i64 0, .int .i64 0, str [], z0s, z0s, z0s]]).length (((css ++ [[.int .i64 0, .int .i64 0, str [], z0s, z0s, z0s]]).map Vp).set css.length [.int .i64 p.1, .int .i64 13, str [], z0s, z0s, z0s]) = J3 83 6 (.slice p6.1 (css ++ [[.int .i64 0, .int .i64 0, str [], z0s, z0s, z0s]]).length p6.2) (css ++ [[.int .i64 0, .int .i64 0, str [], z0s, z0s, z0s]]).length ((css ++ [[.int .i64 p.1, .int .i64 13, str [], z0s, z0s, z0s]]).map Vp) from by rw [W7, W7]; simp))) ?_
         try dsimp only [z1, z2, z3, z4, z5, z6, z7, z8]
         refine Jc ?_
         refine Ja ?_
         refine Jf rfl rfl rfl (Jg (v := .int .i64 0) rfl) ?_
         refine Jd ?_
         refine Ji ?_
         refine Jed ?_
         try dsimp only [z1, z2, z3, z4, z5, z6, z7, z8]
         refine J1 5 rfl (imp_ent0 (d := d) (t := p.1)) ?_
         try dsimp only [z1, z2, z3, z4, z5, z6, z7, z8]
         refine Qc 2 5 rfl rfl (by decide) ?_
         try dsimp only [z1, z2, z3, z4, z5, z6, z7, z8]
         refine J1 2 rfl Jde ?_
         try dsimp only [z1, z2, z3, z4, z5, z6, z7, z8]
         refine Qc 2 3 rfl rfl (by decide) ?_
         try dsimp only [z1, z2, z3, z4, z5, z6, z7, z8]
         refine J1 2 rfl Jce ?_
         try dsimp only [z1, z2, z3, z4, z5, z6, z7, z8]
         refine Qc 1 2 rfl rfl (by decide) ?_
         try dsimp only [z1, z2, z3, z4, z5, z6, z7, z8]
         refine Qc 0 1 rfl rfl (by decide) ?_
         try dsimp only [z1, z2, z3, z4, z5, z6, z7, z8]
         have hlen : (css ++ [[.int .i64 0, .int .i64 0, str [], z0s, z0s, z0s]]).length = (op ++ [(⟨p.1, ⟨13, [], [], [], []⟩⟩ : Ta)]).length := by rw [List.length_append, List.length_append, hcss]; rfl
         exact Ja1 rfl rfl (Yg () (i := 0) rfl rfl (Xe (Xe (Imp.of (show _ = Qy (Jn pb [.bool big, (.slice pd.1 dirs.length pd.2), .slice p6.1 (op ++ [(⟨p.1, ⟨13, [], [], [], []⟩⟩ : Ta)]).length p6.2] 57) (Qy (Jbn d (.slice pd.1 dirs.length pd.2) dirs) (Yw (d + 1) (.slice p6.1 (op ++ [(⟨p.1, ⟨13, [], [], [], []⟩⟩ : Ta)]).length p6.2) (op ++ [(⟨p.1, ⟨13, [], [], [], []⟩⟩ : Ta)]))) from by rw [← hlen])) (⟨fun _ _ h => ⟨(pd, p6), h⟩⟩ : Imp _ (rdC d pb ⟨big, dirs, op ++ [(⟨p.1, ⟨13, [], [], [], []⟩⟩ : Ta)]⟩))) (Xe U9 U9)))) (by kernel_rfl)
       ·have H8 := Xg hb H7
        unfold Jfd at H8
        obtain ⟨v, h_v, H9⟩ := Je H8
        have hve := rv_none h_v
        refine Jh ?_
        refine Jc ?_
        refine Ja ?_
        refine Jf rfl rfl rfl (Jk (v := str c.2.1) rfl) ?_
        refine Zy (Xr (rds := []) (G := fun x : (Option Addr × Nat) × (Option Addr × Nat) × (Option Addr × Nat) => (.tuple #[.agg #[.int .i64 v.1.kad, str v.1.kae, .slice x.1.1 v.1.kaf.length x.1.2, .slice x.2.1.1 v.1.kac.length x.2.1.2, .slice x.2.2.1 v.1.kab.length x.2.2.2], .int .i64 v.2])) (C := fun x : (Option Addr × Nat) × (Option Addr × Nat) × (Option Addr × Nat) => (Qy (roV 1 (.slice x.1.1 v.1.kaf.length x.1.2) v.1.kaf.length (v.1.kaf.map Qz)) (Qy (roV 2 (.slice x.2.1.1 v.1.kac.length x.2.1.2) v.1.kac.length (v.1.kac.map Jl)) (rowD 83 6 g_tag_Entry (.slice x.2.2.1 v.1.kab.length x.2.2.2) v.1.kab.length v.1.kab)))) (fun w L' hF hS hi => k49 (Ju w) (tb_pow10.mono (hw.now hF)) h_v) Tryz.call49 rfl) rfl rfl rfl (fun ⟨p3, p4, p5⟩ => ?_)
        refine Jf rfl rfl rfl (Jk (v := .tuple #[.agg #[.int .i64 v.1.kad, str v.1.kae, .slice p3.1 v.1.kaf.length p3.2, .slice p4.1 v.1.kac.length p4.2, .slice p5.1 v.1.kab.length p5.2], .int .i64 v.2]) rfl) ?_
        refine Jf rfl rfl rfl (Jo (v := .agg #[.int .i64 v.1.kad, str v.1.kae, .slice p3.1 v.1.kaf.length p3.2, .slice p4.1 v.1.kac.length p4.2, .slice p5.1 v.1.kab.length p5.2]) rfl rfl) ?_
        refine Jf rfl rfl rfl (Jo (v := .int .i64 v.2) rfl rfl) ?_
        refine Xi (cs := [.int .i64 0, str [], z0s, z0s, z0s]) Tryz.zeroValue81 rfl rfl rfl (fun b14 => ?_)
        refine Qu (i := 4) (vs := [.int .i64 v.1.kad, str v.1.kae, .slice p3.1 v.1.kaf.length p3.2, .slice p4.1 v.1.kac.length p4.2, .slice p5.1 v.1.kab.length p5.2]) (cs' := [.int .i64 v.1.kad, str v.1.kae, .slice p3.1 v.1.kaf.length p3.2, .slice p4.1 v.1.kac.length p4.2, .slice p5.1 v.1.kab.length p5.2]) Tryz.sizeOf81 rfl rfl rfl rfl rfl rfl rfl rfl rfl ?_
        refine Jf rfl rfl rfl (Jg (v := .int .i64 v.2) rfl) ?_
        refine Jd ?_
        try dsimp only [z1, z2, z3, z4, z5, z6, z7, z8]
        refine Jc ?_
        refine Jc ?_
        refine Ja ?_
        refine Jf rfl rfl rfl (Jk (v := .int .i64 v.2) rfl) ?_
        refine Jf rfl rfl rfl (Qd rfl rfl) ?_
        refine Jd ?_
        refine Jak (b := decide (v.2 = 0)) rfl (fun hb2 => ?_) (fun hb2 => ?_)
        ·have H10 := Xn hb2 H9
         obtain ⟨r', h_put, H11⟩ := Je H10
         obtain rfl := Option.some.inj H11
         refine Qc 1 2 rfl rfl (by decide) ?_
         try dsimp only [z1, z2, z3, z4, z5, z6, z7, z8]
         refine Qc 0 1 rfl rfl (by decide) ?_
         try dsimp only [z1, z2, z3, z4, z5, z6, z7, z8]
         refine J1 0 rfl (⟨fun _ _ h => ⟨(pd, po), h⟩⟩ : Imp _ (rdC d pb ⟨big, dirs, op⟩)) ?_
         try dsimp only [z1, z2, z3, z4, z5, z6, z7, z8]
         refine J1 0 rfl U9 ?_
         try dsimp only [z1, z2, z3, z4, z5, z6, z7, z8]
         refine J1 3 rfl (imp_rv (d := d) (t := p.1) hve) ?_
         try dsimp only [z1, z2, z3, z4, z5, z6, z7, z8]
         refine Qc 0 3 rfl rfl (by decide) ?_
         try dsimp only [z1, z2, z3, z4, z5, z6, z7, z8]
         refine Ja ?_
         refine Jf rfl rfl rfl (Jk (v := pz pb) rfl) ?_
         refine Jf rfl rfl rfl (Jk (v := .int .i64 p.1) rfl) ?_
         refine Q0 (i := 4) (vs := [.int .i64 v.1.kad, str v.1.kae, .slice p3.1 v.1.kaf.length p3.2, .slice p4.1 v.1.kac.length p4.2, .slice p5.1 v.1.kab.length p5.2]) Tryz.isAgg81 Tryz.sizeOf81 rfl rfl rfl rfl rfl ?_
         refine Jf rfl rfl rfl (Yi (pl := #[(0, 1), (1, 5)]) (ps := [(0, .int .i64 p.1), (1, .agg #[.int .i64 v.1.kad, str v.1.kae, .slice p3.1 v.1.kaf.length p3.2, .slice p4.1 v.1.kac.length p4.2, .slice p5.1 v.1.kab.length p5.2])]) (cells := #[.int .i64 p.1, .int .i64 v.1.kad, str v.1.kae, .slice p3.1 v.1.kaf.length p3.2, .slice p4.1 v.1.kac.length p4.2, .slice p5.1 v.1.kab.length p5.2]) Tryz.zeroValue83 Tryz.runUnderlying83 (fun w => by kernel_rfl) rfl (by kernel_rfl)) ?_
         refine Q1 (Qa (i := 0) (rds := []) (G := fun _ : Unit => .tuple #[]) (C := fun _ : Unit => rdC (d + 2) pb r') rfl (fun w L' S hF hS hi hC hlt hown hA => k46 hC hlt h_put) Tryz.call46 rfl) rfl rfl rfl (fun _ => ?_)
         refine Jd ?_
         try dsimp only [z1, z2, z3, z4, z5, z6, z7, z8]
         refine Jc ?_
         refine Ja ?_
         refine Jf rfl rfl rfl (Jk (v := .int .i64 v.2) rfl) ?_
         refine Jf rfl rfl rfl (Jg (v := .int .i64 v.2) rfl) ?_
         refine Jd ?_
         refine Ji ?_
         exact Ja1 rfl rfl (Yg () (i := 0) rfl rfl (Imp.refl _))
        ·have H10 := Xg hb2 H9
         obtain rfl := Option.some.inj H10
         refine Jh ?_
         refine Jc ?_
         refine Ja ?_
         refine Jf rfl rfl rfl (Jk (v := .int .i64 v.2) rfl) ?_
         refine Jf rfl rfl rfl (Jg (v := .int .i64 v.2) rfl) ?_
         refine Jd ?_
         refine Ji ?_
         refine Qc 1 2 rfl rfl (by decide) ?_
         try dsimp only [z1, z2, z3, z4, z5, z6, z7, z8]
         refine Qc 0 1 rfl rfl (by decide) ?_
         try dsimp only [z1, z2, z3, z4, z5, z6, z7, z8]
         refine J1 0 rfl (⟨fun _ _ h => ⟨(pd, po), h⟩⟩ : Imp _ (rdC d pb ⟨big, dirs, op⟩)) ?_
         try dsimp only [z1, z2, z3, z4, z5, z6, z7, z8]
         exact Ja1 rfl rfl (Yg () (i := 0) rfl rfl (Xe U9 U9))
end Go.Proofs.YtkbiccgjkiifpaaGreatDoor

namespace Go.Proofs.YtkbiccgjkiifpaaGreatDoor
open Go Go.Vc Go.Md Go.M Go.Lx
set_option maxRecDepth 100000
set_option maxHeartbeats 400000
theorem Ji5 {Φ : Jw → Prop} (h : Φ Wa) : Imp empC (Jd4 Wa Φ) := ⟨fun S w k => ⟨Wa, h, Jbr, fun b o hb => by cases hb⟩⟩
theorem frn_none {α : Type} {sz : Nat} {G : Jw → (Nat → Value) → α → Prop} {h : Jw} : FrN h sz (z0s) G [] := ⟨FrS.nil _ _, fun i x hx => by cases hx⟩
theorem imp_rd0 {pb : Nat} : Imp (Jn pb [.bool false, z0s, z0s] 57) (rdC 0 pb ⟨false, [], []⟩) := ⟨fun S w h => by
  have f : (Jbn 0 (z0s) []).P Ys w := (Jbh (Φ := fun h bs => TreeF 0 h (z0s) [] bs) ⟨[], [], ⟨by simp, .inl ⟨rfl, rfl⟩⟩, rfl, rfl⟩).out _ _ fun _ h => h
  have g : (Yw (0 + 1) (z0s) []).P Ys w := (Jas (d := 0)).out _ _ fun _ h => h
  exact ⟨((none, 0), (none, 0)), S, Ys, h, ⟨Ys, Ys, f, g, fun _ h => h, fun _ h => h, fun _ h _ => h⟩, fun _ h => h, fun _ h => h.elim, fun _ _ h => h⟩⟩
theorem k9 {s0 : List UInt8} {r : Td × Int × Int} {w : World} {h : Jw} (hw : Know h w Ys) (tb_pow10 : TabH Tryz.prog h "internal/strconv.uint64pow10" .u64 Lib.pow10Tab) (H : U6 s0 = some r) :
    Does Tryz.prog 9 (List.toArray [str s0]) w (fun v w' => ∃ x : (Option Addr × Nat), v = (.tuple #[.agg #[.bool r.1.Big, .slice x.1 r.1.kag.length x.2], .int .i64 r.2.1, .int .i64 r.2.2]) ∧ Turn w w' Ys (Jd4 Wa (fun hp_ => FrN hp_ 1 (.slice x.1 r.1.kag.length x.2) gs_tag_Entry r.1.kag))) := by
 unfold U6 at H
 refine enter (n := 86) Tryz.func9 rfl rfl rfl Ys [] (Sat.nil _ _) ?_
 have err : ∀ {n t : Int} {b2 : Nat} {e : Xl} {fn : Func} {rest}, fn.results = #[.cell 2 24, .tmp 3, .tmp 4] → r = (noF, n, t) → e 2 = pz b2 → e 3 = .int .i64 n → e 4 = .int .i64 t → At ⟨w, Ys⟩ (Jfh Tryz.prog fn (fun v w' => ∃ x : (Option Addr × Nat), v = (.tuple #[.agg #[.bool r.1.Big, .slice x.1 r.1.kag.length x.2], .int .i64 r.2.1, .int .i64 r.2.2]) ∧ Turn w w' Ys (Jd4 Wa (fun hp_ => FrN hp_ 1 (.slice x.1 r.1.kag.length x.2) gs_tag_Entry r.1.kag))) .ret) e (Jn b2 [.bool false, z0s] 24 :: rest) := fun {n t b2 e fn rest} hfn hr h2 h3 h4 => by
   subst hr
   refine Jed ?_
   have e1 : (Jn b2 [.bool false, z0s] 24 :: rest ++ [empC])[rest.length + 1]? = some empC := by
    rw [List.getElem?_append_right (by simp)]; simp
   refine J1 (rest.length + 1) e1 (Ji5 (Φ := fun hp_ => FrN hp_ 1 (z0s) gs_tag_Entry []) frn_none) ?_
   exact retCtt (i := 0) (vs := [.bool false, z0s]) (v2 := .int .i64 n) (v3 := .int .i64 t) Tryz.isAgg24 Tryz.sizeOf24 hfn h2 (by rw [List.getElem?_set_ne (by omega)]; rfl) rfl h3 h4 (Yg ((none, 0) : Option Addr × Nat) (i := rest.length + 1) (List.getElem?_set_self (by simp)) rfl (Imp.refl _))
 refine Jc ?_
 refine Ja ?_
 refine Xi (cs := [.bool false, z0s]) Tryz.zeroValue24 rfl rfl rfl (fun b2 => ?_)
 refine Jf rfl rfl rfl (Jg (v := .int .i64 0) rfl) ?_
 refine Jf rfl rfl rfl (Jg (v := .int .i64 0) rfl) ?_
 refine Jd ?_
 refine Jc ?_
 refine Jc ?_
 refine Ja ?_
 refine Jf rfl rfl rfl (Jk (v := str s0) rfl) ?_
 refine Jf rfl rfl rfl (Xc Tryz.underlying9 rfl) ?_
 refine Jf rfl rfl rfl (Ye rfl rfl) ?_
 refine Jd ?_
 refine Jak (b := (decide (1000000 < (s0.length : Int)))) rfl (fun hb => ?_) (fun hb => ?_)
 ·have H1 := Xn hb H
  refine Jc ?_
  refine Ja ?_
  refine Jf rfl rfl rfl (Yi (pl := #[(0, 1), (1, 1)]) (ps := []) (cells := #[.bool false, z0s]) Tryz.zeroValue24 Tryz.runUnderlying24 (fun w => by kernel_rfl) rfl rfl) ?_
  refine Qu (i := 0) (vs := [.bool false, z0s]) (cs' := [.bool false, z0s]) Tryz.sizeOf24 rfl rfl rfl rfl rfl rfl rfl rfl rfl ?_
  refine Jf rfl rfl rfl (Jg (v := .int .i64 0) rfl) ?_
  refine Jf rfl rfl rfl (Jg (v := .int .i64 4) rfl) ?_
  refine Jd ?_
  refine Ji ?_
  exact err rfl (Option.some.inj H1).symm rfl rfl rfl
 ·have H1 := Xg hb H
  clear H
  refine Jh ?_
  refine Jc ?_
  refine Ja ?_
  refine Jf rfl rfl rfl (Yi (pl := #[(0, 2), (2, 1)]) (ps := []) (cells := #[.bool false, z0s, z0s]) Tryz.zeroValue57 Tryz.runUnderlying57 (fun w => by kernel_rfl) rfl rfl) ?_
  refine Vv (cs := [.bool false, z0s, z0s]) rfl rfl rfl rfl (fun b17 => ?_)
  refine Jf rfl rfl rfl (Jg (v := pz b17) rfl) ?_
  refine Jd ?_
  refine Jc ?_
  refine Ja ?_
  refine Jf rfl rfl rfl (Jg (v := .int .i64 0) rfl) ?_
  refine Jd ?_
  try dsimp only [z1, z2, z3, z4, z5, z6, z7, z8]
  refine J1 1 rfl imp_rd0 ?_
  try dsimp only [z1, z2, z3, z4, z5, z6, z7, z8]
  refine Jc ?_
  refine Jp ?_
  refine Xu (σ := List UInt8 × Int × TxR) (τ := Nat) Wi (fun s t => [(0, str s.1), (2, pz b2), (5, pz b17), (6, .int .i64 s.2.1)]) (fun s t => [Jn b2 [.bool false, z0s] 24, rdC t b17 s.2.2]) (fun s t => True) (s0, 0, ⟨false, [], []⟩) 0 [0, 1] H1 trivial (by exact ⟨rfl, rfl, rfl, rfl, trivial⟩) (by decide) (by kernel_rfl) ?_
  rintro ⟨s, n, x⟩ t m gg H _
  try dsimp only
  refine Jc ?_
  refine Jc ?_
  refine Ja ?_
  refine Jf rfl rfl rfl (Jk (v := str s) rfl) ?_
  refine Jf rfl rfl rfl (Ja3 rfl rfl) ?_
  refine Jd ?_
  refine Jak (b := (decide (s ≠ []))) rfl (fun hb => ?_) (fun hb => ?_)
  ·have H1 := Xn hb H
   obtain ⟨c, h_c, H2⟩ := Je H1
   obtain ⟨n', h_n, H3⟩ := Je H2
   obtain ⟨q, h_q, H4⟩ := Je H3
   clear H H1 H2 H3
   refine Jh ?_
   refine Jp ?_
   refine Jc ?_
   refine Ja ?_
   refine Jf rfl rfl rfl (Jk (v := str s) rfl) ?_
   refine Qm (k24 h_c) Tryz.call24 rfl rfl rfl ?_
   refine Jf rfl rfl rfl (Jk (v := .tuple #[str c.1, str c.2.1, .bool c.2.2]) rfl) ?_
   refine Jf rfl rfl rfl (Jo (v := str c.1) rfl rfl) ?_
   refine Jf rfl rfl rfl (Jo (v := str c.2.1) rfl rfl) ?_
   refine Jf rfl rfl rfl (Jo (v := .bool c.2.2) rfl rfl) ?_
   refine Jf rfl rfl rfl (Jg (v := str c.1) rfl) ?_
   refine Jf rfl rfl rfl (Jg (v := str c.2.1) rfl) ?_
   refine Jf rfl rfl rfl (Jg (v := .bool c.2.2) rfl) ?_
   refine Jd ?_
   refine Jc ?_
   refine Ja ?_
   refine Jf rfl rfl rfl (Jk (v := .int .i64 n) rfl) ?_
   refine Jf rfl rfl rfl (J8 rfl rfl h_n) ?_
   refine Jf rfl rfl rfl (Jg (v := .int .i64 n') rfl) ?_
   refine Jd ?_
   refine Jc ?_
   refine Ja ?_
   refine Jf rfl rfl rfl (Jg (v := .int .i64 0) rfl) ?_
   refine Jd ?_
   refine Qe (r := r) (σ := Int × TxR) (τ := Nat) (fun q => J2 (decide (q.1 ≠ 0)) (some (noF, n', q.1)) (it Wi m (c.2.1, n', q.2))) (fun q t => [(0, str s), (2, pz b2), (5, pz b17), (6, .int .i64 n'), (8, str c.2.1), (10, .int .i64 q.1)]) (fun q t => [Jn b2 [.bool false, z0s] 24, rdC t b17 q.2]) (fun q t => True) ?_ ?_
   ·refine Jp ?_
    refine Jc ?_
    refine Jc ?_
    refine Ja ?_
    refine Jf rfl rfl rfl (Jk (v := .bool c.2.2) rfl) ?_
    refine Jf rfl rfl rfl (Jay rfl) ?_
    refine Jf rfl rfl rfl (Jg (v := .bool (!c.2.2)) rfl) ?_
    refine split (fun hb0 => ?_) (fun hb0 => ?_)
    ·rw [hb0, Bool.true_or] at h_q
     obtain rfl := Option.some.inj (Xn rfl h_q)
     refine Jd ?_
     refine Yc rfl ?_
     refine Jh ?_
     refine Yc rfl ?_
     refine Ja ?_
     refine Jf rfl rfl rfl (Jg (v := .int .i64 8) rfl) ?_
     refine Jd ?_
     refine Ze ((8 : Int), x) t 0 [0, 1] (by exact ⟨rfl, rfl, rfl, rfl, rfl, rfl, trivial⟩) (by decide) (by kernel_rfl) (by exact ⟨H4, trivial⟩) (Nat.lt_succ_self _)
    ·rw [hb0, Bool.false_or] at h_q
     refine Jd ?_
     refine Zc rfl ?_
     refine Ja ?_
     refine Jf rfl rfl rfl (Jk (v := .int .i64 n') rfl) ?_
     refine Jf rfl rfl rfl (Qd rfl rfl) ?_
     refine Jf rfl rfl rfl (Jk (v := .bool (decide (n' = 1))) rfl) ?_
     refine split (fun hb1 => ?_) (fun hb1 => ?_)
     ·rw [hb1, Bool.true_and] at h_q
      refine Jf rfl rfl rfl (Jk (v := str c.1) rfl) ?_
      refine Jf rfl rfl rfl (Ja3 rfl rfl) ?_
      refine Jf rfl rfl rfl (Xp (v := .bool (decide (c.1 ≠ [98, 105, 103]))) rfl rfl) ?_
      refine Jf rfl rfl rfl (Jk (v := .bool (decide (c.1 ≠ [98, 105, 103]))) rfl) ?_
      refine split (fun hb2 => ?_) (fun hb2 => ?_)
      ·rw [hb2, Bool.true_and] at h_q
       refine Jf rfl rfl rfl (Jk (v := str c.1) rfl) ?_
       refine Jf rfl rfl rfl (Ja3 rfl rfl) ?_
       refine Jf rfl rfl rfl (Xp (v := .bool (decide (c.1 ≠ [108, 105, 116, 116, 108, 101]))) rfl rfl) ?_
       refine Jf rfl rfl rfl (Jg (v := .bool (decide (c.1 ≠ [108, 105, 116, 116, 108, 101]))) rfl) ?_
       refine Jd ?_
       refine Jak (b := decide (c.1 ≠ [108, 105, 116, 116, 108, 101])) rfl (fun hb3 => ?_) (fun hb3 => ?_)
       ·obtain rfl := Option.some.inj (Xn hb3 h_q)
        refine Ja ?_
        refine Jf rfl rfl rfl (Jg (v := .int .i64 8) rfl) ?_
        refine Jd ?_
        refine Ze ((8 : Int), x) t 0 [0, 1] (by exact ⟨rfl, rfl, rfl, rfl, rfl, rfl, trivial⟩) (by decide) (by kernel_rfl) (by exact ⟨H4, trivial⟩) (Nat.lt_succ_self _)
       ·replace h_q := Xg hb3 h_q
        obtain rfl := Option.some.inj (Xn rfl h_q)
        refine Jc ?_
        refine Ja ?_
        refine Jf rfl rfl rfl (Jk (v := .int .i64 n') rfl) ?_
        refine Jf rfl rfl rfl (Qd rfl rfl) ?_
        refine Jf rfl rfl rfl (Jg (v := .bool (decide (n' = 1))) rfl) ?_
        refine Jd ?_
        refine Jak (b := decide (n' = 1)) rfl (fun _ => ?_) (fun hh => absurd (hb1.symm.trans hh) (by decide))
        obtain ⟨big, dirs, op⟩ := x
        refine c_ex 1 rfl fun ⟨pd, po⟩ => ?_
        refine Xo 1 rfl ?_
        try dsimp only [z1, z2, z3, z4, z5, z6, z7, z8]
        refine Ja ?_
        refine Jf rfl rfl rfl (Jk (v := pz b17) rfl) ?_
        refine Jf rfl rfl rfl (Jk (v := str c.1) rfl) ?_
        refine Jf rfl rfl rfl (Vl rfl rfl) ?_
        refine Jf rfl rfl rfl (Jm rfl) ?_
        refine Jf rfl rfl rfl (Jr Tryz.runUnderlying57 rfl Tryz.sizeOf24 rfl rfl) ?_
        refine Jf rfl rfl rfl (Jr Tryz.runUnderlying24 rfl Tryz.sizeOf4 rfl rfl) ?_
        refine Qu (i := 1) (vs := [.bool (decide (c.1 = [98, 105, 103]))]) (cs' := [.bool (decide (c.1 = [98, 105, 103])), (.slice pd.1 dirs.length pd.2), (.slice po.1 op.length po.2)]) Tryz.sizeOf4 rfl rfl rfl rfl rfl rfl rfl rfl rfl ?_
        refine Jd ?_
        try dsimp only [z1, z2, z3, z4, z5, z6, z7, z8]
        refine Qc 1 2 rfl rfl (by decide) ?_
        try dsimp only [z1, z2, z3, z4, z5, z6, z7, z8]
        refine J1 1 rfl (⟨fun _ _ h => ⟨(pd, po), h⟩⟩ : Imp _ (rdC t b17 ⟨decide (c.1 = [98, 105, 103]), dirs, op⟩)) ?_
        try dsimp only [z1, z2, z3, z4, z5, z6, z7, z8]
        refine Ze ((0 : Int), (⟨decide (c.1 = [98, 105, 103]), dirs, op⟩ : TxR)) t 0 [0, 1] (by exact ⟨rfl, rfl, rfl, rfl, rfl, rfl, trivial⟩) (by decide) (by kernel_rfl) (by exact ⟨H4, trivial⟩) (Nat.lt_succ_self _)
      ·rw [hb2, Bool.false_and] at h_q
       replace h_q := Xg rfl h_q
       refine Jx rfl rfl rfl ?_
       refine Jx rfl rfl rfl ?_
       refine Jf rfl rfl rfl (X4 (v := .bool false) rfl rfl) ?_
       refine Jf rfl rfl rfl (Jg (v := .bool false) rfl) ?_
       refine Jd ?_
       refine Zc rfl ?_
       obtain rfl := Option.some.inj (Xn rfl h_q)
       refine Jc ?_
       refine Ja ?_
       refine Jf rfl rfl rfl (Jk (v := .int .i64 n') rfl) ?_
       refine Jf rfl rfl rfl (Qd rfl rfl) ?_
       refine Jf rfl rfl rfl (Jg (v := .bool (decide (n' = 1))) rfl) ?_
       refine Jd ?_
       refine Jak (b := decide (n' = 1)) rfl (fun _ => ?_) (fun hh => absurd (hb1.symm.trans hh) (by decide))
       obtain ⟨big, dirs, op⟩ := x
       refine c_ex 1 rfl fun ⟨pd, po⟩ => ?_
       refine Xo 1 rfl ?_
       try dsimp only [z1, z2, z3, z4, z5, z6, z7, z8]
       refine Ja ?_
       refine Jf rfl rfl rfl (Jk (v := pz b17) rfl) ?_
       refine Jf rfl rfl rfl (Jk (v := str c.1) rfl) ?_
       refine Jf rfl rfl rfl (Vl rfl rfl) ?_
       refine Jf rfl rfl rfl (Jm rfl) ?_
       refine Jf rfl rfl rfl (Jr Tryz.runUnderlying57 rfl Tryz.sizeOf24 rfl rfl) ?_
       refine Jf rfl rfl rfl (Jr Tryz.runUnderlying24 rfl Tryz.sizeOf4 rfl rfl) ?_
       refine Qu (i := 1) (vs := [.bool (decide (c.1 = [98, 105, 103]))]) (cs' := [.bool (decide (c.1 = [98, 105, 103])), (.slice pd.1 dirs.length pd.2), (.slice po.1 op.length po.2)]) Tryz.sizeOf4 rfl rfl rfl rfl rfl rfl rfl rfl rfl ?_
       refine Jd ?_
       try dsimp only [z1, z2, z3, z4, z5, z6, z7, z8]
       refine Qc 1 2 rfl rfl (by decide) ?_
       try dsimp only [z1, z2, z3, z4, z5, z6, z7, z8]
       refine J1 1 rfl (⟨fun _ _ h => ⟨(pd, po), h⟩⟩ : Imp _ (rdC t b17 ⟨decide (c.1 = [98, 105, 103]), dirs, op⟩)) ?_
       try dsimp only [z1, z2, z3, z4, z5, z6, z7, z8]
       refine Ze ((0 : Int), (⟨decide (c.1 = [98, 105, 103]), dirs, op⟩ : TxR)) t 0 [0, 1] (by exact ⟨rfl, rfl, rfl, rfl, rfl, rfl, trivial⟩) (by decide) (by kernel_rfl) (by exact ⟨H4, trivial⟩) (Nat.lt_succ_self _)
     ·rw [hb1, Bool.false_and] at h_q
      replace h_q := Xg rfl h_q
      refine Jx rfl rfl rfl ?_
      refine Jx rfl rfl rfl ?_
      refine Jf rfl rfl rfl (X4 (v := .bool false) rfl rfl) ?_
      refine Jf rfl rfl rfl (Jk (v := .bool false) rfl) ?_
      refine Jx rfl rfl rfl ?_
      refine Jx rfl rfl rfl ?_
      refine Jf rfl rfl rfl (X4 (v := .bool false) rfl rfl) ?_
      refine Jf rfl rfl rfl (Jg (v := .bool false) rfl) ?_
      refine Jd ?_
      refine Zc rfl ?_
      have h_ln := Xg rfl h_q
      refine Jc ?_
      refine Ja ?_
      refine Jf rfl rfl rfl (Jk (v := .int .i64 n') rfl) ?_
      refine Jf rfl rfl rfl (Qd rfl rfl) ?_
      refine Jf rfl rfl rfl (Jg (v := .bool (decide (n' = 1))) rfl) ?_
      refine Jd ?_
      refine Jak (b := decide (n' = 1)) rfl (fun hh => absurd (hb1.symm.trans hh) (by decide)) (fun _ => ?_)
      refine Ja ?_
      refine Jf rfl rfl rfl (Jk (v := pz b17) rfl) ?_
      refine Jf rfl rfl rfl (Jk (v := str c.1) rfl) ?_
      refine Q1 (Qa (i := 1) (rds := []) (G := fun _ : Unit => .int .i64 q.1) (C := fun _ : Unit => rdC (t + 2) b17 q.2) rfl (fun w L' S hF hS hi hC hlt hown hA => k25 hC hlt (Xm w S) (tb_pow10.mono (hw.but hF hown)) h_ln) Tryz.call25 rfl) rfl rfl rfl (fun _ => ?_)
      refine Jf rfl rfl rfl (Jg (v := .int .i64 q.1) rfl) ?_
      refine Jd ?_
      try dsimp only [z1, z2, z3, z4, z5, z6, z7, z8]
      refine Ze (q) (t + 2) 0 [0, 1] (by exact ⟨rfl, rfl, rfl, rfl, rfl, rfl, trivial⟩) (by decide) (by kernel_rfl) (by exact ⟨H4, trivial⟩) (Nat.lt_succ_self _)
   ·rintro ⟨e1, x1⟩ t1 g1 H5 _
    replace H5 : J2 (decide (e1 ≠ 0)) (some (noF, n', e1)) (it Wi m (c.2.1, n', x1)) = some r := H5
    try dsimp only
    refine Jc ?_
    refine Jc ?_
    refine Ja ?_
    refine Jf rfl rfl rfl (Jk (v := .int .i64 e1) rfl) ?_
    refine Jf rfl rfl rfl (Vk rfl rfl) ?_
    refine Jd ?_
    refine Jak (b := (decide (e1 ≠ 0))) rfl (fun hb => ?_) (fun hb => ?_)
    ·have H6 := Xn hb H5
     refine Jc ?_
     refine Ja ?_
     refine Jf rfl rfl rfl (Yi (pl := #[(0, 1), (1, 1)]) (ps := []) (cells := #[.bool false, z0s]) Tryz.zeroValue24 Tryz.runUnderlying24 (fun w => by kernel_rfl) rfl rfl) ?_
     refine Jf rfl rfl rfl (Jk (v := .int .i64 n') rfl) ?_
     refine Jf rfl rfl rfl (Jk (v := .int .i64 e1) rfl) ?_
     refine Qu (i := 0) (vs := [.bool false, z0s]) (cs' := [.bool false, z0s]) Tryz.sizeOf24 rfl rfl rfl rfl rfl rfl rfl rfl rfl ?_
     refine Jf rfl rfl rfl (Jg (v := .int .i64 n') rfl) ?_
     refine Jf rfl rfl rfl (Jg (v := .int .i64 e1) rfl) ?_
     refine Jd ?_
     refine Ji ?_
     exact err rfl (Option.some.inj H6).symm rfl rfl rfl
    ·have H6 := Xg hb H5
     refine Jh ?_
     refine Ja ?_
     refine Jf rfl rfl rfl (Jk (v := str c.2.1) rfl) ?_
     refine Jf rfl rfl rfl (Jg (v := str c.2.1) rfl) ?_
     refine Jd ?_
     refine Ze (c.2.1, n', x1) t1 m [0, 1] (by exact ⟨rfl, rfl, rfl, rfl, trivial⟩) (by decide) (by kernel_rfl) (by exact ⟨H6, trivial⟩) (Nat.lt_succ_self _)
  ·have H1 := Xg hb H
   clear H
   refine Qp ?_
   refine Jc ?_
   refine Jc ?_
   refine Ja ?_
   refine Jf rfl rfl rfl (Jk (v := .int .i64 n) rfl) ?_
   refine Jf rfl rfl rfl (Qd rfl rfl) ?_
   refine Jf rfl rfl rfl (Jk (v := .bool (decide (n = 0))) rfl) ?_
   refine split (fun hb1 => ?_) (fun hb1 => ?_)
   ·rw [hb1, Bool.true_or] at H1
    have H2 := Xn rfl H1
    refine Jx rfl rfl rfl ?_
    refine Jx rfl rfl rfl ?_
    refine Jx rfl rfl rfl ?_
    refine Jx rfl rfl rfl ?_
    refine Jx rfl rfl rfl ?_
    refine Jx rfl rfl rfl ?_
    refine Jf rfl rfl rfl (Xp (v := .bool true) rfl rfl) ?_
    refine Jd ?_
    refine Yc rfl ?_
    obtain ⟨z, h_z, H3⟩ := Je H2
    refine Jc ?_
    refine Ja ?_
    refine Jf rfl rfl rfl (Yi (pl := #[(0, 1), (1, 1)]) (ps := []) (cells := #[.bool false, z0s]) Tryz.zeroValue24 Tryz.runUnderlying24 (fun w => by kernel_rfl) rfl rfl) ?_
    refine Jf rfl rfl rfl (Jk (v := .int .i64 n) rfl) ?_
    refine Jf rfl rfl rfl (J8 rfl rfl h_z) ?_
    refine Qu (i := 0) (vs := [.bool false, z0s]) (cs' := [.bool false, z0s]) Tryz.sizeOf24 rfl rfl rfl rfl rfl rfl rfl rfl rfl ?_
    refine Jf rfl rfl rfl (Jg (v := .int .i64 z) rfl) ?_
    refine Jf rfl rfl rfl (Jg (v := .int .i64 8) rfl) ?_
    refine Jd ?_
    refine Ji ?_
    exact err rfl (Option.some.inj H3).symm rfl rfl rfl
   ·rw [hb1, Bool.false_or] at H1
    obtain ⟨big, dirs, op⟩ := x
    refine c_ex 1 rfl fun ⟨pd, po⟩ => ?_
    refine Xo 1 rfl ?_
    try dsimp only [z1, z2, z3, z4, z5, z6, z7, z8]
    refine Xo 2 rfl ?_
    try dsimp only [z1, z2, z3, z4, z5, z6, z7, z8]
    refine Jf rfl rfl rfl (Jk (v := pz b17) rfl) ?_
    refine Jf rfl rfl rfl (Jm rfl) ?_
    refine Jf rfl rfl rfl (Jr Tryz.runUnderlying57 rfl Tryz.sizeOf41 rfl rfl) ?_
    refine Y7 (i := 1) (v := (.slice po.1 op.length po.2)) Tryz.isAgg41 rfl rfl rfl rfl rfl ?_
    refine Jf rfl rfl rfl (Wl Tryz.underlying41 rfl) ?_
    refine Jf rfl rfl rfl (Ye rfl rfl) ?_
    refine Jf rfl rfl rfl (X4 (v := .bool (decide (0 < (op.length : Int)))) rfl rfl) ?_
    refine Jd ?_
    refine Jak (b := decide (0 < (op.length : Int))) rfl (fun hb2 => ?_) (fun hb2 => ?_)
    ·have H2 := Xn hb2 H1
     obtain ⟨z, h_z, H3⟩ := Je H2
     refine Jc ?_
     refine Ja ?_
     refine Jf rfl rfl rfl (Yi (pl := #[(0, 1), (1, 1)]) (ps := []) (cells := #[.bool false, z0s]) Tryz.zeroValue24 Tryz.runUnderlying24 (fun w => by kernel_rfl) rfl rfl) ?_
     refine Jf rfl rfl rfl (Jk (v := .int .i64 n) rfl) ?_
     refine Jf rfl rfl rfl (J8 rfl rfl h_z) ?_
     refine Qu (i := 0) (vs := [.bool false, z0s]) (cs' := [.bool false, z0s]) Tryz.sizeOf24 rfl rfl rfl rfl rfl rfl rfl rfl rfl ?_
     refine Jf rfl rfl rfl (Jg (v := .int .i64 z) rfl) ?_
     refine Jf rfl rfl rfl (Jg (v := .int .i64 8) rfl) ?_
     refine Jd ?_
     refine Ji ?_
     exact err rfl (Option.some.inj H3).symm rfl rfl rfl
    ·have H2 := Xg hb2 H1
     obtain ⟨y, h_y, H3⟩ := Je H2
     refine Jh ?_
     refine Jh2 2 rfl (fun hp ⟨bs, tF, hnd, hdom⟩ => ?_)
     have f0 := tF.frn
     refine Jc ?_
     refine Jc ?_
     refine Ja ?_
     refine Jf rfl rfl rfl (Jk (v := pz b17) rfl) ?_
     refine Jf rfl rfl rfl (Jm rfl) ?_
     refine Jf rfl rfl rfl (Jr Tryz.runUnderlying57 rfl Tryz.sizeOf24 rfl rfl) ?_
     refine Q0 (i := 1) (vs := [.bool big, (.slice pd.1 dirs.length pd.2)]) Tryz.isAgg24 Tryz.sizeOf24 rfl rfl rfl rfl rfl ?_
     refine Qt (fun w hF hS => k15 (a0 := ⟨big, dirs⟩) (Ju w) (f0.mono (Jdq (i := 2) hS rfl Jbr)) h_y) Tryz.call15 rfl rfl rfl ?_
     refine Jf rfl rfl rfl (Jg (v := .int .i64 y) rfl) ?_
     refine Jd ?_
     refine Jc ?_
     refine Ja ?_
     refine Jf rfl rfl rfl (Jk (v := .int .i64 y) rfl) ?_
     refine Jf rfl rfl rfl (Vk rfl rfl) ?_
     refine Jd ?_
     refine Jak (b := (decide (y ≠ 0))) rfl (fun hb3 => ?_) (fun hb3 => ?_)
     ·have H4 := Xn hb3 H3
      refine Jc ?_
      refine Ja ?_
      refine Jf rfl rfl rfl (Yi (pl := #[(0, 1), (1, 1)]) (ps := []) (cells := #[.bool false, z0s]) Tryz.zeroValue24 Tryz.runUnderlying24 (fun w => by kernel_rfl) rfl rfl) ?_
      refine Jf rfl rfl rfl (Jk (v := .int .i64 y) rfl) ?_
      refine Qu (i := 0) (vs := [.bool false, z0s]) (cs' := [.bool false, z0s]) Tryz.sizeOf24 rfl rfl rfl rfl rfl rfl rfl rfl rfl ?_
      refine Jf rfl rfl rfl (Jg (v := .int .i64 0) rfl) ?_
      refine Jf rfl rfl rfl (Jg (v := .int .i64 y) rfl) ?_
      refine Jd ?_
      refine Ji ?_
      exact err rfl (Option.some.inj H4).symm rfl rfl rfl
     ·have H4 := Xg hb3 H3
      have hfit : fitF 8 ⟨big, dirs⟩ := Classical.byContradiction fun hh => by rw [if_neg hh] at H4; cases H4
      rw [if_pos hfit] at H4
      obtain rfl := Option.some.inj H4
      refine Jh ?_
      refine Jc ?_
      refine Ja ?_
      refine Jf rfl rfl rfl (Jk (v := pz b17) rfl) ?_
      refine Jf rfl rfl rfl (Jm rfl) ?_
      refine Jf rfl rfl rfl (Jr Tryz.runUnderlying57 rfl Tryz.sizeOf24 rfl rfl) ?_
      refine Q0 (i := 1) (vs := [.bool big, (.slice pd.1 dirs.length pd.2)]) Tryz.isAgg24 Tryz.sizeOf24 rfl rfl rfl rfl rfl ?_
      refine Zy (Xr (rds := [2]) (G := fun x : (Option Addr × Nat) => (.agg #[.bool big, .slice x.1 dirs.length x.2])) (C := fun x : (Option Addr × Nat) => Jbn 8 (.slice x.1 dirs.length x.2) dirs) (fun w L' hF hS hi => k26_of (a0 := ⟨big, dirs⟩) (Ju w) (f0.mono (Jdq (i := 2) hS ((hi 2 (by simp)).trans rfl) Jbr)) hfit) Tryz.call26 rfl) rfl rfl rfl (fun p => ?_)
      refine Qu (i := 0) (vs := [.bool big, .slice p.1 dirs.length p.2]) (cs' := [.bool big, .slice p.1 dirs.length p.2]) Tryz.sizeOf24 rfl rfl rfl rfl rfl rfl rfl rfl rfl ?_
      refine Jf rfl rfl rfl (Jg (v := .int .i64 0) rfl) ?_
      refine Jf rfl rfl rfl (Jg (v := .int .i64 0) rfl) ?_
      refine Jd ?_
      refine Ji ?_
      try dsimp only [z1, z2, z3, z4, z5, z6, z7, z8]
      refine J1 4 rfl (⟨fun _ _ ⟨hp, ⟨bs, t, _, _⟩, pl⟩ => ⟨hp, t.frn, pl⟩⟩ : Imp (Jbn 8 (.slice p.1 dirs.length p.2) dirs) (Jd4 Wa (fun hp_ => FrN hp_ 1 (.slice p.1 dirs.length p.2) gs_tag_Entry dirs))) ?_
      exact retCtt (i := 0) (vs := [.bool big, .slice p.1 dirs.length p.2]) (v2 := .int .i64 0) (v3 := .int .i64 0) Tryz.isAgg24 Tryz.sizeOf24 rfl rfl rfl rfl rfl rfl (Yg p (i := 4) rfl rfl (Imp.refl _))
end Go.Proofs.YtkbiccgjkiifpaaGreatDoor

namespace Go.Proofs.YtkbiccgjkiifpaaGreatDoor
open Go Go.Vc Go.Md Go.M Go.Lx
set_option maxRecDepth 100000
set_option maxHeartbeats 400000
abbrev rtC (pb : Nat) (lines : List (List UInt8)) (at_ : Int) : Chunk := exC fun pl : Option Addr × Nat => Qy (Jn pb [.slice pl.1 lines.length pl.2, .int .i64 at_] 65) (J3 9 1 (.slice pl.1 lines.length pl.2) lines.length (lines.map Jz))
theorem imp_rowD0R {d : Nat} {v : Value} : Imp (rowD 83 6 g_tag_Entry v 0 []) (Yw (d + 1) v []) := ⟨fun S w ⟨hp, css, hA, hn, S1, S2, h1, h2, s1, s2, sd⟩ => by
  obtain rfl := List.length_eq_zero_iff.1 hn.symm
  obtain ⟨hp', ⟨bs, ⟨r, _, hb⟩, nd, dom⟩, pl⟩ := imp_rowOwn.out _ _ h2
  exact ⟨hp', ⟨bs, ⟨[], [], r, rfl, by simp [hb]⟩, nd, dom⟩, pl.1, fun b o h => (pl.2 b o h).imp id fun k => ⟨s2 _ k.1, k.2⟩⟩⟩
theorem imp_rvR {d : Nat} {t : Int} {v : Tb} {p3 p4 p5 : Option Addr × Nat} (h : v.kab = []) :
    Imp (Qy (J3 3 1 (.slice p3.1 v.kaf.length p3.2) v.kaf.length (v.kaf.map Qz)) (Qy (J3 70 2 (.slice p4.1 v.kac.length p4.2) v.kac.length (v.kac.map Jl)) (rowD 83 6 g_tag_Entry (.slice p5.1 v.kab.length p5.2) v.kab.length v.kab)))
      (Uj fun h bs => TreeE (TreeL (d + 1)) h [.int .i64 t, .int .i64 v.kad, str v.kae, .slice p3.1 v.kaf.length p3.2, .slice p4.1 v.kac.length p4.2, .slice p5.1 v.kab.length p5.2] ⟨t, v⟩ bs) := by
  have i : Imp (rowD 83 6 g_tag_Entry (.slice p5.1 v.kab.length p5.2) v.kab.length v.kab) (Yw (d + 1) (.slice p5.1 v.kab.length p5.2) v.kab) := by
    rw [h]; exact imp_rowD0R
  exact Xe (Jat (Je2 _ _ _ _ _) (Jat (Je2 _ _ _ _ _) i)) (imp_kid (x := ⟨t, v⟩))
theorem imp_kidT {d : Nat} {t : Int} {v : Value} {xs : List Ta} : Imp (Yw d v xs) (Uj fun h bs => TreeE (TreeL d) h [.int .i64 t, .int .i64 13, str [], z0s, z0s, v] ⟨t, ⟨13, [], [], [], xs⟩⟩ bs) :=
  Jid fun h bs k => ⟨z0s, z0s, v, bs, rfl, ⟨none, 0, rfl, Nat.le_refl _, by decide, .inl rfl⟩, ⟨none, 0, rfl, Nat.le_refl _, by decide, .inl rfl⟩, k, by simp [roB]⟩
theorem rt_all : ∀ (k : Nat) {pb : Nat} {lines : List (List UInt8)} {at_ deep : Int} {y : RtA} {w : World} {S : Nat → Prop} (hcs : (rtC pb lines at_).P S w) (hlt : ∀ b, S b → b < w.heap.size) (H : it (Y4 lines) k (at_, deep) = some y),
    Does Tryz.prog 28 (List.toArray [pz pb, .int .i64 deep]) w (fun v w' => ∃ p : Option Addr × Nat, v = (.tuple #[.slice p.1 y.1.length p.2, .int .i64 y.2.1]) ∧ Turn w w' S (Qy (rtC pb lines y.2.2) (Yw (k + 1) (.slice p.1 y.1.length p.2) y.1))) := by
 intro k
 induction k with
 | zero => intro pb lines at_ deep y w S hcs hlt H; cases H
 | succ k ih =>
  intro pb lines at_ deep y w S hcs hlt H
  replace H : Y4 lines (it (Y4 lines) k) (at_, deep) = some y := H
  unfold Y4 at H
  obtain ⟨room, h_room, H1⟩ := Je H
  clear H
  refine enter (n := 155) Tryz.func28 rfl rfl rfl S [rtC pb lines at_] (Sat.one hcs hlt) ?_
  refine c_ex 0 rfl fun pl => ?_
  refine Xo 0 rfl ?_
  try dsimp only [z1, z2, z3, z4, z5, z6, z7, z8]
  refine Jc ?_
  refine Ja ?_
  refine Jf rfl rfl rfl (Jg (v := z0s) rfl) ?_
  refine Jf rfl rfl rfl (Jg (v := .int .i64 0) rfl) ?_
  refine Jd ?_
  refine Jc ?_
  refine Ja ?_
  refine Jf rfl rfl rfl (Jk (v := .int .i64 deep) rfl) ?_
  refine Qm (k40 h_room) Tryz.call40 rfl rfl rfl ?_
  refine Jf rfl rfl rfl (Jg (v := str room) rfl) ?_
  refine Jd ?_
  refine Jed ?_
  try dsimp only [z1, z2, z3, z4, z5, z6, z7, z8]
  refine J1 2 rfl (Jas (d := k + 1)) ?_
  try dsimp only [z1, z2, z3, z4, z5, z6, z7, z8]
  refine Jc ?_
  refine Jp ?_
  refine Xu (σ := Int × List Ta) (τ := (Option Addr × Nat) × (Option Addr × Nat)) (Jad lines deep room (it (Y4 lines) k)) (fun s t => [(0, pz pb), (1, .int .i64 deep), (4, .slice t.1.1 s.2.length t.1.2), (6, str room)]) (fun s t => [Jn pb [(.slice t.2.1 lines.length t.2.2), .int .i64 s.1] 65, J3 9 1 (.slice t.2.1 lines.length t.2.2) lines.length (lines.map Jz), Yw (k + 1 + 1) (.slice t.1.1 s.2.length t.1.2) s.2]) (fun s t => True) (at_, []) ((none, 0), pl) [0, 1, 2] H1 trivial (by exact ⟨rfl, rfl, rfl, rfl, trivial⟩) (by decide) (by kernel_rfl) ?_
  rintro ⟨a, l⟩ ⟨p, pl⟩ m gg H _
  clear H1
  try dsimp only
  refine Jc ?_
  refine Jc ?_
  refine Qv (Kd.p :: Kd.p :: Kd.p :: Kd.d [0] (.int .i64 a) :: Kd.p :: Kd.p :: Kd.p :: Kd.d [0] (.slice pl.1 lines.length pl.2) :: Kd.p :: Kd.p :: []) 0 mixed ?_ (by kernel_rfl)
  refine Jq rfl rfl (Jk (v := pz pb) rfl) ?_
  refine Jq rfl rfl (Jm rfl) ?_
  refine Jq rfl rfl (Jr Tryz.runUnderlying65 rfl Tryz.sizeOf3 rfl rfl) ?_
  refine X9 (i := 0) (v := .int .i64 a) Tryz.isAgg3 rfl rfl rfl rfl ?_
  refine Jq rfl rfl (Jk (v := pz pb) rfl) ?_
  refine Jq rfl rfl (Jm rfl) ?_
  refine Jq rfl rfl (Jr Tryz.runUnderlying65 rfl Tryz.sizeOf31 rfl rfl) ?_
  refine X9 (i := 0) (v := (.slice pl.1 lines.length pl.2)) Tryz.isAgg31 rfl rfl rfl rfl ?_
  refine Jq rfl rfl (Wl Tryz.underlying31 rfl) ?_
  refine Jq rfl rfl (Xk rfl rfl) ?_
  refine X6 ?_
  try dsimp only [z1, z2, z3, z4, z5, z6, z7, z8]
  refine Jak (b := decide (a < (lines.length : Int))) rfl (fun hb => ?_) (fun hb => ?_)
  ·have H1 := Xn hb H
   obtain ⟨s, h_at, H2⟩ := Je H1
   obtain ⟨q, h_q, H3⟩ := Je H2
   obtain ⟨e, h_e, H4⟩ := Je H3
   clear H H1 H2 H3
   refine Jh ?_
   refine Jp ?_
   refine Jc ?_
   refine Qv (Kd.p :: Kd.p :: Kd.p :: Kd.d [0] (.slice pl.1 lines.length pl.2) :: Kd.p :: Kd.p :: Kd.p :: Kd.d [0] (.int .i64 a) :: Kd.d [1] (X1 pl.1 (Int.toNat a * 1)) :: Kd.d [1] (str s) :: Kd.p :: Kd.d [] (.tuple #[str q.1, .bool q.2]) :: Kd.p :: Kd.p :: Kd.p :: Kd.p :: Kd.p :: []) 0 mixed ?_ (by kernel_rfl)
   refine Jq rfl rfl (Jk (v := pz pb) rfl) ?_
   refine Jq rfl rfl (Jm rfl) ?_
   refine Jq rfl rfl (Jr Tryz.runUnderlying65 rfl Tryz.sizeOf31 rfl rfl) ?_
   refine X9 (i := 0) (v := (.slice pl.1 lines.length pl.2)) Tryz.isAgg31 rfl rfl rfl rfl ?_
   refine Jq rfl rfl (Jk (v := pz pb) rfl) ?_
   refine Jq rfl rfl (Jm rfl) ?_
   refine Jq rfl rfl (Jr Tryz.runUnderlying65 rfl Tryz.sizeOf3 rfl rfl) ?_
   refine X9 (i := 0) (v := .int .i64 a) Tryz.isAgg3 rfl rfl rfl rfl ?_
   refine Ya (fun w L' hF hS hi => Qx Tryz.underlying31 Tryz.sizeOf9 rfl rfl (Xd (i := 1) (E := 9) (sz := 1) (n := lines.length) (a := pl.1) (c := pl.2) hS ((hi 1 (by simp)).trans rfl)) rfl h_at) rfl rfl ?_
   refine Ya (fun w L' hF hS hi => Qb (f := Jz) (i := a) (sz := 1) (j := 0) (v := str s) Tryz.isAgg9 rfl rfl (Xd (i := 1) (E := 9) (sz := 1) (n := lines.length) (a := pl.1) (c := pl.2) hS ((hi 1 (by simp)).trans rfl)) h_at rfl) rfl rfl ?_
   refine Jq rfl rfl (Jk (v := str room) rfl) ?_
   refine Jb9 (k47 h_q) Tryz.call47 rfl rfl ?_
   refine Jq rfl rfl (Jk (v := .tuple #[str q.1, .bool q.2]) rfl) ?_
   refine Jq rfl rfl (Jo (v := str q.1) rfl rfl) ?_
   refine Jq rfl rfl (Jo (v := .bool q.2) rfl rfl) ?_
   refine Jq rfl rfl (Jg (v := str q.1) rfl) ?_
   refine Jq rfl rfl (Jg (v := .bool q.2) rfl) ?_
   refine X6 ?_
   try dsimp only [z1, z2, z3, z4, z5, z6, z7, z8]
   refine Qe (r := y) (σ := Unit) (τ := Unit) (fun _ => Js (Ym q.1 [32]) fun c => Js (Jcl c.1 10 false) fun p => J2 (!q.2 || (!c.2.2 || !p.2)) (some ([], 8, a)) (J2 (decide (c.2.1 = [123])) (Jgs lines deep p.1 (it (Y4 lines) k) (it (Jad lines deep room (it (Y4 lines) k)) m) a l) (Jfe p.1 (it (Jad lines deep room (it (Y4 lines) k)) m) a l c.2.1))) (fun _ _ => [(0, pz pb), (1, .int .i64 deep), (4, .slice p.1 l.length p.2), (6, str room), (7, str q.1), (8, .bool q.2)]) (fun _ _ => [Jn pb [(.slice pl.1 lines.length pl.2), .int .i64 a] 65, J3 9 1 (.slice pl.1 lines.length pl.2) lines.length (lines.map Jz), Yw (k + 1 + 1) (.slice p.1 l.length p.2) l]) (fun _ _ => True) ?_ ?_
   ·unfold Jjm at h_e
    obtain ⟨e1, h_e1, h_e2⟩ := Je h_e
    refine Jc ?_
    refine Qv (Kd.p :: Kd.p :: Kd.p :: Kd.p :: Kd.p :: Kd.p :: Kd.d [0] (.slice pl.1 lines.length pl.2) :: Kd.p :: Kd.p :: Kd.p :: Kd.d [0] (.int .i64 a) :: Kd.d [1] (X1 pl.1 (Int.toNat a * 1)) :: Kd.d [1] (str s) :: Kd.p :: Kd.p :: Kd.p :: Kd.p :: Kd.p :: Kd.p :: Kd.p :: Kd.p :: Kd.p :: Kd.d [0] (.slice pl.1 lines.length pl.2) :: Kd.p :: Kd.p :: Kd.p :: Kd.d [0] (.int .i64 a) :: Kd.d [1] (X1 pl.1 (Int.toNat a * 1)) :: Kd.d [1] (str s) :: Kd.p :: Kd.p :: Kd.p :: Kd.p :: Kd.p :: Kd.p :: []) 0 mixed ?_ (by kernel_rfl)
    refine Jq rfl rfl (Jk (v := .int .i64 deep) rfl) ?_
    refine Jq rfl rfl (Qd rfl rfl) ?_
    refine Jq rfl rfl (Jk (v := .bool (decide (deep = 1))) rfl) ?_
    refine Jc5 (fun hb => ?_) (fun hb => ?_)
    ·obtain ⟨s2, h_s2, g0⟩ := Je (Xn hb h_e1)
     obtain rfl : s = s2 := Option.some.inj (h_at.symm.trans h_s2)
     obtain rfl := Option.some.inj g0
     refine Jq rfl rfl (Jk (v := pz pb) rfl) ?_
     refine Jq rfl rfl (Jm rfl) ?_
     refine Jq rfl rfl (Jr Tryz.runUnderlying65 rfl Tryz.sizeOf31 rfl rfl) ?_
     refine X9 (i := 0) (v := (.slice pl.1 lines.length pl.2)) Tryz.isAgg31 rfl rfl rfl rfl ?_
     refine Jq rfl rfl (Jk (v := pz pb) rfl) ?_
     refine Jq rfl rfl (Jm rfl) ?_
     refine Jq rfl rfl (Jr Tryz.runUnderlying65 rfl Tryz.sizeOf3 rfl rfl) ?_
     refine X9 (i := 0) (v := .int .i64 a) Tryz.isAgg3 rfl rfl rfl rfl ?_
     refine Ya (fun w L' hF hS hi => Qx Tryz.underlying31 Tryz.sizeOf9 rfl rfl (Xd (i := 1) (E := 9) (sz := 1) (n := lines.length) (a := pl.1) (c := pl.2) hS ((hi 1 (by simp)).trans rfl)) rfl h_at) rfl rfl ?_
     refine Ya (fun w L' hF hS hi => Qb (f := Jz) (i := a) (sz := 1) (j := 0) (v := str s) Tryz.isAgg9 rfl rfl (Xd (i := 1) (E := 9) (sz := 1) (n := lines.length) (a := pl.1) (c := pl.2) hS ((hi 1 (by simp)).trans rfl)) h_at rfl) rfl rfl ?_
     refine Jq rfl rfl (Vl rfl rfl) ?_
     refine Jq rfl rfl (Xp (v := .bool (decide (s = [100, 105, 114]))) rfl rfl) ?_
     refine Jq rfl rfl (Jk (v := .bool (decide (s = [100, 105, 114]))) rfl) ?_
     refine Jc5 (fun hb1 => ?_) (fun hb1 => ?_)
     ·obtain rfl := Option.some.inj (Xn hb1 h_e2)
      refine Q3 rfl rfl ?_
      refine Q3 rfl rfl ?_
      refine Q3 rfl rfl ?_
      refine Q3 rfl rfl ?_
      refine Q3 rfl rfl ?_
      refine Q3 rfl rfl ?_
      refine Q3 rfl rfl ?_
      refine Q3 rfl rfl ?_
      refine Q3 rfl rfl ?_
      refine Q3 rfl rfl ?_
      refine Q3 rfl rfl ?_
      refine Q3 rfl rfl ?_
      refine Q3 rfl rfl ?_
      refine Q3 rfl rfl ?_
      refine Q3 rfl rfl ?_
      refine Q3 rfl rfl ?_
      refine Q3 rfl rfl ?_
      refine Q3 rfl rfl ?_
      refine Jq rfl rfl (Xp (v := .bool true) rfl rfl) ?_
      have HH := Xn rfl H4
      refine X6 ?_
      try dsimp only [z1, z2, z3, z4, z5, z6, z7, z8]
      refine Yc rfl ?_
      refine Jc ?_
      refine Ja ?_
      refine Jf rfl rfl rfl (Jk (v := .slice p.1 l.length p.2) rfl) ?_
      refine Jf rfl rfl rfl (Jg (v := .slice p.1 l.length p.2) rfl) ?_
      refine Jf rfl rfl rfl (Jg (v := .int .i64 0) rfl) ?_
      refine Jd ?_
      refine Ji ?_
      obtain rfl := Option.some.inj HH
      refine Qc 0 1 rfl rfl (by decide) ?_
      try dsimp only [z1, z2, z3, z4, z5, z6, z7, z8]
      refine J1 0 rfl (⟨fun _ _ h => ⟨pl, h⟩⟩ : Imp _ (rtC pb lines a)) ?_
      try dsimp only [z1, z2, z3, z4, z5, z6, z7, z8]
      refine Qc 0 2 rfl rfl (by decide) ?_
      try dsimp only [z1, z2, z3, z4, z5, z6, z7, z8]
      exact Wh (v1 := .slice p.1 l.length p.2) (v2 := .int .i64 0) rfl rfl rfl (Yg p (i := 0) rfl rfl (Imp.refl _))
     ·replace h_e2 := Xg hb1 h_e2
      refine Jq rfl rfl (Jk (v := .int .i64 deep) rfl) ?_
      refine Jq rfl rfl (Ye rfl rfl) ?_
      refine Jq rfl rfl (Jk (v := .bool (decide (1 < deep))) rfl) ?_
      refine Jc5 (fun hb => ?_) (fun hb => ?_)
      ·obtain ⟨s3, h_s3, g1⟩ := Je (Xn hb h_e2)
       obtain rfl : s = s3 := Option.some.inj (h_at.symm.trans h_s3)
       obtain ⟨r3, h_r3, g2⟩ := Je g1
       obtain ⟨u3, h_u3, g3⟩ := Je g2
       obtain rfl := Option.some.inj g3
       refine Jq rfl rfl (Jk (v := pz pb) rfl) ?_
       refine Jq rfl rfl (Jm rfl) ?_
       refine Jq rfl rfl (Jr Tryz.runUnderlying65 rfl Tryz.sizeOf31 rfl rfl) ?_
       refine X9 (i := 0) (v := (.slice pl.1 lines.length pl.2)) Tryz.isAgg31 rfl rfl rfl rfl ?_
       refine Jq rfl rfl (Jk (v := pz pb) rfl) ?_
       refine Jq rfl rfl (Jm rfl) ?_
       refine Jq rfl rfl (Jr Tryz.runUnderlying65 rfl Tryz.sizeOf3 rfl rfl) ?_
       refine X9 (i := 0) (v := .int .i64 a) Tryz.isAgg3 rfl rfl rfl rfl ?_
       refine Ya (fun w L' hF hS hi => Qx Tryz.underlying31 Tryz.sizeOf9 rfl rfl (Xd (i := 1) (E := 9) (sz := 1) (n := lines.length) (a := pl.1) (c := pl.2) hS ((hi 1 (by simp)).trans rfl)) rfl h_at) rfl rfl ?_
       refine Ya (fun w L' hF hS hi => Qb (f := Jz) (i := a) (sz := 1) (j := 0) (v := str s) Tryz.isAgg9 rfl rfl (Xd (i := 1) (E := 9) (sz := 1) (n := lines.length) (a := pl.1) (c := pl.2) hS ((hi 1 (by simp)).trans rfl)) h_at rfl) rfl rfl ?_
       refine Jq rfl rfl (Jk (v := str room) rfl) ?_
       refine Jq rfl rfl (Zi Tryz.underlying9 rfl rfl h_r3) ?_
       refine Jq rfl rfl (Qw rfl rfl h_u3) ?_
       refine Jq rfl rfl (Vl rfl rfl) ?_
       refine Jq rfl rfl (Xp (v := .bool (decide (s = u3))) rfl rfl) ?_
       refine Jq rfl rfl (X4 (v := .bool (decide (s = u3))) rfl rfl) ?_
       refine X6 ?_
       try dsimp only [z1, z2, z3, z4, z5, z6, z7, z8]
       refine Jak (b := decide (s = u3)) rfl (fun hb => ?_) (fun hb => ?_)
       ·have HH := Xn hb H4
        refine Jc ?_
        refine Ja ?_
        refine Jf rfl rfl rfl (Jk (v := .slice p.1 l.length p.2) rfl) ?_
        refine Jf rfl rfl rfl (Jg (v := .slice p.1 l.length p.2) rfl) ?_
        refine Jf rfl rfl rfl (Jg (v := .int .i64 0) rfl) ?_
        refine Jd ?_
        refine Ji ?_
        obtain rfl := Option.some.inj HH
        refine Qc 0 1 rfl rfl (by decide) ?_
        try dsimp only [z1, z2, z3, z4, z5, z6, z7, z8]
        refine J1 0 rfl (⟨fun _ _ h => ⟨pl, h⟩⟩ : Imp _ (rtC pb lines a)) ?_
        try dsimp only [z1, z2, z3, z4, z5, z6, z7, z8]
        refine Qc 0 2 rfl rfl (by decide) ?_
        try dsimp only [z1, z2, z3, z4, z5, z6, z7, z8]
        exact Wh (v1 := .slice p.1 l.length p.2) (v2 := .int .i64 0) rfl rfl rfl (Yg p (i := 0) rfl rfl (Imp.refl _))
       ·have HH := Xg hb H4
        refine Jh ?_
        refine Ze () () 0 [0, 1, 2] (by exact ⟨rfl, rfl, rfl, rfl, rfl, rfl, trivial⟩) (by decide) (by kernel_rfl) (by exact ⟨HH, trivial⟩) (Nat.lt_succ_self _)
      ·obtain rfl := Option.some.inj (Xg hb h_e2)
       refine Q3 rfl rfl ?_
       refine Q3 rfl rfl ?_
       refine Q3 rfl rfl ?_
       refine Q3 rfl rfl ?_
       refine Q3 rfl rfl ?_
       refine Q3 rfl rfl ?_
       refine Q3 rfl rfl ?_
       refine Q3 rfl rfl ?_
       refine Q3 rfl rfl ?_
       refine Q3 rfl rfl ?_
       refine Q3 rfl rfl ?_
       refine Q3 rfl rfl ?_
       refine Q3 rfl rfl ?_
       refine Q3 rfl rfl ?_
       refine Jq rfl rfl (X4 (v := .bool false) rfl rfl) ?_
       refine Jq rfl rfl (X4 (v := .bool false) rfl rfl) ?_
       have HH := Xg rfl H4
       refine X6 ?_
       try dsimp only [z1, z2, z3, z4, z5, z6, z7, z8]
       refine Zc rfl ?_
       refine Jh ?_
       refine Ze () () 0 [0, 1, 2] (by exact ⟨rfl, rfl, rfl, rfl, rfl, rfl, trivial⟩) (by decide) (by kernel_rfl) (by exact ⟨HH, trivial⟩) (Nat.lt_succ_self _)
    ·obtain rfl := Option.some.inj (Xg hb h_e1)
     replace h_e2 := Xg rfl h_e2
     refine Q3 rfl rfl ?_
     refine Q3 rfl rfl ?_
     refine Q3 rfl rfl ?_
     refine Q3 rfl rfl ?_
     refine Q3 rfl rfl ?_
     refine Q3 rfl rfl ?_
     refine Q3 rfl rfl ?_
     refine Q3 rfl rfl ?_
     refine Q3 rfl rfl ?_
     refine Q3 rfl rfl ?_
     refine Q3 rfl rfl ?_
     refine Jq rfl rfl (X4 (v := .bool false) rfl rfl) ?_
     refine Jq rfl rfl (Jk (v := .bool false) rfl) ?_
     refine Jq rfl rfl (Jk (v := .int .i64 deep) rfl) ?_
     refine Jq rfl rfl (Ye rfl rfl) ?_
     refine Jq rfl rfl (Jk (v := .bool (decide (1 < deep))) rfl) ?_
     refine Jc5 (fun hb => ?_) (fun hb => ?_)
     ·obtain ⟨s3, h_s3, g1⟩ := Je (Xn hb h_e2)
      obtain rfl : s = s3 := Option.some.inj (h_at.symm.trans h_s3)
      obtain ⟨r3, h_r3, g2⟩ := Je g1
      obtain ⟨u3, h_u3, g3⟩ := Je g2
      obtain rfl := Option.some.inj g3
      refine Jq rfl rfl (Jk (v := pz pb) rfl) ?_
      refine Jq rfl rfl (Jm rfl) ?_
      refine Jq rfl rfl (Jr Tryz.runUnderlying65 rfl Tryz.sizeOf31 rfl rfl) ?_
      refine X9 (i := 0) (v := (.slice pl.1 lines.length pl.2)) Tryz.isAgg31 rfl rfl rfl rfl ?_
      refine Jq rfl rfl (Jk (v := pz pb) rfl) ?_
      refine Jq rfl rfl (Jm rfl) ?_
      refine Jq rfl rfl (Jr Tryz.runUnderlying65 rfl Tryz.sizeOf3 rfl rfl) ?_
      refine X9 (i := 0) (v := .int .i64 a) Tryz.isAgg3 rfl rfl rfl rfl ?_
      refine Ya (fun w L' hF hS hi => Qx Tryz.underlying31 Tryz.sizeOf9 rfl rfl (Xd (i := 1) (E := 9) (sz := 1) (n := lines.length) (a := pl.1) (c := pl.2) hS ((hi 1 (by simp)).trans rfl)) rfl h_at) rfl rfl ?_
      refine Ya (fun w L' hF hS hi => Qb (f := Jz) (i := a) (sz := 1) (j := 0) (v := str s) Tryz.isAgg9 rfl rfl (Xd (i := 1) (E := 9) (sz := 1) (n := lines.length) (a := pl.1) (c := pl.2) hS ((hi 1 (by simp)).trans rfl)) h_at rfl) rfl rfl ?_
      refine Jq rfl rfl (Jk (v := str room) rfl) ?_
      refine Jq rfl rfl (Zi Tryz.underlying9 rfl rfl h_r3) ?_
      refine Jq rfl rfl (Qw rfl rfl h_u3) ?_
      refine Jq rfl rfl (Vl rfl rfl) ?_
      refine Jq rfl rfl (Xp (v := .bool (decide (s = u3))) rfl rfl) ?_
      refine Jq rfl rfl (X4 (v := .bool (decide (s = u3))) rfl rfl) ?_
      refine X6 ?_
      try dsimp only [z1, z2, z3, z4, z5, z6, z7, z8]
      refine Jak (b := decide (s = u3)) rfl (fun hb => ?_) (fun hb => ?_)
      ·have HH := Xn hb H4
       refine Jc ?_
       refine Ja ?_
       refine Jf rfl rfl rfl (Jk (v := .slice p.1 l.length p.2) rfl) ?_
       refine Jf rfl rfl rfl (Jg (v := .slice p.1 l.length p.2) rfl) ?_
       refine Jf rfl rfl rfl (Jg (v := .int .i64 0) rfl) ?_
       refine Jd ?_
       refine Ji ?_
       obtain rfl := Option.some.inj HH
       refine Qc 0 1 rfl rfl (by decide) ?_
       try dsimp only [z1, z2, z3, z4, z5, z6, z7, z8]
       refine J1 0 rfl (⟨fun _ _ h => ⟨pl, h⟩⟩ : Imp _ (rtC pb lines a)) ?_
       try dsimp only [z1, z2, z3, z4, z5, z6, z7, z8]
       refine Qc 0 2 rfl rfl (by decide) ?_
       try dsimp only [z1, z2, z3, z4, z5, z6, z7, z8]
       exact Wh (v1 := .slice p.1 l.length p.2) (v2 := .int .i64 0) rfl rfl rfl (Yg p (i := 0) rfl rfl (Imp.refl _))
      ·have HH := Xg hb H4
       refine Jh ?_
       refine Ze () () 0 [0, 1, 2] (by exact ⟨rfl, rfl, rfl, rfl, rfl, rfl, trivial⟩) (by decide) (by kernel_rfl) (by exact ⟨HH, trivial⟩) (Nat.lt_succ_self _)
     ·obtain rfl := Option.some.inj (Xg hb h_e2)
      refine Q3 rfl rfl ?_
      refine Q3 rfl rfl ?_
      refine Q3 rfl rfl ?_
      refine Q3 rfl rfl ?_
      refine Q3 rfl rfl ?_
      refine Q3 rfl rfl ?_
      refine Q3 rfl rfl ?_
      refine Q3 rfl rfl ?_
      refine Q3 rfl rfl ?_
      refine Q3 rfl rfl ?_
      refine Q3 rfl rfl ?_
      refine Q3 rfl rfl ?_
      refine Q3 rfl rfl ?_
      refine Q3 rfl rfl ?_
      refine Jq rfl rfl (X4 (v := .bool false) rfl rfl) ?_
      refine Jq rfl rfl (X4 (v := .bool false) rfl rfl) ?_
      have HH := Xg rfl H4
      refine X6 ?_
      try dsimp only [z1, z2, z3, z4, z5, z6, z7, z8]
      refine Zc rfl ?_
      refine Jh ?_
      refine Ze () () 0 [0, 1, 2] (by exact ⟨rfl, rfl, rfl, rfl, rfl, rfl, trivial⟩) (by decide) (by kernel_rfl) (by exact ⟨HH, trivial⟩) (Nat.lt_succ_self _)
   ·rintro _ _ gg2 H5 _
    replace H5 : (Js (Ym q.1 [32]) fun c => Js (Jcl c.1 10 false) fun p => J2 (!q.2 || (!c.2.2 || !p.2)) (some ([], 8, a)) (J2 (decide (c.2.1 = [123])) (Jgs lines deep p.1 (it (Y4 lines) k) (it (Jad lines deep room (it (Y4 lines) k)) m) a l) (Jfe p.1 (it (Jad lines deep room (it (Y4 lines) k)) m) a l c.2.1))) = some y := H5
    clear H4 h_e
    try dsimp only
    obtain ⟨c, h_c, H6⟩ := Je H5
    obtain ⟨t, h_t, H7⟩ := Je H6
    clear H5 H6
    refine Jc ?_
    refine Ja ?_
    refine Jf rfl rfl rfl (Jk (v := str q.1) rfl) ?_
    refine Qm (k24 h_c) Tryz.call24 rfl rfl rfl ?_
    refine Jf rfl rfl rfl (Jk (v := .tuple #[str c.1, str c.2.1, .bool c.2.2]) rfl) ?_
    refine Jf rfl rfl rfl (Jo (v := str c.1) rfl rfl) ?_
    refine Jf rfl rfl rfl (Jo (v := str c.2.1) rfl rfl) ?_
    refine Jf rfl rfl rfl (Jo (v := .bool c.2.2) rfl rfl) ?_
    refine Jf rfl rfl rfl (Jg (v := str c.1) rfl) ?_
    refine Jf rfl rfl rfl (Jg (v := str c.2.1) rfl) ?_
    refine Jf rfl rfl rfl (Jg (v := .bool c.2.2) rfl) ?_
    refine Jd ?_
    refine Jc ?_
    refine Ja ?_
    refine Jf rfl rfl rfl (Jk (v := str c.1) rfl) ?_
    refine Qm (k52 h_t) Tryz.call52 rfl rfl rfl ?_
    refine Jf rfl rfl rfl (Jk (v := .tuple #[.int .i64 t.1, .bool t.2]) rfl) ?_
    refine Jf rfl rfl rfl (Jo (v := .int .i64 t.1) rfl rfl) ?_
    refine Jf rfl rfl rfl (Jo (v := .bool t.2) rfl rfl) ?_
    refine Jf rfl rfl rfl (Jg (v := .int .i64 t.1) rfl) ?_
    refine Jf rfl rfl rfl (Jg (v := .bool t.2) rfl) ?_
    refine Jd ?_
    refine Jc ?_
    refine Jc ?_
    refine Ja ?_
    refine Jf rfl rfl rfl (Jk (v := .bool q.2) rfl) ?_
    refine Jf rfl rfl rfl (Jay rfl) ?_
    refine Jf rfl rfl rfl (Jk (v := .bool (!q.2)) rfl) ?_
    refine split (fun hb => ?_) (fun hb => ?_)
    ·rw [hb, Bool.true_or] at H7
     refine Jx rfl rfl rfl ?_
     refine Jx rfl rfl rfl ?_
     refine Jf rfl rfl rfl (Xp (v := .bool true) rfl rfl) ?_
     refine Jf rfl rfl rfl (Jk (v := .bool true) rfl) ?_
     refine Jx rfl rfl rfl ?_
     refine Jx rfl rfl rfl ?_
     refine Jf rfl rfl rfl (Xp (v := .bool true) rfl rfl) ?_
     refine Jd ?_
     refine Yc rfl ?_
     have HH := Xn rfl H7
     refine Jc ?_
     refine Ja ?_
     refine Jf rfl rfl rfl (Jg (v := z0s) rfl) ?_
     refine Jf rfl rfl rfl (Jg (v := .int .i64 8) rfl) ?_
     refine Jd ?_
     refine Ji ?_
     obtain rfl := Option.some.inj HH
     refine Qc 0 1 rfl rfl (by decide) ?_
     try dsimp only [z1, z2, z3, z4, z5, z6, z7, z8]
     refine J1 0 rfl (⟨fun _ _ h => ⟨pl, h⟩⟩ : Imp _ (rtC pb lines a)) ?_
     try dsimp only [z1, z2, z3, z4, z5, z6, z7, z8]
     refine Jed ?_
     try dsimp only [z1, z2, z3, z4, z5, z6, z7, z8]
     refine J1 3 rfl (Jas (d := k + 1)) ?_
     try dsimp only [z1, z2, z3, z4, z5, z6, z7, z8]
     refine Qc 0 3 rfl rfl (by decide) ?_
     try dsimp only [z1, z2, z3, z4, z5, z6, z7, z8]
     exact Wh (v1 := z0s) (v2 := .int .i64 8) rfl rfl rfl (Yg ((none, 0) : Option Addr × Nat) (i := 0) rfl rfl (Imp.refl _))
    ·rw [hb, Bool.false_or] at H7
     refine Jf rfl rfl rfl (Jk (v := .bool c.2.2) rfl) ?_
     refine Jf rfl rfl rfl (Jay rfl) ?_
     refine Jf rfl rfl rfl (X4 (v := .bool (!c.2.2)) rfl rfl) ?_
     refine Jf rfl rfl rfl (Jk (v := .bool (!c.2.2)) rfl) ?_
     refine split (fun hb => ?_) (fun hb => ?_)
     ·rw [hb, Bool.true_or] at H7
      refine Jx rfl rfl rfl ?_
      refine Jx rfl rfl rfl ?_
      refine Jf rfl rfl rfl (Xp (v := .bool true) rfl rfl) ?_
      refine Jd ?_
      refine Yc rfl ?_
      have HH := Xn rfl H7
      refine Jc ?_
      refine Ja ?_
      refine Jf rfl rfl rfl (Jg (v := z0s) rfl) ?_
      refine Jf rfl rfl rfl (Jg (v := .int .i64 8) rfl) ?_
      refine Jd ?_
      refine Ji ?_
      obtain rfl := Option.some.inj HH
      refine Qc 0 1 rfl rfl (by decide) ?_
      try dsimp only [z1, z2, z3, z4, z5, z6, z7, z8]
      refine J1 0 rfl (⟨fun _ _ h => ⟨pl, h⟩⟩ : Imp _ (rtC pb lines a)) ?_
      try dsimp only [z1, z2, z3, z4, z5, z6, z7, z8]
      refine Jed ?_
      try dsimp only [z1, z2, z3, z4, z5, z6, z7, z8]
      refine J1 3 rfl (Jas (d := k + 1)) ?_
      try dsimp only [z1, z2, z3, z4, z5, z6, z7, z8]
      refine Qc 0 3 rfl rfl (by decide) ?_
      try dsimp only [z1, z2, z3, z4, z5, z6, z7, z8]
      exact Wh (v1 := z0s) (v2 := .int .i64 8) rfl rfl rfl (Yg ((none, 0) : Option Addr × Nat) (i := 0) rfl rfl (Imp.refl _))
     ·rw [hb, Bool.false_or] at H7
      refine Jf rfl rfl rfl (Jk (v := .bool t.2) rfl) ?_
      refine Jf rfl rfl rfl (Jay rfl) ?_
      refine Jf rfl rfl rfl (X4 (v := .bool (!t.2)) rfl rfl) ?_
      refine Jd ?_
      refine Jak (b := !t.2) rfl (fun hb => ?_) (fun hb => ?_)
      ·have HH := Xn hb H7
       refine Jc ?_
       refine Ja ?_
       refine Jf rfl rfl rfl (Jg (v := z0s) rfl) ?_
       refine Jf rfl rfl rfl (Jg (v := .int .i64 8) rfl) ?_
       refine Jd ?_
       refine Ji ?_
       obtain rfl := Option.some.inj HH
       refine Qc 0 1 rfl rfl (by decide) ?_
       try dsimp only [z1, z2, z3, z4, z5, z6, z7, z8]
       refine J1 0 rfl (⟨fun _ _ h => ⟨pl, h⟩⟩ : Imp _ (rtC pb lines a)) ?_
       try dsimp only [z1, z2, z3, z4, z5, z6, z7, z8]
       refine Jed ?_
       try dsimp only [z1, z2, z3, z4, z5, z6, z7, z8]
       refine J1 3 rfl (Jas (d := k + 1)) ?_
       try dsimp only [z1, z2, z3, z4, z5, z6, z7, z8]
       refine Qc 0 3 rfl rfl (by decide) ?_
       try dsimp only [z1, z2, z3, z4, z5, z6, z7, z8]
       exact Wh (v1 := z0s) (v2 := .int .i64 8) rfl rfl rfl (Yg ((none, 0) : Option Addr × Nat) (i := 0) rfl rfl (Imp.refl _))
      ·have H8 := Xg hb H7
       clear H7
       refine Jh ?_
       refine Jc ?_
       refine Ja ?_
       refine Jf rfl rfl rfl (Jk (v := .int .i64 t.1) rfl) ?_
       refine Jf rfl rfl rfl (Yi (pl := #[(0, 1), (1, 5)]) (ps := [(0, .int .i64 t.1)]) (cells := #[.int .i64 t.1, .int .i64 0, str [], z0s, z0s, z0s]) Tryz.zeroValue83 Tryz.runUnderlying83 (fun w => by kernel_rfl) rfl (by kernel_rfl)) ?_
       refine Xi (cs := [.int .i64 0, .int .i64 0, str [], z0s, z0s, z0s]) Tryz.zeroValue83 rfl rfl rfl (fun b14 => ?_)
       refine Qu (i := 3) (vs := [.int .i64 t.1, .int .i64 0, str [], z0s, z0s, z0s]) (cs' := [.int .i64 t.1, .int .i64 0, str [], z0s, z0s, z0s]) Tryz.sizeOf83 rfl rfl rfl rfl rfl rfl rfl rfl rfl ?_
       refine Jd ?_
       try dsimp only [z1, z2, z3, z4, z5, z6, z7, z8]
       refine Qe (r := y) (σ := Ta × Int) (τ := (Option Addr × Nat) × Value × Value × Value) (fun s => Js (Wz 104 l [s.1]) fun l' => Js (gI (s.2 + 1)) fun a2 => it (Jad lines deep room (it (Y4 lines) k)) m (a2, l')) (fun s u => [(0, pz pb), (1, .int .i64 deep), (4, .slice p.1 l.length p.2), (6, str room), (14, pz b14)]) (fun s u => [Jn pb [(.slice u.1.1 lines.length u.1.2), .int .i64 s.2] 65, J3 9 1 (.slice u.1.1 lines.length u.1.2) lines.length (lines.map Jz), Yw (k + 1 + 1) (.slice p.1 l.length p.2) l, Jn b14 [.int .i64 s.1.Tag, .int .i64 s.1.Value.kad, str s.1.Value.kae, u.2.1, u.2.2.1, u.2.2.2] 83, Uj fun h bs => TreeE (TreeL (k + 1)) h [.int .i64 s.1.Tag, .int .i64 s.1.Value.kad, str s.1.Value.kae, u.2.1, u.2.2.1, u.2.2.2] s.1 bs]) (fun s u => True) ?_ ?_
       ·refine Jc ?_
        refine Ja ?_
        refine Jf rfl rfl rfl (Jk (v := str c.2.1) rfl) ?_
        refine Jf rfl rfl rfl (Vl rfl rfl) ?_
        refine Jd ?_
        refine Jak (b := decide (c.2.1 = [123])) rfl (fun hb => ?_) (fun hb => ?_)
        ·have H9 := Xn hb H8
         unfold Jgs at H9
         obtain ⟨a1, h_a1, G1⟩ := Je H9
         obtain ⟨d1, h_d1, G2⟩ := Je G1
         obtain ⟨r, h_self, G3⟩ := Je G2
         clear H8 H9 G1 G2
         refine Jc ?_
         refine Ja ?_
         refine Jf rfl rfl rfl (Jk (v := pz pb) rfl) ?_
         refine Jf rfl rfl rfl (Jm rfl) ?_
         refine Jf rfl rfl rfl (Jr Tryz.runUnderlying65 rfl Tryz.sizeOf3 rfl rfl) ?_
         refine Y7 (i := 0) (v := .int .i64 a) Tryz.isAgg3 rfl rfl rfl rfl rfl ?_
         refine Jf rfl rfl rfl (J8 rfl rfl h_a1) ?_
         refine Jf rfl rfl rfl (Jm rfl) ?_
         refine Jf rfl rfl rfl (Jr Tryz.runUnderlying65 rfl Tryz.sizeOf3 rfl rfl) ?_
         refine Qu (i := 0) (vs := [.int .i64 a1]) (cs' := [(.slice pl.1 lines.length pl.2), .int .i64 a1]) Tryz.sizeOf3 rfl rfl rfl rfl rfl rfl rfl rfl rfl ?_
         refine Jd ?_
         try dsimp only [z1, z2, z3, z4, z5, z6, z7, z8]
         refine Qc 0 1 rfl rfl (by decide) ?_
         try dsimp only [z1, z2, z3, z4, z5, z6, z7, z8]
         refine J1 0 rfl (⟨fun _ _ h => ⟨pl, h⟩⟩ : Imp _ (rtC pb lines a1)) ?_
         try dsimp only [z1, z2, z3, z4, z5, z6, z7, z8]
         refine Jc ?_
         refine Jc ?_
         refine Ja ?_
         refine Jf rfl rfl rfl (Jk (v := pz pb) rfl) ?_
         refine Jf rfl rfl rfl (Jk (v := .int .i64 deep) rfl) ?_
         refine Jf rfl rfl rfl (J8 rfl rfl h_d1) ?_
         refine Q1 (Qa (i := 0) (rds := []) (G := fun q5 : Option Addr × Nat => .tuple #[.slice q5.1 r.1.length q5.2, .int .i64 r.2.1]) (C := fun q5 : Option Addr × Nat => Qy (rtC pb lines r.2.2) (Yw (k + 1) (.slice q5.1 r.1.length q5.2) r.1)) rfl (fun w L' S hF hS hi hC hlt hown hA => ih hC hlt h_self) Tryz.call28 rfl) rfl rfl rfl (fun q5 => ?_)
         refine c_splitAt 0 1 rfl rfl (by decide) ?_
         try dsimp only [z1, z2, z3, z4, z5, z6, z7, z8]
         refine Jf rfl rfl rfl (Jk (v := .tuple #[.slice q5.1 r.1.length q5.2, .int .i64 r.2.1]) rfl) ?_
         refine Jf rfl rfl rfl (Jo (v := .slice q5.1 r.1.length q5.2) rfl rfl) ?_
         refine Jf rfl rfl rfl (Jo (v := .int .i64 r.2.1) rfl rfl) ?_
         refine Jf rfl rfl rfl (Jr Tryz.runUnderlying83 rfl Tryz.sizeOf81 rfl rfl) ?_
         refine Jf rfl rfl rfl (Jr Tryz.runUnderlying81 rfl Tryz.sizeOf41 rfl rfl) ?_
         refine Qu (i := 3) (vs := [.slice q5.1 r.1.length q5.2]) (cs' := [.int .i64 t.1, .int .i64 0, str [], z0s, z0s, .slice q5.1 r.1.length q5.2]) Tryz.sizeOf41 rfl rfl rfl rfl rfl rfl rfl rfl rfl ?_
         refine Jf rfl rfl rfl (Jg (v := .int .i64 r.2.1) rfl) ?_
         refine Jd ?_
         try dsimp only [z1, z2, z3, z4, z5, z6, z7, z8]
         refine Jc ?_
         refine Ja ?_
         refine Jf rfl rfl rfl (Jk (v := .int .i64 r.2.1) rfl) ?_
         refine Jf rfl rfl rfl (Vk rfl rfl) ?_
         refine Jd ?_
         refine Jak (b := decide (r.2.1 ≠ 0)) rfl (fun hb1 => ?_) (fun hb1 => ?_)
         ·have HH := Xn hb1 G3
          refine Jc ?_
          refine Ja ?_
          refine Jf rfl rfl rfl (Jk (v := .int .i64 r.2.1) rfl) ?_
          refine Jf rfl rfl rfl (Jg (v := z0s) rfl) ?_
          refine Jf rfl rfl rfl (Jg (v := .int .i64 r.2.1) rfl) ?_
          refine Jd ?_
          refine Ji ?_
          obtain rfl := Option.some.inj HH
          refine Jed ?_
          try dsimp only [z1, z2, z3, z4, z5, z6, z7, z8]
          refine J1 4 rfl (Jas (d := k + 1)) ?_
          try dsimp only [z1, z2, z3, z4, z5, z6, z7, z8]
          refine Qc 0 4 rfl rfl (by decide) ?_
          try dsimp only [z1, z2, z3, z4, z5, z6, z7, z8]
          exact Wh (v1 := z0s) (v2 := .int .i64 r.2.1) rfl rfl rfl (Yg ((none, 0) : Option Addr × Nat) (i := 0) rfl rfl (Imp.refl _))
         ·have G4 := Xg hb1 G3
          clear G3
          refine Jh ?_
          refine Jc ?_
          refine Ja ?_
          refine Jf rfl rfl rfl (Jr Tryz.runUnderlying83 rfl Tryz.sizeOf81 rfl rfl) ?_
          refine Jf rfl rfl rfl (Jr Tryz.runUnderlying81 rfl Tryz.sizeOf3 rfl rfl) ?_
          refine Qu (i := 3) (vs := [.int .i64 13]) (cs' := [.int .i64 t.1, .int .i64 13, str [], z0s, z0s, .slice q5.1 r.1.length q5.2]) Tryz.sizeOf3 rfl rfl rfl rfl rfl rfl rfl rfl rfl ?_
          refine Jd ?_
          try dsimp only [z1, z2, z3, z4, z5, z6, z7, z8]
          refine c_ex 0 rfl fun pm => ?_
          refine Xo 0 rfl ?_
          try dsimp only [z1, z2, z3, z4, z5, z6, z7, z8]
          refine Jc ?_
          refine Qv (Kd.p :: Kd.p :: Kd.p :: Kd.d [0] (.int .i64 r.2.2) :: Kd.p :: Kd.p :: Kd.p :: Kd.d [0] (.slice pm.1 lines.length pm.2) :: Kd.p :: Kd.p :: []) 0 mixed ?_ (by kernel_rfl)
          refine Jq rfl rfl (Jk (v := pz pb) rfl) ?_
          refine Jq rfl rfl (Jm rfl) ?_
          refine Jq rfl rfl (Jr Tryz.runUnderlying65 rfl Tryz.sizeOf3 rfl rfl) ?_
          refine X9 (i := 0) (v := .int .i64 r.2.2) Tryz.isAgg3 rfl rfl rfl rfl ?_
          refine Jq rfl rfl (Jk (v := pz pb) rfl) ?_
          refine Jq rfl rfl (Jm rfl) ?_
          refine Jq rfl rfl (Jr Tryz.runUnderlying65 rfl Tryz.sizeOf31 rfl rfl) ?_
          refine X9 (i := 0) (v := (.slice pm.1 lines.length pm.2)) Tryz.isAgg31 rfl rfl rfl rfl ?_
          refine Jq rfl rfl (Wl Tryz.underlying31 rfl) ?_
          refine Jq rfl rfl (Qd rfl rfl) ?_
          refine X6 ?_
          try dsimp only [z1, z2, z3, z4, z5, z6, z7, z8]
          refine Jak (b := decide (r.2.2 = (lines.length : Int))) rfl (fun hb2 => ?_) (fun hb2 => ?_)
          ·have HH := Xn hb2 G4
           refine Jc ?_
           refine Ja ?_
           refine Jf rfl rfl rfl (Jg (v := z0s) rfl) ?_
           refine Jf rfl rfl rfl (Jg (v := .int .i64 8) rfl) ?_
           refine Jd ?_
           refine Ji ?_
           obtain rfl := Option.some.inj HH
           refine Qc 0 4 rfl rfl (by decide) ?_
           try dsimp only [z1, z2, z3, z4, z5, z6, z7, z8]
           refine J1 0 rfl (⟨fun _ _ h => ⟨pm, h⟩⟩ : Imp _ (rtC pb lines r.2.2)) ?_
           try dsimp only [z1, z2, z3, z4, z5, z6, z7, z8]
           refine Jed ?_
           try dsimp only [z1, z2, z3, z4, z5, z6, z7, z8]
           refine J1 5 rfl (Jas (d := k + 1)) ?_
           try dsimp only [z1, z2, z3, z4, z5, z6, z7, z8]
           refine Qc 0 5 rfl rfl (by decide) ?_
           try dsimp only [z1, z2, z3, z4, z5, z6, z7, z8]
           exact Wh (v1 := z0s) (v2 := .int .i64 8) rfl rfl rfl (Yg ((none, 0) : Option Addr × Nat) (i := 0) rfl rfl (Imp.refl _))
          ·have G5 := Xg hb2 G4
           refine Jh ?_
           refine J1 1 rfl (imp_kidT (t := t.1)) ?_
           try dsimp only [z1, z2, z3, z4, z5, z6, z7, z8]
           refine Ze ((⟨t.1, ⟨13, [], [], [], r.1⟩⟩ : Ta), r.2.2) (pm, z0s, z0s, .slice q5.1 r.1.length q5.2) 0 [0, 4, 2, 3, 1] (by exact ⟨rfl, rfl, rfl, rfl, rfl, trivial⟩) (by decide) (by kernel_rfl) (by exact ⟨G5, trivial⟩) (Nat.lt_succ_self _)
        ·have H9 := Xg hb H8
         unfold Jfe at H9
         obtain ⟨v, h_v, G3⟩ := Je H9
         clear H8 H9
         refine Jc ?_
         refine Ja ?_
         refine Jf rfl rfl rfl (Jk (v := str c.2.1) rfl) ?_
         refine Zy (Xr (rds := []) (G := fun x : (Option Addr × Nat) × (Option Addr × Nat) × (Option Addr × Nat) => (.tuple #[.agg #[.int .i64 v.1.kad, str v.1.kae, .slice x.1.1 v.1.kaf.length x.1.2, .slice x.2.1.1 v.1.kac.length x.2.1.2, .slice x.2.2.1 v.1.kab.length x.2.2.2], .int .i64 v.2])) (C := fun x : (Option Addr × Nat) × (Option Addr × Nat) × (Option Addr × Nat) => (Qy (J3 3 1 (.slice x.1.1 v.1.kaf.length x.1.2) v.1.kaf.length (v.1.kaf.map Qz)) (Qy (J3 70 2 (.slice x.2.1.1 v.1.kac.length x.2.1.2) v.1.kac.length (v.1.kac.map Jl)) (rowD 83 6 g_tag_Entry (.slice x.2.2.1 v.1.kab.length x.2.2.2) v.1.kab.length v.1.kab)))) (fun w L' hF hS hi => k53 (Ju w) h_v) Tryz.call53 rfl) rfl rfl rfl (fun ⟨p3, p4, p5⟩ => ?_)
         refine Jf rfl rfl rfl (Jk (v := .tuple #[.agg #[.int .i64 v.1.kad, str v.1.kae, .slice p3.1 v.1.kaf.length p3.2, .slice p4.1 v.1.kac.length p4.2, .slice p5.1 v.1.kab.length p5.2], .int .i64 v.2]) rfl) ?_
         refine Jf rfl rfl rfl (Jo (v := .agg #[.int .i64 v.1.kad, str v.1.kae, .slice p3.1 v.1.kaf.length p3.2, .slice p4.1 v.1.kac.length p4.2, .slice p5.1 v.1.kab.length p5.2]) rfl rfl) ?_
         refine Jf rfl rfl rfl (Jo (v := .int .i64 v.2) rfl rfl) ?_
         refine Jf rfl rfl rfl (Jr Tryz.runUnderlying83 rfl Tryz.sizeOf81 rfl rfl) ?_
         refine Qu (i := 3) (vs := [.int .i64 v.1.kad, str v.1.kae, .slice p3.1 v.1.kaf.length p3.2, .slice p4.1 v.1.kac.length p4.2, .slice p5.1 v.1.kab.length p5.2]) (cs' := [.int .i64 t.1, .int .i64 v.1.kad, str v.1.kae, .slice p3.1 v.1.kaf.length p3.2, .slice p4.1 v.1.kac.length p4.2, .slice p5.1 v.1.kab.length p5.2]) Tryz.sizeOf81 rfl rfl rfl rfl rfl rfl rfl rfl rfl ?_
         refine Jf rfl rfl rfl (Jg (v := .int .i64 v.2) rfl) ?_
         refine Jd ?_
         try dsimp only [z1, z2, z3, z4, z5, z6, z7, z8]
         refine Jc ?_
         refine Ja ?_
         refine Jf rfl rfl rfl (Jk (v := .int .i64 v.2) rfl) ?_
         refine Jf rfl rfl rfl (Vk rfl rfl) ?_
         refine Jd ?_
         refine Jak (b := decide (v.2 ≠ 0)) rfl (fun hb1 => ?_) (fun hb1 => ?_)
         ·have HH := Xn hb1 G3
          refine Jc ?_
          refine Ja ?_
          refine Jf rfl rfl rfl (Jk (v := .int .i64 v.2) rfl) ?_
          refine Jf rfl rfl rfl (Jg (v := z0s) rfl) ?_
          refine Jf rfl rfl rfl (Jg (v := .int .i64 v.2) rfl) ?_
          refine Jd ?_
          refine Ji ?_
          obtain rfl := Option.some.inj HH
          refine Qc 0 1 rfl rfl (by decide) ?_
          try dsimp only [z1, z2, z3, z4, z5, z6, z7, z8]
          refine J1 0 rfl (⟨fun _ _ h => ⟨pl, h⟩⟩ : Imp _ (rtC pb lines a)) ?_
          try dsimp only [z1, z2, z3, z4, z5, z6, z7, z8]
          refine Jed ?_
          try dsimp only [z1, z2, z3, z4, z5, z6, z7, z8]
          refine J1 5 rfl (Jas (d := k + 1)) ?_
          try dsimp only [z1, z2, z3, z4, z5, z6, z7, z8]
          refine Qc 0 5 rfl rfl (by decide) ?_
          try dsimp only [z1, z2, z3, z4, z5, z6, z7, z8]
          exact Wh (v1 := z0s) (v2 := .int .i64 v.2) rfl rfl rfl (Yg ((none, 0) : Option Addr × Nat) (i := 0) rfl rfl (Imp.refl _))
         ·have G4 := Xg hb1 G3
          have hze : v.1.kab.isEmpty = true := by
           cases hz : v.1.kab.isEmpty with
           | true => rfl
           | false => rw [hz] at G4; cases (Xg rfl G4)
          have hve := List.isEmpty_iff.1 hze
          replace G4 := Xn hze G4
          refine Jh ?_
          refine J1 4 rfl (imp_rvR (d := k) (t := t.1) hve) ?_
          try dsimp only [z1, z2, z3, z4, z5, z6, z7, z8]
          refine Ze ((⟨t.1, v.1⟩ : Ta), a) (pl, .slice p3.1 v.1.kaf.length p3.2, .slice p4.1 v.1.kac.length p4.2, .slice p5.1 v.1.kab.length p5.2) 0 [0, 1, 2, 3, 4] (by exact ⟨rfl, rfl, rfl, rfl, rfl, trivial⟩) (by decide) (by kernel_rfl) (by exact ⟨G4, trivial⟩) (Nat.lt_succ_self _)
       ·rintro ⟨x, a0⟩ ⟨pl, u3, u4, u5⟩ gg3 H9 _
        replace H9 : (Js (Wz 104 l [x]) fun l' => Js (gI (a0 + 1)) fun a2 => it (Jad lines deep room (it (Y4 lines) k)) m (a2, l')) = some y := H9
        clear H8
        try dsimp only
        obtain ⟨l', h_l, H10⟩ := Je H9
        obtain ⟨a2, h_a2, H11⟩ := Je H10
        obtain ⟨rfl, hz1, hz2⟩ := Jch h_l
        clear H9 H10
        refine Uq (C := Uj fun h bs => TreeE (TreeL (k + 1)) h [.int .i64 x.Tag, .int .i64 x.Value.kad, str x.Value.kae, u3, u4, u5] x bs) (τ := Unit) (D := fun _ => Uj fun h bs => TreeE (TreeL (k + 1)) h [.int .i64 x.Tag, .int .i64 x.Value.kad, str x.Value.kae, u3, u4, u5] x bs) (φ := fun _ => u3.oneCell' = true ∧ u4.oneCell' = true ∧ u5.oneCell' = true) 4 rfl (fun S w h => ⟨(), Jjq h, h⟩) (fun _ hones => ?_)
        try dsimp only [z1, z2, z3, z4, z5, z6, z7, z8]
        have hone : (([[.int .i64 x.Tag, .int .i64 x.Value.kad, str x.Value.kae, u3, u4, u5]].map Vp).all fun x => x.all Value.oneCell') = true := by simp only [List.map, Vp, List.all, hones.1, hones.2.1, hones.2.2]; rfl
        refine Uq (τ := List (List Value)) (D := fun css => Qy (Jck (k + 1) css l) (J3 83 6 (.slice p.1 l.length p.2) css.length (css.map Vp))) (φ := fun css => css.length = l.length) 2 rfl (fun S w h => Jec h) (fun css hcss => ?_)
        try dsimp only [z1, z2, z3, z4, z5, z6, z7, z8]
        refine Xo 2 rfl ?_
        try dsimp only [z1, z2, z3, z4, z5, z6, z7, z8]
        refine J1 5 rfl (Imp.of (show J3 83 6 (.slice p.1 l.length p.2) css.length (css.map Vp) = J3 83 6 (.slice p.1 l.length p.2) l.length (css.map Vp) from by rw [hcss])) ?_
        try dsimp only [z1, z2, z3, z4, z5, z6, z7, z8]
        have hzc : (css ++ [[.int .i64 x.Tag, .int .i64 x.Value.kad, str x.Value.kae, u3, u4, u5]]).length * 104 ≤ 140737488355328 := by rw [List.length_append, hcss]; simpa using hz2
        refine Jc ?_
        refine Ja ?_
        refine Jf rfl rfl rfl (Jk (v := .slice p.1 l.length p.2) rfl) ?_
        refine Q0 (i := 3) (vs := [.int .i64 x.Tag, .int .i64 x.Value.kad, str x.Value.kae, u3, u4, u5]) Tryz.isAgg83 Tryz.sizeOf83 rfl rfl rfl rfl rfl ?_
        refine Q9 (vs := [.agg (List.toArray [.int .i64 x.Tag, .int .i64 x.Value.kad, str x.Value.kae, u3, u4, u5])]) (cs := [.int .i64 x.Tag, .int .i64 x.Value.kad, str x.Value.kae, u3, u4, u5]) Tryz.underlying41 Tryz.sizeOf83 Tryz.zeroValue83 rfl rfl rfl rfl rfl rfl rfl (fun b7 => ?_)
        refine Q1 (Ud (f := Vp) (ys := css) (ls := [[.int .i64 x.Tag, .int .i64 x.Value.kad, str x.Value.kae, u3, u4, u5]]) (cs := [.int .i64 x.Tag, .int .i64 x.Value.kad, str x.Value.kae, u3, u4, u5]) (i := 5) (p := p) (k := 6) (b := b7) Tryz.underlying41 (Xv Tryz.typeInfo83) rfl rfl rfl rfl rfl rfl rfl hcss.symm rfl rfl rfl rfl rfl rfl hone hzc rfl) rfl rfl rfl (fun p6 => ?_)
        refine Jf rfl rfl rfl (Jg (v := .slice p6.1 (css ++ [[.int .i64 x.Tag, .int .i64 x.Value.kad, str x.Value.kae, u3, u4, u5]]).length p6.2) rfl) ?_
        refine Jd ?_
        try dsimp only [z1, z2, z3, z4, z5, z6, z7, z8]
        refine Ja ?_
        refine Jf rfl rfl rfl (Jk (v := pz pb) rfl) ?_
        refine Jf rfl rfl rfl (Jm rfl) ?_
        refine Jf rfl rfl rfl (Jr Tryz.runUnderlying65 rfl Tryz.sizeOf3 rfl rfl) ?_
        refine Y7 (i := 0) (v := .int .i64 a0) Tryz.isAgg3 rfl rfl rfl rfl rfl ?_
        refine Jf rfl rfl rfl (J8 rfl rfl h_a2) ?_
        refine Jf rfl rfl rfl (Jm rfl) ?_
        refine Jf rfl rfl rfl (Jr Tryz.runUnderlying65 rfl Tryz.sizeOf3 rfl rfl) ?_
        refine Qu (i := 0) (vs := [.int .i64 a2]) (cs' := [(.slice pl.1 lines.length pl.2), .int .i64 a2]) Tryz.sizeOf3 rfl rfl rfl rfl rfl rfl rfl rfl rfl ?_
        refine Jd ?_
        try dsimp only [z1, z2, z3, z4, z5, z6, z7, z8]
        refine Qc 2 4 rfl rfl (by decide) ?_
        try dsimp only [z1, z2, z3, z4, z5, z6, z7, z8]
        refine J1 2 rfl Jde ?_
        try dsimp only [z1, z2, z3, z4, z5, z6, z7, z8]
        refine Qc 2 5 rfl rfl (by decide) ?_
        try dsimp only [z1, z2, z3, z4, z5, z6, z7, z8]
        refine J1 2 rfl Jce ?_
        try dsimp only [z1, z2, z3, z4, z5, z6, z7, z8]
        have hlen : (css ++ [[.int .i64 x.Tag, .int .i64 x.Value.kad, str x.Value.kae, u3, u4, u5]]).length = (l ++ [x]).length := by rw [List.length_append, List.length_append, hcss]; rfl
        refine J1 2 rfl (Imp.of (show Yw (k + 1 + 1) (.slice p6.1 (css ++ [[.int .i64 x.Tag, .int .i64 x.Value.kad, str x.Value.kae, u3, u4, u5]]).length p6.2) (l ++ [x]) = Yw (k + 1 + 1) (.slice p6.1 (l ++ [x]).length p6.2) (l ++ [x]) from by rw [hlen])) ?_
        try dsimp only [z1, z2, z3, z4, z5, z6, z7, z8]
        refine Ze (a2, l ++ [x]) (p6, pl) m [0, 1, 2] (by exact ⟨rfl, rfl, by rw [← hlen]; rfl, rfl, trivial⟩) (by decide) (by kernel_rfl) (by exact ⟨H11, trivial⟩) (Nat.lt_succ_self _)
  ·have HH := Xg hb H
   clear H
   refine Qp ?_
   refine Jc ?_
   refine Ja ?_
   refine Jf rfl rfl rfl (Jk (v := .slice p.1 l.length p.2) rfl) ?_
   refine Jf rfl rfl rfl (Jg (v := .slice p.1 l.length p.2) rfl) ?_
   refine Jf rfl rfl rfl (Jg (v := .int .i64 0) rfl) ?_
   refine Jd ?_
   refine Ji ?_
   obtain rfl := Option.some.inj HH
   refine Qc 0 1 rfl rfl (by decide) ?_
   try dsimp only [z1, z2, z3, z4, z5, z6, z7, z8]
   refine J1 0 rfl (⟨fun _ _ h => ⟨pl, h⟩⟩ : Imp _ (rtC pb lines a)) ?_
   try dsimp only [z1, z2, z3, z4, z5, z6, z7, z8]
   refine Qc 0 2 rfl rfl (by decide) ?_
   try dsimp only [z1, z2, z3, z4, z5, z6, z7, z8]
   exact Wh (v1 := .slice p.1 l.length p.2) (v2 := .int .i64 0) rfl rfl rfl (Yg p (i := 0) rfl rfl (Imp.refl _))
end Go.Proofs.YtkbiccgjkiifpaaGreatDoor
