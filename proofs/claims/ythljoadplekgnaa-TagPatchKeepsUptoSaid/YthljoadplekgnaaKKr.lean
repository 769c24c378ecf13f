/- TagPatchKeeps, read: the walks, printed by our generator; each follows its model. Conditions: the model yields a value. -/
import Derived.Test.YthljoadplekgnaaKKa
import Derived.Test.YthljoadplekgnaaLx3
namespace Go.Proofs.Ythljoadplekgnaa
open Go Go.Vc Go.Md Go.M Go.Lx Try
set_option maxRecDepth 100000
set_option maxHeartbeats 4000000
theorem k38 {a0 : (List UInt8)} {r : Bool} (H : Jcd a0 = some r) : Ret prog 38 [str a0] (.bool r) := by
 refine Vz (n := 14) func38 rfl rfl rfl (fun wd => ?_)
 refine Jc<|Ja<|ag (.bool false)<|Jd<|Jc<|Jc<|Ja<|mv (str a0)<|lv (Ww Try.underlying9 rfl)<|lv (Ym rfl rfl)<|Jd<|?_
 revert H
 refine ci (decide ((a0.length : Int) < 8)) rfl (fun hb H7=>?_) fun hb H8=>?_
 ·refine Jc<|Ja<|ag (.bool false)<|Jd<|Jr<|?_
  obtain rfl := sj H7
  exact r1 (.bool false)
 ·refine Jp<|Jc<|Ja<|mv (str a0)<|?_
  obtain ⟨t7, h_t7, H9⟩ := Je H8; clear H8
  refine lv (Jgk Try.underlying9 rfl rfl h_t7)<|lv (Jhe rfl rfl)<|mv (.bool (decide (t7 = [73, 73, 42, 0])))<|?_
  revert H9
  refine sp (fun hb H10=>?_) fun hb H11=>?_
  ·refine pa<|pa<|pa<|pT (.bool true)<|ag (.bool true)<|Jd<|Jr<|?_
   obtain rfl := sj H10
   exact r1 (.bool true)
  ·refine mv (str a0) ?_
   obtain ⟨t11, h_t11, H12⟩ := Je H11; clear H11
   refine lv (Jgk Try.underlying9 rfl rfl h_t11)<|lv (Jhe rfl rfl)<|pF (.bool (decide (t11 = [77, 77, 0, 42])))<|ag (.bool (decide (t11 = [77, 77, 0, 42])))<|Jd<|Jr<|?_
   obtain rfl := sj H12
   exact r1 (.bool (decide (t11 = [77, 77, 0, 42])))
theorem k41_42 {a0 : (List Tc)} {p0 : AN} {n0 : Nat} {r : (List Tc)} {w : World} {h : Jt} {S : Nat → Prop} (hcs : (J3 94 2 (sl p0 n0) n0 (a0.map Jk)).P S w) (hlt : ∀ b, S b → b < w.heap.size) (_ : Know h w S) (hn0 : n0 = a0.length) (H : Jcy a0 J8 = some r) : Does prog 41 (List.toArray [sl p0 n0, .func (.func 42) #[] #[]]) w (fun v w' => ∃ x : Unit, v = (.tuple #[]) ∧ Turn w w' S (J3 94 2 (sl p0 n0) n0 (r.map Jk))) :=
  sort_func (ρ := Go.Proofs.Try.sortFP_ren) Go.Proofs.Try.sortFP (k := 2) (fun w => isAgg94 w) (fun w => sizeOf94 w) Jk (fun _ => rfl) (fun x v hv => by simp [Jk] at hv; rcases hv with rfl | rfl <;> rfl) Go.Proofs.Try.entersP (fun x y v W hv => Go.Proofs.Try.cmpP x y v W hv) hcs hlt hn0 H
theorem k43 {a0 : (List Tc)} {v0 : Value} {r : Bool} {w : World} {h : Jt} (hw : Know h w Z2) (f0 : FrS h 2 v0 (a0.map Jk)) (H : Uz a0 = some r) : Does prog 43 (List.toArray [v0]) w (fun v w' => v = (.bool r) ∧ Grow w w') := by
 refine enter (n := 22) func43 rfl rfl rfl Z2 [] (Sat.nil _ _)<|Jc<|Ja<|ag (.bool false)<|Jd<|Jc<|Jc<|Ja<|ag (i6 1)<|Jd<|J0<|?_
 refine Zz (σ := Int) (τ := Unit) (fun next1 s => Z3 a0 next1 s) (fun s t => [(0, v0), (3, i6 s)]) (fun s t => []) (fun s t => True) 1 () [] H (by exact trivial) (by exact ⟨rfl, rfl, trivial⟩) (by decide) rfl ?_
 rintro x3_2 _ m1 gg H10 _
 clear H
 try dsimp only at H10
 generalize hn1 : it (fun next1 s => Z3 a0 next1 s) m1 = next1 at H10
 try dsimp only
 refine Jc<|Jc<|Ja<|mv (i6 x3_2)<|mv v0<|lv (Va Try.underlying49 rfl f0 rfl)<|lv (Ym rfl rfl)<|Jd<|?_
 revert H10
 refine ci (decide (x3_2 < (a0.length : Int))) rfl (fun hb H11=>?_) fun hb H18=>?_
 ·refine Jp<|Jc<|J0<|Jc<|?_
  exact Qc (Kd.p :: Kd.p :: Kd.p :: Kd.p :: Kd.d [] _ :: Kd.p :: Kd.p :: Kd.p :: Kd.p :: Kd.p :: Kd.d [] _ :: Kd.p :: []) 0 mixed (by
   refine dm v0<|dm (i6 x3_2)<|?_
   have h_t12 := Jx H11
   have H12 := Jq H11
   refine dv (Q2 Try.underlying49 sizeOf94 rfl rfl f0 h_t12)<|dv (Wt Try.runUnderlying94 rfl Try.sizeOf3 rfl rfl (Z9 f0 h_t12))<|Ze (fun w hF => Qt (f := Jk) (i := x3_2) (sz := 2) (j := 0) (v := i6 (val (Q9 a0 x3_2)).From) Try.isAgg3 rfl rfl (f0.row (hw.now hF)) h_t12 rfl) rfl rfl<|dm v0<|dm (i6 x3_2)<|?_
   have h_t17 := Jx H12
   have H13 := Jq H12
   refine dv (Un rfl rfl h_t17) ?_
   have h_t18 := Jx H13
   have H14 := Jq H13
   refine dv (Q2 Try.underlying49 sizeOf94 rfl rfl f0 h_t18)<|dv (Wt Try.runUnderlying94 rfl Try.sizeOf3 rfl rfl (Z9 f0 h_t18))<|Ze (fun w hF => Qt (f := Jk) (i := (val (gI (x3_2 - 1)))) (sz := 2) (j := 1) (v := i6 (val (Q9 a0 (val (gI (x3_2 - 1))))).To) Try.isAgg3 rfl rfl (f0.row (hw.now hF)) h_t18 rfl) rfl rfl<|dv (Ym rfl rfl)<|X2<|?_
   revert H14
   refine ci (decide ((val (Q9 a0 x3_2)).From < (val (Q9 a0 (val (gI (x3_2 - 1))))).To)) rfl (fun hb H15=>?_) fun hb H16=>?_
   ·refine Jc<|Ja<|ag (.bool true)<|Jd<|Jr<|?_
    obtain rfl := sj H15
    exact r1 (.bool true)
   ·refine Jp<|Ja<|mv (i6 x3_2)<|?_
    obtain ⟨t9, h_t9, H17⟩ := Je H16; clear H16
    refine lv (J4 rfl rfl h_t9)<|ag (i6 t9)<|Jd<|?_
    exact cl t9 () m1 [] (by exact ⟨(by subst hn1; exact H17), trivial⟩)
   ) (by kernel_rfl)
 ·refine Xy<|Jc<|Ja<|ag (.bool false)<|Jd<|Jr<|?_
  obtain rfl := sj H18
  exact r1 (.bool false)
theorem k13 {a0 : (List UInt8)} {a1 : Nat} {r : Tg × (List Tc) × Int} {w : World} {h : Jt} (hw : Know h w Z2) (H : Wi a0 a1 = some r) : Does prog 13 (List.toArray [str a0, (X6 a1)]) w (fun v w' => ∃ x : AN × AN, v = (.tuple #[.agg #[.bool r.1.Big, .slice x.1.1 r.1.kal.length x.1.2], .slice x.2.1 r.2.1.length x.2.2, i6 r.2.2]) ∧ Turn w w' Z2 (Jv (Vw 24 1 gs_tag_Entry (.slice x.1.1 r.1.kal.length x.1.2) r.1.kal.length r.1.kal) (J3 94 2 (.slice x.2.1 r.2.1.length x.2.2) r.2.1.length (r.2.1.map Jk)))) := by
 refine enter (n := 113) func13 rfl rfl rfl Z2 [] (Sat.nil _ _)<|X7 Xo<|Jc<|Ja<|?_
 refine Xw (cs := [.bool false, z0s]) zeroValue33 rfl rfl rfl (fun b6 => ?_)
 refine ag (z0s)<|ag (i6 0)<|Jd<|Jc<|Jc<|Ja<|mv (str a0)<|lv (Ww Try.underlying9 rfl)<|lv (V6 rfl rfl)<|Jd<|?_
 revert H
 refine ci (decide (65000 < (a0.length : Int))) rfl (fun hb H30=>?_) fun hb H31=>?_
 ·refine Jc<|Ja<|lv (Xm (pl := #[(0, 1), (1, 1)]) (ps := []) (cells := #[.bool false, z0s]) zeroValue33 Try.runUnderlying33 (fun w => by kernel_rfl) rfl rfl)<|st (i := 1) [.bool false, z0s] [.bool false, z0s] Try.sizeOf33 rfl rfl<|ag (z0s)<|ag (i6 4)<|Jd<|Jr<|J5 24 1<|J5 94 2<|?_
  obtain rfl := sj H30
  refine bo 0 2 rfl rfl<|Xl 0 rfl (Zc (p := nn) rfl (AllC.nil (G := gs_tag_Entry) (h := Xo) (sz := 1)))<|bo 0 3 rfl rfl<|?_
  refine Jeh (i := 1) (vs := [.bool false, sl nn (([] : List (List Value)).length)]) (v2 := sl nn ([] : List Tc).length) (v3 := i6 4) Try.isAgg33 Try.sizeOf33 rfl rfl rfl rfl rfl rfl (Y9 (nn, nn) (i := 0) rfl (by first | rfl | rw [(show (([] : List (List Value)).length) = ([] : List (List Ta)).length from (AllC.nil (G := gs_tag_Entry) (h := Xo) (sz := 1)).len)]) (by first | exact Imp.refl _ | exact Imp.of (by rw [(show (([] : List (List Value)).length) = ([] : List (List Ta)).length from (AllC.nil (G := gs_tag_Entry) (h := Xo) (sz := 1)).len)] <;> rfl)))
 ·refine Jp<|Jc<|Jc<|Ja<|mv (str a0)<|?_
  obtain ⟨t17, h_t17, H32⟩ := Je H31; clear H31
  refine Vb (k38 h_t17) call38 rfl rfl rfl<|lv (Ja6 rfl)<|Jd<|?_
  revert H32
  refine ci (!t17) rfl (fun hb H33=>?_) fun hb H34=>?_
  ·refine Jc<|Ja<|lv (Xm (pl := #[(0, 1), (1, 1)]) (ps := []) (cells := #[.bool false, z0s]) zeroValue33 Try.runUnderlying33 (fun w => by kernel_rfl) rfl rfl)<|st (i := 1) [.bool false, z0s] [.bool false, z0s] Try.sizeOf33 rfl rfl<|ag (z0s)<|ag (i6 8)<|Jd<|Jr<|J5 24 1<|J5 94 2<|?_
   obtain rfl := sj H33
   refine bo 0 2 rfl rfl<|Xl 0 rfl (Zc (p := nn) rfl (AllC.nil (G := gs_tag_Entry) (h := Xo) (sz := 1)))<|bo 0 3 rfl rfl<|?_
   refine Jeh (i := 1) (vs := [.bool false, sl nn (([] : List (List Value)).length)]) (v2 := sl nn ([] : List Tc).length) (v3 := i6 8) Try.isAgg33 Try.sizeOf33 rfl rfl rfl rfl rfl rfl (Y9 (nn, nn) (i := 0) rfl (by first | rfl | rw [(show (([] : List (List Value)).length) = ([] : List (List Ta)).length from (AllC.nil (G := gs_tag_Entry) (h := Xo) (sz := 1)).len)]) (by first | exact Imp.refl _ | exact Imp.of (by rw [(show (([] : List (List Value)).length) = ([] : List (List Ta)).length from (AllC.nil (G := gs_tag_Entry) (h := Xo) (sz := 1)).len)] <;> rfl)))
  ·refine Jp<|Jc<|Ja<|mv (str a0)<|mv (str a0)<|?_
   obtain ⟨t22, h_t22, H35⟩ := Je H34; clear H34
   refine lv (Jcv Try.underlying9 rfl rfl h_t22)<|lv (Xe rfl rfl)<|?_
   refine Za (rds := []) (makes_map (fk := i6) (fv := Value.bool)) rfl rfl rfl (fun b7 => ?_)
   refine mv ((X6 a1))<|lv (Xm (pl := #[(0, 1), (1, 1), (2, 1), (3, 1), (4, 1), (5, 1), (6, 1)]) (ps := [(0, str a0), (1, .bool (decide (t22 = 77))), (3, .map (some b7)), (5, (X6 a1))]) (cells := #[str a0, .bool (decide (t22 = 77)), z0s, .map (some b7), i6 0, (X6 a1), i6 0]) zeroValue88 Try.runUnderlying88 (fun w => by kernel_rfl) rfl (by generalize (a1 : Nat) = fz0_; rcases fz0_ with _ | _ <;> rfl))<|?_
   refine We (cs := [str a0, .bool (decide (t22 = 77)), z0s, .map (some b7), i6 0, (X6 a1), i6 0]) rfl rfl rfl rfl (fun b8 => ?_)
   refine ag (pz b8)<|Jd<|Jc<|?_
   try dsimp only [z1,z2,z5,z6,z7,z8]
   refine Ja<|mv (pz b8)<|lv (Ji rfl)<|lf Try.runUnderlying88 rfl Try.sizeOf4 rfl<|ll 3 (.bool (decide (t22 = 77))) isAgg4<|lv (Xm (pl := #[(0, 1), (1, 1)]) (ps := [(0, .bool (decide (t22 = 77)))]) (cells := #[.bool (decide (t22 = 77)), z0s]) zeroValue33 Try.runUnderlying33 (fun w => by kernel_rfl) rfl rfl)<|?_
   refine Xw (cs := [.bool false, z0s]) zeroValue33 rfl rfl rfl (fun b9 => ?_)
   refine st (i := 4) [.bool (decide (t22 = 77)), z0s] [.bool (decide (t22 = 77)), z0s] Try.sizeOf33 rfl rfl<|Jd<|?_
   refine Qx (r := r) (σ := (List UInt8) × Bool × Int × Nat × Int × (List Tc) × (List (List Ta)) × (List (Int × Bool))) (τ := AN × AN × Nat) (fun s => Yx t22 s.1 s.2.1 s.2.2.1 s.2.2.2.1 s.2.2.2.2.1 s.2.2.2.2.2.1 s.2.2.2.2.2.2.1 s.2.2.2.2.2.2.2) (fun s t => [(4, pz b6), (7, pz b8), (8, pz b9)]) (fun s t => [Q3 Xo Xo, Jf b6 [.bool false, z0s] 33, X8 i6 Value.bool t.2.2 s.2.2.2.2.2.2.2, Jf b8 [str s.1, .bool s.2.1, .slice t.1.1 s.2.2.2.2.2.1.length t.1.2, .map (some t.2.2), i6 s.2.2.1, (X6 s.2.2.2.1), i6 s.2.2.2.2.1] 88, Jf b9 [.bool (decide (t22 = 77)), .slice t.2.1.1 s.2.2.2.2.2.2.1.length t.2.1.2] 33, J3 94 2 (.slice t.1.1 s.2.2.2.2.2.1.length t.1.2) s.2.2.2.2.2.1.length (s.2.2.2.2.2.1.map Jk), Vw 24 1 gs_tag_Entry (.slice t.2.1.1 s.2.2.2.2.2.2.1.length t.2.1.2) s.2.2.2.2.2.2.1.length s.2.2.2.2.2.2.1]) (fun s t => True) ?_ ?_
   ·refine Jc<|Ja<|mv (pz b8)<|?_
    obtain ⟨t34, h_t34, H50⟩ := Je H35; clear H35
    refine Qg (fun w hF hS => k39 (a0 := (⟨a0, (decide (t22 = 77)), ([] : (List Tc)), ([] : (List (Int × Bool))), 0, a1, 0⟩ : Tb)) (Jm w) (FrS.nil _ _) (Ye (fk := i6) (fv := Value.bool) (i := 2) hS rfl) (Qp (i := 3) hS rfl) h_t34) Try.call39 rfl rfl rfl<|ag (i6 t34)<|Jd<|J0<|J5 94 2<|J5 24 1<|X7 Xo<|?_
    try dsimp only [z1,z2,z5,z6,z7,z8]
    refine bo 7 6 rfl rfl ?_
    try dsimp only [z1,z2,z5,z6,z7,z8]
    refine Xl 7 rfl (U1 (css := []) (xs := ([] : List (List Ta))) (p := nn) rfl (AllC.nil (G := gs_tag_Entry) (h := Xo) (sz := 1))) ?_
    refine Zz (σ := Int × (List UInt8) × Bool × Int × Nat × Int × (List Tc) × (List (List Ta)) × (List (Int × Bool))) (τ := AN × AN × Nat) (fun next4 s => Wz t22 next4 s.1 s.2.1 s.2.2.1 s.2.2.2.1 s.2.2.2.2.1 s.2.2.2.2.2.1 s.2.2.2.2.2.2.1 s.2.2.2.2.2.2.2.1 s.2.2.2.2.2.2.2.2) (fun s t => [(4, pz b6), (7, pz b8), (8, pz b9), (9, i6 s.1)]) (fun s t => [Q3 Xo Xo, Jf b6 [.bool false, z0s] 33, X8 i6 Value.bool t.2.2 s.2.2.2.2.2.2.2.2, Jf b8 [str s.2.1, .bool s.2.2.1, .slice t.1.1 s.2.2.2.2.2.2.1.length t.1.2, .map (some t.2.2), i6 s.2.2.2.1, (X6 s.2.2.2.2.1), i6 s.2.2.2.2.2.1] 88, Jf b9 [.bool (decide (t22 = 77)), .slice t.2.1.1 s.2.2.2.2.2.2.2.1.length t.2.1.2] 33, J3 94 2 (.slice t.1.1 s.2.2.2.2.2.2.1.length t.1.2) s.2.2.2.2.2.2.1.length (s.2.2.2.2.2.2.1.map Jk), Vw 24 1 gs_tag_Entry (.slice t.2.1.1 s.2.2.2.2.2.2.2.1.length t.2.1.2) s.2.2.2.2.2.2.2.1.length s.2.2.2.2.2.2.2.1]) (fun s t => True) (t34, a0, (decide (t22 = 77)), 0, a1, 0, ([] : List Tc), ([] : List (List Ta)), ([] : (List (Int × Bool)))) (nn, nn, b7) [0, 1, 2, 3, 4, 5, 7] H50 (by exact trivial) (by exact ⟨rfl, rfl, rfl, rfl, trivial⟩) (by decide) rfl ?_
    rintro ⟨x9_2, m_13, m_14, m_15, m_16, m_17, l_5, l_6, mp_3⟩ ⟨p_3, p_4, b_2⟩ m4 gg H51 _
    clear H50
    try dsimp only at H51
    generalize hn4 : it (fun next4 s => Wz t22 next4 s.1 s.2.1 s.2.2.1 s.2.2.2.1 s.2.2.2.2.1 s.2.2.2.2.2.1 s.2.2.2.2.2.2.1 s.2.2.2.2.2.2.2.1 s.2.2.2.2.2.2.2.2) m4 = next4 at H51
    try dsimp only
    refine Jc<|Jc<|?_
    try dsimp only [z1,z2,z5,z6,z7,z8]
    refine Ja<|mv (i6 x9_2)<|lv (Yn rfl rfl)<|mv (.bool (decide (x9_2 ≠ 0)))<|?_
    revert H51
    refine sp (fun hb H52=>?_) fun hb H58=>?_
    ·refine mv (pz b8)<|lv (Ji rfl)<|lf Try.runUnderlying88 rfl Try.sizeOf28 rfl<|ll 3 (i6 m_17) Try.isAgg28<|lv (Xe rfl rfl)<|pT (.bool (decide (m_17 = 0)))<|Jd<|?_
     revert H52
     refine ci (decide (m_17 = 0)) rfl (fun hb H53=>?_) fun hb H57=>?_
     ·refine Jp<|J0<|Jc<|Ja<|mv (pz b8)<|lv (Ji rfl)<|lf Try.runUnderlying88 rfl Try.sizeOf3 rfl<|ll 3 (i6 m_15) Try.isAgg3<|?_
      obtain ⟨t48, h_t48, H54⟩ := Je H53; clear H53
      refine lv (J4 rfl rfl h_t48)<|lv (Ji rfl)<|lf Try.runUnderlying88 rfl Try.sizeOf3 rfl<|st (i := 3) [i6 t48] [str m_13, .bool m_14, sl p_3 l_5.length, .map (some b_2), i6 t48, (X6 m_16), i6 m_17] Try.sizeOf3 rfl rfl<|Jd<|Jc<|Ja<|mv (pz b8)<|mv (i6 x9_2)<|lf Try.runUnderlying33 rfl Try.sizeOf31 rfl<|ll 4 (sl p_4 l_6.length) isAgg31<|lv (Ur Try.underlying31 rfl)<|?_
      refine Qw (vs := [i6 (l_6.length : Int)]) (cs := [i6 (l_6.length : Int)]) Try.underlying22 Try.sizeOf3 zeroValue3 rfl rfl rfl rfl rfl rfl rfl (fun b10 => ?_)
      obtain ⟨t58, h_t58, H55⟩ := Je H54; clear H54
      refine bo 5 2 rfl rfl<|bo 3 5 rfl rfl<|?_
      refine Qf (Jw (i := 3) (rds := [7]) rfl (fun w L' S hF hS hi hp hlt ho hA => k40 (a0 := (⟨m_13, m_14, l_5, mp_3, t48, m_16, m_17⟩ : Tb)) hp hlt (Qb w S) rfl (frb_box (j := 7) (xs := ([(l_6.length : Int)] : List Int)) (f := Qa) hA hS (by decide) ((hi 7 (by simp)).trans rfl) rfl rfl rfl rfl) h_t58) call40 rfl) rfl rfl rfl (fun ⟨p_5, p_6, p_7⟩ => ?_)
      refine ub 3 5 rfl rfl<|ub 5 2 rfl rfl<|Qj 2 rfl<|mv (.tuple #[sl p_5 t58.1.length, i6 t58.2.1])<|lv (J7 (v := sl p_5 t58.1.length) rfl rfl)<|lv (J7 (v := i6 t58.2.1) rfl rfl)<|ag (sl p_5 t58.1.length)<|ag (i6 t58.2.1)<|Jd<|Jc<|?_
      refine Jbt 6 rfl (fun hp css hn pf => ?_)
      rw [hn]
      try dsimp only [z1,z2,z5,z6,z7,z8]
      refine Qj 6 rfl ?_
      try dsimp only [z1,z2,z5,z6,z7,z8]
      refine Yi 0 6 rfl rfl (by decide) (fun _ _ => Xb) (fun hp_2 hle hle_2 => ?_)
      try dsimp only [z1,z2,z5,z6,z7,z8]
      refine Ja<|lf Try.runUnderlying33 rfl Try.sizeOf31 rfl<|ll 4 (sl p_4 css.length) isAgg31<|mv (sl p_5 t58.1.length)<|?_
      refine Qw (vs := [sl p_5 t58.1.length]) (cs := [sl p_5 t58.1.length]) Try.underlying31 Try.sizeOf24 zeroValue24 rfl rfl rfl rfl rfl rfl rfl (fun b11 => ?_)
      refine Jbt 8 rfl (fun hp_3 css_2 hn_2 pf_2 => ?_)
      rw [hn_2]
      try dsimp only [z1,z2,z5,z6,z7,z8]
      refine Qj 8 rfl ?_
      try dsimp only [z1,z2,z5,z6,z7,z8]
      refine Yi 0 8 rfl rfl (by decide) (fun _ _ => Xb) (fun hp_4 hle_3 hle_4 => ?_)
      try dsimp only [z1,z2,z5,z6,z7,z8]
      refine Ua (Φ := fun H_ => FrS H_ 6 (sl p_5 css_2.length) (css_2.map idC)) 0 11 rfl rfl (by decide) (fun _ _ => Xb) (Jdl _) (fun hp_5 hle_5 hf => ?_)
      obtain ⟨l65, h_l65, H56⟩ := Je H55; clear H55
      refine Qf (Jad (i := 9) (k := 10) (p := p_4) (f := idC) (ys := css) (ls := [[sl p_5 css_2.length]]) Try.underlying31 (Qu typeInfo24) rfl rfl rfl rfl rfl rfl rfl rfl rfl rfl rfl rfl rfl rfl (by simp only [idC, List.map_cons, List.map_nil, List.all_cons, List.all_nil, (Wu (xs := t58.1) hf ((pf_2.mono hle_4).mono hle_5)).one] <;> rfl) (app63 ((((pf.mono hle_2).mono hle_3).mono hle_5).app h_l65 (nc := [[sl p_5 css_2.length]]) rfl)) rfl) rfl rfl rfl (fun p_8 => ?_)
      have pf_3 : AllC gs_tag_Entry hp_5 1 (css ++ [[Value.slice p_5.1 css_2.length p_5.2]]) l65 := AllC.snocG (((pf.mono hle_2).mono hle_3).mono hle_5) h_l65 rfl ((Wu (xs := t58.1) hf ((pf_2.mono hle_4).mono hle_5)))
      refine lf Try.runUnderlying33 rfl Try.sizeOf31 rfl<|st (i := 4) [sl p_8 ((css ++ [[Value.slice p_5.1 css_2.length p_5.2]]).length)] [.bool (decide (t22 = 77)), sl p_8 ((css ++ [[Value.slice p_5.1 css_2.length p_5.2]]).length)] Try.sizeOf31 rfl rfl<|Jd<|?_
      try dsimp only [z1,z2,z5,z6,z7,z8]
      refine bo 0 9 rfl rfl ?_
      try dsimp only [z1,z2,z5,z6,z7,z8]
      refine Xl 0 rfl (U1 (p := p_8) rfl pf_3) ?_
      (try rw [show ((css ++ [[Value.slice p_5.1 css_2.length p_5.2]]).length) = l65.length from pf_3.len])
      refine X7 Xo<|c_sel [12, 1, 2, 3, 4, 5, 6, 7, 8, 0, 10, 11] [Q3 Xo Xo, Jf b6 [.bool false, z0s] 33, X8 i6 Value.bool p_7 t58.2.2.kae, Jf b8 [str t58.2.2.s_, .bool t58.2.2.kab, sl p_6 t58.2.2.kaa.length, .map (some p_7), i6 t58.2.2.kad, (X6 t58.2.2.kac), i6 t58.2.2.no_] 88, Jf b9 [.bool (decide (t22 = 77)), sl p_8 l65.length] 33, J3 94 2 (sl p_6 t58.2.2.kaa.length) t58.2.2.kaa.length (t58.2.2.kaa.map Jk), _, Jf b10 [i6 (css.length : Int)] 3, _, Vw 24 1 gs_tag_Entry (sl p_8 l65.length) l65.length l65, Jf b11 [sl p_5 css_2.length] 24, _] rfl (by decide)<|?_
      try dsimp only [z1,z2,z5,z6,z7,z8]
      refine Ja<|mv (i6 t58.2.1)<|ag (i6 t58.2.1)<|Jd<|?_
      exact cl (t58.2.1, t58.2.2.s_, t58.2.2.kab, t58.2.2.kad, t58.2.2.kac, t58.2.2.no_, t58.2.2.kaa, l65, t58.2.2.kae) (p_6, p_8, p_7) m4 [0, 1, 2, 3, 4, 5, 9] (by exact ⟨(by subst hn4; exact H56), trivial⟩)
     ·refine Xy ?_
      exact cl (m_13, m_14, m_15, m_16, m_17, l_5, l_6, mp_3) (p_3, p_4, b_2) 0 [0, 1, 2, 3, 4, 5, 6] (by exact ⟨H57, trivial⟩)
    ·refine pa<|pa<|pa<|pa<|pa<|pF (.bool false)<|Jd<|Wr rfl<|Xy<|?_
     exact cl (m_13, m_14, m_15, m_16, m_17, l_5, l_6, mp_3) (p_3, p_4, b_2) 0 [0, 1, 2, 3, 4, 5, 6] (by exact ⟨H58, trivial⟩)
   ·rintro ⟨m, m_2, m_3, m_4, m_5, l, l_2, mp⟩ ⟨p, p_2, b⟩ gg H36 _
    try dsimp only at H36
    try dsimp only
    refine Jc<|Ja<|mv (pz b8)<|lv (Ji rfl)<|lf Try.runUnderlying88 rfl Try.sizeOf49 rfl<|ll 3 (sl p l.length) isAgg49<|?_
    obtain ⟨t72, h_t72, H37⟩ := Je H36; clear H36
    refine Qf (Jw (i := 5) (rds := []) (G := fun x : Unit => .tuple #[]) (C := fun x : Unit => J3 94 2 (sl p l.length) l.length (t72.map Jk)) rfl (fun w L' S hF hS hi hp hlt ho hA => k41_42 hp hlt (Qb w S) rfl h_t72) call41 rfl) rfl rfl rfl (fun _ => ?_)
    refine c_know (fun w hF hS => lenOf (i := 5) hS rfl) (fun hl_ => ?_)
    have hl : l.length = t72.length := by simpa using hl_.symm
    refine Jd ?_
    refine Qx (r := r) (σ := Int) (τ := Unit) (fun s => Yt t22 l_2 t72 s) (fun s t => [(4, pz b6), (7, pz b8), (8, pz b9)]) (fun s t => [Q3 Xo Xo, Jf b6 [.bool false, z0s] 33, X8 i6 Value.bool b mp, Jf b8 [str m, .bool m_2, sl p l.length, .map (some b), i6 m_3, (X6 m_4), i6 s] 88, Jf b9 [.bool (decide (t22 = 77)), sl p_2 l_2.length] 33, J3 94 2 (sl p l.length) l.length (t72.map Jk), Vw 24 1 gs_tag_Entry (sl p_2 l_2.length) l_2.length l_2]) (fun s t => True) ?_ ?_
    ·refine Jc<|Ja<|mv (pz b8)<|lv (Ji rfl)<|lf Try.runUnderlying88 rfl Try.sizeOf28 rfl<|ll 3 (i6 m_5) Try.isAgg28<|lv (Xe rfl rfl)<|mv (.bool (decide (m_5 = 0)))<|?_
     revert H37
     refine sp (fun hb H45=>?_) fun hb H49=>?_
     ·refine mv (pz b8)<|lv (Ji rfl)<|lf Try.runUnderlying88 rfl Try.sizeOf49 rfl<|ll 3 (sl p l.length) isAgg49<|?_
      obtain ⟨t83, h_t83, H46⟩ := Je H45; clear H45
      refine Qg (fun w hF hS => k43 (Jm w) (Xq (i := 5) hl hS rfl) h_t83) call43 rfl rfl rfl<|pT (.bool t83)<|Jd<|?_
      revert H46
      refine ci t83 rfl (fun hb H47=>?_) fun hb H48=>?_
      ·refine Ja<|mv (pz b8)<|lv (Ji rfl)<|lf Try.runUnderlying88 rfl Try.sizeOf28 rfl<|st (i := 3) [i6 6] [str m, .bool m_2, sl p l.length, .map (some b), i6 m_3, (X6 m_4), i6 6] Try.sizeOf28 rfl rfl<|Jd<|?_
       exact cl 6 () 0 [0, 1, 2, 3, 4, 5, 6] (by exact ⟨H47, trivial⟩)
      ·refine Jp ?_
       exact cl m_5 () 0 [0, 1, 2, 3, 4, 5, 6] (by exact ⟨H48, trivial⟩)
     ·refine pa<|pa<|pa<|pa<|pa<|pF (.bool false)<|Jd<|Wr rfl<|Jp<|?_
      exact cl m_5 () 0 [0, 1, 2, 3, 4, 5, 6] (by exact ⟨H49, trivial⟩)
    ·rintro m_6 _ gg H38 _
     try dsimp only at H38
     try dsimp only
     refine Qx (r := r) (σ := Int) (τ := Unit) (fun s => Y4 t22 l_2 t72 s) (fun s t => [(4, pz b6), (7, pz b8), (8, pz b9)]) (fun s t => [Q3 Xo Xo, Jf b6 [.bool false, z0s] 33, X8 i6 Value.bool b mp, Jf b8 [str m, .bool m_2, sl p l.length, .map (some b), i6 m_3, (X6 m_4), i6 s] 88, Jf b9 [.bool (decide (t22 = 77)), sl p_2 l_2.length] 33, J3 94 2 (sl p l.length) l.length (t72.map Jk), Vw 24 1 gs_tag_Entry (sl p_2 l_2.length) l_2.length l_2]) (fun s t => True) ?_ ?_
     ·refine Jc<|Ja<|mv (pz b8)<|lv (Ji rfl)<|lf Try.runUnderlying88 rfl Try.sizeOf28 rfl<|ll 3 (i6 m_6) Try.isAgg28<|lv (Xe rfl rfl)<|Jd<|?_
      revert H38
      refine ci (decide (m_6 = 0)) rfl (fun hb H42=>?_) fun hb H44=>?_
      ·refine Ja<|mv (pz b8)<|Q1 (i := 4) (vs := [.bool (decide (t22 = 77)), sl p_2 l_2.length]) Try.isAgg33 Try.sizeOf33 rfl rfl rfl rfl rfl<|?_
       obtain ⟨t95, h_t95, H43⟩ := Je H42; clear H42
       refine Qg (fun w hF hS => k24 (Jm w) (Jhz (i := 6) hS rfl) h_t95) call24 rfl rfl rfl<|lv (Ji rfl)<|lf Try.runUnderlying88 rfl Try.sizeOf28 rfl<|st (i := 3) [i6 t95] [str m, .bool m_2, sl p l.length, .map (some b), i6 m_3, (X6 m_4), i6 t95] Try.sizeOf28 rfl rfl<|Jd<|?_
       exact cl t95 () 0 [0, 1, 2, 3, 4, 5, 6] (by exact ⟨H43, trivial⟩)
      ·refine Jp ?_
       exact cl m_6 () 0 [0, 1, 2, 3, 4, 5, 6] (by exact ⟨H44, trivial⟩)
     ·rintro m_7 _ gg H39 _
      try dsimp only at H39
      try dsimp only
      refine Jc<|Jc<|Ja<|mv (pz b8)<|lv (Ji rfl)<|lf Try.runUnderlying88 rfl Try.sizeOf28 rfl<|ll 3 (i6 m_7) Try.isAgg28<|lv (Yn rfl rfl)<|Jd<|?_
      revert H39
      refine ci (decide (m_7 ≠ 0)) rfl (fun hb H40=>?_) fun hb H41=>?_
      ·refine Jc ?_
       exact Qc (Kd.p :: Kd.p :: Kd.p :: Kd.p :: Kd.d [3] _ :: Kd.sv 4 103 1 _ 33 :: Kd.p :: Kd.p :: []) 0 mixed (by
        refine dv (Xm (pl := #[(0, 1), (1, 1)]) (ps := []) (cells := #[.bool false, z0s]) zeroValue33 Try.runUnderlying33 (fun w => by kernel_rfl) rfl rfl)<|dm (pz b8)<|dv (Ji rfl)<|dv (Qd Try.runUnderlying88 rfl Try.sizeOf28 rfl rfl)<|dl (i6 m_7) Try.isAgg28<|Vx (i := 1) (vs := [.bool false, z0s]) (cs' := fun v_ => [(Jab v_ 0), (Jab v_ 1)]) Try.sizeOf33 rfl rfl rfl rfl rfl rfl rfl rfl rfl<|Qr rfl rfl (Jy (v := z0s) rfl)<|Qr rfl rfl (Jy (v := i6 m_7) rfl)<|X2<|Jr<|J5 24 1<|J5 94 2<|?_
        obtain rfl := sj H40
        refine bo 0 7 rfl rfl<|Xl 0 rfl (Zc (p := nn) rfl (AllC.nil (G := gs_tag_Entry) (h := Xo) (sz := 1)))<|bo 0 8 rfl rfl<|?_
        refine Jeh (i := 1) (vs := [.bool false, sl nn (([] : List (List Value)).length)]) (v2 := sl nn ([] : List Tc).length) (v3 := i6 m_7) Try.isAgg33 Try.sizeOf33 rfl rfl rfl rfl rfl rfl (Y9 (nn, nn) (i := 0) rfl (by first | rfl | rw [(show (([] : List (List Value)).length) = ([] : List (List Ta)).length from (AllC.nil (G := gs_tag_Entry) (h := Xo) (sz := 1)).len)]) (by first | exact Imp.refl _ | exact Imp.of (by rw [(show (([] : List (List Value)).length) = ([] : List (List Ta)).length from (AllC.nil (G := gs_tag_Entry) (h := Xo) (sz := 1)).len)] <;> rfl)))
        ) (by kernel_rfl)
      ·refine Jp<|Jc<|?_
       try dsimp only [z1,z2,z5,z6,z7,z8]
       exact Qc (Kd.d [4] _ :: Kd.p :: Kd.p :: Kd.p :: Kd.d [3] _ :: Kd.sv 4 108 1 _ 33 :: Kd.p :: Kd.p :: []) 0 mixed (by
        refine Jbh (i := 4) (vs := [.bool (decide (t22 = 77)), sl p_2 l_2.length]) Try.isAgg33 Try.sizeOf33 rfl rfl rfl rfl<|dm (pz b8)<|dv (Ji rfl)<|dv (Qd Try.runUnderlying88 rfl Try.sizeOf49 rfl rfl)<|dl (sl p l.length) isAgg49<|Vx (i := 1) (vs := [.bool (decide (t22 = 77)), sl p_2 l_2.length]) (cs' := fun v_ => [(Jab v_ 0), (Jab v_ 1)]) Try.sizeOf33 rfl rfl rfl rfl rfl rfl rfl rfl rfl<|Qr rfl rfl (Jy (v := sl p l.length) rfl)<|Qr rfl rfl (Jy (v := i6 0) rfl)<|X2<|Jr<|?_
        obtain rfl := sj H41
        refine bo 6 5 rfl rfl ?_
        refine Jeh (i := 1) (vs := [.bool (decide (t22 = 77)), sl p_2 l_2.length]) (v2 := sl p l.length) (v3 := i6 0) Try.isAgg33 Try.sizeOf33 rfl rfl rfl rfl rfl rfl (Y9 (p_2, p) (i := 6) rfl (by first | rfl | rw [(show l.length = t72.length from hl)]) (by first | exact Imp.refl _ | exact Imp.of (by rw [(show l.length = t72.length from hl)] <;> rfl)))
        ) (by kernel_rfl)
theorem k6 {a0 : (List UInt8)} {r : Tg × Int} {w : World} {h : Jt} (hw : Know h w Z2) (H : Jax a0 = some r) : Does prog 6 (List.toArray [str a0]) w (fun v w' => ∃ x : AN, v = (.tuple #[.agg #[.bool r.1.Big, sl x r.1.kal.length], i6 r.2]) ∧ Turn w w' Z2 (Vw 24 1 gs_tag_Entry (sl x r.1.kal.length) r.1.kal.length r.1.kal)) := by
 refine enter (n := 15) func6 rfl rfl rfl Z2 [] (Sat.nil _ _)<|X7 Xo<|Jc<|Ja<|?_
 refine Xw (cs := [.bool false, z0s]) zeroValue33 rfl rfl rfl (fun b2 => ?_)
 refine ag (i6 0)<|Jd<|Jc<|Ja<|mv (str a0)<|?_
 obtain ⟨t9, h_t9, H2⟩ := Je H; clear H
 refine Za (Qs (rds := []) (fun w L' hF hS hi => k13 (Jm w)  h_t9) call13 rfl) rfl rfl rfl (fun ⟨p, p_2⟩ => ?_)
 refine Qj 2 rfl ?_
 refine Jbt 2 rfl (fun hp css hn pf => ?_)
 rw [hn]
 refine Qj 2 rfl ?_
 refine Yi 0 2 rfl rfl (by decide) (fun _ _ => Xb) (fun hp_2 hle hle_2 => ?_)
 refine mv (.tuple #[.agg #[.bool t9.1.Big, sl p css.length], sl p_2 t9.2.1.length, i6 t9.2.2])<|lv (J7 (v := .agg #[.bool t9.1.Big, sl p css.length]) rfl rfl)<|lv (J7 (v := sl p_2 t9.2.1.length) rfl rfl)<|lv (J7 (v := i6 t9.2.2) rfl rfl)<|?_
 refine Xw (cs := [.bool false, z0s]) zeroValue33 rfl rfl rfl (fun b3 => ?_)
 refine st (i := 5) [.bool t9.1.Big, sl p css.length] [.bool t9.1.Big, sl p css.length] Try.sizeOf33 rfl rfl<|ag (sl p_2 t9.2.1.length)<|ag (i6 t9.2.2)<|Jd<|?_
 try dsimp only [z1,z2,z5,z6,z7,z8]
 refine Jc<|Ja<|Q1 (i := 5) (vs := [.bool t9.1.Big, sl p css.length]) Try.isAgg33 Try.sizeOf33 rfl rfl rfl rfl rfl<|mv (i6 t9.2.2)<|st (i := 1) [.bool t9.1.Big, sl p css.length] [.bool t9.1.Big, sl p css.length] Try.sizeOf33 rfl rfl<|ag (i6 t9.2.2)<|Jd<|?_
 try dsimp only [z1,z2,z5,z6,z7,z8]
 refine Jr ?_
 obtain rfl := sj H2
 refine bo 0 4 rfl rfl<|Xl 0 rfl (Zc (p := p) rfl (pf.mono hle_2))<|?_
 refine retCt (i := 1) (vs := [.bool t9.1.Big, sl p css.length]) (v2 := i6 t9.2.2) Try.isAgg33 Try.sizeOf33 rfl rfl rfl rfl rfl (Y9 p (i := 0) rfl (by first | rfl | rw [(show css.length = t9.1.kal.length from hn.symm)]) (by first | exact Imp.refl _ | exact Imp.of (by rw [(show css.length = t9.1.kal.length from hn.symm)] <;> rfl)))
theorem k13c {q0 : (List Int)} {vq0 : Value} {c0 : Nat} {q1 : Int} {pbq1 : Nat} {a0 : (List UInt8)} {a1 : Nat} {r : Tg × (List Tc) × Int × Int} {w : World} {h : Jt} {S : Nat → Prop} (hcs : (Jf pbq1 [i6 q1] 3).P S w) (hlt : ∀ b, S b → b < w.heap.size) (hw : Know h w S) (fq0 : FrS h 1 vq0 (q0.map Qa)) (hc0 : h c0 = some (.cells (List.toArray [vq0]) 22 (0, 0))) (H : Jeu q0 q1 a0 a1 = some r) : Does prog 13 (List.toArray [str a0, .func (.func 14) #[] #[pz c0, pz pbq1]]) w (fun v w' => ∃ x : AN × AN, v = (.tuple #[.agg #[.bool r.1.Big, .slice x.1.1 r.1.kal.length x.1.2], .slice x.2.1 r.2.1.length x.2.2, i6 r.2.2.1]) ∧ Turn w w' S (Jv (Jf pbq1 [i6 r.2.2.2] 3) (Jv (Vw 24 1 gs_tag_Entry (.slice x.1.1 r.1.kal.length x.1.2) r.1.kal.length r.1.kal) (J3 94 2 (.slice x.2.1 r.2.1.length x.2.2) r.2.1.length (r.2.1.map Jk))))) := by
 refine enter (n := 113) func13 rfl rfl rfl S [Jf pbq1 [i6 q1] 3] (Sat.one hcs hlt)<|X7 Xo<|Jc<|Ja<|?_
 refine Xw (cs := [.bool false, z0s]) zeroValue33 rfl rfl rfl (fun b6 => ?_)
 refine ag (z0s)<|ag (i6 0)<|Jd<|Jc<|Jc<|Ja<|mv (str a0)<|lv (Ww Try.underlying9 rfl)<|lv (V6 rfl rfl)<|Jd<|?_
 revert H
 refine ci (decide (65000 < (a0.length : Int))) rfl (fun hb H30=>?_) fun hb H31=>?_
 ·refine Jc<|Ja<|lv (Xm (pl := #[(0, 1), (1, 1)]) (ps := []) (cells := #[.bool false, z0s]) zeroValue33 Try.runUnderlying33 (fun w => by kernel_rfl) rfl rfl)<|st (i := 2) [.bool false, z0s] [.bool false, z0s] Try.sizeOf33 rfl rfl<|ag (z0s)<|ag (i6 4)<|Jd<|Jr<|?_
  try dsimp only [z1, z2, z3, z4, z5, z6, z7, z8]
  refine J5 24 1<|J5 94 2<|?_
  obtain rfl := sj H30
  refine bo 1 3 rfl rfl<|Xl 1 rfl (Zc (p := nn) rfl (AllC.nil (G := gs_tag_Entry) (h := Xo) (sz := 1)))<|bo 1 4 rfl rfl<|bo 0 1 rfl rfl<|?_
  refine Jeh (i := 2) (vs := [.bool false, sl nn (([] : List (List Value)).length)]) (v2 := sl nn ([] : List Tc).length) (v3 := i6 4) Try.isAgg33 Try.sizeOf33 rfl rfl rfl rfl rfl rfl (Y9 (nn, nn) (i := 0) rfl (by first | rfl | rw [(show (([] : List (List Value)).length) = ([] : List (List Ta)).length from (AllC.nil (G := gs_tag_Entry) (h := Xo) (sz := 1)).len)]) (by first | exact Imp.refl _ | exact Imp.of (by rw [(show (([] : List (List Value)).length) = ([] : List (List Ta)).length from (AllC.nil (G := gs_tag_Entry) (h := Xo) (sz := 1)).len)] <;> rfl)))
 ·refine Jp<|Jc<|Jc<|?_
  try dsimp only [z1,z2,z5,z6,z7,z8]
  refine Ja<|mv (str a0)<|?_
  obtain ⟨t17, h_t17, H32⟩ := Je H31; clear H31
  refine Vb (k38 h_t17) call38 rfl rfl rfl<|lv (Ja6 rfl)<|Jd<|?_
  revert H32
  refine ci (!t17) rfl (fun hb H33=>?_) fun hb H34=>?_
  ·refine Jc<|Ja<|lv (Xm (pl := #[(0, 1), (1, 1)]) (ps := []) (cells := #[.bool false, z0s]) zeroValue33 Try.runUnderlying33 (fun w => by kernel_rfl) rfl rfl)<|st (i := 2) [.bool false, z0s] [.bool false, z0s] Try.sizeOf33 rfl rfl<|ag (z0s)<|ag (i6 8)<|Jd<|Jr<|?_
   try dsimp only [z1, z2, z3, z4, z5, z6, z7, z8]
   refine J5 24 1<|J5 94 2<|?_
   obtain rfl := sj H33
   refine bo 1 3 rfl rfl<|Xl 1 rfl (Zc (p := nn) rfl (AllC.nil (G := gs_tag_Entry) (h := Xo) (sz := 1)))<|bo 1 4 rfl rfl<|bo 0 1 rfl rfl<|?_
   refine Jeh (i := 2) (vs := [.bool false, sl nn (([] : List (List Value)).length)]) (v2 := sl nn ([] : List Tc).length) (v3 := i6 8) Try.isAgg33 Try.sizeOf33 rfl rfl rfl rfl rfl rfl (Y9 (nn, nn) (i := 0) rfl (by first | rfl | rw [(show (([] : List (List Value)).length) = ([] : List (List Ta)).length from (AllC.nil (G := gs_tag_Entry) (h := Xo) (sz := 1)).len)]) (by first | exact Imp.refl _ | exact Imp.of (by rw [(show (([] : List (List Value)).length) = ([] : List (List Ta)).length from (AllC.nil (G := gs_tag_Entry) (h := Xo) (sz := 1)).len)] <;> rfl)))
  ·refine Jp<|Jc<|?_
   try dsimp only [z1,z2,z5,z6,z7,z8]
   refine Ja<|mv (str a0)<|mv (str a0)<|?_
   obtain ⟨t22, h_t22, H35⟩ := Je H34; clear H34
   refine lv (Jcv Try.underlying9 rfl rfl h_t22)<|lv (Xe rfl rfl)<|?_
   refine Za (rds := []) (makes_map (fk := i6) (fv := Value.bool)) rfl rfl rfl (fun b7 => ?_)
   refine mv (.func (.func 14) #[] #[pz c0, pz pbq1])<|lv (Xm (pl := #[(0, 1), (1, 1), (2, 1), (3, 1), (4, 1), (5, 1), (6, 1)]) (ps := [(0, str a0), (1, .bool (decide (t22 = 77))), (3, .map (some b7)), (5, .func (.func 14) #[] #[pz c0, pz pbq1])]) (cells := #[str a0, .bool (decide (t22 = 77)), z0s, .map (some b7), i6 0, .func (.func 14) #[] #[pz c0, pz pbq1], i6 0]) zeroValue88 Try.runUnderlying88 (fun w => by kernel_rfl) rfl rfl)<|?_
   refine We (cs := [str a0, .bool (decide (t22 = 77)), z0s, .map (some b7), i6 0, .func (.func 14) #[] #[pz c0, pz pbq1], i6 0]) rfl rfl rfl rfl (fun b8 => ?_)
   refine ag (pz b8)<|Jd<|Jc<|Ja<|mv (pz b8)<|lv (Ji rfl)<|lf Try.runUnderlying88 rfl Try.sizeOf4 rfl<|ll 4 (.bool (decide (t22 = 77))) isAgg4<|lv (Xm (pl := #[(0, 1), (1, 1)]) (ps := [(0, .bool (decide (t22 = 77)))]) (cells := #[.bool (decide (t22 = 77)), z0s]) zeroValue33 Try.runUnderlying33 (fun w => by kernel_rfl) rfl rfl)<|?_
   refine Xw (cs := [.bool false, z0s]) zeroValue33 rfl rfl rfl (fun b9 => ?_)
   refine st (i := 5) [.bool (decide (t22 = 77)), z0s] [.bool (decide (t22 = 77)), z0s] Try.sizeOf33 rfl rfl<|Jd<|?_
   refine Qx (r := r) (σ := Int × (List UInt8) × Bool × Int × Nat × Int × (List Tc) × (List (List Ta)) × (List (Int × Bool))) (τ := AN × AN × Nat) (fun s => Ja0 t22 s.1 s.2.1 s.2.2.1 s.2.2.2.1 s.2.2.2.2.1 s.2.2.2.2.2.1 s.2.2.2.2.2.2.1 s.2.2.2.2.2.2.2.1 s.2.2.2.2.2.2.2.2) (fun s t => [(4, pz b6), (7, pz b8), (8, pz b9)]) (fun s t => [Jf pbq1 [i6 s.1] 3, Q3 Xo Xo, Jf b6 [.bool false, z0s] 33, X8 i6 Value.bool t.2.2 s.2.2.2.2.2.2.2.2, Jf b8 [str s.2.1, .bool s.2.2.1, .slice t.1.1 s.2.2.2.2.2.2.1.length t.1.2, .map (some t.2.2), i6 s.2.2.2.1, .func (.func 14) #[] #[pz c0, pz pbq1], i6 s.2.2.2.2.2.1] 88, Jf b9 [.bool (decide (t22 = 77)), .slice t.2.1.1 s.2.2.2.2.2.2.2.1.length t.2.1.2] 33, J3 94 2 (.slice t.1.1 s.2.2.2.2.2.2.1.length t.1.2) s.2.2.2.2.2.2.1.length (s.2.2.2.2.2.2.1.map Jk), Vw 24 1 gs_tag_Entry (.slice t.2.1.1 s.2.2.2.2.2.2.2.1.length t.2.1.2) s.2.2.2.2.2.2.2.1.length s.2.2.2.2.2.2.2.1]) (fun s t => True) ?_ ?_
   ·refine Jc<|Ja<|mv (pz b8)<|?_
    obtain ⟨t34, h_t34, H50⟩ := Je H35; clear H35
    refine Qg (fun w hF hS => k39c (a0 := (⟨a0, (decide (t22 = 77)), ([] : (List Tc)), ([] : (List (Int × Bool))), 0, a1, 0⟩ : Tb)) (Jm w) (FrS.nil _ _) (Ye (fk := i6) (fv := Value.bool) (i := 3) hS rfl) (Qp (i := 4) hS rfl) h_t34) Try.call39 rfl rfl rfl<|ag (i6 t34)<|Jd<|J0<|J5 94 2<|J5 24 1<|X7 Xo<|?_
    try dsimp only [z1,z2,z5,z6,z7,z8]
    refine bo 8 7 rfl rfl ?_
    try dsimp only [z1,z2,z5,z6,z7,z8]
    refine Xl 8 rfl (U1 (css := []) (xs := ([] : List (List Ta))) (p := nn) rfl (AllC.nil (G := gs_tag_Entry) (h := Xo) (sz := 1))) ?_
    refine Zz (σ := Int × Int × (List UInt8) × Bool × Int × Nat × Int × (List Tc) × (List (List Ta)) × (List (Int × Bool))) (τ := AN × AN × Nat) (fun next4 s => Wh q0 t22 next4 s.1 s.2.1 s.2.2.1 s.2.2.2.1 s.2.2.2.2.1 s.2.2.2.2.2.1 s.2.2.2.2.2.2.1 s.2.2.2.2.2.2.2.1 s.2.2.2.2.2.2.2.2.1 s.2.2.2.2.2.2.2.2.2) (fun s t => [(4, pz b6), (7, pz b8), (8, pz b9), (9, i6 s.1)]) (fun s t => [Jf pbq1 [i6 s.2.1] 3, Q3 Xo Xo, Jf b6 [.bool false, z0s] 33, X8 i6 Value.bool t.2.2 s.2.2.2.2.2.2.2.2.2, Jf b8 [str s.2.2.1, .bool s.2.2.2.1, .slice t.1.1 s.2.2.2.2.2.2.2.1.length t.1.2, .map (some t.2.2), i6 s.2.2.2.2.1, .func (.func 14) #[] #[pz c0, pz pbq1], i6 s.2.2.2.2.2.2.1] 88, Jf b9 [.bool (decide (t22 = 77)), .slice t.2.1.1 s.2.2.2.2.2.2.2.2.1.length t.2.1.2] 33, J3 94 2 (.slice t.1.1 s.2.2.2.2.2.2.2.1.length t.1.2) s.2.2.2.2.2.2.2.1.length (s.2.2.2.2.2.2.2.1.map Jk), Vw 24 1 gs_tag_Entry (.slice t.2.1.1 s.2.2.2.2.2.2.2.2.1.length t.2.1.2) s.2.2.2.2.2.2.2.2.1.length s.2.2.2.2.2.2.2.2.1]) (fun s t => True) (t34, q1, a0, (decide (t22 = 77)), 0, a1, 0, ([] : List Tc), ([] : List (List Ta)), ([] : (List (Int × Bool)))) (nn, nn, b7) [0, 1, 2, 3, 4, 5, 6, 8] H50 (by exact trivial) (by exact ⟨rfl, rfl, rfl, rfl, trivial⟩) (by decide) rfl ?_
    rintro ⟨x9_2, m_15, m_16, m_17, m_18, m_19, m_20, l_5, l_6, mp_3⟩ ⟨p_3, p_4, b_2⟩ m4 gg H51 _
    clear H50
    try dsimp only at H51
    generalize hn4 : it (fun next4 s => Wh q0 t22 next4 s.1 s.2.1 s.2.2.1 s.2.2.2.1 s.2.2.2.2.1 s.2.2.2.2.2.1 s.2.2.2.2.2.2.1 s.2.2.2.2.2.2.2.1 s.2.2.2.2.2.2.2.2.1 s.2.2.2.2.2.2.2.2.2) m4 = next4 at H51
    try dsimp only
    refine Jc<|Jc<|?_
    try dsimp only [z1,z2,z5,z6,z7,z8]
    refine Ja<|mv (i6 x9_2)<|lv (Yn rfl rfl)<|mv (.bool (decide (x9_2 ≠ 0)))<|?_
    revert H51
    refine sp (fun hb H52=>?_) fun hb H58=>?_
    ·refine mv (pz b8)<|lv (Ji rfl)<|lf Try.runUnderlying88 rfl Try.sizeOf28 rfl<|ll 4 (i6 m_20) Try.isAgg28<|lv (Xe rfl rfl)<|pT (.bool (decide (m_20 = 0)))<|Jd<|?_
     revert H52
     refine ci (decide (m_20 = 0)) rfl (fun hb H53=>?_) fun hb H57=>?_
     ·refine Jp<|J0<|Jc<|Ja<|mv (pz b8)<|lv (Ji rfl)<|lf Try.runUnderlying88 rfl Try.sizeOf3 rfl<|ll 4 (i6 m_18) Try.isAgg3<|?_
      obtain ⟨t48, h_t48, H54⟩ := Je H53; clear H53
      refine lv (J4 rfl rfl h_t48)<|lv (Ji rfl)<|lf Try.runUnderlying88 rfl Try.sizeOf3 rfl<|st (i := 4) [i6 t48] [str m_16, .bool m_17, sl p_3 l_5.length, .map (some b_2), i6 t48, .func (.func 14) #[] #[pz c0, pz pbq1], i6 m_20] Try.sizeOf3 rfl rfl<|Jd<|Jc<|Ja<|mv (pz b8)<|mv (i6 x9_2)<|lf Try.runUnderlying33 rfl Try.sizeOf31 rfl<|ll 5 (sl p_4 l_6.length) isAgg31<|lv (Ur Try.underlying31 rfl)<|?_
      refine Qw (vs := [i6 (l_6.length : Int)]) (cs := [i6 (l_6.length : Int)]) Try.underlying22 Try.sizeOf3 zeroValue3 rfl rfl rfl rfl rfl rfl rfl (fun b10 => ?_)
      obtain ⟨t58, h_t58, H55⟩ := Je H54; clear H54
      refine bo 6 3 rfl rfl<|bo 4 6 rfl rfl<|bo 0 4 rfl rfl<|?_
      refine Qf (Jw (i := 0) (rds := [8]) rfl (fun w L' S hF hS hi hp hlt ho hA => k40c (a0 := (⟨m_16, m_17, l_5, mp_3, t48, m_19, m_20⟩ : Tb)) hp hlt (Qb w S) (fq0.mono (hw.but hF ho)) (hw.but hF ho _ _ hc0) rfl (frb_box (j := 8) (xs := ([(l_6.length : Int)] : List Int)) (f := Qa) hA hS (by decide) ((hi 8 (by simp)).trans rfl) rfl rfl rfl rfl) h_t58) call40 rfl) rfl rfl rfl (fun ⟨p_5, p_6, p_7⟩ => ?_)
      refine ub 0 4 rfl rfl<|ub 4 6 rfl rfl<|ub 6 3 rfl rfl<|Qj 3 rfl<|mv (.tuple #[sl p_5 t58.1.length, i6 t58.2.1])<|lv (J7 (v := sl p_5 t58.1.length) rfl rfl)<|lv (J7 (v := i6 t58.2.1) rfl rfl)<|ag (sl p_5 t58.1.length)<|ag (i6 t58.2.1)<|Jd<|Jc<|?_
      refine Jbt 7 rfl (fun hp css hn pf => ?_)
      rw [hn]
      try dsimp only [z1,z2,z5,z6,z7,z8]
      refine Qj 7 rfl ?_
      try dsimp only [z1,z2,z5,z6,z7,z8]
      refine Yi 1 7 rfl rfl (by decide) (fun _ _ => Xb) (fun hp_2 hle hle_2 => ?_)
      try dsimp only [z1,z2,z5,z6,z7,z8]
      refine Ja<|lf Try.runUnderlying33 rfl Try.sizeOf31 rfl<|ll 5 (sl p_4 css.length) isAgg31<|mv (sl p_5 t58.1.length)<|?_
      refine Qw (vs := [sl p_5 t58.1.length]) (cs := [sl p_5 t58.1.length]) Try.underlying31 Try.sizeOf24 zeroValue24 rfl rfl rfl rfl rfl rfl rfl (fun b11 => ?_)
      refine Jbt 9 rfl (fun hp_3 css_2 hn_2 pf_2 => ?_)
      rw [hn_2]
      try dsimp only [z1,z2,z5,z6,z7,z8]
      refine Qj 9 rfl ?_
      try dsimp only [z1,z2,z5,z6,z7,z8]
      refine Yi 1 9 rfl rfl (by decide) (fun _ _ => Xb) (fun hp_4 hle_3 hle_4 => ?_)
      try dsimp only [z1,z2,z5,z6,z7,z8]
      refine Ua (Φ := fun H_ => FrS H_ 6 (sl p_5 css_2.length) (css_2.map idC)) 1 12 rfl rfl (by decide) (fun _ _ => Xb) (Jdl _) (fun hp_5 hle_5 hf => ?_)
      obtain ⟨l65, h_l65, H56⟩ := Je H55; clear H55
      refine Qf (Jad (i := 10) (k := 11) (p := p_4) (f := idC) (ys := css) (ls := [[sl p_5 css_2.length]]) Try.underlying31 (Qu typeInfo24) rfl rfl rfl rfl rfl rfl rfl rfl rfl rfl rfl rfl rfl rfl (by simp only [idC, List.map_cons, List.map_nil, List.all_cons, List.all_nil, (Wu (xs := t58.1) hf ((pf_2.mono hle_4).mono hle_5)).one] <;> rfl) (app63 ((((pf.mono hle_2).mono hle_3).mono hle_5).app h_l65 (nc := [[sl p_5 css_2.length]]) rfl)) rfl) rfl rfl rfl (fun p_8 => ?_)
      have pf_3 : AllC gs_tag_Entry hp_5 1 (css ++ [[Value.slice p_5.1 css_2.length p_5.2]]) l65 := AllC.snocG (((pf.mono hle_2).mono hle_3).mono hle_5) h_l65 rfl ((Wu (xs := t58.1) hf ((pf_2.mono hle_4).mono hle_5)))
      refine lf Try.runUnderlying33 rfl Try.sizeOf31 rfl<|st (i := 5) [sl p_8 ((css ++ [[Value.slice p_5.1 css_2.length p_5.2]]).length)] [.bool (decide (t22 = 77)), sl p_8 ((css ++ [[Value.slice p_5.1 css_2.length p_5.2]]).length)] Try.sizeOf31 rfl rfl<|Jd<|?_
      try dsimp only [z1,z2,z5,z6,z7,z8]
      refine bo 1 10 rfl rfl ?_
      try dsimp only [z1,z2,z5,z6,z7,z8]
      refine Xl 1 rfl (U1 (p := p_8) rfl pf_3) ?_
      (try rw [show ((css ++ [[Value.slice p_5.1 css_2.length p_5.2]]).length) = l65.length from pf_3.len])
      refine X7 Xo<|c_sel [0, 13, 2, 3, 4, 5, 6, 7, 8, 9, 1, 11, 12] [Jf pbq1 [i6 t58.2.2.1] 3, Q3 Xo Xo, Jf b6 [.bool false, z0s] 33, X8 i6 Value.bool p_7 t58.2.2.2.kae, Jf b8 [str t58.2.2.2.s_, .bool t58.2.2.2.kab, sl p_6 t58.2.2.2.kaa.length, .map (some p_7), i6 t58.2.2.2.kad, .func (.func 14) #[] #[pz c0, pz pbq1], i6 t58.2.2.2.no_] 88, Jf b9 [.bool (decide (t22 = 77)), sl p_8 l65.length] 33, J3 94 2 (sl p_6 t58.2.2.2.kaa.length) t58.2.2.2.kaa.length (t58.2.2.2.kaa.map Jk), _, Jf b10 [i6 (css.length : Int)] 3, _, Vw 24 1 gs_tag_Entry (sl p_8 l65.length) l65.length l65, Jf b11 [sl p_5 css_2.length] 24, _] rfl (by decide)<|?_
      try dsimp only [z1,z2,z5,z6,z7,z8]
      refine Ja<|mv (i6 t58.2.1)<|ag (i6 t58.2.1)<|Jd<|?_
      exact cl (t58.2.1, t58.2.2.1, t58.2.2.2.s_, t58.2.2.2.kab, t58.2.2.2.kad, t58.2.2.2.kac, t58.2.2.2.no_, t58.2.2.2.kaa, l65, t58.2.2.2.kae) (p_6, p_8, p_7) m4 [0, 1, 2, 3, 4, 5, 6, 10] (by exact ⟨(by subst hn4; exact H56), trivial⟩)
     ·refine Xy ?_
      exact cl (m_15, m_16, m_17, m_18, m_19, m_20, l_5, l_6, mp_3) (p_3, p_4, b_2) 0 [0, 1, 2, 3, 4, 5, 6, 7] (by exact ⟨H57, trivial⟩)
    ·refine pa<|pa<|pa<|pa<|pa<|pF (.bool false)<|Jd<|Wr rfl<|Xy<|?_
     exact cl (m_15, m_16, m_17, m_18, m_19, m_20, l_5, l_6, mp_3) (p_3, p_4, b_2) 0 [0, 1, 2, 3, 4, 5, 6, 7] (by exact ⟨H58, trivial⟩)
   ·rintro ⟨m, m_2, m_3, m_4, m_5, m_6, l, l_2, mp⟩ ⟨p, p_2, b⟩ gg H36 _
    try dsimp only at H36
    try dsimp only
    refine Jc<|Ja<|mv (pz b8)<|lv (Ji rfl)<|lf Try.runUnderlying88 rfl Try.sizeOf49 rfl<|ll 4 (sl p l.length) isAgg49<|?_
    obtain ⟨t72, h_t72, H37⟩ := Je H36; clear H36
    refine Qf (Jw (i := 6) (rds := []) (G := fun x : Unit => .tuple #[]) (C := fun x : Unit => J3 94 2 (sl p l.length) l.length (t72.map Jk)) rfl (fun w L' S hF hS hi hp hlt ho hA => k41_42 hp hlt (Qb w S) rfl h_t72) call41 rfl) rfl rfl rfl (fun _ => ?_)
    refine c_know (fun w hF hS => lenOf (i := 6) hS rfl) (fun hl_ => ?_)
    have hl : l.length = t72.length := by simpa using hl_.symm
    refine Jd ?_
    refine Qx (r := r) (σ := Int) (τ := Unit) (fun s => U7 t22 m l_2 t72 s) (fun s t => [(4, pz b6), (7, pz b8), (8, pz b9)]) (fun s t => [Jf pbq1 [i6 m] 3, Q3 Xo Xo, Jf b6 [.bool false, z0s] 33, X8 i6 Value.bool b mp, Jf b8 [str m_2, .bool m_3, sl p l.length, .map (some b), i6 m_4, .func (.func 14) #[] #[pz c0, pz pbq1], i6 s] 88, Jf b9 [.bool (decide (t22 = 77)), sl p_2 l_2.length] 33, J3 94 2 (sl p l.length) l.length (t72.map Jk), Vw 24 1 gs_tag_Entry (sl p_2 l_2.length) l_2.length l_2]) (fun s t => True) ?_ ?_
    ·refine Jc<|Ja<|mv (pz b8)<|lv (Ji rfl)<|lf Try.runUnderlying88 rfl Try.sizeOf28 rfl<|ll 4 (i6 m_6) Try.isAgg28<|lv (Xe rfl rfl)<|mv (.bool (decide (m_6 = 0)))<|?_
     revert H37
     refine sp (fun hb H45=>?_) fun hb H49=>?_
     ·refine mv (pz b8)<|lv (Ji rfl)<|lf Try.runUnderlying88 rfl Try.sizeOf49 rfl<|ll 4 (sl p l.length) isAgg49<|?_
      obtain ⟨t83, h_t83, H46⟩ := Je H45; clear H45
      refine Qg (fun w hF hS => k43 (Jm w) (Xq (i := 6) hl hS rfl) h_t83) call43 rfl rfl rfl<|pT (.bool t83)<|Jd<|?_
      revert H46
      refine ci t83 rfl (fun hb H47=>?_) fun hb H48=>?_
      ·refine Ja<|mv (pz b8)<|lv (Ji rfl)<|lf Try.runUnderlying88 rfl Try.sizeOf28 rfl<|st (i := 4) [i6 6] [str m_2, .bool m_3, sl p l.length, .map (some b), i6 m_4, .func (.func 14) #[] #[pz c0, pz pbq1], i6 6] Try.sizeOf28 rfl rfl<|Jd<|?_
       exact cl 6 () 0 [0, 1, 2, 3, 4, 5, 6, 7] (by exact ⟨H47, trivial⟩)
      ·refine Jp ?_
       exact cl m_6 () 0 [0, 1, 2, 3, 4, 5, 6, 7] (by exact ⟨H48, trivial⟩)
     ·refine pa<|pa<|pa<|pa<|pa<|pF (.bool false)<|Jd<|Wr rfl<|Jp<|?_
      exact cl m_6 () 0 [0, 1, 2, 3, 4, 5, 6, 7] (by exact ⟨H49, trivial⟩)
    ·rintro m_7 _ gg H38 _
     try dsimp only at H38
     try dsimp only
     refine Qx (r := r) (σ := Int) (τ := Unit) (fun s => Jay t22 m l_2 t72 s) (fun s t => [(4, pz b6), (7, pz b8), (8, pz b9)]) (fun s t => [Jf pbq1 [i6 m] 3, Q3 Xo Xo, Jf b6 [.bool false, z0s] 33, X8 i6 Value.bool b mp, Jf b8 [str m_2, .bool m_3, sl p l.length, .map (some b), i6 m_4, .func (.func 14) #[] #[pz c0, pz pbq1], i6 s] 88, Jf b9 [.bool (decide (t22 = 77)), sl p_2 l_2.length] 33, J3 94 2 (sl p l.length) l.length (t72.map Jk), Vw 24 1 gs_tag_Entry (sl p_2 l_2.length) l_2.length l_2]) (fun s t => True) ?_ ?_
     ·refine Jc<|Ja<|mv (pz b8)<|lv (Ji rfl)<|lf Try.runUnderlying88 rfl Try.sizeOf28 rfl<|ll 4 (i6 m_7) Try.isAgg28<|lv (Xe rfl rfl)<|Jd<|?_
      revert H38
      refine ci (decide (m_7 = 0)) rfl (fun hb H42=>?_) fun hb H44=>?_
      ·refine Ja<|mv (pz b8)<|Q1 (i := 5) (vs := [.bool (decide (t22 = 77)), sl p_2 l_2.length]) Try.isAgg33 Try.sizeOf33 rfl rfl rfl rfl rfl<|?_
       obtain ⟨t95, h_t95, H43⟩ := Je H42; clear H42
       refine Qg (fun w hF hS => k24 (Jm w) (Jhz (i := 7) hS rfl) h_t95) call24 rfl rfl rfl<|lv (Ji rfl)<|lf Try.runUnderlying88 rfl Try.sizeOf28 rfl<|st (i := 4) [i6 t95] [str m_2, .bool m_3, sl p l.length, .map (some b), i6 m_4, .func (.func 14) #[] #[pz c0, pz pbq1], i6 t95] Try.sizeOf28 rfl rfl<|Jd<|?_
       exact cl t95 () 0 [0, 1, 2, 3, 4, 5, 6, 7] (by exact ⟨H43, trivial⟩)
      ·refine Jp ?_
       exact cl m_7 () 0 [0, 1, 2, 3, 4, 5, 6, 7] (by exact ⟨H44, trivial⟩)
     ·rintro m_8 _ gg H39 _
      try dsimp only at H39
      try dsimp only
      refine Jc<|Jc<|Ja<|mv (pz b8)<|lv (Ji rfl)<|lf Try.runUnderlying88 rfl Try.sizeOf28 rfl<|ll 4 (i6 m_8) Try.isAgg28<|lv (Yn rfl rfl)<|Jd<|?_
      revert H39
      refine ci (decide (m_8 ≠ 0)) rfl (fun hb H40=>?_) fun hb H41=>?_
      ·refine Jc ?_
       exact Qc (Kd.p :: Kd.p :: Kd.p :: Kd.p :: Kd.d [4] _ :: Kd.sv 4 103 2 _ 33 :: Kd.p :: Kd.p :: []) 0 mixed (by
        refine dv (Xm (pl := #[(0, 1), (1, 1)]) (ps := []) (cells := #[.bool false, z0s]) zeroValue33 Try.runUnderlying33 (fun w => by kernel_rfl) rfl rfl)<|dm (pz b8)<|dv (Ji rfl)<|dv (Qd Try.runUnderlying88 rfl Try.sizeOf28 rfl rfl)<|dl (i6 m_8) Try.isAgg28<|Vx (i := 2) (vs := [.bool false, z0s]) (cs' := fun v_ => [(Jab v_ 0), (Jab v_ 1)]) Try.sizeOf33 rfl rfl rfl rfl rfl rfl rfl rfl rfl<|Qr rfl rfl (Jy (v := z0s) rfl)<|Qr rfl rfl (Jy (v := i6 m_8) rfl)<|X2<|Jr<|?_
        refine Jce 7 <| Jce 6 <| Jce 5 <| Jce 4 <| Jce 3 ?_
        try dsimp only [z1, z2, z3, z4, z5, z6, z7, z8]
        refine J5 24 1<|J5 94 2<|?_
        obtain rfl := sj H40
        refine bo 1 3 rfl rfl<|Xl 1 rfl (Zc (p := nn) rfl (AllC.nil (G := gs_tag_Entry) (h := Xo) (sz := 1)))<|bo 1 4 rfl rfl<|bo 0 1 rfl rfl<|?_
        refine Jeh (i := 2) (vs := [.bool false, sl nn (([] : List (List Value)).length)]) (v2 := sl nn ([] : List Tc).length) (v3 := i6 m_8) Try.isAgg33 Try.sizeOf33 rfl rfl rfl rfl rfl rfl (Y9 (nn, nn) (i := 0) rfl (by first | rfl | rw [(show (([] : List (List Value)).length) = ([] : List (List Ta)).length from (AllC.nil (G := gs_tag_Entry) (h := Xo) (sz := 1)).len)]) (by first | exact Imp.refl _ | exact Imp.of (by rw [(show (([] : List (List Value)).length) = ([] : List (List Ta)).length from (AllC.nil (G := gs_tag_Entry) (h := Xo) (sz := 1)).len)] <;> rfl)))
        ) (by kernel_rfl)
      ·refine Jp<|Jc<|?_
       try dsimp only [z1,z2,z5,z6,z7,z8]
       exact Qc (Kd.d [5] _ :: Kd.p :: Kd.p :: Kd.p :: Kd.d [4] _ :: Kd.sv 4 108 2 _ 33 :: Kd.p :: Kd.p :: []) 0 mixed (by
        refine Jbh (i := 5) (vs := [.bool (decide (t22 = 77)), sl p_2 l_2.length]) Try.isAgg33 Try.sizeOf33 rfl rfl rfl rfl<|dm (pz b8)<|dv (Ji rfl)<|dv (Qd Try.runUnderlying88 rfl Try.sizeOf49 rfl rfl)<|dl (sl p l.length) isAgg49<|Vx (i := 2) (vs := [.bool (decide (t22 = 77)), sl p_2 l_2.length]) (cs' := fun v_ => [(Jab v_ 0), (Jab v_ 1)]) Try.sizeOf33 rfl rfl rfl rfl rfl rfl rfl rfl rfl<|Qr rfl rfl (Jy (v := sl p l.length) rfl)<|Qr rfl rfl (Jy (v := i6 0) rfl)<|X2<|Jr<|?_
        refine Jce 5 <| Jce 4 <| Jce 3 ?_
        try dsimp only [z1, z2, z3, z4, z5, z6, z7, z8]
        obtain rfl := sj H41
        refine bo 4 3 rfl rfl<|bo 0 4 rfl rfl<|?_
        refine Jeh (i := 2) (vs := [.bool (decide (t22 = 77)), sl p_2 l_2.length]) (v2 := sl p l.length) (v3 := i6 0) Try.isAgg33 Try.sizeOf33 rfl rfl rfl rfl rfl rfl (Y9 (p_2, p) (i := 0) rfl (by first | rfl | rw [(show l.length = t72.length from hl)]) (by first | exact Imp.refl _ | exact Imp.of (by rw [(show l.length = t72.length from hl)] <;> rfl)))
        ) (by kernel_rfl)
end Go.Proofs.Ythljoadplekgnaa

namespace Go.Proofs.Ythljoadplekgnaa
open Go Go.Vc Go.Md Go.M Go.Lx Try
set_option maxRecDepth 100000
set_option maxHeartbeats 4000000
theorem k57_it (mm : Nat) : ∀ {a0 : Te} {pb0 : Nat} {p0_1 : AN} {n0_1 : Nat} {a1 : (List Ta)} {v1 : Value} {r : Int × Int × Te} {w : World} {h : Jt} {S : Nat → Prop} (hcs : (Jv (Jf pb0 [.bool a0.kab, sl p0_1 n0_1] 57) (wrV 5 1 (sl p0_1 n0_1) n0_1 (a0.kak.map Yd))).P S w) (hlt : ∀ b, S b → b < w.heap.size) (hw : Know h w S) (hn0_1 : n0_1 = a0.kak.length) (f1 : FrN h 6 v1 g_tag_Entry a1) (H : it (fun (self : (Te × (List Ta)) → Option (Int × Int × Te)) (s : Te × (List Ta)) => Yh self s.1 s.2) mm (a0, a1) = some r), Does prog 57 (List.toArray [pz pb0, v1]) w (fun v w' => ∃ x : AN, v = (.tuple #[i6 r.1, i6 r.2.1]) ∧ Turn w w' S (Jv (Jf pb0 [.bool r.2.2.kab, sl x r.2.2.kak.length] 57) (wrV 5 1 (sl x r.2.2.kak.length) r.2.2.kak.length (r.2.2.kak.map Yd)))) := by
 induction mm with
 | zero => intros; rename_i H; exact absurd H (by simp [it])
 | succ mm ih =>
  intro a0 pb0 p0_1 n0_1 a1 v1 r w h S hcs hlt hw hn0_1 f1 H
  replace H : Yh (it (fun (self : (Te × (List Ta)) → Option (Int × Int × Te)) (s : Te × (List Ta)) => Yh self s.1 s.2) mm) a0 a1 = some r := H
  generalize it (fun (self : (Te × (List Ta)) → Option (Int × Int × Te)) (s : Te × (List Ta)) => Yh self s.1 s.2) mm = self at H ih
  refine enter (n := 172) func57 rfl rfl rfl S [Jv (Jf pb0 [.bool a0.kab, sl p0_1 n0_1] 57) (wrV 5 1 (sl p0_1 n0_1) n0_1 (a0.kak.map Yd))] (Sat.one hcs hlt)<|Qj 0 rfl<|Jc<|Ja<|ag (i6 0)<|ag (i6 0)<|Jd<|Jc<|Ja<|mv (pz pb0)<|?_
  obtain ⟨t15, h_t15, H41⟩ := Je H; clear H
  refine bo 0 1 rfl rfl ?_
  refine Qf (Jw (i := 0) (rds := []) rfl (fun w L' S hF hS hi hp hlt ho hA => k22 hp hlt (Qb w S) hn0_1 h_t15) call22 rfl) rfl rfl rfl (fun p => ?_)
  refine ub 0 1 rfl rfl<|ag (i6 t15.1)<|Jd<|Jc<|?_
  exact Qc (Kd.p :: Kd.p :: Kd.p :: Kd.p :: Kd.d [0] _ :: Kd.p :: Kd.p :: Kd.p :: Kd.d [0] _ :: Kd.p :: Kd.p :: Kd.t 2 [] _ _ :: Kd.t 1 [2] _ _ :: Kd.p :: Kd.p :: Kd.sv 30 28 0 _ 57 :: []) 1 mixed (by
   refine dm (pz pb0)<|dm (pz pb0)<|dv (Ji rfl)<|dv (Qd Try.runUnderlying57 rfl Try.sizeOf55 rfl rfl)<|dl (sl p t15.2.kak.length) Try.isAgg55<|dm (pz pb0)<|dv (Ji rfl)<|dv (Qd Try.runUnderlying57 rfl Try.sizeOf4 rfl rfl)<|dl (.bool t15.2.kab) isAgg4<|dm v1<|dv (Yw Try.underlying24 rfl f1)<|?_
   have h_t27 := Jx H41
   have H42 := Jq H41
   refine Ja8 (Cv := fun v => J3 5 1 v (val (Jh t15.2.kab (a1.length : Int) 2)).length ((val (Jh t15.2.kab (a1.length : Int) 2)).map Yd)) (none, 0) (Qs (fun w L' hF hS hi => k17 (Jm w)  h_t27) call17 rfl) (fun _ => rfl) rfl rfl rfl (fun p_2 => ?_)
   have h_l28 := Jx H42
   have H43 := Jq H42
   refine U8 (Cv := fun v => wrV 5 1 v (val (Xd 1 t15.2.kak (val (Jh t15.2.kab (a1.length : Int) 2)))).length ((val (Xd 1 t15.2.kak (val (Jh t15.2.kab (a1.length : Int) 2)))).map Yd)) (none, 0) (Wk (i := 1) (hn := rfl) (rds := [2]) (p := p) (sz := 1) (by_ := 1) (f := Yd) (ys := t15.2.kak) (ls := (val (Jh t15.2.kab (a1.length : Int) 2))) (V := sl p_2 (val (Jh t15.2.kab (a1.length : Int) 2)).length) Try.underlying55 (Qu Try.typeInfo5) rfl rfl rfl rfl rfl rfl rfl rfl rfl rfl (fun w L' hF hS hi => Up (i := 2) hS ((hi 2 (by simp)).trans rfl)) (fun _ => rfl) (fun _ => rfl) h_l28) (fun _ => rfl) rfl rfl (fun p_3 => ?_)
   refine dv (Ji rfl)<|dv (Qd Try.runUnderlying57 rfl Try.sizeOf55 rfl rfl)<|Vx (i := 0) (vs := [.slice p_3.1 (val (Xd 1 t15.2.kak (val (Jh t15.2.kab (a1.length : Int) 2)))).length p_3.2]) (cs' := fun v_ => [.bool t15.2.kab, v_]) Try.sizeOf55 rfl rfl rfl rfl rfl rfl rfl rfl rfl<|X2<|?_
   refine Qx (r := r) (σ := (List Int)) (τ := AN) (fun s => Wg a1 self t15 s) (fun s t => [(0, pz pb0), (1, v1), (4, i6 t15.1)]) (fun s t => [Jf pb0 [.bool t15.2.kab, sl t s.length] 57, wrV 5 1 (sl t s.length) s.length (s.map Yd)]) (fun s t => True) ?_ ?_
   ·refine Jc<|Ja<|mv v1<|lv (Yw Try.underlying24 rfl f1)<|mv (i6 0)<|Jd<|J0<|Jce 2<|?_
    try dsimp only [z1, z2, z3, z4, z5, z6, z7, z8]
    refine Zz (σ := Int × (List Int)) (τ := AN) (fun next5 s => Yk a1 self t15 next5 s.1 s.2) (fun s t => [(0, pz pb0), (1, v1), (4, i6 t15.1), (31, v1), (32, i6 (a1.length : Int)), (33, i6 s.1)]) (fun s t => [Jf pb0 [.bool t15.2.kab, sl t s.2.length] 57, wrV 5 1 (sl t s.2.length) s.2.length (s.2.map Yd)]) (fun s t => True) (0, (val (Xd 1 t15.2.kak (val (Jh t15.2.kab (a1.length : Int) 2))))) p_3 [0, 1] H43 (by exact trivial) (by exact ⟨rfl, rfl, rfl, rfl, rfl, rfl, trivial⟩) (by decide) rfl ?_
    rintro ⟨x33_2, l_7⟩ p_15 m5 gg H68 _
    clear H43
    try dsimp only at H68
    generalize hn5 : it (fun next5 s => Yk a1 self t15 next5 s.1 s.2) m5 = next5 at H68
    try dsimp only
    refine Jc<|Ja<|lv (Ym rfl rfl)<|Jd<|Jc<|?_
    revert H68
    refine ci (decide (x33_2 < (a1.length : Int))) rfl (fun hb H69=>?_) fun hb H80=>?_
    ·refine Jp<|Jc<|J0<|Jc<|Ja<|?_
     obtain ⟨t35, h_t35, H70⟩ := Je H69; clear H69
     refine lv (Q2 Try.underlying24 Try.sizeOf72 rfl rfl f1.frs (f1.ix h_t35))<|Xn (fun w hF hS => Y2 (f := (elC h v1 6)) (i := x33_2) (sz := 6) (j := 0) (vs := [i6 t35.Tag, i6 t35.Value.kah, str t35.Value.kai, (Xj h v1 6 (Int.toNat x33_2) 3), (Xj h v1 6 (Int.toNat x33_2) 4), (Xj h v1 6 (Int.toNat x33_2) 5)]) isAgg72 Try.sizeOf72 rfl rfl (f1.frs.row (hw.now hF)) (f1.ix h_t35) (Jfb (Qy (f1.at h_t35)) rfl)) rfl rfl rfl<|?_
     refine Xw (cs := [i6 0, i6 0, str [], z0s, z0s, z0s]) zeroValue72 rfl rfl rfl (fun b6 => ?_)
     refine Yq (i := 2) (vs := [i6 t35.Tag, i6 t35.Value.kah, str t35.Value.kai, (Xj h v1 6 (Int.toNat x33_2) 3), (Xj h v1 6 (Int.toNat x33_2) 4), (Xj h v1 6 (Int.toNat x33_2) 5)]) (cs' := [i6 t35.Tag, i6 t35.Value.kah, str t35.Value.kai, (Xj h v1 6 (Int.toNat x33_2) 3), (Xj h v1 6 (Int.toNat x33_2) 4), (Xj h v1 6 (Int.toNat x33_2) 5)]) Try.sizeOf72 rfl rfl rfl rfl rfl rfl (by simp only [List.all_cons, List.all_nil, (show FrN h 6 (Xj h v1 6 (Int.toNat x33_2) 5) g_tag_Entry t35.Value.kaf from (Qk (Jo (f1.at h_t35)))).one, (show FrS h 1 (Xj h v1 6 (Int.toNat x33_2) 3) (t35.Value.kaj.map Qa) from (Q4 (Jo (f1.at h_t35)))).one, (show FrS h 2 (Xj h v1 6 (Int.toNat x33_2) 4) (t35.Value.kag.map Jl) from (Q5 (Jo (f1.at h_t35)))).one] <;> rfl) rfl rfl<|Jd<|Jc<|?_
     exact Qc (Kd.p :: Kd.p :: Kd.p :: Kd.p :: Kd.d [0] _ :: Kd.p :: Kd.p :: Kd.p :: Kd.d [0] _ :: Kd.p :: Kd.d [2] _ :: Kd.t 3 [] _ _ :: Kd.t 1 [3] _ _ :: Kd.p :: Kd.p :: Kd.sv 51 49 0 _ 57 :: []) 1 mixed (by
      refine dm (pz pb0)<|dm (pz pb0)<|dv (Ji rfl)<|dv (Qd Try.runUnderlying57 rfl Try.sizeOf55 rfl rfl)<|dl (sl p_15 l_7.length) Try.isAgg55<|dm (pz pb0)<|dv (Ji rfl)<|dv (Qd Try.runUnderlying57 rfl Try.sizeOf4 rfl rfl)<|dl (.bool t15.2.kab) isAgg4<|dv (Qd Try.runUnderlying72 rfl Try.sizeOf3 rfl rfl)<|dl (i6 t35.Tag) Try.isAgg3<|?_
      have h_t48 := Jx H70
      have H71 := Jq H70
      refine Ja8 (Cv := fun v => J3 5 1 v (val (Jh t15.2.kab t35.Tag 2)).length ((val (Jh t15.2.kab t35.Tag 2)).map Yd)) (none, 0) (Qs (fun w L' hF hS hi => k17 (Jm w)  h_t48) call17 rfl) (fun _ => rfl) rfl rfl rfl (fun p_16 => ?_)
      have h_l49 := Jx H71
      have H72 := Jq H71
      refine U8 (Cv := fun v => wrV 5 1 v (val (Xd 1 l_7 (val (Jh t15.2.kab t35.Tag 2)))).length ((val (Xd 1 l_7 (val (Jh t15.2.kab t35.Tag 2)))).map Yd)) (none, 0) (Wk (i := 1) (hn := rfl) (rds := [3]) (p := p_15) (sz := 1) (by_ := 1) (f := Yd) (ys := l_7) (ls := (val (Jh t15.2.kab t35.Tag 2))) (V := sl p_16 (val (Jh t15.2.kab t35.Tag 2)).length) Try.underlying55 (Qu Try.typeInfo5) rfl rfl rfl rfl rfl rfl rfl rfl rfl rfl (fun w L' hF hS hi => Up (i := 3) hS ((hi 3 (by simp)).trans rfl)) (fun _ => rfl) (fun _ => rfl) h_l49) (fun _ => rfl) rfl rfl (fun p_17 => ?_)
      refine dv (Ji rfl)<|dv (Qd Try.runUnderlying57 rfl Try.sizeOf55 rfl rfl)<|Vx (i := 0) (vs := [sl p_17 (val (Xd 1 l_7 (val (Jh t15.2.kab t35.Tag 2)))).length]) (cs' := fun v_ => [.bool t15.2.kab, v_]) Try.sizeOf55 rfl rfl rfl rfl rfl rfl rfl rfl rfl<|X2<|Jc<|?_
      exact Qc (Kd.p :: Kd.p :: Kd.p :: Kd.p :: Kd.d [0] _ :: Kd.p :: Kd.p :: Kd.p :: Kd.d [0] _ :: Kd.p :: Kd.p :: Kd.d [2] _ :: Kd.t 4 [] _ _ :: Kd.t 1 [4] _ _ :: Kd.p :: Kd.p :: Kd.sv 67 65 0 _ 57 :: []) 1 mixed (by
       refine dm (pz pb0)<|dm (pz pb0)<|dv (Ji rfl)<|dv (Qd Try.runUnderlying57 rfl Try.sizeOf55 rfl rfl)<|dl (sl p_17 (val (Xd 1 l_7 (val (Jh t15.2.kab t35.Tag 2)))).length) Try.isAgg55<|dm (pz pb0)<|dv (Ji rfl)<|dv (Qd Try.runUnderlying57 rfl Try.sizeOf4 rfl rfl)<|dl (.bool t15.2.kab) isAgg4<|dv (Qd Try.runUnderlying72 rfl Try.sizeOf26 rfl rfl)<|dv (Qd Try.runUnderlying26 rfl Try.sizeOf3 rfl rfl)<|dl (i6 t35.Value.kah) Try.isAgg3<|?_
       have h_t64 := Jx H72
       have H73 := Jq H72
       refine Ja8 (Cv := fun v => J3 5 1 v (val (Jh t15.2.kab t35.Value.kah 2)).length ((val (Jh t15.2.kab t35.Value.kah 2)).map Yd)) (none, 0) (Qs (fun w L' hF hS hi => k17 (Jm w)  h_t64) call17 rfl) (fun _ => rfl) rfl rfl rfl (fun p_18 => ?_)
       have h_l65 := Jx H73
       have H74 := Jq H73
       refine U8 (Cv := fun v => wrV 5 1 v (val (Xd 1 (val (Xd 1 l_7 (val (Jh t15.2.kab t35.Tag 2)))) (val (Jh t15.2.kab t35.Value.kah 2)))).length ((val (Xd 1 (val (Xd 1 l_7 (val (Jh t15.2.kab t35.Tag 2)))) (val (Jh t15.2.kab t35.Value.kah 2)))).map Yd)) (none, 0) (Wk (i := 1) (hn := rfl) (rds := [4]) (p := p_17) (sz := 1) (by_ := 1) (f := Yd) (ys := (val (Xd 1 l_7 (val (Jh t15.2.kab t35.Tag 2))))) (ls := (val (Jh t15.2.kab t35.Value.kah 2))) (V := sl p_18 (val (Jh t15.2.kab t35.Value.kah 2)).length) Try.underlying55 (Qu Try.typeInfo5) rfl rfl rfl rfl rfl rfl rfl rfl rfl rfl (fun w L' hF hS hi => Up (i := 4) hS ((hi 4 (by simp)).trans rfl)) (fun _ => rfl) (fun _ => rfl) h_l65) (fun _ => rfl) rfl rfl (fun p_19 => ?_)
       refine dv (Ji rfl)<|dv (Qd Try.runUnderlying57 rfl Try.sizeOf55 rfl rfl)<|Vx (i := 0) (vs := [.slice p_19.1 (val (Xd 1 (val (Xd 1 l_7 (val (Jh t15.2.kab t35.Tag 2)))) (val (Jh t15.2.kab t35.Value.kah 2)))).length p_19.2]) (cs' := fun v_ => [.bool t15.2.kab, v_]) Try.sizeOf55 rfl rfl rfl rfl rfl rfl rfl rfl rfl<|X2<|Jc<|?_
       exact Qc (Kd.p :: Kd.p :: Kd.p :: Kd.p :: Kd.d [0] _ :: Kd.p :: Kd.p :: Kd.p :: Kd.d [0] _ :: Kd.p :: Kd.d [2] _ :: Kd.d [] _ :: Kd.t 5 [] _ _ :: Kd.t 1 [5] _ _ :: Kd.p :: Kd.p :: Kd.sv 83 81 0 _ 57 :: []) 1 mixed (by
        refine dm (pz pb0)<|dm (pz pb0)<|dv (Ji rfl)<|dv (Qd Try.runUnderlying57 rfl Try.sizeOf55 rfl rfl)<|dl (.slice p_19.1 (val (Xd 1 (val (Xd 1 l_7 (val (Jh t15.2.kab t35.Tag 2)))) (val (Jh t15.2.kab t35.Value.kah 2)))).length p_19.2) Try.isAgg55<|dm (pz pb0)<|dv (Ji rfl)<|dv (Qd Try.runUnderlying57 rfl Try.sizeOf4 rfl rfl)<|dl (.bool t15.2.kab) isAgg4<|dv (Qd Try.runUnderlying72 rfl Try.sizeOf26 rfl rfl)<|Jbh (i := 2) (vs := [i6 t35.Value.kah, str t35.Value.kai, (Xj h v1 6 (Int.toNat x33_2) 3), (Xj h v1 6 (Int.toNat x33_2) 4), (Xj h v1 6 (Int.toNat x33_2) 5)]) Try.isAgg26 Try.sizeOf26 rfl rfl rfl rfl<|?_
        have h_t79 := Jx H74
        have H75 := Jq H74
        refine Jam (fun w L' hF hS hi => k19 (Jm w) ((show FrS h 1 (Xj h v1 6 (Int.toNat x33_2) 3) (t35.Value.kaj.map Qa) from (Q4 (Jo (f1.at h_t35)))).mono (hw.now hF)) ((show FrS h 2 (Xj h v1 6 (Int.toNat x33_2) 4) (t35.Value.kag.map Jl) from (Q5 (Jo (f1.at h_t35)))).mono (hw.now hF)) ((show FrN h 6 (Xj h v1 6 (Int.toNat x33_2) 5) g_tag_Entry t35.Value.kaf from (Qk (Jo (f1.at h_t35)))).mono (hw.now hF)) h_t79) call19 rfl rfl ?_
        have h_t80 := Jx H75
        have H76 := Jq H75
        refine Ja8 (Cv := fun v => J3 5 1 v (val (Jh t15.2.kab (val (Qe t35.Value)) 4)).length ((val (Jh t15.2.kab (val (Qe t35.Value)) 4)).map Yd)) (none, 0) (Qs (fun w L' hF hS hi => k17 (Jm w)  h_t80) call17 rfl) (fun _ => rfl) rfl rfl rfl (fun p_20 => ?_)
        have h_l81 := Jx H76
        have H77 := Jq H76
        refine U8 (Cv := fun v => wrV 5 1 v (val (Xd 1 (val (Xd 1 (val (Xd 1 l_7 (val (Jh t15.2.kab t35.Tag 2)))) (val (Jh t15.2.kab t35.Value.kah 2)))) (val (Jh t15.2.kab (val (Qe t35.Value)) 4)))).length ((val (Xd 1 (val (Xd 1 (val (Xd 1 l_7 (val (Jh t15.2.kab t35.Tag 2)))) (val (Jh t15.2.kab t35.Value.kah 2)))) (val (Jh t15.2.kab (val (Qe t35.Value)) 4)))).map Yd)) (none, 0) (Wk (i := 1) (hn := rfl) (rds := [5]) (p := p_19) (sz := 1) (by_ := 1) (f := Yd) (ys := (val (Xd 1 (val (Xd 1 l_7 (val (Jh t15.2.kab t35.Tag 2)))) (val (Jh t15.2.kab t35.Value.kah 2))))) (ls := (val (Jh t15.2.kab (val (Qe t35.Value)) 4))) (V := sl p_20 (val (Jh t15.2.kab (val (Qe t35.Value)) 4)).length) Try.underlying55 (Qu Try.typeInfo5) rfl rfl rfl rfl rfl rfl rfl rfl rfl rfl (fun w L' hF hS hi => Up (i := 5) hS ((hi 5 (by simp)).trans rfl)) (fun _ => rfl) (fun _ => rfl) h_l81) (fun _ => rfl) rfl rfl (fun p_21 => ?_)
        refine dv (Ji rfl)<|dv (Qd Try.runUnderlying57 rfl Try.sizeOf55 rfl rfl)<|Vx (i := 0) (vs := [.slice p_21.1 (val (Xd 1 (val (Xd 1 (val (Xd 1 l_7 (val (Jh t15.2.kab t35.Tag 2)))) (val (Jh t15.2.kab t35.Value.kah 2)))) (val (Jh t15.2.kab (val (Qe t35.Value)) 4)))).length p_21.2]) (cs' := fun v_ => [.bool t15.2.kab, v_]) Try.sizeOf55 rfl rfl rfl rfl rfl rfl rfl rfl rfl<|X2<|Ja<|mv (pz pb0)<|mv (pz pb0)<|lv (Ji rfl)<|lf Try.runUnderlying57 rfl Try.sizeOf55 rfl<|ll 0 (.slice p_21.1 (val (Xd 1 (val (Xd 1 (val (Xd 1 l_7 (val (Jh t15.2.kab t35.Tag 2)))) (val (Jh t15.2.kab t35.Value.kah 2)))) (val (Jh t15.2.kab (val (Qe t35.Value)) 4)))).length p_21.2) Try.isAgg55<|?_
        refine Qw (vs := [.int .u8 0, .int .u8 0, .int .u8 0, .int .u8 0]) (cs := [.int .u8 0, .int .u8 0, .int .u8 0, .int .u8 0]) Try.underlying55 Try.sizeOf5 zeroValue5 rfl rfl rfl rfl rfl rfl rfl (fun b7 => ?_)
        obtain ⟨l90, h_l90, H78⟩ := Je H77; clear H77
        refine Qf (Wk (i := 1) (hn := rfl) (rds := [6]) (p := p_21) (sz := 1) (by_ := 1) (f := Yd) (ys := (val (Xd 1 (val (Xd 1 (val (Xd 1 l_7 (val (Jh t15.2.kab t35.Tag 2)))) (val (Jh t15.2.kab t35.Value.kah 2)))) (val (Jh t15.2.kab (val (Qe t35.Value)) 4))))) (ls := ([0, 0, 0, 0] : List Int)) (V := .slice (some ⟨b7, 0, none⟩) 4 4) Try.underlying55 (Qu Try.typeInfo5) rfl rfl rfl rfl rfl rfl rfl rfl rfl rfl (fun w L' hF hS hi => Z8 (i := 6) hS ((hi 6 (by simp)).trans rfl) rfl rfl) (fun _ => rfl) (fun _ => rfl) h_l90) rfl rfl rfl (fun p_22 => ?_)
        refine lv (Ji rfl)<|lf Try.runUnderlying57 rfl Try.sizeOf55 rfl<|st (i := 0) [sl p_22 l90.length] [.bool t15.2.kab, sl p_22 l90.length] Try.sizeOf55 rfl rfl<|Jd<|Ja<|?_
        obtain ⟨t93, h_t93, H79⟩ := Je H78; clear H78
        refine lv (J4 rfl rfl h_t93)<|mv (i6 t93)<|Jd<|?_
        exact cl (t93, l90) p_22 m5 [0, 1] (by exact ⟨(by subst hn5; exact H79), trivial⟩)
        ) (by kernel_rfl)
       ) (by kernel_rfl)
      ) (by kernel_rfl)
    ·refine Xy ?_
     exact cl l_7 p_15 0 [0, 1] (by exact ⟨H80, trivial⟩)
   ·rintro l p_4 gg H44 _
    try dsimp only at H44
    try dsimp only
    refine Jc<|Ja<|mv (pz pb0)<|lv (Ji rfl)<|lf Try.runUnderlying57 rfl Try.sizeOf55 rfl<|ll 0 (sl p_4 l.length) Try.isAgg55<|lv (Ur Try.underlying55 rfl)<|ag (i6 (l.length : Int))<|Jd<|Jc<|Ja<|mv (pz pb0)<|mv (pz pb0)<|lv (Ji rfl)<|lf Try.runUnderlying57 rfl Try.sizeOf55 rfl<|ll 0 (sl p_4 l.length) Try.isAgg55<|?_
    refine Qw (vs := [.int .u8 0, .int .u8 0, .int .u8 0, .int .u8 0]) (cs := [.int .u8 0, .int .u8 0, .int .u8 0, .int .u8 0]) Try.underlying55 Try.sizeOf5 zeroValue5 rfl rfl rfl rfl rfl rfl rfl (fun b4 => ?_)
    obtain ⟨l105, h_l105, H45⟩ := Je H44; clear H44
    refine Qf (Wk (i := 1) (hn := rfl) (rds := [2]) (p := p_4) (sz := 1) (by_ := 1) (f := Yd) (ys := l) (ls := ([0, 0, 0, 0] : List Int)) (V := .slice (some ⟨b4, 0, none⟩) 4 4) Try.underlying55 (Qu Try.typeInfo5) rfl rfl rfl rfl rfl rfl rfl rfl rfl rfl (fun w L' hF hS hi => Z8 (i := 2) hS ((hi 2 (by simp)).trans rfl) rfl rfl) (fun _ => rfl) (fun _ => rfl) h_l105) rfl rfl rfl (fun p_5 => ?_)
    refine lv (Ji rfl)<|lf Try.runUnderlying57 rfl Try.sizeOf55 rfl<|st (i := 0) [sl p_5 l105.length] [.bool t15.2.kab, sl p_5 l105.length] Try.sizeOf55 rfl rfl<|Jd<|?_
    refine Qx (r := r) (σ := Bool × (List Int)) (τ := AN × Nat) (fun s => Ja2 t15 l s.1 s.2) (fun s t => [(4, i6 t15.1), (5, i6 (l.length : Int))]) (fun s t => [Jf pb0 [.bool s.1, .slice t.1.1 t.2 t.1.2] 57, wrV 5 1 (.slice t.1.1 t.2 t.1.2) t.2 (s.2.map Yd)]) (fun s t => t.2 = s.2.length) ?_ ?_
    ·refine Jc<|Ja<|mv v1<|lv (Yw Try.underlying24 rfl f1)<|mv (i6 0)<|Jd<|J0<|Jce 2<|?_
     try dsimp only [z1, z2, z3, z4, z5, z6, z7, z8]
     refine Zz (σ := Int × Bool × (List Int)) (τ := AN × Nat) (fun next3 s => Yv a1 self t15 l next3 s.1 s.2.1 s.2.2) (fun s t => [(0, pz pb0), (4, i6 t15.1), (5, i6 (l.length : Int)), (108, v1), (109, i6 (a1.length : Int)), (110, i6 s.1)]) (fun s t => [Jf pb0 [.bool s.2.1, .slice t.1.1 t.2 t.1.2] 57, wrV 5 1 (.slice t.1.1 t.2 t.1.2) t.2 (s.2.2.map Yd)]) (fun s t => t.2 = s.2.2.length) (0, t15.2.kab, l105) (p_5, l105.length) [0, 1] H45 (by exact rfl) (by exact ⟨rfl, rfl, rfl, rfl, rfl, rfl, trivial⟩) (by decide) rfl ?_
     rintro ⟨x110_2, m_3, l_4⟩ ⟨p_7, n_2⟩ m3 gg H47 hl_3
     clear H45
     try dsimp only at H47
     generalize hn3 : it (fun next3 s => Yv a1 self t15 l next3 s.1 s.2.1 s.2.2) m3 = next3 at H47
     try dsimp only
     refine Jc<|Ja<|lv (Ym rfl rfl)<|Jd<|Jc<|?_
     revert H47
     refine ci (decide (x110_2 < (a1.length : Int))) rfl (fun hb H48=>?_) fun hb H67=>?_
     ·refine Jp ?_
      refine Qx (r := r) (σ := Bool × (List Int)) (τ := AN × Nat) (fun s => Z7 x110_2 next3 s.1 s.2) (fun s t => [(0, pz pb0), (4, i6 t15.1), (5, i6 (l.length : Int)), (108, v1), (109, i6 (a1.length : Int)), (110, i6 x110_2)]) (fun s t => [Jf pb0 [.bool s.1, .slice t.1.1 t.2 t.1.2] 57, wrV 5 1 (.slice t.1.1 t.2 t.1.2) t.2 (s.2.map Yd)]) (fun s t => t.2 = s.2.length) ?_ ?_
      ·refine J0<|Jc<|Ja<|mv (i6 x110_2)<|?_
       obtain ⟨t113, h_t113, H51⟩ := Je H48; clear H48
       refine lv (Q2 Try.underlying24 Try.sizeOf72 rfl rfl f1.frs (f1.ix h_t113))<|Xn (fun w hF hS => Y2 (f := (elC h v1 6)) (i := x110_2) (sz := 6) (j := 0) (vs := [i6 t113.Tag, i6 t113.Value.kah, str t113.Value.kai, (Xj h v1 6 (Int.toNat x110_2) 3), (Xj h v1 6 (Int.toNat x110_2) 4), (Xj h v1 6 (Int.toNat x110_2) 5)]) isAgg72 Try.sizeOf72 rfl rfl (f1.frs.row (hw.now hF)) (f1.ix h_t113) (Jfb (Qy (f1.at h_t113)) rfl)) rfl rfl rfl<|?_
       refine Xw (cs := [i6 0, i6 0, str [], z0s, z0s, z0s]) zeroValue72 rfl rfl rfl (fun b5 => ?_)
       refine ag (i6 x110_2)<|Yq (i := 2) (vs := [i6 t113.Tag, i6 t113.Value.kah, str t113.Value.kai, (Xj h v1 6 (Int.toNat x110_2) 3), (Xj h v1 6 (Int.toNat x110_2) 4), (Xj h v1 6 (Int.toNat x110_2) 5)]) (cs' := [i6 t113.Tag, i6 t113.Value.kah, str t113.Value.kai, (Xj h v1 6 (Int.toNat x110_2) 3), (Xj h v1 6 (Int.toNat x110_2) 4), (Xj h v1 6 (Int.toNat x110_2) 5)]) Try.sizeOf72 rfl rfl rfl rfl rfl rfl (by simp only [List.all_cons, List.all_nil, (show FrN h 6 (Xj h v1 6 (Int.toNat x110_2) 5) g_tag_Entry t113.Value.kaf from (Qk (Jo (f1.at h_t113)))).one, (show FrS h 1 (Xj h v1 6 (Int.toNat x110_2) 3) (t113.Value.kaj.map Qa) from (Q4 (Jo (f1.at h_t113)))).one, (show FrS h 2 (Xj h v1 6 (Int.toNat x110_2) 4) (t113.Value.kag.map Jl) from (Q5 (Jo (f1.at h_t113)))).one] <;> rfl) rfl rfl<|Jd<|Jc<|Ja<|mv (i6 t15.1)<|?_
       obtain ⟨t116, h_t116, H52⟩ := Je H51; clear H51
       refine lv (J4 rfl rfl h_t116)<|mv (i6 x110_2)<|?_
       obtain ⟨t118, h_t118, H53⟩ := Je H52; clear H52
       refine lv (Vs rfl rfl h_t118) ?_
       obtain ⟨t119, h_t119, H54⟩ := Je H53; clear H53
       refine lv (J4 rfl rfl h_t119) ?_
       obtain ⟨t120, h_t120, H55⟩ := Je H54; clear H54
       refine lv (J4 rfl rfl h_t120)<|ag (i6 t120)<|Jd<|Jc<|Jc<|Ja<|lf Try.runUnderlying72 rfl Try.sizeOf26 rfl<|lf Try.runUnderlying26 rfl Try.sizeOf3 rfl<|ll 2 (i6 t113.Value.kah) Try.isAgg3<|lv (Xe rfl rfl)<|Jd<|?_
       revert H55
       refine ci (decide (t113.Value.kah = 13)) rfl (fun hb H56=>?_) fun hb H59=>?_
       ·refine Jc<|Ja<|mv (pz pb0)<|lf Try.runUnderlying72 rfl Try.sizeOf26 rfl<|lf Try.runUnderlying26 rfl Try.sizeOf24 rfl<|ll 2 (Xj h v1 6 (Int.toNat x110_2) 5) isAgg24<|?_
        obtain ⟨t130, h_t130, H57⟩ := Je H56; clear H56
        refine bo 0 1 rfl rfl ?_
        refine Qf (Jw (i := 0) (rds := []) rfl (fun w L' S hF hS hi hp hlt ho hA => ih (a0 := (⟨m_3, l_4⟩ : Te)) hp hlt (Qb w S) hl_3 ((show FrN h 6 (Xj h v1 6 (Int.toNat x110_2) 5) g_tag_Entry t113.Value.kaf from (Qk (Jo (f1.at h_t113)))).mono (hw.but hF ho)) h_t130) call57 rfl) rfl rfl rfl (fun p_9 => ?_)
        refine ub 0 1 rfl rfl<|mv (.tuple #[i6 t130.1, i6 t130.2.1])<|lv (J7 (v := i6 t130.1) rfl rfl)<|lv (J7 (v := i6 t130.2.1) rfl rfl)<|ag (i6 t130.1)<|ag (i6 t130.2.1)<|Jd<|Jc<|Ja<|mv (pz pb0)<|mv (i6 t120)<|mv (i6 t130.1)<|?_
        obtain ⟨t136, h_t136, H58⟩ := Je H57; clear H57
        refine bo 0 1 rfl rfl ?_
        refine Qf (Jw (i := 0) (rds := []) rfl (fun w L' S hF hS hi hp hlt ho hA => k18 hp hlt (Qb w S) rfl h_t136) call18 rfl) rfl rfl rfl (fun p_10 => ?_)
        refine ub 0 1 rfl rfl<|Jd<|Xy<|?_
        exact cl (t136.kab, t136.kak) (p_10, t136.kak.length) 0 [0, 1] (by exact ⟨H58, rfl⟩)
       ·refine Jp<|Jc<|?_
        try dsimp only [z1,z2,z5,z6,z7,z8]
        exact Qc (Kd.p :: Kd.p :: Kd.p :: Kd.d [0] _ :: Kd.p :: Kd.d [2] _ :: Kd.t 3 [] _ _ :: Kd.p :: []) 1 mixed (by
         refine dm (pz pb0)<|dv (Ji rfl)<|dv (Qd Try.runUnderlying57 rfl Try.sizeOf4 rfl rfl)<|dl (.bool m_3) isAgg4<|dv (Qd Try.runUnderlying72 rfl Try.sizeOf26 rfl rfl)<|Jbh (i := 2) (vs := [i6 t113.Value.kah, str t113.Value.kai, (Xj h v1 6 (Int.toNat x110_2) 3), (Xj h v1 6 (Int.toNat x110_2) 4), (Xj h v1 6 (Int.toNat x110_2) 5)]) Try.isAgg26 Try.sizeOf26 rfl rfl rfl rfl<|?_
         have h_t143 := Jx H59
         have H60 := Jq H59
         refine Ja8 (Cv := fun v => wrV 5 1 v (val (Yr m_3 t113.Value)).length ((val (Yr m_3 t113.Value)).map Yd)) (none, 0) (Qs (fun w L' hF hS hi => k16 (Jm w) ((show FrS h 1 (Xj h v1 6 (Int.toNat x110_2) 3) (t113.Value.kaj.map Qa) from (Q4 (Jo (f1.at h_t113)))).mono (hw.now hF)) ((show FrS h 2 (Xj h v1 6 (Int.toNat x110_2) 4) (t113.Value.kag.map Jl) from (Q5 (Jo (f1.at h_t113)))).mono (hw.now hF)) ((show FrN h 6 (Xj h v1 6 (Int.toNat x110_2) 5) g_tag_Entry t113.Value.kaf from (Qk (Jo (f1.at h_t113)))).mono (hw.now hF)) h_t143) call16 rfl) (fun _ => rfl) rfl rfl rfl (fun p_11 => ?_)
         refine Qr rfl rfl (Jy (v := sl p_11 (val (Yr m_3 t113.Value)).length) rfl)<|X2<|Jc<|Jc<|Ja<|mv (sl p_11 (val (Yr m_3 t113.Value)).length)<|lv (Ur Try.underlying55 rfl)<|lv (Je3 rfl rfl)<|Jd<|?_
         revert H60
         refine ci (decide (((val (Yr m_3 t113.Value)).length : Int) ≤ 4)) rfl (fun hb H61=>?_) fun hb H63=>?_
         ·refine Jc<|Ja<|mv (pz pb0)<|lv (Ji rfl)<|lf Try.runUnderlying57 rfl Try.sizeOf55 rfl<|ll 0 (sl p_7 n_2) Try.isAgg55<|mv (i6 t120)<|?_
          obtain ⟨t152, h_t152, H62⟩ := Je H61; clear H61
          refine Xn (v := .slice (Xg p_7.1 (Int.toNat t120) p_7.2 1) t152.length (p_7.2 - Int.toNat t120)) (fun w hF hS => Y8 (xs := l_4) Try.underlying55 Try.sizeOf5 rfl rfl hl_3 (capOfW (i := 1) hS rfl) h_t152) rfl rfl rfl<|mv (sl p_11 (val (Yr m_3 t113.Value)).length)<|?_
          refine Qf (Jbn (i := 1) (rds := [3]) (p := p_7) (f := Yd) (xs := l_4) (ts := t152) (ys := (val (Yr m_3 t113.Value))) hl_3 Try.underlying55 (by rw [Qu Try.typeInfo5]; rfl) rfl rfl h_t152 rfl rfl (fun w L' hF hS hi => Jek (i := 3) hS ((hi 3 (by simp)).trans rfl)) (fun _ => rfl) (fun _ => rfl)) rfl rfl rfl (fun _ => ?_)
          refine Jd<|Xy<|?_
          exact cl (m_3, (Zf l_4 t120 t152.length (val (Yr m_3 t113.Value)))) (p_7, n_2) 0 [0, 1] (by exact ⟨H62, (Jg8 hl_3 h_t152)⟩)
         ·refine Jp<|Jc<|Ja<|mv (pz pb0)<|mv (i6 t120)<|mv (pz pb0)<|?_
          obtain ⟨t158, h_t158, H64⟩ := Je H63; clear H63
          refine bo 0 1 rfl rfl ?_
          refine Qf (Jw (i := 0) (rds := []) rfl (fun w L' S hF hS hi hp hlt ho hA => k22 (a0 := (⟨m_3, l_4⟩ : Te)) hp hlt (Qb w S) hl_3 h_t158) call22 rfl) rfl rfl rfl (fun p_12 => ?_)
          refine ub 0 1 rfl rfl ?_
          obtain ⟨t159, h_t159, H65⟩ := Je H64; clear H64
          refine bo 0 1 rfl rfl ?_
          refine Qf (Jw (i := 0) (rds := []) rfl (fun w L' S hF hS hi hp hlt ho hA => k18 hp hlt (Qb w S) rfl h_t159) call18 rfl) rfl rfl rfl (fun p_13 => ?_)
          refine ub 0 1 rfl rfl<|Jd<|?_
          try dsimp only [z1,z2,z5,z6,z7,z8]
          refine Ja<|mv (pz pb0)<|mv (pz pb0)<|lv (Ji rfl)<|lf Try.runUnderlying57 rfl Try.sizeOf55 rfl<|ll 0 (sl p_13 t159.kak.length) Try.isAgg55<|mv (sl p_11 (val (Yr m_3 t113.Value)).length)<|?_
          obtain ⟨l166, h_l166, H66⟩ := Je H65; clear H65
          refine Qf (Wk (i := 1) (hn := rfl) (rds := [3]) (p := p_13) (sz := 1) (by_ := 1) (f := Yd) (ys := t159.kak) (ls := (val (Yr m_3 t113.Value))) (V := sl p_11 (val (Yr m_3 t113.Value)).length) Try.underlying55 (Qu Try.typeInfo5) rfl rfl rfl rfl rfl rfl rfl rfl rfl rfl (fun w L' hF hS hi => Jek (i := 3) hS ((hi 3 (by simp)).trans rfl)) (fun _ => rfl) (fun _ => rfl) h_l166) rfl rfl rfl (fun p_14 => ?_)
          refine lv (Ji rfl)<|lf Try.runUnderlying57 rfl Try.sizeOf55 rfl<|st (i := 0) [sl p_14 l166.length] [.bool t159.kab, sl p_14 l166.length] Try.sizeOf55 rfl rfl<|Jd<|?_
          exact cl (t159.kab, l166) (p_14, l166.length) 0 [0, 1] (by exact ⟨H66, rfl⟩)
         ) (by kernel_rfl)
      ·rintro ⟨m_4, l_5⟩ ⟨p_8, n_3⟩ gg H49 hl_4
       try dsimp only at H49
       try dsimp only
       refine Ja ?_
       obtain ⟨t169, h_t169, H50⟩ := Je H49; clear H49
       refine lv (J4 rfl rfl h_t169)<|mv (i6 t169)<|Jd<|?_
       exact cl (t169, m_4, l_5) (p_8, n_3) m3 [0, 1] (by exact ⟨(by subst hn3; exact H50), hl_4⟩)
     ·refine Xy ?_
      exact cl (m_3, l_4) (p_7, n_2) 0 [0, 1] (by exact ⟨H67, hl_3⟩)
    ·rintro ⟨m, l_2⟩ ⟨p_6, n⟩ gg H46 hl
     try dsimp only at H46
     try dsimp only
     refine Jc<|Ja<|mv (i6 t15.1)<|mv (i6 (l.length : Int))<|ag (i6 t15.1)<|ag (i6 (l.length : Int))<|Jd<|Jr<|?_
     obtain rfl := sj H46
     refine bo 0 1 rfl rfl ?_
     refine Jah (v1 := i6 t15.1) (v2 := i6 (l.length : Int)) rfl rfl rfl (Y9 p_6 (i := 0) rfl (by first | rfl | rw [(show n = l_2.length from hl)]) (by first | exact Imp.refl _ | exact Imp.of (by rw [(show n = l_2.length from hl)] <;> rfl)))
   ) (by kernel_rfl)
theorem k57 {a0 : Te} {pb0 : Nat} {p0_1 : AN} {n0_1 : Nat} {a1 : (List Ta)} {v1 : Value} {r : Int × Int × Te} {w : World} {h : Jt} {S : Nat → Prop} (hcs : (Jv (Jf pb0 [.bool a0.kab, sl p0_1 n0_1] 57) (wrV 5 1 (sl p0_1 n0_1) n0_1 (a0.kak.map Yd))).P S w) (hlt : ∀ b, S b → b < w.heap.size) (hw : Know h w S) (hn0_1 : n0_1 = a0.kak.length) (f1 : FrN h 6 v1 g_tag_Entry a1) (H : Jaw a0 a1 = some r) : Does prog 57 (List.toArray [pz pb0, v1]) w (fun v w' => ∃ x : AN, v = (.tuple #[i6 r.1, i6 r.2.1]) ∧ Turn w w' S (Jv (Jf pb0 [.bool r.2.2.kab, sl x r.2.2.kak.length] 57) (wrV 5 1 (sl x r.2.2.kak.length) r.2.2.kak.length (r.2.2.kak.map Yd)))) := by
 obtain ⟨mm, hm⟩ := Jfx (show Wq (fun (self : (Te × (List Ta)) → Option (Int × Int × Te)) (s : Te × (List Ta)) => Yh self s.1 s.2) (a0, a1) = some r from H)
 exact k57_it mm hcs hlt hw hn0_1 f1 hm
theorem k31 {a0 : Tg} {v0_1 : Value} {r : (List UInt8)} {w : World} {h : Jt} (hw : Know h w Z2) (f0_1 : FrN h 1 v0_1 gs_tag_Entry a0.kal) (H : Jcn a0 = some r) : Does prog 31 (List.toArray [.agg #[.bool a0.Big, v0_1]]) w (fun v w' => v = (str r) ∧ Grow w w') := by
 refine enter (n := 71) func31 rfl rfl rfl Z2 [] (Sat.nil _ _)<|Jc<|Ja<|?_
 refine We (cs := [.bool a0.Big, v0_1]) rfl rfl rfl rfl (fun b5 => ?_)
 refine ag (str [])<|Jd<|Jc<|Ja<|lf Try.runUnderlying33 rfl Try.sizeOf4 rfl<|ll 0 (.bool a0.Big) isAgg4<|?_
 refine Qw (vs := [.int .u8 73, .int .u8 73]) (cs := [.int .u8 73, .int .u8 73]) Try.underlying55 Try.sizeOf5 zeroValue5 rfl rfl rfl rfl rfl rfl rfl (fun b6 => ?_)
 refine Qf (Jiv (i := 1) (rds := []) (f := Yd) (xs := ([73, 73] : List Int)) (m := 2) (sz := 1) rfl Try.underlying55 Try.underlying5 rfl rfl rfl rfl rfl rfl) rfl rfl rfl (fun _ => ?_)
 refine lv (Xm (pl := #[(0, 1), (1, 1)]) (ps := [(0, .bool a0.Big), (1, .slice ((some ⟨b6, 0, none⟩, 2) : AN).1 2 ((some ⟨b6, 0, none⟩, 2) : AN).2)]) (cells := #[.bool a0.Big, .slice ((some ⟨b6, 0, none⟩, 2) : AN).1 2 ((some ⟨b6, 0, none⟩, 2) : AN).2]) zeroValue57 Try.runUnderlying57 (fun w => by kernel_rfl) rfl rfl) ?_
 refine We (cs := [.bool a0.Big, .slice ((some ⟨b6, 0, none⟩, 2) : AN).1 2 ((some ⟨b6, 0, none⟩, 2) : AN).2]) rfl rfl rfl rfl (fun b7 => ?_)
 refine ag (pz b7)<|Jd<|?_
 refine Qx (r := r) (σ := (List Int)) (τ := AN × Nat) (fun s => Uu a0 s) (fun s t => [(1, pz b5), (3, pz b7)]) (fun s t => [Jf b5 [.bool a0.Big, v0_1] 33, Jf b7 [.bool a0.Big, .slice t.1.1 t.2 t.1.2] 57, apV 5 1 (.slice t.1.1 t.2 t.1.2) t.2 (s.map Yd)]) (fun s t => t.2 = s.length) ?_ ?_
 ·refine Jc ?_
  try dsimp only [z1,z2,z5,z6,z7,z8]
  refine Ja<|lf Try.runUnderlying33 rfl Try.sizeOf4 rfl<|ll 0 (.bool a0.Big) isAgg4<|Jd<|?_
  revert H
  refine ci (a0.Big) rfl (fun hb H27=>?_) fun hb H28=>?_
  ·refine Ja<|mv (pz b7)<|?_
   refine Qw (vs := [.int .u8 77, .int .u8 77]) (cs := [.int .u8 77, .int .u8 77]) Try.underlying55 Try.sizeOf5 zeroValue5 rfl rfl rfl rfl rfl rfl rfl (fun b9 => ?_)
   refine Qf (Jiv (i := 3) (rds := []) (f := Yd) (xs := ([77, 77] : List Int)) (m := 2) (sz := 1) rfl Try.underlying55 Try.underlying5 rfl rfl rfl rfl rfl rfl) rfl rfl rfl (fun _ => ?_)
   refine lv (Ji rfl)<|lf Try.runUnderlying57 rfl Try.sizeOf55 rfl<|st (i := 2) [.slice ((some ⟨b9, 0, none⟩, 2) : AN).1 2 ((some ⟨b9, 0, none⟩, 2) : AN).2] [.bool a0.Big, .slice ((some ⟨b9, 0, none⟩, 2) : AN).1 2 ((some ⟨b9, 0, none⟩, 2) : AN).2] Try.sizeOf55 rfl rfl<|Jd<|?_
   exact cl ([77, 77] : List Int) (((some ⟨b9, 0, none⟩, 2) : AN), 2) 0 [0, 2, 3] (by exact ⟨H27, rfl⟩)
  ·refine Jp ?_
   exact cl ([73, 73] : List Int) (((some ⟨b6, 0, none⟩, 2) : AN), 2) 0 [0, 2, 1] (by exact ⟨H28, rfl⟩)
 ·rintro l ⟨p, n⟩ gg H15 hl
  try dsimp only at H15
  try dsimp only
  refine Jc ?_
  exact Qc (Kd.p :: Kd.p :: Kd.p :: Kd.p :: Kd.d [1] _ :: Kd.p :: Kd.d [0] _ :: Kd.t 3 [] _ _ :: Kd.t 2 [3] _ _ :: Kd.p :: Kd.p :: Kd.sv 32 30 1 _ 57 :: []) 1 mixed (by
   refine dm (pz b7)<|dm (pz b7)<|dv (Ji rfl)<|dv (Qd Try.runUnderlying57 rfl Try.sizeOf55 rfl rfl)<|dl (sl p n) Try.isAgg55<|dv (Qd Try.runUnderlying33 rfl Try.sizeOf4 rfl rfl)<|dl (.bool a0.Big) isAgg4<|?_
   have h_t29 := Jx H15
   have H16 := Jq H15
   refine Ja8 (Cv := fun v => J3 5 1 v (val (Jh a0.Big 42 2)).length ((val (Jh a0.Big 42 2)).map Yd)) (none, 0) (Qs (fun w L' hF hS hi => k17 (Jm w)  h_t29) call17 rfl) (fun _ => rfl) rfl rfl rfl (fun p_2 => ?_)
   have h_l30 := Jx H16
   have H17 := Jq H16
   refine U8 (Cv := fun v => J3 5 1 v (val (gApN 1 l (val (Jh a0.Big 42 2)))).length ((val (gApN 1 l (val (Jh a0.Big 42 2)))).map Yd)) (none, 0) (turns_appN (i := 2) (hn := hl) (rds := [3]) (p := p) (sz := 1) (by_ := 1) (f := Yd) (ys := l) (ls := (val (Jh a0.Big 42 2))) (V := sl p_2 (val (Jh a0.Big 42 2)).length) Try.underlying55 (Qu Try.typeInfo5) rfl rfl rfl rfl rfl rfl rfl rfl rfl rfl (fun w L' hF hS hi => Up (i := 3) hS ((hi 3 (by simp)).trans rfl)) (fun _ => rfl) (fun _ => rfl) h_l30) (fun _ => rfl) rfl rfl (fun p_3 => ?_)
   refine dv (Ji rfl)<|dv (Qd Try.runUnderlying57 rfl Try.sizeOf55 rfl rfl)<|Vx (i := 1) (vs := [sl p_3 (val (gApN 1 l (val (Jh a0.Big 42 2)))).length]) (cs' := fun v_ => [.bool a0.Big, v_]) Try.sizeOf55 rfl rfl rfl rfl rfl rfl rfl rfl rfl<|X2<|Jc<|Ja<|mv (pz b7)<|lv (Ji rfl)<|lf Try.runUnderlying57 rfl Try.sizeOf55 rfl<|ll 1 (sl p_3 (val (gApN 1 l (val (Jh a0.Big 42 2)))).length) Try.isAgg55<|lv (Ur Try.underlying55 rfl)<|ag (i6 ((val (gApN 1 l (val (Jh a0.Big 42 2)))).length : Int))<|Jd<|Jc<|Ja<|mv (pz b7)<|mv (pz b7)<|lv (Ji rfl)<|lf Try.runUnderlying57 rfl Try.sizeOf55 rfl<|ll 1 (sl p_3 (val (gApN 1 l (val (Jh a0.Big 42 2)))).length) Try.isAgg55<|?_
   refine Qw (vs := [.int .u8 0, .int .u8 0, .int .u8 0, .int .u8 0]) (cs := [.int .u8 0, .int .u8 0, .int .u8 0, .int .u8 0]) Try.underlying55 Try.sizeOf5 zeroValue5 rfl rfl rfl rfl rfl rfl rfl (fun b8 => ?_)
   obtain ⟨l44, h_l44, H18⟩ := Je H17; clear H17
   refine Qf (Ys (i := 2) (hn := rfl) (rds := [4]) (p := p_3) (sz := 1) (by_ := 1) (f := Yd) (ys := (val (gApN 1 l (val (Jh a0.Big 42 2))))) (ls := ([0, 0, 0, 0] : List Int)) (V := .slice (some ⟨b8, 0, none⟩) 4 4) Try.underlying55 (Qu Try.typeInfo5) rfl rfl rfl rfl rfl rfl rfl rfl rfl rfl (fun w L' hF hS hi => Z8 (i := 4) hS ((hi 4 (by simp)).trans rfl) rfl rfl) (fun _ => rfl) (fun _ => rfl) h_l44) rfl rfl rfl (fun p_4 => ?_)
   refine lv (Ji rfl)<|lf Try.runUnderlying57 rfl Try.sizeOf55 rfl<|st (i := 1) [sl p_4 l44.length] [.bool a0.Big, sl p_4 l44.length] Try.sizeOf55 rfl rfl<|Jd<|?_
   refine Qx (r := r) (σ := Bool × (List Int)) (τ := AN) (fun s => Jb8 s.1 s.2) (fun s t => [(3, pz b7)]) (fun s t => [Jf b7 [.bool s.1, sl t s.2.length] 57, wrV 5 1 (sl t s.2.length) s.2.length (s.2.map Yd)]) (fun s t => True) ?_ ?_
   ·refine Jc<|Ja<|lf Try.runUnderlying33 rfl Try.sizeOf31 rfl<|ll 0 v0_1 isAgg31<|lv (Yw Try.underlying31 rfl f0_1)<|mv (i6 0)<|Jd<|J0<|?_
    refine Jce 4 <| Jce 3 <| Jce 0 ?_
    try dsimp only [z1, z2, z3, z4, z5, z6, z7, z8]
    refine Xl 1 rfl (imp_wr _ _ _ _ _) ?_
    refine Zz (σ := Int × Int × Bool × (List Int)) (τ := AN) (fun next3 s => Z4 a0 next3 s.1 s.2.1 s.2.2.1 s.2.2.2) (fun s t => [(3, pz b7), (4, i6 s.1), (48, v0_1), (49, i6 (a0.kal.length : Int)), (50, i6 s.2.1)]) (fun s t => [Jf b7 [.bool s.2.2.1, sl t s.2.2.2.length] 57, wrV 5 1 (sl t s.2.2.2.length) s.2.2.2.length (s.2.2.2.map Yd)]) (fun s t => True) (((val (gApN 1 l (val (Jh a0.Big 42 2)))).length : Int), 0, a0.Big, l44) p_4 [0, 1] H18 (by exact trivial) (by exact ⟨rfl, rfl, rfl, rfl, rfl, trivial⟩) (by decide) rfl ?_
    rintro ⟨x4_2, x50_2, m_3, l_4⟩ p_6 m3 gg H20 _
    clear H18
    try dsimp only at H20
    generalize hn3 : it (fun next3 s => Z4 a0 next3 s.1 s.2.1 s.2.2.1 s.2.2.2) m3 = next3 at H20
    try dsimp only
    refine Jc<|Ja<|lv (Ym rfl rfl)<|Jd<|Jc<|?_
    revert H20
    refine ci (decide (x50_2 < (a0.kal.length : Int))) rfl (fun hb H21=>?_) fun hb H26=>?_
    ·refine Jp<|Jc<|J0<|Jc<|Ja<|?_
     obtain ⟨t52, h_t52, H22⟩ := Je H21; clear H21
     refine lv (Q2 Try.underlying31 Try.sizeOf24 rfl rfl f0_1.frs (f0_1.ix h_t52))<|Xn (fun w hF hS => Qt (f := (elC h v0_1 1)) (i := x50_2) (sz := 1) (j := 0) (v := (Xj h v0_1 1 (Int.toNat x50_2) 0)) isAgg24 rfl rfl (f0_1.frs.row (hw.now hF)) (f0_1.ix h_t52) (Jat (Wm (f0_1.at h_t52)) rfl)) rfl rfl rfl<|ag ((Xj h v0_1 1 (Int.toNat x50_2) 0))<|Jd<|Jc<|Ja<|mv (pz b7)<|mv ((Xj h v0_1 1 (Int.toNat x50_2) 0))<|?_
     obtain ⟨t57, h_t57, H23⟩ := Je H22; clear H22
     refine bo 0 1 rfl rfl ?_
     refine Qf (Jw (i := 0) (rds := []) rfl (fun w L' S hF hS hi hp hlt ho hA => k57 (a0 := (⟨m_3, l_4⟩ : Te)) hp hlt (Qb w S) rfl ((show FrN h 6 (Xj h v0_1 1 (Int.toNat x50_2) 0) g_tag_Entry t52 from (f0_1.at h_t52)).mono (hw.but hF ho)) h_t57) call57 rfl) rfl rfl rfl (fun p_7 => ?_)
     refine ub 0 1 rfl rfl<|mv (.tuple #[i6 t57.1, i6 t57.2.1])<|lv (J7 (v := i6 t57.1) rfl rfl)<|lv (J7 (v := i6 t57.2.1) rfl rfl)<|ag (i6 t57.1)<|ag (i6 t57.2.1)<|Jd<|Jc<|Ja<|mv (pz b7)<|mv (i6 x4_2)<|mv (i6 t57.1)<|?_
     obtain ⟨t63, h_t63, H24⟩ := Je H23; clear H23
     refine bo 0 1 rfl rfl ?_
     refine Qf (Jw (i := 0) (rds := []) rfl (fun w L' S hF hS hi hp hlt ho hA => k18 hp hlt (Qb w S) rfl h_t63) call18 rfl) rfl rfl rfl (fun p_8 => ?_)
     refine ub 0 1 rfl rfl<|Jd<|Ja<|mv (i6 t57.2.1)<|ag (i6 t57.2.1)<|Jd<|Ja<|?_
     obtain ⟨t65, h_t65, H25⟩ := Je H24; clear H24
     refine lv (J4 rfl rfl h_t65)<|mv (i6 t65)<|Jd<|?_
     exact cl (t57.2.1, t65, t63.kab, t63.kak) p_8 m3 [0, 1] (by exact ⟨(by subst hn3; exact H25), trivial⟩)
    ·refine Xy ?_
     exact cl (m_3, l_4) p_6 0 [0, 1] (by exact ⟨H26, trivial⟩)
   ·rintro ⟨m, l_2⟩ p_5 gg H19 _
    try dsimp only at H19
    try dsimp only
    refine Jc<|Ja<|mv (pz b7)<|lv (Ji rfl)<|lf Try.runUnderlying57 rfl Try.sizeOf55 rfl<|ll 0 (sl p_5 l_2.length) Try.isAgg55<|Xn (fun w hF hS => Jhg (f := Yd) (xs := l_2) rfl Try.underlying55 Try.underlying5 Try.underlying9 rfl (fun _ => rfl) (Jek (i := 1) hS rfl)) rfl rfl rfl<|ag (str (Wn l_2))<|Jd<|Jr<|?_
    obtain rfl := sj H19
    exact r1 (str (Wn l_2))
   ) (by kernel_rfl)
theorem k8 {a0 : Tg} {v0_1 : Value} {r : (List UInt8) × Int} {w : World} {h : Jt} (hw : Know h w Z2) (f0_1 : FrN h 1 v0_1 gs_tag_Entry a0.kal) (H : Jb6 a0 = some r) : Does prog 8 (List.toArray [.agg #[.bool a0.Big, v0_1]]) w (fun v w' => v = (.tuple #[str r.1, i6 r.2]) ∧ Grow w w') := by
 refine enter (n := 12) func8 rfl rfl rfl Z2 [] (Sat.nil _ _)<|Jc<|Ja<|?_
 refine We (cs := [.bool a0.Big, v0_1]) rfl rfl rfl rfl (fun b1 => ?_)
 refine ag (str [])<|ag (i6 0)<|Jd<|Jc<|Jc<|Ja<|Q1 (i := 0) (vs := [.bool a0.Big, v0_1]) Try.isAgg33 Try.sizeOf33 rfl rfl rfl rfl rfl<|?_
 obtain ⟨t6, h_t6, H5⟩ := Je H; clear H
 refine Qg (fun w hF hS => k24 (Jm w) (f0_1.mono (hw.now hF)) h_t6) call24 rfl rfl rfl<|ag (i6 t6)<|Jd<|Jc<|Ja<|mv (i6 t6)<|lv (Yn rfl rfl)<|Jd<|?_
 revert H5
 refine ci (decide (t6 ≠ 0)) rfl (fun hb H6=>?_) fun hb H7=>?_
 ·refine Jc<|Ja<|mv (i6 t6)<|ag (str [])<|ag (i6 t6)<|Jd<|Jr<|?_
  obtain rfl := sj H6
  refine Jah (v1 := str []) (v2 := i6 t6) rfl rfl rfl (fin rfl)
 ·refine Jp<|Jc<|Ja<|Q1 (i := 0) (vs := [.bool a0.Big, v0_1]) Try.isAgg33 Try.sizeOf33 rfl rfl rfl rfl rfl<|?_
  obtain ⟨t11, h_t11, H8⟩ := Je H7; clear H7
  refine Qg (fun w hF hS => k31 (Jm w) (f0_1.mono (hw.now hF)) h_t11) call31 rfl rfl rfl<|ag (str t11)<|ag (i6 0)<|Jd<|Jr<|?_
  obtain rfl := sj H8
  refine Jah (v1 := str t11) (v2 := i6 0) rfl rfl rfl (fin rfl)
end Go.Proofs.Ythljoadplekgnaa

namespace Go.Proofs.Ythljoadplekgnaa
open Go Go.Vc Go.Md Go.M Go.Lx Try
set_option maxRecDepth 100000
set_option maxHeartbeats 4000000
theorem k33 {q0 : (List (List Int))} {pbq0 : Nat} {pq0 : AN} {a0 : (List Int)} {v0 : Value} {r : (List (List Int))} {w : World} {h : Jt} {S : Nat → Prop} (hcs : (Jv (Jf pbq0 [sl pq0 q0.length] 38) (Vw 22 1 gs_int (sl pq0 q0.length) q0.length q0)).P S w) (hlt : ∀ b, S b → b < w.heap.size) (hw : Know h w S) (f0 : FrS h 1 v0 (a0.map Qa)) (H : Wa q0 a0 = some r) : Does prog 33 (List.toArray [v0, pz pbq0]) w (fun v w' => ∃ x : AN, v = (.tuple #[]) ∧ Turn w w' S (Jv (Jf pbq0 [sl x r.length] 38) (Vw 22 1 gs_int (sl x r.length) r.length r))) := by
 refine enter (n := 9) func33 rfl rfl rfl S [Jv (Jf pbq0 [sl pq0 q0.length] 38) (Vw 22 1 gs_int (sl pq0 q0.length) q0.length q0)] (Sat.one hcs hlt)<|Qj 0 rfl<|X7 Xo<|?_
 refine Jbt 1 rfl (fun hp css hn pf => ?_)
 rw [hn]
 try dsimp only [z1,z2,z5,z6,z7,z8]
 refine Qj 1 rfl ?_
 try dsimp only [z1,z2,z5,z6,z7,z8]
 refine Yi 2 1 rfl rfl (by decide) (fun _ _ => Xb) (fun hp_2 hle hle_2 => ?_)
 exact Qc (Kd.d [0] _ :: Kd.p :: Kd.t 4 [2] _ _ :: Kd.dv 5 [4] (clipV 1) :: Kd.nsv 6 5 1 (fun v_ => [v_]) 22 :: Kd.tv 22 3 [5] _ _ :: Kd.sv 1 8 0 _ 38 :: []) 2 mixed (by
  refine dl (sl pq0 css.length) isAgg38<|dm v0<|?_
  have h_t5 := Jx H
  have H3 := Jq H
  refine Ja8 (Cv := fun v => J3 3 1 v (val (Jj a0)).length ((val (Jj a0)).map Qa)) (none, 0) (Qs (fun w L' hF hS hi => k35 (Jm w) (f0.mono (hw.now hF)) h_t5) call35 rfl) (fun _ => rfl) rfl rfl rfl (fun p => ?_)
  refine d_callDV (a := 5) (v := .slice (Xg p.1 0 (val (Jj a0)).length 1) (val (Jj a0)).length (val (Jj a0)).length) rfl (fun w L' hF hS hi => k34 (a := p.1) (n := (val (Jj a0)).length) (c := p.2) (capOf (i := 4) hS ((hi 4 (by simp)).trans rfl)) w) call34 rfl rfl ?_
  refine d_newSV (x := .slice (Xg p.1 0 (val (Jj a0)).length 1) (val (Jj a0)).length (val (Jj a0)).length) (cs := fun v_ => [v_]) (cs0 := [.slice (Xg p.1 0 (val (Jj a0)).length 1) (val (Jj a0)).length (val (Jj a0)).length]) rfl rfl rfl rfl (Zd (vs := [.slice (Xg p.1 0 (val (Jj a0)).length 1) (val (Jj a0)).length (val (Jj a0)).length]) (cs := [.slice (Xg p.1 0 (val (Jj a0)).length 1) (val (Jj a0)).length (val (Jj a0)).length]) Try.underlying38 Try.sizeOf22 zeroValue22 rfl rfl rfl rfl rfl) rfl (fun b1 => ?_)
  have h_l8 := Jx H3
  have H4 := Jq H3
  refine d_turnV (u := .slice (Xg p.1 0 (val (Jj a0)).length 1) (val (Jj a0)).length (val (Jj a0)).length) (G := fun u_ (x_ : AN) => sl x_ (css ++ [[u_]]).length) (Cv := fun u_ v_ => J3 22 1 v_ (css ++ [[u_]]).length ((css ++ [[u_]]).map idC)) (none, 0) rfl (Jad (i := 3) (k := 5) (p := pq0) (f := idC) (ys := css) (ls := [[.slice (Xg p.1 0 (val (Jj a0)).length 1) (val (Jj a0)).length (val (Jj a0)).length]]) Try.underlying38 (Qu typeInfo22) rfl rfl rfl rfl rfl rfl rfl rfl rfl rfl rfl rfl rfl rfl rfl (app63 ((pf.mono hle_2).app h_l8 (nc := [[.slice (Xg p.1 0 (val (Jj a0)).length 1) (val (Jj a0)).length (val (Jj a0)).length]]) rfl)) rfl) (fun _ => rfl) rfl rfl (fun p_2 => ?_)
  refine Vx (i := 0) (vs := [.slice p_2.1 ((css ++ [[Value.slice (Xg p.1 0 (val (Jj a0)).length 1) (val (Jj a0)).length (val (Jj a0)).length]]).length) p_2.2]) (cs' := fun v_ => [v_]) sizeOf38 rfl rfl rfl rfl rfl rfl rfl rfl rfl<|X2<|Xl 4 rfl (Jep _ _ _ _ _ _)<|?_
  try dsimp only [z1,z2,z5,z6,z7,z8]
  refine Ua (Φ := fun H_ => FrS H_ 1 (.slice (Xg p.1 0 (val (Jj a0)).length 1) (val (Jj a0)).length (val (Jj a0)).length) ((val (Jj a0)).map Qa)) 2 4 rfl rfl (by decide) (fun _ _ => Xb) (fz_ro _) (fun hp_3 hle_3 hf => ?_)
  have pf_2 : AllC gs_int hp_3 1 (css ++ [[Value.slice (Xg p.1 0 (val (Jj a0)).length 1) (val (Jj a0)).length (val (Jj a0)).length]]) (val (Xd 24 q0 ([(val (Jj a0))] : List (List Int)))) := AllC.snocG ((pf.mono hle_2).mono hle_3) h_l8 rfl hf
  try dsimp only [z1,z2,z5,z6,z7,z8]
  obtain rfl := sj H4
  refine bo 2 3 rfl rfl<|Xl 2 rfl (Zc (p := p_2) rfl pf_2)<|bo 0 2 rfl rfl<|?_
  refine Je4 rfl (Y9 p_2 (i := 0) rfl (by first | rfl | rw [(show ((css ++ [[Value.slice (Xg p.1 0 (val (Jj a0)).length 1) (val (Jj a0)).length (val (Jj a0)).length]]).length) = (val (Xd 24 q0 ([(val (Jj a0))] : List (List Int)))).length from pf_2.len)]) (by first | exact Imp.refl _ | exact Imp.of (by rw [(show ((css ++ [[Value.slice (Xg p.1 0 (val (Jj a0)).length 1) (val (Jj a0)).length (val (Jj a0)).length]]).length) = (val (Xd 24 q0 ([(val (Jj a0))] : List (List Int)))).length from pf_2.len)] <;> rfl)))
  ) (by kernel_rfl)
theorem k71 {a0 : (List Tf)} {v0 : Value} {a1 : (List Tf)} {v1 : Value} {r : Bool} {w : World} {h : Jt} (hw : Know h w Z2) (f0 : FrS h 2 v0 (a0.map Jl)) (f1 : FrS h 2 v1 (a1.map Jl)) (H : Vh a0 a1 = some r) : Does prog 71 (List.toArray [v0, v1]) w (fun v w' => v = (.bool r) ∧ Grow w w') := by
 refine enter (n := 26) func71 rfl rfl rfl Z2 [] (Sat.nil _ _)<|Jc<|Ja<|ag (.bool false)<|Jd<|Jc<|Jc<|Ja<|mv v0<|lv (Va Try.underlying23 rfl f0 rfl)<|mv v1<|lv (Va Try.underlying23 rfl f1 rfl)<|lv (Yn rfl rfl)<|Jd<|?_
 revert H
 refine ci (decide ((a0.length : Int) ≠ (a1.length : Int))) rfl (fun hb H11=>?_) fun hb H12=>?_
 ·refine Jc<|Ja<|ag (.bool false)<|Jd<|Jr<|?_
  obtain rfl := sj H11
  exact r1 (.bool false)
 ·refine Jp<|Jc<|Jc<|Ja<|mv v0<|lv (Va Try.underlying23 rfl f0 rfl)<|mv (i6 0)<|Jd<|J0<|?_
  refine Zz (σ := Int) (τ := Unit) (fun next1 s => Ya a0 a1 next1 s) (fun s t => [(0, v0), (1, v1), (12, i6 (a0.length : Int)), (13, i6 s)]) (fun s t => []) (fun s t => True) 0 () [] H12 (by exact trivial) (by exact ⟨rfl, rfl, rfl, rfl, trivial⟩) (by decide) rfl ?_
  rintro x13_2 _ m1 gg H13 _
  clear H12
  try dsimp only at H13
  generalize hn1 : it (fun next1 s => Ya a0 a1 next1 s) m1 = next1 at H13
  try dsimp only
  refine Jc<|Ja<|lv (Ym rfl rfl)<|Jd<|Jc<|?_
  revert H13
  refine ci (decide (x13_2 < (a0.length : Int))) rfl (fun hb H14=>?_) fun hb H20=>?_
  ·refine Jp<|Jc<|J0<|Jc<|Ja<|mv (i6 x13_2)<|ag (i6 x13_2)<|Jd<|Jc<|?_
   exact Qc (Kd.p :: Kd.p :: Kd.p :: Kd.d [] _ :: Kd.p :: Kd.p :: Kd.p :: Kd.d [] _ :: Kd.p :: []) 0 mixed (by
    refine dm v0<|dm (i6 x13_2)<|?_
    have h_t18 := Jx H14
    have H15 := Jq H14
    refine dv (Q2 Try.underlying23 Try.sizeOf46 rfl rfl f0 h_t18)<|Ze (fun w hF => Y2 (f := Jl) (i := x13_2) (sz := 2) (j := 0) (vs := [i6 (val (Q9 a0 x13_2)).Num, i6 (val (Q9 a0 x13_2)).Den]) isAgg46 Try.sizeOf46 rfl rfl (f0.row (hw.now hF)) h_t18 rfl) rfl rfl<|dm v1<|dm (i6 x13_2)<|?_
    have h_t22 := Jx H15
    have H16 := Jq H15
    refine dv (Q2 Try.underlying23 Try.sizeOf46 rfl rfl f1 h_t22)<|Ze (fun w hF => Y2 (f := Jl) (i := x13_2) (sz := 2) (j := 0) (vs := [i6 (val (Q9 a1 x13_2)).Num, i6 (val (Q9 a1 x13_2)).Den]) isAgg46 Try.sizeOf46 rfl rfl (f1.row (hw.now hF)) h_t22 rfl) rfl rfl<|dv (r_neqA (xs := #[i6 (val (Q9 a0 x13_2)).Num, i6 (val (Q9 a0 x13_2)).Den]) (ys := #[i6 (val (Q9 a1 x13_2)).Num, i6 (val (Q9 a1 x13_2)).Den]) eqGuardType46 (fun w => Jc4 w (val (Q9 a0 x13_2)) (val (Q9 a1 x13_2))) rfl rfl)<|X2<|?_
    revert H16
    refine ci (!(Vd (val (Q9 a0 x13_2)) (val (Q9 a1 x13_2)))) rfl (fun hb H17=>?_) fun hb H18=>?_
    ·refine Jc<|Ja<|ag (.bool false)<|Jd<|Jr<|?_
     obtain rfl := sj H17
     exact r1 (.bool false)
    ·refine Jp<|Ja<|?_
     obtain ⟨t25, h_t25, H19⟩ := Je H18; clear H18
     refine lv (J4 rfl rfl h_t25)<|mv (i6 t25)<|Jd<|?_
     exact cl t25 () m1 [] (by exact ⟨(by subst hn1; exact H19), trivial⟩)
    ) (by kernel_rfl)
  ·refine Xy<|Jc<|Ja<|ag (.bool true)<|Jd<|Jr<|?_
   obtain rfl := sj H20
   exact r1 (.bool true)
theorem k58 {a0 : Td} {v0_2 : Value} {v0_3 : Value} {v0_4 : Value} {a1 : Td} {v1_2 : Value} {v1_3 : Value} {v1_4 : Value} {r : Bool} {w : World} {h : Jt} (hw : Know h w Z2) (f0_2 : FrS h 1 v0_2 (a0.kaj.map Qa)) (f0_3 : FrS h 2 v0_3 (a0.kag.map Jl)) (f0_4 : FrN h 6 v0_4 g_tag_Entry a0.kaf) (f1_2 : FrS h 1 v1_2 (a1.kaj.map Qa)) (f1_3 : FrS h 2 v1_3 (a1.kag.map Jl)) (f1_4 : FrN h 6 v1_4 g_tag_Entry a1.kaf) (H : Jbg a0 a1 = some r) : Does prog 58 (List.toArray [.agg #[i6 a0.kah, str a0.kai, v0_2, v0_3, v0_4], .agg #[i6 a1.kah, str a1.kai, v1_2, v1_3, v1_4]]) w (fun v w' => v = (.bool r) ∧ Grow w w') := by
 refine enter (n := 31) func58 rfl rfl rfl Z2 [] (Sat.nil _ _)<|Jc<|Ja<|?_
 refine We (cs := [i6 a0.kah, str a0.kai, v0_2, v0_3, v0_4]) rfl rfl rfl rfl (fun b2 => ?_)
 refine We (cs := [i6 a1.kah, str a1.kai, v1_2, v1_3, v1_4]) rfl rfl rfl rfl (fun b3 => ?_)
 refine ag (.bool false)<|Jd<|Jc<|Ja<|lf Try.runUnderlying26 rfl Try.sizeOf3 rfl<|ll 0 (i6 a0.kah) Try.isAgg3<|lf Try.runUnderlying26 rfl Try.sizeOf3 rfl<|ll 1 (i6 a1.kah) Try.isAgg3<|lv (Xe rfl rfl)<|mv (.bool (decide (a0.kah = a1.kah)))<|?_
 revert H
 refine sp (fun hb H9=>?_) fun hb H16=>?_
 ·refine lf Try.runUnderlying26 rfl Try.sizeOf9 rfl<|ll 0 (str a0.kai) Try.isAgg9<|lf Try.runUnderlying26 rfl Try.sizeOf9 rfl<|ll 1 (str a1.kai) Try.isAgg9<|lv (Jhe rfl rfl)<|pT (.bool (decide (a0.kai = a1.kai)))<|mv (.bool (decide (a0.kai = a1.kai)))<|?_
  revert H9
  refine sp (fun hb H10=>?_) fun hb H15=>?_
  ·refine lf Try.runUnderlying26 rfl Try.sizeOf22 rfl<|ll 0 v0_2 isAgg22<|lf Try.runUnderlying26 rfl Try.sizeOf22 rfl<|ll 1 v1_2 isAgg22<|?_
   obtain ⟨t22, h_t22, H11⟩ := Je H10; clear H10
   refine Qg (fun w hF hS => k10 (Jm w) (f0_2.mono (hw.now hF)) (f1_2.mono (hw.now hF)) h_t22) call10 rfl rfl rfl<|pT (.bool t22)<|mv (.bool t22)<|?_
   revert H11
   refine sp (fun hb H12=>?_) fun hb H14=>?_
   ·refine lf Try.runUnderlying26 rfl Try.sizeOf23 rfl<|ll 0 v0_3 isAgg23<|lf Try.runUnderlying26 rfl Try.sizeOf23 rfl<|ll 1 v1_3 isAgg23<|?_
    obtain ⟨t29, h_t29, H13⟩ := Je H12; clear H12
    refine Qg (fun w hF hS => k71 (Jm w) (f0_3.mono (hw.now hF)) (f1_3.mono (hw.now hF)) h_t29) call71 rfl rfl rfl<|pT (.bool t29)<|ag (.bool t29)<|Jd<|Jr<|?_
    obtain rfl := sj H13
    exact r1 (.bool t29)
   ·refine pa<|pa<|pa<|pa<|pa<|pF (.bool false)<|ag (.bool false)<|Jd<|Jr<|?_
    obtain rfl := sj H14
    exact r1 (.bool false)
  ·refine pa<|pa<|pa<|pa<|pa<|pF (.bool false)<|mv (.bool false)<|pa<|pa<|pa<|pa<|pa<|pF (.bool false)<|ag (.bool false)<|Jd<|Jr<|?_
   obtain rfl := sj H15
   exact r1 (.bool false)
 ·refine pa<|pa<|pa<|pa<|pa<|pF (.bool false)<|mv (.bool false)<|pa<|pa<|pa<|pa<|pa<|pF (.bool false)<|mv (.bool false)<|pa<|pa<|pa<|pa<|pa<|pF (.bool false)<|ag (.bool false)<|Jd<|Jr<|?_
  obtain rfl := sj H16
  exact r1 (.bool false)
theorem k32_it (mm : Nat) : ∀ {a0 : (List Ta)} {v0 : Value} {a1 : (List Ta)} {v1 : Value} {a2 : (List Int)} {v2 : Value} {a3 : (List (List Int))} {pb3 : Nat} {p3 : AN} {r : (List (List Int))} {w : World} {h : Jt} {S : Nat → Prop} (hcs : (Jv (Jf pb3 [sl p3 a3.length] 38) (Vw 22 1 gs_int (sl p3 a3.length) a3.length a3)).P S w) (hlt : ∀ b, S b → b < w.heap.size) (hw : Know h w S) (f0 : FrN h 6 v0 g_tag_Entry a0) (f1 : FrN h 6 v1 g_tag_Entry a1) (f2 : FrS h 1 v2 (a2.map Qa)) (H : it (fun (self : ((List Ta) × (List Ta) × (List Int) × (List (List Int))) → Option ((List (List Int)))) (s : (List Ta) × (List Ta) × (List Int) × (List (List Int))) => Zq self s.1 s.2.1 s.2.2.1 s.2.2.2) mm (a0, a1, a2, a3) = some r), Does prog 32 (List.toArray [v0, v1, v2, .func (.func 33) #[] #[pz pb3]]) w (fun v w' => ∃ x : AN, v = (.tuple #[]) ∧ Turn w w' S (Jv (Jf pb3 [sl x r.length] 38) (Vw 22 1 gs_int (sl x r.length) r.length r))) := by
 induction mm with
 | zero => intros; rename_i H; exact absurd H (by simp [it])
 | succ mm ih =>
  intro a0 v0 a1 v1 a2 v2 a3 pb3 p3 r w h S hcs hlt hw f0 f1 f2 H
  replace H : Zq (it (fun (self : ((List Ta) × (List Ta) × (List Int) × (List (List Int))) → Option ((List (List Int)))) (s : (List Ta) × (List Ta) × (List Int) × (List (List Int))) => Zq self s.1 s.2.1 s.2.2.1 s.2.2.2) mm) a0 a1 a2 a3 = some r := H
  generalize it (fun (self : ((List Ta) × (List Ta) × (List Int) × (List (List Int))) → Option ((List (List Int)))) (s : (List Ta) × (List Ta) × (List Int) × (List (List Int))) => Zq self s.1 s.2.1 s.2.2.1 s.2.2.2) mm = self at H ih
  refine enter (n := 136) func32 rfl rfl rfl S [Jv (Jf pb3 [sl p3 a3.length] 38) (Vw 22 1 gs_int (sl p3 a3.length) a3.length a3)] (Sat.one hcs hlt)<|Qj 0 rfl<|Jc<|Ja<|ag (i6 0)<|ag (i6 0)<|Jd<|J0<|?_
  refine Zz (σ := Int × Int × (List (List Int))) (τ := AN) (fun next1 s => Z0 a0 a1 a2 self next1 s.1 s.2.1 s.2.2) (fun s t => [(0, v0), (1, v1), (2, v2), (3, .func (.func 33) #[] #[pz pb3]), (8, i6 s.1), (9, i6 s.2.1)]) (fun s t => [Jf pb3 [sl t s.2.2.length] 38, Vw 22 1 gs_int (sl t s.2.2.length) s.2.2.length s.2.2]) (fun s t => True) (0, 0, a3) p3 [0, 1] H (by exact trivial) (by exact ⟨rfl, rfl, rfl, rfl, rfl, rfl, trivial⟩) (by decide) rfl ?_
  rintro ⟨x8_2, x9_2, l_2⟩ p m1 gg H48 _
  clear H
  try dsimp only at H48
  generalize hn1 : it (fun next1 s => Z0 a0 a1 a2 self next1 s.1 s.2.1 s.2.2) m1 = next1 at H48
  try dsimp only
  refine Qx (r := r) (σ := Unit) (τ := Unit) (fun s => Ui a0 a1 a2 self x8_2 x9_2 l_2 next1) (fun s t => [(0, v0), (1, v1), (2, v2), (3, .func (.func 33) #[] #[pz pb3]), (8, i6 x8_2), (9, i6 x9_2)]) (fun s t => [Jf pb3 [sl p l_2.length] 38, Vw 22 1 gs_int (sl p l_2.length) l_2.length l_2]) (fun s t => True) ?_ ?_
  ·refine Jc<|Ja<|mv (i6 x8_2)<|mv v0<|lv (Yw Try.underlying24 rfl f0)<|lv (Ym rfl rfl)<|mv (.bool (decide (x8_2 < (a0.length : Int))))<|?_
   revert H48
   refine sp (fun hb H91=>?_) fun hb H92=>?_
   ·refine pa<|pa<|pa<|pa<|pT (.bool true)<|Jd<|Ve rfl<|Jp<|?_
    exact cl () () 0 [0, 1] (by exact ⟨H91, trivial⟩)
   ·refine mv (i6 x9_2)<|mv v1<|lv (Yw Try.underlying24 rfl f1)<|lv (Ym rfl rfl)<|pF (.bool (decide (x9_2 < (a1.length : Int))))<|Jd<|?_
    revert H92
    refine ci (decide (x9_2 < (a1.length : Int))) rfl (fun hb H93=>?_) fun hb H94=>?_
    ·refine Jp ?_
     exact cl () () 0 [0, 1] (by exact ⟨H93, trivial⟩)
    ·refine Xy ?_
     obtain rfl := sj H94
     refine bo 0 1 rfl rfl ?_
     refine Je4 rfl (Y9 p (i := 0) rfl rfl (Imp.refl _))
  ·rintro _ _ gg H49 _
   try dsimp only at H49
   try dsimp only
   refine J0<|J0<|?_
   refine Qx (r := r) (σ := Bool) (τ := Unit) (fun s => Vl a0 a1 a2 self x8_2 x9_2 l_2 next1 s) (fun s t => [(0, v0), (1, v1), (2, v2), (3, .func (.func 33) #[] #[pz pb3]), (8, i6 x8_2), (9, i6 x9_2), (68, .bool s)]) (fun s t => [Jf pb3 [sl p l_2.length] 38, Vw 22 1 gs_int (sl p l_2.length) l_2.length l_2]) (fun s t => True) ?_ ?_
   ·exact Qc (Kd.p :: Kd.p :: Kd.p :: Kd.p :: Kd.p :: Kd.p :: Kd.p :: Kd.p :: Kd.p :: Kd.p :: Kd.p :: Kd.p :: Kd.p :: Kd.p :: Kd.d [] _ :: Kd.p :: Kd.p :: Kd.p :: Kd.p :: Kd.d [] _ :: Kd.p :: Kd.p :: Kd.p :: Kd.p :: []) 0 mixed (by
     refine dm (i6 x9_2)<|dm v1<|dv (Yw Try.underlying24 rfl f1)<|dv (Xe rfl rfl)<|dm (.bool (decide (x9_2 = (a1.length : Int))))<|?_
     refine Jee (fun hb => ?_) (fun hb => ?_)
     ·have H85 := Jbm hb H49
      refine dp<|dp<|dp<|dp<|dp<|dp<|dp<|dp<|dp<|dp<|dp<|dp<|dp<|dp<|dp<|dp<|dp<|dv (Jbz (v := .bool true) rfl rfl)<|Qr rfl rfl (Jy (v := .bool true) rfl)<|X2<|?_
      exact cl true () 0 [0, 1] (by exact ⟨H85, trivial⟩)
     ·have H86 := Jbr hb H49
      refine dm (i6 x8_2)<|dm v0<|dv (Yw Try.underlying24 rfl f0)<|dv (Ym rfl rfl)<|dm (.bool (decide (x8_2 < (a0.length : Int))))<|?_
      refine Jee (fun hb => ?_) (fun hb => ?_)
      ·have H87 := Jbm hb H86
       refine dm v0<|dm (i6 x8_2)<|?_
       have h_t81 := Jx H87
       have H88 := Jq H87
       refine dv (Q2 Try.underlying24 Try.sizeOf72 rfl rfl f0.frs (f0.ix h_t81))<|dv (Wt Try.runUnderlying72 rfl Try.sizeOf3 rfl rfl (Z9 f0.frs (f0.ix h_t81)))<|Ze (fun w hF => Qt (f := (elC h v0 6)) (i := x8_2) (sz := 6) (j := 0) (v := i6 (val (Q9 a0 x8_2)).Tag) Try.isAgg3 rfl rfl (f0.frs.row (hw.now hF)) (f0.ix h_t81) (Jat (Qy (f0.at h_t81)) rfl)) rfl rfl<|dm v1<|dm (i6 x9_2)<|?_
       have h_t86 := Jx H88
       have H89 := Jq H88
       refine dv (Q2 Try.underlying24 Try.sizeOf72 rfl rfl f1.frs (f1.ix h_t86))<|dv (Wt Try.runUnderlying72 rfl Try.sizeOf3 rfl rfl (Z9 f1.frs (f1.ix h_t86)))<|Ze (fun w hF => Qt (f := (elC h v1 6)) (i := x9_2) (sz := 6) (j := 0) (v := i6 (val (Q9 a1 x9_2)).Tag) Try.isAgg3 rfl rfl (f1.frs.row (hw.now hF)) (f1.ix h_t86) (Jat (Qy (f1.at h_t86)) rfl)) rfl rfl<|dv (Ym rfl rfl)<|dv (Jbz (v := .bool (decide ((val (Q9 a0 x8_2)).Tag < (val (Q9 a1 x9_2)).Tag))) rfl rfl)<|dv (Jbj (v := .bool (decide ((val (Q9 a0 x8_2)).Tag < (val (Q9 a1 x9_2)).Tag))) rfl rfl)<|Qr rfl rfl (Jy (v := .bool (decide ((val (Q9 a0 x8_2)).Tag < (val (Q9 a1 x9_2)).Tag))) rfl)<|X2<|?_
       exact cl (decide ((val (Q9 a0 x8_2)).Tag < (val (Q9 a1 x9_2)).Tag)) () 0 [0, 1] (by exact ⟨H89, trivial⟩)
      ·have H90 := Jbr hb H86
       refine dp<|dp<|dp<|dp<|dp<|dp<|dp<|dp<|dp<|dp<|dp<|dv (Jbj (v := .bool false) rfl rfl)<|dv (Jbj (v := .bool false) rfl rfl)<|Qr rfl rfl (Jy (v := .bool false) rfl)<|X2<|?_
       exact cl false () 0 [0, 1] (by exact ⟨H90, trivial⟩)
     ) (by kernel_rfl)
   ·rintro x68 _ gg H50 _
    try dsimp only at H50
    try dsimp only
    revert H50
    refine ci x68 rfl (fun hb H51=>?_) fun hb H56=>?_
    ·refine Jc ?_
     exact Qc (Kd.p :: Kd.p :: Kd.d [] _ :: Kd.p :: Kd.p :: Kd.p :: Kd.p :: Kd.d [] _ :: Kd.ns 2 [_] 3 1 :: Kd.t 3 [2] _ _ :: Kd.t2 0 1 [3] _ _ :: []) 2 mixed (by
      refine dm (.func (.func 33) #[] #[pz pb3])<|dm v2<|Jdx (kF34 f2) call34 rfl rfl<|dm v0<|dm (i6 x8_2)<|?_
      have h_t97 := Jx H51
      have H52 := Jq H51
      refine dv (Q2 Try.underlying24 Try.sizeOf72 rfl rfl f0.frs (f0.ix h_t97))<|dv (Wt Try.runUnderlying72 rfl Try.sizeOf3 rfl rfl (Z9 f0.frs (f0.ix h_t97)))<|Ze (fun w hF => Qt (f := (elC h v0 6)) (i := x8_2) (sz := 6) (j := 0) (v := i6 (val (Q9 a0 x8_2)).Tag) Try.isAgg3 rfl rfl (f0.frs.row (hw.now hF)) (f0.ix h_t97) (Jat (Qy (f0.at h_t97)) rfl)) rfl rfl<|?_
      refine Jfz rfl rfl (Zd (vs := [i6 (val (Q9 a0 x8_2)).Tag]) (cs := [i6 (val (Q9 a0 x8_2)).Tag]) Try.underlying22 Try.sizeOf3 zeroValue3 rfl rfl rfl rfl rfl) rfl (fun b5 => ?_)
      have h_l101 := Jx H52
      have H53 := Jq H52
      refine Ja8 (Cv := fun v => J3 3 1 v (val (Xd 8 a2 ([(val (Q9 a0 x8_2)).Tag] : List Int))).length ((val (Xd 8 a2 ([(val (Q9 a0 x8_2)).Tag] : List Int))).map Qa)) (none, 0) (Jfq (sz := 1) (by_ := 8) (f := Qa) (ys := a2) (ls := ([(val (Q9 a0 x8_2)).Tag] : List Int)) (V := .slice (some ⟨b5, 0, none⟩) 1 1) (rds := [2]) Try.underlying22 (Qu typeInfo3) rfl rfl rfl rfl rfl rfl f2 (fun w hF => hw.now hF) rfl rfl rfl (Nat.succ_pos _) (fun w L' hF hS hi => Z8 (i := 2) hS ((hi 2 (by simp)).trans rfl) rfl rfl) (fun _ => rfl) (fun _ => rfl) h_l101) (fun _ => rfl) rfl rfl rfl (fun p_2 => ?_)
      have h_t102 := Jx H53
      have H54 := Jq H53
      refine Jg0 (i := 0) (j := 1) (Jb0 (caps := #[pz pb3]) (args := [.slice p_2.1 (val (Xd 8 a2 ([(val (Q9 a0 x8_2)).Tag] : List Int))).length p_2.2]) (i := 0) (rds := _) rfl (fun w L' S hF hS hi hp hlt ho hA => k33 hp hlt (Qb w S) (Jdj (j := 3) rfl hA hS (by decide) ((hi 3 (by simp)).trans rfl)) h_t102) call33 rfl rfl) rfl rfl (by decide) (by decide) rfl rfl<|X2<|?_
      refine c_ex 0 rfl (fun p_3 => ?_)
      refine ub 0 1 rfl rfl<|Ja<|mv (i6 x8_2)<|?_
      obtain ⟨t104, h_t104, H55⟩ := Je H54; clear H54
      refine lv (J4 rfl rfl h_t104)<|ag (i6 t104)<|Jd<|?_
      exact cl (t104, x9_2, (val (Wa l_2 (val (Xd 8 a2 ([(val (Q9 a0 x8_2)).Tag] : List Int)))))) p_3 m1 [0, 1] (by exact ⟨(by subst hn1; exact H55), trivial⟩)
      ) (by kernel_rfl)
    ·refine Qx (r := r) (σ := Bool) (τ := Unit) (fun s => Uk a0 a1 a2 self x8_2 x9_2 l_2 next1 s) (fun s t => [(0, v0), (1, v1), (2, v2), (3, .func (.func 33) #[] #[pz pb3]), (8, i6 x8_2), (9, i6 x9_2), (105, .bool s)]) (fun s t => [Jf pb3 [sl p l_2.length] 38, Vw 22 1 gs_int (sl p l_2.length) l_2.length l_2]) (fun s t => True) ?_ ?_
     ·exact Qc (Kd.p :: Kd.p :: Kd.p :: Kd.p :: Kd.p :: Kd.p :: Kd.p :: Kd.p :: Kd.p :: Kd.d [] _ :: Kd.p :: Kd.p :: Kd.p :: Kd.p :: Kd.d [] _ :: Kd.p :: Kd.p :: Kd.p :: []) 0 mixed (by
       refine dm (i6 x8_2)<|dm v0<|dv (Yw Try.underlying24 rfl f0)<|dv (Xe rfl rfl)<|dm (.bool (decide (x8_2 = (a0.length : Int))))<|?_
       refine Jee (fun hb => ?_) (fun hb => ?_)
       ·have H81 := Jbm hb H56
        refine dp<|dp<|dp<|dp<|dp<|dp<|dp<|dp<|dp<|dp<|dp<|dv (Jbz (v := .bool true) rfl rfl)<|Qr rfl rfl (Jy (v := .bool true) rfl)<|X2<|?_
        exact cl true () 0 [0, 1] (by exact ⟨H81, trivial⟩)
       ·have H82 := Jbr hb H56
        refine dm v1<|dm (i6 x9_2)<|?_
        have h_t113 := Jx H82
        have H83 := Jq H82
        refine dv (Q2 Try.underlying24 Try.sizeOf72 rfl rfl f1.frs (f1.ix h_t113))<|dv (Wt Try.runUnderlying72 rfl Try.sizeOf3 rfl rfl (Z9 f1.frs (f1.ix h_t113)))<|Ze (fun w hF => Qt (f := (elC h v1 6)) (i := x9_2) (sz := 6) (j := 0) (v := i6 (val (Q9 a1 x9_2)).Tag) Try.isAgg3 rfl rfl (f1.frs.row (hw.now hF)) (f1.ix h_t113) (Jat (Qy (f1.at h_t113)) rfl)) rfl rfl<|dm v0<|dm (i6 x8_2)<|?_
        have h_t118 := Jx H83
        have H84 := Jq H83
        refine dv (Q2 Try.underlying24 Try.sizeOf72 rfl rfl f0.frs (f0.ix h_t118))<|dv (Wt Try.runUnderlying72 rfl Try.sizeOf3 rfl rfl (Z9 f0.frs (f0.ix h_t118)))<|Ze (fun w hF => Qt (f := (elC h v0 6)) (i := x8_2) (sz := 6) (j := 0) (v := i6 (val (Q9 a0 x8_2)).Tag) Try.isAgg3 rfl rfl (f0.frs.row (hw.now hF)) (f0.ix h_t118) (Jat (Qy (f0.at h_t118)) rfl)) rfl rfl<|dv (Ym rfl rfl)<|dv (Jbj (v := .bool (decide ((val (Q9 a1 x9_2)).Tag < (val (Q9 a0 x8_2)).Tag))) rfl rfl)<|Qr rfl rfl (Jy (v := .bool (decide ((val (Q9 a1 x9_2)).Tag < (val (Q9 a0 x8_2)).Tag))) rfl)<|X2<|?_
        exact cl (decide ((val (Q9 a1 x9_2)).Tag < (val (Q9 a0 x8_2)).Tag)) () 0 [0, 1] (by exact ⟨H84, trivial⟩)
       ) (by kernel_rfl)
     ·rintro x105 _ gg H57 _
      try dsimp only at H57
      try dsimp only
      revert H57
      refine ci x105 rfl (fun hb H58=>?_) fun hb H63=>?_
      ·refine Jc ?_
       exact Qc (Kd.p :: Kd.p :: Kd.d [] _ :: Kd.p :: Kd.p :: Kd.p :: Kd.p :: Kd.d [] _ :: Kd.ns 2 [_] 3 1 :: Kd.t 3 [2] _ _ :: Kd.t2 0 1 [3] _ _ :: []) 2 mixed (by
        refine dm (.func (.func 33) #[] #[pz pb3])<|dm v2<|Jdx (kF34 f2) call34 rfl rfl<|dm v1<|dm (i6 x9_2)<|?_
        have h_t128 := Jx H58
        have H59 := Jq H58
        refine dv (Q2 Try.underlying24 Try.sizeOf72 rfl rfl f1.frs (f1.ix h_t128))<|dv (Wt Try.runUnderlying72 rfl Try.sizeOf3 rfl rfl (Z9 f1.frs (f1.ix h_t128)))<|Ze (fun w hF => Qt (f := (elC h v1 6)) (i := x9_2) (sz := 6) (j := 0) (v := i6 (val (Q9 a1 x9_2)).Tag) Try.isAgg3 rfl rfl (f1.frs.row (hw.now hF)) (f1.ix h_t128) (Jat (Qy (f1.at h_t128)) rfl)) rfl rfl<|?_
        refine Jfz rfl rfl (Zd (vs := [i6 (val (Q9 a1 x9_2)).Tag]) (cs := [i6 (val (Q9 a1 x9_2)).Tag]) Try.underlying22 Try.sizeOf3 zeroValue3 rfl rfl rfl rfl rfl) rfl (fun b6 => ?_)
        have h_l132 := Jx H59
        have H60 := Jq H59
        refine Ja8 (Cv := fun v => J3 3 1 v (val (Xd 8 a2 ([(val (Q9 a1 x9_2)).Tag] : List Int))).length ((val (Xd 8 a2 ([(val (Q9 a1 x9_2)).Tag] : List Int))).map Qa)) (none, 0) (Jfq (sz := 1) (by_ := 8) (f := Qa) (ys := a2) (ls := ([(val (Q9 a1 x9_2)).Tag] : List Int)) (V := .slice (some ⟨b6, 0, none⟩) 1 1) (rds := [2]) Try.underlying22 (Qu typeInfo3) rfl rfl rfl rfl rfl rfl f2 (fun w hF => hw.now hF) rfl rfl rfl (Nat.succ_pos _) (fun w L' hF hS hi => Z8 (i := 2) hS ((hi 2 (by simp)).trans rfl) rfl rfl) (fun _ => rfl) (fun _ => rfl) h_l132) (fun _ => rfl) rfl rfl rfl (fun p_4 => ?_)
        have h_t133 := Jx H60
        have H61 := Jq H60
        refine Jg0 (i := 0) (j := 1) (Jb0 (caps := #[pz pb3]) (args := [.slice p_4.1 (val (Xd 8 a2 ([(val (Q9 a1 x9_2)).Tag] : List Int))).length p_4.2]) (i := 0) (rds := _) rfl (fun w L' S hF hS hi hp hlt ho hA => k33 hp hlt (Qb w S) (Jdj (j := 3) rfl hA hS (by decide) ((hi 3 (by simp)).trans rfl)) h_t133) call33 rfl rfl) rfl rfl (by decide) (by decide) rfl rfl<|X2<|?_
        refine c_ex 0 rfl (fun p_5 => ?_)
        refine ub 0 1 rfl rfl<|Ja<|mv (i6 x9_2)<|?_
        obtain ⟨t135, h_t135, H62⟩ := Je H61; clear H61
        refine lv (J4 rfl rfl h_t135)<|ag (i6 t135)<|Jd<|?_
        exact cl (x8_2, t135, (val (Wa l_2 (val (Xd 8 a2 ([(val (Q9 a1 x9_2)).Tag] : List Int)))))) p_5 m1 [0, 1] (by exact ⟨(by subst hn1; exact H62), trivial⟩)
        ) (by kernel_rfl)
      ·refine Jc ?_
       exact Qc (Kd.p :: Kd.d [] _ :: Kd.p :: Kd.p :: Kd.p :: Kd.p :: Kd.d [] _ :: Kd.ns 2 [_] 3 1 :: Kd.t 3 [2] _ _ :: Kd.p :: []) 2 mixed (by
        refine dm v2<|Jdx (kF34 f2) call34 rfl rfl<|dm v0<|dm (i6 x8_2)<|?_
        have h_t27 := Jx H63
        have H64 := Jq H63
        refine dv (Q2 Try.underlying24 Try.sizeOf72 rfl rfl f0.frs (f0.ix h_t27))<|dv (Wt Try.runUnderlying72 rfl Try.sizeOf3 rfl rfl (Z9 f0.frs (f0.ix h_t27)))<|Ze (fun w hF => Qt (f := (elC h v0 6)) (i := x8_2) (sz := 6) (j := 0) (v := i6 (val (Q9 a0 x8_2)).Tag) Try.isAgg3 rfl rfl (f0.frs.row (hw.now hF)) (f0.ix h_t27) (Jat (Qy (f0.at h_t27)) rfl)) rfl rfl<|?_
        refine Jfz rfl rfl (Zd (vs := [i6 (val (Q9 a0 x8_2)).Tag]) (cs := [i6 (val (Q9 a0 x8_2)).Tag]) Try.underlying22 Try.sizeOf3 zeroValue3 rfl rfl rfl rfl rfl) rfl (fun b7 => ?_)
        have h_l31 := Jx H64
        have H65 := Jq H64
        refine Ja8 (Cv := fun v => J3 3 1 v (val (Xd 8 a2 ([(val (Q9 a0 x8_2)).Tag] : List Int))).length ((val (Xd 8 a2 ([(val (Q9 a0 x8_2)).Tag] : List Int))).map Qa)) (none, 0) (Jfq (sz := 1) (by_ := 8) (f := Qa) (ys := a2) (ls := ([(val (Q9 a0 x8_2)).Tag] : List Int)) (V := .slice (some ⟨b7, 0, none⟩) 1 1) (rds := [2]) Try.underlying22 (Qu typeInfo3) rfl rfl rfl rfl rfl rfl f2 (fun w hF => hw.now hF) rfl rfl rfl (Nat.succ_pos _) (fun w L' hF hS hi => Z8 (i := 2) hS ((hi 2 (by simp)).trans rfl) rfl rfl) (fun _ => rfl) (fun _ => rfl) h_l31) (fun _ => rfl) rfl rfl rfl (fun p_6 => ?_)
        refine Qr rfl rfl (Jy (v := .slice p_6.1 (val (Xd 8 a2 ([(val (Q9 a0 x8_2)).Tag] : List Int))).length p_6.2) rfl)<|X2<|?_
        refine Qx (r := r) (σ := (List (List Int))) (τ := AN) (fun s => Ue x8_2 x9_2 next1 s) (fun s t => [(0, v0), (1, v1), (2, v2), (3, .func (.func 33) #[] #[pz pb3]), (8, i6 x8_2), (9, i6 x9_2)]) (fun s t => [Jf pb3 [sl t s.length] 38, Vw 22 1 gs_int (sl t s.length) s.length s]) (fun s t => True) ?_ ?_
        ·refine Jc ?_
         exact Qc (Kd.p :: Kd.p :: Kd.p :: Kd.p :: Kd.d [] _ :: Kd.p :: Kd.p :: Kd.p :: Kd.p :: Kd.d [] _ :: Kd.nw 4 [_, _, _, _, _] 26 :: Kd.nw 5 [_, _, _, _, _] 26 :: Kd.sv 11 36 4 _ 26 :: Kd.sv 12 41 5 _ 26 :: []) 2 mixed (by
          refine dm v0<|dm (i6 x8_2)<|?_
          have h_t34 := Jx H65
          have H69 := Jq H65
          refine dv (Q2 Try.underlying24 Try.sizeOf72 rfl rfl f0.frs (f0.ix h_t34))<|dv (Wt Try.runUnderlying72 rfl Try.sizeOf26 rfl rfl (Z9 f0.frs (f0.ix h_t34)))<|Ze (fun w hF => Y2 (f := (elC h v0 6)) (i := x8_2) (sz := 6) (j := 1) (vs := [i6 (val (Q9 a0 x8_2)).Value.kah, str (val (Q9 a0 x8_2)).Value.kai, (Xj h v0 6 (Int.toNat x8_2) 3), (Xj h v0 6 (Int.toNat x8_2) 4), (Xj h v0 6 (Int.toNat x8_2) 5)]) Try.isAgg26 Try.sizeOf26 rfl rfl (f0.frs.row (hw.now hF)) (f0.ix h_t34) (Jfb (Qy (f0.at h_t34)) rfl)) rfl rfl<|dm v1<|dm (i6 x9_2)<|?_
          have h_t39 := Jx H69
          have H70 := Jq H69
          refine dv (Q2 Try.underlying24 Try.sizeOf72 rfl rfl f1.frs (f1.ix h_t39))<|dv (Wt Try.runUnderlying72 rfl Try.sizeOf26 rfl rfl (Z9 f1.frs (f1.ix h_t39)))<|Ze (fun w hF => Y2 (f := (elC h v1 6)) (i := x9_2) (sz := 6) (j := 1) (vs := [i6 (val (Q9 a1 x9_2)).Value.kah, str (val (Q9 a1 x9_2)).Value.kai, (Xj h v1 6 (Int.toNat x9_2) 3), (Xj h v1 6 (Int.toNat x9_2) 4), (Xj h v1 6 (Int.toNat x9_2) 5)]) Try.isAgg26 Try.sizeOf26 rfl rfl (f1.frs.row (hw.now hF)) (f1.ix h_t39) (Jfb (Qy (f1.at h_t39)) rfl)) rfl rfl<|?_
          refine d_new rfl rfl (Jg4 (cs := [i6 0, str [], z0s, z0s, z0s]) zeroValue26 rfl) rfl (fun b8 => ?_)
          refine d_new rfl rfl (Jg4 (cs := [i6 0, str [], z0s, z0s, z0s]) zeroValue26 rfl) rfl (fun b9 => ?_)
          refine Vx (i := 4) (vs := [i6 (val (Q9 a0 x8_2)).Value.kah, str (val (Q9 a0 x8_2)).Value.kai, (Xj h v0 6 (Int.toNat x8_2) 3), (Xj h v0 6 (Int.toNat x8_2) 4), (Xj h v0 6 (Int.toNat x8_2) 5)]) (cs' := fun v_ => [(Jab v_ 0), (Jab v_ 1), (Jab v_ 2), (Jab v_ 3), (Jab v_ 4)]) Try.sizeOf26 rfl rfl rfl rfl rfl rfl (by simp only [List.all_cons, List.all_nil, (show FrN h 6 (Xj h v0 6 (Int.toNat x8_2) 5) g_tag_Entry (val (Q9 a0 x8_2)).Value.kaf from (Qk (Jo (f0.at h_t34)))).one, (show FrS h 1 (Xj h v0 6 (Int.toNat x8_2) 3) ((val (Q9 a0 x8_2)).Value.kaj.map Qa) from (Q4 (Jo (f0.at h_t34)))).one, (show FrS h 2 (Xj h v0 6 (Int.toNat x8_2) 4) ((val (Q9 a0 x8_2)).Value.kag.map Jl) from (Q5 (Jo (f0.at h_t34)))).one] <;> rfl) rfl rfl<|Vx (i := 5) (vs := [i6 (val (Q9 a1 x9_2)).Value.kah, str (val (Q9 a1 x9_2)).Value.kai, (Xj h v1 6 (Int.toNat x9_2) 3), (Xj h v1 6 (Int.toNat x9_2) 4), (Xj h v1 6 (Int.toNat x9_2) 5)]) (cs' := fun v_ => [(Jab v_ 0), (Jab v_ 1), (Jab v_ 2), (Jab v_ 3), (Jab v_ 4)]) Try.sizeOf26 rfl rfl rfl rfl rfl rfl (by simp only [List.all_cons, List.all_nil, (show FrN h 6 (Xj h v1 6 (Int.toNat x9_2) 5) g_tag_Entry (val (Q9 a1 x9_2)).Value.kaf from (Qk (Jo (f1.at h_t39)))).one, (show FrS h 1 (Xj h v1 6 (Int.toNat x9_2) 3) ((val (Q9 a1 x9_2)).Value.kaj.map Qa) from (Q4 (Jo (f1.at h_t39)))).one, (show FrS h 2 (Xj h v1 6 (Int.toNat x9_2) 4) ((val (Q9 a1 x9_2)).Value.kag.map Jl) from (Q5 (Jo (f1.at h_t39)))).one] <;> rfl) rfl rfl<|X2<|?_
          refine Qx (r := r) (σ := Bool) (τ := Unit) (fun s => Uj self x8_2 x9_2 l_2 next1 (val (Xd 8 a2 ([(val (Q9 a0 x8_2)).Tag] : List Int))) (val (Q9 a0 x8_2)) (val (Q9 a1 x9_2)) s) (fun s t => [(0, v0), (1, v1), (2, v2), (3, .func (.func 33) #[] #[pz pb3]), (8, i6 x8_2), (9, i6 x9_2), (10, .slice p_6.1 (val (Xd 8 a2 ([(val (Q9 a0 x8_2)).Tag] : List Int))).length p_6.2), (11, pz b8), (12, pz b9), (49, .bool s)]) (fun s t => [Jf pb3 [sl p l_2.length] 38, Vw 22 1 gs_int (sl p l_2.length) l_2.length l_2, J3 3 1 (.slice p_6.1 (val (Xd 8 a2 ([(val (Q9 a0 x8_2)).Tag] : List Int))).length p_6.2) (val (Xd 8 a2 ([(val (Q9 a0 x8_2)).Tag] : List Int))).length ((val (Xd 8 a2 ([(val (Q9 a0 x8_2)).Tag] : List Int))).map Qa), Jf b8 [i6 (val (Q9 a0 x8_2)).Value.kah, str (val (Q9 a0 x8_2)).Value.kai, (Xj h v0 6 (Int.toNat x8_2) 3), (Xj h v0 6 (Int.toNat x8_2) 4), (Xj h v0 6 (Int.toNat x8_2) 5)] 26, Jf b9 [i6 (val (Q9 a1 x9_2)).Value.kah, str (val (Q9 a1 x9_2)).Value.kai, (Xj h v1 6 (Int.toNat x9_2) 3), (Xj h v1 6 (Int.toNat x9_2) 4), (Xj h v1 6 (Int.toNat x9_2) 5)] 26]) (fun s t => True) ?_ ?_
          ·refine Ja<|lf Try.runUnderlying26 rfl Try.sizeOf3 rfl<|ll 4 (i6 (val (Q9 a0 x8_2)).Value.kah) Try.isAgg3<|lv (Xe rfl rfl)<|mv (.bool (decide ((val (Q9 a0 x8_2)).Value.kah = 13)))<|?_
           revert H70
           refine sp (fun hb H79=>?_) fun hb H80=>?_
           ·refine lf Try.runUnderlying26 rfl Try.sizeOf3 rfl<|ll 5 (i6 (val (Q9 a1 x9_2)).Value.kah) Try.isAgg3<|lv (Xe rfl rfl)<|pT (.bool (decide ((val (Q9 a1 x9_2)).Value.kah = 13)))<|Jd<|?_
            exact cl (decide ((val (Q9 a1 x9_2)).Value.kah = 13)) () 0 [0, 1, 3, 4, 5] (by exact ⟨H79, trivial⟩)
           ·refine pa<|pa<|pa<|pF (.bool false)<|Jd<|?_
            exact cl false () 0 [0, 1, 3, 4, 5] (by exact ⟨H80, trivial⟩)
          ·rintro x49 _ gg H71 _
           try dsimp only at H71
           try dsimp only
           revert H71
           refine ci x49 rfl (fun hb H72=>?_) fun hb H74=>?_
           ·refine Ja<|lf Try.runUnderlying26 rfl Try.sizeOf24 rfl<|ll 3 (Xj h v0 6 (Int.toNat x8_2) 5) isAgg24<|lf Try.runUnderlying26 rfl Try.sizeOf24 rfl<|ll 4 (Xj h v1 6 (Int.toNat x9_2) 5) isAgg24<|mv (.slice p_6.1 (val (Xd 8 a2 ([(val (Q9 a0 x8_2)).Tag] : List Int))).length p_6.2)<|mv (.func (.func 33) #[] #[pz pb3])<|?_
            obtain ⟨t56, h_t56, H73⟩ := Je H72; clear H72
            refine bo 0 1 rfl rfl ?_
            refine Qf (Jw (i := 0) (rds := [2]) rfl (fun w L' S hF hS hi hp hlt ho hA => ih hp hlt (Qb w S) ((show FrN h 6 (Xj h v0 6 (Int.toNat x8_2) 5) g_tag_Entry (val (Q9 a0 x8_2)).Value.kaf from (Qk (Jo (f0.at h_t34)))).mono (hw.but hF ho)) ((show FrN h 6 (Xj h v1 6 (Int.toNat x9_2) 5) g_tag_Entry (val (Q9 a1 x9_2)).Value.kaf from (Qk (Jo (f1.at h_t39)))).mono (hw.but hF ho)) (Jdj (j := 2) rfl hA hS (by decide) ((hi 2 (by simp)).trans rfl)) h_t56) call32 rfl) rfl rfl rfl (fun p_8 => ?_)
            refine ub 0 1 rfl rfl<|Jd<|?_
            exact cl t56 p_8 0 [0, 1] (by exact ⟨H73, trivial⟩)
           ·refine Jc ?_
            try dsimp only [z1,z2,z5,z6,z7,z8]
            refine Ja<|Q1 (i := 3) (vs := [i6 (val (Q9 a0 x8_2)).Value.kah, str (val (Q9 a0 x8_2)).Value.kai, (Xj h v0 6 (Int.toNat x8_2) 3), (Xj h v0 6 (Int.toNat x8_2) 4), (Xj h v0 6 (Int.toNat x8_2) 5)]) Try.isAgg26 Try.sizeOf26 rfl rfl rfl rfl rfl<|Q1 (i := 4) (vs := [i6 (val (Q9 a1 x9_2)).Value.kah, str (val (Q9 a1 x9_2)).Value.kai, (Xj h v1 6 (Int.toNat x9_2) 3), (Xj h v1 6 (Int.toNat x9_2) 4), (Xj h v1 6 (Int.toNat x9_2) 5)]) Try.isAgg26 Try.sizeOf26 rfl rfl rfl rfl rfl<|?_
            obtain ⟨t59, h_t59, H75⟩ := Je H74; clear H74
            refine Qg (fun w hF hS => k58 (Jm w) ((show FrS h 1 (Xj h v0 6 (Int.toNat x8_2) 3) ((val (Q9 a0 x8_2)).Value.kaj.map Qa) from (Q4 (Jo (f0.at h_t34)))).mono (hw.now hF)) ((show FrS h 2 (Xj h v0 6 (Int.toNat x8_2) 4) ((val (Q9 a0 x8_2)).Value.kag.map Jl) from (Q5 (Jo (f0.at h_t34)))).mono (hw.now hF)) ((show FrN h 6 (Xj h v0 6 (Int.toNat x8_2) 5) g_tag_Entry (val (Q9 a0 x8_2)).Value.kaf from (Qk (Jo (f0.at h_t34)))).mono (hw.now hF)) ((show FrS h 1 (Xj h v1 6 (Int.toNat x9_2) 3) ((val (Q9 a1 x9_2)).Value.kaj.map Qa) from (Q4 (Jo (f1.at h_t39)))).mono (hw.now hF)) ((show FrS h 2 (Xj h v1 6 (Int.toNat x9_2) 4) ((val (Q9 a1 x9_2)).Value.kag.map Jl) from (Q5 (Jo (f1.at h_t39)))).mono (hw.now hF)) ((show FrN h 6 (Xj h v1 6 (Int.toNat x9_2) 5) g_tag_Entry (val (Q9 a1 x9_2)).Value.kaf from (Qk (Jo (f1.at h_t39)))).mono (hw.now hF)) h_t59) call58 rfl rfl rfl<|lv (Ja6 rfl)<|Jd<|?_
            revert H75
            refine ci (!t59) rfl (fun hb H76=>?_) fun hb H78=>?_
            ·refine Ja<|mv (.func (.func 33) #[] #[pz pb3])<|mv (.slice p_6.1 (val (Xd 8 a2 ([(val (Q9 a0 x8_2)).Tag] : List Int))).length p_6.2)<|?_
             obtain ⟨t63, h_t63, H77⟩ := Je H76; clear H76
             refine bo 0 1 rfl rfl ?_
             refine Qf (Jb0 (caps := #[pz pb3]) (args := [.slice p_6.1 (val (Xd 8 a2 ([(val (Q9 a0 x8_2)).Tag] : List Int))).length p_6.2]) (i := 0) (rds := [2]) rfl (fun w L' S hF hS hi hp hlt ho hA => k33 hp hlt (Qb w S) (Jdj (j := 2) rfl hA hS (by decide) ((hi 2 (by simp)).trans rfl)) h_t63) call33 rfl rfl) rfl rfl rfl (fun p_9 => ?_)
             refine ub 0 1 rfl rfl<|Jd<|?_
             exact cl t63 p_9 0 [0, 1] (by exact ⟨H77, trivial⟩)
            ·refine Jp ?_
             exact cl l_2 p 0 [0, 1] (by exact ⟨H78, trivial⟩)
          ) (by kernel_rfl)
        ·rintro l_3 p_7 gg H66 _
         try dsimp only at H66
         try dsimp only
         refine Jc<|Ja<|mv (i6 x8_2)<|?_
         obtain ⟨t65, h_t65, H67⟩ := Je H66; clear H66
         refine lv (J4 rfl rfl h_t65)<|ag (i6 t65)<|Jd<|Ja<|mv (i6 x9_2)<|?_
         obtain ⟨t67, h_t67, H68⟩ := Je H67; clear H67
         refine lv (J4 rfl rfl h_t67)<|ag (i6 t67)<|Jd<|?_
         exact cl (t65, t67, l_3) p_7 m1 [0, 1] (by exact ⟨(by subst hn1; exact H68), trivial⟩)
        ) (by kernel_rfl)
theorem k32 {a0 : (List Ta)} {v0 : Value} {a1 : (List Ta)} {v1 : Value} {a2 : (List Int)} {v2 : Value} {a3 : (List (List Int))} {pb3 : Nat} {p3 : AN} {r : (List (List Int))} {w : World} {h : Jt} {S : Nat → Prop} (hcs : (Jv (Jf pb3 [sl p3 a3.length] 38) (Vw 22 1 gs_int (sl p3 a3.length) a3.length a3)).P S w) (hlt : ∀ b, S b → b < w.heap.size) (hw : Know h w S) (f0 : FrN h 6 v0 g_tag_Entry a0) (f1 : FrN h 6 v1 g_tag_Entry a1) (f2 : FrS h 1 v2 (a2.map Qa)) (H : Jb9 a0 a1 a2 a3 = some r) : Does prog 32 (List.toArray [v0, v1, v2, .func (.func 33) #[] #[pz pb3]]) w (fun v w' => ∃ x : AN, v = (.tuple #[]) ∧ Turn w w' S (Jv (Jf pb3 [sl x r.length] 38) (Vw 22 1 gs_int (sl x r.length) r.length r))) := by
 obtain ⟨mm, hm⟩ := Jfx (show Wq (fun (self : ((List Ta) × (List Ta) × (List Int) × (List (List Int))) → Option ((List (List Int)))) (s : (List Ta) × (List Ta) × (List Int) × (List (List Int))) => Zq self s.1 s.2.1 s.2.2.1 s.2.2.2) (a0, a1, a2, a3) = some r from H)
 exact k32_it mm hcs hlt hw f0 f1 f2 hm
end Go.Proofs.Ythljoadplekgnaa

namespace Go.Proofs.Ythljoadplekgnaa
open Go Go.Vc Go.Md Go.M Go.Lx Try
set_option maxRecDepth 100000
set_option maxHeartbeats 4000000
theorem k36 {a : Option Addr} {n c : Nat} (hc : n ≤ c) : Ret prog 36 [.slice a n c] (.slice (Xg a 0 n 1) n n) := by
  refine Vz (n := 9) func36 rfl rfl rfl (fun wd => ?_)
  refine Jc<|Ja<|ag (z0s)<|Jd<|Jc<|Ja<|mv (.slice a n c)<|mv (.slice a n c)<|lv (Ur Try.underlying38 rfl)<|mv (.slice a n c)<|lv (Ur Try.underlying38 rfl)<|lv (Jem (a := a) (m := n) (c := c) (h := (n : Int)) (q := (n : Int)) Try.underlying38 Try.sizeOf22 rfl rfl rfl (Int.natCast_nonneg n) (Int.le_refl _) (Int.ofNat_le.2 hc))<|ag (.slice (Xg a 0 n 1) n n)<|Jd<|Jr<|?_
  exact Jbw (v := .slice (Xg a 0 n 1) n n) rfl rfl (fin rfl)
theorem k9 {a0 : Tg} {v0_1 : Value} {a1 : Tg} {v1_1 : Value} {r : (List (List Int)) × Int} {w : World} {h : Jt} (hw : Know h w Z2) (f0_1 : FrN h 1 v0_1 gs_tag_Entry a0.kal) (f1_1 : FrN h 1 v1_1 gs_tag_Entry a1.kal) (H : Jdw a0 a1 = some r) : Does prog 9 (List.toArray [.agg #[.bool a0.Big, v0_1], .agg #[.bool a1.Big, v1_1]]) w (fun v w' => ∃ x : AN, v = (.tuple #[sl x r.1.length, i6 r.2]) ∧ Turn w w' Z2 (roD 1 gs_int (sl x r.1.length) r.1.length r.1)) := by
 refine enter (n := 55) func9 rfl rfl rfl Z2 [] (Sat.nil _ _)<|X7 Xo<|Jc<|Ja<|?_
 refine We (cs := [.bool a0.Big, v0_1]) rfl rfl rfl rfl (fun b12 => ?_)
 refine We (cs := [.bool a1.Big, v1_1]) rfl rfl rfl rfl (fun b13 => ?_)
 refine ag (z0s)<|ag (i6 0)<|Jd<|?_
 refine Qx (r := r) (σ := Unit) (τ := Unit) (fun s => Jaf a0 a1) (fun s t => [(2, pz b12), (3, pz b13)]) (fun s t => [Q3 Xo Xo, Jf b12 [.bool a0.Big, v0_1] 33, Jf b13 [.bool a1.Big, v1_1] 33]) (fun s t => True) ?_ ?_
 ·refine Jc<|Ja<|Q1 (i := 1) (vs := [.bool a0.Big, v0_1]) Try.isAgg33 Try.sizeOf33 rfl rfl rfl rfl rfl<|Q1 (i := 2) (vs := [.bool a1.Big, v1_1]) Try.isAgg33 Try.sizeOf33 rfl rfl rfl rfl rfl<|?_
  refine Qw (vs := [.agg #[.bool a0.Big, v0_1], .agg #[.bool a1.Big, v1_1]]) (cs := [.bool a0.Big, v0_1, .bool a1.Big, v1_1]) underlying78 Try.sizeOf33 zeroValue33 rfl rfl rfl rfl rfl rfl rfl (fun b16 => ?_)
  refine lv (Ur underlying78 rfl)<|mv (i6 0)<|Jd<|J0<|?_
  refine Zz (σ := Int) (τ := Unit) (fun next4 s => Yg a0 a1 next4 s) (fun s t => [(2, pz b12), (3, pz b13), (13, .slice (some ⟨b16, 0, none⟩) 2 2), (14, i6 2), (15, i6 s)]) (fun s t => [Q3 Xo Xo, Jf b12 [.bool a0.Big, v0_1] 33, Jf b13 [.bool a1.Big, v1_1] 33, Jf b16 [.bool a0.Big, v0_1, .bool a1.Big, v1_1] 33]) (fun s t => True) 0 () [0, 1, 2, 3] H (by exact trivial) (by exact ⟨rfl, rfl, rfl, rfl, rfl, trivial⟩) (by decide) rfl ?_
  rintro x15_2 _ m4 gg H50 _
  clear H
  try dsimp only at H50
  generalize hn4 : it (fun next4 s => Yg a0 a1 next4 s) m4 = next4 at H50
  try dsimp only
  refine Jc<|Ja<|lv (Ym rfl rfl)<|Jd<|Jc<|?_
  revert H50
  refine ci (decide (x15_2 < 2)) rfl (fun hb H51=>?_) fun hb H57=>?_
  ·refine Jp<|Jc<|J0<|Jc<|Ja<|?_
   obtain ⟨t17, h_t17, H52⟩ := Je H51; clear H51
   refine lv (r_indexS underlying78 Try.sizeOf33 rfl rfl h_t17 rfl)<|Xn (fun w hF hS => Y2 (f := (litC [.bool a0.Big, v0_1, .bool a1.Big, v1_1] 2)) (i := x15_2) (sz := 2) (j := 0) (vs := [.bool t17.Big, (List.getD (List.take 2 (List.drop ((Int.toNat x15_2) * 2) [.bool a0.Big, v0_1, .bool a1.Big, v1_1])) 1 undef)]) Try.isAgg33 Try.sizeOf33 rfl rfl (Z8 (sz := 2) (xs := (List.range 2).map (litC [.bool a0.Big, v0_1, .bool a1.Big, v1_1] 2)) (i := 3) hS rfl rfl rfl) (gAt_range h_t17) (Jfb (cg_tag_File (AllG.el (G := g_tag_File) (h := h) (sz := 2) (cs := [.bool a0.Big, v0_1, .bool a1.Big, v1_1]) (xs := ([a0, a1] : List Tg)) ⟨⟨rfl, f0_1⟩, ⟨rfl, f1_1⟩, rfl⟩ _ _ (Y3 h_t17).2.2)) rfl)) rfl rfl rfl<|?_
   refine Xw (cs := [.bool false, z0s]) zeroValue33 rfl rfl rfl (fun b17 => ?_)
   refine Yq (i := 4) (vs := [.bool t17.Big, (List.getD (List.take 2 (List.drop ((Int.toNat x15_2) * 2) [.bool a0.Big, v0_1, .bool a1.Big, v1_1])) 1 undef)]) (cs' := [.bool t17.Big, (List.getD (List.take 2 (List.drop ((Int.toNat x15_2) * 2) [.bool a0.Big, v0_1, .bool a1.Big, v1_1])) 1 undef)]) Try.sizeOf33 rfl rfl rfl rfl rfl rfl (by simp only [List.all_cons, List.all_nil, (show FrN h 1 (List.getD (List.take 2 (List.drop ((Int.toNat x15_2) * 2) [.bool a0.Big, v0_1, .bool a1.Big, v1_1])) 1 undef) gs_tag_Entry t17.kal from (Je6 (AllG.el (G := g_tag_File) (h := h) (sz := 2) (cs := [.bool a0.Big, v0_1, .bool a1.Big, v1_1]) (xs := ([a0, a1] : List Tg)) ⟨⟨rfl, f0_1⟩, ⟨rfl, f1_1⟩, rfl⟩ _ _ (Y3 h_t17).2.2))).one] <;> rfl) rfl rfl<|Jd<|Jc<|Ja<|Q1 (i := 4) (vs := [.bool t17.Big, (List.getD (List.take 2 (List.drop ((Int.toNat x15_2) * 2) [.bool a0.Big, v0_1, .bool a1.Big, v1_1])) 1 undef)]) Try.isAgg33 Try.sizeOf33 rfl rfl rfl rfl rfl<|?_
   obtain ⟨t20, h_t20, H53⟩ := Je H52; clear H52
   refine Qg (fun w hF hS => k24 (Jm w) ((show FrN h 1 (List.getD (List.take 2 (List.drop ((Int.toNat x15_2) * 2) [.bool a0.Big, v0_1, .bool a1.Big, v1_1])) 1 undef) gs_tag_Entry t17.kal from (Je6 (AllG.el (G := g_tag_File) (h := h) (sz := 2) (cs := [.bool a0.Big, v0_1, .bool a1.Big, v1_1]) (xs := ([a0, a1] : List Tg)) ⟨⟨rfl, f0_1⟩, ⟨rfl, f1_1⟩, rfl⟩ _ _ (Y3 h_t17).2.2))).mono (hw.now hF)) h_t20) call24 rfl rfl rfl<|ag (i6 t20)<|Jd<|Jc<|Ja<|mv (i6 t20)<|lv (Yn rfl rfl)<|Jd<|?_
   revert H53
   refine ci (decide (t20 ≠ 0)) rfl (fun hb H54=>?_) fun hb H55=>?_
   ·refine Jc<|Ja<|mv (i6 t20)<|ag (z0s)<|ag (i6 t20)<|Jd<|Jr<|J5 22 1<|?_
    obtain rfl := sj H54
    refine Xl 5 rfl (row_ro _ _ _ _ _)<|bo 0 5 rfl rfl<|Xl 0 rfl (imp_roD (p := nn) rfl (AllC.nil (G := gs_int) (h := Xo) (sz := 1)))<|?_
    refine Jah (v1 := sl nn (([] : List (List Value)).length)) (v2 := i6 t20) rfl rfl rfl (Y9 nn (i := 0) rfl (by first | rfl | rw [(show (([] : List (List Value)).length) = ([] : List (List Int)).length from (AllC.nil (G := gs_int) (h := Xo) (sz := 1)).len)]) (by first | exact Imp.refl _ | exact Imp.of (by rw [(show (([] : List (List Value)).length) = ([] : List (List Int)).length from (AllC.nil (G := gs_int) (h := Xo) (sz := 1)).len)] <;> rfl)))
   ·refine Jp ?_
    try dsimp only [z1,z2,z5,z6,z7,z8]
    refine Ja ?_
    obtain ⟨t24, h_t24, H56⟩ := Je H55; clear H55
    refine lv (J4 rfl rfl h_t24)<|mv (i6 t24)<|Jd<|?_
    exact cl t24 () m4 [0, 1, 2, 3] (by exact ⟨(by subst hn4; exact H56), trivial⟩)
  ·refine Xy ?_
   exact cl () () 0 [0, 1, 2] (by exact ⟨H57, trivial⟩)
 ·rintro _ _ gg H39 _
  try dsimp only at H39
  try dsimp only
  refine Jc<|Jc<|Ja<|lf Try.runUnderlying33 rfl Try.sizeOf31 rfl<|ll 1 v0_1 isAgg31<|lv (Yw Try.underlying31 rfl f0_1)<|lf Try.runUnderlying33 rfl Try.sizeOf31 rfl<|ll 2 v1_1 isAgg31<|lv (Yw Try.underlying31 rfl f1_1)<|lv (Yn rfl rfl)<|Jd<|?_
  revert H39
  refine ci (decide ((a0.kal.length : Int) ≠ (a1.kal.length : Int))) rfl (fun hb H40=>?_) fun hb H41=>?_
  ·refine Jc<|Ja<|ag (z0s)<|ag (i6 1)<|Jd<|Jr<|J5 22 1<|?_
   obtain rfl := sj H40
   refine Xl 3 rfl (row_ro _ _ _ _ _)<|bo 0 3 rfl rfl<|Xl 0 rfl (imp_roD (p := nn) rfl (AllC.nil (G := gs_int) (h := Xo) (sz := 1)))<|?_
   refine Jah (v1 := sl nn (([] : List (List Value)).length)) (v2 := i6 1) rfl rfl rfl (Y9 nn (i := 0) rfl (by first | rfl | rw [(show (([] : List (List Value)).length) = ([] : List (List Int)).length from (AllC.nil (G := gs_int) (h := Xo) (sz := 1)).len)]) (by first | exact Imp.refl _ | exact Imp.of (by rw [(show (([] : List (List Value)).length) = ([] : List (List Int)).length from (AllC.nil (G := gs_int) (h := Xo) (sz := 1)).len)] <;> rfl)))
  ·refine Jp<|Jc<|?_
   try dsimp only [z1,z2,z5,z6,z7,z8]
   refine Ja ?_
   refine Xw (cs := [z0s]) zeroValue38 rfl rfl rfl (fun b14 => ?_)
   refine Jd ?_
   refine Qx (r := r) (σ := (List (List Int))) (τ := AN) (fun s => Je7 s) (fun s t => [(9, pz b14)]) (fun s t => [Q3 Xo Xo, Jf b14 [sl t s.length] 38, Vw 22 1 gs_int (sl t s.length) s.length s]) (fun s t => True) ?_ ?_
   ·refine Jc<|Ja<|lf Try.runUnderlying33 rfl Try.sizeOf31 rfl<|ll 1 v0_1 isAgg31<|lv (Yw Try.underlying31 rfl f0_1)<|mv (i6 0)<|Jd<|J0<|J5 22 1<|X7 Xo<|?_
    try dsimp only [z1,z2,z5,z6,z7,z8]
    refine bo 5 4 rfl rfl ?_
    try dsimp only [z1,z2,z5,z6,z7,z8]
    refine Xl 5 rfl (U1 (css := []) (xs := ([] : List (List Int))) (p := nn) rfl (AllC.nil (G := gs_int) (h := Xo) (sz := 1))) ?_
    refine Zz (σ := Int × (List (List Int))) (τ := AN) (fun next3 s => Vi a0 a1 next3 s.1 s.2) (fun s t => [(2, pz b12), (3, pz b13), (9, pz b14), (34, i6 (a0.kal.length : Int)), (35, i6 s.1)]) (fun s t => [Q3 Xo Xo, Jf b12 [.bool a0.Big, v0_1] 33, Jf b13 [.bool a1.Big, v1_1] 33, Jf b14 [sl t s.2.length] 38, Vw 22 1 gs_int (sl t s.2.length) s.2.length s.2]) (fun s t => True) (0, ([] : List (List Int))) nn [0, 1, 2, 3, 5] H41 (by exact trivial) (by exact ⟨rfl, rfl, rfl, rfl, rfl, trivial⟩) (by decide) rfl ?_
    rintro ⟨x35_2, l_3⟩ p_2 m3 gg H43 _
    clear H41
    try dsimp only at H43
    generalize hn3 : it (fun next3 s => Vi a0 a1 next3 s.1 s.2) m3 = next3 at H43
    try dsimp only
    refine Jc ?_
    try dsimp only [z1,z2,z5,z6,z7,z8]
    refine Ja<|lv (Ym rfl rfl)<|Jd<|Jc<|?_
    revert H43
    refine ci (decide (x35_2 < (a0.kal.length : Int))) rfl (fun hb H44=>?_) fun hb H49=>?_
    ·refine Jp<|Jc<|J0<|Jc<|Ja<|mv (i6 x35_2)<|ag (i6 x35_2)<|Jd<|?_
     exact Qc (Kd.p :: Kd.d [1] _ :: Kd.p :: Kd.p :: Kd.d [] _ :: Kd.p :: Kd.d [2] _ :: Kd.p :: Kd.p :: Kd.d [] _ :: Kd.p :: Kd.ns 5 [_] 3 1 :: Kd.p :: Kd.t2 3 4 [0, 5] _ _ :: []) 1 mixed (by
      refine dv (Qd Try.runUnderlying33 rfl Try.sizeOf31 rfl rfl)<|dl v0_1 isAgg31<|dm (i6 x35_2)<|?_
      have h_t41 := Jx H44
      have H45 := Jq H44
      refine dv (Q2 Try.underlying31 Try.sizeOf24 rfl rfl f0_1.frs (f0_1.ix h_t41))<|Ze (fun w hF => Qt (f := (elC h v0_1 1)) (i := x35_2) (sz := 1) (j := 0) (v := (Xj h v0_1 1 (Int.toNat x35_2) 0)) isAgg24 rfl rfl (f0_1.frs.row (hw.now hF)) (f0_1.ix h_t41) (Jat (Wm (f0_1.at h_t41)) rfl)) rfl rfl<|dv (Qd Try.runUnderlying33 rfl Try.sizeOf31 rfl rfl)<|dl v1_1 isAgg31<|dm (i6 x35_2)<|?_
      have h_t46 := Jx H45
      have H46 := Jq H45
      refine dv (Q2 Try.underlying31 Try.sizeOf24 rfl rfl f1_1.frs (f1_1.ix h_t46))<|Ze (fun w hF => Qt (f := (elC h v1_1 1)) (i := x35_2) (sz := 1) (j := 0) (v := (Xj h v1_1 1 (Int.toNat x35_2) 0)) isAgg24 rfl rfl (f1_1.frs.row (hw.now hF)) (f1_1.ix h_t46) (Jat (Wm (f1_1.at h_t46)) rfl)) rfl rfl<|dm (i6 x35_2)<|?_
      refine Jfz rfl rfl (Zd (vs := [i6 x35_2]) (cs := [i6 x35_2]) Try.underlying22 Try.sizeOf3 zeroValue3 rfl rfl rfl rfl rfl) rfl (fun b15 => ?_)
      refine dv (r_makeFn (caps := #[pz b14]) rfl) ?_
      have h_t51 := Jx H46
      have H47 := Jq H46
      refine Jg0 (i := 3) (j := 4) (Jw (i := 3) (rds := _) rfl (fun w L' S hF hS hi hp hlt ho hA => k32 hp hlt (Qb w S) ((show FrN h 6 (Xj h v0_1 1 (Int.toNat x35_2) 0) g_tag_Entry (val (Q9 a0.kal x35_2)) from (f0_1.at h_t41)).mono (hw.but hF ho)) ((show FrN h 6 (Xj h v1_1 1 (Int.toNat x35_2) 0) g_tag_Entry (val (Q9 a1.kal x35_2)) from (f1_1.at h_t46)).mono (hw.but hF ho)) (frb_box (j := 5) (xs := ([x35_2] : List Int)) (f := Qa) hA hS (by decide) ((hi 5 (by simp)).trans rfl) rfl rfl rfl rfl) h_t51) call32 rfl) rfl rfl (by decide) (by decide) rfl rfl<|X2<|?_
      refine c_ex 3 rfl (fun p_3 => ?_)
      refine ub 3 4 rfl rfl<|Ja<|?_
      obtain ⟨t52, h_t52, H48⟩ := Je H47; clear H47
      refine lv (J4 rfl rfl h_t52)<|mv (i6 t52)<|Jd<|?_
      exact cl (t52, (val (Jb9 (val (Q9 a0.kal x35_2)) (val (Q9 a1.kal x35_2)) ([x35_2] : List Int) l_3))) p_3 m3 [0, 1, 2, 3, 4] (by exact ⟨(by subst hn3; exact H48), trivial⟩)
      ) (by kernel_rfl)
    ·refine Xy ?_
     exact cl l_3 p_2 0 [0, 3, 4] (by exact ⟨H49, trivial⟩)
   ·rintro l p gg H42 _
    try dsimp only at H42
    try dsimp only
    refine Jc ?_
    refine Jbt 2 rfl (fun hp css hn pf => ?_)
    rw [hn]
    try dsimp only [z1,z2,z5,z6,z7,z8]
    refine Qj 2 rfl ?_
    try dsimp only [z1,z2,z5,z6,z7,z8]
    refine Yi 0 2 rfl rfl (by decide) (fun _ _ => Xb) (fun hp_2 hle hle_2 => ?_)
    refine Ja<|ll 1 (sl p css.length) isAgg38<|Qg (fun w hF hS => k36 (capOf (i := 3) hS rfl) w) call36 rfl rfl rfl<|ag (.slice (Xg p.1 0 css.length 1) css.length css.length)<|ag (i6 0)<|Jd<|?_
    try dsimp only [z1,z2,z5,z6,z7,z8]
    refine Jr ?_
    obtain rfl := sj H42
    refine Xl 3 rfl (Jep _ _ _ _ _ _)<|bo 0 3 rfl rfl<|Xl 0 rfl (imp_roD (p := (Xg p.1 0 css.length 1, css.length)) rfl (pf.mono hle_2))<|?_
    refine Jah (v1 := .slice (Xg p.1 0 css.length 1) css.length css.length) (v2 := i6 0) rfl rfl rfl (Y9 (Xg p.1 0 css.length 1, css.length) (i := 0) rfl (by first | rfl | rw [(show css.length = l.length from hn.symm)]) (by first | exact Imp.refl _ | exact Imp.of (by rw [(show css.length = l.length from hn.symm)] <;> rfl)))
end Go.Proofs.Ythljoadplekgnaa

namespace Go.Proofs.Ythljoadplekgnaa
open Go Go.Vc Go.Md Go.M Go.Lx
def TreeE (R : Jt → Value → List Ta → List Nat → Prop) (h : Jt) (c : List Value) (x : Ta) (bs : List Nat) : Prop :=
  ∃ (v3 v4 v5 : Value) (b5 : List Nat), c = [.int .i64 x.Tag, .int .i64 x.Value.kah, str x.Value.kai, v3, v4, v5] ∧ FrS h 1 v3 (x.Value.kaj.map Qa) ∧ FrS h 2 v4 (x.Value.kag.map Jl) ∧ R h v5 x.Value.kaf b5 ∧ bs = roB v3 x.Value.kaj.length ++ (roB v4 x.Value.kag.length ++ b5)
abbrev KidsL (R : Jt → Value → List Ta → List Nat → Prop) (h : Jt) (css : List (List Value)) (xs : List Ta) (bs : List Nat) : Prop := KidsG (TreeE R) h css xs bs
def TreeL : Nat → Jt → Value → List Ta → List Nat → Prop
  | 0, _, v, xs, bs => v = z0s ∧ xs = [] ∧ bs = []
  | d + 1, h, v, xs, bs => ∃ (css : List (List Value)) (b2 : List Nat), RowP h 72 6 v css ∧ KidsL (TreeL d) h css xs b2 ∧ bs = v.ownBlock.toList ++ b2
theorem TreeE.agree {R : Jt → Value → List Ta → List Nat → Prop} {h h' : Jt} {c : List Value} {x : Ta} {bs : List Nat} (hR : ∀ v xs b, R h v xs b → (∀ q ∈ b, ∀ o, h q = some o → h' q = some o) → R h' v xs b) (e : TreeE R h c x bs) (k : ∀ q ∈ bs, ∀ o, h q = some o → h' q = some o) : TreeE R h' c x bs := by
  obtain ⟨v3, v4, v5, b5, e1, e2, e3, e4, rfl⟩ := e
  exact ⟨v3, v4, v5, b5, e1, e2.agree (by rw [List.length_map]; exact fun q hq => k q (by simp [hq])), e3.agree (by rw [List.length_map]; exact fun q hq => k q (by simp [hq])), hR _ _ _ e4 (fun q hq => k q (by simp [hq])), rfl⟩
theorem TreeL.agree : ∀ {d : Nat} {h h' : Jt} {v : Value} {xs : List Ta} {bs : List Nat}, TreeL d h v xs bs → (∀ q ∈ bs, ∀ o, h q = some o → h' q = some o) → TreeL d h' v xs bs := by
  intro d
  induction d with
  | zero => intro h h' v xs bs t _; exact t
  | succ d ih =>
    rintro h h' v xs bs ⟨css, b2, r, k, rfl⟩ q
    exact ⟨css, b2, r.mono fun b hb => q b (by simp [hb]), k.agree (fun c x b t k => t.agree (fun v xs b t k => ih t k) k) fun y hy => q y (List.mem_append_right _ hy), rfl⟩
theorem TreeL.mono {d : Nat} {h h' : Jt} {v : Value} {xs : List Ta} {bs : List Nat} (t : TreeL d h v xs bs) (k : ∀ b o, h b = some o → h' b = some o) : TreeL d h' v xs bs := t.agree fun q _ => k q
theorem TreeE.mono {d : Nat} {h h' : Jt} {c : List Value} {x : Ta} {bs : List Nat} (t : TreeE (TreeL d) h c x bs) (k : ∀ b o, h b = some o → h' b = some o) : TreeE (TreeL d) h' c x bs := t.agree (fun v xs b t k => t.agree k) fun q _ => k q
theorem Ji3 {d : Nat} {h h' : Jt} {css : List (List Value)} {xs : List Ta} {bs : List Nat} (t : KidsL (TreeL d) h css xs bs) (k : ∀ b o, h b = some o → h' b = some o) : KidsL (TreeL d) h' css xs bs := t.agree (fun c x b t k => t.agree (fun v xs b t k => t.agree k) k) fun q _ => k q
theorem TreeL.frn : ∀ {d : Nat} {h : Jt} {v : Value} {xs : List Ta} {bs : List Nat}, TreeL d h v xs bs → FrN h 6 v g_tag_Entry xs := by
  intro d
  induction d with
  | zero =>
    rintro h v xs bs ⟨rfl, rfl, _⟩
    exact ⟨FrS.nil _ _, fun i x hx => by cases hx⟩
  | succ d ih =>
    rintro h v xs bs ⟨css, b2, r, k, rfl⟩
    have hid : css.map idC = css := by unfold idC; simp
    refine Wu (by rw [hid]; exact r.frs) ?_
    refine k.allC fun c x b t => ?_
    obtain ⟨v3, v4, v5, b5, e1, e2, e3, e4, _⟩ := t
    subst e1
    have f := ih e4
    exact ⟨rfl, .mk rfl rfl rfl e2 e3 f.frs f.el⟩
abbrev Jcp (d : Nat) (v : Value) (xs : List Ta) : Chunk := ownC fun h bs => TreeL d h v xs bs
abbrev kidsC (d : Nat) (css : List (List Value)) (xs : List Ta) : Chunk := ownC fun h bs => KidsL (TreeL d) h css xs bs
theorem imp_kid {d : Nat} {v3 v4 v5 : Value} {x : Ta} :
    Imp (Jv (roV 1 v3 x.Value.kaj.length (x.Value.kaj.map Qa)) (Jv (roV 2 v4 x.Value.kag.length (x.Value.kag.map Jl)) (Jcp d v5 x.Value.kaf)))
      (ownC fun h bs => TreeE (TreeL d) h [.int .i64 x.Tag, .int .i64 x.Value.kah, str x.Value.kai, v3, v4, v5] x bs) := by
  have i1 := Jex (imp_roOwn (sz := 2) (n := x.Value.kag.length) (v := v4) (xs := x.Value.kag.map Jl)) (Imp.refl (Jcp d v5 x.Value.kaf))
  have i2 := Jb3 i1 (Jc9 (Χ := fun h bs => ∃ b5, FrS h 2 v4 (x.Value.kag.map Jl) ∧ TreeL d h v5 x.Value.kaf b5 ∧ bs = roB v4 x.Value.kag.length ++ b5) (fun h h' bs k t => ⟨t.1.mono k, t.2⟩) (fun h h' bs k t => t.mono k) fun h b1 b2 t1 t2 => ⟨b2, t1.1, t2, by rw [t1.2, List.length_map]⟩)
  have i3 := Jex (imp_roOwn (sz := 1) (n := x.Value.kaj.length) (v := v3) (xs := x.Value.kaj.map Qa)) i2
  exact Jb3 i3 (Jc9 (fun h h' bs k t => ⟨t.1.mono k, t.2⟩) (fun h h' bs k ⟨b5, t1, t2, t3⟩ => ⟨b5, t1.mono k, t2.mono k, t3⟩) fun h b1 b2 t1 ⟨b5, t2, t3, t4⟩ => ⟨v3, v4, v5, b5, rfl, t1.1, t2, t3, by rw [t1.2, t4, List.length_map]⟩)
theorem imp_kids {d : Nat} {css : List (List Value)} {xs : List Ta} {c : List Value} {x : Ta} : Imp (Jv (kidsC d css xs) (ownC fun h bs => TreeE (TreeL d) h c x bs)) (kidsC d (css ++ [c]) (xs ++ [x])) :=
  Jc9 (fun h h' bs k t => Ji3 t k) (fun h h' bs k t => t.mono k) fun h b1 b2 t1 t2 => t1.snoc t2
theorem imp_tree {d n : Nat} {v : Value} {css : List (List Value)} {xs : List Ta} : Imp (Jv (J3 72 6 v n css) (kidsC d css xs)) (Jcp (d + 1) v xs) :=
  Jb3 (Jex Jil (Imp.refl _)) (Jc9 (fun h h' bs k t => ⟨t.1.mono fun b _ => k b, t.2⟩) (fun h h' bs k t => Ji3 t k) fun h b1 b2 t1 t2 => ⟨css, b2, t1.1, t2, by rw [t1.2.2]⟩)
theorem imp_tree0 {d : Nat} : Imp empC (Jcp (d + 1) (z0s) []) := Jdr ⟨[], [], ⟨by simp, .inl ⟨rfl, rfl⟩⟩, rfl, rfl⟩
theorem imp_kids0 {d : Nat} : Imp empC (kidsC d [] []) := Jdr rfl
end Go.Proofs.Ythljoadplekgnaa

namespace Go.Proofs.Ythljoadplekgnaa
open Go Go.Vc Go.Md Go.M Go.Lx
set_option maxRecDepth 100000
set_option maxHeartbeats 4000000
def EntsC (d : Nat) : Prop := ∀ {xs : List Ta} {v0 : Value} {w : World} {h : Jt} (_ : Know h w Z2) (_ : FrN h 6 v0 g_tag_Entry xs) (_ : fits d xs),
  Does Try.prog 49 (List.toArray [v0]) w (fun v w' => ∃ x : Option Addr × Nat, v = .slice x.1 xs.length x.2 ∧ Turn w w' Z2 (Jcp d (.slice x.1 xs.length x.2) xs))
theorem clone_ints {l : List Int} (h : l.length ≤ 2000000) : Jj l = some l := by
  unfold Jj
  rw [X5 (by simp only [List.length_nil]; omega)]; rfl
theorem clone_rats {l : List Tf} (h : l.length ≤ 2000000) : W7 l = some l := by
  unfold W7
  rw [X5 (by simp only [List.length_nil]; omega)]; rfl
theorem k27_of {d : Nat} (C : EntsC d) {a0 : Td} {v0_2 v0_3 v0_4 : Value} {w : World} {h : Jt} (hw : Know h w Z2) (f0_2 : FrS h 1 v0_2 (a0.kaj.map Qa)) (f0_3 : FrS h 2 v0_3 (a0.kag.map Jl)) (f0_4 : FrN h 6 v0_4 g_tag_Entry a0.kaf) (hf : fitV d a0) :
    Does Try.prog 27 (List.toArray [.agg #[.int .i64 a0.kah, str a0.kai, v0_2, v0_3, v0_4]]) w (fun v w' => ∃ x : (Option Addr × Nat) × (Option Addr × Nat) × (Option Addr × Nat), v = (.agg #[.int .i64 a0.kah, str a0.kai, .slice x.1.1 a0.kaj.length x.1.2, .slice x.2.1.1 a0.kag.length x.2.1.2, .slice x.2.2.1 a0.kaf.length x.2.2.2]) ∧
      Turn w w' Z2 (Jv (roV 1 (.slice x.1.1 a0.kaj.length x.1.2) a0.kaj.length (a0.kaj.map Qa)) (Jv (roV 2 (.slice x.2.1.1 a0.kag.length x.2.1.2) a0.kag.length (a0.kag.map Jl)) (Jcp d (.slice x.2.2.1 a0.kaf.length x.2.2.2) a0.kaf)))) := by
 obtain ⟨z1_, z2_, z3_⟩ := hf
 have h_t5 := clone_ints z1_
 have h_t10 := clone_rats z2_
 refine enter (n := 18) Try.func27 rfl rfl rfl Z2 [] (Sat.nil _ _) ?_
 refine X7 Xo ?_
 refine Jc ?_
 refine Ja ?_
 refine We (cs := [.int .i64 a0.kah, str a0.kai, v0_2, v0_3, v0_4]) rfl rfl rfl rfl (fun b4 => ?_)
 refine Xw (cs := [.int .i64 0, str [], z0s, z0s, z0s]) Try.zeroValue26 rfl rfl rfl (fun b5 => ?_)
 refine Jd ?_
 refine Jc ?_
 refine Ja ?_
 refine Ju rfl rfl rfl (Qd Try.runUnderlying26 rfl Try.sizeOf22 rfl rfl) ?_
 refine Je0 (i := 1) (v := v0_2) Try.isAgg22 rfl rfl rfl rfl rfl ?_
 refine Za (Qs (rds := []) (G := fun x : (Option Addr × Nat) => .slice x.1 a0.kaj.length x.2) (C := fun x : (Option Addr × Nat) => J3 3 1 (.slice x.1 a0.kaj.length x.2) a0.kaj.length (a0.kaj.map Qa)) (fun w L' hF hS hi => k35 (Jm w) (f0_2.mono (hw.now hF)) h_t5) Try.call35 rfl) rfl rfl rfl (fun p => ?_)
 refine Qg (fun w hF hS => k34 (capOf (i := 3) hS rfl) w) Try.call34 rfl rfl rfl ?_
 refine Ju rfl rfl rfl (Qd Try.runUnderlying26 rfl Try.sizeOf22 rfl rfl) ?_
 refine Yq (i := 1) (vs := [.slice (Xg p.1 0 a0.kaj.length 1) a0.kaj.length a0.kaj.length]) (cs' := [.int .i64 a0.kah, str a0.kai, .slice (Xg p.1 0 a0.kaj.length 1) a0.kaj.length a0.kaj.length, v0_3, v0_4]) Try.sizeOf22 rfl rfl rfl rfl rfl rfl rfl rfl rfl ?_
 refine Jd ?_
 refine Jc ?_
 refine Ja ?_
 refine Ju rfl rfl rfl (Qd Try.runUnderlying26 rfl Try.sizeOf23 rfl rfl) ?_
 refine Je0 (i := 1) (v := v0_3) Try.isAgg23 rfl rfl rfl rfl rfl ?_
 refine Za (Qs (rds := []) (G := fun x : (Option Addr × Nat) => .slice x.1 a0.kag.length x.2) (C := fun x : (Option Addr × Nat) => J3 46 2 (.slice x.1 a0.kag.length x.2) a0.kag.length (a0.kag.map Jl)) (fun w L' hF hS hi => k52 (Jm w) (f0_3.mono (hw.now hF)) h_t10) Try.call52 rfl) rfl rfl rfl (fun p_2 => ?_)
 refine Qg (fun w hF hS => k51 (capOf (i := 4) hS rfl) w) Try.call51 rfl rfl rfl ?_
 refine Ju rfl rfl rfl (Qd Try.runUnderlying26 rfl Try.sizeOf23 rfl rfl) ?_
 refine Yq (i := 1) (vs := [.slice (Xg p_2.1 0 a0.kag.length 2) a0.kag.length a0.kag.length]) (cs' := [.int .i64 a0.kah, str a0.kai, .slice (Xg p.1 0 a0.kaj.length 1) a0.kaj.length a0.kaj.length, .slice (Xg p_2.1 0 a0.kag.length 2) a0.kag.length a0.kag.length, v0_4]) Try.sizeOf23 rfl rfl rfl rfl rfl rfl rfl rfl rfl ?_
 refine Jd ?_
 refine Jc ?_
 refine Ja ?_
 refine Ju rfl rfl rfl (Qd Try.runUnderlying26 rfl Try.sizeOf24 rfl rfl) ?_
 refine Je0 (i := 1) (v := v0_4) Try.isAgg24 rfl rfl rfl rfl rfl ?_
 refine Za (Qs (rds := []) (G := fun x : (Option Addr × Nat) => .slice x.1 a0.kaf.length x.2) (C := fun x : (Option Addr × Nat) => Jcp d (.slice x.1 a0.kaf.length x.2) a0.kaf) (fun w L' hF hS hi => C (Jm w) (f0_4.mono (hw.now hF)) z3_) Try.call49 rfl) rfl rfl rfl (fun p_3 => ?_)
 refine Ju rfl rfl rfl (Qd Try.runUnderlying26 rfl Try.sizeOf24 rfl rfl) ?_
 refine Yq (i := 1) (vs := [.slice p_3.1 a0.kaf.length p_3.2]) (cs' := [.int .i64 a0.kah, str a0.kai, .slice (Xg p.1 0 a0.kaj.length 1) a0.kaj.length a0.kaj.length, .slice (Xg p_2.1 0 a0.kag.length 2) a0.kag.length a0.kag.length, .slice p_3.1 a0.kaf.length p_3.2]) Try.sizeOf24 rfl rfl rfl rfl rfl rfl rfl rfl rfl ?_
 refine Jd ?_
 refine Jc ?_
 refine Ja ?_
 refine Q1 (i := 1) (vs := [.int .i64 a0.kah, str a0.kai, .slice (Xg p.1 0 a0.kaj.length 1) a0.kaj.length a0.kaj.length, .slice (Xg p_2.1 0 a0.kag.length 2) a0.kag.length a0.kag.length, .slice p_3.1 a0.kaf.length p_3.2]) Try.isAgg26 Try.sizeOf26 rfl rfl rfl rfl rfl ?_
 refine Yq (i := 2) (vs := [.int .i64 a0.kah, str a0.kai, .slice (Xg p.1 0 a0.kaj.length 1) a0.kaj.length a0.kaj.length, .slice (Xg p_2.1 0 a0.kag.length 2) a0.kag.length a0.kag.length, .slice p_3.1 a0.kaf.length p_3.2]) (cs' := [.int .i64 a0.kah, str a0.kai, .slice (Xg p.1 0 a0.kaj.length 1) a0.kaj.length a0.kaj.length, .slice (Xg p_2.1 0 a0.kag.length 2) a0.kag.length a0.kag.length, .slice p_3.1 a0.kaf.length p_3.2]) Try.sizeOf26 rfl rfl rfl rfl rfl rfl rfl rfl rfl ?_
 refine Jd ?_
 refine Jr ?_
 refine Jce 1 ?_
 refine Xl 2 rfl (Jep _ _ _ _ _ _) ?_
 refine Xl 3 rfl (Jep _ _ _ _ _ _) ?_
 refine Jd4 3 4 rfl rfl (by decide) ?_
 refine Jd4 2 3 rfl rfl (by decide) ?_
 refine retC (i := 1) (vs := [.int .i64 a0.kah, str a0.kai, .slice (Xg p.1 0 a0.kaj.length 1) a0.kaj.length a0.kaj.length, .slice (Xg p_2.1 0 a0.kag.length 2) a0.kag.length a0.kag.length, .slice p_3.1 a0.kaf.length p_3.2]) Try.isAgg26 Try.sizeOf26 rfl rfl rfl rfl (Y9 ((Xg p.1 0 a0.kaj.length 1, a0.kaj.length), (Xg p_2.1 0 a0.kag.length 2, a0.kag.length), p_3) (i := 2) rfl rfl (Imp.refl _))
theorem elC_len {h : Jt} {v : Value} {sz i : Nat} : (elC h v sz i).length = sz := by simp [elC]
theorem ent_one {h : Jt} {c : Nat → Value} {x : Ta} (f : g_tag_Entry h c x) : ∀ j, j < 6 → (c j).oneCell' = true := fun j hj => by
  cases f with
  | mk h0 h1 h2 h3 h4 h5 h6 => rcases (show j = 0 ∨ j = 1 ∨ j = 2 ∨ j = 3 ∨ j = 4 ∨ j = 5 from by omega) with rfl | rfl | rfl | rfl | rfl | rfl <;> first | (rw [h0]; rfl) | (rw [h1]; rfl) | (rw [h2]; rfl) | exact h3.one | exact h4.one | exact h5.one
theorem k49_all (d : Nat) : EntsC d := by
 induction d with
 | zero => intro xs v0 w h hw f0 hf; exact hf.elim
 | succ d ih =>
 intro xs v0 w h hw f0 hf
 obtain ⟨hlen, hkids⟩ := hf
 refine enter (n := 31) Try.func49 rfl rfl rfl Z2 [] (Sat.nil _ _) ?_
 refine Jc ?_
 refine Ja ?_
 refine Ju rfl rfl rfl (Jy (v := z0s) rfl) ?_
 refine Jd ?_
 refine Jc ?_
 refine Jc ?_
 refine Ja ?_
 refine Ju rfl rfl rfl (Qi (v := v0) rfl) ?_
 refine Ju rfl rfl rfl (Yw Try.underlying24 rfl f0) ?_
 refine Ju rfl rfl rfl (Xe rfl rfl) ?_
 refine Jd ?_
 refine Jcx (b := (decide ((xs.length : Int) = 0))) rfl (fun hb => ?_) (fun hb => ?_)
 ·have h0 : xs = [] := List.length_eq_zero_iff.1 (by have := of_decide_eq_true hb; omega)
  subst h0
  refine Jc ?_
  refine Ja ?_
  refine Ju rfl rfl rfl (Jy (v := z0s) rfl) ?_
  refine Jd ?_
  refine Jr ?_
  refine c_emp ?_
  refine Xl 0 rfl (imp_tree0 (d := d)) ?_
  exact Jbw (v := z0s) rfl rfl (Y9 ((none, 0) : Option Addr × Nat) (i := 0) rfl rfl (Imp.refl _))
 ·have hpos : 0 < xs.length := by have := of_decide_eq_false hb; omega
  have hnews : ((List.range xs.length).map (elC h v0 6)).length = xs.length := by simp
  refine Jp ?_
  refine Jc ?_
  refine Ja ?_
  refine Ju rfl rfl rfl (Qi (v := v0) rfl) ?_
  refine Ju rfl rfl rfl (Yw Try.underlying24 rfl f0) ?_
  refine Za (Jbv (E := 72) (sz := 6) (by_ := 104) (m := xs.length) (c := xs.length) (rds := []) Try.underlying24 (Qu Try.typeInfo72) rfl rfl rfl rfl rfl rfl rfl rfl (by omega) (by omega) rfl) rfl rfl rfl (fun p => ?_)
  refine Ju rfl rfl rfl (Jy (v := .slice p.1 xs.length p.2) rfl) ?_
  refine Jd ?_
  refine Jc ?_
  refine Ja ?_
  refine Ju rfl rfl rfl (Qi (v := .slice p.1 xs.length p.2) rfl) ?_
  refine Ju rfl rfl rfl (Qi (v := v0) rfl) ?_
  refine Qf (Jd9 (i := 0) (rds := []) (sz := 6) (p := p) (m := xs.length) (a := 0) (dl := xs.length) (cd := p.2) (q := xs.length) (ax := sa v0) (c := sc v0) (news := (List.range xs.length).map (elC h v0 6)) Try.underlying24 (Qu Try.typeInfo72) rfl rfl (by simp) (by rw [Jeo]; rfl) (by omega) ((show _ = v0 from rfl).trans (f0.frs.eq.trans (by rw [hnews]))) (Nat.le_refl _) hnews.symm hpos
    (fun w L' hF hS hj => f0.frs.row (hw.now hF)) (fun x hx => by obtain ⟨i, _, rfl⟩ := List.mem_map.1 hx; exact elC_len) (fun x hx u hu => List.all_eq_true.1 (AllC.oneN (fun {c x} f j hj => ent_one f j hj) f0.allC x hx) u hu)) rfl rfl rfl (fun _ => ?_)
  refine Jd ?_
  refine Xl 0 rfl (Imp.of (show J3 72 6 (.slice p.1 xs.length p.2) xs.length (_ ++ _ ++ _) = J3 72 6 (.slice p.1 xs.length p.2) ((List.range xs.length).map (elC h v0 6)).length (((List.range xs.length).map (elC h v0 6)).map idC) from by rw [hnews, Y1, List.take_zero, List.nil_append, List.drop_eq_nil_of_le (by simp), List.append_nil])) ?_
  refine Jc ?_
  refine Jc ?_
  refine Ja ?_
  refine Ju rfl rfl rfl (Qi (v := .slice p.1 xs.length p.2) rfl) ?_
  refine Ju rfl rfl rfl (Ur Try.underlying24 rfl) ?_
  refine Ju rfl rfl rfl (Qi (v := .int .i64 0) rfl) ?_
  refine Jd ?_
  refine c_emp ?_
  refine Xl 1 rfl (imp_kids0 (d := d)) ?_
  refine J0 ?_
  refine Zz (σ := Nat) (τ := List (List Value)) (cntB xs.length) (fun s t => [(3, .slice p.1 xs.length p.2), (15, .int .i64 (xs.length : Int)), (16, .int .i64 (s : Int))]) (fun s t => [J3 72 6 (.slice p.1 xs.length p.2) xs.length (t.map idC), kidsC d (t.take s) (xs.take s)])
   (fun s t => t.length = xs.length ∧ s ≤ xs.length ∧ ∀ j, s ≤ j → j < xs.length → t[j]? = some (elC h v0 6 j)) 0 ((List.range xs.length).map (elC h v0 6)) [0, 1] (cnt_fix _) ⟨hnews, Nat.zero_le _, fun j _ hj => by simp [hj]⟩ (by exact ⟨rfl, rfl, rfl, trivial⟩) (by decide) (by rw [List.take_zero, List.take_zero, hnews]; rfl) ?_
  rintro i css m gg H ⟨hcl, hin, hcs⟩
  try dsimp only
  refine Jc ?_
  refine Ja ?_
  refine Ju rfl rfl rfl (Ym rfl rfl) ?_
  refine Jd ?_
  refine Jc ?_
  refine Jcx (b := (decide ((i : Int) < (xs.length : Int)))) rfl (fun hb => ?_) (fun hb => ?_)
  ·have hi : i < xs.length := by have := of_decide_eq_true hb; omega
   have hci : i < css.length := by omega
   have hat : Q9 css (i : Int) = some (elC h v0 6 i) := by
    rw [Qn hci]; have := hcs i (Nat.le_refl _) hi; rw [List.getElem?_eq_getElem hci] at this; exact this
   have hat0 : Q9 xs (i : Int) = some xs[i] := Qn hi
   have f := f0.at hat0
   rw [Int.toNat_natCast] at f
   have fk := hkids xs[i] (List.getElem_mem hi)
   have ec : idC (elC h v0 6 i) = [.int .i64 xs[i].Tag, .int .i64 xs[i].Value.kah, str xs[i].Value.kai, Xj h v0 6 i 3, Xj h v0 6 i 4, Xj h v0 6 i 5] := by
    rw [← Qy f]; rfl
   obtain ⟨q0, q1⟩ := g_tag_Entry_iff.1 f
   have f2 : FrS h 1 (Xj h v0 6 i 3) (xs[i].Value.kaj.map Qa) := Q4 q1
   have f3 : FrS h 2 (Xj h v0 6 i 4) (xs[i].Value.kag.map Jl) := Q5 q1
   have f4 : FrN h 6 (Xj h v0 6 i 5) g_tag_Entry xs[i].Value.kaf := Qk q1
   refine Jp ?_
   refine Jc ?_
   refine J0 ?_
   refine Jc ?_
   refine Ja ?_
   refine Ju rfl rfl rfl (Qi (v := .int .i64 (i : Int)) rfl) ?_
   refine Ju rfl rfl rfl (Jy (v := .int .i64 (i : Int)) rfl) ?_
   refine Jd ?_
   refine Ja ?_
   refine Ju rfl rfl rfl (Qi (v := .slice p.1 xs.length p.2) rfl) ?_
   refine Ju rfl rfl rfl (Qi (v := .int .i64 (i : Int)) rfl) ?_
   refine Ju rfl rfl rfl (Qi (v := .slice p.1 xs.length p.2) rfl) ?_
   refine Ju rfl rfl rfl (Qi (v := .int .i64 (i : Int)) rfl) ?_
   refine Xn (fun w hF hS => Ux Try.underlying24 Try.sizeOf72 rfl rfl (Up (i := 0) hS rfl) hcl.symm hat) rfl rfl rfl ?_
   refine Xn (fun w hF hS => Jdu Try.runUnderlying72 rfl Try.sizeOf26 rfl rfl (Up (i := 0) hS rfl) hat) rfl rfl rfl ?_
   refine Xn (fun w hF hS => Y2 (f := idC) (i := (i : Int)) (sz := 6) (j := 1) (vs := [.int .i64 xs[i].Value.kah, str xs[i].Value.kai, Xj h v0 6 i 3, Xj h v0 6 i 4, Xj h v0 6 i 5]) Try.isAgg26 Try.sizeOf26 rfl rfl (Up (i := 0) hS rfl) hat (by rw [ec]; rfl)) rfl rfl rfl ?_
   refine Za (Qs (rds := []) (G := fun x : (Option Addr × Nat) × (Option Addr × Nat) × (Option Addr × Nat) => (.agg #[.int .i64 xs[i].Value.kah, str xs[i].Value.kai, .slice x.1.1 xs[i].Value.kaj.length x.1.2, .slice x.2.1.1 xs[i].Value.kag.length x.2.1.2, .slice x.2.2.1 xs[i].Value.kaf.length x.2.2.2])) (C := fun x : (Option Addr × Nat) × (Option Addr × Nat) × (Option Addr × Nat) => (Jv (roV 1 (.slice x.1.1 xs[i].Value.kaj.length x.1.2) xs[i].Value.kaj.length (xs[i].Value.kaj.map Qa)) (Jv (roV 2 (.slice x.2.1.1 xs[i].Value.kag.length x.2.1.2) xs[i].Value.kag.length (xs[i].Value.kag.map Jl)) (Jcp d (.slice x.2.2.1 xs[i].Value.kaf.length x.2.2.2) xs[i].Value.kaf)))) (fun w L' hF hS hi' => k27_of ih (Jm w) (f2.mono (hw.now hF)) (f3.mono (hw.now hF)) (f4.mono (hw.now hF)) fk) Try.call27 rfl) rfl rfl rfl (fun ⟨p3, p4, p5⟩ => ?_)
   refine Xn (fun w hF hS => Ux Try.underlying24 Try.sizeOf72 rfl rfl (Up (i := 0) hS rfl) hcl.symm hat) rfl rfl rfl ?_
   refine Xn (fun w hF hS => Jdu Try.runUnderlying72 rfl Try.sizeOf26 rfl rfl (Up (i := 0) hS rfl) hat) rfl rfl rfl ?_
   refine Ji5 (q := 0) (j := 1) (i := (i : Int)) (sz := 6) (hm := hcl.symm) (f := idC) (z := [.int .i64 xs[i].Tag, .int .i64 xs[i].Value.kah, str xs[i].Value.kai, .slice p3.1 xs[i].Value.kaj.length p3.2, .slice p4.1 xs[i].Value.kag.length p4.2, .slice p5.1 xs[i].Value.kaf.length p5.2]) (ys := css.set i [.int .i64 xs[i].Tag, .int .i64 xs[i].Value.kah, str xs[i].Value.kai, .slice p3.1 xs[i].Value.kaj.length p3.2, .slice p4.1 xs[i].Value.kag.length p4.2, .slice p5.1 xs[i].Value.kaf.length p5.2]) (vs := [.int .i64 xs[i].Value.kah, str xs[i].Value.kai, .slice p3.1 xs[i].Value.kaj.length p3.2, .slice p4.1 xs[i].Value.kag.length p4.2, .slice p5.1 xs[i].Value.kaf.length p5.2]) Try.sizeOf26 rfl rfl rfl rfl rfl rfl rfl rfl rfl (fun y_ hy_ => by cases hy_.symm.trans hat; rw [ec]; rfl) (by rw [Jcu (by omega) (by omega), Int.toNat_natCast]) ?_
   refine Jd ?_
   refine Ja ?_
   refine Ju rfl rfl rfl (J4 rfl rfl (J2 (by omega))) ?_
   refine Ju rfl rfl rfl (Qi (v := .int .i64 ((i : Int) + 1)) rfl) ?_
   refine Jd ?_
   refine Xl 2 rfl (imp_kid (x := xs[i])) ?_
   refine Jd4 1 2 rfl rfl (by decide) ?_
   refine Xl 1 rfl imp_kids ?_
   refine Jhp (i + 1) (css.set i [.int .i64 xs[i].Tag, .int .i64 xs[i].Value.kah, str xs[i].Value.kai, .slice p3.1 xs[i].Value.kaj.length p3.2, .slice p4.1 xs[i].Value.kag.length p4.2, .slice p5.1 xs[i].Value.kaf.length p5.2]) m [0, 1] (by exact ⟨rfl, rfl, rfl, trivial⟩) (by decide) (by
     rw [take_setS hci, Jfo hi]; rfl) (by exact ⟨Jh7 H hi, by simpa using hcl, hi, fun j hj hj2 => by rw [List.getElem?_set_ne (by omega)]; exact hcs j (by omega) hj2⟩) (Nat.lt_succ_self _)
  ·have hi : i = xs.length := by have := of_decide_eq_false hb; omega
   refine Xy ?_
   refine Jc ?_
   refine Ja ?_
   refine Ju rfl rfl rfl (Qi (v := .slice p.1 xs.length p.2) rfl) ?_
   refine Ju rfl rfl rfl (Jy (v := .slice p.1 xs.length p.2) rfl) ?_
   refine Jd ?_
   refine Jr ?_
   refine Jd4 0 1 rfl rfl (by decide) ?_
   refine Xl 0 rfl (Imp.of (show Jv (J3 72 6 (.slice p.1 xs.length p.2) xs.length (css.map idC)) (kidsC d (css.take i) (xs.take i)) = Jv (J3 72 6 (.slice p.1 xs.length p.2) xs.length css) (kidsC d css xs) from by rw [Y1, hi, List.take_of_length_le (by omega), List.take_length])) ?_
   refine Xl 0 rfl imp_tree ?_
   exact Jbw (v := .slice p.1 xs.length p.2) rfl rfl (Y9 p (i := 0) rfl rfl (Imp.refl _))
end Go.Proofs.Ythljoadplekgnaa

namespace Go.Proofs.Ythljoadplekgnaa
open Go Go.Vc Go.Md Go.M Go.Lx
set_option maxRecDepth 100000
set_option maxHeartbeats 4000000
def DirE (d : Nat) (h : Jt) (c : List Value) (l : List Ta) (bs : List Nat) : Prop := ∃ u, c = [u] ∧ TreeL d h u l bs
def TreeF (d : Nat) (h : Jt) (v : Value) (ls : List (List Ta)) (bs : List Nat) : Prop :=
  ∃ (css : List (List Value)) (b2 : List Nat), RowP h 24 1 v css ∧ KidsG (DirE d) h css ls b2 ∧ bs = v.ownBlock.toList ++ b2
theorem DirE.agree {d : Nat} {h h' : Jt} {c : List Value} {l : List Ta} {bs : List Nat} (t : DirE d h c l bs) (k : ∀ q ∈ bs, ∀ o, h q = some o → h' q = some o) : DirE d h' c l bs := by
  obtain ⟨u, e, t⟩ := t; exact ⟨u, e, t.agree k⟩
theorem Jg6 {d : Nat} {h h' : Jt} {css : List (List Value)} {ls : List (List Ta)} {bs : List Nat} (t : KidsG (DirE d) h css ls bs) (k : ∀ b o, h b = some o → h' b = some o) : KidsG (DirE d) h' css ls bs := t.agree (fun c x b t k => t.agree k) fun q _ => k q
theorem TreeF.mono {d : Nat} {h h' : Jt} {v : Value} {ls : List (List Ta)} {bs : List Nat} (t : TreeF d h v ls bs) (k : ∀ b o, h b = some o → h' b = some o) : TreeF d h' v ls bs := by
  obtain ⟨css, b2, r, g, e⟩ := t; exact ⟨css, b2, r.mono fun b _ => k b, Jg6 g k, e⟩
theorem TreeF.frn {d : Nat} {h : Jt} {v : Value} {ls : List (List Ta)} {bs : List Nat} (t : TreeF d h v ls bs) : FrN h 1 v gs_tag_Entry ls := by
  obtain ⟨css, b2, r, g, e⟩ := t
  have hid : css.map idC = css := by unfold idC; simp
  refine Wu (by rw [hid]; exact r.frs) (g.allC fun c x b t => ?_)
  obtain ⟨u, rfl, t⟩ := t
  exact ⟨rfl, t.frn⟩
abbrev fileC (d : Nat) (v : Value) (ls : List (List Ta)) : Chunk := ownC fun h bs => TreeF d h v ls bs
abbrev dirsC (d : Nat) (css : List (List Value)) (ls : List (List Ta)) : Chunk := ownC fun h bs => KidsG (DirE d) h css ls bs
theorem imp_dirs0 {d : Nat} : Imp empC (dirsC d [] []) := Jdr rfl
theorem imp_dir {d : Nat} {u : Value} {l : List Ta} {css : List (List Value)} {ls : List (List Ta)} : Imp (Jv (dirsC d css ls) (Jcp d u l)) (dirsC d (css ++ [[u]]) (ls ++ [l])) :=
  Jc9 (fun h h' bs k t => Jg6 t k) (fun h h' bs k t => t.mono k) fun h b1 b2 t1 t2 => t1.snoc ⟨u, rfl, t2⟩
theorem imp_file {d n : Nat} {v : Value} {css : List (List Value)} {ls : List (List Ta)} : Imp (Jv (J3 24 1 v n css) (dirsC d css ls)) (fileC d v ls) :=
  Jb3 (Jex Jil (Imp.refl _)) (Jc9 (fun h h' bs k t => ⟨t.1.mono fun b _ => k b, t.2⟩) (fun h h' bs k t => Jg6 t k) fun h b1 b2 t1 t2 => ⟨css, b2, t1.1, t2, by rw [t1.2.2]⟩)
theorem k25_of {d : Nat} {a0 : Tg} {v0_1 : Value} {w : World} {h : Jt} (hw : Know h w Z2) (f0 : FrN h 1 v0_1 gs_tag_Entry a0.kal) (hf : fitF d a0) :
    Does Try.prog 25 (List.toArray [.agg #[.bool a0.Big, v0_1]]) w (fun v w' => ∃ x : Option Addr × Nat, v = (.agg #[.bool a0.Big, .slice x.1 a0.kal.length x.2]) ∧ Turn w w' Z2 (fileC d (.slice x.1 a0.kal.length x.2) a0.kal)) := by
 obtain ⟨hlen, hkids⟩ := hf
 refine enter (n := 27) Try.func25 rfl rfl rfl Z2 [] (Sat.nil _ _) ?_
 refine Jc ?_
 refine Ja ?_
 refine We (cs := [.bool a0.Big, v0_1]) rfl rfl rfl rfl (fun b4 => ?_)
 refine Xw (cs := [.bool false, z0s]) Try.zeroValue33 rfl rfl rfl (fun b5 => ?_)
 refine Jd ?_
 refine Jc ?_
 refine Ja ?_
 refine Ju rfl rfl rfl (Qd Try.runUnderlying33 rfl Try.sizeOf31 rfl rfl) ?_
 refine Je0 (i := 0) (v := v0_1) Try.isAgg31 rfl rfl rfl rfl rfl ?_
 refine Ju rfl rfl rfl (Yw Try.underlying31 rfl f0) ?_
 refine Za (Jbv (E := 24) (sz := 1) (by_ := 24) (m := a0.kal.length) (c := a0.kal.length) (rds := []) Try.underlying31 (Qu Try.typeInfo24) rfl rfl rfl rfl rfl rfl rfl rfl (by omega) (by omega) rfl) rfl rfl rfl (fun p => ?_)
 refine Ju rfl rfl rfl (Jy (v := .slice p.1 a0.kal.length p.2) rfl) ?_
 refine Jd ?_
 refine Xl 2 rfl (Imp.of (show J3 24 1 (.slice p.1 a0.kal.length p.2) a0.kal.length _ = J3 24 1 (.slice p.1 a0.kal.length p.2) a0.kal.length ((List.replicate a0.kal.length [z0s]).map idC) from by rw [Y1]; rfl)) ?_
 refine Jc ?_
 refine Jc ?_
 refine Ja ?_
 refine Ju rfl rfl rfl (Qd Try.runUnderlying33 rfl Try.sizeOf31 rfl rfl) ?_
 refine Je0 (i := 0) (v := v0_1) Try.isAgg31 rfl rfl rfl rfl rfl ?_
 refine Ju rfl rfl rfl (Yw Try.underlying31 rfl f0) ?_
 refine Ju rfl rfl rfl (Qi (v := .int .i64 0) rfl) ?_
 refine Jd ?_
 refine c_emp ?_
 refine Xl 3 rfl (imp_dirs0 (d := d)) ?_
 refine J0 ?_
 refine Zz (σ := Nat) (τ := List (List Value)) (cntB a0.kal.length) (fun s t => [(1, pz b4), (2, pz b5), (3, .slice p.1 a0.kal.length p.2), (11, v0_1), (12, .int .i64 (a0.kal.length : Int)), (13, .int .i64 (s : Int))])
  (fun s t => [Jf b4 [.bool a0.Big, v0_1] 33, Jf b5 [.bool false, z0s] 33, J3 24 1 (.slice p.1 a0.kal.length p.2) a0.kal.length (t.map idC), dirsC d (t.take s) (a0.kal.take s)])
  (fun s t => t.length = a0.kal.length ∧ s ≤ a0.kal.length ∧ ∀ j, s ≤ j → j < a0.kal.length → t[j]? = some [z0s]) 0 (List.replicate a0.kal.length [z0s]) [0, 1, 2, 3] (cnt_fix _) ⟨by simp, Nat.zero_le _, fun j _ hj => by simp [hj]⟩ (by exact ⟨rfl, rfl, rfl, rfl, rfl, rfl, trivial⟩) (by decide) (by rw [List.take_zero, List.take_zero]; rfl) ?_
 rintro i css m gg H ⟨hcl, hin, hcs⟩
 try dsimp only
 refine Jc ?_
 refine Ja ?_
 refine Ju rfl rfl rfl (Ym rfl rfl) ?_
 refine Jd ?_
 refine Jc ?_
 refine Jcx (b := (decide ((i : Int) < (a0.kal.length : Int)))) rfl (fun hb => ?_) (fun hb => ?_)
 ·have hi : i < a0.kal.length := by have := of_decide_eq_true hb; omega
  have hci : i < css.length := by omega
  have hat : Q9 css (i : Int) = some [z0s] := by
   rw [Qn hci]; have := hcs i (Nat.le_refl _) hi; rw [List.getElem?_eq_getElem hci] at this; exact this
  have hat0 : Q9 a0.kal (i : Int) = some a0.kal[i] := Qn hi
  have f : FrN h 6 (Xj h v0_1 1 (Int.toNat (i : Int)) 0) g_tag_Entry a0.kal[i] := f0.at hat0
  refine Jp ?_
  refine Jc ?_
  refine J0 ?_
  refine Jc ?_
  refine Ja ?_
  refine Ju rfl rfl rfl (Qi (v := .int .i64 (i : Int)) rfl) ?_
  refine Ju rfl rfl rfl (Q2 Try.underlying31 Try.sizeOf24 rfl rfl f0.frs (f0.ix hat0)) ?_
  refine Xn (fun w hF hS => Qt (f := (elC h v0_1 1)) (i := (i : Int)) (sz := 1) (j := 0) (v := (Xj h v0_1 1 (Int.toNat (i : Int)) 0)) Try.isAgg24 rfl rfl (f0.frs.row (hw.now hF)) (f0.ix hat0) (Jat (Wm (f0.at hat0)) rfl)) rfl rfl rfl ?_
  refine Ju rfl rfl rfl (Jy (v := .int .i64 (i : Int)) rfl) ?_
  refine Ju rfl rfl rfl (Jy (v := (Xj h v0_1 1 (Int.toNat (i : Int)) 0)) rfl) ?_
  refine Jd ?_
  refine Ja ?_
  refine Ju rfl rfl rfl (Qi (v := .slice p.1 a0.kal.length p.2) rfl) ?_
  refine Ju rfl rfl rfl (Qi (v := .int .i64 (i : Int)) rfl) ?_
  refine Ju rfl rfl rfl (Qi (v := (Xj h v0_1 1 (Int.toNat (i : Int)) 0)) rfl) ?_
  refine Za (Qs (rds := []) (G := fun x : (Option Addr × Nat) => .slice x.1 a0.kal[i].length x.2) (C := fun x : (Option Addr × Nat) => Jcp d (.slice x.1 a0.kal[i].length x.2) a0.kal[i]) (fun w L' hF hS hi' => k49_all d (Jm w) (f.mono (hw.now hF)) (hkids _ (List.getElem_mem hi))) Try.call49 rfl) rfl rfl rfl (fun p5 => ?_)
  refine Xn (fun w hF hS => Ux Try.underlying31 Try.sizeOf24 rfl rfl (Up (i := 2) hS rfl) hcl.symm hat) rfl rfl rfl ?_
  refine Ji5 (q := 2) (j := 0) (i := (i : Int)) (sz := 1) (hm := hcl.symm) (f := idC) (z := [.slice p5.1 a0.kal[i].length p5.2]) (ys := css.set i [.slice p5.1 a0.kal[i].length p5.2]) (vs := [.slice p5.1 a0.kal[i].length p5.2]) Try.sizeOf24 rfl rfl rfl rfl rfl rfl rfl rfl rfl (fun y_ hy_ => by cases hy_.symm.trans hat; rfl) (by rw [Jcu (by omega) (by omega), Int.toNat_natCast]) ?_
  refine Jd ?_
  refine Ja ?_
  refine Ju rfl rfl rfl (J4 rfl rfl (J2 (by omega))) ?_
  refine Ju rfl rfl rfl (Qi (v := .int .i64 ((i : Int) + 1)) rfl) ?_
  refine Jd ?_
  refine Jd4 3 4 rfl rfl (by decide) ?_
  refine Xl 3 rfl imp_dir ?_
  refine Jhp (i + 1) (css.set i [.slice p5.1 a0.kal[i].length p5.2]) m [0, 1, 2, 3] (by exact ⟨rfl, rfl, rfl, rfl, rfl, rfl, trivial⟩) (by decide) (by
    rw [take_setS hci, Jfo hi]; rfl) (by exact ⟨Jh7 H hi, by simpa using hcl, hi, fun j hj hj2 => by rw [List.getElem?_set_ne (by omega)]; exact hcs j (by omega) hj2⟩) (Nat.lt_succ_self _)
 ·have hi : i = a0.kal.length := by have := of_decide_eq_false hb; omega
  refine Xy ?_
  refine Jc ?_
  refine Ja ?_
  refine Ju rfl rfl rfl (Qi (v := .slice p.1 a0.kal.length p.2) rfl) ?_
  refine Ju rfl rfl rfl (Qd Try.runUnderlying33 rfl Try.sizeOf31 rfl rfl) ?_
  refine Yq (i := 0) (vs := [.slice p.1 a0.kal.length p.2]) (cs' := [.bool a0.Big, .slice p.1 a0.kal.length p.2]) Try.sizeOf31 rfl rfl rfl rfl rfl rfl rfl rfl rfl ?_
  refine Jd ?_
  refine Jc ?_
  refine Ja ?_
  refine Q1 (i := 0) (vs := [.bool a0.Big, .slice p.1 a0.kal.length p.2]) Try.isAgg33 Try.sizeOf33 rfl rfl rfl rfl rfl ?_
  refine Yq (i := 1) (vs := [.bool a0.Big, .slice p.1 a0.kal.length p.2]) (cs' := [.bool a0.Big, .slice p.1 a0.kal.length p.2]) Try.sizeOf33 rfl rfl rfl rfl rfl rfl rfl rfl rfl ?_
  refine Jd ?_
  refine Jr ?_
  refine Jd4 2 3 rfl rfl (by decide) ?_
  refine Xl 2 rfl (Imp.of (show Jv (J3 24 1 (.slice p.1 a0.kal.length p.2) a0.kal.length (css.map idC)) (dirsC d (css.take i) (a0.kal.take i)) = Jv (J3 24 1 (.slice p.1 a0.kal.length p.2) a0.kal.length css) (dirsC d css a0.kal) from by rw [Y1, hi, List.take_of_length_le (by omega), List.take_length])) ?_
  refine Xl 2 rfl imp_file ?_
  refine retC (i := 1) (vs := [.bool a0.Big, .slice p.1 a0.kal.length p.2]) Try.isAgg33 Try.sizeOf33 rfl rfl rfl rfl (Y9 p (i := 2) rfl rfl (Imp.refl _))
end Go.Proofs.Ythljoadplekgnaa

namespace Go.Proofs.Ythljoadplekgnaa
open Go Go.Vc Go.Md Go.M Go.Lx
inductive Pth (h : Jt) (dv : Value) (ls : List (List Ta)) : List Nat → Addr → Value → List Ta → Prop
  | base {i : Nat} {a : Addr} (hi : i < ls.length) (ha : sa dv = some a) : Pth h dv ls [i] ⟨a.block, a.off + i * 1, none⟩ (Xj h dv 1 i 0) ls[i]
  | step {ks : List Nat} {a b : Addr} {u : Value} {l : List Ta} {n : Nat} (p : Pth h dv ls ks a u l) (hn : n < l.length) (hb : sa u = some b) : Pth h dv ls (ks ++ [n]) ⟨b.block, b.off + (n * 6 + 1 + 4), none⟩ (Xj h u 6 n 5) l[n].Value.kaf
theorem Pth.frn {h : Jt} {dv : Value} {ls : List (List Ta)} (f0 : FrN h 1 dv gs_tag_Entry ls) {ks : List Nat} {a : Addr} {u : Value} {l : List Ta} (p : Pth h dv ls ks a u l) : FrN h 6 u g_tag_Entry l := by
  induction p with
  | base hi ha => exact f0.el _ _ (List.getElem?_eq_getElem hi)
  | step p hn hb ih => exact Qk (g_tag_Entry_iff.1 (ih.el _ _ (List.getElem?_eq_getElem hn))).2
section
variable {cx : Cx} {e : Xs} {d : Nat} {ty : TypeId} {pos : String} {af : Array Edge} {g : Option (Nat × Bool)}
theorem Pth.load {h : Jt} {dv : Value} {ls : List (List Ta)} (f0 : FrN h 1 dv gs_tag_Entry ls) {ks : List Nat} {a : Addr} {u : Value} {l : List Ta} (p : Pth h dv ls ks a u l) {A : Operand} (hA : ev e A = .pointer (some a)) {w : World}
    (k : ∀ b o, h b = some o → w.heap[b]? = some o) : (execOp (ev e) ⟨some d, .load 24 A, ty, pos, af, g⟩).run Try.prog w = .ok (.value u) w := by
  cases p with
  | @base i a hi ha =>
    have hr := f0.frs.row k
    rw [ha] at hr
    exact Qt (f := elC h dv 1) (i := (i : Int)) (sz := 1) (j := 0) (k := i * 1) (a := some a) Try.isAgg24 hA (by simp) hr (f0.ix (Qn hi)) (Jat (Wm (f0.at (Qn hi))) rfl)
  | @step ks a b u l n p hn hb =>
    have f := p.frn f0
    have hr := f.frs.row k
    rw [hb] at hr
    exact Qt (f := elC h u 6) (i := (n : Int)) (sz := 6) (j := 5) (k := n * 6 + 1 + 4) (a := some b) Try.isAgg24 hA (by simp [Nat.add_assoc]) hr (f.ix (Qn hn)) (Jat (Qy (f.at (Qn hn))) rfl)
end
theorem getL_snoc : ∀ (ks : List Nat) (l : List Ta) (n : Nat) (hn : n < (V8 ks l).length), V8 (ks ++ [n]) l = (V8 ks l)[n].Value.kaf
  | [], l, n, hn => by
    have hn : n < l.length := hn
    show (match l[n]? with | some e => V8 [] e.Value.kaf | none => []) = _
    rw [List.getElem?_eq_getElem hn]; rfl
  | k :: ks, l, n, hn => by
    show (match l[k]? with | some e => V8 (ks ++ [n]) e.Value.kaf | none => []) = _
    have hn' : n < (match l[k]? with | some e => V8 ks e.Value.kaf | none => []).length := hn
    cases hk : l[k]? with
    | none => rw [hk] at hn'; exact absurd hn' (by simp)
    | some e =>
      rw [hk] at hn'
      have := getL_snoc ks e.Value.kaf n hn'
      have e2 : V8 (k :: ks) l = V8 ks e.Value.kaf := by
        show (match l[k]? with | some e => V8 ks e.Value.kaf | none => []) = _
        rw [hk]
      simp only [e2]
      exact this
theorem putL_snoc : ∀ (ks : List Nat) (l : List Ta) (n : Nat) (l' : List Ta) (hn : n < (V8 ks l).length), putL (ks ++ [n]) l l' = putL ks l ((V8 ks l).set n (Jgj (V8 ks l)[n] l'))
  | [], l, n, l', hn => by
    have hn : n < l.length := hn
    show (match l[n]? with | some e => l.set n (Jgj e l') | none => l) = _
    rw [List.getElem?_eq_getElem hn]; rfl
  | k :: ks, l, n, l', hn => by
    show (match l[k]? with | some e => l.set k (Jgj e (putL (ks ++ [n]) e.Value.kaf l')) | none => l) = (match l[k]? with | some e => l.set k (Jgj e (putL ks e.Value.kaf _)) | none => l)
    have hn' : n < (match l[k]? with | some e => V8 ks e.Value.kaf | none => []).length := hn
    cases hk : l[k]? with
    | none => rfl
    | some e =>
      rw [hk] at hn'
      have e2 : V8 (k :: ks) l = V8 ks e.Value.kaf := by
        show (match l[k]? with | some e => V8 ks e.Value.kaf | none => []) = _
        rw [hk]
      simp only [e2]
      rw [putL_snoc ks e.Value.kaf n l' hn']
theorem Pth.get {h : Jt} {dv : Value} {ls : List (List Ta)} {ks : List Nat} {a : Addr} {u : Value} {l : List Ta} (p : Pth h dv ls ks a u l) : ∃ i r, ∃ hi : i < ls.length, ks = i :: r ∧ V8 r ls[i] = l := by
  induction p with
  | @base i a hi ha => exact ⟨i, [], hi, rfl, rfl⟩
  | @step ks a b u l n p hn hb ih =>
    obtain ⟨i, r, hi, rfl, hg⟩ := ih
    subst hg
    exact ⟨i, r ++ [n], hi, rfl, getL_snoc r ls[i] n hn⟩
theorem Pth.getF {h : Jt} {dv : Value} {ls : List (List Ta)} {ks : List Nat} {a : Addr} {u : Value} {l : List Ta} (p : Pth h dv ls ks a u l) : getF ks ls = l := by
  obtain ⟨i, r, hi, rfl, hg⟩ := p.get
  show (match ls[i]? with | some l => V8 r l | none => []) = l
  rw [List.getElem?_eq_getElem hi]; exact hg
theorem ent_with {h : Jt} {c : Nat → Value} {x : Ta} {v3 v4 u : Value} {l : List Ta} (e3 : FrS h 1 v3 (x.Value.kaj.map Qa)) (e4 : FrS h 2 v4 (x.Value.kag.map Jl)) (f : FrN h 6 u g_tag_Entry l) :
    g_tag_Entry h (fun j => [.int .i64 x.Tag, .int .i64 x.Value.kah, str x.Value.kai, v3, v4, u].getD j undef) (Jgj x l) := .mk rfl rfl rfl e3 e4 f.frs f.el
theorem flat_set {sz : Nat} : ∀ {css : List (List Value)} {n j : Nat} {x : Value} (hl : ∀ c ∈ css, c.length = sz) (hn : n < css.length) (hj : j < sz), (css.set n ((css.getD n []).set j x)).flatten = css.flatten.set (n * sz + j) x := fun hl hn hj => Jgg sz _ _ _ _ hl hn hj
theorem row_upd {h h' : Jt} {E sz n j g o : Nat} {u : Value} {css : List (List Value)} {u' : Value} {cl : List Value} {T : Nat} (r : RowP h E sz u css) (hu : u.ownBlock = some g) (hn : n < css.length) (hj : j < sz) (hg : h g = some (.cells cl.toArray T (0, 0))) (ho : o = n * sz + j)
    (h1 : h' g = some (.cells (cl.set o u').toArray T (0, 0))) : RowP h' E sz u (css.set n ((css.getD n []).set j u')) := by
  subst ho
  refine ⟨fun x hx => ?_, ?_⟩
  · rcases List.mem_or_eq_of_mem_set hx with k | k
    · exact r.1 x k
    · subst k
      rw [List.length_set, List.getD_eq_getElem?_getD, List.getElem?_eq_getElem hn]
      exact r.1 _ (List.getElem_mem hn)
  · rcases r.2 with ⟨rfl, h0⟩ | ⟨g', cap, cur, rfl, hb, q1, q2, q3, q4⟩
    · cases hu
    · simp [Value.ownBlock] at hu
      subst hu
      rw [hb] at hg
      simp only [Option.some.injEq, Obj.cells.injEq] at hg
      obtain ⟨rfl, rfl, _⟩ := hg
      refine .inr ⟨g', cap, (cl.set (n * sz + j) u').toArray, by rw [List.length_set], h1, by rwa [List.length_set], q2, by simpa using q3, ?_⟩
      rw [List.length_set, flat_set r.1 hn hj, ← q4]
      show (cl.set (n * sz + j) u').take _ = (cl.take _).set _ _
      rw [List.take_set]
def Hole (d : Nat) (h : Jt) (dv : Value) (ls : List (List Ta)) (bs : List Nat) (ks : List Nat) (a : Addr) (u : Value) (l : List Ta) : Prop :=
  ∃ (cl : List Value) (T d' : Nat) (bsub : List Nat), h a.block = some (.cells cl.toArray T (0, 0)) ∧ cl[a.off]? = some u ∧ a.block ∈ bs ∧ a.block ∉ bsub ∧ (∀ q ∈ bsub, q ∈ bs) ∧ bsub.Nodup ∧ TreeL d' h u l bsub ∧
    ∀ (h' : Jt) (u1 : Value) (l1 : List Ta), (∀ q ∈ bs, q ≠ a.block → q ∉ bsub → ∀ o, h q = some o → h' q = some o) → h' a.block = some (.cells (cl.set a.off u1).toArray T (0, 0)) → FrN h' 6 u1 g_tag_Entry l1 → FrN h' 1 dv gs_tag_Entry (putF ks ls l1)
theorem set_self {cl : List Value} {o : Nat} {u : Value} (h : cl[o]? = some u) : cl.set o u = cl := by
  obtain ⟨ho, e⟩ := List.getElem?_eq_some_iff.1 h
  rw [← e]; exact List.set_getElem_self ho
theorem hole_of {d : Nat} {h : Jt} {dv : Value} {ls : List (List Ta)} {bs : List Nat} (t : TreeF d h dv ls bs) (hn : bs.Nodup) {ks : List Nat} {a : Addr} {u : Value} {l : List Ta} (p : Pth h dv ls ks a u l) : Hole d h dv ls bs ks a u l := by
  have f0 := t.frn
  induction p with
  | @base i a hi ha =>
    obtain ⟨css, b2, r, g, rfl⟩ := t
    obtain ⟨n1, n2, n3⟩ := List.nodup_append.1 hn
    have hci : i < css.length := by rw [g.len]; exact hi
    obtain ⟨b, ⟨u, hc, tu⟩, hbs, hbn, hput⟩ := g.at i (List.getElem?_eq_getElem hci) (List.getElem?_eq_getElem hi) n2
    rcases r.2 with ⟨rfl, h0⟩ | ⟨gb, cap, cur, rfl, hb, q1, q2, q3, q4⟩
    · rw [h0] at hci; simp at hci
    · have ea : a = ⟨gb, 0, none⟩ := by simp [sa] at ha; exact ha.symm
      subst ea
      have hcell : cur.toList[i]? = some u := by
        have h1 := Jak css i css[i] (List.all_eq_true.2 fun x hx => by simpa using r.1 x hx) (List.getElem?_eq_getElem hci) 0 u (by rw [hc]; rfl)
        rw [← q4, List.getElem?_take] at h1
        split at h1
        · simpa using h1
        · cases h1
      have hu : Xj h (.slice (some ⟨gb, 0, none⟩) css.length cap) 1 i 0 = u := by
        have h1 := f0.el i _ (List.getElem?_eq_getElem hi)
        simp only [Xj, hb]
        rw [if_pos (by decide), Array.getD_eq_getD_getElem?, ← Array.getElem?_toList]
        simp only [Nat.zero_add, Nat.mul_one, Nat.add_zero, hcell]; rfl
      rw [hu]
      have hgb : gb ∈ (Value.slice (some ⟨gb, 0, none⟩) css.length cap).ownBlock.toList := by simp [Value.ownBlock]
      refine ⟨cur.toList, _, d, b, by simpa using hb, by simpa using hcell, List.mem_append_left _ hgb, fun hq => n3 gb hgb gb (hbs gb hq) rfl, fun q hq => List.mem_append_right _ (hbs q hq), hbn, tu, fun h' u1 l1 hag hcl hf => ?_⟩
      have hk : KidsG (fun h c (x : List Ta) _ => c.length = 1 ∧ gs_tag_Entry h (fun j => c.getD j undef) x) h' (css.set i [u1]) (ls.set i l1) b2 := hput _ h' [u1] l1 (fun c x b t k => by
          obtain ⟨u, rfl, t⟩ := t
          exact ⟨rfl, (t.agree k).frn⟩) (fun q hq hqb => hag q (List.mem_append_right _ hq) (fun e => n3 gb hgb q hq e.symm) hqb) ⟨rfl, hf⟩
      have hr := row_upd (n := i) (j := 0) (o := i) (u' := u1) r rfl hci (by decide) (by simpa using hb) (by simp) (by simpa using hcl)
      have e1 : (css.getD i []).set 0 u1 = [u1] := by rw [List.getD_eq_getElem?_getD, List.getElem?_eq_getElem hci, hc]; rfl
      rw [e1] at hr
      have hid : (css.set i [u1]).map idC = css.set i [u1] := by unfold idC; simp
      have e2 : putF [i] ls l1 = ls.set i l1 := by
        show (match ls[i]? with | some l => ls.set i (putL [] l l1) | none => ls) = _
        rw [List.getElem?_eq_getElem hi]; rfl
      rw [e2]
      exact Wu (by rw [hid]; exact hr.frs) (hk.allC fun c x b t => t)
  | @step ks a b u l n p hln hb ih =>
    obtain ⟨cl, T, d', bsub, c1, c2, c3, c4, c5, c6, c7, c8⟩ := ih
    have fu := c7.frn
    cases d' with
    | zero => obtain ⟨_, rfl, _⟩ := c7; simp at hln
    | succ d' =>
      obtain ⟨css, b2, r, k, rfl⟩ := c7
      obtain ⟨n1, n2, n3⟩ := List.nodup_append.1 c6
      have hci : n < css.length := by rw [k.len]; exact hln
      obtain ⟨bk, ⟨v3, v4, v5, b5, hc, e3, e4, e5, ebk⟩, hbs, hbn, hput⟩ := k.at n (List.getElem?_eq_getElem hci) (List.getElem?_eq_getElem hln) n2
      rcases r.2 with ⟨rfl, h0⟩ | ⟨gb, cap, cur, rfl, hgb, q1, q2, q3, q4⟩
      · rw [h0] at hci; simp at hci
      · have eb : b = ⟨gb, 0, none⟩ := by simp [sa] at hb; exact hb.symm
        subst eb
        have hcell : cur.toList[n * 6 + 5]? = some v5 := by
          have h1 := Jak css n css[n] (List.all_eq_true.2 fun x hx => by simpa using r.1 x hx) (List.getElem?_eq_getElem hci) 5 v5 (by rw [hc]; rfl)
          rw [← q4, List.getElem?_take] at h1
          split at h1
          · exact h1
          · cases h1
        have hu : Xj h (.slice (some ⟨gb, 0, none⟩) css.length cap) 6 n 5 = v5 := by
          simp only [Xj, hgb]
          rw [if_pos (by decide), Array.getD_eq_getD_getElem?, ← Array.getElem?_toList]
          simp only [Nat.zero_add, hcell]; rfl
        rw [hu]
        have hmem : gb ∈ (Value.slice (some ⟨gb, 0, none⟩) css.length cap).ownBlock.toList := by simp [Value.ownBlock]
        have hb5 : ∀ q ∈ b5, q ∈ bk := fun q hq => by rw [ebk]; simp [hq]
        rw [ebk] at hbn
        have nb5 : b5.Nodup := (List.nodup_append.1 (List.nodup_append.1 hbn).2.1).2.1
        have disj : ∀ q ∈ roB v3 l[n].Value.kaj.length ++ roB v4 l[n].Value.kag.length, q ∉ b5 := fun q hq hq5 => by
          rw [← List.append_assoc] at hbn
          exact (List.nodup_append.1 hbn).2.2 q hq q hq5 rfl
        have gne : gb ≠ a.block := fun e => c4 (by rw [← e]; exact List.mem_append_left _ hmem)
        refine ⟨cur.toList, _, d', b5, by simpa using hgb, by simpa [Nat.add_assoc] using hcell, c5 gb (List.mem_append_left _ hmem), fun hq => n3 gb hmem gb (hbs gb (hb5 gb hq)) rfl, fun q hq => c5 q (List.mem_append_right _ (hbs q (hb5 q hq))), nb5, e5, fun h' u1 l1 hag hcl hf => ?_⟩
        have agk : ∀ q ∈ b2, q ∉ b5 → ∀ o, h q = some o → h' q = some o := fun q hq hq5 => hag q (c5 q (List.mem_append_right _ hq)) (fun e => n3 gb hmem q hq e.symm) hq5
        have hag3 : ∀ q ∈ roB v3 l[n].Value.kaj.length ++ roB v4 l[n].Value.kag.length, ∀ o, h q = some o → h' q = some o := fun q hq => agk q (hbs q (by
          rw [ebk]
          rcases List.mem_append.1 hq with h | h <;> simp [h])) (disj q hq)
        have hk : KidsG (fun h c (x : Ta) _ => c.length = 6 ∧ g_tag_Entry h (fun j => c.getD j undef) x) h' (css.set n [.int .i64 l[n].Tag, .int .i64 l[n].Value.kah, str l[n].Value.kai, v3, v4, u1]) (l.set n (Jgj l[n] l1)) b2 := hput _ h' _ _ (fun c x b t k => by
            have t' := t.agree (fun v xs b t k => t.agree k) k
            obtain ⟨w3, w4, w5, z5, rfl, z3, z4, zt, _⟩ := t'
            have f := zt.frn
            exact ⟨rfl, .mk rfl rfl rfl z3 z4 f.frs f.el⟩) (fun q hq hqb => agk q hq fun h5 => hqb (hb5 q h5))
          ⟨rfl, ent_with (c := fun _ => undef) (e3.agree (by rw [List.length_map]; exact fun q hq => hag3 q (List.mem_append_left _ hq))) (e4.agree (by rw [List.length_map]; exact fun q hq => hag3 q (List.mem_append_right _ hq))) hf⟩
        have hr := row_upd (n := n) (j := 5) (o := n * 6 + 5) (u' := u1) r rfl hci (by decide) (by simpa using hgb) rfl (by simpa [Nat.add_assoc] using hcl)
        have e1 : (css.getD n []).set 5 u1 = [.int .i64 l[n].Tag, .int .i64 l[n].Value.kah, str l[n].Value.kai, v3, v4, u1] := by rw [List.getD_eq_getElem?_getD, List.getElem?_eq_getElem hci, Option.getD_some, hc]; rfl
        rw [e1] at hr
        have hid : ∀ z : List (List Value), z.map idC = z := fun z => by unfold idC; simp
        have fl : FrN h' 6 (.slice (some ⟨gb, 0, none⟩) css.length cap) g_tag_Entry (l.set n (Jgj l[n] l1)) := Wu (by rw [hid]; exact hr.frs) (hk.allC fun c x b t => t)
        obtain ⟨i, rk, hi, rfl, hgt⟩ := p.get
        have e2 : putF ((i :: rk) ++ [n]) ls l1 = putF (i :: rk) ls (l.set n (Jgj l[n] l1)) := by
          subst hgt
          show (match ls[i]? with | some l => ls.set i (putL (rk ++ [n]) l l1) | none => ls) = (match ls[i]? with | some l => ls.set i (putL rk l _) | none => ls)
          rw [List.getElem?_eq_getElem hi]
          simp only
          rw [putL_snoc rk ls[i] n l1 hln]
        rw [e2]
        refine c8 h' (.slice (some ⟨gb, 0, none⟩) css.length cap) _ (fun q hq hqa hqs o ho => hag q hq (fun e => hqs (by rw [e]; exact List.mem_append_left _ hmem)) (fun h5 => hqs (List.mem_append_right _ (hbs q (hb5 q h5)))) o ho) ?_ fl
        rw [set_self c2]
        exact hag a.block c3 (fun e => gne e.symm) (fun h5 => c4 (List.mem_append_right _ (hbs _ (hb5 _ h5)))) _ c1
end Go.Proofs.Ythljoadplekgnaa

namespace Go.Proofs.Ythljoadplekgnaa
open Go Go.Vc Go.Md Go.M Go.Lx
set_option maxRecDepth 100000
set_option maxHeartbeats 4000000
theorem Jf9 {P : Program} {e : Xs} {d : Option Nat} {ty : TypeId} {pos : String} {af : Array Edge} {g : Option (Nat × Bool)} {X I : Operand} {t u sz : Nat} {h : Jt} {v : Value} {a : Addr} {α : Type} {f : α → List Value} {xs : List α} {x : α} {k : IntKind} {i : Int} (hu : P.underlying t = some (.slice u)) (hs : ∀ w, (sizeOf u).run P w = .ok sz w)
    (hx : ev e X = v) (hi : ev e I = .int k i) (hf : FrS h sz v (xs.map f)) (hg : Q9 xs i = some x) (ha : sa v = some a) (w : World) :
    (execOp (ev e) ⟨d, .indexAddr t X I, ty, pos, af, g⟩).run P w = .ok (.value (.pointer (some ⟨a.block, a.off + i.toNat * sz, none⟩))) w := by
  rw [Q2 hu hs hx hi hf hg w, ha]; rfl
theorem sa_some {h : Jt} {sz : Nat} {v : Value} {xs : List (List Value)} (f : FrS h sz v xs) (hp : 0 < xs.length) : ∃ a, sa v = some a := by
  obtain ⟨a, c, rfl, _, _, r⟩ := f.out
  rcases r with r | ⟨b, off, cs, T, m, rfl, _⟩
  · rw [r] at hp; simp at hp
  · exact ⟨_, rfl⟩
abbrev DirR (h : Jt) (dv : Value) (ls : List (List Ta)) (r : Option (List Nat)) (x : Value) : Prop := (r = none → x = .pointer none) ∧ ∀ ks, r = some ks → ∃ a u l, x = .pointer (some a) ∧ Pth h dv ls ks a u l
theorem k26_of {pb T : Nat} {big : Bool} {dv v1 : Value} {ls : List (List Ta)} {path : List Int} {r : Option (List Nat)} {w : World} {h hA hB : Jt} (hw : Know h w Z2) (hwA : Know hA w Z2) (hwB : Know hB w Z2) (hb0 : hA pb = some (.cells [.bool big, dv].toArray T (0, 0))) (f0 : FrN h 1 dv gs_tag_Entry ls) (f1 : FrS hB 1 v1 (path.map Qa)) (H : Jbb ls path = some r) :
    Does Try.prog 26 (List.toArray [pz pb, v1]) w (fun v w' => (∃ x : Value, v = .tuple #[x, .bool r.isSome] ∧ DirR h dv ls r x) ∧ Grow w w') := by
 unfold Jbb at H
 refine enter (n := 74) Try.func26 rfl rfl rfl Z2 [] (Sat.nil _ _) ?_
 refine Jc ?_
 refine Ja ?_
 refine Ju rfl rfl rfl (Jy (v := .pointer none) rfl) ?_
 refine Ju rfl rfl rfl (Jy (v := .bool false) rfl) ?_
 refine Jd ?_
 refine Jc ?_
 refine Jc ?_
 by_cases hlen : (path.length : Int) < 2
 ·have H1 := Jbm (decide_eq_true hlen) H
  have hr : r = none := (Option.some.inj H1).symm
  exact Qc (Kd.p :: Kd.p :: Kd.p :: Kd.p :: Kd.p :: Kd.p :: Kd.d [] undef :: Kd.p :: Kd.p :: Kd.p :: Kd.d [] undef :: Kd.p :: Kd.p :: Kd.d [] undef :: Kd.p :: []) 0 mixed (by
   refine Qr rfl rfl (Qi (v := v1) rfl) ?_
   refine Qr rfl rfl (Va Try.underlying22 rfl f1 rfl) ?_
   refine Qr rfl rfl (Ym rfl rfl) ?_
   refine Qr rfl rfl (Qi (v := .bool (decide ((path.length : Int) < 2))) rfl) ?_
   refine Jee (fun hb => ?_) (fun hb => ?_)
   ·refine Jcg rfl rfl ?_
    refine Jcg rfl rfl ?_
    refine Jcg rfl rfl ?_
    refine Jcg rfl rfl ?_
    refine Jcg rfl rfl ?_
    refine Jcg rfl rfl ?_
    refine Jcg rfl rfl ?_
    refine Jcg rfl rfl ?_
    refine Jcg rfl rfl ?_
    refine Jcg rfl rfl ?_
    refine Qr rfl rfl (Jbz (v := .bool true) rfl rfl) ?_
    refine X2 ?_
    refine Ve rfl ?_
    refine Jc ?_
    refine Ja ?_
    refine Ju rfl rfl rfl (Jy (v := .pointer none) rfl) ?_
    refine Ju rfl rfl rfl (Jy (v := .bool false) rfl) ?_
    refine Jd ?_
    refine Jr ?_
    exact Jah (v1 := .pointer none) (v2 := .bool false) rfl rfl rfl (finC (.pointer none) (by rw [hr]; rfl) ⟨fun _ => rfl, fun ks hk => by rw [hr] at hk; cases hk⟩)
   ·exact absurd hlen (of_decide_eq_false hb)
  ) (by kernel_rfl)
 ·have H2 := Jbr (decide_eq_false hlen) H
  obtain ⟨p0, h_p0, H3⟩ := Je H2
  obtain ⟨m0, h_m0, H4⟩ := Je H3
  obtain ⟨ob, h_ob, H5⟩ := Je H4
  exact Qc (Kd.p :: Kd.p :: Kd.p :: Kd.p :: Kd.p :: Kd.p :: Kd.d [] (.int .i64 p0) :: Kd.p :: Kd.p :: Kd.p :: Kd.d [] dv :: Kd.p :: Kd.p :: Kd.d [] (.bool ob) :: Kd.p :: []) 0 mixed (by
   refine Qr rfl rfl (Qi (v := v1) rfl) ?_
   refine Qr rfl rfl (Va Try.underlying22 rfl f1 rfl) ?_
   refine Qr rfl rfl (Ym rfl rfl) ?_
   refine Qr rfl rfl (Qi (v := .bool (decide ((path.length : Int) < 2))) rfl) ?_
   refine Jee (fun hb => ?_) (fun hb => ?_)
   ·exact absurd (of_decide_eq_true hb) hlen
   ·refine Qr rfl rfl (Qi (v := v1) rfl) ?_
    refine Qr rfl rfl (Q2 Try.underlying22 Try.sizeOf3 rfl rfl f1 h_p0) ?_
    refine Ze (fun w hF => Qt (f := Qa) (i := 0) (sz := 1) (j := 0) (v := .int .i64 p0) Try.isAgg3 rfl rfl (f1.row (hwB.now hF)) h_p0 rfl) rfl rfl ?_
    refine Qr rfl rfl (Qi (v := pz pb) rfl) ?_
    refine Qr rfl rfl (Ji rfl) ?_
    refine Qr rfl rfl (Qd Try.runUnderlying33 rfl Try.sizeOf31 rfl rfl) ?_
    refine Ze (fun w hF => Zx (v := dv) Try.isAgg31 rfl (hwA.now hF _ _ hb0) rfl) rfl rfl ?_
    refine Qr rfl rfl (Yw Try.underlying31 rfl f0) ?_
    refine Qr rfl rfl (Un rfl rfl h_m0) ?_
    refine Jdx (k50 h_ob) Try.call50 rfl rfl ?_
    refine Qr rfl rfl (Jbj (v := .bool ob) rfl rfl) ?_
    refine X2 ?_
    refine Jcx (b := ob) rfl (fun hb => ?_) (fun hb => ?_)
    ·have H6 := Jbm hb H5
     have hr : r = none := (Option.some.inj H6).symm
     refine Jc ?_
     refine Ja ?_
     refine Ju rfl rfl rfl (Jy (v := .pointer none) rfl) ?_
     refine Ju rfl rfl rfl (Jy (v := .bool false) rfl) ?_
     refine Jd ?_
     refine Jr ?_
     exact Jah (v1 := .pointer none) (v2 := .bool false) rfl rfl rfl (finC (.pointer none) (by rw [hr]; rfl) ⟨fun _ => rfl, fun ks hk => by rw [hr] at hk; cases hk⟩)
    ·have H6 := Jbr hb H5
     obtain ⟨l0, h_l0, H7⟩ := Je H6
     obtain ⟨q, h_q, H8⟩ := Je H7
     obtain ⟨ts, h_ts, H9⟩ := Je H8
     obtain ⟨hp0, hp1, hpe⟩ := Y3 h_l0
     obtain ⟨a0, ha0⟩ := sa_some f0.frs (by rw [List.length_map, List.length_range]; omega)
     have hbase : Pth h dv ls [p0.toNat] ⟨a0.block, a0.off + p0.toNat * 1, none⟩ (Xj h dv 1 p0.toNat 0) l0 := by
      have := Pth.base (h := h) (dv := dv) (ls := ls) (i := p0.toNat) (a := a0) (by omega) ha0
      rw [List.getElem?_eq_getElem (by omega)] at hpe
      rwa [Option.some.inj hpe] at this
     refine Jp ?_
     refine Jc ?_
     exact Qc (Kd.p :: Kd.p :: Kd.p :: Kd.d [] dv :: Kd.p :: Kd.p :: Kd.d [] (.int .i64 p0) :: Kd.p :: Kd.p :: []) 0 mixed (by
      refine Qr rfl rfl (Qi (v := pz pb) rfl) ?_
      refine Qr rfl rfl (Ji rfl) ?_
      refine Qr rfl rfl (Qd Try.runUnderlying33 rfl Try.sizeOf31 rfl rfl) ?_
      refine Ze (fun w hF => Zx (v := dv) Try.isAgg31 rfl (hwA.now hF _ _ hb0) rfl) rfl rfl ?_
      refine Qr rfl rfl (Qi (v := v1) rfl) ?_
      refine Qr rfl rfl (Q2 Try.underlying22 Try.sizeOf3 rfl rfl f1 h_p0) ?_
      refine Ze (fun w hF => Qt (f := Qa) (i := 0) (sz := 1) (j := 0) (v := .int .i64 p0) Try.isAgg3 rfl rfl (f1.row (hwB.now hF)) h_p0 rfl) rfl rfl ?_
      refine Qr rfl rfl (Jf9 Try.underlying31 Try.sizeOf24 rfl rfl f0.frs (f0.ix h_l0) ha0) ?_
      refine Qr rfl rfl (Jy (v := .pointer (some ⟨a0.block, a0.off + p0.toNat * 1, none⟩)) rfl) ?_
      refine X2 ?_
      refine Jc ?_
      refine Jc ?_
      refine Ja ?_
      refine Ju rfl rfl rfl (Qi (v := v1) rfl) ?_
      refine Ju rfl rfl rfl (Qi (v := v1) rfl) ?_
      refine Ju rfl rfl rfl (Va Try.underlying22 rfl f1 rfl) ?_
      refine Ju rfl rfl rfl (Un rfl rfl h_q) ?_
      refine Ju rfl rfl rfl (r_sliceLHF Try.underlying22 Try.sizeOf3 rfl rfl rfl f1 h_ts) ?_
      refine Ju rfl rfl rfl (Va Try.underlying22 rfl (f1.cut h_ts) rfl) ?_
      refine Ju rfl rfl rfl (Qi (v := .int .i64 0) rfl) ?_
      refine Jd ?_
      refine J0 ?_
      have f2 := f1.cut h_ts
      refine Zz (σ := Nat) (τ := Addr × Value × List Ta × List Nat) (cntB ts.length) (fun s t => [(6, .pointer (some t.1)), (38, cutV 1 v1 1 q), (39, .int .i64 (ts.length : Int)), (40, .int .i64 (s : Int))]) (fun s t => [])
       (fun s t => s ≤ ts.length ∧ Pth h dv ls t.2.2.2 t.1 t.2.1 t.2.2.1 ∧ Jz (Zu t.2.2.1 (ts.drop s)) (fun z => some (z.map (t.2.2.2 ++ ·))) = some r) 0 (⟨a0.block, a0.off + p0.toNat * 1, none⟩, Xj h dv 1 p0.toNat 0, l0, [p0.toNat]) [] (cnt_fix _) ⟨Nat.zero_le _, hbase, H9⟩ (by exact ⟨rfl, rfl, rfl, rfl, trivial⟩) (by decide) rfl ?_
      rintro i ⟨a, u, l, ks⟩ m gg Hc ⟨hin, hP, HG⟩
      try dsimp only at hin hP HG ⊢
      have fl := hP.frn f0
      refine Jc ?_
      refine Ja ?_
      refine Ju rfl rfl rfl (Ym rfl rfl) ?_
      refine Jd ?_
      refine Jc ?_
      refine Jcx (b := (decide ((i : Int) < (ts.length : Int)))) rfl (fun hb => ?_) (fun hb => ?_)
      ·have hi : i < ts.length := by have := of_decide_eq_true hb; omega
       have hat : Q9 ts (i : Int) = some ts[i] := Qn hi
       rw [List.drop_eq_getElem_cons hi] at HG
       unfold Zu at HG
       obtain ⟨z, HG1, HG2⟩ := Je HG
       obtain ⟨⟨n, ok⟩, h_pl, HG3⟩ := Je HG1
       refine Jp ?_
       refine Jc ?_
       refine J0 ?_
       refine Jc ?_
       refine Ja ?_
       refine Ju rfl rfl rfl (Q2 Try.underlying22 Try.sizeOf3 rfl rfl f2 hat) ?_
       refine Xn (fun w hF hS => Qt (f := Qa) (i := (i : Int)) (sz := 1) (j := 0) (v := .int .i64 ts[i]) Try.isAgg3 rfl rfl (f2.row (hwB.now hF)) hat rfl) rfl rfl rfl ?_
       refine Ju rfl rfl rfl (Jy (v := .int .i64 ts[i]) rfl) ?_
       refine Jd ?_
       refine Jc ?_
       refine Ja ?_
       refine Ju rfl rfl rfl (Qi (v := .pointer (some a)) rfl) ?_
       refine Ju rfl rfl rfl (Ji rfl) ?_
       refine Xn (fun w hF hS => hP.load f0 rfl (hw.now hF)) rfl rfl rfl ?_
       refine Ju rfl rfl rfl (Qi (v := .int .i64 ts[i]) rfl) ?_
       refine Qg (fun w hF hS => k28 (Jm w) (fl.mono (hw.now hF)) h_pl) Try.call28 rfl rfl rfl ?_
       refine Ju rfl rfl rfl (Qi (v := .tuple #[.int .i64 n, .bool ok]) rfl) ?_
       refine Ju rfl rfl rfl (J7 (v := .int .i64 n) rfl rfl) ?_
       refine Ju rfl rfl rfl (J7 (v := .bool ok) rfl rfl) ?_
       refine Ju rfl rfl rfl (Jy (v := .int .i64 n) rfl) ?_
       refine Ju rfl rfl rfl (Jy (v := .bool ok) rfl) ?_
       refine Jd ?_
       refine Jc ?_
       refine Jc ?_
       refine Ja ?_
       refine Ju rfl rfl rfl (Qi (v := .bool ok) rfl) ?_
       refine Ju rfl rfl rfl (Ja6 rfl) ?_
       refine Ju rfl rfl rfl (Qi (v := .bool (!ok)) rfl) ?_
       cases ok with
       | false =>
        have hz : z = none := (Option.some.inj HG3).symm
        have hr : r = none := by rw [hz] at HG2; exact (Option.some.inj HG2).symm
        refine U9 rfl rfl rfl ?_
        refine U9 rfl rfl rfl ?_
        refine U9 rfl rfl rfl ?_
        refine U9 rfl rfl rfl ?_
        refine U9 rfl rfl rfl ?_
        refine U9 rfl rfl rfl ?_
        refine U9 rfl rfl rfl ?_
        refine U9 rfl rfl rfl ?_
        refine U9 rfl rfl rfl ?_
        refine Ju rfl rfl rfl (Jbz (v := .bool true) rfl rfl) ?_
        refine Jd ?_
        refine Ve rfl ?_
        refine Jc ?_
        refine Ja ?_
        refine Ju rfl rfl rfl (Jy (v := .pointer none) rfl) ?_
        refine Ju rfl rfl rfl (Jy (v := .bool false) rfl) ?_
        refine Jd ?_
        refine Jr ?_
        exact Jah (v1 := .pointer none) (v2 := .bool false) rfl rfl rfl (finC (.pointer none) (by rw [hr]; rfl) ⟨fun _ => rfl, fun ks hk => by rw [hr] at hk; cases hk⟩)
       | true =>
        have HG4 : Jz (Q9 l n) (fun e => Qv (decide (e.Value.kah ≠ 13)) (some none) (Jz (Zu e.Value.kaf (ts.drop (i + 1))) fun r => some (r.map (n.toNat :: ·)))) = some z := HG3
        obtain ⟨x, h_x, HG5⟩ := Je HG4
        obtain ⟨hn0, hn1, hne⟩ := Y3 h_x
        obtain ⟨b, hb2⟩ := sa_some fl.frs (by rw [List.length_map, List.length_range]; omega)
        refine Ju rfl rfl rfl (Qi (v := .pointer (some a)) rfl) ?_
        refine Ju rfl rfl rfl (Ji rfl) ?_
        refine Xn (fun w hF hS => hP.load f0 rfl (hw.now hF)) rfl rfl rfl ?_
        refine Ju rfl rfl rfl (Qi (v := .int .i64 n) rfl) ?_
        refine Ju rfl rfl rfl (Jf9 Try.underlying24 Try.sizeOf72 rfl rfl fl.frs (fl.ix h_x) hb2) ?_
        refine Ju rfl rfl rfl (Qd Try.runUnderlying72 rfl Try.sizeOf26 rfl rfl) ?_
        refine Ju rfl rfl rfl (Qd Try.runUnderlying26 rfl Try.sizeOf3 rfl rfl) ?_
        refine Xn (fun w hF hS => Qt (f := elC h u 6) (i := n) (sz := 6) (j := 1) (k := n.toNat * 6 + 1) (a := some b) (v := .int .i64 x.Value.kah) Try.isAgg3 (by simp [U0, Nat.add_assoc, upd, ev]) rfl (by rw [← hb2]; exact fl.frs.row (hw.now hF)) (fl.ix h_x) (Jat (Qy (fl.at h_x)) rfl)) rfl rfl rfl ?_
        refine Ju rfl rfl rfl (Yn rfl rfl) ?_
        refine Ju rfl rfl rfl (Jbj (v := .bool (decide (x.Value.kah ≠ 13))) rfl rfl) ?_
        refine Jd ?_
        refine Jcx (b := decide (x.Value.kah ≠ 13)) rfl (fun hk => ?_) (fun hk => ?_)
        ·have HG6 := Jbm hk HG5
         have hz : z = none := (Option.some.inj HG6).symm
         have hr : r = none := by rw [hz] at HG2; exact (Option.some.inj HG2).symm
         refine Jc ?_
         refine Ja ?_
         refine Ju rfl rfl rfl (Jy (v := .pointer none) rfl) ?_
         refine Ju rfl rfl rfl (Jy (v := .bool false) rfl) ?_
         refine Jd ?_
         refine Jr ?_
         exact Jah (v1 := .pointer none) (v2 := .bool false) rfl rfl rfl (finC (.pointer none) (by rw [hr]; rfl) ⟨fun _ => rfl, fun ks hk => by rw [hr] at hk; cases hk⟩)
        ·have HG6 := Jbr hk HG5
         obtain ⟨z2, h_z2, HG7⟩ := Je HG6
         have hz : z = z2.map (n.toNat :: ·) := (Option.some.inj HG7).symm
         have hnx : l[n.toNat]'(by omega) = x := by rw [List.getElem?_eq_getElem (by omega)] at hne; exact Option.some.inj hne
         have hP2 := hP.step (n := n.toNat) (by omega) hb2
         rw [hnx] at hP2
         refine Jp ?_
         refine Ja ?_
         refine Ju rfl rfl rfl (Qi (v := .pointer (some a)) rfl) ?_
         refine Ju rfl rfl rfl (Ji rfl) ?_
         refine Xn (fun w hF hS => hP.load f0 rfl (hw.now hF)) rfl rfl rfl ?_
         refine Ju rfl rfl rfl (Qi (v := .int .i64 n) rfl) ?_
         refine Ju rfl rfl rfl (Jf9 Try.underlying24 Try.sizeOf72 rfl rfl fl.frs (fl.ix h_x) hb2) ?_
         refine Ju rfl rfl rfl (Qd Try.runUnderlying72 rfl Try.sizeOf26 rfl rfl) ?_
         refine Ju rfl rfl rfl (Qd Try.runUnderlying26 rfl Try.sizeOf24 rfl rfl) ?_
         refine Ju rfl rfl rfl (Jy (v := .pointer (some ⟨b.block, b.off + n.toNat * 6 + 1 + 4, none⟩)) rfl) ?_
         refine Jd ?_
         refine Ja ?_
         refine Ju rfl rfl rfl (J4 rfl rfl (J2 (by have := f2.len; simp only [List.length_map] at this; omega))) ?_
         refine Ju rfl rfl rfl (Qi (v := .int .i64 ((i : Int) + 1)) rfl) ?_
         refine Jd ?_
         refine Jhp (i + 1) (⟨b.block, b.off + (n.toNat * 6 + 1 + 4), none⟩, Xj h u 6 n.toNat 5, x.Value.kaf, ks ++ [n.toNat]) m [] (by exact ⟨rfl, rfl, rfl, rfl, trivial⟩) (by decide) rfl (by
           refine ⟨Jh7 Hc hi, hi, hP2, ?_⟩
           show Jz (Zu x.Value.kaf (ts.drop (i + 1))) _ = _
           rw [h_z2, Jb, ← HG2, hz]
           congr 1
           cases z2 <;> simp) (Nat.lt_succ_self _)
      ·have hi : i = ts.length := by have := of_decide_eq_false hb; omega
       rw [List.drop_eq_nil_of_le (by omega)] at HG
       have hr : r = some ks := by
        have : some (some (ks ++ ([] : List Nat))) = some r := HG
        rw [List.append_nil] at this; exact (Option.some.inj this).symm
       refine Xy ?_
       refine Jc ?_
       refine Ja ?_
       refine Ju rfl rfl rfl (Qi (v := .pointer (some a)) rfl) ?_
       refine Ju rfl rfl rfl (Jy (v := .pointer (some a)) rfl) ?_
       refine Ju rfl rfl rfl (Jy (v := .bool true) rfl) ?_
       refine Jd ?_
       refine Jr ?_
       exact Jah (v1 := .pointer (some a)) (v2 := .bool true) rfl rfl rfl (finC (.pointer (some a)) (by rw [hr]; rfl) ⟨fun h => (by rw [hr] at h; cases h), fun ks' hk => (by rw [hr] at hk; cases hk; exact ⟨a, u, l, rfl, hP⟩)⟩)
     ) (by kernel_rfl)
  ) (by kernel_rfl)
end Go.Proofs.Ythljoadplekgnaa

namespace Go.Proofs.Ythljoadplekgnaa
open Go Go.Vc Go.Md Go.M Go.Lx
set_option maxRecDepth 100000
set_option maxHeartbeats 4000000
theorem Jhm {Φ : Jt → Prop} (h : Φ Xo) : Imp empC (Jbl Xo Φ) := ⟨fun S w k => ⟨Xo, h, Xb, fun b o hb => by cases hb⟩⟩
abbrev valP (v3 v4 v5 : Value) (x : Td) (hp : Jt) : Prop := FrS hp 1 v3 (x.kaj.map Qa) ∧ FrS hp 2 v4 (x.kag.map Jl) ∧ FrN hp 6 v5 g_tag_Entry x.kaf
theorem imp_ownP {Φ : Jt → List Nat → Prop} {Ψ : Jt → Prop} (k : ∀ h bs, Φ h bs → Ψ h) : Imp (ownC Φ) (Jbl Xo Ψ) := ⟨fun _ _ ⟨hp, ⟨bs, h1, h2⟩, h3⟩ => ⟨hp, k _ _ h1, h3⟩⟩
theorem imp_valP {d : Nat} {v3 v4 v5 : Value} {x : Td} :
    Imp (Jv (roV 1 v3 x.kaj.length (x.kaj.map Qa)) (Jv (roV 2 v4 x.kag.length (x.kag.map Jl)) (Jcp d v5 x.kaf))) (Jbl Xo (valP v3 v4 v5 x)) :=
  Jb3 (imp_kid (x := ⟨0, x⟩)) (imp_ownP fun h bs t => by
    obtain ⟨w3, w4, w5, b5, e, e3, e4, e5, _⟩ := t
    simp only [List.cons.injEq, and_true, true_and] at e
    obtain ⟨rfl, rfl, rfl⟩ := e
    exact ⟨e3, e4, e5.frn⟩)
theorem valP_nil : valP (z0s) (z0s) (z0s) noV Xo := ⟨FrS.nil _ _, FrS.nil _ _, ⟨FrS.nil _ _, fun i x hx => by cases hx⟩⟩
theorem k11 {a0 : Tg} {v0_1 : Value} {a1 : List Int} {v1 : Value} {r : Td × Int} {w : World} {h : Jt} (hw : Know h w Z2) (f0_1 : FrN h 1 v0_1 gs_tag_Entry a0.kal) (f1 : FrS h 1 v1 (a1.map Qa)) (H : Jeq a0 a1 = some r) :
    Does Try.prog 11 (List.toArray [.agg #[.bool a0.Big, v0_1], v1]) w (fun v w' => ∃ x : (Option Addr × Nat) × (Option Addr × Nat) × (Option Addr × Nat), v = (.tuple #[.agg #[.int .i64 r.1.kah, str r.1.kai, .slice x.1.1 r.1.kaj.length x.1.2, .slice x.2.1.1 r.1.kag.length x.2.1.2, .slice x.2.2.1 r.1.kaf.length x.2.2.2], .int .i64 r.2]) ∧
      Turn w w' Z2 (Jbl Xo (valP (.slice x.1.1 r.1.kaj.length x.1.2) (.slice x.2.1.1 r.1.kag.length x.2.1.2) (.slice x.2.2.1 r.1.kaf.length x.2.2.2) r.1))) := by
 unfold Jeq at H
 refine enter (n := 48) Try.func11 rfl rfl rfl Z2 [] (Sat.nil _ _) ?_
 refine Jc ?_
 refine Ja ?_
 refine We (cs := [.bool a0.Big, v0_1]) rfl rfl rfl rfl (fun b0 => ?_)
 refine Xw (cs := [.int .i64 0, str [], z0s, z0s, z0s]) Try.zeroValue26 rfl rfl rfl (fun b1 => ?_)
 refine Ju rfl rfl rfl (Jy (v := .int .i64 0) rfl) ?_
 refine Jd ?_
 refine Jc ?_
 refine Jc ?_
 refine Ja ?_
 refine Q1 (i := 0) (vs := [.bool a0.Big, v0_1]) Try.isAgg33 Try.sizeOf33 rfl rfl rfl rfl rfl ?_
 obtain ⟨t11, h_t11, H1⟩ := Je H
 refine Qg (fun w hF hS => k24 (Jm w) (f0_1.mono (hw.now hF)) h_t11) Try.call24 rfl rfl rfl ?_
 refine Ju rfl rfl rfl (Jy (v := .int .i64 t11) rfl) ?_
 refine Jd ?_
 refine Jc ?_
 refine Ja ?_
 refine Ju rfl rfl rfl (Qi (v := .int .i64 t11) rfl) ?_
 refine Ju rfl rfl rfl (Yn rfl rfl) ?_
 refine Jd ?_
 have err : ∀ {t : Int} {e : Xs} {fn : Func}, fn.results = #[.cell 4 26, .tmp 5] → r = (noV, t) → e 4 = pz b1 → e 5 = .int .i64 t → At ⟨w, Z2⟩ (Jei Try.prog fn (fun v w' => ∃ x : (Option Addr × Nat) × (Option Addr × Nat) × (Option Addr × Nat), v = (.tuple #[.agg #[.int .i64 r.1.kah, str r.1.kai, .slice x.1.1 r.1.kaj.length x.1.2, .slice x.2.1.1 r.1.kag.length x.2.1.2, .slice x.2.2.1 r.1.kaf.length x.2.2.2], .int .i64 r.2]) ∧
      Turn w w' Z2 (Jbl Xo (valP (.slice x.1.1 r.1.kaj.length x.1.2) (.slice x.2.1.1 r.1.kag.length x.2.1.2) (.slice x.2.2.1 r.1.kaf.length x.2.2.2) r.1))) .ret) e [Jf b0 [.bool a0.Big, v0_1] 33, Jf b1 [.int .i64 0, str [], z0s, z0s, z0s] 26] := fun hfn hr h4 h5 => by
   subst hr
   refine c_emp ?_
   refine Xl 2 rfl (Jhm valP_nil) ?_
   exact retCt (i := 1) (vs := [.int .i64 0, str [], z0s, z0s, z0s]) (v2 := .int .i64 _) Try.isAgg26 Try.sizeOf26 hfn h4 rfl rfl h5 (Y9 (((none, 0) : Option Addr × Nat), ((none, 0) : Option Addr × Nat), ((none, 0) : Option Addr × Nat)) (i := 2) rfl rfl (Imp.refl _))
 refine Jcx (b := (decide (t11 ≠ 0))) rfl (fun hb => ?_) (fun hb => ?_)
 ·have H2 := Jbm hb H1
  refine Jc ?_
  refine Ja ?_
  refine Ju rfl rfl rfl (Xm (pl := #[(0, 1), (1, 1), (2, 1), (3, 1), (4, 1)]) (ps := []) (cells := #[.int .i64 0, str [], z0s, z0s, z0s]) Try.zeroValue26 Try.runUnderlying26 (fun w => by kernel_rfl) rfl rfl) ?_
  refine Ju rfl rfl rfl (Qi (v := .int .i64 t11) rfl) ?_
  refine Yq (i := 1) (vs := [.int .i64 0, str [], z0s, z0s, z0s]) (cs' := [.int .i64 0, str [], z0s, z0s, z0s]) Try.sizeOf26 rfl rfl rfl rfl rfl rfl rfl rfl rfl ?_
  refine Ju rfl rfl rfl (Jy (v := .int .i64 t11) rfl) ?_
  refine Jd ?_
  refine Jr ?_
  refine err ?_ (Option.some.inj H2).symm ?_ ?_ <;> rfl
 ·have H3 := Jbr hb H1
  obtain ⟨z, h_z, H4⟩ := Je H3
  refine Jp ?_
  refine Jc ?_
  refine Ja ?_
  refine Ju rfl rfl rfl (Qi (v := v1) rfl) ?_
  refine l_callC (σ := Value) (G := fun x => .tuple #[x, .bool z.isSome]) (Φ := DirR h v0_1 a0.kal z) (fun w hF hS => k26_of (hw.at hF) (Jm w) (hw.at hF) (Qp (i := 0) hS rfl) f0_1 f1 h_z) Try.call26 rfl rfl rfl (fun pv hpv => ?_)
  refine Ju rfl rfl rfl (Qi (v := .tuple #[pv, .bool z.isSome]) rfl) ?_
  refine Ju rfl rfl rfl (J7 (v := pv) rfl rfl) ?_
  refine Ju rfl rfl rfl (J7 (v := .bool z.isSome) rfl rfl) ?_
  refine Ju rfl rfl rfl (Jy (v := pv) rfl) ?_
  refine Ju rfl rfl rfl (Jy (v := .bool z.isSome) rfl) ?_
  refine Jd ?_
  refine Jc ?_
  refine Jc ?_
  refine Ja ?_
  refine Ju rfl rfl rfl (Qi (v := .bool z.isSome) rfl) ?_
  refine Ju rfl rfl rfl (Ja6 rfl) ?_
  refine Jd ?_
  cases z with
  | none =>
   refine Ve rfl ?_
   refine Jc ?_
   refine Ja ?_
   refine Ju rfl rfl rfl (Xm (pl := #[(0, 1), (1, 1), (2, 1), (3, 1), (4, 1)]) (ps := []) (cells := #[.int .i64 0, str [], z0s, z0s, z0s]) Try.zeroValue26 Try.runUnderlying26 (fun w => by kernel_rfl) rfl rfl) ?_
   refine Yq (i := 1) (vs := [.int .i64 0, str [], z0s, z0s, z0s]) (cs' := [.int .i64 0, str [], z0s, z0s, z0s]) Try.sizeOf26 rfl rfl rfl rfl rfl rfl rfl rfl rfl ?_
   refine Ju rfl rfl rfl (Jy (v := .int .i64 7) rfl) ?_
   refine Jd ?_
   refine Jr ?_
   refine err ?_ (Option.some.inj H4).symm ?_ ?_ <;> rfl
  | some ks =>
   obtain ⟨a, u, l, rfl, hP⟩ := hpv.2 ks rfl
   have hl : getF ks a0.kal = l := hP.getF
   have fl := hP.frn f0_1
   obtain ⟨q, h_q, H5⟩ := Je H4
   obtain ⟨t, h_t, H6⟩ := Je H5
   rw [hl] at H6
   obtain ⟨⟨n, ok⟩, h_pl, H7⟩ := Je H6
   refine Wr rfl ?_
   refine Jp ?_
   refine Jc ?_
   exact Qc (Kd.p :: Kd.p :: Kd.d [] u :: Kd.p :: Kd.p :: Kd.p :: Kd.p :: Kd.p :: Kd.d [] (.int .i64 t) :: Kd.d [] (.tuple #[.int .i64 n, .bool ok]) :: Kd.p :: Kd.p :: Kd.p :: Kd.p :: Kd.p :: []) 0 mixed (by
    refine Qr rfl rfl (Qi (v := .pointer (some a)) rfl) ?_
    refine Qr rfl rfl (Ji rfl) ?_
    refine Ze (fun w hF => hP.load f0_1 rfl (hw.now hF)) rfl rfl ?_
    refine Qr rfl rfl (Qi (v := v1) rfl) ?_
    refine Qr rfl rfl (Qi (v := v1) rfl) ?_
    refine Qr rfl rfl (Va Try.underlying22 rfl f1 rfl) ?_
    refine Qr rfl rfl (Un rfl rfl h_q) ?_
    refine Qr rfl rfl (Q2 Try.underlying22 Try.sizeOf3 rfl rfl f1 h_t) ?_
    refine Ze (fun w hF => Qt (f := Qa) (i := q) (sz := 1) (j := 0) (v := .int .i64 t) Try.isAgg3 rfl rfl (f1.row (hw.now hF)) h_t rfl) rfl rfl ?_
    refine Jam (fun w L' hF hS hi => k28 (Jm w) (fl.mono (hw.now hF)) h_pl) Try.call28 rfl rfl ?_
    refine Qr rfl rfl (Qi (v := .tuple #[.int .i64 n, .bool ok]) rfl) ?_
    refine Qr rfl rfl (J7 (v := .int .i64 n) rfl rfl) ?_
    refine Qr rfl rfl (J7 (v := .bool ok) rfl rfl) ?_
    refine Qr rfl rfl (Jy (v := .int .i64 n) rfl) ?_
    refine Qr rfl rfl (Jy (v := .bool ok) rfl) ?_
    refine X2 ?_
    refine Jc ?_
    refine Jc ?_
    refine Ja ?_
    refine Ju rfl rfl rfl (Qi (v := .bool ok) rfl) ?_
    refine Ju rfl rfl rfl (Ja6 rfl) ?_
    refine Jd ?_
    cases ok with
    | false =>
     refine Ve rfl ?_
     refine Jc ?_
     refine Ja ?_
     refine Ju rfl rfl rfl (Xm (pl := #[(0, 1), (1, 1), (2, 1), (3, 1), (4, 1)]) (ps := []) (cells := #[.int .i64 0, str [], z0s, z0s, z0s]) Try.zeroValue26 Try.runUnderlying26 (fun w => by kernel_rfl) rfl rfl) ?_
     refine Yq (i := 1) (vs := [.int .i64 0, str [], z0s, z0s, z0s]) (cs' := [.int .i64 0, str [], z0s, z0s, z0s]) Try.sizeOf26 rfl rfl rfl rfl rfl rfl rfl rfl rfl ?_
     refine Ju rfl rfl rfl (Jy (v := .int .i64 7) rfl) ?_
     refine Jd ?_
     refine Jr ?_
     refine err ?_ (Option.some.inj H7).symm ?_ ?_ <;> rfl
    | true =>
     have H8 : Jz (Q9 l n) (fun e => open Classical in if fitV 8 e.Value then some (e.Value, 0) else none) = some r := H7
     obtain ⟨x, h_x, H9⟩ := Je H8
     have hfit : fitV 8 x.Value := Classical.byContradiction fun hh => by rw [if_neg hh] at H9; cases H9
     rw [if_pos hfit] at H9
     obtain rfl := Option.some.inj H9
     obtain ⟨hn0, hn1, hne⟩ := Y3 h_x
     obtain ⟨b, hb2⟩ := sa_some fl.frs (by rw [List.length_map, List.length_range]; omega)
     obtain ⟨q0, q1⟩ := g_tag_Entry_iff.1 (fl.at h_x)
     refine Wr rfl ?_
     refine Jp ?_
     refine Jc ?_
     refine Ja ?_
     refine Ju rfl rfl rfl (Qi (v := .pointer (some a)) rfl) ?_
     refine Ju rfl rfl rfl (Ji rfl) ?_
     refine Xn (fun w hF hS => hP.load f0_1 rfl (hw.now hF)) rfl rfl rfl ?_
     refine Ju rfl rfl rfl (Qi (v := .int .i64 n) rfl) ?_
     refine Ju rfl rfl rfl (Jf9 Try.underlying24 Try.sizeOf72 rfl rfl fl.frs (fl.ix h_x) hb2) ?_
     refine Ju rfl rfl rfl (Qd Try.runUnderlying72 rfl Try.sizeOf26 rfl rfl) ?_
     refine Xn (fun w hF hS => Y2 (f := elC h u 6) (i := n) (sz := 6) (j := 1) (k := n.toNat * 6 + 1) (a := some b) (vs := [.int .i64 x.Value.kah, str x.Value.kai, Xj h u 6 n.toNat 3, Xj h u 6 n.toNat 4, Xj h u 6 n.toNat 5]) Try.isAgg26 Try.sizeOf26 rfl rfl (by rw [← hb2]; exact fl.frs.row (hw.now hF)) (fl.ix h_x) (Jfb (Qy (fl.at h_x)) rfl)) rfl rfl rfl ?_
     refine Za (Qs (rds := []) (G := fun y : (Option Addr × Nat) × (Option Addr × Nat) × (Option Addr × Nat) => (.agg #[.int .i64 x.Value.kah, str x.Value.kai, .slice y.1.1 x.Value.kaj.length y.1.2, .slice y.2.1.1 x.Value.kag.length y.2.1.2, .slice y.2.2.1 x.Value.kaf.length y.2.2.2])) (C := fun y : (Option Addr × Nat) × (Option Addr × Nat) × (Option Addr × Nat) => (Jv (roV 1 (.slice y.1.1 x.Value.kaj.length y.1.2) x.Value.kaj.length (x.Value.kaj.map Qa)) (Jv (roV 2 (.slice y.2.1.1 x.Value.kag.length y.2.1.2) x.Value.kag.length (x.Value.kag.map Jl)) (Jcp 8 (.slice y.2.2.1 x.Value.kaf.length y.2.2.2) x.Value.kaf)))) (fun w L' hF hS hi' => k27_of (k49_all 8) (Jm w) ((show FrS h 1 (Xj h u 6 n.toNat 3) (x.Value.kaj.map Qa) from Q4 q1).mono (hw.now hF)) ((show FrS h 2 (Xj h u 6 n.toNat 4) (x.Value.kag.map Jl) from Q5 q1).mono (hw.now hF)) ((show FrN h 6 (Xj h u 6 n.toNat 5) g_tag_Entry x.Value.kaf from Qk q1).mono (hw.now hF)) hfit) Try.call27 rfl) rfl rfl rfl (fun ⟨p3, p4, p5⟩ => ?_)
     refine Yq (i := 1) (vs := [.int .i64 x.Value.kah, str x.Value.kai, .slice p3.1 x.Value.kaj.length p3.2, .slice p4.1 x.Value.kag.length p4.2, .slice p5.1 x.Value.kaf.length p5.2]) (cs' := [.int .i64 x.Value.kah, str x.Value.kai, .slice p3.1 x.Value.kaj.length p3.2, .slice p4.1 x.Value.kag.length p4.2, .slice p5.1 x.Value.kaf.length p5.2]) Try.sizeOf26 rfl rfl rfl rfl rfl rfl rfl rfl rfl ?_
     refine Ju rfl rfl rfl (Jy (v := .int .i64 0) rfl) ?_
     refine Jd ?_
     refine Jr ?_
     refine Xl 2 rfl imp_valP ?_
     exact retCt (i := 1) (vs := [.int .i64 x.Value.kah, str x.Value.kai, .slice p3.1 x.Value.kaj.length p3.2, .slice p4.1 x.Value.kag.length p4.2, .slice p5.1 x.Value.kaf.length p5.2]) (v2 := .int .i64 0) Try.isAgg26 Try.sizeOf26 rfl rfl rfl rfl rfl (Y9 (p3, p4, p5) (i := 2) rfl rfl (Imp.refl _))
   ) (by kernel_rfl)
end Go.Proofs.Ythljoadplekgnaa

namespace Go.Proofs.Ythljoadplekgnaa
open Go Go.Vc Go.Md Go.M Go.Lx Try
set_option maxRecDepth 100000
set_option maxHeartbeats 4000000
theorem k5 {a0 : (List UInt8)} {a1 : (List Int)} {v1 : Value} {a2 : Td} {v2_2 : Value} {v2_3 : Value} {v2_4 : Value} {r : (List UInt8) × Int} {w : World} {h : Jt} (hw : Know h w Z2) (f1 : FrS h 1 v1 (a1.map Qa)) (f2_2 : FrS h 1 v2_2 (a2.kaj.map Qa)) (f2_3 : FrS h 2 v2_3 (a2.kag.map Jl)) (f2_4 : FrN h 6 v2_4 g_tag_Entry a2.kaf) (H : Jez a0 a1 a2 = some r) : Does prog 5 (List.toArray [str a0, v1, .agg #[i6 a2.kah, str a2.kai, v2_2, v2_3, v2_4]]) w (fun v w' => v = (.tuple #[str r.1, i6 r.2]) ∧ Grow w w') := by
 refine enter (n := 158) func5 rfl rfl rfl Z2 [] (Sat.nil _ _)<|X7 Xo<|Jc<|Ja<|?_
 refine We (cs := [v1]) rfl rfl rfl f1.cells (fun b7 => ?_)
 refine We (cs := [i6 a2.kah, str a2.kai, v2_2, v2_3, v2_4]) rfl rfl rfl rfl (fun b8 => ?_)
 refine ag (str [])<|ag (i6 0)<|Jd<|Jc<|?_
 try dsimp only [z1,z2,z5,z6,z7,z8]
 refine Ja ?_
 refine Xw (cs := [i6 0]) zeroValue3 rfl rfl rfl (fun b9 => ?_)
 refine st (i := 3) [i6 (-1)] [i6 (-1)] Try.sizeOf3 rfl rfl<|Jd<|Jc<|?_
 try dsimp only [z1,z2,z5,z6,z7,z8]
 refine Ja<|mv (str a0)<|lv (r_makeFn (caps := #[pz b7, pz b9]) rfl)<|?_
 obtain ⟨t22, h_t22, H48⟩ := Je H; clear H
 refine Qf (Jw (i := 3) (rds := [1]) rfl (fun w L' S hF hS hi hp hlt ho hA => k13c hp hlt (Qb w S) (f1.mono (hw.but hF ho)) (cell_but (j := 1) hA hS (by decide) ((hi 1 (by simp)).trans rfl)) h_t22) call13 rfl) rfl rfl rfl (fun ⟨p, p_2⟩ => ?_)
 refine Qj 3 rfl<|Qj 4 rfl<|mv (.tuple #[.agg #[.bool t22.1.Big, sl p t22.1.kal.length], sl p_2 t22.2.1.length, i6 t22.2.2.1])<|lv (J7 (v := .agg #[.bool t22.1.Big, sl p t22.1.kal.length]) rfl rfl)<|lv (J7 (v := sl p_2 t22.2.1.length) rfl rfl)<|lv (J7 (v := i6 t22.2.2.1) rfl rfl)<|?_
 refine Xw (cs := [.bool false, z0s]) zeroValue33 rfl rfl rfl (fun b10 => ?_)
 refine st (i := 6) [.bool t22.1.Big, sl p t22.1.kal.length] [.bool t22.1.Big, sl p t22.1.kal.length] Try.sizeOf33 rfl rfl<|ag (sl p_2 t22.2.1.length)<|ag (i6 t22.2.2.1)<|Jd<|Jc<|Jc<|?_
 try dsimp only [z1,z2,z5,z6,z7,z8]
 refine Ja<|mv (i6 t22.2.2.1)<|lv (Yn rfl rfl)<|Jd<|?_
 revert H48
 refine ci (decide (t22.2.2.1 ≠ 0)) rfl (fun hb H49=>?_) fun hb H50=>?_
 ·refine Jc<|Ja<|mv (i6 t22.2.2.1)<|ag (str [])<|ag (i6 t22.2.2.1)<|Jd<|Jr<|?_
  obtain rfl := sj H49
  refine Jah (v1 := str []) (v2 := i6 t22.2.2.1) rfl rfl rfl (fin rfl)
 ·refine Jp<|Jc<|Jc<|Ja<|Q1 (i := 2) (vs := [i6 a2.kah, str a2.kai, v2_2, v2_3, v2_4]) Try.isAgg26 Try.sizeOf26 rfl rfl rfl rfl rfl<|?_
  obtain ⟨t30, h_t30, H51⟩ := Je H50; clear H50
  refine Qg (fun w hF hS => k15 (Jm w) (f2_2.mono (hw.now hF)) (f2_3.mono (hw.now hF)) (f2_4.mono (hw.now hF)) h_t30) call15 rfl rfl rfl<|ag (i6 t30)<|Jd<|Jc<|Ja<|mv (i6 t30)<|lv (Yn rfl rfl)<|Jd<|?_
  revert H51
  refine ci (decide (t30 ≠ 0)) rfl (fun hb H52=>?_) fun hb H53=>?_
  ·refine Jc<|Ja<|mv (i6 t30)<|ag (str [])<|ag (i6 t30)<|Jd<|Jr<|?_
   obtain rfl := sj H52
   refine Jah (v1 := str []) (v2 := i6 t30) rfl rfl rfl (fin rfl)
  ·refine Jp<|Jc<|Jc<|Ja<|ll 3 (i6 t22.2.2.2) Try.isAgg3<|lv (Ym rfl rfl)<|Jd<|?_
   revert H53
   refine ci (decide (t22.2.2.2 < 0)) rfl (fun hb H54=>?_) fun hb H55=>?_
   ·refine Jc<|Ja<|ag (str [])<|ag (i6 7)<|Jd<|Jr<|?_
    obtain rfl := sj H54
    refine Jah (v1 := str []) (v2 := i6 7) rfl rfl rfl (fin rfl)
   ·refine Jp<|Jc<|Ja<|Q1 (i := 6) (vs := [.bool t22.1.Big, sl p t22.1.kal.length]) Try.isAgg33 Try.sizeOf33 rfl rfl rfl rfl rfl<|ll 1 v1 isAgg22<|?_
    obtain ⟨t39, h_t39, H56⟩ := Je H55; clear H55
    refine Za (Qs (rds := [4]) (fun w L' hF hS hi => k11 (Jm w) (Jhz (i := 4) hS ((hi 4 (by simp)).trans rfl)) (f1.mono (hw.now hF)) h_t39) call11 rfl) rfl rfl rfl (fun ⟨p_3, p_4, p_5⟩ => ?_)
    refine Jd8 7 rfl (fun hp pf => ?_)
    refine Yi 0 7 rfl rfl (by decide) (fun _ _ => Xb) (fun hp_2 hle hle_2 => ?_)
    refine mv (.tuple #[.agg #[i6 t39.1.kah, str t39.1.kai, (sl p_3 t39.1.kaj.length), (sl p_4 t39.1.kag.length), (sl p_5 t39.1.kaf.length)], i6 t39.2])<|lv (J7 (v := .agg #[i6 t39.1.kah, str t39.1.kai, (sl p_3 t39.1.kaj.length), (sl p_4 t39.1.kag.length), (sl p_5 t39.1.kaf.length)]) rfl rfl)<|lv (J7 (v := i6 t39.2) rfl rfl)<|?_
    refine Xw (cs := [i6 0, str [], z0s, z0s, z0s]) zeroValue26 rfl rfl rfl (fun b11 => ?_)
    refine Yq (i := 8) (vs := [i6 t39.1.kah, str t39.1.kai, (sl p_3 t39.1.kaj.length), (sl p_4 t39.1.kag.length), (sl p_5 t39.1.kaf.length)]) (cs' := [i6 t39.1.kah, str t39.1.kai, (sl p_3 t39.1.kaj.length), (sl p_4 t39.1.kag.length), (sl p_5 t39.1.kaf.length)]) Try.sizeOf26 rfl rfl rfl rfl rfl rfl (by simp only [List.all_cons, List.all_nil, (pf.1.mono hle_2).one, (pf.2.1.mono hle_2).one, (pf.2.2.mono hle_2).one] <;> rfl) rfl rfl<|ag (i6 t39.2)<|Jd<|Jc<|Jc<|?_
    try dsimp only [z1,z2,z5,z6,z7,z8]
    refine Ja<|lf Try.runUnderlying26 rfl Try.sizeOf3 rfl<|ll 8 (i6 t39.1.kah) Try.isAgg3<|lv (Xe rfl rfl)<|mv (.bool (decide (t39.1.kah = 13)))<|?_
    revert H56
    refine sp (fun hb H57=>?_) fun hb H58=>?_
    ·refine pa<|pa<|pa<|pT (.bool true)<|Jd<|Ve rfl<|Jc<|Ja<|ag (str [])<|ag (i6 10)<|Jd<|Jr<|?_
     obtain rfl := sj H57
     refine Jah (v1 := str []) (v2 := i6 10) rfl rfl rfl (fin rfl)
    ·refine lf Try.runUnderlying26 rfl Try.sizeOf3 rfl<|ll 2 (i6 a2.kah) Try.isAgg3<|lv (Xe rfl rfl)<|pF (.bool (decide (a2.kah = 13)))<|Jd<|?_
     revert H58
     refine ci (decide (a2.kah = 13)) rfl (fun hb H59=>?_) fun hb H60=>?_
     ·refine Jc<|Ja<|ag (str [])<|ag (i6 10)<|Jd<|Jr<|?_
      obtain rfl := sj H59
      refine Jah (v1 := str []) (v2 := i6 10) rfl rfl rfl (fin rfl)
     ·refine Jp<|Jc<|Ja<|lf Try.runUnderlying33 rfl Try.sizeOf4 rfl<|ll 6 (.bool t22.1.Big) isAgg4<|mv (str a0)<|?_
      obtain ⟨t53, h_t53, H61⟩ := Je H60; clear H60
      refine Za (rds := []) (Jfr (f := Yd) (s := a0) Try.underlying9 Try.underlying55 Try.underlying5 rfl (fun _ => rfl) h_t53) rfl rfl rfl (fun p_6 => ?_)
      refine lv (Xm (pl := #[(0, 1), (1, 1)]) (ps := [(0, .bool t22.1.Big), (1, sl p_6 t53.length)]) (cells := #[.bool t22.1.Big, sl p_6 t53.length]) zeroValue57 Try.runUnderlying57 (fun w => by kernel_rfl) rfl rfl) ?_
      refine We (cs := [.bool t22.1.Big, sl p_6 t53.length]) rfl rfl rfl rfl (fun b12 => ?_)
      refine ag (pz b12)<|Jd<|Jc<|?_
      try dsimp only [z1,z2,z5,z6,z7,z8]
      refine Ja<|lf Try.runUnderlying33 rfl Try.sizeOf4 rfl<|ll 6 (.bool t22.1.Big) isAgg4<|Q1 (i := 2) (vs := [i6 a2.kah, str a2.kai, v2_2, v2_3, v2_4]) Try.isAgg26 Try.sizeOf26 rfl rfl rfl rfl rfl<|?_
      obtain ⟨t59, h_t59, H62⟩ := Je H61; clear H61
      refine Za (Qs (rds := []) (fun w L' hF hS hi => k16 (Jm w) (f2_2.mono (hw.now hF)) (f2_3.mono (hw.now hF)) (f2_4.mono (hw.now hF)) h_t59) call16 rfl) rfl rfl rfl (fun p_7 => ?_)
      refine ag (sl p_7 t59.length)<|Jd<|Jc<|?_
      exact Qc (Kd.p :: Kd.p :: Kd.p :: Kd.d [10] _ :: Kd.d [3] _ :: Kd.p :: Kd.d [9] _ :: Kd.p :: Kd.d [6] _ :: Kd.p :: Kd.d [2] _ :: Kd.t 12 [0] _ _ :: Kd.t 9 [12] _ _ :: []) 1 mixed (by
       refine dm (pz b12)<|dv (Ji rfl)<|dv (Qd Try.runUnderlying57 rfl Try.sizeOf55 rfl rfl)<|dl (sl p_6 t53.length) Try.isAgg55<|dl (i6 t22.2.2.2) Try.isAgg3<|?_
       have h_t65 := Jx H62
       have H63 := Jq H62
       refine dv (J4 rfl rfl h_t65) ?_
       have h_t66 := Jx H63
       have H64 := Jq H63
       refine Wj (v := .slice (Xg p_6.1 (Int.toNat (val (gI (t22.2.2.2 + 2)))) p_6.2 1) (val (Xr t53 (val (gI (t22.2.2.2 + 2))) t53.length)).length (p_6.2 - Int.toNat (val (gI (t22.2.2.2 + 2))))) (fun w L' hF hS hi => Y8 (xs := t53) Try.underlying55 Try.sizeOf5 rfl rfl rfl (capOfW (i := 9) hS ((hi 9 (by simp)).trans rfl)) h_t66) rfl rfl<|dv (Qd Try.runUnderlying33 rfl Try.sizeOf4 rfl rfl)<|dl (.bool t22.1.Big) isAgg4<|dv (Qd Try.runUnderlying26 rfl Try.sizeOf3 rfl rfl)<|dl (i6 a2.kah) Try.isAgg3<|?_
       have h_t71 := Jx H64
       have H65 := Jq H64
       refine Ja8 (Cv := fun v => J3 5 1 v (val (Jh t22.1.Big a2.kah 2)).length ((val (Jh t22.1.Big a2.kah 2)).map Yd)) (none, 0) (Qs (fun w L' hF hS hi => k17 (Jm w)  h_t71) call17 rfl) (fun _ => rfl) rfl rfl rfl (fun p_8 => ?_)
       refine U8 (Cv := fun _ => wrV 5 1 (sl p_6 t53.length) t53.length ((Zf t53 (val (gI (t22.2.2.2 + 2))) (val (Xr t53 (val (gI (t22.2.2.2 + 2))) t53.length)).length (val (Jh t22.1.Big a2.kah 2))).map Yd)) () (Jbn (i := 9) (rds := _) (p := p_6) (f := Yd) (xs := t53) (ts := (val (Xr t53 (val (gI (t22.2.2.2 + 2))) t53.length))) (ys := (val (Jh t22.1.Big a2.kah 2))) rfl Try.underlying55 (by rw [Qu Try.typeInfo5]; rfl) rfl rfl h_t66 rfl rfl (fun w L' hF hS hi => Up (i := 12) hS ((hi 12 (by simp)).trans rfl)) (fun _ => rfl) (fun _ => rfl)) (fun _ => rfl) rfl rfl (fun _ => ?_)
       refine X2<|Jc<|?_
       try dsimp only [z1,z2,z5,z6,z7,z8]
       exact Qc (Kd.p :: Kd.d [3] _ :: Kd.p :: Kd.d [2] _ :: Kd.d [0] _ :: Kd.t2 10 9 [0] _ _ :: []) 0 mixed (by
        refine dm (pz b12)<|dl (i6 t22.2.2.2) Try.isAgg3<|?_
        have h_t75 := Jx H65
        have H66 := Jq H65
        refine dv (J4 rfl rfl h_t75)<|Jbh (i := 2) (vs := [i6 a2.kah, str a2.kai, v2_2, v2_3, v2_4]) Try.isAgg26 Try.sizeOf26 rfl rfl rfl rfl<|?_
        have h_t77 := Jx H66
        have H67 := Jq H66
        refine Jam (fun w L' hF hS hi => k19 (Jm w) (f2_2.mono (hw.now hF)) (f2_3.mono (hw.now hF)) (f2_4.mono (hw.now hF)) h_t77) call19 rfl rfl ?_
        have h_t78 := Jx H67
        have H68 := Jq H67
        refine Jg0 (i := 10) (j := 9) (Jw (i := 10) (rds := _) rfl (fun w L' S hF hS hi hp hlt ho hA => k18 (a0 := (⟨t22.1.Big, (Zf t53 (val (gI (t22.2.2.2 + 2))) (val (Xr t53 (val (gI (t22.2.2.2 + 2))) t53.length)).length (val (Jh t22.1.Big a2.kah 2)))⟩ : Te)) hp hlt (Qb w S) (Jg8 rfl h_t66) h_t78) call18 rfl) rfl rfl (by decide) (by decide) rfl rfl<|X2<|?_
        refine c_ex 10 rfl (fun p_9 => ?_)
        refine ub 10 9 rfl rfl ?_
        refine Qx (r := r) (σ := Bool × (List Int)) (τ := AN × Nat) (fun s => W1 s.1 s.2) (fun s t => [(15, pz b12)]) (fun s t => [Q3 Xo hp_2, Jf b12 [.bool s.1, .slice t.1.1 t.2 t.1.2] 57, wrV 5 1 (.slice t.1.1 t.2 t.1.2) t.2 (s.2.map Yd)]) (fun s t => t.2 = s.2.length) ?_ ?_
        ·refine J0<|Jc<|Ja<|mv (sl p_7 t59.length)<|lv (Ur Try.underlying55 rfl)<|lv (Je3 rfl rfl)<|ag (.bool (decide ((t59.length : Int) ≤ 4)))<|Jd<|?_
         revert H68
         refine ci (decide ((t59.length : Int) ≤ 4)) rfl (fun hb H75=>?_) fun hb H80=>?_
         ·refine Jc<|Ja<|mv (pz b12)<|ll 3 (i6 t22.2.2.2) Try.isAgg3<|?_
          obtain ⟨t100, h_t100, H76⟩ := Je H75; clear H75
          refine lv (J4 rfl rfl h_t100) ?_
          obtain ⟨t101, h_t101, H77⟩ := Je H76; clear H76
          refine bo 10 9 rfl rfl ?_
          refine Qf (Jw (i := 10) (rds := []) rfl (fun w L' S hF hS hi hp hlt ho hA => k18 hp hlt (Qb w S) rfl h_t101) call18 rfl) rfl rfl rfl (fun p_12 => ?_)
          refine ub 10 9 rfl rfl<|Jd<|?_
          try dsimp only [z1,z2,z5,z6,z7,z8]
          exact Qc (Kd.p :: Kd.p :: Kd.p :: Kd.d [10] _ :: Kd.d [3] _ :: Kd.p :: Kd.d [9] _ :: Kd.p :: Kd.t 9 [11] _ _ :: []) 0 mixed (by
           refine dm (pz b12)<|dv (Ji rfl)<|dv (Qd Try.runUnderlying57 rfl Try.sizeOf55 rfl rfl)<|dl (sl p_12 t101.kak.length) Try.isAgg55<|dl (i6 t22.2.2.2) Try.isAgg3<|?_
           have h_t107 := Jx H77
           have H78 := Jq H77
           refine dv (J4 rfl rfl h_t107) ?_
           have h_t108 := Jx H78
           have H79 := Jq H78
           refine Wj (v := .slice (Xg p_12.1 (Int.toNat (val (gI (t22.2.2.2 + 8)))) p_12.2 1) (val (Xr t101.kak (val (gI (t22.2.2.2 + 8))) t101.kak.length)).length (p_12.2 - Int.toNat (val (gI (t22.2.2.2 + 8))))) (fun w L' hF hS hi => Y8 (xs := t101.kak) Try.underlying55 Try.sizeOf5 rfl rfl rfl (capOfW (i := 9) hS ((hi 9 (by simp)).trans rfl)) h_t108) rfl rfl<|dm (sl p_7 t59.length)<|?_
           refine U8 (Cv := fun _ => wrV 5 1 (sl p_12 t101.kak.length) t101.kak.length ((Zf t101.kak (val (gI (t22.2.2.2 + 8))) (val (Xr t101.kak (val (gI (t22.2.2.2 + 8))) t101.kak.length)).length t59).map Yd)) () (Jbn (i := 9) (rds := _) (p := p_12) (f := Yd) (xs := t101.kak) (ts := (val (Xr t101.kak (val (gI (t22.2.2.2 + 8))) t101.kak.length))) (ys := t59) rfl Try.underlying55 (by rw [Qu Try.typeInfo5]; rfl) rfl rfl h_t108 rfl rfl (fun w L' hF hS hi => Jek (i := 11) hS ((hi 11 (by simp)).trans rfl)) (fun _ => rfl) (fun _ => rfl)) (fun _ => rfl) rfl rfl (fun _ => ?_)
           refine X2 ?_
           exact cl (t101.kab, (Zf t101.kak (val (gI (t22.2.2.2 + 8))) (val (Xr t101.kak (val (gI (t22.2.2.2 + 8))) t101.kak.length)).length t59)) (p_12, t101.kak.length) 0 [0, 10, 9] (by exact ⟨H79, (Jg8 rfl h_t108)⟩)
           ) (by kernel_rfl)
         ·refine Qx (r := r) (σ := Bool) (τ := Unit) (fun s => U4 a0 t22 t59 (val (Js (⟨t22.1.Big, (Zf t53 (val (gI (t22.2.2.2 + 2))) (val (Xr t53 (val (gI (t22.2.2.2 + 2))) t53.length)).length (val (Jh t22.1.Big a2.kah 2)))⟩ : Te) (val (gI (t22.2.2.2 + 4))) (val (Qe a2)))) s) (fun s t => [(0, str a0), (8, pz b9), (9, pz b10), (15, pz b12), (16, sl p_7 t59.length), (111, .bool s)]) (fun s t => [Q3 Xo hp_2, Jf b9 [i6 t22.2.2.2] 3, Vw 24 1 gs_tag_Entry (sl p t22.1.kal.length) t22.1.kal.length t22.1.kal, Jf b10 [.bool t22.1.Big, sl p t22.1.kal.length] 33, wrV 5 1 (.slice p_9.1 (val (Js (⟨t22.1.Big, (Zf t53 (val (gI (t22.2.2.2 + 2))) (val (Xr t53 (val (gI (t22.2.2.2 + 2))) t53.length)).length (val (Jh t22.1.Big a2.kah 2)))⟩ : Te) (val (gI (t22.2.2.2 + 4))) (val (Qe a2)))).kak.length p_9.2) (val (Js (⟨t22.1.Big, (Zf t53 (val (gI (t22.2.2.2 + 2))) (val (Xr t53 (val (gI (t22.2.2.2 + 2))) t53.length)).length (val (Jh t22.1.Big a2.kah 2)))⟩ : Te) (val (gI (t22.2.2.2 + 4))) (val (Qe a2)))).kak.length ((val (Js (⟨t22.1.Big, (Zf t53 (val (gI (t22.2.2.2 + 2))) (val (Xr t53 (val (gI (t22.2.2.2 + 2))) t53.length)).length (val (Jh t22.1.Big a2.kah 2)))⟩ : Te) (val (gI (t22.2.2.2 + 4))) (val (Qe a2)))).kak.map Yd), Jf b12 [.bool (val (Js (⟨t22.1.Big, (Zf t53 (val (gI (t22.2.2.2 + 2))) (val (Xr t53 (val (gI (t22.2.2.2 + 2))) t53.length)).length (val (Jh t22.1.Big a2.kah 2)))⟩ : Te) (val (gI (t22.2.2.2 + 4))) (val (Qe a2)))).kab, .slice p_9.1 (val (Js (⟨t22.1.Big, (Zf t53 (val (gI (t22.2.2.2 + 2))) (val (Xr t53 (val (gI (t22.2.2.2 + 2))) t53.length)).length (val (Jh t22.1.Big a2.kah 2)))⟩ : Te) (val (gI (t22.2.2.2 + 4))) (val (Qe a2)))).kak.length p_9.2] 57, wrV 5 1 (sl p_7 t59.length) t59.length (t59.map Yd)]) (fun s t => True) ?_ ?_
          ·try dsimp only [z1,z2,z5,z6,z7,z8]
           refine Ja<|Q1 (i := 8) (vs := [i6 t39.1.kah, str t39.1.kai, (sl p_3 t39.1.kaj.length), (sl p_4 t39.1.kag.length), (sl p_5 t39.1.kaf.length)]) Try.isAgg26 Try.sizeOf26 rfl rfl rfl rfl rfl<|?_
           obtain ⟨t113, h_t113, H91⟩ := Je H80; clear H80
           refine Qg (fun w hF hS => k20 (Jm w) ((pf.1.mono hle_2).mono (Y0 (i := 0) hS rfl Xb)) ((pf.2.1.mono hle_2).mono (Y0 (i := 0) hS rfl Xb)) ((pf.2.2.mono hle_2).mono (Y0 (i := 0) hS rfl Xb)) h_t113) call20 rfl rfl rfl<|lv (V6 rfl rfl)<|mv (.bool (decide (4 < t113)))<|?_
           revert H91
           refine sp (fun hb H92=>?_) fun hb H94=>?_
           ·refine Q1 (i := 8) (vs := [i6 t39.1.kah, str t39.1.kai, (sl p_3 t39.1.kaj.length), (sl p_4 t39.1.kag.length), (sl p_5 t39.1.kaf.length)]) Try.isAgg26 Try.sizeOf26 rfl rfl rfl rfl rfl ?_
            obtain ⟨t117, h_t117, H93⟩ := Je H92; clear H92
            refine Qg (fun w hF hS => k20 (Jm w) ((pf.1.mono hle_2).mono (Y0 (i := 0) hS rfl Xb)) ((pf.2.1.mono hle_2).mono (Y0 (i := 0) hS rfl Xb)) ((pf.2.2.mono hle_2).mono (Y0 (i := 0) hS rfl Xb)) h_t117) call20 rfl rfl rfl<|mv (sl p_7 t59.length)<|lv (Ur Try.underlying55 rfl)<|lv (r_geq rfl rfl)<|pT (.bool (decide ((t59.length : Int) ≤ t117)))<|ag (.bool (decide ((t59.length : Int) ≤ t117)))<|Jd<|?_
            exact cl (decide ((t59.length : Int) ≤ t117)) () 0 [0, 3, 4, 6, 9, 10, 11] (by exact ⟨H93, trivial⟩)
           ·refine pa<|pa<|pa<|pa<|pa<|pF (.bool false)<|ag (.bool false)<|Jd<|?_
            exact cl false () 0 [0, 3, 4, 6, 9, 10, 11] (by exact ⟨H94, trivial⟩)
          ·rintro x111 _ gg H81 _
           try dsimp only at H81
           try dsimp only
           revert H81
           refine ci x111 rfl (fun hb H82=>?_) fun hb H86=>?_
           ·exact Qc (Kd.p :: Kd.p :: Kd.p :: Kd.d [5] _ :: Kd.p :: Kd.d [3] _ :: Kd.p :: Kd.d [1] _ :: Kd.p :: Kd.d [] _ :: Kd.d [4] _ :: Kd.p :: Kd.t 4 [6] _ _ :: []) 0 mixed (by
             refine dm (pz b12)<|dv (Ji rfl)<|dv (Qd Try.runUnderlying57 rfl Try.sizeOf55 rfl rfl)<|dl (.slice p_9.1 (val (Js (⟨t22.1.Big, (Zf t53 (val (gI (t22.2.2.2 + 2))) (val (Xr t53 (val (gI (t22.2.2.2 + 2))) t53.length)).length (val (Jh t22.1.Big a2.kah 2)))⟩ : Te) (val (gI (t22.2.2.2 + 4))) (val (Qe a2)))).kak.length p_9.2) Try.isAgg55<|dv (Qd Try.runUnderlying33 rfl Try.sizeOf4 rfl rfl)<|dl (.bool t22.1.Big) isAgg4<|dm (str a0)<|dl (i6 t22.2.2.2) Try.isAgg3<|?_
             have h_t130 := Jx H82
             have H83 := Jq H82
             refine dv (J4 rfl rfl h_t130) ?_
             have h_t131 := Jx H83
             have H84 := Jq H83
             refine Jdx (k21 h_t131) call21 rfl rfl ?_
             have h_t132 := Jx H84
             have H85 := Jq H84
             refine Wj (v := .slice (Xg p_9.1 (Int.toNat (val (Xx t22.1.Big a0 (val (gI (t22.2.2.2 + 8))) 4))) p_9.2 1) (val (Xr (val (Js (⟨t22.1.Big, (Zf t53 (val (gI (t22.2.2.2 + 2))) (val (Xr t53 (val (gI (t22.2.2.2 + 2))) t53.length)).length (val (Jh t22.1.Big a2.kah 2)))⟩ : Te) (val (gI (t22.2.2.2 + 4))) (val (Qe a2)))).kak (val (Xx t22.1.Big a0 (val (gI (t22.2.2.2 + 8))) 4)) (val (Js (⟨t22.1.Big, (Zf t53 (val (gI (t22.2.2.2 + 2))) (val (Xr t53 (val (gI (t22.2.2.2 + 2))) t53.length)).length (val (Jh t22.1.Big a2.kah 2)))⟩ : Te) (val (gI (t22.2.2.2 + 4))) (val (Qe a2)))).kak.length)).length (p_9.2 - Int.toNat (val (Xx t22.1.Big a0 (val (gI (t22.2.2.2 + 8))) 4)))) (fun w L' hF hS hi => Y8 (xs := (val (Js (⟨t22.1.Big, (Zf t53 (val (gI (t22.2.2.2 + 2))) (val (Xr t53 (val (gI (t22.2.2.2 + 2))) t53.length)).length (val (Jh t22.1.Big a2.kah 2)))⟩ : Te) (val (gI (t22.2.2.2 + 4))) (val (Qe a2)))).kak) Try.underlying55 Try.sizeOf5 rfl rfl rfl (capOfW (i := 4) hS ((hi 4 (by simp)).trans rfl)) h_t132) rfl rfl<|dm (sl p_7 t59.length)<|?_
             refine U8 (Cv := fun _ => wrV 5 1 (.slice p_9.1 (val (Js (⟨t22.1.Big, (Zf t53 (val (gI (t22.2.2.2 + 2))) (val (Xr t53 (val (gI (t22.2.2.2 + 2))) t53.length)).length (val (Jh t22.1.Big a2.kah 2)))⟩ : Te) (val (gI (t22.2.2.2 + 4))) (val (Qe a2)))).kak.length p_9.2) (val (Js (⟨t22.1.Big, (Zf t53 (val (gI (t22.2.2.2 + 2))) (val (Xr t53 (val (gI (t22.2.2.2 + 2))) t53.length)).length (val (Jh t22.1.Big a2.kah 2)))⟩ : Te) (val (gI (t22.2.2.2 + 4))) (val (Qe a2)))).kak.length ((Zf (val (Js (⟨t22.1.Big, (Zf t53 (val (gI (t22.2.2.2 + 2))) (val (Xr t53 (val (gI (t22.2.2.2 + 2))) t53.length)).length (val (Jh t22.1.Big a2.kah 2)))⟩ : Te) (val (gI (t22.2.2.2 + 4))) (val (Qe a2)))).kak (val (Xx t22.1.Big a0 (val (gI (t22.2.2.2 + 8))) 4)) (val (Xr (val (Js (⟨t22.1.Big, (Zf t53 (val (gI (t22.2.2.2 + 2))) (val (Xr t53 (val (gI (t22.2.2.2 + 2))) t53.length)).length (val (Jh t22.1.Big a2.kah 2)))⟩ : Te) (val (gI (t22.2.2.2 + 4))) (val (Qe a2)))).kak (val (Xx t22.1.Big a0 (val (gI (t22.2.2.2 + 8))) 4)) (val (Js (⟨t22.1.Big, (Zf t53 (val (gI (t22.2.2.2 + 2))) (val (Xr t53 (val (gI (t22.2.2.2 + 2))) t53.length)).length (val (Jh t22.1.Big a2.kah 2)))⟩ : Te) (val (gI (t22.2.2.2 + 4))) (val (Qe a2)))).kak.length)).length t59).map Yd)) () (Jbn (i := 4) (rds := _) (p := p_9) (f := Yd) (xs := (val (Js (⟨t22.1.Big, (Zf t53 (val (gI (t22.2.2.2 + 2))) (val (Xr t53 (val (gI (t22.2.2.2 + 2))) t53.length)).length (val (Jh t22.1.Big a2.kah 2)))⟩ : Te) (val (gI (t22.2.2.2 + 4))) (val (Qe a2)))).kak) (ts := (val (Xr (val (Js (⟨t22.1.Big, (Zf t53 (val (gI (t22.2.2.2 + 2))) (val (Xr t53 (val (gI (t22.2.2.2 + 2))) t53.length)).length (val (Jh t22.1.Big a2.kah 2)))⟩ : Te) (val (gI (t22.2.2.2 + 4))) (val (Qe a2)))).kak (val (Xx t22.1.Big a0 (val (gI (t22.2.2.2 + 8))) 4)) (val (Js (⟨t22.1.Big, (Zf t53 (val (gI (t22.2.2.2 + 2))) (val (Xr t53 (val (gI (t22.2.2.2 + 2))) t53.length)).length (val (Jh t22.1.Big a2.kah 2)))⟩ : Te) (val (gI (t22.2.2.2 + 4))) (val (Qe a2)))).kak.length))) (ys := t59) rfl Try.underlying55 (by rw [Qu Try.typeInfo5]; rfl) rfl rfl h_t132 rfl rfl (fun w L' hF hS hi => Jek (i := 6) hS ((hi 6 (by simp)).trans rfl)) (fun _ => rfl) (fun _ => rfl)) (fun _ => rfl) rfl rfl (fun _ => ?_)
             refine X2 ?_
             exact cl ((val (Js (⟨t22.1.Big, (Zf t53 (val (gI (t22.2.2.2 + 2))) (val (Xr t53 (val (gI (t22.2.2.2 + 2))) t53.length)).length (val (Jh t22.1.Big a2.kah 2)))⟩ : Te) (val (gI (t22.2.2.2 + 4))) (val (Qe a2)))).kab, (Zf (val (Js (⟨t22.1.Big, (Zf t53 (val (gI (t22.2.2.2 + 2))) (val (Xr t53 (val (gI (t22.2.2.2 + 2))) t53.length)).length (val (Jh t22.1.Big a2.kah 2)))⟩ : Te) (val (gI (t22.2.2.2 + 4))) (val (Qe a2)))).kak (val (Xx t22.1.Big a0 (val (gI (t22.2.2.2 + 8))) 4)) (val (Xr (val (Js (⟨t22.1.Big, (Zf t53 (val (gI (t22.2.2.2 + 2))) (val (Xr t53 (val (gI (t22.2.2.2 + 2))) t53.length)).length (val (Jh t22.1.Big a2.kah 2)))⟩ : Te) (val (gI (t22.2.2.2 + 4))) (val (Qe a2)))).kak (val (Xx t22.1.Big a0 (val (gI (t22.2.2.2 + 8))) 4)) (val (Js (⟨t22.1.Big, (Zf t53 (val (gI (t22.2.2.2 + 2))) (val (Xr t53 (val (gI (t22.2.2.2 + 2))) t53.length)).length (val (Jh t22.1.Big a2.kah 2)))⟩ : Te) (val (gI (t22.2.2.2 + 4))) (val (Qe a2)))).kak.length)).length t59)) (p_9, (val (Js (⟨t22.1.Big, (Zf t53 (val (gI (t22.2.2.2 + 2))) (val (Xr t53 (val (gI (t22.2.2.2 + 2))) t53.length)).length (val (Jh t22.1.Big a2.kah 2)))⟩ : Te) (val (gI (t22.2.2.2 + 4))) (val (Qe a2)))).kak.length) 0 [0, 5, 4] (by exact ⟨H85, (Jg8 rfl h_t132)⟩)
             ) (by kernel_rfl)
           ·refine Jc ?_
            try dsimp only [z1,z2,z5,z6,z7,z8]
            exact Qc (Kd.p :: Kd.d [1] _ :: Kd.p :: Kd.p :: Kd.t2 5 4 [0] _ _ :: Kd.t 5 [0] _ _ :: []) 0 mixed (by
             refine dm (pz b12)<|dl (i6 t22.2.2.2) Try.isAgg3<|?_
             have h_t81 := Jx H86
             have H87 := Jq H86
             refine dv (J4 rfl rfl h_t81)<|dm (pz b12)<|?_
             have h_t83 := Jx H87
             have H88 := Jq H87
             refine Jg0 (i := 5) (j := 4) (Jw (i := 5) (rds := _) rfl (fun w L' S hF hS hi hp hlt ho hA => k22 hp hlt (Qb w S) rfl h_t83) call22 rfl) rfl rfl (by decide) (by decide) rfl rfl ?_
             have h_t84 := Jx H88
             have H89 := Jq H88
             refine d_turnX (i := 5) (Jw (i := 5) (rds := _) rfl (fun w L' S hF hS hi hp hlt ho hA => by obtain ⟨p_14, hp⟩ := hp; exact k18 hp hlt (Qb w S) rfl h_t84) call18 rfl) rfl rfl rfl<|X2<|?_
             refine c_ex 5 rfl (fun p_15 => ?_)
             refine ub 5 4 rfl rfl ?_
             try dsimp only [z1,z2,z5,z6,z7,z8]
             refine Ja<|mv (pz b12)<|mv (pz b12)<|lv (Ji rfl)<|lf Try.runUnderlying57 rfl Try.sizeOf55 rfl<|ll 5 (.slice p_15.1 (val (Js (val (Q0 (val (Js (⟨t22.1.Big, (Zf t53 (val (gI (t22.2.2.2 + 2))) (val (Xr t53 (val (gI (t22.2.2.2 + 2))) t53.length)).length (val (Jh t22.1.Big a2.kah 2)))⟩ : Te) (val (gI (t22.2.2.2 + 4))) (val (Qe a2)))))).2 (val (gI (t22.2.2.2 + 8))) (val (Q0 (val (Js (⟨t22.1.Big, (Zf t53 (val (gI (t22.2.2.2 + 2))) (val (Xr t53 (val (gI (t22.2.2.2 + 2))) t53.length)).length (val (Jh t22.1.Big a2.kah 2)))⟩ : Te) (val (gI (t22.2.2.2 + 4))) (val (Qe a2)))))).1)).kak.length p_15.2) Try.isAgg55<|mv (sl p_7 t59.length)<|?_
             obtain ⟨l91, h_l91, H90⟩ := Je H89; clear H89
             refine Qf (Wk (i := 4) (hn := rfl) (rds := [6]) (p := p_15) (sz := 1) (by_ := 1) (f := Yd) (ys := (val (Js (val (Q0 (val (Js (⟨t22.1.Big, (Zf t53 (val (gI (t22.2.2.2 + 2))) (val (Xr t53 (val (gI (t22.2.2.2 + 2))) t53.length)).length (val (Jh t22.1.Big a2.kah 2)))⟩ : Te) (val (gI (t22.2.2.2 + 4))) (val (Qe a2)))))).2 (val (gI (t22.2.2.2 + 8))) (val (Q0 (val (Js (⟨t22.1.Big, (Zf t53 (val (gI (t22.2.2.2 + 2))) (val (Xr t53 (val (gI (t22.2.2.2 + 2))) t53.length)).length (val (Jh t22.1.Big a2.kah 2)))⟩ : Te) (val (gI (t22.2.2.2 + 4))) (val (Qe a2)))))).1)).kak) (ls := t59) (V := sl p_7 t59.length) Try.underlying55 (Qu Try.typeInfo5) rfl rfl rfl rfl rfl rfl rfl rfl rfl rfl (fun w L' hF hS hi => Jek (i := 6) hS ((hi 6 (by simp)).trans rfl)) (fun _ => rfl) (fun _ => rfl) h_l91) rfl rfl rfl (fun p_16 => ?_)
             refine lv (Ji rfl)<|lf Try.runUnderlying57 rfl Try.sizeOf55 rfl<|st (i := 5) [sl p_16 l91.length] [.bool (val (Js (val (Q0 (val (Js (⟨t22.1.Big, (Zf t53 (val (gI (t22.2.2.2 + 2))) (val (Xr t53 (val (gI (t22.2.2.2 + 2))) t53.length)).length (val (Jh t22.1.Big a2.kah 2)))⟩ : Te) (val (gI (t22.2.2.2 + 4))) (val (Qe a2)))))).2 (val (gI (t22.2.2.2 + 8))) (val (Q0 (val (Js (⟨t22.1.Big, (Zf t53 (val (gI (t22.2.2.2 + 2))) (val (Xr t53 (val (gI (t22.2.2.2 + 2))) t53.length)).length (val (Jh t22.1.Big a2.kah 2)))⟩ : Te) (val (gI (t22.2.2.2 + 4))) (val (Qe a2)))))).1)).kab, sl p_16 l91.length] Try.sizeOf55 rfl rfl<|Jd<|?_
             exact cl ((val (Js (val (Q0 (val (Js (⟨t22.1.Big, (Zf t53 (val (gI (t22.2.2.2 + 2))) (val (Xr t53 (val (gI (t22.2.2.2 + 2))) t53.length)).length (val (Jh t22.1.Big a2.kah 2)))⟩ : Te) (val (gI (t22.2.2.2 + 4))) (val (Qe a2)))))).2 (val (gI (t22.2.2.2 + 8))) (val (Q0 (val (Js (⟨t22.1.Big, (Zf t53 (val (gI (t22.2.2.2 + 2))) (val (Xr t53 (val (gI (t22.2.2.2 + 2))) t53.length)).length (val (Jh t22.1.Big a2.kah 2)))⟩ : Te) (val (gI (t22.2.2.2 + 4))) (val (Qe a2)))))).1)).kab, l91) (p_16, l91.length) 0 [0, 5, 4] (by exact ⟨H90, rfl⟩)
             ) (by kernel_rfl)
        ·rintro ⟨m, l⟩ ⟨p_10, n⟩ gg H69 hl
         try dsimp only at H69
         try dsimp only
         refine Jc<|Jc<|?_
         try dsimp only [z1,z2,z5,z6,z7,z8]
         refine Ja<|mv (pz b12)<|lv (Ji rfl)<|lf Try.runUnderlying57 rfl Try.sizeOf55 rfl<|ll 1 (sl p_10 n) Try.isAgg55<|lv (r_lenN Try.underlying55 rfl hl)<|lv (V6 rfl rfl)<|Jd<|?_
         revert H69
         refine ci (decide (65000 < (l.length : Int))) rfl (fun hb H70=>?_) fun hb H71=>?_
         ·refine Jc<|Ja<|ag (str [])<|ag (i6 4)<|Jd<|Jr<|?_
          obtain rfl := sj H70
          refine Jah (v1 := str []) (v2 := i6 4) rfl rfl rfl (fin rfl)
         ·refine Jp<|Jc<|Jc<|Ja<|mv (pz b12)<|lv (Ji rfl)<|lf Try.runUnderlying57 rfl Try.sizeOf55 rfl<|ll 1 (sl p_10 n) Try.isAgg55<|Xn (fun w hF hS => Jhg (f := Yd) (xs := l) hl Try.underlying55 Try.underlying5 Try.underlying9 rfl (fun _ => rfl) (Jek (i := 2) hS rfl)) rfl rfl rfl<|?_
          obtain ⟨t147, h_t147, H72⟩ := Je H71; clear H71
          refine Za (Qs (rds := []) (fun w L' hF hS hi => k6 (Jm w)  h_t147) call6 rfl) rfl rfl rfl (fun p_11 => ?_)
          refine Jbt 3 rfl (fun hp_3 css hn pf_2 => ?_)
          rw [hn]
          refine Qj 3 rfl ?_
          refine Yi 0 3 rfl rfl (by decide) (fun _ _ => Xb) (fun hp_4 hle_3 hle_4 => ?_)
          refine mv (.tuple #[.agg #[.bool t147.1.Big, sl p_11 css.length], i6 t147.2])<|lv (J7 (v := .agg #[.bool t147.1.Big, sl p_11 css.length]) rfl rfl)<|lv (J7 (v := i6 t147.2) rfl rfl)<|?_
          refine Xw (cs := [.bool false, z0s]) zeroValue33 rfl rfl rfl (fun b13 => ?_)
          refine st (i := 5) [.bool t147.1.Big, sl p_11 css.length] [.bool t147.1.Big, sl p_11 css.length] Try.sizeOf33 rfl rfl<|ag (i6 t147.2)<|Jd<|?_
          try dsimp only [z1,z2,z5,z6,z7,z8]
          refine Jc<|Ja<|mv (i6 t147.2)<|lv (Yn rfl rfl)<|Jd<|?_
          try dsimp only [z1,z2,z5,z6,z7,z8]
          revert H72
          refine ci (decide (t147.2 ≠ 0)) rfl (fun hb H73=>?_) fun hb H74=>?_
          ·refine Jc<|Ja<|mv (i6 t147.2)<|ag (str [])<|ag (i6 t147.2)<|Jd<|?_
           try dsimp only [z1,z2,z5,z6,z7,z8]
           refine Jr ?_
           obtain rfl := sj H73
           refine Jah (v1 := str []) (v2 := i6 t147.2) rfl rfl rfl (fin rfl)
          ·refine Jp<|Jc<|Ja<|mv (pz b12)<|lv (Ji rfl)<|lf Try.runUnderlying57 rfl Try.sizeOf55 rfl<|ll 1 (sl p_10 n) Try.isAgg55<|Xn (fun w hF hS => Jhg (f := Yd) (xs := l) hl Try.underlying55 Try.underlying5 Try.underlying9 rfl (fun _ => rfl) (Jek (i := 2) hS rfl)) rfl rfl rfl<|ag (str (Wn l))<|ag (i6 0)<|Jd<|?_
           try dsimp only [z1,z2,z5,z6,z7,z8]
           refine Jr ?_
           obtain rfl := sj H74
           refine Jah (v1 := str (Wn l)) (v2 := i6 0) rfl rfl rfl (fin rfl)
        ) (by kernel_rfl)
       ) (by kernel_rfl)
end Go.Proofs.Ythljoadplekgnaa

namespace Go.Proofs.Ythljoadplekgnaa
open Go Go.Vc Go.Md Go.M Go.Lx
set_option maxRecDepth 100000
set_option maxHeartbeats 4000000
theorem Pth.addr {h : Jt} {dv : Value} {ls : List (List Ta)} {ks : List Nat} {a : Addr} {u : Value} {l : List Ta} (p : Pth h dv ls ks a u l) : ∃ b o, a = ⟨b, o, none⟩ := by
  cases p with
  | base hi ha => exact ⟨_, _, rfl⟩
  | step p hn hb => exact ⟨_, _, rfl⟩
theorem Jgn (ks : List Nat) (ls : List (List Ta)) (l' : List Ta) : (putF ks ls l').length = ls.length := by
  cases ks with
  | nil => rfl
  | cons i ks =>
    show (match ls[i]? with | some l => ls.set i (putL ks l l') | none => ls).length = _
    cases ls[i]? with
    | none => rfl
    | some l => exact List.length_set
theorem tree_row {d : Nat} {h : Jt} {u : Value} {l : List Ta} {bs : List Nat} (t : TreeL d h u l bs) (hn : bs.Nodup) :
    ∃ (p : Option Addr × Nat) (css : List (List Value)), u = .slice p.1 css.length p.2 ∧ css.length = l.length ∧ RowP h 72 6 u css ∧ (∀ b, u.ownBlock = some b → b ∈ bs) ∧ ∀ h' : Jt, (∀ q ∈ bs, u.ownBlock ≠ some q → ∀ o, h q = some o → h' q = some o) → AllC g_tag_Entry h' 6 css l := by
  cases d with
  | zero =>
    obtain ⟨rfl, rfl, rfl⟩ := t
    exact ⟨(none, 0), [], rfl, rfl, ⟨by simp, .inl ⟨rfl, rfl⟩⟩, fun b hb => (by cases hb), fun h' _ => AllC.nil⟩
  | succ d =>
    obtain ⟨css, b2, r, k, rfl⟩ := t
    obtain ⟨n1, n2, n3⟩ := List.nodup_append.1 hn
    obtain ⟨p, hu⟩ : ∃ p : Option Addr × Nat, u = .slice p.1 css.length p.2 := by
      rcases r.2 with ⟨rfl, rfl⟩ | ⟨g, cap, cur, rfl, _⟩
      · exact ⟨(none, 0), rfl⟩
      · exact ⟨(some ⟨g, 0, none⟩, cap), rfl⟩
    refine ⟨p, css, hu, k.len, r, fun b hb => by simp [hb], fun h' ag => ?_⟩
    have k2 : KidsG (TreeE (TreeL d)) h' css l b2 := k.agree (fun c x b t k => t.agree (fun v xs b t k => t.agree k) k) fun q hq => ag q (List.mem_append_right _ hq) fun e => n3 q (by simp [e]) q hq rfl
    exact k2.allC fun c x b t => by
      obtain ⟨v3, v4, v5, b5, rfl, e2, e3, e4, _⟩ := t
      have f := e4.frn
      exact ⟨rfl, .mk rfl rfl rfl e2 e3 f.frs f.el⟩
theorem at_frn {h' : Jt} {u : Value} {css : List (List Value)} {l : List Ta} (f : FrS h' 6 u (css.map idC)) (p : AllC g_tag_Entry h' 6 css l) : FrN h' 6 u g_tag_Entry l := Wu f p
abbrev filP (v : Value) (ls : List (List Ta)) (hp : Jt) : Prop := FrN hp 1 v gs_tag_Entry ls
theorem filP_nil : filP (z0s) [] Xo := ⟨FrS.nil _ _, fun i x hx => by cases hx⟩
end Go.Proofs.Ythljoadplekgnaa

namespace Go.Proofs.Ythljoadplekgnaa
open Go Go.Vc Go.Md Go.M Go.Lx
set_option maxRecDepth 100000
set_option maxHeartbeats 4000000
theorem k7 {a0 : Tg} {v0_1 : Value} {a1 : List Int} {v1 : Value} {a2 : Td} {v2_2 v2_3 v2_4 : Value} {r : Tg × Int} {w : World} {h : Jt} (hw : Know h w Z2) (f0_1 : FrN h 1 v0_1 gs_tag_Entry a0.kal) (f1 : FrS h 1 v1 (a1.map Qa))
  (f2_2 : FrS h 1 v2_2 (a2.kaj.map Qa)) (f2_3 : FrS h 2 v2_3 (a2.kag.map Jl)) (f2_4 : FrN h 6 v2_4 g_tag_Entry a2.kaf) (H : Jgi a0 a1 a2 = some r) :
    Does Try.prog 7 (List.toArray [.agg #[.bool a0.Big, v0_1], v1, .agg #[.int .i64 a2.kah, str a2.kai, v2_2, v2_3, v2_4]]) w (fun v w' => ∃ x : (Option Addr × Nat), v = (.tuple #[.agg #[.bool r.1.Big, .slice x.1 r.1.kal.length x.2], .int .i64 r.2]) ∧ Turn w w' Z2 (Jbl Xo (filP (.slice x.1 r.1.kal.length x.2) r.1.kal))) := by
 unfold Jgi at H
 refine enter (n := 80) Try.func7 rfl rfl rfl Z2 [] (Sat.nil _ _) ?_
 refine Jc ?_
 refine Ja ?_
 refine We (cs := [.bool a0.Big, v0_1]) rfl rfl rfl rfl (fun b0 => ?_)
 refine We (cs := [.int .i64 a2.kah, str a2.kai, v2_2, v2_3, v2_4]) rfl rfl rfl rfl (fun b1 => ?_)
 refine Xw (cs := [.bool false, z0s]) Try.zeroValue33 rfl rfl rfl (fun b2 => ?_)
 refine Ju rfl rfl rfl (Jy (v := .int .i64 0) rfl) ?_
 refine Jd ?_
 try dsimp only [z1, z2, z3, z4, z5, z6, z7, z8]
 have err : ∀ {t : Int} {e : Xs} {fn : Func} {bx bv rest}, fn.results = #[.cell 6 33, .tmp 7] → r = (noF, t) → e 6 = pz b2 → e 7 = .int .i64 t → At ⟨w, Z2⟩ (Jei Try.prog fn (fun v w' => ∃ x : (Option Addr × Nat), v = (.tuple #[.agg #[.bool r.1.Big, .slice x.1 r.1.kal.length x.2], .int .i64 r.2]) ∧ Turn w w' Z2 (Jbl Xo (filP (.slice x.1 r.1.kal.length x.2) r.1.kal))) .ret) e (bx :: bv :: Jf b2 [.bool false, z0s] 33 :: rest) := fun {t e fn bx bv rest} hfn hr h4 h5 => by
   subst hr
   refine c_emp ?_
   have e1 : (bx :: bv :: Jf b2 [.bool false, z0s] 33 :: rest ++ [empC])[rest.length + 3]? = some empC := by
    rw [List.getElem?_append_right (by simp)]; simp
   refine Xl (rest.length + 3) e1 (Jhm filP_nil) ?_
   exact retCt (i := 2) (vs := [.bool false, z0s]) (v2 := .int .i64 _) Try.isAgg33 Try.sizeOf33 hfn h4 (by rw [List.getElem?_set_ne (by omega)]; rfl) rfl h5 (Y9 ((none, 0) : Option Addr × Nat) (i := rest.length + 3) (List.getElem?_set_self (by simp)) rfl (Imp.refl _))
 refine Jc ?_
 refine Jc ?_
 refine Ja ?_
 refine Q1 (i := 0) (vs := [.bool a0.Big, v0_1]) Try.isAgg33 Try.sizeOf33 rfl rfl rfl rfl rfl ?_
 obtain ⟨t11, h_t11, H1⟩ := Je H
 refine Qg (fun w hF hS => k24 (Jm w) (f0_1.mono (hw.now hF)) h_t11) Try.call24 rfl rfl rfl ?_
 refine Ju rfl rfl rfl (Jy (v := .int .i64 t11) rfl) ?_
 refine Jd ?_
 try dsimp only [z1, z2, z3, z4, z5, z6, z7, z8]
 refine Jc ?_
 refine Ja ?_
 refine Ju rfl rfl rfl (Qi (v := .int .i64 t11) rfl) ?_
 refine Ju rfl rfl rfl (Yn rfl rfl) ?_
 refine Jd ?_
 try dsimp only [z1, z2, z3, z4, z5, z6, z7, z8]
 refine Jcx (b := (decide (t11 ≠ 0))) rfl (fun hb => ?_) (fun hb => ?_)
 ·have H2 := Jbm hb H1
  refine Jc ?_
  refine Ja ?_
  refine Ju rfl rfl rfl (Xm (pl := #[(0, 1), (1, 1)]) (ps := []) (cells := #[.bool false, z0s]) Try.zeroValue33 Try.runUnderlying33 (fun w => by kernel_rfl) rfl rfl) ?_
  refine Ju rfl rfl rfl (Qi (v := .int .i64 t11) rfl) ?_
  refine Yq (i := 2) (vs := [.bool false, z0s]) (cs' := [.bool false, z0s]) Try.sizeOf33 rfl rfl rfl rfl rfl rfl rfl rfl rfl ?_
  refine Ju rfl rfl rfl (Jy (v := .int .i64 t11) rfl) ?_
  refine Jd ?_
  try dsimp only [z1, z2, z3, z4, z5, z6, z7, z8]
  refine Jr ?_
  refine err ?_ (Option.some.inj H2).symm ?_ ?_ <;> rfl
 ·have H3 := Jbr hb H1
  obtain ⟨t23, h_t23, H4⟩ := Je H3
  refine Jp ?_
  refine Jc ?_
  refine Jc ?_
  refine Ja ?_
  refine Q1 (i := 1) (vs := [.int .i64 a2.kah, str a2.kai, v2_2, v2_3, v2_4]) Try.isAgg26 Try.sizeOf26 rfl rfl rfl rfl rfl ?_
  refine Qg (fun w hF hS => k15 (Jm w) (f2_2.mono (hw.now hF)) (f2_3.mono (hw.now hF)) (f2_4.mono (hw.now hF)) h_t23) Try.call15 rfl rfl rfl ?_
  refine Ju rfl rfl rfl (Jy (v := .int .i64 t23) rfl) ?_
  refine Jd ?_
  try dsimp only [z1, z2, z3, z4, z5, z6, z7, z8]
  refine Jc ?_
  refine Ja ?_
  refine Ju rfl rfl rfl (Qi (v := .int .i64 t23) rfl) ?_
  refine Ju rfl rfl rfl (Yn rfl rfl) ?_
  refine Jd ?_
  try dsimp only [z1, z2, z3, z4, z5, z6, z7, z8]
  refine Jcx (b := (decide (t23 ≠ 0))) rfl (fun hb => ?_) (fun hb => ?_)
  ·have H5 := Jbm hb H4
   refine Jc ?_
   refine Ja ?_
   refine Ju rfl rfl rfl (Xm (pl := #[(0, 1), (1, 1)]) (ps := []) (cells := #[.bool false, z0s]) Try.zeroValue33 Try.runUnderlying33 (fun w => by kernel_rfl) rfl rfl) ?_
   refine Ju rfl rfl rfl (Qi (v := .int .i64 t23) rfl) ?_
   refine Yq (i := 2) (vs := [.bool false, z0s]) (cs' := [.bool false, z0s]) Try.sizeOf33 rfl rfl rfl rfl rfl rfl rfl rfl rfl ?_
   refine Ju rfl rfl rfl (Jy (v := .int .i64 t23) rfl) ?_
   refine Jd ?_
   try dsimp only [z1, z2, z3, z4, z5, z6, z7, z8]
   refine Jr ?_
   refine err ?_ (Option.some.inj H5).symm ?_ ?_ <;> rfl
  ·have H5 := Jbr hb H4
   have hfit : fitF 8 a0 ∧ fitV 8 a2 := Classical.byContradiction fun hh => by rw [if_neg hh] at H5; cases H5
   rw [if_pos hfit] at H5
   obtain ⟨z, h_z, H6⟩ := Je H5
   refine Jp ?_
   refine Jc ?_
   refine Ja ?_
   refine Q1 (i := 0) (vs := [.bool a0.Big, v0_1]) Try.isAgg33 Try.sizeOf33 rfl rfl rfl rfl rfl ?_
   refine Za (Qs (rds := []) (G := fun x : (Option Addr × Nat) => (.agg #[.bool a0.Big, .slice x.1 a0.kal.length x.2])) (C := fun x : (Option Addr × Nat) => fileC 8 (.slice x.1 a0.kal.length x.2) a0.kal) (fun w L' hF hS hi => k25_of (Jm w) (f0_1.mono (hw.now hF)) hfit.1) Try.call25 rfl) rfl rfl rfl (fun p => ?_)
   refine Yq (i := 0) (vs := [.bool a0.Big, .slice p.1 a0.kal.length p.2]) (cs' := [.bool a0.Big, .slice p.1 a0.kal.length p.2]) Try.sizeOf33 rfl rfl rfl rfl rfl rfl rfl rfl rfl ?_
   refine Jd ?_
   try dsimp only [z1, z2, z3, z4, z5, z6, z7, z8]
   refine Jd8 3 rfl (fun hp ⟨bs, tF, hnd, hdom⟩ => ?_)
   try dsimp only [z1, z2, z3, z4, z5, z6, z7, z8]
   have f0 := tF.frn
   refine Jc ?_
   refine Ja ?_
   refine Ju rfl rfl rfl (Qi (v := v1) rfl) ?_
   refine l_callC (σ := Value) (G := fun x => .tuple #[x, .bool z.isSome]) (Φ := DirR hp (.slice p.1 a0.kal.length p.2) a0.kal z) (fun w hF hS => k26_of (know_pool (i := 3) hS rfl Xb) (Jm w) (hw.at hF) (Qp (i := 0) hS rfl) f0 f1 h_z) Try.call26 rfl rfl rfl (fun pv hpv => ?_)
   refine Ju rfl rfl rfl (Qi (v := .tuple #[pv, .bool z.isSome]) rfl) ?_
   refine Ju rfl rfl rfl (J7 (v := pv) rfl rfl) ?_
   refine Ju rfl rfl rfl (J7 (v := .bool z.isSome) rfl rfl) ?_
   refine Ju rfl rfl rfl (Jy (v := pv) rfl) ?_
   refine Ju rfl rfl rfl (Jy (v := .bool z.isSome) rfl) ?_
   refine Jd ?_
   try dsimp only [z1, z2, z3, z4, z5, z6, z7, z8]
   refine Jc ?_
   refine Jc ?_
   refine Ja ?_
   refine Ju rfl rfl rfl (Qi (v := .bool z.isSome) rfl) ?_
   refine Ju rfl rfl rfl (Ja6 rfl) ?_
   refine Jd ?_
   try dsimp only [z1, z2, z3, z4, z5, z6, z7, z8]
   cases z with
   | none =>
    refine Ve rfl ?_
    refine Jc ?_
    refine Ja ?_
    refine Ju rfl rfl rfl (Xm (pl := #[(0, 1), (1, 1)]) (ps := []) (cells := #[.bool false, z0s]) Try.zeroValue33 Try.runUnderlying33 (fun w => by kernel_rfl) rfl rfl) ?_
    refine Yq (i := 2) (vs := [.bool false, z0s]) (cs' := [.bool false, z0s]) Try.sizeOf33 rfl rfl rfl rfl rfl rfl rfl rfl rfl ?_
    refine Ju rfl rfl rfl (Jy (v := .int .i64 7) rfl) ?_
    refine Jd ?_
    try dsimp only [z1, z2, z3, z4, z5, z6, z7, z8]
    refine Jr ?_
    refine err ?_ (Option.some.inj H6).symm ?_ ?_ <;> rfl
   | some ks =>
    obtain ⟨a, u, l, rfl, hP⟩ := hpv.2 ks rfl
    have hl : getF ks a0.kal = l := hP.getF
    have fl := hP.frn f0
    obtain ⟨q, h_q, H7⟩ := Je H6
    obtain ⟨t, h_t, H8⟩ := Je H7
    rw [hl] at H8
    obtain ⟨⟨n, ok⟩, h_pl, H9⟩ := Je H8
    obtain ⟨ab, ao, rfl⟩ := hP.addr
    obtain ⟨cl, T, d', bsub, c1, c2, c3, c4, c5, c6, c7, c8⟩ := hole_of tF hnd hP
    obtain ⟨pu, css, rfl, hcl, rw_, hob, hall⟩ := tree_row c7 c6
    have hA0 := hall hp (fun q _ _ o k => k)
    have hone := AllC.ones hA0 (fun c x f j hj => ent_one f j hj)
    have hne : (Value.slice pu.1 css.length pu.2).ownBlock ≠ some ab := fun e => c4 (hob ab e)
    have hob1 : rmV hp (Value.slice pu.1 css.length pu.2) ab = some (.cells cl.toArray T (0, 0)) := (if_neg hne).trans c1
    have hrg : rg cl ao = some (Value.slice pu.1 css.length pu.2) := (rg_eq _ _).trans c2
    refine Wr rfl ?_
    refine Jp ?_
    refine Jc ?_
    exact Qc (Kd.p :: Kd.p :: Kd.p :: Kd.p :: Kd.p :: Kd.d [] (.int .i64 t) :: Kd.d [1] (.agg (List.toArray [.int .i64 a2.kah, str a2.kai, v2_2, v2_3, v2_4])) :: Kd.t 4 [] (fun y : (Option Addr × Nat) × (Option Addr × Nat) × (Option Addr × Nat) => (.agg #[.int .i64 a2.kah, str a2.kai, .slice y.1.1 a2.kaj.length y.1.2, .slice y.2.1.1 a2.kag.length y.2.1.2, .slice y.2.2.1 a2.kaf.length y.2.2.2])) (fun v_ => (Jv (roV 1 (Jab v_ 2) a2.kaj.length (a2.kaj.map Qa)) (Jv (roV 2 (Jab v_ 3) a2.kag.length (a2.kag.map Jl)) (Jcp 8 (Jab v_ 4) a2.kaf)))) :: Kd.p :: Kd.nw 5 [.int .i64 0, .int .i64 0, str [], z0s, z0s, z0s] 72 :: Kd.sv 12 46 5 (fun v_ => v_.cells.toList) 72 :: []) 2 mixed (by
     refine Qr rfl rfl (Qi (v := v1) rfl) ?_
     refine Qr rfl rfl (Qi (v := v1) rfl) ?_
     refine Qr rfl rfl (Va Try.underlying22 rfl f1 rfl) ?_
     refine Qr rfl rfl (Un rfl rfl h_q) ?_
     refine Qr rfl rfl (Q2 Try.underlying22 Try.sizeOf3 rfl rfl f1 h_t) ?_
     refine Ze (fun w hF => Qt (f := Qa) (i := q) (sz := 1) (j := 0) (v := .int .i64 t) Try.isAgg3 rfl rfl (f1.row (hw.now hF)) h_t rfl) rfl rfl ?_
     refine Jbh (i := 1) (vs := [.int .i64 a2.kah, str a2.kai, v2_2, v2_3, v2_4]) Try.isAgg26 Try.sizeOf26 rfl rfl rfl rfl ?_
     refine Ja8 (((none, 0) : Option Addr × Nat), ((none, 0) : Option Addr × Nat), ((none, 0) : Option Addr × Nat)) (Qs (rds := []) (G := fun y : (Option Addr × Nat) × (Option Addr × Nat) × (Option Addr × Nat) => (.agg #[.int .i64 a2.kah, str a2.kai, .slice y.1.1 a2.kaj.length y.1.2, .slice y.2.1.1 a2.kag.length y.2.1.2, .slice y.2.2.1 a2.kaf.length y.2.2.2])) (C := fun y : (Option Addr × Nat) × (Option Addr × Nat) × (Option Addr × Nat) => (Jv (roV 1 (.slice y.1.1 a2.kaj.length y.1.2) a2.kaj.length (a2.kaj.map Qa)) (Jv (roV 2 (.slice y.2.1.1 a2.kag.length y.2.1.2) a2.kag.length (a2.kag.map Jl)) (Jcp 8 (.slice y.2.2.1 a2.kaf.length y.2.2.2) a2.kaf)))) (fun w L' hF hS hi => k27_of (k49_all 8) (Jm w) (f2_2.mono (hw.now hF)) (f2_3.mono (hw.now hF)) (f2_4.mono (hw.now hF)) hfit.2) Try.call27 rfl) (fun _ => rfl) rfl rfl rfl (fun ⟨p3, p4, p5⟩ => ?_)
     refine Qr rfl rfl (Xm (pl := #[(0, 1), (1, 5)]) (ps := [(0, .int .i64 t), (1, .agg #[.int .i64 a2.kah, str a2.kai, .slice p3.1 a2.kaj.length p3.2, .slice p4.1 a2.kag.length p4.2, .slice p5.1 a2.kaf.length p5.2])]) (cells := #[.int .i64 t, .int .i64 a2.kah, str a2.kai, .slice p3.1 a2.kaj.length p3.2, .slice p4.1 a2.kag.length p4.2, .slice p5.1 a2.kaf.length p5.2]) Try.zeroValue72 Try.runUnderlying72 (fun w => by kernel_rfl) rfl rfl) ?_
     refine d_new rfl rfl (Jg4 (cs := [.int .i64 0, .int .i64 0, str [], z0s, z0s, z0s]) Try.zeroValue72 rfl) rfl (fun b12 => ?_)
     refine Vx (i := 5) (a := 12) (q := 46) (x := .agg #[.int .i64 t, .int .i64 a2.kah, str a2.kai, .slice p3.1 a2.kaj.length p3.2, .slice p4.1 a2.kag.length p4.2, .slice p5.1 a2.kaf.length p5.2]) (vs := [.int .i64 t, .int .i64 a2.kah, str a2.kai, .slice p3.1 a2.kaj.length p3.2, .slice p4.1 a2.kag.length p4.2, .slice p5.1 a2.kaf.length p5.2]) (cs' := fun v_ => v_.cells.toList) Try.sizeOf72 rfl rfl rfl rfl rfl rfl rfl rfl rfl ?_
     refine X2 ?_
     try dsimp only [z1, z2, z3, z4, z5, z6, z7, z8]
     refine Xl 4 rfl imp_valP ?_
     try dsimp only [z1, z2, z3, z4, z5, z6, z7, z8]
     refine Jd8 4 rfl (fun hv hvp => ?_)
     try dsimp only [z1, z2, z3, z4, z5, z6, z7, z8]
     refine Jc ?_
     refine Jc ?_
     exact Qc (Kd.p :: Kd.p :: Kd.d [3] (Value.slice pu.1 css.length pu.2) :: Kd.p :: Kd.d [5] (.int .i64 t) :: Kd.d [3] (.tuple #[.int .i64 n, .bool ok]) :: Kd.p :: Kd.p :: Kd.p :: Kd.p :: Kd.p :: []) 0 mixed (by
      refine Qr rfl rfl (Qi (v := .pointer (some ⟨ab, ao, none⟩)) rfl) ?_
      refine Qr rfl rfl (Ji rfl) ?_
      refine Wj (fun w L' hF hS hi => hP.load f0 rfl (Y0 (i := 3) hS ((hi 3 (by simp)).trans rfl) Xb)) rfl rfl ?_
      refine Qr rfl rfl (Qd Try.runUnderlying72 rfl Try.sizeOf3 rfl rfl) ?_
      refine d_load1 (i := 5) (v := .int .i64 t) Try.isAgg3 rfl rfl rfl rfl ?_
      refine Jam (fun w L' hF hS hi => k28 (Jm w) (fl.mono (Y0 (i := 3) hS ((hi 3 (by simp)).trans rfl) Xb)) h_pl) Try.call28 rfl rfl ?_
      refine Qr rfl rfl (Qi (v := .tuple #[.int .i64 n, .bool ok]) rfl) ?_
      refine Qr rfl rfl (J7 (v := .int .i64 n) rfl rfl) ?_
      refine Qr rfl rfl (J7 (v := .bool ok) rfl rfl) ?_
      refine Qr rfl rfl (Jy (v := .int .i64 n) rfl) ?_
      refine Qr rfl rfl (Jy (v := .bool ok) rfl) ?_
      refine X2 ?_
      try dsimp only [z1, z2, z3, z4, z5, z6, z7, z8]
      refine Jc ?_
      refine Ja ?_
      refine Ju rfl rfl rfl (Qi (v := .bool ok) rfl) ?_
      refine Jd ?_
      try dsimp only [z1, z2, z3, z4, z5, z6, z7, z8]
      refine Jcx (b := ok) rfl (fun hb => ?_) (fun hb => ?_)
      ·have H10 := Jbm hb H9
       obtain ⟨l', h_l', HE⟩ := Je H10
       obtain ⟨hn0, hn1, hle'⟩ := Ja9 h_l'
       have h_x : Q9 l n = some (l[n.toNat]'(by omega)) := Jf0 hn0 (by omega)
       have hat := hA0.ix h_x
       have ec := (hA0.eta h_x).trans (Qy (hA0.at h_x))
       refine Xl 3 rfl (imp_thaw rw_ rfl) ?_
       try dsimp only [z1, z2, z3, z4, z5, z6, z7, z8]
       refine Qj 3 rfl ?_
       try dsimp only [z1, z2, z3, z4, z5, z6, z7, z8]
       refine Xl 6 rfl (Imp.of (show J3 72 6 (Value.slice pu.1 css.length pu.2) css.length css = J3 72 6 (Value.slice pu.1 css.length pu.2) css.length (css.map idC) from by rw [Y1])) ?_
       try dsimp only [z1, z2, z3, z4, z5, z6, z7, z8]
       exact Qc (Kd.p :: Kd.p :: Kd.d [3] (Value.slice pu.1 css.length pu.2) :: Kd.p :: Kd.d [5] (.agg (List.toArray [.int .i64 t, .int .i64 a2.kah, str a2.kai, .slice p3.1 a2.kaj.length p3.2, .slice p4.1 a2.kag.length p4.2, .slice p5.1 a2.kaf.length p5.2])) :: Kd.d [6] (U0 pu.1 (n.toNat * 6)) :: Kd.sr 6 (J3 72 6 (Value.slice pu.1 css.length pu.2) css.length ((css.set n.toNat [.int .i64 t, .int .i64 a2.kah, str a2.kai, .slice p3.1 a2.kaj.length p3.2, .slice p4.1 a2.kag.length p4.2, .slice p5.1 a2.kaf.length p5.2]).map idC)) :: []) 0 mixed (by
        refine Qr rfl rfl (Qi (v := .pointer (some ⟨ab, ao, none⟩)) rfl) ?_
        refine Qr rfl rfl (Ji rfl) ?_
        refine Wj (fun w L' hF hS hi => Zx (v := (Value.slice pu.1 css.length pu.2)) Try.isAgg24 rfl (Y0 (i := 3) hS ((hi 3 (by simp)).trans rfl) Xb _ _ hob1) hrg) rfl rfl ?_
        refine Qr rfl rfl (Qi (v := .int .i64 n) rfl) ?_
        refine Jbh (i := 5) (vs := [.int .i64 t, .int .i64 a2.kah, str a2.kai, .slice p3.1 a2.kaj.length p3.2, .slice p4.1 a2.kag.length p4.2, .slice p5.1 a2.kaf.length p5.2]) Try.isAgg72 Try.sizeOf72 rfl rfl rfl rfl ?_
        refine Wj (fun w L' hF hS hi => Ux Try.underlying24 Try.sizeOf72 rfl rfl (Up (i := 6) (E := 72) (sz := 6) (n := css.length) (a := pu.1) (c := pu.2) hS ((hi 6 (by simp)).trans rfl)) rfl hat) rfl rfl ?_
        refine d_storeG (q := 6) (j := 0) (i := n) (sz := 6) (hm := rfl) (f := idC) (z := [.int .i64 t, .int .i64 a2.kah, str a2.kai, .slice p3.1 a2.kaj.length p3.2, .slice p4.1 a2.kag.length p4.2, .slice p5.1 a2.kaf.length p5.2]) (ys := css.set n.toNat [.int .i64 t, .int .i64 a2.kah, str a2.kai, .slice p3.1 a2.kaj.length p3.2, .slice p4.1 a2.kag.length p4.2, .slice p5.1 a2.kaf.length p5.2]) (vs := [.int .i64 t, .int .i64 a2.kah, str a2.kai, .slice p3.1 a2.kaj.length p3.2, .slice p4.1 a2.kag.length p4.2, .slice p5.1 a2.kaf.length p5.2]) Try.sizeOf72 rfl rfl rfl rfl rfl rfl rfl rfl rfl (fun y_ hy_ => by cases hy_.symm.trans hat; rw [ec]; rfl) (Jcu hn0 (by omega)) ?_
        refine X2 ?_
        try dsimp only [z1, z2, z3, z4, z5, z6, z7, z8]
        refine Ua (Φ := fun H_ => FrS H_ 6 (Value.slice pu.1 css.length pu.2) ((css.set n.toNat [.int .i64 t, .int .i64 a2.kah, str a2.kai, .slice p3.1 a2.kaj.length p3.2, .slice p4.1 a2.kag.length p4.2, .slice p5.1 a2.kaf.length p5.2]).map idC)) 3 6 rfl rfl (by decide) (fun _ _ => Xb) (Jdl _) (fun hp2 hle hf => ?_)
        try dsimp only [z1, z2, z3, z4, z5, z6, z7, z8]
        refine Yi 3 4 rfl rfl (by decide) (fun _ _ => Xb) (fun hp3 hle1 hle2 => ?_)
        try dsimp only [z1, z2, z3, z4, z5, z6, z7, z8]
        have ag : ∀ q ∈ bs, (Value.slice pu.1 css.length pu.2).ownBlock ≠ some q → ∀ o, hp q = some o → hp3 q = some o := fun q hq hqu o ho => hle1 q o (hle q o ((if_neg hqu).trans ho))
        have hA2 := hall hp3 (fun q hq hqu o ho => ag q (c5 q hq) hqu o ho)
        have pf := hA2.setE h_l' (vs := [.int .i64 t, .int .i64 a2.kah, str a2.kai, .slice p3.1 a2.kaj.length p3.2, .slice p4.1 a2.kag.length p4.2, .slice p5.1 a2.kaf.length p5.2]) rfl (.mk rfl rfl rfl (hvp.1.mono hle2) (hvp.2.1.mono hle2) ((hvp.2.2.mono hle2)).frs ((hvp.2.2.mono hle2)).el)
        have fin := c8 hp3 (Value.slice pu.1 css.length pu.2) l' (fun q hq hqa hqs o ho => ag q hq (fun e => hqs (hob q e)) o ho) (by rw [set_self c2]; exact ag ab c3 hne _ c1) (at_frn (hf.mono hle1) pf)
        unfold Jd6 at HE
        obtain ⟨c15, h_c15, HE1⟩ := Je HE
        refine Jc ?_
        refine Jc ?_
        refine Ja ?_
        refine Q1 (i := 0) (vs := [.bool a0.Big, .slice p.1 a0.kal.length p.2]) Try.isAgg33 Try.sizeOf33 rfl rfl rfl rfl rfl ?_
        refine Qg (fun w hF hS => k24 (a0 := ⟨a0.Big, putF ks a0.kal l'⟩) (Jm w) (fin.mono (Y0 (i := 3) hS rfl Xb)) h_c15) Try.call24 rfl rfl rfl ?_
        refine Ju rfl rfl rfl (Jy (v := .int .i64 c15) rfl) ?_
        refine Jd ?_
        try dsimp only [z1, z2, z3, z4, z5, z6, z7, z8]
        refine Jc ?_
        refine Ja ?_
        refine Ju rfl rfl rfl (Qi (v := .int .i64 c15) rfl) ?_
        refine Ju rfl rfl rfl (Yn rfl rfl) ?_
        refine Jd ?_
        try dsimp only [z1, z2, z3, z4, z5, z6, z7, z8]
        refine Jcx (b := (decide (c15 ≠ 0))) rfl (fun hb => ?_) (fun hb => ?_)
        ·have HE2 := Jbm hb HE1
         refine Jc ?_
         refine Ja ?_
         refine Ju rfl rfl rfl (Xm (pl := #[(0, 1), (1, 1)]) (ps := []) (cells := #[.bool false, z0s]) Try.zeroValue33 Try.runUnderlying33 (fun w => by kernel_rfl) rfl rfl) ?_
         refine Ju rfl rfl rfl (Qi (v := .int .i64 c15) rfl) ?_
         refine Yq (i := 2) (vs := [.bool false, z0s]) (cs' := [.bool false, z0s]) Try.sizeOf33 rfl rfl rfl rfl rfl rfl rfl rfl rfl ?_
         refine Ju rfl rfl rfl (Jy (v := .int .i64 c15) rfl) ?_
         refine Jd ?_
         try dsimp only [z1, z2, z3, z4, z5, z6, z7, z8]
         refine Jr ?_
         refine err ?_ (Option.some.inj HE2).symm ?_ ?_ <;> rfl
        ·have HE2 := Jbr hb HE1
         obtain rfl := Option.some.inj HE2
         refine Jp ?_
         refine Jc ?_
         refine Ja ?_
         refine Q1 (i := 0) (vs := [.bool a0.Big, .slice p.1 a0.kal.length p.2]) Try.isAgg33 Try.sizeOf33 rfl rfl rfl rfl rfl ?_
         refine Yq (i := 2) (vs := [.bool a0.Big, .slice p.1 a0.kal.length p.2]) (cs' := [.bool a0.Big, .slice p.1 a0.kal.length p.2]) Try.sizeOf33 rfl rfl rfl rfl rfl rfl rfl rfl rfl ?_
         refine Ju rfl rfl rfl (Jy (v := .int .i64 0) rfl) ?_
         refine Jd ?_
         try dsimp only [z1, z2, z3, z4, z5, z6, z7, z8]
         refine Jr ?_
         refine Xl 3 rfl (Jiw (Φ := filP (.slice p.1 (putF ks a0.kal l').length p.2) (putF ks a0.kal l')) (by rw [Jgn]; exact fin)) ?_
         try dsimp only [z1, z2, z3, z4, z5, z6, z7, z8]
         exact retCt (i := 2) (vs := [.bool a0.Big, .slice p.1 a0.kal.length p.2]) (v2 := .int .i64 0) Try.isAgg33 Try.sizeOf33 rfl rfl rfl rfl rfl (Y9 p (i := 3) rfl (by rw [Jgn]) (Imp.refl _))
       ) (by kernel_rfl)
      ·have H10 := Jbr hb H9
       obtain ⟨l', h_l', HE⟩ := Je H10
       have hi0 : gInsN 104 css n [.int .i64 t, .int .i64 a2.kah, str a2.kai, .slice p3.1 a2.kaj.length p3.2, .slice p4.1 a2.kag.length p4.2, .slice p5.1 a2.kaf.length p5.2] = some (Um css n [.int .i64 t, .int .i64 a2.kah, str a2.kai, .slice p3.1 a2.kaj.length p3.2, .slice p4.1 a2.kag.length p4.2, .slice p5.1 a2.kaf.length p5.2]) := by
        obtain ⟨_, g0, g1, g2, g3⟩ := Jf1 h_l'
        exact gInsN_ok ⟨g0, by omega, by rw [hcl]; exact g2, by rw [hcl]; exact g3⟩
       refine Xl 3 rfl (imp_thaw rw_ rfl) ?_
       try dsimp only [z1, z2, z3, z4, z5, z6, z7, z8]
       refine Qj 3 rfl ?_
       try dsimp only [z1, z2, z3, z4, z5, z6, z7, z8]
       refine Xl 6 rfl (Jb3 (Ji1 _ _ _ _ _) (Imp.of (show Jav 72 6 (Value.slice pu.1 css.length pu.2) css.length css = Jav 72 6 (Value.slice pu.1 css.length pu.2) css.length (css.map idC) from by rw [Y1]))) ?_
       try dsimp only [z1, z2, z3, z4, z5, z6, z7, z8]
       exact Qc (Kd.p :: Kd.p :: Kd.p :: Kd.d [3] (Value.slice pu.1 css.length pu.2) :: Kd.p :: Kd.d [5] (.agg (List.toArray [.int .i64 t, .int .i64 a2.kah, str a2.kai, .slice p3.1 a2.kaj.length p3.2, .slice p4.1 a2.kag.length p4.2, .slice p5.1 a2.kaf.length p5.2])) :: Kd.ns 7 [.int .i64 t, .int .i64 a2.kah, str a2.kai, .slice p3.1 a2.kaj.length p3.2, .slice p4.1 a2.kag.length p4.2, .slice p5.1 a2.kaf.length p5.2] 72 1 :: Kd.t 6 [7] (fun x : Option Addr × Nat => .slice x.1 (Um css n [.int .i64 t, .int .i64 a2.kah, str a2.kai, .slice p3.1 a2.kaj.length p3.2, .slice p4.1 a2.kag.length p4.2, .slice p5.1 a2.kaf.length p5.2]).length x.2) (fun v_ => Jav 72 6 v_ (Um css n [.int .i64 t, .int .i64 a2.kah, str a2.kai, .slice p3.1 a2.kaj.length p3.2, .slice p4.1 a2.kag.length p4.2, .slice p5.1 a2.kaf.length p5.2]).length ((Um css n [.int .i64 t, .int .i64 a2.kah, str a2.kai, .slice p3.1 a2.kaj.length p3.2, .slice p4.1 a2.kag.length p4.2, .slice p5.1 a2.kaf.length p5.2]).map idC)) :: Kd.dv 70 [6] (clipV 6) :: Kd.p :: Kd.sp 72 71 3 (fun v_ => Q3 Xo (updH (rmV hp (Value.slice pu.1 css.length pu.2)) ab (.cells (cl.set ao v_).toArray T (0, 0)))) :: []) 1 mixed (by
        refine Qr rfl rfl (Qi (v := .pointer (some ⟨ab, ao, none⟩)) rfl) ?_
        refine Qr rfl rfl (Qi (v := .pointer (some ⟨ab, ao, none⟩)) rfl) ?_
        refine Qr rfl rfl (Ji rfl) ?_
        refine Wj (fun w L' hF hS hi => Zx (v := (Value.slice pu.1 css.length pu.2)) Try.isAgg24 rfl (Y0 (i := 3) hS ((hi 3 (by simp)).trans rfl) Xb _ _ hob1) hrg) rfl rfl ?_
        refine Qr rfl rfl (Qi (v := .int .i64 n) rfl) ?_
        refine Jbh (i := 5) (vs := [.int .i64 t, .int .i64 a2.kah, str a2.kai, .slice p3.1 a2.kaj.length p3.2, .slice p4.1 a2.kag.length p4.2, .slice p5.1 a2.kaf.length p5.2]) Try.isAgg72 Try.sizeOf72 rfl rfl rfl rfl ?_
        refine Jfz rfl rfl (Zd (vs := [.agg #[.int .i64 t, .int .i64 a2.kah, str a2.kai, .slice p3.1 a2.kaj.length p3.2, .slice p4.1 a2.kag.length p4.2, .slice p5.1 a2.kaf.length p5.2]]) (cs := [.int .i64 t, .int .i64 a2.kah, str a2.kai, .slice p3.1 a2.kaj.length p3.2, .slice p4.1 a2.kag.length p4.2, .slice p5.1 a2.kaf.length p5.2]) Try.underlying24 Try.sizeOf72 Try.zeroValue72 rfl rfl rfl rfl rfl) rfl (fun b7 => ?_)
        refine U8 (Cv := fun v_ => Jav 72 6 v_ (Um css n [.int .i64 t, .int .i64 a2.kah, str a2.kai, .slice p3.1 a2.kaj.length p3.2, .slice p4.1 a2.kag.length p4.2, .slice p5.1 a2.kaf.length p5.2]).length ((Um css n [.int .i64 t, .int .i64 a2.kah, str a2.kai, .slice p3.1 a2.kaj.length p3.2, .slice p4.1 a2.kag.length p4.2, .slice p5.1 a2.kaf.length p5.2]).map idC)) ((none, 0) : Option Addr × Nat) (Jw (i := 6) (rds := [7]) (G := fun x : Option Addr × Nat => .slice x.1 (Um css n [.int .i64 t, .int .i64 a2.kah, str a2.kai, .slice p3.1 a2.kaj.length p3.2, .slice p4.1 a2.kag.length p4.2, .slice p5.1 a2.kaf.length p5.2]).length x.2) (C := fun x : Option Addr × Nat => Jav 72 6 (.slice x.1 (Um css n [.int .i64 t, .int .i64 a2.kah, str a2.kai, .slice p3.1 a2.kaj.length p3.2, .slice p4.1 a2.kag.length p4.2, .slice p5.1 a2.kaf.length p5.2]).length x.2) (Um css n [.int .i64 t, .int .i64 a2.kah, str a2.kai, .slice p3.1 a2.kaj.length p3.2, .slice p4.1 a2.kag.length p4.2, .slice p5.1 a2.kaf.length p5.2]).length ((Um css n [.int .i64 t, .int .i64 a2.kah, str a2.kai, .slice p3.1 a2.kaj.length p3.2, .slice p4.1 a2.kag.length p4.2, .slice p5.1 a2.kaf.length p5.2]).map idC)) rfl (fun w L' S hF hS hi hp hlt ho hA => k30 (p0 := pu) (cs1 := [.int .i64 t, .int .i64 a2.kah, str a2.kai, .slice p3.1 a2.kaj.length p3.2, .slice p4.1 a2.kag.length p4.2, .slice p5.1 a2.kaf.length p5.2]) hp hlt (Qb w S) rfl hone rfl rfl (cell_but (j := 7) hA hS (by decide) ((hi 7 (by simp)).trans rfl)) hi0) Try.call30 rfl) (fun _ => rfl) rfl rfl (fun p7 => ?_)
        refine d_callDV (a := 70) (v := .slice (Xg p7.1 0 (Um css n [.int .i64 t, .int .i64 a2.kah, str a2.kai, .slice p3.1 a2.kaj.length p3.2, .slice p4.1 a2.kag.length p4.2, .slice p5.1 a2.kaf.length p5.2]).length 6) (Um css n [.int .i64 t, .int .i64 a2.kah, str a2.kai, .slice p3.1 a2.kaj.length p3.2, .slice p4.1 a2.kag.length p4.2, .slice p5.1 a2.kaf.length p5.2]).length (Um css n [.int .i64 t, .int .i64 a2.kah, str a2.kai, .slice p3.1 a2.kaj.length p3.2, .slice p4.1 a2.kag.length p4.2, .slice p5.1 a2.kaf.length p5.2]).length) rfl (fun w L' hF hS hi => k29 (a := p7.1) (n := (Um css n [.int .i64 t, .int .i64 a2.kah, str a2.kai, .slice p3.1 a2.kaj.length p3.2, .slice p4.1 a2.kag.length p4.2, .slice p5.1 a2.kaf.length p5.2]).length) (c := p7.2) (capOfO (i := 6) hS ((hi 6 (by simp)).trans rfl)) w) Try.call29 rfl rfl ?_
        refine Qr rfl rfl (Ji rfl) ?_
        refine d_storeP (C := fun v_ => Q3 Xo (updH (rmV hp (Value.slice pu.1 css.length pu.2)) ab (.cells (cl.set ao v_).toArray T (0, 0)))) (turns_storeP (q := 3) (b := ab) (o := ao) (cs := cl) (cs' := cl.set ao (.slice (Xg p7.1 0 (Um css n [.int .i64 t, .int .i64 a2.kah, str a2.kai, .slice p3.1 a2.kaj.length p3.2, .slice p4.1 a2.kag.length p4.2, .slice p5.1 a2.kaf.length p5.2]).length 6) (Um css n [.int .i64 t, .int .i64 a2.kah, str a2.kai, .slice p3.1 a2.kaj.length p3.2, .slice p4.1 a2.kag.length p4.2, .slice p5.1 a2.kaf.length p5.2]).length (Um css n [.int .i64 t, .int .i64 a2.kah, str a2.kai, .slice p3.1 a2.kaj.length p3.2, .slice p4.1 a2.kag.length p4.2, .slice p5.1 a2.kaf.length p5.2]).length)) (T0 := T) (hp := rmV hp (Value.slice pu.1 css.length pu.2)) (vs := [.slice (Xg p7.1 0 (Um css n [.int .i64 t, .int .i64 a2.kah, str a2.kai, .slice p3.1 a2.kaj.length p3.2, .slice p4.1 a2.kag.length p4.2, .slice p5.1 a2.kaf.length p5.2]).length 6) (Um css n [.int .i64 t, .int .i64 a2.kah, str a2.kai, .slice p3.1 a2.kaj.length p3.2, .slice p4.1 a2.kag.length p4.2, .slice p5.1 a2.kaf.length p5.2]).length (Um css n [.int .i64 t, .int .i64 a2.kah, str a2.kai, .slice p3.1 a2.kaj.length p3.2, .slice p4.1 a2.kag.length p4.2, .slice p5.1 a2.kaf.length p5.2]).length]) Try.sizeOf24 rfl rfl rfl rfl rfl rfl (wr_set (List.getElem?_eq_some_iff.1 c2).1) rfl hob1) rfl rfl ?_
        refine X2 ?_
        try dsimp only [z1, z2, z3, z4, z5, z6, z7, z8]
        refine Xl 6 rfl (imp_clipRO _ _ _ _ _ _) ?_
        try dsimp only [z1, z2, z3, z4, z5, z6, z7, z8]
        refine Ua (Φ := fun H_ => FrS H_ 6 (.slice (Xg p7.1 0 (Um css n [.int .i64 t, .int .i64 a2.kah, str a2.kai, .slice p3.1 a2.kaj.length p3.2, .slice p4.1 a2.kag.length p4.2, .slice p5.1 a2.kaf.length p5.2]).length 6) (Um css n [.int .i64 t, .int .i64 a2.kah, str a2.kai, .slice p3.1 a2.kaj.length p3.2, .slice p4.1 a2.kag.length p4.2, .slice p5.1 a2.kaf.length p5.2]).length (Um css n [.int .i64 t, .int .i64 a2.kah, str a2.kai, .slice p3.1 a2.kaj.length p3.2, .slice p4.1 a2.kag.length p4.2, .slice p5.1 a2.kaf.length p5.2]).length) ((Um css n [.int .i64 t, .int .i64 a2.kah, str a2.kai, .slice p3.1 a2.kaj.length p3.2, .slice p4.1 a2.kag.length p4.2, .slice p5.1 a2.kaf.length p5.2]).map idC)) 3 6 rfl rfl (by decide) (fun _ _ => Xb) (fz_offO _) (fun hp2 hle hf => ?_)
        try dsimp only [z1, z2, z3, z4, z5, z6, z7, z8]
        refine Yi 3 4 rfl rfl (by decide) (fun _ _ => Xb) (fun hp3 hle1 hle2 => ?_)
        try dsimp only [z1, z2, z3, z4, z5, z6, z7, z8]
        have ag : ∀ q ∈ bs, q ≠ ab → (Value.slice pu.1 css.length pu.2).ownBlock ≠ some q → ∀ o, hp q = some o → hp3 q = some o := fun q hq hqa hqu o ho => hle1 q o (hle q o (by show updH _ ab _ q = _; rw [updH_ne hqa]; exact (if_neg hqu).trans ho))
        have hA2 := hall hp3 (fun q hq hqu o ho => ag q (c5 q hq) (fun e => c4 (e ▸ hq)) hqu o ho)
        obtain ⟨_, pf⟩ := AllC.ins (cs := [.int .i64 t, .int .i64 a2.kah, str a2.kai, .slice p3.1 a2.kaj.length p3.2, .slice p4.1 a2.kag.length p4.2, .slice p5.1 a2.kaf.length p5.2]) hA2 h_l' rfl (.mk rfl rfl rfl (hvp.1.mono hle2) (hvp.2.1.mono hle2) ((hvp.2.2.mono hle2)).frs ((hvp.2.2.mono hle2)).el)
        have fin := c8 hp3 _ l' (fun q hq hqa hqs o ho => ag q hq hqa (fun e => hqs (hob q e)) o ho) (hle1 _ _ (hle _ _ updH_self)) (at_frn (hf.mono hle1) pf)
        unfold Jd6 at HE
        obtain ⟨c15, h_c15, HE1⟩ := Je HE
        refine Jc ?_
        refine Jc ?_
        refine Ja ?_
        refine Q1 (i := 0) (vs := [.bool a0.Big, .slice p.1 a0.kal.length p.2]) Try.isAgg33 Try.sizeOf33 rfl rfl rfl rfl rfl ?_
        refine Qg (fun w hF hS => k24 (a0 := ⟨a0.Big, putF ks a0.kal l'⟩) (Jm w) (fin.mono (Y0 (i := 3) hS rfl Xb)) h_c15) Try.call24 rfl rfl rfl ?_
        refine Ju rfl rfl rfl (Jy (v := .int .i64 c15) rfl) ?_
        refine Jd ?_
        try dsimp only [z1, z2, z3, z4, z5, z6, z7, z8]
        refine Jc ?_
        refine Ja ?_
        refine Ju rfl rfl rfl (Qi (v := .int .i64 c15) rfl) ?_
        refine Ju rfl rfl rfl (Yn rfl rfl) ?_
        refine Jd ?_
        try dsimp only [z1, z2, z3, z4, z5, z6, z7, z8]
        refine Jcx (b := (decide (c15 ≠ 0))) rfl (fun hb => ?_) (fun hb => ?_)
        ·have HE2 := Jbm hb HE1
         refine Jc ?_
         refine Ja ?_
         refine Ju rfl rfl rfl (Xm (pl := #[(0, 1), (1, 1)]) (ps := []) (cells := #[.bool false, z0s]) Try.zeroValue33 Try.runUnderlying33 (fun w => by kernel_rfl) rfl rfl) ?_
         refine Ju rfl rfl rfl (Qi (v := .int .i64 c15) rfl) ?_
         refine Yq (i := 2) (vs := [.bool false, z0s]) (cs' := [.bool false, z0s]) Try.sizeOf33 rfl rfl rfl rfl rfl rfl rfl rfl rfl ?_
         refine Ju rfl rfl rfl (Jy (v := .int .i64 c15) rfl) ?_
         refine Jd ?_
         try dsimp only [z1, z2, z3, z4, z5, z6, z7, z8]
         refine Jr ?_
         refine err ?_ (Option.some.inj HE2).symm ?_ ?_ <;> rfl
        ·have HE2 := Jbr hb HE1
         obtain rfl := Option.some.inj HE2
         refine Jp ?_
         refine Jc ?_
         refine Ja ?_
         refine Q1 (i := 0) (vs := [.bool a0.Big, .slice p.1 a0.kal.length p.2]) Try.isAgg33 Try.sizeOf33 rfl rfl rfl rfl rfl ?_
         refine Yq (i := 2) (vs := [.bool a0.Big, .slice p.1 a0.kal.length p.2]) (cs' := [.bool a0.Big, .slice p.1 a0.kal.length p.2]) Try.sizeOf33 rfl rfl rfl rfl rfl rfl rfl rfl rfl ?_
         refine Ju rfl rfl rfl (Jy (v := .int .i64 0) rfl) ?_
         refine Jd ?_
         try dsimp only [z1, z2, z3, z4, z5, z6, z7, z8]
         refine Jr ?_
         refine Xl 3 rfl (Jiw (Φ := filP (.slice p.1 (putF ks a0.kal l').length p.2) (putF ks a0.kal l')) (by rw [Jgn]; exact fin)) ?_
         try dsimp only [z1, z2, z3, z4, z5, z6, z7, z8]
         exact retCt (i := 2) (vs := [.bool a0.Big, .slice p.1 a0.kal.length p.2]) (v2 := .int .i64 0) Try.isAgg33 Try.sizeOf33 rfl rfl rfl rfl rfl (Y9 p (i := 3) rfl (by rw [Jgn]) (Imp.refl _))
       ) (by kernel_rfl)
     ) (by kernel_rfl)
    ) (by kernel_rfl)
end Go.Proofs.Ythljoadplekgnaa
