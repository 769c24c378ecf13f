/- FaceChanges, Sort: the walks, printed by our generator; each follows its model. Conditions: the model yields a value. -/
import Derived.Test.YthhaabhnlndnoaaGreatKDa
namespace Go.Proofs.YthhaabhnlndnoaaGreat
open Go Go.Vc Go.Md Go.M Go.Lx
set_option maxRecDepth 100000
set_option maxHeartbeats 4000000
set_option linter.unusedVariables false
theorem k99 {a0 : (List T_face_Likeness)} {v0 : Value} {a1 : (T_face_Likeness → Option (Bool))} {v1 : Value} {r : Int} {w : World} {h : Qg} (hw : Know h w Yl) (f0 : FrS h 14 v0 (a0.map Jq)) (f1 : FnH Tryz.prog h v1 (Vl a1)) (H : Yy a0 a1 = some r) : Does Tryz.prog 99 (List.toArray [v0, v1]) w (fun v w' => v = (i6 r) ∧ Grow w w') := by
 refine enter (n := 19) Tryz.func99 rfl rfl rfl Yl [] (Sat.nil _ _)<|Jc<|Ja<|ag (i6 0)<|Jd<|Jc<|Jc<|Ja<|mv v0<|Jf rfl rfl rfl (Y0 Tryz.underlying22 rfl f0 rfl)<|mv (i6 0)<|Jd<|Ju<|?_
 refine X6 (σ := Int) (τ := Unit) (fun next1 s => Vm a0 a1 next1 s) (fun s t => [(0, v0), (1, v1), (7, i6 (a0.length : Int)), (8, i6 s)]) (fun s t => []) (fun s t => True) 0 () [] H (by exact trivial) (by exact ⟨rfl, rfl, rfl, rfl, trivial⟩) (by decide) rfl ?_
 rintro x8_2 _ m1 gg H9 _
 clear H
 try dsimp only at H9
 generalize hn1 : it (fun next1 s => Vm a0 a1 next1 s) m1 = next1 at H9
 try dsimp only
 refine Jc<|Ja<|Jf rfl rfl rfl (Q0 rfl rfl)<|Jd<|Jc<|?_
 refine Qm (b := (decide (x8_2 < (a0.length : Int)))) rfl (fun hb => ?_) (fun hb => ?_)
 ·have H10 := Jw hb H9; clear H9
  refine Jv<|Jc<|Ju<|Jc<|Ja<|mv (i6 x8_2)<|ag (i6 x8_2)<|Jd<|Jc<|Ja<|mv v1<|mv v0<|mv (i6 x8_2)<|?_
  obtain ⟨t14, h_t14, H11⟩ := Je H10; clear H10
  refine Jf rfl rfl rfl (Qe Tryz.underlying22 Tryz.sizeOf52 rfl rfl f0 h_t14)<|J9 (fun w hF hS => Qj (f := Jq) (i := x8_2) (sz := 14) (j := 0) (vs := [i6 t14.Id, i6 t14.Photo, i6 (t14.Vec 0), i6 (t14.Vec 1), i6 (t14.Vec 2), i6 (t14.Vec 3), i6 (t14.Vec 4), i6 (t14.Vec 5), i6 (t14.Vec 6), i6 (t14.Vec 7), i6 (t14.Vec 8), i6 (t14.Vec 9), i6 (t14.Vec 10), i6 (t14.Vec 11)]) Tryz.isAgg52 Tryz.sizeOf52 rfl rfl (f0.row (hw.now hF)) h_t14 rfl) rfl rfl rfl<|?_
  obtain ⟨t16, h_t16, H12⟩ := Je H11; clear H11
  refine l_callV (R := Vl a1) (r := .bool t16) (v := v1) (fun w hF hS => ⟨(f1.mono (hw.now hF)), ⟨t14, _, rfl, h_t16, rfl⟩⟩) rfl rfl rfl rfl<|Jd<|?_
  refine Qm (b := t16) rfl (fun hb => ?_) (fun hb => ?_)
  ·have H13 := Jw hb H12; clear H12
   refine Jc<|Ja<|mv (i6 x8_2)<|ag (i6 x8_2)<|Jd<|Jy<|?_
   obtain rfl := Option.some.inj H13
   refine Qw (v := i6 x8_2) rfl rfl (Yz rfl)
  ·have H14 := Jx hb H12; clear H12
   refine Jv<|Ja<|?_
   obtain ⟨t18, h_t18, H15⟩ := Je H14; clear H14
   refine Jf rfl rfl rfl (Qp rfl rfl h_t18)<|mv (i6 t18)<|Jd<|?_
   refine Js t18 () m1 [] (by exact ⟨rfl, rfl, rfl, rfl, trivial⟩) (by decide) rfl (by exact ⟨(by subst hn1; exact H15), trivial⟩) (Nat.lt_succ_self _)
 ·have H16 := Jx hb H9; clear H9
  refine Q3<|Jc<|Ja<|ag (i6 (-1))<|Jd<|Jy<|?_
  obtain rfl := Option.some.inj H16
  refine Qw (v := i6 (-1)) rfl rfl (Yz rfl)
theorem k72 {a0 : (List T_face_Likeness)} {p0 : Option Addr × Nat} {n0 : Nat} {a1 : (T_face_Likeness → Option (Bool))} {v1 : Value} {r : (List T_face_Likeness)} {w : World} {h : Qg} {S : Nat → Prop} (hcs : (J5 52 14 (sl p0 n0) n0 (a0.map Jq)).P S w) (hlt : ∀ b, S b → b < w.heap.size) (hw : Know h w S) (hn0 : n0 = a0.length) (f1 : FnH Tryz.prog h v1 (Vl a1)) (H : Zo a0 a1 = some r) : Does Tryz.prog 72 (List.toArray [sl p0 n0, v1]) w (fun v w' => ∃ x : (Option Addr × Nat), v = (sl x r.length) ∧ Turn w w' S (J5 52 14 (sl x r.length) r.length (r.map Jq))) := by
 refine enter (n := 42) Tryz.func72 rfl rfl rfl S [J5 52 14 (sl p0 n0) n0 (a0.map Jq)] (Sat.one hcs hlt)<|Jc<|Ja<|ag (.slice none 0 0)<|Jd<|Jc<|Ja<|mv (sl p0 n0)<|mv v1<|?_
 obtain ⟨t10, h_t10, H20⟩ := Je H; clear H
 refine Qf (fun w hF hS => k99 (Jp w) (frs_own (i := 0) hn0 hS rfl) (f1.mono (hw.now hF)) h_t10) Tryz.call99 rfl rfl rfl<|ag (i6 t10)<|Jd<|Jc<|Jc<|Ja<|mv (i6 t10)<|Jf rfl rfl rfl (Uv rfl rfl)<|Jd<|?_
 refine Qm (b := (decide (t10 = (-1)))) rfl (fun hb => ?_) (fun hb => ?_)
 ·have H21 := Jw hb H20; clear H20
  refine Jc<|Ja<|mv (sl p0 n0)<|ag (sl p0 n0)<|Jd<|Jy<|?_
  obtain rfl := Option.some.inj H21
  refine Qw (v := sl p0 n0) rfl rfl (Zb p0 (i := 0) rfl (by first | rfl | rw [(show n0 = a0.length from hn0)]) (by first | exact Imp.refl _ | exact Imp.of (by rw [(show n0 = a0.length from hn0)])))
 ·have H22 := Jx hb H20; clear H20
  refine Jv ?_
  refine Xf (r := r) (σ := Int × (List T_face_Likeness)) (τ := Unit) (fun s => Vd s.1 s.2) (fun s t => [(0, sl p0 n0), (5, i6 s.1)]) (fun s t => [J5 52 14 (sl p0 n0) n0 (s.2.map Jq)]) (fun s t => n0 = s.2.length) ?_ ?_
  ·refine Jc<|Ja<|mv (i6 t10)<|?_
   obtain ⟨t15, h_t15, H26⟩ := Je H22; clear H22
   refine Jf rfl rfl rfl (Qp rfl rfl h_t15)<|ag (i6 t15)<|Jd<|Ju<|?_
   refine X6 (σ := Int × Int × (List T_face_Likeness)) (τ := Unit) (fun next2 s => Yg a1 next2 s.1 s.2.1 s.2.2) (fun s t => [(0, sl p0 n0), (1, v1), (5, i6 s.1), (6, i6 s.2.1)]) (fun s t => [J5 52 14 (sl p0 n0) n0 (s.2.2.map Jq)]) (fun s t => n0 = s.2.2.length) (t10, t15, a0) () [0] H26 (by exact hn0) (by exact ⟨rfl, rfl, rfl, rfl, trivial⟩) (by decide) rfl ?_
   rintro ⟨x5_3, x6_2, l_3⟩ _ m2 gg H27 hl_3
   clear H26
   try dsimp only at H27
   generalize hn2 : it (fun next2 s => Yg a1 next2 s.1 s.2.1 s.2.2) m2 = next2 at H27
   try dsimp only
   refine Jc<|Jc<|Ja<|mv (i6 x6_2)<|mv (sl p0 n0)<|Jf rfl rfl rfl (r_lenN Tryz.underlying22 rfl hl_3)<|Jf rfl rfl rfl (Q0 rfl rfl)<|Jd<|?_
   refine Qm (b := (decide (x6_2 < (l_3.length : Int)))) rfl (fun hb => ?_) (fun hb => ?_)
   ·have H28 := Jw hb H27; clear H27
    refine Jv ?_
    refine Xf (r := r) (σ := Int × (List T_face_Likeness)) (τ := Unit) (fun s => Y9 x6_2 next2 s.1 s.2) (fun s t => [(0, sl p0 n0), (1, v1), (5, i6 s.1), (6, i6 x6_2)]) (fun s t => [J5 52 14 (sl p0 n0) n0 (s.2.map Jq)]) (fun s t => n0 = s.2.length) ?_ ?_
    ·refine Ju<|Jc<|Ja<|mv (sl p0 n0)<|mv (i6 x6_2)<|?_
     obtain ⟨t24, h_t24, H31⟩ := Je H28; clear H28
     refine J9 (fun w hF hS => J3 Tryz.underlying22 Tryz.sizeOf52 rfl rfl (Qy (i := 0) hS rfl) hl_3 h_t24) rfl rfl rfl<|J9 (fun w hF hS => Qj (f := Jq) (i := x6_2) (sz := 14) (j := 0) (vs := [i6 t24.Id, i6 t24.Photo, i6 (t24.Vec 0), i6 (t24.Vec 1), i6 (t24.Vec 2), i6 (t24.Vec 3), i6 (t24.Vec 4), i6 (t24.Vec 5), i6 (t24.Vec 6), i6 (t24.Vec 7), i6 (t24.Vec 8), i6 (t24.Vec 9), i6 (t24.Vec 10), i6 (t24.Vec 11)]) Tryz.isAgg52 Tryz.sizeOf52 rfl rfl (Qy (i := 0) hS rfl) h_t24 rfl) rfl rfl rfl<|?_
     refine Wh (cs := [i6 0, i6 0, i6 0, i6 0, i6 0, i6 0, i6 0, i6 0, i6 0, i6 0, i6 0, i6 0, i6 0, i6 0]) Tryz.zeroValue52 rfl rfl rfl (fun b1 => ?_)
     refine Y8 (i := 1) (vs := [i6 t24.Id, i6 t24.Photo, i6 (t24.Vec 0), i6 (t24.Vec 1), i6 (t24.Vec 2), i6 (t24.Vec 3), i6 (t24.Vec 4), i6 (t24.Vec 5), i6 (t24.Vec 6), i6 (t24.Vec 7), i6 (t24.Vec 8), i6 (t24.Vec 9), i6 (t24.Vec 10), i6 (t24.Vec 11)]) (cs' := [i6 t24.Id, i6 t24.Photo, i6 (t24.Vec 0), i6 (t24.Vec 1), i6 (t24.Vec 2), i6 (t24.Vec 3), i6 (t24.Vec 4), i6 (t24.Vec 5), i6 (t24.Vec 6), i6 (t24.Vec 7), i6 (t24.Vec 8), i6 (t24.Vec 9), i6 (t24.Vec 10), i6 (t24.Vec 11)]) Tryz.sizeOf52 rfl rfl rfl rfl rfl rfl rfl rfl rfl<|Jd<|Jc<|Ja<|mv v1<|Uz (i := 1) (vs := [i6 t24.Id, i6 t24.Photo, i6 (t24.Vec 0), i6 (t24.Vec 1), i6 (t24.Vec 2), i6 (t24.Vec 3), i6 (t24.Vec 4), i6 (t24.Vec 5), i6 (t24.Vec 6), i6 (t24.Vec 7), i6 (t24.Vec 8), i6 (t24.Vec 9), i6 (t24.Vec 10), i6 (t24.Vec 11)]) Tryz.isAgg52 Tryz.sizeOf52 rfl rfl rfl rfl rfl<|?_
     obtain ⟨t28, h_t28, H32⟩ := Je H31; clear H31
     refine l_callV (R := Vl a1) (r := .bool t28) (v := v1) (fun w hF hS => ⟨(f1.mono (hw.now hF)), ⟨t24, _, rfl, h_t28, rfl⟩⟩) rfl rfl rfl rfl<|Jf rfl rfl rfl (Ub rfl)<|Jd<|?_
     refine Qm (b := (!t28)) rfl (fun hb => ?_) (fun hb => ?_)
     ·have H33 := Jw hb H32; clear H32
      refine Jc<|Ja<|mv (sl p0 n0)<|mv (i6 x5_3)<|Uz (i := 1) (vs := [i6 t24.Id, i6 t24.Photo, i6 (t24.Vec 0), i6 (t24.Vec 1), i6 (t24.Vec 2), i6 (t24.Vec 3), i6 (t24.Vec 4), i6 (t24.Vec 5), i6 (t24.Vec 6), i6 (t24.Vec 7), i6 (t24.Vec 8), i6 (t24.Vec 9), i6 (t24.Vec 10), i6 (t24.Vec 11)]) Tryz.isAgg52 Tryz.sizeOf52 rfl rfl rfl rfl rfl<|?_
      obtain ⟨t33, h_t33, H34⟩ := Je H33; clear H33
      refine J9 (fun w hF hS => J3 Tryz.underlying22 Tryz.sizeOf52 rfl rfl (Qy (i := 0) hS rfl) hl_3 h_t33) rfl rfl rfl ?_
      obtain ⟨l0, h_l0, H35⟩ := Je H34; clear H34
      refine l_storeG (q := 0) (j := 0) (i := x5_3) (sz := 14) (hm := hl_3) (f := Jq) (vs := [i6 t24.Id, i6 t24.Photo, i6 (t24.Vec 0), i6 (t24.Vec 1), i6 (t24.Vec 2), i6 (t24.Vec 3), i6 (t24.Vec 4), i6 (t24.Vec 5), i6 (t24.Vec 6), i6 (t24.Vec 7), i6 (t24.Vec 8), i6 (t24.Vec 9), i6 (t24.Vec 10), i6 (t24.Vec 11)]) Tryz.sizeOf52 rfl rfl rfl rfl rfl rfl rfl rfl rfl (fun y_ hy_ => by first | rfl | (cases hy_.symm.trans h_t33; rfl)) h_l0<|Jd<|Ja<|mv (i6 x5_3)<|?_
      obtain ⟨t35, h_t35, H36⟩ := Je H35; clear H35
      refine Jf rfl rfl rfl (Qp rfl rfl h_t35)<|ag (i6 t35)<|Jd<|?_
      refine Js (t35, l0) () 0 [0] (by exact ⟨rfl, rfl, rfl, rfl, trivial⟩) (by decide) rfl (by exact ⟨H36, (Jau hl_3 h_l0)⟩) (Nat.lt_succ_self _)
     ·have H37 := Jx hb H32; clear H32
      refine Jv ?_
      refine Js (x5_3, l_3) () 0 [0] (by exact ⟨rfl, rfl, rfl, rfl, trivial⟩) (by decide) rfl (by exact ⟨H37, hl_3⟩) (Nat.lt_succ_self _)
    ·rintro ⟨x5_4, l_4⟩ _ gg H29 hl_4
     try dsimp only at H29
     try dsimp only
     refine Ja<|mv (i6 x6_2)<|?_
     obtain ⟨t21, h_t21, H30⟩ := Je H29; clear H29
     refine Jf rfl rfl rfl (Qp rfl rfl h_t21)<|ag (i6 t21)<|Jd<|?_
     refine Js (x5_4, t21, l_4) () m2 [0] (by exact ⟨rfl, rfl, rfl, rfl, trivial⟩) (by decide) rfl (by exact ⟨(by subst hn2; exact H30), hl_4⟩) (Nat.lt_succ_self _)
   ·have H38 := Jx hb H27; clear H27
    refine Q3 ?_
    refine Js (x5_3, l_3) () 0 [0] (by exact ⟨rfl, rfl, trivial⟩) (by decide) rfl (by exact ⟨H38, hl_3⟩) (Nat.lt_succ_self _)
  ·rintro ⟨x5, l⟩ _ gg H23 hl
   try dsimp only at H23
   try dsimp only
   refine Jc<|Ja<|mv (sl p0 n0)<|mv (i6 x5)<|?_
   obtain ⟨t38, h_t38, H24⟩ := Je H23; clear H23
   refine J9 (v := .slice (Za p0.1 (Int.toNat x5) p0.2 14) t38.length (p0.2 - Int.toNat x5)) (fun w hF hS => Ja8 (xs := l) Tryz.underlying22 Tryz.sizeOf52 rfl rfl hl (capOf (i := 0) hS rfl) h_t38) rfl rfl rfl ?_
   refine Jb4 (turns_clearV (i := 0) (rds := []) (f := Jq) (z0 := (⟨0, 0, (fun _ => 0)⟩ : T_face_Likeness)) (ys := l) (a := x5) (q := l.length) hl Tryz.underlying22 Tryz.zeroValue52 rfl (fun _ => rfl) (fun _ => rfl) rfl h_t38 rfl) rfl rfl (fun _ => ?_)
   refine Jd<|Jc<|Ja<|mv (sl p0 n0)<|mv (i6 x5)<|?_
   obtain ⟨t41, h_t41, H25⟩ := Je H24; clear H24
   refine J9 (v := sl p0 t41.length) (fun w hF hS => Jbb (xs := (clrL l x5 l.length (⟨0, 0, (fun _ => 0)⟩ : T_face_Likeness))) Tryz.underlying22 Tryz.sizeOf52 rfl rfl (clrL_n hl h_t38) (capOf (i := 0) hS rfl) h_t41) rfl rfl rfl<|ag (sl p0 t41.length)<|Jd<|Jy<|Xc 0 rfl (imp_shrink (clrL_n hl h_t38) h_t41)<|?_
   obtain rfl := Option.some.inj H25
   refine Xc 0 rfl (imp_rowC _ _ _ _ _ _) ?_
   refine Qw (v := sl p0 t41.length) rfl rfl (Zb p0 (i := 0) rfl rfl (Imp.refl _))
theorem k73 {a0 : (List T_face_Likeness)} {v0 : Value} {r : (List T_face_Likeness)} {w : World} {h : Qg} (hw : Know h w Yl) (f0 : FrS h 14 v0 (a0.map Jq)) (H : W3 a0 = some r) : Does Tryz.prog 73 (List.toArray [v0]) w (fun v w' => ∃ x : (Option Addr × Nat), v = (sl x r.length) ∧ Turn w w' Yl (J5 52 14 (sl x r.length) r.length (r.map Jq))) := by
 refine enter (n := 8) Tryz.func73 rfl rfl rfl Yl [] (Sat.nil _ _)<|Jc<|Ja<|ag (.slice none 0 0)<|Jd<|Jc<|Jc<|Ja<|mv v0<|Jf rfl rfl rfl (r_eqlNilS Tryz.underlying22 f0 rfl rfl)<|Jd<|?_
 refine Qm (b := isNilV v0) rfl (fun hb => ?_) (fun hb => ?_)
 ·have hn_ : a0 = [] := f0.nilV hb
  have H3 : some ([] : List T_face_Likeness) = some r := by have h_ := H; rw [hn_] at h_; exact h_
  refine Jc<|Ja<|ag (.slice none 0 0)<|Jd<|Jy<|Q9 52 14<|?_
  obtain rfl := Option.some.inj H3
  refine Qw (v := sl nn ([] : List T_face_Likeness).length) rfl rfl (Zb nn (i := 0) rfl rfl (Imp.refl _))
 ·skip
  refine Jv<|Jc<|Ja<|?_
  refine Z0 (vs := []) (cs := []) Tryz.underlying22 Tryz.sizeOf52 Tryz.zeroValue52 rfl rfl rfl rfl rfl rfl rfl (fun b1 => ?_)
  refine mv v0<|Xc 0 rfl (imp_box (m := 0) (E := 52) (sz := 14) (xs := (([] : List T_face_Likeness)).map Jq) rfl rfl rfl ⟨rfl, by decide⟩)<|?_
  obtain ⟨l7, h_l7, H4⟩ := Je H; clear H
  refine Y7 (Ur (i := 0) (hn := rfl) (rds := []) (p := ((some ⟨b1, 0, none⟩, 0) : Option Addr × Nat)) (sz := 14) (by_ := 112) (f := Jq) (ys := ([] : List T_face_Likeness)) (ls := a0) (V := v0) Tryz.underlying22 (We Tryz.typeInfo52) rfl rfl rfl rfl rfl rfl rfl rfl f0.eq (List.length_map _) (fun w L' hF hS hi => (f0).row (hw.now hF)) (fun _ => rfl) (fun _ => rfl) h_l7) rfl rfl rfl (fun p => ?_)
  refine ag (sl p l7.length)<|Jd<|Jy<|?_
  obtain rfl := Option.some.inj H4
  refine Qw (v := sl p l7.length) rfl rfl (Zb p (i := 0) rfl rfl (Imp.refl _))
theorem k74 {q0 : (List T_face_Person)} {vq0 : Value} {c0 : Nat} {a0 : T_face_Likeness} {r : Bool} {w : World} {h : Qg} (hw : Know h w Yl) (fq0 : FrN h 4 vq0 g_face_Person q0) (hc0 : h c0 = some (.cells (List.toArray [vq0]) 23 (0, 0))) (H : face_free_1 q0 a0 = some r) : Does Tryz.prog 74 (List.toArray [.agg #[i6 a0.Id, i6 a0.Photo, i6 (a0.Vec 0), i6 (a0.Vec 1), i6 (a0.Vec 2), i6 (a0.Vec 3), i6 (a0.Vec 4), i6 (a0.Vec 5), i6 (a0.Vec 6), i6 (a0.Vec 7), i6 (a0.Vec 8), i6 (a0.Vec 9), i6 (a0.Vec 10), i6 (a0.Vec 11)], .pointer (some ⟨c0, 0, none⟩)]) w (fun v w' => v = (.bool r) ∧ Grow w w') := by
 refine enter (n := 9) Tryz.func74 rfl rfl rfl Yl [] (Sat.nil _ _)<|Jc<|Ja<|?_
 refine Wp (cs := [i6 a0.Id, i6 a0.Photo, i6 (a0.Vec 0), i6 (a0.Vec 1), i6 (a0.Vec 2), i6 (a0.Vec 3), i6 (a0.Vec 4), i6 (a0.Vec 5), i6 (a0.Vec 6), i6 (a0.Vec 7), i6 (a0.Vec 8), i6 (a0.Vec 9), i6 (a0.Vec 10), i6 (a0.Vec 11)]) rfl rfl rfl rfl (fun b1 => ?_)
 refine ag (.bool false)<|Jd<|Jc<|Ja<|J9 (fun w hF hS => Vg (v := vq0) Tryz.isAgg23 rfl (hw.now hF _ _ hc0) rfl) rfl rfl rfl<|Jf rfl rfl rfl (J7 Tryz.runUnderlying52 rfl Tryz.sizeOf3 rfl rfl)<|Qq (i := 0) (v := i6 a0.Id) Tryz.isAgg3 rfl rfl rfl rfl rfl<|?_
 obtain ⟨t7, h_t7, H2⟩ := Je H; clear H
 refine Qf (fun w hF hS => k34 (Jp w) (fq0.mono (hw.now hF)) h_t7) Tryz.call34 rfl rfl rfl<|Jf rfl rfl rfl (r_geq rfl rfl)<|ag (.bool (decide (0 ≤ t7)))<|Jd<|Jy<|?_
 obtain rfl := Option.some.inj H2
 refine Qw (v := .bool (decide (0 ≤ t7))) rfl rfl (Yz rfl)
theorem k26 {a0 : (List T_face_Likeness)} {v0 : Value} {a1 : (List T_face_Person)} {v1 : Value} {r : (List T_face_Likeness)} {w : World} {h : Qg} (hw : Know h w Yl) (f0 : FrS h 14 v0 (a0.map Jq)) (f1 : FrN h 4 v1 g_face_Person a1) (H : face_free a0 a1 = some r) : Does Tryz.prog 26 (List.toArray [v0, v1]) w (fun v w' => ∃ x : (Option Addr × Nat), v = (sl x r.length) ∧ Turn w w' Yl (J5 52 14 (sl x r.length) r.length (r.map Jq))) := by
 refine enter (n := 9) Tryz.func26 rfl rfl rfl Yl [] (Sat.nil _ _)<|Jc<|Ja<|?_
 refine Wp (cs := [v1]) rfl rfl rfl f1.cells (fun b1 => ?_)
 refine ag (.slice none 0 0)<|Jd<|Jc<|Ja<|mv v0<|?_
 obtain ⟨t6, h_t6, H3⟩ := Je H; clear H
 refine Yk (J8 (rds := []) (G := fun x : (Option Addr × Nat) => sl x t6.length) (C := fun x : (Option Addr × Nat) => J5 52 14 (sl x t6.length) t6.length (t6.map Jq)) (fun w L' hF hS hi => k73 (Jp w) (f0.mono (hw.now hF)) h_t6) Tryz.call73 rfl) rfl rfl rfl (fun p => ?_)
 refine Jf rfl rfl rfl (Jak (caps := #[.pointer (some ⟨b1, 0, none⟩)]) rfl) ?_
 obtain ⟨t8, h_t8, H4⟩ := Je H3; clear H3
 refine Y7 (Xj (i := 1) (rds := [0]) (G := fun x : (Option Addr × Nat) => sl x t8.length) (C := fun x : (Option Addr × Nat) => J5 52 14 (sl x t8.length) t8.length (t8.map Jq)) rfl (fun w L' S hF hS hi hp hlt ho hA => k72 hp hlt (Y4 w S) rfl (FnH.mk ⟨74, #[], #[.pointer (some ⟨b1, 0, none⟩)], rfl, Tryz.call74, fun args2 post2 w2 hk2 hR2 => by obtain ⟨a0_, r_, rfl, H_, rfl⟩ := hR2; exact k74 (Jp w2) ((f1.mono (hw.but hF ho)).mono hk2.up) (hk2.up _ _ (cell_but (j := 0) hA hS (by decide) ((hi 0 (by simp)).trans rfl))) H_⟩) h_t8) Tryz.call72 rfl) rfl rfl rfl (fun p_2 => ?_)
 refine ag (sl p_2 t8.length)<|Jd<|Jy<|?_
 obtain rfl := Option.some.inj H4
 refine Qw (v := sl p_2 t8.length) rfl rfl (Zb p_2 (i := 1) rfl rfl (Imp.refl _))
theorem k71 {a0 : (Nat → Int)} {a1 : (Nat → Int)} {r : Int} (H : Jan a0 a1 = some r) : Ret Tryz.prog 71 [.agg #[i6 (a0 0), i6 (a0 1), i6 (a0 2), i6 (a0 3), i6 (a0 4), i6 (a0 5), i6 (a0 6), i6 (a0 7), i6 (a0 8), i6 (a0 9), i6 (a0 10), i6 (a0 11)], .agg #[i6 (a1 0), i6 (a1 1), i6 (a1 2), i6 (a1 3), i6 (a1 4), i6 (a1 5), i6 (a1 6), i6 (a1 7), i6 (a1 8), i6 (a1 9), i6 (a1 10), i6 (a1 11)]] (i6 r) := by
 refine Vr (n := 28) Tryz.func71 rfl rfl rfl (fun wd => ?_)
 refine Jc<|Ja<|?_
 refine Wp (cs := [i6 (a0 0), i6 (a0 1), i6 (a0 2), i6 (a0 3), i6 (a0 4), i6 (a0 5), i6 (a0 6), i6 (a0 7), i6 (a0 8), i6 (a0 9), i6 (a0 10), i6 (a0 11)]) rfl rfl rfl rfl (fun b2 => ?_)
 refine Wp (cs := [i6 (a1 0), i6 (a1 1), i6 (a1 2), i6 (a1 3), i6 (a1 4), i6 (a1 5), i6 (a1 6), i6 (a1 7), i6 (a1 8), i6 (a1 9), i6 (a1 10), i6 (a1 11)]) rfl rfl rfl rfl (fun b3 => ?_)
 refine ag (i6 0)<|Jd<|Jc<|Ja<|ag (i6 0)<|Jd<|Jc<|Jc<|Ja<|Uz (i := 0) (vs := [i6 (a0 0), i6 (a0 1), i6 (a0 2), i6 (a0 3), i6 (a0 4), i6 (a0 5), i6 (a0 6), i6 (a0 7), i6 (a0 8), i6 (a0 9), i6 (a0 10), i6 (a0 11)]) Tryz.isAgg47 Tryz.sizeOf47 rfl rfl rfl rfl rfl<|mv (i6 0)<|Jd<|Ju<|c_dr 0<|?_
 try dsimp only [z1, z2, z3, z4, z5, z6, z7, z8]
 refine X6 (σ := Int × Int) (τ := Unit) (fun next1 s => face_far_l1 a0 a1 next1 s.1 s.2) (fun s t => [(3, .pointer (some ⟨b3, 0, none⟩)), (5, i6 s.1), (8, .agg #[i6 (a0 0), i6 (a0 1), i6 (a0 2), i6 (a0 3), i6 (a0 4), i6 (a0 5), i6 (a0 6), i6 (a0 7), i6 (a0 8), i6 (a0 9), i6 (a0 10), i6 (a0 11)]), (9, i6 s.2)]) (fun s t => [Q1 b3 [i6 (a1 0), i6 (a1 1), i6 (a1 2), i6 (a1 3), i6 (a1 4), i6 (a1 5), i6 (a1 6), i6 (a1 7), i6 (a1 8), i6 (a1 9), i6 (a1 10), i6 (a1 11)] 47]) (fun s t => True) (0, 0) () [0] H (by exact trivial) (by exact ⟨rfl, rfl, rfl, rfl, trivial⟩) (by decide) rfl ?_
 rintro ⟨x5_2, x9_2⟩ _ m1 gg H12 _
 clear H
 try dsimp only at H12
 generalize hn1 : it (fun next1 s => face_far_l1 a0 a1 next1 s.1 s.2) m1 = next1 at H12
 try dsimp only
 refine Jc<|Ja<|Jf rfl rfl rfl (Q0 rfl rfl)<|Jd<|Jc<|?_
 refine Qm (b := (decide (x9_2 < 12))) rfl (fun hb => ?_) (fun hb => ?_)
 ·have H13 := Jw hb H12; clear H12
  refine Jv<|Jc<|Ju<|Jc<|Ja<|mv (i6 x9_2)<|?_
  obtain ⟨k12, h_k12, H14⟩ := Je H13; clear H13
  refine Jf rfl rfl rfl (r_indexAG (f := fun j_ => i6 (a0 j_)) Tryz.runUnderlying47 Tryz.isAgg3 Tryz.sizeOf3 rfl rfl rfl h_k12)<|ag (i6 x9_2)<|ag (i6 (a0 k12))<|Jd<|?_
  exact Qz (Kd.p :: Kd.p :: Kd.p :: Kd.p :: Kd.d [0] _ :: Kd.p :: Kd.p :: Kd.p :: Kd.p :: Kd.d [0] _ :: Kd.p :: Kd.p :: Kd.p :: Kd.p :: []) 0 mixed (by
   refine dm (i6 x5_2)<|dm (i6 (a0 k12))<|dm (i6 x9_2)<|?_
   have h_k16 := Jr H14
   have H15 := Jn H14
   refine Qa rfl rfl (r_indexPG Tryz.runUnderlying47 Tryz.sizeOf3 rfl rfl h_k16)<|Z5 (i := 0) (v := i6 (a1 (val (gIx 12 x9_2)))) Tryz.isAgg3 rfl rfl rfl (rg_arr (pre := []) (post := []) (f := fun j_ => [i6 (a1 j_)]) (n := 12) (sz := 1) (q := 0) rfl rfl (fun _ => rfl) (gIx_lt h_k16) rfl)<|?_
   have h_t18 := Jr H15
   have H16 := Jn H15
   refine Qa rfl rfl (Zl rfl rfl h_t18)<|dm (i6 (a0 k12))<|dm (i6 x9_2)<|?_
   have h_k21 := Jr H16
   have H17 := Jn H16
   refine Qa rfl rfl (r_indexPG Tryz.runUnderlying47 Tryz.sizeOf3 rfl rfl h_k21)<|Z5 (i := 0) (v := i6 (a1 (val (gIx 12 x9_2)))) Tryz.isAgg3 rfl rfl rfl (rg_arr (pre := []) (post := []) (f := fun j_ => [i6 (a1 j_)]) (n := 12) (sz := 1) (q := 0) rfl rfl (fun _ => rfl) (gIx_lt h_k21) rfl)<|?_
   have h_t23 := Jr H17
   have H18 := Jn H17
   refine Qa rfl rfl (Zl rfl rfl h_t23) ?_
   have h_t24 := Jr H18
   have H19 := Jn H18
   refine Qa rfl rfl (r_mulG rfl rfl h_t24) ?_
   have h_t25 := Jr H19
   have H20 := Jn H19
   refine Qa rfl rfl (Qp rfl rfl h_t25)<|Qa rfl rfl (Uj (v := i6 (val (gI (x5_2 + (val (gI ((val (gI ((a0 k12) - (a1 (val (gIx 12 x9_2)))))) * (val (gI ((a0 k12) - (a1 (val (gIx 12 x9_2))))))))))))) rfl)<|Y3<|Ja<|?_
   obtain ⟨t26, h_t26, H21⟩ := Je H20; clear H20
   refine Jf rfl rfl rfl (Qp rfl rfl h_t26)<|mv (i6 t26)<|Jd<|?_
   refine Js ((val (gI (x5_2 + (val (gI ((val (gI ((a0 k12) - (a1 (val (gIx 12 x9_2)))))) * (val (gI ((a0 k12) - (a1 (val (gIx 12 x9_2)))))))))))), t26) () m1 [0] (by exact ⟨rfl, rfl, rfl, rfl, trivial⟩) (by decide) rfl (by exact ⟨(by subst hn1; exact H21), trivial⟩) (Nat.lt_succ_self _)
   ) (by kernel_rfl)
 ·have H22 := Jx hb H12; clear H12
  refine Q3<|Jc<|Ja<|mv (i6 x5_2)<|ag (i6 x5_2)<|Jd<|Jy<|?_
  obtain rfl := Option.some.inj H22
  refine Qw (v := i6 x5_2) rfl rfl (Yz rfl)
theorem k75 {a0 : (List T_face_Likeness)} {v0 : Value} {a1 : T_face_Person} {v1_2 : Value} {v1_3 : Value} {a2 : Int} {r : Int} {w : World} {h : Qg} (hw : Know h w Yl) (f0 : FrS h 14 v0 (a0.map Jq)) (f1_2 : FrS h 1 v1_2 (a1.Likes.map Jl)) (f1_3 : FrS h 1 v1_3 (a1.Nots.map Jl)) (H : Z1 a0 a1 a2 = some r) : Does Tryz.prog 75 (List.toArray [v0, .agg #[i6 a1.Id, Xt a1.Name, v1_2, v1_3], i6 a2]) w (fun v w' => v = (i6 r) ∧ Grow w w') := by
 refine enter (n := 78) Tryz.func75 rfl rfl rfl Yl [] (Sat.nil _ _)<|Jc<|Ja<|?_
 refine Wp (cs := [i6 a1.Id, Xt a1.Name, v1_2, v1_3]) rfl rfl rfl rfl (fun b2 => ?_)
 refine ag (i6 0)<|Jd<|Jc<|Ja<|mv v0<|mv (i6 a2)<|?_
 obtain ⟨t20, h_t20, H28⟩ := Je H; clear H
 refine Qf (fun w hF hS => k102 (Jp w) (f0.mono (hw.now hF)) h_t20) Tryz.call102 rfl rfl rfl<|mv (.tuple #[i6 t20.1, .bool t20.2])<|Jf rfl rfl rfl (Qs (v := i6 t20.1) rfl rfl)<|Jf rfl rfl rfl (Qs (v := .bool t20.2) rfl rfl)<|ag (i6 t20.1)<|ag (.bool t20.2)<|Jd<|Jc<|Ja<|ag (.slice none 0 0)<|Jd<|?_
 refine Xf (r := r) (σ := (List Int)) (τ := (Option Addr × Nat)) (fun s => Ww s) (fun s t => [(9, sl t s.length)]) (fun s t => [J5 3 1 (sl t s.length) s.length (s.map Jl)]) (fun s t => True) ?_ ?_
 ·refine Jc<|Ja<|Jf rfl rfl rfl (J7 Tryz.runUnderlying32 rfl Tryz.sizeOf24 rfl rfl)<|Qq (i := 0) (v := v1_2) Tryz.isAgg24 rfl rfl rfl rfl rfl<|Jf rfl rfl rfl (Y0 Tryz.underlying24 rfl f1_2 rfl)<|mv (i6 0)<|Jd<|Ju<|c_dr 0<|?_
  try dsimp only [z1, z2, z3, z4, z5, z6, z7, z8]
  refine Q9 3 1 ?_
  refine X6 (σ := Int × (List Int)) (τ := (Option Addr × Nat)) (fun next4 s => Jap a0 a1 a2 t20 next4 s.1 s.2) (fun s t => [(0, v0), (2, i6 a2), (7, i6 t20.1), (9, sl t s.2.length), (24, v1_2), (25, i6 (a1.Likes.length : Int)), (26, i6 s.1)]) (fun s t => [J5 3 1 (sl t s.2.length) s.2.length (s.2.map Jl)]) (fun s t => True) (0, ([] : List Int)) nn [0] H28 (by exact trivial) (by exact ⟨rfl, rfl, rfl, rfl, rfl, rfl, rfl, trivial⟩) (by decide) rfl ?_
  rintro ⟨x26_2, l_3⟩ p_2 m4 gg H42 _
  clear H28
  try dsimp only at H42
  generalize hn4 : it (fun next4 s => Jap a0 a1 a2 t20 next4 s.1 s.2) m4 = next4 at H42
  try dsimp only
  refine Jc<|Ja<|Jf rfl rfl rfl (Q0 rfl rfl)<|Jd<|Jc<|?_
  refine Qm (b := (decide (x26_2 < (a1.Likes.length : Int)))) rfl (fun hb => ?_) (fun hb => ?_)
  ·have H43 := Jw hb H42; clear H42
   refine Jv ?_
   refine Xf (r := r) (σ := (List Int)) (τ := (Option Addr × Nat)) (fun s => Jb2 x26_2 next4 s) (fun s t => [(0, v0), (2, i6 a2), (7, i6 t20.1), (9, sl t s.length), (24, v1_2), (25, i6 (a1.Likes.length : Int)), (26, i6 x26_2)]) (fun s t => [J5 3 1 (sl t s.length) s.length (s.map Jl)]) (fun s t => True) ?_ ?_
   ·refine Ju<|Jc<|Ja<|?_
    obtain ⟨t28, h_t28, H46⟩ := Je H43; clear H43
    refine Jf rfl rfl rfl (Qe Tryz.underlying24 Tryz.sizeOf3 rfl rfl f1_2 h_t28)<|J9 (fun w hF hS => J2 (f := Jl) (i := x26_2) (sz := 1) (j := 0) (v := i6 t28) Tryz.isAgg3 rfl rfl (f1_2.row (hw.now hF)) h_t28 rfl) rfl rfl rfl<|ag (i6 t28)<|Jd<|Jc<|Ja<|mv (i6 t28)<|mv (i6 a2)<|Jf rfl rfl rfl (r_neq rfl rfl)<|Jd<|?_
    refine Qm (b := (decide (t28 ≠ a2))) rfl (fun hb => ?_) (fun hb => ?_)
    ·have H47 := Jw hb H46; clear H46
     refine Jc<|Ja<|mv v0<|mv (i6 t28)<|?_
     obtain ⟨t36, h_t36, H48⟩ := Je H47; clear H47
     refine Qf (fun w hF hS => k102 (Jp w) (f0.mono (hw.now hF)) h_t36) Tryz.call102 rfl rfl rfl<|mv (.tuple #[i6 t36.1, .bool t36.2])<|Jf rfl rfl rfl (Qs (v := i6 t36.1) rfl rfl)<|Jf rfl rfl rfl (Qs (v := .bool t36.2) rfl rfl)<|ag (i6 t36.1)<|ag (.bool t36.2)<|Jd<|?_
     exact Qz (Kd.p :: Kd.p :: Kd.p :: Kd.p :: Kd.p :: Kd.d [] _ :: Kd.p :: Kd.p :: Kd.p :: Kd.p :: Kd.d [] _ :: Kd.d [] _ :: Kd.ns 1 [_] 3 1 :: Kd.t 0 [1] _ _ :: Kd.p :: []) 1 mixed (by
      refine dm (sl p_2 l_3.length)<|dm v0<|dm (i6 t20.1)<|?_
      have h_t42 := Jr H48
      have H49 := Jn H48
      refine Qa rfl rfl (Qe Tryz.underlying22 Tryz.sizeOf52 rfl rfl f0 h_t42)<|Qa rfl rfl (Xv Tryz.runUnderlying52 rfl Tryz.sizeOf47 rfl rfl (Ym f0 h_t42))<|Wb (fun w hF => Qj (f := Jq) (i := t20.1) (sz := 14) (j := 2) (vs := [i6 ((val (Jk a0 t20.1)).Vec 0), i6 ((val (Jk a0 t20.1)).Vec 1), i6 ((val (Jk a0 t20.1)).Vec 2), i6 ((val (Jk a0 t20.1)).Vec 3), i6 ((val (Jk a0 t20.1)).Vec 4), i6 ((val (Jk a0 t20.1)).Vec 5), i6 ((val (Jk a0 t20.1)).Vec 6), i6 ((val (Jk a0 t20.1)).Vec 7), i6 ((val (Jk a0 t20.1)).Vec 8), i6 ((val (Jk a0 t20.1)).Vec 9), i6 ((val (Jk a0 t20.1)).Vec 10), i6 ((val (Jk a0 t20.1)).Vec 11)]) Tryz.isAgg47 Tryz.sizeOf47 rfl rfl (f0.row (hw.now hF)) h_t42 rfl) rfl rfl<|dm v0<|dm (i6 t36.1)<|?_
      have h_t47 := Jr H49
      have H50 := Jn H49
      refine Qa rfl rfl (Qe Tryz.underlying22 Tryz.sizeOf52 rfl rfl f0 h_t47)<|Qa rfl rfl (Xv Tryz.runUnderlying52 rfl Tryz.sizeOf47 rfl rfl (Ym f0 h_t47))<|Wb (fun w hF => Qj (f := Jq) (i := t36.1) (sz := 14) (j := 2) (vs := [i6 ((val (Jk a0 t36.1)).Vec 0), i6 ((val (Jk a0 t36.1)).Vec 1), i6 ((val (Jk a0 t36.1)).Vec 2), i6 ((val (Jk a0 t36.1)).Vec 3), i6 ((val (Jk a0 t36.1)).Vec 4), i6 ((val (Jk a0 t36.1)).Vec 5), i6 ((val (Jk a0 t36.1)).Vec 6), i6 ((val (Jk a0 t36.1)).Vec 7), i6 ((val (Jk a0 t36.1)).Vec 8), i6 ((val (Jk a0 t36.1)).Vec 9), i6 ((val (Jk a0 t36.1)).Vec 10), i6 ((val (Jk a0 t36.1)).Vec 11)]) Tryz.isAgg47 Tryz.sizeOf47 rfl rfl (f0.row (hw.now hF)) h_t47 rfl) rfl rfl<|?_
      have h_t50 := Jr H50
      have H51 := Jn H50
      refine d_call (k71 h_t50) Tryz.call71 rfl rfl ?_
      refine d_newS rfl rfl (Z7 (vs := [i6 (val (Jan (val (Jk a0 t20.1)).Vec (val (Jk a0 t36.1)).Vec))]) (cs := [i6 (val (Jan (val (Jk a0 t20.1)).Vec (val (Jk a0 t36.1)).Vec))]) Tryz.underlying24 Tryz.sizeOf3 Tryz.zeroValue3 rfl rfl rfl rfl rfl) rfl (fun b3 => ?_)
      have h_l52 := Jr H51
      have H52 := Jn H51
      refine d_turn (Cv := fun v => J5 3 1 v (val (gApp 8 l_3 ([(val (Jan (val (Jk a0 t20.1)).Vec (val (Jk a0 t36.1)).Vec))] : List Int))).length ((val (gApp 8 l_3 ([(val (Jan (val (Jk a0 t20.1)).Vec (val (Jk a0 t36.1)).Vec))] : List Int))).map Jl)) (none, 0) (Ur (i := 0) (hn := rfl) (rds := [1]) (p := p_2) (sz := 1) (by_ := 8) (f := Jl) (ys := l_3) (ls := ([(val (Jan (val (Jk a0 t20.1)).Vec (val (Jk a0 t36.1)).Vec))] : List Int)) (V := .slice (some ⟨b3, 0, none⟩) 1 1) Tryz.underlying24 (We Tryz.typeInfo3) rfl rfl rfl rfl rfl rfl rfl rfl rfl rfl (fun w L' hF hS hi => row_box (i := 1) hS ((hi 1 (by simp)).trans rfl) rfl rfl) (fun _ => rfl) (fun _ => rfl) h_l52) (fun _ => rfl) rfl rfl (fun p_4 => ?_)
      refine Qa rfl rfl (Uj (v := .slice p_4.1 (val (gApp 8 l_3 ([(val (Jan (val (Jk a0 t20.1)).Vec (val (Jk a0 t36.1)).Vec))] : List Int))).length p_4.2) rfl)<|Y3<|?_
      refine Js (val (gApp 8 l_3 ([(val (Jan (val (Jk a0 t20.1)).Vec (val (Jk a0 t36.1)).Vec))] : List Int))) p_4 0 [0] (by exact ⟨rfl, rfl, rfl, rfl, rfl, rfl, rfl, trivial⟩) (by decide) rfl (by exact ⟨H52, trivial⟩) (Nat.lt_succ_self _)
      ) (by kernel_rfl)
    ·have H53 := Jx hb H46; clear H46
     refine Jv ?_
     refine Js l_3 p_2 0 [0] (by exact ⟨rfl, rfl, rfl, rfl, rfl, rfl, rfl, trivial⟩) (by decide) rfl (by exact ⟨H53, trivial⟩) (Nat.lt_succ_self _)
   ·rintro l_4 p_3 gg H44 _
    try dsimp only at H44
    try dsimp only
    refine Ja ?_
    obtain ⟨t53, h_t53, H45⟩ := Je H44; clear H44
    refine Jf rfl rfl rfl (Qp rfl rfl h_t53)<|mv (i6 t53)<|Jd<|?_
    refine Js (t53, l_4) p_3 m4 [0] (by exact ⟨rfl, rfl, rfl, rfl, rfl, rfl, rfl, trivial⟩) (by decide) rfl (by exact ⟨(by subst hn4; exact H45), trivial⟩) (Nat.lt_succ_self _)
  ·have H54 := Jx hb H42; clear H42
   refine Q3 ?_
   refine Js l_3 p_2 0 [0] (by exact ⟨rfl, trivial⟩) (by decide) rfl (by exact ⟨H54, trivial⟩) (Nat.lt_succ_self _)
 ·rintro l p gg H29 _
  try dsimp only at H29
  try dsimp only
  refine Jc<|Ja<|mv (sl p l.length)<|?_
  obtain ⟨t55, h_t55, H30⟩ := Je H29; clear H29
  refine Y7 (Xj (i := 0) (rds := []) (G := fun x : Unit => .tuple #[]) (C := fun x : Unit => J5 3 1 (sl p l.length) l.length (t55.map Jl)) rfl (fun w L' S hF hS hi hp hlt ho hA => k86 hp hlt (Y4 w S) rfl h_t55) Tryz.call86 rfl) rfl rfl rfl (fun _ => ?_)
  refine Zq (fun w hF hS => lenOf (i := 0) hS rfl) (fun hl_ => ?_)
  have hl : l.length = t55.length := by simpa using hl_.symm
  refine Jd<|Jc<|Ja<|mv (sl p l.length)<|mv (sl p l.length)<|Jf rfl rfl rfl (r_lenN Tryz.underlying24 rfl hl)<|Jf rfl rfl rfl (r_min rfl rfl)<|?_
  obtain ⟨t60, h_t60, H31⟩ := Je H30; clear H30
  refine J9 (v := sl p t60.length) (fun w hF hS => Jbb (xs := t55) Tryz.underlying24 Tryz.sizeOf3 rfl rfl hl (capOf (i := 0) hS rfl) h_t60) rfl rfl rfl<|ag (sl p t60.length)<|Jd<|Jc<|Jc<|Ja<|mv (sl p t60.length)<|Jf rfl rfl rfl (Jaw Tryz.underlying24 rfl)<|Jf rfl rfl rfl (Uv rfl rfl)<|Jd<|?_
  refine Qm (b := (decide ((t60.length : Int) = 0))) rfl (fun hb => ?_) (fun hb => ?_)
  ·have H32 := Jw hb H31; clear H31
   refine Jc<|Ja<|ag (i6 774192)<|Jd<|Jy<|?_
   obtain rfl := Option.some.inj H32
   refine Qw (v := i6 774192) rfl rfl (Yz rfl)
  ·have H33 := Jx hb H31; clear H31
   refine Jv<|Jc<|Ja<|ag (i6 0)<|Jd<|?_
   refine Xf (r := r) (σ := Int) (τ := Unit) (fun s => face_score_j2 t60 s) (fun s t => [(9, sl p t60.length), (14, i6 s)]) (fun s t => [J5 3 1 (sl p l.length) l.length (t55.map Jl)]) (fun s t => True) ?_ ?_
   ·refine Jc<|Ja<|mv (sl p t60.length)<|Jf rfl rfl rfl (Jaw Tryz.underlying24 rfl)<|mv (i6 0)<|Jd<|Ju<|?_
    refine X6 (σ := Int × Int) (τ := Unit) (fun next3 s => Jaq t60 next3 s.1 s.2) (fun s t => [(9, sl p t60.length), (14, i6 s.1), (64, sl p t60.length), (65, i6 (t60.length : Int)), (66, i6 s.2)]) (fun s t => [J5 3 1 (sl p l.length) l.length (t55.map Jl)]) (fun s t => True) (0, 0) () [0] H33 (by exact trivial) (by exact ⟨rfl, rfl, rfl, rfl, rfl, trivial⟩) (by decide) rfl ?_
    rintro ⟨x14_3, x66_2⟩ _ m3 gg H36 _
    clear H33
    try dsimp only at H36
    generalize hn3 : it (fun next3 s => Jaq t60 next3 s.1 s.2) m3 = next3 at H36
    try dsimp only
    refine Jc<|Ja<|Jf rfl rfl rfl (Q0 rfl rfl)<|Jd<|Jc<|?_
    refine Qm (b := (decide (x66_2 < (t60.length : Int)))) rfl (fun hb => ?_) (fun hb => ?_)
    ·have H37 := Jw hb H36; clear H36
     refine Jv<|Jc<|Ju<|Jc<|Ja<|?_
     obtain ⟨t68, h_t68, H38⟩ := Je H37; clear H37
     refine J9 (fun w hF hS => J3 Tryz.underlying24 Tryz.sizeOf3 rfl rfl (Row.cut0G (Qy (i := 0) hS rfl) hl (capOf (i := 0) hS rfl) h_t60) rfl h_t68) rfl rfl rfl<|J9 (fun w hF hS => J2 (f := Jl) (i := x66_2) (sz := 1) (j := 0) (v := i6 t68) Tryz.isAgg3 rfl rfl (Row.cut0G (Qy (i := 0) hS rfl) hl (capOf (i := 0) hS rfl) h_t60) h_t68 rfl) rfl rfl rfl<|ag (i6 t68)<|Jd<|Ja<|mv (i6 x14_3)<|mv (i6 t68)<|?_
     obtain ⟨t72, h_t72, H39⟩ := Je H38; clear H38
     refine Jf rfl rfl rfl (Qp rfl rfl h_t72)<|ag (i6 t72)<|Jd<|Ja<|?_
     obtain ⟨t73, h_t73, H40⟩ := Je H39; clear H39
     refine Jf rfl rfl rfl (Qp rfl rfl h_t73)<|mv (i6 t73)<|Jd<|?_
     refine Js (t72, t73) () m3 [0] (by exact ⟨rfl, rfl, rfl, rfl, rfl, trivial⟩) (by decide) rfl (by exact ⟨(by subst hn3; exact H40), trivial⟩) (Nat.lt_succ_self _)
    ·have H41 := Jx hb H36; clear H36
     refine Q3 ?_
     refine Js x14_3 () 0 [0] (by exact ⟨rfl, rfl, trivial⟩) (by decide) rfl (by exact ⟨H41, trivial⟩) (Nat.lt_succ_self _)
   ·rintro x14 _ gg H34 _
    try dsimp only at H34
    try dsimp only
    refine Jc<|Ja<|mv (i6 x14)<|mv (sl p t60.length)<|Jf rfl rfl rfl (Jaw Tryz.underlying24 rfl)<|?_
    obtain ⟨t77, h_t77, H35⟩ := Je H34; clear H34
    refine Jf rfl rfl rfl (r_quoG rfl rfl h_t77)<|ag (i6 t77)<|Jd<|Jy<|?_
    obtain rfl := Option.some.inj H35
    refine Qw (v := i6 t77) rfl rfl (Yz rfl)
theorem k76 {a0 : (List T_face_Match)} {p0 : Option Addr × Nat} {n0 : Nat} {r : (List T_face_Match)} {w : World} {h : Qg} {S : Nat → Prop} (hcs : (J5 56 2 (sl p0 n0) n0 (a0.map Jo)).P S w) (hlt : ∀ b, S b → b < w.heap.size) (_ : Know h w S) (hn0 : n0 = a0.length) (H : gSortF a0 Z8 = some r) : Does Tryz.prog 76 (List.toArray [sl p0 n0, .func (.func 77) #[] #[]]) w (fun v w' => ∃ x : Unit, v = (.tuple #[]) ∧ Turn w w' S (J5 56 2 (sl p0 n0) n0 (r.map Jo))) :=
  sort_func (ρ := Go.Proofs.Tryz.sortF52_ren) Go.Proofs.Tryz.sortF52 (k := 2) (fun w => Tryz.isAgg56 w) (fun w => Tryz.sizeOf56 w) Jo (fun _ => rfl) (fun x v hv => by simp [Jo] at hv; rcases hv with rfl | rfl <;> rfl) Go.Proofs.Tryz.enters53 (fun x y v W hv => Go.Proofs.Tryz.cmpM x y v W hv) hcs hlt hn0 H
theorem k27 {a0 : (List T_face_Likeness)} {v0 : Value} {a1 : (List T_face_Person)} {v1 : Value} {a2 : Int} {r : (List T_face_Match)} {w : World} {h : Qg} (hw : Know h w Yl) (f0 : FrS h 14 v0 (a0.map Jq)) (f1 : FrN h 4 v1 g_face_Person a1) (H : Jba a0 a1 a2 = some r) : Does Tryz.prog 27 (List.toArray [v0, v1, i6 a2]) w (fun v w' => ∃ x : (Option Addr × Nat), v = (sl x r.length) ∧ Turn w w' Yl (J5 56 2 (sl x r.length) r.length (r.map Jo))) := by
 refine enter (n := 48) Tryz.func27 rfl rfl rfl Yl [] (Sat.nil _ _)<|Jc<|Ja<|ag (.slice none 0 0)<|Jd<|Jc<|Ja<|ag (.slice none 0 0)<|Jd<|?_
 refine Xf (r := r) (σ := (List T_face_Match)) (τ := (Option Addr × Nat)) (fun s => Ud s) (fun s t => [(7, sl t s.length)]) (fun s t => [J5 56 2 (sl t s.length) s.length (s.map Jo)]) (fun s t => True) ?_ ?_
 ·refine Jc<|Ja<|mv v1<|Jf rfl rfl rfl (Uh Tryz.underlying23 rfl f1)<|mv (i6 0)<|Jd<|Ju<|Q9 56 2<|?_
  refine X6 (σ := Int × (List T_face_Match)) (τ := (Option Addr × Nat)) (fun next2 s => Va a0 a1 a2 next2 s.1 s.2) (fun s t => [(0, v0), (2, i6 a2), (7, sl t s.2.length), (10, v1), (11, i6 (a1.length : Int)), (12, i6 s.1)]) (fun s t => [J5 56 2 (sl t s.2.length) s.2.length (s.2.map Jo)]) (fun s t => True) (0, ([] : List T_face_Match)) nn [0] H (by exact trivial) (by exact ⟨rfl, rfl, rfl, rfl, rfl, rfl, trivial⟩) (by decide) rfl ?_
  rintro ⟨x12_2, l_3⟩ p_2 m2 gg H21 _
  clear H
  try dsimp only at H21
  generalize hn2 : it (fun next2 s => Va a0 a1 a2 next2 s.1 s.2) m2 = next2 at H21
  try dsimp only
  refine Jc<|Ja<|Jf rfl rfl rfl (Q0 rfl rfl)<|Jd<|Jc<|?_
  refine Qm (b := (decide (x12_2 < (a1.length : Int)))) rfl (fun hb => ?_) (fun hb => ?_)
  ·have H22 := Jw hb H21; clear H21
   refine Jv ?_
   refine Xf (r := r) (σ := (List T_face_Match)) (τ := (Option Addr × Nat)) (fun s => Wj x12_2 next2 s) (fun s t => [(0, v0), (2, i6 a2), (7, sl t s.length), (10, v1), (11, i6 (a1.length : Int)), (12, i6 x12_2)]) (fun s t => [J5 56 2 (sl t s.length) s.length (s.map Jo)]) (fun s t => True) ?_ ?_
   ·refine Ju<|Jc<|Ja<|?_
    obtain ⟨t14, h_t14, H25⟩ := Je H22; clear H22
    refine Jf rfl rfl rfl (Qe Tryz.underlying23 Tryz.sizeOf32 rfl rfl f1.frs (f1.ix h_t14))<|J9 (fun w hF hS => Qj (f := (elC h v1 4)) (i := x12_2) (sz := 4) (j := 0) (vs := [i6 t14.Id, Xt t14.Name, (Qu h v1 4 (Int.toNat x12_2) 2), (Qu h v1 4 (Int.toNat x12_2) 3)]) Tryz.isAgg32 Tryz.sizeOf32 rfl rfl (f1.frs.row (hw.now hF)) (f1.ix h_t14) (rd_of (J1 (f1.at h_t14)) rfl)) rfl rfl rfl<|?_
    refine Wh (cs := [i6 0, Xt [], .slice none 0 0, .slice none 0 0]) Tryz.zeroValue32 rfl rfl rfl (fun b2 => ?_)
    refine Y8 (i := 1) (vs := [i6 t14.Id, Xt t14.Name, (Qu h v1 4 (Int.toNat x12_2) 2), (Qu h v1 4 (Int.toNat x12_2) 3)]) (cs' := [i6 t14.Id, Xt t14.Name, (Qu h v1 4 (Int.toNat x12_2) 2), (Qu h v1 4 (Int.toNat x12_2) 3)]) Tryz.sizeOf32 rfl rfl rfl rfl rfl rfl (by simp only [List.all_cons, List.all_nil, (show FrS h 1 (Qu h v1 4 (Int.toNat x12_2) 2) (t14.Likes.map Jl) from (Jm (f1.at h_t14))).one, (show FrS h 1 (Qu h v1 4 (Int.toNat x12_2) 3) (t14.Nots.map Jl) from (Jt (f1.at h_t14))).one] <;> rfl) rfl rfl<|Jd<|Jc<|Ja<|Jf rfl rfl rfl (J7 Tryz.runUnderlying32 rfl Tryz.sizeOf24 rfl rfl)<|Qq (i := 1) (v := (Qu h v1 4 (Int.toNat x12_2) 2)) Tryz.isAgg24 rfl rfl rfl rfl rfl<|Jf rfl rfl rfl (Y0 Tryz.underlying24 rfl (show FrS h 1 (Qu h v1 4 (Int.toNat x12_2) 2) (t14.Likes.map Jl) from (Jm (f1.at h_t14))) rfl)<|Jf rfl rfl rfl (Jaz rfl rfl)<|mv (.bool (decide (0 < (t14.Likes.length : Int))))<|?_
    refine split (fun hb => ?_) (fun hb => ?_)
    ·have H26 := Jw hb H25; clear H25
     refine Jf rfl rfl rfl (J7 Tryz.runUnderlying32 rfl Tryz.sizeOf24 rfl rfl)<|Qq (i := 1) (v := (Qu h v1 4 (Int.toNat x12_2) 3)) Tryz.isAgg24 rfl rfl rfl rfl rfl<|mv (i6 a2)<|?_
     obtain ⟨t24, h_t24, H27⟩ := Je H26; clear H26
     refine Qf (fun w hF hS => k55 (Jp w) ((show FrS h 1 (Qu h v1 4 (Int.toNat x12_2) 3) (t14.Nots.map Jl) from (Jt (f1.at h_t14))).mono (hw.now hF)) h_t24) Tryz.call55 rfl rfl rfl<|Jf rfl rfl rfl (Ub rfl)<|Jf rfl rfl rfl (Q5 (v := .bool (!t24)) rfl rfl)<|mv (.bool (!t24))<|?_
     refine split (fun hb => ?_) (fun hb => ?_)
     ·have H28 := Jw hb H27; clear H27
      refine mv v0<|Uz (i := 1) (vs := [i6 t14.Id, Xt t14.Name, (Qu h v1 4 (Int.toNat x12_2) 2), (Qu h v1 4 (Int.toNat x12_2) 3)]) Tryz.isAgg32 Tryz.sizeOf32 rfl rfl rfl rfl rfl<|mv (i6 a2)<|?_
      obtain ⟨t31, h_t31, H29⟩ := Je H28; clear H28
      refine Qf (fun w hF hS => k35 (Jp w) (f0.mono (hw.now hF)) ((show FrS h 1 (Qu h v1 4 (Int.toNat x12_2) 2) (t14.Likes.map Jl) from (Jm (f1.at h_t14))).mono (hw.now hF)) ((show FrS h 1 (Qu h v1 4 (Int.toNat x12_2) 3) (t14.Nots.map Jl) from (Jt (f1.at h_t14))).mono (hw.now hF)) h_t31) Tryz.call35 rfl rfl rfl<|Jf rfl rfl rfl (Ub rfl)<|Jf rfl rfl rfl (Q5 (v := .bool (!t31)) rfl rfl)<|Jd<|?_
      refine Qm (b := (!t31)) rfl (fun hb => ?_) (fun hb => ?_)
      ·have H30 := Jw hb H29; clear H29
       exact Qz (Kd.p :: Kd.p :: Kd.d [1] _ :: Kd.p :: Kd.d [1] _ :: Kd.p :: Kd.d [] _ :: Kd.p :: Kd.ns 2 [_, _] 56 1 :: Kd.t 0 [2] _ _ :: Kd.p :: []) 1 mixed (by
        refine dm (sl p_2 l_3.length)<|Qa rfl rfl (J7 Tryz.runUnderlying32 rfl Tryz.sizeOf3 rfl rfl)<|Z5 (i := 1) (v := i6 t14.Id) Tryz.isAgg3 rfl rfl rfl rfl<|dm v0<|d_loadN (i := 1) (vs := [i6 t14.Id, Xt t14.Name, (Qu h v1 4 (Int.toNat x12_2) 2), (Qu h v1 4 (Int.toNat x12_2) 3)]) Tryz.isAgg32 Tryz.sizeOf32 rfl rfl rfl rfl<|dm (i6 a2)<|?_
        have h_t40 := Jr H30
        have H31 := Jn H30
        refine Uk (fun w L' hF hS hi => k75 (Jp w) (f0.mono (hw.now hF)) ((show FrS h 1 (Qu h v1 4 (Int.toNat x12_2) 2) (t14.Likes.map Jl) from (Jm (f1.at h_t14))).mono (hw.now hF)) ((show FrS h 1 (Qu h v1 4 (Int.toNat x12_2) 3) (t14.Nots.map Jl) from (Jt (f1.at h_t14))).mono (hw.now hF)) h_t40) Tryz.call75 rfl rfl<|Qa rfl rfl (r_build (pl := #[(0, 1), (1, 1)]) (ps := [(0, i6 t14.Id), (1, i6 (val (Z1 a0 t14 a2)))]) (cells := #[i6 t14.Id, i6 (val (Z1 a0 t14 a2))]) Tryz.zeroValue56 Tryz.runUnderlying56 (fun w => by kernel_rfl) rfl rfl)<|?_
        refine d_newS rfl rfl (Z7 (vs := [.agg #[i6 t14.Id, i6 (val (Z1 a0 t14 a2))]]) (cs := [i6 t14.Id, i6 (val (Z1 a0 t14 a2))]) Tryz.underlying53 Tryz.sizeOf56 Tryz.zeroValue56 rfl rfl rfl rfl rfl) rfl (fun b3 => ?_)
        have h_l43 := Jr H31
        have H32 := Jn H31
        refine d_turn (Cv := fun v => J5 56 2 v (val (gApp 16 l_3 ([(⟨t14.Id, (val (Z1 a0 t14 a2))⟩ : T_face_Match)] : List T_face_Match))).length ((val (gApp 16 l_3 ([(⟨t14.Id, (val (Z1 a0 t14 a2))⟩ : T_face_Match)] : List T_face_Match))).map Jo)) (none, 0) (Ur (i := 0) (hn := rfl) (rds := [2]) (p := p_2) (sz := 2) (by_ := 16) (f := Jo) (ys := l_3) (ls := ([(⟨t14.Id, (val (Z1 a0 t14 a2))⟩ : T_face_Match)] : List T_face_Match)) (V := .slice (some ⟨b3, 0, none⟩) 1 1) Tryz.underlying53 (We Tryz.typeInfo56) rfl rfl rfl rfl rfl rfl rfl rfl rfl rfl (fun w L' hF hS hi => row_box (i := 2) hS ((hi 2 (by simp)).trans rfl) rfl rfl) (fun _ => rfl) (fun _ => rfl) h_l43) (fun _ => rfl) rfl rfl (fun p_4 => ?_)
        refine Qa rfl rfl (Uj (v := .slice p_4.1 (val (gApp 16 l_3 ([(⟨t14.Id, (val (Z1 a0 t14 a2))⟩ : T_face_Match)] : List T_face_Match))).length p_4.2) rfl)<|Y3<|?_
        refine Js (val (gApp 16 l_3 ([(⟨t14.Id, (val (Z1 a0 t14 a2))⟩ : T_face_Match)] : List T_face_Match))) p_4 0 [0] (by exact ⟨rfl, rfl, rfl, rfl, rfl, rfl, trivial⟩) (by decide) rfl (by exact ⟨H32, trivial⟩) (Nat.lt_succ_self _)
        ) (by kernel_rfl)
      ·have H33 := Jx hb H29; clear H29
       refine Jv ?_
       refine Js l_3 p_2 0 [0] (by exact ⟨rfl, rfl, rfl, rfl, rfl, rfl, trivial⟩) (by decide) rfl (by exact ⟨H33, trivial⟩) (Nat.lt_succ_self _)
     ·have H34 := Jx hb H27; clear H27
      refine pa<|pa<|pa<|pa<|pa<|Jf rfl rfl rfl (Qr (v := .bool false) rfl rfl)<|Jd<|Wq rfl<|Jv<|?_
      refine Js l_3 p_2 0 [0] (by exact ⟨rfl, rfl, rfl, rfl, rfl, rfl, trivial⟩) (by decide) rfl (by exact ⟨H34, trivial⟩) (Nat.lt_succ_self _)
    ·have H35 := Jx hb H25; clear H25
     refine pa<|pa<|pa<|pa<|pa<|Jf rfl rfl rfl (Qr (v := .bool false) rfl rfl)<|mv (.bool false)<|pa<|pa<|pa<|pa<|pa<|Jf rfl rfl rfl (Qr (v := .bool false) rfl rfl)<|Jd<|Wq rfl<|Jv<|?_
     refine Js l_3 p_2 0 [0] (by exact ⟨rfl, rfl, rfl, rfl, rfl, rfl, trivial⟩) (by decide) rfl (by exact ⟨H35, trivial⟩) (Nat.lt_succ_self _)
   ·rintro l_4 p_3 gg H23 _
    try dsimp only at H23
    try dsimp only
    refine Ja ?_
    obtain ⟨t44, h_t44, H24⟩ := Je H23; clear H23
    refine Jf rfl rfl rfl (Qp rfl rfl h_t44)<|mv (i6 t44)<|Jd<|?_
    refine Js (t44, l_4) p_3 m2 [0] (by exact ⟨rfl, rfl, rfl, rfl, rfl, rfl, trivial⟩) (by decide) rfl (by exact ⟨(by subst hn2; exact H24), trivial⟩) (Nat.lt_succ_self _)
  ·have H36 := Jx hb H21; clear H21
   refine Q3 ?_
   refine Js l_3 p_2 0 [0] (by exact ⟨rfl, trivial⟩) (by decide) rfl (by exact ⟨H36, trivial⟩) (Nat.lt_succ_self _)
 ·rintro l p gg H19 _
  try dsimp only at H19
  try dsimp only
  refine Jc<|Ja<|mv (sl p l.length)<|?_
  obtain ⟨t46, h_t46, H20⟩ := Je H19; clear H19
  refine Y7 (Xj (i := 0) (rds := []) (G := fun x : Unit => .tuple #[]) (C := fun x : Unit => J5 56 2 (sl p l.length) l.length (t46.map Jo)) rfl (fun w L' S hF hS hi hp hlt ho hA => k76 hp hlt (Y4 w S) rfl h_t46) Tryz.call76 rfl) rfl rfl rfl (fun _ => ?_)
  refine Zq (fun w hF hS => lenOf (i := 0) hS rfl) (fun hl_ => ?_)
  have hl : l.length = t46.length := by simpa using hl_.symm
  refine Jd<|Jc<|Ja<|mv (sl p l.length)<|ag (sl p l.length)<|Jd<|Jy<|?_
  obtain rfl := Option.some.inj H20
  refine Qw (v := sl p l.length) rfl rfl (Zb p (i := 0) rfl (by first | rfl | rw [(show l.length = t46.length from hl)]) (by first | exact Imp.refl _ | exact Imp.of (by rw [(show l.length = t46.length from hl)])))
theorem k28 {a0 : (List T_face_offer)} {p0 : Option Addr × Nat} {n0 : Nat} {r : (List T_face_offer)} {w : World} {h : Qg} {S : Nat → Prop} (hcs : (J5 58 3 (sl p0 n0) n0 (a0.map Zj)).P S w) (hlt : ∀ b, S b → b < w.heap.size) (_ : Know h w S) (hn0 : n0 = a0.length) (H : gSortF a0 Wu = some r) : Does Tryz.prog 28 (List.toArray [sl p0 n0, .func (.func 29) #[] #[]]) w (fun v w' => ∃ x : Unit, v = (.tuple #[]) ∧ Turn w w' S (J5 58 3 (sl p0 n0) n0 (r.map Zj))) :=
  sort_func (ρ := Go.Proofs.Tryz.sortFO_ren) Go.Proofs.Tryz.sortFO (k := 3) (fun w => Tryz.isAgg58 w) (fun w => Tryz.sizeOf58 w) Zj (fun _ => rfl) (fun x v hv => by simp [Zj] at hv; rcases hv with rfl | rfl | rfl <;> rfl) Go.Proofs.Tryz.entersO (fun x y v W hv => Go.Proofs.Tryz.cmpO x y v W hv) hcs hlt hn0 H
theorem k6 {a0 : (List T_face_Likeness)} {v0 : Value} {a1 : (List T_face_Person)} {v1 : Value} {a2 : Int} {r : (List T_face_Person) × Int} {w : World} {h : Qg} (hw : Know h w Yl) (f0 : FrS h 14 v0 (a0.map Jq)) (f1 : FrN h 4 v1 g_face_Person a1) (H : face_Sort a0 a1 a2 = some r) : Does Tryz.prog 6 (List.toArray [v0, v1, i6 a2]) w (fun v w' => ∃ x : (Option Addr × Nat), v = (.tuple #[sl x r.1.length, i6 r.2]) ∧ Turn w w' Yl (rofD false 32 4 g_face_Person (sl x r.1.length) r.1.length r.1)) := by
 refine enter (n := 109) Tryz.func6 rfl rfl rfl Yl [] (Sat.nil _ _)<|Wy Yo<|Jc<|Ja<|ag (.slice none 0 0)<|ag (i6 0)<|Jd<|Jc<|Jc<|Ja<|mv v0<|mv v1<|?_
 obtain ⟨t21, h_t21, H89⟩ := Je H; clear H
 refine Qf (fun w hF hS => k7 (Jp w) (f0.mono (hw.now hF)) (f1.mono (hw.now hF)) h_t21) Tryz.call7 rfl rfl rfl<|ag (i6 t21)<|Jd<|Jc<|Ja<|mv (i6 t21)<|Jf rfl rfl rfl (r_neq rfl rfl)<|Jd<|?_
 refine Qm (b := (decide (t21 ≠ 0))) rfl (fun hb => ?_) (fun hb => ?_)
 ·have H90 := Jw hb H89; clear H89
  refine Jc<|Ja<|mv (i6 t21)<|ag (.slice none 0 0)<|ag (i6 t21)<|Jd<|Jy<|Q9 32 4<|?_
  obtain rfl := Option.some.inj H90
  refine Xc 1 rfl (Zs _ _ _ _ _)<|Yp 0 1 rfl rfl (by decide)<|Xc 0 rfl (Zc (k := false) (p := nn) rfl (fun h => nomatch h) (AllC.nil (G := g_face_Person) (h := Yo) (sz := 4)))<|?_
  refine Vz (v1 := sl nn (([] : List (List Value)).length)) (v2 := i6 t21) rfl rfl rfl (Zb nn (i := 0) rfl (by first | rfl | rw [(show (([] : List (List Value)).length) = ([] : List T_face_Person).length from (AllC.nil (G := g_face_Person) (h := Yo) (sz := 4)).len)]) (by first | exact Imp.refl _ | exact Imp.of (by rw [(show (([] : List (List Value)).length) = ([] : List T_face_Person).length from (AllC.nil (G := g_face_Person) (h := Yo) (sz := 4)).len)])))
 ·have H91 := Jx hb H89; clear H89
  refine Jv<|Jc<|Jc<|Ja<|mv (i6 a2)<|?_
  obtain ⟨t26, h_t26, H92⟩ := Je H91; clear H91
  refine Vu (k25 h_t26) Tryz.call25 rfl rfl rfl<|Jd<|?_
  refine Qm (b := t26) rfl (fun hb => ?_) (fun hb => ?_)
  ·have H93 := Jw hb H92; clear H92
   refine Jc<|Ja<|ag (.slice none 0 0)<|ag (i6 2)<|Jd<|Jy<|Q9 32 4<|?_
   obtain rfl := Option.some.inj H93
   refine Xc 1 rfl (Zs _ _ _ _ _)<|Yp 0 1 rfl rfl (by decide)<|Xc 0 rfl (Zc (k := false) (p := nn) rfl (fun h => nomatch h) (AllC.nil (G := g_face_Person) (h := Yo) (sz := 4)))<|?_
   refine Vz (v1 := sl nn (([] : List (List Value)).length)) (v2 := i6 2) rfl rfl rfl (Zb nn (i := 0) rfl (by first | rfl | rw [(show (([] : List (List Value)).length) = ([] : List T_face_Person).length from (AllC.nil (G := g_face_Person) (h := Yo) (sz := 4)).len)]) (by first | exact Imp.refl _ | exact Imp.of (by rw [(show (([] : List (List Value)).length) = ([] : List T_face_Person).length from (AllC.nil (G := g_face_Person) (h := Yo) (sz := 4)).len)])))
  ·have H94 := Jx hb H92; clear H92
   refine Jv<|Jc<|Ja<|ag (.slice none 0 0)<|Jd<|?_
   refine Xf (r := r) (σ := (List T_face_offer)) (τ := (Option Addr × Nat)) (fun s => face_Sort_j1 a0 a1 s) (fun s t => [(0, v0), (1, v1), (9, sl t s.length)]) (fun s t => [Yx Yo Yo, J5 58 3 (sl t s.length) s.length (s.map Zj)]) (fun s t => True) ?_ ?_
   ·refine Jc<|Ja<|mv v0<|mv v1<|?_
    obtain ⟨t29, h_t29, H116⟩ := Je H94; clear H94
    refine Yk (J8 (rds := []) (G := fun x : (Option Addr × Nat) => sl x t29.length) (C := fun x : (Option Addr × Nat) => J5 52 14 (sl x t29.length) t29.length (t29.map Jq)) (fun w L' hF hS hi => k26 (Jp w) (f0.mono (hw.now hF)) (f1.mono (hw.now hF)) h_t29) Tryz.call26 rfl) rfl rfl rfl (fun p_6 => ?_)
    refine Jf rfl rfl rfl (Jaw Tryz.underlying22 rfl)<|mv (i6 0)<|Jd<|Ju<|Q9 58 3<|?_
    refine X6 (σ := Int × (List T_face_offer)) (τ := (Option Addr × Nat)) (fun next4 s => Jbq a0 a1 a2 t29 next4 s.1 s.2) (fun s t => [(0, v0), (1, v1), (2, i6 a2), (9, sl t s.2.length), (29, sl p_6 t29.length), (30, i6 (t29.length : Int)), (31, i6 s.1)]) (fun s t => [Yx Yo Yo, J5 52 14 (sl p_6 t29.length) t29.length (t29.map Jq), J5 58 3 (sl t s.2.length) s.2.length (s.2.map Zj)]) (fun s t => True) (0, ([] : List T_face_offer)) nn [0, 1, 2] H116 (by exact trivial) (by exact ⟨rfl, rfl, rfl, rfl, rfl, rfl, rfl, trivial⟩) (by decide) rfl ?_
    rintro ⟨x31_2, l_6⟩ p_7 m4 gg H117 _
    clear H116
    try dsimp only at H117
    generalize hn4 : it (fun next4 s => Jbq a0 a1 a2 t29 next4 s.1 s.2) m4 = next4 at H117
    try dsimp only
    refine Jc<|Ja<|Jf rfl rfl rfl (Q0 rfl rfl)<|Jd<|Jc<|?_
    refine Qm (b := (decide (x31_2 < (t29.length : Int)))) rfl (fun hb => ?_) (fun hb => ?_)
    ·have H118 := Jw hb H117; clear H117
     refine Jv ?_
     refine Xf (r := r) (σ := (List T_face_offer)) (τ := (Option Addr × Nat)) (fun s => Jc1 x31_2 next4 s) (fun s t => [(0, v0), (1, v1), (2, i6 a2), (9, sl t s.length), (29, sl p_6 t29.length), (30, i6 (t29.length : Int)), (31, i6 x31_2)]) (fun s t => [Yx Yo Yo, J5 52 14 (sl p_6 t29.length) t29.length (t29.map Jq), J5 58 3 (sl t s.length) s.length (s.map Zj)]) (fun s t => True) ?_ ?_
     ·refine Ju<|Jc<|Ja<|?_
      obtain ⟨t33, h_t33, H121⟩ := Je H118; clear H118
      refine J9 (fun w hF hS => J3 Tryz.underlying22 Tryz.sizeOf52 rfl rfl (Qy (i := 1) hS rfl) rfl h_t33) rfl rfl rfl<|J9 (fun w hF hS => Qj (f := Jq) (i := x31_2) (sz := 14) (j := 0) (vs := [i6 t33.Id, i6 t33.Photo, i6 (t33.Vec 0), i6 (t33.Vec 1), i6 (t33.Vec 2), i6 (t33.Vec 3), i6 (t33.Vec 4), i6 (t33.Vec 5), i6 (t33.Vec 6), i6 (t33.Vec 7), i6 (t33.Vec 8), i6 (t33.Vec 9), i6 (t33.Vec 10), i6 (t33.Vec 11)]) Tryz.isAgg52 Tryz.sizeOf52 rfl rfl (Qy (i := 1) hS rfl) h_t33 rfl) rfl rfl rfl<|?_
      refine Wh (cs := [i6 0, i6 0, i6 0, i6 0, i6 0, i6 0, i6 0, i6 0, i6 0, i6 0, i6 0, i6 0, i6 0, i6 0]) Tryz.zeroValue52 rfl rfl rfl (fun b12 => ?_)
      refine Y8 (i := 3) (vs := [i6 t33.Id, i6 t33.Photo, i6 (t33.Vec 0), i6 (t33.Vec 1), i6 (t33.Vec 2), i6 (t33.Vec 3), i6 (t33.Vec 4), i6 (t33.Vec 5), i6 (t33.Vec 6), i6 (t33.Vec 7), i6 (t33.Vec 8), i6 (t33.Vec 9), i6 (t33.Vec 10), i6 (t33.Vec 11)]) (cs' := [i6 t33.Id, i6 t33.Photo, i6 (t33.Vec 0), i6 (t33.Vec 1), i6 (t33.Vec 2), i6 (t33.Vec 3), i6 (t33.Vec 4), i6 (t33.Vec 5), i6 (t33.Vec 6), i6 (t33.Vec 7), i6 (t33.Vec 8), i6 (t33.Vec 9), i6 (t33.Vec 10), i6 (t33.Vec 11)]) Tryz.sizeOf52 rfl rfl rfl rfl rfl rfl rfl rfl rfl<|Jd<|Jc<|?_
      try dsimp only [z1, z2, z5, z6, z7, z8]
      refine Ja<|mv v0<|mv v1<|Jf rfl rfl rfl (J7 Tryz.runUnderlying52 rfl Tryz.sizeOf3 rfl rfl)<|Qq (i := 3) (v := i6 t33.Id) Tryz.isAgg3 rfl rfl rfl rfl rfl<|?_
      obtain ⟨t39, h_t39, H122⟩ := Je H121; clear H121
      refine Yk (J8 (rds := []) (G := fun x : (Option Addr × Nat) => sl x t39.length) (C := fun x : (Option Addr × Nat) => J5 56 2 (sl x t39.length) t39.length (t39.map Jo)) (fun w L' hF hS hi => k27 (Jp w) (f0.mono (hw.now hF)) (f1.mono (hw.now hF)) h_t39) Tryz.call27 rfl) rfl rfl rfl (fun p_9 => ?_)
      refine Jf rfl rfl rfl (Jaw Tryz.underlying53 rfl)<|mv (i6 0)<|Jd<|Ju<|?_
      refine X6 (σ := Int × (List T_face_offer)) (τ := (Option Addr × Nat)) (fun next6 s => Jag a2 x31_2 next4 t33 t39 next6 s.1 s.2) (fun s t => [(0, v0), (1, v1), (2, i6 a2), (9, sl t s.2.length), (11, .pointer (some ⟨b12, 0, none⟩)), (29, sl p_6 t29.length), (30, i6 (t29.length : Int)), (31, i6 x31_2), (39, sl p_9 t39.length), (40, i6 (t39.length : Int)), (41, i6 s.1)]) (fun s t => [Yx Yo Yo, J5 52 14 (sl p_6 t29.length) t29.length (t29.map Jq), J5 58 3 (sl t s.2.length) s.2.length (s.2.map Zj), Q1 b12 [i6 t33.Id, i6 t33.Photo, i6 (t33.Vec 0), i6 (t33.Vec 1), i6 (t33.Vec 2), i6 (t33.Vec 3), i6 (t33.Vec 4), i6 (t33.Vec 5), i6 (t33.Vec 6), i6 (t33.Vec 7), i6 (t33.Vec 8), i6 (t33.Vec 9), i6 (t33.Vec 10), i6 (t33.Vec 11)] 52, J5 56 2 (sl p_9 t39.length) t39.length (t39.map Jo)]) (fun s t => True) (0, l_6) p_7 [0, 1, 2, 3, 4] H122 (by exact trivial) (by exact ⟨rfl, rfl, rfl, rfl, rfl, rfl, rfl, rfl, rfl, rfl, rfl, trivial⟩) (by decide) rfl ?_
      rintro ⟨x41_2, l_9⟩ p_10 m6 gg H123 _
      clear H122
      try dsimp only at H123
      generalize hn6 : it (fun next6 s => Jag a2 x31_2 next4 t33 t39 next6 s.1 s.2) m6 = next6 at H123
      try dsimp only
      refine Jc<|Ja<|Jf rfl rfl rfl (Q0 rfl rfl)<|Jd<|Jc<|?_
      refine Qm (b := (decide (x41_2 < (t39.length : Int)))) rfl (fun hb => ?_) (fun hb => ?_)
      ·have H124 := Jw hb H123; clear H123
       refine Jv ?_
       refine Xf (r := r) (σ := (List T_face_offer)) (τ := (Option Addr × Nat)) (fun s => face_Sort_j7 x41_2 next6 s) (fun s t => [(0, v0), (1, v1), (2, i6 a2), (9, sl t s.length), (11, .pointer (some ⟨b12, 0, none⟩)), (29, sl p_6 t29.length), (30, i6 (t29.length : Int)), (31, i6 x31_2), (39, sl p_9 t39.length), (40, i6 (t39.length : Int)), (41, i6 x41_2)]) (fun s t => [Yx Yo Yo, J5 52 14 (sl p_6 t29.length) t29.length (t29.map Jq), J5 58 3 (sl t s.length) s.length (s.map Zj), Q1 b12 [i6 t33.Id, i6 t33.Photo, i6 (t33.Vec 0), i6 (t33.Vec 1), i6 (t33.Vec 2), i6 (t33.Vec 3), i6 (t33.Vec 4), i6 (t33.Vec 5), i6 (t33.Vec 6), i6 (t33.Vec 7), i6 (t33.Vec 8), i6 (t33.Vec 9), i6 (t33.Vec 10), i6 (t33.Vec 11)] 52, J5 56 2 (sl p_9 t39.length) t39.length (t39.map Jo)]) (fun s t => True) ?_ ?_
       ·refine Ju<|Jc<|Ja<|?_
        obtain ⟨t43, h_t43, H127⟩ := Je H124; clear H124
        refine J9 (fun w hF hS => J3 Tryz.underlying53 Tryz.sizeOf56 rfl rfl (Qy (i := 4) hS rfl) rfl h_t43) rfl rfl rfl<|J9 (fun w hF hS => Qj (f := Jo) (i := x41_2) (sz := 2) (j := 0) (vs := [i6 t43.Person, i6 t43.Far]) Tryz.isAgg56 Tryz.sizeOf56 rfl rfl (Qy (i := 4) hS rfl) h_t43 rfl) rfl rfl rfl<|?_
        refine Wh (cs := [i6 0, i6 0]) Tryz.zeroValue56 rfl rfl rfl (fun b13 => ?_)
        refine Y8 (i := 5) (vs := [i6 t43.Person, i6 t43.Far]) (cs' := [i6 t43.Person, i6 t43.Far]) Tryz.sizeOf56 rfl rfl rfl rfl rfl rfl rfl rfl rfl<|Jd<|Jc<|Ja<|Jf rfl rfl rfl (J7 Tryz.runUnderlying56 rfl Tryz.sizeOf3 rfl rfl)<|Qq (i := 5) (v := i6 t43.Far) Tryz.isAgg3 rfl rfl rfl rfl rfl<|mv (i6 a2)<|Jf rfl rfl rfl (r_leq rfl rfl)<|Jd<|?_
        refine Qm (b := (decide (t43.Far ≤ a2))) rfl (fun hb => ?_) (fun hb => ?_)
        ·have H128 := Jw hb H127; clear H127
         refine Ja<|mv (sl p_10 l_9.length)<|Jf rfl rfl rfl (J7 Tryz.runUnderlying52 rfl Tryz.sizeOf3 rfl rfl)<|Qq (i := 3) (v := i6 t33.Id) Tryz.isAgg3 rfl rfl rfl rfl rfl<|Jf rfl rfl rfl (J7 Tryz.runUnderlying56 rfl Tryz.sizeOf3 rfl rfl)<|Qq (i := 5) (v := i6 t43.Person) Tryz.isAgg3 rfl rfl rfl rfl rfl<|Jf rfl rfl rfl (J7 Tryz.runUnderlying56 rfl Tryz.sizeOf3 rfl rfl)<|Qq (i := 5) (v := i6 t43.Far) Tryz.isAgg3 rfl rfl rfl rfl rfl<|Jf rfl rfl rfl (r_build (pl := #[(0, 1), (1, 1), (2, 1)]) (ps := [(0, i6 t33.Id), (1, i6 t43.Person), (2, i6 t43.Far)]) (cells := #[i6 t33.Id, i6 t43.Person, i6 t43.Far]) Tryz.zeroValue58 Tryz.runUnderlying58 (fun w => by kernel_rfl) rfl rfl)<|?_
         refine Z0 (vs := [.agg #[i6 t33.Id, i6 t43.Person, i6 t43.Far]]) (cs := [i6 t33.Id, i6 t43.Person, i6 t43.Far]) Tryz.underlying49 Tryz.sizeOf58 Tryz.zeroValue58 rfl rfl rfl rfl rfl rfl rfl (fun b14 => ?_)
         obtain ⟨l58, h_l58, H129⟩ := Je H128; clear H128
         refine Y7 (Ur (i := 2) (hn := rfl) (rds := [6]) (p := p_10) (sz := 3) (by_ := 24) (f := Zj) (ys := l_9) (ls := ([(⟨t33.Id, t43.Person, t43.Far⟩ : T_face_offer)] : List T_face_offer)) (V := .slice (some ⟨b14, 0, none⟩) 1 1) Tryz.underlying49 (We Tryz.typeInfo58) rfl rfl rfl rfl rfl rfl rfl rfl rfl rfl (fun w L' hF hS hi => row_box (i := 6) hS ((hi 6 (by simp)).trans rfl) rfl rfl) (fun _ => rfl) (fun _ => rfl) h_l58) rfl rfl rfl (fun p_12 => ?_)
         refine ag (sl p_12 l58.length)<|Jd<|?_
         refine Js l58 p_12 0 [0, 1, 2, 3, 4] (by exact ⟨rfl, rfl, rfl, rfl, rfl, rfl, rfl, rfl, rfl, rfl, rfl, trivial⟩) (by decide) rfl (by exact ⟨H129, trivial⟩) (Nat.lt_succ_self _)
        ·have H130 := Jx hb H127; clear H127
         refine Jv ?_
         refine Js l_9 p_10 0 [0, 1, 2, 3, 4] (by exact ⟨rfl, rfl, rfl, rfl, rfl, rfl, rfl, rfl, rfl, rfl, rfl, trivial⟩) (by decide) rfl (by exact ⟨H130, trivial⟩) (Nat.lt_succ_self _)
       ·rintro l_10 p_11 gg H125 _
        try dsimp only at H125
        try dsimp only
        refine Ja ?_
        obtain ⟨t59, h_t59, H126⟩ := Je H125; clear H125
        refine Jf rfl rfl rfl (Qp rfl rfl h_t59)<|mv (i6 t59)<|Jd<|?_
        refine Js (t59, l_10) p_11 m6 [0, 1, 2, 3, 4] (by exact ⟨rfl, rfl, rfl, rfl, rfl, rfl, rfl, rfl, rfl, rfl, rfl, trivial⟩) (by decide) rfl (by exact ⟨(by subst hn6; exact H126), trivial⟩) (Nat.lt_succ_self _)
      ·have H131 := Jx hb H123; clear H123
       refine Q3 ?_
       refine Js l_9 p_10 0 [0, 1, 2] (by exact ⟨rfl, rfl, rfl, rfl, rfl, rfl, rfl, trivial⟩) (by decide) rfl (by exact ⟨H131, trivial⟩) (Nat.lt_succ_self _)
     ·rintro l_7 p_8 gg H119 _
      try dsimp only at H119
      try dsimp only
      refine Ja ?_
      obtain ⟨t60, h_t60, H120⟩ := Je H119; clear H119
      refine Jf rfl rfl rfl (Qp rfl rfl h_t60)<|mv (i6 t60)<|Jd<|?_
      refine Js (t60, l_7) p_8 m4 [0, 1, 2] (by exact ⟨rfl, rfl, rfl, rfl, rfl, rfl, rfl, trivial⟩) (by decide) rfl (by exact ⟨(by subst hn4; exact H120), trivial⟩) (Nat.lt_succ_self _)
    ·have H132 := Jx hb H117; clear H117
     refine Q3 ?_
     refine Js l_6 p_7 0 [0, 2] (by exact ⟨rfl, rfl, rfl, trivial⟩) (by decide) rfl (by exact ⟨H132, trivial⟩) (Nat.lt_succ_self _)
   ·rintro l p gg H95 _
    try dsimp only at H95
    try dsimp only
    refine Jc<|Ja<|mv (sl p l.length)<|?_
    obtain ⟨t62, h_t62, H96⟩ := Je H95; clear H95
    refine Y7 (Xj (i := 1) (rds := []) (G := fun x : Unit => .tuple #[]) (C := fun x : Unit => J5 58 3 (sl p l.length) l.length (t62.map Zj)) rfl (fun w L' S hF hS hi hp hlt ho hA => k28 hp hlt (Y4 w S) rfl h_t62) Tryz.call28 rfl) rfl rfl rfl (fun _ => ?_)
    refine Zq (fun w hF hS => lenOf (i := 1) hS rfl) (fun hl_ => ?_)
    have hl : l.length = t62.length := by simpa using hl_.symm
    refine Jd<|Jc<|Ja<|mv v1<|?_
    obtain ⟨t64, h_t64, H97⟩ := Je H96; clear H96
    refine Yk (J8 (rds := []) (G := fun x : (Option Addr × Nat) => sl x t64.length) (C := fun x : (Option Addr × Nat) => rofD true 32 4 g_face_Person (sl x t64.length) t64.length t64) (fun w L' hF hS hi => k32 (Jp w) (f1.mono (hw.now hF)) h_t64) Tryz.call32 rfl) rfl rfl rfl (fun p_2 => ?_)
    refine c_rofD 2 rfl (fun hp css hn hc pf => ?_)
    rw [hn]
    refine V7 2 rfl ?_
    refine Yv 0 2 rfl rfl (by decide) (fun _ _ => Qo) (fun hp_2 hle hle_2 => ?_)
    refine ag (sl p_2 css.length)<|Jd<|?_
    try dsimp only [z1, z2, z5, z6, z7, z8]
    refine Jc<|Jc<|Ja<|mv (sl p l.length)<|Jf rfl rfl rfl (r_lenN Tryz.underlying49 rfl hl)<|mv (i6 0)<|Jd<|?_
    try dsimp only [z1, z2, z5, z6, z7, z8]
    refine Ju<|c_dr 2<|?_
    try dsimp only [z1, z2, z3, z4, z5, z6, z7, z8]
    refine X6 (σ := Int × (List T_face_Person)) (τ := Qg × (List (List Value)) × (Option Addr × Nat)) (fun next2 s => Jbf a0 t62 next2 s.1 s.2) (fun s t => [(0, v0), (14, .slice t.2.2.1 t.2.1.length t.2.2.2), (65, sl p l.length), (66, i6 (t62.length : Int)), (67, i6 s.1)]) (fun s t => [Yx Yo t.1, J5 58 3 (sl p l.length) l.length (t62.map Zj), Vn 32 4 (.slice t.2.2.1 t.2.1.length t.2.2.2) t.2.1.length (t.2.1.map idC)]) (fun s t => AllC g_face_Person t.1 4 t.2.1 s.2) (0, t64) (hp_2, css, p_2) [0, 1, 2] H97 (by exact (pf.mono hle_2)) (by exact ⟨rfl, rfl, rfl, rfl, rfl, trivial⟩) (by decide) rfl ?_
    rintro ⟨x67_2, l_3⟩ ⟨hp_3, css_2, p_3⟩ m2 gg H98 pf_3
    clear H97
    try dsimp only at H98
    generalize hn2 : it (fun next2 s => Jbf a0 t62 next2 s.1 s.2) m2 = next2 at H98
    try dsimp only
    refine Jc<|Ja<|Jf rfl rfl rfl (Q0 rfl rfl)<|Jd<|?_
    try dsimp only [z1, z2, z5, z6, z7, z8]
    refine Jc ?_
    refine Qm (b := (decide (x67_2 < (t62.length : Int)))) rfl (fun hb => ?_) (fun hb => ?_)
    ·have H99 := Jw hb H98; clear H98
     refine Jv ?_
     refine Xf (r := r) (σ := (List T_face_Person)) (τ := Qg × (List (List Value)) × (Option Addr × Nat)) (fun s => Jc0 x67_2 next2 s) (fun s t => [(0, v0), (14, .slice t.2.2.1 t.2.1.length t.2.2.2), (65, sl p l.length), (66, i6 (t62.length : Int)), (67, i6 x67_2)]) (fun s t => [Yx Yo t.1, J5 58 3 (sl p l.length) l.length (t62.map Zj), Vn 32 4 (.slice t.2.2.1 t.2.1.length t.2.2.2) t.2.1.length (t.2.1.map idC)]) (fun s t => AllC g_face_Person t.1 4 t.2.1 s) ?_ ?_
     ·refine Ju<|Jc<|Ja<|?_
      obtain ⟨t69, h_t69, H102⟩ := Je H99; clear H99
      refine J9 (fun w hF hS => J3 Tryz.underlying49 Tryz.sizeOf58 rfl rfl (Qy (i := 1) hS rfl) hl h_t69) rfl rfl rfl<|J9 (fun w hF hS => Qj (f := Zj) (i := x67_2) (sz := 3) (j := 0) (vs := [i6 t69.id_, i6 t69.person_, i6 t69.far_]) Tryz.isAgg58 Tryz.sizeOf58 rfl rfl (Qy (i := 1) hS rfl) h_t69 rfl) rfl rfl rfl<|?_
      refine Wh (cs := [i6 0, i6 0, i6 0]) Tryz.zeroValue58 rfl rfl rfl (fun b10 => ?_)
      refine Y8 (i := 3) (vs := [i6 t69.id_, i6 t69.person_, i6 t69.far_]) (cs' := [i6 t69.id_, i6 t69.person_, i6 t69.far_]) Tryz.sizeOf58 rfl rfl rfl rfl rfl rfl rfl rfl rfl<|Jd<|?_
      try dsimp only [z1, z2, z5, z6, z7, z8]
      refine Jc<|Ja<|mv (sl p_3 css_2.length)<|Jf rfl rfl rfl (J7 Tryz.runUnderlying58 rfl Tryz.sizeOf3 rfl rfl)<|Qq (i := 3) (v := i6 t69.person_) Tryz.isAgg3 rfl rfl rfl rfl rfl<|?_
      obtain ⟨t75, h_t75, H103⟩ := Je H102; clear H102
      refine Qf (fun w hF hS => k33 (Jp w) (U7 (xs := l_3) (Jbg (i := 2) rfl hS rfl) (pf_3.mono (Xi (i := 0) hS rfl Qo))) h_t75) Tryz.call33 rfl rfl rfl<|mv (.tuple #[i6 t75.1, .bool t75.2])<|Jf rfl rfl rfl (Qs (v := i6 t75.1) rfl rfl)<|Jf rfl rfl rfl (Qs (v := .bool t75.2) rfl rfl)<|ag (i6 t75.1)<|ag (.bool t75.2)<|Jd<|?_
      try dsimp only [z1, z2, z5, z6, z7, z8]
      refine Jc ?_
      exact Qz (Kd.p :: Kd.p :: Kd.d [3] _ :: Kd.d [0, 2] _ :: Kd.p :: Kd.p :: Kd.p :: Kd.p :: Kd.p :: Kd.d [2] _ :: Kd.d [2] _ :: Kd.p :: Kd.d [3] _ :: Kd.d [0] _ :: Kd.p :: Kd.p :: []) 0 mixed (by
       refine dm (sl p_3 css_2.length)<|Qa rfl rfl (J7 Tryz.runUnderlying58 rfl Tryz.sizeOf3 rfl rfl)<|Z5 (i := 3) (v := i6 t69.id_) Tryz.isAgg3 rfl rfl rfl rfl<|?_
       have h_t81 := Jr H103
       have H104 := Jn H103
       refine Uk (fun w L' hF hS hi => k34 (Jp w) (U7 (xs := l_3) (Jbg (i := 2) rfl hS ((hi 2 (by simp)).trans rfl)) (pf_3.mono (Xi (i := 0) hS ((hi 0 (by simp)).trans rfl) Qo))) h_t81) Tryz.call34 rfl rfl<|Qa rfl rfl (Q0 rfl rfl)<|dm (.bool (decide ((val (Ut l_3 t69.id_)) < 0)))<|?_
       refine splitS (fun hb => ?_) (fun hb => ?_)
       ·have H105 := Jw hb H104
        refine dm v0<|dm (sl p_3 css_2.length)<|dm (i6 t75.1)<|?_
        have h_t87 := Jr H105
        have H106 := Jn H105
        refine Qc (fun w L' hF hS hi => J3 Tryz.underlying23 Tryz.sizeOf32 rfl rfl (Zm (i := 2) (E := 32) (sz := 4) (n := css_2.length) (a := p_3.1) (c := p_3.2) hS ((hi 2 (by simp)).trans rfl)) rfl (pf_3.ix h_t87)) rfl rfl<|Qc (fun w L' hF hS hi => Qj (f := idC) (i := t75.1) (sz := 4) (j := 0) (vs := [i6 (val (Jk l_3 t75.1)).Id, Xt (val (Jk l_3 t75.1)).Name, (List.getD (List.getD css_2 (Int.toNat t75.1) []) 2 undef), (List.getD (List.getD css_2 (Int.toNat t75.1) []) 3 undef)]) Tryz.isAgg32 Tryz.sizeOf32 rfl rfl (Zm (i := 2) (E := 32) (sz := 4) (n := css_2.length) (a := p_3.1) (c := p_3.2) hS ((hi 2 (by simp)).trans rfl)) (pf_3.ix h_t87) (rd_of ((pf_3.eta h_t87).trans (J1 (pf_3.at h_t87))) rfl)) rfl rfl<|Qa rfl rfl (J7 Tryz.runUnderlying58 rfl Tryz.sizeOf3 rfl rfl)<|Z5 (i := 3) (v := i6 t69.id_) Tryz.isAgg3 rfl rfl rfl rfl<|?_
        have h_t91 := Jr H106
        have H107 := Jn H106
        refine Uk (fun w L' hF hS hi => k35 (Jp w) (f0.mono (hw.now hF)) ((show FrS hp_3 1 (List.getD (List.getD css_2 (Int.toNat t75.1) []) 2 undef) ((val (Jk l_3 t75.1)).Likes.map Jl) from (Jm (pf_3.at h_t87))).mono (Xi (i := 0) hS ((hi 0 (by simp)).trans rfl) Qo)) ((show FrS hp_3 1 (List.getD (List.getD css_2 (Int.toNat t75.1) []) 3 undef) ((val (Jk l_3 t75.1)).Nots.map Jl) from (Jt (pf_3.at h_t87))).mono (Xi (i := 0) hS ((hi 0 (by simp)).trans rfl) Qo)) h_t91) Tryz.call35 rfl rfl<|Qa rfl rfl (Ub rfl)<|Qa rfl rfl (Q5 (v := .bool (!(val (V6 a0 (val (Jk l_3 t75.1)) t69.id_)))) rfl rfl)<|Y3<|?_
        try dsimp only [z1, z2, z5, z6, z7, z8]
        refine Qm (b := (!(val (V6 a0 (val (Jk l_3 t75.1)) t69.id_)))) rfl (fun hb => ?_) (fun hb => ?_)
        ·have H108 := Jw hb H107; clear H107
         exact Qz (Kd.p :: Kd.p :: Kd.p :: Kd.p :: Kd.d [2] _ :: Kd.d [2] _ :: Kd.d [2] _ :: Kd.p :: Kd.d [3] _ :: Kd.ns 4 [_] 3 1 :: Kd.t 5 [0, 4] _ _ :: Kd.d [2] _ :: Kd.d [2] _ :: Kd.stk 106 104 2 :: []) 2 mixed (by
          refine dm (sl p_3 css_2.length)<|dm (i6 t75.1)<|dm (sl p_3 css_2.length)<|dm (i6 t75.1)<|?_
          have h_t98 := Jr H108
          have H109 := Jn H108
          refine Qc (fun w L' hF hS hi => J3 Tryz.underlying23 Tryz.sizeOf32 rfl rfl (Zm (i := 2) (E := 32) (sz := 4) (n := css_2.length) (a := p_3.1) (c := p_3.2) hS ((hi 2 (by simp)).trans rfl)) rfl (pf_3.ix h_t98)) rfl rfl<|Y5 rfl rfl (fun w L' hF hS hi => Xn Tryz.runUnderlying32 rfl Tryz.sizeOf24 rfl rfl (Zm (i := 2) (E := 32) (sz := 4) (n := css_2.length) (a := p_3.1) (c := p_3.2) hS ((hi 2 (by simp)).trans rfl)) (pf_3.ix h_t98))<|Qc (fun w L' hF hS hi => J2 (f := idC) (i := t75.1) (sz := 4) (j := 2) (v := (List.getD (List.getD css_2 (Int.toNat t75.1) []) 2 undef)) Tryz.isAgg24 rfl rfl (Zm (i := 2) (E := 32) (sz := 4) (n := css_2.length) (a := p_3.1) (c := p_3.2) hS ((hi 2 (by simp)).trans rfl)) (pf_3.ix h_t98) (V4 ((pf_3.eta h_t98).trans (J1 (pf_3.at h_t98))) rfl)) rfl rfl<|Qa rfl rfl (J7 Tryz.runUnderlying58 rfl Tryz.sizeOf3 rfl rfl)<|Z5 (i := 3) (v := i6 t69.id_) Tryz.isAgg3 rfl rfl rfl rfl<|?_
          refine d_newS rfl rfl (Z7 (vs := [i6 t69.id_]) (cs := [i6 t69.id_]) Tryz.underlying24 Tryz.sizeOf3 Tryz.zeroValue3 rfl rfl rfl rfl rfl) rfl (fun b11 => ?_)
          have h_t104 := Jr H109
          have H110 := Jn H109
          refine Uc (Cv := fun v => roV 1 v (val (Jh (val (Jk l_3 t75.1)).Likes ([t69.id_] : List Int))).length ((val (Jh (val (Jk l_3 t75.1)).Likes ([t69.id_] : List Int))).map Jl)) (none, 0) (J8 (G := fun x : (Option Addr × Nat) => sl x (val (Jh (val (Jk l_3 t75.1)).Likes ([t69.id_] : List Int))).length) (C := fun x : (Option Addr × Nat) => roV 1 (sl x (val (Jh (val (Jk l_3 t75.1)).Likes ([t69.id_] : List Int))).length) (val (Jh (val (Jk l_3 t75.1)).Likes ([t69.id_] : List Int))).length ((val (Jh (val (Jk l_3 t75.1)).Likes ([t69.id_] : List Int))).map Jl)) (fun w L' hF hS hi => k36 (Jp w) ((show FrS hp_3 1 (List.getD (List.getD css_2 (Int.toNat t75.1) []) 2 undef) ((val (Jk l_3 t75.1)).Likes.map Jl) from (Jm (pf_3.at h_t98))).mono (Xi (i := 0) hS ((hi 0 (by simp)).trans rfl) Qo)) (frs_box (i := 4) (xs := ([t69.id_] : List Int)) (f := Jl) hS ((hi 4 (by simp)).trans rfl) rfl rfl rfl rfl) h_t104) Tryz.call36 rfl) (fun _ => rfl) rfl rfl rfl (fun p_5 => ?_)
          have h_t105 := Jr H110
          have H111 := Jn H110
          refine Qc (fun w L' hF hS hi => J3 Tryz.underlying23 Tryz.sizeOf32 rfl rfl (Zm (i := 2) (E := 32) (sz := 4) (n := css_2.length) (a := p_3.1) (c := p_3.2) hS ((hi 2 (by simp)).trans rfl)) rfl (pf_3.ix h_t105)) rfl rfl<|Y5 rfl rfl (fun w L' hF hS hi => Xn Tryz.runUnderlying32 rfl Tryz.sizeOf24 rfl rfl (Zm (i := 2) (E := 32) (sz := 4) (n := css_2.length) (a := p_3.1) (c := p_3.2) hS ((hi 2 (by simp)).trans rfl)) (pf_3.ix h_t105))<|?_
          have h_l2 := Jr H111
          have H112 := Jn H111
          refine W4 (i := 2) (x := sl p_5 (val (Jh (val (Jk l_3 t75.1)).Likes ([t69.id_] : List Int))).length) (va := (Zn p_3.1 (Int.toNat t75.1 * 4 + 2))) Tryz.sizeOf24 rfl rfl rfl rfl rfl rfl (Jbd (E := 32) (sz := 4) (n := css_2.length) (a := p_3.1) (c := p_3.2) (css := css_2) (Imp.refl _) rfl pf_3.len h_t105 rfl rfl)<|Y3<|Xc 2 rfl (Jb5 (E := 32) (sz := 4) (n := css_2.length) (a := p_3.1) (c := p_3.2) (css := css_2) (j := 2) (x := sl p_5 (val (Jh (val (Jk l_3 t75.1)).Likes ([t69.id_] : List Int))).length) (Imp.refl _) pf_3.len h_t105 rfl rfl)<|?_
          refine Yq (Φ := fun H_ => FrS H_ 1 (sl p_5 (val (Jh (val (Jk l_3 t75.1)).Likes ([t69.id_] : List Int))).length) ((val (Jh (val (Jk l_3 t75.1)).Likes ([t69.id_] : List Int))).map Jl)) 0 5 rfl rfl (by decide) (fun _ _ => Qo) (fz_ro _) (fun hp_5 hle_3 hf => ?_)
          have pf_5 : AllC g_face_Person hp_5 4 (setR css_2 t75.1 2 (sl p_5 (val (Jh (val (Jk l_3 t75.1)).Likes ([t69.id_] : List Int))).length)) (val (Q6 l_3 t75.1 (⟨(val (Jk l_3 t75.1)).Id, (val (Jk l_3 t75.1)).Name, (val (Jh (val (Jk l_3 t75.1)).Likes ([t69.id_] : List Int))), (val (Jk l_3 t75.1)).Nots⟩ : T_face_Person))) := AllC.setR (pf_3.mono hle_3) h_t105 h_l2 rfl (by obtain ⟨q0_, q1_, q2_, q3_⟩ := (pf_3.mono hle_3).at h_t105; exact ⟨q0_, q1_, hf, q3_⟩)
          try dsimp only [z1, z2, z5, z6, z7, z8]
          rw [show css_2.length = (setR css_2 t75.1 2 (sl p_5 (val (Jh (val (Jk l_3 t75.1)).Likes ([t69.id_] : List Int))).length)).length from (rfl.trans (Qt _ _ _ _).symm)]
          refine Js (val (Q6 l_3 t75.1 (⟨(val (Jk l_3 t75.1)).Id, (val (Jk l_3 t75.1)).Name, (val (Jh (val (Jk l_3 t75.1)).Likes ([t69.id_] : List Int))), (val (Jk l_3 t75.1)).Nots⟩ : T_face_Person))) (hp_5, (setR css_2 t75.1 2 (sl p_5 (val (Jh (val (Jk l_3 t75.1)).Likes ([t69.id_] : List Int))).length)), p_3) 0 [0, 1, 2] (by exact ⟨rfl, rfl, rfl, rfl, rfl, trivial⟩) (by decide) rfl (by exact ⟨H112, pf_5⟩) (Nat.lt_succ_self _)
          ) (by kernel_rfl)
        ·have H113 := Jx hb H107; clear H107
         refine Jv ?_
         refine Js l_3 (hp_3, css_2, p_3) 0 [0, 1, 2] (by exact ⟨rfl, rfl, rfl, rfl, rfl, trivial⟩) (by decide) rfl (by exact ⟨H113, pf_3⟩) (Nat.lt_succ_self _)
       ·have H114 := Jx hb H104
        refine dp<|dp<|dp<|dp<|dp<|dp<|dp<|dp<|dp<|Qa rfl rfl (Qr (v := .bool false) rfl rfl)<|Y3<|?_
        try dsimp only [z1, z2, z5, z6, z7, z8]
        refine Wq rfl<|Jv<|?_
        refine Js l_3 (hp_3, css_2, p_3) 0 [0, 1, 2] (by exact ⟨rfl, rfl, rfl, rfl, rfl, trivial⟩) (by decide) rfl (by exact ⟨H114, pf_3⟩) (Nat.lt_succ_self _)
       ) (by kernel_rfl)
     ·rintro l_4 ⟨hp_4, css_3, p_4⟩ gg H100 pf_4
      try dsimp only at H100
      try dsimp only
      refine Ja ?_
      obtain ⟨t107, h_t107, H101⟩ := Je H100; clear H100
      refine Jf rfl rfl rfl (Qp rfl rfl h_t107)<|mv (i6 t107)<|Jd<|?_
      try dsimp only [z1, z2, z5, z6, z7, z8]
      refine Js (t107, l_4) (hp_4, css_3, p_4) m2 [0, 1, 2] (by exact ⟨rfl, rfl, rfl, rfl, rfl, trivial⟩) (by decide) rfl (by exact ⟨(by subst hn2; exact H101), pf_4⟩) (Nat.lt_succ_self _)
    ·have H115 := Jx hb H98; clear H98
     refine Q3<|Jc<|Ja<|mv (sl p_3 css_2.length)<|ag (sl p_3 css_2.length)<|ag (i6 0)<|Jd<|?_
     try dsimp only [z1, z2, z5, z6, z7, z8]
     refine Jy ?_
     obtain rfl := Option.some.inj H115
     refine Yp 0 2 rfl rfl (by decide)<|Xc 0 rfl (Zc (k := false) (p := p_3) rfl (fun h => nomatch h) pf_3)<|?_
     refine Vz (v1 := sl p_3 css_2.length) (v2 := i6 0) rfl rfl rfl (Zb p_3 (i := 0) rfl (by first | rfl | rw [(show css_2.length = l_3.length from pf_3.len)]) (by first | exact Imp.refl _ | exact Imp.of (by rw [(show css_2.length = l_3.length from pf_3.len)])))
end Go.Proofs.YthhaabhnlndnoaaGreat

/- FaceChanges, Merge, Split, Confirm, Deny: the walks, printed by our generator; each follows its model. Conditions: the model yields a value. -/
namespace Go.Proofs.YthhaabhnlndnoaaGreat
open Go Go.Vc Go.Md Go.M Go.Lx
set_option maxRecDepth 100000
set_option maxHeartbeats 4000000
set_option linter.unusedVariables false
theorem k94 {q0 : (List T_face_Person)} {vq0 : Value} {c0 : Nat} {q1 : Int} {c1 : Nat} {a0 : Int} {r : Bool} {w : World} {h : Qg} (hw : Know h w Yl) (fq0 : FrN h 4 vq0 g_face_Person q0) (hc0 : h c0 = some (.cells (List.toArray [vq0]) 23 (0, 0))) (hc1 : h c1 = some (.cells (List.toArray [i6 q1]) 3 (0, 0))) (H : Jav q0 q1 a0 = some r) : Does Tryz.prog 94 (List.toArray [i6 a0, .pointer (some ⟨c0, 0, none⟩), .pointer (some ⟨c1, 0, none⟩)]) w (fun v w' => v = (.bool r) ∧ Grow w w') := by
 refine enter (n := 13) Tryz.func94 rfl rfl rfl Yl [] (Sat.nil _ _)<|Jc<|Ja<|ag (.bool false)<|Jd<|Jc<|Ja<|J9 (fun w hF hS => Vg (v := vq0) Tryz.isAgg23 rfl (hw.now hF _ _ hc0) rfl) rfl rfl rfl<|J9 (fun w hF hS => Vg (v := i6 q1) Tryz.isAgg3 rfl (hw.now hF _ _ hc1) rfl) rfl rfl rfl<|?_
 obtain ⟨t7, h_t7, H3⟩ := Je H; clear H
 refine Jf rfl rfl rfl (Qe Tryz.underlying23 Tryz.sizeOf32 rfl rfl fq0.frs (fq0.ix h_t7))<|Jf rfl rfl rfl (Xv Tryz.runUnderlying32 rfl Tryz.sizeOf24 rfl rfl (Ym fq0.frs (fq0.ix h_t7)))<|J9 (fun w hF hS => J2 (f := (elC h vq0 4)) (i := q1) (sz := 4) (j := 2) (v := (Qu h vq0 4 (Int.toNat q1) 2)) Tryz.isAgg24 rfl rfl (fq0.frs.row (hw.now hF)) (fq0.ix h_t7) (V4 (J1 (fq0.at h_t7)) rfl)) rfl rfl rfl<|mv (i6 a0)<|?_
 obtain ⟨t11, h_t11, H4⟩ := Je H3; clear H3
 refine Qf (fun w hF hS => k55 (Jp w) ((show FrS h 1 (Qu h vq0 4 (Int.toNat q1) 2) (t7.Likes.map Jl) from (Jm (fq0.at h_t7))).mono (hw.now hF)) h_t11) Tryz.call55 rfl rfl rfl<|Jf rfl rfl rfl (Ub rfl)<|ag (.bool (!t11))<|Jd<|Jy<|?_
 obtain rfl := Option.some.inj H4
 refine Qw (v := .bool (!t11)) rfl rfl (Yz rfl)
theorem k42 {a0 : (List T_face_Person)} {v0 : Value} {a1 : Int} {a2 : (List Int)} {v2 : Value} {a3 : (List UInt8)} {r : Int × Int} {w : World} {h : Qg} (hw : Know h w Yl) (f0 : FrN h 4 v0 g_face_Person a0) (f2 : FrS h 1 v2 (a2.map Jl)) (H : Ue a0 a1 a2 a3 = some r) : Does Tryz.prog 42 (List.toArray [v0, i6 a1, v2, Xt a3]) w (fun v w' => v = (.tuple #[i6 r.1, i6 r.2]) ∧ Grow w w') := by
 refine enter (n := 65) Tryz.func42 rfl rfl rfl Yl [] (Sat.nil _ _)<|Jc<|Ja<|?_
 refine Wp (cs := [v0]) rfl rfl rfl f0.cells (fun b2 => ?_)
 refine Wh (cs := [i6 0]) Tryz.zeroValue3 rfl rfl rfl (fun b3 => ?_)
 refine ag (i6 0)<|Jd<|Jc<|Ja<|Qq (i := 0) (v := v0) Tryz.isAgg23 rfl rfl rfl rfl rfl<|mv (i6 a1)<|?_
 obtain ⟨t15, h_t15, H27⟩ := Je H; clear H
 refine Qf (fun w hF hS => k33 (Jp w) (f0.mono (hw.now hF)) h_t15) Tryz.call33 rfl rfl rfl<|mv (.tuple #[i6 t15.1, .bool t15.2])<|Jf rfl rfl rfl (Qs (v := i6 t15.1) rfl rfl)<|Jf rfl rfl rfl (Qs (v := .bool t15.2) rfl rfl)<|Y8 (i := 1) (vs := [i6 t15.1]) (cs' := [i6 t15.1]) Tryz.sizeOf3 rfl rfl rfl rfl rfl rfl rfl rfl rfl<|ag (.bool t15.2)<|Jd<|Jc<|Jc<|Ja<|mv (.bool t15.2)<|Jf rfl rfl rfl (Ub rfl)<|mv (.bool (!t15.2))<|?_
 refine split (fun hb => ?_) (fun hb => ?_)
 ·have H28 := Jw hb H27; clear H27
  refine pa<|pa<|pa<|Jf rfl rfl rfl (Q5 (v := .bool true) rfl rfl)<|Jd<|c_true rfl<|Jc<|Ja<|Y8 (i := 1) (vs := [i6 0]) (cs' := [i6 0]) Tryz.sizeOf3 rfl rfl rfl rfl rfl rfl rfl rfl rfl<|ag (i6 7)<|Jd<|Jy<|?_
  obtain rfl := Option.some.inj H28
  refine retC1t (i := 1) (v := i6 0) (v2 := i6 7) Tryz.isAgg3 rfl rfl rfl rfl (Yz rfl)
 ·have H29 := Jx hb H27; clear H27
  refine mv v2<|Jf rfl rfl rfl (Jak (caps := #[.pointer (some ⟨b2, 0, none⟩), .pointer (some ⟨b3, 0, none⟩)]) rfl)<|?_
  obtain ⟨t23, h_t23, H30⟩ := Je H29; clear H29
  refine Qf (fun w hF hS => k40 (Jp w) (f2.mono (hw.now hF)) (FnH.mk ⟨94, #[], #[.pointer (some ⟨b2, 0, none⟩), .pointer (some ⟨b3, 0, none⟩)], rfl, Tryz.call94, fun args2 post2 w2 hk2 hR2 => by obtain ⟨a0_, r_, rfl, H_, rfl⟩ := hR2; exact k94 (Jp w2) ((f0.mono (hw.now hF)).mono hk2.up) (hk2.up _ _ (Zr (i := 0) hS rfl)) (hk2.up _ _ (Zr (i := 1) hS rfl)) H_⟩) h_t23) Tryz.call40 rfl rfl rfl<|Jf rfl rfl rfl (Qr (v := .bool t23) rfl rfl)<|Jd<|?_
  refine Qm (b := t23) rfl (fun hb => ?_) (fun hb => ?_)
  ·have H31 := Jw hb H30; clear H30
   refine Jc<|Ja<|Y8 (i := 1) (vs := [i6 0]) (cs' := [i6 0]) Tryz.sizeOf3 rfl rfl rfl rfl rfl rfl rfl rfl rfl<|ag (i6 7)<|Jd<|Jy<|?_
   obtain rfl := Option.some.inj H31
   refine retC1t (i := 1) (v := i6 0) (v2 := i6 7) Tryz.isAgg3 rfl rfl rfl rfl (Yz rfl)
  ·have H32 := Jx hb H30; clear H30
   refine Jv ?_
   refine Xf (r := r) (σ := Unit) (τ := Unit) (fun s => Jaf a0 a2 a3 t15) (fun s t => [(2, v2), (3, Xt a3), (4, .pointer (some ⟨b2, 0, none⟩)), (8, .pointer (some ⟨b3, 0, none⟩))]) (fun s t => [Q1 b2 [v0] 23, Q1 b3 [i6 t15.1] 3]) (fun s t => True) ?_ ?_
   ·refine Jc<|Ja<|ag (i6 1)<|Jd<|Ju<|?_
    refine X6 (σ := Int) (τ := Unit) (fun next2 s => Vh a0 a2 a3 t15 next2 s) (fun s t => [(2, v2), (3, Xt a3), (4, .pointer (some ⟨b2, 0, none⟩)), (8, .pointer (some ⟨b3, 0, none⟩)), (11, i6 s)]) (fun s t => [Q1 b2 [v0] 23, Q1 b3 [i6 t15.1] 3]) (fun s t => True) 1 () [0, 1] H32 (by exact trivial) (by exact ⟨rfl, rfl, rfl, rfl, rfl, trivial⟩) (by decide) rfl ?_
    rintro x11_2 _ m2 gg H44 _
    clear H32
    try dsimp only at H44
    generalize hn2 : it (fun next2 s => Vh a0 a2 a3 t15 next2 s) m2 = next2 at H44
    try dsimp only
    refine Jc<|Jc<|Ja<|mv (i6 x11_2)<|mv v2<|Jf rfl rfl rfl (Y0 Tryz.underlying24 rfl f2 rfl)<|Jf rfl rfl rfl (Q0 rfl rfl)<|Jd<|?_
    refine Qm (b := (decide (x11_2 < (a2.length : Int)))) rfl (fun hb => ?_) (fun hb => ?_)
    ·have H45 := Jw hb H44; clear H44
     refine Jv<|Jc<|Ju<|Jc<|?_
     exact Qz (Kd.p :: Kd.p :: Kd.p :: Kd.d [] _ :: Kd.p :: Kd.p :: Kd.p :: Kd.p :: Kd.d [] _ :: Kd.p :: []) 0 mixed (by
      refine dm v2<|dm (i6 x11_2)<|?_
      have h_t33 := Jr H45
      have H46 := Jn H45
      refine Qa rfl rfl (Qe Tryz.underlying24 Tryz.sizeOf3 rfl rfl f2 h_t33)<|Wb (fun w hF => J2 (f := Jl) (i := x11_2) (sz := 1) (j := 0) (v := i6 (val (Jk a2 x11_2))) Tryz.isAgg3 rfl rfl (f2.row (hw.now hF)) h_t33 rfl) rfl rfl<|dm v2<|dm (i6 x11_2)<|?_
      have h_t37 := Jr H46
      have H47 := Jn H46
      refine Qa rfl rfl (Zl rfl rfl h_t37) ?_
      have h_t38 := Jr H47
      have H48 := Jn H47
      refine Qa rfl rfl (Qe Tryz.underlying24 Tryz.sizeOf3 rfl rfl f2 h_t38)<|Wb (fun w hF => J2 (f := Jl) (i := (val (gI (x11_2 - 1)))) (sz := 1) (j := 0) (v := i6 (val (Jk a2 (val (gI (x11_2 - 1)))))) Tryz.isAgg3 rfl rfl (f2.row (hw.now hF)) h_t38 rfl) rfl rfl<|Qa rfl rfl (r_leq rfl rfl)<|Y3<|?_
      refine Qm (b := (decide ((val (Jk a2 x11_2)) ≤ (val (Jk a2 (val (gI (x11_2 - 1)))))))) rfl (fun hb => ?_) (fun hb => ?_)
      ·have H49 := Jw hb H48; clear H48
       refine Jc<|Ja<|Y8 (i := 1) (vs := [i6 0]) (cs' := [i6 0]) Tryz.sizeOf3 rfl rfl rfl rfl rfl rfl rfl rfl rfl<|ag (i6 5)<|Jd<|Jy<|?_
       obtain rfl := Option.some.inj H49
       refine retC1t (i := 1) (v := i6 0) (v2 := i6 5) Tryz.isAgg3 rfl rfl rfl rfl (Yz rfl)
      ·have H50 := Jx hb H48; clear H48
       refine Jv<|Ja<|mv (i6 x11_2)<|?_
       obtain ⟨t30, h_t30, H51⟩ := Je H50; clear H50
       refine Jf rfl rfl rfl (Qp rfl rfl h_t30)<|ag (i6 t30)<|Jd<|?_
       refine Js t30 () m2 [0, 1] (by exact ⟨rfl, rfl, rfl, rfl, rfl, trivial⟩) (by decide) rfl (by exact ⟨(by subst hn2; exact H51), trivial⟩) (Nat.lt_succ_self _)
      ) (by kernel_rfl)
    ·have H52 := Jx hb H44; clear H44
     refine Q3 ?_
     refine Js () () 0 [0, 1] (by exact ⟨rfl, rfl, rfl, rfl, trivial⟩) (by decide) rfl (by exact ⟨H52, trivial⟩) (Nat.lt_succ_self _)
   ·rintro _ _ gg H33 _
    try dsimp only at H33
    try dsimp only
    refine Jc<|Ju<|Jc<|Ja<|mv v2<|Jf rfl rfl rfl (Y0 Tryz.underlying24 rfl f2 rfl)<|Jf rfl rfl rfl (Uv rfl rfl)<|mv (.bool (decide ((a2.length : Int) = 0)))<|?_
    refine split (fun hb => ?_) (fun hb => ?_)
    ·have H34 := Jw hb H33; clear H33
     refine pa<|pa<|pa<|pa<|pa<|pa<|pa<|pa<|pa<|Jf rfl rfl rfl (Q5 (v := .bool true) rfl rfl)<|ag (.bool true)<|Jd<|c_true rfl<|Jc<|Ja<|Y8 (i := 1) (vs := [i6 0]) (cs' := [i6 0]) Tryz.sizeOf3 rfl rfl rfl rfl rfl rfl rfl rfl rfl<|ag (i6 1)<|Jd<|Jy<|?_
     obtain rfl := Option.some.inj H34
     refine retC1t (i := 1) (v := i6 0) (v2 := i6 1) Tryz.isAgg3 rfl rfl rfl rfl (Yz rfl)
    ·have H35 := Jx hb H33; clear H33
     refine mv v2<|Jf rfl rfl rfl (Y0 Tryz.underlying24 rfl f2 rfl)<|Qq (i := 0) (v := v0) Tryz.isAgg23 rfl rfl rfl rfl rfl<|Qq (i := 1) (v := i6 t15.1) Tryz.isAgg3 rfl rfl rfl rfl rfl<|?_
     obtain ⟨t50, h_t50, H36⟩ := Je H35; clear H35
     refine Jf rfl rfl rfl (Qe Tryz.underlying23 Tryz.sizeOf32 rfl rfl f0.frs (f0.ix h_t50))<|Jf rfl rfl rfl (Xv Tryz.runUnderlying32 rfl Tryz.sizeOf24 rfl rfl (Ym f0.frs (f0.ix h_t50)))<|J9 (fun w hF hS => J2 (f := (elC h v0 4)) (i := t15.1) (sz := 4) (j := 2) (v := (Qu h v0 4 (Int.toNat t15.1) 2)) Tryz.isAgg24 rfl rfl (f0.frs.row (hw.now hF)) (f0.ix h_t50) (V4 (J1 (f0.at h_t50)) rfl)) rfl rfl rfl<|Jf rfl rfl rfl (Y0 Tryz.underlying24 rfl (show FrS h 1 (Qu h v0 4 (Int.toNat t15.1) 2) (t50.Likes.map Jl) from (Jm (f0.at h_t50))) rfl)<|Jf rfl rfl rfl (Uv rfl rfl)<|Jf rfl rfl rfl (Qr (v := .bool (decide ((a2.length : Int) = (t50.Likes.length : Int)))) rfl rfl)<|ag (.bool (decide ((a2.length : Int) = (t50.Likes.length : Int))))<|Jd<|?_
     refine Qm (b := (decide ((a2.length : Int) = (t50.Likes.length : Int)))) rfl (fun hb => ?_) (fun hb => ?_)
     ·have H37 := Jw hb H36; clear H36
      refine Jc<|Ja<|Y8 (i := 1) (vs := [i6 0]) (cs' := [i6 0]) Tryz.sizeOf3 rfl rfl rfl rfl rfl rfl rfl rfl rfl<|ag (i6 1)<|Jd<|Jy<|?_
      obtain rfl := Option.some.inj H37
      refine retC1t (i := 1) (v := i6 0) (v2 := i6 1) Tryz.isAgg3 rfl rfl rfl rfl (Yz rfl)
     ·have H38 := Jx hb H36; clear H36
      refine Jc<|Ja<|mv (Xt a3)<|?_
      obtain ⟨t58, h_t58, H39⟩ := Je H38; clear H38
      refine Vu (k90 h_t58) Tryz.call90 rfl rfl rfl<|Jf rfl rfl rfl (Ub rfl)<|ag (.bool (!t58))<|Jd<|?_
      refine Qm (b := (!t58)) rfl (fun hb => ?_) (fun hb => ?_)
      ·have H40 := Jw hb H39; clear H39
       refine Jc<|Ja<|Y8 (i := 1) (vs := [i6 0]) (cs' := [i6 0]) Tryz.sizeOf3 rfl rfl rfl rfl rfl rfl rfl rfl rfl<|ag (i6 3)<|Jd<|Jy<|?_
       obtain rfl := Option.some.inj H40
       refine retC1t (i := 1) (v := i6 0) (v2 := i6 3) Tryz.isAgg3 rfl rfl rfl rfl (Yz rfl)
      ·have H41 := Jx hb H39; clear H39
       refine Jc<|Ja<|Qq (i := 0) (v := v0) Tryz.isAgg23 rfl rfl rfl rfl rfl<|Jf rfl rfl rfl (Uh Tryz.underlying23 rfl f0)<|Jf rfl rfl rfl (r_geq rfl rfl)<|ag (.bool (decide (100 ≤ (a0.length : Int))))<|Jd<|?_
       refine Qm (b := (decide (100 ≤ (a0.length : Int)))) rfl (fun hb => ?_) (fun hb => ?_)
       ·have H42 := Jw hb H41; clear H41
        refine Jc<|Ja<|Y8 (i := 1) (vs := [i6 0]) (cs' := [i6 0]) Tryz.sizeOf3 rfl rfl rfl rfl rfl rfl rfl rfl rfl<|ag (i6 12)<|Jd<|Jy<|?_
        obtain rfl := Option.some.inj H42
        refine retC1t (i := 1) (v := i6 0) (v2 := i6 12) Tryz.isAgg3 rfl rfl rfl rfl (Yz rfl)
       ·have H43 := Jx hb H41; clear H41
        refine Jv<|Jc<|Ja<|Qq (i := 1) (v := i6 t15.1) Tryz.isAgg3 rfl rfl rfl rfl rfl<|Y8 (i := 1) (vs := [i6 t15.1]) (cs' := [i6 t15.1]) Tryz.sizeOf3 rfl rfl rfl rfl rfl rfl rfl rfl rfl<|ag (i6 0)<|Jd<|Jy<|?_
        obtain rfl := Option.some.inj H43
        refine retC1t (i := 1) (v := i6 t15.1) (v2 := i6 0) Tryz.isAgg3 rfl rfl rfl rfl (Yz rfl)
theorem k45 {css r : List (List Value)} {cs1 : List Value} {p0 : Option Addr × Nat} {n0 : Nat} {a1 : Int} {v2 : Value} {w : World} {h : Qg} {S : Nat → Prop} (hcs : (Vn 32 4 (sl p0 n0) n0 (css.map idC)).P S w) (hlt : ∀ b, S b → b < w.heap.size) (hw : Know h w S) (hn0 : n0 = css.length) (hcap : p0.2 = n0) (hone : ∀ cs ∈ css, ∀ u ∈ cs, u.oneCell' = true) (hone1 : (([cs1].map idC).all fun x => x.all Value.oneCell') = true) (hl1 : cs1.length = 4) (f2 : FrS h 4 v2 ([cs1].map idC)) (H : gInsN 72 css a1 cs1 = some r) :
    Does Tryz.prog 45 (List.toArray [sl p0 n0, i6 a1, v2]) w (fun v w' => ∃ x : Option Addr × Nat, v = sl x r.length ∧ Turn w w' S (Vn 32 4 (sl x r.length) r.length (r.map idC))) := by
 obtain ⟨rfl, g0, g1, g2, g3⟩ := gInsN_some H
 obtain ⟨ax, c2, rfl, hc2, hm2, f2r⟩ := f2.out
 have hone1 : ∀ u ∈ cs1, u.oneCell' = true := fun u hu => List.all_eq_true.1 (List.all_eq_true.1 hone1 cs1 (by simp [idC])) u hu
 have hins : (Wo css a1 cs1).length = css.length + 1 := insL_len g1 g0
 have h_hi : Ux css a1 css.length = some (css.drop a1.toNat) := gCut_from (by omega)
 have l_hi : (css.drop a1.toNat).length = css.length - a1.toNat := List.length_drop
 refine enter (n := 95) Tryz.func45 rfl rfl rfl S [Vn 32 4 (sl p0 n0) n0 (css.map idC)] (Sat.one hcs hlt) ?_
 refine Zq (fun w hF hS => rowO_all (i := 0) hS rfl) (fun hall => ?_)
 rw [Z9] at hall
 refine Jc<|Ja<|ag (.slice none 0 0)<|Jd<|Jc<|Ja<|mv (sl p0 n0)<|mv (i6 a1)<|J9 (fun w hF hS => Ja8 (xs := css) Tryz.underlying23 Tryz.sizeOf32 rfl rfl hn0 (by omega) h_hi) rfl rfl rfl<|Jd<|Jc<|Ja<|mv (.slice ax 1 c2)<|Jf rfl rfl rfl (Jaw Tryz.underlying23 rfl)<|ag (i6 ((1 : Nat) : Int))<|Jd<|Jc<|Jc<|Ja<|mv (i6 ((1 : Nat) : Int))<|Jf rfl rfl rfl (Uv rfl rfl)<|Jd<|?_
 refine Qm (b := (decide (((1 : Nat) : Int) = 0))) rfl (fun hb => absurd hb (by decide)) (fun hb => ?_)
 refine Jv<|Jc<|Ja<|mv (sl p0 n0)<|Jf rfl rfl rfl (r_lenN Tryz.underlying23 rfl hn0)<|ag (i6 (css.length : Int))<|Jd<|Jc<|Jc<|Ja<|mv (i6 a1)<|mv (i6 (css.length : Int))<|Jf rfl rfl rfl (Uv rfl rfl)<|Jd<|?_
 refine Qm (b := (decide (a1 = (css.length : Int)))) rfl (fun hb => ?_) (fun hb => ?_)
 ·have hab : a1 = css.length := of_decide_eq_true hb
  have he : css ++ [cs1] = Wo css a1 cs1 := by
   have ht : a1.toNat = css.length := by omega
   unfold Wo; rw [ht, List.take_length, List.drop_length, List.append_nil]
  refine Jc<|Ja<|mv (sl p0 n0)<|mv (.slice ax 1 c2)<|?_
  obtain ⟨ad, rfl⟩ : ∃ ad, ax = some ad := by
   rcases f2r with hz | ⟨b, off, cur, t_, k_, ha, _⟩
   ·simp at hz
   ·exact ⟨_, ha⟩
  refine Y7 (turns_appendO (i := 0) (sz := 4) (by_ := 72) (rds := []) (news := [cs1].map idC) (m := n0) (q := 1) (p := p0) Tryz.underlying23 (We Tryz.typeInfo32) rfl rfl rfl rfl rfl rfl rfl rfl rfl (fun x hx => by rw [Z9] at hx; rw [List.mem_singleton.1 hx]; exact hl1) (fun w L' hF hS hj => f2r.row (hw.now hF)) (fun x hx => by rw [Z9] at hx; rw [List.mem_singleton.1 hx]; exact hone1) (by simp only [maxLen]; omega) (by rw [hn0]; exact g2)) rfl rfl rfl (fun p1 => ?_)
  refine ag (sl p1 (n0 + 1))<|Jd<|Jy<|?_
  refine Qw (v := sl p1 (n0 + 1)) rfl rfl (Zb p1 (i := 0) rfl (by rw [hins, hn0]) (Imp.of (by rw [hins, hn0, ← List.map_append, he])))
 ·have hab : ¬ a1 = css.length := of_decide_eq_false hb
  refine Jv<|Jc<|Jc<|Ja<|mv (i6 (css.length : Int))<|mv (i6 ((1 : Nat) : Int))<|Jf rfl rfl rfl (r_add rfl rfl (by omega))<|mv (sl p0 n0)<|Jf rfl rfl rfl (r_cap Tryz.underlying23 rfl)<|Jf rfl rfl rfl (Jaz rfl rfl)<|Jd<|?_
  refine Qm (b := (decide ((p0.2 : Int) < (css.length : Int) + ((1 : Nat) : Int)))) rfl (fun hb => ?_) (fun hb => absurd (of_decide_eq_false hb) (by omega))
  have h_lo : Ux css 0 a1 = some (css.take a1.toNat) := gCut_to (by omega)
  have l_lo : (css.take a1.toNat).length = a1.toNat := by rw [List.length_take]; omega
  refine Jc<|Ja<|mv (sl p0 n0)<|mv (i6 a1)<|J9 (v := sl p0 (css.take a1.toNat).length) (fun w hF hS => Jbb (xs := css) Tryz.underlying23 Tryz.sizeOf32 rfl rfl hn0 (by omega) h_lo) rfl rfl rfl<|mv (i6 (css.length : Int))<|mv (i6 ((1 : Nat) : Int))<|Jf rfl rfl rfl (r_add rfl rfl (by omega))<|mv (i6 a1)<|Jf rfl rfl rfl (r_sub rfl rfl (by omega))<|?_
  have hk : (css.length : Int) + ((1 : Nat) : Int) - a1 = ((css.length + 1 - a1.toNat : Nat) : Int) := by omega
  rw [l_lo, hk]
  have hsum : a1.toNat + (css.length + 1 - a1.toNat) = css.length + 1 := by omega
  refine Yk (makes_growZ (i := 0) (sz := 4) (by_ := 72) (xs := css.map idC) (p := p0) (m := n0) (a := a1.toNat) (k := css.length + 1 - a1.toNat) Tryz.underlying23 Tryz.underlying3 (We Tryz.typeInfo32) rfl rfl rfl rfl rfl rfl rfl (by omega) rfl (by omega) (by omega) (by rw [hsum]; simp only [maxLen]; omega) (by rw [hsum]; exact g2)) rfl rfl rfl (fun p1 => ?_)
  refine ag (sl p1 (a1.toNat + (css.length + 1 - a1.toNat)))<|Jd<|?_
  have hr1 : (css.map idC).take a1.toNat ++ List.replicate (css.length + 1 - a1.toNat) [i6 0, Xt [], .slice none 0 0, .slice none 0 0] = (css.take a1.toNat ++ (List.replicate (css.length + 1 - a1.toNat) [i6 0, Xt [], .slice none 0 0, .slice none 0 0])) := by rw [Z9]
  refine Xc 1 rfl (Imp.of (congrArg (J5 32 4 (sl p1 (a1.toNat + (css.length + 1 - a1.toNat))) (a1.toNat + (css.length + 1 - a1.toNat))) hr1)) ?_
  have len1 : (css.take a1.toNat ++ (List.replicate (css.length + 1 - a1.toNat) [i6 0, Xt [], .slice none 0 0, .slice none 0 0])).length = (a1.toNat + (css.length + 1 - a1.toNat)) := by rw [List.length_append, l_lo, List.length_replicate]
  generalize hR1 : (css.take a1.toNat ++ (List.replicate (css.length + 1 - a1.toNat) [i6 0, Xt [], .slice none 0 0, .slice none 0 0])) = R1 at len1
  have hcut1 : Ux R1 a1 R1.length = some (R1.drop a1.toNat) := gCut_from (by omega)
  have ldr1 : (R1.drop a1.toNat).length = css.length + 1 - a1.toNat := by rw [List.length_drop, len1]; omega
  refine Jc<|Ja<|mv (sl p1 (a1.toNat + (css.length + 1 - a1.toNat)))<|mv (i6 a1)<|J9 (v := .slice (Za p1.1 a1.toNat p1.2 4) (R1.drop a1.toNat).length (p1.2 - a1.toNat)) (fun w hF hS => Ja8 (xs := R1) Tryz.underlying23 Tryz.sizeOf32 rfl rfl len1.symm (capOf (i := 1) hS rfl) hcut1) rfl rfl rfl<|mv (.slice ax 1 c2)<|?_
  refine Y7 (turns_copyK (i := 1) (rds := []) (xs := R1) (news := [cs1].map idC) (sz := 4) (m := (a1.toNat + (css.length + 1 - a1.toNat))) (a := a1.toNat) (q := 1) (p := p1) Tryz.underlying23 (We Tryz.typeInfo32) rfl rfl len1.symm rfl (by omega) rfl (by omega) rfl (by omega) (fun w L' hF hS hj => f2r.row (hw.now hF)) (fun x hx => by rw [Z9] at hx; rw [List.mem_singleton.1 hx]; exact hl1) (fun x hx => by rw [Z9] at hx; rw [List.mem_singleton.1 hx]; exact hone1)) rfl rfl rfl (fun _ => ?_)
  refine Jd ?_
  have len2 : (R1.take a1.toNat ++ [cs1].map idC ++ R1.drop (a1.toNat + 1)).length = (a1.toNat + (css.length + 1 - a1.toNat)) := by simp only [List.length_append, List.length_take, List.length_drop, List.length_map, List.length_cons, List.length_nil, len1]; omega
  generalize hR2 : R1.take a1.toNat ++ [cs1].map idC ++ R1.drop (a1.toNat + 1) = R2 at len2
  have hcut2 : Ux R2 (a1 + ((1 : Nat) : Int)) R2.length = some (R2.drop (a1 + ((1 : Nat) : Int)).toNat) := gCut_from (by omega)
  have ht1 : (a1 + ((1 : Nat) : Int)).toNat = a1.toNat + 1 := by omega
  rw [ht1] at hcut2
  have ldr2 : (R2.drop (a1.toNat + 1)).length = css.length - a1.toNat := by rw [List.length_drop, len2]; omega
  refine Jc ?_
  exact Qz (Kd.p :: Kd.p :: Kd.p :: Kd.p :: Kd.d [1] _ :: Kd.p :: Kd.p :: Kd.d [0] _ :: Kd.t 1 [0] _ _ :: []) 0 mixed (by
   refine dm (sl p1 (a1.toNat + (css.length + 1 - a1.toNat)))<|dm (i6 a1)<|dm (i6 ((1 : Nat) : Int))<|Qa rfl rfl (r_add rfl rfl (by omega))<|Qc (v := .slice (Za p1.1 (a1.toNat + 1) p1.2 4) (R2.drop (a1.toNat + 1)).length (p1.2 - (a1.toNat + 1))) (fun w L' hF hS hi => ht1 ▸ Ja8 (xs := R2) Tryz.underlying23 Tryz.sizeOf32 rfl rfl len2.symm (capOf (i := 1) hS ((hi 1 (by simp)).trans rfl)) (ht1.symm ▸ hcut2)) rfl rfl<|dm (sl p0 n0)<|dm (i6 a1)<|Qc (v := .slice (Za p0.1 a1.toNat p0.2 4) (css.drop a1.toNat).length (p0.2 - a1.toNat)) (fun w L' hF hS hi => Ja8 (xs := css) Tryz.underlying23 Tryz.sizeOf32 rfl rfl hn0 (by omega) h_hi) rfl rfl<|?_
   refine d_turn (Cv := fun _ => J5 32 4 (sl p1 (a1.toNat + (css.length + 1 - a1.toNat))) (a1.toNat + (css.length + 1 - a1.toNat)) (R2.take (a1.toNat + 1) ++ (css.drop a1.toNat).map idC ++ R2.drop (a1.toNat + 1 + (css.drop a1.toNat).length))) ()
    (turns_copyK (i := 1) (rds := [0]) (xs := R2) (news := (css.drop a1.toNat).map idC) (sz := 4) (m := (a1.toNat + (css.length + 1 - a1.toNat))) (a := a1.toNat + 1) (q := (css.drop a1.toNat).length) (p := p1) Tryz.underlying23 (We Tryz.typeInfo32) rfl rfl len2.symm rfl (by omega) rfl (by omega) (List.length_map _).symm (by omega)
     (fun w L' hF hS hj => Row.cutG (xs := css) (f := idC) (Zm (i := 0) hS ((hj 0 (by simp)).trans rfl)) hn0 (by omega) h_hi) (by rw [Z9]; exact fun x hx => hall x (List.mem_of_mem_drop hx)) (by rw [Z9]; exact fun x hx => hone x (List.mem_of_mem_drop hx))) (fun _ => rfl) rfl rfl (fun _ => ?_)
   refine Y3 ?_
   have hch : R2.take (a1.toNat + 1) ++ (css.drop a1.toNat).map idC ++ R2.drop (a1.toNat + 1 + (css.drop a1.toNat).length) = (Wo css a1 cs1).map idC := by
    have e3 : R2.drop (a1.toNat + 1 + (css.drop a1.toNat).length) = [] := List.eq_nil_of_length_eq_zero (by rw [List.length_drop, len2]; omega)
    have t1 : R1.take a1.toNat = css.take a1.toNat := by rw [← hR1, List.take_append_of_le_length (by omega), List.take_of_length_le (by omega)]
    have t2 : R2.take (a1.toNat + 1) = css.take a1.toNat ++ [cs1] := by
     rw [← hR2, t1, List.take_append_of_le_length (by simp only [List.length_append, List.length_map, List.length_cons, List.length_nil, l_lo]; omega), List.take_of_length_le (by simp only [List.length_append, List.length_map, List.length_cons, List.length_nil, l_lo]; omega), Z9]
    rw [e3, t2, List.append_nil, Z9, Z9, List.append_assoc]; rfl
   refine Jc<|Ja<|mv (sl p1 (a1.toNat + (css.length + 1 - a1.toNat)))<|ag (sl p1 (a1.toNat + (css.length + 1 - a1.toNat)))<|Jd<|Jy<|Xc 1 rfl (Zs _ _ _ _ _)<|?_
   refine Qw (v := sl p1 (a1.toNat + (css.length + 1 - a1.toNat))) rfl rfl (Zb p1 (i := 1) rfl (by rw [hins, hsum]) (Imp.of (by rw [hins, hch, hsum])))
   ) (by kernel_rfl)
theorem k8 {a0 : (List T_face_Likeness)} {v0 : Value} {a1 : (List T_face_Person)} {v1 : Value} {a2 : Int} {a3 : (List Int)} {v3 : Value} {a4 : (List UInt8)} {r : (List T_face_Person) × Int} {w : World} {h : Qg} (hw : Know h w Yl) (f0 : FrS h 14 v0 (a0.map Jq)) (f1 : FrN h 4 v1 g_face_Person a1) (f3 : FrS h 1 v3 (a3.map Jl)) (H : Ja3 a0 a1 a2 a3 a4 = some r) : Does Tryz.prog 8 (List.toArray [v0, v1, i6 a2, v3, Xt a4]) w (fun v w' => ∃ x : (Option Addr × Nat), v = (.tuple #[sl x r.1.length, i6 r.2]) ∧ Turn w w' Yl (rofD true 32 4 g_face_Person (sl x r.1.length) r.1.length r.1)) := by
 refine enter (n := 98) Tryz.func8 rfl rfl rfl Yl [] (Sat.nil _ _)<|Wy Yo<|Jc<|Ja<|ag (.slice none 0 0)<|ag (i6 0)<|Jd<|Jc<|Jc<|Ja<|mv v0<|mv v1<|?_
 obtain ⟨t21, h_t21, H57⟩ := Je H; clear H
 refine Qf (fun w hF hS => k7 (Jp w) (f0.mono (hw.now hF)) (f1.mono (hw.now hF)) h_t21) Tryz.call7 rfl rfl rfl<|ag (i6 t21)<|Jd<|Jc<|Ja<|mv (i6 t21)<|Jf rfl rfl rfl (r_neq rfl rfl)<|Jd<|?_
 refine Qm (b := (decide (t21 ≠ 0))) rfl (fun hb => ?_) (fun hb => ?_)
 ·have H58 := Jw hb H57; clear H57
  refine Jc<|Ja<|mv (i6 t21)<|ag (.slice none 0 0)<|ag (i6 t21)<|Jd<|Jy<|Q9 32 4<|?_
  obtain rfl := Option.some.inj H58
  refine Xc 1 rfl (Zs _ _ _ _ _)<|Yp 0 1 rfl rfl (by decide)<|Xc 0 rfl (Zc (k := true) (p := nn) rfl (fun _ => rfl) (AllC.nil (G := g_face_Person) (h := Yo) (sz := 4)))<|?_
  refine Vz (v1 := sl nn (([] : List (List Value)).length)) (v2 := i6 t21) rfl rfl rfl (Zb nn (i := 0) rfl (by first | rfl | rw [(show (([] : List (List Value)).length) = ([] : List T_face_Person).length from (AllC.nil (G := g_face_Person) (h := Yo) (sz := 4)).len)]) (by first | exact Imp.refl _ | exact Imp.of (by rw [(show (([] : List (List Value)).length) = ([] : List T_face_Person).length from (AllC.nil (G := g_face_Person) (h := Yo) (sz := 4)).len)])))
 ·have H59 := Jx hb H57; clear H57
  refine Jv<|Jc<|Ja<|mv v1<|mv (i6 a2)<|mv v3<|mv (Xt a4)<|?_
  obtain ⟨t30, h_t30, H60⟩ := Je H59; clear H59
  refine Qf (fun w hF hS => k42 (Jp w) (f1.mono (hw.now hF)) (f3.mono (hw.now hF)) h_t30) Tryz.call42 rfl rfl rfl<|mv (.tuple #[i6 t30.1, i6 t30.2])<|Jf rfl rfl rfl (Qs (v := i6 t30.1) rfl rfl)<|Jf rfl rfl rfl (Qs (v := i6 t30.2) rfl rfl)<|ag (i6 t30.1)<|ag (i6 t30.2)<|Jd<|Jc<|Jc<|Ja<|mv (i6 t30.2)<|Jf rfl rfl rfl (r_neq rfl rfl)<|Jd<|?_
  refine Qm (b := (decide (t30.2 ≠ 0))) rfl (fun hb => ?_) (fun hb => ?_)
  ·have H61 := Jw hb H60; clear H60
   refine Jc<|Ja<|mv (i6 t30.2)<|ag (.slice none 0 0)<|ag (i6 t30.2)<|Jd<|Jy<|Q9 32 4<|?_
   obtain rfl := Option.some.inj H61
   refine Xc 1 rfl (Zs _ _ _ _ _)<|Yp 0 1 rfl rfl (by decide)<|Xc 0 rfl (Zc (k := true) (p := nn) rfl (fun _ => rfl) (AllC.nil (G := g_face_Person) (h := Yo) (sz := 4)))<|?_
   refine Vz (v1 := sl nn (([] : List (List Value)).length)) (v2 := i6 t30.2) rfl rfl rfl (Zb nn (i := 0) rfl (by first | rfl | rw [(show (([] : List (List Value)).length) = ([] : List T_face_Person).length from (AllC.nil (G := g_face_Person) (h := Yo) (sz := 4)).len)]) (by first | exact Imp.refl _ | exact Imp.of (by rw [(show (([] : List (List Value)).length) = ([] : List T_face_Person).length from (AllC.nil (G := g_face_Person) (h := Yo) (sz := 4)).len)])))
  ·have H62 := Jx hb H60; clear H60
   refine Jv<|Jc<|Ja<|mv v1<|?_
   obtain ⟨t37, h_t37, H63⟩ := Je H62; clear H62
   refine Yk (J8 (rds := []) (G := fun x : (Option Addr × Nat) => sl x t37.length) (C := fun x : (Option Addr × Nat) => rofD true 32 4 g_face_Person (sl x t37.length) t37.length t37) (fun w L' hF hS hi => k32 (Jp w) (f1.mono (hw.now hF)) h_t37) Tryz.call32 rfl) rfl rfl rfl (fun p => ?_)
   refine c_rofD 1 rfl (fun hp css hn hc pf => ?_)
   rw [hn]
   refine V7 1 rfl ?_
   refine Yv 0 1 rfl rfl (by decide) (fun _ _ => Qo) (fun hp_2 hle hle_2 => ?_)
   refine ag (sl p css.length)<|Jd<|?_
   try dsimp only [z1, z2, z5, z6, z7, z8]
   refine Jc<|Ja<|mv (sl p css.length)<|mv (i6 t30.1)<|?_
   obtain ⟨t40, h_t40, H64⟩ := Je H63; clear H63
   refine J9 (fun w hF hS => J3 Tryz.underlying23 Tryz.sizeOf32 rfl rfl (Zm (i := 2) hS rfl) rfl ((pf.mono hle_2).ix h_t40)) rfl rfl rfl<|ag _<|Jd<|?_
   try dsimp only [z1, z2, z5, z6, z7, z8]
   refine Jc<|Ja<|mv _<|mv _<|J9 (fun w hF hS => run_nilG rfl (Zm (i := 2) hS rfl) ((pf.mono hle_2).ix h_t40)) rfl rfl rfl<|?_
   refine Zq (fun w hF hS => someOfO (i := 2) hS rfl ((pf.mono hle_2).ix h_t40)) (fun hs => ?_)
   refine Jf rfl rfl rfl (Xv Tryz.runUnderlying32 rfl Tryz.sizeOf24 rfl rfl hs)<|J9 (fun w hF hS => J2 (f := idC) (i := t30.1) (sz := 4) (j := 2) (v := (List.getD (List.getD css (Int.toNat t30.1) []) 2 undef)) Tryz.isAgg24 rfl rfl (Zm (i := 2) hS rfl) ((pf.mono hle_2).ix h_t40) (V4 (((pf.mono hle_2).eta h_t40).trans (J1 ((pf.mono hle_2).at h_t40))) rfl)) rfl rfl rfl<|mv v3<|?_
   obtain ⟨t47, h_t47, H65⟩ := Je H64; clear H64
   refine Yk (J8 (rds := [0]) (G := fun x : (Option Addr × Nat) => sl x t47.length) (C := fun x : (Option Addr × Nat) => roV 1 (sl x t47.length) t47.length (t47.map Jl)) (fun w L' hF hS hi => k43 (Jp w) ((show FrS hp_2 1 (List.getD (List.getD css (Int.toNat t30.1) []) 2 undef) (t40.Likes.map Jl) from (Jm ((pf.mono hle_2).at h_t40))).mono (Xi (i := 0) hS ((hi 0 (by simp)).trans rfl) Qo)) (f3.mono (hw.now hF)) h_t47) Tryz.call43 rfl) rfl rfl rfl (fun p_2 => ?_)
   refine J9 (fun w hF hS => run_nilG rfl (Zm (i := 2) hS rfl) ((pf.mono hle_2).ix h_t40)) rfl rfl rfl ?_
   refine Zq (fun w hF hS => someOfO (i := 2) hS rfl ((pf.mono hle_2).ix h_t40)) (fun hs_2 => ?_)
   refine Jf rfl rfl rfl (Xv Tryz.runUnderlying32 rfl Tryz.sizeOf24 rfl rfl hs_2) ?_
   refine Yq (Φ := fun H_ => FrS H_ 1 (sl p_2 t47.length) (t47.map Jl)) 0 3 rfl rfl (by decide) (fun _ _ => Qo) (fz_ro _) (fun hp_3 hle_3 hf => ?_)
   obtain ⟨l2, h_l2, H66⟩ := Je H65; clear H65
   refine Jb4 (turns_storeO (q := 2) (j := 2) (i := t30.1) (sz := 4) (x := (sl p_2 t47.length)) (css := css) (xe := t40) rfl ((pf.mono hle_2).mono hle_3).len Tryz.sizeOf24 rfl rfl rfl rfl rfl rfl rfl h_t40) rfl rfl (fun _ => ?_)
   have pf_2 : AllC g_face_Person hp_3 4 (setR css t30.1 2 (sl p_2 t47.length)) l2 := AllC.setR ((pf.mono hle_2).mono hle_3) h_t40 h_l2 rfl (by obtain ⟨q0_, q1_, q2_, q3_⟩ := ((pf.mono hle_2).mono hle_3).at h_t40; exact ⟨q0_, q1_, hf, q3_⟩)
   refine Jd ?_
   try dsimp only [z1, z2, z5, z6, z7, z8]
   refine Jc ?_
   exact Qz (Kd.p :: Kd.p :: Kd.t 4 [0] _ _ :: Kd.p :: Kd.d [2] _ :: Kd.d [2] _ :: Kd.d [2] _ :: Kd.p :: Kd.d [2] _ :: Kd.d [2] _ :: Kd.d [2] _ :: Kd.t 5 [0] _ _ :: Kd.p :: Kd.nw 6 [_, _, _, _] 32 :: Kd.sv 17 62 6 _ 32 :: []) 3 mixed (by
    refine dm (Xt a4)<|dm v3<|?_
    have h_t52 := Jr H66
    have H67 := Jn H66
    refine Uc (Cv := fun v => roV 1 v (val (Jh a3 ([] : (List Int)))).length ((val (Jh a3 ([] : (List Int)))).map Jl)) (none, 0) (J8 (G := fun x : (Option Addr × Nat) => sl x (val (Jh a3 ([] : (List Int)))).length) (C := fun x : (Option Addr × Nat) => roV 1 (sl x (val (Jh a3 ([] : (List Int)))).length) (val (Jh a3 ([] : (List Int)))).length ((val (Jh a3 ([] : (List Int)))).map Jl)) (fun w L' hF hS hi => k36 (Jp w) (f3.mono (hw.now hF)) (FrS.nil _ _) h_t52) Tryz.call36 rfl) (fun _ => rfl) rfl rfl rfl (fun p_3 => ?_)
    refine dm _ ?_
    have h_t2 := Jr H67
    have H68 := Jn H67
    refine Y5 rfl rfl (fun w L' hF hS hi => run_nilG rfl (Zm (i := 2) (E := 32) (sz := 4) (n := css.length) (a := p.1) (c := p.2) hS ((hi 2 (by simp)).trans rfl)) (pf_2.ix h_t2))<|Y5 rfl rfl (fun w L' hF hS hi => Xn Tryz.runUnderlying32 rfl Tryz.sizeOf24 rfl rfl (Zm (i := 2) (E := 32) (sz := 4) (n := css.length) (a := p.1) (c := p.2) hS ((hi 2 (by simp)).trans rfl)) (pf_2.ix h_t2))<|Qc (fun w L' hF hS hi => J2 (f := idC) (i := t30.1) (sz := 4) (j := 3) (v := (List.getD (List.getD (setR css t30.1 2 (sl p_2 t47.length)) (Int.toNat t30.1) []) 3 undef)) Tryz.isAgg24 rfl rfl (Zm (i := 2) (E := 32) (sz := 4) (n := css.length) (a := p.1) (c := p.2) hS ((hi 2 (by simp)).trans rfl)) (pf_2.ix h_t2) (V4 ((pf_2.eta h_t2).trans (J1 (pf_2.at h_t2))) rfl)) rfl rfl<|dm _<|?_
    have h_t2_2 := Jr H68
    have H69 := Jn H68
    refine Y5 rfl rfl (fun w L' hF hS hi => run_nilG rfl (Zm (i := 2) (E := 32) (sz := 4) (n := css.length) (a := p.1) (c := p.2) hS ((hi 2 (by simp)).trans rfl)) (pf_2.ix h_t2_2))<|Y5 rfl rfl (fun w L' hF hS hi => Xn Tryz.runUnderlying32 rfl Tryz.sizeOf24 rfl rfl (Zm (i := 2) (E := 32) (sz := 4) (n := css.length) (a := p.1) (c := p.2) hS ((hi 2 (by simp)).trans rfl)) (pf_2.ix h_t2_2))<|Qc (fun w L' hF hS hi => J2 (f := idC) (i := t30.1) (sz := 4) (j := 2) (v := (List.getD (List.getD (setR css t30.1 2 (sl p_2 t47.length)) (Int.toNat t30.1) []) 2 undef)) Tryz.isAgg24 rfl rfl (Zm (i := 2) (E := 32) (sz := 4) (n := css.length) (a := p.1) (c := p.2) hS ((hi 2 (by simp)).trans rfl)) (pf_2.ix h_t2_2) (V4 ((pf_2.eta h_t2_2).trans (J1 (pf_2.at h_t2_2))) rfl)) rfl rfl<|?_
    have h_t61 := Jr H69
    have H70 := Jn H69
    refine Uc (Cv := fun v => roV 1 v (val (Jh (val (Jk l2 t30.1)).Nots (val (Jk l2 t30.1)).Likes)).length ((val (Jh (val (Jk l2 t30.1)).Nots (val (Jk l2 t30.1)).Likes)).map Jl)) (none, 0) (J8 (G := fun x : (Option Addr × Nat) => sl x (val (Jh (val (Jk l2 t30.1)).Nots (val (Jk l2 t30.1)).Likes)).length) (C := fun x : (Option Addr × Nat) => roV 1 (sl x (val (Jh (val (Jk l2 t30.1)).Nots (val (Jk l2 t30.1)).Likes)).length) (val (Jh (val (Jk l2 t30.1)).Nots (val (Jk l2 t30.1)).Likes)).length ((val (Jh (val (Jk l2 t30.1)).Nots (val (Jk l2 t30.1)).Likes)).map Jl)) (fun w L' hF hS hi => k36 (Jp w) ((show FrS hp_3 1 (List.getD (List.getD (setR css t30.1 2 (sl p_2 t47.length)) (Int.toNat t30.1) []) 3 undef) ((val (Jk l2 t30.1)).Nots.map Jl) from (Jt (pf_2.at h_t2))).mono (Xi (i := 0) hS ((hi 0 (by simp)).trans rfl) Qo)) ((show FrS hp_3 1 (List.getD (List.getD (setR css t30.1 2 (sl p_2 t47.length)) (Int.toNat t30.1) []) 2 undef) ((val (Jk l2 t30.1)).Likes.map Jl) from (Jm (pf_2.at h_t2_2))).mono (Xi (i := 0) hS ((hi 0 (by simp)).trans rfl) Qo)) h_t61) Tryz.call36 rfl) (fun _ => rfl) rfl rfl rfl (fun p_4 => ?_)
    refine Qa rfl rfl (r_build (pl := #[(0, 1), (1, 1), (2, 1), (3, 1)]) (ps := [(0, i6 1), (1, Xt a4), (2, sl p_3 (val (Jh a3 ([] : (List Int)))).length), (3, sl p_4 (val (Jh (val (Jk l2 t30.1)).Nots (val (Jk l2 t30.1)).Likes)).length)]) (cells := #[i6 1, Xt a4, sl p_3 (val (Jh a3 ([] : (List Int)))).length, sl p_4 (val (Jh (val (Jk l2 t30.1)).Nots (val (Jk l2 t30.1)).Likes)).length]) Tryz.zeroValue32 Tryz.runUnderlying32 (fun w => by kernel_rfl) rfl rfl) ?_
    refine d_new rfl rfl (run_alloc (cs := [i6 0, Xt [], .slice none 0 0, .slice none 0 0]) Tryz.zeroValue32 rfl) rfl (fun b4 => ?_)
    refine d_storeV (i := 6) (vs := [i6 1, Xt a4, sl p_3 (val (Jh a3 ([] : (List Int)))).length, sl p_4 (val (Jh (val (Jk l2 t30.1)).Nots (val (Jk l2 t30.1)).Likes)).length]) (cs' := fun v_ => [(vcell v_ 0), (vcell v_ 1), (vcell v_ 2), (vcell v_ 3)]) Tryz.sizeOf32 rfl rfl rfl rfl rfl rfl rfl rfl rfl<|Y3<|?_
    try dsimp only [z1, z2, z5, z6, z7, z8]
    refine Jc<|Ja<|mv _<|mv _<|?_
    obtain ⟨t2_3, h_t2_3, H71⟩ := Je H70; clear H70
    refine J9 (fun w hF hS => run_nilG rfl (Zm (i := 2) hS rfl) (pf_2.ix h_t2_3)) rfl rfl rfl ?_
    refine Zq (fun w hF hS => someOfO (i := 2) hS rfl (pf_2.ix h_t2_3)) (fun hs_3 => ?_)
    refine Jf rfl rfl rfl (Xv Tryz.runUnderlying32 rfl Tryz.sizeOf24 rfl rfl hs_3)<|J9 (fun w hF hS => J2 (f := idC) (i := t30.1) (sz := 4) (j := 3) (v := (List.getD (List.getD (setR css t30.1 2 (sl p_2 t47.length)) (Int.toNat t30.1) []) 3 undef)) Tryz.isAgg24 rfl rfl (Zm (i := 2) hS rfl) (pf_2.ix h_t2_3) (V4 ((pf_2.eta h_t2_3).trans (J1 (pf_2.at h_t2_3))) rfl)) rfl rfl rfl<|mv v3<|?_
    obtain ⟨t69, h_t69, H72⟩ := Je H71; clear H71
    refine Yk (J8 (rds := [0]) (G := fun x : (Option Addr × Nat) => sl x t69.length) (C := fun x : (Option Addr × Nat) => roV 1 (sl x t69.length) t69.length (t69.map Jl)) (fun w L' hF hS hi => k36 (Jp w) ((show FrS hp_3 1 (List.getD (List.getD (setR css t30.1 2 (sl p_2 t47.length)) (Int.toNat t30.1) []) 3 undef) (t2_3.Nots.map Jl) from (Jt (pf_2.at h_t2_3))).mono (Xi (i := 0) hS ((hi 0 (by simp)).trans rfl) Qo)) (f3.mono (hw.now hF)) h_t69) Tryz.call36 rfl) rfl rfl rfl (fun p_5 => ?_)
    obtain ⟨t2_4, h_t2_4, H73⟩ := Je H72; clear H72
    refine J9 (fun w hF hS => run_nilG rfl (Zm (i := 2) hS rfl) (pf_2.ix h_t2_4)) rfl rfl rfl ?_
    refine Zq (fun w hF hS => someOfO (i := 2) hS rfl (pf_2.ix h_t2_4)) (fun hs_4 => ?_)
    refine Jf rfl rfl rfl (Xv Tryz.runUnderlying32 rfl Tryz.sizeOf24 rfl rfl hs_4) ?_
    refine Yq (Φ := fun H_ => FrS H_ 1 (sl p_5 t69.length) (t69.map Jl)) 0 7 rfl rfl (by decide) (fun _ _ => Qo) (fz_ro _) (fun hp_4 hle_4 hf_2 => ?_)
    obtain ⟨l2_2, h_l2_2, H74⟩ := Je H73; clear H73
    refine Jb4 (turns_storeO (q := 2) (j := 3) (i := t30.1) (sz := 4) (x := (sl p_5 t69.length)) (css := (setR css t30.1 2 (sl p_2 t47.length))) (xe := t2_4) (rfl.trans (Qt _ _ _ _).symm) (pf_2.mono hle_4).len Tryz.sizeOf24 rfl rfl rfl rfl rfl rfl rfl h_t2_4) rfl rfl (fun _ => ?_)
    have pf_3 : AllC g_face_Person hp_4 4 (setR (setR css t30.1 2 (sl p_2 t47.length)) t30.1 3 (sl p_5 t69.length)) l2_2 := AllC.setR (pf_2.mono hle_4) h_t2_4 h_l2_2 rfl (by obtain ⟨q0_, q1_, q2_, q3_⟩ := (pf_2.mono hle_4).at h_t2_4; exact ⟨q0_, q1_, q2_, hf_2⟩)
    refine Jd ?_
    try dsimp only [z1, z2, z5, z6, z7, z8]
    refine Jc<|Ja<|ag (i6 0)<|Jd<|?_
    try dsimp only [z1, z2, z5, z6, z7, z8]
    refine Xf (r := r) (σ := Int × Int × (List Int) × (List Int)) (τ := Unit) (fun s => Jb1 a4 l2_2 s.1 s.2.1 s.2.2.1 s.2.2.2) (fun s t => [(15, sl p css.length), (17, .pointer (some ⟨b4, 0, none⟩)), (18, i6 s.1)]) (fun s t => [Yx Yo hp_4, Vn 32 4 (sl p css.length) css.length ((setR (setR css t30.1 2 (sl p_2 t47.length)) t30.1 3 (sl p_5 t69.length)).map idC), roV 1 (sl p_3 (val (Jh a3 ([] : (List Int)))).length) (val (Jh a3 ([] : (List Int)))).length (s.2.2.1.map Jl), roV 1 (sl p_4 (val (Jh (val (Jk l2 t30.1)).Nots (val (Jk l2 t30.1)).Likes)).length) (val (Jh (val (Jk l2 t30.1)).Nots (val (Jk l2 t30.1)).Likes)).length (s.2.2.2.map Jl), Q1 b4 [i6 s.2.1, Xt a4, sl p_3 (val (Jh a3 ([] : (List Int)))).length, sl p_4 (val (Jh (val (Jk l2 t30.1)).Nots (val (Jk l2 t30.1)).Likes)).length] 32]) (fun s t => AllC g_face_Person hp_4 4 (setR (setR css t30.1 2 (sl p_2 t47.length)) t30.1 3 (sl p_5 t69.length)) l2_2 ∧ (val (Jh a3 ([] : (List Int)))).length = s.2.2.1.length ∧ (val (Jh (val (Jk l2 t30.1)).Nots (val (Jk l2 t30.1)).Likes)).length = s.2.2.2.length) ?_ ?_
    ·refine Ju ?_
     refine c_dr 7 <| c_dr 3 <| c_dr 1 ?_
     try dsimp only [z1, z2, z3, z4, z5, z6, z7, z8]
     refine X6 (σ := Int × Int) (τ := Unit) (fun next2 s => Up a4 (val (Jh a3 ([] : (List Int)))) (val (Jh (val (Jk l2 t30.1)).Nots (val (Jk l2 t30.1)).Likes)) l2_2 next2 s.1 s.2) (fun s t => [(15, sl p css.length), (17, .pointer (some ⟨b4, 0, none⟩)), (18, i6 s.1)]) (fun s t => [Yx Yo hp_4, Vn 32 4 (sl p css.length) css.length ((setR (setR css t30.1 2 (sl p_2 t47.length)) t30.1 3 (sl p_5 t69.length)).map idC), roV 1 (sl p_3 (val (Jh a3 ([] : (List Int)))).length) (val (Jh a3 ([] : (List Int)))).length ((val (Jh a3 ([] : (List Int)))).map Jl), roV 1 (sl p_4 (val (Jh (val (Jk l2 t30.1)).Nots (val (Jk l2 t30.1)).Likes)).length) (val (Jh (val (Jk l2 t30.1)).Nots (val (Jk l2 t30.1)).Likes)).length ((val (Jh (val (Jk l2 t30.1)).Nots (val (Jk l2 t30.1)).Likes)).map Jl), Q1 b4 [i6 s.2, Xt a4, sl p_3 (val (Jh a3 ([] : (List Int)))).length, sl p_4 (val (Jh (val (Jk l2 t30.1)).Nots (val (Jk l2 t30.1)).Likes)).length] 32]) (fun s t => True) (0, 1) () [0, 1, 2, 3, 4] H74 (by exact trivial) (by exact ⟨rfl, rfl, rfl, trivial⟩) (by decide) rfl ?_
     rintro ⟨x18_3, m_3⟩ _ m2 gg H77 _
     clear H74
     try dsimp only at H77
     generalize hn2 : it (fun next2 s => Up a4 (val (Jh a3 ([] : (List Int)))) (val (Jh (val (Jk l2 t30.1)).Nots (val (Jk l2 t30.1)).Likes)) l2_2 next2 s.1 s.2) m2 = next2 at H77
     try dsimp only
     refine Jc<|Jc<|?_
     exact Qz (Kd.p :: Kd.p :: Kd.p :: Kd.p :: Kd.p :: Kd.p :: Kd.p :: Kd.d [1] _ :: Kd.d [1] _ :: Kd.d [1] _ :: Kd.p :: Kd.d [4] _ :: Kd.p :: Kd.p :: []) 0 mixed (by
      refine dm (i6 x18_3)<|dm (sl p css.length)<|Qa rfl rfl (r_lenN Tryz.underlying23 rfl (((rfl.trans (Qt _ _ _ _).symm).trans (Qt _ _ _ _).symm).trans pf_3.len))<|Qa rfl rfl (Q0 rfl rfl)<|dm (.bool (decide (x18_3 < (l2_2.length : Int))))<|?_
      refine splitS (fun hb => ?_) (fun hb => ?_)
      ·have H78 := Jw hb H77
       refine dm (sl p css.length)<|dm (i6 x18_3)<|?_
       have h_t79 := Jr H78
       have H79 := Jn H78
       refine Qc (fun w L' hF hS hi => J3 Tryz.underlying23 Tryz.sizeOf32 rfl rfl (Zm (i := 1) (E := 32) (sz := 4) (n := css.length) (a := p.1) (c := p.2) hS ((hi 1 (by simp)).trans rfl)) ((rfl.trans (Qt _ _ _ _).symm).trans (Qt _ _ _ _).symm) (pf_3.ix h_t79)) rfl rfl<|Y5 rfl rfl (fun w L' hF hS hi => Xn Tryz.runUnderlying32 rfl Tryz.sizeOf3 rfl rfl (Zm (i := 1) (E := 32) (sz := 4) (n := css.length) (a := p.1) (c := p.2) hS ((hi 1 (by simp)).trans rfl)) (pf_3.ix h_t79))<|Qc (fun w L' hF hS hi => J2 (f := idC) (i := x18_3) (sz := 4) (j := 0) (v := i6 (val (Jk l2_2 x18_3)).Id) Tryz.isAgg3 rfl rfl (Zm (i := 1) (E := 32) (sz := 4) (n := css.length) (a := p.1) (c := p.2) hS ((hi 1 (by simp)).trans rfl)) (pf_3.ix h_t79) (V4 ((pf_3.eta h_t79).trans (J1 (pf_3.at h_t79))) rfl)) rfl rfl<|Qa rfl rfl (J7 Tryz.runUnderlying32 rfl Tryz.sizeOf3 rfl rfl)<|Z5 (i := 4) (v := i6 m_3) Tryz.isAgg3 rfl rfl rfl rfl<|Qa rfl rfl (Uv rfl rfl)<|Qa rfl rfl (Q5 (v := .bool (decide ((val (Jk l2_2 x18_3)).Id = m_3))) rfl rfl)<|Y3<|?_
       try dsimp only [z1, z2, z5, z6, z7, z8]
       refine Qm (b := (decide ((val (Jk l2_2 x18_3)).Id = m_3))) rfl (fun hb => ?_) (fun hb => ?_)
       ·have H80 := Jw hb H79; clear H79
        refine Jv<|Ju<|Jc<|Ja<|Jf rfl rfl rfl (J7 Tryz.runUnderlying32 rfl Tryz.sizeOf3 rfl rfl)<|Qq (i := 4) (v := i6 m_3) Tryz.isAgg3 rfl rfl rfl rfl rfl<|?_
        obtain ⟨t88, h_t88, H81⟩ := Je H80; clear H80
        refine Jf rfl rfl rfl (Qp rfl rfl h_t88)<|Jf rfl rfl rfl (J7 Tryz.runUnderlying32 rfl Tryz.sizeOf3 rfl rfl)<|Y8 (i := 4) (vs := [i6 t88]) (cs' := [i6 t88, Xt a4, sl p_3 (val (Jh a3 ([] : (List Int)))).length, sl p_4 (val (Jh (val (Jk l2 t30.1)).Nots (val (Jk l2 t30.1)).Likes)).length]) Tryz.sizeOf3 rfl rfl rfl rfl rfl rfl rfl rfl rfl<|Jd<|?_
        try dsimp only [z1, z2, z5, z6, z7, z8]
        refine Ja<|mv (i6 x18_3)<|?_
        obtain ⟨t91, h_t91, H82⟩ := Je H81; clear H81
        refine Jf rfl rfl rfl (Qp rfl rfl h_t91)<|ag (i6 t91)<|Jd<|?_
        try dsimp only [z1, z2, z5, z6, z7, z8]
        refine Js (t91, t88) () m2 [0, 1, 2, 3, 4] (by exact ⟨rfl, rfl, rfl, trivial⟩) (by decide) rfl (by exact ⟨(by subst hn2; exact H82), trivial⟩) (Nat.lt_succ_self _)
       ·have H83 := Jx hb H79; clear H79
        refine Q3 ?_
        refine Js (x18_3, m_3, (val (Jh a3 ([] : (List Int)))), (val (Jh (val (Jk l2 t30.1)).Nots (val (Jk l2 t30.1)).Likes))) () 0 [0, 1, 2, 3, 4] (by exact ⟨rfl, rfl, rfl, trivial⟩) (by decide) rfl (by exact ⟨H83, ⟨pf_3, rfl, rfl⟩⟩) (Nat.lt_succ_self _)
      ·have H84 := Jx hb H77
       refine dp<|dp<|dp<|dp<|dp<|dp<|dp<|dp<|Qa rfl rfl (Qr (v := .bool false) rfl rfl)<|Y3<|?_
       try dsimp only [z1, z2, z5, z6, z7, z8]
       refine Wq rfl<|Q3<|?_
       refine Js (x18_3, m_3, (val (Jh a3 ([] : (List Int)))), (val (Jh (val (Jk l2 t30.1)).Nots (val (Jk l2 t30.1)).Likes))) () 0 [0, 1, 2, 3, 4] (by exact ⟨rfl, rfl, rfl, trivial⟩) (by decide) rfl (by exact ⟨H84, ⟨pf_3, rfl, rfl⟩⟩) (Nat.lt_succ_self _)
      ) (by kernel_rfl)
    ·rintro ⟨x18, m, l_2, l_3⟩ _ gg H75 ⟨pf_4, hl, hl_2⟩
     try dsimp only at H75
     try dsimp only
     refine Jc<|Ja<|mv (sl p css.length)<|mv (i6 x18)<|Uz (i := 4) (vs := [i6 m, Xt a4, sl p_3 (val (Jh a3 ([] : (List Int)))).length, sl p_4 (val (Jh (val (Jk l2 t30.1)).Nots (val (Jk l2 t30.1)).Likes)).length]) Tryz.isAgg32 Tryz.sizeOf32 rfl rfl rfl rfl rfl<|?_
     refine Z0 (vs := [.agg #[i6 m, Xt a4, sl p_3 (val (Jh a3 ([] : (List Int)))).length, sl p_4 (val (Jh (val (Jk l2 t30.1)).Nots (val (Jk l2 t30.1)).Likes)).length]]) (cs := [i6 m, Xt a4, sl p_3 (val (Jh a3 ([] : (List Int)))).length, sl p_4 (val (Jh (val (Jk l2 t30.1)).Nots (val (Jk l2 t30.1)).Likes)).length]) Tryz.underlying23 Tryz.sizeOf32 Tryz.zeroValue32 rfl rfl rfl rfl rfl rfl rfl (fun b5 => ?_)
     refine Yq (Φ := fun H_ => FrS H_ 1 (sl p_3 (val (Jh a3 ([] : (List Int)))).length) (l_2.map Jl)) 0 2 rfl rfl (by decide) (fun _ _ => Qo) (fz_ro _) (fun hp_5 hle_5 hf_3 => ?_)
     refine Yq (Φ := fun H_ => FrS H_ 1 (sl p_4 (val (Jh (val (Jk l2 t30.1)).Nots (val (Jk l2 t30.1)).Likes)).length) (l_3.map Jl)) 0 3 rfl rfl (by decide) (fun _ _ => Qo) (fz_ro _) (fun hp_6 hle_6 hf_4 => ?_)
     obtain ⟨t96, h_t96, H76⟩ := Je H75; clear H75
     obtain ⟨hg, pf_5⟩ := AllC.ins (cs := [i6 m, Xt a4, sl p_3 (val (Jh a3 ([] : (List Int)))).length, sl p_4 (val (Jh (val (Jk l2 t30.1)).Nots (val (Jk l2 t30.1)).Likes)).length]) ((pf_4.mono hle_5).mono hle_6) h_t96 rfl (⟨rfl, rfl, (hf_3.mono hle_6), hf_4⟩)
     refine Y7 (Xj (i := 1) (rds := [5]) (G := fun x : Option Addr × Nat => .slice x.1 (Wo (setR (setR css t30.1 2 (sl p_2 t47.length)) t30.1 3 (sl p_5 t69.length)) x18 [i6 m, Xt a4, sl p_3 (val (Jh a3 ([] : (List Int)))).length, sl p_4 (val (Jh (val (Jk l2 t30.1)).Nots (val (Jk l2 t30.1)).Likes)).length]).length x.2) (C := fun x : Option Addr × Nat => Vn 32 4 (.slice x.1 (Wo (setR (setR css t30.1 2 (sl p_2 t47.length)) t30.1 3 (sl p_5 t69.length)) x18 [i6 m, Xt a4, sl p_3 (val (Jh a3 ([] : (List Int)))).length, sl p_4 (val (Jh (val (Jk l2 t30.1)).Nots (val (Jk l2 t30.1)).Likes)).length]).length x.2) (Wo (setR (setR css t30.1 2 (sl p_2 t47.length)) t30.1 3 (sl p_5 t69.length)) x18 [i6 m, Xt a4, sl p_3 (val (Jh a3 ([] : (List Int)))).length, sl p_4 (val (Jh (val (Jk l2 t30.1)).Nots (val (Jk l2 t30.1)).Likes)).length]).length ((Wo (setR (setR css t30.1 2 (sl p_2 t47.length)) t30.1 3 (sl p_5 t69.length)) x18 [i6 m, Xt a4, sl p_3 (val (Jh a3 ([] : (List Int)))).length, sl p_4 (val (Jh (val (Jk l2 t30.1)).Nots (val (Jk l2 t30.1)).Likes)).length]).map idC)) rfl (fun w L' S hF hS hi hp hlt ho hA => k45 (p0 := p) (cs1 := [i6 m, Xt a4, sl p_3 (val (Jh a3 ([] : (List Int)))).length, sl p_4 (val (Jh (val (Jk l2 t30.1)).Nots (val (Jk l2 t30.1)).Likes)).length]) hp hlt (Y4 w S) ((rfl.trans (Qt _ _ _ _).symm).trans (Qt _ _ _ _).symm) ((hc rfl).trans hn) (AllC.ones ((pf_4.mono hle_5).mono hle_6) (fun c_ x_ f_ => by obtain ⟨q0_, q1_, q2_, q3_⟩ := f_; exact fun j_ hj_ => match j_, hj_ with | 0, _ => (by rw [q0_]; rfl) | 1, _ => (by rw [q1_]; rfl) | 2, _ => (show FrS _ _ _ _ from q2_).one | 3, _ => (show FrS _ _ _ _ from q3_).one)) (by simp only [idC, List.map_cons, List.map_nil, List.all_cons, List.all_nil, (hf_3.mono hle_6).one, hf_4.one] <;> rfl) rfl (frb_box (j := 5) (xs := [[i6 m, Xt a4, sl p_3 (val (Jh a3 ([] : (List Int)))).length, sl p_4 (val (Jh (val (Jk l2 t30.1)).Nots (val (Jk l2 t30.1)).Likes)).length]]) (f := idC) hA hS (by decide) ((hi 5 (by simp)).trans rfl) rfl rfl rfl rfl) hg) Tryz.call45 rfl) rfl rfl rfl (fun p_6 => ?_)
     refine Qf (fun w hF hS => k44 (capOfO (i := 1) hS rfl) w) Tryz.call44 rfl rfl rfl<|ag (.slice (Za p_6.1 0 ((Wo (setR (setR css t30.1 2 (sl p_2 t47.length)) t30.1 3 (sl p_5 t69.length)) x18 [i6 m, Xt a4, sl p_3 (val (Jh a3 ([] : (List Int)))).length, sl p_4 (val (Jh (val (Jk l2 t30.1)).Nots (val (Jk l2 t30.1)).Likes)).length]).length) 4) ((Wo (setR (setR css t30.1 2 (sl p_2 t47.length)) t30.1 3 (sl p_5 t69.length)) x18 [i6 m, Xt a4, sl p_3 (val (Jh a3 ([] : (List Int)))).length, sl p_4 (val (Jh (val (Jk l2 t30.1)).Nots (val (Jk l2 t30.1)).Likes)).length]).length) ((Wo (setR (setR css t30.1 2 (sl p_2 t47.length)) t30.1 3 (sl p_5 t69.length)) x18 [i6 m, Xt a4, sl p_3 (val (Jh a3 ([] : (List Int)))).length, sl p_4 (val (Jh (val (Jk l2 t30.1)).Nots (val (Jk l2 t30.1)).Likes)).length]).length))<|ag (i6 0)<|Jd<|?_
     try dsimp only [z1, z2, z5, z6, z7, z8]
     refine Jy ?_
     obtain rfl := Option.some.inj H76
     refine Xc 1 rfl (imp_clipRO _ _ _ _ _ _)<|Yp 0 1 rfl rfl (by decide)<|Xc 0 rfl (Zc (k := true) (p := (Za p_6.1 0 ((Wo (setR (setR css t30.1 2 (sl p_2 t47.length)) t30.1 3 (sl p_5 t69.length)) x18 [i6 m, Xt a4, sl p_3 (val (Jh a3 ([] : (List Int)))).length, sl p_4 (val (Jh (val (Jk l2 t30.1)).Nots (val (Jk l2 t30.1)).Likes)).length]).length) 4, ((Wo (setR (setR css t30.1 2 (sl p_2 t47.length)) t30.1 3 (sl p_5 t69.length)) x18 [i6 m, Xt a4, sl p_3 (val (Jh a3 ([] : (List Int)))).length, sl p_4 (val (Jh (val (Jk l2 t30.1)).Nots (val (Jk l2 t30.1)).Likes)).length]).length))) rfl (fun _ => rfl) pf_5)<|?_
     refine Vz (v1 := .slice (Za p_6.1 0 ((Wo (setR (setR css t30.1 2 (sl p_2 t47.length)) t30.1 3 (sl p_5 t69.length)) x18 [i6 m, Xt a4, sl p_3 (val (Jh a3 ([] : (List Int)))).length, sl p_4 (val (Jh (val (Jk l2 t30.1)).Nots (val (Jk l2 t30.1)).Likes)).length]).length) 4) ((Wo (setR (setR css t30.1 2 (sl p_2 t47.length)) t30.1 3 (sl p_5 t69.length)) x18 [i6 m, Xt a4, sl p_3 (val (Jh a3 ([] : (List Int)))).length, sl p_4 (val (Jh (val (Jk l2 t30.1)).Nots (val (Jk l2 t30.1)).Likes)).length]).length) ((Wo (setR (setR css t30.1 2 (sl p_2 t47.length)) t30.1 3 (sl p_5 t69.length)) x18 [i6 m, Xt a4, sl p_3 (val (Jh a3 ([] : (List Int)))).length, sl p_4 (val (Jh (val (Jk l2 t30.1)).Nots (val (Jk l2 t30.1)).Likes)).length]).length)) (v2 := i6 0) rfl rfl rfl (Zb (Za p_6.1 0 ((Wo (setR (setR css t30.1 2 (sl p_2 t47.length)) t30.1 3 (sl p_5 t69.length)) x18 [i6 m, Xt a4, sl p_3 (val (Jh a3 ([] : (List Int)))).length, sl p_4 (val (Jh (val (Jk l2 t30.1)).Nots (val (Jk l2 t30.1)).Likes)).length]).length) 4, ((Wo (setR (setR css t30.1 2 (sl p_2 t47.length)) t30.1 3 (sl p_5 t69.length)) x18 [i6 m, Xt a4, sl p_3 (val (Jh a3 ([] : (List Int)))).length, sl p_4 (val (Jh (val (Jk l2 t30.1)).Nots (val (Jk l2 t30.1)).Likes)).length]).length)) (i := 0) rfl (by first | rfl | rw [(show ((Wo (setR (setR css t30.1 2 (sl p_2 t47.length)) t30.1 3 (sl p_5 t69.length)) x18 [i6 m, Xt a4, sl p_3 (val (Jh a3 ([] : (List Int)))).length, sl p_4 (val (Jh (val (Jk l2 t30.1)).Nots (val (Jk l2 t30.1)).Likes)).length]).length) = t96.length from pf_5.len)]) (by first | exact Imp.refl _ | exact Imp.of (by rw [(show ((Wo (setR (setR css t30.1 2 (sl p_2 t47.length)) t30.1 3 (sl p_5 t69.length)) x18 [i6 m, Xt a4, sl p_3 (val (Jh a3 ([] : (List Int)))).length, sl p_4 (val (Jh (val (Jk l2 t30.1)).Nots (val (Jk l2 t30.1)).Likes)).length]).length) = t96.length from pf_5.len)])))
    ) (by kernel_rfl)
theorem k47 {q0 : (List T_face_Likeness)} {vq0 : Value} {c0 : Nat} {q1 : T_face_Person} {vq1_2 : Value} {vq1_3 : Value} {c1 : Nat} {a0 : Int} {r : Bool} {w : World} {h : Qg} (hw : Know h w Yl) (fq0 : FrS h 14 vq0 (q0.map Jq)) (hc0 : h c0 = some (.cells (List.toArray [vq0]) 22 (0, 0))) (fq1_2 : FrS h 1 vq1_2 (q1.Likes.map Jl)) (fq1_3 : FrS h 1 vq1_3 (q1.Nots.map Jl)) (hc1 : h c1 = some (.cells (List.toArray [i6 q1.Id, Xt q1.Name, vq1_2, vq1_3]) 32 (0, 0))) (H : Jcl q0 q1 a0 = some r) : Does Tryz.prog 47 (List.toArray [i6 a0, .pointer (some ⟨c0, 0, none⟩), .pointer (some ⟨c1, 0, none⟩)]) w (fun v w' => v = (.bool r) ∧ Grow w w') := by
 refine enter (n := 9) Tryz.func47 rfl rfl rfl Yl [] (Sat.nil _ _)<|Jc<|Ja<|ag (.bool false)<|Jd<|Jc<|Ja<|J9 (fun w hF hS => Vg (v := vq0) Tryz.isAgg22 rfl (hw.now hF _ _ hc0) rfl) rfl rfl rfl<|J9 (fun w hF hS => run_loadKN (vs := [i6 q1.Id, Xt q1.Name, vq1_2, vq1_3]) Tryz.isAgg32 Tryz.sizeOf32 rfl (hw.now hF _ _ hc1) rfl) rfl rfl rfl<|mv (i6 a0)<|?_
 obtain ⟨t8, h_t8, H2⟩ := Je H; clear H
 refine Qf (fun w hF hS => k35 (Jp w) (fq0.mono (hw.now hF)) (fq1_2.mono (hw.now hF)) (fq1_3.mono (hw.now hF)) h_t8) Tryz.call35 rfl rfl rfl<|ag (.bool t8)<|Jd<|Jy<|?_
 obtain rfl := Option.some.inj H2
 refine Qw (v := .bool t8) rfl rfl (Yz rfl)
theorem k48 {css r : List (List Value)} {p0 : Option Addr × Nat} {n0 : Nat} {a1 a2 : Int} {w : World} {h : Qg} {S : Nat → Prop} (hcs : (Vn 32 4 (sl p0 n0) n0 (css.map idC)).P S w) (hlt : ∀ b, S b → b < w.heap.size) (hw : Know h w S) (hn0 : n0 = css.length) (hone : ∀ cs ∈ css, ∀ u ∈ cs, u.oneCell' = true) (H : gDelN css a1 a2 = some r) :
    Does Tryz.prog 48 (List.toArray [sl p0 n0, i6 a1, i6 a2]) w (fun v w' => ∃ _ : Unit, v = sl p0 r.length ∧ Turn w w' S (Vn 32 4 (sl p0 r.length) r.length (r.map idC))) := by
 obtain ⟨rfl, g0, g1, g2⟩ := gDelN_some H
 unfold delL
 have h_all : Ux css a1 a2 = some ((css.drop a1.toNat).take (a2.toNat - a1.toNat)) := gCut_ok ⟨g0, g1, g2⟩
 have h_lo : Ux css 0 a1 = some (css.take a1.toNat) := gCut_to (by omega)
 have h_hi : Ux css a2 css.length = some (css.drop a2.toNat) := gCut_from (by omega)
 have l_lo : (css.take a1.toNat).length = a1.toNat := by rw [List.length_take]; omega
 have l_hi : (css.drop a2.toNat).length = css.length - a2.toNat := List.length_drop
 refine enter (n := 33) Tryz.func48 rfl rfl rfl S [Vn 32 4 (sl p0 n0) n0 (css.map idC)] (Sat.one hcs hlt) ?_
 refine Zq (fun w hF hS => capOfO (i := 0) hS rfl) (fun hcap => ?_)
 refine Zq (fun w hF hS => rowO_all (i := 0) hS rfl) (fun hall => ?_)
 rw [Z9] at hall
 refine Jc<|Ja<|ag (.slice none 0 0)<|Jd<|Jc<|Ja<|mv (sl p0 n0)<|mv (i6 a1)<|mv (i6 a2)<|mv (sl p0 n0)<|Jf rfl rfl rfl (r_lenN Tryz.underlying23 rfl hn0)<|J9 (fun w hF hS => run_slice3O (xs := css) Tryz.underlying23 Tryz.sizeOf32 rfl rfl rfl rfl hn0 hcap h_all) rfl rfl rfl<|Jd<|Jc<|Jc<|Ja<|mv (i6 a1)<|mv (i6 a2)<|Jf rfl rfl rfl (Uv rfl rfl)<|Jd<|?_
 refine Qm (b := (decide (a1 = a2))) rfl (fun hb => ?_) (fun hb => ?_)
 ·have hab : a1 = a2 := of_decide_eq_true hb
  have he : (css.take (Int.toNat a1) ++ css.drop (Int.toNat a2)) = css := by rw [← hab, List.take_append_drop]
  rw [he, ← hn0]
  refine Jc<|Ja<|mv (sl p0 n0)<|ag (sl p0 n0)<|Jd<|Jy<|?_
  refine Qw (v := sl p0 n0) rfl rfl (Zb () (i := 0) rfl rfl (Imp.refl _))
 ·have hab : ¬ a1 = a2 := of_decide_eq_false hb
  refine Jv<|Jc<|Ja<|mv (sl p0 n0)<|Jf rfl rfl rfl (r_lenN Tryz.underlying23 rfl hn0)<|ag (i6 (css.length : Int))<|Jd<|Jc<|?_
  exact Qz (Kd.p :: Kd.p :: Kd.d [0] _ :: Kd.p :: Kd.p :: Kd.d [0] _ :: Kd.t 0 [] _ _ :: Kd.p :: []) 0 mixed (by
   refine dm (sl p0 n0)<|dm (i6 a1)<|Qc (v := sl p0 (css.take a1.toNat).length) (fun w L' hF hS hi => Jbb (xs := css) Tryz.underlying23 Tryz.sizeOf32 rfl rfl hn0 (capOfO (i := 0) hS ((hi 0 (by simp)).trans rfl)) h_lo) rfl rfl<|dm (sl p0 n0)<|dm (i6 a2)<|Qc (v := .slice (Za p0.1 (Int.toNat a2) p0.2 4) (css.drop a2.toNat).length (p0.2 - Int.toNat a2)) (fun w L' hF hS hi => Ja8 (xs := css) Tryz.underlying23 Tryz.sizeOf32 rfl rfl hn0 (capOfO (i := 0) hS ((hi 0 (by simp)).trans rfl)) h_hi) rfl rfl<|?_
   refine d_turn (Cv := fun _ => Vn 32 4 (sl p0 ((css.take a1.toNat).length + (css.drop a2.toNat).length)) ((css.take a1.toNat).length + (css.drop a2.toNat).length) ((css.map idC).take (css.take a1.toNat).length ++ (css.drop a2.toNat).map idC)) ()
    (turns_delO (i := 0) (rds := []) (xs := css.map idC) (news := (css.drop a2.toNat).map idC) (a := (css.take a1.toNat).length) (q := (css.drop a2.toNat).length) (m := n0) (p := p0) (by omega) Tryz.underlying23 (We Tryz.typeInfo32) rfl rfl (by omega) rfl rfl cutA_none (List.length_map _).symm
     (fun w L' hF hS hj => Row.cutG (xs := css) (f := idC) (Zm (i := 0) hS (hj.trans rfl)) hn0 (capOfO (i := 0) hS (hj.trans rfl)) h_hi) (by rw [Z9]; exact fun x hx => hall x (List.mem_of_mem_drop hx)) (by rw [Z9]; exact fun x hx => hone x (List.mem_of_mem_drop hx))) (fun _ => rfl) rfl rfl (fun _ => ?_)
   refine Qa rfl rfl (Uj (v := sl p0 ((css.take a1.toNat).length + (css.drop a2.toNat).length)) rfl)<|Y3<|?_
   have hch : (css.map idC).take (css.take a1.toNat).length ++ (css.drop a2.toNat).map idC = css.take a1.toNat ++ css.drop a2.toNat := by rw [Z9, Z9]; congr 1; rw [l_lo]
   refine Xc 0 rfl (Imp.of (congrArg (Vn 32 4 (sl p0 ((css.take a1.toNat).length + (css.drop a2.toNat).length)) ((css.take a1.toNat).length + (css.drop a2.toNat).length)) hch)) ?_
   rw [List.length_append]
   refine Jc<|Ja<|mv (sl p0 ((css.take a1.toNat).length + (css.drop a2.toNat).length))<|mv (sl p0 ((css.take a1.toNat).length + (css.drop a2.toNat).length))<|Jf rfl rfl rfl (Jaw Tryz.underlying23 rfl)<|mv (i6 (css.length : Int))<|J9 (v := .slice (Za p0.1 ((css.take a1.toNat).length + (css.drop a2.toNat).length) p0.2 4) (Int.toNat (css.length : Int) - ((css.take a1.toNat).length + (css.drop a2.toNat).length)) (p0.2 - ((css.take a1.toNat).length + (css.drop a2.toNat).length))) (fun w hF hS => run_sliceRoom Tryz.underlying23 Tryz.sizeOf32 rfl rfl rfl (by omega) (by omega)) rfl rfl rfl<|?_
   refine Jb4 (turns_clearO (i := 0) (sz := 4) (rds := []) (m := (css.take a1.toNat).length + (css.drop a2.toNat).length) (q := Int.toNat (css.length : Int) - ((css.take a1.toNat).length + (css.drop a2.toNat).length)) (xs := css.take a1.toNat ++ css.drop a2.toNat) Tryz.underlying23 Tryz.zeroValue32 rfl rfl rfl rfl (by omega)) rfl rfl (fun _ => ?_)
   refine Jd<|Jc<|Ja<|mv (sl p0 ((css.take a1.toNat).length + (css.drop a2.toNat).length))<|ag (sl p0 ((css.take a1.toNat).length + (css.drop a2.toNat).length))<|Jd<|Jy<|?_
   refine Qw (v := sl p0 ((css.take a1.toNat).length + (css.drop a2.toNat).length)) rfl rfl (Zb () (i := 0) rfl rfl (Imp.of (by rw [Z9])))
   ) (by kernel_rfl)
theorem k11 {a0 : (List T_face_Likeness)} {v0 : Value} {a1 : (List T_face_Person)} {v1 : Value} {a2 : Int} {a3 : Int} {r : (List T_face_Person) × Int} {w : World} {h : Qg} (hw : Know h w Yl) (f0 : FrS h 14 v0 (a0.map Jq)) (f1 : FrN h 4 v1 g_face_Person a1) (H : face_Merge a0 a1 a2 a3 = some r) : Does Tryz.prog 11 (List.toArray [v0, v1, i6 a2, i6 a3]) w (fun v w' => ∃ x : (Option Addr × Nat), v = (.tuple #[sl x r.1.length, i6 r.2]) ∧ Turn w w' Yl (rofD true 32 4 g_face_Person (sl x r.1.length) r.1.length r.1)) := by
 refine enter (n := 91) Tryz.func11 rfl rfl rfl Yl [] (Sat.nil _ _)<|Wy Yo<|Jc<|Ja<|?_
 refine Wp (cs := [v0]) rfl rfl rfl f0.cells (fun b6 => ?_)
 refine ag (.slice none 0 0)<|ag (i6 0)<|Jd<|Jc<|Jc<|Ja<|Qq (i := 1) (v := v0) Tryz.isAgg22 rfl rfl rfl rfl rfl<|mv v1<|?_
 obtain ⟨t20, h_t20, H55⟩ := Je H; clear H
 refine Qf (fun w hF hS => k7 (Jp w) (f0.mono (hw.now hF)) (f1.mono (hw.now hF)) h_t20) Tryz.call7 rfl rfl rfl<|ag (i6 t20)<|Jd<|Jc<|Ja<|mv (i6 t20)<|Jf rfl rfl rfl (r_neq rfl rfl)<|Jd<|?_
 refine Qm (b := (decide (t20 ≠ 0))) rfl (fun hb => ?_) (fun hb => ?_)
 ·have H56 := Jw hb H55; clear H55
  refine Jc<|Ja<|mv (i6 t20)<|ag (.slice none 0 0)<|ag (i6 t20)<|Jd<|Jy<|Q9 32 4<|?_
  obtain rfl := Option.some.inj H56
  refine Xc 2 rfl (Zs _ _ _ _ _)<|Yp 0 2 rfl rfl (by decide)<|Xc 0 rfl (Zc (k := true) (p := nn) rfl (fun _ => rfl) (AllC.nil (G := g_face_Person) (h := Yo) (sz := 4)))<|?_
  refine Vz (v1 := sl nn (([] : List (List Value)).length)) (v2 := i6 t20) rfl rfl rfl (Zb nn (i := 0) rfl (by first | rfl | rw [(show (([] : List (List Value)).length) = ([] : List T_face_Person).length from (AllC.nil (G := g_face_Person) (h := Yo) (sz := 4)).len)]) (by first | exact Imp.refl _ | exact Imp.of (by rw [(show (([] : List (List Value)).length) = ([] : List T_face_Person).length from (AllC.nil (G := g_face_Person) (h := Yo) (sz := 4)).len)])))
 ·have H57 := Jx hb H55; clear H55
  refine Jv<|Jc<|Ja<|mv v1<|mv (i6 a2)<|?_
  obtain ⟨t27, h_t27, H58⟩ := Je H57; clear H57
  refine Qf (fun w hF hS => k33 (Jp w) (f1.mono (hw.now hF)) h_t27) Tryz.call33 rfl rfl rfl<|mv (.tuple #[i6 t27.1, .bool t27.2])<|Jf rfl rfl rfl (Qs (v := i6 t27.1) rfl rfl)<|Jf rfl rfl rfl (Qs (v := .bool t27.2) rfl rfl)<|ag (i6 t27.1)<|ag (.bool t27.2)<|Jd<|Jc<|Ja<|mv v1<|mv (i6 a3)<|?_
  obtain ⟨t33, h_t33, H59⟩ := Je H58; clear H58
  refine Qf (fun w hF hS => k33 (Jp w) (f1.mono (hw.now hF)) h_t33) Tryz.call33 rfl rfl rfl<|mv (.tuple #[i6 t33.1, .bool t33.2])<|Jf rfl rfl rfl (Qs (v := i6 t33.1) rfl rfl)<|Jf rfl rfl rfl (Qs (v := .bool t33.2) rfl rfl)<|ag (i6 t33.1)<|ag (.bool t33.2)<|Jd<|Jc<|Ju<|Jc<|Ja<|mv (.bool t27.2)<|Jf rfl rfl rfl (Ub rfl)<|mv (.bool (!t27.2))<|?_
  refine split (fun hb => ?_) (fun hb => ?_)
  ·have H60 := Jw hb H59; clear H59
   refine pa<|pa<|Jf rfl rfl rfl (Q5 (v := .bool true) rfl rfl)<|ag (.bool true)<|Jd<|c_true rfl<|Jc<|Ja<|ag (.slice none 0 0)<|ag (i6 7)<|Jd<|Jy<|Q9 32 4<|?_
   obtain rfl := Option.some.inj H60
   refine Xc 2 rfl (Zs _ _ _ _ _)<|Yp 0 2 rfl rfl (by decide)<|Xc 0 rfl (Zc (k := true) (p := nn) rfl (fun _ => rfl) (AllC.nil (G := g_face_Person) (h := Yo) (sz := 4)))<|?_
   refine Vz (v1 := sl nn (([] : List (List Value)).length)) (v2 := i6 7) rfl rfl rfl (Zb nn (i := 0) rfl (by first | rfl | rw [(show (([] : List (List Value)).length) = ([] : List T_face_Person).length from (AllC.nil (G := g_face_Person) (h := Yo) (sz := 4)).len)]) (by first | exact Imp.refl _ | exact Imp.of (by rw [(show (([] : List (List Value)).length) = ([] : List T_face_Person).length from (AllC.nil (G := g_face_Person) (h := Yo) (sz := 4)).len)])))
  ·have H61 := Jx hb H59; clear H59
   refine mv (.bool t33.2)<|Jf rfl rfl rfl (Ub rfl)<|Jf rfl rfl rfl (Qr (v := .bool (!t33.2)) rfl rfl)<|ag (.bool (!t33.2))<|Jd<|?_
   refine Qm (b := (!t33.2)) rfl (fun hb => ?_) (fun hb => ?_)
   ·have H62 := Jw hb H61; clear H61
    refine Jc<|Ja<|ag (.slice none 0 0)<|ag (i6 7)<|Jd<|Jy<|Q9 32 4<|?_
    obtain rfl := Option.some.inj H62
    refine Xc 2 rfl (Zs _ _ _ _ _)<|Yp 0 2 rfl rfl (by decide)<|Xc 0 rfl (Zc (k := true) (p := nn) rfl (fun _ => rfl) (AllC.nil (G := g_face_Person) (h := Yo) (sz := 4)))<|?_
    refine Vz (v1 := sl nn (([] : List (List Value)).length)) (v2 := i6 7) rfl rfl rfl (Zb nn (i := 0) rfl (by first | rfl | rw [(show (([] : List (List Value)).length) = ([] : List T_face_Person).length from (AllC.nil (G := g_face_Person) (h := Yo) (sz := 4)).len)]) (by first | exact Imp.refl _ | exact Imp.of (by rw [(show (([] : List (List Value)).length) = ([] : List T_face_Person).length from (AllC.nil (G := g_face_Person) (h := Yo) (sz := 4)).len)])))
   ·have H63 := Jx hb H61; clear H61
    refine Jc<|Ja<|mv (i6 a2)<|mv (i6 a3)<|Jf rfl rfl rfl (Uv rfl rfl)<|ag (.bool (decide (a2 = a3)))<|Jd<|?_
    refine Qm (b := (decide (a2 = a3))) rfl (fun hb => ?_) (fun hb => ?_)
    ·have H64 := Jw hb H63; clear H63
     refine Jc<|Ja<|ag (.slice none 0 0)<|ag (i6 1)<|Jd<|Jy<|Q9 32 4<|?_
     obtain rfl := Option.some.inj H64
     refine Xc 2 rfl (Zs _ _ _ _ _)<|Yp 0 2 rfl rfl (by decide)<|Xc 0 rfl (Zc (k := true) (p := nn) rfl (fun _ => rfl) (AllC.nil (G := g_face_Person) (h := Yo) (sz := 4)))<|?_
     refine Vz (v1 := sl nn (([] : List (List Value)).length)) (v2 := i6 1) rfl rfl rfl (Zb nn (i := 0) rfl (by first | rfl | rw [(show (([] : List (List Value)).length) = ([] : List T_face_Person).length from (AllC.nil (G := g_face_Person) (h := Yo) (sz := 4)).len)]) (by first | exact Imp.refl _ | exact Imp.of (by rw [(show (([] : List (List Value)).length) = ([] : List T_face_Person).length from (AllC.nil (G := g_face_Person) (h := Yo) (sz := 4)).len)])))
    ·have H65 := Jx hb H63; clear H63
     refine Jv<|Jc<|?_
     exact Qz (Kd.p :: Kd.p :: Kd.p :: Kd.d [] _ :: Kd.p :: Kd.p :: Kd.p :: Kd.d [] _ :: Kd.nw 2 [_, _, _, _] 32 :: Kd.nw 3 [_, _, _, _] 32 :: Kd.sv 15 50 2 _ 32 :: Kd.sv 16 54 3 _ 32 :: []) 2 mixed (by
      refine dm v1<|dm (i6 t27.1)<|?_
      have h_t49 := Jr H65
      have H66 := Jn H65
      refine Qa rfl rfl (Qe Tryz.underlying23 Tryz.sizeOf32 rfl rfl f1.frs (f1.ix h_t49))<|Wb (fun w hF => Qj (f := (elC h v1 4)) (i := t27.1) (sz := 4) (j := 0) (vs := [i6 (val (Jk a1 t27.1)).Id, Xt (val (Jk a1 t27.1)).Name, (Qu h v1 4 (Int.toNat t27.1) 2), (Qu h v1 4 (Int.toNat t27.1) 3)]) Tryz.isAgg32 Tryz.sizeOf32 rfl rfl (f1.frs.row (hw.now hF)) (f1.ix h_t49) (rd_of (J1 (f1.at h_t49)) rfl)) rfl rfl<|dm v1<|dm (i6 t33.1)<|?_
      have h_t53 := Jr H66
      have H67 := Jn H66
      refine Qa rfl rfl (Qe Tryz.underlying23 Tryz.sizeOf32 rfl rfl f1.frs (f1.ix h_t53))<|Wb (fun w hF => Qj (f := (elC h v1 4)) (i := t33.1) (sz := 4) (j := 0) (vs := [i6 (val (Jk a1 t33.1)).Id, Xt (val (Jk a1 t33.1)).Name, (Qu h v1 4 (Int.toNat t33.1) 2), (Qu h v1 4 (Int.toNat t33.1) 3)]) Tryz.isAgg32 Tryz.sizeOf32 rfl rfl (f1.frs.row (hw.now hF)) (f1.ix h_t53) (rd_of (J1 (f1.at h_t53)) rfl)) rfl rfl<|?_
      refine d_new rfl rfl (run_alloc (cs := [i6 0, Xt [], .slice none 0 0, .slice none 0 0]) Tryz.zeroValue32 rfl) rfl (fun b7 => ?_)
      refine d_new rfl rfl (run_alloc (cs := [i6 0, Xt [], .slice none 0 0, .slice none 0 0]) Tryz.zeroValue32 rfl) rfl (fun b8 => ?_)
      refine d_storeV (i := 2) (vs := [i6 (val (Jk a1 t27.1)).Id, Xt (val (Jk a1 t27.1)).Name, (Qu h v1 4 (Int.toNat t27.1) 2), (Qu h v1 4 (Int.toNat t27.1) 3)]) (cs' := fun v_ => [(vcell v_ 0), (vcell v_ 1), (vcell v_ 2), (vcell v_ 3)]) Tryz.sizeOf32 rfl rfl rfl rfl rfl rfl (by simp only [List.all_cons, List.all_nil, (show FrS h 1 (Qu h v1 4 (Int.toNat t27.1) 2) ((val (Jk a1 t27.1)).Likes.map Jl) from (Jm (f1.at h_t49))).one, (show FrS h 1 (Qu h v1 4 (Int.toNat t27.1) 3) ((val (Jk a1 t27.1)).Nots.map Jl) from (Jt (f1.at h_t49))).one] <;> rfl) rfl rfl<|d_storeV (i := 3) (vs := [i6 (val (Jk a1 t33.1)).Id, Xt (val (Jk a1 t33.1)).Name, (Qu h v1 4 (Int.toNat t33.1) 2), (Qu h v1 4 (Int.toNat t33.1) 3)]) (cs' := fun v_ => [(vcell v_ 0), (vcell v_ 1), (vcell v_ 2), (vcell v_ 3)]) Tryz.sizeOf32 rfl rfl rfl rfl rfl rfl (by simp only [List.all_cons, List.all_nil, (show FrS h 1 (Qu h v1 4 (Int.toNat t33.1) 2) ((val (Jk a1 t33.1)).Likes.map Jl) from (Jm (f1.at h_t53))).one, (show FrS h 1 (Qu h v1 4 (Int.toNat t33.1) 3) ((val (Jk a1 t33.1)).Nots.map Jl) from (Jt (f1.at h_t53))).one] <;> rfl) rfl rfl<|Y3<|Jc<|Jc<|?_
      try dsimp only [z1, z2, z5, z6, z7, z8]
      refine Ja<|Jf rfl rfl rfl (J7 Tryz.runUnderlying32 rfl Tryz.sizeOf24 rfl rfl)<|Qq (i := 3) (v := (Qu h v1 4 (Int.toNat t33.1) 2)) Tryz.isAgg24 rfl rfl rfl rfl rfl<|Jf rfl rfl rfl (Jak (caps := #[.pointer (some ⟨b6, 0, none⟩), .pointer (some ⟨b7, 0, none⟩)]) rfl)<|?_
      obtain ⟨t58, h_t58, H68⟩ := Je H67; clear H67
      refine Qf (fun w hF hS => k40 (Jp w) ((show FrS h 1 (Qu h v1 4 (Int.toNat t33.1) 2) ((val (Jk a1 t33.1)).Likes.map Jl) from (Jm (f1.at h_t53))).mono (hw.now hF)) (FnH.mk ⟨47, #[], #[.pointer (some ⟨b6, 0, none⟩), .pointer (some ⟨b7, 0, none⟩)], rfl, Tryz.call47, fun args2 post2 w2 hk2 hR2 => by obtain ⟨a0_, r_, rfl, H_, rfl⟩ := hR2; exact k47 (Jp w2) ((f0.mono (hw.now hF)).mono hk2.up) (hk2.up _ _ (Zr (i := 1) hS rfl)) (((show FrS h 1 (Qu h v1 4 (Int.toNat t27.1) 2) ((val (Jk a1 t27.1)).Likes.map Jl) from (Jm (f1.at h_t49))).mono (hw.now hF)).mono hk2.up) (((show FrS h 1 (Qu h v1 4 (Int.toNat t27.1) 3) ((val (Jk a1 t27.1)).Nots.map Jl) from (Jt (f1.at h_t49))).mono (hw.now hF)).mono hk2.up) (hk2.up _ _ (Zr (i := 2) hS rfl)) H_⟩) h_t58) Tryz.call40 rfl rfl rfl<|Jd<|?_
      refine Qm (b := t58) rfl (fun hb => ?_) (fun hb => ?_)
      ·have H69 := Jw hb H68; clear H68
       refine Jc<|Ja<|ag (.slice none 0 0)<|ag (i6 11)<|Jd<|Jy<|Q9 32 4<|?_
       obtain rfl := Option.some.inj H69
       refine Xc 4 rfl (Zs _ _ _ _ _)<|Yp 0 4 rfl rfl (by decide)<|Xc 0 rfl (Zc (k := true) (p := nn) rfl (fun _ => rfl) (AllC.nil (G := g_face_Person) (h := Yo) (sz := 4)))<|?_
       refine Vz (v1 := sl nn (([] : List (List Value)).length)) (v2 := i6 11) rfl rfl rfl (Zb nn (i := 0) rfl (by first | rfl | rw [(show (([] : List (List Value)).length) = ([] : List T_face_Person).length from (AllC.nil (G := g_face_Person) (h := Yo) (sz := 4)).len)]) (by first | exact Imp.refl _ | exact Imp.of (by rw [(show (([] : List (List Value)).length) = ([] : List T_face_Person).length from (AllC.nil (G := g_face_Person) (h := Yo) (sz := 4)).len)])))
      ·have H70 := Jx hb H68; clear H68
       refine Jv<|Jc<|Ja<|mv v1<|?_
       obtain ⟨t60, h_t60, H71⟩ := Je H70; clear H70
       refine Yk (J8 (rds := []) (G := fun x : (Option Addr × Nat) => sl x t60.length) (C := fun x : (Option Addr × Nat) => rofD true 32 4 g_face_Person (sl x t60.length) t60.length t60) (fun w L' hF hS hi => k32 (Jp w) (f1.mono (hw.now hF)) h_t60) Tryz.call32 rfl) rfl rfl rfl (fun p => ?_)
       refine c_rofD 4 rfl (fun hp css hn hc pf => ?_)
       rw [hn]
       refine V7 4 rfl ?_
       refine Yv 0 4 rfl rfl (by decide) (fun _ _ => Qo) (fun hp_2 hle hle_2 => ?_)
       refine ag (sl p css.length)<|Jd<|?_
       try dsimp only [z1, z2, z5, z6, z7, z8]
       refine Jc<|Ja<|mv (sl p css.length)<|mv (i6 t27.1)<|Jf rfl rfl rfl (J7 Tryz.runUnderlying32 rfl Tryz.sizeOf24 rfl rfl)<|Qq (i := 2) (v := (Qu h v1 4 (Int.toNat t27.1) 2)) Tryz.isAgg24 rfl rfl rfl rfl rfl<|Jf rfl rfl rfl (J7 Tryz.runUnderlying32 rfl Tryz.sizeOf24 rfl rfl)<|Qq (i := 3) (v := (Qu h v1 4 (Int.toNat t33.1) 2)) Tryz.isAgg24 rfl rfl rfl rfl rfl<|?_
       obtain ⟨t67, h_t67, H72⟩ := Je H71; clear H71
       refine Yk (J8 (rds := []) (G := fun x : (Option Addr × Nat) => sl x t67.length) (C := fun x : (Option Addr × Nat) => roV 1 (sl x t67.length) t67.length (t67.map Jl)) (fun w L' hF hS hi => k36 (Jp w) ((show FrS h 1 (Qu h v1 4 (Int.toNat t27.1) 2) ((val (Jk a1 t27.1)).Likes.map Jl) from (Jm (f1.at h_t49))).mono (hw.now hF)) ((show FrS h 1 (Qu h v1 4 (Int.toNat t33.1) 2) ((val (Jk a1 t33.1)).Likes.map Jl) from (Jm (f1.at h_t53))).mono (hw.now hF)) h_t67) Tryz.call36 rfl) rfl rfl rfl (fun p_2 => ?_)
       obtain ⟨t68, h_t68, H73⟩ := Je H72; clear H72
       refine J9 (fun w hF hS => J3 Tryz.underlying23 Tryz.sizeOf32 rfl rfl (Zm (i := 5) hS rfl) rfl ((pf.mono hle_2).ix h_t68)) rfl rfl rfl ?_
       refine Zq (fun w hF hS => someOfO (i := 5) hS rfl ((pf.mono hle_2).ix h_t68)) (fun hs => ?_)
       refine Jf rfl rfl rfl (Xv Tryz.runUnderlying32 rfl Tryz.sizeOf24 rfl rfl hs) ?_
       refine Yq (Φ := fun H_ => FrS H_ 1 (sl p_2 t67.length) (t67.map Jl)) 0 6 rfl rfl (by decide) (fun _ _ => Qo) (fz_ro _) (fun hp_3 hle_3 hf => ?_)
       obtain ⟨l5, h_l5, H74⟩ := Je H73; clear H73
       refine Jb4 (turns_storeO (q := 5) (j := 2) (i := t27.1) (sz := 4) (x := (sl p_2 t67.length)) (css := css) (xe := t68) rfl ((pf.mono hle_2).mono hle_3).len Tryz.sizeOf24 rfl rfl rfl rfl rfl rfl rfl h_t68) rfl rfl (fun _ => ?_)
       have pf_2 : AllC g_face_Person hp_3 4 (setR css t27.1 2 (sl p_2 t67.length)) l5 := AllC.setR ((pf.mono hle_2).mono hle_3) h_t68 h_l5 rfl (by obtain ⟨q0_, q1_, q2_, q3_⟩ := ((pf.mono hle_2).mono hle_3).at h_t68; exact ⟨q0_, q1_, hf, q3_⟩)
       refine Jd ?_
       try dsimp only [z1, z2, z5, z6, z7, z8]
       refine Jc ?_
       exact Qz (Kd.p :: Kd.p :: Kd.p :: Kd.d [2] _ :: Kd.p :: Kd.d [3] _ :: Kd.t 7 [0] _ _ :: Kd.p :: Kd.p :: Kd.d [5] _ :: Kd.d [5] _ :: Kd.d [5] _ :: Kd.t 8 [0, 7] _ _ :: Kd.d [5] _ :: Kd.d [5] _ :: Kd.stk 84 82 5 :: []) 2 mixed (by
        refine dm (sl p css.length)<|dm (i6 t27.1)<|Qa rfl rfl (J7 Tryz.runUnderlying32 rfl Tryz.sizeOf24 rfl rfl)<|Z5 (i := 2) (v := (Qu h v1 4 (Int.toNat t27.1) 3)) Tryz.isAgg24 rfl rfl rfl rfl<|Qa rfl rfl (J7 Tryz.runUnderlying32 rfl Tryz.sizeOf24 rfl rfl)<|Z5 (i := 3) (v := (Qu h v1 4 (Int.toNat t33.1) 3)) Tryz.isAgg24 rfl rfl rfl rfl<|?_
        have h_t76 := Jr H74
        have H75 := Jn H74
        refine Uc (Cv := fun v => roV 1 v (val (Jh (val (Jk a1 t27.1)).Nots (val (Jk a1 t33.1)).Nots)).length ((val (Jh (val (Jk a1 t27.1)).Nots (val (Jk a1 t33.1)).Nots)).map Jl)) (none, 0) (J8 (G := fun x : (Option Addr × Nat) => sl x (val (Jh (val (Jk a1 t27.1)).Nots (val (Jk a1 t33.1)).Nots)).length) (C := fun x : (Option Addr × Nat) => roV 1 (sl x (val (Jh (val (Jk a1 t27.1)).Nots (val (Jk a1 t33.1)).Nots)).length) (val (Jh (val (Jk a1 t27.1)).Nots (val (Jk a1 t33.1)).Nots)).length ((val (Jh (val (Jk a1 t27.1)).Nots (val (Jk a1 t33.1)).Nots)).map Jl)) (fun w L' hF hS hi => k36 (Jp w) ((show FrS h 1 (Qu h v1 4 (Int.toNat t27.1) 3) ((val (Jk a1 t27.1)).Nots.map Jl) from (Jt (f1.at h_t49))).mono (hw.now hF)) ((show FrS h 1 (Qu h v1 4 (Int.toNat t33.1) 3) ((val (Jk a1 t33.1)).Nots.map Jl) from (Jt (f1.at h_t53))).mono (hw.now hF)) h_t76) Tryz.call36 rfl) (fun _ => rfl) rfl rfl rfl (fun p_3 => ?_)
        refine dm (sl p css.length)<|dm (i6 t27.1)<|?_
        have h_t79 := Jr H75
        have H76 := Jn H75
        refine Qc (fun w L' hF hS hi => J3 Tryz.underlying23 Tryz.sizeOf32 rfl rfl (Zm (i := 5) (E := 32) (sz := 4) (n := css.length) (a := p.1) (c := p.2) hS ((hi 5 (by simp)).trans rfl)) (rfl.trans (Qt _ _ _ _).symm) (pf_2.ix h_t79)) rfl rfl<|Y5 rfl rfl (fun w L' hF hS hi => Xn Tryz.runUnderlying32 rfl Tryz.sizeOf24 rfl rfl (Zm (i := 5) (E := 32) (sz := 4) (n := css.length) (a := p.1) (c := p.2) hS ((hi 5 (by simp)).trans rfl)) (pf_2.ix h_t79))<|Qc (fun w L' hF hS hi => J2 (f := idC) (i := t27.1) (sz := 4) (j := 2) (v := (List.getD (List.getD (setR css t27.1 2 (sl p_2 t67.length)) (Int.toNat t27.1) []) 2 undef)) Tryz.isAgg24 rfl rfl (Zm (i := 5) (E := 32) (sz := 4) (n := css.length) (a := p.1) (c := p.2) hS ((hi 5 (by simp)).trans rfl)) (pf_2.ix h_t79) (V4 ((pf_2.eta h_t79).trans (J1 (pf_2.at h_t79))) rfl)) rfl rfl<|?_
        have h_t82 := Jr H76
        have H77 := Jn H76
        refine Uc (Cv := fun v => roV 1 v (val (Jz (val (Jh (val (Jk a1 t27.1)).Nots (val (Jk a1 t33.1)).Nots)) (val (Jk l5 t27.1)).Likes)).length ((val (Jz (val (Jh (val (Jk a1 t27.1)).Nots (val (Jk a1 t33.1)).Nots)) (val (Jk l5 t27.1)).Likes)).map Jl)) (none, 0) (J8 (G := fun x : (Option Addr × Nat) => .slice x.1 (val (Jz (val (Jh (val (Jk a1 t27.1)).Nots (val (Jk a1 t33.1)).Nots)) (val (Jk l5 t27.1)).Likes)).length x.2) (C := fun x : (Option Addr × Nat) => roV 1 (.slice x.1 (val (Jz (val (Jh (val (Jk a1 t27.1)).Nots (val (Jk a1 t33.1)).Nots)) (val (Jk l5 t27.1)).Likes)).length x.2) (val (Jz (val (Jh (val (Jk a1 t27.1)).Nots (val (Jk a1 t33.1)).Nots)) (val (Jk l5 t27.1)).Likes)).length ((val (Jz (val (Jh (val (Jk a1 t27.1)).Nots (val (Jk a1 t33.1)).Nots)) (val (Jk l5 t27.1)).Likes)).map Jl)) (fun w L' hF hS hi => k43 (Jp w) (frs_rd (i := 7) hS ((hi 7 (by simp)).trans rfl)) ((show FrS hp_3 1 (List.getD (List.getD (setR css t27.1 2 (sl p_2 t67.length)) (Int.toNat t27.1) []) 2 undef) ((val (Jk l5 t27.1)).Likes.map Jl) from (Jm (pf_2.at h_t79))).mono (Xi (i := 0) hS ((hi 0 (by simp)).trans rfl) Qo)) h_t82) Tryz.call43 rfl) (fun _ => rfl) rfl rfl rfl (fun p_4 => ?_)
        have h_t83 := Jr H77
        have H78 := Jn H77
        refine Qc (fun w L' hF hS hi => J3 Tryz.underlying23 Tryz.sizeOf32 rfl rfl (Zm (i := 5) (E := 32) (sz := 4) (n := css.length) (a := p.1) (c := p.2) hS ((hi 5 (by simp)).trans rfl)) (rfl.trans (Qt _ _ _ _).symm) (pf_2.ix h_t83)) rfl rfl<|Y5 rfl rfl (fun w L' hF hS hi => Xn Tryz.runUnderlying32 rfl Tryz.sizeOf24 rfl rfl (Zm (i := 5) (E := 32) (sz := 4) (n := css.length) (a := p.1) (c := p.2) hS ((hi 5 (by simp)).trans rfl)) (pf_2.ix h_t83))<|?_
        have h_l5_2 := Jr H78
        have H79 := Jn H78
        refine W4 (i := 5) (x := .slice p_4.1 (val (Jz (val (Jh (val (Jk a1 t27.1)).Nots (val (Jk a1 t33.1)).Nots)) (val (Jk l5 t27.1)).Likes)).length p_4.2) (va := (Zn p.1 (Int.toNat t27.1 * 4 + 3))) Tryz.sizeOf24 rfl rfl rfl rfl rfl rfl (Jbd (E := 32) (sz := 4) (n := css.length) (a := p.1) (c := p.2) (css := (setR css t27.1 2 (sl p_2 t67.length))) (Imp.refl _) (rfl.trans (Qt _ _ _ _).symm) pf_2.len h_t83 rfl rfl)<|Y3<|Xc 5 rfl (Jb5 (E := 32) (sz := 4) (n := css.length) (a := p.1) (c := p.2) (css := (setR css t27.1 2 (sl p_2 t67.length))) (j := 3) (x := .slice p_4.1 (val (Jz (val (Jh (val (Jk a1 t27.1)).Nots (val (Jk a1 t33.1)).Nots)) (val (Jk l5 t27.1)).Likes)).length p_4.2) (Imp.refl _) pf_2.len h_t83 rfl rfl)<|?_
        refine Yq (Φ := fun H_ => FrS H_ 1 (.slice p_4.1 (val (Jz (val (Jh (val (Jk a1 t27.1)).Nots (val (Jk a1 t33.1)).Nots)) (val (Jk l5 t27.1)).Likes)).length p_4.2) ((val (Jz (val (Jh (val (Jk a1 t27.1)).Nots (val (Jk a1 t33.1)).Nots)) (val (Jk l5 t27.1)).Likes)).map Jl)) 0 8 rfl rfl (by decide) (fun _ _ => Qo) (fz_ro _) (fun hp_4 hle_4 hf_2 => ?_)
        have pf_3 : AllC g_face_Person hp_4 4 (setR (setR css t27.1 2 (sl p_2 t67.length)) t27.1 3 (.slice p_4.1 (val (Jz (val (Jh (val (Jk a1 t27.1)).Nots (val (Jk a1 t33.1)).Nots)) (val (Jk l5 t27.1)).Likes)).length p_4.2)) (val (Q6 l5 t27.1 (⟨(val (Jk l5 t27.1)).Id, (val (Jk l5 t27.1)).Name, (val (Jk l5 t27.1)).Likes, (val (Jz (val (Jh (val (Jk a1 t27.1)).Nots (val (Jk a1 t33.1)).Nots)) (val (Jk l5 t27.1)).Likes))⟩ : T_face_Person))) := AllC.setR (pf_2.mono hle_4) h_t83 h_l5_2 rfl (by obtain ⟨q0_, q1_, q2_, q3_⟩ := (pf_2.mono hle_4).at h_t83; exact ⟨q0_, q1_, q2_, hf_2⟩)
        try dsimp only [z1, z2, z5, z6, z7, z8]
        refine Jc<|Ja<|mv (sl p css.length)<|mv (i6 t33.1)<|mv (i6 t33.1)<|?_
        obtain ⟨t88, h_t88, H80⟩ := Je H79; clear H79
        refine Jf rfl rfl rfl (Qp rfl rfl h_t88) ?_
        obtain ⟨t89, h_t89, H81⟩ := Je H80; clear H80
        obtain ⟨hg, pf_4⟩ := pf_3.del h_t89
        refine Y7 (Xj (i := 5) (rds := []) (G := fun _ : Unit => .slice p.1 (delL (setR (setR css t27.1 2 (sl p_2 t67.length)) t27.1 3 (.slice p_4.1 (val (Jz (val (Jh (val (Jk a1 t27.1)).Nots (val (Jk a1 t33.1)).Nots)) (val (Jk l5 t27.1)).Likes)).length p_4.2)) t33.1 t88).length p.2) (C := fun _ : Unit => Vn 32 4 (.slice p.1 (delL (setR (setR css t27.1 2 (sl p_2 t67.length)) t27.1 3 (.slice p_4.1 (val (Jz (val (Jh (val (Jk a1 t27.1)).Nots (val (Jk a1 t33.1)).Nots)) (val (Jk l5 t27.1)).Likes)).length p_4.2)) t33.1 t88).length p.2) (delL (setR (setR css t27.1 2 (sl p_2 t67.length)) t27.1 3 (.slice p_4.1 (val (Jz (val (Jh (val (Jk a1 t27.1)).Nots (val (Jk a1 t33.1)).Nots)) (val (Jk l5 t27.1)).Likes)).length p_4.2)) t33.1 t88).length ((delL (setR (setR css t27.1 2 (sl p_2 t67.length)) t27.1 3 (.slice p_4.1 (val (Jz (val (Jh (val (Jk a1 t27.1)).Nots (val (Jk a1 t33.1)).Nots)) (val (Jk l5 t27.1)).Likes)).length p_4.2)) t33.1 t88).map idC)) rfl (fun w L' S hF hS hi hp hlt ho hA => k48 (p0 := p) hp hlt (Y4 w S) ((rfl.trans (Qt _ _ _ _).symm).trans (Qt _ _ _ _).symm) (AllC.ones pf_3 (fun c_ x_ f_ => by obtain ⟨q0_, q1_, q2_, q3_⟩ := f_; exact fun j_ hj_ => match j_, hj_ with | 0, _ => (by rw [q0_]; rfl) | 1, _ => (by rw [q1_]; rfl) | 2, _ => (show FrS _ _ _ _ from q2_).one | 3, _ => (show FrS _ _ _ _ from q3_).one)) hg) Tryz.call48 rfl) rfl rfl rfl (fun _ => ?_)
        refine Qf (fun w hF hS => k44 (capOfO (i := 5) hS rfl) w) Tryz.call44 rfl rfl rfl<|ag (.slice (Za p.1 0 ((delL (setR (setR css t27.1 2 (sl p_2 t67.length)) t27.1 3 (.slice p_4.1 (val (Jz (val (Jh (val (Jk a1 t27.1)).Nots (val (Jk a1 t33.1)).Nots)) (val (Jk l5 t27.1)).Likes)).length p_4.2)) t33.1 t88).length) 4) ((delL (setR (setR css t27.1 2 (sl p_2 t67.length)) t27.1 3 (.slice p_4.1 (val (Jz (val (Jh (val (Jk a1 t27.1)).Nots (val (Jk a1 t33.1)).Nots)) (val (Jk l5 t27.1)).Likes)).length p_4.2)) t33.1 t88).length) ((delL (setR (setR css t27.1 2 (sl p_2 t67.length)) t27.1 3 (.slice p_4.1 (val (Jz (val (Jh (val (Jk a1 t27.1)).Nots (val (Jk a1 t33.1)).Nots)) (val (Jk l5 t27.1)).Likes)).length p_4.2)) t33.1 t88).length))<|ag (i6 0)<|Jd<|?_
        try dsimp only [z1, z2, z5, z6, z7, z8]
        refine Jy ?_
        obtain rfl := Option.some.inj H81
        refine Xc 5 rfl (imp_clipRO _ _ _ _ _ _)<|Yp 0 5 rfl rfl (by decide)<|Xc 0 rfl (Zc (k := true) (p := (Za p.1 0 ((delL (setR (setR css t27.1 2 (sl p_2 t67.length)) t27.1 3 (.slice p_4.1 (val (Jz (val (Jh (val (Jk a1 t27.1)).Nots (val (Jk a1 t33.1)).Nots)) (val (Jk l5 t27.1)).Likes)).length p_4.2)) t33.1 t88).length) 4, ((delL (setR (setR css t27.1 2 (sl p_2 t67.length)) t27.1 3 (.slice p_4.1 (val (Jz (val (Jh (val (Jk a1 t27.1)).Nots (val (Jk a1 t33.1)).Nots)) (val (Jk l5 t27.1)).Likes)).length p_4.2)) t33.1 t88).length))) rfl (fun _ => rfl) pf_4)<|?_
        refine Vz (v1 := .slice (Za p.1 0 ((delL (setR (setR css t27.1 2 (sl p_2 t67.length)) t27.1 3 (.slice p_4.1 (val (Jz (val (Jh (val (Jk a1 t27.1)).Nots (val (Jk a1 t33.1)).Nots)) (val (Jk l5 t27.1)).Likes)).length p_4.2)) t33.1 t88).length) 4) ((delL (setR (setR css t27.1 2 (sl p_2 t67.length)) t27.1 3 (.slice p_4.1 (val (Jz (val (Jh (val (Jk a1 t27.1)).Nots (val (Jk a1 t33.1)).Nots)) (val (Jk l5 t27.1)).Likes)).length p_4.2)) t33.1 t88).length) ((delL (setR (setR css t27.1 2 (sl p_2 t67.length)) t27.1 3 (.slice p_4.1 (val (Jz (val (Jh (val (Jk a1 t27.1)).Nots (val (Jk a1 t33.1)).Nots)) (val (Jk l5 t27.1)).Likes)).length p_4.2)) t33.1 t88).length)) (v2 := i6 0) rfl rfl rfl (Zb (Za p.1 0 ((delL (setR (setR css t27.1 2 (sl p_2 t67.length)) t27.1 3 (.slice p_4.1 (val (Jz (val (Jh (val (Jk a1 t27.1)).Nots (val (Jk a1 t33.1)).Nots)) (val (Jk l5 t27.1)).Likes)).length p_4.2)) t33.1 t88).length) 4, ((delL (setR (setR css t27.1 2 (sl p_2 t67.length)) t27.1 3 (.slice p_4.1 (val (Jz (val (Jh (val (Jk a1 t27.1)).Nots (val (Jk a1 t33.1)).Nots)) (val (Jk l5 t27.1)).Likes)).length p_4.2)) t33.1 t88).length)) (i := 0) rfl (by first | rfl | rw [(show ((delL (setR (setR css t27.1 2 (sl p_2 t67.length)) t27.1 3 (.slice p_4.1 (val (Jz (val (Jh (val (Jk a1 t27.1)).Nots (val (Jk a1 t33.1)).Nots)) (val (Jk l5 t27.1)).Likes)).length p_4.2)) t33.1 t88).length) = t89.length from pf_4.len)]) (by first | exact Imp.refl _ | exact Imp.of (by rw [(show ((delL (setR (setR css t27.1 2 (sl p_2 t67.length)) t27.1 3 (.slice p_4.1 (val (Jz (val (Jh (val (Jk a1 t27.1)).Nots (val (Jk a1 t33.1)).Nots)) (val (Jk l5 t27.1)).Likes)).length p_4.2)) t33.1 t88).length) = t89.length from pf_4.len)])))
        ) (by kernel_rfl)
      ) (by kernel_rfl)
theorem k54 {a0 : (List T_face_Likeness)} {v0 : Value} {a1 : (List T_face_Person)} {v1 : Value} {a2 : Int} {a3 : Int} {r : Int × Int} {w : World} {h : Qg} (hw : Know h w Yl) (f0 : FrS h 14 v0 (a0.map Jq)) (f1 : FrN h 4 v1 g_face_Person a1) (H : Wa a0 a1 a2 a3 = some r) : Does Tryz.prog 54 (List.toArray [v0, v1, i6 a2, i6 a3]) w (fun v w' => v = (.tuple #[i6 r.1, i6 r.2]) ∧ Grow w w') := by
 refine enter (n := 39) Tryz.func54 rfl rfl rfl Yl [] (Sat.nil _ _)<|Jc<|Ja<|ag (i6 0)<|ag (i6 0)<|Jd<|Jc<|Jc<|Ja<|mv v0<|mv v1<|?_
 obtain ⟨t16, h_t16, H10⟩ := Je H; clear H
 refine Qf (fun w hF hS => k7 (Jp w) (f0.mono (hw.now hF)) (f1.mono (hw.now hF)) h_t16) Tryz.call7 rfl rfl rfl<|ag (i6 t16)<|Jd<|Jc<|Ja<|mv (i6 t16)<|Jf rfl rfl rfl (r_neq rfl rfl)<|Jd<|?_
 refine Qm (b := (decide (t16 ≠ 0))) rfl (fun hb => ?_) (fun hb => ?_)
 ·have H11 := Jw hb H10; clear H10
  refine Jc<|Ja<|mv (i6 t16)<|ag (i6 0)<|ag (i6 t16)<|Jd<|Jy<|?_
  obtain rfl := Option.some.inj H11
  refine Vz (v1 := i6 0) (v2 := i6 t16) rfl rfl rfl (Yz rfl)
 ·have H12 := Jx hb H10; clear H10
  refine Jv<|Jc<|Ja<|mv v1<|mv (i6 a2)<|?_
  obtain ⟨t23, h_t23, H13⟩ := Je H12; clear H12
  refine Qf (fun w hF hS => k33 (Jp w) (f1.mono (hw.now hF)) h_t23) Tryz.call33 rfl rfl rfl<|mv (.tuple #[i6 t23.1, .bool t23.2])<|Jf rfl rfl rfl (Qs (v := i6 t23.1) rfl rfl)<|Jf rfl rfl rfl (Qs (v := .bool t23.2) rfl rfl)<|ag (i6 t23.1)<|ag (.bool t23.2)<|Jd<|Jc<|Jc<|Ja<|mv v0<|mv (i6 a3)<|?_
  obtain ⟨t29, h_t29, H14⟩ := Je H13; clear H13
  refine Qf (fun w hF hS => k102 (Jp w) (f0.mono (hw.now hF)) h_t29) Tryz.call102 rfl rfl rfl<|mv (.tuple #[i6 t29.1, .bool t29.2])<|Jf rfl rfl rfl (Qs (v := i6 t29.1) rfl rfl)<|Jf rfl rfl rfl (Qs (v := .bool t29.2) rfl rfl)<|ag (i6 t29.1)<|ag (.bool t29.2)<|Jd<|Jc<|Ja<|mv (.bool t23.2)<|Jf rfl rfl rfl (Ub rfl)<|mv (.bool (!t23.2))<|?_
  refine split (fun hb => ?_) (fun hb => ?_)
  ·have H15 := Jw hb H14; clear H14
   refine pa<|pa<|Jf rfl rfl rfl (Q5 (v := .bool true) rfl rfl)<|Jd<|c_true rfl<|Jc<|Ja<|ag (i6 0)<|ag (i6 7)<|Jd<|Jy<|?_
   obtain rfl := Option.some.inj H15
   refine Vz (v1 := i6 0) (v2 := i6 7) rfl rfl rfl (Yz rfl)
  ·have H16 := Jx hb H14; clear H14
   refine mv (.bool t29.2)<|Jf rfl rfl rfl (Ub rfl)<|Jf rfl rfl rfl (Qr (v := .bool (!t29.2)) rfl rfl)<|Jd<|?_
   refine Qm (b := (!t29.2)) rfl (fun hb => ?_) (fun hb => ?_)
   ·have H17 := Jw hb H16; clear H16
    refine Jc<|Ja<|ag (i6 0)<|ag (i6 7)<|Jd<|Jy<|?_
    obtain rfl := Option.some.inj H17
    refine Vz (v1 := i6 0) (v2 := i6 7) rfl rfl rfl (Yz rfl)
   ·have H18 := Jx hb H16; clear H16
    refine Jv<|Jc<|Ja<|mv (i6 t23.1)<|ag (i6 t23.1)<|ag (i6 0)<|Jd<|Jy<|?_
    obtain rfl := Option.some.inj H18
    refine Vz (v1 := i6 t23.1) (v2 := i6 0) rfl rfl rfl (Yz rfl)
theorem k15 {a0 : (List T_face_Likeness)} {v0 : Value} {a1 : (List T_face_Person)} {v1 : Value} {a2 : Int} {a3 : Int} {r : (List T_face_Person) × Int} {w : World} {h : Qg} (hw : Know h w Yl) (f0 : FrS h 14 v0 (a0.map Jq)) (f1 : FrN h 4 v1 g_face_Person a1) (H : Jbj a0 a1 a2 a3 = some r) : Does Tryz.prog 15 (List.toArray [v0, v1, i6 a2, i6 a3]) w (fun v w' => ∃ x : (Option Addr × Nat), v = (.tuple #[sl x r.1.length, i6 r.2]) ∧ Turn w w' Yl (rofD true 32 4 g_face_Person (sl x r.1.length) r.1.length r.1)) := by
 refine enter (n := 65) Tryz.func15 rfl rfl rfl Yl [] (Sat.nil _ _)<|Wy Yo<|Jc<|Ja<|ag (.slice none 0 0)<|ag (i6 0)<|Jd<|Jc<|Ja<|mv v0<|mv v1<|mv (i6 a2)<|mv (i6 a3)<|?_
 obtain ⟨t18, h_t18, H39⟩ := Je H; clear H
 refine Qf (fun w hF hS => k54 (Jp w) (f0.mono (hw.now hF)) (f1.mono (hw.now hF)) h_t18) Tryz.call54 rfl rfl rfl<|mv (.tuple #[i6 t18.1, i6 t18.2])<|Jf rfl rfl rfl (Qs (v := i6 t18.1) rfl rfl)<|Jf rfl rfl rfl (Qs (v := i6 t18.2) rfl rfl)<|ag (i6 t18.1)<|ag (i6 t18.2)<|Jd<|Jc<|Ju<|Jc<|Ja<|mv (i6 t18.2)<|Jf rfl rfl rfl (r_neq rfl rfl)<|ag (.bool (decide (t18.2 ≠ 0)))<|Jd<|?_
 refine Qm (b := (decide (t18.2 ≠ 0))) rfl (fun hb => ?_) (fun hb => ?_)
 ·have H40 := Jw hb H39; clear H39
  refine Jc<|Ja<|mv (i6 t18.2)<|ag (.slice none 0 0)<|ag (i6 t18.2)<|Jd<|Jy<|Q9 32 4<|?_
  obtain rfl := Option.some.inj H40
  refine Xc 1 rfl (Zs _ _ _ _ _)<|Yp 0 1 rfl rfl (by decide)<|Xc 0 rfl (Zc (k := true) (p := nn) rfl (fun _ => rfl) (AllC.nil (G := g_face_Person) (h := Yo) (sz := 4)))<|?_
  refine Vz (v1 := sl nn (([] : List (List Value)).length)) (v2 := i6 t18.2) rfl rfl rfl (Zb nn (i := 0) rfl (by first | rfl | rw [(show (([] : List (List Value)).length) = ([] : List T_face_Person).length from (AllC.nil (G := g_face_Person) (h := Yo) (sz := 4)).len)]) (by first | exact Imp.refl _ | exact Imp.of (by rw [(show (([] : List (List Value)).length) = ([] : List T_face_Person).length from (AllC.nil (G := g_face_Person) (h := Yo) (sz := 4)).len)])))
 ·have H41 := Jx hb H39; clear H39
  refine Jc<|Ja<|mv v1<|mv (i6 a3)<|?_
  obtain ⟨t28, h_t28, H42⟩ := Je H41; clear H41
  refine Qf (fun w hF hS => k34 (Jp w) (f1.mono (hw.now hF)) h_t28) Tryz.call34 rfl rfl rfl<|Jf rfl rfl rfl (r_geq rfl rfl)<|ag (.bool (decide (0 ≤ t28)))<|Jd<|?_
  refine Qm (b := (decide (0 ≤ t28))) rfl (fun hb => ?_) (fun hb => ?_)
  ·have H43 := Jw hb H42; clear H42
   refine Jc<|Ja<|ag (.slice none 0 0)<|ag (i6 6)<|Jd<|Jy<|Q9 32 4<|?_
   obtain rfl := Option.some.inj H43
   refine Xc 1 rfl (Zs _ _ _ _ _)<|Yp 0 1 rfl rfl (by decide)<|Xc 0 rfl (Zc (k := true) (p := nn) rfl (fun _ => rfl) (AllC.nil (G := g_face_Person) (h := Yo) (sz := 4)))<|?_
   refine Vz (v1 := sl nn (([] : List (List Value)).length)) (v2 := i6 6) rfl rfl rfl (Zb nn (i := 0) rfl (by first | rfl | rw [(show (([] : List (List Value)).length) = ([] : List T_face_Person).length from (AllC.nil (G := g_face_Person) (h := Yo) (sz := 4)).len)]) (by first | exact Imp.refl _ | exact Imp.of (by rw [(show (([] : List (List Value)).length) = ([] : List T_face_Person).length from (AllC.nil (G := g_face_Person) (h := Yo) (sz := 4)).len)])))
  ·have H44 := Jx hb H42; clear H42
   refine Jc<|Ja<|mv v0<|mv v1<|mv (i6 t18.1)<|?_
   obtain ⟨t34, h_t34, H45⟩ := Je H44; clear H44
   refine Jf rfl rfl rfl (Qe Tryz.underlying23 Tryz.sizeOf32 rfl rfl f1.frs (f1.ix h_t34))<|J9 (fun w hF hS => Qj (f := (elC h v1 4)) (i := t18.1) (sz := 4) (j := 0) (vs := [i6 t34.Id, Xt t34.Name, (Qu h v1 4 (Int.toNat t18.1) 2), (Qu h v1 4 (Int.toNat t18.1) 3)]) Tryz.isAgg32 Tryz.sizeOf32 rfl rfl (f1.frs.row (hw.now hF)) (f1.ix h_t34) (rd_of (J1 (f1.at h_t34)) rfl)) rfl rfl rfl<|mv (i6 a3)<|?_
   obtain ⟨t37, h_t37, H46⟩ := Je H45; clear H45
   refine Qf (fun w hF hS => k35 (Jp w) (f0.mono (hw.now hF)) ((show FrS h 1 (Qu h v1 4 (Int.toNat t18.1) 2) (t34.Likes.map Jl) from (Jm (f1.at h_t34))).mono (hw.now hF)) ((show FrS h 1 (Qu h v1 4 (Int.toNat t18.1) 3) (t34.Nots.map Jl) from (Jt (f1.at h_t34))).mono (hw.now hF)) h_t37) Tryz.call35 rfl rfl rfl<|ag (.bool t37)<|Jd<|?_
   refine Qm (b := t37) rfl (fun hb => ?_) (fun hb => ?_)
   ·have H47 := Jw hb H46; clear H46
    refine Jc<|Ja<|ag (.slice none 0 0)<|ag (i6 11)<|Jd<|Jy<|Q9 32 4<|?_
    obtain rfl := Option.some.inj H47
    refine Xc 1 rfl (Zs _ _ _ _ _)<|Yp 0 1 rfl rfl (by decide)<|Xc 0 rfl (Zc (k := true) (p := nn) rfl (fun _ => rfl) (AllC.nil (G := g_face_Person) (h := Yo) (sz := 4)))<|?_
    refine Vz (v1 := sl nn (([] : List (List Value)).length)) (v2 := i6 11) rfl rfl rfl (Zb nn (i := 0) rfl (by first | rfl | rw [(show (([] : List (List Value)).length) = ([] : List T_face_Person).length from (AllC.nil (G := g_face_Person) (h := Yo) (sz := 4)).len)]) (by first | exact Imp.refl _ | exact Imp.of (by rw [(show (([] : List (List Value)).length) = ([] : List T_face_Person).length from (AllC.nil (G := g_face_Person) (h := Yo) (sz := 4)).len)])))
   ·have H48 := Jx hb H46; clear H46
    refine Jv<|Jc<|Ja<|mv v1<|?_
    obtain ⟨t39, h_t39, H49⟩ := Je H48; clear H48
    refine Yk (J8 (rds := []) (G := fun x : (Option Addr × Nat) => sl x t39.length) (C := fun x : (Option Addr × Nat) => rofD true 32 4 g_face_Person (sl x t39.length) t39.length t39) (fun w L' hF hS hi => k32 (Jp w) (f1.mono (hw.now hF)) h_t39) Tryz.call32 rfl) rfl rfl rfl (fun p => ?_)
    refine c_rofD 1 rfl (fun hp css hn hc pf => ?_)
    rw [hn]
    refine V7 1 rfl ?_
    refine Yv 0 1 rfl rfl (by decide) (fun _ _ => Qo) (fun hp_2 hle hle_2 => ?_)
    refine ag (sl p css.length)<|Jd<|?_
    try dsimp only [z1, z2, z5, z6, z7, z8]
    refine Jc ?_
    exact Qz (Kd.p :: Kd.p :: Kd.p :: Kd.p :: Kd.p :: Kd.p :: Kd.d [2] _ :: Kd.d [2] _ :: Kd.d [2] _ :: Kd.p :: Kd.ns 3 [_] 3 1 :: Kd.t 4 [0, 3] _ _ :: Kd.p :: Kd.p :: Kd.d [2] _ :: Kd.d [2] _ :: Kd.d [2] _ :: Kd.p :: Kd.ns 5 [_] 3 1 :: Kd.t 6 [0, 5] _ _ :: Kd.d [2] _ :: Kd.d [2] _ :: Kd.stk 61 51 2 :: Kd.d [2] _ :: Kd.d [2] _ :: Kd.stk 63 59 2 :: []) 4 mixed (by
     refine dm (sl p css.length)<|dm (i6 t18.1)<|dm (sl p css.length)<|dm (i6 t18.1)<|dm (sl p css.length)<|dm (i6 t18.1)<|?_
     have h_t46 := Jr H49
     have H50 := Jn H49
     refine Qc (fun w L' hF hS hi => J3 Tryz.underlying23 Tryz.sizeOf32 rfl rfl (Zm (i := 2) (E := 32) (sz := 4) (n := css.length) (a := p.1) (c := p.2) hS ((hi 2 (by simp)).trans rfl)) rfl ((pf.mono hle_2).ix h_t46)) rfl rfl<|Y5 rfl rfl (fun w L' hF hS hi => Xn Tryz.runUnderlying32 rfl Tryz.sizeOf24 rfl rfl (Zm (i := 2) (E := 32) (sz := 4) (n := css.length) (a := p.1) (c := p.2) hS ((hi 2 (by simp)).trans rfl)) ((pf.mono hle_2).ix h_t46))<|Qc (fun w L' hF hS hi => J2 (f := idC) (i := t18.1) (sz := 4) (j := 2) (v := (List.getD (List.getD css (Int.toNat t18.1) []) 2 undef)) Tryz.isAgg24 rfl rfl (Zm (i := 2) (E := 32) (sz := 4) (n := css.length) (a := p.1) (c := p.2) hS ((hi 2 (by simp)).trans rfl)) ((pf.mono hle_2).ix h_t46) (V4 (((pf.mono hle_2).eta h_t46).trans (J1 ((pf.mono hle_2).at h_t46))) rfl)) rfl rfl<|dm (i6 a3)<|?_
     refine d_newS rfl rfl (Z7 (vs := [i6 a3]) (cs := [i6 a3]) Tryz.underlying24 Tryz.sizeOf3 Tryz.zeroValue3 rfl rfl rfl rfl rfl) rfl (fun b4 => ?_)
     have h_t51 := Jr H50
     have H51 := Jn H50
     refine Uc (Cv := fun v => roV 1 v (val (Jh (val (Jk t39 t18.1)).Likes ([a3] : List Int))).length ((val (Jh (val (Jk t39 t18.1)).Likes ([a3] : List Int))).map Jl)) (none, 0) (J8 (G := fun x : (Option Addr × Nat) => sl x (val (Jh (val (Jk t39 t18.1)).Likes ([a3] : List Int))).length) (C := fun x : (Option Addr × Nat) => roV 1 (sl x (val (Jh (val (Jk t39 t18.1)).Likes ([a3] : List Int))).length) (val (Jh (val (Jk t39 t18.1)).Likes ([a3] : List Int))).length ((val (Jh (val (Jk t39 t18.1)).Likes ([a3] : List Int))).map Jl)) (fun w L' hF hS hi => k36 (Jp w) ((show FrS hp_2 1 (List.getD (List.getD css (Int.toNat t18.1) []) 2 undef) ((val (Jk t39 t18.1)).Likes.map Jl) from (Jm ((pf.mono hle_2).at h_t46))).mono (Xi (i := 0) hS ((hi 0 (by simp)).trans rfl) Qo)) (frs_box (i := 3) (xs := ([a3] : List Int)) (f := Jl) hS ((hi 3 (by simp)).trans rfl) rfl rfl rfl rfl) h_t51) Tryz.call36 rfl) (fun _ => rfl) rfl rfl rfl (fun p_2 => ?_)
     refine dm (sl p css.length)<|dm (i6 t18.1)<|?_
     have h_t54 := Jr H51
     have H52 := Jn H51
     refine Qc (fun w L' hF hS hi => J3 Tryz.underlying23 Tryz.sizeOf32 rfl rfl (Zm (i := 2) (E := 32) (sz := 4) (n := css.length) (a := p.1) (c := p.2) hS ((hi 2 (by simp)).trans rfl)) rfl ((pf.mono hle_2).ix h_t54)) rfl rfl<|Y5 rfl rfl (fun w L' hF hS hi => Xn Tryz.runUnderlying32 rfl Tryz.sizeOf24 rfl rfl (Zm (i := 2) (E := 32) (sz := 4) (n := css.length) (a := p.1) (c := p.2) hS ((hi 2 (by simp)).trans rfl)) ((pf.mono hle_2).ix h_t54))<|Qc (fun w L' hF hS hi => J2 (f := idC) (i := t18.1) (sz := 4) (j := 3) (v := (List.getD (List.getD css (Int.toNat t18.1) []) 3 undef)) Tryz.isAgg24 rfl rfl (Zm (i := 2) (E := 32) (sz := 4) (n := css.length) (a := p.1) (c := p.2) hS ((hi 2 (by simp)).trans rfl)) ((pf.mono hle_2).ix h_t54) (V4 (((pf.mono hle_2).eta h_t54).trans (J1 ((pf.mono hle_2).at h_t54))) rfl)) rfl rfl<|dm (i6 a3)<|?_
     refine d_newS rfl rfl (Z7 (vs := [i6 a3]) (cs := [i6 a3]) Tryz.underlying24 Tryz.sizeOf3 Tryz.zeroValue3 rfl rfl rfl rfl rfl) rfl (fun b5 => ?_)
     have h_t59 := Jr H52
     have H53 := Jn H52
     refine Uc (Cv := fun v => roV 1 v (val (Jz (val (Jk t39 t18.1)).Nots ([a3] : List Int))).length ((val (Jz (val (Jk t39 t18.1)).Nots ([a3] : List Int))).map Jl)) (none, 0) (J8 (G := fun x : (Option Addr × Nat) => sl x (val (Jz (val (Jk t39 t18.1)).Nots ([a3] : List Int))).length) (C := fun x : (Option Addr × Nat) => roV 1 (sl x (val (Jz (val (Jk t39 t18.1)).Nots ([a3] : List Int))).length) (val (Jz (val (Jk t39 t18.1)).Nots ([a3] : List Int))).length ((val (Jz (val (Jk t39 t18.1)).Nots ([a3] : List Int))).map Jl)) (fun w L' hF hS hi => k43 (Jp w) ((show FrS hp_2 1 (List.getD (List.getD css (Int.toNat t18.1) []) 3 undef) ((val (Jk t39 t18.1)).Nots.map Jl) from (Jt ((pf.mono hle_2).at h_t54))).mono (Xi (i := 0) hS ((hi 0 (by simp)).trans rfl) Qo)) (frs_box (i := 5) (xs := ([a3] : List Int)) (f := Jl) hS ((hi 5 (by simp)).trans rfl) rfl rfl rfl rfl) h_t59) Tryz.call43 rfl) (fun _ => rfl) rfl rfl rfl (fun p_3 => ?_)
     have h_t60 := Jr H53
     have H54 := Jn H53
     refine Qc (fun w L' hF hS hi => J3 Tryz.underlying23 Tryz.sizeOf32 rfl rfl (Zm (i := 2) (E := 32) (sz := 4) (n := css.length) (a := p.1) (c := p.2) hS ((hi 2 (by simp)).trans rfl)) rfl ((pf.mono hle_2).ix h_t60)) rfl rfl<|Y5 rfl rfl (fun w L' hF hS hi => Xn Tryz.runUnderlying32 rfl Tryz.sizeOf24 rfl rfl (Zm (i := 2) (E := 32) (sz := 4) (n := css.length) (a := p.1) (c := p.2) hS ((hi 2 (by simp)).trans rfl)) ((pf.mono hle_2).ix h_t60))<|?_
     have h_l2 := Jr H54
     have H55 := Jn H54
     refine W4 (i := 2) (x := sl p_2 (val (Jh (val (Jk t39 t18.1)).Likes ([a3] : List Int))).length) (va := (Zn p.1 (Int.toNat t18.1 * 4 + 2))) Tryz.sizeOf24 rfl rfl rfl rfl rfl rfl (Jbd (E := 32) (sz := 4) (n := css.length) (a := p.1) (c := p.2) (css := css) (Imp.refl _) rfl (pf.mono hle_2).len h_t60 rfl rfl) ?_
     have h_t62 := Jr H55
     have H56 := Jn H55
     refine Qc (fun w L' hF hS hi => J3 Tryz.underlying23 Tryz.sizeOf32 rfl rfl (offOfI (Jb5 (E := 32) (sz := 4) (n := css.length) (a := p.1) (c := p.2) (css := css) (j := 2) (x := sl p_2 (val (Jh (val (Jk t39 t18.1)).Likes ([a3] : List Int))).length) (Imp.refl _) (pf.mono hle_2).len h_t60 rfl rfl) hS ((hi 2 (by simp)).trans rfl)) (rfl.trans (Qt _ _ _ _).symm) (ixR (lenR (pf.mono hle_2).len h_l2) h_t62)) rfl rfl<|Y5 rfl rfl (fun w L' hF hS hi => Xn Tryz.runUnderlying32 rfl Tryz.sizeOf24 rfl rfl (offOfI (Jb5 (E := 32) (sz := 4) (n := css.length) (a := p.1) (c := p.2) (css := css) (j := 2) (x := sl p_2 (val (Jh (val (Jk t39 t18.1)).Likes ([a3] : List Int))).length) (Imp.refl _) (pf.mono hle_2).len h_t60 rfl rfl) hS ((hi 2 (by simp)).trans rfl)) (ixR (lenR (pf.mono hle_2).len h_l2) h_t62))<|?_
     have h_l2_2 := Jr H56
     have H57 := Jn H56
     refine W4 (i := 2) (x := sl p_3 (val (Jz (val (Jk t39 t18.1)).Nots ([a3] : List Int))).length) (va := (Zn p.1 (Int.toNat t18.1 * 4 + 3))) Tryz.sizeOf24 rfl rfl rfl rfl rfl rfl (Jbd (E := 32) (sz := 4) (n := css.length) (a := p.1) (c := p.2) (css := (setR css t18.1 2 (sl p_2 (val (Jh (val (Jk t39 t18.1)).Likes ([a3] : List Int))).length))) (Jb5 (E := 32) (sz := 4) (n := css.length) (a := p.1) (c := p.2) (css := css) (j := 2) (x := sl p_2 (val (Jh (val (Jk t39 t18.1)).Likes ([a3] : List Int))).length) (Imp.refl _) (pf.mono hle_2).len h_t60 rfl rfl) (rfl.trans (Qt _ _ _ _).symm) (lenR (pf.mono hle_2).len h_l2) h_t62 rfl rfl)<|Y3<|Xc 2 rfl (Jb5 (E := 32) (sz := 4) (n := css.length) (a := p.1) (c := p.2) (css := (setR css t18.1 2 (sl p_2 (val (Jh (val (Jk t39 t18.1)).Likes ([a3] : List Int))).length))) (j := 3) (x := sl p_3 (val (Jz (val (Jk t39 t18.1)).Nots ([a3] : List Int))).length) (Jb5 (E := 32) (sz := 4) (n := css.length) (a := p.1) (c := p.2) (css := css) (j := 2) (x := sl p_2 (val (Jh (val (Jk t39 t18.1)).Likes ([a3] : List Int))).length) (Imp.refl _) (pf.mono hle_2).len h_t60 rfl rfl) (lenR (pf.mono hle_2).len h_l2) h_t62 rfl rfl)<|?_
     refine Yq (Φ := fun H_ => FrS H_ 1 (sl p_2 (val (Jh (val (Jk t39 t18.1)).Likes ([a3] : List Int))).length) ((val (Jh (val (Jk t39 t18.1)).Likes ([a3] : List Int))).map Jl)) 0 4 rfl rfl (by decide) (fun _ _ => Qo) (fz_ro _) (fun hp_3 hle_3 hf => ?_)
     have pf_2 : AllC g_face_Person hp_3 4 (setR css t18.1 2 (sl p_2 (val (Jh (val (Jk t39 t18.1)).Likes ([a3] : List Int))).length)) (val (Q6 t39 t18.1 (⟨(val (Jk t39 t18.1)).Id, (val (Jk t39 t18.1)).Name, (val (Jh (val (Jk t39 t18.1)).Likes ([a3] : List Int))), (val (Jk t39 t18.1)).Nots⟩ : T_face_Person))) := AllC.setR ((pf.mono hle_2).mono hle_3) h_t60 h_l2 rfl (by obtain ⟨q0_, q1_, q2_, q3_⟩ := ((pf.mono hle_2).mono hle_3).at h_t60; exact ⟨q0_, q1_, hf, q3_⟩)
     refine Yq (Φ := fun H_ => FrS H_ 1 (sl p_3 (val (Jz (val (Jk t39 t18.1)).Nots ([a3] : List Int))).length) ((val (Jz (val (Jk t39 t18.1)).Nots ([a3] : List Int))).map Jl)) 0 6 rfl rfl (by decide) (fun _ _ => Qo) (fz_ro _) (fun hp_4 hle_4 hf_2 => ?_)
     have pf_3 : AllC g_face_Person hp_4 4 (setR (setR css t18.1 2 (sl p_2 (val (Jh (val (Jk t39 t18.1)).Likes ([a3] : List Int))).length)) t18.1 3 (sl p_3 (val (Jz (val (Jk t39 t18.1)).Nots ([a3] : List Int))).length)) (val (Q6 (val (Q6 t39 t18.1 (⟨(val (Jk t39 t18.1)).Id, (val (Jk t39 t18.1)).Name, (val (Jh (val (Jk t39 t18.1)).Likes ([a3] : List Int))), (val (Jk t39 t18.1)).Nots⟩ : T_face_Person))) t18.1 (⟨(val (Jk (val (Q6 t39 t18.1 (⟨(val (Jk t39 t18.1)).Id, (val (Jk t39 t18.1)).Name, (val (Jh (val (Jk t39 t18.1)).Likes ([a3] : List Int))), (val (Jk t39 t18.1)).Nots⟩ : T_face_Person))) t18.1)).Id, (val (Jk (val (Q6 t39 t18.1 (⟨(val (Jk t39 t18.1)).Id, (val (Jk t39 t18.1)).Name, (val (Jh (val (Jk t39 t18.1)).Likes ([a3] : List Int))), (val (Jk t39 t18.1)).Nots⟩ : T_face_Person))) t18.1)).Name, (val (Jk (val (Q6 t39 t18.1 (⟨(val (Jk t39 t18.1)).Id, (val (Jk t39 t18.1)).Name, (val (Jh (val (Jk t39 t18.1)).Likes ([a3] : List Int))), (val (Jk t39 t18.1)).Nots⟩ : T_face_Person))) t18.1)).Likes, (val (Jz (val (Jk t39 t18.1)).Nots ([a3] : List Int)))⟩ : T_face_Person))) := AllC.setR (pf_2.mono hle_4) h_t62 h_l2_2 rfl (by obtain ⟨q0_, q1_, q2_, q3_⟩ := (pf_2.mono hle_4).at h_t62; exact ⟨q0_, q1_, q2_, hf_2⟩)
     try dsimp only [z1, z2, z5, z6, z7, z8]
     refine Jc<|Ja<|mv (sl p css.length)<|ag (sl p css.length)<|ag (i6 0)<|Jd<|?_
     try dsimp only [z1, z2, z5, z6, z7, z8]
     refine Jy ?_
     obtain rfl := Option.some.inj H57
     refine Yp 0 2 rfl rfl (by decide)<|Xc 0 rfl (Zc (k := true) (p := p) ((rfl.trans (Qt _ _ _ _).symm).trans (Qt _ _ _ _).symm) (fun _ => ((hc rfl).trans hn)) pf_3)<|?_
     refine Vz (v1 := sl p css.length) (v2 := i6 0) rfl rfl rfl (Zb p (i := 0) rfl (by first | rfl | rw [(show css.length = (val (Q6 (val (Q6 t39 t18.1 (⟨(val (Jk t39 t18.1)).Id, (val (Jk t39 t18.1)).Name, (val (Jh (val (Jk t39 t18.1)).Likes ([a3] : List Int))), (val (Jk t39 t18.1)).Nots⟩ : T_face_Person))) t18.1 (⟨(val (Jk (val (Q6 t39 t18.1 (⟨(val (Jk t39 t18.1)).Id, (val (Jk t39 t18.1)).Name, (val (Jh (val (Jk t39 t18.1)).Likes ([a3] : List Int))), (val (Jk t39 t18.1)).Nots⟩ : T_face_Person))) t18.1)).Id, (val (Jk (val (Q6 t39 t18.1 (⟨(val (Jk t39 t18.1)).Id, (val (Jk t39 t18.1)).Name, (val (Jh (val (Jk t39 t18.1)).Likes ([a3] : List Int))), (val (Jk t39 t18.1)).Nots⟩ : T_face_Person))) t18.1)).Name, (val (Jk (val (Q6 t39 t18.1 (⟨(val (Jk t39 t18.1)).Id, (val (Jk t39 t18.1)).Name, (val (Jh (val (Jk t39 t18.1)).Likes ([a3] : List Int))), (val (Jk t39 t18.1)).Nots⟩ : T_face_Person))) t18.1)).Likes, (val (Jz (val (Jk t39 t18.1)).Nots ([a3] : List Int)))⟩ : T_face_Person))).length from (((rfl.trans (Qt _ _ _ _).symm).trans (Qt _ _ _ _).symm).trans pf_3.len))]) (by first | exact Imp.refl _ | exact Imp.of (by rw [(show css.length = (val (Q6 (val (Q6 t39 t18.1 (⟨(val (Jk t39 t18.1)).Id, (val (Jk t39 t18.1)).Name, (val (Jh (val (Jk t39 t18.1)).Likes ([a3] : List Int))), (val (Jk t39 t18.1)).Nots⟩ : T_face_Person))) t18.1 (⟨(val (Jk (val (Q6 t39 t18.1 (⟨(val (Jk t39 t18.1)).Id, (val (Jk t39 t18.1)).Name, (val (Jh (val (Jk t39 t18.1)).Likes ([a3] : List Int))), (val (Jk t39 t18.1)).Nots⟩ : T_face_Person))) t18.1)).Id, (val (Jk (val (Q6 t39 t18.1 (⟨(val (Jk t39 t18.1)).Id, (val (Jk t39 t18.1)).Name, (val (Jh (val (Jk t39 t18.1)).Likes ([a3] : List Int))), (val (Jk t39 t18.1)).Nots⟩ : T_face_Person))) t18.1)).Name, (val (Jk (val (Q6 t39 t18.1 (⟨(val (Jk t39 t18.1)).Id, (val (Jk t39 t18.1)).Name, (val (Jh (val (Jk t39 t18.1)).Likes ([a3] : List Int))), (val (Jk t39 t18.1)).Nots⟩ : T_face_Person))) t18.1)).Likes, (val (Jz (val (Jk t39 t18.1)).Nots ([a3] : List Int)))⟩ : T_face_Person))).length from (((rfl.trans (Qt _ _ _ _).symm).trans (Qt _ _ _ _).symm).trans pf_3.len))])))
     ) (by kernel_rfl)
theorem k16 {a0 : (List T_face_Likeness)} {v0 : Value} {a1 : (List T_face_Person)} {v1 : Value} {a2 : Int} {a3 : Int} {r : (List T_face_Person) × Int} {w : World} {h : Qg} (hw : Know h w Yl) (f0 : FrS h 14 v0 (a0.map Jq)) (f1 : FrN h 4 v1 g_face_Person a1) (H : face_Deny a0 a1 a2 a3 = some r) : Does Tryz.prog 16 (List.toArray [v0, v1, i6 a2, i6 a3]) w (fun v w' => ∃ x : (Option Addr × Nat), v = (.tuple #[sl x r.1.length, i6 r.2]) ∧ Turn w w' Yl (rofD true 32 4 g_face_Person (sl x r.1.length) r.1.length r.1)) := by
 refine enter (n := 60) Tryz.func16 rfl rfl rfl Yl [] (Sat.nil _ _)<|Wy Yo<|Jc<|Ja<|ag (.slice none 0 0)<|ag (i6 0)<|Jd<|Jc<|Ja<|mv v0<|mv v1<|mv (i6 a2)<|mv (i6 a3)<|?_
 obtain ⟨t18, h_t18, H33⟩ := Je H; clear H
 refine Qf (fun w hF hS => k54 (Jp w) (f0.mono (hw.now hF)) (f1.mono (hw.now hF)) h_t18) Tryz.call54 rfl rfl rfl<|mv (.tuple #[i6 t18.1, i6 t18.2])<|Jf rfl rfl rfl (Qs (v := i6 t18.1) rfl rfl)<|Jf rfl rfl rfl (Qs (v := i6 t18.2) rfl rfl)<|ag (i6 t18.1)<|ag (i6 t18.2)<|Jd<|Jc<|Ju<|Jc<|Ja<|mv (i6 t18.2)<|Jf rfl rfl rfl (r_neq rfl rfl)<|ag (.bool (decide (t18.2 ≠ 0)))<|Jd<|?_
 refine Qm (b := (decide (t18.2 ≠ 0))) rfl (fun hb => ?_) (fun hb => ?_)
 ·have H34 := Jw hb H33; clear H33
  refine Jc<|Ja<|mv (i6 t18.2)<|ag (.slice none 0 0)<|ag (i6 t18.2)<|Jd<|Jy<|Q9 32 4<|?_
  obtain rfl := Option.some.inj H34
  refine Xc 1 rfl (Zs _ _ _ _ _)<|Yp 0 1 rfl rfl (by decide)<|Xc 0 rfl (Zc (k := true) (p := nn) rfl (fun _ => rfl) (AllC.nil (G := g_face_Person) (h := Yo) (sz := 4)))<|?_
  refine Vz (v1 := sl nn (([] : List (List Value)).length)) (v2 := i6 t18.2) rfl rfl rfl (Zb nn (i := 0) rfl (by first | rfl | rw [(show (([] : List (List Value)).length) = ([] : List T_face_Person).length from (AllC.nil (G := g_face_Person) (h := Yo) (sz := 4)).len)]) (by first | exact Imp.refl _ | exact Imp.of (by rw [(show (([] : List (List Value)).length) = ([] : List T_face_Person).length from (AllC.nil (G := g_face_Person) (h := Yo) (sz := 4)).len)])))
 ·have H35 := Jx hb H33; clear H33
  refine Jc<|Ja<|mv v1<|mv (i6 t18.1)<|?_
  obtain ⟨t28, h_t28, H36⟩ := Je H35; clear H35
  refine Jf rfl rfl rfl (Qe Tryz.underlying23 Tryz.sizeOf32 rfl rfl f1.frs (f1.ix h_t28))<|Jf rfl rfl rfl (Xv Tryz.runUnderlying32 rfl Tryz.sizeOf24 rfl rfl (Ym f1.frs (f1.ix h_t28)))<|J9 (fun w hF hS => J2 (f := (elC h v1 4)) (i := t18.1) (sz := 4) (j := 3) (v := (Qu h v1 4 (Int.toNat t18.1) 3)) Tryz.isAgg24 rfl rfl (f1.frs.row (hw.now hF)) (f1.ix h_t28) (V4 (J1 (f1.at h_t28)) rfl)) rfl rfl rfl<|mv (i6 a3)<|?_
  obtain ⟨t32, h_t32, H37⟩ := Je H36; clear H36
  refine Qf (fun w hF hS => k55 (Jp w) ((show FrS h 1 (Qu h v1 4 (Int.toNat t18.1) 3) (t28.Nots.map Jl) from (Jt (f1.at h_t28))).mono (hw.now hF)) h_t32) Tryz.call55 rfl rfl rfl<|ag (.bool t32)<|Jd<|?_
  refine Qm (b := t32) rfl (fun hb => ?_) (fun hb => ?_)
  ·have H38 := Jw hb H37; clear H37
   refine Jc<|Ja<|ag (.slice none 0 0)<|ag (i6 6)<|Jd<|Jy<|Q9 32 4<|?_
   obtain rfl := Option.some.inj H38
   refine Xc 1 rfl (Zs _ _ _ _ _)<|Yp 0 1 rfl rfl (by decide)<|Xc 0 rfl (Zc (k := true) (p := nn) rfl (fun _ => rfl) (AllC.nil (G := g_face_Person) (h := Yo) (sz := 4)))<|?_
   refine Vz (v1 := sl nn (([] : List (List Value)).length)) (v2 := i6 6) rfl rfl rfl (Zb nn (i := 0) rfl (by first | rfl | rw [(show (([] : List (List Value)).length) = ([] : List T_face_Person).length from (AllC.nil (G := g_face_Person) (h := Yo) (sz := 4)).len)]) (by first | exact Imp.refl _ | exact Imp.of (by rw [(show (([] : List (List Value)).length) = ([] : List T_face_Person).length from (AllC.nil (G := g_face_Person) (h := Yo) (sz := 4)).len)])))
  ·have H39 := Jx hb H37; clear H37
   refine Jv<|Jc<|Ja<|mv v1<|?_
   obtain ⟨t34, h_t34, H40⟩ := Je H39; clear H39
   refine Yk (J8 (rds := []) (G := fun x : (Option Addr × Nat) => sl x t34.length) (C := fun x : (Option Addr × Nat) => rofD true 32 4 g_face_Person (sl x t34.length) t34.length t34) (fun w L' hF hS hi => k32 (Jp w) (f1.mono (hw.now hF)) h_t34) Tryz.call32 rfl) rfl rfl rfl (fun p => ?_)
   refine c_rofD 1 rfl (fun hp css hn hc pf => ?_)
   rw [hn]
   refine V7 1 rfl ?_
   refine Yv 0 1 rfl rfl (by decide) (fun _ _ => Qo) (fun hp_2 hle hle_2 => ?_)
   refine ag (sl p css.length)<|Jd<|?_
   try dsimp only [z1, z2, z5, z6, z7, z8]
   refine Jc ?_
   exact Qz (Kd.p :: Kd.p :: Kd.p :: Kd.p :: Kd.p :: Kd.p :: Kd.d [2] _ :: Kd.d [2] _ :: Kd.d [2] _ :: Kd.p :: Kd.ns 3 [_] 3 1 :: Kd.t 4 [0, 3] _ _ :: Kd.p :: Kd.p :: Kd.d [2] _ :: Kd.d [2] _ :: Kd.d [2] _ :: Kd.p :: Kd.ns 5 [_] 3 1 :: Kd.t 6 [0, 5] _ _ :: Kd.d [2] _ :: Kd.d [2] _ :: Kd.stk 56 46 2 :: Kd.d [2] _ :: Kd.d [2] _ :: Kd.stk 58 54 2 :: []) 4 mixed (by
    refine dm (sl p css.length)<|dm (i6 t18.1)<|dm (sl p css.length)<|dm (i6 t18.1)<|dm (sl p css.length)<|dm (i6 t18.1)<|?_
    have h_t41 := Jr H40
    have H41 := Jn H40
    refine Qc (fun w L' hF hS hi => J3 Tryz.underlying23 Tryz.sizeOf32 rfl rfl (Zm (i := 2) (E := 32) (sz := 4) (n := css.length) (a := p.1) (c := p.2) hS ((hi 2 (by simp)).trans rfl)) rfl ((pf.mono hle_2).ix h_t41)) rfl rfl<|Y5 rfl rfl (fun w L' hF hS hi => Xn Tryz.runUnderlying32 rfl Tryz.sizeOf24 rfl rfl (Zm (i := 2) (E := 32) (sz := 4) (n := css.length) (a := p.1) (c := p.2) hS ((hi 2 (by simp)).trans rfl)) ((pf.mono hle_2).ix h_t41))<|Qc (fun w L' hF hS hi => J2 (f := idC) (i := t18.1) (sz := 4) (j := 3) (v := (List.getD (List.getD css (Int.toNat t18.1) []) 3 undef)) Tryz.isAgg24 rfl rfl (Zm (i := 2) (E := 32) (sz := 4) (n := css.length) (a := p.1) (c := p.2) hS ((hi 2 (by simp)).trans rfl)) ((pf.mono hle_2).ix h_t41) (V4 (((pf.mono hle_2).eta h_t41).trans (J1 ((pf.mono hle_2).at h_t41))) rfl)) rfl rfl<|dm (i6 a3)<|?_
    refine d_newS rfl rfl (Z7 (vs := [i6 a3]) (cs := [i6 a3]) Tryz.underlying24 Tryz.sizeOf3 Tryz.zeroValue3 rfl rfl rfl rfl rfl) rfl (fun b4 => ?_)
    have h_t46 := Jr H41
    have H42 := Jn H41
    refine Uc (Cv := fun v => roV 1 v (val (Jh (val (Jk t34 t18.1)).Nots ([a3] : List Int))).length ((val (Jh (val (Jk t34 t18.1)).Nots ([a3] : List Int))).map Jl)) (none, 0) (J8 (G := fun x : (Option Addr × Nat) => sl x (val (Jh (val (Jk t34 t18.1)).Nots ([a3] : List Int))).length) (C := fun x : (Option Addr × Nat) => roV 1 (sl x (val (Jh (val (Jk t34 t18.1)).Nots ([a3] : List Int))).length) (val (Jh (val (Jk t34 t18.1)).Nots ([a3] : List Int))).length ((val (Jh (val (Jk t34 t18.1)).Nots ([a3] : List Int))).map Jl)) (fun w L' hF hS hi => k36 (Jp w) ((show FrS hp_2 1 (List.getD (List.getD css (Int.toNat t18.1) []) 3 undef) ((val (Jk t34 t18.1)).Nots.map Jl) from (Jt ((pf.mono hle_2).at h_t41))).mono (Xi (i := 0) hS ((hi 0 (by simp)).trans rfl) Qo)) (frs_box (i := 3) (xs := ([a3] : List Int)) (f := Jl) hS ((hi 3 (by simp)).trans rfl) rfl rfl rfl rfl) h_t46) Tryz.call36 rfl) (fun _ => rfl) rfl rfl rfl (fun p_2 => ?_)
    refine dm (sl p css.length)<|dm (i6 t18.1)<|?_
    have h_t49 := Jr H42
    have H43 := Jn H42
    refine Qc (fun w L' hF hS hi => J3 Tryz.underlying23 Tryz.sizeOf32 rfl rfl (Zm (i := 2) (E := 32) (sz := 4) (n := css.length) (a := p.1) (c := p.2) hS ((hi 2 (by simp)).trans rfl)) rfl ((pf.mono hle_2).ix h_t49)) rfl rfl<|Y5 rfl rfl (fun w L' hF hS hi => Xn Tryz.runUnderlying32 rfl Tryz.sizeOf24 rfl rfl (Zm (i := 2) (E := 32) (sz := 4) (n := css.length) (a := p.1) (c := p.2) hS ((hi 2 (by simp)).trans rfl)) ((pf.mono hle_2).ix h_t49))<|Qc (fun w L' hF hS hi => J2 (f := idC) (i := t18.1) (sz := 4) (j := 2) (v := (List.getD (List.getD css (Int.toNat t18.1) []) 2 undef)) Tryz.isAgg24 rfl rfl (Zm (i := 2) (E := 32) (sz := 4) (n := css.length) (a := p.1) (c := p.2) hS ((hi 2 (by simp)).trans rfl)) ((pf.mono hle_2).ix h_t49) (V4 (((pf.mono hle_2).eta h_t49).trans (J1 ((pf.mono hle_2).at h_t49))) rfl)) rfl rfl<|dm (i6 a3)<|?_
    refine d_newS rfl rfl (Z7 (vs := [i6 a3]) (cs := [i6 a3]) Tryz.underlying24 Tryz.sizeOf3 Tryz.zeroValue3 rfl rfl rfl rfl rfl) rfl (fun b5 => ?_)
    have h_t54 := Jr H43
    have H44 := Jn H43
    refine Uc (Cv := fun v => roV 1 v (val (Jz (val (Jk t34 t18.1)).Likes ([a3] : List Int))).length ((val (Jz (val (Jk t34 t18.1)).Likes ([a3] : List Int))).map Jl)) (none, 0) (J8 (G := fun x : (Option Addr × Nat) => sl x (val (Jz (val (Jk t34 t18.1)).Likes ([a3] : List Int))).length) (C := fun x : (Option Addr × Nat) => roV 1 (sl x (val (Jz (val (Jk t34 t18.1)).Likes ([a3] : List Int))).length) (val (Jz (val (Jk t34 t18.1)).Likes ([a3] : List Int))).length ((val (Jz (val (Jk t34 t18.1)).Likes ([a3] : List Int))).map Jl)) (fun w L' hF hS hi => k43 (Jp w) ((show FrS hp_2 1 (List.getD (List.getD css (Int.toNat t18.1) []) 2 undef) ((val (Jk t34 t18.1)).Likes.map Jl) from (Jm ((pf.mono hle_2).at h_t49))).mono (Xi (i := 0) hS ((hi 0 (by simp)).trans rfl) Qo)) (frs_box (i := 5) (xs := ([a3] : List Int)) (f := Jl) hS ((hi 5 (by simp)).trans rfl) rfl rfl rfl rfl) h_t54) Tryz.call43 rfl) (fun _ => rfl) rfl rfl rfl (fun p_3 => ?_)
    have h_t55 := Jr H44
    have H45 := Jn H44
    refine Qc (fun w L' hF hS hi => J3 Tryz.underlying23 Tryz.sizeOf32 rfl rfl (Zm (i := 2) (E := 32) (sz := 4) (n := css.length) (a := p.1) (c := p.2) hS ((hi 2 (by simp)).trans rfl)) rfl ((pf.mono hle_2).ix h_t55)) rfl rfl<|Y5 rfl rfl (fun w L' hF hS hi => Xn Tryz.runUnderlying32 rfl Tryz.sizeOf24 rfl rfl (Zm (i := 2) (E := 32) (sz := 4) (n := css.length) (a := p.1) (c := p.2) hS ((hi 2 (by simp)).trans rfl)) ((pf.mono hle_2).ix h_t55))<|?_
    have h_l2 := Jr H45
    have H46 := Jn H45
    refine W4 (i := 2) (x := sl p_2 (val (Jh (val (Jk t34 t18.1)).Nots ([a3] : List Int))).length) (va := (Zn p.1 (Int.toNat t18.1 * 4 + 3))) Tryz.sizeOf24 rfl rfl rfl rfl rfl rfl (Jbd (E := 32) (sz := 4) (n := css.length) (a := p.1) (c := p.2) (css := css) (Imp.refl _) rfl (pf.mono hle_2).len h_t55 rfl rfl) ?_
    have h_t57 := Jr H46
    have H47 := Jn H46
    refine Qc (fun w L' hF hS hi => J3 Tryz.underlying23 Tryz.sizeOf32 rfl rfl (offOfI (Jb5 (E := 32) (sz := 4) (n := css.length) (a := p.1) (c := p.2) (css := css) (j := 3) (x := sl p_2 (val (Jh (val (Jk t34 t18.1)).Nots ([a3] : List Int))).length) (Imp.refl _) (pf.mono hle_2).len h_t55 rfl rfl) hS ((hi 2 (by simp)).trans rfl)) (rfl.trans (Qt _ _ _ _).symm) (ixR (lenR (pf.mono hle_2).len h_l2) h_t57)) rfl rfl<|Y5 rfl rfl (fun w L' hF hS hi => Xn Tryz.runUnderlying32 rfl Tryz.sizeOf24 rfl rfl (offOfI (Jb5 (E := 32) (sz := 4) (n := css.length) (a := p.1) (c := p.2) (css := css) (j := 3) (x := sl p_2 (val (Jh (val (Jk t34 t18.1)).Nots ([a3] : List Int))).length) (Imp.refl _) (pf.mono hle_2).len h_t55 rfl rfl) hS ((hi 2 (by simp)).trans rfl)) (ixR (lenR (pf.mono hle_2).len h_l2) h_t57))<|?_
    have h_l2_2 := Jr H47
    have H48 := Jn H47
    refine W4 (i := 2) (x := sl p_3 (val (Jz (val (Jk t34 t18.1)).Likes ([a3] : List Int))).length) (va := (Zn p.1 (Int.toNat t18.1 * 4 + 2))) Tryz.sizeOf24 rfl rfl rfl rfl rfl rfl (Jbd (E := 32) (sz := 4) (n := css.length) (a := p.1) (c := p.2) (css := (setR css t18.1 3 (sl p_2 (val (Jh (val (Jk t34 t18.1)).Nots ([a3] : List Int))).length))) (Jb5 (E := 32) (sz := 4) (n := css.length) (a := p.1) (c := p.2) (css := css) (j := 3) (x := sl p_2 (val (Jh (val (Jk t34 t18.1)).Nots ([a3] : List Int))).length) (Imp.refl _) (pf.mono hle_2).len h_t55 rfl rfl) (rfl.trans (Qt _ _ _ _).symm) (lenR (pf.mono hle_2).len h_l2) h_t57 rfl rfl)<|Y3<|Xc 2 rfl (Jb5 (E := 32) (sz := 4) (n := css.length) (a := p.1) (c := p.2) (css := (setR css t18.1 3 (sl p_2 (val (Jh (val (Jk t34 t18.1)).Nots ([a3] : List Int))).length))) (j := 2) (x := sl p_3 (val (Jz (val (Jk t34 t18.1)).Likes ([a3] : List Int))).length) (Jb5 (E := 32) (sz := 4) (n := css.length) (a := p.1) (c := p.2) (css := css) (j := 3) (x := sl p_2 (val (Jh (val (Jk t34 t18.1)).Nots ([a3] : List Int))).length) (Imp.refl _) (pf.mono hle_2).len h_t55 rfl rfl) (lenR (pf.mono hle_2).len h_l2) h_t57 rfl rfl)<|?_
    refine Yq (Φ := fun H_ => FrS H_ 1 (sl p_2 (val (Jh (val (Jk t34 t18.1)).Nots ([a3] : List Int))).length) ((val (Jh (val (Jk t34 t18.1)).Nots ([a3] : List Int))).map Jl)) 0 4 rfl rfl (by decide) (fun _ _ => Qo) (fz_ro _) (fun hp_3 hle_3 hf => ?_)
    have pf_2 : AllC g_face_Person hp_3 4 (setR css t18.1 3 (sl p_2 (val (Jh (val (Jk t34 t18.1)).Nots ([a3] : List Int))).length)) (val (Q6 t34 t18.1 (⟨(val (Jk t34 t18.1)).Id, (val (Jk t34 t18.1)).Name, (val (Jk t34 t18.1)).Likes, (val (Jh (val (Jk t34 t18.1)).Nots ([a3] : List Int)))⟩ : T_face_Person))) := AllC.setR ((pf.mono hle_2).mono hle_3) h_t55 h_l2 rfl (by obtain ⟨q0_, q1_, q2_, q3_⟩ := ((pf.mono hle_2).mono hle_3).at h_t55; exact ⟨q0_, q1_, q2_, hf⟩)
    refine Yq (Φ := fun H_ => FrS H_ 1 (sl p_3 (val (Jz (val (Jk t34 t18.1)).Likes ([a3] : List Int))).length) ((val (Jz (val (Jk t34 t18.1)).Likes ([a3] : List Int))).map Jl)) 0 6 rfl rfl (by decide) (fun _ _ => Qo) (fz_ro _) (fun hp_4 hle_4 hf_2 => ?_)
    have pf_3 : AllC g_face_Person hp_4 4 (setR (setR css t18.1 3 (sl p_2 (val (Jh (val (Jk t34 t18.1)).Nots ([a3] : List Int))).length)) t18.1 2 (sl p_3 (val (Jz (val (Jk t34 t18.1)).Likes ([a3] : List Int))).length)) (val (Q6 (val (Q6 t34 t18.1 (⟨(val (Jk t34 t18.1)).Id, (val (Jk t34 t18.1)).Name, (val (Jk t34 t18.1)).Likes, (val (Jh (val (Jk t34 t18.1)).Nots ([a3] : List Int)))⟩ : T_face_Person))) t18.1 (⟨(val (Jk (val (Q6 t34 t18.1 (⟨(val (Jk t34 t18.1)).Id, (val (Jk t34 t18.1)).Name, (val (Jk t34 t18.1)).Likes, (val (Jh (val (Jk t34 t18.1)).Nots ([a3] : List Int)))⟩ : T_face_Person))) t18.1)).Id, (val (Jk (val (Q6 t34 t18.1 (⟨(val (Jk t34 t18.1)).Id, (val (Jk t34 t18.1)).Name, (val (Jk t34 t18.1)).Likes, (val (Jh (val (Jk t34 t18.1)).Nots ([a3] : List Int)))⟩ : T_face_Person))) t18.1)).Name, (val (Jz (val (Jk t34 t18.1)).Likes ([a3] : List Int))), (val (Jk (val (Q6 t34 t18.1 (⟨(val (Jk t34 t18.1)).Id, (val (Jk t34 t18.1)).Name, (val (Jk t34 t18.1)).Likes, (val (Jh (val (Jk t34 t18.1)).Nots ([a3] : List Int)))⟩ : T_face_Person))) t18.1)).Nots⟩ : T_face_Person))) := AllC.setR (pf_2.mono hle_4) h_t57 h_l2_2 rfl (by obtain ⟨q0_, q1_, q2_, q3_⟩ := (pf_2.mono hle_4).at h_t57; exact ⟨q0_, q1_, hf_2, q3_⟩)
    try dsimp only [z1, z2, z5, z6, z7, z8]
    refine Jc<|Ja<|mv (sl p css.length)<|ag (sl p css.length)<|ag (i6 0)<|Jd<|?_
    try dsimp only [z1, z2, z5, z6, z7, z8]
    refine Jy ?_
    obtain rfl := Option.some.inj H48
    refine Yp 0 2 rfl rfl (by decide)<|Xc 0 rfl (Zc (k := true) (p := p) ((rfl.trans (Qt _ _ _ _).symm).trans (Qt _ _ _ _).symm) (fun _ => ((hc rfl).trans hn)) pf_3)<|?_
    refine Vz (v1 := sl p css.length) (v2 := i6 0) rfl rfl rfl (Zb p (i := 0) rfl (by first | rfl | rw [(show css.length = (val (Q6 (val (Q6 t34 t18.1 (⟨(val (Jk t34 t18.1)).Id, (val (Jk t34 t18.1)).Name, (val (Jk t34 t18.1)).Likes, (val (Jh (val (Jk t34 t18.1)).Nots ([a3] : List Int)))⟩ : T_face_Person))) t18.1 (⟨(val (Jk (val (Q6 t34 t18.1 (⟨(val (Jk t34 t18.1)).Id, (val (Jk t34 t18.1)).Name, (val (Jk t34 t18.1)).Likes, (val (Jh (val (Jk t34 t18.1)).Nots ([a3] : List Int)))⟩ : T_face_Person))) t18.1)).Id, (val (Jk (val (Q6 t34 t18.1 (⟨(val (Jk t34 t18.1)).Id, (val (Jk t34 t18.1)).Name, (val (Jk t34 t18.1)).Likes, (val (Jh (val (Jk t34 t18.1)).Nots ([a3] : List Int)))⟩ : T_face_Person))) t18.1)).Name, (val (Jz (val (Jk t34 t18.1)).Likes ([a3] : List Int))), (val (Jk (val (Q6 t34 t18.1 (⟨(val (Jk t34 t18.1)).Id, (val (Jk t34 t18.1)).Name, (val (Jk t34 t18.1)).Likes, (val (Jh (val (Jk t34 t18.1)).Nots ([a3] : List Int)))⟩ : T_face_Person))) t18.1)).Nots⟩ : T_face_Person))).length from (((rfl.trans (Qt _ _ _ _).symm).trans (Qt _ _ _ _).symm).trans pf_3.len))]) (by first | exact Imp.refl _ | exact Imp.of (by rw [(show css.length = (val (Q6 (val (Q6 t34 t18.1 (⟨(val (Jk t34 t18.1)).Id, (val (Jk t34 t18.1)).Name, (val (Jk t34 t18.1)).Likes, (val (Jh (val (Jk t34 t18.1)).Nots ([a3] : List Int)))⟩ : T_face_Person))) t18.1 (⟨(val (Jk (val (Q6 t34 t18.1 (⟨(val (Jk t34 t18.1)).Id, (val (Jk t34 t18.1)).Name, (val (Jk t34 t18.1)).Likes, (val (Jh (val (Jk t34 t18.1)).Nots ([a3] : List Int)))⟩ : T_face_Person))) t18.1)).Id, (val (Jk (val (Q6 t34 t18.1 (⟨(val (Jk t34 t18.1)).Id, (val (Jk t34 t18.1)).Name, (val (Jk t34 t18.1)).Likes, (val (Jh (val (Jk t34 t18.1)).Nots ([a3] : List Int)))⟩ : T_face_Person))) t18.1)).Name, (val (Jz (val (Jk t34 t18.1)).Likes ([a3] : List Int))), (val (Jk (val (Q6 t34 t18.1 (⟨(val (Jk t34 t18.1)).Id, (val (Jk t34 t18.1)).Name, (val (Jk t34 t18.1)).Likes, (val (Jh (val (Jk t34 t18.1)).Nots ([a3] : List Int)))⟩ : T_face_Person))) t18.1)).Nots⟩ : T_face_Person))).length from (((rfl.trans (Qt _ _ _ _).symm).trans (Qt _ _ _ _).symm).trans pf_3.len))])))
    ) (by kernel_rfl)
end Go.Proofs.YthhaabhnlndnoaaGreat
