/- TagMetadata, read: the walks, printed by our generator; each follows its model. Conditions: the model yields a value. -/
import Derived.Test.YtgjpnjncfilgnaaGreatDoorKMa
namespace Go.Proofs.YtgjpnjncfilgnaaGreatDoor
open Go Go.Vc Go.Md Go.M Go.Lx Tryz
set_option maxRecDepth 100000
set_option maxHeartbeats 4000000
set_option linter.unusedVariables false
theorem k126 {a0 : (List UInt8)} {r : Bool} (H : Jaq a0 = some r) : Ret prog 126 [str a0] (.bool r) := by
 refine Yu (n := 14) func126 rfl rfl rfl (fun wd => ?_)
 refine Jc<|Ja<|ag (.bool false)<|Jd<|Jc<|Jc<|Ja<|mv (str a0)<|lv (Xn underlying9 rfl)<|lv (Xz rfl rfl)<|Jd<|?_
 revert H
 refine ci (decide ((a0.length : Int) < 8)) rfl (fun hb H7=>?_) fun hb H8=>?_
 ·refine Jc<|Ja<|ag (.bool false)<|Jd<|Jl<|?_
  obtain rfl := sj H7
  exact r1 (.bool false)
 ·refine Jk<|Jc<|Ja<|mv (str a0)<|?_
  obtain ⟨t7, h_t7, H9⟩ := Je H8; clear H8
  refine lv (Un underlying9 rfl rfl h_t7)<|lv (Jfn rfl rfl)<|mv (.bool (decide (t7 = [73, 73, 42, 0])))<|?_
  revert H9
  refine sp (fun hb H10=>?_) fun hb H11=>?_
  ·refine pa<|pa<|pa<|pT (.bool true)<|ag (.bool true)<|Jd<|Jl<|?_
   obtain rfl := sj H10
   exact r1 (.bool true)
  ·refine mv (str a0) ?_
   obtain ⟨t11, h_t11, H12⟩ := Je H11; clear H11
   refine lv (Un underlying9 rfl rfl h_t11)<|lv (Jfn rfl rfl)<|pF (.bool (decide (t11 = [77, 77, 0, 42])))<|ag (.bool (decide (t11 = [77, 77, 0, 42])))<|Jd<|Jl<|?_
   obtain rfl := sj H12
   exact r1 (.bool (decide (t11 = [77, 77, 0, 42])))
theorem k77 {a0 : Bool} {a1 : (List UInt8)} {a2 : Int} {a3 : Int} {r : Int} (H : Jar a0 a1 a2 a3 = some r) : Ret prog 77 [.bool a0, str a1, i6 a2, i6 a3] (i6 r) := by
 refine Yu (n := 33) func77 rfl rfl rfl (fun wd => ?_)
 refine Jc<|Ja<|ag (i6 0)<|Jd<|Jc<|Ja<|ag (i6 0)<|Jd<|Jc<|Jc<|Ja<|mv (i6 a3)<|mv (i6 0)<|Jd<|Ju<|?_
 refine Za (σ := Int × Int) (τ := Unit) (fun next1 s => Z0 a0 a1 a2 a3 next1 s.1 s.2) (fun s t => [(0, .bool a0), (1, str a1), (2, i6 a2), (3, i6 a3), (9, i6 s.1), (12, i6 a3), (13, i6 s.2)]) (fun s t => []) (fun s t => True) (0, 0) () [] H (by exact trivial) (by exact ⟨rfl, rfl, rfl, rfl, rfl, rfl, rfl, trivial⟩) (by decide) rfl ?_
 rintro ⟨x9_2, x13_2⟩ _ m1 gg H14 _
 clear H
 try dsimp only at H14
 generalize hn1 : it (fun next1 s => Z0 a0 a1 a2 a3 next1 s.1 s.2) m1 = next1 at H14
 try dsimp only
 refine Jc<|Ja<|lv (Xz rfl rfl)<|Jd<|Jc<|?_
 revert H14
 refine ci (decide (x13_2 < a3)) rfl (fun hb H15=>?_) fun hb H26=>?_
 ·refine Jk<|Jc<|Ju<|Jc<|Ja<|mv (i6 x13_2)<|ag (i6 x13_2)<|Jd<|Jc<|Ja<|mv (i6 a3)<|?_
  obtain ⟨t17, h_t17, H16⟩ := Je H15; clear H15
  refine lv (Zf rfl rfl h_t17)<|mv (i6 x13_2)<|?_
  obtain ⟨t19, h_t19, H17⟩ := Je H16; clear H16
  refine lv (Zf rfl rfl h_t19)<|ag (i6 t19)<|Jd<|?_
  refine Qj (r := r) (σ := Int) (τ := Unit) (fun s => U9 a1 a2 x9_2 x13_2 next1 s) (fun s t => [(0, .bool a0), (1, str a1), (2, i6 a2), (3, i6 a3), (9, i6 x9_2), (11, i6 s), (12, i6 a3), (13, i6 x13_2)]) (fun s t => []) (fun s t => True) ?_ ?_
  ·refine Jc<|Ja<|mv (.bool a0)<|Jd<|?_
   revert H17
   refine ci a0 rfl (fun hb H24=>?_) fun hb H25=>?_
   ·refine Ja<|mv (i6 x13_2)<|ag (i6 x13_2)<|Jd<|?_
    exact cl x13_2 () 0 [] (by exact ⟨H24, trivial⟩)
   ·refine Jk ?_
    exact cl t19 () 0 [] (by exact ⟨H25, trivial⟩)
  ·rintro x11 _ gg H18 _
   try dsimp only at H18
   try dsimp only
   refine Ja<|mv (i6 x9_2)<|?_
   obtain ⟨t23, h_t23, H19⟩ := Je H18; clear H18
   refine lv (r_shlG rfl rfl h_t23)<|mv (str a1)<|mv (i6 a2)<|mv (i6 x11)<|?_
   obtain ⟨t27, h_t27, H20⟩ := Je H19; clear H19
   refine lv (J1 rfl rfl h_t27) ?_
   obtain ⟨t28, h_t28, H21⟩ := Je H20; clear H20
   refine lv (Jaf underlying9 rfl rfl h_t28) ?_
   obtain ⟨t29, h_t29, H22⟩ := Je H21; clear H21
   refine lv (Ui runUnderlying5 runUnderlying3 rfl (Jd7 h_t29))<|lv (Jgx (bits := 64) rfl rfl rfl (Jhz _))<|ag (i6 (Ud (bOr 64 t23 t29)))<|Jd<|Ja<|?_
   obtain ⟨t31, h_t31, H23⟩ := Je H22; clear H22
   refine lv (J1 rfl rfl h_t31)<|mv (i6 t31)<|Jd<|?_
   exact cl ((Ud (bOr 64 t23 t29)), t31) () m1 [] (by exact ⟨(by subst hn1; exact H23), trivial⟩)
 ·refine Xa<|Jc<|Ja<|mv (i6 x9_2)<|ag (i6 x9_2)<|Jd<|Jl<|?_
  obtain rfl := sj H26
  exact r1 (i6 x9_2)
theorem k127 {a0 : Tb} {v0_2 : Value} {v0_3 : Value} {pb0 : Nat} {a1 : Int} {a2 : Int} {r : Int} {w : World} {h : J3} (hw : Know h w Zo) (f0_2 : FrS h 2 v0_2 (a0.parts_.map Jg)) (f0_3 : FrM h (fun x_ : Int => i6 x_) (fun x_ : Bool => .bool x_) v0_3 a0.seen_) (hb0 : h pb0 = some (.cells (List.toArray [str a0.s_, .bool a0.big_, v0_2, v0_3, i6 a0.dirs_, (Qi a0.found_), i6 a0.no_]) 195 (0, 0))) (H : Jo a0 a1 a2 = some r) : Does prog 127 (List.toArray [.pointer (some ⟨pb0, 0, none⟩), i6 a1, i6 a2]) w (fun v w' => v = (i6 r) ∧ Grow w w') := by
 refine enter (n := 18) func127 rfl rfl rfl Zo [] (Sat.nil _ _)<|Jc<|Ja<|ag (i6 0)<|Jd<|Jc<|?_
 exact Qx (Kd.p :: Kd.p :: Kd.p :: Kd.d [] _ :: Kd.p :: Kd.p :: Kd.p :: Kd.d [] _ :: Kd.p :: Kd.p :: Kd.d [] _ :: Kd.p :: []) 0 mixed (by
  refine dm (.pointer (some ⟨pb0, 0, none⟩))<|dv (Jh rfl)<|dv (J8 runUnderlying195 rfl sizeOf4 rfl rfl)<|Jcy (fun w hF => Jan (v := .bool a0.big_) isAgg4 rfl (hw.now hF _ _ hb0) rfl) rfl rfl<|dm (.pointer (some ⟨pb0, 0, none⟩))<|dv (Jh rfl)<|dv (J8 runUnderlying195 rfl sizeOf9 rfl rfl)<|Jcy (fun w hF => Jan (v := str a0.s_) isAgg9 rfl (hw.now hF _ _ hb0) rfl) rfl rfl<|dm (i6 a1)<|dm (i6 a2)<|?_
  have h_t17 := Jy H
  have H2 := Jq H
  refine Jca (k77 h_t17) call77 rfl rfl<|Vf rfl rfl (Xd (v := i6 (val (Jar a0.big_ a0.s_ a1 a2))) rfl)<|Yw<|Jl<|?_
  obtain rfl := sj H2
  exact r1 (i6 (val (Jar a0.big_ a0.s_ a1 a2)))
  ) (by kernel_rfl)
theorem k169 {a0 : Tb} {v0_2 : Value} {v0_3 : Value} {pb0 : Nat} {a1 : Int} {a2 : Int} {r : Bool} {w : World} {h : J3} (hw : Know h w Zo) (f0_2 : FrS h 2 v0_2 (a0.parts_.map Jg)) (f0_3 : FrM h (fun x_ : Int => i6 x_) (fun x_ : Bool => .bool x_) v0_3 a0.seen_) (hb0 : h pb0 = some (.cells (List.toArray [str a0.s_, .bool a0.big_, v0_2, v0_3, i6 a0.dirs_, (Qi a0.found_), i6 a0.no_]) 195 (0, 0))) (H : We a0 a1 a2 = some r) : Does prog 169 (List.toArray [.pointer (some ⟨pb0, 0, none⟩), i6 a1, i6 a2]) w (fun v w' => v = (.bool r) ∧ Grow w w') := by
 refine enter (n := 29) func169 rfl rfl rfl Zo [] (Sat.nil _ _)<|Jc<|Ja<|ag (.bool false)<|Jd<|Jc<|Ja<|mv (i6 a1)<|lv (Jff rfl rfl)<|mv (.bool (decide (8 ≤ a1)))<|?_
 revert H
 refine sp (fun hb H6=>?_) fun hb H10=>?_
 ·refine mv (i6 a2)<|mv (.pointer (some ⟨pb0, 0, none⟩))<|lv (Jh rfl)<|lf runUnderlying195 rfl sizeOf9 rfl<|Xi (fun w hF hS => Jan (v := str a0.s_) isAgg9 rfl (hw.now hF _ _ hb0) rfl) rfl rfl rfl<|lv (Xn underlying9 rfl)<|lv (Jfo rfl rfl)<|pT (.bool (decide (a2 ≤ (a0.s_.length : Int))))<|mv (.bool (decide (a2 ≤ (a0.s_.length : Int))))<|?_
  revert H6
  refine sp (fun hb H7=>?_) fun hb H9=>?_
  ·refine mv (i6 a1)<|mv (.pointer (some ⟨pb0, 0, none⟩))<|lv (Jh rfl)<|lf runUnderlying195 rfl sizeOf9 rfl<|Xi (fun w hF hS => Jan (v := str a0.s_) isAgg9 rfl (hw.now hF _ _ hb0) rfl) rfl rfl rfl<|lv (Xn underlying9 rfl)<|mv (i6 a2)<|?_
   obtain ⟨t26, h_t26, H8⟩ := Je H7; clear H7
   refine lv (Zf rfl rfl h_t26)<|lv (Jfo rfl rfl)<|pT (.bool (decide (a1 ≤ t26)))<|ag (.bool (decide (a1 ≤ t26)))<|Jd<|Jl<|?_
   obtain rfl := sj H8
   exact r1 (.bool (decide (a1 ≤ t26)))
  ·refine pa<|pa<|pa<|pa<|pa<|pa<|pa<|pa<|pa<|pF (.bool false)<|ag (.bool false)<|Jd<|Jl<|?_
   obtain rfl := sj H9
   exact r1 (.bool false)
 ·refine pa<|pa<|pa<|pa<|pa<|pa<|pa<|pF (.bool false)<|mv (.bool false)<|pa<|pa<|pa<|pa<|pa<|pa<|pa<|pa<|pa<|pF (.bool false)<|ag (.bool false)<|Jd<|Jl<|?_
  obtain rfl := sj H10
  exact r1 (.bool false)
theorem k170 {a0 : Tb} {pb0 : Nat} {p0_2 : Option Addr × Nat} {n0_2 : Nat} {m0_3 : Nat} {a1 : Int} {r : Tb} {w : World} {h : J3} {S : Nat → Prop} (hcs : (Jt (Jf pb0 [str a0.s_, .bool a0.big_, sl p0_2 n0_2, .map (some m0_3), i6 a0.dirs_, (Qi a0.found_), i6 a0.no_] 195) (Jt (Jw 56 2 (sl p0_2 n0_2) n0_2 (a0.parts_.map Jg)) (Q0 (fun x_ : Int => i6 x_) (fun x_ : Bool => .bool x_) m0_3 a0.seen_))).P S w) (hlt : ∀ b, S b → b < w.heap.size) (hw : Know h w S) (hn0_2 : n0_2 = a0.parts_.length) (H : Q6 a0 a1 = some r) : Does prog 170 (List.toArray [.pointer (some ⟨pb0, 0, none⟩), i6 a1]) w (fun v w' => ∃ x : (Option Addr × Nat) × Nat, v = (.tuple #[]) ∧ Turn w w' S (Jt (Jf pb0 [str r.s_, .bool r.big_, .slice x.1.1 r.parts_.length x.1.2, .map (some x.2), i6 r.dirs_, (Qi r.found_), i6 r.no_] 195) (Jt (Jw 56 2 (.slice x.1.1 r.parts_.length x.1.2) r.parts_.length (r.parts_.map Jg)) (Q0 (fun x_ : Int => i6 x_) (fun x_ : Bool => .bool x_) x.2 r.seen_)))) := by
 refine enter (n := 13) func170 rfl rfl rfl S [Jt (Jf pb0 [str a0.s_, .bool a0.big_, sl p0_2 n0_2, .map (some m0_3), i6 a0.dirs_, (Qi a0.found_), i6 a0.no_] 195) (Jt (Jw 56 2 (sl p0_2 n0_2) n0_2 (a0.parts_.map Jg)) (Q0 (fun x_ : Int => i6 x_) (fun x_ : Bool => .bool x_) m0_3 a0.seen_))] (Sat.one hcs hlt)<|Qv 0 rfl<|Qv 1 rfl<|Jc<|Ja<|mv (.pointer (some ⟨pb0, 0, none⟩))<|lv (Jh rfl)<|lf runUnderlying195 rfl sizeOf28 rfl<|ll 0 (i6 a0.no_) isAgg28<|lv (Ql rfl rfl)<|Jd<|?_
 revert H
 refine ci (decide (a0.no_ = 0)) rfl (fun hb H3=>?_) fun hb H4=>?_
 ·refine Ja<|mv (.pointer (some ⟨pb0, 0, none⟩))<|mv (i6 a1)<|lv (Jh rfl)<|lf runUnderlying195 rfl sizeOf28 rfl<|st (i := 0) [i6 a1] [str a0.s_, .bool a0.big_, sl p0_2 n0_2, .map (some m0_3), i6 a0.dirs_, (Qi a0.found_), i6 a1] sizeOf28 rfl rfl<|Jd<|?_
  obtain rfl := sj H3
  refine bo 1 2 rfl rfl<|bo 0 1 rfl rfl<|?_
  refine ret0n rfl (X7 (p0_2, m0_3) (i := 0) rfl (by first | rfl | rw [(show n0_2 = a0.parts_.length from hn0_2)]) (by first | exact Imp.refl _ | exact Imp.of (by rw [(show n0_2 = a0.parts_.length from hn0_2)] <;> rfl)))
 ·refine Jk ?_
  obtain rfl := sj H4
  refine bo 1 2 rfl rfl<|bo 0 1 rfl rfl<|?_
  refine ret0n rfl (X7 (p0_2, m0_3) (i := 0) rfl (by first | rfl | rw [(show n0_2 = a0.parts_.length from hn0_2)]) (by first | exact Imp.refl _ | exact Imp.of (by rw [(show n0_2 = a0.parts_.length from hn0_2)] <;> rfl)))
theorem k109 {a0 : (List Int)} {v0 : Value} {r : (List Int)} {w : World} {h : J3} (hw : Know h w Zo) (f0 : FrS h 1 v0 (a0.map Q1)) (H : Ul a0 = some r) : Does prog 109 (List.toArray [v0]) w (fun v w' => ∃ x : (Option Addr × Nat), v = (sl x r.length) ∧ Turn w w' Zo (Jw 3 1 (sl x r.length) r.length (r.map Q1))) := by
 refine enter (n := 8) func109 rfl rfl rfl Zo [] (Sat.nil _ _)<|Jc<|Ja<|ag (.slice none 0 0)<|Jd<|Jc<|Jc<|Ja<|mv v0<|lv (r_eqlNilS underlying30 f0 rfl rfl)<|Jd<|?_
 refine c_if (b := Jgi v0) rfl (fun hb => ?_) (fun hb => ?_)
 ·have hn_ : a0 = [] := f0.nilV hb
  have H3 : some ([] : List Int) = some r := by have h_ := H; rw [hn_] at h_; exact h_
  refine Jc<|Ja<|ag (.slice none 0 0)<|Jd<|Jl<|Jm 3 1<|?_
  obtain rfl := sj H3
  refine ret1 (v := sl nn ([] : List Int).length) rfl rfl (X7 nn (i := 0) rfl rfl (Imp.refl _))
 ·skip
  refine Jk<|Jc<|Ja<|?_
  refine Qg (vs := []) (cs := []) underlying30 sizeOf3 zeroValue3 rfl rfl rfl rfl rfl rfl rfl (fun b1 => ?_)
  refine mv v0<|Qp 0 rfl (imp_box (m := 0) (E := 3) (sz := 1) (xs := (([] : List Int)).map Q1) rfl rfl rfl ⟨rfl, by decide⟩)<|?_
  obtain ⟨l7, h_l7, H4⟩ := Je H; clear H
  refine Qe (Xp (i := 0) (hn := rfl) (rds := []) (p := ((some ⟨b1, 0, none⟩, 0) : Option Addr × Nat)) (sz := 1) (by_ := 8) (f := Q1) (ys := ([] : List Int)) (ls := a0) (V := v0) underlying30 (Q5 typeInfo3) rfl rfl rfl rfl rfl rfl rfl rfl f0.eq (List.length_map _) (fun w L' hF hS hi => (f0).row (hw.now hF)) (fun _ => rfl) (fun _ => rfl) h_l7) rfl rfl rfl (fun p => ?_)
  refine ag (sl p l7.length)<|Jd<|Jl<|?_
  obtain rfl := sj H4
  refine ret1 (v := sl p l7.length) rfl rfl (X7 p (i := 0) rfl rfl (Imp.refl _))
theorem k241 {a0 : Tb} {pb0 : Nat} {p0_2 : Option Addr × Nat} {n0_2 : Nat} {m0_3 : Nat} {a1 : (List UInt8)} {r : (List UInt8) × Tb} {w : World} {h : J3} {S : Nat → Prop} (hcs : (Jt (Jf pb0 [str a0.s_, .bool a0.big_, sl p0_2 n0_2, .map (some m0_3), i6 a0.dirs_, (Qi a0.found_), i6 a0.no_] 195) (Jt (Jw 56 2 (sl p0_2 n0_2) n0_2 (a0.parts_.map Jg)) (Q0 (fun x_ : Int => i6 x_) (fun x_ : Bool => .bool x_) m0_3 a0.seen_))).P S w) (hlt : ∀ b, S b → b < w.heap.size) (hw : Know h w S) (hn0_2 : n0_2 = a0.parts_.length) (H : Ja0 a0 a1 = some r) : Does prog 241 (List.toArray [.pointer (some ⟨pb0, 0, none⟩), str a1]) w (fun v w' => ∃ x : (Option Addr × Nat) × Nat, v = (str r.1) ∧ Turn w w' S (Jt (Jf pb0 [str r.2.s_, .bool r.2.big_, .slice x.1.1 r.2.parts_.length x.1.2, .map (some x.2), i6 r.2.dirs_, (Qi r.2.found_), i6 r.2.no_] 195) (Jt (Jw 56 2 (.slice x.1.1 r.2.parts_.length x.1.2) r.2.parts_.length (r.2.parts_.map Jg)) (Q0 (fun x_ : Int => i6 x_) (fun x_ : Bool => .bool x_) x.2 r.2.seen_)))) := by
 refine enter (n := 36) func241 rfl rfl rfl S [Jt (Jf pb0 [str a0.s_, .bool a0.big_, sl p0_2 n0_2, .map (some m0_3), i6 a0.dirs_, (Qi a0.found_), i6 a0.no_] 195) (Jt (Jw 56 2 (sl p0_2 n0_2) n0_2 (a0.parts_.map Jg)) (Q0 (fun x_ : Int => i6 x_) (fun x_ : Bool => .bool x_) m0_3 a0.seen_))] (Sat.one hcs hlt)<|Qv 0 rfl<|Qv 1 rfl<|Jc<|Ja<|ag (str [])<|Jd<|Jc<|Jc<|Ja<|mv (str a1)<|lv (Jfn rfl rfl)<|mv (.bool (decide (a1 = [])))<|?_
 revert H
 refine sp (fun hb H20=>?_) fun hb H22=>?_
 ·refine pa<|pa<|pa<|pa<|pa<|pa<|pT (.bool true)<|Jd<|Vj rfl<|Jc<|Ja<|mv (.pointer (some ⟨pb0, 0, none⟩))<|?_
  obtain ⟨t17, h_t17, H21⟩ := Je H20; clear H20
  refine bo 1 2 rfl rfl<|bo 0 1 rfl rfl<|?_
  refine Qe (J4 (i := 0) (rds := []) (G := fun x : (Option Addr × Nat) × Nat => .tuple #[]) (C := fun x : (Option Addr × Nat) × Nat => Jt (Jf pb0 [str t17.s_, .bool t17.big_, .slice x.1.1 t17.parts_.length x.1.2, .map (some x.2), i6 t17.dirs_, (Qi t17.found_), i6 t17.no_] 195) (Jt (Jw 56 2 (.slice x.1.1 t17.parts_.length x.1.2) t17.parts_.length (t17.parts_.map Jg)) (Q0 (fun x_ : Int => i6 x_) (fun x_ : Bool => .bool x_) x.2 t17.seen_))) rfl (fun w L' S hF hS hi hp hlt ho hA => k170 hp hlt (Qr w S) hn0_2 h_t17) call170 rfl) rfl rfl rfl (fun ⟨p, p_2⟩ => ?_)
  refine ub 0 1 rfl rfl<|ub 1 2 rfl rfl<|Jd<|Jc<|?_
  try dsimp only [z1, z2, z5, z6, z7, z8]
  refine Ja<|ag (str [])<|Jd<|Jl<|?_
  obtain rfl := sj H21
  refine bo 1 2 rfl rfl<|bo 0 1 rfl rfl<|?_
  refine ret1 (v := str []) rfl rfl (X7 (p, p_2) (i := 0) rfl rfl (Imp.refl _))
 ·refine mv (str a1)<|mv (str a1)<|lv (Xn underlying9 rfl)<|?_
  obtain ⟨t12, h_t12, H23⟩ := Je H22; clear H22
  refine lv (Zf rfl rfl h_t12) ?_
  obtain ⟨t13, h_t13, H24⟩ := Je H23; clear H23
  refine lv (Jaf underlying9 rfl rfl h_t13)<|lv (Yt rfl rfl)<|pF (.bool (decide (t13 ≠ 0)))<|Jd<|?_
  revert H24
  refine ci (decide (t13 ≠ 0)) rfl (fun hb H25=>?_) fun hb H27=>?_
  ·refine Jc<|Ja<|mv (.pointer (some ⟨pb0, 0, none⟩))<|?_
   obtain ⟨t17_2, h_t17_2, H26⟩ := Je H25; clear H25
   refine bo 1 2 rfl rfl<|bo 0 1 rfl rfl<|?_
   refine Qe (J4 (i := 0) (rds := []) (G := fun x : (Option Addr × Nat) × Nat => .tuple #[]) (C := fun x : (Option Addr × Nat) × Nat => Jt (Jf pb0 [str t17_2.s_, .bool t17_2.big_, .slice x.1.1 t17_2.parts_.length x.1.2, .map (some x.2), i6 t17_2.dirs_, (Qi t17_2.found_), i6 t17_2.no_] 195) (Jt (Jw 56 2 (.slice x.1.1 t17_2.parts_.length x.1.2) t17_2.parts_.length (t17_2.parts_.map Jg)) (Q0 (fun x_ : Int => i6 x_) (fun x_ : Bool => .bool x_) x.2 t17_2.seen_))) rfl (fun w L' S hF hS hi hp hlt ho hA => k170 hp hlt (Qr w S) hn0_2 h_t17_2) call170 rfl) rfl rfl rfl (fun ⟨p_3, p_4⟩ => ?_)
   refine ub 0 1 rfl rfl<|ub 1 2 rfl rfl<|Jd<|Jc<|?_
   try dsimp only [z1, z2, z5, z6, z7, z8]
   refine Ja<|ag (str [])<|Jd<|Jl<|?_
   obtain rfl := sj H26
   refine bo 1 2 rfl rfl<|bo 0 1 rfl rfl<|?_
   refine ret1 (v := str []) rfl rfl (X7 (p_3, p_4) (i := 0) rfl rfl (Imp.refl _))
  ·refine Jk<|Jc<|Ja<|mv (str a1)<|mv (str a1)<|lv (Xn underlying9 rfl)<|?_
   obtain ⟨t21, h_t21, H28⟩ := Je H27; clear H27
   refine lv (Zf rfl rfl h_t21) ?_
   obtain ⟨t22, h_t22, H29⟩ := Je H28; clear H28
   refine lv (Un underlying9 rfl rfl h_t22)<|ag (str t22)<|Jd<|Jc<|Jc<|Ja<|mv (str t22)<|lv (Xn underlying9 rfl)<|mv (i6 0)<|Jd<|Ju<|?_
   refine Za (σ := Int × (List UInt8) × Bool × Int × Nat × Int × (List Td) × (List (Int × Bool))) (τ := (Option Addr × Nat) × Nat × Nat) (fun next1 s => Xu t22 next1 s.1 s.2.1 s.2.2.1 s.2.2.2.1 s.2.2.2.2.1 s.2.2.2.2.2.1 s.2.2.2.2.2.2.1 s.2.2.2.2.2.2.2) (fun s t => [(0, .pointer (some ⟨pb0, 0, none⟩)), (1, str t22), (24, i6 (t22.length : Int)), (25, i6 s.1)]) (fun s t => [Jf pb0 [str s.2.1, .bool s.2.2.1, .slice t.1.1 t.2.1 t.1.2, .map (some t.2.2), i6 s.2.2.2.1, (Qi s.2.2.2.2.1), i6 s.2.2.2.2.2.1] 195, Jw 56 2 (.slice t.1.1 t.2.1 t.1.2) t.2.1 (s.2.2.2.2.2.2.1.map Jg), Q0 (fun x_ : Int => i6 x_) (fun x_ : Bool => .bool x_) t.2.2 s.2.2.2.2.2.2.2]) (fun s t => t.2.1 = s.2.2.2.2.2.2.1.length) (0, a0.s_, a0.big_, a0.dirs_, a0.found_, a0.no_, a0.parts_, a0.seen_) (p0_2, n0_2, m0_3) [0, 1, 2] H29 (by exact hn0_2) (by exact ⟨rfl, rfl, rfl, rfl, trivial⟩) (by decide) rfl ?_
   rintro ⟨x25_2, m_6, m_7, m_8, m_9, m_10, l_2, mp_2⟩ ⟨p_5, n, b⟩ m1 gg H30 hl_2
   clear H29
   try dsimp only at H30
   generalize hn1 : it (fun next1 s => Xu t22 next1 s.1 s.2.1 s.2.2.1 s.2.2.2.1 s.2.2.2.2.1 s.2.2.2.2.2.1 s.2.2.2.2.2.2.1 s.2.2.2.2.2.2.2) m1 = next1 at H30
   try dsimp only
   refine Jc<|Ja<|lv (Xz rfl rfl)<|Jd<|Jc<|?_
   revert H30
   refine ci (decide (x25_2 < (t22.length : Int))) rfl (fun hb H31=>?_) fun hb H38=>?_
   ·refine Jk ?_
    refine Qj (r := r) (σ := (List UInt8) × Bool × Int × Nat × Int × (List Td) × (List (Int × Bool))) (τ := (Option Addr × Nat) × Nat × Nat) (fun s => Vs x25_2 next1 s.1 s.2.1 s.2.2.1 s.2.2.2.1 s.2.2.2.2.1 s.2.2.2.2.2.1 s.2.2.2.2.2.2) (fun s t => [(0, .pointer (some ⟨pb0, 0, none⟩)), (1, str t22), (24, i6 (t22.length : Int)), (25, i6 x25_2)]) (fun s t => [Jf pb0 [str s.1, .bool s.2.1, .slice t.1.1 t.2.1 t.1.2, .map (some t.2.2), i6 s.2.2.1, (Qi s.2.2.2.1), i6 s.2.2.2.2.1] 195, Jw 56 2 (.slice t.1.1 t.2.1 t.1.2) t.2.1 (s.2.2.2.2.2.1.map Jg), Q0 (fun x_ : Int => i6 x_) (fun x_ : Bool => .bool x_) t.2.2 s.2.2.2.2.2.2]) (fun s t => t.2.1 = s.2.2.2.2.2.1.length) ?_ ?_
    ·refine Ju<|Jc<|Ja<|mv (i6 x25_2)<|ag (i6 x25_2)<|Jd<|Jc<|Ja<|mv (str t22)<|mv (i6 x25_2)<|?_
     obtain ⟨t30, h_t30, H34⟩ := Je H31; clear H31
     refine lv (Jaf underlying9 rfl rfl h_t30)<|lv (Ql rfl rfl)<|Jd<|?_
     revert H34
     refine ci (decide (t30 = 0)) rfl (fun hb H35=>?_) fun hb H37=>?_
     ·refine Ja<|mv (.pointer (some ⟨pb0, 0, none⟩))<|?_
      obtain ⟨t33, h_t33, H36⟩ := Je H35; clear H35
      refine bo 1 2 rfl rfl<|bo 0 1 rfl rfl<|?_
      refine Qe (J4 (i := 0) (rds := []) (G := fun x : (Option Addr × Nat) × Nat => .tuple #[]) (C := fun x : (Option Addr × Nat) × Nat => Jt (Jf pb0 [str t33.s_, .bool t33.big_, .slice x.1.1 t33.parts_.length x.1.2, .map (some x.2), i6 t33.dirs_, (Qi t33.found_), i6 t33.no_] 195) (Jt (Jw 56 2 (.slice x.1.1 t33.parts_.length x.1.2) t33.parts_.length (t33.parts_.map Jg)) (Q0 (fun x_ : Int => i6 x_) (fun x_ : Bool => .bool x_) x.2 t33.seen_))) rfl (fun w L' S hF hS hi hp hlt ho hA => k170 (a0 := (⟨m_6, m_7, l_2, mp_2, m_8, m_9, m_10⟩ : Tb)) hp hlt (Qr w S) hl_2 h_t33) call170 rfl) rfl rfl rfl (fun ⟨p_7, p_8⟩ => ?_)
      refine ub 0 1 rfl rfl<|ub 1 2 rfl rfl<|Jd<|?_
      exact cl (t33.s_, t33.big_, t33.dirs_, t33.found_, t33.no_, t33.parts_, t33.seen_) (p_7, t33.parts_.length, p_8) 0 [0, 1, 2] (by exact ⟨H36, rfl⟩)
     ·refine Jk ?_
      exact cl (m_6, m_7, m_8, m_9, m_10, l_2, mp_2) (p_5, n, b) 0 [0, 1, 2] (by exact ⟨H37, hl_2⟩)
    ·rintro ⟨m_11, m_12, m_13, m_14, m_15, l_3, mp_3⟩ ⟨p_6, n_2, b_2⟩ gg H32 hl_3
     try dsimp only at H32
     try dsimp only
     refine Ja ?_
     obtain ⟨t34, h_t34, H33⟩ := Je H32; clear H32
     refine lv (J1 rfl rfl h_t34)<|mv (i6 t34)<|Jd<|?_
     exact cl (t34, m_11, m_12, m_13, m_14, m_15, l_3, mp_3) (p_6, n_2, b_2) m1 [0, 1, 2] (by exact ⟨(by subst hn1; exact H33), hl_3⟩)
   ·refine Xa<|Jc<|?_
    try dsimp only [z1, z2, z5, z6, z7, z8]
    refine Ja<|mv (str t22)<|ag (str t22)<|Jd<|Jl<|?_
    obtain rfl := sj H38
    refine bo 1 2 rfl rfl<|bo 0 1 rfl rfl<|?_
    refine ret1 (v := str t22) rfl rfl (X7 (p_5, b) (i := 0) rfl (by first | rfl | rw [(show n = l_2.length from hl_2)]) (by first | exact Imp.refl _ | exact Imp.of (by rw [(show n = l_2.length from hl_2)] <;> rfl)))
theorem k207 {a0 : Tb} {pb0 : Nat} {p0_2 : Option Addr × Nat} {n0_2 : Nat} {m0_3 : Nat} {a1 : Int} {a2 : Int} {a3 : Int} {r : Tg × Tb} {w : World} {h : J3} {S : Nat → Prop} (hcs : (Jt (Jf pb0 [str a0.s_, .bool a0.big_, sl p0_2 n0_2, .map (some m0_3), i6 a0.dirs_, (Qi a0.found_), i6 a0.no_] 195) (Jt (Jw 56 2 (sl p0_2 n0_2) n0_2 (a0.parts_.map Jg)) (Q0 (fun x_ : Int => i6 x_) (fun x_ : Bool => .bool x_) m0_3 a0.seen_))).P S w) (hlt : ∀ b, S b → b < w.heap.size) (hw : Know h w S) (hn0_2 : n0_2 = a0.parts_.length) (H : Jav a0 a1 a2 a3 = some r) : Does prog 207 (List.toArray [.pointer (some ⟨pb0, 0, none⟩), i6 a1, i6 a2, i6 a3]) w (fun v w' => ∃ x : (Option Addr × Nat) × (Option Addr × Nat) × (Option Addr × Nat) × (Option Addr × Nat) × Nat, v = (.agg #[i6 r.1.Kind, str r.1.Text, .slice x.1.1 r.1.Ints.length x.1.2, .slice x.2.1.1 r.1.Ratios.length x.2.1.2, .slice x.2.2.1.1 r.1.Entries.length x.2.2.1.2]) ∧ Turn w w' S (Jt (Jf pb0 [str r.2.s_, .bool r.2.big_, .slice x.2.2.2.1.1 r.2.parts_.length x.2.2.2.1.2, .map (some x.2.2.2.2), i6 r.2.dirs_, (Qi r.2.found_), i6 r.2.no_] 195) (Jt (Jw 56 2 (.slice x.2.2.2.1.1 r.2.parts_.length x.2.2.2.1.2) r.2.parts_.length (r.2.parts_.map Jg)) (Jt (Q0 (fun x_ : Int => i6 x_) (fun x_ : Bool => .bool x_) x.2.2.2.2 r.2.seen_) (Jt (Jw 3 1 (.slice x.1.1 r.1.Ints.length x.1.2) r.1.Ints.length (r.1.Ints.map Q1)) (Jt (Jw 74 2 (.slice x.2.1.1 r.1.Ratios.length x.2.1.2) r.1.Ratios.length (r.1.Ratios.map Jn)) (Wp 83 6 g_tag_Entry (.slice x.2.2.1.1 r.1.Entries.length x.2.2.1.2) r.1.Entries.length r.1.Entries))))))) := by
 refine enter (n := 131) func207 rfl rfl rfl S [Jt (Jf pb0 [str a0.s_, .bool a0.big_, sl p0_2 n0_2, .map (some m0_3), i6 a0.dirs_, (Qi a0.found_), i6 a0.no_] 195) (Jt (Jw 56 2 (sl p0_2 n0_2) n0_2 (a0.parts_.map Jg)) (Q0 (fun x_ : Int => i6 x_) (fun x_ : Bool => .bool x_) m0_3 a0.seen_))] (Sat.one hcs hlt)<|Qv 0 rfl<|Qv 1 rfl<|Yg Qt<|Jc<|Ja<|?_
 refine X1 (cs := [i6 0, str [], .slice none 0 0, .slice none 0 0, .slice none 0 0]) zeroValue38 rfl rfl rfl (fun b5 => ?_)
 refine Jd<|Jc<|Ja<|mv (i6 a2)<|mv (i6 a1)<|?_
 obtain ⟨t17, h_t17, H50⟩ := Je H; clear H
 refine Yy (k139 h_t17) call139 rfl rfl rfl ?_
 obtain ⟨t18, h_t18, H51⟩ := Je H50; clear H50
 refine lv (Wu rfl rfl h_t18)<|ag (i6 t18)<|Jd<|Jc<|Ja<|mv (i6 a3)<|ag (i6 a3)<|Jd<|?_
 refine Qj (r := r) (σ := Int × (List Td)) (τ := (Option Addr × Nat) × Nat) (fun s => Vu a0 a1 a2 t18 s.1 s.2) (fun s t => [(0, .pointer (some ⟨pb0, 0, none⟩)), (1, i6 a1), (2, i6 a2), (8, .pointer (some ⟨b5, 0, none⟩)), (9, i6 t18), (10, i6 s.1)]) (fun s t => [Jf pb0 [str a0.s_, .bool a0.big_, .slice t.1.1 t.2 t.1.2, .map (some m0_3), i6 a0.dirs_, (Qi a0.found_), i6 a0.no_] 195, Jw 56 2 (.slice t.1.1 t.2 t.1.2) t.2 (s.2.map Jg), Q0 (fun x_ : Int => i6 x_) (fun x_ : Bool => .bool x_) m0_3 a0.seen_, X8 Qt Qt, Jf b5 [i6 0, str [], .slice none 0 0, .slice none 0 0, .slice none 0 0] 38]) (fun s t => t.2 = s.2.length) ?_ ?_
 ·refine Jc<|Ja<|mv (i6 t18)<|lv (Yn rfl rfl)<|Jd<|?_
  revert H51
  refine ci (decide (4 < t18)) rfl (fun hb H90=>?_) fun hb H98=>?_
  ·refine Jc<|Ja<|mv (.pointer (some ⟨pb0, 0, none⟩))<|mv (i6 a3)<|?_
   obtain ⟨t24, h_t24, H91⟩ := Je H90; clear H90
   refine Qd (fun w hF hS => k127 (a0 := a0) (Jp w) (Ye (i := 1) hn0_2 hS rfl) (Xy (fk := (fun x_ : Int => i6 x_)) (fv := (fun x_ : Bool => .bool x_)) (i := 2) hS rfl) (Q3 (i := 0) hS rfl) h_t24) call127 rfl rfl rfl<|ag (i6 t24)<|Jd<|Jc<|Jc<|Ja<|mv (.pointer (some ⟨pb0, 0, none⟩))<|mv (i6 t24)<|mv (i6 t18)<|?_
   obtain ⟨t28, h_t28, H92⟩ := Je H91; clear H91
   refine Qd (fun w hF hS => k169 (a0 := a0) (Jp w) (Ye (i := 1) hn0_2 hS rfl) (Xy (fk := (fun x_ : Int => i6 x_)) (fv := (fun x_ : Bool => .bool x_)) (i := 2) hS rfl) (Q3 (i := 0) hS rfl) h_t28) call169 rfl rfl rfl<|lv (Ja4 rfl)<|Jd<|?_
   revert H92
   refine ci (!t28) rfl (fun hb H93=>?_) fun hb H95=>?_
   ·refine Jc<|Ja<|mv (.pointer (some ⟨pb0, 0, none⟩))<|?_
    obtain ⟨t31, h_t31, H94⟩ := Je H93; clear H93
    refine bo 1 2 rfl rfl<|bo 0 1 rfl rfl<|?_
    refine Qe (J4 (i := 0) (rds := []) (G := fun x : (Option Addr × Nat) × Nat => .tuple #[]) (C := fun x : (Option Addr × Nat) × Nat => Jt (Jf pb0 [str t31.s_, .bool t31.big_, .slice x.1.1 t31.parts_.length x.1.2, .map (some x.2), i6 t31.dirs_, (Qi t31.found_), i6 t31.no_] 195) (Jt (Jw 56 2 (.slice x.1.1 t31.parts_.length x.1.2) t31.parts_.length (t31.parts_.map Jg)) (Q0 (fun x_ : Int => i6 x_) (fun x_ : Bool => .bool x_) x.2 t31.seen_))) rfl (fun w L' S hF hS hi hp hlt ho hA => k170 hp hlt (Qr w S) hn0_2 h_t31) call170 rfl) rfl rfl rfl (fun ⟨p_11, p_12⟩ => ?_)
    refine ub 0 1 rfl rfl<|ub 1 2 rfl rfl<|Jd<|Jc<|?_
    try dsimp only [z1, z2, z5, z6, z7, z8]
    refine Ja<|lv (Xv (pl := #[(0, 1), (1, 1), (2, 1), (3, 1), (4, 1)]) (ps := []) (cells := #[i6 0, str [], .slice none 0 0, .slice none 0 0, .slice none 0 0]) zeroValue38 runUnderlying38 (fun w => by kernel_rfl) rfl rfl)<|st (i := 4) [i6 0, str [], .slice none 0 0, .slice none 0 0, .slice none 0 0] [i6 0, str [], .slice none 0 0, .slice none 0 0, .slice none 0 0] sizeOf38 rfl rfl<|Jd<|Jl<|?_
    try dsimp only [z1, z2, z3, z4, z5, z6, z7, z8]
    refine Jm 3 1<|Jm 74 2<|Jm 83 6<|?_
    try dsimp only [z1, z2, z5, z6, z7, z8]
    obtain rfl := sj H94
    refine bo 3 7 rfl rfl<|Qp 3 rfl (Qh (p := nn) rfl (AllC.nil (G := g_tag_Entry) (h := Qt) (sz := 6)))<|bo 6 3 rfl rfl<|bo 5 6 rfl rfl<|bo 2 5 rfl rfl<|bo 1 2 rfl rfl<|bo 0 1 rfl rfl<|?_
    refine retC (i := 4) (vs := [i6 0, str [], sl nn ([] : List Int).length, sl nn ([] : List Th).length, sl nn (([] : List (List Value)).length)]) isAgg38 sizeOf38 rfl rfl rfl rfl (X7 (nn, nn, nn, p_11, p_12) (i := 0) rfl (by first | rfl | rw [(show (([] : List (List Value)).length) = ([] : List Ta).length from (AllC.nil (G := g_tag_Entry) (h := Qt) (sz := 6)).len)]) (by first | exact Imp.refl _ | exact Imp.of (by rw [(show (([] : List (List Value)).length) = ([] : List Ta).length from (AllC.nil (G := g_tag_Entry) (h := Qt) (sz := 6)).len)] <;> rfl)))
   ·refine Jk ?_
    try dsimp only [z1, z2, z5, z6, z7, z8]
    refine Ja<|mv (.pointer (some ⟨pb0, 0, none⟩))<|mv (.pointer (some ⟨pb0, 0, none⟩))<|lv (Jh rfl)<|lf runUnderlying195 rfl sizeOf48 rfl<|ll 0 (sl p0_2 n0_2) isAgg48<|mv (i6 t24)<|mv (i6 t24)<|mv (i6 t18)<|?_
    obtain ⟨t41, h_t41, H96⟩ := Je H95; clear H95
    refine lv (J1 rfl rfl h_t41)<|lv (Xv (pl := #[(0, 1), (1, 1)]) (ps := [(0, i6 t24), (1, i6 t41)]) (cells := #[i6 t24, i6 t41]) zeroValue56 runUnderlying56 (fun w => by kernel_rfl) rfl rfl)<|?_
    refine Qg (vs := [.agg #[i6 t24, i6 t41]]) (cs := [i6 t24, i6 t41]) underlying48 sizeOf56 zeroValue56 rfl rfl rfl rfl rfl rfl rfl (fun b9 => ?_)
    obtain ⟨l44, h_l44, H97⟩ := Je H96; clear H96
    refine Qe (Xp (i := 1) (hn := hn0_2) (rds := [5]) (p := p0_2) (sz := 2) (by_ := 16) (f := Jg) (ys := a0.parts_) (ls := ([(⟨t24, t41⟩ : Td)] : List Td)) (V := .slice (some ⟨b9, 0, none⟩) 1 1) underlying48 (Q5 typeInfo56) rfl rfl rfl rfl rfl rfl rfl rfl rfl rfl (fun w L' hF hS hi => Wr (i := 5) hS ((hi 5 (by simp)).trans rfl) rfl rfl) (fun _ => rfl) (fun _ => rfl) h_l44) rfl rfl rfl (fun p_13 => ?_)
    refine lv (Jh rfl)<|lf runUnderlying195 rfl sizeOf48 rfl<|st (i := 0) [sl p_13 l44.length] [str a0.s_, .bool a0.big_, sl p_13 l44.length, .map (some m0_3), i6 a0.dirs_, (Qi a0.found_), i6 a0.no_] sizeOf48 rfl rfl<|Jd<|?_
    exact cl (t24, l44) (p_13, l44.length) 0 [0, 1, 2, 3, 4] (by exact ⟨H97, rfl⟩)
  ·refine Jk ?_
   exact cl (a3, a0.parts_) (p0_2, n0_2) 0 [0, 1, 2, 3, 4] (by exact ⟨H98, hn0_2⟩)
 ·rintro ⟨x10, l⟩ ⟨p, n⟩ gg H52 hl
  try dsimp only at H52
  try dsimp only
  refine Jc<|Ja<|mv (i6 a1)<|lv (Xv (pl := #[(0, 1), (1, 1), (2, 1), (3, 1), (4, 1)]) (ps := [(0, i6 a1)]) (cells := #[i6 a1, str [], .slice none 0 0, .slice none 0 0, .slice none 0 0]) zeroValue38 runUnderlying38 (fun w => by kernel_rfl) rfl rfl)<|?_
  refine X1 (cs := [i6 0, str [], .slice none 0 0, .slice none 0 0, .slice none 0 0]) zeroValue38 rfl rfl rfl (fun b6 => ?_)
  refine st (i := 5) [i6 a1, str [], .slice none 0 0, .slice none 0 0, .slice none 0 0] [i6 a1, str [], .slice none 0 0, .slice none 0 0, .slice none 0 0] sizeOf38 rfl rfl<|Jd<|?_
  refine Qj (r := r) (σ := (List UInt8) × Bool × Int × Nat × Int × (List Td) × (List (Int × Bool)) × (List UInt8) × (List Int) × (List Th)) (τ := (Option Addr × Nat) × Nat × Nat × (Option Addr × Nat) × (Option Addr × Nat)) (fun s => Vq a1 s.1 s.2.1 s.2.2.1 s.2.2.2.1 s.2.2.2.2.1 s.2.2.2.2.2.1 s.2.2.2.2.2.2.1 s.2.2.2.2.2.2.2.1 s.2.2.2.2.2.2.2.2.1 s.2.2.2.2.2.2.2.2.2) (fun s t => [(8, .pointer (some ⟨b5, 0, none⟩)), (11, .pointer (some ⟨b6, 0, none⟩))]) (fun s t => [Jf pb0 [str s.1, .bool s.2.1, .slice t.1.1 t.2.1 t.1.2, .map (some t.2.2.1), i6 s.2.2.1, (Qi s.2.2.2.1), i6 s.2.2.2.2.1] 195, Jw 56 2 (.slice t.1.1 t.2.1 t.1.2) t.2.1 (s.2.2.2.2.2.1.map Jg), Q0 (fun x_ : Int => i6 x_) (fun x_ : Bool => .bool x_) t.2.2.1 s.2.2.2.2.2.2.1, X8 Qt Qt, Jf b5 [i6 0, str [], .slice none 0 0, .slice none 0 0, .slice none 0 0] 38, Jf b6 [i6 a1, str s.2.2.2.2.2.2.2.1, .slice t.2.2.2.1.1 s.2.2.2.2.2.2.2.2.1.length t.2.2.2.1.2, .slice t.2.2.2.2.1 s.2.2.2.2.2.2.2.2.2.length t.2.2.2.2.2, .slice none 0 0] 38, Jw 3 1 (.slice t.2.2.2.1.1 s.2.2.2.2.2.2.2.2.1.length t.2.2.2.1.2) s.2.2.2.2.2.2.2.2.1.length (s.2.2.2.2.2.2.2.2.1.map Q1), Jw 74 2 (.slice t.2.2.2.2.1 s.2.2.2.2.2.2.2.2.2.length t.2.2.2.2.2) s.2.2.2.2.2.2.2.2.2.length (s.2.2.2.2.2.2.2.2.2.map Jn)]) (fun s t => t.2.1 = s.2.2.2.2.2.1.length) ?_ ?_
  ·refine Ju<|Jc<|?_
   try dsimp only [z1, z2, z5, z6, z7, z8]
   refine Ja<|mv (i6 a1)<|lv (Ql rfl rfl)<|ag (.bool (decide (a1 = 2)))<|Jd<|?_
   revert H52
   refine ci (decide (a1 = 2)) rfl (fun hb H54=>?_) fun hb H58=>?_
   ·refine Ja<|mv (.pointer (some ⟨pb0, 0, none⟩))<|mv (.pointer (some ⟨pb0, 0, none⟩))<|lv (Jh rfl)<|lf runUnderlying195 rfl sizeOf9 rfl<|ll 0 (str a0.s_) isAgg9<|mv (i6 x10)<|mv (i6 x10)<|mv (i6 t18)<|?_
    obtain ⟨t86, h_t86, H55⟩ := Je H54; clear H54
    refine lv (J1 rfl rfl h_t86) ?_
    obtain ⟨t87, h_t87, H56⟩ := Je H55; clear H55
    refine lv (Jc7 underlying9 rfl rfl rfl h_t87) ?_
    obtain ⟨t88, h_t88, H57⟩ := Je H56; clear H56
    refine bo 1 2 rfl rfl<|bo 0 1 rfl rfl<|?_
    refine Qe (J4 (i := 0) (rds := []) (G := fun x : (Option Addr × Nat) × Nat => str t88.1) (C := fun x : (Option Addr × Nat) × Nat => Jt (Jf pb0 [str t88.2.s_, .bool t88.2.big_, .slice x.1.1 t88.2.parts_.length x.1.2, .map (some x.2), i6 t88.2.dirs_, (Qi t88.2.found_), i6 t88.2.no_] 195) (Jt (Jw 56 2 (.slice x.1.1 t88.2.parts_.length x.1.2) t88.2.parts_.length (t88.2.parts_.map Jg)) (Q0 (fun x_ : Int => i6 x_) (fun x_ : Bool => .bool x_) x.2 t88.2.seen_))) rfl (fun w L' S hF hS hi hp hlt ho hA => k241 (a0 := (⟨a0.s_, a0.big_, l, a0.seen_, a0.dirs_, a0.found_, a0.no_⟩ : Tb)) hp hlt (Qr w S) hl h_t88) call241 rfl) rfl rfl rfl (fun ⟨p_5, p_6⟩ => ?_)
    refine ub 0 1 rfl rfl<|ub 1 2 rfl rfl<|lf runUnderlying38 rfl sizeOf9 rfl<|st (i := 5) [str t88.1] [i6 a1, str t88.1, .slice none 0 0, .slice none 0 0, .slice none 0 0] sizeOf9 rfl rfl<|Jd<|Jm 3 1<|Jm 74 2<|?_
    exact cl (t88.2.s_, t88.2.big_, t88.2.dirs_, t88.2.found_, t88.2.no_, t88.2.parts_, t88.2.seen_, t88.1, ([] : List Int), ([] : List Th)) (p_5, t88.2.parts_.length, p_6, nn, nn) 0 [0, 1, 2, 3, 4, 5, 6, 7] (by exact ⟨H57, rfl⟩)
   ·refine Jc ?_
    try dsimp only [z1, z2, z5, z6, z7, z8]
    refine Ja<|mv (i6 a1)<|lv (Ql rfl rfl)<|ag (.bool (decide (a1 = 7)))<|Jd<|?_
    revert H58
    refine ci (decide (a1 = 7)) rfl (fun hb H59=>?_) fun hb H62=>?_
    ·refine Ja<|mv (.pointer (some ⟨pb0, 0, none⟩))<|lv (Jh rfl)<|lf runUnderlying195 rfl sizeOf9 rfl<|ll 0 (str a0.s_) isAgg9<|mv (i6 x10)<|mv (i6 x10)<|mv (i6 t18)<|?_
     obtain ⟨t100, h_t100, H60⟩ := Je H59; clear H59
     refine lv (J1 rfl rfl h_t100) ?_
     obtain ⟨t101, h_t101, H61⟩ := Je H60; clear H60
     refine lv (Jc7 underlying9 rfl rfl rfl h_t101)<|lf runUnderlying38 rfl sizeOf9 rfl<|st (i := 5) [str t101] [i6 a1, str t101, .slice none 0 0, .slice none 0 0, .slice none 0 0] sizeOf9 rfl rfl<|Jd<|Jm 3 1<|Jm 74 2<|?_
     exact cl (a0.s_, a0.big_, a0.dirs_, a0.found_, a0.no_, l, a0.seen_, t101, ([] : List Int), ([] : List Th)) (p, n, m0_3, nn, nn) 0 [0, 1, 2, 3, 4, 5, 6, 7] (by exact ⟨H61, hl⟩)
    ·refine Jc<|Ja<|mv (i6 a1)<|lv (Ql rfl rfl)<|ag (.bool (decide (a1 = 5)))<|Jd<|?_
     revert H62
     refine ci (decide (a1 = 5)) rfl (fun hb H63=>?_) fun hb H76=>?_
     ·refine Jc<|Ja<|mv (i6 a2)<|mv (i6 0)<|Jd<|Ju<|Jm 74 2<|?_
      refine Za (σ := Int × (List Th)) (τ := (Option Addr × Nat)) (fun next3 s => Yl a0 a1 a2 x10 l next3 s.1 s.2) (fun s t => [(0, .pointer (some ⟨pb0, 0, none⟩)), (8, .pointer (some ⟨b5, 0, none⟩)), (10, i6 x10), (11, .pointer (some ⟨b6, 0, none⟩)), (106, i6 a2), (107, i6 s.1)]) (fun s t => [Jf pb0 [str a0.s_, .bool a0.big_, sl p n, .map (some m0_3), i6 a0.dirs_, (Qi a0.found_), i6 a0.no_] 195, Jw 56 2 (sl p n) n (l.map Jg), Q0 (fun x_ : Int => i6 x_) (fun x_ : Bool => .bool x_) m0_3 a0.seen_, X8 Qt Qt, Jf b5 [i6 0, str [], .slice none 0 0, .slice none 0 0, .slice none 0 0] 38, Jf b6 [i6 a1, str [], .slice none 0 0, sl t s.2.length, .slice none 0 0] 38, Jw 74 2 (sl t s.2.length) s.2.length (s.2.map Jn)]) (fun s t => True) (0, ([] : List Th)) nn [0, 1, 2, 3, 4, 5, 6] H63 (by exact trivial) (by exact ⟨rfl, rfl, rfl, rfl, rfl, rfl, trivial⟩) (by decide) rfl ?_
      rintro ⟨x107_2, l_6⟩ p_7 m3 gg H64 _
      clear H63
      try dsimp only at H64
      generalize hn3 : it (fun next3 s => Yl a0 a1 a2 x10 l next3 s.1 s.2) m3 = next3 at H64
      try dsimp only
      refine Jc<|Ja<|lv (Xz rfl rfl)<|Jd<|Jc<|?_
      revert H64
      refine ci (decide (x107_2 < a2)) rfl (fun hb H65=>?_) fun hb H75=>?_
      ·refine Jk<|Jc<|Ju<|Jc<|Ja<|mv (i6 x107_2)<|ag (i6 x107_2)<|Jd<|?_
       exact Qx (Kd.p :: Kd.d [5] _ :: Kd.p :: Kd.p :: Kd.p :: Kd.p :: Kd.p :: Kd.d [3, 0, 1, 2] _ :: Kd.p :: Kd.p :: Kd.p :: Kd.p :: Kd.p :: Kd.p :: Kd.d [3, 0, 1, 2] _ :: Kd.p :: Kd.ns 7 [_, _] 74 1 :: Kd.t 6 [7] _ _ :: Kd.p :: Kd.sv 128 127 5 _ 38 :: []) 1 mixed (by
        refine dv (J8 runUnderlying38 rfl sizeOf31 rfl rfl)<|dl (sl p_7 l_6.length) isAgg31<|dm (.pointer (some ⟨pb0, 0, none⟩))<|dm (i6 x10)<|dm (i6 x107_2)<|?_
        have h_t115 := Jy H65
        have H66 := Jq H65
        refine dv (Wu rfl rfl h_t115) ?_
        have h_t116 := Jy H66
        have H67 := Jq H66
        refine dv (J1 rfl rfl h_t116) ?_
        have h_t117 := Jy H67
        have H68 := Jq H67
        refine Jd5 (fun w L' hF hS hi => k127 (a0 := (⟨a0.s_, a0.big_, l, a0.seen_, a0.dirs_, a0.found_, a0.no_⟩ : Tb)) (Jp w) (Ye (i := 1) hl hS ((hi 1 (by simp)).trans rfl)) (Xy (fk := (fun x_ : Int => i6 x_)) (fv := (fun x_ : Bool => .bool x_)) (i := 2) hS ((hi 2 (by simp)).trans rfl)) (Q3 (i := 0) hS ((hi 0 (by simp)).trans rfl)) h_t117) call127 rfl rfl<|dm (.pointer (some ⟨pb0, 0, none⟩))<|dm (i6 x10)<|dm (i6 x107_2)<|?_
        have h_t121 := Jy H68
        have H69 := Jq H68
        refine dv (Wu rfl rfl h_t121) ?_
        have h_t122 := Jy H69
        have H70 := Jq H69
        refine dv (J1 rfl rfl h_t122) ?_
        have h_t123 := Jy H70
        have H71 := Jq H70
        refine dv (J1 rfl rfl h_t123) ?_
        have h_t124 := Jy H71
        have H72 := Jq H71
        refine Jd5 (fun w L' hF hS hi => k127 (a0 := (⟨a0.s_, a0.big_, l, a0.seen_, a0.dirs_, a0.found_, a0.no_⟩ : Tb)) (Jp w) (Ye (i := 1) hl hS ((hi 1 (by simp)).trans rfl)) (Xy (fk := (fun x_ : Int => i6 x_)) (fv := (fun x_ : Bool => .bool x_)) (i := 2) hS ((hi 2 (by simp)).trans rfl)) (Q3 (i := 0) hS ((hi 0 (by simp)).trans rfl)) h_t124) call127 rfl rfl<|dv (Xv (pl := #[(0, 1), (1, 1)]) (ps := [(0, i6 (val (Jo (⟨a0.s_, a0.big_, l, a0.seen_, a0.dirs_, a0.found_, a0.no_⟩ : Tb) (val (gI (x10 + (val (gI (8 * x107_2)))))) 4))), (1, i6 (val (Jo (⟨a0.s_, a0.big_, l, a0.seen_, a0.dirs_, a0.found_, a0.no_⟩ : Tb) (val (gI ((val (gI (x10 + (val (gI (8 * x107_2)))))) + 4))) 4)))]) (cells := #[i6 (val (Jo (⟨a0.s_, a0.big_, l, a0.seen_, a0.dirs_, a0.found_, a0.no_⟩ : Tb) (val (gI (x10 + (val (gI (8 * x107_2)))))) 4)), i6 (val (Jo (⟨a0.s_, a0.big_, l, a0.seen_, a0.dirs_, a0.found_, a0.no_⟩ : Tb) (val (gI ((val (gI (x10 + (val (gI (8 * x107_2)))))) + 4))) 4))]) zeroValue74 runUnderlying74 (fun w => by kernel_rfl) rfl rfl)<|?_
        refine d_newS rfl rfl (Jdp (vs := [.agg #[i6 (val (Jo (⟨a0.s_, a0.big_, l, a0.seen_, a0.dirs_, a0.found_, a0.no_⟩ : Tb) (val (gI (x10 + (val (gI (8 * x107_2)))))) 4)), i6 (val (Jo (⟨a0.s_, a0.big_, l, a0.seen_, a0.dirs_, a0.found_, a0.no_⟩ : Tb) (val (gI ((val (gI (x10 + (val (gI (8 * x107_2)))))) + 4))) 4))]]) (cs := [i6 (val (Jo (⟨a0.s_, a0.big_, l, a0.seen_, a0.dirs_, a0.found_, a0.no_⟩ : Tb) (val (gI (x10 + (val (gI (8 * x107_2)))))) 4)), i6 (val (Jo (⟨a0.s_, a0.big_, l, a0.seen_, a0.dirs_, a0.found_, a0.no_⟩ : Tb) (val (gI ((val (gI (x10 + (val (gI (8 * x107_2)))))) + 4))) 4))]) underlying31 sizeOf74 zeroValue74 rfl rfl rfl rfl rfl) rfl (fun b7 => ?_)
        have h_l127 := Jy H72
        have H73 := Jq H72
        refine Jdr (Cv := fun v => Jw 74 2 v (val (X3 16 l_6 ([(⟨(val (Jo (⟨a0.s_, a0.big_, l, a0.seen_, a0.dirs_, a0.found_, a0.no_⟩ : Tb) (val (gI (x10 + (val (gI (8 * x107_2)))))) 4)), (val (Jo (⟨a0.s_, a0.big_, l, a0.seen_, a0.dirs_, a0.found_, a0.no_⟩ : Tb) (val (gI ((val (gI (x10 + (val (gI (8 * x107_2)))))) + 4))) 4))⟩ : Th)] : List Th))).length ((val (X3 16 l_6 ([(⟨(val (Jo (⟨a0.s_, a0.big_, l, a0.seen_, a0.dirs_, a0.found_, a0.no_⟩ : Tb) (val (gI (x10 + (val (gI (8 * x107_2)))))) 4)), (val (Jo (⟨a0.s_, a0.big_, l, a0.seen_, a0.dirs_, a0.found_, a0.no_⟩ : Tb) (val (gI ((val (gI (x10 + (val (gI (8 * x107_2)))))) + 4))) 4))⟩ : Th)] : List Th))).map Jn)) (none, 0) (Xp (i := 6) (hn := rfl) (rds := [7]) (p := p_7) (sz := 2) (by_ := 16) (f := Jn) (ys := l_6) (ls := ([(⟨(val (Jo (⟨a0.s_, a0.big_, l, a0.seen_, a0.dirs_, a0.found_, a0.no_⟩ : Tb) (val (gI (x10 + (val (gI (8 * x107_2)))))) 4)), (val (Jo (⟨a0.s_, a0.big_, l, a0.seen_, a0.dirs_, a0.found_, a0.no_⟩ : Tb) (val (gI ((val (gI (x10 + (val (gI (8 * x107_2)))))) + 4))) 4))⟩ : Th)] : List Th)) (V := .slice (some ⟨b7, 0, none⟩) 1 1) underlying31 (Q5 typeInfo74) rfl rfl rfl rfl rfl rfl rfl rfl rfl rfl (fun w L' hF hS hi => Wr (i := 7) hS ((hi 7 (by simp)).trans rfl) rfl rfl) (fun _ => rfl) (fun _ => rfl) h_l127) (fun _ => rfl) rfl rfl (fun p_8 => ?_)
        refine dv (J8 runUnderlying38 rfl sizeOf31 rfl rfl)<|Jb0 (i := 5) (vs := [.slice p_8.1 (val (X3 16 l_6 ([(⟨(val (Jo (⟨a0.s_, a0.big_, l, a0.seen_, a0.dirs_, a0.found_, a0.no_⟩ : Tb) (val (gI (x10 + (val (gI (8 * x107_2)))))) 4)), (val (Jo (⟨a0.s_, a0.big_, l, a0.seen_, a0.dirs_, a0.found_, a0.no_⟩ : Tb) (val (gI ((val (gI (x10 + (val (gI (8 * x107_2)))))) + 4))) 4))⟩ : Th)] : List Th))).length p_8.2]) (cs' := fun v_ => [i6 a1, str [], .slice none 0 0, v_, .slice none 0 0]) sizeOf31 rfl rfl rfl rfl rfl rfl rfl rfl rfl<|Yw<|Ja<|?_
        obtain ⟨t129, h_t129, H74⟩ := Je H73; clear H73
        refine lv (J1 rfl rfl h_t129)<|mv (i6 t129)<|Jd<|?_
        exact cl (t129, (val (X3 16 l_6 ([(⟨(val (Jo (⟨a0.s_, a0.big_, l, a0.seen_, a0.dirs_, a0.found_, a0.no_⟩ : Tb) (val (gI (x10 + (val (gI (8 * x107_2)))))) 4)), (val (Jo (⟨a0.s_, a0.big_, l, a0.seen_, a0.dirs_, a0.found_, a0.no_⟩ : Tb) (val (gI ((val (gI (x10 + (val (gI (8 * x107_2)))))) + 4))) 4))⟩ : Th)] : List Th)))) p_8 m3 [0, 1, 2, 3, 4, 5, 6] (by exact ⟨(by subst hn3; exact H74), trivial⟩)
        ) (by kernel_rfl)
      ·refine Xa<|Jm 3 1<|?_
       exact cl (a0.s_, a0.big_, a0.dirs_, a0.found_, a0.no_, l, a0.seen_, [], ([] : List Int), l_6) (p, n, m0_3, nn, p_7) 0 [0, 1, 2, 3, 4, 5, 7, 6] (by exact ⟨H75, hl⟩)
     ·refine Jc<|Ja<|mv (i6 a2)<|mv (i6 0)<|Jd<|Ju<|Jm 3 1<|?_
      refine Za (σ := Int × (List Int)) (τ := (Option Addr × Nat)) (fun next4 s => Ym a0 a1 a2 x10 l next4 s.1 s.2) (fun s t => [(0, .pointer (some ⟨pb0, 0, none⟩)), (1, i6 a1), (8, .pointer (some ⟨b5, 0, none⟩)), (10, i6 x10), (11, .pointer (some ⟨b6, 0, none⟩)), (49, i6 a2), (50, i6 s.1)]) (fun s t => [Jf pb0 [str a0.s_, .bool a0.big_, sl p n, .map (some m0_3), i6 a0.dirs_, (Qi a0.found_), i6 a0.no_] 195, Jw 56 2 (sl p n) n (l.map Jg), Q0 (fun x_ : Int => i6 x_) (fun x_ : Bool => .bool x_) m0_3 a0.seen_, X8 Qt Qt, Jf b5 [i6 0, str [], .slice none 0 0, .slice none 0 0, .slice none 0 0] 38, Jf b6 [i6 a1, str [], sl t s.2.length, .slice none 0 0, .slice none 0 0] 38, Jw 3 1 (sl t s.2.length) s.2.length (s.2.map Q1)]) (fun s t => True) (0, ([] : List Int)) nn [0, 1, 2, 3, 4, 5, 6] H76 (by exact trivial) (by exact ⟨rfl, rfl, rfl, rfl, rfl, rfl, rfl, trivial⟩) (by decide) rfl ?_
      rintro ⟨x50_2, l_8⟩ p_9 m4 gg H77 _
      clear H76
      try dsimp only at H77
      generalize hn4 : it (fun next4 s => Ym a0 a1 a2 x10 l next4 s.1 s.2) m4 = next4 at H77
      try dsimp only
      refine Jc ?_
      try dsimp only [z1, z2, z5, z6, z7, z8]
      refine Ja<|lv (Xz rfl rfl)<|Jd<|Jc<|?_
      revert H77
      refine ci (decide (x50_2 < a2)) rfl (fun hb H78=>?_) fun hb H89=>?_
      ·refine Jk<|Jc<|Ju<|Jc<|Ja<|mv (i6 x50_2)<|ag (i6 x50_2)<|Jd<|Jc<|Ja<|mv (.pointer (some ⟨pb0, 0, none⟩))<|mv (i6 x10)<|mv (i6 x50_2)<|mv (i6 a1)<|?_
       obtain ⟨t57, h_t57, H79⟩ := Je H78; clear H78
       refine Yy (k139 h_t57) call139 rfl rfl rfl ?_
       obtain ⟨t58, h_t58, H80⟩ := Je H79; clear H79
       refine lv (Wu rfl rfl h_t58) ?_
       obtain ⟨t59, h_t59, H81⟩ := Je H80; clear H80
       refine lv (J1 rfl rfl h_t59)<|mv (i6 a1)<|?_
       obtain ⟨t61, h_t61, H82⟩ := Je H81; clear H81
       refine Yy (k139 h_t61) call139 rfl rfl rfl ?_
       obtain ⟨t62, h_t62, H83⟩ := Je H82; clear H82
       refine Qd (fun w hF hS => k127 (a0 := (⟨a0.s_, a0.big_, l, a0.seen_, a0.dirs_, a0.found_, a0.no_⟩ : Tb)) (Jp w) (Ye (i := 1) hl hS rfl) (Xy (fk := (fun x_ : Int => i6 x_)) (fv := (fun x_ : Bool => .bool x_)) (i := 2) hS rfl) (Q3 (i := 0) hS rfl) h_t62) call127 rfl rfl rfl<|ag (i6 t62)<|Jd<|?_
       refine Qj (r := r) (σ := Int) (τ := Unit) (fun s => Vv x50_2 l_8 next4 s) (fun s t => [(0, .pointer (some ⟨pb0, 0, none⟩)), (1, i6 a1), (8, .pointer (some ⟨b5, 0, none⟩)), (10, i6 x10), (11, .pointer (some ⟨b6, 0, none⟩)), (14, i6 s), (49, i6 a2), (50, i6 x50_2)]) (fun s t => [Jf pb0 [str a0.s_, .bool a0.big_, sl p n, .map (some m0_3), i6 a0.dirs_, (Qi a0.found_), i6 a0.no_] 195, Jw 56 2 (sl p n) n (l.map Jg), Q0 (fun x_ : Int => i6 x_) (fun x_ : Bool => .bool x_) m0_3 a0.seen_, X8 Qt Qt, Jf b5 [i6 0, str [], .slice none 0 0, .slice none 0 0, .slice none 0 0] 38, Jf b6 [i6 a1, str [], sl p_9 l_8.length, .slice none 0 0, .slice none 0 0] 38, Jw 3 1 (sl p_9 l_8.length) l_8.length (l_8.map Q1)]) (fun s t => True) ?_ ?_
       ·refine Jc<|Ja<|mv (i6 a1)<|lv (Ql rfl rfl)<|Jd<|?_
        revert H83
        refine ci (decide (a1 = 9)) rfl (fun hb H87=>?_) fun hb H88=>?_
        ·refine Ja<|mv (i6 t62)<|lv (Ui runUnderlying3 runUnderlying21 rfl (wr_i32 _))<|lv (Ui runUnderlying21 runUnderlying3 rfl (Jhz _))<|ag (i6 (Ud (wI32 t62)))<|Jd<|?_
         exact cl (Ud (wI32 t62)) () 0 [0, 1, 2, 3, 4, 5, 6] (by exact ⟨H87, trivial⟩)
        ·refine Jk ?_
         exact cl t62 () 0 [0, 1, 2, 3, 4, 5, 6] (by exact ⟨H88, trivial⟩)
       ·rintro x14 _ gg H84 _
        try dsimp only at H84
        try dsimp only
        refine Ja<|lf runUnderlying38 rfl sizeOf30 rfl<|ll 5 (sl p_9 l_8.length) isAgg30<|mv (i6 x14)<|?_
        refine Qg (vs := [i6 x14]) (cs := [i6 x14]) underlying30 sizeOf3 zeroValue3 rfl rfl rfl rfl rfl rfl rfl (fun b8 => ?_)
        obtain ⟨l72, h_l72, H85⟩ := Je H84; clear H84
        refine Qe (Xp (i := 6) (hn := rfl) (rds := [7]) (p := p_9) (sz := 1) (by_ := 8) (f := Q1) (ys := l_8) (ls := ([x14] : List Int)) (V := .slice (some ⟨b8, 0, none⟩) 1 1) underlying30 (Q5 typeInfo3) rfl rfl rfl rfl rfl rfl rfl rfl rfl rfl (fun w L' hF hS hi => Wr (i := 7) hS ((hi 7 (by simp)).trans rfl) rfl rfl) (fun _ => rfl) (fun _ => rfl) h_l72) rfl rfl rfl (fun p_10 => ?_)
        refine lf runUnderlying38 rfl sizeOf30 rfl<|st (i := 5) [sl p_10 l72.length] [i6 a1, str [], sl p_10 l72.length, .slice none 0 0, .slice none 0 0] sizeOf30 rfl rfl<|Jd<|Ja<|?_
        obtain ⟨t74, h_t74, H86⟩ := Je H85; clear H85
        refine lv (J1 rfl rfl h_t74)<|mv (i6 t74)<|Jd<|?_
        exact cl (t74, l72) p_10 m4 [0, 1, 2, 3, 4, 5, 6] (by exact ⟨(by subst hn4; exact H86), trivial⟩)
      ·refine Xa<|Jm 74 2<|?_
       exact cl (a0.s_, a0.big_, a0.dirs_, a0.found_, a0.no_, l, a0.seen_, [], l_8, ([] : List Th)) (p, n, m0_3, p_9, nn) 0 [0, 1, 2, 3, 4, 5, 6, 7] (by exact ⟨H89, hl⟩)
  ·rintro ⟨m, m_2, m_3, m_4, m_5, l_2, mp, m_6, l_3, l_4⟩ ⟨p_2, n_2, b, p_3, p_4⟩ gg H53 hl_2
   try dsimp only at H53
   try dsimp only
   refine Jc ?_
   try dsimp only [z1, z2, z5, z6, z7, z8]
   refine Ja<|Q4 (i := 5) (vs := [i6 a1, str m_6, sl p_3 l_3.length, sl p_4 l_4.length, .slice none 0 0]) isAgg38 sizeOf38 rfl rfl rfl rfl rfl<|st (i := 4) [i6 a1, str m_6, sl p_3 l_3.length, sl p_4 l_4.length, .slice none 0 0] [i6 a1, str m_6, sl p_3 l_3.length, sl p_4 l_4.length, .slice none 0 0] sizeOf38 rfl rfl<|Jd<|Jl<|c_dr 5<|?_
   try dsimp only [z1, z2, z3, z4, z5, z6, z7, z8]
   refine Jm 83 6 ?_
   obtain rfl := sj H53
   refine bo 3 7 rfl rfl<|Qp 3 rfl (Qh (p := nn) rfl (AllC.nil (G := g_tag_Entry) (h := Qt) (sz := 6)))<|bo 6 3 rfl rfl<|bo 5 6 rfl rfl<|bo 2 5 rfl rfl<|bo 1 2 rfl rfl<|bo 0 1 rfl rfl<|?_
   refine retC (i := 4) (vs := [i6 a1, str m_6, sl p_3 l_3.length, sl p_4 l_4.length, sl nn (([] : List (List Value)).length)]) isAgg38 sizeOf38 rfl rfl rfl rfl (X7 (p_3, p_4, nn, p_2, b) (i := 0) rfl (by first | rfl | rw [(show (([] : List (List Value)).length) = ([] : List Ta).length from (AllC.nil (G := g_tag_Entry) (h := Qt) (sz := 6)).len), (show n_2 = l_2.length from hl_2)]) (by first | exact Imp.refl _ | exact Imp.of (by rw [(show (([] : List (List Value)).length) = ([] : List Ta).length from (AllC.nil (G := g_tag_Entry) (h := Qt) (sz := 6)).len), (show n_2 = l_2.length from hl_2)] <;> rfl)))
theorem k171_b {self : (Tb × Int × (List Int)) → Option ((List Ta) × Int × Tb)} (ih : ∀ {a0 : Tb} {pb0 : Nat} {p0_2 : Option Addr × Nat} {n0_2 : Nat} {m0_3 : Nat} {a1 : Int} {a2 : (List Int)} {v2 : Value} {r : (List Ta) × Int × Tb} {w : World} {h : J3} {S : Nat → Prop} (hcs : (Jt (Jf pb0 [str a0.s_, .bool a0.big_, sl p0_2 n0_2, .map (some m0_3), i6 a0.dirs_, (Qi a0.found_), i6 a0.no_] 195) (Jt (Jw 56 2 (sl p0_2 n0_2) n0_2 (a0.parts_.map Jg)) (Q0 (fun x_ : Int => i6 x_) (fun x_ : Bool => .bool x_) m0_3 a0.seen_))).P S w) (hlt : ∀ b, S b → b < w.heap.size) (hw : Know h w S) (hn0_2 : n0_2 = a0.parts_.length) (f2 : FrS h 1 v2 (a2.map Q1)) (_ : self (a0, a1, a2) = some r), Does prog 128 (List.toArray [.pointer (some ⟨pb0, 0, none⟩), i6 a1, v2]) w (fun v w' => ∃ x : (Option Addr × Nat) × (Option Addr × Nat) × Nat, v = (.tuple #[.slice x.1.1 r.1.length x.1.2, i6 r.2.1]) ∧ Turn w w' S (Jt (Jf pb0 [str r.2.2.s_, .bool r.2.2.big_, .slice x.2.1.1 r.2.2.parts_.length x.2.1.2, .map (some x.2.2), i6 r.2.2.dirs_, (Qi r.2.2.found_), i6 r.2.2.no_] 195) (Jt (Jw 56 2 (.slice x.2.1.1 r.2.2.parts_.length x.2.1.2) r.2.2.parts_.length (r.2.2.parts_.map Jg)) (Jt (Q0 (fun x_ : Int => i6 x_) (fun x_ : Bool => .bool x_) x.2.2 r.2.2.seen_) (Wp 83 6 g_tag_Entry (.slice x.1.1 r.1.length x.1.2) r.1.length r.1)))))) {a0 : Tb} {pb0 : Nat} {p0_2 : Option Addr × Nat} {n0_2 : Nat} {m0_3 : Nat} {a1 : Int} {a2 : (List Int)} {v2 : Value} {r : Ta × Tb} {w : World} {h : J3} {S : Nat → Prop} (hcs : (Jt (Jf pb0 [str a0.s_, .bool a0.big_, sl p0_2 n0_2, .map (some m0_3), i6 a0.dirs_, (Qi a0.found_), i6 a0.no_] 195) (Jt (Jw 56 2 (sl p0_2 n0_2) n0_2 (a0.parts_.map Jg)) (Q0 (fun x_ : Int => i6 x_) (fun x_ : Bool => .bool x_) m0_3 a0.seen_))).P S w) (hlt : ∀ b, S b → b < w.heap.size) (hw : Know h w S) (hn0_2 : n0_2 = a0.parts_.length) (f2 : FrS h 1 v2 (a2.map Q1)) (H : Xq self a0 a1 a2 = some r) : Does prog 171 (List.toArray [.pointer (some ⟨pb0, 0, none⟩), i6 a1, v2]) w (fun v w' => ∃ x : (Option Addr × Nat) × (Option Addr × Nat) × (Option Addr × Nat) × (Option Addr × Nat) × Nat, v = (.agg #[i6 r.1.Tag, i6 r.1.Value.Kind, str r.1.Value.Text, .slice x.1.1 r.1.Value.Ints.length x.1.2, .slice x.2.1.1 r.1.Value.Ratios.length x.2.1.2, .slice x.2.2.1.1 r.1.Value.Entries.length x.2.2.1.2]) ∧ Turn w w' S (Jt (Jf pb0 [str r.2.s_, .bool r.2.big_, .slice x.2.2.2.1.1 r.2.parts_.length x.2.2.2.1.2, .map (some x.2.2.2.2), i6 r.2.dirs_, (Qi r.2.found_), i6 r.2.no_] 195) (Jt (Jw 56 2 (.slice x.2.2.2.1.1 r.2.parts_.length x.2.2.2.1.2) r.2.parts_.length (r.2.parts_.map Jg)) (Jt (Q0 (fun x_ : Int => i6 x_) (fun x_ : Bool => .bool x_) x.2.2.2.2 r.2.seen_) (Jt (Jw 3 1 (.slice x.1.1 r.1.Value.Ints.length x.1.2) r.1.Value.Ints.length (r.1.Value.Ints.map Q1)) (Jt (Jw 74 2 (.slice x.2.1.1 r.1.Value.Ratios.length x.2.1.2) r.1.Value.Ratios.length (r.1.Value.Ratios.map Jn)) (Wp 83 6 g_tag_Entry (.slice x.2.2.1.1 r.1.Value.Entries.length x.2.2.1.2) r.1.Value.Entries.length r.1.Value.Entries))))))) := by
 refine enter (n := 76) func171 rfl rfl rfl S [Jt (Jf pb0 [str a0.s_, .bool a0.big_, sl p0_2 n0_2, .map (some m0_3), i6 a0.dirs_, (Qi a0.found_), i6 a0.no_] 195) (Jt (Jw 56 2 (sl p0_2 n0_2) n0_2 (a0.parts_.map Jg)) (Q0 (fun x_ : Int => i6 x_) (fun x_ : Bool => .bool x_) m0_3 a0.seen_))] (Sat.one hcs hlt)<|Qv 0 rfl<|Qv 1 rfl<|Yg Qt<|Jc<|Ja<|?_
 refine X1 (cs := [i6 0, i6 0, str [], .slice none 0 0, .slice none 0 0, .slice none 0 0]) zeroValue83 rfl rfl rfl (fun b3 => ?_)
 refine Jd<|Jc<|Ja<|mv (.pointer (some ⟨pb0, 0, none⟩))<|mv (i6 a1)<|?_
 obtain ⟨t13, h_t13, H28⟩ := Je H; clear H
 refine Qd (fun w hF hS => k127 (a0 := a0) (Jp w) (Ye (i := 1) hn0_2 hS rfl) (Xy (fk := (fun x_ : Int => i6 x_)) (fv := (fun x_ : Bool => .bool x_)) (i := 2) hS rfl) (Q3 (i := 0) hS rfl) h_t13) call127 rfl rfl rfl<|mv (.pointer (some ⟨pb0, 0, none⟩))<|mv (i6 a1)<|?_
 obtain ⟨t16, h_t16, H29⟩ := Je H28; clear H28
 refine lv (J1 rfl rfl h_t16) ?_
 obtain ⟨t17, h_t17, H30⟩ := Je H29; clear H29
 refine Qd (fun w hF hS => k127 (a0 := a0) (Jp w) (Ye (i := 1) hn0_2 hS rfl) (Xy (fk := (fun x_ : Int => i6 x_)) (fv := (fun x_ : Bool => .bool x_)) (i := 2) hS rfl) (Q3 (i := 0) hS rfl) h_t17) call127 rfl rfl rfl<|mv (.pointer (some ⟨pb0, 0, none⟩))<|mv (i6 a1)<|?_
 obtain ⟨t20, h_t20, H31⟩ := Je H30; clear H30
 refine lv (J1 rfl rfl h_t20) ?_
 obtain ⟨t21, h_t21, H32⟩ := Je H31; clear H31
 refine Qd (fun w hF hS => k127 (a0 := a0) (Jp w) (Ye (i := 1) hn0_2 hS rfl) (Xy (fk := (fun x_ : Int => i6 x_)) (fv := (fun x_ : Bool => .bool x_)) (i := 2) hS rfl) (Q3 (i := 0) hS rfl) h_t21) call127 rfl rfl rfl<|ag (i6 t13)<|ag (i6 t17)<|ag (i6 t21)<|Jd<|Jc<|Ja<|mv v2<|?_
 obtain ⟨t23, h_t23, H33⟩ := Je H32; clear H32
 refine Wv (X0 (rds := []) (G := fun x : (Option Addr × Nat) => sl x t23.length) (C := fun x : (Option Addr × Nat) => Jw 3 1 (sl x t23.length) t23.length (t23.map Q1)) (fun w L' hF hS hi => k109 (Jp w) (f2.mono (hw.now hF)) h_t23) call109 rfl) rfl rfl rfl (fun p => ?_)
 refine mv (i6 t13) ?_
 refine Qg (vs := [i6 t13]) (cs := [i6 t13]) underlying30 sizeOf3 zeroValue3 rfl rfl rfl rfl rfl rfl rfl (fun b4 => ?_)
 obtain ⟨l26, h_l26, H34⟩ := Je H33; clear H33
 refine Qe (Xp (i := 5) (hn := rfl) (rds := [6]) (p := p) (sz := 1) (by_ := 8) (f := Q1) (ys := t23) (ls := ([t13] : List Int)) (V := .slice (some ⟨b4, 0, none⟩) 1 1) underlying30 (Q5 typeInfo3) rfl rfl rfl rfl rfl rfl rfl rfl rfl rfl (fun w L' hF hS hi => Wr (i := 6) hS ((hi 6 (by simp)).trans rfl) rfl rfl) (fun _ => rfl) (fun _ => rfl) h_l26) rfl rfl rfl (fun p_2 => ?_)
 refine ag (sl p_2 l26.length)<|Jd<|Jc<|?_
 try dsimp only [z1, z2, z5, z6, z7, z8]
 refine Ja<|mv (.pointer (some ⟨pb0, 0, none⟩))<|lv (Jh rfl)<|lf runUnderlying195 rfl sizeOf114 rfl<|ll 0 (Qi a0.found_) isAgg114<|mv (sl p_2 l26.length)<|mv (i6 a1)<|?_
 obtain ⟨g33, h_g33, H35⟩ := Je H34; clear H34
 obtain ⟨t33, h_t33, H36⟩ := Je H35; clear H35
 refine Jig (R := Jaz g33) (r := .tuple #[]) (v := (Qi a0.found_)) (fun w hF hS => ⟨((hft114 a0.found_).fn (gFn_some h_g33) _), ⟨l26, _, a1, _, (Ye (i := 5) rfl hS rfl), rfl, h_t33, rfl⟩⟩) rfl rfl rfl rfl<|Jd<|Jc<|Ja<|mv (i6 t13)<|mv (i6 t17)<|lv (Xv (pl := #[(0, 1), (1, 1), (2, 1), (3, 1), (4, 1)]) (ps := [(0, i6 t17)]) (cells := #[i6 t17, str [], .slice none 0 0, .slice none 0 0, .slice none 0 0]) zeroValue38 runUnderlying38 (fun w => by kernel_rfl) rfl rfl)<|lv (Xv (pl := #[(0, 1), (1, 5)]) (ps := [(0, i6 t13), (1, .agg #[i6 t17, str [], .slice none 0 0, .slice none 0 0, .slice none 0 0])]) (cells := #[i6 t13, i6 t17, str [], .slice none 0 0, .slice none 0 0, .slice none 0 0]) zeroValue83 runUnderlying83 (fun w => by kernel_rfl) rfl (by kernel_rfl))<|?_
 refine X1 (cs := [i6 0, i6 0, str [], .slice none 0 0, .slice none 0 0, .slice none 0 0]) zeroValue83 rfl rfl rfl (fun b5 => ?_)
 refine st (i := 7) [i6 t13, i6 t17, str [], .slice none 0 0, .slice none 0 0, .slice none 0 0] [i6 t13, i6 t17, str [], .slice none 0 0, .slice none 0 0, .slice none 0 0] sizeOf83 rfl rfl<|Jd<|?_
 refine Qj (r := r) (σ := Int × (List UInt8) × (List Int) × (List Th) × (List Ta) × (List UInt8) × Bool × Int × Nat × Int × (List Td) × (List (Int × Bool))) (τ := (Option Addr × Nat) × (Option Addr × Nat) × (Option Addr × Nat) × (Option Addr × Nat) × Nat) (fun s => Zy t13 s.1 s.2.1 s.2.2.1 s.2.2.2.1 s.2.2.2.2.1 s.2.2.2.2.2.1 s.2.2.2.2.2.2.1 s.2.2.2.2.2.2.2.1 s.2.2.2.2.2.2.2.2.1 s.2.2.2.2.2.2.2.2.2.1 s.2.2.2.2.2.2.2.2.2.2.1 s.2.2.2.2.2.2.2.2.2.2.2) (fun s t => [(6, .pointer (some ⟨b3, 0, none⟩)), (10, .pointer (some ⟨b5, 0, none⟩))]) (fun s t => [Jf pb0 [str s.2.2.2.2.2.1, .bool s.2.2.2.2.2.2.1, .slice t.2.2.2.1.1 s.2.2.2.2.2.2.2.2.2.2.1.length t.2.2.2.1.2, .map (some t.2.2.2.2), i6 s.2.2.2.2.2.2.2.1, (Qi s.2.2.2.2.2.2.2.2.1), i6 s.2.2.2.2.2.2.2.2.2.1] 195, Jw 56 2 (.slice t.2.2.2.1.1 s.2.2.2.2.2.2.2.2.2.2.1.length t.2.2.2.1.2) s.2.2.2.2.2.2.2.2.2.2.1.length (s.2.2.2.2.2.2.2.2.2.2.1.map Jg), Q0 (fun x_ : Int => i6 x_) (fun x_ : Bool => .bool x_) t.2.2.2.2 s.2.2.2.2.2.2.2.2.2.2.2, X8 Qt Qt, Jf b3 [i6 0, i6 0, str [], .slice none 0 0, .slice none 0 0, .slice none 0 0] 83, Jf b5 [i6 t13, i6 s.1, str s.2.1, .slice t.1.1 s.2.2.1.length t.1.2, .slice t.2.1.1 s.2.2.2.1.length t.2.1.2, .slice t.2.2.1.1 s.2.2.2.2.1.length t.2.2.1.2] 83, Jw 3 1 (.slice t.1.1 s.2.2.1.length t.1.2) s.2.2.1.length (s.2.2.1.map Q1), Jw 74 2 (.slice t.2.1.1 s.2.2.2.1.length t.2.1.2) s.2.2.2.1.length (s.2.2.2.1.map Jn), Wp 83 6 g_tag_Entry (.slice t.2.2.1.1 s.2.2.2.2.1.length t.2.2.1.2) s.2.2.2.2.1.length s.2.2.2.2.1]) (fun s t => True) ?_ ?_
 ·refine Ju<|Jc<|Ja<|mv (i6 t17)<|?_
  obtain ⟨t47, h_t47, H38⟩ := Je H36; clear H36
  refine Yy (k139 h_t47) call139 rfl rfl rfl<|lv (Ql rfl rfl)<|ag (.bool (decide (t47 = 0)))<|Jd<|?_
  revert H38
  refine ci (decide (t47 = 0)) rfl (fun hb H39=>?_) fun hb H41=>?_
  ·refine Ja<|mv (.pointer (some ⟨pb0, 0, none⟩))<|?_
   obtain ⟨t50, h_t50, H40⟩ := Je H39; clear H39
   refine bo 1 2 rfl rfl<|bo 0 1 rfl rfl<|?_
   refine Qe (J4 (i := 0) (rds := []) (G := fun x : (Option Addr × Nat) × Nat => .tuple #[]) (C := fun x : (Option Addr × Nat) × Nat => Jt (Jf pb0 [str t50.s_, .bool t50.big_, .slice x.1.1 t50.parts_.length x.1.2, .map (some x.2), i6 t50.dirs_, (Qi t50.found_), i6 t50.no_] 195) (Jt (Jw 56 2 (.slice x.1.1 t50.parts_.length x.1.2) t50.parts_.length (t50.parts_.map Jg)) (Q0 (fun x_ : Int => i6 x_) (fun x_ : Bool => .bool x_) x.2 t50.seen_))) rfl (fun w L' S hF hS hi hp hlt ho hA => k170 hp hlt (Qr w S) hn0_2 h_t50) call170 rfl) rfl rfl rfl (fun ⟨p_7, p_8⟩ => ?_)
   refine ub 0 1 rfl rfl<|ub 1 2 rfl rfl<|Jd<|Jm 3 1<|Jm 74 2<|Jm 83 6<|Yg Qt<|?_
   try dsimp only [z1, z2, z5, z6, z7, z8]
   refine bo 11 10 rfl rfl ?_
   try dsimp only [z1, z2, z5, z6, z7, z8]
   refine Qp 11 rfl (Jdb (css := []) (xs := ([] : List Ta)) (p := nn) rfl (AllC.nil (G := g_tag_Entry) (h := Qt) (sz := 6))) ?_
   exact cl (t17, [], ([] : List Int), ([] : List Th), ([] : List Ta), t50.s_, t50.big_, t50.dirs_, t50.found_, t50.no_, t50.parts_, t50.seen_) (nn, nn, nn, p_7, p_8) 0 [0, 1, 2, 3, 4, 7, 8, 9, 11] (by exact ⟨H40, trivial⟩)
  ·refine Qj (r := r) (σ := Bool) (τ := Unit) (fun s => Zz a0 a1 self t13 t17 t21 l26 s) (fun s t => [(0, .pointer (some ⟨pb0, 0, none⟩)), (1, i6 a1), (2, sl p_2 l26.length), (6, .pointer (some ⟨b3, 0, none⟩)), (8, i6 t17), (9, i6 t21), (10, .pointer (some ⟨b5, 0, none⟩)), (51, .bool s)]) (fun s t => [Jf pb0 [str a0.s_, .bool a0.big_, sl p0_2 n0_2, .map (some m0_3), i6 a0.dirs_, (Qi a0.found_), i6 a0.no_] 195, Jw 56 2 (sl p0_2 n0_2) n0_2 (a0.parts_.map Jg), Q0 (fun x_ : Int => i6 x_) (fun x_ : Bool => .bool x_) m0_3 a0.seen_, X8 Qt Qt, Jf b3 [i6 0, i6 0, str [], .slice none 0 0, .slice none 0 0, .slice none 0 0] 83, Jw 3 1 (sl p_2 l26.length) l26.length (l26.map Q1), Jf b5 [i6 t13, i6 t17, str [], .slice none 0 0, .slice none 0 0, .slice none 0 0] 83]) (fun s t => True) ?_ ?_
   ·try dsimp only [z1, z2, z5, z6, z7, z8]
    refine Ja<|mv (i6 t17)<|lv (Ql rfl rfl)<|mv (.bool (decide (t17 = 13)))<|?_
    revert H41
    refine sp (fun hb H53=>?_) fun hb H54=>?_
    ·refine mv (i6 t21)<|lv (Yt rfl rfl)<|pT (.bool (decide (t21 ≠ 1)))<|ag (.bool (decide (t21 ≠ 1)))<|Jd<|?_
     exact cl (decide (t21 ≠ 1)) () 0 [0, 1, 2, 3, 4, 5, 7] (by exact ⟨H53, trivial⟩)
    ·refine pa<|pa<|pF (.bool false)<|ag (.bool false)<|Jd<|?_
     exact cl false () 0 [0, 1, 2, 3, 4, 5, 7] (by exact ⟨H54, trivial⟩)
   ·rintro x51 _ gg H42 _
    try dsimp only at H42
    try dsimp only
    revert H42
    refine ci x51 rfl (fun hb H43=>?_) fun hb H45=>?_
    ·try dsimp only [z1, z2, z5, z6, z7, z8]
     refine Ja<|mv (.pointer (some ⟨pb0, 0, none⟩))<|?_
     obtain ⟨t59, h_t59, H44⟩ := Je H43; clear H43
     refine bo 1 2 rfl rfl<|bo 0 1 rfl rfl<|?_
     refine Qe (J4 (i := 0) (rds := []) (G := fun x : (Option Addr × Nat) × Nat => .tuple #[]) (C := fun x : (Option Addr × Nat) × Nat => Jt (Jf pb0 [str t59.s_, .bool t59.big_, .slice x.1.1 t59.parts_.length x.1.2, .map (some x.2), i6 t59.dirs_, (Qi t59.found_), i6 t59.no_] 195) (Jt (Jw 56 2 (.slice x.1.1 t59.parts_.length x.1.2) t59.parts_.length (t59.parts_.map Jg)) (Q0 (fun x_ : Int => i6 x_) (fun x_ : Bool => .bool x_) x.2 t59.seen_))) rfl (fun w L' S hF hS hi hp hlt ho hA => k170 hp hlt (Qr w S) hn0_2 h_t59) call170 rfl) rfl rfl rfl (fun ⟨p_9, p_10⟩ => ?_)
     refine ub 0 1 rfl rfl<|ub 1 2 rfl rfl<|Jd<|Jm 3 1<|Jm 74 2<|Jm 83 6<|Yg Qt<|?_
     try dsimp only [z1, z2, z5, z6, z7, z8]
     refine bo 10 9 rfl rfl ?_
     try dsimp only [z1, z2, z5, z6, z7, z8]
     refine Qp 10 rfl (Jdb (css := []) (xs := ([] : List Ta)) (p := nn) rfl (AllC.nil (G := g_tag_Entry) (h := Qt) (sz := 6))) ?_
     exact cl (t17, [], ([] : List Int), ([] : List Th), ([] : List Ta), t59.s_, t59.big_, t59.dirs_, t59.found_, t59.no_, t59.parts_, t59.seen_) (nn, nn, nn, p_9, p_10) 0 [0, 1, 2, 3, 4, 6, 7, 8, 10] (by exact ⟨H44, trivial⟩)
    ·refine Jc ?_
     try dsimp only [z1, z2, z5, z6, z7, z8]
     refine Ja<|mv (i6 t17)<|lv (Ql rfl rfl)<|ag (.bool (decide (t17 = 13)))<|Jd<|?_
     revert H45
     refine ci (decide (t17 = 13)) rfl (fun hb H46=>?_) fun hb H50=>?_
     ·refine Ja<|mv (.pointer (some ⟨pb0, 0, none⟩))<|mv (.pointer (some ⟨pb0, 0, none⟩))<|mv (i6 a1)<|?_
      obtain ⟨t67, h_t67, H47⟩ := Je H46; clear H46
      refine lv (J1 rfl rfl h_t67) ?_
      obtain ⟨t68, h_t68, H48⟩ := Je H47; clear H47
      refine Qd (fun w hF hS => k127 (a0 := a0) (Jp w) (Ye (i := 1) hn0_2 hS rfl) (Xy (fk := (fun x_ : Int => i6 x_)) (fv := (fun x_ : Bool => .bool x_)) (i := 2) hS rfl) (Q3 (i := 0) hS rfl) h_t68) call127 rfl rfl rfl<|mv (sl p_2 l26.length)<|?_
      obtain ⟨t70, h_t70, H49⟩ := Je H48; clear H48
      refine bo 1 2 rfl rfl<|bo 0 1 rfl rfl<|?_
      refine Qe (J4 (i := 0) (rds := [5]) (G := fun x : (Option Addr × Nat) × (Option Addr × Nat) × Nat => .tuple #[.slice x.1.1 t70.1.length x.1.2, i6 t70.2.1]) (C := fun x : (Option Addr × Nat) × (Option Addr × Nat) × Nat => Jt (Jf pb0 [str t70.2.2.s_, .bool t70.2.2.big_, .slice x.2.1.1 t70.2.2.parts_.length x.2.1.2, .map (some x.2.2), i6 t70.2.2.dirs_, (Qi t70.2.2.found_), i6 t70.2.2.no_] 195) (Jt (Jw 56 2 (.slice x.2.1.1 t70.2.2.parts_.length x.2.1.2) t70.2.2.parts_.length (t70.2.2.parts_.map Jg)) (Jt (Q0 (fun x_ : Int => i6 x_) (fun x_ : Bool => .bool x_) x.2.2 t70.2.2.seen_) (Wp 83 6 g_tag_Entry (.slice x.1.1 t70.1.length x.1.2) t70.1.length t70.1)))) rfl (fun w L' S hF hS hi hp hlt ho hA => ih hp hlt (Qr w S) hn0_2 (frb_own (j := 5) rfl hA hS (by decide) ((hi 5 (by simp)).trans rfl)) h_t70) call128 rfl) rfl rfl rfl (fun ⟨p_11, p_12, p_13⟩ => ?_)
      refine ub 0 1 rfl rfl<|ub 1 2 rfl rfl<|Qv 2 rfl<|mv (.tuple #[sl p_11 t70.1.length, i6 t70.2.1])<|lv (Qb (v := sl p_11 t70.1.length) rfl rfl)<|lv (Qb (v := i6 t70.2.1) rfl rfl)<|lf runUnderlying83 rfl sizeOf38 rfl<|lf runUnderlying38 rfl sizeOf36 rfl<|st (i := 6) [sl p_11 t70.1.length] [i6 t13, i6 t17, str [], .slice none 0 0, .slice none 0 0, sl p_11 t70.1.length] sizeOf36 rfl rfl<|Jd<|Jm 3 1<|Jm 74 2<|?_
      exact cl (t17, [], ([] : List Int), ([] : List Th), t70.1, t70.2.2.s_, t70.2.2.big_, t70.2.2.dirs_, t70.2.2.found_, t70.2.2.no_, t70.2.2.parts_, t70.2.2.seen_) (nn, nn, p_11, p_12, p_13) 0 [0, 1, 2, 3, 4, 6, 8, 9, 7] (by exact ⟨H49, trivial⟩)
     ·try dsimp only [z1, z2, z5, z6, z7, z8]
      refine Ja<|mv (.pointer (some ⟨pb0, 0, none⟩))<|mv (i6 t17)<|mv (i6 t21)<|mv (i6 a1)<|?_
      obtain ⟨t42, h_t42, H51⟩ := Je H50; clear H50
      refine lv (J1 rfl rfl h_t42) ?_
      obtain ⟨t43, h_t43, H52⟩ := Je H51; clear H51
      refine bo 1 2 rfl rfl<|bo 0 1 rfl rfl<|?_
      refine Qe (J4 (i := 0) (rds := []) (G := fun x : (Option Addr × Nat) × (Option Addr × Nat) × (Option Addr × Nat) × (Option Addr × Nat) × Nat => .agg #[i6 t43.1.Kind, str t43.1.Text, .slice x.1.1 t43.1.Ints.length x.1.2, .slice x.2.1.1 t43.1.Ratios.length x.2.1.2, .slice x.2.2.1.1 t43.1.Entries.length x.2.2.1.2]) (C := fun x : (Option Addr × Nat) × (Option Addr × Nat) × (Option Addr × Nat) × (Option Addr × Nat) × Nat => Jt (Jf pb0 [str t43.2.s_, .bool t43.2.big_, .slice x.2.2.2.1.1 t43.2.parts_.length x.2.2.2.1.2, .map (some x.2.2.2.2), i6 t43.2.dirs_, (Qi t43.2.found_), i6 t43.2.no_] 195) (Jt (Jw 56 2 (.slice x.2.2.2.1.1 t43.2.parts_.length x.2.2.2.1.2) t43.2.parts_.length (t43.2.parts_.map Jg)) (Jt (Q0 (fun x_ : Int => i6 x_) (fun x_ : Bool => .bool x_) x.2.2.2.2 t43.2.seen_) (Jt (Jw 3 1 (.slice x.1.1 t43.1.Ints.length x.1.2) t43.1.Ints.length (t43.1.Ints.map Q1)) (Jt (Jw 74 2 (.slice x.2.1.1 t43.1.Ratios.length x.2.1.2) t43.1.Ratios.length (t43.1.Ratios.map Jn)) (Wp 83 6 g_tag_Entry (.slice x.2.2.1.1 t43.1.Entries.length x.2.2.1.2) t43.1.Entries.length t43.1.Entries)))))) rfl (fun w L' S hF hS hi hp hlt ho hA => k207 hp hlt (Qr w S) hn0_2 h_t43) call207 rfl) rfl rfl rfl (fun ⟨p_14, p_15, p_16, p_17, p_18⟩ => ?_)
      refine ub 0 1 rfl rfl<|ub 1 2 rfl rfl<|Qv 2 rfl<|Qv 7 rfl<|Qv 8 rfl<|lf runUnderlying83 rfl sizeOf38 rfl<|st (i := 6) [i6 t43.1.Kind, str t43.1.Text, sl p_14 t43.1.Ints.length, sl p_15 t43.1.Ratios.length, sl p_16 t43.1.Entries.length] [i6 t13, i6 t43.1.Kind, str t43.1.Text, sl p_14 t43.1.Ints.length, sl p_15 t43.1.Ratios.length, sl p_16 t43.1.Entries.length] sizeOf38 rfl rfl<|Jd<|?_
      exact cl (t43.1.Kind, t43.1.Text, t43.1.Ints, t43.1.Ratios, t43.1.Entries, t43.2.s_, t43.2.big_, t43.2.dirs_, t43.2.found_, t43.2.no_, t43.2.parts_, t43.2.seen_) (p_14, p_15, p_16, p_17, p_18) 0 [0, 1, 2, 3, 4, 6, 7, 8, 9] (by exact ⟨H52, trivial⟩)
 ·rintro ⟨m, m_2, l, l_2, l_3, m_3, m_4, m_5, m_6, m_7, l_4, mp⟩ ⟨p_3, p_4, p_5, p_6, b⟩ gg H37 _
  try dsimp only at H37
  try dsimp only
  refine Jc<|Ja<|Q4 (i := 5) (vs := [i6 t13, i6 m, str m_2, sl p_3 l.length, sl p_4 l_2.length, sl p_5 l_3.length]) isAgg83 sizeOf83 rfl rfl rfl rfl rfl<|st (i := 4) [i6 t13, i6 m, str m_2, sl p_3 l.length, sl p_4 l_2.length, sl p_5 l_3.length] [i6 t13, i6 m, str m_2, sl p_3 l.length, sl p_4 l_2.length, sl p_5 l_3.length] sizeOf83 rfl rfl<|Jd<|Jl<|c_dr 5<|?_
  try dsimp only [z1, z2, z3, z4, z5, z6, z7, z8]
  obtain rfl := sj H37
  refine bo 6 7 rfl rfl<|bo 5 6 rfl rfl<|bo 2 5 rfl rfl<|bo 1 2 rfl rfl<|bo 0 1 rfl rfl<|?_
  refine retC (i := 4) (vs := [i6 t13, i6 m, str m_2, sl p_3 l.length, sl p_4 l_2.length, sl p_5 l_3.length]) isAgg83 sizeOf83 rfl rfl rfl rfl (X7 (p_3, p_4, p_5, p_6, b) (i := 0) rfl rfl (Imp.refl _))
theorem k128_it (mm : Nat) : ∀ {a0 : Tb} {pb0 : Nat} {p0_2 : Option Addr × Nat} {n0_2 : Nat} {m0_3 : Nat} {a1 : Int} {a2 : (List Int)} {v2 : Value} {r : (List Ta) × Int × Tb} {w : World} {h : J3} {S : Nat → Prop} (hcs : (Jt (Jf pb0 [str a0.s_, .bool a0.big_, sl p0_2 n0_2, .map (some m0_3), i6 a0.dirs_, (Qi a0.found_), i6 a0.no_] 195) (Jt (Jw 56 2 (sl p0_2 n0_2) n0_2 (a0.parts_.map Jg)) (Q0 (fun x_ : Int => i6 x_) (fun x_ : Bool => .bool x_) m0_3 a0.seen_))).P S w) (hlt : ∀ b, S b → b < w.heap.size) (hw : Know h w S) (hn0_2 : n0_2 = a0.parts_.length) (f2 : FrS h 1 v2 (a2.map Q1)) (H : it (fun (self : (Tb × Int × (List Int)) → Option ((List Ta) × Int × Tb)) (s : Tb × Int × (List Int)) => J7 self s.1 s.2.1 s.2.2) mm (a0, a1, a2) = some r), Does prog 128 (List.toArray [.pointer (some ⟨pb0, 0, none⟩), i6 a1, v2]) w (fun v w' => ∃ x : (Option Addr × Nat) × (Option Addr × Nat) × Nat, v = (.tuple #[.slice x.1.1 r.1.length x.1.2, i6 r.2.1]) ∧ Turn w w' S (Jt (Jf pb0 [str r.2.2.s_, .bool r.2.2.big_, .slice x.2.1.1 r.2.2.parts_.length x.2.1.2, .map (some x.2.2), i6 r.2.2.dirs_, (Qi r.2.2.found_), i6 r.2.2.no_] 195) (Jt (Jw 56 2 (.slice x.2.1.1 r.2.2.parts_.length x.2.1.2) r.2.2.parts_.length (r.2.2.parts_.map Jg)) (Jt (Q0 (fun x_ : Int => i6 x_) (fun x_ : Bool => .bool x_) x.2.2 r.2.2.seen_) (Wp 83 6 g_tag_Entry (.slice x.1.1 r.1.length x.1.2) r.1.length r.1))))) := by
 induction mm with
 | zero => intros; rename_i H; exact absurd H (by simp [it])
 | succ mm ih =>
  intro a0 pb0 p0_2 n0_2 m0_3 a1 a2 v2 r w h S hcs hlt hw hn0_2 f2 H
  replace H : J7 (it (fun (self : (Tb × Int × (List Int)) → Option ((List Ta) × Int × Tb)) (s : Tb × Int × (List Int)) => J7 self s.1 s.2.1 s.2.2) mm) a0 a1 a2 = some r := H
  generalize it (fun (self : (Tb × Int × (List Int)) → Option ((List Ta) × Int × Tb)) (s : Tb × Int × (List Int)) => J7 self s.1 s.2.1 s.2.2) mm = self at H ih
  refine enter (n := 145) func128 rfl rfl rfl S [Jt (Jf pb0 [str a0.s_, .bool a0.big_, sl p0_2 n0_2, .map (some m0_3), i6 a0.dirs_, (Qi a0.found_), i6 a0.no_] 195) (Jt (Jw 56 2 (sl p0_2 n0_2) n0_2 (a0.parts_.map Jg)) (Q0 (fun x_ : Int => i6 x_) (fun x_ : Bool => .bool x_) m0_3 a0.seen_))] (Sat.one hcs hlt)<|Qv 0 rfl<|Qv 1 rfl<|Yg Qt<|Jc<|Ja<|ag (.slice none 0 0)<|ag (i6 0)<|Jd<|Jc<|Ja<|mv v2<|lv (Vy underlying30 rfl f2 rfl)<|ag (i6 (a2.length : Int))<|Jd<|Jc<|Jc<|Ja<|mv (.pointer (some ⟨pb0, 0, none⟩))<|mv (i6 a1)<|?_
  obtain ⟨t15, h_t15, H67⟩ := Je H; clear H
  refine Qd (fun w hF hS => k169 (a0 := a0) (Jp w) (Ye (i := 1) hn0_2 hS rfl) (Xy (fk := (fun x_ : Int => i6 x_)) (fv := (fun x_ : Bool => .bool x_)) (i := 2) hS rfl) (Q3 (i := 0) hS rfl) h_t15) call169 rfl rfl rfl<|lv (Ja4 rfl)<|Jd<|?_
  revert H67
  refine ci (!t15) rfl (fun hb H68=>?_) fun hb H70=>?_
  ·refine Jc<|Ja<|mv (.pointer (some ⟨pb0, 0, none⟩))<|?_
   obtain ⟨t18, h_t18, H69⟩ := Je H68; clear H68
   refine bo 1 2 rfl rfl<|bo 0 1 rfl rfl<|?_
   refine Qe (J4 (i := 0) (rds := []) (G := fun x : (Option Addr × Nat) × Nat => .tuple #[]) (C := fun x : (Option Addr × Nat) × Nat => Jt (Jf pb0 [str t18.s_, .bool t18.big_, .slice x.1.1 t18.parts_.length x.1.2, .map (some x.2), i6 t18.dirs_, (Qi t18.found_), i6 t18.no_] 195) (Jt (Jw 56 2 (.slice x.1.1 t18.parts_.length x.1.2) t18.parts_.length (t18.parts_.map Jg)) (Q0 (fun x_ : Int => i6 x_) (fun x_ : Bool => .bool x_) x.2 t18.seen_))) rfl (fun w L' S hF hS hi hp hlt ho hA => k170 hp hlt (Qr w S) hn0_2 h_t18) call170 rfl) rfl rfl rfl (fun ⟨p, p_2⟩ => ?_)
   refine ub 0 1 rfl rfl<|ub 1 2 rfl rfl<|Jd<|Jc<|?_
   try dsimp only [z1, z2, z5, z6, z7, z8]
   refine Ja<|ag (.slice none 0 0)<|ag (i6 0)<|Jd<|Jl<|Jm 83 6<|?_
   obtain rfl := sj H69
   refine bo 3 4 rfl rfl<|Qp 3 rfl (Qh (p := nn) rfl (AllC.nil (G := g_tag_Entry) (h := Qt) (sz := 6)))<|bo 2 3 rfl rfl<|bo 1 2 rfl rfl<|bo 0 1 rfl rfl<|?_
   refine Z7 (v1 := sl nn (([] : List (List Value)).length)) (v2 := i6 0) rfl rfl rfl (X7 (nn, p, p_2) (i := 0) rfl (by first | rfl | rw [(show (([] : List (List Value)).length) = ([] : List Ta).length from (AllC.nil (G := g_tag_Entry) (h := Qt) (sz := 6)).len)]) (by first | exact Imp.refl _ | exact Imp.of (by rw [(show (([] : List (List Value)).length) = ([] : List Ta).length from (AllC.nil (G := g_tag_Entry) (h := Qt) (sz := 6)).len)] <;> rfl)))
  ·refine Jk<|Jc<|?_
   try dsimp only [z1, z2, z5, z6, z7, z8]
   refine Ja<|mv (.pointer (some ⟨pb0, 0, none⟩))<|mv (i6 a1)<|?_
   obtain ⟨t21, h_t21, H71⟩ := Je H70; clear H70
   refine Qd (fun w hF hS => k127 (a0 := a0) (Jp w) (Ye (i := 1) hn0_2 hS rfl) (Xy (fk := (fun x_ : Int => i6 x_)) (fv := (fun x_ : Bool => .bool x_)) (i := 2) hS rfl) (Q3 (i := 0) hS rfl) h_t21) call127 rfl rfl rfl<|ag (i6 t21)<|Jd<|?_
   refine Qj (r := r) (σ := (List UInt8) × Bool × Int × Nat × Int × (List Td) × (List (Int × Bool))) (τ := (Option Addr × Nat) × Nat × Nat) (fun s => Xb a1 a2 self t21 s.1 s.2.1 s.2.2.1 s.2.2.2.1 s.2.2.2.2.1 s.2.2.2.2.2.1 s.2.2.2.2.2.2) (fun s t => [(0, .pointer (some ⟨pb0, 0, none⟩)), (1, i6 a1), (2, v2), (6, .slice none 0 0), (8, i6 (a2.length : Int)), (9, i6 t21)]) (fun s t => [Jf pb0 [str s.1, .bool s.2.1, .slice t.1.1 t.2.1 t.1.2, .map (some t.2.2), i6 s.2.2.1, (Qi s.2.2.2.1), i6 s.2.2.2.2.1] 195, Jw 56 2 (.slice t.1.1 t.2.1 t.1.2) t.2.1 (s.2.2.2.2.2.1.map Jg), Q0 (fun x_ : Int => i6 x_) (fun x_ : Bool => .bool x_) t.2.2 s.2.2.2.2.2.2, X8 Qt Qt]) (fun s t => t.2.1 = s.2.2.2.2.2.1.length) ?_ ?_
   ·refine Ju<|Jc<|Ja<|mv (.pointer (some ⟨pb0, 0, none⟩))<|lv (Jh rfl)<|lf runUnderlying195 rfl sizeOf116 rfl<|ll 0 (.map (some m0_3)) isAgg116<|mv (i6 a1)<|Xi (fun w hF hS => Ji9 (i := 2) (fk := (fun x_ : Int => i6 x_)) (fv := (fun x_ : Bool => .bool x_)) (k := a1) (z := false) Jhc underlying116 underlying3 zeroValue4 rfl rfl hS rfl) rfl rfl rfl<|ag (.bool ((mGet a0.seen_ a1).getD false))<|Jd<|?_
    revert H71
    refine ci ((mGet a0.seen_ a1).getD false) rfl (fun hb H114=>?_) fun hb H116=>?_
    ·refine Ja<|mv (.pointer (some ⟨pb0, 0, none⟩))<|?_
     obtain ⟨t30, h_t30, H115⟩ := Je H114; clear H114
     refine bo 1 2 rfl rfl<|bo 0 1 rfl rfl<|?_
     refine Qe (J4 (i := 0) (rds := []) (G := fun x : (Option Addr × Nat) × Nat => .tuple #[]) (C := fun x : (Option Addr × Nat) × Nat => Jt (Jf pb0 [str t30.s_, .bool t30.big_, .slice x.1.1 t30.parts_.length x.1.2, .map (some x.2), i6 t30.dirs_, (Qi t30.found_), i6 t30.no_] 195) (Jt (Jw 56 2 (.slice x.1.1 t30.parts_.length x.1.2) t30.parts_.length (t30.parts_.map Jg)) (Q0 (fun x_ : Int => i6 x_) (fun x_ : Bool => .bool x_) x.2 t30.seen_))) rfl (fun w L' S hF hS hi hp hlt ho hA => k170 hp hlt (Qr w S) hn0_2 h_t30) call170 rfl) rfl rfl rfl (fun ⟨p_20, p_21⟩ => ?_)
     refine ub 0 1 rfl rfl<|ub 1 2 rfl rfl<|Jd<|?_
     exact cl (t30.s_, t30.big_, t30.dirs_, t30.found_, t30.no_, t30.parts_, t30.seen_) (p_20, t30.parts_.length, p_21) 0 [0, 1, 2, 3] (by exact ⟨H115, rfl⟩)
    ·refine Jc ?_
     try dsimp only [z1, z2, z5, z6, z7, z8]
     refine Ja<|mv (.pointer (some ⟨pb0, 0, none⟩))<|lv (Jh rfl)<|lf runUnderlying195 rfl sizeOf3 rfl<|ll 0 (i6 a0.dirs_) isAgg3<|lv (Yn rfl rfl)<|mv (.bool (decide (20 < a0.dirs_)))<|?_
     revert H116
     refine sp (fun hb H117=>?_) fun hb H119=>?_
     ·refine pa<|pa<|pT (.bool true)<|mv (.bool true)<|pa<|pa<|pT (.bool true)<|ag (.bool true)<|Jd<|Vj rfl<|Ja<|mv (.pointer (some ⟨pb0, 0, none⟩))<|?_
      obtain ⟨t46, h_t46, H118⟩ := Je H117; clear H117
      refine bo 1 2 rfl rfl<|bo 0 1 rfl rfl<|?_
      refine Qe (J4 (i := 0) (rds := []) (G := fun x : (Option Addr × Nat) × Nat => .tuple #[]) (C := fun x : (Option Addr × Nat) × Nat => Jt (Jf pb0 [str t46.s_, .bool t46.big_, .slice x.1.1 t46.parts_.length x.1.2, .map (some x.2), i6 t46.dirs_, (Qi t46.found_), i6 t46.no_] 195) (Jt (Jw 56 2 (.slice x.1.1 t46.parts_.length x.1.2) t46.parts_.length (t46.parts_.map Jg)) (Q0 (fun x_ : Int => i6 x_) (fun x_ : Bool => .bool x_) x.2 t46.seen_))) rfl (fun w L' S hF hS hi hp hlt ho hA => k170 hp hlt (Qr w S) hn0_2 h_t46) call170 rfl) rfl rfl rfl (fun ⟨p_22, p_23⟩ => ?_)
      refine ub 0 1 rfl rfl<|ub 1 2 rfl rfl<|Jd<|?_
      exact cl (t46.s_, t46.big_, t46.dirs_, t46.found_, t46.no_, t46.parts_, t46.seen_) (p_22, t46.parts_.length, p_23) 0 [0, 1, 2, 3] (by exact ⟨H118, rfl⟩)
     ·refine mv (i6 (a2.length : Int))<|lv (Yn rfl rfl)<|pF (.bool (decide (5 < (a2.length : Int))))<|mv (.bool (decide (5 < (a2.length : Int))))<|?_
      revert H119
      refine sp (fun hb H120=>?_) fun hb H122=>?_
      ·refine pa<|pa<|pT (.bool true)<|ag (.bool true)<|Jd<|Vj rfl<|Ja<|mv (.pointer (some ⟨pb0, 0, none⟩))<|?_
       obtain ⟨t46_2, h_t46_2, H121⟩ := Je H120; clear H120
       refine bo 1 2 rfl rfl<|bo 0 1 rfl rfl<|?_
       refine Qe (J4 (i := 0) (rds := []) (G := fun x : (Option Addr × Nat) × Nat => .tuple #[]) (C := fun x : (Option Addr × Nat) × Nat => Jt (Jf pb0 [str t46_2.s_, .bool t46_2.big_, .slice x.1.1 t46_2.parts_.length x.1.2, .map (some x.2), i6 t46_2.dirs_, (Qi t46_2.found_), i6 t46_2.no_] 195) (Jt (Jw 56 2 (.slice x.1.1 t46_2.parts_.length x.1.2) t46_2.parts_.length (t46_2.parts_.map Jg)) (Q0 (fun x_ : Int => i6 x_) (fun x_ : Bool => .bool x_) x.2 t46_2.seen_))) rfl (fun w L' S hF hS hi hp hlt ho hA => k170 hp hlt (Qr w S) hn0_2 h_t46_2) call170 rfl) rfl rfl rfl (fun ⟨p_24, p_25⟩ => ?_)
       refine ub 0 1 rfl rfl<|ub 1 2 rfl rfl<|Jd<|?_
       exact cl (t46_2.s_, t46_2.big_, t46_2.dirs_, t46_2.found_, t46_2.no_, t46_2.parts_, t46_2.seen_) (p_24, t46_2.parts_.length, p_25) 0 [0, 1, 2, 3] (by exact ⟨H121, rfl⟩)
      ·refine mv (i6 t21)<|lv (Yn rfl rfl)<|pF (.bool (decide (200 < t21)))<|ag (.bool (decide (200 < t21)))<|Jd<|?_
       revert H122
       refine ci (decide (200 < t21)) rfl (fun hb H123=>?_) fun hb H125=>?_
       ·try dsimp only [z1, z2, z5, z6, z7, z8]
        refine Ja<|mv (.pointer (some ⟨pb0, 0, none⟩))<|?_
        obtain ⟨t46_3, h_t46_3, H124⟩ := Je H123; clear H123
        refine bo 1 2 rfl rfl<|bo 0 1 rfl rfl<|?_
        refine Qe (J4 (i := 0) (rds := []) (G := fun x : (Option Addr × Nat) × Nat => .tuple #[]) (C := fun x : (Option Addr × Nat) × Nat => Jt (Jf pb0 [str t46_3.s_, .bool t46_3.big_, .slice x.1.1 t46_3.parts_.length x.1.2, .map (some x.2), i6 t46_3.dirs_, (Qi t46_3.found_), i6 t46_3.no_] 195) (Jt (Jw 56 2 (.slice x.1.1 t46_3.parts_.length x.1.2) t46_3.parts_.length (t46_3.parts_.map Jg)) (Q0 (fun x_ : Int => i6 x_) (fun x_ : Bool => .bool x_) x.2 t46_3.seen_))) rfl (fun w L' S hF hS hi hp hlt ho hA => k170 hp hlt (Qr w S) hn0_2 h_t46_3) call170 rfl) rfl rfl rfl (fun ⟨p_26, p_27⟩ => ?_)
        refine ub 0 1 rfl rfl<|ub 1 2 rfl rfl<|Jd<|?_
        exact cl (t46_3.s_, t46_3.big_, t46_3.dirs_, t46_3.found_, t46_3.no_, t46_3.parts_, t46_3.seen_) (p_26, t46_3.parts_.length, p_27) 0 [0, 1, 2, 3] (by exact ⟨H124, rfl⟩)
       ·refine Jc<|Ja<|mv (.pointer (some ⟨pb0, 0, none⟩))<|mv (i6 a1)<|mv (i6 t21)<|?_
        obtain ⟨t51, h_t51, H126⟩ := Je H125; clear H125
        refine lv (Wu rfl rfl h_t51) ?_
        obtain ⟨t52, h_t52, H127⟩ := Je H126; clear H126
        refine lv (J1 rfl rfl h_t52) ?_
        obtain ⟨t53, h_t53, H128⟩ := Je H127; clear H127
        refine lv (J1 rfl rfl h_t53) ?_
        obtain ⟨t54, h_t54, H129⟩ := Je H128; clear H128
        refine Qd (fun w hF hS => k169 (a0 := a0) (Jp w) (Ye (i := 1) hn0_2 hS rfl) (Xy (fk := (fun x_ : Int => i6 x_)) (fv := (fun x_ : Bool => .bool x_)) (i := 2) hS rfl) (Q3 (i := 0) hS rfl) h_t54) call169 rfl rfl rfl<|lv (Ja4 rfl)<|ag (.bool (!t54))<|Jd<|?_
        revert H129
        refine ci (!t54) rfl (fun hb H130=>?_) fun hb H132=>?_
        ·refine Ja<|mv (.pointer (some ⟨pb0, 0, none⟩))<|?_
         obtain ⟨t57, h_t57, H131⟩ := Je H130; clear H130
         refine bo 1 2 rfl rfl<|bo 0 1 rfl rfl<|?_
         refine Qe (J4 (i := 0) (rds := []) (G := fun x : (Option Addr × Nat) × Nat => .tuple #[]) (C := fun x : (Option Addr × Nat) × Nat => Jt (Jf pb0 [str t57.s_, .bool t57.big_, .slice x.1.1 t57.parts_.length x.1.2, .map (some x.2), i6 t57.dirs_, (Qi t57.found_), i6 t57.no_] 195) (Jt (Jw 56 2 (.slice x.1.1 t57.parts_.length x.1.2) t57.parts_.length (t57.parts_.map Jg)) (Q0 (fun x_ : Int => i6 x_) (fun x_ : Bool => .bool x_) x.2 t57.seen_))) rfl (fun w L' S hF hS hi hp hlt ho hA => k170 hp hlt (Qr w S) hn0_2 h_t57) call170 rfl) rfl rfl rfl (fun ⟨p_28, p_29⟩ => ?_)
         refine ub 0 1 rfl rfl<|ub 1 2 rfl rfl<|Jd<|?_
         exact cl (t57.s_, t57.big_, t57.dirs_, t57.found_, t57.no_, t57.parts_, t57.seen_) (p_28, t57.parts_.length, p_29) 0 [0, 1, 2, 3] (by exact ⟨H131, rfl⟩)
        ·refine Jk ?_
         exact cl (a0.s_, a0.big_, a0.dirs_, a0.found_, a0.no_, a0.parts_, a0.seen_) (p0_2, n0_2, m0_3) 0 [0, 1, 2, 3] (by exact ⟨H132, hn0_2⟩)
   ·rintro ⟨m, m_2, m_3, m_4, m_5, l, mp⟩ ⟨p_3, n, b⟩ gg H72 hl
    try dsimp only at H72
    try dsimp only
    refine Jc<|Jc<|Ja<|mv (.pointer (some ⟨pb0, 0, none⟩))<|lv (Jh rfl)<|lf runUnderlying195 rfl sizeOf28 rfl<|ll 0 (i6 m_5) isAgg28<|lv (Yt rfl rfl)<|Jd<|?_
    revert H72
    refine ci (decide (m_5 ≠ 0)) rfl (fun hb H73=>?_) fun hb H74=>?_
    ·refine Jc<|Ja<|ag (.slice none 0 0)<|ag (i6 0)<|Jd<|Jl<|Jm 83 6<|?_
     obtain rfl := sj H73
     refine bo 3 4 rfl rfl<|Qp 3 rfl (Qh (p := nn) rfl (AllC.nil (G := g_tag_Entry) (h := Qt) (sz := 6)))<|bo 2 3 rfl rfl<|bo 1 2 rfl rfl<|bo 0 1 rfl rfl<|?_
     refine Z7 (v1 := sl nn (([] : List (List Value)).length)) (v2 := i6 0) rfl rfl rfl (X7 (nn, p_3, b) (i := 0) rfl (by first | rfl | rw [(show (([] : List (List Value)).length) = ([] : List Ta).length from (AllC.nil (G := g_tag_Entry) (h := Qt) (sz := 6)).len), (show n = l.length from hl)]) (by first | exact Imp.refl _ | exact Imp.of (by rw [(show (([] : List (List Value)).length) = ([] : List Ta).length from (AllC.nil (G := g_tag_Entry) (h := Qt) (sz := 6)).len), (show n = l.length from hl)] <;> rfl)))
    ·refine Jk<|Jc<|?_
     try dsimp only [z1, z2, z5, z6, z7, z8]
     refine Ja<|mv (.pointer (some ⟨pb0, 0, none⟩))<|lv (Jh rfl)<|lf runUnderlying195 rfl sizeOf116 rfl<|ll 0 (.map (some b)) isAgg116<|mv (i6 a1)<|?_
     refine Jha (Je0 (u := true) (i := 2) (rds := []) (fk := (fun x_ : Int => i6 x_)) (fv := (fun x_ : Bool => .bool x_)) (k := a1) (v := true) Jhc (.inr rfl) underlying116 underlying3 rfl rfl rfl rfl) rfl rfl (fun _ => ?_)
     refine Jd<|Jc<|Ja<|mv (.pointer (some ⟨pb0, 0, none⟩))<|mv (.pointer (some ⟨pb0, 0, none⟩))<|lv (Jh rfl)<|lf runUnderlying195 rfl sizeOf48 rfl<|ll 0 (sl p_3 n) isAgg48<|mv (i6 a1)<|mv (i6 a1)<|?_
     obtain ⟨t75, h_t75, H75⟩ := Je H74; clear H74
     refine lv (J1 rfl rfl h_t75)<|mv (i6 t21)<|?_
     obtain ⟨t77, h_t77, H76⟩ := Je H75; clear H75
     refine lv (Wu rfl rfl h_t77) ?_
     obtain ⟨t78, h_t78, H77⟩ := Je H76; clear H76
     refine lv (J1 rfl rfl h_t78) ?_
     obtain ⟨t79, h_t79, H78⟩ := Je H77; clear H77
     refine lv (J1 rfl rfl h_t79)<|lv (Xv (pl := #[(0, 1), (1, 1)]) (ps := [(0, i6 a1), (1, i6 t79)]) (cells := #[i6 a1, i6 t79]) zeroValue56 runUnderlying56 (fun w => by kernel_rfl) rfl rfl)<|?_
     refine Qg (vs := [.agg #[i6 a1, i6 t79]]) (cs := [i6 a1, i6 t79]) underlying48 sizeOf56 zeroValue56 rfl rfl rfl rfl rfl rfl rfl (fun b2 => ?_)
     obtain ⟨l82, h_l82, H79⟩ := Je H78; clear H78
     refine Qe (Xp (i := 1) (hn := hl) (rds := [4]) (p := p_3) (sz := 2) (by_ := 16) (f := Jg) (ys := l) (ls := ([(⟨a1, t79⟩ : Td)] : List Td)) (V := .slice (some ⟨b2, 0, none⟩) 1 1) underlying48 (Q5 typeInfo56) rfl rfl rfl rfl rfl rfl rfl rfl rfl rfl (fun w L' hF hS hi => Wr (i := 4) hS ((hi 4 (by simp)).trans rfl) rfl rfl) (fun _ => rfl) (fun _ => rfl) h_l82) rfl rfl rfl (fun p_4 => ?_)
     refine lv (Jh rfl)<|lf runUnderlying195 rfl sizeOf48 rfl<|st (i := 0) [sl p_4 l82.length] [str m, .bool m_2, sl p_4 l82.length, .map (some b), i6 m_3, (Qi m_4), i6 m_5] sizeOf48 rfl rfl<|Jd<|Jc<|Ja<|mv (.pointer (some ⟨pb0, 0, none⟩))<|mv (i6 a1)<|?_
     obtain ⟨t87, h_t87, H80⟩ := Je H79; clear H79
     refine lv (J1 rfl rfl h_t87)<|mv (i6 t21)<|?_
     obtain ⟨t89, h_t89, H81⟩ := Je H80; clear H80
     refine lv (Wu rfl rfl h_t89) ?_
     obtain ⟨t90, h_t90, H82⟩ := Je H81; clear H81
     refine lv (J1 rfl rfl h_t90) ?_
     obtain ⟨t91, h_t91, H83⟩ := Je H82; clear H82
     refine Qd (fun w hF hS => k127 (a0 := (⟨m, m_2, l82, (Z5 mp a1 true), m_3, m_4, m_5⟩ : Tb)) (Jp w) (Ye (i := 1) rfl hS rfl) (Xy (fk := (fun x_ : Int => i6 x_)) (fv := (fun x_ : Bool => .bool x_)) (i := 2) hS rfl) (Q3 (i := 0) hS rfl) h_t91) call127 rfl rfl rfl<|ag (i6 t91)<|Jd<|?_
     refine Qj (r := r) (σ := (List UInt8) × Bool × Int × Nat × Int × (List Td) × (List (Int × Bool))) (τ := (Option Addr × Nat) × Nat) (fun s => W6 a1 a2 self t21 t91 s.1 s.2.1 s.2.2.1 s.2.2.2.1 s.2.2.2.2.1 s.2.2.2.2.2.1 s.2.2.2.2.2.2) (fun s t => [(0, .pointer (some ⟨pb0, 0, none⟩)), (1, i6 a1), (2, v2), (6, .slice none 0 0), (7, i6 t91), (9, i6 t21)]) (fun s t => [Jf pb0 [str s.1, .bool s.2.1, .slice t.1.1 s.2.2.2.2.2.1.length t.1.2, .map (some t.2), i6 s.2.2.1, (Qi s.2.2.2.1), i6 s.2.2.2.2.1] 195, Jw 56 2 (.slice t.1.1 s.2.2.2.2.2.1.length t.1.2) s.2.2.2.2.2.1.length (s.2.2.2.2.2.1.map Jg), Q0 (fun x_ : Int => i6 x_) (fun x_ : Bool => .bool x_) t.2 s.2.2.2.2.2.2, X8 Qt Qt]) (fun s t => True) ?_ ?_
     ·refine Jc<|Ja<|mv (i6 (a2.length : Int))<|lv (Yn rfl rfl)<|mv (.bool (decide (1 < (a2.length : Int))))<|?_
      revert H83
      refine sp (fun hb H109=>?_) fun hb H113=>?_
      ·refine mv (i6 t91)<|lv (Yt rfl rfl)<|pT (.bool (decide (t91 ≠ 0)))<|Jd<|?_
       revert H109
       refine ci (decide (t91 ≠ 0)) rfl (fun hb H110=>?_) fun hb H112=>?_
       ·refine Ja<|mv (.pointer (some ⟨pb0, 0, none⟩))<|?_
        obtain ⟨t99, h_t99, H111⟩ := Je H110; clear H110
        refine bo 1 2 rfl rfl<|bo 0 1 rfl rfl<|?_
        refine Qe (J4 (i := 0) (rds := []) (G := fun x : (Option Addr × Nat) × Nat => .tuple #[]) (C := fun x : (Option Addr × Nat) × Nat => Jt (Jf pb0 [str t99.s_, .bool t99.big_, .slice x.1.1 t99.parts_.length x.1.2, .map (some x.2), i6 t99.dirs_, (Qi t99.found_), i6 t99.no_] 195) (Jt (Jw 56 2 (.slice x.1.1 t99.parts_.length x.1.2) t99.parts_.length (t99.parts_.map Jg)) (Q0 (fun x_ : Int => i6 x_) (fun x_ : Bool => .bool x_) x.2 t99.seen_))) rfl (fun w L' S hF hS hi hp hlt ho hA => k170 (a0 := (⟨m, m_2, l82, (Z5 mp a1 true), m_3, m_4, m_5⟩ : Tb)) hp hlt (Qr w S) rfl h_t99) call170 rfl) rfl rfl rfl (fun ⟨p_18, p_19⟩ => ?_)
        refine ub 0 1 rfl rfl<|ub 1 2 rfl rfl<|Jd<|?_
        exact cl (t99.s_, t99.big_, t99.dirs_, t99.found_, t99.no_, t99.parts_, t99.seen_) (p_18, p_19) 0 [0, 1, 2, 3] (by exact ⟨H111, trivial⟩)
       ·refine Jk ?_
        exact cl (m, m_2, m_3, m_4, m_5, l82, (Z5 mp a1 true)) (p_4, b) 0 [0, 1, 2, 3] (by exact ⟨H112, trivial⟩)
      ·refine pa<|pa<|pF (.bool false)<|Jd<|Uh rfl<|Jk<|?_
       exact cl (m, m_2, m_3, m_4, m_5, l82, (Z5 mp a1 true)) (p_4, b) 0 [0, 1, 2, 3] (by exact ⟨H113, trivial⟩)
     ·rintro ⟨m_6, m_7, m_8, m_9, m_10, l_2, mp_2⟩ ⟨p_5, b_2⟩ gg H84 _
      try dsimp only at H84
      try dsimp only
      refine Qj (r := r) (σ := Int × (List UInt8) × Bool × Int × Nat × Int × (List Td) × (List (Int × Bool)) × (List Ta)) (τ := J3 × (Option Addr × Nat) × Nat × (List (List Value)) × (Option Addr × Nat)) (fun s => Jaj s.1 s.2.1 s.2.2.1 s.2.2.2.1 s.2.2.2.2.1 s.2.2.2.2.2.1 s.2.2.2.2.2.2.1 s.2.2.2.2.2.2.2.1 s.2.2.2.2.2.2.2.2) (fun s t => [(6, .slice t.2.2.2.2.1 t.2.2.2.1.length t.2.2.2.2.2), (7, i6 s.1)]) (fun s t => [Jf pb0 [str s.2.1, .bool s.2.2.1, .slice t.2.1.1 s.2.2.2.2.2.2.1.length t.2.1.2, .map (some t.2.2.1), i6 s.2.2.2.1, (Qi s.2.2.2.2.1), i6 s.2.2.2.2.2.1] 195, Jw 56 2 (.slice t.2.1.1 s.2.2.2.2.2.2.1.length t.2.1.2) s.2.2.2.2.2.2.1.length (s.2.2.2.2.2.2.1.map Jg), Q0 (fun x_ : Int => i6 x_) (fun x_ : Bool => .bool x_) t.2.2.1 s.2.2.2.2.2.2.2.1, X8 Qt t.1, Jw 83 6 (.slice t.2.2.2.2.1 t.2.2.2.1.length t.2.2.2.2.2) t.2.2.2.1.length (t.2.2.2.1.map idC)]) (fun s t => AllC g_tag_Entry t.1 6 t.2.2.2.1 s.2.2.2.2.2.2.2.2) ?_ ?_
      ·refine Jc<|Ja<|ag (i6 0)<|Jd<|Ju<|Jm 83 6<|?_
       refine Za (σ := Int × Int × Int × Int × (List UInt8) × Bool × Int × Nat × Int × (List Td) × (List (Int × Bool)) × (List Ta)) (τ := J3 × (Option Addr × Nat) × Nat × (List (List Value)) × (Option Addr × Nat)) (fun next4 s => Xe a2 self next4 s.1 s.2.1 s.2.2.1 s.2.2.2.1 s.2.2.2.2.1 s.2.2.2.2.2.1 s.2.2.2.2.2.2.1 s.2.2.2.2.2.2.2.1 s.2.2.2.2.2.2.2.2.1 s.2.2.2.2.2.2.2.2.2.1 s.2.2.2.2.2.2.2.2.2.2.1 s.2.2.2.2.2.2.2.2.2.2.2) (fun s t => [(0, .pointer (some ⟨pb0, 0, none⟩)), (1, i6 s.1), (2, v2), (6, .slice t.2.2.2.2.1 t.2.2.2.1.length t.2.2.2.2.2), (7, i6 s.2.1), (9, i6 s.2.2.1), (10, i6 s.2.2.2.1)]) (fun s t => [Jf pb0 [str s.2.2.2.2.1, .bool s.2.2.2.2.2.1, .slice t.2.1.1 s.2.2.2.2.2.2.2.2.2.1.length t.2.1.2, .map (some t.2.2.1), i6 s.2.2.2.2.2.2.1, (Qi s.2.2.2.2.2.2.2.1), i6 s.2.2.2.2.2.2.2.2.1] 195, Jw 56 2 (.slice t.2.1.1 s.2.2.2.2.2.2.2.2.2.1.length t.2.1.2) s.2.2.2.2.2.2.2.2.2.1.length (s.2.2.2.2.2.2.2.2.2.1.map Jg), Q0 (fun x_ : Int => i6 x_) (fun x_ : Bool => .bool x_) t.2.2.1 s.2.2.2.2.2.2.2.2.2.2.1, X8 Qt t.1, Jw 83 6 (.slice t.2.2.2.2.1 t.2.2.2.1.length t.2.2.2.2.2) t.2.2.2.1.length (t.2.2.2.1.map idC)]) (fun s t => AllC g_tag_Entry t.1 6 t.2.2.2.1 s.2.2.2.2.2.2.2.2.2.2.2) (a1, t91, t21, 0, m_6, m_7, m_8, m_9, m_10, l_2, mp_2, ([] : List Ta)) (Qt, p_5, b_2, ([] : List (List Value)), nn) [0, 1, 2, 3, 4] H84 (by exact (AllC.nil (G := g_tag_Entry) (h := Qt) (sz := 6))) (by exact ⟨rfl, rfl, rfl, rfl, rfl, rfl, rfl, trivial⟩) (by decide) rfl ?_
       rintro ⟨x1_2, x7_3, x9_2, x10_2, m_21, m_22, m_23, m_24, m_25, l_7, mp_5, l_8⟩ ⟨hp_2, p_8, b_4, css_2, p_9⟩ m4 gg H86 pf_3
       clear H84
       try dsimp only at H86
       generalize hn4 : it (fun next4 s => Xe a2 self next4 s.1 s.2.1 s.2.2.1 s.2.2.2.1 s.2.2.2.2.1 s.2.2.2.2.2.1 s.2.2.2.2.2.2.1 s.2.2.2.2.2.2.2.1 s.2.2.2.2.2.2.2.2.1 s.2.2.2.2.2.2.2.2.2.1 s.2.2.2.2.2.2.2.2.2.2.1 s.2.2.2.2.2.2.2.2.2.2.2) m4 = next4 at H86
       try dsimp only
       refine Jc<|Jc<|?_
       try dsimp only [z1, z2, z5, z6, z7, z8]
       refine Ja<|mv (i6 x10_2)<|mv (i6 x9_2)<|lv (Xz rfl rfl)<|mv (.bool (decide (x10_2 < x9_2)))<|?_
       revert H86
       refine sp (fun hb H87=>?_) fun hb H108=>?_
       ·refine mv (.pointer (some ⟨pb0, 0, none⟩))<|lv (Jh rfl)<|lf runUnderlying195 rfl sizeOf28 rfl<|ll 0 (i6 m_25) isAgg28<|lv (Ql rfl rfl)<|pT (.bool (decide (m_25 = 0)))<|Jd<|?_
        try dsimp only [z1, z2, z5, z6, z7, z8]
        revert H87
        refine ci (decide (m_25 = 0)) rfl (fun hb H88=>?_) fun hb H107=>?_
        ·refine Jk<|Jc<|Ju<|?_
         refine Qj (r := r) (σ := Unit) (τ := Unit) (fun s => Vm a2 self x1_2 x7_3 x9_2 x10_2 m_21 m_22 m_23 m_24 m_25 l_7 mp_5 l_8 next4) (fun s t => [(0, .pointer (some ⟨pb0, 0, none⟩)), (1, i6 x1_2), (2, v2), (6, sl p_9 css_2.length), (7, i6 x7_3), (9, i6 x9_2), (10, i6 x10_2), (104, .pointer (some ⟨pb0, 0, none⟩)), (105, .pointer (some ⟨pb0, 0, none⟩)), (106, .pointer (some ⟨pb0, 6, none⟩)), (107, i6 m_25), (108, .bool (decide (m_25 = 0)))]) (fun s t => [Jf pb0 [str m_21, .bool m_22, sl p_8 l_7.length, .map (some b_4), i6 m_23, (Qi m_24), i6 m_25] 195, Jw 56 2 (sl p_8 l_7.length) l_7.length (l_7.map Jg), Q0 (fun x_ : Int => i6 x_) (fun x_ : Bool => .bool x_) b_4 mp_5, X8 Qt hp_2, Jw 83 6 (sl p_9 css_2.length) css_2.length (css_2.map idC)]) (fun s t => True) ?_ ?_
         ·refine Jc ?_
          exact Qx (Kd.p :: Kd.p :: Kd.p :: Kd.p :: Kd.p :: Kd.p :: Kd.p :: Kd.p :: Kd.p :: Kd.d [3, 0, 1, 2] _ :: Kd.p :: Kd.p :: Kd.p :: Kd.d [4] _ :: Kd.d [4] _ :: Kd.d [4] _ :: Kd.p :: Kd.p :: []) 0 mixed (by
           refine dm (i6 x10_2)<|dv (Yn rfl rfl)<|dm (.bool (decide (0 < x10_2)))<|?_
           refine Jdv (fun hb => ?_) (fun hb => ?_)
           ·have H96 := Jec hb H88
            refine dm (.pointer (some ⟨pb0, 0, none⟩))<|dm (i6 x1_2)<|?_
            have h_t117 := Jy H96
            have H97 := Jq H96
            refine dv (J1 rfl rfl h_t117)<|dm (i6 x10_2)<|?_
            have h_t119 := Jy H97
            have H98 := Jq H97
            refine dv (Wu rfl rfl h_t119) ?_
            have h_t120 := Jy H98
            have H99 := Jq H98
            refine dv (J1 rfl rfl h_t120) ?_
            have h_t121 := Jy H99
            have H100 := Jq H99
            refine Jd5 (fun w L' hF hS hi => k127 (a0 := (⟨m_21, m_22, l_7, mp_5, m_23, m_24, m_25⟩ : Tb)) (Jp w) (Ye (i := 1) rfl hS ((hi 1 (by simp)).trans rfl)) (Xy (fk := (fun x_ : Int => i6 x_)) (fv := (fun x_ : Bool => .bool x_)) (i := 2) hS ((hi 2 (by simp)).trans rfl)) (Q3 (i := 0) hS ((hi 0 (by simp)).trans rfl)) h_t121) call127 rfl rfl<|dm (sl p_9 css_2.length)<|dm (i6 x10_2)<|?_
            have h_t124 := Jy H100
            have H101 := Jq H100
            refine dv (Zf rfl rfl h_t124) ?_
            have h_t125 := Jy H101
            have H102 := Jq H101
            refine Jah (fun w L' hF hS hi => Ue underlying36 sizeOf83 rfl rfl (Wt (i := 4) (E := 83) (sz := 6) (n := css_2.length) (a := p_9.1) (c := p_9.2) hS ((hi 4 (by simp)).trans rfl)) rfl (pf_3.ix h_t125)) rfl rfl<|Jif rfl rfl (fun w L' hF hS hi => Jey runUnderlying83 rfl sizeOf3 rfl rfl (Wt (i := 4) (E := 83) (sz := 6) (n := css_2.length) (a := p_9.1) (c := p_9.2) hS ((hi 4 (by simp)).trans rfl)) (pf_3.ix h_t125))<|Jah (fun w L' hF hS hi => Xo (f := idC) (i := (val (gI (x10_2 - 1)))) (sz := 6) (j := 0) (v := i6 (val (Zu l_8 (val (gI (x10_2 - 1))))).Tag) isAgg3 rfl rfl (Wt (i := 4) (E := 83) (sz := 6) (n := css_2.length) (a := p_9.1) (c := p_9.2) hS ((hi 4 (by simp)).trans rfl)) (pf_3.ix h_t125) (Jei ((pf_3.eta h_t125).trans (Zi (pf_3.at h_t125))) rfl)) rfl rfl<|dv (Jfo rfl rfl)<|dv (Wq (v := .bool (decide ((val (Jo (⟨m_21, m_22, l_7, mp_5, m_23, m_24, m_25⟩ : Tb) (val (gI ((val (gI (x1_2 + 2))) + (val (gI (12 * x10_2)))))) 2)) ≤ (val (Zu l_8 (val (gI (x10_2 - 1))))).Tag))) rfl rfl)<|Yw<|?_
            try dsimp only [z1, z2, z5, z6, z7, z8]
            revert H102
            refine ci (decide ((val (Jo (⟨m_21, m_22, l_7, mp_5, m_23, m_24, m_25⟩ : Tb) (val (gI ((val (gI (x1_2 + 2))) + (val (gI (12 * x10_2)))))) 2)) ≤ (val (Zu l_8 (val (gI (x10_2 - 1))))).Tag)) rfl (fun hb H103=>?_) fun hb H105=>?_
            ·refine Jc<|Ja<|mv (.pointer (some ⟨pb0, 0, none⟩))<|?_
             obtain ⟨t131, h_t131, H104⟩ := Je H103; clear H103
             refine bo 1 2 rfl rfl<|bo 0 1 rfl rfl<|?_
             refine Qe (J4 (i := 0) (rds := []) (G := fun x : (Option Addr × Nat) × Nat => .tuple #[]) (C := fun x : (Option Addr × Nat) × Nat => Jt (Jf pb0 [str t131.s_, .bool t131.big_, .slice x.1.1 t131.parts_.length x.1.2, .map (some x.2), i6 t131.dirs_, (Qi t131.found_), i6 t131.no_] 195) (Jt (Jw 56 2 (.slice x.1.1 t131.parts_.length x.1.2) t131.parts_.length (t131.parts_.map Jg)) (Q0 (fun x_ : Int => i6 x_) (fun x_ : Bool => .bool x_) x.2 t131.seen_))) rfl (fun w L' S hF hS hi hp hlt ho hA => k170 (a0 := (⟨m_21, m_22, l_7, mp_5, m_23, m_24, m_25⟩ : Tb)) hp hlt (Qr w S) rfl h_t131) call170 rfl) rfl rfl rfl (fun ⟨p_16, p_17⟩ => ?_)
             refine ub 0 1 rfl rfl<|ub 1 2 rfl rfl<|Jd<|?_
             try dsimp only [z1, z2, z5, z6, z7, z8]
             refine Xa ?_
             exact cl (x7_3, t131.s_, t131.big_, t131.dirs_, t131.found_, t131.no_, t131.parts_, t131.seen_, l_8) (hp_2, p_16, p_17, css_2, p_9) 0 [0, 1, 2, 3, 4] (by exact ⟨H104, pf_3⟩)
            ·refine Jk ?_
             exact cl () () 0 [0, 1, 2, 3, 4] (by exact ⟨H105, trivial⟩)
           ·have H106 := Jed hb H88
            refine dp<|dp<|dp<|dp<|dp<|dp<|dp<|dp<|dp<|dp<|dp<|dp<|dp<|dp<|dv (Jbk (v := .bool false) rfl rfl)<|Yw<|?_
            try dsimp only [z1, z2, z5, z6, z7, z8]
            refine Uh rfl<|Jk<|?_
            exact cl () () 0 [0, 1, 2, 3, 4] (by exact ⟨H106, trivial⟩)
           ) (by kernel_rfl)
         ·rintro _ _ gg H89 _
          try dsimp only at H89
          try dsimp only
          refine Ja<|mv (sl p_9 css_2.length)<|mv (.pointer (some ⟨pb0, 0, none⟩))<|mv (i6 x1_2)<|?_
          obtain ⟨t135, h_t135, H90⟩ := Je H89; clear H89
          refine lv (J1 rfl rfl h_t135)<|mv (i6 x10_2)<|?_
          obtain ⟨t137, h_t137, H91⟩ := Je H90; clear H90
          refine lv (Wu rfl rfl h_t137) ?_
          obtain ⟨t138, h_t138, H92⟩ := Je H91; clear H91
          refine lv (J1 rfl rfl h_t138)<|mv v2<|?_
          obtain ⟨t140, h_t140, H93⟩ := Je H92; clear H92
          refine bo 1 2 rfl rfl<|bo 0 1 rfl rfl<|?_
          refine Qe (J4 (i := 0) (rds := []) (G := fun x : (Option Addr × Nat) × (Option Addr × Nat) × (Option Addr × Nat) × (Option Addr × Nat) × Nat => .agg #[i6 t140.1.Tag, i6 t140.1.Value.Kind, str t140.1.Value.Text, .slice x.1.1 t140.1.Value.Ints.length x.1.2, .slice x.2.1.1 t140.1.Value.Ratios.length x.2.1.2, .slice x.2.2.1.1 t140.1.Value.Entries.length x.2.2.1.2]) (C := fun x : (Option Addr × Nat) × (Option Addr × Nat) × (Option Addr × Nat) × (Option Addr × Nat) × Nat => Jt (Jf pb0 [str t140.2.s_, .bool t140.2.big_, .slice x.2.2.2.1.1 t140.2.parts_.length x.2.2.2.1.2, .map (some x.2.2.2.2), i6 t140.2.dirs_, (Qi t140.2.found_), i6 t140.2.no_] 195) (Jt (Jw 56 2 (.slice x.2.2.2.1.1 t140.2.parts_.length x.2.2.2.1.2) t140.2.parts_.length (t140.2.parts_.map Jg)) (Jt (Q0 (fun x_ : Int => i6 x_) (fun x_ : Bool => .bool x_) x.2.2.2.2 t140.2.seen_) (Jt (Jw 3 1 (.slice x.1.1 t140.1.Value.Ints.length x.1.2) t140.1.Value.Ints.length (t140.1.Value.Ints.map Q1)) (Jt (Jw 74 2 (.slice x.2.1.1 t140.1.Value.Ratios.length x.2.1.2) t140.1.Value.Ratios.length (t140.1.Value.Ratios.map Jn)) (Wp 83 6 g_tag_Entry (.slice x.2.2.1.1 t140.1.Value.Entries.length x.2.2.1.2) t140.1.Value.Entries.length t140.1.Value.Entries)))))) rfl (fun w L' S hF hS hi hp hlt ho hA => k171_b ih (a0 := (⟨m_21, m_22, l_7, mp_5, m_23, m_24, m_25⟩ : Tb)) hp hlt (Qr w S) rfl (f2.mono (hw.but hF ho)) h_t140) call171 rfl) rfl rfl rfl (fun ⟨p_10, p_11, p_12, p_13, p_14⟩ => ?_)
          refine ub 0 1 rfl rfl<|ub 1 2 rfl rfl<|Qv 2 rfl<|Qv 5 rfl<|Qv 6 rfl<|?_
          refine Qg (vs := [.agg #[i6 t140.1.Tag, i6 t140.1.Value.Kind, str t140.1.Value.Text, sl p_10 t140.1.Value.Ints.length, sl p_11 t140.1.Value.Ratios.length, sl p_12 t140.1.Value.Entries.length]]) (cs := [i6 t140.1.Tag, i6 t140.1.Value.Kind, str t140.1.Value.Text, sl p_10 t140.1.Value.Ints.length, sl p_11 t140.1.Value.Ratios.length, sl p_12 t140.1.Value.Entries.length]) underlying36 sizeOf83 zeroValue83 rfl rfl rfl rfl rfl rfl rfl (fun b3 => ?_)
          try dsimp only [z1, z2, z5, z6, z7, z8]
          refine Jb1 (Φ := fun H_ => FrS H_ 1 (sl p_10 t140.1.Value.Ints.length) (t140.1.Value.Ints.map Q1)) 3 5 rfl rfl (by decide) (fun _ _ => Zn) (Jfe _) (fun hp_3 hle hf => ?_)
          try dsimp only [z1, z2, z5, z6, z7, z8]
          refine Jb1 (Φ := fun H_ => FrS H_ 2 (sl p_11 t140.1.Value.Ratios.length) (t140.1.Value.Ratios.map Jn)) 3 6 rfl rfl (by decide) (fun _ _ => Zn) (Jfe _) (fun hp_4 hle_2 hf_2 => ?_)
          refine Jcd 7 rfl (fun hp_5 css_3 hn pf_4 => ?_)
          rw [hn]
          try dsimp only [z1, z2, z5, z6, z7, z8]
          refine Qv 7 rfl ?_
          try dsimp only [z1, z2, z5, z6, z7, z8]
          refine Zm 3 7 rfl rfl (by decide) (fun _ _ => Zn) (fun hp_6 hle_3 hle_4 => ?_)
          try dsimp only [z1, z2, z5, z6, z7, z8]
          refine Jb1 (Φ := fun H_ => FrS H_ 6 (sl p_12 css_3.length) (css_3.map idC)) 3 9 rfl rfl (by decide) (fun _ _ => Zn) (Jfe _) (fun hp_7 hle_5 hf_3 => ?_)
          obtain ⟨l142, h_l142, H94⟩ := Je H93; clear H93
          refine Qe (V5 (i := 4) (k := 8) (p := p_9) (f := idC) (ys := css_2) (ls := [[i6 t140.1.Tag, i6 t140.1.Value.Kind, str t140.1.Value.Text, sl p_10 t140.1.Value.Ints.length, sl p_11 t140.1.Value.Ratios.length, sl p_12 css_3.length]]) underlying36 (Q5 typeInfo83) rfl rfl rfl rfl rfl rfl rfl rfl rfl rfl rfl rfl rfl rfl (by simp only [idC, List.map_cons, List.map_nil, List.all_cons, List.all_nil, (((hf.mono hle_2).mono hle_3).mono hle_5).one, ((hf_2.mono hle_3).mono hle_5).one, (Jag (xs := t140.1.Value.Entries) hf_3 ((pf_4.mono hle_4).mono hle_5)).one] <;> rfl) (app63 (((((pf_3.mono hle).mono hle_2).mono hle_3).mono hle_5).app h_l142 (nc := [[i6 t140.1.Tag, i6 t140.1.Value.Kind, str t140.1.Value.Text, sl p_10 t140.1.Value.Ints.length, sl p_11 t140.1.Value.Ratios.length, sl p_12 css_3.length]]) rfl)) rfl) rfl rfl rfl (fun p_15 => ?_)
          have pf_5 : AllC g_tag_Entry hp_7 6 (css_2 ++ [[i6 t140.1.Tag, i6 t140.1.Value.Kind, str t140.1.Value.Text, sl p_10 t140.1.Value.Ints.length, sl p_11 t140.1.Value.Ratios.length, sl p_12 css_3.length]]) l142 := AllC.snocG ((((pf_3.mono hle).mono hle_2).mono hle_3).mono hle_5) h_l142 rfl ((g_tag_Entry_iff.2 ⟨rfl, ⟨rfl, rfl, (((hf.mono hle_2).mono hle_3).mono hle_5), ((hf_2.mono hle_3).mono hle_5), (Jag (xs := t140.1.Value.Entries) hf_3 ((pf_4.mono hle_4).mono hle_5))⟩⟩))
          refine ag (sl p_15 ((css_2 ++ [[i6 t140.1.Tag, i6 t140.1.Value.Kind, str t140.1.Value.Text, .slice p_10.1 t140.1.Value.Ints.length p_10.2, .slice p_11.1 t140.1.Value.Ratios.length p_11.2, .slice p_12.1 css_3.length p_12.2]]).length))<|Jd<|?_
          try dsimp only [z1, z2, z5, z6, z7, z8]
          refine Ja<|mv (i6 x10_2)<|?_
          obtain ⟨t111, h_t111, H95⟩ := Je H94; clear H94
          refine lv (J1 rfl rfl h_t111)<|ag (i6 t111)<|Jd<|?_
          try dsimp only [z1, z2, z5, z6, z7, z8]
          exact cl (x1_2, x7_3, x9_2, t111, t140.2.s_, t140.2.big_, t140.2.dirs_, t140.2.found_, t140.2.no_, t140.2.parts_, t140.2.seen_, l142) (hp_7, p_13, p_14, (css_2 ++ [[i6 t140.1.Tag, i6 t140.1.Value.Kind, str t140.1.Value.Text, sl p_10 t140.1.Value.Ints.length, sl p_11 t140.1.Value.Ratios.length, sl p_12 css_3.length]]), p_15) m4 [0, 1, 2, 3, 4] (by exact ⟨(by subst hn4; exact H95), pf_5⟩)
        ·refine Xa ?_
         exact cl (x7_3, m_21, m_22, m_23, m_24, m_25, l_7, mp_5, l_8) (hp_2, p_8, b_4, css_2, p_9) 0 [0, 1, 2, 3, 4] (by exact ⟨H107, pf_3⟩)
       ·refine pa<|pa<|pa<|pa<|pa<|pF (.bool false)<|Jd<|?_
        try dsimp only [z1, z2, z5, z6, z7, z8]
        refine Uh rfl<|Xa<|?_
        exact cl (x7_3, m_21, m_22, m_23, m_24, m_25, l_7, mp_5, l_8) (hp_2, p_8, b_4, css_2, p_9) 0 [0, 1, 2, 3, 4] (by exact ⟨H108, pf_3⟩)
      ·rintro ⟨x7, m_11, m_12, m_13, m_14, m_15, l_3, mp_3, l_4⟩ ⟨hp, p_6, b_3, css, p_7⟩ gg H85 pf
       try dsimp only at H85
       try dsimp only
       refine Jc<|Ja<|mv (sl p_7 css.length)<|mv (i6 x7)<|ag (sl p_7 css.length)<|ag (i6 x7)<|Jd<|?_
       try dsimp only [z1, z2, z5, z6, z7, z8]
       refine Jl ?_
       obtain rfl := sj H85
       refine bo 3 4 rfl rfl<|Qp 3 rfl (Qh (p := p_7) rfl pf)<|bo 2 3 rfl rfl<|bo 1 2 rfl rfl<|bo 0 1 rfl rfl<|?_
       refine Z7 (v1 := sl p_7 css.length) (v2 := i6 x7) rfl rfl rfl (X7 (p_7, p_6, b_3) (i := 0) rfl (by first | rfl | rw [(show css.length = l_4.length from pf.len)]) (by first | exact Imp.refl _ | exact Imp.of (by rw [(show css.length = l_4.length from pf.len)] <;> rfl)))
theorem k128 {a0 : Tb} {pb0 : Nat} {p0_2 : Option Addr × Nat} {n0_2 : Nat} {m0_3 : Nat} {a1 : Int} {a2 : (List Int)} {v2 : Value} {r : (List Ta) × Int × Tb} {w : World} {h : J3} {S : Nat → Prop} (hcs : (Jt (Jf pb0 [str a0.s_, .bool a0.big_, sl p0_2 n0_2, .map (some m0_3), i6 a0.dirs_, (Qi a0.found_), i6 a0.no_] 195) (Jt (Jw 56 2 (sl p0_2 n0_2) n0_2 (a0.parts_.map Jg)) (Q0 (fun x_ : Int => i6 x_) (fun x_ : Bool => .bool x_) m0_3 a0.seen_))).P S w) (hlt : ∀ b, S b → b < w.heap.size) (hw : Know h w S) (hn0_2 : n0_2 = a0.parts_.length) (f2 : FrS h 1 v2 (a2.map Q1)) (H : Wh a0 a1 a2 = some r) : Does prog 128 (List.toArray [.pointer (some ⟨pb0, 0, none⟩), i6 a1, v2]) w (fun v w' => ∃ x : (Option Addr × Nat) × (Option Addr × Nat) × Nat, v = (.tuple #[.slice x.1.1 r.1.length x.1.2, i6 r.2.1]) ∧ Turn w w' S (Jt (Jf pb0 [str r.2.2.s_, .bool r.2.2.big_, .slice x.2.1.1 r.2.2.parts_.length x.2.1.2, .map (some x.2.2), i6 r.2.2.dirs_, (Qi r.2.2.found_), i6 r.2.2.no_] 195) (Jt (Jw 56 2 (.slice x.2.1.1 r.2.2.parts_.length x.2.1.2) r.2.2.parts_.length (r.2.2.parts_.map Jg)) (Jt (Q0 (fun x_ : Int => i6 x_) (fun x_ : Bool => .bool x_) x.2.2 r.2.2.seen_) (Wp 83 6 g_tag_Entry (.slice x.1.1 r.1.length x.1.2) r.1.length r.1))))) := by
 obtain ⟨mm, hm⟩ := Je1 (show Zs (fun (self : (Tb × Int × (List Int)) → Option ((List Ta) × Int × Tb)) (s : Tb × Int × (List Int)) => J7 self s.1 s.2.1 s.2.2) (a0, a1, a2) = some r from H)
 exact k128_it mm hcs hlt hw hn0_2 f2 hm
theorem k129_130 {a0 : (List Td)} {p0 : Option Addr × Nat} {n0 : Nat} {r : (List Td)} {w : World} {h : J3} {S : Nat → Prop} (hcs : (Jw 56 2 (sl p0 n0) n0 (a0.map Jg)).P S w) (hlt : ∀ b, S b → b < w.heap.size) (_ : Know h w S) (hn0 : n0 = a0.length) (H : Jgb a0 Qf = some r) : Does prog 129 (List.toArray [sl p0 n0, .func (.func 130) #[] #[]]) w (fun v w' => ∃ x : Unit, v = (.tuple #[]) ∧ Turn w w' S (Jw 56 2 (sl p0 n0) n0 (r.map Jg))) :=
  sort_func (ρ := Go.Proofs.Tryz.sortFP_ren) Go.Proofs.Tryz.sortFP (k := 2) (fun w => isAgg56 w) (fun w => sizeOf56 w) Jg (fun _ => rfl) (fun x v hv => by simp [Jg] at hv; rcases hv with rfl | rfl <;> rfl) Go.Proofs.Tryz.entersP (fun x y v W hv => Go.Proofs.Tryz.cmpP x y v W hv) hcs hlt hn0 H
theorem k129_135 {a0 : (List Td)} {p0 : Option Addr × Nat} {n0 : Nat} {Rq : Type} {kq : (List Td) → Option Rq} {r : Rq} {w : World} {h : J3} {S : Nat → Prop} (hcs : (Jw 56 2 (sl p0 n0) n0 (a0.map Jg)).P S w) (hlt : ∀ b, S b → b < w.heap.size) (_ : Know h w S) (hn0 : n0 = a0.length) (H : Jgj a0 Ze kq = some r) : Does prog 129 (List.toArray [sl p0 n0, .func (.func 135) #[] #[]]) w (fun v w' => ∃ (r_ : _) (x : Unit), kq r_ = some r ∧ v = (.tuple #[]) ∧ Turn w w' S (Jw 56 2 (sl p0 n0) n0 (r_.map Jg))) :=
  sort_funcA (ρ := Go.Proofs.Tryz.sortFP_ren) Go.Proofs.Tryz.sortFP (k := 2) (fun w => isAgg56 w) (fun w => sizeOf56 w) Jg (fun _ => rfl) (fun x v hv => by simp [Jg] at hv; rcases hv with rfl | rfl <;> rfl) Go.Proofs.Tryz.entersA (fun x y v W hv => Go.Proofs.Tryz.cmpA x y v W hv) hcs hlt hn0 H
theorem k131 {a0 : (List Td)} {v0 : Value} {r : Bool} {w : World} {h : J3} (hw : Know h w Zo) (f0 : FrS h 2 v0 (a0.map Jg)) (H : Jd6 a0 = some r) : Does prog 131 (List.toArray [v0]) w (fun v w' => v = (.bool r) ∧ Grow w w') := by
 refine enter (n := 22) func131 rfl rfl rfl Zo [] (Sat.nil _ _)<|Jc<|Ja<|ag (.bool false)<|Jd<|Jc<|Jc<|Ja<|ag (i6 1)<|Jd<|Ju<|?_
 refine Za (σ := Int) (τ := Unit) (fun next1 s => Vh a0 next1 s) (fun s t => [(0, v0), (3, i6 s)]) (fun s t => []) (fun s t => True) 1 () [] H (by exact trivial) (by exact ⟨rfl, rfl, trivial⟩) (by decide) rfl ?_
 rintro x3_2 _ m1 gg H10 _
 clear H
 try dsimp only at H10
 generalize hn1 : it (fun next1 s => Vh a0 next1 s) m1 = next1 at H10
 try dsimp only
 refine Jc<|Jc<|Ja<|mv (i6 x3_2)<|mv v0<|lv (Vy underlying48 rfl f0 rfl)<|lv (Xz rfl rfl)<|Jd<|?_
 revert H10
 refine ci (decide (x3_2 < (a0.length : Int))) rfl (fun hb H11=>?_) fun hb H18=>?_
 ·refine Jk<|Jc<|Ju<|Jc<|?_
  exact Qx (Kd.p :: Kd.p :: Kd.p :: Kd.p :: Kd.d [] _ :: Kd.p :: Kd.p :: Kd.p :: Kd.p :: Kd.p :: Kd.d [] _ :: Kd.p :: []) 0 mixed (by
   refine dm v0<|dm (i6 x3_2)<|?_
   have h_t12 := Jy H11
   have H12 := Jq H11
   refine dv (Xc underlying48 sizeOf56 rfl rfl f0 h_t12)<|dv (Jdl runUnderlying56 rfl sizeOf3 rfl rfl (Jer f0 h_t12))<|Jcy (fun w hF => Xo (f := Jg) (i := x3_2) (sz := 2) (j := 0) (v := i6 (val (Zu a0 x3_2)).From) isAgg3 rfl rfl (f0.row (hw.now hF)) h_t12 rfl) rfl rfl<|dm v0<|dm (i6 x3_2)<|?_
   have h_t17 := Jy H12
   have H13 := Jq H12
   refine dv (Zf rfl rfl h_t17) ?_
   have h_t18 := Jy H13
   have H14 := Jq H13
   refine dv (Xc underlying48 sizeOf56 rfl rfl f0 h_t18)<|dv (Jdl runUnderlying56 rfl sizeOf3 rfl rfl (Jer f0 h_t18))<|Jcy (fun w hF => Xo (f := Jg) (i := (val (gI (x3_2 - 1)))) (sz := 2) (j := 1) (v := i6 (val (Zu a0 (val (gI (x3_2 - 1))))).To) isAgg3 rfl rfl (f0.row (hw.now hF)) h_t18 rfl) rfl rfl<|dv (Xz rfl rfl)<|Yw<|?_
   revert H14
   refine ci (decide ((val (Zu a0 x3_2)).From < (val (Zu a0 (val (gI (x3_2 - 1))))).To)) rfl (fun hb H15=>?_) fun hb H16=>?_
   ·refine Jc<|Ja<|ag (.bool true)<|Jd<|Jl<|?_
    obtain rfl := sj H15
    exact r1 (.bool true)
   ·refine Jk<|Ja<|mv (i6 x3_2)<|?_
    obtain ⟨t9, h_t9, H17⟩ := Je H16; clear H16
    refine lv (J1 rfl rfl h_t9)<|ag (i6 t9)<|Jd<|?_
    exact cl t9 () m1 [] (by exact ⟨(by subst hn1; exact H17), trivial⟩)
   ) (by kernel_rfl)
 ·refine Xa<|Jc<|Ja<|ag (.bool false)<|Jd<|Jl<|?_
  obtain rfl := sj H18
  exact r1 (.bool false)
theorem k63 {a0 : (List UInt8)} {a1 : Nat} {r : Tf × (List Td) × Int} {w : World} {h : J3} (hw : Know h w Zo) (H : Jcu a0 a1 = some r) : Does prog 63 (List.toArray [str a0, (Qi a1)]) w (fun v w' => ∃ x : (Option Addr × Nat) × (Option Addr × Nat), v = (.tuple #[.agg #[.bool r.1.Big, .slice x.1.1 r.1.Dirs.length x.1.2], .slice x.2.1 r.2.1.length x.2.2, i6 r.2.2]) ∧ Turn w w' Zo (Jt (Wp 36 1 gs_tag_Entry (.slice x.1.1 r.1.Dirs.length x.1.2) r.1.Dirs.length r.1.Dirs) (Jw 56 2 (.slice x.2.1 r.2.1.length x.2.2) r.2.1.length (r.2.1.map Jg)))) := by
 refine enter (n := 113) func63 rfl rfl rfl Zo [] (Sat.nil _ _)<|Yg Qt<|Jc<|Ja<|?_
 refine X1 (cs := [.bool false, .slice none 0 0]) zeroValue24 rfl rfl rfl (fun b6 => ?_)
 refine ag (.slice none 0 0)<|ag (i6 0)<|Jd<|Jc<|Jc<|Ja<|mv (str a0)<|lv (Xn underlying9 rfl)<|lv (Yn rfl rfl)<|Jd<|?_
 revert H
 refine ci (decide (65000 < (a0.length : Int))) rfl (fun hb H30=>?_) fun hb H31=>?_
 ·refine Jc<|Ja<|lv (Xv (pl := #[(0, 1), (1, 1)]) (ps := []) (cells := #[.bool false, .slice none 0 0]) zeroValue24 runUnderlying24 (fun w => by kernel_rfl) rfl rfl)<|st (i := 1) [.bool false, .slice none 0 0] [.bool false, .slice none 0 0] sizeOf24 rfl rfl<|ag (.slice none 0 0)<|ag (i6 4)<|Jd<|Jl<|Jm 36 1<|Jm 56 2<|?_
  obtain rfl := sj H30
  refine bo 0 2 rfl rfl<|Qp 0 rfl (Qh (p := nn) rfl (AllC.nil (G := gs_tag_Entry) (h := Qt) (sz := 1)))<|bo 0 3 rfl rfl<|?_
  refine retCtt (i := 1) (vs := [.bool false, sl nn (([] : List (List Value)).length)]) (v2 := sl nn ([] : List Td).length) (v3 := i6 4) isAgg24 sizeOf24 rfl rfl rfl rfl rfl rfl (X7 (nn, nn) (i := 0) rfl (by first | rfl | rw [(show (([] : List (List Value)).length) = ([] : List (List Ta)).length from (AllC.nil (G := gs_tag_Entry) (h := Qt) (sz := 1)).len)]) (by first | exact Imp.refl _ | exact Imp.of (by rw [(show (([] : List (List Value)).length) = ([] : List (List Ta)).length from (AllC.nil (G := gs_tag_Entry) (h := Qt) (sz := 1)).len)] <;> rfl)))
 ·refine Jk<|Jc<|Jc<|Ja<|mv (str a0)<|?_
  obtain ⟨t17, h_t17, H32⟩ := Je H31; clear H31
  refine Yy (k126 h_t17) call126 rfl rfl rfl<|lv (Ja4 rfl)<|Jd<|?_
  revert H32
  refine ci (!t17) rfl (fun hb H33=>?_) fun hb H34=>?_
  ·refine Jc<|Ja<|lv (Xv (pl := #[(0, 1), (1, 1)]) (ps := []) (cells := #[.bool false, .slice none 0 0]) zeroValue24 runUnderlying24 (fun w => by kernel_rfl) rfl rfl)<|st (i := 1) [.bool false, .slice none 0 0] [.bool false, .slice none 0 0] sizeOf24 rfl rfl<|ag (.slice none 0 0)<|ag (i6 8)<|Jd<|Jl<|Jm 36 1<|Jm 56 2<|?_
   obtain rfl := sj H33
   refine bo 0 2 rfl rfl<|Qp 0 rfl (Qh (p := nn) rfl (AllC.nil (G := gs_tag_Entry) (h := Qt) (sz := 1)))<|bo 0 3 rfl rfl<|?_
   refine retCtt (i := 1) (vs := [.bool false, sl nn (([] : List (List Value)).length)]) (v2 := sl nn ([] : List Td).length) (v3 := i6 8) isAgg24 sizeOf24 rfl rfl rfl rfl rfl rfl (X7 (nn, nn) (i := 0) rfl (by first | rfl | rw [(show (([] : List (List Value)).length) = ([] : List (List Ta)).length from (AllC.nil (G := gs_tag_Entry) (h := Qt) (sz := 1)).len)]) (by first | exact Imp.refl _ | exact Imp.of (by rw [(show (([] : List (List Value)).length) = ([] : List (List Ta)).length from (AllC.nil (G := gs_tag_Entry) (h := Qt) (sz := 1)).len)] <;> rfl)))
  ·refine Jk<|Jc<|Ja<|mv (str a0)<|mv (str a0)<|?_
   obtain ⟨t22, h_t22, H35⟩ := Je H34; clear H34
   refine lv (Jaf underlying9 rfl rfl h_t22)<|lv (Ql rfl rfl)<|?_
   refine Wv (rds := []) (Jhm (fk := (fun x_ : Int => i6 x_)) (fv := (fun x_ : Bool => .bool x_))) rfl rfl rfl (fun b7 => ?_)
   refine mv ((Qi a1))<|lv (Xv (pl := #[(0, 1), (1, 1), (2, 1), (3, 1), (4, 1), (5, 1), (6, 1)]) (ps := [(0, str a0), (1, .bool (decide (t22 = 77))), (3, .map (some b7)), (5, (Qi a1))]) (cells := #[str a0, .bool (decide (t22 = 77)), .slice none 0 0, .map (some b7), i6 0, (Qi a1), i6 0]) zeroValue195 runUnderlying195 (fun w => by kernel_rfl) rfl (by generalize (a1 : Nat) = fz0_; rcases fz0_ with _ | _ | _ <;> rfl))<|?_
   refine Wj (cs := [str a0, .bool (decide (t22 = 77)), .slice none 0 0, .map (some b7), i6 0, (Qi a1), i6 0]) rfl rfl rfl rfl (fun b8 => ?_)
   refine ag (.pointer (some ⟨b8, 0, none⟩))<|Jd<|Jc<|?_
   try dsimp only [z1, z2, z5, z6, z7, z8]
   refine Ja<|mv (.pointer (some ⟨b8, 0, none⟩))<|lv (Jh rfl)<|lf runUnderlying195 rfl sizeOf4 rfl<|ll 3 (.bool (decide (t22 = 77))) isAgg4<|lv (Xv (pl := #[(0, 1), (1, 1)]) (ps := [(0, .bool (decide (t22 = 77)))]) (cells := #[.bool (decide (t22 = 77)), .slice none 0 0]) zeroValue24 runUnderlying24 (fun w => by kernel_rfl) rfl rfl)<|?_
   refine X1 (cs := [.bool false, .slice none 0 0]) zeroValue24 rfl rfl rfl (fun b9 => ?_)
   refine st (i := 4) [.bool (decide (t22 = 77)), .slice none 0 0] [.bool (decide (t22 = 77)), .slice none 0 0] sizeOf24 rfl rfl<|Jd<|?_
   refine Qj (r := r) (σ := (List UInt8) × Bool × Int × Nat × Int × (List Td) × (List (List Ta)) × (List (Int × Bool))) (τ := (Option Addr × Nat) × (Option Addr × Nat) × Nat) (fun s => W1 t22 s.1 s.2.1 s.2.2.1 s.2.2.2.1 s.2.2.2.2.1 s.2.2.2.2.2.1 s.2.2.2.2.2.2.1 s.2.2.2.2.2.2.2) (fun s t => [(4, .pointer (some ⟨b6, 0, none⟩)), (7, .pointer (some ⟨b8, 0, none⟩)), (8, .pointer (some ⟨b9, 0, none⟩))]) (fun s t => [X8 Qt Qt, Jf b6 [.bool false, .slice none 0 0] 24, Q0 (fun x_ : Int => i6 x_) (fun x_ : Bool => .bool x_) t.2.2 s.2.2.2.2.2.2.2, Jf b8 [str s.1, .bool s.2.1, .slice t.1.1 s.2.2.2.2.2.1.length t.1.2, .map (some t.2.2), i6 s.2.2.1, (Qi s.2.2.2.1), i6 s.2.2.2.2.1] 195, Jf b9 [.bool (decide (t22 = 77)), .slice t.2.1.1 s.2.2.2.2.2.2.1.length t.2.1.2] 24, Jw 56 2 (.slice t.1.1 s.2.2.2.2.2.1.length t.1.2) s.2.2.2.2.2.1.length (s.2.2.2.2.2.1.map Jg), Wp 36 1 gs_tag_Entry (.slice t.2.1.1 s.2.2.2.2.2.2.1.length t.2.1.2) s.2.2.2.2.2.2.1.length s.2.2.2.2.2.2.1]) (fun s t => True) ?_ ?_
   ·refine Jc<|Ja<|mv (.pointer (some ⟨b8, 0, none⟩))<|?_
    obtain ⟨t34, h_t34, H50⟩ := Je H35; clear H35
    refine Qd (fun w hF hS => k127 (a0 := (⟨a0, (decide (t22 = 77)), ([] : (List Td)), ([] : (List (Int × Bool))), 0, a1, 0⟩ : Tb)) (Jp w) (FrS.nil _ _) (Xy (fk := (fun x_ : Int => i6 x_)) (fv := (fun x_ : Bool => .bool x_)) (i := 2) hS rfl) (Q3 (i := 3) hS rfl) h_t34) call127 rfl rfl rfl<|ag (i6 t34)<|Jd<|Ju<|Jm 56 2<|Jm 36 1<|Yg Qt<|?_
    try dsimp only [z1, z2, z5, z6, z7, z8]
    refine bo 7 6 rfl rfl ?_
    try dsimp only [z1, z2, z5, z6, z7, z8]
    refine Qp 7 rfl (Jdb (css := []) (xs := ([] : List (List Ta))) (p := nn) rfl (AllC.nil (G := gs_tag_Entry) (h := Qt) (sz := 1))) ?_
    refine Za (σ := Int × (List UInt8) × Bool × Int × Nat × Int × (List Td) × (List (List Ta)) × (List (Int × Bool))) (τ := (Option Addr × Nat) × (Option Addr × Nat) × Nat) (fun next4 s => Ur t22 next4 s.1 s.2.1 s.2.2.1 s.2.2.2.1 s.2.2.2.2.1 s.2.2.2.2.2.1 s.2.2.2.2.2.2.1 s.2.2.2.2.2.2.2.1 s.2.2.2.2.2.2.2.2) (fun s t => [(4, .pointer (some ⟨b6, 0, none⟩)), (7, .pointer (some ⟨b8, 0, none⟩)), (8, .pointer (some ⟨b9, 0, none⟩)), (9, i6 s.1)]) (fun s t => [X8 Qt Qt, Jf b6 [.bool false, .slice none 0 0] 24, Q0 (fun x_ : Int => i6 x_) (fun x_ : Bool => .bool x_) t.2.2 s.2.2.2.2.2.2.2.2, Jf b8 [str s.2.1, .bool s.2.2.1, .slice t.1.1 s.2.2.2.2.2.2.1.length t.1.2, .map (some t.2.2), i6 s.2.2.2.1, (Qi s.2.2.2.2.1), i6 s.2.2.2.2.2.1] 195, Jf b9 [.bool (decide (t22 = 77)), .slice t.2.1.1 s.2.2.2.2.2.2.2.1.length t.2.1.2] 24, Jw 56 2 (.slice t.1.1 s.2.2.2.2.2.2.1.length t.1.2) s.2.2.2.2.2.2.1.length (s.2.2.2.2.2.2.1.map Jg), Wp 36 1 gs_tag_Entry (.slice t.2.1.1 s.2.2.2.2.2.2.2.1.length t.2.1.2) s.2.2.2.2.2.2.2.1.length s.2.2.2.2.2.2.2.1]) (fun s t => True) (t34, a0, (decide (t22 = 77)), 0, a1, 0, ([] : List Td), ([] : List (List Ta)), ([] : (List (Int × Bool)))) (nn, nn, b7) [0, 1, 2, 3, 4, 5, 7] H50 (by exact trivial) (by exact ⟨rfl, rfl, rfl, rfl, trivial⟩) (by decide) rfl ?_
    rintro ⟨x9_2, m_13, m_14, m_15, m_16, m_17, l_5, l_6, mp_3⟩ ⟨p_3, p_4, b_2⟩ m4 gg H51 _
    clear H50
    try dsimp only at H51
    generalize hn4 : it (fun next4 s => Ur t22 next4 s.1 s.2.1 s.2.2.1 s.2.2.2.1 s.2.2.2.2.1 s.2.2.2.2.2.1 s.2.2.2.2.2.2.1 s.2.2.2.2.2.2.2.1 s.2.2.2.2.2.2.2.2) m4 = next4 at H51
    try dsimp only
    refine Jc<|Jc<|?_
    try dsimp only [z1, z2, z5, z6, z7, z8]
    refine Ja<|mv (i6 x9_2)<|lv (Yt rfl rfl)<|mv (.bool (decide (x9_2 ≠ 0)))<|?_
    revert H51
    refine sp (fun hb H52=>?_) fun hb H58=>?_
    ·refine mv (.pointer (some ⟨b8, 0, none⟩))<|lv (Jh rfl)<|lf runUnderlying195 rfl sizeOf28 rfl<|ll 3 (i6 m_17) isAgg28<|lv (Ql rfl rfl)<|pT (.bool (decide (m_17 = 0)))<|Jd<|?_
     revert H52
     refine ci (decide (m_17 = 0)) rfl (fun hb H53=>?_) fun hb H57=>?_
     ·refine Jk<|Ju<|Jc<|Ja<|mv (.pointer (some ⟨b8, 0, none⟩))<|lv (Jh rfl)<|lf runUnderlying195 rfl sizeOf3 rfl<|ll 3 (i6 m_15) isAgg3<|?_
      obtain ⟨t48, h_t48, H54⟩ := Je H53; clear H53
      refine lv (J1 rfl rfl h_t48)<|lv (Jh rfl)<|lf runUnderlying195 rfl sizeOf3 rfl<|st (i := 3) [i6 t48] [str m_13, .bool m_14, sl p_3 l_5.length, .map (some b_2), i6 t48, (Qi m_16), i6 m_17] sizeOf3 rfl rfl<|Jd<|Jc<|Ja<|mv (.pointer (some ⟨b8, 0, none⟩))<|mv (i6 x9_2)<|lf runUnderlying24 rfl sizeOf22 rfl<|ll 4 (sl p_4 l_6.length) isAgg22<|lv (Jdj underlying22 rfl)<|?_
      refine Qg (vs := [i6 (l_6.length : Int)]) (cs := [i6 (l_6.length : Int)]) underlying30 sizeOf3 zeroValue3 rfl rfl rfl rfl rfl rfl rfl (fun b10 => ?_)
      obtain ⟨t58, h_t58, H55⟩ := Je H54; clear H54
      refine bo 5 2 rfl rfl<|bo 3 5 rfl rfl<|?_
      refine Qe (J4 (i := 3) (rds := [7]) (G := fun x : (Option Addr × Nat) × (Option Addr × Nat) × Nat => .tuple #[.slice x.1.1 t58.1.length x.1.2, i6 t58.2.1]) (C := fun x : (Option Addr × Nat) × (Option Addr × Nat) × Nat => Jt (Jf b8 [str t58.2.2.s_, .bool t58.2.2.big_, .slice x.2.1.1 t58.2.2.parts_.length x.2.1.2, .map (some x.2.2), i6 t58.2.2.dirs_, (Qi t58.2.2.found_), i6 t58.2.2.no_] 195) (Jt (Jw 56 2 (.slice x.2.1.1 t58.2.2.parts_.length x.2.1.2) t58.2.2.parts_.length (t58.2.2.parts_.map Jg)) (Jt (Q0 (fun x_ : Int => i6 x_) (fun x_ : Bool => .bool x_) x.2.2 t58.2.2.seen_) (Wp 83 6 g_tag_Entry (.slice x.1.1 t58.1.length x.1.2) t58.1.length t58.1)))) rfl (fun w L' S hF hS hi hp hlt ho hA => k128 (a0 := (⟨m_13, m_14, l_5, mp_3, t48, m_16, m_17⟩ : Tb)) hp hlt (Qr w S) rfl (frb_box (j := 7) (xs := ([(l_6.length : Int)] : List Int)) (f := Q1) hA hS (by decide) ((hi 7 (by simp)).trans rfl) rfl rfl rfl rfl) h_t58) call128 rfl) rfl rfl rfl (fun ⟨p_5, p_6, p_7⟩ => ?_)
      refine ub 3 5 rfl rfl<|ub 5 2 rfl rfl<|Qv 2 rfl<|mv (.tuple #[sl p_5 t58.1.length, i6 t58.2.1])<|lv (Qb (v := sl p_5 t58.1.length) rfl rfl)<|lv (Qb (v := i6 t58.2.1) rfl rfl)<|ag (sl p_5 t58.1.length)<|ag (i6 t58.2.1)<|Jd<|Jc<|?_
      refine Jcd 6 rfl (fun hp css hn pf => ?_)
      rw [hn]
      try dsimp only [z1, z2, z5, z6, z7, z8]
      refine Qv 6 rfl ?_
      try dsimp only [z1, z2, z5, z6, z7, z8]
      refine Zm 0 6 rfl rfl (by decide) (fun _ _ => Zn) (fun hp_2 hle hle_2 => ?_)
      try dsimp only [z1, z2, z5, z6, z7, z8]
      refine Ja<|lf runUnderlying24 rfl sizeOf22 rfl<|ll 4 (sl p_4 css.length) isAgg22<|mv (sl p_5 t58.1.length)<|?_
      refine Qg (vs := [sl p_5 t58.1.length]) (cs := [sl p_5 t58.1.length]) underlying22 sizeOf36 zeroValue36 rfl rfl rfl rfl rfl rfl rfl (fun b11 => ?_)
      refine Jcd 8 rfl (fun hp_3 css_2 hn_2 pf_2 => ?_)
      rw [hn_2]
      try dsimp only [z1, z2, z5, z6, z7, z8]
      refine Qv 8 rfl ?_
      try dsimp only [z1, z2, z5, z6, z7, z8]
      refine Zm 0 8 rfl rfl (by decide) (fun _ _ => Zn) (fun hp_4 hle_3 hle_4 => ?_)
      try dsimp only [z1, z2, z5, z6, z7, z8]
      refine Jb1 (Φ := fun H_ => FrS H_ 6 (sl p_5 css_2.length) (css_2.map idC)) 0 11 rfl rfl (by decide) (fun _ _ => Zn) (Jfe _) (fun hp_5 hle_5 hf => ?_)
      obtain ⟨l65, h_l65, H56⟩ := Je H55; clear H55
      refine Qe (V5 (i := 9) (k := 10) (p := p_4) (f := idC) (ys := css) (ls := [[sl p_5 css_2.length]]) underlying22 (Q5 typeInfo36) rfl rfl rfl rfl rfl rfl rfl rfl rfl rfl rfl rfl rfl rfl (by simp only [idC, List.map_cons, List.map_nil, List.all_cons, List.all_nil, (Jag (xs := t58.1) hf ((pf_2.mono hle_4).mono hle_5)).one] <;> rfl) (app63 ((((pf.mono hle_2).mono hle_3).mono hle_5).app h_l65 (nc := [[sl p_5 css_2.length]]) rfl)) rfl) rfl rfl rfl (fun p_8 => ?_)
      have pf_3 : AllC gs_tag_Entry hp_5 1 (css ++ [[Value.slice p_5.1 css_2.length p_5.2]]) l65 := AllC.snocG (((pf.mono hle_2).mono hle_3).mono hle_5) h_l65 rfl ((Jag (xs := t58.1) hf ((pf_2.mono hle_4).mono hle_5)))
      refine lf runUnderlying24 rfl sizeOf22 rfl<|st (i := 4) [sl p_8 ((css ++ [[Value.slice p_5.1 css_2.length p_5.2]]).length)] [.bool (decide (t22 = 77)), sl p_8 ((css ++ [[Value.slice p_5.1 css_2.length p_5.2]]).length)] sizeOf22 rfl rfl<|Jd<|?_
      try dsimp only [z1, z2, z5, z6, z7, z8]
      refine bo 0 9 rfl rfl ?_
      try dsimp only [z1, z2, z5, z6, z7, z8]
      refine Qp 0 rfl (Jdb (p := p_8) rfl pf_3) ?_
      (try rw [show ((css ++ [[Value.slice p_5.1 css_2.length p_5.2]]).length) = l65.length from pf_3.len])
      refine Yg Qt<|c_sel [12, 1, 2, 3, 4, 5, 6, 7, 8, 0, 10, 11] [X8 Qt Qt, Jf b6 [.bool false, .slice none 0 0] 24, Q0 (fun x_ : Int => i6 x_) (fun x_ : Bool => .bool x_) p_7 t58.2.2.seen_, Jf b8 [str t58.2.2.s_, .bool t58.2.2.big_, sl p_6 t58.2.2.parts_.length, .map (some p_7), i6 t58.2.2.dirs_, (Qi t58.2.2.found_), i6 t58.2.2.no_] 195, Jf b9 [.bool (decide (t22 = 77)), sl p_8 l65.length] 24, Jw 56 2 (sl p_6 t58.2.2.parts_.length) t58.2.2.parts_.length (t58.2.2.parts_.map Jg), _, Jf b10 [i6 (css.length : Int)] 3, _, Wp 36 1 gs_tag_Entry (sl p_8 l65.length) l65.length l65, Jf b11 [sl p_5 css_2.length] 36, _] rfl (by decide)<|?_
      try dsimp only [z1, z2, z5, z6, z7, z8]
      refine Ja<|mv (i6 t58.2.1)<|ag (i6 t58.2.1)<|Jd<|?_
      exact cl (t58.2.1, t58.2.2.s_, t58.2.2.big_, t58.2.2.dirs_, t58.2.2.found_, t58.2.2.no_, t58.2.2.parts_, l65, t58.2.2.seen_) (p_6, p_8, p_7) m4 [0, 1, 2, 3, 4, 5, 9] (by exact ⟨(by subst hn4; exact H56), trivial⟩)
     ·refine Xa ?_
      exact cl (m_13, m_14, m_15, m_16, m_17, l_5, l_6, mp_3) (p_3, p_4, b_2) 0 [0, 1, 2, 3, 4, 5, 6] (by exact ⟨H57, trivial⟩)
    ·refine pa<|pa<|pa<|pa<|pa<|pF (.bool false)<|Jd<|Uh rfl<|Xa<|?_
     exact cl (m_13, m_14, m_15, m_16, m_17, l_5, l_6, mp_3) (p_3, p_4, b_2) 0 [0, 1, 2, 3, 4, 5, 6] (by exact ⟨H58, trivial⟩)
   ·rintro ⟨m, m_2, m_3, m_4, m_5, l, l_2, mp⟩ ⟨p, p_2, b⟩ gg H36 _
    try dsimp only at H36
    try dsimp only
    refine Jc<|Ja<|mv (.pointer (some ⟨b8, 0, none⟩))<|lv (Jh rfl)<|lf runUnderlying195 rfl sizeOf48 rfl<|ll 3 (sl p l.length) isAgg48<|?_
    obtain ⟨t72, h_t72, H37⟩ := Je H36; clear H36
    refine Qe (J4 (i := 5) (rds := []) (G := fun x : Unit => .tuple #[]) (C := fun x : Unit => Jw 56 2 (sl p l.length) l.length (t72.map Jg)) rfl (fun w L' S hF hS hi hp hlt ho hA => k129_130 hp hlt (Qr w S) rfl h_t72) call129 rfl) rfl rfl rfl (fun _ => ?_)
    refine Jgc (fun w hF hS => lenOf (i := 5) hS rfl) (fun hl_ => ?_)
    have hl : l.length = t72.length := by simpa using hl_.symm
    refine Jd ?_
    refine Qj (r := r) (σ := Int) (τ := Unit) (fun s => V7 t22 l_2 t72 s) (fun s t => [(4, .pointer (some ⟨b6, 0, none⟩)), (7, .pointer (some ⟨b8, 0, none⟩)), (8, .pointer (some ⟨b9, 0, none⟩))]) (fun s t => [X8 Qt Qt, Jf b6 [.bool false, .slice none 0 0] 24, Q0 (fun x_ : Int => i6 x_) (fun x_ : Bool => .bool x_) b mp, Jf b8 [str m, .bool m_2, sl p l.length, .map (some b), i6 m_3, (Qi m_4), i6 s] 195, Jf b9 [.bool (decide (t22 = 77)), sl p_2 l_2.length] 24, Jw 56 2 (sl p l.length) l.length (t72.map Jg), Wp 36 1 gs_tag_Entry (sl p_2 l_2.length) l_2.length l_2]) (fun s t => True) ?_ ?_
    ·refine Jc<|Ja<|mv (.pointer (some ⟨b8, 0, none⟩))<|lv (Jh rfl)<|lf runUnderlying195 rfl sizeOf28 rfl<|ll 3 (i6 m_5) isAgg28<|lv (Ql rfl rfl)<|mv (.bool (decide (m_5 = 0)))<|?_
     revert H37
     refine sp (fun hb H45=>?_) fun hb H49=>?_
     ·refine mv (.pointer (some ⟨b8, 0, none⟩))<|lv (Jh rfl)<|lf runUnderlying195 rfl sizeOf48 rfl<|ll 3 (sl p l.length) isAgg48<|?_
      obtain ⟨t83, h_t83, H46⟩ := Je H45; clear H45
      refine Qd (fun w hF hS => k131 (Jp w) (Ye (i := 5) hl hS rfl) h_t83) call131 rfl rfl rfl<|pT (.bool t83)<|Jd<|?_
      revert H46
      refine ci t83 rfl (fun hb H47=>?_) fun hb H48=>?_
      ·refine Ja<|mv (.pointer (some ⟨b8, 0, none⟩))<|lv (Jh rfl)<|lf runUnderlying195 rfl sizeOf28 rfl<|st (i := 3) [i6 6] [str m, .bool m_2, sl p l.length, .map (some b), i6 m_3, (Qi m_4), i6 6] sizeOf28 rfl rfl<|Jd<|?_
       exact cl 6 () 0 [0, 1, 2, 3, 4, 5, 6] (by exact ⟨H47, trivial⟩)
      ·refine Jk ?_
       exact cl m_5 () 0 [0, 1, 2, 3, 4, 5, 6] (by exact ⟨H48, trivial⟩)
     ·refine pa<|pa<|pa<|pa<|pa<|pF (.bool false)<|Jd<|Uh rfl<|Jk<|?_
      exact cl m_5 () 0 [0, 1, 2, 3, 4, 5, 6] (by exact ⟨H49, trivial⟩)
    ·rintro m_6 _ gg H38 _
     try dsimp only at H38
     try dsimp only
     refine Qj (r := r) (σ := Int) (τ := Unit) (fun s => Wc t22 l_2 t72 s) (fun s t => [(4, .pointer (some ⟨b6, 0, none⟩)), (7, .pointer (some ⟨b8, 0, none⟩)), (8, .pointer (some ⟨b9, 0, none⟩))]) (fun s t => [X8 Qt Qt, Jf b6 [.bool false, .slice none 0 0] 24, Q0 (fun x_ : Int => i6 x_) (fun x_ : Bool => .bool x_) b mp, Jf b8 [str m, .bool m_2, sl p l.length, .map (some b), i6 m_3, (Qi m_4), i6 s] 195, Jf b9 [.bool (decide (t22 = 77)), sl p_2 l_2.length] 24, Jw 56 2 (sl p l.length) l.length (t72.map Jg), Wp 36 1 gs_tag_Entry (sl p_2 l_2.length) l_2.length l_2]) (fun s t => True) ?_ ?_
     ·refine Jc<|Ja<|mv (.pointer (some ⟨b8, 0, none⟩))<|lv (Jh rfl)<|lf runUnderlying195 rfl sizeOf28 rfl<|ll 3 (i6 m_6) isAgg28<|lv (Ql rfl rfl)<|Jd<|?_
      revert H38
      refine ci (decide (m_6 = 0)) rfl (fun hb H42=>?_) fun hb H44=>?_
      ·refine Ja<|mv (.pointer (some ⟨b8, 0, none⟩))<|Q4 (i := 4) (vs := [.bool (decide (t22 = 77)), sl p_2 l_2.length]) isAgg24 sizeOf24 rfl rfl rfl rfl rfl<|?_
       obtain ⟨t95, h_t95, H43⟩ := Je H42; clear H42
       refine Qd (fun w hF hS => k37 (Jp w) (frn_rowD (i := 6) hS rfl) h_t95) call37 rfl rfl rfl<|lv (Jh rfl)<|lf runUnderlying195 rfl sizeOf28 rfl<|st (i := 3) [i6 t95] [str m, .bool m_2, sl p l.length, .map (some b), i6 m_3, (Qi m_4), i6 t95] sizeOf28 rfl rfl<|Jd<|?_
       exact cl t95 () 0 [0, 1, 2, 3, 4, 5, 6] (by exact ⟨H43, trivial⟩)
      ·refine Jk ?_
       exact cl m_6 () 0 [0, 1, 2, 3, 4, 5, 6] (by exact ⟨H44, trivial⟩)
     ·rintro m_7 _ gg H39 _
      try dsimp only at H39
      try dsimp only
      refine Jc<|Jc<|Ja<|mv (.pointer (some ⟨b8, 0, none⟩))<|lv (Jh rfl)<|lf runUnderlying195 rfl sizeOf28 rfl<|ll 3 (i6 m_7) isAgg28<|lv (Yt rfl rfl)<|Jd<|?_
      revert H39
      refine ci (decide (m_7 ≠ 0)) rfl (fun hb H40=>?_) fun hb H41=>?_
      ·refine Jc ?_
       exact Qx (Kd.p :: Kd.p :: Kd.p :: Kd.p :: Kd.d [3] _ :: Kd.sv 4 103 1 _ 24 :: Kd.p :: Kd.p :: []) 0 mixed (by
        refine dv (Xv (pl := #[(0, 1), (1, 1)]) (ps := []) (cells := #[.bool false, .slice none 0 0]) zeroValue24 runUnderlying24 (fun w => by kernel_rfl) rfl rfl)<|dm (.pointer (some ⟨b8, 0, none⟩))<|dv (Jh rfl)<|dv (J8 runUnderlying195 rfl sizeOf28 rfl rfl)<|dl (i6 m_7) isAgg28<|Jb0 (i := 1) (vs := [.bool false, .slice none 0 0]) (cs' := fun v_ => [(vcell v_ 0), (vcell v_ 1)]) sizeOf24 rfl rfl rfl rfl rfl rfl rfl rfl rfl<|Vf rfl rfl (Xd (v := .slice none 0 0) rfl)<|Vf rfl rfl (Xd (v := i6 m_7) rfl)<|Yw<|Jl<|Jm 36 1<|Jm 56 2<|?_
        obtain rfl := sj H40
        refine bo 0 7 rfl rfl<|Qp 0 rfl (Qh (p := nn) rfl (AllC.nil (G := gs_tag_Entry) (h := Qt) (sz := 1)))<|bo 0 8 rfl rfl<|?_
        refine retCtt (i := 1) (vs := [.bool false, sl nn (([] : List (List Value)).length)]) (v2 := sl nn ([] : List Td).length) (v3 := i6 m_7) isAgg24 sizeOf24 rfl rfl rfl rfl rfl rfl (X7 (nn, nn) (i := 0) rfl (by first | rfl | rw [(show (([] : List (List Value)).length) = ([] : List (List Ta)).length from (AllC.nil (G := gs_tag_Entry) (h := Qt) (sz := 1)).len)]) (by first | exact Imp.refl _ | exact Imp.of (by rw [(show (([] : List (List Value)).length) = ([] : List (List Ta)).length from (AllC.nil (G := gs_tag_Entry) (h := Qt) (sz := 1)).len)] <;> rfl)))
        ) (by kernel_rfl)
      ·refine Jk<|Jc<|?_
       try dsimp only [z1, z2, z5, z6, z7, z8]
       exact Qx (Kd.d [4] _ :: Kd.p :: Kd.p :: Kd.p :: Kd.d [3] _ :: Kd.sv 4 108 1 _ 24 :: Kd.p :: Kd.p :: []) 0 mixed (by
        refine Jdy (i := 4) (vs := [.bool (decide (t22 = 77)), sl p_2 l_2.length]) isAgg24 sizeOf24 rfl rfl rfl rfl<|dm (.pointer (some ⟨b8, 0, none⟩))<|dv (Jh rfl)<|dv (J8 runUnderlying195 rfl sizeOf48 rfl rfl)<|dl (sl p l.length) isAgg48<|Jb0 (i := 1) (vs := [.bool (decide (t22 = 77)), sl p_2 l_2.length]) (cs' := fun v_ => [(vcell v_ 0), (vcell v_ 1)]) sizeOf24 rfl rfl rfl rfl rfl rfl rfl rfl rfl<|Vf rfl rfl (Xd (v := sl p l.length) rfl)<|Vf rfl rfl (Xd (v := i6 0) rfl)<|Yw<|Jl<|?_
        obtain rfl := sj H41
        refine bo 6 5 rfl rfl ?_
        refine retCtt (i := 1) (vs := [.bool (decide (t22 = 77)), sl p_2 l_2.length]) (v2 := sl p l.length) (v3 := i6 0) isAgg24 sizeOf24 rfl rfl rfl rfl rfl rfl (X7 (p_2, p) (i := 6) rfl (by first | rfl | rw [(show l.length = t72.length from hl)]) (by first | exact Imp.refl _ | exact Imp.of (by rw [(show l.length = t72.length from hl)] <;> rfl)))
        ) (by kernel_rfl)
end Go.Proofs.YtgjpnjncfilgnaaGreatDoor

/- TagMetadata, the reference's read: the walks, printed by our generator; each follows its model. Conditions: the model yields a value. -/
namespace Go.Proofs.YtgjpnjncfilgnaaGreatDoor
open Go Go.Vc Go.Md Go.M Go.Lx Tryz
set_option maxRecDepth 100000
set_option maxHeartbeats 4000000
set_option linter.unusedVariables false
theorem k175 {a0 : Bool} {a1 : (List UInt8)} {r : Int} (H : Qq a0 a1 = some r) : Ret prog 175 [.bool a0, str a1] (i6 r) := by
 refine Yu (n := 29) func175 rfl rfl rfl (fun wd => ?_)
 refine Jc<|Ja<|ag (i6 0)<|Jd<|Jc<|Ja<|ag (i6 0)<|Jd<|Jc<|Jc<|Ja<|mv (str a1)<|lv (Xn underlying9 rfl)<|mv (i6 0)<|Jd<|Ju<|?_
 refine Za (σ := Int × Int) (τ := Unit) (fun next1 s => Wa a0 a1 next1 s.1 s.2) (fun s t => [(0, .bool a0), (1, str a1), (5, i6 s.1), (9, i6 (a1.length : Int)), (10, i6 s.2)]) (fun s t => []) (fun s t => True) (0, 0) () [] H (by exact trivial) (by exact ⟨rfl, rfl, rfl, rfl, rfl, trivial⟩) (by decide) rfl ?_
 rintro ⟨x5_2, x10_2⟩ _ m1 gg H13 _
 clear H
 try dsimp only at H13
 generalize hn1 : it (fun next1 s => Wa a0 a1 next1 s.1 s.2) m1 = next1 at H13
 try dsimp only
 refine Jc<|Ja<|lv (Xz rfl rfl)<|Jd<|Jc<|?_
 revert H13
 refine ci (decide (x10_2 < (a1.length : Int))) rfl (fun hb H14=>?_) fun hb H24=>?_
 ·refine Jk<|Jc<|Ju<|Jc<|Ja<|mv (i6 x10_2)<|ag (i6 x10_2)<|Jd<|Jc<|Ja<|mv (str a1)<|lv (Xn underlying9 rfl)<|?_
  obtain ⟨t15, h_t15, H15⟩ := Je H14; clear H14
  refine lv (Zf rfl rfl h_t15)<|mv (i6 x10_2)<|?_
  obtain ⟨t17, h_t17, H16⟩ := Je H15; clear H15
  refine lv (Zf rfl rfl h_t17)<|ag (i6 t17)<|Jd<|?_
  refine Qj (r := r) (σ := Int) (τ := Unit) (fun s => Ja9 a1 x5_2 x10_2 next1 s) (fun s t => [(0, .bool a0), (1, str a1), (5, i6 x5_2), (7, i6 s), (9, i6 (a1.length : Int)), (10, i6 x10_2)]) (fun s t => []) (fun s t => True) ?_ ?_
  ·refine Jc<|Ja<|mv (.bool a0)<|Jd<|?_
   revert H16
   refine ci a0 rfl (fun hb H22=>?_) fun hb H23=>?_
   ·refine Ja<|mv (i6 x10_2)<|ag (i6 x10_2)<|Jd<|?_
    exact cl x10_2 () 0 [] (by exact ⟨H22, trivial⟩)
   ·refine Jk ?_
    exact cl t17 () 0 [] (by exact ⟨H23, trivial⟩)
  ·rintro x7 _ gg H17 _
   try dsimp only at H17
   try dsimp only
   refine Ja<|mv (i6 x5_2)<|?_
   obtain ⟨t21, h_t21, H18⟩ := Je H17; clear H17
   refine lv (r_shlG rfl rfl h_t21)<|mv (str a1)<|mv (i6 x7)<|?_
   obtain ⟨t24, h_t24, H19⟩ := Je H18; clear H18
   refine lv (Jaf underlying9 rfl rfl h_t24) ?_
   obtain ⟨t25, h_t25, H20⟩ := Je H19; clear H19
   refine lv (Ui runUnderlying5 runUnderlying3 rfl (Jd7 h_t25))<|lv (Jgx (bits := 64) rfl rfl rfl (Jhz _))<|ag (i6 (Ud (bOr 64 t21 t25)))<|Jd<|Ja<|?_
   obtain ⟨t27, h_t27, H21⟩ := Je H20; clear H20
   refine lv (J1 rfl rfl h_t27)<|mv (i6 t27)<|Jd<|?_
   exact cl ((Ud (bOr 64 t21 t25)), t27) () m1 [] (by exact ⟨(by subst hn1; exact H21), trivial⟩)
 ·refine Xa<|Jc<|Ja<|mv (i6 x5_2)<|ag (i6 x5_2)<|Jd<|Jl<|?_
  obtain rfl := sj H24
  exact r1 (i6 x5_2)
theorem k132 {a0 : Te} {v0_2 : Value} {v0_3 : Value} {v0_4 : Value} {pb0 : Nat} {a1 : Int} {a2 : Int} {r : Int} {w : World} {h : J3} (hw : Know h w Zo) (f0_2 : FrM h (fun x_ : Int => i6 x_) (fun x_ : Bool => .bool x_) v0_2 a0.starts_) (f0_3 : FrS h 2 v0_3 (a0.parts_.map Jg)) (f0_4 : FrM h (fun x_ : (List UInt8) => str x_) (fun x_ : Ti => .agg #[i6 x_.entry_, i6 x_.from_, i6 x_.to_]) v0_4 a0.places_) (hb0 : h pb0 = some (.cells (List.toArray [str a0.s_, .bool a0.big_, v0_2, v0_3, v0_4]) 119 (0, 0))) (H : Qw a0 a1 a2 = some r) : Does prog 132 (List.toArray [.pointer (some ⟨pb0, 0, none⟩), i6 a1, i6 a2]) w (fun v w' => v = (i6 r) ∧ Grow w w') := by
 refine enter (n := 21) func132 rfl rfl rfl Zo [] (Sat.nil _ _)<|Jc<|Ja<|ag (i6 0)<|Jd<|Jc<|?_
 exact Qx (Kd.p :: Kd.p :: Kd.p :: Kd.d [] _ :: Kd.p :: Kd.p :: Kd.p :: Kd.d [] _ :: Kd.p :: Kd.p :: Kd.p :: Kd.p :: Kd.p :: Kd.d [] _ :: Kd.p :: []) 0 mixed (by
  refine dm (.pointer (some ⟨pb0, 0, none⟩))<|dv (Jh rfl)<|dv (J8 runUnderlying119 rfl sizeOf4 rfl rfl)<|Jcy (fun w hF => Jan (v := .bool a0.big_) isAgg4 rfl (hw.now hF _ _ hb0) rfl) rfl rfl<|dm (.pointer (some ⟨pb0, 0, none⟩))<|dv (Jh rfl)<|dv (J8 runUnderlying119 rfl sizeOf9 rfl rfl)<|Jcy (fun w hF => Jan (v := str a0.s_) isAgg9 rfl (hw.now hF _ _ hb0) rfl) rfl rfl<|dm (i6 a1)<|dm (i6 a1)<|dm (i6 a2)<|?_
  have h_t18 := Jy H
  have H4 := Jq H
  refine dv (J1 rfl rfl h_t18) ?_
  have h_t19 := Jy H4
  have H5 := Jq H4
  refine dv (Jc7 underlying9 rfl rfl rfl h_t19) ?_
  have h_t20 := Jy H5
  have H6 := Jq H5
  refine Jca (k175 h_t20) call175 rfl rfl<|Vf rfl rfl (Xd (v := i6 (val (Qq a0.big_ (val (Q7 a0.s_ a1 (val (gI (a1 + a2)))))))) rfl)<|Yw<|Jl<|?_
  obtain rfl := sj H6
  exact r1 (i6 (val (Qq a0.big_ (val (Q7 a0.s_ a1 (val (gI (a1 + a2))))))))
  ) (by kernel_rfl)
theorem k134 {a0 : Int} {r : (List UInt8)} {w : World} {h : J3} (hw : Know h w Zo) (tb_pow10 : TabH prog h "internal/strconv.uint64pow10" .u64 Lib.pow10Tab) (H : gItoa a0 = some r) : Does prog 134 (List.toArray [i6 a0]) w (fun v w' => v = (str r) ∧ Grow w w') :=
  itoa_does (ρ := Go.Proofs.Tryz.laysM171_ren) Go.Proofs.Tryz.laysM171 hw tb_pow10 H
theorem k176 {a0 : Te} {v0_2 : Value} {v0_3 : Value} {v0_4 : Value} {pb0 : Nat} {a1 : Int} {a2 : Int} {r : Bool} {w : World} {h : J3} (hw : Know h w Zo) (f0_2 : FrM h (fun x_ : Int => i6 x_) (fun x_ : Bool => .bool x_) v0_2 a0.starts_) (f0_3 : FrS h 2 v0_3 (a0.parts_.map Jg)) (f0_4 : FrM h (fun x_ : (List UInt8) => str x_) (fun x_ : Ti => .agg #[i6 x_.entry_, i6 x_.from_, i6 x_.to_]) v0_4 a0.places_) (hb0 : h pb0 = some (.cells (List.toArray [str a0.s_, .bool a0.big_, v0_2, v0_3, v0_4]) 119 (0, 0))) (H : Ww a0 a1 a2 = some r) : Does prog 176 (List.toArray [.pointer (some ⟨pb0, 0, none⟩), i6 a1, i6 a2]) w (fun v w' => v = (.bool r) ∧ Grow w w') := by
 refine enter (n := 29) func176 rfl rfl rfl Zo [] (Sat.nil _ _)<|Jc<|Ja<|ag (.bool false)<|Jd<|Jc<|Ja<|mv (i6 a1)<|lv (Jff rfl rfl)<|mv (.bool (decide (8 ≤ a1)))<|?_
 revert H
 refine sp (fun hb H6=>?_) fun hb H10=>?_
 ·refine mv (i6 a1)<|mv (.pointer (some ⟨pb0, 0, none⟩))<|lv (Jh rfl)<|lf runUnderlying119 rfl sizeOf9 rfl<|Xi (fun w hF hS => Jan (v := str a0.s_) isAgg9 rfl (hw.now hF _ _ hb0) rfl) rfl rfl rfl<|lv (Xn underlying9 rfl)<|lv (Jfo rfl rfl)<|pT (.bool (decide (a1 ≤ (a0.s_.length : Int))))<|mv (.bool (decide (a1 ≤ (a0.s_.length : Int))))<|?_
  revert H6
  refine sp (fun hb H7=>?_) fun hb H9=>?_
  ·refine mv (i6 a2)<|mv (.pointer (some ⟨pb0, 0, none⟩))<|lv (Jh rfl)<|lf runUnderlying119 rfl sizeOf9 rfl<|Xi (fun w hF hS => Jan (v := str a0.s_) isAgg9 rfl (hw.now hF _ _ hb0) rfl) rfl rfl rfl<|lv (Xn underlying9 rfl)<|mv (i6 a1)<|?_
   obtain ⟨t26, h_t26, H8⟩ := Je H7; clear H7
   refine lv (Zf rfl rfl h_t26)<|lv (Jfo rfl rfl)<|pT (.bool (decide (a2 ≤ t26)))<|ag (.bool (decide (a2 ≤ t26)))<|Jd<|Jl<|?_
   obtain rfl := sj H8
   exact r1 (.bool (decide (a2 ≤ t26)))
  ·refine pa<|pa<|pa<|pa<|pa<|pa<|pa<|pa<|pa<|pF (.bool false)<|ag (.bool false)<|Jd<|Jl<|?_
   obtain rfl := sj H9
   exact r1 (.bool false)
 ·refine pa<|pa<|pa<|pa<|pa<|pa<|pa<|pF (.bool false)<|mv (.bool false)<|pa<|pa<|pa<|pa<|pa<|pa<|pa<|pa<|pa<|pF (.bool false)<|ag (.bool false)<|Jd<|Jl<|?_
  obtain rfl := sj H10
  exact r1 (.bool false)
theorem k177_b {self : (Te × Int × Int × Int × Bool × (List UInt8)) → Option ((List Ta) × Int × Int × Te)} (ih : ∀ {a0 : Te} {pb0 : Nat} {m0_2 : Nat} {p0_3 : Option Addr × Nat} {n0_3 : Nat} {m0_4 : Nat} {a1 : Int} {a2 : Int} {a3 : Int} {a4 : Bool} {a5 : (List UInt8)} {r : (List Ta) × Int × Int × Te} {w : World} {h : J3} {S : Nat → Prop} (hcs : (Jt (Jf pb0 [str a0.s_, .bool a0.big_, .map (some m0_2), sl p0_3 n0_3, .map (some m0_4)] 119) (Jt (Q0 (fun x_ : Int => i6 x_) (fun x_ : Bool => .bool x_) m0_2 a0.starts_) (Jt (Jw 56 2 (sl p0_3 n0_3) n0_3 (a0.parts_.map Jg)) (Q0 (fun x_ : (List UInt8) => str x_) (fun x_ : Ti => .agg #[i6 x_.entry_, i6 x_.from_, i6 x_.to_]) m0_4 a0.places_)))).P S w) (hlt : ∀ b, S b → b < w.heap.size) (hw : Know h w S) (hn0_3 : n0_3 = a0.parts_.length) (tb_pow10 : TabH prog h "internal/strconv.uint64pow10" .u64 Lib.pow10Tab) (_ : self (a0, a1, a2, a3, a4, a5) = some r), Does prog 133 (List.toArray [.pointer (some ⟨pb0, 0, none⟩), i6 a1, i6 a2, i6 a3, .bool a4, str a5]) w (fun v w' => ∃ x : (Option Addr × Nat) × Nat × (Option Addr × Nat) × Nat, v = (.tuple #[.slice x.1.1 r.1.length x.1.2, i6 r.2.1, i6 r.2.2.1]) ∧ Turn w w' S (Jt (Jf pb0 [str r.2.2.2.s_, .bool r.2.2.2.big_, .map (some x.2.1), .slice x.2.2.1.1 r.2.2.2.parts_.length x.2.2.1.2, .map (some x.2.2.2)] 119) (Jt (Q0 (fun x_ : Int => i6 x_) (fun x_ : Bool => .bool x_) x.2.1 r.2.2.2.starts_) (Jt (Jw 56 2 (.slice x.2.2.1.1 r.2.2.2.parts_.length x.2.2.1.2) r.2.2.2.parts_.length (r.2.2.2.parts_.map Jg)) (Jt (Q0 (fun x_ : (List UInt8) => str x_) (fun x_ : Ti => .agg #[i6 x_.entry_, i6 x_.from_, i6 x_.to_]) x.2.2.2 r.2.2.2.places_) (Wp 83 6 g_tag_Entry (.slice x.1.1 r.1.length x.1.2) r.1.length r.1))))))) {a0 : Te} {pb0 : Nat} {m0_2 : Nat} {p0_3 : Option Addr × Nat} {n0_3 : Nat} {m0_4 : Nat} {a1 : Int} {a2 : Int} {a3 : (List UInt8)} {r : Tg × Int × Te} {w : World} {h : J3} {S : Nat → Prop} (hcs : (Jt (Jf pb0 [str a0.s_, .bool a0.big_, .map (some m0_2), sl p0_3 n0_3, .map (some m0_4)] 119) (Jt (Q0 (fun x_ : Int => i6 x_) (fun x_ : Bool => .bool x_) m0_2 a0.starts_) (Jt (Jw 56 2 (sl p0_3 n0_3) n0_3 (a0.parts_.map Jg)) (Q0 (fun x_ : (List UInt8) => str x_) (fun x_ : Ti => .agg #[i6 x_.entry_, i6 x_.from_, i6 x_.to_]) m0_4 a0.places_)))).P S w) (hlt : ∀ b, S b → b < w.heap.size) (hw : Know h w S) (hn0_3 : n0_3 = a0.parts_.length) (tb_pow10 : TabH prog h "internal/strconv.uint64pow10" .u64 Lib.pow10Tab) (H : Xl self a0 a1 a2 a3 = some r) : Does prog 177 (List.toArray [.pointer (some ⟨pb0, 0, none⟩), i6 a1, i6 a2, str a3]) w (fun v w' => ∃ x : (Option Addr × Nat) × (Option Addr × Nat) × (Option Addr × Nat) × Nat × (Option Addr × Nat) × Nat, v = (.tuple #[.agg #[i6 r.1.Kind, str r.1.Text, .slice x.1.1 r.1.Ints.length x.1.2, .slice x.2.1.1 r.1.Ratios.length x.2.1.2, .slice x.2.2.1.1 r.1.Entries.length x.2.2.1.2], i6 r.2.1]) ∧ Turn w w' S (Jt (Jf pb0 [str r.2.2.s_, .bool r.2.2.big_, .map (some x.2.2.2.1), .slice x.2.2.2.2.1.1 r.2.2.parts_.length x.2.2.2.2.1.2, .map (some x.2.2.2.2.2)] 119) (Jt (Q0 (fun x_ : Int => i6 x_) (fun x_ : Bool => .bool x_) x.2.2.2.1 r.2.2.starts_) (Jt (Jw 56 2 (.slice x.2.2.2.2.1.1 r.2.2.parts_.length x.2.2.2.2.1.2) r.2.2.parts_.length (r.2.2.parts_.map Jg)) (Jt (Q0 (fun x_ : (List UInt8) => str x_) (fun x_ : Ti => .agg #[i6 x_.entry_, i6 x_.from_, i6 x_.to_]) x.2.2.2.2.2 r.2.2.places_) (Jt (Jw 3 1 (.slice x.1.1 r.1.Ints.length x.1.2) r.1.Ints.length (r.1.Ints.map Q1)) (Jt (Jw 74 2 (.slice x.2.1.1 r.1.Ratios.length x.2.1.2) r.1.Ratios.length (r.1.Ratios.map Jn)) (Wp 83 6 g_tag_Entry (.slice x.2.2.1.1 r.1.Entries.length x.2.2.1.2) r.1.Entries.length r.1.Entries)))))))) := by
 refine enter (n := 201) func177 rfl rfl rfl S [Jt (Jf pb0 [str a0.s_, .bool a0.big_, .map (some m0_2), sl p0_3 n0_3, .map (some m0_4)] 119) (Jt (Q0 (fun x_ : Int => i6 x_) (fun x_ : Bool => .bool x_) m0_2 a0.starts_) (Jt (Jw 56 2 (sl p0_3 n0_3) n0_3 (a0.parts_.map Jg)) (Q0 (fun x_ : (List UInt8) => str x_) (fun x_ : Ti => .agg #[i6 x_.entry_, i6 x_.from_, i6 x_.to_]) m0_4 a0.places_)))] (Sat.one hcs hlt)<|Qv 0 rfl<|Qv 1 rfl<|Qv 2 rfl<|Yg Qt<|Jc<|Ja<|?_
 refine X1 (cs := [i6 0, str [], .slice none 0 0, .slice none 0 0, .slice none 0 0]) zeroValue38 rfl rfl rfl (fun b5 => ?_)
 refine ag (i6 0)<|Jd<|Jc<|Ja<|mv (.pointer (some ⟨pb0, 0, none⟩))<|mv (i6 a1)<|?_
 obtain ⟨t20, h_t20, H69⟩ := Je H; clear H
 refine lv (J1 rfl rfl h_t20) ?_
 obtain ⟨t21, h_t21, H70⟩ := Je H69; clear H69
 refine Qd (fun w hF hS => k132 (a0 := a0) (Jp w) (Xy (fk := (fun x_ : Int => i6 x_)) (fv := (fun x_ : Bool => .bool x_)) (i := 1) hS rfl) (Ye (i := 2) hn0_3 hS rfl) (Xy (fk := (fun x_ : (List UInt8) => str x_)) (fv := (fun x_ : Ti => .agg #[i6 x_.entry_, i6 x_.from_, i6 x_.to_])) (i := 3) hS rfl) (Q3 (i := 0) hS rfl) h_t21) call132 rfl rfl rfl<|lf runUnderlying38 rfl sizeOf3 rfl<|st (i := 5) [i6 t21] [i6 t21, str [], .slice none 0 0, .slice none 0 0, .slice none 0 0] sizeOf3 rfl rfl<|Jd<|Jc<|?_
 try dsimp only [z1, z2, z5, z6, z7, z8]
 refine Ja<|mv (.pointer (some ⟨pb0, 0, none⟩))<|mv (i6 a1)<|?_
 obtain ⟨t25, h_t25, H71⟩ := Je H70; clear H70
 refine lv (J1 rfl rfl h_t25) ?_
 obtain ⟨t26, h_t26, H72⟩ := Je H71; clear H71
 refine Qd (fun w hF hS => k132 (a0 := a0) (Jp w) (Xy (fk := (fun x_ : Int => i6 x_)) (fv := (fun x_ : Bool => .bool x_)) (i := 1) hS rfl) (Ye (i := 2) hn0_3 hS rfl) (Xy (fk := (fun x_ : (List UInt8) => str x_)) (fv := (fun x_ : Ti => .agg #[i6 x_.entry_, i6 x_.from_, i6 x_.to_])) (i := 3) hS rfl) (Q3 (i := 0) hS rfl) h_t26) call132 rfl rfl rfl<|mv (.pointer (some ⟨pb0, 0, none⟩))<|mv (i6 a1)<|?_
 obtain ⟨t29, h_t29, H73⟩ := Je H72; clear H72
 refine lv (J1 rfl rfl h_t29) ?_
 obtain ⟨t30, h_t30, H74⟩ := Je H73; clear H73
 refine Qd (fun w hF hS => k132 (a0 := a0) (Jp w) (Xy (fk := (fun x_ : Int => i6 x_)) (fv := (fun x_ : Bool => .bool x_)) (i := 1) hS rfl) (Ye (i := 2) hn0_3 hS rfl) (Xy (fk := (fun x_ : (List UInt8) => str x_)) (fv := (fun x_ : Ti => .agg #[i6 x_.entry_, i6 x_.from_, i6 x_.to_])) (i := 3) hS rfl) (Q3 (i := 0) hS rfl) h_t30) call132 rfl rfl rfl<|ag (i6 t26)<|ag (i6 t30)<|Jd<|Jc<|Ja<|lf runUnderlying38 rfl sizeOf3 rfl<|ll 5 (i6 t21) isAgg3<|?_
 obtain ⟨t33, h_t33, H75⟩ := Je H74; clear H74
 refine Yy (k140 h_t33) call140 rfl rfl rfl<|ag (i6 t33)<|Jd<|Jc<|Ju<|Jc<|Ja<|mv (i6 t33)<|lv (Ql rfl rfl)<|ag (.bool (decide (t33 = 0)))<|Jd<|?_
 revert H75
 refine ci (decide (t33 = 0)) rfl (fun hb H76=>?_) fun hb H77=>?_
 ·refine Jc<|Ja<|Q4 (i := 5) (vs := [i6 t21, str [], .slice none 0 0, .slice none 0 0, .slice none 0 0]) isAgg38 sizeOf38 rfl rfl rfl rfl rfl<|st (i := 5) [i6 t21, str [], .slice none 0 0, .slice none 0 0, .slice none 0 0] [i6 t21, str [], .slice none 0 0, .slice none 0 0, .slice none 0 0] sizeOf38 rfl rfl<|ag (i6 10)<|Jd<|Jl<|?_
  try dsimp only [z1, z2, z3, z4, z5, z6, z7, z8]
  refine Jm 3 1<|Jm 74 2<|Jm 83 6<|?_
  try dsimp only [z1, z2, z5, z6, z7, z8]
  obtain rfl := sj H76
  refine bo 4 8 rfl rfl<|Qp 4 rfl (Qh (p := nn) rfl (AllC.nil (G := g_tag_Entry) (h := Qt) (sz := 6)))<|bo 7 4 rfl rfl<|bo 6 7 rfl rfl<|bo 3 6 rfl rfl<|bo 2 3 rfl rfl<|bo 1 2 rfl rfl<|bo 0 1 rfl rfl<|?_
  refine Jao (i := 5) (vs := [i6 t21, str [], sl nn ([] : List Int).length, sl nn ([] : List Th).length, sl nn (([] : List (List Value)).length)]) (v2 := i6 10) isAgg38 sizeOf38 rfl rfl rfl rfl rfl (X7 (nn, nn, nn, m0_2, p0_3, m0_4) (i := 0) rfl (by first | rfl | rw [(show (([] : List (List Value)).length) = ([] : List Ta).length from (AllC.nil (G := g_tag_Entry) (h := Qt) (sz := 6)).len), (show n0_3 = a0.parts_.length from hn0_3)]) (by first | exact Imp.refl _ | exact Imp.of (by rw [(show (([] : List (List Value)).length) = ([] : List Ta).length from (AllC.nil (G := g_tag_Entry) (h := Qt) (sz := 6)).len), (show n0_3 = a0.parts_.length from hn0_3)] <;> rfl)))
 ·refine Jc ?_
  try dsimp only [z1, z2, z5, z6, z7, z8]
  refine Ja<|lf runUnderlying38 rfl sizeOf3 rfl<|ll 5 (i6 t21) isAgg3<|lv (Ql rfl rfl)<|ag (.bool (decide (t21 = 13)))<|Jd<|?_
  revert H77
  refine ci (decide (t21 = 13)) rfl (fun hb H78=>?_) fun hb H83=>?_
  ·refine Jc<|Jc<|Ja<|mv (i6 t26)<|lv (Yt rfl rfl)<|Jd<|?_
   revert H78
   refine ci (decide (t26 ≠ 1)) rfl (fun hb H79=>?_) fun hb H80=>?_
   ·refine Jc<|Ja<|Q4 (i := 5) (vs := [i6 t21, str [], .slice none 0 0, .slice none 0 0, .slice none 0 0]) isAgg38 sizeOf38 rfl rfl rfl rfl rfl<|st (i := 5) [i6 t21, str [], .slice none 0 0, .slice none 0 0, .slice none 0 0] [i6 t21, str [], .slice none 0 0, .slice none 0 0, .slice none 0 0] sizeOf38 rfl rfl<|ag (i6 1)<|Jd<|Jl<|?_
    try dsimp only [z1, z2, z3, z4, z5, z6, z7, z8]
    refine Jm 3 1<|Jm 74 2<|Jm 83 6<|?_
    try dsimp only [z1, z2, z5, z6, z7, z8]
    obtain rfl := sj H79
    refine bo 4 8 rfl rfl<|Qp 4 rfl (Qh (p := nn) rfl (AllC.nil (G := g_tag_Entry) (h := Qt) (sz := 6)))<|bo 7 4 rfl rfl<|bo 6 7 rfl rfl<|bo 3 6 rfl rfl<|bo 2 3 rfl rfl<|bo 1 2 rfl rfl<|bo 0 1 rfl rfl<|?_
    refine Jao (i := 5) (vs := [i6 t21, str [], sl nn ([] : List Int).length, sl nn ([] : List Th).length, sl nn (([] : List (List Value)).length)]) (v2 := i6 1) isAgg38 sizeOf38 rfl rfl rfl rfl rfl (X7 (nn, nn, nn, m0_2, p0_3, m0_4) (i := 0) rfl (by first | rfl | rw [(show (([] : List (List Value)).length) = ([] : List Ta).length from (AllC.nil (G := g_tag_Entry) (h := Qt) (sz := 6)).len), (show n0_3 = a0.parts_.length from hn0_3)]) (by first | exact Imp.refl _ | exact Imp.of (by rw [(show (([] : List (List Value)).length) = ([] : List Ta).length from (AllC.nil (G := g_tag_Entry) (h := Qt) (sz := 6)).len), (show n0_3 = a0.parts_.length from hn0_3)] <;> rfl)))
   ·refine Jk<|Jc<|?_
    try dsimp only [z1, z2, z5, z6, z7, z8]
    refine Ja<|mv (.pointer (some ⟨pb0, 0, none⟩))<|lv (Jh rfl)<|lf runUnderlying119 rfl sizeOf117 rfl<|ll 0 (.map (some m0_4)) isAgg117<|mv (str a3)<|mv (i6 a1)<|lv (Xv (pl := #[(0, 1), (1, 1), (2, 1)]) (ps := [(0, i6 a1)]) (cells := #[i6 a1, i6 0, i6 0]) zeroValue138 runUnderlying138 (fun w => by kernel_rfl) rfl rfl)<|?_
    refine Jha (Je0 (u := true) (i := 3) (rds := []) (fk := (fun x_ : (List UInt8) => str x_)) (fv := (fun x_ : Ti => .agg #[i6 x_.entry_, i6 x_.from_, i6 x_.to_])) (k := a3) (v := (⟨a1, 0, 0⟩ : Ti)) keyF_str (.inr rfl) underlying117 underlying9 rfl rfl rfl rfl) rfl rfl (fun _ => ?_)
    refine Jd<|Jc<|Ja<|mv (.pointer (some ⟨pb0, 0, none⟩))<|mv (i6 t30)<|mv (i6 a2)<|?_
    obtain ⟨t56, h_t56, H81⟩ := Je H80; clear H80
    refine lv (J1 rfl rfl h_t56)<|mv (str a3)<|?_
    obtain ⟨t58, h_t58, H82⟩ := Je H81; clear H81
    refine bo 2 3 rfl rfl<|bo 1 2 rfl rfl<|bo 0 1 rfl rfl<|?_
    refine Qe (J4 (i := 0) (rds := []) (G := fun x : (Option Addr × Nat) × Nat × (Option Addr × Nat) × Nat => .tuple #[.slice x.1.1 t58.1.length x.1.2, i6 t58.2.1, i6 t58.2.2.1]) (C := fun x : (Option Addr × Nat) × Nat × (Option Addr × Nat) × Nat => Jt (Jf pb0 [str t58.2.2.2.s_, .bool t58.2.2.2.big_, .map (some x.2.1), .slice x.2.2.1.1 t58.2.2.2.parts_.length x.2.2.1.2, .map (some x.2.2.2)] 119) (Jt (Q0 (fun x_ : Int => i6 x_) (fun x_ : Bool => .bool x_) x.2.1 t58.2.2.2.starts_) (Jt (Jw 56 2 (.slice x.2.2.1.1 t58.2.2.2.parts_.length x.2.2.1.2) t58.2.2.2.parts_.length (t58.2.2.2.parts_.map Jg)) (Jt (Q0 (fun x_ : (List UInt8) => str x_) (fun x_ : Ti => .agg #[i6 x_.entry_, i6 x_.from_, i6 x_.to_]) x.2.2.2 t58.2.2.2.places_) (Wp 83 6 g_tag_Entry (.slice x.1.1 t58.1.length x.1.2) t58.1.length t58.1))))) rfl (fun w L' S hF hS hi hp hlt ho hA => ih (a0 := (⟨a0.s_, a0.big_, a0.starts_, a0.parts_, (Z5 a0.places_ a3 (⟨a1, 0, 0⟩ : Ti))⟩ : Te)) hp hlt (Qr w S) hn0_3 (tb_pow10.mono (hw.but hF ho)) h_t58) call133 rfl) rfl rfl rfl (fun ⟨p, p_2, p_3, p_4⟩ => ?_)
    refine ub 0 1 rfl rfl<|ub 1 2 rfl rfl<|ub 2 3 rfl rfl<|Qv 3 rfl<|mv (.tuple #[sl p t58.1.length, i6 t58.2.1, i6 t58.2.2.1])<|lv (Qb (v := sl p t58.1.length) rfl rfl)<|lv (Qb (v := i6 t58.2.1) rfl rfl)<|lv (Qb (v := i6 t58.2.2.1) rfl rfl)<|lf runUnderlying38 rfl sizeOf36 rfl<|st (i := 5) [sl p t58.1.length] [i6 t21, str [], .slice none 0 0, .slice none 0 0, sl p t58.1.length] sizeOf36 rfl rfl<|ag (i6 t58.2.2.1)<|Jd<|Jc<|?_
    try dsimp only [z1, z2, z5, z6, z7, z8]
    refine Ja<|Q4 (i := 5) (vs := [i6 t21, str [], .slice none 0 0, .slice none 0 0, sl p t58.1.length]) isAgg38 sizeOf38 rfl rfl rfl rfl rfl<|mv (i6 t58.2.2.1)<|st (i := 5) [i6 t21, str [], .slice none 0 0, .slice none 0 0, sl p t58.1.length] [i6 t21, str [], .slice none 0 0, .slice none 0 0, sl p t58.1.length] sizeOf38 rfl rfl<|ag (i6 t58.2.2.1)<|Jd<|Jl<|?_
    try dsimp only [z1, z2, z3, z4, z5, z6, z7, z8]
    refine Jm 3 1<|Jm 74 2<|?_
    obtain rfl := sj H82
    refine bo 8 6 rfl rfl<|bo 7 8 rfl rfl<|bo 3 7 rfl rfl<|bo 2 3 rfl rfl<|bo 1 2 rfl rfl<|bo 0 1 rfl rfl<|?_
    refine Jao (i := 5) (vs := [i6 t21, str [], sl nn ([] : List Int).length, sl nn ([] : List Th).length, sl p t58.1.length]) (v2 := i6 t58.2.2.1) isAgg38 sizeOf38 rfl rfl rfl rfl rfl (X7 (nn, nn, p, p_2, p_3, p_4) (i := 0) rfl rfl (Imp.refl _))
  ·refine Jk<|Jc<|?_
   try dsimp only [z1, z2, z5, z6, z7, z8]
   refine Ja<|mv (i6 a1)<|?_
   obtain ⟨t66, h_t66, H84⟩ := Je H83; clear H83
   refine lv (J1 rfl rfl h_t66)<|mv (i6 t26)<|mv (i6 t33)<|?_
   obtain ⟨t69, h_t69, H85⟩ := Je H84; clear H84
   refine lv (Wu rfl rfl h_t69)<|ag (i6 t66)<|ag (i6 t69)<|Jd<|Jc<|Ja<|mv (i6 a1)<|lv (Xv (pl := #[(0, 1), (1, 1), (2, 1)]) (ps := [(0, i6 a1)]) (cells := #[i6 a1, i6 0, i6 0]) zeroValue138 runUnderlying138 (fun w => by kernel_rfl) rfl rfl)<|?_
   refine X1 (cs := [i6 0, i6 0, i6 0]) zeroValue138 rfl rfl rfl (fun b6 => ?_)
   refine st (i := 6) [i6 a1, i6 0, i6 0] [i6 a1, i6 0, i6 0] sizeOf138 rfl rfl<|Jd<|?_
   refine Qj (r := r) (σ := Int × (List Td) × Int × Int) (τ := (Option Addr × Nat) × Nat) (fun s => W9 a0 a1 a3 t21 t33 t69 s.1 s.2.1 s.2.2.1 s.2.2.2) (fun s t => [(0, .pointer (some ⟨pb0, 0, none⟩)), (3, str a3), (8, .pointer (some ⟨b5, 0, none⟩)), (12, i6 t33), (13, i6 s.1), (14, i6 t69), (15, .pointer (some ⟨b6, 0, none⟩))]) (fun s t => [Jf pb0 [str a0.s_, .bool a0.big_, .map (some m0_2), .slice t.1.1 t.2 t.1.2, .map (some m0_4)] 119, Q0 (fun x_ : Int => i6 x_) (fun x_ : Bool => .bool x_) m0_2 a0.starts_, Jw 56 2 (.slice t.1.1 t.2 t.1.2) t.2 (s.2.1.map Jg), Q0 (fun x_ : (List UInt8) => str x_) (fun x_ : Ti => .agg #[i6 x_.entry_, i6 x_.from_, i6 x_.to_]) m0_4 a0.places_, X8 Qt Qt, Jf b5 [i6 t21, str [], .slice none 0 0, .slice none 0 0, .slice none 0 0] 38, Jf b6 [i6 a1, i6 s.2.2.1, i6 s.2.2.2] 138]) (fun s t => t.2 = s.2.1.length) ?_ ?_
   ·refine Jc<|Ja<|mv (i6 t69)<|lv (Yn rfl rfl)<|Jd<|?_
    revert H85
    refine ci (decide (4 < t69)) rfl (fun hb H129=>?_) fun hb H136=>?_
    ·refine Jc<|Ja<|mv (i6 t30)<|ag (i6 t30)<|Jd<|Jc<|Jc<|Ja<|mv (.pointer (some ⟨pb0, 0, none⟩))<|mv (i6 t30)<|mv (i6 t69)<|?_
     obtain ⟨t78, h_t78, H130⟩ := Je H129; clear H129
     refine Qd (fun w hF hS => k176 (a0 := a0) (Jp w) (Xy (fk := (fun x_ : Int => i6 x_)) (fv := (fun x_ : Bool => .bool x_)) (i := 1) hS rfl) (Ye (i := 2) hn0_3 hS rfl) (Xy (fk := (fun x_ : (List UInt8) => str x_)) (fv := (fun x_ : Ti => .agg #[i6 x_.entry_, i6 x_.from_, i6 x_.to_])) (i := 3) hS rfl) (Q3 (i := 0) hS rfl) h_t78) call176 rfl rfl rfl<|lv (Ja4 rfl)<|Jd<|?_
     revert H130
     refine ci (!t78) rfl (fun hb H131=>?_) fun hb H132=>?_
     ·refine Jc<|Ja<|Q4 (i := 5) (vs := [i6 t21, str [], .slice none 0 0, .slice none 0 0, .slice none 0 0]) isAgg38 sizeOf38 rfl rfl rfl rfl rfl<|st (i := 5) [i6 t21, str [], .slice none 0 0, .slice none 0 0, .slice none 0 0] [i6 t21, str [], .slice none 0 0, .slice none 0 0, .slice none 0 0] sizeOf38 rfl rfl<|ag (i6 2)<|Jd<|Jl<|c_dr 6<|?_
      try dsimp only [z1, z2, z3, z4, z5, z6, z7, z8]
      refine Jm 3 1<|Jm 74 2<|Jm 83 6<|?_
      try dsimp only [z1, z2, z5, z6, z7, z8]
      obtain rfl := sj H131
      refine bo 4 8 rfl rfl<|Qp 4 rfl (Qh (p := nn) rfl (AllC.nil (G := g_tag_Entry) (h := Qt) (sz := 6)))<|bo 7 4 rfl rfl<|bo 6 7 rfl rfl<|bo 3 6 rfl rfl<|bo 2 3 rfl rfl<|bo 1 2 rfl rfl<|bo 0 1 rfl rfl<|?_
      refine Jao (i := 5) (vs := [i6 t21, str [], sl nn ([] : List Int).length, sl nn ([] : List Th).length, sl nn (([] : List (List Value)).length)]) (v2 := i6 2) isAgg38 sizeOf38 rfl rfl rfl rfl rfl (X7 (nn, nn, nn, m0_2, p0_3, m0_4) (i := 0) rfl (by first | rfl | rw [(show (([] : List (List Value)).length) = ([] : List Ta).length from (AllC.nil (G := g_tag_Entry) (h := Qt) (sz := 6)).len), (show n0_3 = a0.parts_.length from hn0_3)]) (by first | exact Imp.refl _ | exact Imp.of (by rw [(show (([] : List (List Value)).length) = ([] : List Ta).length from (AllC.nil (G := g_tag_Entry) (h := Qt) (sz := 6)).len), (show n0_3 = a0.parts_.length from hn0_3)] <;> rfl)))
     ·refine Jk<|Jc<|?_
      try dsimp only [z1, z2, z5, z6, z7, z8]
      refine Ja<|mv (.pointer (some ⟨pb0, 0, none⟩))<|mv (.pointer (some ⟨pb0, 0, none⟩))<|lv (Jh rfl)<|lf runUnderlying119 rfl sizeOf48 rfl<|ll 0 (sl p0_3 n0_3) isAgg48<|mv (i6 t30)<|mv (i6 t30)<|mv (i6 t69)<|?_
      obtain ⟨t89, h_t89, H133⟩ := Je H132; clear H132
      refine lv (J1 rfl rfl h_t89)<|lv (Xv (pl := #[(0, 1), (1, 1)]) (ps := [(0, i6 t30), (1, i6 t89)]) (cells := #[i6 t30, i6 t89]) zeroValue56 runUnderlying56 (fun w => by kernel_rfl) rfl rfl)<|?_
      refine Qg (vs := [.agg #[i6 t30, i6 t89]]) (cs := [i6 t30, i6 t89]) underlying48 sizeOf56 zeroValue56 rfl rfl rfl rfl rfl rfl rfl (fun b9 => ?_)
      obtain ⟨l92, h_l92, H134⟩ := Je H133; clear H133
      refine Qe (Xp (i := 2) (hn := hn0_3) (rds := [7]) (p := p0_3) (sz := 2) (by_ := 16) (f := Jg) (ys := a0.parts_) (ls := ([(⟨t30, t89⟩ : Td)] : List Td)) (V := .slice (some ⟨b9, 0, none⟩) 1 1) underlying48 (Q5 typeInfo56) rfl rfl rfl rfl rfl rfl rfl rfl rfl rfl (fun w L' hF hS hi => Wr (i := 7) hS ((hi 7 (by simp)).trans rfl) rfl rfl) (fun _ => rfl) (fun _ => rfl) h_l92) rfl rfl rfl (fun p_12 => ?_)
      refine lv (Jh rfl)<|lf runUnderlying119 rfl sizeOf48 rfl<|st (i := 0) [sl p_12 l92.length] [str a0.s_, .bool a0.big_, .map (some m0_2), sl p_12 l92.length, .map (some m0_4)] sizeOf48 rfl rfl<|Jd<|Ja<|mv (i6 t30)<|mv (i6 t30)<|mv (i6 t69)<|?_
      obtain ⟨t98, h_t98, H135⟩ := Je H134; clear H134
      refine lv (J1 rfl rfl h_t98)<|lf runUnderlying138 rfl sizeOf3 rfl<|st (i := 6) [i6 t30] [i6 a1, i6 t30, i6 0] sizeOf3 rfl rfl<|lf runUnderlying138 rfl sizeOf3 rfl<|st (i := 6) [i6 t98] [i6 a1, i6 t30, i6 t98] sizeOf3 rfl rfl<|Jd<|?_
      exact cl (t30, l92, t30, t98) (p_12, l92.length) 0 [0, 1, 2, 3, 4, 5, 6] (by exact ⟨H135, rfl⟩)
    ·refine Jk ?_
     exact cl (t66, a0.parts_, 0, 0) (p0_3, n0_3) 0 [0, 1, 2, 3, 4, 5, 6] (by exact ⟨H136, hn0_3⟩)
   ·rintro ⟨x13, l, m, m_2⟩ ⟨p_5, n⟩ gg H86 hl
    try dsimp only at H86
    try dsimp only
    refine Jc ?_
    exact Qx (Kd.p :: Kd.p :: Kd.p :: Kd.d [0] _ :: Kd.p :: Kd.d [6] _ :: Kd.t 3 [] _ _ :: []) 0 mixed (by
     refine dm (.pointer (some ⟨pb0, 0, none⟩))<|dv (Jh rfl)<|dv (J8 runUnderlying119 rfl sizeOf117 rfl rfl)<|dl (.map (some m0_4)) isAgg117<|dm (str a3)<|Jdy (i := 6) (vs := [i6 a1, i6 m, i6 m_2]) isAgg138 sizeOf138 rfl rfl rfl rfl<|?_
     refine d_turn0 (Cv := fun _ => Q0 (fun x_ : (List UInt8) => str x_) (fun x_ : Ti => .agg #[i6 x_.entry_, i6 x_.from_, i6 x_.to_]) m0_4 (Z5 a0.places_ a3 (⟨a1, m, m_2⟩ : Ti))) () (Je0 (u := true) (i := 3) (rds := _) (fk := (fun x_ : (List UInt8) => str x_)) (fv := (fun x_ : Ti => .agg #[i6 x_.entry_, i6 x_.from_, i6 x_.to_])) (k := a3) (v := (⟨a1, m, m_2⟩ : Ti)) keyF_str (.inr rfl) underlying117 underlying9 rfl rfl rfl rfl) (fun _ => rfl) rfl rfl (fun _ => ?_)
     refine Yw<|Jc<|Ja<|mv (.pointer (some ⟨pb0, 0, none⟩))<|lv (Jh rfl)<|lf runUnderlying119 rfl sizeOf9 rfl<|ll 0 (str a0.s_) isAgg9<|mv (i6 x13)<|mv (i6 x13)<|mv (i6 t69)<|?_
     obtain ⟨t114, h_t114, H87⟩ := Je H86; clear H86
     refine lv (J1 rfl rfl h_t114) ?_
     obtain ⟨t115, h_t115, H88⟩ := Je H87; clear H87
     refine lv (Jc7 underlying9 rfl rfl rfl h_t115)<|ag (str t115)<|Jd<|?_
     refine Qj (r := r) (σ := (List UInt8) × (List Int) × (List Th)) (τ := (Option Addr × Nat) × (Option Addr × Nat)) (fun s => Zv a0 a1 a3 t21 l m m_2 s.1 s.2.1 s.2.2) (fun s t => [(8, .pointer (some ⟨b5, 0, none⟩))]) (fun s t => [Jf pb0 [str a0.s_, .bool a0.big_, .map (some m0_2), sl p_5 n, .map (some m0_4)] 119, Q0 (fun x_ : Int => i6 x_) (fun x_ : Bool => .bool x_) m0_2 a0.starts_, Jw 56 2 (sl p_5 n) n (l.map Jg), Q0 (fun x_ : (List UInt8) => str x_) (fun x_ : Ti => .agg #[i6 x_.entry_, i6 x_.from_, i6 x_.to_]) m0_4 (Z5 a0.places_ a3 (⟨a1, m, m_2⟩ : Ti)), X8 Qt Qt, Jf b5 [i6 t21, str s.1, .slice t.1.1 s.2.1.length t.1.2, .slice t.2.1 s.2.2.length t.2.2, .slice none 0 0] 38, Jw 3 1 (.slice t.1.1 s.2.1.length t.1.2) s.2.1.length (s.2.1.map Q1), Jw 74 2 (.slice t.2.1 s.2.2.length t.2.2) s.2.2.length (s.2.2.map Jn)]) (fun s t => True) ?_ ?_
     ·refine Jc ?_
      try dsimp only [z1, z2, z5, z6, z7, z8]
      refine Ja<|lf runUnderlying38 rfl sizeOf3 rfl<|ll 5 (i6 t21) isAgg3<|Jd<|Ju<|Jc<|Ja<|lv (Ql rfl rfl)<|ag (.bool (decide (t21 = 2)))<|Jd<|?_
      revert H88
      refine ci (decide (t21 = 2)) rfl (fun hb H90=>?_) fun hb H102=>?_
      ·refine Jc<|Jc<|Ja<|mv (str t115)<|lv (Jfn rfl rfl)<|mv (.bool (decide (t115 = [])))<|?_
       revert H90
       refine sp (fun hb H91=>?_) fun hb H92=>?_
       ·refine pa<|pa<|pa<|pa<|pa<|pa<|pT (.bool true)<|Jd<|Vj rfl<|Jc<|Ja<|Q4 (i := 5) (vs := [i6 t21, str [], .slice none 0 0, .slice none 0 0, .slice none 0 0]) isAgg38 sizeOf38 rfl rfl rfl rfl rfl<|st (i := 5) [i6 t21, str [], .slice none 0 0, .slice none 0 0, .slice none 0 0] [i6 t21, str [], .slice none 0 0, .slice none 0 0, .slice none 0 0] sizeOf38 rfl rfl<|ag (i6 1)<|Jd<|Jl<|c_dr 6<|?_
        try dsimp only [z1, z2, z3, z4, z5, z6, z7, z8]
        refine Jm 3 1<|Jm 74 2<|Jm 83 6<|?_
        try dsimp only [z1, z2, z5, z6, z7, z8]
        obtain rfl := sj H91
        refine bo 4 8 rfl rfl<|Qp 4 rfl (Qh (p := nn) rfl (AllC.nil (G := g_tag_Entry) (h := Qt) (sz := 6)))<|bo 7 4 rfl rfl<|bo 6 7 rfl rfl<|bo 3 6 rfl rfl<|bo 2 3 rfl rfl<|bo 1 2 rfl rfl<|bo 0 1 rfl rfl<|?_
        refine Jao (i := 5) (vs := [i6 t21, str [], sl nn ([] : List Int).length, sl nn ([] : List Th).length, sl nn (([] : List (List Value)).length)]) (v2 := i6 1) isAgg38 sizeOf38 rfl rfl rfl rfl rfl (X7 (nn, nn, nn, m0_2, p_5, m0_4) (i := 0) rfl (by first | rfl | rw [(show (([] : List (List Value)).length) = ([] : List Ta).length from (AllC.nil (G := g_tag_Entry) (h := Qt) (sz := 6)).len), (show n = l.length from hl)]) (by first | exact Imp.refl _ | exact Imp.of (by rw [(show (([] : List (List Value)).length) = ([] : List Ta).length from (AllC.nil (G := g_tag_Entry) (h := Qt) (sz := 6)).len), (show n = l.length from hl)] <;> rfl)))
       ·refine mv (str t115)<|mv (str t115)<|lv (Xn underlying9 rfl)<|?_
        obtain ⟨t154, h_t154, H93⟩ := Je H92; clear H92
        refine lv (Zf rfl rfl h_t154) ?_
        obtain ⟨t155, h_t155, H94⟩ := Je H93; clear H93
        refine lv (Jaf underlying9 rfl rfl h_t155)<|lv (Yt rfl rfl)<|pF (.bool (decide (t155 ≠ 0)))<|Jd<|?_
        revert H94
        refine ci (decide (t155 ≠ 0)) rfl (fun hb H95=>?_) fun hb H96=>?_
        ·refine Jc ?_
         try dsimp only [z1, z2, z5, z6, z7, z8]
         refine Ja<|Q4 (i := 5) (vs := [i6 t21, str [], .slice none 0 0, .slice none 0 0, .slice none 0 0]) isAgg38 sizeOf38 rfl rfl rfl rfl rfl<|st (i := 5) [i6 t21, str [], .slice none 0 0, .slice none 0 0, .slice none 0 0] [i6 t21, str [], .slice none 0 0, .slice none 0 0, .slice none 0 0] sizeOf38 rfl rfl<|ag (i6 1)<|Jd<|Jl<|c_dr 6<|?_
         try dsimp only [z1, z2, z3, z4, z5, z6, z7, z8]
         refine Jm 3 1<|Jm 74 2<|Jm 83 6<|?_
         try dsimp only [z1, z2, z5, z6, z7, z8]
         obtain rfl := sj H95
         refine bo 4 8 rfl rfl<|Qp 4 rfl (Qh (p := nn) rfl (AllC.nil (G := g_tag_Entry) (h := Qt) (sz := 6)))<|bo 7 4 rfl rfl<|bo 6 7 rfl rfl<|bo 3 6 rfl rfl<|bo 2 3 rfl rfl<|bo 1 2 rfl rfl<|bo 0 1 rfl rfl<|?_
         refine Jao (i := 5) (vs := [i6 t21, str [], sl nn ([] : List Int).length, sl nn ([] : List Th).length, sl nn (([] : List (List Value)).length)]) (v2 := i6 1) isAgg38 sizeOf38 rfl rfl rfl rfl rfl (X7 (nn, nn, nn, m0_2, p_5, m0_4) (i := 0) rfl (by first | rfl | rw [(show (([] : List (List Value)).length) = ([] : List Ta).length from (AllC.nil (G := g_tag_Entry) (h := Qt) (sz := 6)).len), (show n = l.length from hl)]) (by first | exact Imp.refl _ | exact Imp.of (by rw [(show (([] : List (List Value)).length) = ([] : List Ta).length from (AllC.nil (G := g_tag_Entry) (h := Qt) (sz := 6)).len), (show n = l.length from hl)] <;> rfl)))
        ·refine Jk<|Jc<|?_
         try dsimp only [z1, z2, z5, z6, z7, z8]
         refine Ja<|mv (str t115)<|mv (str t115)<|lv (Xn underlying9 rfl)<|?_
         obtain ⟨t162, h_t162, H97⟩ := Je H96; clear H96
         refine lv (Zf rfl rfl h_t162) ?_
         obtain ⟨t163, h_t163, H98⟩ := Je H97; clear H97
         refine lv (Un underlying9 rfl rfl h_t163)<|lf runUnderlying38 rfl sizeOf9 rfl<|st (i := 5) [str t163] [i6 t21, str t163, .slice none 0 0, .slice none 0 0, .slice none 0 0] sizeOf9 rfl rfl<|Jd<|Jc<|Ja<|lf runUnderlying38 rfl sizeOf9 rfl<|ll 5 (str t163) isAgg9<|?_
         obtain ⟨t167, h_t167, H99⟩ := Je H98; clear H98
         refine Yy (k142 h_t167) call142 rfl rfl rfl<|lv (Jff rfl rfl)<|Jd<|?_
         revert H99
         refine ci (decide (0 ≤ t167)) rfl (fun hb H100=>?_) fun hb H101=>?_
         ·refine Jc<|Ja<|Q4 (i := 5) (vs := [i6 t21, str t163, .slice none 0 0, .slice none 0 0, .slice none 0 0]) isAgg38 sizeOf38 rfl rfl rfl rfl rfl<|st (i := 5) [i6 t21, str t163, .slice none 0 0, .slice none 0 0, .slice none 0 0] [i6 t21, str t163, .slice none 0 0, .slice none 0 0, .slice none 0 0] sizeOf38 rfl rfl<|ag (i6 9)<|Jd<|Jl<|c_dr 6<|?_
          try dsimp only [z1, z2, z3, z4, z5, z6, z7, z8]
          refine Jm 3 1<|Jm 74 2<|Jm 83 6<|?_
          try dsimp only [z1, z2, z5, z6, z7, z8]
          obtain rfl := sj H100
          refine bo 4 8 rfl rfl<|Qp 4 rfl (Qh (p := nn) rfl (AllC.nil (G := g_tag_Entry) (h := Qt) (sz := 6)))<|bo 7 4 rfl rfl<|bo 6 7 rfl rfl<|bo 3 6 rfl rfl<|bo 2 3 rfl rfl<|bo 1 2 rfl rfl<|bo 0 1 rfl rfl<|?_
          refine Jao (i := 5) (vs := [i6 t21, str t163, sl nn ([] : List Int).length, sl nn ([] : List Th).length, sl nn (([] : List (List Value)).length)]) (v2 := i6 9) isAgg38 sizeOf38 rfl rfl rfl rfl rfl (X7 (nn, nn, nn, m0_2, p_5, m0_4) (i := 0) rfl (by first | rfl | rw [(show (([] : List (List Value)).length) = ([] : List Ta).length from (AllC.nil (G := g_tag_Entry) (h := Qt) (sz := 6)).len), (show n = l.length from hl)]) (by first | exact Imp.refl _ | exact Imp.of (by rw [(show (([] : List (List Value)).length) = ([] : List Ta).length from (AllC.nil (G := g_tag_Entry) (h := Qt) (sz := 6)).len), (show n = l.length from hl)] <;> rfl)))
         ·refine Jk<|Jm 3 1<|Jm 74 2<|?_
          exact cl (t163, ([] : List Int), ([] : List Th)) (nn, nn) 0 [0, 1, 2, 3, 4, 5, 7, 8] (by exact ⟨H101, trivial⟩)
      ·refine Jc ?_
       try dsimp only [z1, z2, z5, z6, z7, z8]
       refine Ja<|lv (Ql rfl rfl)<|ag (.bool (decide (t21 = 7)))<|Jd<|?_
       revert H102
       refine ci (decide (t21 = 7)) rfl (fun hb H103=>?_) fun hb H104=>?_
       ·refine Ja<|mv (str t115)<|lf runUnderlying38 rfl sizeOf9 rfl<|st (i := 5) [str t115] [i6 t21, str t115, .slice none 0 0, .slice none 0 0, .slice none 0 0] sizeOf9 rfl rfl<|Jd<|Jm 3 1<|Jm 74 2<|?_
        exact cl (t115, ([] : List Int), ([] : List Th)) (nn, nn) 0 [0, 1, 2, 3, 4, 5, 7, 8] (by exact ⟨H103, trivial⟩)
       ·refine Jc<|Ja<|lv (Ql rfl rfl)<|ag (.bool (decide (t21 = 5)))<|Jd<|?_
        revert H104
        refine ci (decide (t21 = 5)) rfl (fun hb H105=>?_) fun hb H115=>?_
        ·refine Ju<|c_dr 6<|?_
         try dsimp only [z1, z2, z3, z4, z5, z6, z7, z8]
         refine Jm 74 2 ?_
         refine Za (σ := (List UInt8) × (List Th)) (τ := (Option Addr × Nat)) (fun next3 s => Zc a0 a1 a3 t21 l m m_2 next3 s.1 s.2) (fun s t => [(0, .pointer (some ⟨pb0, 0, none⟩)), (8, .pointer (some ⟨b5, 0, none⟩)), (16, str s.1)]) (fun s t => [Jf pb0 [str a0.s_, .bool a0.big_, .map (some m0_2), sl p_5 n, .map (some m0_4)] 119, Q0 (fun x_ : Int => i6 x_) (fun x_ : Bool => .bool x_) m0_2 a0.starts_, Jw 56 2 (sl p_5 n) n (l.map Jg), Q0 (fun x_ : (List UInt8) => str x_) (fun x_ : Ti => .agg #[i6 x_.entry_, i6 x_.from_, i6 x_.to_]) m0_4 (Z5 a0.places_ a3 (⟨a1, m, m_2⟩ : Ti)), X8 Qt Qt, Jf b5 [i6 t21, str [], .slice none 0 0, sl t s.2.length, .slice none 0 0] 38, Jw 74 2 (sl t s.2.length) s.2.length (s.2.map Jn)]) (fun s t => True) (t115, ([] : List Th)) nn [0, 1, 2, 3, 4, 5, 6] H105 (by exact trivial) (by exact ⟨rfl, rfl, rfl, trivial⟩) (by decide) rfl ?_
         rintro ⟨x16_2, l_5⟩ p_8 m3 gg H106 _
         clear H105
         try dsimp only at H106
         generalize hn3 : it (fun next3 s => Zc a0 a1 a3 t21 l m m_2 next3 s.1 s.2) m3 = next3 at H106
         try dsimp only
         refine Jc<|Jc<|Ja<|mv (str x16_2)<|lv (Jea rfl rfl)<|Jd<|?_
         revert H106
         refine ci (decide (x16_2 ≠ [])) rfl (fun hb H107=>?_) fun hb H114=>?_
         ·refine Jk<|Jc<|Ju<|?_
          exact Qx (Kd.p :: Kd.d [5] _ :: Kd.p :: Kd.p :: Kd.p :: Kd.d [0] _ :: Kd.p :: Kd.p :: Kd.d [] _ :: Kd.p :: Kd.p :: Kd.p :: Kd.d [0] _ :: Kd.p :: Kd.p :: Kd.d [] _ :: Kd.p :: Kd.ns 7 [_, _] 74 1 :: Kd.t 6 [7] _ _ :: Kd.p :: Kd.sv 199 198 5 _ 38 :: []) 1 mixed (by
           refine dv (J8 runUnderlying38 rfl sizeOf31 rfl rfl)<|dl (sl p_8 l_5.length) isAgg31<|dm (.pointer (some ⟨pb0, 0, none⟩))<|dv (Jh rfl)<|dv (J8 runUnderlying119 rfl sizeOf4 rfl rfl)<|dl (.bool a0.big_) isAgg4<|dm (str x16_2)<|?_
           have h_t187 := Jy H107
           have H108 := Jq H107
           refine dv (Un underlying9 rfl rfl h_t187) ?_
           have h_t188 := Jy H108
           have H109 := Jq H108
           refine Jca (k175 h_t188) call175 rfl rfl<|dm (.pointer (some ⟨pb0, 0, none⟩))<|dv (Jh rfl)<|dv (J8 runUnderlying119 rfl sizeOf4 rfl rfl)<|dl (.bool a0.big_) isAgg4<|dm (str x16_2)<|?_
           have h_t194 := Jy H109
           have H110 := Jq H109
           refine dv (Jc7 underlying9 rfl rfl rfl h_t194) ?_
           have h_t195 := Jy H110
           have H111 := Jq H110
           refine Jca (k175 h_t195) call175 rfl rfl<|dv (Xv (pl := #[(0, 1), (1, 1)]) (ps := [(0, i6 (val (Qq a0.big_ (val (Q7 x16_2 0 4))))), (1, i6 (val (Qq a0.big_ (val (Q7 x16_2 4 8)))))]) (cells := #[i6 (val (Qq a0.big_ (val (Q7 x16_2 0 4)))), i6 (val (Qq a0.big_ (val (Q7 x16_2 4 8))))]) zeroValue74 runUnderlying74 (fun w => by kernel_rfl) rfl rfl)<|?_
           refine d_newS rfl rfl (Jdp (vs := [.agg #[i6 (val (Qq a0.big_ (val (Q7 x16_2 0 4)))), i6 (val (Qq a0.big_ (val (Q7 x16_2 4 8))))]]) (cs := [i6 (val (Qq a0.big_ (val (Q7 x16_2 0 4)))), i6 (val (Qq a0.big_ (val (Q7 x16_2 4 8))))]) underlying31 sizeOf74 zeroValue74 rfl rfl rfl rfl rfl) rfl (fun b7 => ?_)
           have h_l198 := Jy H111
           have H112 := Jq H111
           refine Jdr (Cv := fun v => Jw 74 2 v (val (X3 16 l_5 ([(⟨(val (Qq a0.big_ (val (Q7 x16_2 0 4)))), (val (Qq a0.big_ (val (Q7 x16_2 4 8))))⟩ : Th)] : List Th))).length ((val (X3 16 l_5 ([(⟨(val (Qq a0.big_ (val (Q7 x16_2 0 4)))), (val (Qq a0.big_ (val (Q7 x16_2 4 8))))⟩ : Th)] : List Th))).map Jn)) (none, 0) (Xp (i := 6) (hn := rfl) (rds := [7]) (p := p_8) (sz := 2) (by_ := 16) (f := Jn) (ys := l_5) (ls := ([(⟨(val (Qq a0.big_ (val (Q7 x16_2 0 4)))), (val (Qq a0.big_ (val (Q7 x16_2 4 8))))⟩ : Th)] : List Th)) (V := .slice (some ⟨b7, 0, none⟩) 1 1) underlying31 (Q5 typeInfo74) rfl rfl rfl rfl rfl rfl rfl rfl rfl rfl (fun w L' hF hS hi => Wr (i := 7) hS ((hi 7 (by simp)).trans rfl) rfl rfl) (fun _ => rfl) (fun _ => rfl) h_l198) (fun _ => rfl) rfl rfl (fun p_9 => ?_)
           refine dv (J8 runUnderlying38 rfl sizeOf31 rfl rfl)<|Jb0 (i := 5) (vs := [.slice p_9.1 (val (X3 16 l_5 ([(⟨(val (Qq a0.big_ (val (Q7 x16_2 0 4)))), (val (Qq a0.big_ (val (Q7 x16_2 4 8))))⟩ : Th)] : List Th))).length p_9.2]) (cs' := fun v_ => [i6 t21, str [], .slice none 0 0, v_, .slice none 0 0]) sizeOf31 rfl rfl rfl rfl rfl rfl rfl rfl rfl<|Yw<|Ja<|mv (str x16_2)<|?_
           obtain ⟨t179, h_t179, H113⟩ := Je H112; clear H112
           refine lv (Uc underlying9 rfl rfl h_t179)<|ag (str t179)<|Jd<|?_
           exact cl (t179, (val (X3 16 l_5 ([(⟨(val (Qq a0.big_ (val (Q7 x16_2 0 4)))), (val (Qq a0.big_ (val (Q7 x16_2 4 8))))⟩ : Th)] : List Th)))) p_9 m3 [0, 1, 2, 3, 4, 5, 6] (by exact ⟨(by subst hn3; exact H113), trivial⟩)
           ) (by kernel_rfl)
         ·refine Xa<|Jm 3 1<|?_
          exact cl ([], ([] : List Int), l_5) (nn, p_8) 0 [0, 1, 2, 3, 4, 5, 7, 6] (by exact ⟨H114, trivial⟩)
        ·refine Ju<|c_dr 6<|?_
         try dsimp only [z1, z2, z3, z4, z5, z6, z7, z8]
         refine Jm 3 1 ?_
         refine Za (σ := (List UInt8) × (List Int)) (τ := (Option Addr × Nat)) (fun next4 s => Y7 a0 a1 a3 t21 t33 l m m_2 next4 s.1 s.2) (fun s t => [(0, .pointer (some ⟨pb0, 0, none⟩)), (8, .pointer (some ⟨b5, 0, none⟩)), (12, i6 t33), (16, str s.1)]) (fun s t => [Jf pb0 [str a0.s_, .bool a0.big_, .map (some m0_2), sl p_5 n, .map (some m0_4)] 119, Q0 (fun x_ : Int => i6 x_) (fun x_ : Bool => .bool x_) m0_2 a0.starts_, Jw 56 2 (sl p_5 n) n (l.map Jg), Q0 (fun x_ : (List UInt8) => str x_) (fun x_ : Ti => .agg #[i6 x_.entry_, i6 x_.from_, i6 x_.to_]) m0_4 (Z5 a0.places_ a3 (⟨a1, m, m_2⟩ : Ti)), X8 Qt Qt, Jf b5 [i6 t21, str [], sl t s.2.length, .slice none 0 0, .slice none 0 0] 38, Jw 3 1 (sl t s.2.length) s.2.length (s.2.map Q1)]) (fun s t => True) (t115, ([] : List Int)) nn [0, 1, 2, 3, 4, 5, 6] H115 (by exact trivial) (by exact ⟨rfl, rfl, rfl, rfl, trivial⟩) (by decide) rfl ?_
         rintro ⟨x16_4, l_7⟩ p_10 m4 gg H116 _
         clear H115
         try dsimp only at H116
         generalize hn4 : it (fun next4 s => Y7 a0 a1 a3 t21 t33 l m m_2 next4 s.1 s.2) m4 = next4 at H116
         try dsimp only
         refine Jc<|Jc<|Ja<|mv (str x16_4)<|lv (Jea rfl rfl)<|Jd<|?_
         revert H116
         refine ci (decide (x16_4 ≠ [])) rfl (fun hb H117=>?_) fun hb H128=>?_
         ·refine Jk<|Jc<|Ju<|Jc<|?_
          exact Qx (Kd.p :: Kd.p :: Kd.p :: Kd.d [0] _ :: Kd.p :: Kd.p :: Kd.p :: Kd.d [] _ :: Kd.p :: []) 0 mixed (by
           refine dm (.pointer (some ⟨pb0, 0, none⟩))<|dv (Jh rfl)<|dv (J8 runUnderlying119 rfl sizeOf4 rfl rfl)<|dl (.bool a0.big_) isAgg4<|dm (str x16_4)<|dm (i6 t33)<|?_
           have h_t129 := Jy H117
           have H118 := Jq H117
           refine dv (Un underlying9 rfl rfl h_t129) ?_
           have h_t130 := Jy H118
           have H119 := Jq H118
           refine Jca (k175 h_t130) call175 rfl rfl<|Vf rfl rfl (Xd (v := i6 (val (Qq a0.big_ (val (Q7 x16_4 0 t33))))) rfl)<|Yw<|?_
           refine Qj (r := r) (σ := Int) (τ := Unit) (fun s => Vl t33 x16_4 l_7 next4 s) (fun s t => [(0, .pointer (some ⟨pb0, 0, none⟩)), (8, .pointer (some ⟨b5, 0, none⟩)), (12, i6 t33), (16, str x16_4), (17, i6 s)]) (fun s t => [Jf pb0 [str a0.s_, .bool a0.big_, .map (some m0_2), sl p_5 n, .map (some m0_4)] 119, Q0 (fun x_ : Int => i6 x_) (fun x_ : Bool => .bool x_) m0_2 a0.starts_, Jw 56 2 (sl p_5 n) n (l.map Jg), Q0 (fun x_ : (List UInt8) => str x_) (fun x_ : Ti => .agg #[i6 x_.entry_, i6 x_.from_, i6 x_.to_]) m0_4 (Z5 a0.places_ a3 (⟨a1, m, m_2⟩ : Ti)), X8 Qt Qt, Jf b5 [i6 t21, str [], sl p_10 l_7.length, .slice none 0 0, .slice none 0 0] 38, Jw 3 1 (sl p_10 l_7.length) l_7.length (l_7.map Q1)]) (fun s t => True) ?_ ?_
           ·refine Jc<|Ja<|lf runUnderlying38 rfl sizeOf3 rfl<|ll 5 (i6 t21) isAgg3<|lv (Ql rfl rfl)<|mv (.bool (decide (t21 = 9)))<|?_
            revert H119
            refine sp (fun hb H123=>?_) fun hb H127=>?_
            ·refine mv (i6 (val (Qq a0.big_ (val (Q7 x16_4 0 t33)))))<|lv (Jff rfl rfl)<|pT (.bool (decide (2147483648 ≤ (val (Qq a0.big_ (val (Q7 x16_4 0 t33)))))))<|Jd<|?_
             revert H123
             refine ci (decide (2147483648 ≤ (val (Qq a0.big_ (val (Q7 x16_4 0 t33)))))) rfl (fun hb H124=>?_) fun hb H126=>?_
             ·refine Ja<|mv (i6 (val (Qq a0.big_ (val (Q7 x16_4 0 t33)))))<|?_
              obtain ⟨t139, h_t139, H125⟩ := Je H124; clear H124
              refine lv (Zf rfl rfl h_t139)<|ag (i6 t139)<|Jd<|?_
              exact cl t139 () 0 [0, 1, 2, 3, 4, 5, 6] (by exact ⟨H125, trivial⟩)
             ·refine Jk ?_
              exact cl (val (Qq a0.big_ (val (Q7 x16_4 0 t33)))) () 0 [0, 1, 2, 3, 4, 5, 6] (by exact ⟨H126, trivial⟩)
            ·refine pa<|pa<|pF (.bool false)<|Jd<|Uh rfl<|Jk<|?_
             exact cl (val (Qq a0.big_ (val (Q7 x16_4 0 t33)))) () 0 [0, 1, 2, 3, 4, 5, 6] (by exact ⟨H127, trivial⟩)
           ·rintro x17 _ gg H120 _
            try dsimp only at H120
            try dsimp only
            refine Ja<|lf runUnderlying38 rfl sizeOf30 rfl<|ll 5 (sl p_10 l_7.length) isAgg30<|mv (i6 x17)<|?_
            refine Qg (vs := [i6 x17]) (cs := [i6 x17]) underlying30 sizeOf3 zeroValue3 rfl rfl rfl rfl rfl rfl rfl (fun b8 => ?_)
            obtain ⟨l144, h_l144, H121⟩ := Je H120; clear H120
            refine Qe (Xp (i := 6) (hn := rfl) (rds := [7]) (p := p_10) (sz := 1) (by_ := 8) (f := Q1) (ys := l_7) (ls := ([x17] : List Int)) (V := .slice (some ⟨b8, 0, none⟩) 1 1) underlying30 (Q5 typeInfo3) rfl rfl rfl rfl rfl rfl rfl rfl rfl rfl (fun w L' hF hS hi => Wr (i := 7) hS ((hi 7 (by simp)).trans rfl) rfl rfl) (fun _ => rfl) (fun _ => rfl) h_l144) rfl rfl rfl (fun p_11 => ?_)
            refine lf runUnderlying38 rfl sizeOf30 rfl<|st (i := 5) [sl p_11 l144.length] [i6 t21, str [], sl p_11 l144.length, .slice none 0 0, .slice none 0 0] sizeOf30 rfl rfl<|Jd<|Ja<|mv (str x16_4)<|mv (i6 t33)<|?_
            obtain ⟨t122, h_t122, H122⟩ := Je H121; clear H121
            refine lv (Uc underlying9 rfl rfl h_t122)<|ag (str t122)<|Jd<|?_
            exact cl (t122, l144) p_11 m4 [0, 1, 2, 3, 4, 5, 6] (by exact ⟨(by subst hn4; exact H122), trivial⟩)
           ) (by kernel_rfl)
         ·refine Xa<|Jm 74 2<|?_
          exact cl ([], l_7, ([] : List Th)) (p_10, nn) 0 [0, 1, 2, 3, 4, 5, 6, 7] (by exact ⟨H128, trivial⟩)
     ·rintro ⟨m_3, l_2, l_3⟩ ⟨p_6, p_7⟩ gg H89 _
      try dsimp only at H89
      try dsimp only
      refine Jc<|Ja<|Q4 (i := 5) (vs := [i6 t21, str m_3, sl p_6 l_2.length, sl p_7 l_3.length, .slice none 0 0]) isAgg38 sizeOf38 rfl rfl rfl rfl rfl<|st (i := 5) [i6 t21, str m_3, sl p_6 l_2.length, sl p_7 l_3.length, .slice none 0 0] [i6 t21, str m_3, sl p_6 l_2.length, sl p_7 l_3.length, .slice none 0 0] sizeOf38 rfl rfl<|ag (i6 0)<|Jd<|Jl<|?_
      try dsimp only [z1, z2, z3, z4, z5, z6, z7, z8]
      refine Jm 83 6 ?_
      obtain rfl := sj H89
      refine bo 4 8 rfl rfl<|Qp 4 rfl (Qh (p := nn) rfl (AllC.nil (G := g_tag_Entry) (h := Qt) (sz := 6)))<|bo 7 4 rfl rfl<|bo 6 7 rfl rfl<|bo 3 6 rfl rfl<|bo 2 3 rfl rfl<|bo 1 2 rfl rfl<|bo 0 1 rfl rfl<|?_
      refine Jao (i := 5) (vs := [i6 t21, str m_3, sl p_6 l_2.length, sl p_7 l_3.length, sl nn (([] : List (List Value)).length)]) (v2 := i6 0) isAgg38 sizeOf38 rfl rfl rfl rfl rfl (X7 (p_6, p_7, nn, m0_2, p_5, m0_4) (i := 0) rfl (by first | rfl | rw [(show (([] : List (List Value)).length) = ([] : List Ta).length from (AllC.nil (G := g_tag_Entry) (h := Qt) (sz := 6)).len), (show n = l.length from hl)]) (by first | exact Imp.refl _ | exact Imp.of (by rw [(show (([] : List (List Value)).length) = ([] : List Ta).length from (AllC.nil (G := g_tag_Entry) (h := Qt) (sz := 6)).len), (show n = l.length from hl)] <;> rfl)))
     ) (by kernel_rfl)
theorem k133_it (mm : Nat) : ∀ {a0 : Te} {pb0 : Nat} {m0_2 : Nat} {p0_3 : Option Addr × Nat} {n0_3 : Nat} {m0_4 : Nat} {a1 : Int} {a2 : Int} {a3 : Int} {a4 : Bool} {a5 : (List UInt8)} {r : (List Ta) × Int × Int × Te} {w : World} {h : J3} {S : Nat → Prop} (hcs : (Jt (Jf pb0 [str a0.s_, .bool a0.big_, .map (some m0_2), sl p0_3 n0_3, .map (some m0_4)] 119) (Jt (Q0 (fun x_ : Int => i6 x_) (fun x_ : Bool => .bool x_) m0_2 a0.starts_) (Jt (Jw 56 2 (sl p0_3 n0_3) n0_3 (a0.parts_.map Jg)) (Q0 (fun x_ : (List UInt8) => str x_) (fun x_ : Ti => .agg #[i6 x_.entry_, i6 x_.from_, i6 x_.to_]) m0_4 a0.places_)))).P S w) (hlt : ∀ b, S b → b < w.heap.size) (hw : Know h w S) (hn0_3 : n0_3 = a0.parts_.length) (tb_pow10 : TabH prog h "internal/strconv.uint64pow10" .u64 Lib.pow10Tab) (H : it (fun (self : (Te × Int × Int × Int × Bool × (List UInt8)) → Option ((List Ta) × Int × Int × Te)) (s : Te × Int × Int × Int × Bool × (List UInt8)) => Qs self s.1 s.2.1 s.2.2.1 s.2.2.2.1 s.2.2.2.2.1 s.2.2.2.2.2) mm (a0, a1, a2, a3, a4, a5) = some r), Does prog 133 (List.toArray [.pointer (some ⟨pb0, 0, none⟩), i6 a1, i6 a2, i6 a3, .bool a4, str a5]) w (fun v w' => ∃ x : (Option Addr × Nat) × Nat × (Option Addr × Nat) × Nat, v = (.tuple #[.slice x.1.1 r.1.length x.1.2, i6 r.2.1, i6 r.2.2.1]) ∧ Turn w w' S (Jt (Jf pb0 [str r.2.2.2.s_, .bool r.2.2.2.big_, .map (some x.2.1), .slice x.2.2.1.1 r.2.2.2.parts_.length x.2.2.1.2, .map (some x.2.2.2)] 119) (Jt (Q0 (fun x_ : Int => i6 x_) (fun x_ : Bool => .bool x_) x.2.1 r.2.2.2.starts_) (Jt (Jw 56 2 (.slice x.2.2.1.1 r.2.2.2.parts_.length x.2.2.1.2) r.2.2.2.parts_.length (r.2.2.2.parts_.map Jg)) (Jt (Q0 (fun x_ : (List UInt8) => str x_) (fun x_ : Ti => .agg #[i6 x_.entry_, i6 x_.from_, i6 x_.to_]) x.2.2.2 r.2.2.2.places_) (Wp 83 6 g_tag_Entry (.slice x.1.1 r.1.length x.1.2) r.1.length r.1)))))) := by
 induction mm with
 | zero => intros; rename_i H; exact absurd H (by simp [it])
 | succ mm ih =>
  intro a0 pb0 m0_2 p0_3 n0_3 m0_4 a1 a2 a3 a4 a5 r w h S hcs hlt hw hn0_3 tb_pow10 H
  replace H : Qs (it (fun (self : (Te × Int × Int × Int × Bool × (List UInt8)) → Option ((List Ta) × Int × Int × Te)) (s : Te × Int × Int × Int × Bool × (List UInt8)) => Qs self s.1 s.2.1 s.2.2.1 s.2.2.2.1 s.2.2.2.2.1 s.2.2.2.2.2) mm) a0 a1 a2 a3 a4 a5 = some r := H
  generalize it (fun (self : (Te × Int × Int × Int × Bool × (List UInt8)) → Option ((List Ta) × Int × Int × Te)) (s : Te × Int × Int × Int × Bool × (List UInt8)) => Qs self s.1 s.2.1 s.2.2.1 s.2.2.2.1 s.2.2.2.2.1 s.2.2.2.2.2) mm = self at H ih
  refine enter (n := 134) func133 rfl rfl rfl S [Jt (Jf pb0 [str a0.s_, .bool a0.big_, .map (some m0_2), sl p0_3 n0_3, .map (some m0_4)] 119) (Jt (Q0 (fun x_ : Int => i6 x_) (fun x_ : Bool => .bool x_) m0_2 a0.starts_) (Jt (Jw 56 2 (sl p0_3 n0_3) n0_3 (a0.parts_.map Jg)) (Q0 (fun x_ : (List UInt8) => str x_) (fun x_ : Ti => .agg #[i6 x_.entry_, i6 x_.from_, i6 x_.to_]) m0_4 a0.places_)))] (Sat.one hcs hlt)<|Qv 0 rfl<|Qv 1 rfl<|Qv 2 rfl<|Yg Qt<|Jc<|Ja<|ag (.slice none 0 0)<|ag (i6 0)<|ag (i6 0)<|Jd<|Jc<|Jc<|Ja<|mv (.pointer (some ⟨pb0, 0, none⟩))<|mv (i6 a1)<|?_
  obtain ⟨t21, h_t21, H56⟩ := Je H; clear H
  refine Qd (fun w hF hS => k176 (a0 := a0) (Jp w) (Xy (fk := (fun x_ : Int => i6 x_)) (fv := (fun x_ : Bool => .bool x_)) (i := 1) hS rfl) (Ye (i := 2) hn0_3 hS rfl) (Xy (fk := (fun x_ : (List UInt8) => str x_)) (fv := (fun x_ : Ti => .agg #[i6 x_.entry_, i6 x_.from_, i6 x_.to_])) (i := 3) hS rfl) (Q3 (i := 0) hS rfl) h_t21) call176 rfl rfl rfl<|lv (Ja4 rfl)<|Jd<|?_
  revert H56
  refine ci (!t21) rfl (fun hb H57=>?_) fun hb H58=>?_
  ·refine Jc<|Ja<|ag (.slice none 0 0)<|ag (i6 0)<|ag (i6 2)<|Jd<|Jl<|Jm 83 6<|?_
   obtain rfl := sj H57
   refine bo 4 5 rfl rfl<|Qp 4 rfl (Qh (p := nn) rfl (AllC.nil (G := g_tag_Entry) (h := Qt) (sz := 6)))<|bo 3 4 rfl rfl<|bo 2 3 rfl rfl<|bo 1 2 rfl rfl<|bo 0 1 rfl rfl<|?_
   refine ret3 (v1 := sl nn (([] : List (List Value)).length)) (v2 := i6 0) (v3 := i6 2) rfl rfl rfl rfl (X7 (nn, m0_2, p0_3, m0_4) (i := 0) rfl (by first | rfl | rw [(show (([] : List (List Value)).length) = ([] : List Ta).length from (AllC.nil (G := g_tag_Entry) (h := Qt) (sz := 6)).len), (show n0_3 = a0.parts_.length from hn0_3)]) (by first | exact Imp.refl _ | exact Imp.of (by rw [(show (([] : List (List Value)).length) = ([] : List Ta).length from (AllC.nil (G := g_tag_Entry) (h := Qt) (sz := 6)).len), (show n0_3 = a0.parts_.length from hn0_3)] <;> rfl)))
  ·refine Jk<|Jc<|Jc<|?_
   try dsimp only [z1, z2, z5, z6, z7, z8]
   refine Ja<|mv (.pointer (some ⟨pb0, 0, none⟩))<|lv (Jh rfl)<|lf runUnderlying119 rfl sizeOf116 rfl<|ll 0 (.map (some m0_2)) isAgg116<|mv (i6 a1)<|Xi (fun w hF hS => Ji9 (i := 1) (fk := (fun x_ : Int => i6 x_)) (fv := (fun x_ : Bool => .bool x_)) (k := a1) (z := false) Jhc underlying116 underlying3 zeroValue4 rfl rfl hS rfl) rfl rfl rfl<|Jd<|?_
   revert H58
   refine ci ((mGet a0.starts_ a1).getD false) rfl (fun hb H59=>?_) fun hb H60=>?_
   ·refine Jc<|Ja<|ag (.slice none 0 0)<|ag (i6 0)<|ag (i6 13)<|Jd<|Jl<|Jm 83 6<|?_
    obtain rfl := sj H59
    refine bo 4 5 rfl rfl<|Qp 4 rfl (Qh (p := nn) rfl (AllC.nil (G := g_tag_Entry) (h := Qt) (sz := 6)))<|bo 3 4 rfl rfl<|bo 2 3 rfl rfl<|bo 1 2 rfl rfl<|bo 0 1 rfl rfl<|?_
    refine ret3 (v1 := sl nn (([] : List (List Value)).length)) (v2 := i6 0) (v3 := i6 13) rfl rfl rfl rfl (X7 (nn, m0_2, p0_3, m0_4) (i := 0) rfl (by first | rfl | rw [(show (([] : List (List Value)).length) = ([] : List Ta).length from (AllC.nil (G := g_tag_Entry) (h := Qt) (sz := 6)).len), (show n0_3 = a0.parts_.length from hn0_3)]) (by first | exact Imp.refl _ | exact Imp.of (by rw [(show (([] : List (List Value)).length) = ([] : List Ta).length from (AllC.nil (G := g_tag_Entry) (h := Qt) (sz := 6)).len), (show n0_3 = a0.parts_.length from hn0_3)] <;> rfl)))
   ·refine Jk<|Jc<|?_
    try dsimp only [z1, z2, z5, z6, z7, z8]
    refine Ja<|mv (.pointer (some ⟨pb0, 0, none⟩))<|lv (Jh rfl)<|lf runUnderlying119 rfl sizeOf116 rfl<|ll 0 (.map (some m0_2)) isAgg116<|mv (i6 a1)<|?_
    refine Jha (Je0 (u := true) (i := 1) (rds := []) (fk := (fun x_ : Int => i6 x_)) (fv := (fun x_ : Bool => .bool x_)) (k := a1) (v := true) Jhc (.inr rfl) underlying116 underlying3 rfl rfl rfl rfl) rfl rfl (fun _ => ?_)
    refine Jd<|Jc<|Ja<|mv (.pointer (some ⟨pb0, 0, none⟩))<|mv (i6 a1)<|?_
    obtain ⟨t36, h_t36, H61⟩ := Je H60; clear H60
    refine Qd (fun w hF hS => k132 (a0 := (⟨a0.s_, a0.big_, (Z5 a0.starts_ a1 true), a0.parts_, a0.places_⟩ : Te)) (Jp w) (Xy (fk := (fun x_ : Int => i6 x_)) (fv := (fun x_ : Bool => .bool x_)) (i := 1) hS rfl) (Ye (i := 2) hn0_3 hS rfl) (Xy (fk := (fun x_ : (List UInt8) => str x_)) (fv := (fun x_ : Ti => .agg #[i6 x_.entry_, i6 x_.from_, i6 x_.to_])) (i := 3) hS rfl) (Q3 (i := 0) hS rfl) h_t36) call132 rfl rfl rfl<|ag (i6 t36)<|Jd<|Jc<|Jc<|Ja<|mv (i6 a3)<|lv (Jff rfl rfl)<|mv (.bool (decide (20 ≤ a3)))<|?_
    revert H61
    refine sp (fun hb H62=>?_) fun hb H63=>?_
    ·refine pa<|pa<|pT (.bool true)<|mv (.bool true)<|pa<|pa<|pT (.bool true)<|Jd<|Vj rfl<|Jc<|Ja<|ag (.slice none 0 0)<|ag (i6 0)<|ag (i6 4)<|Jd<|Jl<|Jm 83 6<|?_
     obtain rfl := sj H62
     refine bo 4 5 rfl rfl<|Qp 4 rfl (Qh (p := nn) rfl (AllC.nil (G := g_tag_Entry) (h := Qt) (sz := 6)))<|bo 3 4 rfl rfl<|bo 2 3 rfl rfl<|bo 1 2 rfl rfl<|bo 0 1 rfl rfl<|?_
     refine ret3 (v1 := sl nn (([] : List (List Value)).length)) (v2 := i6 0) (v3 := i6 4) rfl rfl rfl rfl (X7 (nn, m0_2, p0_3, m0_4) (i := 0) rfl (by first | rfl | rw [(show (([] : List (List Value)).length) = ([] : List Ta).length from (AllC.nil (G := g_tag_Entry) (h := Qt) (sz := 6)).len), (show n0_3 = a0.parts_.length from hn0_3)]) (by first | exact Imp.refl _ | exact Imp.of (by rw [(show (([] : List (List Value)).length) = ([] : List Ta).length from (AllC.nil (G := g_tag_Entry) (h := Qt) (sz := 6)).len), (show n0_3 = a0.parts_.length from hn0_3)] <;> rfl)))
    ·refine mv (i6 a2)<|lv (Yn rfl rfl)<|pF (.bool (decide (5 < a2)))<|mv (.bool (decide (5 < a2)))<|?_
     revert H63
     refine sp (fun hb H64=>?_) fun hb H65=>?_
     ·refine pa<|pa<|pT (.bool true)<|Jd<|Vj rfl<|Jc<|?_
      try dsimp only [z1, z2, z5, z6, z7, z8]
      refine Ja<|ag (.slice none 0 0)<|ag (i6 0)<|ag (i6 4)<|Jd<|Jl<|Jm 83 6<|?_
      obtain rfl := sj H64
      refine bo 4 5 rfl rfl<|Qp 4 rfl (Qh (p := nn) rfl (AllC.nil (G := g_tag_Entry) (h := Qt) (sz := 6)))<|bo 3 4 rfl rfl<|bo 2 3 rfl rfl<|bo 1 2 rfl rfl<|bo 0 1 rfl rfl<|?_
      refine ret3 (v1 := sl nn (([] : List (List Value)).length)) (v2 := i6 0) (v3 := i6 4) rfl rfl rfl rfl (X7 (nn, m0_2, p0_3, m0_4) (i := 0) rfl (by first | rfl | rw [(show (([] : List (List Value)).length) = ([] : List Ta).length from (AllC.nil (G := g_tag_Entry) (h := Qt) (sz := 6)).len), (show n0_3 = a0.parts_.length from hn0_3)]) (by first | exact Imp.refl _ | exact Imp.of (by rw [(show (([] : List (List Value)).length) = ([] : List Ta).length from (AllC.nil (G := g_tag_Entry) (h := Qt) (sz := 6)).len), (show n0_3 = a0.parts_.length from hn0_3)] <;> rfl)))
     ·refine mv (i6 t36)<|lv (Yn rfl rfl)<|pF (.bool (decide (200 < t36)))<|Jd<|?_
      revert H65
      refine ci (decide (200 < t36)) rfl (fun hb H66=>?_) fun hb H67=>?_
      ·refine Jc ?_
       try dsimp only [z1, z2, z5, z6, z7, z8]
       refine Ja<|ag (.slice none 0 0)<|ag (i6 0)<|ag (i6 4)<|Jd<|Jl<|Jm 83 6<|?_
       obtain rfl := sj H66
       refine bo 4 5 rfl rfl<|Qp 4 rfl (Qh (p := nn) rfl (AllC.nil (G := g_tag_Entry) (h := Qt) (sz := 6)))<|bo 3 4 rfl rfl<|bo 2 3 rfl rfl<|bo 1 2 rfl rfl<|bo 0 1 rfl rfl<|?_
       refine ret3 (v1 := sl nn (([] : List (List Value)).length)) (v2 := i6 0) (v3 := i6 4) rfl rfl rfl rfl (X7 (nn, m0_2, p0_3, m0_4) (i := 0) rfl (by first | rfl | rw [(show (([] : List (List Value)).length) = ([] : List Ta).length from (AllC.nil (G := g_tag_Entry) (h := Qt) (sz := 6)).len), (show n0_3 = a0.parts_.length from hn0_3)]) (by first | exact Imp.refl _ | exact Imp.of (by rw [(show (([] : List (List Value)).length) = ([] : List Ta).length from (AllC.nil (G := g_tag_Entry) (h := Qt) (sz := 6)).len), (show n0_3 = a0.parts_.length from hn0_3)] <;> rfl)))
      ·refine Jk<|Jc<|Jc<|?_
       try dsimp only [z1, z2, z5, z6, z7, z8]
       refine Ja<|mv (.pointer (some ⟨pb0, 0, none⟩))<|mv (i6 a1)<|mv (i6 t36)<|?_
       obtain ⟨t50, h_t50, H68⟩ := Je H67; clear H67
       refine lv (Wu rfl rfl h_t50) ?_
       obtain ⟨t51, h_t51, H69⟩ := Je H68; clear H68
       refine lv (J1 rfl rfl h_t51) ?_
       obtain ⟨t52, h_t52, H70⟩ := Je H69; clear H69
       refine lv (J1 rfl rfl h_t52) ?_
       obtain ⟨t53, h_t53, H71⟩ := Je H70; clear H70
       refine Qd (fun w hF hS => k176 (a0 := (⟨a0.s_, a0.big_, (Z5 a0.starts_ a1 true), a0.parts_, a0.places_⟩ : Te)) (Jp w) (Xy (fk := (fun x_ : Int => i6 x_)) (fv := (fun x_ : Bool => .bool x_)) (i := 1) hS rfl) (Ye (i := 2) hn0_3 hS rfl) (Xy (fk := (fun x_ : (List UInt8) => str x_)) (fv := (fun x_ : Ti => .agg #[i6 x_.entry_, i6 x_.from_, i6 x_.to_])) (i := 3) hS rfl) (Q3 (i := 0) hS rfl) h_t53) call176 rfl rfl rfl<|lv (Ja4 rfl)<|Jd<|?_
       revert H71
       refine ci (!t53) rfl (fun hb H72=>?_) fun hb H73=>?_
       ·refine Jc<|Ja<|ag (.slice none 0 0)<|ag (i6 0)<|ag (i6 2)<|Jd<|Jl<|Jm 83 6<|?_
        obtain rfl := sj H72
        refine bo 4 5 rfl rfl<|Qp 4 rfl (Qh (p := nn) rfl (AllC.nil (G := g_tag_Entry) (h := Qt) (sz := 6)))<|bo 3 4 rfl rfl<|bo 2 3 rfl rfl<|bo 1 2 rfl rfl<|bo 0 1 rfl rfl<|?_
        refine ret3 (v1 := sl nn (([] : List (List Value)).length)) (v2 := i6 0) (v3 := i6 2) rfl rfl rfl rfl (X7 (nn, m0_2, p0_3, m0_4) (i := 0) rfl (by first | rfl | rw [(show (([] : List (List Value)).length) = ([] : List Ta).length from (AllC.nil (G := g_tag_Entry) (h := Qt) (sz := 6)).len), (show n0_3 = a0.parts_.length from hn0_3)]) (by first | exact Imp.refl _ | exact Imp.of (by rw [(show (([] : List (List Value)).length) = ([] : List Ta).length from (AllC.nil (G := g_tag_Entry) (h := Qt) (sz := 6)).len), (show n0_3 = a0.parts_.length from hn0_3)] <;> rfl)))
       ·refine Jk<|Jc<|?_
        try dsimp only [z1, z2, z5, z6, z7, z8]
        refine Ja<|mv (.pointer (some ⟨pb0, 0, none⟩))<|mv (.pointer (some ⟨pb0, 0, none⟩))<|lv (Jh rfl)<|lf runUnderlying119 rfl sizeOf48 rfl<|ll 0 (sl p0_3 n0_3) isAgg48<|mv (i6 a1)<|mv (i6 a1)<|?_
        obtain ⟨t62, h_t62, H74⟩ := Je H73; clear H73
        refine lv (J1 rfl rfl h_t62)<|mv (i6 t36)<|?_
        obtain ⟨t64, h_t64, H75⟩ := Je H74; clear H74
        refine lv (Wu rfl rfl h_t64) ?_
        obtain ⟨t65, h_t65, H76⟩ := Je H75; clear H75
        refine lv (J1 rfl rfl h_t65) ?_
        obtain ⟨t66, h_t66, H77⟩ := Je H76; clear H76
        refine lv (J1 rfl rfl h_t66)<|lv (Xv (pl := #[(0, 1), (1, 1)]) (ps := [(0, i6 a1), (1, i6 t66)]) (cells := #[i6 a1, i6 t66]) zeroValue56 runUnderlying56 (fun w => by kernel_rfl) rfl rfl)<|?_
        refine Qg (vs := [.agg #[i6 a1, i6 t66]]) (cs := [i6 a1, i6 t66]) underlying48 sizeOf56 zeroValue56 rfl rfl rfl rfl rfl rfl rfl (fun b3 => ?_)
        obtain ⟨l69, h_l69, H78⟩ := Je H77; clear H77
        refine Qe (Xp (i := 2) (hn := hn0_3) (rds := [5]) (p := p0_3) (sz := 2) (by_ := 16) (f := Jg) (ys := a0.parts_) (ls := ([(⟨a1, t66⟩ : Td)] : List Td)) (V := .slice (some ⟨b3, 0, none⟩) 1 1) underlying48 (Q5 typeInfo56) rfl rfl rfl rfl rfl rfl rfl rfl rfl rfl (fun w L' hF hS hi => Wr (i := 5) hS ((hi 5 (by simp)).trans rfl) rfl rfl) (fun _ => rfl) (fun _ => rfl) h_l69) rfl rfl rfl (fun p => ?_)
        refine lv (Jh rfl)<|lf runUnderlying119 rfl sizeOf48 rfl<|st (i := 0) [sl p l69.length] [str a0.s_, .bool a0.big_, .map (some m0_2), sl p l69.length, .map (some m0_4)] sizeOf48 rfl rfl<|Jd<|Jc<|Ja<|mv (.pointer (some ⟨pb0, 0, none⟩))<|mv (i6 a1)<|?_
        obtain ⟨t74, h_t74, H79⟩ := Je H78; clear H78
        refine lv (J1 rfl rfl h_t74)<|mv (i6 t36)<|?_
        obtain ⟨t76, h_t76, H80⟩ := Je H79; clear H79
        refine lv (Wu rfl rfl h_t76) ?_
        obtain ⟨t77, h_t77, H81⟩ := Je H80; clear H80
        refine lv (J1 rfl rfl h_t77) ?_
        obtain ⟨t78, h_t78, H82⟩ := Je H81; clear H81
        refine Qd (fun w hF hS => k132 (a0 := (⟨a0.s_, a0.big_, (Z5 a0.starts_ a1 true), l69, a0.places_⟩ : Te)) (Jp w) (Xy (fk := (fun x_ : Int => i6 x_)) (fv := (fun x_ : Bool => .bool x_)) (i := 1) hS rfl) (Ye (i := 2) rfl hS rfl) (Xy (fk := (fun x_ : (List UInt8) => str x_)) (fv := (fun x_ : Ti => .agg #[i6 x_.entry_, i6 x_.from_, i6 x_.to_])) (i := 3) hS rfl) (Q3 (i := 0) hS rfl) h_t78) call132 rfl rfl rfl<|ag (i6 t78)<|Jd<|?_
        refine Qj (r := r) (σ := Unit) (τ := Unit) (fun s => Y0 a0 a1 a2 a5 self t36 l69 t78) (fun s t => [(0, .pointer (some ⟨pb0, 0, none⟩)), (1, i6 a1), (2, i6 a2), (5, str a5), (12, .slice none 0 0), (13, i6 t78), (15, i6 t36)]) (fun s t => [Jf pb0 [str a0.s_, .bool a0.big_, .map (some m0_2), sl p l69.length, .map (some m0_4)] 119, Q0 (fun x_ : Int => i6 x_) (fun x_ : Bool => .bool x_) m0_2 (Z5 a0.starts_ a1 true), Jw 56 2 (sl p l69.length) l69.length (l69.map Jg), Q0 (fun x_ : (List UInt8) => str x_) (fun x_ : Ti => .agg #[i6 x_.entry_, i6 x_.from_, i6 x_.to_]) m0_4 a0.places_, X8 Qt Qt]) (fun s t => True) ?_ ?_
        ·refine Jc<|Ja<|mv (.bool a4)<|mv (.bool a4)<|?_
         revert H82
         refine sp (fun hb H107=>?_) fun hb H110=>?_
         ·refine mv (i6 t78)<|lv (Yt rfl rfl)<|pT (.bool (decide (t78 ≠ 0)))<|Jd<|?_
          revert H107
          refine ci (decide (t78 ≠ 0)) rfl (fun hb H108=>?_) fun hb H109=>?_
          ·refine Jc<|Ja<|ag (.slice none 0 0)<|ag (i6 0)<|ag (i6 1)<|Jd<|Jl<|Jm 83 6<|?_
           obtain rfl := sj H108
           refine bo 4 6 rfl rfl<|Qp 4 rfl (Qh (p := nn) rfl (AllC.nil (G := g_tag_Entry) (h := Qt) (sz := 6)))<|bo 3 4 rfl rfl<|bo 2 3 rfl rfl<|bo 1 2 rfl rfl<|bo 0 1 rfl rfl<|?_
           refine ret3 (v1 := sl nn (([] : List (List Value)).length)) (v2 := i6 0) (v3 := i6 1) rfl rfl rfl rfl (X7 (nn, m0_2, p, m0_4) (i := 0) rfl (by first | rfl | rw [(show (([] : List (List Value)).length) = ([] : List Ta).length from (AllC.nil (G := g_tag_Entry) (h := Qt) (sz := 6)).len)]) (by first | exact Imp.refl _ | exact Imp.of (by rw [(show (([] : List (List Value)).length) = ([] : List Ta).length from (AllC.nil (G := g_tag_Entry) (h := Qt) (sz := 6)).len)] <;> rfl)))
          ·refine Jk ?_
           exact cl () () 0 [0, 1, 2, 3, 4] (by exact ⟨H109, trivial⟩)
         ·refine pa<|pa<|pF (.bool false)<|Jd<|Uh rfl<|Jk<|?_
          exact cl () () 0 [0, 1, 2, 3, 4] (by exact ⟨H110, trivial⟩)
        ·rintro _ _ gg H83 _
         try dsimp only at H83
         try dsimp only
         refine Qj (r := r) (σ := Int × (List UInt8) × Bool × (List (Int × Bool)) × (List Td) × (List ((List UInt8) × Ti)) × (List Ta)) (τ := J3 × Nat × (Option Addr × Nat) × Nat × (List (List Value)) × (Option Addr × Nat)) (fun s => Jcz s.1 s.2.1 s.2.2.1 s.2.2.2.1 s.2.2.2.2.1 s.2.2.2.2.2.1 s.2.2.2.2.2.2) (fun s t => [(12, .slice t.2.2.2.2.2.1 t.2.2.2.2.1.length t.2.2.2.2.2.2), (13, i6 s.1)]) (fun s t => [Jf pb0 [str s.2.1, .bool s.2.2.1, .map (some t.2.1), .slice t.2.2.1.1 s.2.2.2.2.1.length t.2.2.1.2, .map (some t.2.2.2.1)] 119, Q0 (fun x_ : Int => i6 x_) (fun x_ : Bool => .bool x_) t.2.1 s.2.2.2.1, Jw 56 2 (.slice t.2.2.1.1 s.2.2.2.2.1.length t.2.2.1.2) s.2.2.2.2.1.length (s.2.2.2.2.1.map Jg), Q0 (fun x_ : (List UInt8) => str x_) (fun x_ : Ti => .agg #[i6 x_.entry_, i6 x_.from_, i6 x_.to_]) t.2.2.2.1 s.2.2.2.2.2.1, X8 Qt t.1, Jw 83 6 (.slice t.2.2.2.2.2.1 t.2.2.2.2.1.length t.2.2.2.2.2.2) t.2.2.2.2.1.length (t.2.2.2.2.1.map idC)]) (fun s t => AllC g_tag_Entry t.1 6 t.2.2.2.2.1 s.2.2.2.2.2.2) ?_ ?_
         ·refine Jc ?_
          try dsimp only [z1, z2, z5, z6, z7, z8]
          refine Ja<|mv (i6 t36)<|mv (i6 0)<|Jd<|Ju<|Jm 83 6<|?_
          refine Za (σ := Int × Int × (List UInt8) × Int × Int × Int × (List UInt8) × Bool × (List (Int × Bool)) × (List Td) × (List ((List UInt8) × Ti)) × (List Ta)) (τ := J3 × Nat × (Option Addr × Nat) × Nat × (List (List Value)) × (Option Addr × Nat)) (fun next3 s => Xh self next3 s.1 s.2.1 s.2.2.1 s.2.2.2.1 s.2.2.2.2.1 s.2.2.2.2.2.1 s.2.2.2.2.2.2.1 s.2.2.2.2.2.2.2.1 s.2.2.2.2.2.2.2.2.1 s.2.2.2.2.2.2.2.2.2.1 s.2.2.2.2.2.2.2.2.2.2.1 s.2.2.2.2.2.2.2.2.2.2.2) (fun s t => [(0, .pointer (some ⟨pb0, 0, none⟩)), (1, i6 s.1), (2, i6 s.2.1), (5, str s.2.2.1), (12, .slice t.2.2.2.2.2.1 t.2.2.2.2.1.length t.2.2.2.2.2.2), (13, i6 s.2.2.2.1), (84, i6 s.2.2.2.2.1), (85, i6 s.2.2.2.2.2.1)]) (fun s t => [Jf pb0 [str s.2.2.2.2.2.2.1, .bool s.2.2.2.2.2.2.2.1, .map (some t.2.1), .slice t.2.2.1.1 s.2.2.2.2.2.2.2.2.2.1.length t.2.2.1.2, .map (some t.2.2.2.1)] 119, Q0 (fun x_ : Int => i6 x_) (fun x_ : Bool => .bool x_) t.2.1 s.2.2.2.2.2.2.2.2.1, Jw 56 2 (.slice t.2.2.1.1 s.2.2.2.2.2.2.2.2.2.1.length t.2.2.1.2) s.2.2.2.2.2.2.2.2.2.1.length (s.2.2.2.2.2.2.2.2.2.1.map Jg), Q0 (fun x_ : (List UInt8) => str x_) (fun x_ : Ti => .agg #[i6 x_.entry_, i6 x_.from_, i6 x_.to_]) t.2.2.2.1 s.2.2.2.2.2.2.2.2.2.2.1, X8 Qt t.1, Jw 83 6 (.slice t.2.2.2.2.2.1 t.2.2.2.2.1.length t.2.2.2.2.2.2) t.2.2.2.2.1.length (t.2.2.2.2.1.map idC)]) (fun s t => AllC g_tag_Entry t.1 6 t.2.2.2.2.1 s.2.2.2.2.2.2.2.2.2.2.2) (a1, a2, a5, t78, t36, 0, a0.s_, a0.big_, (Z5 a0.starts_ a1 true), l69, a0.places_, ([] : List Ta)) (Qt, m0_2, p, m0_4, ([] : List (List Value)), nn) [0, 1, 2, 3, 4, 5] H83 (by exact (AllC.nil (G := g_tag_Entry) (h := Qt) (sz := 6))) (by exact ⟨rfl, rfl, rfl, rfl, rfl, rfl, rfl, rfl, trivial⟩) (by decide) rfl ?_
          rintro ⟨x1_2, x2_2, x5_2, x13_3, x84_2, x85_2, m_5, m_6, mp_5, l_5, mp_6, l_6⟩ ⟨hp_2, b_3, p_4, b_4, css_2, p_5⟩ m3 gg H85 pf_3
          clear H83
          try dsimp only at H85
          generalize hn3 : it (fun next3 s => Xh self next3 s.1 s.2.1 s.2.2.1 s.2.2.2.1 s.2.2.2.2.1 s.2.2.2.2.2.1 s.2.2.2.2.2.2.1 s.2.2.2.2.2.2.2.1 s.2.2.2.2.2.2.2.2.1 s.2.2.2.2.2.2.2.2.2.1 s.2.2.2.2.2.2.2.2.2.2.1 s.2.2.2.2.2.2.2.2.2.2.2) m3 = next3 at H85
          try dsimp only
          refine Jc<|Ja<|lv (Xz rfl rfl)<|Jd<|?_
          try dsimp only [z1, z2, z5, z6, z7, z8]
          refine Jc ?_
          revert H85
          refine ci (decide (x85_2 < x84_2)) rfl (fun hb H86=>?_) fun hb H106=>?_
          ·refine Jk<|Jc<|Ju<|Jc<|Ja<|mv (i6 x85_2)<|ag (i6 x85_2)<|Jd<|?_
           try dsimp only [z1, z2, z5, z6, z7, z8]
           refine Jc<|Ja<|mv (i6 x1_2)<|?_
           obtain ⟨t89, h_t89, H87⟩ := Je H86; clear H86
           refine lv (J1 rfl rfl h_t89)<|mv (i6 x85_2)<|?_
           obtain ⟨t91, h_t91, H88⟩ := Je H87; clear H87
           refine lv (Wu rfl rfl h_t91) ?_
           obtain ⟨t92, h_t92, H89⟩ := Je H88; clear H88
           refine lv (J1 rfl rfl h_t92)<|ag (i6 t92)<|Jd<|?_
           try dsimp only [z1, z2, z5, z6, z7, z8]
           refine Jc<|Ja<|mv (.pointer (some ⟨pb0, 0, none⟩))<|mv (i6 t92)<|?_
           obtain ⟨t95, h_t95, H90⟩ := Je H89; clear H89
           refine Qd (fun w hF hS => k132 (a0 := (⟨m_5, m_6, mp_5, l_5, mp_6⟩ : Te)) (Jp w) (Xy (fk := (fun x_ : Int => i6 x_)) (fv := (fun x_ : Bool => .bool x_)) (i := 1) hS rfl) (Ye (i := 2) rfl hS rfl) (Xy (fk := (fun x_ : (List UInt8) => str x_)) (fv := (fun x_ : Ti => .agg #[i6 x_.entry_, i6 x_.from_, i6 x_.to_])) (i := 3) hS rfl) (Q3 (i := 0) hS rfl) h_t95) call132 rfl rfl rfl<|lv (Xv (pl := #[(0, 1), (1, 5)]) (ps := [(0, i6 t95)]) (cells := #[i6 t95, i6 0, str [], .slice none 0 0, .slice none 0 0, .slice none 0 0]) zeroValue83 runUnderlying83 (fun w => by kernel_rfl) rfl (by kernel_rfl))<|?_
           refine X1 (cs := [i6 0, i6 0, str [], .slice none 0 0, .slice none 0 0, .slice none 0 0]) zeroValue83 rfl rfl rfl (fun b4 => ?_)
           refine st (i := 6) [i6 t95, i6 0, str [], .slice none 0 0, .slice none 0 0, .slice none 0 0] [i6 t95, i6 0, str [], .slice none 0 0, .slice none 0 0, .slice none 0 0] sizeOf83 rfl rfl<|Jd<|?_
           try dsimp only [z1, z2, z5, z6, z7, z8]
           refine Qj (r := r) (σ := Unit) (τ := Unit) (fun s => Z1 self x1_2 x2_2 x5_2 x13_3 x84_2 x85_2 m_5 m_6 mp_5 l_5 mp_6 l_6 next3 t92 t95) (fun s t => [(0, .pointer (some ⟨pb0, 0, none⟩)), (1, i6 x1_2), (2, i6 x2_2), (5, str x5_2), (12, sl p_5 css_2.length), (13, i6 x13_3), (17, i6 t92), (18, .pointer (some ⟨b4, 0, none⟩)), (84, i6 x84_2), (85, i6 x85_2)]) (fun s t => [Jf pb0 [str m_5, .bool m_6, .map (some b_3), sl p_4 l_5.length, .map (some b_4)] 119, Q0 (fun x_ : Int => i6 x_) (fun x_ : Bool => .bool x_) b_3 mp_5, Jw 56 2 (sl p_4 l_5.length) l_5.length (l_5.map Jg), Q0 (fun x_ : (List UInt8) => str x_) (fun x_ : Ti => .agg #[i6 x_.entry_, i6 x_.from_, i6 x_.to_]) b_4 mp_6, X8 Qt hp_2, Jw 83 6 (sl p_5 css_2.length) css_2.length (css_2.map idC), Jf b4 [i6 t95, i6 0, str [], .slice none 0 0, .slice none 0 0, .slice none 0 0] 83]) (fun s t => True) ?_ ?_
           ·refine Jc ?_
            exact Qx (Kd.p :: Kd.p :: Kd.p :: Kd.p :: Kd.d [6] _ :: Kd.p :: Kd.p :: Kd.p :: Kd.d [5] _ :: Kd.d [5] _ :: Kd.d [5] _ :: Kd.p :: Kd.p :: []) 0 mixed (by
             refine dm (i6 x85_2)<|dv (Yn rfl rfl)<|dm (.bool (decide (0 < x85_2)))<|?_
             refine Jdv (fun hb => ?_) (fun hb => ?_)
             ·have H100 := Jec hb H90
              refine dv (J8 runUnderlying83 rfl sizeOf3 rfl rfl)<|dl (i6 t95) isAgg3<|dm (sl p_5 css_2.length)<|dm (i6 x85_2)<|?_
              have h_t104 := Jy H100
              have H101 := Jq H100
              refine dv (Zf rfl rfl h_t104) ?_
              have h_t105 := Jy H101
              have H102 := Jq H101
              refine Jah (fun w L' hF hS hi => Ue underlying36 sizeOf83 rfl rfl (Wt (i := 5) (E := 83) (sz := 6) (n := css_2.length) (a := p_5.1) (c := p_5.2) hS ((hi 5 (by simp)).trans rfl)) rfl (pf_3.ix h_t105)) rfl rfl<|Jif rfl rfl (fun w L' hF hS hi => Jey runUnderlying83 rfl sizeOf3 rfl rfl (Wt (i := 5) (E := 83) (sz := 6) (n := css_2.length) (a := p_5.1) (c := p_5.2) hS ((hi 5 (by simp)).trans rfl)) (pf_3.ix h_t105))<|Jah (fun w L' hF hS hi => Xo (f := idC) (i := (val (gI (x85_2 - 1)))) (sz := 6) (j := 0) (v := i6 (val (Zu l_6 (val (gI (x85_2 - 1))))).Tag) isAgg3 rfl rfl (Wt (i := 5) (E := 83) (sz := 6) (n := css_2.length) (a := p_5.1) (c := p_5.2) hS ((hi 5 (by simp)).trans rfl)) (pf_3.ix h_t105) (Jei ((pf_3.eta h_t105).trans (Zi (pf_3.at h_t105))) rfl)) rfl rfl<|dv (Jfo rfl rfl)<|dv (Wq (v := .bool (decide (t95 ≤ (val (Zu l_6 (val (gI (x85_2 - 1))))).Tag))) rfl rfl)<|Yw<|?_
              try dsimp only [z1, z2, z5, z6, z7, z8]
              revert H102
              refine ci (decide (t95 ≤ (val (Zu l_6 (val (gI (x85_2 - 1))))).Tag)) rfl (fun hb H103=>?_) fun hb H104=>?_
              ·refine Jc<|Ja<|ag (.slice none 0 0)<|ag (i6 0)<|ag (i6 5)<|Jd<|?_
               try dsimp only [z1, z2, z5, z6, z7, z8]
               refine Jl<|Jm 83 6<|?_
               obtain rfl := sj H103
               refine bo 4 7 rfl rfl<|Qp 4 rfl (Qh (p := nn) rfl (AllC.nil (G := g_tag_Entry) (h := hp_2) (sz := 6)))<|bo 3 4 rfl rfl<|bo 2 3 rfl rfl<|bo 1 2 rfl rfl<|bo 0 1 rfl rfl<|?_
               refine ret3 (v1 := sl nn (([] : List (List Value)).length)) (v2 := i6 0) (v3 := i6 5) rfl rfl rfl rfl (X7 (nn, b_3, p_4, b_4) (i := 0) rfl (by first | rfl | rw [(show (([] : List (List Value)).length) = ([] : List Ta).length from (AllC.nil (G := g_tag_Entry) (h := hp_2) (sz := 6)).len)]) (by first | exact Imp.refl _ | exact Imp.of (by rw [(show (([] : List (List Value)).length) = ([] : List Ta).length from (AllC.nil (G := g_tag_Entry) (h := hp_2) (sz := 6)).len)] <;> rfl)))
              ·refine Jk ?_
               exact cl () () 0 [0, 1, 2, 3, 4, 5, 6] (by exact ⟨H104, trivial⟩)
             ·have H105 := Jed hb H90
              refine dp<|dp<|dp<|dp<|dp<|dp<|dp<|dp<|dp<|dv (Jbk (v := .bool false) rfl rfl)<|Yw<|?_
              try dsimp only [z1, z2, z5, z6, z7, z8]
              refine Uh rfl<|Jk<|?_
              exact cl () () 0 [0, 1, 2, 3, 4, 5, 6] (by exact ⟨H105, trivial⟩)
             ) (by kernel_rfl)
           ·rintro _ _ gg H91 _
            try dsimp only at H91
            try dsimp only
            refine Jc<|Ja<|mv (.pointer (some ⟨pb0, 0, none⟩))<|mv (i6 t92)<|mv (i6 x2_2)<|mv (str x5_2)<|?_
            obtain ⟨t115, h_t115, H92⟩ := Je H91; clear H91
            refine lv (Yj rfl rfl h_t115)<|lf runUnderlying83 rfl sizeOf3 rfl<|ll 6 (i6 t95) isAgg3<|?_
            obtain ⟨t118, h_t118, H93⟩ := Je H92; clear H92
            refine Qd (fun w hF hS => k134 (Jp w) (tb_pow10.mono (hw.now hF)) h_t118) call134 rfl rfl rfl ?_
            obtain ⟨t119, h_t119, H94⟩ := Je H93; clear H93
            refine lv (Yj rfl rfl h_t119) ?_
            obtain ⟨t120, h_t120, H95⟩ := Je H94; clear H94
            refine bo 2 3 rfl rfl<|bo 1 2 rfl rfl<|bo 0 1 rfl rfl<|?_
            refine Qe (J4 (i := 0) (rds := []) (G := fun x : (Option Addr × Nat) × (Option Addr × Nat) × (Option Addr × Nat) × Nat × (Option Addr × Nat) × Nat => .tuple #[.agg #[i6 t120.1.Kind, str t120.1.Text, .slice x.1.1 t120.1.Ints.length x.1.2, .slice x.2.1.1 t120.1.Ratios.length x.2.1.2, .slice x.2.2.1.1 t120.1.Entries.length x.2.2.1.2], i6 t120.2.1]) (C := fun x : (Option Addr × Nat) × (Option Addr × Nat) × (Option Addr × Nat) × Nat × (Option Addr × Nat) × Nat => Jt (Jf pb0 [str t120.2.2.s_, .bool t120.2.2.big_, .map (some x.2.2.2.1), .slice x.2.2.2.2.1.1 t120.2.2.parts_.length x.2.2.2.2.1.2, .map (some x.2.2.2.2.2)] 119) (Jt (Q0 (fun x_ : Int => i6 x_) (fun x_ : Bool => .bool x_) x.2.2.2.1 t120.2.2.starts_) (Jt (Jw 56 2 (.slice x.2.2.2.2.1.1 t120.2.2.parts_.length x.2.2.2.2.1.2) t120.2.2.parts_.length (t120.2.2.parts_.map Jg)) (Jt (Q0 (fun x_ : (List UInt8) => str x_) (fun x_ : Ti => .agg #[i6 x_.entry_, i6 x_.from_, i6 x_.to_]) x.2.2.2.2.2 t120.2.2.places_) (Jt (Jw 3 1 (.slice x.1.1 t120.1.Ints.length x.1.2) t120.1.Ints.length (t120.1.Ints.map Q1)) (Jt (Jw 74 2 (.slice x.2.1.1 t120.1.Ratios.length x.2.1.2) t120.1.Ratios.length (t120.1.Ratios.map Jn)) (Wp 83 6 g_tag_Entry (.slice x.2.2.1.1 t120.1.Entries.length x.2.2.1.2) t120.1.Entries.length t120.1.Entries))))))) rfl (fun w L' S hF hS hi hp hlt ho hA => k177_b ih (a0 := (⟨m_5, m_6, mp_5, l_5, mp_6⟩ : Te)) hp hlt (Qr w S) rfl (tb_pow10.mono (hw.but hF ho)) h_t120) call177 rfl) rfl rfl rfl (fun ⟨p_6, p_7, p_8, p_9, p_10, p_11⟩ => ?_)
            refine ub 0 1 rfl rfl<|ub 1 2 rfl rfl<|ub 2 3 rfl rfl<|Qv 3 rfl<|Qv 7 rfl<|Qv 8 rfl<|mv (.tuple #[.agg #[i6 t120.1.Kind, str t120.1.Text, sl p_6 t120.1.Ints.length, sl p_7 t120.1.Ratios.length, sl p_8 t120.1.Entries.length], i6 t120.2.1])<|lv (Qb (v := .agg #[i6 t120.1.Kind, str t120.1.Text, sl p_6 t120.1.Ints.length, sl p_7 t120.1.Ratios.length, sl p_8 t120.1.Entries.length]) rfl rfl)<|lv (Qb (v := i6 t120.2.1) rfl rfl)<|lf runUnderlying83 rfl sizeOf38 rfl<|st (i := 6) [i6 t120.1.Kind, str t120.1.Text, sl p_6 t120.1.Ints.length, sl p_7 t120.1.Ratios.length, sl p_8 t120.1.Entries.length] [i6 t95, i6 t120.1.Kind, str t120.1.Text, sl p_6 t120.1.Ints.length, sl p_7 t120.1.Ratios.length, sl p_8 t120.1.Entries.length] sizeOf38 rfl rfl<|ag (i6 t120.2.1)<|Jd<|?_
            try dsimp only [z1, z2, z5, z6, z7, z8]
            refine Jc<|Jc<|Ja<|mv (i6 t120.2.1)<|lv (Yt rfl rfl)<|Jd<|?_
            try dsimp only [z1, z2, z5, z6, z7, z8]
            revert H95
            refine ci (decide (t120.2.1 ≠ 0)) rfl (fun hb H96=>?_) fun hb H97=>?_
            ·refine Jc<|Ja<|mv (i6 t120.2.1)<|ag (.slice none 0 0)<|ag (i6 0)<|ag (i6 t120.2.1)<|Jd<|?_
             try dsimp only [z1, z2, z5, z6, z7, z8]
             refine Jl<|Jm 83 6<|?_
             obtain rfl := sj H96
             refine bo 4 10 rfl rfl<|Qp 4 rfl (Qh (p := nn) rfl (AllC.nil (G := g_tag_Entry) (h := hp_2) (sz := 6)))<|bo 3 4 rfl rfl<|bo 2 3 rfl rfl<|bo 1 2 rfl rfl<|bo 0 1 rfl rfl<|?_
             refine ret3 (v1 := sl nn (([] : List (List Value)).length)) (v2 := i6 0) (v3 := i6 t120.2.1) rfl rfl rfl rfl (X7 (nn, p_9, p_10, p_11) (i := 0) rfl (by first | rfl | rw [(show (([] : List (List Value)).length) = ([] : List Ta).length from (AllC.nil (G := g_tag_Entry) (h := hp_2) (sz := 6)).len)]) (by first | exact Imp.refl _ | exact Imp.of (by rw [(show (([] : List (List Value)).length) = ([] : List Ta).length from (AllC.nil (G := g_tag_Entry) (h := hp_2) (sz := 6)).len)] <;> rfl)))
            ·refine Jk ?_
             try dsimp only [z1, z2, z5, z6, z7, z8]
             refine Ja<|mv (sl p_5 css_2.length)<|Q4 (i := 6) (vs := [i6 t95, i6 t120.1.Kind, str t120.1.Text, sl p_6 t120.1.Ints.length, sl p_7 t120.1.Ratios.length, sl p_8 t120.1.Entries.length]) isAgg83 sizeOf83 rfl rfl rfl rfl rfl<|?_
             refine Qg (vs := [.agg #[i6 t95, i6 t120.1.Kind, str t120.1.Text, sl p_6 t120.1.Ints.length, sl p_7 t120.1.Ratios.length, sl p_8 t120.1.Entries.length]]) (cs := [i6 t95, i6 t120.1.Kind, str t120.1.Text, sl p_6 t120.1.Ints.length, sl p_7 t120.1.Ratios.length, sl p_8 t120.1.Entries.length]) underlying36 sizeOf83 zeroValue83 rfl rfl rfl rfl rfl rfl rfl (fun b5 => ?_)
             try dsimp only [z1, z2, z5, z6, z7, z8]
             refine Jb1 (Φ := fun H_ => FrS H_ 1 (sl p_6 t120.1.Ints.length) (t120.1.Ints.map Q1)) 4 7 rfl rfl (by decide) (fun _ _ => Zn) (Jfe _) (fun hp_3 hle hf => ?_)
             try dsimp only [z1, z2, z5, z6, z7, z8]
             refine Jb1 (Φ := fun H_ => FrS H_ 2 (sl p_7 t120.1.Ratios.length) (t120.1.Ratios.map Jn)) 4 8 rfl rfl (by decide) (fun _ _ => Zn) (Jfe _) (fun hp_4 hle_2 hf_2 => ?_)
             refine Jcd 9 rfl (fun hp_5 css_3 hn pf_4 => ?_)
             rw [hn]
             try dsimp only [z1, z2, z5, z6, z7, z8]
             refine Qv 9 rfl ?_
             try dsimp only [z1, z2, z5, z6, z7, z8]
             refine Zm 4 9 rfl rfl (by decide) (fun _ _ => Zn) (fun hp_6 hle_3 hle_4 => ?_)
             try dsimp only [z1, z2, z5, z6, z7, z8]
             refine Jb1 (Φ := fun H_ => FrS H_ 6 (sl p_8 css_3.length) (css_3.map idC)) 4 11 rfl rfl (by decide) (fun _ _ => Zn) (Jfe _) (fun hp_7 hle_5 hf_3 => ?_)
             obtain ⟨l130, h_l130, H98⟩ := Je H97; clear H97
             refine Qe (V5 (i := 5) (k := 10) (p := p_5) (f := idC) (ys := css_2) (ls := [[i6 t95, i6 t120.1.Kind, str t120.1.Text, sl p_6 t120.1.Ints.length, sl p_7 t120.1.Ratios.length, sl p_8 css_3.length]]) underlying36 (Q5 typeInfo83) rfl rfl rfl rfl rfl rfl rfl rfl rfl rfl rfl rfl rfl rfl (by simp only [idC, List.map_cons, List.map_nil, List.all_cons, List.all_nil, (((hf.mono hle_2).mono hle_3).mono hle_5).one, ((hf_2.mono hle_3).mono hle_5).one, (Jag (xs := t120.1.Entries) hf_3 ((pf_4.mono hle_4).mono hle_5)).one] <;> rfl) (app63 (((((pf_3.mono hle).mono hle_2).mono hle_3).mono hle_5).app h_l130 (nc := [[i6 t95, i6 t120.1.Kind, str t120.1.Text, sl p_6 t120.1.Ints.length, sl p_7 t120.1.Ratios.length, sl p_8 css_3.length]]) rfl)) rfl) rfl rfl rfl (fun p_12 => ?_)
             have pf_5 : AllC g_tag_Entry hp_7 6 (css_2 ++ [[i6 t95, i6 t120.1.Kind, str t120.1.Text, sl p_6 t120.1.Ints.length, sl p_7 t120.1.Ratios.length, sl p_8 css_3.length]]) l130 := AllC.snocG ((((pf_3.mono hle).mono hle_2).mono hle_3).mono hle_5) h_l130 rfl ((g_tag_Entry_iff.2 ⟨rfl, ⟨rfl, rfl, (((hf.mono hle_2).mono hle_3).mono hle_5), ((hf_2.mono hle_3).mono hle_5), (Jag (xs := t120.1.Entries) hf_3 ((pf_4.mono hle_4).mono hle_5))⟩⟩))
             refine ag (sl p_12 ((css_2 ++ [[i6 t95, i6 t120.1.Kind, str t120.1.Text, .slice p_6.1 t120.1.Ints.length p_6.2, .slice p_7.1 t120.1.Ratios.length p_7.2, .slice p_8.1 css_3.length p_8.2]]).length))<|Jd<|?_
             try dsimp only [z1, z2, z5, z6, z7, z8]
             refine Ja ?_
             obtain ⟨t131, h_t131, H99⟩ := Je H98; clear H98
             refine lv (J1 rfl rfl h_t131)<|mv (i6 t131)<|Jd<|?_
             try dsimp only [z1, z2, z5, z6, z7, z8]
             exact cl (x1_2, x2_2, x5_2, x13_3, x84_2, t131, t120.2.2.s_, t120.2.2.big_, t120.2.2.starts_, t120.2.2.parts_, t120.2.2.places_, l130) (hp_7, p_9, p_10, p_11, (css_2 ++ [[i6 t95, i6 t120.1.Kind, str t120.1.Text, sl p_6 t120.1.Ints.length, sl p_7 t120.1.Ratios.length, sl p_8 css_3.length]]), p_12) m3 [0, 1, 2, 3, 4, 5] (by exact ⟨(by subst hn3; exact H99), pf_5⟩)
          ·refine Xa ?_
           exact cl (x13_3, m_5, m_6, mp_5, l_5, mp_6, l_6) (hp_2, b_3, p_4, b_4, css_2, p_5) 0 [0, 1, 2, 3, 4, 5] (by exact ⟨H106, pf_3⟩)
         ·rintro ⟨x13, m, m_2, mp, l, mp_2, l_2⟩ ⟨hp, b, p_2, b_2, css, p_3⟩ gg H84 pf
          try dsimp only at H84
          try dsimp only
          refine Jc<|Ja<|mv (sl p_3 css.length)<|mv (i6 x13)<|ag (sl p_3 css.length)<|ag (i6 x13)<|ag (i6 0)<|Jd<|?_
          try dsimp only [z1, z2, z5, z6, z7, z8]
          refine Jl ?_
          obtain rfl := sj H84
          refine bo 4 5 rfl rfl<|Qp 4 rfl (Qh (p := p_3) rfl pf)<|bo 3 4 rfl rfl<|bo 2 3 rfl rfl<|bo 1 2 rfl rfl<|bo 0 1 rfl rfl<|?_
          refine ret3 (v1 := sl p_3 css.length) (v2 := i6 x13) (v3 := i6 0) rfl rfl rfl rfl (X7 (p_3, b, p_2, b_2) (i := 0) rfl (by first | rfl | rw [(show css.length = l_2.length from pf.len)]) (by first | exact Imp.refl _ | exact Imp.of (by rw [(show css.length = l_2.length from pf.len)] <;> rfl)))
theorem k133 {a0 : Te} {pb0 : Nat} {m0_2 : Nat} {p0_3 : Option Addr × Nat} {n0_3 : Nat} {m0_4 : Nat} {a1 : Int} {a2 : Int} {a3 : Int} {a4 : Bool} {a5 : (List UInt8)} {r : (List Ta) × Int × Int × Te} {w : World} {h : J3} {S : Nat → Prop} (hcs : (Jt (Jf pb0 [str a0.s_, .bool a0.big_, .map (some m0_2), sl p0_3 n0_3, .map (some m0_4)] 119) (Jt (Q0 (fun x_ : Int => i6 x_) (fun x_ : Bool => .bool x_) m0_2 a0.starts_) (Jt (Jw 56 2 (sl p0_3 n0_3) n0_3 (a0.parts_.map Jg)) (Q0 (fun x_ : (List UInt8) => str x_) (fun x_ : Ti => .agg #[i6 x_.entry_, i6 x_.from_, i6 x_.to_]) m0_4 a0.places_)))).P S w) (hlt : ∀ b, S b → b < w.heap.size) (hw : Know h w S) (hn0_3 : n0_3 = a0.parts_.length) (tb_pow10 : TabH prog h "internal/strconv.uint64pow10" .u64 Lib.pow10Tab) (H : Jau a0 a1 a2 a3 a4 a5 = some r) : Does prog 133 (List.toArray [.pointer (some ⟨pb0, 0, none⟩), i6 a1, i6 a2, i6 a3, .bool a4, str a5]) w (fun v w' => ∃ x : (Option Addr × Nat) × Nat × (Option Addr × Nat) × Nat, v = (.tuple #[.slice x.1.1 r.1.length x.1.2, i6 r.2.1, i6 r.2.2.1]) ∧ Turn w w' S (Jt (Jf pb0 [str r.2.2.2.s_, .bool r.2.2.2.big_, .map (some x.2.1), .slice x.2.2.1.1 r.2.2.2.parts_.length x.2.2.1.2, .map (some x.2.2.2)] 119) (Jt (Q0 (fun x_ : Int => i6 x_) (fun x_ : Bool => .bool x_) x.2.1 r.2.2.2.starts_) (Jt (Jw 56 2 (.slice x.2.2.1.1 r.2.2.2.parts_.length x.2.2.1.2) r.2.2.2.parts_.length (r.2.2.2.parts_.map Jg)) (Jt (Q0 (fun x_ : (List UInt8) => str x_) (fun x_ : Ti => .agg #[i6 x_.entry_, i6 x_.from_, i6 x_.to_]) x.2.2.2 r.2.2.2.places_) (Wp 83 6 g_tag_Entry (.slice x.1.1 r.1.length x.1.2) r.1.length r.1)))))) := by
 obtain ⟨mm, hm⟩ := Je1 (show Zs (fun (self : (Te × Int × Int × Int × Bool × (List UInt8)) → Option ((List Ta) × Int × Int × Te)) (s : Te × Int × Int × Int × Bool × (List UInt8)) => Qs self s.1 s.2.1 s.2.2.1 s.2.2.2.1 s.2.2.2.2.1 s.2.2.2.2.2) (a0, a1, a2, a3, a4, a5) = some r from H)
 exact k133_it mm hcs hlt hw hn0_3 tb_pow10 hm
theorem k65 {a0 : Te} {pb0 : Nat} {p0_3 : Option Addr × Nat} {n0_3 : Nat} {Rq : Type} {kq : (Tf × Int × Te) → Option Rq} {r : Rq} {w : World} {h : J3} {S : Nat → Prop} (hcs : (Jt (Jf pb0 [str a0.s_, .bool a0.big_, .map none, sl p0_3 n0_3, .map none] 119) (Jw 56 2 (sl p0_3 n0_3) n0_3 (a0.parts_.map Jg))).P S w) (hlt : ∀ b, S b → b < w.heap.size) (hw : Know h w S) (hn0_3 : n0_3 = a0.parts_.length) (tb_pow10 : TabH prog h "internal/strconv.uint64pow10" .u64 Lib.pow10Tab) (H : Zg a0 kq = some r) : Does prog 65 (List.toArray [.pointer (some ⟨pb0, 0, none⟩)]) w (fun v w' => ∃ (r_ : Tf × Int × Te) (x : (Option Addr × Nat) × Nat × (Option Addr × Nat) × Nat), kq r_ = some r ∧ v = (.tuple #[.agg #[.bool r_.1.Big, .slice x.1.1 r_.1.Dirs.length x.1.2], i6 r_.2.1]) ∧ Turn w w' S (Jt (Jf pb0 [str r_.2.2.s_, .bool r_.2.2.big_, .map (some x.2.1), .slice x.2.2.1.1 r_.2.2.parts_.length x.2.2.1.2, .map (some x.2.2.2)] 119) (Jt (Q0 (fun x_ : Int => i6 x_) (fun x_ : Bool => .bool x_) x.2.1 r_.2.2.starts_) (Jt (Jw 56 2 (.slice x.2.2.1.1 r_.2.2.parts_.length x.2.2.1.2) r_.2.2.parts_.length (r_.2.2.parts_.map Jg)) (Jt (Q0 (fun x_ : (List UInt8) => str x_) (fun x_ : Ti => .agg #[i6 x_.entry_, i6 x_.from_, i6 x_.to_]) x.2.2.2 r_.2.2.places_) (Wp 36 1 gs_tag_Entry (.slice x.1.1 r_.1.Dirs.length x.1.2) r_.1.Dirs.length r_.1.Dirs)))))) := by
 refine enter (n := 136) func65 rfl rfl rfl S [Jt (Jf pb0 [str a0.s_, .bool a0.big_, .map none, sl p0_3 n0_3, .map none] 119) (Jw 56 2 (sl p0_3 n0_3) n0_3 (a0.parts_.map Jg))] (Sat.one hcs hlt)<|Qv 0 rfl<|Yg Qt<|Jc<|Ja<|?_
 refine X1 (cs := [.bool false, .slice none 0 0]) zeroValue24 rfl rfl rfl (fun b5 => ?_)
 refine ag (i6 0)<|Jd<|Jc<|Ja<|mv (.pointer (some ⟨pb0, 0, none⟩))<|mv (.pointer (some ⟨pb0, 0, none⟩))<|?_
 refine Wv (rds := []) (Jhm (fk := (fun x_ : Int => i6 x_)) (fv := (fun x_ : Bool => .bool x_))) rfl rfl rfl (fun b6 => ?_)
 refine Wv (rds := []) (Jhm (fk := (fun x_ : (List UInt8) => str x_)) (fv := (fun x_ : Ti => .agg #[i6 x_.entry_, i6 x_.from_, i6 x_.to_]))) rfl rfl rfl (fun b7 => ?_)
 refine lv (Jh rfl)<|lf runUnderlying119 rfl sizeOf116 rfl<|st (i := 0) [.map (some b6)] [str a0.s_, .bool a0.big_, .map (some b6), sl p0_3 n0_3, .map none] sizeOf116 rfl rfl<|lv (Jh rfl)<|lf runUnderlying119 rfl sizeOf117 rfl<|st (i := 0) [.map (some b7)] [str a0.s_, .bool a0.big_, .map (some b6), sl p0_3 n0_3, .map (some b7)] sizeOf117 rfl rfl<|Jd<|Jc<|Jc<|?_
 try dsimp only [z1, z2, z5, z6, z7, z8]
 refine Ja<|mv (.pointer (some ⟨pb0, 0, none⟩))<|lv (Jh rfl)<|lf runUnderlying119 rfl sizeOf9 rfl<|ll 0 (str a0.s_) isAgg9<|lv (Xn underlying9 rfl)<|lv (Yn rfl rfl)<|Jd<|?_
 revert H
 refine ci (decide (65000 < (a0.s_.length : Int))) rfl (fun hb H37=>?_) fun hb H38=>?_
 ·refine Jc<|Ja<|Q4 (i := 3) (vs := [.bool false, .slice none 0 0]) isAgg24 sizeOf24 rfl rfl rfl rfl rfl<|st (i := 3) [.bool false, .slice none 0 0] [.bool false, .slice none 0 0] sizeOf24 rfl rfl<|ag (i6 4)<|Jd<|Jl<|Jm 36 1<|bo 2 6 rfl rfl<|Qp 2 rfl (Qh (p := nn) rfl (AllC.nil (G := gs_tag_Entry) (h := Qt) (sz := 1)))<|bo 5 2 rfl rfl<|bo 1 5 rfl rfl<|bo 4 1 rfl rfl<|bo 0 4 rfl rfl<|?_
  refine Jao (i := 3) (vs := [.bool false, sl nn (([] : List (List Value)).length)]) (v2 := i6 4) isAgg24 sizeOf24 rfl rfl rfl rfl rfl (finXK ((⟨false, ([] : List (List Ta))⟩ : Tf), 4, (⟨a0.s_, a0.big_, ([] : (List (Int × Bool))), a0.parts_, ([] : (List ((List UInt8) × Ti)))⟩ : Te)) (nn, b6, p0_3, b7) H37 (i := 0) rfl (by first | rfl | rw [(show (([] : List (List Value)).length) = ([] : List (List Ta)).length from (AllC.nil (G := gs_tag_Entry) (h := Qt) (sz := 1)).len), (show n0_3 = a0.parts_.length from hn0_3)]) (by first | exact Imp.refl _ | exact Imp.of (by rw [(show (([] : List (List Value)).length) = ([] : List (List Ta)).length from (AllC.nil (G := gs_tag_Entry) (h := Qt) (sz := 1)).len), (show n0_3 = a0.parts_.length from hn0_3)] <;> rfl)))
 ·refine Jk ?_
  refine Qj (r := r) (σ := Unit) (τ := Unit) (fun s => U2 a0 kq) (fun s t => [(0, .pointer (some ⟨pb0, 0, none⟩)), (2, .pointer (some ⟨b5, 0, none⟩))]) (fun s t => [Jf pb0 [str a0.s_, .bool a0.big_, .map (some b6), sl p0_3 n0_3, .map (some b7)] 119, Jw 56 2 (sl p0_3 n0_3) n0_3 (a0.parts_.map Jg), X8 Qt Qt, Jf b5 [.bool false, .slice none 0 0] 24, Q0 (fun x_ : Int => i6 x_) (fun x_ : Bool => .bool x_) b6 ([] : (List (Int × Bool))), Q0 (fun x_ : (List UInt8) => str x_) (fun x_ : Ti => .agg #[i6 x_.entry_, i6 x_.from_, i6 x_.to_]) b7 ([] : (List ((List UInt8) × Ti)))]) (fun s t => True) ?_ ?_
  ·refine Jc<|Ja<|mv (.pointer (some ⟨pb0, 0, none⟩))<|lv (Jh rfl)<|lf runUnderlying119 rfl sizeOf9 rfl<|ll 0 (str a0.s_) isAgg9<|lv (Xn underlying9 rfl)<|lv (Xz rfl rfl)<|mv (.bool (decide ((a0.s_.length : Int) < 8)))<|?_
   revert H38
   refine sp (fun hb H65=>?_) fun hb H66=>?_
   ·refine pa<|pa<|pa<|pa<|pa<|pa<|pa<|pa<|pa<|pa<|pa<|pa<|pa<|pa<|pT (.bool true)<|Jd<|Vj rfl<|Jc<|Ja<|Q4 (i := 3) (vs := [.bool false, .slice none 0 0]) isAgg24 sizeOf24 rfl rfl rfl rfl rfl<|st (i := 3) [.bool false, .slice none 0 0] [.bool false, .slice none 0 0] sizeOf24 rfl rfl<|ag (i6 8)<|Jd<|Jl<|Jm 36 1<|bo 2 6 rfl rfl<|Qp 2 rfl (Qh (p := nn) rfl (AllC.nil (G := gs_tag_Entry) (h := Qt) (sz := 1)))<|bo 5 2 rfl rfl<|bo 1 5 rfl rfl<|bo 4 1 rfl rfl<|?_
    refine bo 0 4 rfl rfl ?_
    refine Jao (i := 3) (vs := [.bool false, sl nn (([] : List (List Value)).length)]) (v2 := i6 8) isAgg24 sizeOf24 rfl rfl rfl rfl rfl (finXK ((⟨false, ([] : List (List Ta))⟩ : Tf), 8, (⟨a0.s_, a0.big_, ([] : (List (Int × Bool))), a0.parts_, ([] : (List ((List UInt8) × Ti)))⟩ : Te)) (nn, b6, p0_3, b7) H65 (i := 0) rfl (by first | rfl | rw [(show (([] : List (List Value)).length) = ([] : List (List Ta)).length from (AllC.nil (G := gs_tag_Entry) (h := Qt) (sz := 1)).len), (show n0_3 = a0.parts_.length from hn0_3)]) (by first | exact Imp.refl _ | exact Imp.of (by rw [(show (([] : List (List Value)).length) = ([] : List (List Ta)).length from (AllC.nil (G := gs_tag_Entry) (h := Qt) (sz := 1)).len), (show n0_3 = a0.parts_.length from hn0_3)] <;> rfl)))
   ·refine mv (.pointer (some ⟨pb0, 0, none⟩))<|lv (Jh rfl)<|lf runUnderlying119 rfl sizeOf9 rfl<|ll 0 (str a0.s_) isAgg9<|?_
    obtain ⟨t37, h_t37, H67⟩ := Je H66; clear H66
    refine lv (Un underlying9 rfl rfl h_t37)<|lv (Jea rfl rfl)<|mv (.bool (decide (t37 ≠ [73, 73, 42, 0])))<|?_
    revert H67
    refine sp (fun hb H68=>?_) fun hb H72=>?_
    ·refine mv (.pointer (some ⟨pb0, 0, none⟩))<|lv (Jh rfl)<|lf runUnderlying119 rfl sizeOf9 rfl<|ll 0 (str a0.s_) isAgg9<|?_
     obtain ⟨t44, h_t44, H69⟩ := Je H68; clear H68
     refine lv (Un underlying9 rfl rfl h_t44)<|lv (Jea rfl rfl)<|pT (.bool (decide (t44 ≠ [77, 77, 0, 42])))<|pF (.bool (decide (t44 ≠ [77, 77, 0, 42])))<|Jd<|?_
     revert H69
     refine ci (decide (t44 ≠ [77, 77, 0, 42])) rfl (fun hb H70=>?_) fun hb H71=>?_
     ·refine Jc ?_
      try dsimp only [z1, z2, z5, z6, z7, z8]
      refine Ja<|Q4 (i := 3) (vs := [.bool false, .slice none 0 0]) isAgg24 sizeOf24 rfl rfl rfl rfl rfl<|st (i := 3) [.bool false, .slice none 0 0] [.bool false, .slice none 0 0] sizeOf24 rfl rfl<|ag (i6 8)<|Jd<|Jl<|Jm 36 1<|bo 2 6 rfl rfl<|Qp 2 rfl (Qh (p := nn) rfl (AllC.nil (G := gs_tag_Entry) (h := Qt) (sz := 1)))<|bo 5 2 rfl rfl<|bo 1 5 rfl rfl<|bo 4 1 rfl rfl<|bo 0 4 rfl rfl<|?_
      refine Jao (i := 3) (vs := [.bool false, sl nn (([] : List (List Value)).length)]) (v2 := i6 8) isAgg24 sizeOf24 rfl rfl rfl rfl rfl (finXK ((⟨false, ([] : List (List Ta))⟩ : Tf), 8, (⟨a0.s_, a0.big_, ([] : (List (Int × Bool))), a0.parts_, ([] : (List ((List UInt8) × Ti)))⟩ : Te)) (nn, b6, p0_3, b7) H70 (i := 0) rfl (by first | rfl | rw [(show (([] : List (List Value)).length) = ([] : List (List Ta)).length from (AllC.nil (G := gs_tag_Entry) (h := Qt) (sz := 1)).len), (show n0_3 = a0.parts_.length from hn0_3)]) (by first | exact Imp.refl _ | exact Imp.of (by rw [(show (([] : List (List Value)).length) = ([] : List (List Ta)).length from (AllC.nil (G := gs_tag_Entry) (h := Qt) (sz := 1)).len), (show n0_3 = a0.parts_.length from hn0_3)] <;> rfl)))
     ·refine Jk ?_
      exact cl () () 0 [0, 1, 2, 3, 4, 5] (by exact ⟨H71, trivial⟩)
    ·refine pa<|pa<|pa<|pa<|pa<|pa<|pF (.bool false)<|pF (.bool false)<|Jd<|Uh rfl<|Jk<|?_
     exact cl () () 0 [0, 1, 2, 3, 4, 5] (by exact ⟨H72, trivial⟩)
  ·rintro _ _ gg H39 _
   try dsimp only at H39
   try dsimp only
   refine Jc ?_
   try dsimp only [z1, z2, z5, z6, z7, z8]
   refine Ja<|mv (.pointer (some ⟨pb0, 0, none⟩))<|mv (.pointer (some ⟨pb0, 0, none⟩))<|lv (Jh rfl)<|lf runUnderlying119 rfl sizeOf9 rfl<|ll 0 (str a0.s_) isAgg9<|?_
   obtain ⟨t54, h_t54, H40⟩ := Je H39; clear H39
   refine lv (Jaf underlying9 rfl rfl h_t54)<|lv (Ql rfl rfl)<|lv (Jh rfl)<|lf runUnderlying119 rfl sizeOf4 rfl<|st (i := 0) [.bool (decide (t54 = 77))] [str a0.s_, .bool (decide (t54 = 77)), .map (some b6), sl p0_3 n0_3, .map (some b7)] sizeOf4 rfl rfl<|Jd<|Jc<|Ja<|mv (.pointer (some ⟨pb0, 0, none⟩))<|lv (Jh rfl)<|lf runUnderlying119 rfl sizeOf4 rfl<|ll 0 (.bool (decide (t54 = 77))) isAgg4<|lf runUnderlying24 rfl sizeOf4 rfl<|st (i := 3) [.bool (decide (t54 = 77))] [.bool (decide (t54 = 77)), .slice none 0 0] sizeOf4 rfl rfl<|Jd<|Jc<|Ja<|mv (.pointer (some ⟨pb0, 0, none⟩))<|lv (Xv (pl := #[(0, 1), (1, 1)]) (ps := [(0, i6 0), (1, i6 8)]) (cells := #[i6 0, i6 8]) zeroValue56 runUnderlying56 (fun w => by kernel_rfl) rfl rfl)<|?_
   refine Qg (vs := [.agg #[i6 0, i6 8]]) (cs := [i6 0, i6 8]) underlying48 sizeOf56 zeroValue56 rfl rfl rfl rfl rfl rfl rfl (fun b8 => ?_)
   refine lv (Jh rfl)<|lf runUnderlying119 rfl sizeOf48 rfl<|st (i := 0) [.slice (some ⟨b8, 0, none⟩) 1 1] [str a0.s_, .bool (decide (t54 = 77)), .map (some b6), .slice (some ⟨b8, 0, none⟩) 1 1, .map (some b7)] sizeOf48 rfl rfl<|Jd<|c_dr 1<|?_
   try dsimp only [z1, z2, z3, z4, z5, z6, z7, z8]
   refine Qj (r := r) (σ := (List UInt8) × Bool × (List (Int × Bool)) × (List ((List UInt8) × Ti)) × (List Td) × (List (List Ta))) (τ := Nat × Nat × (Option Addr × Nat) × Nat × (Option Addr × Nat)) (fun s => U8 kq t54 s.1 s.2.1 s.2.2.1 s.2.2.2.1 s.2.2.2.2.1 s.2.2.2.2.2) (fun s t => [(0, .pointer (some ⟨pb0, 0, none⟩)), (2, .pointer (some ⟨b5, 0, none⟩))]) (fun s t => [Jf pb0 [str s.1, .bool s.2.1, .map (some t.1), .slice t.2.2.1.1 t.2.2.2.1 t.2.2.1.2, .map (some t.2.1)] 119, X8 Qt Qt, Jf b5 [.bool (decide (t54 = 77)), .slice t.2.2.2.2.1 s.2.2.2.2.2.length t.2.2.2.2.2] 24, Q0 (fun x_ : Int => i6 x_) (fun x_ : Bool => .bool x_) t.1 s.2.2.1, Q0 (fun x_ : (List UInt8) => str x_) (fun x_ : Ti => .agg #[i6 x_.entry_, i6 x_.from_, i6 x_.to_]) t.2.1 s.2.2.2.1, Jw 56 2 (.slice t.2.2.1.1 t.2.2.2.1 t.2.2.1.2) t.2.2.2.1 (s.2.2.2.2.1.map Jg), Wp 36 1 gs_tag_Entry (.slice t.2.2.2.2.1 s.2.2.2.2.2.length t.2.2.2.2.2) s.2.2.2.2.2.length s.2.2.2.2.2]) (fun s t => t.2.2.2.1 = s.2.2.2.2.1.length) ?_ ?_
   ·refine Jc<|Ja<|mv (.pointer (some ⟨pb0, 0, none⟩))<|?_
    obtain ⟨t69, h_t69, H56⟩ := Je H40; clear H40
    refine Qd (fun w hF hS => k132 (a0 := (⟨a0.s_, (decide (t54 = 77)), ([] : (List (Int × Bool))), ([(⟨0, 8⟩ : Td)] : List Td), ([] : (List ((List UInt8) × Ti)))⟩ : Te)) (Jp w) (Xy (fk := (fun x_ : Int => i6 x_)) (fv := (fun x_ : Bool => .bool x_)) (i := 3) hS rfl) (frs_box (i := 5) (xs := ([(⟨0, 8⟩ : Td)] : List Td)) (f := Jg) hS rfl rfl rfl rfl rfl) (Xy (fk := (fun x_ : (List UInt8) => str x_)) (fv := (fun x_ : Ti => .agg #[i6 x_.entry_, i6 x_.from_, i6 x_.to_])) (i := 4) hS rfl) (Q3 (i := 0) hS rfl) h_t69) call132 rfl rfl rfl<|ag (i6 t69)<|Jd<|Ju<|Qp 5 rfl (imp_box (m := 1) (E := 56) (sz := 2) (xs := (([(⟨0, 8⟩ : Td)] : List Td)).map Jg) rfl rfl rfl ⟨rfl, by decide⟩)<|Jm 36 1<|Yg Qt<|?_
    try dsimp only [z1, z2, z5, z6, z7, z8]
    refine bo 7 6 rfl rfl ?_
    try dsimp only [z1, z2, z5, z6, z7, z8]
    refine Qp 7 rfl (Jdb (css := []) (xs := ([] : List (List Ta))) (p := nn) rfl (AllC.nil (G := gs_tag_Entry) (h := Qt) (sz := 1))) ?_
    refine Za (σ := Int × (List UInt8) × Bool × (List (Int × Bool)) × (List ((List UInt8) × Ti)) × (List Td) × (List (List Ta))) (τ := Nat × Nat × (Option Addr × Nat) × Nat × (Option Addr × Nat)) (fun next5 s => Y1 kq t54 next5 s.1 s.2.1 s.2.2.1 s.2.2.2.1 s.2.2.2.2.1 s.2.2.2.2.2.1 s.2.2.2.2.2.2) (fun s t => [(0, .pointer (some ⟨pb0, 0, none⟩)), (2, .pointer (some ⟨b5, 0, none⟩)), (4, i6 s.1)]) (fun s t => [Jf pb0 [str s.2.1, .bool s.2.2.1, .map (some t.1), .slice t.2.2.1.1 t.2.2.2.1 t.2.2.1.2, .map (some t.2.1)] 119, X8 Qt Qt, Jf b5 [.bool (decide (t54 = 77)), .slice t.2.2.2.2.1 s.2.2.2.2.2.2.length t.2.2.2.2.2] 24, Q0 (fun x_ : Int => i6 x_) (fun x_ : Bool => .bool x_) t.1 s.2.2.2.1, Q0 (fun x_ : (List UInt8) => str x_) (fun x_ : Ti => .agg #[i6 x_.entry_, i6 x_.from_, i6 x_.to_]) t.2.1 s.2.2.2.2.1, Jw 56 2 (.slice t.2.2.1.1 t.2.2.2.1 t.2.2.1.2) t.2.2.2.1 (s.2.2.2.2.2.1.map Jg), Wp 36 1 gs_tag_Entry (.slice t.2.2.2.2.1 s.2.2.2.2.2.2.length t.2.2.2.2.2) s.2.2.2.2.2.2.length s.2.2.2.2.2.2]) (fun s t => t.2.2.2.1 = s.2.2.2.2.2.1.length) (t69, a0.s_, (decide (t54 = 77)), ([] : (List (Int × Bool))), ([] : (List ((List UInt8) × Ti))), ([(⟨0, 8⟩ : Td)] : List Td), ([] : List (List Ta))) (b6, b7, ((some ⟨b8, 0, none⟩, 1) : Option Addr × Nat), 1, nn) [0, 1, 2, 3, 4, 5, 7] H56 (by exact rfl) (by exact ⟨rfl, rfl, rfl, trivial⟩) (by decide) rfl ?_
    rintro ⟨x4_2, m_5, m_6, mp_5, mp_6, l_5, l_6⟩ ⟨b_3, b_4, p_3, n_2, p_4⟩ m5 gg H57 hl_4
    clear H56
    try dsimp only at H57
    generalize hn5 : it (fun next5 s => Y1 kq t54 next5 s.1 s.2.1 s.2.2.1 s.2.2.2.1 s.2.2.2.2.1 s.2.2.2.2.2.1 s.2.2.2.2.2.2) m5 = next5 at H57
    try dsimp only
    refine Jc<|Jc<|Ja<|mv (i6 x4_2)<|lv (Yt rfl rfl)<|Jd<|?_
    revert H57
    refine ci (decide (x4_2 ≠ 0)) rfl (fun hb H58=>?_) fun hb H64=>?_
    ·refine Jk<|Ju<|Jc<|Ja<|lf runUnderlying24 rfl sizeOf22 rfl<|ll 2 (sl p_4 l_6.length) isAgg22<|lv (Jdj underlying22 rfl)<|ag (i6 (l_6.length : Int))<|Jd<|Jc<|Ja<|mv (.pointer (some ⟨pb0, 0, none⟩))<|mv (i6 x4_2)<|mv (i6 (l_6.length : Int))<|mv (i6 (l_6.length : Int))<|?_
     obtain ⟨t80, h_t80, H59⟩ := Je H58; clear H58
     refine Qd (fun w hF hS => k134 (Jp w) (tb_pow10.mono (hw.now hF)) h_t80) call134 rfl rfl rfl ?_
     obtain ⟨t81, h_t81, H60⟩ := Je H59; clear H59
     refine bo 5 4 rfl rfl<|bo 3 5 rfl rfl<|bo 0 3 rfl rfl<|?_
     refine Qe (J4 (i := 0) (rds := []) (G := fun x : (Option Addr × Nat) × Nat × (Option Addr × Nat) × Nat => .tuple #[.slice x.1.1 t81.1.length x.1.2, i6 t81.2.1, i6 t81.2.2.1]) (C := fun x : (Option Addr × Nat) × Nat × (Option Addr × Nat) × Nat => Jt (Jf pb0 [str t81.2.2.2.s_, .bool t81.2.2.2.big_, .map (some x.2.1), .slice x.2.2.1.1 t81.2.2.2.parts_.length x.2.2.1.2, .map (some x.2.2.2)] 119) (Jt (Q0 (fun x_ : Int => i6 x_) (fun x_ : Bool => .bool x_) x.2.1 t81.2.2.2.starts_) (Jt (Jw 56 2 (.slice x.2.2.1.1 t81.2.2.2.parts_.length x.2.2.1.2) t81.2.2.2.parts_.length (t81.2.2.2.parts_.map Jg)) (Jt (Q0 (fun x_ : (List UInt8) => str x_) (fun x_ : Ti => .agg #[i6 x_.entry_, i6 x_.from_, i6 x_.to_]) x.2.2.2 t81.2.2.2.places_) (Wp 83 6 g_tag_Entry (.slice x.1.1 t81.1.length x.1.2) t81.1.length t81.1))))) rfl (fun w L' S hF hS hi hp hlt ho hA => k133 (a0 := (⟨m_5, m_6, mp_5, l_5, mp_6⟩ : Te)) hp hlt (Qr w S) hl_4 (tb_pow10.mono (hw.but hF ho)) h_t81) call133 rfl) rfl rfl rfl (fun ⟨p_5, p_6, p_7, p_8⟩ => ?_)
     refine ub 0 3 rfl rfl<|ub 3 5 rfl rfl<|ub 5 4 rfl rfl<|Qv 4 rfl<|mv (.tuple #[sl p_5 t81.1.length, i6 t81.2.1, i6 t81.2.2.1])<|lv (Qb (v := sl p_5 t81.1.length) rfl rfl)<|lv (Qb (v := i6 t81.2.1) rfl rfl)<|lv (Qb (v := i6 t81.2.2.1) rfl rfl)<|ag (sl p_5 t81.1.length)<|ag (i6 t81.2.1)<|ag (i6 t81.2.2.1)<|Jd<|Jc<|Jc<|?_
     try dsimp only [z1, z2, z5, z6, z7, z8]
     refine Ja<|mv (i6 t81.2.2.1)<|lv (Yt rfl rfl)<|Jd<|?_
     revert H60
     refine ci (decide (t81.2.2.1 ≠ 0)) rfl (fun hb H61=>?_) fun hb H62=>?_
     ·refine Jc<|Ja<|lv (Xv (pl := #[(0, 1), (1, 1)]) (ps := []) (cells := #[.bool false, .slice none 0 0]) zeroValue24 runUnderlying24 (fun w => by kernel_rfl) rfl rfl)<|mv (i6 t81.2.2.1)<|st (i := 2) [.bool false, .slice none 0 0] [.bool false, .slice none 0 0] sizeOf24 rfl rfl<|ag (i6 t81.2.2.1)<|Jd<|Jl<|Jm 36 1<|bo 1 8 rfl rfl<|Qp 1 rfl (Qh (p := nn) rfl (AllC.nil (G := gs_tag_Entry) (h := Qt) (sz := 1)))<|bo 4 1 rfl rfl<|bo 5 4 rfl rfl<|bo 3 5 rfl rfl<|bo 0 3 rfl rfl<|?_
      refine Jao (i := 2) (vs := [.bool false, sl nn (([] : List (List Value)).length)]) (v2 := i6 t81.2.2.1) isAgg24 sizeOf24 rfl rfl rfl rfl rfl (finXK ((⟨false, ([] : List (List Ta))⟩ : Tf), t81.2.2.1, t81.2.2.2) (nn, p_6, p_7, p_8) H61 (i := 0) rfl (by first | rfl | rw [(show (([] : List (List Value)).length) = ([] : List (List Ta)).length from (AllC.nil (G := gs_tag_Entry) (h := Qt) (sz := 1)).len)]) (by first | exact Imp.refl _ | exact Imp.of (by rw [(show (([] : List (List Value)).length) = ([] : List (List Ta)).length from (AllC.nil (G := gs_tag_Entry) (h := Qt) (sz := 1)).len)] <;> rfl)))
     ·refine Jk<|Jc<|?_
      refine Jcd 6 rfl (fun hp css hn pf => ?_)
      rw [hn]
      try dsimp only [z1, z2, z5, z6, z7, z8]
      refine Qv 6 rfl ?_
      try dsimp only [z1, z2, z5, z6, z7, z8]
      refine Zm 1 6 rfl rfl (by decide) (fun _ _ => Zn) (fun hp_2 hle hle_2 => ?_)
      try dsimp only [z1, z2, z5, z6, z7, z8]
      refine Ja<|lf runUnderlying24 rfl sizeOf22 rfl<|ll 2 (sl p_4 css.length) isAgg22<|mv (sl p_5 t81.1.length)<|?_
      refine Qg (vs := [sl p_5 t81.1.length]) (cs := [sl p_5 t81.1.length]) underlying22 sizeOf36 zeroValue36 rfl rfl rfl rfl rfl rfl rfl (fun b9 => ?_)
      refine Jcd 7 rfl (fun hp_3 css_2 hn_2 pf_2 => ?_)
      rw [hn_2]
      try dsimp only [z1, z2, z5, z6, z7, z8]
      refine Qv 7 rfl ?_
      try dsimp only [z1, z2, z5, z6, z7, z8]
      refine Zm 1 7 rfl rfl (by decide) (fun _ _ => Zn) (fun hp_4 hle_3 hle_4 => ?_)
      try dsimp only [z1, z2, z5, z6, z7, z8]
      refine Jb1 (Φ := fun H_ => FrS H_ 6 (sl p_5 css_2.length) (css_2.map idC)) 1 10 rfl rfl (by decide) (fun _ _ => Zn) (Jfe _) (fun hp_5 hle_5 hf => ?_)
      obtain ⟨l93, h_l93, H63⟩ := Je H62; clear H62
      refine Qe (V5 (i := 8) (k := 9) (p := p_4) (f := idC) (ys := css) (ls := [[sl p_5 css_2.length]]) underlying22 (Q5 typeInfo36) rfl rfl rfl rfl rfl rfl rfl rfl rfl rfl rfl rfl rfl rfl (by simp only [idC, List.map_cons, List.map_nil, List.all_cons, List.all_nil, (Jag (xs := t81.1) hf ((pf_2.mono hle_4).mono hle_5)).one] <;> rfl) (app63 ((((pf.mono hle_2).mono hle_3).mono hle_5).app h_l93 (nc := [[sl p_5 css_2.length]]) rfl)) rfl) rfl rfl rfl (fun p_9 => ?_)
      have pf_3 : AllC gs_tag_Entry hp_5 1 (css ++ [[Value.slice p_5.1 css_2.length p_5.2]]) l93 := AllC.snocG (((pf.mono hle_2).mono hle_3).mono hle_5) h_l93 rfl ((Jag (xs := t81.1) hf ((pf_2.mono hle_4).mono hle_5)))
      refine lf runUnderlying24 rfl sizeOf22 rfl<|st (i := 2) [sl p_9 ((css ++ [[Value.slice p_5.1 css_2.length p_5.2]]).length)] [.bool (decide (t54 = 77)), sl p_9 ((css ++ [[Value.slice p_5.1 css_2.length p_5.2]]).length)] sizeOf22 rfl rfl<|Jd<|?_
      try dsimp only [z1, z2, z5, z6, z7, z8]
      refine bo 1 8 rfl rfl ?_
      try dsimp only [z1, z2, z5, z6, z7, z8]
      refine Qp 1 rfl (Jdb (p := p_9) rfl pf_3) ?_
      (try rw [show ((css ++ [[Value.slice p_5.1 css_2.length p_5.2]]).length) = l93.length from pf_3.len])
      refine Yg Qt<|c_sel [0, 11, 2, 3, 4, 5, 6, 7, 1, 9, 10] [Jf pb0 [str t81.2.2.2.s_, .bool t81.2.2.2.big_, .map (some p_6), sl p_7 t81.2.2.2.parts_.length, .map (some p_8)] 119, X8 Qt Qt, Jf b5 [.bool (decide (t54 = 77)), sl p_9 l93.length] 24, Q0 (fun x_ : Int => i6 x_) (fun x_ : Bool => .bool x_) p_6 t81.2.2.2.starts_, Q0 (fun x_ : (List UInt8) => str x_) (fun x_ : Ti => .agg #[i6 x_.entry_, i6 x_.from_, i6 x_.to_]) p_8 t81.2.2.2.places_, Jw 56 2 (sl p_7 t81.2.2.2.parts_.length) t81.2.2.2.parts_.length (t81.2.2.2.parts_.map Jg), _, _, Wp 36 1 gs_tag_Entry (sl p_9 l93.length) l93.length l93, Jf b9 [sl p_5 css_2.length] 36, _] rfl (by decide)<|?_
      try dsimp only [z1, z2, z5, z6, z7, z8]
      refine Ja<|mv (i6 t81.2.1)<|ag (i6 t81.2.1)<|Jd<|?_
      exact cl (t81.2.1, t81.2.2.2.s_, t81.2.2.2.big_, t81.2.2.2.starts_, t81.2.2.2.places_, t81.2.2.2.parts_, l93) (p_6, p_8, p_7, t81.2.2.2.parts_.length, p_9) m5 [0, 1, 2, 3, 4, 5, 8] (by exact ⟨(by subst hn5; exact H63), rfl⟩)
    ·refine Xa ?_
     exact cl (m_5, m_6, mp_5, mp_6, l_5, l_6) (b_3, b_4, p_3, n_2, p_4) 0 [0, 1, 2, 3, 4, 5, 6] (by exact ⟨H64, hl_4⟩)
   ·rintro ⟨m, m_2, mp, mp_2, l, l_2⟩ ⟨b, b_2, p, n, p_2⟩ gg H41 hl
    try dsimp only at H41
    try dsimp only
    refine Jc<|Ja<|mv (.pointer (some ⟨pb0, 0, none⟩))<|lv (Jh rfl)<|lf runUnderlying119 rfl sizeOf48 rfl<|ll 0 (sl p n) isAgg48<|?_
    refine l_turnK (i := 5) (rds := []) (G := fun (t100 : (List Td)) (x : Unit) => .tuple #[]) (C := fun (t100 : (List Td)) (x : Unit) => Jw 56 2 (sl p n) n (t100.map Jg)) rfl (fun w L' S hF hS hi hp hlt ho hA => k129_135 hp hlt (Qr w S) hl H41) call129 rfl rfl rfl (fun t100 _ H42 => ?_)
    clear H41
    refine Jgc (fun w hF hS => lenOf (i := 5) hS rfl) (fun hl_2_ => ?_)
    have hl_2 : n = t100.length := by simpa using hl_2_.symm
    refine Jd ?_
    refine Qj (r := r) (σ := Unit) (τ := Unit) (fun s => Vo kq t54 m m_2 mp mp_2 l_2 t100) (fun s t => [(2, .pointer (some ⟨b5, 0, none⟩))]) (fun s t => [Jf pb0 [str m, .bool m_2, .map (some b), sl p n, .map (some b_2)] 119, X8 Qt Qt, Jf b5 [.bool (decide (t54 = 77)), sl p_2 l_2.length] 24, Q0 (fun x_ : Int => i6 x_) (fun x_ : Bool => .bool x_) b mp, Q0 (fun x_ : (List UInt8) => str x_) (fun x_ : Ti => .agg #[i6 x_.entry_, i6 x_.from_, i6 x_.to_]) b_2 mp_2, Jw 56 2 (sl p n) n (t100.map Jg), Wp 36 1 gs_tag_Entry (sl p_2 l_2.length) l_2.length l_2]) (fun s t => True) ?_ ?_
    ·refine Jc<|Ja<|ag (i6 1)<|Jd<|Ju<|?_
     refine Za (σ := Int) (τ := Unit) (fun next4 s => Zj kq t54 m m_2 mp mp_2 l_2 t100 next4 s) (fun s t => [(0, .pointer (some ⟨pb0, 0, none⟩)), (2, .pointer (some ⟨b5, 0, none⟩)), (9, i6 s)]) (fun s t => [Jf pb0 [str m, .bool m_2, .map (some b), sl p n, .map (some b_2)] 119, X8 Qt Qt, Jf b5 [.bool (decide (t54 = 77)), sl p_2 l_2.length] 24, Q0 (fun x_ : Int => i6 x_) (fun x_ : Bool => .bool x_) b mp, Q0 (fun x_ : (List UInt8) => str x_) (fun x_ : Ti => .agg #[i6 x_.entry_, i6 x_.from_, i6 x_.to_]) b_2 mp_2, Jw 56 2 (sl p n) n (t100.map Jg), Wp 36 1 gs_tag_Entry (sl p_2 l_2.length) l_2.length l_2]) (fun s t => True) 1 () [0, 1, 2, 3, 4, 5, 6] H42 (by exact trivial) (by exact ⟨rfl, rfl, rfl, trivial⟩) (by decide) rfl ?_
     rintro x9_2 _ m4 gg H47 _
     clear H42
     try dsimp only at H47
     generalize hn4 : it (fun next4 s => Zj kq t54 m m_2 mp mp_2 l_2 t100 next4 s) m4 = next4 at H47
     try dsimp only
     refine Jc<|Jc<|Ja<|mv (i6 x9_2)<|mv (.pointer (some ⟨pb0, 0, none⟩))<|lv (Jh rfl)<|lf runUnderlying119 rfl sizeOf48 rfl<|ll 0 (sl p n) isAgg48<|lv (Jhx underlying48 rfl hl_2)<|lv (Xz rfl rfl)<|Jd<|?_
     revert H47
     refine ci (decide (x9_2 < (t100.length : Int))) rfl (fun hb H48=>?_) fun hb H55=>?_
     ·refine Jk<|Jc<|Ju<|Jc<|?_
      exact Qx (Kd.p :: Kd.p :: Kd.p :: Kd.d [0] _ :: Kd.p :: Kd.d [5] _ :: Kd.d [5] _ :: Kd.d [5] _ :: Kd.p :: Kd.p :: Kd.p :: Kd.d [0] _ :: Kd.p :: Kd.p :: Kd.d [5] _ :: Kd.d [5] _ :: Kd.d [5] _ :: Kd.p :: []) 0 mixed (by
       refine dm (.pointer (some ⟨pb0, 0, none⟩))<|dv (Jh rfl)<|dv (J8 runUnderlying119 rfl sizeOf48 rfl rfl)<|dl (sl p n) isAgg48<|dm (i6 x9_2)<|?_
       have h_t115 := Jy H48
       have H49 := Jq H48
       refine Jah (fun w L' hF hS hi => Ue underlying48 sizeOf56 rfl rfl (Wt (i := 5) (E := 56) (sz := 2) (n := n) (a := p.1) (c := p.2) hS ((hi 5 (by simp)).trans rfl)) hl_2 h_t115) rfl rfl<|Jif rfl rfl (fun w L' hF hS hi => Jey runUnderlying56 rfl sizeOf3 rfl rfl (Wt (i := 5) (E := 56) (sz := 2) (n := n) (a := p.1) (c := p.2) hS ((hi 5 (by simp)).trans rfl)) h_t115)<|Jah (fun w L' hF hS hi => Xo (f := Jg) (i := x9_2) (sz := 2) (j := 0) (v := i6 (val (Zu t100 x9_2)).From) isAgg3 rfl rfl (Wt (i := 5) (E := 56) (sz := 2) (n := n) (a := p.1) (c := p.2) hS ((hi 5 (by simp)).trans rfl)) h_t115 rfl) rfl rfl<|dm (.pointer (some ⟨pb0, 0, none⟩))<|dv (Jh rfl)<|dv (J8 runUnderlying119 rfl sizeOf48 rfl rfl)<|dl (sl p n) isAgg48<|dm (i6 x9_2)<|?_
       have h_t123 := Jy H49
       have H50 := Jq H49
       refine dv (Zf rfl rfl h_t123) ?_
       have h_t124 := Jy H50
       have H51 := Jq H50
       refine Jah (fun w L' hF hS hi => Ue underlying48 sizeOf56 rfl rfl (Wt (i := 5) (E := 56) (sz := 2) (n := n) (a := p.1) (c := p.2) hS ((hi 5 (by simp)).trans rfl)) hl_2 h_t124) rfl rfl<|Jif rfl rfl (fun w L' hF hS hi => Jey runUnderlying56 rfl sizeOf3 rfl rfl (Wt (i := 5) (E := 56) (sz := 2) (n := n) (a := p.1) (c := p.2) hS ((hi 5 (by simp)).trans rfl)) h_t124)<|Jah (fun w L' hF hS hi => Xo (f := Jg) (i := (val (gI (x9_2 - 1)))) (sz := 2) (j := 1) (v := i6 (val (Zu t100 (val (gI (x9_2 - 1))))).To) isAgg3 rfl rfl (Wt (i := 5) (E := 56) (sz := 2) (n := n) (a := p.1) (c := p.2) hS ((hi 5 (by simp)).trans rfl)) h_t124 rfl) rfl rfl<|dv (Xz rfl rfl)<|Yw<|?_
       revert H51
       refine ci (decide ((val (Zu t100 x9_2)).From < (val (Zu t100 (val (gI (x9_2 - 1))))).To)) rfl (fun hb H52=>?_) fun hb H53=>?_
       ·refine Jc<|Ja<|lv (Xv (pl := #[(0, 1), (1, 1)]) (ps := []) (cells := #[.bool false, .slice none 0 0]) zeroValue24 runUnderlying24 (fun w => by kernel_rfl) rfl rfl)<|st (i := 2) [.bool false, .slice none 0 0] [.bool false, .slice none 0 0] sizeOf24 rfl rfl<|ag (i6 6)<|Jd<|Jl<|Jm 36 1<|bo 1 7 rfl rfl<|Qp 1 rfl (Qh (p := nn) rfl (AllC.nil (G := gs_tag_Entry) (h := Qt) (sz := 1)))<|bo 4 1 rfl rfl<|bo 5 4 rfl rfl<|bo 3 5 rfl rfl<|bo 0 3 rfl rfl<|?_
        refine Jao (i := 2) (vs := [.bool false, sl nn (([] : List (List Value)).length)]) (v2 := i6 6) isAgg24 sizeOf24 rfl rfl rfl rfl rfl (finXK ((⟨false, ([] : List (List Ta))⟩ : Tf), 6, (⟨m, m_2, mp, t100, mp_2⟩ : Te)) (nn, b, p, b_2) H52 (i := 0) rfl (by first | rfl | rw [(show (([] : List (List Value)).length) = ([] : List (List Ta)).length from (AllC.nil (G := gs_tag_Entry) (h := Qt) (sz := 1)).len), (show n = t100.length from hl_2)]) (by first | exact Imp.refl _ | exact Imp.of (by rw [(show (([] : List (List Value)).length) = ([] : List (List Ta)).length from (AllC.nil (G := gs_tag_Entry) (h := Qt) (sz := 1)).len), (show n = t100.length from hl_2)] <;> rfl)))
       ·refine Jk ?_
        try dsimp only [z1, z2, z5, z6, z7, z8]
        refine Ja<|mv (i6 x9_2)<|?_
        obtain ⟨t109, h_t109, H54⟩ := Je H53; clear H53
        refine lv (J1 rfl rfl h_t109)<|ag (i6 t109)<|Jd<|?_
        exact cl t109 () m4 [0, 1, 2, 3, 4, 5, 6] (by exact ⟨(by subst hn4; exact H54), trivial⟩)
       ) (by kernel_rfl)
     ·refine Xa ?_
      exact cl () () 0 [0, 1, 2, 3, 4, 5, 6] (by exact ⟨H55, trivial⟩)
    ·rintro _ _ gg H43 _
     try dsimp only at H43
     try dsimp only
     refine Jc<|Jc<|Ja<|Q4 (i := 2) (vs := [.bool (decide (t54 = 77)), sl p_2 l_2.length]) isAgg24 sizeOf24 rfl rfl rfl rfl rfl<|?_
     obtain ⟨t130, h_t130, H44⟩ := Je H43; clear H43
     refine Qd (fun w hF hS => k30 (Jp w) (frn_rowD (i := 6) hS rfl) h_t130) call30 rfl rfl rfl<|ag (i6 t130)<|Jd<|Jc<|Ja<|mv (i6 t130)<|lv (Yt rfl rfl)<|Jd<|?_
     revert H44
     refine ci (decide (t130 ≠ 0)) rfl (fun hb H45=>?_) fun hb H46=>?_
     ·refine Jc<|Ja<|lv (Xv (pl := #[(0, 1), (1, 1)]) (ps := []) (cells := #[.bool false, .slice none 0 0]) zeroValue24 runUnderlying24 (fun w => by kernel_rfl) rfl rfl)<|mv (i6 t130)<|st (i := 2) [.bool false, .slice none 0 0] [.bool false, .slice none 0 0] sizeOf24 rfl rfl<|ag (i6 t130)<|Jd<|Jl<|Jm 36 1<|bo 1 7 rfl rfl<|Qp 1 rfl (Qh (p := nn) rfl (AllC.nil (G := gs_tag_Entry) (h := Qt) (sz := 1)))<|bo 4 1 rfl rfl<|bo 5 4 rfl rfl<|bo 3 5 rfl rfl<|bo 0 3 rfl rfl<|?_
      refine Jao (i := 2) (vs := [.bool false, sl nn (([] : List (List Value)).length)]) (v2 := i6 t130) isAgg24 sizeOf24 rfl rfl rfl rfl rfl (finXK ((⟨false, ([] : List (List Ta))⟩ : Tf), t130, (⟨m, m_2, mp, t100, mp_2⟩ : Te)) (nn, b, p, b_2) H45 (i := 0) rfl (by first | rfl | rw [(show (([] : List (List Value)).length) = ([] : List (List Ta)).length from (AllC.nil (G := gs_tag_Entry) (h := Qt) (sz := 1)).len), (show n = t100.length from hl_2)]) (by first | exact Imp.refl _ | exact Imp.of (by rw [(show (([] : List (List Value)).length) = ([] : List (List Ta)).length from (AllC.nil (G := gs_tag_Entry) (h := Qt) (sz := 1)).len), (show n = t100.length from hl_2)] <;> rfl)))
     ·refine Jk<|Jc<|?_
      try dsimp only [z1, z2, z5, z6, z7, z8]
      refine Ja<|Q4 (i := 2) (vs := [.bool (decide (t54 = 77)), sl p_2 l_2.length]) isAgg24 sizeOf24 rfl rfl rfl rfl rfl<|st (i := 2) [.bool (decide (t54 = 77)), sl p_2 l_2.length] [.bool (decide (t54 = 77)), sl p_2 l_2.length] sizeOf24 rfl rfl<|ag (i6 0)<|Jd<|Jl<|bo 4 6 rfl rfl<|bo 5 4 rfl rfl<|bo 3 5 rfl rfl<|bo 0 3 rfl rfl<|?_
      refine Jao (i := 2) (vs := [.bool (decide (t54 = 77)), sl p_2 l_2.length]) (v2 := i6 0) isAgg24 sizeOf24 rfl rfl rfl rfl rfl (finXK ((⟨(decide (t54 = 77)), l_2⟩ : Tf), 0, (⟨m, m_2, mp, t100, mp_2⟩ : Te)) (p_2, b, p, b_2) H46 (i := 0) rfl (by first | rfl | rw [(show n = t100.length from hl_2)]) (by first | exact Imp.refl _ | exact Imp.of (by rw [(show n = t100.length from hl_2)] <;> rfl)))
end Go.Proofs.YtgjpnjncfilgnaaGreatDoor
