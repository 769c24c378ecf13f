/- TagRound, read: the walks, printed by our generator; each follows its model. Conditions: the model yields a value. -/
import Derived.Test.YtkbiccgjkiifpaaGreatDoorKRa
import Derived.Test.YtkbiccgjkiifpaaGreatDoorLx2
set_option linter.unusedVariables false
namespace Go.Proofs.YtkbiccgjkiifpaaGreatDoor
open Go Go.Vc Go.Md Go.M Go.Lx Tryz
set_option maxRecDepth 100000
set_option maxHeartbeats 4000000
theorem k32 {a0 : (List Int)} {v0 : Value} {a1 : Int} {r : Unit} {w : World} {h : Js} (hw : Know h w Zk) (f0 : FrS h 1 v0 (a0.map Q5)) (H : Jhb a0 a1 = some r) : Does prog 32 (List.toArray [v0, i6 a1]) w (fun v w' => v = (.tuple #[]) ∧ Grow w w') := by
 refine enter (n := 4) func32 rfl rfl rfl Zk [] (Sat.nil _ _)<|Jj<|?_
 cases H
 refine ret0n rfl (fin rfl)
theorem hft77 (k : Nat) : FnV prog (Xp k) (mft77 k) (fun g => Jcy g) :=
  match k with
  | 0 => (show FnV prog (Xp 0) (mft77 0) _ from (FnV.mk (g := Jhb) (R := fun g => Jcy g) (fun h_ => (FnH.mk ⟨32, #[], #[], rfl, call32, fun args2 post2 w2 hk2 hR2 => by obtain ⟨a0_, v0_, a1_, r_, fa0_, rfl, H_, rfl⟩ := hR2; exact k32 (Jm w2) fa0_ H_⟩))))
  | _ + 1 => FnV.nil
theorem k57 {a0 : (List UInt8)} {r : Bool} (H : Jcw a0 = some r) : Ret prog 57 [str a0] (.bool r) := by
 refine Qi (n := 14) func57 rfl rfl rfl (fun wd => ?_)
 refine Jc<|Ja<|ag (.bool false)<|Jd<|Jc<|Jc<|Ja<|mv (str a0)<|lv (Q8 Tryz.underlying9 rfl)<|lv (Yh rfl rfl)<|Jd<|?_
 revert H
 refine ci (decide ((a0.length : Int) < 8)) rfl (fun hb H7=>?_) fun hb H8=>?_
 ·refine Jc<|Ja<|ag (.bool false)<|Jd<|Jh<|?_
  obtain rfl := sj H7
  exact r1 (.bool false)
 ·refine Jj<|Jc<|Ja<|mv (str a0)<|?_
  obtain ⟨t7, h_t7, H9⟩ := Je H8; clear H8
  refine lv (Jbg Tryz.underlying9 rfl rfl h_t7)<|lv (Ud rfl rfl)<|mv (.bool (decide (t7 = [73, 73, 42, 0])))<|?_
  revert H9
  refine sp (fun hb H10=>?_) fun hb H11=>?_
  ·refine pa<|pa<|pa<|pT (.bool true)<|ag (.bool true)<|Jd<|Jh<|?_
   obtain rfl := sj H10
   exact r1 (.bool true)
  ·refine mv (str a0) ?_
   obtain ⟨t11, h_t11, H12⟩ := Je H11; clear H11
   refine lv (Jbg Tryz.underlying9 rfl rfl h_t11)<|lv (Ud rfl rfl)<|pF (.bool (decide (t11 = [77, 77, 0, 42])))<|ag (.bool (decide (t11 = [77, 77, 0, 42])))<|Jd<|Jh<|?_
   obtain rfl := sj H12
   exact r1 (.bool (decide (t11 = [77, 77, 0, 42])))
theorem k102 {a0 : Bool} {a1 : (List UInt8)} {a2 : Int} {a3 : Int} {r : Int} (H : Jaz a0 a1 a2 a3 = some r) : Ret prog 102 [.bool a0, str a1, i6 a2, i6 a3] (i6 r) := by
 refine Qi (n := 33) func102 rfl rfl rfl (fun wd => ?_)
 refine Jc<|Ja<|ag (i6 0)<|Jd<|Jc<|Ja<|ag (i6 0)<|Jd<|Jc<|Jc<|Ja<|mv (i6 a3)<|mv (i6 0)<|Jd<|Jq<|?_
 refine Yq (σ := Int × Int) (τ := Unit) (fun next1 s => Zj a0 a1 a2 a3 next1 s.1 s.2) (fun s t => [(0, .bool a0), (1, str a1), (2, i6 a2), (3, i6 a3), (9, i6 s.1), (12, i6 a3), (13, i6 s.2)]) (fun s t => []) (fun s t => True) (0, 0) () [] H (by exact trivial) (by exact ⟨rfl, rfl, rfl, rfl, rfl, rfl, rfl, trivial⟩) (by decide) rfl ?_
 rintro ⟨x9_2, x13_2⟩ _ m1 gg H14 _
 clear H
 try dsimp only at H14
 generalize hn1 : it (fun next1 s => Zj a0 a1 a2 a3 next1 s.1 s.2) m1 = next1 at H14
 try dsimp only
 refine Jc<|Ja<|lv (Yh rfl rfl)<|Jd<|Jc<|?_
 revert H14
 refine ci (decide (x13_2 < a3)) rfl (fun hb H15=>?_) fun hb H26=>?_
 ·refine Jj<|Jc<|Jq<|Jc<|Ja<|mv (i6 x13_2)<|ag (i6 x13_2)<|Jd<|Jc<|Ja<|mv (i6 a3)<|?_
  obtain ⟨t17, h_t17, H16⟩ := Je H15; clear H15
  refine lv (Zb rfl rfl h_t17)<|mv (i6 x13_2)<|?_
  obtain ⟨t19, h_t19, H17⟩ := Je H16; clear H16
  refine lv (Zb rfl rfl h_t19)<|ag (i6 t19)<|Jd<|?_
  refine Qm (r := r) (σ := Int) (τ := Unit) (fun s => U3 a1 a2 x9_2 x13_2 next1 s) (fun s t => [(0, .bool a0), (1, str a1), (2, i6 a2), (3, i6 a3), (9, i6 x9_2), (11, i6 s), (12, i6 a3), (13, i6 x13_2)]) (fun s t => []) (fun s t => True) ?_ ?_
  ·refine Jc<|Ja<|mv (.bool a0)<|Jd<|?_
   revert H17
   refine ci a0 rfl (fun hb H24=>?_) fun hb H25=>?_
   ·refine Ja<|mv (i6 x13_2)<|ag (i6 x13_2)<|Jd<|?_
    exact cl x13_2 () 0 [] (by exact ⟨H24, trivial⟩)
   ·refine Jj ?_
    exact cl t19 () 0 [] (by exact ⟨H25, trivial⟩)
  ·rintro x11 _ gg H18 _
   try dsimp only at H18
   try dsimp only
   refine Ja<|mv (i6 x9_2)<|?_
   obtain ⟨t23, h_t23, H19⟩ := Je H18; clear H18
   refine lv (r_shlG rfl rfl h_t23)<|mv (str a1)<|mv (i6 a2)<|mv (i6 x11)<|?_
   obtain ⟨t27, h_t27, H20⟩ := Je H19; clear H19
   refine lv (J8 rfl rfl h_t27) ?_
   obtain ⟨t28, h_t28, H21⟩ := Je H20; clear H20
   refine lv (Zz Tryz.underlying9 rfl rfl h_t28) ?_
   obtain ⟨t29, h_t29, H22⟩ := Je H21; clear H21
   refine lv (Jdm Tryz.runUnderlying5 runUnderlying3 rfl (gK_i64 h_t29))<|lv (r_bitsOr (bits := 64) rfl rfl rfl (wr_i64 _))<|ag (i6 (wI64 (bOr 64 t23 t29)))<|Jd<|Ja<|?_
   obtain ⟨t31, h_t31, H23⟩ := Je H22; clear H22
   refine lv (J8 rfl rfl h_t31)<|mv (i6 t31)<|Jd<|?_
   exact cl ((wI64 (bOr 64 t23 t29)), t31) () m1 [] (by exact ⟨(by subst hn1; exact H23), trivial⟩)
 ·refine Qo<|Jc<|Ja<|mv (i6 x9_2)<|ag (i6 x9_2)<|Jd<|Jh<|?_
  obtain rfl := sj H26
  exact r1 (i6 x9_2)
theorem k58 {a0 : Tb} {v0_2 : Value} {v0_3 : Value} {pb0 : Nat} {a1 : Int} {a2 : Int} {r : Int} {w : World} {h : Js} (hw : Know h w Zk) (f0_2 : FrS h 2 v0_2 (a0.kaa.map Jy)) (f0_3 : FrM h i6 Value.bool v0_3 a0.kae) (hb0 : h pb0 = some (.cells (List.toArray [str a0.s_, .bool a0.kab, v0_2, v0_3, i6 a0.kad, (Xp a0.kac), i6 a0.no_]) 112 (0, 0))) (H : Jn a0 a1 a2 = some r) : Does prog 58 (List.toArray [pz pb0, i6 a1, i6 a2]) w (fun v w' => v = (i6 r) ∧ Grow w w') := by
 refine enter (n := 18) func58 rfl rfl rfl Zk [] (Sat.nil _ _)<|Jc<|Ja<|ag (i6 0)<|Jd<|Jc<|?_
 exact Q1 (Kd.p :: Kd.p :: Kd.p :: Kd.d [] _ :: Kd.p :: Kd.p :: Kd.p :: Kd.d [] _ :: Kd.p :: Kd.p :: Kd.d [] _ :: Kd.p :: []) 0 mixed (by
  refine dm (pz pb0)<|dv (Jg rfl)<|dv (J0 Tryz.runUnderlying112 rfl Tryz.sizeOf4 rfl rfl)<|d_read (fun w hF => Jfo (v := .bool a0.kab) isAgg4 rfl (hw.now hF _ _ hb0) rfl) rfl rfl<|dm (pz pb0)<|dv (Jg rfl)<|dv (J0 Tryz.runUnderlying112 rfl Tryz.sizeOf9 rfl rfl)<|d_read (fun w hF => Jfo (v := str a0.s_) isAgg9 rfl (hw.now hF _ _ hb0) rfl) rfl rfl<|dm (i6 a1)<|dm (i6 a2)<|?_
  have h_t17 := Qc H
  have H2 := J2 H
  refine Jg7 (k102 h_t17) call102 rfl rfl<|Qy rfl rfl (Jr (v := i6 (val (Jaz a0.kab a0.s_ a1 a2))) rfl)<|Vz<|Jh<|?_
  obtain rfl := sj H2
  exact r1 (i6 (val (Jaz a0.kab a0.s_ a1 a2)))
  ) (by kernel_rfl)
theorem k103 {a0 : Tb} {v0_2 : Value} {v0_3 : Value} {pb0 : Nat} {a1 : Int} {a2 : Int} {r : Bool} {w : World} {h : Js} (hw : Know h w Zk) (f0_2 : FrS h 2 v0_2 (a0.kaa.map Jy)) (f0_3 : FrM h i6 Value.bool v0_3 a0.kae) (hb0 : h pb0 = some (.cells (List.toArray [str a0.s_, .bool a0.kab, v0_2, v0_3, i6 a0.kad, (Xp a0.kac), i6 a0.no_]) 112 (0, 0))) (H : Vu a0 a1 a2 = some r) : Does prog 103 (List.toArray [pz pb0, i6 a1, i6 a2]) w (fun v w' => v = (.bool r) ∧ Grow w w') := by
 refine enter (n := 29) func103 rfl rfl rfl Zk [] (Sat.nil _ _)<|Jc<|Ja<|ag (.bool false)<|Jd<|Jc<|Ja<|mv (i6 a1)<|lv (Jhf rfl rfl)<|mv (.bool (decide (8 ≤ a1)))<|?_
 revert H
 refine sp (fun hb H6=>?_) fun hb H10=>?_
 ·refine mv (i6 a2)<|mv (pz pb0)<|lv (Jg rfl)<|lf Tryz.runUnderlying112 rfl Tryz.sizeOf9 rfl<|Q7 (fun w hF hS => Jfo (v := str a0.s_) isAgg9 rfl (hw.now hF _ _ hb0) rfl) rfl rfl rfl<|lv (Q8 Tryz.underlying9 rfl)<|lv (r_leq rfl rfl)<|pT (.bool (decide (a2 ≤ (a0.s_.length : Int))))<|mv (.bool (decide (a2 ≤ (a0.s_.length : Int))))<|?_
  revert H6
  refine sp (fun hb H7=>?_) fun hb H9=>?_
  ·refine mv (i6 a1)<|mv (pz pb0)<|lv (Jg rfl)<|lf Tryz.runUnderlying112 rfl Tryz.sizeOf9 rfl<|Q7 (fun w hF hS => Jfo (v := str a0.s_) isAgg9 rfl (hw.now hF _ _ hb0) rfl) rfl rfl rfl<|lv (Q8 Tryz.underlying9 rfl)<|mv (i6 a2)<|?_
   obtain ⟨t26, h_t26, H8⟩ := Je H7; clear H7
   refine lv (Zb rfl rfl h_t26)<|lv (r_leq rfl rfl)<|pT (.bool (decide (a1 ≤ t26)))<|ag (.bool (decide (a1 ≤ t26)))<|Jd<|Jh<|?_
   obtain rfl := sj H8
   exact r1 (.bool (decide (a1 ≤ t26)))
  ·refine pa<|pa<|pa<|pa<|pa<|pa<|pa<|pa<|pa<|pF (.bool false)<|ag (.bool false)<|Jd<|Jh<|?_
   obtain rfl := sj H9
   exact r1 (.bool false)
 ·refine pa<|pa<|pa<|pa<|pa<|pa<|pa<|pF (.bool false)<|mv (.bool false)<|pa<|pa<|pa<|pa<|pa<|pa<|pa<|pa<|pa<|pF (.bool false)<|ag (.bool false)<|Jd<|Jh<|?_
  obtain rfl := sj H10
  exact r1 (.bool false)
theorem k104 {a0 : Tb} {pb0 : Nat} {p0_2 : AN} {n0_2 : Nat} {m0_3 : Nat} {a1 : Int} {r : Tb} {w : World} {h : Js} {S : Nat → Prop} (hcs : (Jz (Ji pb0 [str a0.s_, .bool a0.kab, sl p0_2 n0_2, .map (some m0_3), i6 a0.kad, (Xp a0.kac), i6 a0.no_] 112) (Jz (Ju 118 2 (sl p0_2 n0_2) n0_2 (a0.kaa.map Jy)) (Wd i6 Value.bool m0_3 a0.kae))).P S w) (hlt : ∀ b, S b → b < w.heap.size) (hw : Know h w S) (hn0_2 : n0_2 = a0.kaa.length) (H : Qt a0 a1 = some r) : Does prog 104 (List.toArray [pz pb0, i6 a1]) w (fun v w' => ∃ x : AN × Nat, v = (.tuple #[]) ∧ Turn w w' S (Jz (Ji pb0 [str r.s_, .bool r.kab, .slice x.1.1 r.kaa.length x.1.2, .map (some x.2), i6 r.kad, (Xp r.kac), i6 r.no_] 112) (Jz (Ju 118 2 (.slice x.1.1 r.kaa.length x.1.2) r.kaa.length (r.kaa.map Jy)) (Wd i6 Value.bool x.2 r.kae)))) := by
 refine enter (n := 13) func104 rfl rfl rfl S [Jz (Ji pb0 [str a0.s_, .bool a0.kab, sl p0_2 n0_2, .map (some m0_3), i6 a0.kad, (Xp a0.kac), i6 a0.no_] 112) (Jz (Ju 118 2 (sl p0_2 n0_2) n0_2 (a0.kaa.map Jy)) (Wd i6 Value.bool m0_3 a0.kae))] (Sat.one hcs hlt)<|Qa 0 rfl<|Qa 1 rfl<|Jc<|Ja<|mv (pz pb0)<|lv (Jg rfl)<|lf Tryz.runUnderlying112 rfl Tryz.sizeOf25 rfl<|ll 0 (i6 a0.no_) isAgg25<|lv (Qg rfl rfl)<|Jd<|?_
 revert H
 refine ci (decide (a0.no_ = 0)) rfl (fun hb H3=>?_) fun hb H4=>?_
 ·refine Ja<|mv (pz pb0)<|mv (i6 a1)<|lv (Jg rfl)<|lf Tryz.runUnderlying112 rfl Tryz.sizeOf25 rfl<|st (i := 0) [i6 a1] [str a0.s_, .bool a0.kab, sl p0_2 n0_2, .map (some m0_3), i6 a0.kad, (Xp a0.kac), i6 a1] Tryz.sizeOf25 rfl rfl<|Jd<|?_
  obtain rfl := sj H3
  refine bo 1 2 rfl rfl<|bo 0 1 rfl rfl<|?_
  refine ret0n rfl (X5 (p0_2, m0_3) (i := 0) rfl (by first | rfl | rw [(show n0_2 = a0.kaa.length from hn0_2)]) (by first | exact Imp.refl _ | exact Imp.of (by rw [(show n0_2 = a0.kaa.length from hn0_2)] <;> rfl)))
 ·refine Jj ?_
  obtain rfl := sj H4
  refine bo 1 2 rfl rfl<|bo 0 1 rfl rfl<|?_
  refine ret0n rfl (X5 (p0_2, m0_3) (i := 0) rfl (by first | rfl | rw [(show n0_2 = a0.kaa.length from hn0_2)]) (by first | exact Imp.refl _ | exact Imp.of (by rw [(show n0_2 = a0.kaa.length from hn0_2)] <;> rfl)))
theorem k178 {a0 : Tb} {pb0 : Nat} {p0_2 : AN} {n0_2 : Nat} {m0_3 : Nat} {a1 : (List UInt8)} {r : (List UInt8) × Tb} {w : World} {h : Js} {S : Nat → Prop} (hcs : (Jz (Ji pb0 [str a0.s_, .bool a0.kab, sl p0_2 n0_2, .map (some m0_3), i6 a0.kad, (Xp a0.kac), i6 a0.no_] 112) (Jz (Ju 118 2 (sl p0_2 n0_2) n0_2 (a0.kaa.map Jy)) (Wd i6 Value.bool m0_3 a0.kae))).P S w) (hlt : ∀ b, S b → b < w.heap.size) (hw : Know h w S) (hn0_2 : n0_2 = a0.kaa.length) (H : Ja6 a0 a1 = some r) : Does prog 178 (List.toArray [pz pb0, str a1]) w (fun v w' => ∃ x : AN × Nat, v = (str r.1) ∧ Turn w w' S (Jz (Ji pb0 [str r.2.s_, .bool r.2.kab, .slice x.1.1 r.2.kaa.length x.1.2, .map (some x.2), i6 r.2.kad, (Xp r.2.kac), i6 r.2.no_] 112) (Jz (Ju 118 2 (.slice x.1.1 r.2.kaa.length x.1.2) r.2.kaa.length (r.2.kaa.map Jy)) (Wd i6 Value.bool x.2 r.2.kae)))) := by
 refine enter (n := 36) func178 rfl rfl rfl S [Jz (Ji pb0 [str a0.s_, .bool a0.kab, sl p0_2 n0_2, .map (some m0_3), i6 a0.kad, (Xp a0.kac), i6 a0.no_] 112) (Jz (Ju 118 2 (sl p0_2 n0_2) n0_2 (a0.kaa.map Jy)) (Wd i6 Value.bool m0_3 a0.kae))] (Sat.one hcs hlt)<|Qa 0 rfl<|Qa 1 rfl<|Jc<|Ja<|ag (str [])<|Jd<|Jc<|Jc<|Ja<|mv (str a1)<|lv (Ud rfl rfl)<|mv (.bool (decide (a1 = [])))<|?_
 revert H
 refine sp (fun hb H20=>?_) fun hb H22=>?_
 ·refine pa<|pa<|pa<|pa<|pa<|pa<|pT (.bool true)<|Jd<|Y4 rfl<|Jc<|Ja<|mv (pz pb0)<|?_
  obtain ⟨t17, h_t17, H21⟩ := Je H20; clear H20
  refine bo 1 2 rfl rfl<|bo 0 1 rfl rfl<|?_
  refine J7 (Jw (i := 0) (rds := []) rfl (fun w L' S hF hS hi hp hlt ho hA => k104 hp hlt (Qe w S) hn0_2 h_t17) Tryz.call104 rfl) rfl rfl rfl (fun ⟨p, p_2⟩ => ?_)
  refine ub 0 1 rfl rfl<|ub 1 2 rfl rfl<|Jd<|Jc<|?_
  try dsimp only [z1,z2,z5,z6,z7,z8]
  refine Ja<|ag (str [])<|Jd<|Jh<|?_
  obtain rfl := sj H21
  refine bo 1 2 rfl rfl<|bo 0 1 rfl rfl<|?_
  refine Uh (v := str []) rfl rfl (X5 (p, p_2) (i := 0) rfl rfl (Imp.refl _))
 ·refine mv (str a1)<|mv (str a1)<|lv (Q8 Tryz.underlying9 rfl)<|?_
  obtain ⟨t12, h_t12, H23⟩ := Je H22; clear H22
  refine lv (Zb rfl rfl h_t12) ?_
  obtain ⟨t13, h_t13, H24⟩ := Je H23; clear H23
  refine lv (Zz Tryz.underlying9 rfl rfl h_t13)<|lv (Zm rfl rfl)<|pF (.bool (decide (t13 ≠ 0)))<|Jd<|?_
  revert H24
  refine ci (decide (t13 ≠ 0)) rfl (fun hb H25=>?_) fun hb H27=>?_
  ·refine Jc<|Ja<|mv (pz pb0)<|?_
   obtain ⟨t17_2, h_t17_2, H26⟩ := Je H25; clear H25
   refine bo 1 2 rfl rfl<|bo 0 1 rfl rfl<|?_
   refine J7 (Jw (i := 0) (rds := []) rfl (fun w L' S hF hS hi hp hlt ho hA => k104 hp hlt (Qe w S) hn0_2 h_t17_2) Tryz.call104 rfl) rfl rfl rfl (fun ⟨p_3, p_4⟩ => ?_)
   refine ub 0 1 rfl rfl<|ub 1 2 rfl rfl<|Jd<|Jc<|?_
   try dsimp only [z1,z2,z5,z6,z7,z8]
   refine Ja<|ag (str [])<|Jd<|Jh<|?_
   obtain rfl := sj H26
   refine bo 1 2 rfl rfl<|bo 0 1 rfl rfl<|?_
   refine Uh (v := str []) rfl rfl (X5 (p_3, p_4) (i := 0) rfl rfl (Imp.refl _))
  ·refine Jj<|Jc<|Ja<|mv (str a1)<|mv (str a1)<|lv (Q8 Tryz.underlying9 rfl)<|?_
   obtain ⟨t21, h_t21, H28⟩ := Je H27; clear H27
   refine lv (Zb rfl rfl h_t21) ?_
   obtain ⟨t22, h_t22, H29⟩ := Je H28; clear H28
   refine lv (Jbg Tryz.underlying9 rfl rfl h_t22)<|ag (str t22)<|Jd<|Jc<|Jc<|Ja<|mv (str t22)<|lv (Q8 Tryz.underlying9 rfl)<|mv (i6 0)<|Jd<|Jq<|?_
   refine Yq (σ := Int × (List UInt8) × Bool × Int × Nat × Int × (List Te) × (List (Int × Bool))) (τ := AN × Nat × Nat) (fun next1 s => Xd t22 next1 s.1 s.2.1 s.2.2.1 s.2.2.2.1 s.2.2.2.2.1 s.2.2.2.2.2.1 s.2.2.2.2.2.2.1 s.2.2.2.2.2.2.2) (fun s t => [(0, pz pb0), (1, str t22), (24, i6 (t22.length : Int)), (25, i6 s.1)]) (fun s t => [Ji pb0 [str s.2.1, .bool s.2.2.1, .slice t.1.1 t.2.1 t.1.2, .map (some t.2.2), i6 s.2.2.2.1, (Xp s.2.2.2.2.1), i6 s.2.2.2.2.2.1] 112, Ju 118 2 (.slice t.1.1 t.2.1 t.1.2) t.2.1 (s.2.2.2.2.2.2.1.map Jy), Wd i6 Value.bool t.2.2 s.2.2.2.2.2.2.2]) (fun s t => t.2.1 = s.2.2.2.2.2.2.1.length) (0, a0.s_, a0.kab, a0.kad, a0.kac, a0.no_, a0.kaa, a0.kae) (p0_2, n0_2, m0_3) [0, 1, 2] H29 (by exact hn0_2) (by exact ⟨rfl, rfl, rfl, rfl, trivial⟩) (by decide) rfl ?_
   rintro ⟨x25_2, m_6, m_7, m_8, m_9, m_10, l_2, mp_2⟩ ⟨p_5, n, b⟩ m1 gg H30 hl_2
   clear H29
   try dsimp only at H30
   generalize hn1 : it (fun next1 s => Xd t22 next1 s.1 s.2.1 s.2.2.1 s.2.2.2.1 s.2.2.2.2.1 s.2.2.2.2.2.1 s.2.2.2.2.2.2.1 s.2.2.2.2.2.2.2) m1 = next1 at H30
   try dsimp only
   refine Jc<|Ja<|lv (Yh rfl rfl)<|Jd<|Jc<|?_
   revert H30
   refine ci (decide (x25_2 < (t22.length : Int))) rfl (fun hb H31=>?_) fun hb H38=>?_
   ·refine Jj ?_
    refine Qm (r := r) (σ := (List UInt8) × Bool × Int × Nat × Int × (List Te) × (List (Int × Bool))) (τ := AN × Nat × Nat) (fun s => Ve x25_2 next1 s.1 s.2.1 s.2.2.1 s.2.2.2.1 s.2.2.2.2.1 s.2.2.2.2.2.1 s.2.2.2.2.2.2) (fun s t => [(0, pz pb0), (1, str t22), (24, i6 (t22.length : Int)), (25, i6 x25_2)]) (fun s t => [Ji pb0 [str s.1, .bool s.2.1, .slice t.1.1 t.2.1 t.1.2, .map (some t.2.2), i6 s.2.2.1, (Xp s.2.2.2.1), i6 s.2.2.2.2.1] 112, Ju 118 2 (.slice t.1.1 t.2.1 t.1.2) t.2.1 (s.2.2.2.2.2.1.map Jy), Wd i6 Value.bool t.2.2 s.2.2.2.2.2.2]) (fun s t => t.2.1 = s.2.2.2.2.2.1.length) ?_ ?_
    ·refine Jq<|Jc<|Ja<|mv (i6 x25_2)<|ag (i6 x25_2)<|Jd<|Jc<|Ja<|mv (str t22)<|mv (i6 x25_2)<|?_
     obtain ⟨t30, h_t30, H34⟩ := Je H31; clear H31
     refine lv (Zz Tryz.underlying9 rfl rfl h_t30)<|lv (Qg rfl rfl)<|Jd<|?_
     revert H34
     refine ci (decide (t30 = 0)) rfl (fun hb H35=>?_) fun hb H37=>?_
     ·refine Ja<|mv (pz pb0)<|?_
      obtain ⟨t33, h_t33, H36⟩ := Je H35; clear H35
      refine bo 1 2 rfl rfl<|bo 0 1 rfl rfl<|?_
      refine J7 (Jw (i := 0) (rds := []) rfl (fun w L' S hF hS hi hp hlt ho hA => k104 (a0 := (⟨m_6, m_7, l_2, mp_2, m_8, m_9, m_10⟩ : Tb)) hp hlt (Qe w S) hl_2 h_t33) Tryz.call104 rfl) rfl rfl rfl (fun ⟨p_7, p_8⟩ => ?_)
      refine ub 0 1 rfl rfl<|ub 1 2 rfl rfl<|Jd<|?_
      exact cl (t33.s_, t33.kab, t33.kad, t33.kac, t33.no_, t33.kaa, t33.kae) (p_7, t33.kaa.length, p_8) 0 [0, 1, 2] (by exact ⟨H36, rfl⟩)
     ·refine Jj ?_
      exact cl (m_6, m_7, m_8, m_9, m_10, l_2, mp_2) (p_5, n, b) 0 [0, 1, 2] (by exact ⟨H37, hl_2⟩)
    ·rintro ⟨m_11, m_12, m_13, m_14, m_15, l_3, mp_3⟩ ⟨p_6, n_2, b_2⟩ gg H32 hl_3
     try dsimp only at H32
     try dsimp only
     refine Ja ?_
     obtain ⟨t34, h_t34, H33⟩ := Je H32; clear H32
     refine lv (J8 rfl rfl h_t34)<|mv (i6 t34)<|Jd<|?_
     exact cl (t34, m_11, m_12, m_13, m_14, m_15, l_3, mp_3) (p_6, n_2, b_2) m1 [0, 1, 2] (by exact ⟨(by subst hn1; exact H33), hl_3⟩)
   ·refine Qo<|Jc<|?_
    try dsimp only [z1,z2,z5,z6,z7,z8]
    refine Ja<|mv (str t22)<|ag (str t22)<|Jd<|Jh<|?_
    obtain rfl := sj H38
    refine bo 1 2 rfl rfl<|bo 0 1 rfl rfl<|?_
    refine Uh (v := str t22) rfl rfl (X5 (p_5, b) (i := 0) rfl (by first | rfl | rw [(show n = l_2.length from hl_2)]) (by first | exact Imp.refl _ | exact Imp.of (by rw [(show n = l_2.length from hl_2)] <;> rfl)))
theorem k150 {a0 : Tb} {pb0 : Nat} {p0_2 : AN} {n0_2 : Nat} {m0_3 : Nat} {a1 : Int} {a2 : Int} {a3 : Int} {r : Tc × Tb} {w : World} {h : Js} {S : Nat → Prop} (hcs : (Jz (Ji pb0 [str a0.s_, .bool a0.kab, sl p0_2 n0_2, .map (some m0_3), i6 a0.kad, (Xp a0.kac), i6 a0.no_] 112) (Jz (Ju 118 2 (sl p0_2 n0_2) n0_2 (a0.kaa.map Jy)) (Wd i6 Value.bool m0_3 a0.kae))).P S w) (hlt : ∀ b, S b → b < w.heap.size) (hw : Know h w S) (hn0_2 : n0_2 = a0.kaa.length) (H : Ja1 a0 a1 a2 a3 = some r) : Does prog 150 (List.toArray [pz pb0, i6 a1, i6 a2, i6 a3]) w (fun v w' => ∃ x : AN × AN × AN × AN × Nat, v = (.agg #[i6 r.1.kah, str r.1.kai, .slice x.1.1 r.1.kaj.length x.1.2, .slice x.2.1.1 r.1.kag.length x.2.1.2, .slice x.2.2.1.1 r.1.kaf.length x.2.2.1.2]) ∧ Turn w w' S (Jz (Ji pb0 [str r.2.s_, .bool r.2.kab, .slice x.2.2.2.1.1 r.2.kaa.length x.2.2.2.1.2, .map (some x.2.2.2.2), i6 r.2.kad, (Xp r.2.kac), i6 r.2.no_] 112) (Jz (Ju 118 2 (.slice x.2.2.2.1.1 r.2.kaa.length x.2.2.2.1.2) r.2.kaa.length (r.2.kaa.map Jy)) (Jz (Wd i6 Value.bool x.2.2.2.2 r.2.kae) (Jz (Ju 3 1 (.slice x.1.1 r.1.kaj.length x.1.2) r.1.kaj.length (r.1.kaj.map Q5)) (Jz (Ju 70 2 (.slice x.2.1.1 r.1.kag.length x.2.1.2) r.1.kag.length (r.1.kag.map Jp)) (Jdb 83 6 g_tag_Entry (.slice x.2.2.1.1 r.1.kaf.length x.2.2.1.2) r.1.kaf.length r.1.kaf))))))) := by
 refine enter (n := 131) func150 rfl rfl rfl S [Jz (Ji pb0 [str a0.s_, .bool a0.kab, sl p0_2 n0_2, .map (some m0_3), i6 a0.kad, (Xp a0.kac), i6 a0.no_] 112) (Jz (Ju 118 2 (sl p0_2 n0_2) n0_2 (a0.kaa.map Jy)) (Wd i6 Value.bool m0_3 a0.kae))] (Sat.one hcs hlt)<|Qa 0 rfl<|Qa 1 rfl<|Zt Y2<|Jc<|Ja<|?_
 refine Q2 (cs := [i6 0, str [], z0s, z0s, z0s]) zeroValue81 rfl rfl rfl (fun b5 => ?_)
 refine Jd<|Jc<|Ja<|mv (i6 a2)<|mv (i6 a1)<|?_
 obtain ⟨t17, h_t17, H50⟩ := Je H; clear H
 refine Qk (k114 h_t17) call114 rfl rfl rfl ?_
 obtain ⟨t18, h_t18, H51⟩ := Je H50; clear H50
 refine lv (Jct rfl rfl h_t18)<|ag (i6 t18)<|Jd<|Jc<|Ja<|mv (i6 a3)<|ag (i6 a3)<|Jd<|?_
 refine Qm (r := r) (σ := Int × (List Te)) (τ := AN × Nat) (fun s => Vd a0 a1 a2 t18 s.1 s.2) (fun s t => [(0, pz pb0), (1, i6 a1), (2, i6 a2), (8, pz b5), (9, i6 t18), (10, i6 s.1)]) (fun s t => [Ji pb0 [str a0.s_, .bool a0.kab, .slice t.1.1 t.2 t.1.2, .map (some m0_3), i6 a0.kad, (Xp a0.kac), i6 a0.no_] 112, Ju 118 2 (.slice t.1.1 t.2 t.1.2) t.2 (s.2.map Jy), Wd i6 Value.bool m0_3 a0.kae, Y7 Y2 Y2, Ji b5 [i6 0, str [], z0s, z0s, z0s] 81]) (fun s t => t.2 = s.2.length) ?_ ?_
 ·refine Jc<|Ja<|mv (i6 t18)<|lv (Va rfl rfl)<|Jd<|?_
  revert H51
  refine ci (decide (4 < t18)) rfl (fun hb H90=>?_) fun hb H98=>?_
  ·refine Jc<|Ja<|mv (pz pb0)<|mv (i6 a3)<|?_
   obtain ⟨t24, h_t24, H91⟩ := Je H90; clear H90
   refine Qb (fun w hF hS => k58 (a0 := a0) (Jm w) (Xw (i := 1) hn0_2 hS rfl) (Uv (fk := i6) (fv := Value.bool) (i := 2) hS rfl) (Xf (i := 0) hS rfl) h_t24) call58 rfl rfl rfl<|ag (i6 t24)<|Jd<|Jc<|Jc<|Ja<|mv (pz pb0)<|mv (i6 t24)<|mv (i6 t18)<|?_
   obtain ⟨t28, h_t28, H92⟩ := Je H91; clear H91
   refine Qb (fun w hF hS => k103 (a0 := a0) (Jm w) (Xw (i := 1) hn0_2 hS rfl) (Uv (fk := i6) (fv := Value.bool) (i := 2) hS rfl) (Xf (i := 0) hS rfl) h_t28) call103 rfl rfl rfl<|lv (Jb8 rfl)<|Jd<|?_
   revert H92
   refine ci (!t28) rfl (fun hb H93=>?_) fun hb H95=>?_
   ·refine Jc<|Ja<|mv (pz pb0)<|?_
    obtain ⟨t31, h_t31, H94⟩ := Je H93; clear H93
    refine bo 1 2 rfl rfl<|bo 0 1 rfl rfl<|?_
    refine J7 (Jw (i := 0) (rds := []) rfl (fun w L' S hF hS hi hp hlt ho hA => k104 hp hlt (Qe w S) hn0_2 h_t31) Tryz.call104 rfl) rfl rfl rfl (fun ⟨p_11, p_12⟩ => ?_)
    refine ub 0 1 rfl rfl<|ub 1 2 rfl rfl<|Jd<|Jc<|?_
    try dsimp only [z1,z2,z5,z6,z7,z8]
    refine Ja<|lv (Xh (pl := #[(0, 1), (1, 1), (2, 1), (3, 1), (4, 1)]) (ps := []) (cells := #[i6 0, str [], z0s, z0s, z0s]) zeroValue81 Tryz.runUnderlying81 (fun w => by kernel_rfl) rfl rfl)<|st (i := 4) [i6 0, str [], z0s, z0s, z0s] [i6 0, str [], z0s, z0s, z0s] Tryz.sizeOf81 rfl rfl<|Jd<|Jh<|?_
    try dsimp only [z1, z2, z3, z4, z5, z6, z7, z8]
    refine J1 3 1<|J1 70 2<|J1 83 6<|?_
    try dsimp only [z1,z2,z5,z6,z7,z8]
    obtain rfl := sj H94
    refine bo 3 7 rfl rfl<|J4 3 rfl (Yo (p := nn) rfl (AllC.nil (G := g_tag_Entry) (h := Y2) (sz := 6)))<|bo 6 3 rfl rfl<|bo 5 6 rfl rfl<|bo 2 5 rfl rfl<|bo 1 2 rfl rfl<|bo 0 1 rfl rfl<|?_
    refine retC (i := 4) (vs := [i6 0, str [], sl nn ([] : List Int).length, sl nn ([] : List Td).length, sl nn (([] : List (List Value)).length)]) Tryz.isAgg81 Tryz.sizeOf81 rfl rfl rfl rfl (X5 (nn, nn, nn, p_11, p_12) (i := 0) rfl (by first | rfl | rw [(show (([] : List (List Value)).length) = ([] : List Ta).length from (AllC.nil (G := g_tag_Entry) (h := Y2) (sz := 6)).len)]) (by first | exact Imp.refl _ | exact Imp.of (by rw [(show (([] : List (List Value)).length) = ([] : List Ta).length from (AllC.nil (G := g_tag_Entry) (h := Y2) (sz := 6)).len)] <;> rfl)))
   ·refine Jj ?_
    try dsimp only [z1,z2,z5,z6,z7,z8]
    refine Ja<|mv (pz pb0)<|mv (pz pb0)<|lv (Jg rfl)<|lf Tryz.runUnderlying112 rfl sizeOf73 rfl<|ll 0 (sl p0_2 n0_2) isAgg73<|mv (i6 t24)<|mv (i6 t24)<|mv (i6 t18)<|?_
    obtain ⟨t41, h_t41, H96⟩ := Je H95; clear H95
    refine lv (J8 rfl rfl h_t41)<|lv (Xh (pl := #[(0, 1), (1, 1)]) (ps := [(0, i6 t24), (1, i6 t41)]) (cells := #[i6 t24, i6 t41]) zeroValue118 runUnderlying118 (fun w => by kernel_rfl) rfl rfl)<|?_
    refine Qj (vs := [.agg #[i6 t24, i6 t41]]) (cs := [i6 t24, i6 t41]) Tryz.underlying73 sizeOf118 zeroValue118 rfl rfl rfl rfl rfl rfl rfl (fun b9 => ?_)
    obtain ⟨l44, h_l44, H97⟩ := Je H96; clear H96
    refine J7 (X4 (i := 1) (hn := hn0_2) (rds := [5]) (p := p0_2) (sz := 2) (by_ := 16) (f := Jy) (ys := a0.kaa) (ls := ([(⟨t24, t41⟩ : Te)] : List Te)) (V := .slice (some ⟨b9, 0, none⟩) 1 1) Tryz.underlying73 (Qn typeInfo118) rfl rfl rfl rfl rfl rfl rfl rfl rfl rfl (fun w L' hF hS hi => Vl (i := 5) hS ((hi 5 (by simp)).trans rfl) rfl rfl) (fun _ => rfl) (fun _ => rfl) h_l44) rfl rfl rfl (fun p_13 => ?_)
    refine lv (Jg rfl)<|lf Tryz.runUnderlying112 rfl sizeOf73 rfl<|st (i := 0) [sl p_13 l44.length] [str a0.s_, .bool a0.kab, sl p_13 l44.length, .map (some m0_3), i6 a0.kad, (Xp a0.kac), i6 a0.no_] sizeOf73 rfl rfl<|Jd<|?_
    exact cl (t24, l44) (p_13, l44.length) 0 [0, 1, 2, 3, 4] (by exact ⟨H97, rfl⟩)
  ·refine Jj ?_
   exact cl (a3, a0.kaa) (p0_2, n0_2) 0 [0, 1, 2, 3, 4] (by exact ⟨H98, hn0_2⟩)
 ·rintro ⟨x10, l⟩ ⟨p, n⟩ gg H52 hl
  try dsimp only at H52
  try dsimp only
  refine Jc<|Ja<|mv (i6 a1)<|lv (Xh (pl := #[(0, 1), (1, 1), (2, 1), (3, 1), (4, 1)]) (ps := [(0, i6 a1)]) (cells := #[i6 a1, str [], z0s, z0s, z0s]) zeroValue81 Tryz.runUnderlying81 (fun w => by kernel_rfl) rfl rfl)<|?_
  refine Q2 (cs := [i6 0, str [], z0s, z0s, z0s]) zeroValue81 rfl rfl rfl (fun b6 => ?_)
  refine st (i := 5) [i6 a1, str [], z0s, z0s, z0s] [i6 a1, str [], z0s, z0s, z0s] Tryz.sizeOf81 rfl rfl<|Jd<|?_
  refine Qm (r := r) (σ := (List UInt8) × Bool × Int × Nat × Int × (List Te) × (List (Int × Bool)) × (List UInt8) × (List Int) × (List Td)) (τ := AN × Nat × Nat × AN × AN) (fun s => Vb a1 s.1 s.2.1 s.2.2.1 s.2.2.2.1 s.2.2.2.2.1 s.2.2.2.2.2.1 s.2.2.2.2.2.2.1 s.2.2.2.2.2.2.2.1 s.2.2.2.2.2.2.2.2.1 s.2.2.2.2.2.2.2.2.2) (fun s t => [(8, pz b5), (11, pz b6)]) (fun s t => [Ji pb0 [str s.1, .bool s.2.1, .slice t.1.1 t.2.1 t.1.2, .map (some t.2.2.1), i6 s.2.2.1, (Xp s.2.2.2.1), i6 s.2.2.2.2.1] 112, Ju 118 2 (.slice t.1.1 t.2.1 t.1.2) t.2.1 (s.2.2.2.2.2.1.map Jy), Wd i6 Value.bool t.2.2.1 s.2.2.2.2.2.2.1, Y7 Y2 Y2, Ji b5 [i6 0, str [], z0s, z0s, z0s] 81, Ji b6 [i6 a1, str s.2.2.2.2.2.2.2.1, .slice t.2.2.2.1.1 s.2.2.2.2.2.2.2.2.1.length t.2.2.2.1.2, .slice t.2.2.2.2.1 s.2.2.2.2.2.2.2.2.2.length t.2.2.2.2.2, z0s] 81, Ju 3 1 (.slice t.2.2.2.1.1 s.2.2.2.2.2.2.2.2.1.length t.2.2.2.1.2) s.2.2.2.2.2.2.2.2.1.length (s.2.2.2.2.2.2.2.2.1.map Q5), Ju 70 2 (.slice t.2.2.2.2.1 s.2.2.2.2.2.2.2.2.2.length t.2.2.2.2.2) s.2.2.2.2.2.2.2.2.2.length (s.2.2.2.2.2.2.2.2.2.map Jp)]) (fun s t => t.2.1 = s.2.2.2.2.2.1.length) ?_ ?_
  ·refine Jq<|Jc<|?_
   try dsimp only [z1,z2,z5,z6,z7,z8]
   refine Ja<|mv (i6 a1)<|lv (Qg rfl rfl)<|ag (.bool (decide (a1 = 2)))<|Jd<|?_
   revert H52
   refine ci (decide (a1 = 2)) rfl (fun hb H54=>?_) fun hb H58=>?_
   ·refine Ja<|mv (pz pb0)<|mv (pz pb0)<|lv (Jg rfl)<|lf Tryz.runUnderlying112 rfl Tryz.sizeOf9 rfl<|ll 0 (str a0.s_) isAgg9<|mv (i6 x10)<|mv (i6 x10)<|mv (i6 t18)<|?_
    obtain ⟨t86, h_t86, H55⟩ := Je H54; clear H54
    refine lv (J8 rfl rfl h_t86) ?_
    obtain ⟨t87, h_t87, H56⟩ := Je H55; clear H55
    refine lv (r_cutTG Tryz.underlying9 rfl rfl rfl h_t87) ?_
    obtain ⟨t88, h_t88, H57⟩ := Je H56; clear H56
    refine bo 1 2 rfl rfl<|bo 0 1 rfl rfl<|?_
    refine J7 (Jw (i := 0) (rds := []) rfl (fun w L' S hF hS hi hp hlt ho hA => k178 (a0 := (⟨a0.s_, a0.kab, l, a0.kae, a0.kad, a0.kac, a0.no_⟩ : Tb)) hp hlt (Qe w S) hl h_t88) call178 rfl) rfl rfl rfl (fun ⟨p_5, p_6⟩ => ?_)
    refine ub 0 1 rfl rfl<|ub 1 2 rfl rfl<|lf Tryz.runUnderlying81 rfl Tryz.sizeOf9 rfl<|st (i := 5) [str t88.1] [i6 a1, str t88.1, z0s, z0s, z0s] Tryz.sizeOf9 rfl rfl<|Jd<|J1 3 1<|J1 70 2<|?_
    exact cl (t88.2.s_, t88.2.kab, t88.2.kad, t88.2.kac, t88.2.no_, t88.2.kaa, t88.2.kae, t88.1, ([] : List Int), ([] : List Td)) (p_5, t88.2.kaa.length, p_6, nn, nn) 0 [0, 1, 2, 3, 4, 5, 6, 7] (by exact ⟨H57, rfl⟩)
   ·refine Jc ?_
    try dsimp only [z1,z2,z5,z6,z7,z8]
    refine Ja<|mv (i6 a1)<|lv (Qg rfl rfl)<|ag (.bool (decide (a1 = 7)))<|Jd<|?_
    revert H58
    refine ci (decide (a1 = 7)) rfl (fun hb H59=>?_) fun hb H62=>?_
    ·refine Ja<|mv (pz pb0)<|lv (Jg rfl)<|lf Tryz.runUnderlying112 rfl Tryz.sizeOf9 rfl<|ll 0 (str a0.s_) isAgg9<|mv (i6 x10)<|mv (i6 x10)<|mv (i6 t18)<|?_
     obtain ⟨t100, h_t100, H60⟩ := Je H59; clear H59
     refine lv (J8 rfl rfl h_t100) ?_
     obtain ⟨t101, h_t101, H61⟩ := Je H60; clear H60
     refine lv (r_cutTG Tryz.underlying9 rfl rfl rfl h_t101)<|lf Tryz.runUnderlying81 rfl Tryz.sizeOf9 rfl<|st (i := 5) [str t101] [i6 a1, str t101, z0s, z0s, z0s] Tryz.sizeOf9 rfl rfl<|Jd<|J1 3 1<|J1 70 2<|?_
     exact cl (a0.s_, a0.kab, a0.kad, a0.kac, a0.no_, l, a0.kae, t101, ([] : List Int), ([] : List Td)) (p, n, m0_3, nn, nn) 0 [0, 1, 2, 3, 4, 5, 6, 7] (by exact ⟨H61, hl⟩)
    ·refine Jc<|Ja<|mv (i6 a1)<|lv (Qg rfl rfl)<|ag (.bool (decide (a1 = 5)))<|Jd<|?_
     revert H62
     refine ci (decide (a1 = 5)) rfl (fun hb H63=>?_) fun hb H76=>?_
     ·refine Jc<|Ja<|mv (i6 a2)<|mv (i6 0)<|Jd<|Jq<|J1 70 2<|?_
      refine Yq (σ := Int × (List Td)) (τ := AN) (fun next3 s => X0 a0 a1 a2 x10 l next3 s.1 s.2) (fun s t => [(0, pz pb0), (8, pz b5), (10, i6 x10), (11, pz b6), (106, i6 a2), (107, i6 s.1)]) (fun s t => [Ji pb0 [str a0.s_, .bool a0.kab, sl p n, .map (some m0_3), i6 a0.kad, (Xp a0.kac), i6 a0.no_] 112, Ju 118 2 (sl p n) n (l.map Jy), Wd i6 Value.bool m0_3 a0.kae, Y7 Y2 Y2, Ji b5 [i6 0, str [], z0s, z0s, z0s] 81, Ji b6 [i6 a1, str [], z0s, sl t s.2.length, z0s] 81, Ju 70 2 (sl t s.2.length) s.2.length (s.2.map Jp)]) (fun s t => True) (0, ([] : List Td)) nn [0, 1, 2, 3, 4, 5, 6] H63 (by exact trivial) (by exact ⟨rfl, rfl, rfl, rfl, rfl, rfl, trivial⟩) (by decide) rfl ?_
      rintro ⟨x107_2, l_6⟩ p_7 m3 gg H64 _
      clear H63
      try dsimp only at H64
      generalize hn3 : it (fun next3 s => X0 a0 a1 a2 x10 l next3 s.1 s.2) m3 = next3 at H64
      try dsimp only
      refine Jc<|Ja<|lv (Yh rfl rfl)<|Jd<|Jc<|?_
      revert H64
      refine ci (decide (x107_2 < a2)) rfl (fun hb H65=>?_) fun hb H75=>?_
      ·refine Jj<|Jc<|Jq<|Jc<|Ja<|mv (i6 x107_2)<|ag (i6 x107_2)<|Jd<|?_
       exact Q1 (Kd.p :: Kd.d [5] _ :: Kd.p :: Kd.p :: Kd.p :: Kd.p :: Kd.p :: Kd.d [3, 0, 1, 2] _ :: Kd.p :: Kd.p :: Kd.p :: Kd.p :: Kd.p :: Kd.p :: Kd.d [3, 0, 1, 2] _ :: Kd.p :: Kd.ns 7 [_, _] 70 1 :: Kd.t 6 [7] _ _ :: Kd.p :: Kd.sv 128 127 5 _ 81 :: []) 1 mixed (by
        refine dv (J0 Tryz.runUnderlying81 rfl Tryz.sizeOf79 rfl rfl)<|dl (sl p_7 l_6.length) isAgg79<|dm (pz pb0)<|dm (i6 x10)<|dm (i6 x107_2)<|?_
        have h_t115 := Qc H65
        have H66 := J2 H65
        refine dv (Jct rfl rfl h_t115) ?_
        have h_t116 := Qc H66
        have H67 := J2 H66
        refine dv (J8 rfl rfl h_t116) ?_
        have h_t117 := Qc H67
        have H68 := J2 H67
        refine Jek (fun w L' hF hS hi => k58 (a0 := (⟨a0.s_, a0.kab, l, a0.kae, a0.kad, a0.kac, a0.no_⟩ : Tb)) (Jm w) (Xw (i := 1) hl hS ((hi 1 (by simp)).trans rfl)) (Uv (fk := i6) (fv := Value.bool) (i := 2) hS ((hi 2 (by simp)).trans rfl)) (Xf (i := 0) hS ((hi 0 (by simp)).trans rfl)) h_t117) call58 rfl rfl<|dm (pz pb0)<|dm (i6 x10)<|dm (i6 x107_2)<|?_
        have h_t121 := Qc H68
        have H69 := J2 H68
        refine dv (Jct rfl rfl h_t121) ?_
        have h_t122 := Qc H69
        have H70 := J2 H69
        refine dv (J8 rfl rfl h_t122) ?_
        have h_t123 := Qc H70
        have H71 := J2 H70
        refine dv (J8 rfl rfl h_t123) ?_
        have h_t124 := Qc H71
        have H72 := J2 H71
        refine Jek (fun w L' hF hS hi => k58 (a0 := (⟨a0.s_, a0.kab, l, a0.kae, a0.kad, a0.kac, a0.no_⟩ : Tb)) (Jm w) (Xw (i := 1) hl hS ((hi 1 (by simp)).trans rfl)) (Uv (fk := i6) (fv := Value.bool) (i := 2) hS ((hi 2 (by simp)).trans rfl)) (Xf (i := 0) hS ((hi 0 (by simp)).trans rfl)) h_t124) call58 rfl rfl<|dv (Xh (pl := #[(0, 1), (1, 1)]) (ps := [(0, i6 (val (Jn (⟨a0.s_, a0.kab, l, a0.kae, a0.kad, a0.kac, a0.no_⟩ : Tb) (val (gI (x10 + (val (gI (8 * x107_2)))))) 4))), (1, i6 (val (Jn (⟨a0.s_, a0.kab, l, a0.kae, a0.kad, a0.kac, a0.no_⟩ : Tb) (val (gI ((val (gI (x10 + (val (gI (8 * x107_2)))))) + 4))) 4)))]) (cells := #[i6 (val (Jn (⟨a0.s_, a0.kab, l, a0.kae, a0.kad, a0.kac, a0.no_⟩ : Tb) (val (gI (x10 + (val (gI (8 * x107_2)))))) 4)), i6 (val (Jn (⟨a0.s_, a0.kab, l, a0.kae, a0.kad, a0.kac, a0.no_⟩ : Tb) (val (gI ((val (gI (x10 + (val (gI (8 * x107_2)))))) + 4))) 4))]) zeroValue70 Tryz.runUnderlying70 (fun w => by kernel_rfl) rfl rfl)<|?_
        refine Jis rfl rfl (Vw (vs := [.agg #[i6 (val (Jn (⟨a0.s_, a0.kab, l, a0.kae, a0.kad, a0.kac, a0.no_⟩ : Tb) (val (gI (x10 + (val (gI (8 * x107_2)))))) 4)), i6 (val (Jn (⟨a0.s_, a0.kab, l, a0.kae, a0.kad, a0.kac, a0.no_⟩ : Tb) (val (gI ((val (gI (x10 + (val (gI (8 * x107_2)))))) + 4))) 4))]]) (cs := [i6 (val (Jn (⟨a0.s_, a0.kab, l, a0.kae, a0.kad, a0.kac, a0.no_⟩ : Tb) (val (gI (x10 + (val (gI (8 * x107_2)))))) 4)), i6 (val (Jn (⟨a0.s_, a0.kab, l, a0.kae, a0.kad, a0.kac, a0.no_⟩ : Tb) (val (gI ((val (gI (x10 + (val (gI (8 * x107_2)))))) + 4))) 4))]) Tryz.underlying79 Tryz.sizeOf70 zeroValue70 rfl rfl rfl rfl rfl) rfl (fun b7 => ?_)
        have h_l127 := Qc H72
        have H73 := J2 H72
        refine Jca (Cv := fun v => Ju 70 2 v (val (Xk 16 l_6 ([(⟨(val (Jn (⟨a0.s_, a0.kab, l, a0.kae, a0.kad, a0.kac, a0.no_⟩ : Tb) (val (gI (x10 + (val (gI (8 * x107_2)))))) 4)), (val (Jn (⟨a0.s_, a0.kab, l, a0.kae, a0.kad, a0.kac, a0.no_⟩ : Tb) (val (gI ((val (gI (x10 + (val (gI (8 * x107_2)))))) + 4))) 4))⟩ : Td)] : List Td))).length ((val (Xk 16 l_6 ([(⟨(val (Jn (⟨a0.s_, a0.kab, l, a0.kae, a0.kad, a0.kac, a0.no_⟩ : Tb) (val (gI (x10 + (val (gI (8 * x107_2)))))) 4)), (val (Jn (⟨a0.s_, a0.kab, l, a0.kae, a0.kad, a0.kac, a0.no_⟩ : Tb) (val (gI ((val (gI (x10 + (val (gI (8 * x107_2)))))) + 4))) 4))⟩ : Td)] : List Td))).map Jp)) (none, 0) (X4 (i := 6) (hn := rfl) (rds := [7]) (p := p_7) (sz := 2) (by_ := 16) (f := Jp) (ys := l_6) (ls := ([(⟨(val (Jn (⟨a0.s_, a0.kab, l, a0.kae, a0.kad, a0.kac, a0.no_⟩ : Tb) (val (gI (x10 + (val (gI (8 * x107_2)))))) 4)), (val (Jn (⟨a0.s_, a0.kab, l, a0.kae, a0.kad, a0.kac, a0.no_⟩ : Tb) (val (gI ((val (gI (x10 + (val (gI (8 * x107_2)))))) + 4))) 4))⟩ : Td)] : List Td)) (V := .slice (some ⟨b7, 0, none⟩) 1 1) Tryz.underlying79 (Qn typeInfo70) rfl rfl rfl rfl rfl rfl rfl rfl rfl rfl (fun w L' hF hS hi => Vl (i := 7) hS ((hi 7 (by simp)).trans rfl) rfl rfl) (fun _ => rfl) (fun _ => rfl) h_l127) (fun _ => rfl) rfl rfl (fun p_8 => ?_)
        refine dv (J0 Tryz.runUnderlying81 rfl Tryz.sizeOf79 rfl rfl)<|Jcf (i := 5) (vs := [.slice p_8.1 (val (Xk 16 l_6 ([(⟨(val (Jn (⟨a0.s_, a0.kab, l, a0.kae, a0.kad, a0.kac, a0.no_⟩ : Tb) (val (gI (x10 + (val (gI (8 * x107_2)))))) 4)), (val (Jn (⟨a0.s_, a0.kab, l, a0.kae, a0.kad, a0.kac, a0.no_⟩ : Tb) (val (gI ((val (gI (x10 + (val (gI (8 * x107_2)))))) + 4))) 4))⟩ : Td)] : List Td))).length p_8.2]) (cs' := fun v_ => [i6 a1, str [], z0s, v_, z0s]) Tryz.sizeOf79 rfl rfl rfl rfl rfl rfl rfl rfl rfl<|Vz<|Ja<|?_
        obtain ⟨t129, h_t129, H74⟩ := Je H73; clear H73
        refine lv (J8 rfl rfl h_t129)<|mv (i6 t129)<|Jd<|?_
        exact cl (t129, (val (Xk 16 l_6 ([(⟨(val (Jn (⟨a0.s_, a0.kab, l, a0.kae, a0.kad, a0.kac, a0.no_⟩ : Tb) (val (gI (x10 + (val (gI (8 * x107_2)))))) 4)), (val (Jn (⟨a0.s_, a0.kab, l, a0.kae, a0.kad, a0.kac, a0.no_⟩ : Tb) (val (gI ((val (gI (x10 + (val (gI (8 * x107_2)))))) + 4))) 4))⟩ : Td)] : List Td)))) p_8 m3 [0, 1, 2, 3, 4, 5, 6] (by exact ⟨(by subst hn3; exact H74), trivial⟩)
        ) (by kernel_rfl)
      ·refine Qo<|J1 3 1<|?_
       exact cl (a0.s_, a0.kab, a0.kad, a0.kac, a0.no_, l, a0.kae, [], ([] : List Int), l_6) (p, n, m0_3, nn, p_7) 0 [0, 1, 2, 3, 4, 5, 7, 6] (by exact ⟨H75, hl⟩)
     ·refine Jc<|Ja<|mv (i6 a2)<|mv (i6 0)<|Jd<|Jq<|J1 3 1<|?_
      refine Yq (σ := Int × (List Int)) (τ := AN) (fun next4 s => X1 a0 a1 a2 x10 l next4 s.1 s.2) (fun s t => [(0, pz pb0), (1, i6 a1), (8, pz b5), (10, i6 x10), (11, pz b6), (49, i6 a2), (50, i6 s.1)]) (fun s t => [Ji pb0 [str a0.s_, .bool a0.kab, sl p n, .map (some m0_3), i6 a0.kad, (Xp a0.kac), i6 a0.no_] 112, Ju 118 2 (sl p n) n (l.map Jy), Wd i6 Value.bool m0_3 a0.kae, Y7 Y2 Y2, Ji b5 [i6 0, str [], z0s, z0s, z0s] 81, Ji b6 [i6 a1, str [], sl t s.2.length, z0s, z0s] 81, Ju 3 1 (sl t s.2.length) s.2.length (s.2.map Q5)]) (fun s t => True) (0, ([] : List Int)) nn [0, 1, 2, 3, 4, 5, 6] H76 (by exact trivial) (by exact ⟨rfl, rfl, rfl, rfl, rfl, rfl, rfl, trivial⟩) (by decide) rfl ?_
      rintro ⟨x50_2, l_8⟩ p_9 m4 gg H77 _
      clear H76
      try dsimp only at H77
      generalize hn4 : it (fun next4 s => X1 a0 a1 a2 x10 l next4 s.1 s.2) m4 = next4 at H77
      try dsimp only
      refine Jc ?_
      try dsimp only [z1,z2,z5,z6,z7,z8]
      refine Ja<|lv (Yh rfl rfl)<|Jd<|Jc<|?_
      revert H77
      refine ci (decide (x50_2 < a2)) rfl (fun hb H78=>?_) fun hb H89=>?_
      ·refine Jj<|Jc<|Jq<|Jc<|Ja<|mv (i6 x50_2)<|ag (i6 x50_2)<|Jd<|Jc<|Ja<|mv (pz pb0)<|mv (i6 x10)<|mv (i6 x50_2)<|mv (i6 a1)<|?_
       obtain ⟨t57, h_t57, H79⟩ := Je H78; clear H78
       refine Qk (k114 h_t57) call114 rfl rfl rfl ?_
       obtain ⟨t58, h_t58, H80⟩ := Je H79; clear H79
       refine lv (Jct rfl rfl h_t58) ?_
       obtain ⟨t59, h_t59, H81⟩ := Je H80; clear H80
       refine lv (J8 rfl rfl h_t59)<|mv (i6 a1)<|?_
       obtain ⟨t61, h_t61, H82⟩ := Je H81; clear H81
       refine Qk (k114 h_t61) call114 rfl rfl rfl ?_
       obtain ⟨t62, h_t62, H83⟩ := Je H82; clear H82
       refine Qb (fun w hF hS => k58 (a0 := (⟨a0.s_, a0.kab, l, a0.kae, a0.kad, a0.kac, a0.no_⟩ : Tb)) (Jm w) (Xw (i := 1) hl hS rfl) (Uv (fk := i6) (fv := Value.bool) (i := 2) hS rfl) (Xf (i := 0) hS rfl) h_t62) call58 rfl rfl rfl<|ag (i6 t62)<|Jd<|?_
       refine Qm (r := r) (σ := Int) (τ := Unit) (fun s => Vg x50_2 l_8 next4 s) (fun s t => [(0, pz pb0), (1, i6 a1), (8, pz b5), (10, i6 x10), (11, pz b6), (14, i6 s), (49, i6 a2), (50, i6 x50_2)]) (fun s t => [Ji pb0 [str a0.s_, .bool a0.kab, sl p n, .map (some m0_3), i6 a0.kad, (Xp a0.kac), i6 a0.no_] 112, Ju 118 2 (sl p n) n (l.map Jy), Wd i6 Value.bool m0_3 a0.kae, Y7 Y2 Y2, Ji b5 [i6 0, str [], z0s, z0s, z0s] 81, Ji b6 [i6 a1, str [], sl p_9 l_8.length, z0s, z0s] 81, Ju 3 1 (sl p_9 l_8.length) l_8.length (l_8.map Q5)]) (fun s t => True) ?_ ?_
       ·refine Jc<|Ja<|mv (i6 a1)<|lv (Qg rfl rfl)<|Jd<|?_
        revert H83
        refine ci (decide (a1 = 9)) rfl (fun hb H87=>?_) fun hb H88=>?_
        ·refine Ja<|mv (i6 t62)<|lv (Jdm runUnderlying3 Tryz.runUnderlying21 rfl (wr_i32 _))<|lv (Jdm Tryz.runUnderlying21 runUnderlying3 rfl (wr_i64 _))<|ag (i6 (wI64 (wI32 t62)))<|Jd<|?_
         exact cl (wI64 (wI32 t62)) () 0 [0, 1, 2, 3, 4, 5, 6] (by exact ⟨H87, trivial⟩)
        ·refine Jj ?_
         exact cl t62 () 0 [0, 1, 2, 3, 4, 5, 6] (by exact ⟨H88, trivial⟩)
       ·rintro x14 _ gg H84 _
        try dsimp only at H84
        try dsimp only
        refine Ja<|lf Tryz.runUnderlying81 rfl Tryz.sizeOf76 rfl<|ll 5 (sl p_9 l_8.length) isAgg76<|mv (i6 x14)<|?_
        refine Qj (vs := [i6 x14]) (cs := [i6 x14]) Tryz.underlying76 Tryz.sizeOf3 zeroValue3 rfl rfl rfl rfl rfl rfl rfl (fun b8 => ?_)
        obtain ⟨l72, h_l72, H85⟩ := Je H84; clear H84
        refine J7 (X4 (i := 6) (hn := rfl) (rds := [7]) (p := p_9) (sz := 1) (by_ := 8) (f := Q5) (ys := l_8) (ls := ([x14] : List Int)) (V := .slice (some ⟨b8, 0, none⟩) 1 1) Tryz.underlying76 (Qn typeInfo3) rfl rfl rfl rfl rfl rfl rfl rfl rfl rfl (fun w L' hF hS hi => Vl (i := 7) hS ((hi 7 (by simp)).trans rfl) rfl rfl) (fun _ => rfl) (fun _ => rfl) h_l72) rfl rfl rfl (fun p_10 => ?_)
        refine lf Tryz.runUnderlying81 rfl Tryz.sizeOf76 rfl<|st (i := 5) [sl p_10 l72.length] [i6 a1, str [], sl p_10 l72.length, z0s, z0s] Tryz.sizeOf76 rfl rfl<|Jd<|Ja<|?_
        obtain ⟨t74, h_t74, H86⟩ := Je H85; clear H85
        refine lv (J8 rfl rfl h_t74)<|mv (i6 t74)<|Jd<|?_
        exact cl (t74, l72) p_10 m4 [0, 1, 2, 3, 4, 5, 6] (by exact ⟨(by subst hn4; exact H86), trivial⟩)
      ·refine Qo<|J1 70 2<|?_
       exact cl (a0.s_, a0.kab, a0.kad, a0.kac, a0.no_, l, a0.kae, [], l_8, ([] : List Td)) (p, n, m0_3, p_9, nn) 0 [0, 1, 2, 3, 4, 5, 6, 7] (by exact ⟨H89, hl⟩)
  ·rintro ⟨m, m_2, m_3, m_4, m_5, l_2, mp, m_6, l_3, l_4⟩ ⟨p_2, n_2, b, p_3, p_4⟩ gg H53 hl_2
   try dsimp only at H53
   try dsimp only
   refine Jc ?_
   try dsimp only [z1,z2,z5,z6,z7,z8]
   refine Ja<|Qq (i := 5) (vs := [i6 a1, str m_6, sl p_3 l_3.length, sl p_4 l_4.length, z0s]) Tryz.isAgg81 Tryz.sizeOf81 rfl rfl rfl rfl rfl<|st (i := 4) [i6 a1, str m_6, sl p_3 l_3.length, sl p_4 l_4.length, z0s] [i6 a1, str m_6, sl p_3 l_3.length, sl p_4 l_4.length, z0s] Tryz.sizeOf81 rfl rfl<|Jd<|Jh<|Uk 5<|?_
   try dsimp only [z1, z2, z3, z4, z5, z6, z7, z8]
   refine J1 83 6 ?_
   obtain rfl := sj H53
   refine bo 3 7 rfl rfl<|J4 3 rfl (Yo (p := nn) rfl (AllC.nil (G := g_tag_Entry) (h := Y2) (sz := 6)))<|bo 6 3 rfl rfl<|bo 5 6 rfl rfl<|bo 2 5 rfl rfl<|bo 1 2 rfl rfl<|bo 0 1 rfl rfl<|?_
   refine retC (i := 4) (vs := [i6 a1, str m_6, sl p_3 l_3.length, sl p_4 l_4.length, sl nn (([] : List (List Value)).length)]) Tryz.isAgg81 Tryz.sizeOf81 rfl rfl rfl rfl (X5 (p_3, p_4, nn, p_2, b) (i := 0) rfl (by first | rfl | rw [(show (([] : List (List Value)).length) = ([] : List Ta).length from (AllC.nil (G := g_tag_Entry) (h := Y2) (sz := 6)).len), (show n_2 = l_2.length from hl_2)]) (by first | exact Imp.refl _ | exact Imp.of (by rw [(show (([] : List (List Value)).length) = ([] : List Ta).length from (AllC.nil (G := g_tag_Entry) (h := Y2) (sz := 6)).len), (show n_2 = l_2.length from hl_2)] <;> rfl)))
theorem k105_b {self : (Tb × Int × (List Int)) → Option ((List Ta) × Int × Tb)} (ih : ∀ {a0 : Tb} {pb0 : Nat} {p0_2 : AN} {n0_2 : Nat} {m0_3 : Nat} {a1 : Int} {a2 : (List Int)} {v2 : Value} {r : (List Ta) × Int × Tb} {w : World} {h : Js} {S : Nat → Prop} (hcs : (Jz (Ji pb0 [str a0.s_, .bool a0.kab, sl p0_2 n0_2, .map (some m0_3), i6 a0.kad, (Xp a0.kac), i6 a0.no_] 112) (Jz (Ju 118 2 (sl p0_2 n0_2) n0_2 (a0.kaa.map Jy)) (Wd i6 Value.bool m0_3 a0.kae))).P S w) (hlt : ∀ b, S b → b < w.heap.size) (hw : Know h w S) (hn0_2 : n0_2 = a0.kaa.length) (f2 : FrS h 1 v2 (a2.map Q5)) (_ : self (a0, a1, a2) = some r), Does prog 59 (List.toArray [pz pb0, i6 a1, v2]) w (fun v w' => ∃ x : AN × AN × Nat, v = (.tuple #[.slice x.1.1 r.1.length x.1.2, i6 r.2.1]) ∧ Turn w w' S (Jz (Ji pb0 [str r.2.2.s_, .bool r.2.2.kab, .slice x.2.1.1 r.2.2.kaa.length x.2.1.2, .map (some x.2.2), i6 r.2.2.kad, (Xp r.2.2.kac), i6 r.2.2.no_] 112) (Jz (Ju 118 2 (.slice x.2.1.1 r.2.2.kaa.length x.2.1.2) r.2.2.kaa.length (r.2.2.kaa.map Jy)) (Jz (Wd i6 Value.bool x.2.2 r.2.2.kae) (Jdb 83 6 g_tag_Entry (.slice x.1.1 r.1.length x.1.2) r.1.length r.1)))))) {a0 : Tb} {pb0 : Nat} {p0_2 : AN} {n0_2 : Nat} {m0_3 : Nat} {a1 : Int} {a2 : (List Int)} {v2 : Value} {r : Ta × Tb} {w : World} {h : Js} {S : Nat → Prop} (hcs : (Jz (Ji pb0 [str a0.s_, .bool a0.kab, sl p0_2 n0_2, .map (some m0_3), i6 a0.kad, (Xp a0.kac), i6 a0.no_] 112) (Jz (Ju 118 2 (sl p0_2 n0_2) n0_2 (a0.kaa.map Jy)) (Wd i6 Value.bool m0_3 a0.kae))).P S w) (hlt : ∀ b, S b → b < w.heap.size) (hw : Know h w S) (hn0_2 : n0_2 = a0.kaa.length) (f2 : FrS h 1 v2 (a2.map Q5)) (H : Q9 self a0 a1 a2 = some r) : Does prog 105 (List.toArray [pz pb0, i6 a1, v2]) w (fun v w' => ∃ x : AN × AN × AN × AN × Nat, v = (.agg #[i6 r.1.Tag, i6 r.1.Value.kah, str r.1.Value.kai, .slice x.1.1 r.1.Value.kaj.length x.1.2, .slice x.2.1.1 r.1.Value.kag.length x.2.1.2, .slice x.2.2.1.1 r.1.Value.kaf.length x.2.2.1.2]) ∧ Turn w w' S (Jz (Ji pb0 [str r.2.s_, .bool r.2.kab, .slice x.2.2.2.1.1 r.2.kaa.length x.2.2.2.1.2, .map (some x.2.2.2.2), i6 r.2.kad, (Xp r.2.kac), i6 r.2.no_] 112) (Jz (Ju 118 2 (.slice x.2.2.2.1.1 r.2.kaa.length x.2.2.2.1.2) r.2.kaa.length (r.2.kaa.map Jy)) (Jz (Wd i6 Value.bool x.2.2.2.2 r.2.kae) (Jz (Ju 3 1 (.slice x.1.1 r.1.Value.kaj.length x.1.2) r.1.Value.kaj.length (r.1.Value.kaj.map Q5)) (Jz (Ju 70 2 (.slice x.2.1.1 r.1.Value.kag.length x.2.1.2) r.1.Value.kag.length (r.1.Value.kag.map Jp)) (Jdb 83 6 g_tag_Entry (.slice x.2.2.1.1 r.1.Value.kaf.length x.2.2.1.2) r.1.Value.kaf.length r.1.Value.kaf))))))) := by
 refine enter (n := 76) func105 rfl rfl rfl S [Jz (Ji pb0 [str a0.s_, .bool a0.kab, sl p0_2 n0_2, .map (some m0_3), i6 a0.kad, (Xp a0.kac), i6 a0.no_] 112) (Jz (Ju 118 2 (sl p0_2 n0_2) n0_2 (a0.kaa.map Jy)) (Wd i6 Value.bool m0_3 a0.kae))] (Sat.one hcs hlt)<|Qa 0 rfl<|Qa 1 rfl<|Zt Y2<|Jc<|Ja<|?_
 refine Q2 (cs := [i6 0, i6 0, str [], z0s, z0s, z0s]) zeroValue83 rfl rfl rfl (fun b3 => ?_)
 refine Jd<|Jc<|Ja<|mv (pz pb0)<|mv (i6 a1)<|?_
 obtain ⟨t13, h_t13, H28⟩ := Je H; clear H
 refine Qb (fun w hF hS => k58 (a0 := a0) (Jm w) (Xw (i := 1) hn0_2 hS rfl) (Uv (fk := i6) (fv := Value.bool) (i := 2) hS rfl) (Xf (i := 0) hS rfl) h_t13) call58 rfl rfl rfl<|mv (pz pb0)<|mv (i6 a1)<|?_
 obtain ⟨t16, h_t16, H29⟩ := Je H28; clear H28
 refine lv (J8 rfl rfl h_t16) ?_
 obtain ⟨t17, h_t17, H30⟩ := Je H29; clear H29
 refine Qb (fun w hF hS => k58 (a0 := a0) (Jm w) (Xw (i := 1) hn0_2 hS rfl) (Uv (fk := i6) (fv := Value.bool) (i := 2) hS rfl) (Xf (i := 0) hS rfl) h_t17) call58 rfl rfl rfl<|mv (pz pb0)<|mv (i6 a1)<|?_
 obtain ⟨t20, h_t20, H31⟩ := Je H30; clear H30
 refine lv (J8 rfl rfl h_t20) ?_
 obtain ⟨t21, h_t21, H32⟩ := Je H31; clear H31
 refine Qb (fun w hF hS => k58 (a0 := a0) (Jm w) (Xw (i := 1) hn0_2 hS rfl) (Uv (fk := i6) (fv := Value.bool) (i := 2) hS rfl) (Xf (i := 0) hS rfl) h_t21) call58 rfl rfl rfl<|ag (i6 t13)<|ag (i6 t17)<|ag (i6 t21)<|Jd<|Jc<|Ja<|mv v2<|?_
 obtain ⟨t23, h_t23, H33⟩ := Je H32; clear H32
 refine Yi (Qh (rds := []) (fun w L' hF hS hi => k142 (Jm w) (f2.mono (hw.now hF)) h_t23) call142 rfl) rfl rfl rfl (fun p => ?_)
 refine mv (i6 t13) ?_
 refine Qj (vs := [i6 t13]) (cs := [i6 t13]) Tryz.underlying76 Tryz.sizeOf3 zeroValue3 rfl rfl rfl rfl rfl rfl rfl (fun b4 => ?_)
 obtain ⟨l26, h_l26, H34⟩ := Je H33; clear H33
 refine J7 (X4 (i := 5) (hn := rfl) (rds := [6]) (p := p) (sz := 1) (by_ := 8) (f := Q5) (ys := t23) (ls := ([t13] : List Int)) (V := .slice (some ⟨b4, 0, none⟩) 1 1) Tryz.underlying76 (Qn typeInfo3) rfl rfl rfl rfl rfl rfl rfl rfl rfl rfl (fun w L' hF hS hi => Vl (i := 6) hS ((hi 6 (by simp)).trans rfl) rfl rfl) (fun _ => rfl) (fun _ => rfl) h_l26) rfl rfl rfl (fun p_2 => ?_)
 refine ag (sl p_2 l26.length)<|Jd<|Jc<|?_
 try dsimp only [z1,z2,z5,z6,z7,z8]
 refine Ja<|mv (pz pb0)<|lv (Jg rfl)<|lf Tryz.runUnderlying112 rfl sizeOf77 rfl<|ll 0 (Xp a0.kac) isAgg77<|mv (sl p_2 l26.length)<|mv (i6 a1)<|?_
 obtain ⟨g33, h_g33, H35⟩ := Je H34; clear H34
 obtain ⟨t33, h_t33, H36⟩ := Je H35; clear H35
 refine l_callV (R := Jcy g33) (r := .tuple #[]) (v := (Xp a0.kac)) (fun w hF hS => ⟨((hft77 a0.kac).fn (gFn_some h_g33) _), ⟨l26, _, a1, _, (Xw (i := 5) rfl hS rfl), rfl, h_t33, rfl⟩⟩) rfl rfl rfl rfl<|Jd<|Jc<|Ja<|mv (i6 t13)<|mv (i6 t17)<|lv (Xh (pl := #[(0, 1), (1, 1), (2, 1), (3, 1), (4, 1)]) (ps := [(0, i6 t17)]) (cells := #[i6 t17, str [], z0s, z0s, z0s]) zeroValue81 Tryz.runUnderlying81 (fun w => by kernel_rfl) rfl rfl)<|lv (Xh (pl := #[(0, 1), (1, 5)]) (ps := [(0, i6 t13), (1, .agg #[i6 t17, str [], z0s, z0s, z0s])]) (cells := #[i6 t13, i6 t17, str [], z0s, z0s, z0s]) zeroValue83 Tryz.runUnderlying83 (fun w => by kernel_rfl) rfl (by kernel_rfl))<|?_
 refine Q2 (cs := [i6 0, i6 0, str [], z0s, z0s, z0s]) zeroValue83 rfl rfl rfl (fun b5 => ?_)
 refine st (i := 7) [i6 t13, i6 t17, str [], z0s, z0s, z0s] [i6 t13, i6 t17, str [], z0s, z0s, z0s] Tryz.sizeOf83 rfl rfl<|Jd<|?_
 refine Qm (r := r) (σ := Int × (List UInt8) × (List Int) × (List Td) × (List Ta) × (List UInt8) × Bool × Int × Nat × Int × (List Te) × (List (Int × Bool))) (τ := AN × AN × AN × AN × Nat) (fun s => Zh t13 s.1 s.2.1 s.2.2.1 s.2.2.2.1 s.2.2.2.2.1 s.2.2.2.2.2.1 s.2.2.2.2.2.2.1 s.2.2.2.2.2.2.2.1 s.2.2.2.2.2.2.2.2.1 s.2.2.2.2.2.2.2.2.2.1 s.2.2.2.2.2.2.2.2.2.2.1 s.2.2.2.2.2.2.2.2.2.2.2) (fun s t => [(6, pz b3), (10, pz b5)]) (fun s t => [Ji pb0 [str s.2.2.2.2.2.1, .bool s.2.2.2.2.2.2.1, .slice t.2.2.2.1.1 s.2.2.2.2.2.2.2.2.2.2.1.length t.2.2.2.1.2, .map (some t.2.2.2.2), i6 s.2.2.2.2.2.2.2.1, (Xp s.2.2.2.2.2.2.2.2.1), i6 s.2.2.2.2.2.2.2.2.2.1] 112, Ju 118 2 (.slice t.2.2.2.1.1 s.2.2.2.2.2.2.2.2.2.2.1.length t.2.2.2.1.2) s.2.2.2.2.2.2.2.2.2.2.1.length (s.2.2.2.2.2.2.2.2.2.2.1.map Jy), Wd i6 Value.bool t.2.2.2.2 s.2.2.2.2.2.2.2.2.2.2.2, Y7 Y2 Y2, Ji b3 [i6 0, i6 0, str [], z0s, z0s, z0s] 83, Ji b5 [i6 t13, i6 s.1, str s.2.1, .slice t.1.1 s.2.2.1.length t.1.2, .slice t.2.1.1 s.2.2.2.1.length t.2.1.2, .slice t.2.2.1.1 s.2.2.2.2.1.length t.2.2.1.2] 83, Ju 3 1 (.slice t.1.1 s.2.2.1.length t.1.2) s.2.2.1.length (s.2.2.1.map Q5), Ju 70 2 (.slice t.2.1.1 s.2.2.2.1.length t.2.1.2) s.2.2.2.1.length (s.2.2.2.1.map Jp), Jdb 83 6 g_tag_Entry (.slice t.2.2.1.1 s.2.2.2.2.1.length t.2.2.1.2) s.2.2.2.2.1.length s.2.2.2.2.1]) (fun s t => True) ?_ ?_
 ·refine Jq<|Jc<|Ja<|mv (i6 t17)<|?_
  obtain ⟨t47, h_t47, H38⟩ := Je H36; clear H36
  refine Qk (k114 h_t47) call114 rfl rfl rfl<|lv (Qg rfl rfl)<|ag (.bool (decide (t47 = 0)))<|Jd<|?_
  revert H38
  refine ci (decide (t47 = 0)) rfl (fun hb H39=>?_) fun hb H41=>?_
  ·refine Ja<|mv (pz pb0)<|?_
   obtain ⟨t50, h_t50, H40⟩ := Je H39; clear H39
   refine bo 1 2 rfl rfl<|bo 0 1 rfl rfl<|?_
   refine J7 (Jw (i := 0) (rds := []) rfl (fun w L' S hF hS hi hp hlt ho hA => k104 hp hlt (Qe w S) hn0_2 h_t50) Tryz.call104 rfl) rfl rfl rfl (fun ⟨p_7, p_8⟩ => ?_)
   refine ub 0 1 rfl rfl<|ub 1 2 rfl rfl<|Jd<|J1 3 1<|J1 70 2<|J1 83 6<|Zt Y2<|?_
   try dsimp only [z1,z2,z5,z6,z7,z8]
   refine bo 11 10 rfl rfl ?_
   try dsimp only [z1,z2,z5,z6,z7,z8]
   refine J4 11 rfl (Jgh (css := []) (xs := ([] : List Ta)) (p := nn) rfl (AllC.nil (G := g_tag_Entry) (h := Y2) (sz := 6))) ?_
   exact cl (t17, [], ([] : List Int), ([] : List Td), ([] : List Ta), t50.s_, t50.kab, t50.kad, t50.kac, t50.no_, t50.kaa, t50.kae) (nn, nn, nn, p_7, p_8) 0 [0, 1, 2, 3, 4, 7, 8, 9, 11] (by exact ⟨H40, trivial⟩)
  ·refine Qm (r := r) (σ := Bool) (τ := Unit) (fun s => Zi a0 a1 self t13 t17 t21 l26 s) (fun s t => [(0, pz pb0), (1, i6 a1), (2, sl p_2 l26.length), (6, pz b3), (8, i6 t17), (9, i6 t21), (10, pz b5), (51, .bool s)]) (fun s t => [Ji pb0 [str a0.s_, .bool a0.kab, sl p0_2 n0_2, .map (some m0_3), i6 a0.kad, (Xp a0.kac), i6 a0.no_] 112, Ju 118 2 (sl p0_2 n0_2) n0_2 (a0.kaa.map Jy), Wd i6 Value.bool m0_3 a0.kae, Y7 Y2 Y2, Ji b3 [i6 0, i6 0, str [], z0s, z0s, z0s] 83, Ju 3 1 (sl p_2 l26.length) l26.length (l26.map Q5), Ji b5 [i6 t13, i6 t17, str [], z0s, z0s, z0s] 83]) (fun s t => True) ?_ ?_
   ·try dsimp only [z1,z2,z5,z6,z7,z8]
    refine Ja<|mv (i6 t17)<|lv (Qg rfl rfl)<|mv (.bool (decide (t17 = 13)))<|?_
    revert H41
    refine sp (fun hb H53=>?_) fun hb H54=>?_
    ·refine mv (i6 t21)<|lv (Zm rfl rfl)<|pT (.bool (decide (t21 ≠ 1)))<|ag (.bool (decide (t21 ≠ 1)))<|Jd<|?_
     exact cl (decide (t21 ≠ 1)) () 0 [0, 1, 2, 3, 4, 5, 7] (by exact ⟨H53, trivial⟩)
    ·refine pa<|pa<|pF (.bool false)<|ag (.bool false)<|Jd<|?_
     exact cl false () 0 [0, 1, 2, 3, 4, 5, 7] (by exact ⟨H54, trivial⟩)
   ·rintro x51 _ gg H42 _
    try dsimp only at H42
    try dsimp only
    revert H42
    refine ci x51 rfl (fun hb H43=>?_) fun hb H45=>?_
    ·try dsimp only [z1,z2,z5,z6,z7,z8]
     refine Ja<|mv (pz pb0)<|?_
     obtain ⟨t59, h_t59, H44⟩ := Je H43; clear H43
     refine bo 1 2 rfl rfl<|bo 0 1 rfl rfl<|?_
     refine J7 (Jw (i := 0) (rds := []) rfl (fun w L' S hF hS hi hp hlt ho hA => k104 hp hlt (Qe w S) hn0_2 h_t59) Tryz.call104 rfl) rfl rfl rfl (fun ⟨p_9, p_10⟩ => ?_)
     refine ub 0 1 rfl rfl<|ub 1 2 rfl rfl<|Jd<|J1 3 1<|J1 70 2<|J1 83 6<|Zt Y2<|?_
     try dsimp only [z1,z2,z5,z6,z7,z8]
     refine bo 10 9 rfl rfl ?_
     try dsimp only [z1,z2,z5,z6,z7,z8]
     refine J4 10 rfl (Jgh (css := []) (xs := ([] : List Ta)) (p := nn) rfl (AllC.nil (G := g_tag_Entry) (h := Y2) (sz := 6))) ?_
     exact cl (t17, [], ([] : List Int), ([] : List Td), ([] : List Ta), t59.s_, t59.kab, t59.kad, t59.kac, t59.no_, t59.kaa, t59.kae) (nn, nn, nn, p_9, p_10) 0 [0, 1, 2, 3, 4, 6, 7, 8, 10] (by exact ⟨H44, trivial⟩)
    ·refine Jc ?_
     try dsimp only [z1,z2,z5,z6,z7,z8]
     refine Ja<|mv (i6 t17)<|lv (Qg rfl rfl)<|ag (.bool (decide (t17 = 13)))<|Jd<|?_
     revert H45
     refine ci (decide (t17 = 13)) rfl (fun hb H46=>?_) fun hb H50=>?_
     ·refine Ja<|mv (pz pb0)<|mv (pz pb0)<|mv (i6 a1)<|?_
      obtain ⟨t67, h_t67, H47⟩ := Je H46; clear H46
      refine lv (J8 rfl rfl h_t67) ?_
      obtain ⟨t68, h_t68, H48⟩ := Je H47; clear H47
      refine Qb (fun w hF hS => k58 (a0 := a0) (Jm w) (Xw (i := 1) hn0_2 hS rfl) (Uv (fk := i6) (fv := Value.bool) (i := 2) hS rfl) (Xf (i := 0) hS rfl) h_t68) call58 rfl rfl rfl<|mv (sl p_2 l26.length)<|?_
      obtain ⟨t70, h_t70, H49⟩ := Je H48; clear H48
      refine bo 1 2 rfl rfl<|bo 0 1 rfl rfl<|?_
      refine J7 (Jw (i := 0) (rds := [5]) rfl (fun w L' S hF hS hi hp hlt ho hA => ih hp hlt (Qe w S) hn0_2 (frb_own (j := 5) rfl hA hS (by decide) ((hi 5 (by simp)).trans rfl)) h_t70) call59 rfl) rfl rfl rfl (fun ⟨p_11, p_12, p_13⟩ => ?_)
      refine ub 0 1 rfl rfl<|ub 1 2 rfl rfl<|Qa 2 rfl<|mv (.tuple #[sl p_11 t70.1.length, i6 t70.2.1])<|lv (Jk (v := sl p_11 t70.1.length) rfl rfl)<|lv (Jk (v := i6 t70.2.1) rfl rfl)<|lf Tryz.runUnderlying83 rfl Tryz.sizeOf81 rfl<|lf Tryz.runUnderlying81 rfl Tryz.sizeOf41 rfl<|st (i := 6) [sl p_11 t70.1.length] [i6 t13, i6 t17, str [], z0s, z0s, sl p_11 t70.1.length] Tryz.sizeOf41 rfl rfl<|Jd<|J1 3 1<|J1 70 2<|?_
      exact cl (t17, [], ([] : List Int), ([] : List Td), t70.1, t70.2.2.s_, t70.2.2.kab, t70.2.2.kad, t70.2.2.kac, t70.2.2.no_, t70.2.2.kaa, t70.2.2.kae) (nn, nn, p_11, p_12, p_13) 0 [0, 1, 2, 3, 4, 6, 8, 9, 7] (by exact ⟨H49, trivial⟩)
     ·try dsimp only [z1,z2,z5,z6,z7,z8]
      refine Ja<|mv (pz pb0)<|mv (i6 t17)<|mv (i6 t21)<|mv (i6 a1)<|?_
      obtain ⟨t42, h_t42, H51⟩ := Je H50; clear H50
      refine lv (J8 rfl rfl h_t42) ?_
      obtain ⟨t43, h_t43, H52⟩ := Je H51; clear H51
      refine bo 1 2 rfl rfl<|bo 0 1 rfl rfl<|?_
      refine J7 (Jw (i := 0) (rds := []) rfl (fun w L' S hF hS hi hp hlt ho hA => k150 hp hlt (Qe w S) hn0_2 h_t43) call150 rfl) rfl rfl rfl (fun ⟨p_14, p_15, p_16, p_17, p_18⟩ => ?_)
      refine ub 0 1 rfl rfl<|ub 1 2 rfl rfl<|Qa 2 rfl<|Qa 7 rfl<|Qa 8 rfl<|lf Tryz.runUnderlying83 rfl Tryz.sizeOf81 rfl<|st (i := 6) [i6 t43.1.kah, str t43.1.kai, sl p_14 t43.1.kaj.length, sl p_15 t43.1.kag.length, sl p_16 t43.1.kaf.length] [i6 t13, i6 t43.1.kah, str t43.1.kai, sl p_14 t43.1.kaj.length, sl p_15 t43.1.kag.length, sl p_16 t43.1.kaf.length] Tryz.sizeOf81 rfl rfl<|Jd<|?_
      exact cl (t43.1.kah, t43.1.kai, t43.1.kaj, t43.1.kag, t43.1.kaf, t43.2.s_, t43.2.kab, t43.2.kad, t43.2.kac, t43.2.no_, t43.2.kaa, t43.2.kae) (p_14, p_15, p_16, p_17, p_18) 0 [0, 1, 2, 3, 4, 6, 7, 8, 9] (by exact ⟨H52, trivial⟩)
 ·rintro ⟨m, m_2, l, l_2, l_3, m_3, m_4, m_5, m_6, m_7, l_4, mp⟩ ⟨p_3, p_4, p_5, p_6, b⟩ gg H37 _
  try dsimp only at H37
  try dsimp only
  refine Jc<|Ja<|Qq (i := 5) (vs := [i6 t13, i6 m, str m_2, sl p_3 l.length, sl p_4 l_2.length, sl p_5 l_3.length]) isAgg83 Tryz.sizeOf83 rfl rfl rfl rfl rfl<|st (i := 4) [i6 t13, i6 m, str m_2, sl p_3 l.length, sl p_4 l_2.length, sl p_5 l_3.length] [i6 t13, i6 m, str m_2, sl p_3 l.length, sl p_4 l_2.length, sl p_5 l_3.length] Tryz.sizeOf83 rfl rfl<|Jd<|Jh<|Uk 5<|?_
  try dsimp only [z1, z2, z3, z4, z5, z6, z7, z8]
  obtain rfl := sj H37
  refine bo 6 7 rfl rfl<|bo 5 6 rfl rfl<|bo 2 5 rfl rfl<|bo 1 2 rfl rfl<|bo 0 1 rfl rfl<|?_
  refine retC (i := 4) (vs := [i6 t13, i6 m, str m_2, sl p_3 l.length, sl p_4 l_2.length, sl p_5 l_3.length]) isAgg83 Tryz.sizeOf83 rfl rfl rfl rfl (X5 (p_3, p_4, p_5, p_6, b) (i := 0) rfl rfl (Imp.refl _))
theorem k59_it (mm : Nat) : ∀ {a0 : Tb} {pb0 : Nat} {p0_2 : AN} {n0_2 : Nat} {m0_3 : Nat} {a1 : Int} {a2 : (List Int)} {v2 : Value} {r : (List Ta) × Int × Tb} {w : World} {h : Js} {S : Nat → Prop} (hcs : (Jz (Ji pb0 [str a0.s_, .bool a0.kab, sl p0_2 n0_2, .map (some m0_3), i6 a0.kad, (Xp a0.kac), i6 a0.no_] 112) (Jz (Ju 118 2 (sl p0_2 n0_2) n0_2 (a0.kaa.map Jy)) (Wd i6 Value.bool m0_3 a0.kae))).P S w) (hlt : ∀ b, S b → b < w.heap.size) (hw : Know h w S) (hn0_2 : n0_2 = a0.kaa.length) (f2 : FrS h 1 v2 (a2.map Q5)) (H : it (fun (self : (Tb × Int × (List Int)) → Option ((List Ta) × Int × Tb)) (s : Tb × Int × (List Int)) => J3 self s.1 s.2.1 s.2.2) mm (a0, a1, a2) = some r), Does prog 59 (List.toArray [pz pb0, i6 a1, v2]) w (fun v w' => ∃ x : AN × AN × Nat, v = (.tuple #[.slice x.1.1 r.1.length x.1.2, i6 r.2.1]) ∧ Turn w w' S (Jz (Ji pb0 [str r.2.2.s_, .bool r.2.2.kab, .slice x.2.1.1 r.2.2.kaa.length x.2.1.2, .map (some x.2.2), i6 r.2.2.kad, (Xp r.2.2.kac), i6 r.2.2.no_] 112) (Jz (Ju 118 2 (.slice x.2.1.1 r.2.2.kaa.length x.2.1.2) r.2.2.kaa.length (r.2.2.kaa.map Jy)) (Jz (Wd i6 Value.bool x.2.2 r.2.2.kae) (Jdb 83 6 g_tag_Entry (.slice x.1.1 r.1.length x.1.2) r.1.length r.1))))) := by
 induction mm with
 | zero => intros; rename_i H; exact absurd H (by simp [it])
 | succ mm ih =>
  intro a0 pb0 p0_2 n0_2 m0_3 a1 a2 v2 r w h S hcs hlt hw hn0_2 f2 H
  replace H : J3 (it (fun (self : (Tb × Int × (List Int)) → Option ((List Ta) × Int × Tb)) (s : Tb × Int × (List Int)) => J3 self s.1 s.2.1 s.2.2) mm) a0 a1 a2 = some r := H
  generalize it (fun (self : (Tb × Int × (List Int)) → Option ((List Ta) × Int × Tb)) (s : Tb × Int × (List Int)) => J3 self s.1 s.2.1 s.2.2) mm = self at H ih
  refine enter (n := 145) func59 rfl rfl rfl S [Jz (Ji pb0 [str a0.s_, .bool a0.kab, sl p0_2 n0_2, .map (some m0_3), i6 a0.kad, (Xp a0.kac), i6 a0.no_] 112) (Jz (Ju 118 2 (sl p0_2 n0_2) n0_2 (a0.kaa.map Jy)) (Wd i6 Value.bool m0_3 a0.kae))] (Sat.one hcs hlt)<|Qa 0 rfl<|Qa 1 rfl<|Zt Y2<|Jc<|Ja<|ag (z0s)<|ag (i6 0)<|Jd<|Jc<|Ja<|mv v2<|lv (Jbs Tryz.underlying76 rfl f2 rfl)<|ag (i6 (a2.length : Int))<|Jd<|Jc<|Jc<|Ja<|mv (pz pb0)<|mv (i6 a1)<|?_
  obtain ⟨t15, h_t15, H67⟩ := Je H; clear H
  refine Qb (fun w hF hS => k103 (a0 := a0) (Jm w) (Xw (i := 1) hn0_2 hS rfl) (Uv (fk := i6) (fv := Value.bool) (i := 2) hS rfl) (Xf (i := 0) hS rfl) h_t15) call103 rfl rfl rfl<|lv (Jb8 rfl)<|Jd<|?_
  revert H67
  refine ci (!t15) rfl (fun hb H68=>?_) fun hb H70=>?_
  ·refine Jc<|Ja<|mv (pz pb0)<|?_
   obtain ⟨t18, h_t18, H69⟩ := Je H68; clear H68
   refine bo 1 2 rfl rfl<|bo 0 1 rfl rfl<|?_
   refine J7 (Jw (i := 0) (rds := []) rfl (fun w L' S hF hS hi hp hlt ho hA => k104 hp hlt (Qe w S) hn0_2 h_t18) Tryz.call104 rfl) rfl rfl rfl (fun ⟨p, p_2⟩ => ?_)
   refine ub 0 1 rfl rfl<|ub 1 2 rfl rfl<|Jd<|Jc<|?_
   try dsimp only [z1,z2,z5,z6,z7,z8]
   refine Ja<|ag (z0s)<|ag (i6 0)<|Jd<|Jh<|J1 83 6<|?_
   obtain rfl := sj H69
   refine bo 3 4 rfl rfl<|J4 3 rfl (Yo (p := nn) rfl (AllC.nil (G := g_tag_Entry) (h := Y2) (sz := 6)))<|bo 2 3 rfl rfl<|bo 1 2 rfl rfl<|bo 0 1 rfl rfl<|?_
   refine Jba (v1 := sl nn (([] : List (List Value)).length)) (v2 := i6 0) rfl rfl rfl (X5 (nn, p, p_2) (i := 0) rfl (by first | rfl | rw [(show (([] : List (List Value)).length) = ([] : List Ta).length from (AllC.nil (G := g_tag_Entry) (h := Y2) (sz := 6)).len)]) (by first | exact Imp.refl _ | exact Imp.of (by rw [(show (([] : List (List Value)).length) = ([] : List Ta).length from (AllC.nil (G := g_tag_Entry) (h := Y2) (sz := 6)).len)] <;> rfl)))
  ·refine Jj<|Jc<|?_
   try dsimp only [z1,z2,z5,z6,z7,z8]
   refine Ja<|mv (pz pb0)<|mv (i6 a1)<|?_
   obtain ⟨t21, h_t21, H71⟩ := Je H70; clear H70
   refine Qb (fun w hF hS => k58 (a0 := a0) (Jm w) (Xw (i := 1) hn0_2 hS rfl) (Uv (fk := i6) (fv := Value.bool) (i := 2) hS rfl) (Xf (i := 0) hS rfl) h_t21) call58 rfl rfl rfl<|ag (i6 t21)<|Jd<|?_
   refine Qm (r := r) (σ := (List UInt8) × Bool × Int × Nat × Int × (List Te) × (List (Int × Bool))) (τ := AN × Nat × Nat) (fun s => Q3 a1 a2 self t21 s.1 s.2.1 s.2.2.1 s.2.2.2.1 s.2.2.2.2.1 s.2.2.2.2.2.1 s.2.2.2.2.2.2) (fun s t => [(0, pz pb0), (1, i6 a1), (2, v2), (6, z0s), (8, i6 (a2.length : Int)), (9, i6 t21)]) (fun s t => [Ji pb0 [str s.1, .bool s.2.1, .slice t.1.1 t.2.1 t.1.2, .map (some t.2.2), i6 s.2.2.1, (Xp s.2.2.2.1), i6 s.2.2.2.2.1] 112, Ju 118 2 (.slice t.1.1 t.2.1 t.1.2) t.2.1 (s.2.2.2.2.2.1.map Jy), Wd i6 Value.bool t.2.2 s.2.2.2.2.2.2, Y7 Y2 Y2]) (fun s t => t.2.1 = s.2.2.2.2.2.1.length) ?_ ?_
   ·refine Jq<|Jc<|Ja<|mv (pz pb0)<|lv (Jg rfl)<|lf Tryz.runUnderlying112 rfl sizeOf110 rfl<|ll 0 (.map (some m0_3)) isAgg110<|mv (i6 a1)<|Q7 (fun w hF hS => run_lookup (i := 2) (fk := i6) (fv := Value.bool) (k := a1) (z := false) keyF_int underlying110 underlying3 zeroValue4 rfl rfl hS rfl) rfl rfl rfl<|ag (.bool ((Jeq a0.kae a1).getD false))<|Jd<|?_
    revert H71
    refine ci ((Jeq a0.kae a1).getD false) rfl (fun hb H114=>?_) fun hb H116=>?_
    ·refine Ja<|mv (pz pb0)<|?_
     obtain ⟨t30, h_t30, H115⟩ := Je H114; clear H114
     refine bo 1 2 rfl rfl<|bo 0 1 rfl rfl<|?_
     refine J7 (Jw (i := 0) (rds := []) rfl (fun w L' S hF hS hi hp hlt ho hA => k104 hp hlt (Qe w S) hn0_2 h_t30) Tryz.call104 rfl) rfl rfl rfl (fun ⟨p_20, p_21⟩ => ?_)
     refine ub 0 1 rfl rfl<|ub 1 2 rfl rfl<|Jd<|?_
     exact cl (t30.s_, t30.kab, t30.kad, t30.kac, t30.no_, t30.kaa, t30.kae) (p_20, t30.kaa.length, p_21) 0 [0, 1, 2, 3] (by exact ⟨H115, rfl⟩)
    ·refine Jc ?_
     try dsimp only [z1,z2,z5,z6,z7,z8]
     refine Ja<|mv (pz pb0)<|lv (Jg rfl)<|lf Tryz.runUnderlying112 rfl Tryz.sizeOf3 rfl<|ll 0 (i6 a0.kad) Tryz.isAgg3<|lv (Va rfl rfl)<|mv (.bool (decide (20 < a0.kad)))<|?_
     revert H116
     refine sp (fun hb H117=>?_) fun hb H119=>?_
     ·refine pa<|pa<|pT (.bool true)<|mv (.bool true)<|pa<|pa<|pT (.bool true)<|ag (.bool true)<|Jd<|Y4 rfl<|Ja<|mv (pz pb0)<|?_
      obtain ⟨t46, h_t46, H118⟩ := Je H117; clear H117
      refine bo 1 2 rfl rfl<|bo 0 1 rfl rfl<|?_
      refine J7 (Jw (i := 0) (rds := []) rfl (fun w L' S hF hS hi hp hlt ho hA => k104 hp hlt (Qe w S) hn0_2 h_t46) Tryz.call104 rfl) rfl rfl rfl (fun ⟨p_22, p_23⟩ => ?_)
      refine ub 0 1 rfl rfl<|ub 1 2 rfl rfl<|Jd<|?_
      exact cl (t46.s_, t46.kab, t46.kad, t46.kac, t46.no_, t46.kaa, t46.kae) (p_22, t46.kaa.length, p_23) 0 [0, 1, 2, 3] (by exact ⟨H118, rfl⟩)
     ·refine mv (i6 (a2.length : Int))<|lv (Va rfl rfl)<|pF (.bool (decide (5 < (a2.length : Int))))<|mv (.bool (decide (5 < (a2.length : Int))))<|?_
      revert H119
      refine sp (fun hb H120=>?_) fun hb H122=>?_
      ·refine pa<|pa<|pT (.bool true)<|ag (.bool true)<|Jd<|Y4 rfl<|Ja<|mv (pz pb0)<|?_
       obtain ⟨t46_2, h_t46_2, H121⟩ := Je H120; clear H120
       refine bo 1 2 rfl rfl<|bo 0 1 rfl rfl<|?_
       refine J7 (Jw (i := 0) (rds := []) rfl (fun w L' S hF hS hi hp hlt ho hA => k104 hp hlt (Qe w S) hn0_2 h_t46_2) Tryz.call104 rfl) rfl rfl rfl (fun ⟨p_24, p_25⟩ => ?_)
       refine ub 0 1 rfl rfl<|ub 1 2 rfl rfl<|Jd<|?_
       exact cl (t46_2.s_, t46_2.kab, t46_2.kad, t46_2.kac, t46_2.no_, t46_2.kaa, t46_2.kae) (p_24, t46_2.kaa.length, p_25) 0 [0, 1, 2, 3] (by exact ⟨H121, rfl⟩)
      ·refine mv (i6 t21)<|lv (Va rfl rfl)<|pF (.bool (decide (200 < t21)))<|ag (.bool (decide (200 < t21)))<|Jd<|?_
       revert H122
       refine ci (decide (200 < t21)) rfl (fun hb H123=>?_) fun hb H125=>?_
       ·try dsimp only [z1,z2,z5,z6,z7,z8]
        refine Ja<|mv (pz pb0)<|?_
        obtain ⟨t46_3, h_t46_3, H124⟩ := Je H123; clear H123
        refine bo 1 2 rfl rfl<|bo 0 1 rfl rfl<|?_
        refine J7 (Jw (i := 0) (rds := []) rfl (fun w L' S hF hS hi hp hlt ho hA => k104 hp hlt (Qe w S) hn0_2 h_t46_3) Tryz.call104 rfl) rfl rfl rfl (fun ⟨p_26, p_27⟩ => ?_)
        refine ub 0 1 rfl rfl<|ub 1 2 rfl rfl<|Jd<|?_
        exact cl (t46_3.s_, t46_3.kab, t46_3.kad, t46_3.kac, t46_3.no_, t46_3.kaa, t46_3.kae) (p_26, t46_3.kaa.length, p_27) 0 [0, 1, 2, 3] (by exact ⟨H124, rfl⟩)
       ·refine Jc<|Ja<|mv (pz pb0)<|mv (i6 a1)<|mv (i6 t21)<|?_
        obtain ⟨t51, h_t51, H126⟩ := Je H125; clear H125
        refine lv (Jct rfl rfl h_t51) ?_
        obtain ⟨t52, h_t52, H127⟩ := Je H126; clear H126
        refine lv (J8 rfl rfl h_t52) ?_
        obtain ⟨t53, h_t53, H128⟩ := Je H127; clear H127
        refine lv (J8 rfl rfl h_t53) ?_
        obtain ⟨t54, h_t54, H129⟩ := Je H128; clear H128
        refine Qb (fun w hF hS => k103 (a0 := a0) (Jm w) (Xw (i := 1) hn0_2 hS rfl) (Uv (fk := i6) (fv := Value.bool) (i := 2) hS rfl) (Xf (i := 0) hS rfl) h_t54) call103 rfl rfl rfl<|lv (Jb8 rfl)<|ag (.bool (!t54))<|Jd<|?_
        revert H129
        refine ci (!t54) rfl (fun hb H130=>?_) fun hb H132=>?_
        ·refine Ja<|mv (pz pb0)<|?_
         obtain ⟨t57, h_t57, H131⟩ := Je H130; clear H130
         refine bo 1 2 rfl rfl<|bo 0 1 rfl rfl<|?_
         refine J7 (Jw (i := 0) (rds := []) rfl (fun w L' S hF hS hi hp hlt ho hA => k104 hp hlt (Qe w S) hn0_2 h_t57) Tryz.call104 rfl) rfl rfl rfl (fun ⟨p_28, p_29⟩ => ?_)
         refine ub 0 1 rfl rfl<|ub 1 2 rfl rfl<|Jd<|?_
         exact cl (t57.s_, t57.kab, t57.kad, t57.kac, t57.no_, t57.kaa, t57.kae) (p_28, t57.kaa.length, p_29) 0 [0, 1, 2, 3] (by exact ⟨H131, rfl⟩)
        ·refine Jj ?_
         exact cl (a0.s_, a0.kab, a0.kad, a0.kac, a0.no_, a0.kaa, a0.kae) (p0_2, n0_2, m0_3) 0 [0, 1, 2, 3] (by exact ⟨H132, hn0_2⟩)
   ·rintro ⟨m, m_2, m_3, m_4, m_5, l, mp⟩ ⟨p_3, n, b⟩ gg H72 hl
    try dsimp only at H72
    try dsimp only
    refine Jc<|Jc<|Ja<|mv (pz pb0)<|lv (Jg rfl)<|lf Tryz.runUnderlying112 rfl Tryz.sizeOf25 rfl<|ll 0 (i6 m_5) isAgg25<|lv (Zm rfl rfl)<|Jd<|?_
    revert H72
    refine ci (decide (m_5 ≠ 0)) rfl (fun hb H73=>?_) fun hb H74=>?_
    ·refine Jc<|Ja<|ag (z0s)<|ag (i6 0)<|Jd<|Jh<|J1 83 6<|?_
     obtain rfl := sj H73
     refine bo 3 4 rfl rfl<|J4 3 rfl (Yo (p := nn) rfl (AllC.nil (G := g_tag_Entry) (h := Y2) (sz := 6)))<|bo 2 3 rfl rfl<|bo 1 2 rfl rfl<|bo 0 1 rfl rfl<|?_
     refine Jba (v1 := sl nn (([] : List (List Value)).length)) (v2 := i6 0) rfl rfl rfl (X5 (nn, p_3, b) (i := 0) rfl (by first | rfl | rw [(show (([] : List (List Value)).length) = ([] : List Ta).length from (AllC.nil (G := g_tag_Entry) (h := Y2) (sz := 6)).len), (show n = l.length from hl)]) (by first | exact Imp.refl _ | exact Imp.of (by rw [(show (([] : List (List Value)).length) = ([] : List Ta).length from (AllC.nil (G := g_tag_Entry) (h := Y2) (sz := 6)).len), (show n = l.length from hl)] <;> rfl)))
    ·refine Jj<|Jc<|?_
     try dsimp only [z1,z2,z5,z6,z7,z8]
     refine Ja<|mv (pz pb0)<|lv (Jg rfl)<|lf Tryz.runUnderlying112 rfl sizeOf110 rfl<|ll 0 (.map (some b)) isAgg110<|mv (i6 a1)<|?_
     refine l_turn0 (turns_mset (u := true) (i := 2) (rds := []) (fk := i6) (fv := Value.bool) (k := a1) (v := true) keyF_int (.inr rfl) underlying110 underlying3 rfl rfl rfl rfl) rfl rfl (fun _ => ?_)
     refine Jd<|Jc<|Ja<|mv (pz pb0)<|mv (pz pb0)<|lv (Jg rfl)<|lf Tryz.runUnderlying112 rfl sizeOf73 rfl<|ll 0 (sl p_3 n) isAgg73<|mv (i6 a1)<|mv (i6 a1)<|?_
     obtain ⟨t75, h_t75, H75⟩ := Je H74; clear H74
     refine lv (J8 rfl rfl h_t75)<|mv (i6 t21)<|?_
     obtain ⟨t77, h_t77, H76⟩ := Je H75; clear H75
     refine lv (Jct rfl rfl h_t77) ?_
     obtain ⟨t78, h_t78, H77⟩ := Je H76; clear H76
     refine lv (J8 rfl rfl h_t78) ?_
     obtain ⟨t79, h_t79, H78⟩ := Je H77; clear H77
     refine lv (J8 rfl rfl h_t79)<|lv (Xh (pl := #[(0, 1), (1, 1)]) (ps := [(0, i6 a1), (1, i6 t79)]) (cells := #[i6 a1, i6 t79]) zeroValue118 runUnderlying118 (fun w => by kernel_rfl) rfl rfl)<|?_
     refine Qj (vs := [.agg #[i6 a1, i6 t79]]) (cs := [i6 a1, i6 t79]) Tryz.underlying73 sizeOf118 zeroValue118 rfl rfl rfl rfl rfl rfl rfl (fun b2 => ?_)
     obtain ⟨l82, h_l82, H79⟩ := Je H78; clear H78
     refine J7 (X4 (i := 1) (hn := hl) (rds := [4]) (p := p_3) (sz := 2) (by_ := 16) (f := Jy) (ys := l) (ls := ([(⟨a1, t79⟩ : Te)] : List Te)) (V := .slice (some ⟨b2, 0, none⟩) 1 1) Tryz.underlying73 (Qn typeInfo118) rfl rfl rfl rfl rfl rfl rfl rfl rfl rfl (fun w L' hF hS hi => Vl (i := 4) hS ((hi 4 (by simp)).trans rfl) rfl rfl) (fun _ => rfl) (fun _ => rfl) h_l82) rfl rfl rfl (fun p_4 => ?_)
     refine lv (Jg rfl)<|lf Tryz.runUnderlying112 rfl sizeOf73 rfl<|st (i := 0) [sl p_4 l82.length] [str m, .bool m_2, sl p_4 l82.length, .map (some b), i6 m_3, (Xp m_4), i6 m_5] sizeOf73 rfl rfl<|Jd<|Jc<|Ja<|mv (pz pb0)<|mv (i6 a1)<|?_
     obtain ⟨t87, h_t87, H80⟩ := Je H79; clear H79
     refine lv (J8 rfl rfl h_t87)<|mv (i6 t21)<|?_
     obtain ⟨t89, h_t89, H81⟩ := Je H80; clear H80
     refine lv (Jct rfl rfl h_t89) ?_
     obtain ⟨t90, h_t90, H82⟩ := Je H81; clear H81
     refine lv (J8 rfl rfl h_t90) ?_
     obtain ⟨t91, h_t91, H83⟩ := Je H82; clear H82
     refine Qb (fun w hF hS => k58 (a0 := (⟨m, m_2, l82, (Jdf mp a1 true), m_3, m_4, m_5⟩ : Tb)) (Jm w) (Xw (i := 1) rfl hS rfl) (Uv (fk := i6) (fv := Value.bool) (i := 2) hS rfl) (Xf (i := 0) hS rfl) h_t91) call58 rfl rfl rfl<|ag (i6 t91)<|Jd<|?_
     refine Qm (r := r) (σ := (List UInt8) × Bool × Int × Nat × Int × (List Te) × (List (Int × Bool))) (τ := AN × Nat) (fun s => Wl a1 a2 self t21 t91 s.1 s.2.1 s.2.2.1 s.2.2.2.1 s.2.2.2.2.1 s.2.2.2.2.2.1 s.2.2.2.2.2.2) (fun s t => [(0, pz pb0), (1, i6 a1), (2, v2), (6, z0s), (7, i6 t91), (9, i6 t21)]) (fun s t => [Ji pb0 [str s.1, .bool s.2.1, .slice t.1.1 s.2.2.2.2.2.1.length t.1.2, .map (some t.2), i6 s.2.2.1, (Xp s.2.2.2.1), i6 s.2.2.2.2.1] 112, Ju 118 2 (.slice t.1.1 s.2.2.2.2.2.1.length t.1.2) s.2.2.2.2.2.1.length (s.2.2.2.2.2.1.map Jy), Wd i6 Value.bool t.2 s.2.2.2.2.2.2, Y7 Y2 Y2]) (fun s t => True) ?_ ?_
     ·refine Jc<|Ja<|mv (i6 (a2.length : Int))<|lv (Va rfl rfl)<|mv (.bool (decide (1 < (a2.length : Int))))<|?_
      revert H83
      refine sp (fun hb H109=>?_) fun hb H113=>?_
      ·refine mv (i6 t91)<|lv (Zm rfl rfl)<|pT (.bool (decide (t91 ≠ 0)))<|Jd<|?_
       revert H109
       refine ci (decide (t91 ≠ 0)) rfl (fun hb H110=>?_) fun hb H112=>?_
       ·refine Ja<|mv (pz pb0)<|?_
        obtain ⟨t99, h_t99, H111⟩ := Je H110; clear H110
        refine bo 1 2 rfl rfl<|bo 0 1 rfl rfl<|?_
        refine J7 (Jw (i := 0) (rds := []) rfl (fun w L' S hF hS hi hp hlt ho hA => k104 (a0 := (⟨m, m_2, l82, (Jdf mp a1 true), m_3, m_4, m_5⟩ : Tb)) hp hlt (Qe w S) rfl h_t99) Tryz.call104 rfl) rfl rfl rfl (fun ⟨p_18, p_19⟩ => ?_)
        refine ub 0 1 rfl rfl<|ub 1 2 rfl rfl<|Jd<|?_
        exact cl (t99.s_, t99.kab, t99.kad, t99.kac, t99.no_, t99.kaa, t99.kae) (p_18, p_19) 0 [0, 1, 2, 3] (by exact ⟨H111, trivial⟩)
       ·refine Jj ?_
        exact cl (m, m_2, m_3, m_4, m_5, l82, (Jdf mp a1 true)) (p_4, b) 0 [0, 1, 2, 3] (by exact ⟨H112, trivial⟩)
      ·refine pa<|pa<|pF (.bool false)<|Jd<|Zq rfl<|Jj<|?_
       exact cl (m, m_2, m_3, m_4, m_5, l82, (Jdf mp a1 true)) (p_4, b) 0 [0, 1, 2, 3] (by exact ⟨H113, trivial⟩)
     ·rintro ⟨m_6, m_7, m_8, m_9, m_10, l_2, mp_2⟩ ⟨p_5, b_2⟩ gg H84 _
      try dsimp only at H84
      try dsimp only
      refine Qm (r := r) (σ := Int × (List UInt8) × Bool × Int × Nat × Int × (List Te) × (List (Int × Bool)) × (List Ta)) (τ := Js × AN × Nat × (List (List Value)) × AN) (fun s => Jai s.1 s.2.1 s.2.2.1 s.2.2.2.1 s.2.2.2.2.1 s.2.2.2.2.2.1 s.2.2.2.2.2.2.1 s.2.2.2.2.2.2.2.1 s.2.2.2.2.2.2.2.2) (fun s t => [(6, .slice t.2.2.2.2.1 t.2.2.2.1.length t.2.2.2.2.2), (7, i6 s.1)]) (fun s t => [Ji pb0 [str s.2.1, .bool s.2.2.1, .slice t.2.1.1 s.2.2.2.2.2.2.1.length t.2.1.2, .map (some t.2.2.1), i6 s.2.2.2.1, (Xp s.2.2.2.2.1), i6 s.2.2.2.2.2.1] 112, Ju 118 2 (.slice t.2.1.1 s.2.2.2.2.2.2.1.length t.2.1.2) s.2.2.2.2.2.2.1.length (s.2.2.2.2.2.2.1.map Jy), Wd i6 Value.bool t.2.2.1 s.2.2.2.2.2.2.2.1, Y7 Y2 t.1, Ju 83 6 (.slice t.2.2.2.2.1 t.2.2.2.1.length t.2.2.2.2.2) t.2.2.2.1.length (t.2.2.2.1.map Z6)]) (fun s t => AllC g_tag_Entry t.1 6 t.2.2.2.1 s.2.2.2.2.2.2.2.2) ?_ ?_
      ·refine Jc<|Ja<|ag (i6 0)<|Jd<|Jq<|J1 83 6<|?_
       refine Yq (σ := Int × Int × Int × Int × (List UInt8) × Bool × Int × Nat × Int × (List Te) × (List (Int × Bool)) × (List Ta)) (τ := Js × AN × Nat × (List (List Value)) × AN) (fun next4 s => Q0 a2 self next4 s.1 s.2.1 s.2.2.1 s.2.2.2.1 s.2.2.2.2.1 s.2.2.2.2.2.1 s.2.2.2.2.2.2.1 s.2.2.2.2.2.2.2.1 s.2.2.2.2.2.2.2.2.1 s.2.2.2.2.2.2.2.2.2.1 s.2.2.2.2.2.2.2.2.2.2.1 s.2.2.2.2.2.2.2.2.2.2.2) (fun s t => [(0, pz pb0), (1, i6 s.1), (2, v2), (6, .slice t.2.2.2.2.1 t.2.2.2.1.length t.2.2.2.2.2), (7, i6 s.2.1), (9, i6 s.2.2.1), (10, i6 s.2.2.2.1)]) (fun s t => [Ji pb0 [str s.2.2.2.2.1, .bool s.2.2.2.2.2.1, .slice t.2.1.1 s.2.2.2.2.2.2.2.2.2.1.length t.2.1.2, .map (some t.2.2.1), i6 s.2.2.2.2.2.2.1, (Xp s.2.2.2.2.2.2.2.1), i6 s.2.2.2.2.2.2.2.2.1] 112, Ju 118 2 (.slice t.2.1.1 s.2.2.2.2.2.2.2.2.2.1.length t.2.1.2) s.2.2.2.2.2.2.2.2.2.1.length (s.2.2.2.2.2.2.2.2.2.1.map Jy), Wd i6 Value.bool t.2.2.1 s.2.2.2.2.2.2.2.2.2.2.1, Y7 Y2 t.1, Ju 83 6 (.slice t.2.2.2.2.1 t.2.2.2.1.length t.2.2.2.2.2) t.2.2.2.1.length (t.2.2.2.1.map Z6)]) (fun s t => AllC g_tag_Entry t.1 6 t.2.2.2.1 s.2.2.2.2.2.2.2.2.2.2.2) (a1, t91, t21, 0, m_6, m_7, m_8, m_9, m_10, l_2, mp_2, ([] : List Ta)) (Y2, p_5, b_2, ([] : List (List Value)), nn) [0, 1, 2, 3, 4] H84 (by exact (AllC.nil (G := g_tag_Entry) (h := Y2) (sz := 6))) (by exact ⟨rfl, rfl, rfl, rfl, rfl, rfl, rfl, trivial⟩) (by decide) rfl ?_
       rintro ⟨x1_2, x7_3, x9_2, x10_2, m_21, m_22, m_23, m_24, m_25, l_7, mp_5, l_8⟩ ⟨hp_2, p_8, b_4, css_2, p_9⟩ m4 gg H86 pf_3
       clear H84
       try dsimp only at H86
       generalize hn4 : it (fun next4 s => Q0 a2 self next4 s.1 s.2.1 s.2.2.1 s.2.2.2.1 s.2.2.2.2.1 s.2.2.2.2.2.1 s.2.2.2.2.2.2.1 s.2.2.2.2.2.2.2.1 s.2.2.2.2.2.2.2.2.1 s.2.2.2.2.2.2.2.2.2.1 s.2.2.2.2.2.2.2.2.2.2.1 s.2.2.2.2.2.2.2.2.2.2.2) m4 = next4 at H86
       try dsimp only
       refine Jc<|Jc<|?_
       try dsimp only [z1,z2,z5,z6,z7,z8]
       refine Ja<|mv (i6 x10_2)<|mv (i6 x9_2)<|lv (Yh rfl rfl)<|mv (.bool (decide (x10_2 < x9_2)))<|?_
       revert H86
       refine sp (fun hb H87=>?_) fun hb H108=>?_
       ·refine mv (pz pb0)<|lv (Jg rfl)<|lf Tryz.runUnderlying112 rfl Tryz.sizeOf25 rfl<|ll 0 (i6 m_25) isAgg25<|lv (Qg rfl rfl)<|pT (.bool (decide (m_25 = 0)))<|Jd<|?_
        try dsimp only [z1,z2,z5,z6,z7,z8]
        revert H87
        refine ci (decide (m_25 = 0)) rfl (fun hb H88=>?_) fun hb H107=>?_
        ·refine Jj<|Jc<|Jq<|?_
         refine Qm (r := r) (σ := Unit) (τ := Unit) (fun s => Z2 a2 self x1_2 x7_3 x9_2 x10_2 m_21 m_22 m_23 m_24 m_25 l_7 mp_5 l_8 next4) (fun s t => [(0, pz pb0), (1, i6 x1_2), (2, v2), (6, sl p_9 css_2.length), (7, i6 x7_3), (9, i6 x9_2), (10, i6 x10_2), (104, pz pb0), (105, pz pb0), (106, .pointer (some ⟨pb0, 6, none⟩)), (107, i6 m_25), (108, .bool (decide (m_25 = 0)))]) (fun s t => [Ji pb0 [str m_21, .bool m_22, sl p_8 l_7.length, .map (some b_4), i6 m_23, (Xp m_24), i6 m_25] 112, Ju 118 2 (sl p_8 l_7.length) l_7.length (l_7.map Jy), Wd i6 Value.bool b_4 mp_5, Y7 Y2 hp_2, Ju 83 6 (sl p_9 css_2.length) css_2.length (css_2.map Z6)]) (fun s t => True) ?_ ?_
         ·refine Jc ?_
          exact Q1 (Kd.p :: Kd.p :: Kd.p :: Kd.p :: Kd.p :: Kd.p :: Kd.p :: Kd.p :: Kd.p :: Kd.d [3, 0, 1, 2] _ :: Kd.p :: Kd.p :: Kd.p :: Kd.d [4] _ :: Kd.d [4] _ :: Kd.d [4] _ :: Kd.p :: Kd.p :: []) 0 mixed (by
           refine dm (i6 x10_2)<|dv (Va rfl rfl)<|dm (.bool (decide (0 < x10_2)))<|?_
           refine splitS (fun hb => ?_) (fun hb => ?_)
           ·have H96 := Un hb H88
            refine dm (pz pb0)<|dm (i6 x1_2)<|?_
            have h_t117 := Qc H96
            have H97 := J2 H96
            refine dv (J8 rfl rfl h_t117)<|dm (i6 x10_2)<|?_
            have h_t119 := Qc H97
            have H98 := J2 H97
            refine dv (Jct rfl rfl h_t119) ?_
            have h_t120 := Qc H98
            have H99 := J2 H98
            refine dv (J8 rfl rfl h_t120) ?_
            have h_t121 := Qc H99
            have H100 := J2 H99
            refine Jek (fun w L' hF hS hi => k58 (a0 := (⟨m_21, m_22, l_7, mp_5, m_23, m_24, m_25⟩ : Tb)) (Jm w) (Xw (i := 1) rfl hS ((hi 1 (by simp)).trans rfl)) (Uv (fk := i6) (fv := Value.bool) (i := 2) hS ((hi 2 (by simp)).trans rfl)) (Xf (i := 0) hS ((hi 0 (by simp)).trans rfl)) h_t121) call58 rfl rfl<|dm (sl p_9 css_2.length)<|dm (i6 x10_2)<|?_
            have h_t124 := Qc H100
            have H101 := J2 H100
            refine dv (Zb rfl rfl h_t124) ?_
            have h_t125 := Qc H101
            have H102 := J2 H101
            refine Z5 (fun w L' hF hS hi => Xu Tryz.underlying41 Tryz.sizeOf83 rfl rfl (Yf (i := 4) (E := 83) (sz := 6) (n := css_2.length) (a := p_9.1) (c := p_9.2) hS ((hi 4 (by simp)).trans rfl)) rfl (pf_3.ix h_t125)) rfl rfl<|d_readE rfl rfl (fun w L' hF hS hi => V0 Tryz.runUnderlying83 rfl Tryz.sizeOf3 rfl rfl (Yf (i := 4) (E := 83) (sz := 6) (n := css_2.length) (a := p_9.1) (c := p_9.2) hS ((hi 4 (by simp)).trans rfl)) (pf_3.ix h_t125))<|Z5 (fun w L' hF hS hi => Xv (f := Z6) (i := (val (gI (x10_2 - 1)))) (sz := 6) (j := 0) (v := i6 (val (Vh l_8 (val (gI (x10_2 - 1))))).Tag) Tryz.isAgg3 rfl rfl (Yf (i := 4) (E := 83) (sz := 6) (n := css_2.length) (a := p_9.1) (c := p_9.2) hS ((hi 4 (by simp)).trans rfl)) (pf_3.ix h_t125) (rg_of ((pf_3.eta h_t125).trans (Wj (pf_3.at h_t125))) rfl)) rfl rfl<|dv (r_leq rfl rfl)<|dv (Jah (v := .bool (decide ((val (Jn (⟨m_21, m_22, l_7, mp_5, m_23, m_24, m_25⟩ : Tb) (val (gI ((val (gI (x1_2 + 2))) + (val (gI (12 * x10_2)))))) 2)) ≤ (val (Vh l_8 (val (gI (x10_2 - 1))))).Tag))) rfl rfl)<|Vz<|?_
            try dsimp only [z1,z2,z5,z6,z7,z8]
            revert H102
            refine ci (decide ((val (Jn (⟨m_21, m_22, l_7, mp_5, m_23, m_24, m_25⟩ : Tb) (val (gI ((val (gI (x1_2 + 2))) + (val (gI (12 * x10_2)))))) 2)) ≤ (val (Vh l_8 (val (gI (x10_2 - 1))))).Tag)) rfl (fun hb H103=>?_) fun hb H105=>?_
            ·refine Jc<|Ja<|mv (pz pb0)<|?_
             obtain ⟨t131, h_t131, H104⟩ := Je H103; clear H103
             refine bo 1 2 rfl rfl<|bo 0 1 rfl rfl<|?_
             refine J7 (Jw (i := 0) (rds := []) rfl (fun w L' S hF hS hi hp hlt ho hA => k104 (a0 := (⟨m_21, m_22, l_7, mp_5, m_23, m_24, m_25⟩ : Tb)) hp hlt (Qe w S) rfl h_t131) Tryz.call104 rfl) rfl rfl rfl (fun ⟨p_16, p_17⟩ => ?_)
             refine ub 0 1 rfl rfl<|ub 1 2 rfl rfl<|Jd<|?_
             try dsimp only [z1,z2,z5,z6,z7,z8]
             refine Qo ?_
             exact cl (x7_3, t131.s_, t131.kab, t131.kad, t131.kac, t131.no_, t131.kaa, t131.kae, l_8) (hp_2, p_16, p_17, css_2, p_9) 0 [0, 1, 2, 3, 4] (by exact ⟨H104, pf_3⟩)
            ·refine Jj ?_
             exact cl () () 0 [0, 1, 2, 3, 4] (by exact ⟨H105, trivial⟩)
           ·have H106 := W4 hb H88
            refine dp<|dp<|dp<|dp<|dp<|dp<|dp<|dp<|dp<|dp<|dp<|dp<|dp<|dp<|dv (Jbm (v := .bool false) rfl rfl)<|Vz<|?_
            try dsimp only [z1,z2,z5,z6,z7,z8]
            refine Zq rfl<|Jj<|?_
            exact cl () () 0 [0, 1, 2, 3, 4] (by exact ⟨H106, trivial⟩)
           ) (by kernel_rfl)
         ·rintro _ _ gg H89 _
          try dsimp only at H89
          try dsimp only
          refine Ja<|mv (sl p_9 css_2.length)<|mv (pz pb0)<|mv (i6 x1_2)<|?_
          obtain ⟨t135, h_t135, H90⟩ := Je H89; clear H89
          refine lv (J8 rfl rfl h_t135)<|mv (i6 x10_2)<|?_
          obtain ⟨t137, h_t137, H91⟩ := Je H90; clear H90
          refine lv (Jct rfl rfl h_t137) ?_
          obtain ⟨t138, h_t138, H92⟩ := Je H91; clear H91
          refine lv (J8 rfl rfl h_t138)<|mv v2<|?_
          obtain ⟨t140, h_t140, H93⟩ := Je H92; clear H92
          refine bo 1 2 rfl rfl<|bo 0 1 rfl rfl<|?_
          refine J7 (Jw (i := 0) (rds := []) rfl (fun w L' S hF hS hi hp hlt ho hA => k105_b ih (a0 := (⟨m_21, m_22, l_7, mp_5, m_23, m_24, m_25⟩ : Tb)) hp hlt (Qe w S) rfl (f2.mono (hw.but hF ho)) h_t140) call105 rfl) rfl rfl rfl (fun ⟨p_10, p_11, p_12, p_13, p_14⟩ => ?_)
          refine ub 0 1 rfl rfl<|ub 1 2 rfl rfl<|Qa 2 rfl<|Qa 5 rfl<|Qa 6 rfl<|?_
          refine Qj (vs := [.agg #[i6 t140.1.Tag, i6 t140.1.Value.kah, str t140.1.Value.kai, sl p_10 t140.1.Value.kaj.length, sl p_11 t140.1.Value.kag.length, sl p_12 t140.1.Value.kaf.length]]) (cs := [i6 t140.1.Tag, i6 t140.1.Value.kah, str t140.1.Value.kai, sl p_10 t140.1.Value.kaj.length, sl p_11 t140.1.Value.kag.length, sl p_12 t140.1.Value.kaf.length]) Tryz.underlying41 Tryz.sizeOf83 zeroValue83 rfl rfl rfl rfl rfl rfl rfl (fun b3 => ?_)
          try dsimp only [z1,z2,z5,z6,z7,z8]
          refine Jf2 (Φ := fun H_ => FrS H_ 1 (sl p_10 t140.1.Value.kaj.length) (t140.1.Value.kaj.map Q5)) 3 5 rfl rfl (by decide) (fun _ _ => Yx) (fz_own _) (fun hp_3 hle hf => ?_)
          try dsimp only [z1,z2,z5,z6,z7,z8]
          refine Jf2 (Φ := fun H_ => FrS H_ 2 (sl p_11 t140.1.Value.kag.length) (t140.1.Value.kag.map Jp)) 3 6 rfl rfl (by decide) (fun _ _ => Yx) (fz_own _) (fun hp_4 hle_2 hf_2 => ?_)
          refine Jep 7 rfl (fun hp_5 css_3 hn pf_4 => ?_)
          rw [hn]
          try dsimp only [z1,z2,z5,z6,z7,z8]
          refine Qa 7 rfl ?_
          try dsimp only [z1,z2,z5,z6,z7,z8]
          refine Z7 3 7 rfl rfl (by decide) (fun _ _ => Yx) (fun hp_6 hle_3 hle_4 => ?_)
          try dsimp only [z1,z2,z5,z6,z7,z8]
          refine Jf2 (Φ := fun H_ => FrS H_ 6 (sl p_12 css_3.length) (css_3.map Z6)) 3 9 rfl rfl (by decide) (fun _ _ => Yx) (fz_own _) (fun hp_7 hle_5 hf_3 => ?_)
          obtain ⟨l142, h_l142, H94⟩ := Je H93; clear H93
          refine J7 (Wz (i := 4) (k := 8) (p := p_9) (f := Z6) (ys := css_2) (ls := [[i6 t140.1.Tag, i6 t140.1.Value.kah, str t140.1.Value.kai, sl p_10 t140.1.Value.kaj.length, sl p_11 t140.1.Value.kag.length, sl p_12 css_3.length]]) Tryz.underlying41 (Qn typeInfo83) rfl rfl rfl rfl rfl rfl rfl rfl rfl rfl rfl rfl rfl rfl (by simp only [Z6, List.map_cons, List.map_nil, List.all_cons, List.all_nil, (((hf.mono hle_2).mono hle_3).mono hle_5).one, ((hf_2.mono hle_3).mono hle_5).one, (Ja8 (xs := t140.1.Value.kaf) hf_3 ((pf_4.mono hle_4).mono hle_5)).one] <;> rfl) (app63 (((((pf_3.mono hle).mono hle_2).mono hle_3).mono hle_5).app h_l142 (nc := [[i6 t140.1.Tag, i6 t140.1.Value.kah, str t140.1.Value.kai, sl p_10 t140.1.Value.kaj.length, sl p_11 t140.1.Value.kag.length, sl p_12 css_3.length]]) rfl)) rfl) rfl rfl rfl (fun p_15 => ?_)
          have pf_5 : AllC g_tag_Entry hp_7 6 (css_2 ++ [[i6 t140.1.Tag, i6 t140.1.Value.kah, str t140.1.Value.kai, sl p_10 t140.1.Value.kaj.length, sl p_11 t140.1.Value.kag.length, sl p_12 css_3.length]]) l142 := AllC.snocG ((((pf_3.mono hle).mono hle_2).mono hle_3).mono hle_5) h_l142 rfl ((g_tag_Entry_iff.2 ⟨rfl, ⟨rfl, rfl, (((hf.mono hle_2).mono hle_3).mono hle_5), ((hf_2.mono hle_3).mono hle_5), (Ja8 (xs := t140.1.Value.kaf) hf_3 ((pf_4.mono hle_4).mono hle_5))⟩⟩))
          refine ag (sl p_15 ((css_2 ++ [[i6 t140.1.Tag, i6 t140.1.Value.kah, str t140.1.Value.kai, .slice p_10.1 t140.1.Value.kaj.length p_10.2, .slice p_11.1 t140.1.Value.kag.length p_11.2, .slice p_12.1 css_3.length p_12.2]]).length))<|Jd<|?_
          try dsimp only [z1,z2,z5,z6,z7,z8]
          refine Ja<|mv (i6 x10_2)<|?_
          obtain ⟨t111, h_t111, H95⟩ := Je H94; clear H94
          refine lv (J8 rfl rfl h_t111)<|ag (i6 t111)<|Jd<|?_
          try dsimp only [z1,z2,z5,z6,z7,z8]
          exact cl (x1_2, x7_3, x9_2, t111, t140.2.s_, t140.2.kab, t140.2.kad, t140.2.kac, t140.2.no_, t140.2.kaa, t140.2.kae, l142) (hp_7, p_13, p_14, (css_2 ++ [[i6 t140.1.Tag, i6 t140.1.Value.kah, str t140.1.Value.kai, sl p_10 t140.1.Value.kaj.length, sl p_11 t140.1.Value.kag.length, sl p_12 css_3.length]]), p_15) m4 [0, 1, 2, 3, 4] (by exact ⟨(by subst hn4; exact H95), pf_5⟩)
        ·refine Qo ?_
         exact cl (x7_3, m_21, m_22, m_23, m_24, m_25, l_7, mp_5, l_8) (hp_2, p_8, b_4, css_2, p_9) 0 [0, 1, 2, 3, 4] (by exact ⟨H107, pf_3⟩)
       ·refine pa<|pa<|pa<|pa<|pa<|pF (.bool false)<|Jd<|?_
        try dsimp only [z1,z2,z5,z6,z7,z8]
        refine Zq rfl<|Qo<|?_
        exact cl (x7_3, m_21, m_22, m_23, m_24, m_25, l_7, mp_5, l_8) (hp_2, p_8, b_4, css_2, p_9) 0 [0, 1, 2, 3, 4] (by exact ⟨H108, pf_3⟩)
      ·rintro ⟨x7, m_11, m_12, m_13, m_14, m_15, l_3, mp_3, l_4⟩ ⟨hp, p_6, b_3, css, p_7⟩ gg H85 pf
       try dsimp only at H85
       try dsimp only
       refine Jc<|Ja<|mv (sl p_7 css.length)<|mv (i6 x7)<|ag (sl p_7 css.length)<|ag (i6 x7)<|Jd<|?_
       try dsimp only [z1,z2,z5,z6,z7,z8]
       refine Jh ?_
       obtain rfl := sj H85
       refine bo 3 4 rfl rfl<|J4 3 rfl (Yo (p := p_7) rfl pf)<|bo 2 3 rfl rfl<|bo 1 2 rfl rfl<|bo 0 1 rfl rfl<|?_
       refine Jba (v1 := sl p_7 css.length) (v2 := i6 x7) rfl rfl rfl (X5 (p_7, p_6, b_3) (i := 0) rfl (by first | rfl | rw [(show css.length = l_4.length from pf.len)]) (by first | exact Imp.refl _ | exact Imp.of (by rw [(show css.length = l_4.length from pf.len)] <;> rfl)))
theorem k59 {a0 : Tb} {pb0 : Nat} {p0_2 : AN} {n0_2 : Nat} {m0_3 : Nat} {a1 : Int} {a2 : (List Int)} {v2 : Value} {r : (List Ta) × Int × Tb} {w : World} {h : Js} {S : Nat → Prop} (hcs : (Jz (Ji pb0 [str a0.s_, .bool a0.kab, sl p0_2 n0_2, .map (some m0_3), i6 a0.kad, (Xp a0.kac), i6 a0.no_] 112) (Jz (Ju 118 2 (sl p0_2 n0_2) n0_2 (a0.kaa.map Jy)) (Wd i6 Value.bool m0_3 a0.kae))).P S w) (hlt : ∀ b, S b → b < w.heap.size) (hw : Know h w S) (hn0_2 : n0_2 = a0.kaa.length) (f2 : FrS h 1 v2 (a2.map Q5)) (H : V1 a0 a1 a2 = some r) : Does prog 59 (List.toArray [pz pb0, i6 a1, v2]) w (fun v w' => ∃ x : AN × AN × Nat, v = (.tuple #[.slice x.1.1 r.1.length x.1.2, i6 r.2.1]) ∧ Turn w w' S (Jz (Ji pb0 [str r.2.2.s_, .bool r.2.2.kab, .slice x.2.1.1 r.2.2.kaa.length x.2.1.2, .map (some x.2.2), i6 r.2.2.kad, (Xp r.2.2.kac), i6 r.2.2.no_] 112) (Jz (Ju 118 2 (.slice x.2.1.1 r.2.2.kaa.length x.2.1.2) r.2.2.kaa.length (r.2.2.kaa.map Jy)) (Jz (Wd i6 Value.bool x.2.2 r.2.2.kae) (Jdb 83 6 g_tag_Entry (.slice x.1.1 r.1.length x.1.2) r.1.length r.1))))) := by
 obtain ⟨mm, hm⟩ := Jin (show Z8 (fun (self : (Tb × Int × (List Int)) → Option ((List Ta) × Int × Tb)) (s : Tb × Int × (List Int)) => J3 self s.1 s.2.1 s.2.2) (a0, a1, a2) = some r from H)
 exact k59_it mm hcs hlt hw hn0_2 f2 hm
theorem k60_61 {a0 : (List Te)} {p0 : AN} {n0 : Nat} {r : (List Te)} {w : World} {h : Js} {S : Nat → Prop} (hcs : (Ju 118 2 (sl p0 n0) n0 (a0.map Jy)).P S w) (hlt : ∀ b, S b → b < w.heap.size) (_ : Know h w S) (hn0 : n0 = a0.length) (H : Jg8 a0 Qu = some r) : Does prog 60 (List.toArray [sl p0 n0, .func (.func 61) #[] #[]]) w (fun v w' => ∃ x : Unit, v = (.tuple #[]) ∧ Turn w w' S (Ju 118 2 (sl p0 n0) n0 (r.map Jy))) :=
  sort_func (ρ := Go.Proofs.Tryz.sortFP_ren) Go.Proofs.Tryz.sortFP (k := 2) (fun w => isAgg118 w) (fun w => sizeOf118 w) Jy (fun _ => rfl) (fun x v hv => by simp [Jy] at hv; rcases hv with rfl | rfl <;> rfl) Go.Proofs.Tryz.entersP (fun x y v W hv => Go.Proofs.Tryz.cmpP x y v W hv) hcs hlt hn0 H
theorem k62 {a0 : (List Te)} {v0 : Value} {r : Bool} {w : World} {h : Js} (hw : Know h w Zk) (f0 : FrS h 2 v0 (a0.map Jy)) (H : Jei a0 = some r) : Does prog 62 (List.toArray [v0]) w (fun v w' => v = (.bool r) ∧ Grow w w') := by
 refine enter (n := 22) func62 rfl rfl rfl Zk [] (Sat.nil _ _)<|Jc<|Ja<|ag (.bool false)<|Jd<|Jc<|Jc<|Ja<|ag (i6 1)<|Jd<|Jq<|?_
 refine Yq (σ := Int) (τ := Unit) (fun next1 s => Z0 a0 next1 s) (fun s t => [(0, v0), (3, i6 s)]) (fun s t => []) (fun s t => True) 1 () [] H (by exact trivial) (by exact ⟨rfl, rfl, trivial⟩) (by decide) rfl ?_
 rintro x3_2 _ m1 gg H10 _
 clear H
 try dsimp only at H10
 generalize hn1 : it (fun next1 s => Z0 a0 next1 s) m1 = next1 at H10
 try dsimp only
 refine Jc<|Jc<|Ja<|mv (i6 x3_2)<|mv v0<|lv (Jbs Tryz.underlying73 rfl f0 rfl)<|lv (Yh rfl rfl)<|Jd<|?_
 revert H10
 refine ci (decide (x3_2 < (a0.length : Int))) rfl (fun hb H11=>?_) fun hb H18=>?_
 ·refine Jj<|Jc<|Jq<|Jc<|?_
  exact Q1 (Kd.p :: Kd.p :: Kd.p :: Kd.p :: Kd.d [] _ :: Kd.p :: Kd.p :: Kd.p :: Kd.p :: Kd.p :: Kd.d [] _ :: Kd.p :: []) 0 mixed (by
   refine dm v0<|dm (i6 x3_2)<|?_
   have h_t12 := Qc H11
   have H12 := J2 H11
   refine dv (Yz Tryz.underlying73 sizeOf118 rfl rfl f0 h_t12)<|dv (Jhh runUnderlying118 rfl Tryz.sizeOf3 rfl rfl (Jg3 f0 h_t12))<|d_read (fun w hF => Xv (f := Jy) (i := x3_2) (sz := 2) (j := 0) (v := i6 (val (Vh a0 x3_2)).From) Tryz.isAgg3 rfl rfl (f0.row (hw.now hF)) h_t12 rfl) rfl rfl<|dm v0<|dm (i6 x3_2)<|?_
   have h_t17 := Qc H12
   have H13 := J2 H12
   refine dv (Zb rfl rfl h_t17) ?_
   have h_t18 := Qc H13
   have H14 := J2 H13
   refine dv (Yz Tryz.underlying73 sizeOf118 rfl rfl f0 h_t18)<|dv (Jhh runUnderlying118 rfl Tryz.sizeOf3 rfl rfl (Jg3 f0 h_t18))<|d_read (fun w hF => Xv (f := Jy) (i := (val (gI (x3_2 - 1)))) (sz := 2) (j := 1) (v := i6 (val (Vh a0 (val (gI (x3_2 - 1))))).To) Tryz.isAgg3 rfl rfl (f0.row (hw.now hF)) h_t18 rfl) rfl rfl<|dv (Yh rfl rfl)<|Vz<|?_
   revert H14
   refine ci (decide ((val (Vh a0 x3_2)).From < (val (Vh a0 (val (gI (x3_2 - 1))))).To)) rfl (fun hb H15=>?_) fun hb H16=>?_
   ·refine Jc<|Ja<|ag (.bool true)<|Jd<|Jh<|?_
    obtain rfl := sj H15
    exact r1 (.bool true)
   ·refine Jj<|Ja<|mv (i6 x3_2)<|?_
    obtain ⟨t9, h_t9, H17⟩ := Je H16; clear H16
    refine lv (J8 rfl rfl h_t9)<|ag (i6 t9)<|Jd<|?_
    exact cl t9 () m1 [] (by exact ⟨(by subst hn1; exact H17), trivial⟩)
   ) (by kernel_rfl)
 ·refine Qo<|Jc<|Ja<|ag (.bool false)<|Jd<|Jh<|?_
  obtain rfl := sj H18
  exact r1 (.bool false)
theorem k31 {a0 : (List UInt8)} {a1 : Nat} {r : Tg × (List Te) × Int} {w : World} {h : Js} (hw : Know h w Zk) (H : Je2 a0 a1 = some r) : Does prog 31 (List.toArray [str a0, (Xp a1)]) w (fun v w' => ∃ x : AN × AN, v = (.tuple #[.agg #[.bool r.1.Big, .slice x.1.1 r.1.kal.length x.1.2], .slice x.2.1 r.2.1.length x.2.2, i6 r.2.2]) ∧ Turn w w' Zk (Jz (Jdb 41 1 gs_tag_Entry (.slice x.1.1 r.1.kal.length x.1.2) r.1.kal.length r.1.kal) (Ju 118 2 (.slice x.2.1 r.2.1.length x.2.2) r.2.1.length (r.2.1.map Jy)))) := by
 refine enter (n := 113) func31 rfl rfl rfl Zk [] (Sat.nil _ _)<|Zt Y2<|Jc<|Ja<|?_
 refine Q2 (cs := [.bool false, z0s]) zeroValue24 rfl rfl rfl (fun b6 => ?_)
 refine ag (z0s)<|ag (i6 0)<|Jd<|Jc<|Jc<|Ja<|mv (str a0)<|lv (Q8 Tryz.underlying9 rfl)<|lv (Va rfl rfl)<|Jd<|?_
 revert H
 refine ci (decide (65000 < (a0.length : Int))) rfl (fun hb H30=>?_) fun hb H31=>?_
 ·refine Jc<|Ja<|lv (Xh (pl := #[(0, 1), (1, 1)]) (ps := []) (cells := #[.bool false, z0s]) zeroValue24 Tryz.runUnderlying24 (fun w => by kernel_rfl) rfl rfl)<|st (i := 1) [.bool false, z0s] [.bool false, z0s] Tryz.sizeOf24 rfl rfl<|ag (z0s)<|ag (i6 4)<|Jd<|Jh<|J1 41 1<|J1 118 2<|?_
  obtain rfl := sj H30
  refine bo 0 2 rfl rfl<|J4 0 rfl (Yo (p := nn) rfl (AllC.nil (G := gs_tag_Entry) (h := Y2) (sz := 1)))<|bo 0 3 rfl rfl<|?_
  refine Jiq (i := 1) (vs := [.bool false, sl nn (([] : List (List Value)).length)]) (v2 := sl nn ([] : List Te).length) (v3 := i6 4) Tryz.isAgg24 Tryz.sizeOf24 rfl rfl rfl rfl rfl rfl (X5 (nn, nn) (i := 0) rfl (by first | rfl | rw [(show (([] : List (List Value)).length) = ([] : List (List Ta)).length from (AllC.nil (G := gs_tag_Entry) (h := Y2) (sz := 1)).len)]) (by first | exact Imp.refl _ | exact Imp.of (by rw [(show (([] : List (List Value)).length) = ([] : List (List Ta)).length from (AllC.nil (G := gs_tag_Entry) (h := Y2) (sz := 1)).len)] <;> rfl)))
 ·refine Jj<|Jc<|Jc<|Ja<|mv (str a0)<|?_
  obtain ⟨t17, h_t17, H32⟩ := Je H31; clear H31
  refine Qk (k57 h_t17) call57 rfl rfl rfl<|lv (Jb8 rfl)<|Jd<|?_
  revert H32
  refine ci (!t17) rfl (fun hb H33=>?_) fun hb H34=>?_
  ·refine Jc<|Ja<|lv (Xh (pl := #[(0, 1), (1, 1)]) (ps := []) (cells := #[.bool false, z0s]) zeroValue24 Tryz.runUnderlying24 (fun w => by kernel_rfl) rfl rfl)<|st (i := 1) [.bool false, z0s] [.bool false, z0s] Tryz.sizeOf24 rfl rfl<|ag (z0s)<|ag (i6 8)<|Jd<|Jh<|J1 41 1<|J1 118 2<|?_
   obtain rfl := sj H33
   refine bo 0 2 rfl rfl<|J4 0 rfl (Yo (p := nn) rfl (AllC.nil (G := gs_tag_Entry) (h := Y2) (sz := 1)))<|bo 0 3 rfl rfl<|?_
   refine Jiq (i := 1) (vs := [.bool false, sl nn (([] : List (List Value)).length)]) (v2 := sl nn ([] : List Te).length) (v3 := i6 8) Tryz.isAgg24 Tryz.sizeOf24 rfl rfl rfl rfl rfl rfl (X5 (nn, nn) (i := 0) rfl (by first | rfl | rw [(show (([] : List (List Value)).length) = ([] : List (List Ta)).length from (AllC.nil (G := gs_tag_Entry) (h := Y2) (sz := 1)).len)]) (by first | exact Imp.refl _ | exact Imp.of (by rw [(show (([] : List (List Value)).length) = ([] : List (List Ta)).length from (AllC.nil (G := gs_tag_Entry) (h := Y2) (sz := 1)).len)] <;> rfl)))
  ·refine Jj<|Jc<|Ja<|mv (str a0)<|mv (str a0)<|?_
   obtain ⟨t22, h_t22, H35⟩ := Je H34; clear H34
   refine lv (Zz Tryz.underlying9 rfl rfl h_t22)<|lv (Qg rfl rfl)<|?_
   refine Yi (rds := []) (makes_map (fk := i6) (fv := Value.bool)) rfl rfl rfl (fun b7 => ?_)
   refine mv ((Xp a1))<|lv (Xh (pl := #[(0, 1), (1, 1), (2, 1), (3, 1), (4, 1), (5, 1), (6, 1)]) (ps := [(0, str a0), (1, .bool (decide (t22 = 77))), (3, .map (some b7)), (5, (Xp a1))]) (cells := #[str a0, .bool (decide (t22 = 77)), z0s, .map (some b7), i6 0, (Xp a1), i6 0]) zeroValue112 Tryz.runUnderlying112 (fun w => by kernel_rfl) rfl (by generalize (a1 : Nat) = fz0_; rcases fz0_ with _ | _ <;> rfl))<|?_
   refine Jat (cs := [str a0, .bool (decide (t22 = 77)), z0s, .map (some b7), i6 0, (Xp a1), i6 0]) rfl rfl rfl rfl (fun b8 => ?_)
   refine ag (pz b8)<|Jd<|Jc<|?_
   try dsimp only [z1,z2,z5,z6,z7,z8]
   refine Ja<|mv (pz b8)<|lv (Jg rfl)<|lf Tryz.runUnderlying112 rfl Tryz.sizeOf4 rfl<|ll 3 (.bool (decide (t22 = 77))) isAgg4<|lv (Xh (pl := #[(0, 1), (1, 1)]) (ps := [(0, .bool (decide (t22 = 77)))]) (cells := #[.bool (decide (t22 = 77)), z0s]) zeroValue24 Tryz.runUnderlying24 (fun w => by kernel_rfl) rfl rfl)<|?_
   refine Q2 (cs := [.bool false, z0s]) zeroValue24 rfl rfl rfl (fun b9 => ?_)
   refine st (i := 4) [.bool (decide (t22 = 77)), z0s] [.bool (decide (t22 = 77)), z0s] Tryz.sizeOf24 rfl rfl<|Jd<|?_
   refine Qm (r := r) (σ := (List UInt8) × Bool × Int × Nat × Int × (List Te) × (List (List Ta)) × (List (Int × Bool))) (τ := AN × AN × Nat) (fun s => Ur t22 s.1 s.2.1 s.2.2.1 s.2.2.2.1 s.2.2.2.2.1 s.2.2.2.2.2.1 s.2.2.2.2.2.2.1 s.2.2.2.2.2.2.2) (fun s t => [(4, pz b6), (7, pz b8), (8, pz b9)]) (fun s t => [Y7 Y2 Y2, Ji b6 [.bool false, z0s] 24, Wd i6 Value.bool t.2.2 s.2.2.2.2.2.2.2, Ji b8 [str s.1, .bool s.2.1, .slice t.1.1 s.2.2.2.2.2.1.length t.1.2, .map (some t.2.2), i6 s.2.2.1, (Xp s.2.2.2.1), i6 s.2.2.2.2.1] 112, Ji b9 [.bool (decide (t22 = 77)), .slice t.2.1.1 s.2.2.2.2.2.2.1.length t.2.1.2] 24, Ju 118 2 (.slice t.1.1 s.2.2.2.2.2.1.length t.1.2) s.2.2.2.2.2.1.length (s.2.2.2.2.2.1.map Jy), Jdb 41 1 gs_tag_Entry (.slice t.2.1.1 s.2.2.2.2.2.2.1.length t.2.1.2) s.2.2.2.2.2.2.1.length s.2.2.2.2.2.2.1]) (fun s t => True) ?_ ?_
   ·refine Jc<|Ja<|mv (pz b8)<|?_
    obtain ⟨t34, h_t34, H50⟩ := Je H35; clear H35
    refine Qb (fun w hF hS => k58 (a0 := (⟨a0, (decide (t22 = 77)), ([] : (List Te)), ([] : (List (Int × Bool))), 0, a1, 0⟩ : Tb)) (Jm w) (FrS.nil _ _) (Uv (fk := i6) (fv := Value.bool) (i := 2) hS rfl) (Xf (i := 3) hS rfl) h_t34) call58 rfl rfl rfl<|ag (i6 t34)<|Jd<|Jq<|J1 118 2<|J1 41 1<|Zt Y2<|?_
    try dsimp only [z1,z2,z5,z6,z7,z8]
    refine bo 7 6 rfl rfl ?_
    try dsimp only [z1,z2,z5,z6,z7,z8]
    refine J4 7 rfl (Jgh (css := []) (xs := ([] : List (List Ta))) (p := nn) rfl (AllC.nil (G := gs_tag_Entry) (h := Y2) (sz := 1))) ?_
    refine Yq (σ := Int × (List UInt8) × Bool × Int × Nat × Int × (List Te) × (List (List Ta)) × (List (Int × Bool))) (τ := AN × AN × Nat) (fun next4 s => Uo t22 next4 s.1 s.2.1 s.2.2.1 s.2.2.2.1 s.2.2.2.2.1 s.2.2.2.2.2.1 s.2.2.2.2.2.2.1 s.2.2.2.2.2.2.2.1 s.2.2.2.2.2.2.2.2) (fun s t => [(4, pz b6), (7, pz b8), (8, pz b9), (9, i6 s.1)]) (fun s t => [Y7 Y2 Y2, Ji b6 [.bool false, z0s] 24, Wd i6 Value.bool t.2.2 s.2.2.2.2.2.2.2.2, Ji b8 [str s.2.1, .bool s.2.2.1, .slice t.1.1 s.2.2.2.2.2.2.1.length t.1.2, .map (some t.2.2), i6 s.2.2.2.1, (Xp s.2.2.2.2.1), i6 s.2.2.2.2.2.1] 112, Ji b9 [.bool (decide (t22 = 77)), .slice t.2.1.1 s.2.2.2.2.2.2.2.1.length t.2.1.2] 24, Ju 118 2 (.slice t.1.1 s.2.2.2.2.2.2.1.length t.1.2) s.2.2.2.2.2.2.1.length (s.2.2.2.2.2.2.1.map Jy), Jdb 41 1 gs_tag_Entry (.slice t.2.1.1 s.2.2.2.2.2.2.2.1.length t.2.1.2) s.2.2.2.2.2.2.2.1.length s.2.2.2.2.2.2.2.1]) (fun s t => True) (t34, a0, (decide (t22 = 77)), 0, a1, 0, ([] : List Te), ([] : List (List Ta)), ([] : (List (Int × Bool)))) (nn, nn, b7) [0, 1, 2, 3, 4, 5, 7] H50 (by exact trivial) (by exact ⟨rfl, rfl, rfl, rfl, trivial⟩) (by decide) rfl ?_
    rintro ⟨x9_2, m_13, m_14, m_15, m_16, m_17, l_5, l_6, mp_3⟩ ⟨p_3, p_4, b_2⟩ m4 gg H51 _
    clear H50
    try dsimp only at H51
    generalize hn4 : it (fun next4 s => Uo t22 next4 s.1 s.2.1 s.2.2.1 s.2.2.2.1 s.2.2.2.2.1 s.2.2.2.2.2.1 s.2.2.2.2.2.2.1 s.2.2.2.2.2.2.2.1 s.2.2.2.2.2.2.2.2) m4 = next4 at H51
    try dsimp only
    refine Jc<|Jc<|?_
    try dsimp only [z1,z2,z5,z6,z7,z8]
    refine Ja<|mv (i6 x9_2)<|lv (Zm rfl rfl)<|mv (.bool (decide (x9_2 ≠ 0)))<|?_
    revert H51
    refine sp (fun hb H52=>?_) fun hb H58=>?_
    ·refine mv (pz b8)<|lv (Jg rfl)<|lf Tryz.runUnderlying112 rfl Tryz.sizeOf25 rfl<|ll 3 (i6 m_17) isAgg25<|lv (Qg rfl rfl)<|pT (.bool (decide (m_17 = 0)))<|Jd<|?_
     revert H52
     refine ci (decide (m_17 = 0)) rfl (fun hb H53=>?_) fun hb H57=>?_
     ·refine Jj<|Jq<|Jc<|Ja<|mv (pz b8)<|lv (Jg rfl)<|lf Tryz.runUnderlying112 rfl Tryz.sizeOf3 rfl<|ll 3 (i6 m_15) Tryz.isAgg3<|?_
      obtain ⟨t48, h_t48, H54⟩ := Je H53; clear H53
      refine lv (J8 rfl rfl h_t48)<|lv (Jg rfl)<|lf Tryz.runUnderlying112 rfl Tryz.sizeOf3 rfl<|st (i := 3) [i6 t48] [str m_13, .bool m_14, sl p_3 l_5.length, .map (some b_2), i6 t48, (Xp m_16), i6 m_17] Tryz.sizeOf3 rfl rfl<|Jd<|Jc<|Ja<|mv (pz b8)<|mv (i6 x9_2)<|lf Tryz.runUnderlying24 rfl sizeOf22 rfl<|ll 4 (sl p_4 l_6.length) isAgg22<|lv (U6 Tryz.underlying22 rfl)<|?_
      refine Qj (vs := [i6 (l_6.length : Int)]) (cs := [i6 (l_6.length : Int)]) Tryz.underlying76 Tryz.sizeOf3 zeroValue3 rfl rfl rfl rfl rfl rfl rfl (fun b10 => ?_)
      obtain ⟨t58, h_t58, H55⟩ := Je H54; clear H54
      refine bo 5 2 rfl rfl<|bo 3 5 rfl rfl<|?_
      refine J7 (Jw (i := 3) (rds := [7]) rfl (fun w L' S hF hS hi hp hlt ho hA => k59 (a0 := (⟨m_13, m_14, l_5, mp_3, t48, m_16, m_17⟩ : Tb)) hp hlt (Qe w S) rfl (frb_box (j := 7) (xs := ([(l_6.length : Int)] : List Int)) (f := Q5) hA hS (by decide) ((hi 7 (by simp)).trans rfl) rfl rfl rfl rfl) h_t58) call59 rfl) rfl rfl rfl (fun ⟨p_5, p_6, p_7⟩ => ?_)
      refine ub 3 5 rfl rfl<|ub 5 2 rfl rfl<|Qa 2 rfl<|mv (.tuple #[sl p_5 t58.1.length, i6 t58.2.1])<|lv (Jk (v := sl p_5 t58.1.length) rfl rfl)<|lv (Jk (v := i6 t58.2.1) rfl rfl)<|ag (sl p_5 t58.1.length)<|ag (i6 t58.2.1)<|Jd<|Jc<|?_
      refine Jep 6 rfl (fun hp css hn pf => ?_)
      rw [hn]
      try dsimp only [z1,z2,z5,z6,z7,z8]
      refine Qa 6 rfl ?_
      try dsimp only [z1,z2,z5,z6,z7,z8]
      refine Z7 0 6 rfl rfl (by decide) (fun _ _ => Yx) (fun hp_2 hle hle_2 => ?_)
      try dsimp only [z1,z2,z5,z6,z7,z8]
      refine Ja<|lf Tryz.runUnderlying24 rfl sizeOf22 rfl<|ll 4 (sl p_4 css.length) isAgg22<|mv (sl p_5 t58.1.length)<|?_
      refine Qj (vs := [sl p_5 t58.1.length]) (cs := [sl p_5 t58.1.length]) Tryz.underlying22 Tryz.sizeOf41 zeroValue41 rfl rfl rfl rfl rfl rfl rfl (fun b11 => ?_)
      refine Jep 8 rfl (fun hp_3 css_2 hn_2 pf_2 => ?_)
      rw [hn_2]
      try dsimp only [z1,z2,z5,z6,z7,z8]
      refine Qa 8 rfl ?_
      try dsimp only [z1,z2,z5,z6,z7,z8]
      refine Z7 0 8 rfl rfl (by decide) (fun _ _ => Yx) (fun hp_4 hle_3 hle_4 => ?_)
      try dsimp only [z1,z2,z5,z6,z7,z8]
      refine Jf2 (Φ := fun H_ => FrS H_ 6 (sl p_5 css_2.length) (css_2.map Z6)) 0 11 rfl rfl (by decide) (fun _ _ => Yx) (fz_own _) (fun hp_5 hle_5 hf => ?_)
      obtain ⟨l65, h_l65, H56⟩ := Je H55; clear H55
      refine J7 (Wz (i := 9) (k := 10) (p := p_4) (f := Z6) (ys := css) (ls := [[sl p_5 css_2.length]]) Tryz.underlying22 (Qn typeInfo41) rfl rfl rfl rfl rfl rfl rfl rfl rfl rfl rfl rfl rfl rfl (by simp only [Z6, List.map_cons, List.map_nil, List.all_cons, List.all_nil, (Ja8 (xs := t58.1) hf ((pf_2.mono hle_4).mono hle_5)).one] <;> rfl) (app63 ((((pf.mono hle_2).mono hle_3).mono hle_5).app h_l65 (nc := [[sl p_5 css_2.length]]) rfl)) rfl) rfl rfl rfl (fun p_8 => ?_)
      have pf_3 : AllC gs_tag_Entry hp_5 1 (css ++ [[Value.slice p_5.1 css_2.length p_5.2]]) l65 := AllC.snocG (((pf.mono hle_2).mono hle_3).mono hle_5) h_l65 rfl ((Ja8 (xs := t58.1) hf ((pf_2.mono hle_4).mono hle_5)))
      refine lf Tryz.runUnderlying24 rfl sizeOf22 rfl<|st (i := 4) [sl p_8 ((css ++ [[Value.slice p_5.1 css_2.length p_5.2]]).length)] [.bool (decide (t22 = 77)), sl p_8 ((css ++ [[Value.slice p_5.1 css_2.length p_5.2]]).length)] sizeOf22 rfl rfl<|Jd<|?_
      try dsimp only [z1,z2,z5,z6,z7,z8]
      refine bo 0 9 rfl rfl ?_
      try dsimp only [z1,z2,z5,z6,z7,z8]
      refine J4 0 rfl (Jgh (p := p_8) rfl pf_3) ?_
      (try rw [show ((css ++ [[Value.slice p_5.1 css_2.length p_5.2]]).length) = l65.length from pf_3.len])
      refine Zt Y2<|c_sel [12, 1, 2, 3, 4, 5, 6, 7, 8, 0, 10, 11] [Y7 Y2 Y2, Ji b6 [.bool false, z0s] 24, Wd i6 Value.bool p_7 t58.2.2.kae, Ji b8 [str t58.2.2.s_, .bool t58.2.2.kab, sl p_6 t58.2.2.kaa.length, .map (some p_7), i6 t58.2.2.kad, (Xp t58.2.2.kac), i6 t58.2.2.no_] 112, Ji b9 [.bool (decide (t22 = 77)), sl p_8 l65.length] 24, Ju 118 2 (sl p_6 t58.2.2.kaa.length) t58.2.2.kaa.length (t58.2.2.kaa.map Jy), _, Ji b10 [i6 (css.length : Int)] 3, _, Jdb 41 1 gs_tag_Entry (sl p_8 l65.length) l65.length l65, Ji b11 [sl p_5 css_2.length] 41, _] rfl (by decide)<|?_
      try dsimp only [z1,z2,z5,z6,z7,z8]
      refine Ja<|mv (i6 t58.2.1)<|ag (i6 t58.2.1)<|Jd<|?_
      exact cl (t58.2.1, t58.2.2.s_, t58.2.2.kab, t58.2.2.kad, t58.2.2.kac, t58.2.2.no_, t58.2.2.kaa, l65, t58.2.2.kae) (p_6, p_8, p_7) m4 [0, 1, 2, 3, 4, 5, 9] (by exact ⟨(by subst hn4; exact H56), trivial⟩)
     ·refine Qo ?_
      exact cl (m_13, m_14, m_15, m_16, m_17, l_5, l_6, mp_3) (p_3, p_4, b_2) 0 [0, 1, 2, 3, 4, 5, 6] (by exact ⟨H57, trivial⟩)
    ·refine pa<|pa<|pa<|pa<|pa<|pF (.bool false)<|Jd<|Zq rfl<|Qo<|?_
     exact cl (m_13, m_14, m_15, m_16, m_17, l_5, l_6, mp_3) (p_3, p_4, b_2) 0 [0, 1, 2, 3, 4, 5, 6] (by exact ⟨H58, trivial⟩)
   ·rintro ⟨m, m_2, m_3, m_4, m_5, l, l_2, mp⟩ ⟨p, p_2, b⟩ gg H36 _
    try dsimp only at H36
    try dsimp only
    refine Jc<|Ja<|mv (pz b8)<|lv (Jg rfl)<|lf Tryz.runUnderlying112 rfl sizeOf73 rfl<|ll 3 (sl p l.length) isAgg73<|?_
    obtain ⟨t72, h_t72, H37⟩ := Je H36; clear H36
    refine J7 (Jw (i := 5) (rds := []) (G := fun x : Unit => .tuple #[]) (C := fun x : Unit => Ju 118 2 (sl p l.length) l.length (t72.map Jy)) rfl (fun w L' S hF hS hi hp hlt ho hA => k60_61 hp hlt (Qe w S) rfl h_t72) call60 rfl) rfl rfl rfl (fun _ => ?_)
    refine c_know (fun w hF hS => lenOf (i := 5) hS rfl) (fun hl_ => ?_)
    have hl : l.length = t72.length := by simpa using hl_.symm
    refine Jd ?_
    refine Qm (r := r) (σ := Int) (τ := Unit) (fun s => Ul t22 l_2 t72 s) (fun s t => [(4, pz b6), (7, pz b8), (8, pz b9)]) (fun s t => [Y7 Y2 Y2, Ji b6 [.bool false, z0s] 24, Wd i6 Value.bool b mp, Ji b8 [str m, .bool m_2, sl p l.length, .map (some b), i6 m_3, (Xp m_4), i6 s] 112, Ji b9 [.bool (decide (t22 = 77)), sl p_2 l_2.length] 24, Ju 118 2 (sl p l.length) l.length (t72.map Jy), Jdb 41 1 gs_tag_Entry (sl p_2 l_2.length) l_2.length l_2]) (fun s t => True) ?_ ?_
    ·refine Jc<|Ja<|mv (pz b8)<|lv (Jg rfl)<|lf Tryz.runUnderlying112 rfl Tryz.sizeOf25 rfl<|ll 3 (i6 m_5) isAgg25<|lv (Qg rfl rfl)<|mv (.bool (decide (m_5 = 0)))<|?_
     revert H37
     refine sp (fun hb H45=>?_) fun hb H49=>?_
     ·refine mv (pz b8)<|lv (Jg rfl)<|lf Tryz.runUnderlying112 rfl sizeOf73 rfl<|ll 3 (sl p l.length) isAgg73<|?_
      obtain ⟨t83, h_t83, H46⟩ := Je H45; clear H45
      refine Qb (fun w hF hS => k62 (Jm w) (Xw (i := 5) hl hS rfl) h_t83) call62 rfl rfl rfl<|pT (.bool t83)<|Jd<|?_
      revert H46
      refine ci t83 rfl (fun hb H47=>?_) fun hb H48=>?_
      ·refine Ja<|mv (pz b8)<|lv (Jg rfl)<|lf Tryz.runUnderlying112 rfl Tryz.sizeOf25 rfl<|st (i := 3) [i6 6] [str m, .bool m_2, sl p l.length, .map (some b), i6 m_3, (Xp m_4), i6 6] Tryz.sizeOf25 rfl rfl<|Jd<|?_
       exact cl 6 () 0 [0, 1, 2, 3, 4, 5, 6] (by exact ⟨H47, trivial⟩)
      ·refine Jj ?_
       exact cl m_5 () 0 [0, 1, 2, 3, 4, 5, 6] (by exact ⟨H48, trivial⟩)
     ·refine pa<|pa<|pa<|pa<|pa<|pF (.bool false)<|Jd<|Zq rfl<|Jj<|?_
      exact cl m_5 () 0 [0, 1, 2, 3, 4, 5, 6] (by exact ⟨H49, trivial⟩)
    ·rintro m_6 _ gg H38 _
     try dsimp only at H38
     try dsimp only
     refine Qm (r := r) (σ := Int) (τ := Unit) (fun s => Jam t22 l_2 t72 s) (fun s t => [(4, pz b6), (7, pz b8), (8, pz b9)]) (fun s t => [Y7 Y2 Y2, Ji b6 [.bool false, z0s] 24, Wd i6 Value.bool b mp, Ji b8 [str m, .bool m_2, sl p l.length, .map (some b), i6 m_3, (Xp m_4), i6 s] 112, Ji b9 [.bool (decide (t22 = 77)), sl p_2 l_2.length] 24, Ju 118 2 (sl p l.length) l.length (t72.map Jy), Jdb 41 1 gs_tag_Entry (sl p_2 l_2.length) l_2.length l_2]) (fun s t => True) ?_ ?_
     ·refine Jc<|Ja<|mv (pz b8)<|lv (Jg rfl)<|lf Tryz.runUnderlying112 rfl Tryz.sizeOf25 rfl<|ll 3 (i6 m_6) isAgg25<|lv (Qg rfl rfl)<|Jd<|?_
      revert H38
      refine ci (decide (m_6 = 0)) rfl (fun hb H42=>?_) fun hb H44=>?_
      ·refine Ja<|mv (pz b8)<|Qq (i := 4) (vs := [.bool (decide (t22 = 77)), sl p_2 l_2.length]) Tryz.isAgg24 Tryz.sizeOf24 rfl rfl rfl rfl rfl<|?_
       obtain ⟨t95, h_t95, H43⟩ := Je H42; clear H42
       refine Qb (fun w hF hS => k15 (Jm w) (frn_rowD (i := 6) hS rfl) h_t95) call15 rfl rfl rfl<|lv (Jg rfl)<|lf Tryz.runUnderlying112 rfl Tryz.sizeOf25 rfl<|st (i := 3) [i6 t95] [str m, .bool m_2, sl p l.length, .map (some b), i6 m_3, (Xp m_4), i6 t95] Tryz.sizeOf25 rfl rfl<|Jd<|?_
       exact cl t95 () 0 [0, 1, 2, 3, 4, 5, 6] (by exact ⟨H43, trivial⟩)
      ·refine Jj ?_
       exact cl m_6 () 0 [0, 1, 2, 3, 4, 5, 6] (by exact ⟨H44, trivial⟩)
     ·rintro m_7 _ gg H39 _
      try dsimp only at H39
      try dsimp only
      refine Jc<|Jc<|Ja<|mv (pz b8)<|lv (Jg rfl)<|lf Tryz.runUnderlying112 rfl Tryz.sizeOf25 rfl<|ll 3 (i6 m_7) isAgg25<|lv (Zm rfl rfl)<|Jd<|?_
      revert H39
      refine ci (decide (m_7 ≠ 0)) rfl (fun hb H40=>?_) fun hb H41=>?_
      ·refine Jc ?_
       exact Q1 (Kd.p :: Kd.p :: Kd.p :: Kd.p :: Kd.d [3] _ :: Kd.sv 4 103 1 _ 24 :: Kd.p :: Kd.p :: []) 0 mixed (by
        refine dv (Xh (pl := #[(0, 1), (1, 1)]) (ps := []) (cells := #[.bool false, z0s]) zeroValue24 Tryz.runUnderlying24 (fun w => by kernel_rfl) rfl rfl)<|dm (pz b8)<|dv (Jg rfl)<|dv (J0 Tryz.runUnderlying112 rfl Tryz.sizeOf25 rfl rfl)<|dl (i6 m_7) isAgg25<|Jcf (i := 1) (vs := [.bool false, z0s]) (cs' := fun v_ => [(vcell v_ 0), (vcell v_ 1)]) Tryz.sizeOf24 rfl rfl rfl rfl rfl rfl rfl rfl rfl<|Qy rfl rfl (Jr (v := z0s) rfl)<|Qy rfl rfl (Jr (v := i6 m_7) rfl)<|Vz<|Jh<|J1 41 1<|J1 118 2<|?_
        obtain rfl := sj H40
        refine bo 0 7 rfl rfl<|J4 0 rfl (Yo (p := nn) rfl (AllC.nil (G := gs_tag_Entry) (h := Y2) (sz := 1)))<|bo 0 8 rfl rfl<|?_
        refine Jiq (i := 1) (vs := [.bool false, sl nn (([] : List (List Value)).length)]) (v2 := sl nn ([] : List Te).length) (v3 := i6 m_7) Tryz.isAgg24 Tryz.sizeOf24 rfl rfl rfl rfl rfl rfl (X5 (nn, nn) (i := 0) rfl (by first | rfl | rw [(show (([] : List (List Value)).length) = ([] : List (List Ta)).length from (AllC.nil (G := gs_tag_Entry) (h := Y2) (sz := 1)).len)]) (by first | exact Imp.refl _ | exact Imp.of (by rw [(show (([] : List (List Value)).length) = ([] : List (List Ta)).length from (AllC.nil (G := gs_tag_Entry) (h := Y2) (sz := 1)).len)] <;> rfl)))
        ) (by kernel_rfl)
      ·refine Jj<|Jc<|?_
       try dsimp only [z1,z2,z5,z6,z7,z8]
       exact Q1 (Kd.d [4] _ :: Kd.p :: Kd.p :: Kd.p :: Kd.d [3] _ :: Kd.sv 4 108 1 _ 24 :: Kd.p :: Kd.p :: []) 0 mixed (by
        refine Jef (i := 4) (vs := [.bool (decide (t22 = 77)), sl p_2 l_2.length]) Tryz.isAgg24 Tryz.sizeOf24 rfl rfl rfl rfl<|dm (pz b8)<|dv (Jg rfl)<|dv (J0 Tryz.runUnderlying112 rfl sizeOf73 rfl rfl)<|dl (sl p l.length) isAgg73<|Jcf (i := 1) (vs := [.bool (decide (t22 = 77)), sl p_2 l_2.length]) (cs' := fun v_ => [(vcell v_ 0), (vcell v_ 1)]) Tryz.sizeOf24 rfl rfl rfl rfl rfl rfl rfl rfl rfl<|Qy rfl rfl (Jr (v := sl p l.length) rfl)<|Qy rfl rfl (Jr (v := i6 0) rfl)<|Vz<|Jh<|?_
        obtain rfl := sj H41
        refine bo 6 5 rfl rfl ?_
        refine Jiq (i := 1) (vs := [.bool (decide (t22 = 77)), sl p_2 l_2.length]) (v2 := sl p l.length) (v3 := i6 0) Tryz.isAgg24 Tryz.sizeOf24 rfl rfl rfl rfl rfl rfl (X5 (p_2, p) (i := 6) rfl (by first | rfl | rw [(show l.length = t72.length from hl)]) (by first | exact Imp.refl _ | exact Imp.of (by rw [(show l.length = t72.length from hl)] <;> rfl)))
        ) (by kernel_rfl)
theorem k13 {a0 : (List UInt8)} {r : Tg × Int} {w : World} {h : Js} (hw : Know h w Zk) (H : Jbd a0 = some r) : Does prog 13 (List.toArray [str a0]) w (fun v w' => ∃ x : AN, v = (.tuple #[.agg #[.bool r.1.Big, sl x r.1.kal.length], i6 r.2]) ∧ Turn w w' Zk (Jdb 41 1 gs_tag_Entry (sl x r.1.kal.length) r.1.kal.length r.1.kal)) := by
 refine enter (n := 15) func13 rfl rfl rfl Zk [] (Sat.nil _ _)<|Zt Y2<|Jc<|Ja<|?_
 refine Q2 (cs := [.bool false, z0s]) zeroValue24 rfl rfl rfl (fun b2 => ?_)
 refine ag (i6 0)<|Jd<|Jc<|Ja<|mv (str a0)<|?_
 obtain ⟨t9, h_t9, H2⟩ := Je H; clear H
 refine Yi (Qh (rds := []) (fun w L' hF hS hi => k31 (Jm w)  h_t9) call31 rfl) rfl rfl rfl (fun ⟨p, p_2⟩ => ?_)
 refine Qa 2 rfl ?_
 refine Jep 2 rfl (fun hp css hn pf => ?_)
 rw [hn]
 refine Qa 2 rfl ?_
 refine Z7 0 2 rfl rfl (by decide) (fun _ _ => Yx) (fun hp_2 hle hle_2 => ?_)
 refine mv (.tuple #[.agg #[.bool t9.1.Big, sl p css.length], sl p_2 t9.2.1.length, i6 t9.2.2])<|lv (Jk (v := .agg #[.bool t9.1.Big, sl p css.length]) rfl rfl)<|lv (Jk (v := sl p_2 t9.2.1.length) rfl rfl)<|lv (Jk (v := i6 t9.2.2) rfl rfl)<|?_
 refine Q2 (cs := [.bool false, z0s]) zeroValue24 rfl rfl rfl (fun b3 => ?_)
 refine st (i := 5) [.bool t9.1.Big, sl p css.length] [.bool t9.1.Big, sl p css.length] Tryz.sizeOf24 rfl rfl<|ag (sl p_2 t9.2.1.length)<|ag (i6 t9.2.2)<|Jd<|?_
 try dsimp only [z1,z2,z5,z6,z7,z8]
 refine Jc<|Ja<|Qq (i := 5) (vs := [.bool t9.1.Big, sl p css.length]) Tryz.isAgg24 Tryz.sizeOf24 rfl rfl rfl rfl rfl<|mv (i6 t9.2.2)<|st (i := 1) [.bool t9.1.Big, sl p css.length] [.bool t9.1.Big, sl p css.length] Tryz.sizeOf24 rfl rfl<|ag (i6 t9.2.2)<|Jd<|?_
 try dsimp only [z1,z2,z5,z6,z7,z8]
 refine Jh ?_
 obtain rfl := sj H2
 refine bo 0 4 rfl rfl<|J4 0 rfl (Yo (p := p) rfl (pf.mono hle_2))<|?_
 refine Jco (i := 1) (vs := [.bool t9.1.Big, sl p css.length]) (v2 := i6 t9.2.2) Tryz.isAgg24 Tryz.sizeOf24 rfl rfl rfl rfl rfl (X5 p (i := 0) rfl (by first | rfl | rw [(show css.length = t9.1.kal.length from hn.symm)]) (by first | exact Imp.refl _ | exact Imp.of (by rw [(show css.length = t9.1.kal.length from hn.symm)] <;> rfl)))
end Go.Proofs.YtkbiccgjkiifpaaGreatDoor

namespace Go.Proofs.YtkbiccgjkiifpaaGreatDoor
open Go Go.Vc Go.Md Go.M Go.Lx Tryz
set_option maxRecDepth 100000
set_option maxHeartbeats 4000000
theorem ext83 (x : Value) (w : World) : (callFunc 83 (List.toArray [x])).run prog w = .ok (.value x) w := by
  have h0 : (callFunc 83 #[x]).run prog w = (do pure (.value (← Extern.AbiNoEscape.same #[x])) : Sem Next).run prog w := by kernel_rfl
  rw [h0]; rfl
theorem k43 {pb0 : Nat} {q sl : Value} {w : World} {S : Nat → Prop} (hcs : (Ji pb0 [q, sl] 47).P S w) (hlt : ∀ b, S b → b < w.heap.size) (hq : q = .pointer none ∨ q = pz pb0) : Does prog 43 (List.toArray [pz pb0]) w (fun v w' => ∃ x : Unit, v = .tuple #[] ∧ Turn w w' S (Ji pb0 [pz pb0, sl] 47)) := by
  refine enter (n := 20) func43 rfl rfl rfl S [Ji pb0 [q, sl] 47] (Sat.one hcs hlt)<|Jc<|Ja<|mv (pz pb0)<|lv (Jg rfl)<|lf Tryz.runUnderlying47 rfl sizeOf44 rfl<|ll 0 q isAgg44<|?_
  rcases hq with rfl | rfl
  · refine Jf rfl rfl rfl (r_nilP (a := none) underlying44 rfl rfl) ?_
    refine Jd<|Y4 rfl<|Ja<|mv (pz pb0)<|mv (pz pb0)<|Q7 (fun w hF hS => run_toU (cs := [.pointer none, sl]) (T := 47) underlying44 underlying145 (Qn typeInfo47) (by decide) (Xf (i := 0) hS rfl) rfl rfl) rfl rfl rfl<|lv (r_ext (args := [pz pb0]) (ext83 _) rfl)<|Q7 (fun w hF hS => run_fromU (cs := [.pointer none, sl]) (T := 47) underlying145 underlying44 (Qn typeInfo47) (Xf (i := 0) hS rfl) (by kernel_rfl) rfl) rfl rfl rfl<|lv (Jg rfl)<|lf Tryz.runUnderlying47 rfl sizeOf44 rfl<|st (i := 0) [pz pb0] [pz pb0, sl] sizeOf44 rfl rfl<|Jd<|?_
    exact ret0n rfl (X5 () (i := 0) rfl rfl (Imp.refl _))
  · refine Jf rfl rfl rfl (r_nilP (a := some ⟨pb0, 0, none⟩) underlying44 rfl rfl) ?_
    refine Jd<|Zq rfl<|Jc<|Ja<|mv (pz pb0)<|lv (Jg rfl)<|lf Tryz.runUnderlying47 rfl sizeOf44 rfl<|ll 0 (pz pb0) isAgg44<|mv (pz pb0)<|lv (r_sameP underlying44 (Qn typeInfo47) rfl rfl)<|Jd<|Zq rfl<|Jj<|?_
    exact ret0n rfl (X5 () (i := 0) rfl rfl (Imp.refl _))
theorem k20 {a0 : List UInt8} {pb0 : Nat} {a1 r : List UInt8} {w : World} {h : Js} {S : Nat → Prop} (hcs : (Uu pb0 47 5 a0).P S w) (hlt : ∀ b, S b → b < w.heap.size) (hw : Know h w S) (H : gBld a0 a1 = some r) : Does prog 20 (List.toArray [pz pb0, str a1]) w (fun v w' => ∃ x : Unit, v = .tuple #[i6 (a1.length : Int), .nilIface] ∧ Turn w w' S (Uu pb0 47 5 r)) := by
  obtain ⟨rfl, hne, hbl⟩ := gBld_some H
  have hg : gApL 1 (Jv a0) (Jv a1) = some (Jv (a0 ++ a1)) := by rw [gApL_ok (by simp [Jv]; omega)]; simp [Jv]
  refine enter (n := 19) func20 rfl rfl rfl S [Uu pb0 47 5 a0] (Sat.one hcs hlt) ?_
  refine c_bld 0 rfl (fun q p hq hp => ?_)
  refine Qa 0 rfl<|Jc<|Ja<|ag (i6 0)<|ag (.nilIface)<|Jd<|Jc<|Ja<|mv (pz pb0)<|?_
  refine J7 (Jw (i := 0) (rds := []) (G := fun _ : Unit => .tuple #[]) (C := fun _ => Ji pb0 [pz pb0, sl p (Jv a0).length] 47) rfl (fun w L' S hF hS hi hp' hlt ho hA => k43 hp' hlt hq) call43 rfl) rfl rfl rfl (fun _ => ?_)
  refine Jd<|Jc<|Ja<|mv (pz pb0)<|mv (pz pb0)<|lv (Jg rfl)<|lf Tryz.runUnderlying47 rfl Tryz.sizeOf45 rfl<|ll 0 (sl p (Jv a0).length) Tryz.isAgg45<|mv (str a1)<|?_
  refine J7 (turns_strG (i := 1) (rds := []) (f := e8) rfl Tryz.underlying45 Tryz.underlying9 (Qn Tryz.typeInfo5) rfl rfl rfl rfl rfl rfl (fun _ => rfl) hg) rfl rfl rfl (fun p2 => ?_)
  refine lv (Jg rfl)<|lf Tryz.runUnderlying47 rfl Tryz.sizeOf45 rfl<|st (i := 0) [sl p2 (Jv (a0 ++ a1)).length] [pz pb0, sl p2 (Jv (a0 ++ a1)).length] Tryz.sizeOf45 rfl rfl<|Jd<|Jc<|Ja<|mv (str a1)<|lv (Q8 Tryz.underlying9 rfl)<|ag (i6 (a1.length : Int))<|ag (.nilIface)<|Jd<|Jh<|bo 0 1 rfl rfl<|?_
  exact Jba rfl rfl rfl (X5 () (i := 0) rfl rfl (imp_bld (by simp [hne])))
theorem k23 {a0 : List UInt8} {pb0 : Nat}  {w : World} {h : Js} {S : Nat → Prop} (hcs : (Uu pb0 47 5 a0).P S w) (hlt : ∀ b, S b → b < w.heap.size) (hw : Know h w S)  : Does prog 23 (List.toArray [pz pb0]) w (fun v w' => ∃ x : Unit, v = str a0 ∧ Turn w w' S empC) := by
  refine enter (n := 14) func23 rfl rfl rfl S [Uu pb0 47 5 a0] (Sat.one hcs hlt) ?_
  refine c_bld 0 rfl (fun q p hq hp => ?_)
  refine Qa 0 rfl<|Jc<|Ja<|ag (str [])<|Jd<|Jc<|?_
  exact Q1 (Kd.p :: Kd.p :: Kd.p :: Kd.d [0] _ :: Kd.p :: Kd.p :: Kd.p :: Kd.p :: Kd.d [0] _ :: Kd.p :: Kd.t 1 [] _ _ :: Kd.p :: []) 0 mixed (by
    refine dm (pz pb0)<|dv (Jg rfl)<|dv (J0 Tryz.runUnderlying47 rfl Tryz.sizeOf45 rfl rfl)<|dl (sl p (Jv a0).length) Tryz.isAgg45<|dv (r_ssd hp rfl)<|dm (pz pb0)<|dv (Jg rfl)<|dv (J0 Tryz.runUnderlying47 rfl Tryz.sizeOf45 rfl rfl)<|dl (sl p (Jv a0).length) Tryz.isAgg45<|dv (U6 Tryz.underlying45 rfl)<|?_
    refine Jca (Cv := fun _ => empC) () (turns_ustr (i := 1) (bs := a0) (p := p) underlying94 (by kernel_rfl) rfl rfl rfl) (fun _ => rfl) rfl rfl (fun _ => ?_)
    refine Qy rfl rfl (Jr (v := str a0) rfl)<|Vz<|Jh<|?_
    exact Uh rfl rfl (X5 () (i := 1) rfl rfl (Imp.refl _))
  ) (by kernel_rfl)
theorem k125 {a0 : List UInt8} {pb0 : Nat} {a1 : Int} {r : List UInt8} {w : World} {h : Js} {S : Nat → Prop} (hcs : (Uu pb0 47 5 a0).P S w) (hlt : ∀ b, S b → b < w.heap.size) (hw : Know h w S) (H : gBldB a0 a1 = some r) : Does prog 125 (List.toArray [pz pb0, .int .u8 a1]) w (fun v w' => ∃ x : Unit, v = .nilIface ∧ Turn w w' S (Uu pb0 47 5 r)) := by
  obtain ⟨rfl, h0, h1, hbl⟩ := gBldB_some H
  have ha : Jv (a0 ++ [UInt8.ofNat a1.toNat]) = Jv a0 ++ [a1] := ofStr_snoc a0 h0 h1
  have hg : Xk 1 (Jv a0) [a1] = some (Jv (a0 ++ [UInt8.ofNat a1.toNat])) := by rw [Xa (by simp [Jv]; omega), ha]
  refine enter (n := 17) func125 rfl rfl rfl S [Uu pb0 47 5 a0] (Sat.one hcs hlt) ?_
  refine c_bld 0 rfl (fun q p hq hp => ?_)
  refine Qa 0 rfl<|Jc<|Ja<|ag (.nilIface)<|Jd<|Jc<|Ja<|mv (pz pb0)<|?_
  refine J7 (Jw (i := 0) (rds := []) (G := fun _ : Unit => .tuple #[]) (C := fun _ => Ji pb0 [pz pb0, sl p (Jv a0).length] 47) rfl (fun w L' S hF hS hi hp' hlt ho hA => k43 hp' hlt hq) call43 rfl) rfl rfl rfl (fun _ => ?_)
  refine Jd<|Jc<|Ja<|mv (pz pb0)<|mv (pz pb0)<|lv (Jg rfl)<|lf Tryz.runUnderlying47 rfl Tryz.sizeOf45 rfl<|ll 0 (sl p (Jv a0).length) Tryz.isAgg45<|mv (.int .u8 a1)<|?_
  refine Qj (vs := [.int .u8 a1]) (cs := [.int .u8 a1]) Tryz.underlying45 sizeOf5 zeroValue5 rfl rfl rfl rfl rfl rfl rfl (fun b0 => ?_)
  refine J7 (X4 (i := 1) (hn := rfl) (rds := [2]) (p := p) (sz := 1) (by_ := 1) (f := e8) (ys := Jv a0) (ls := [a1]) (V := .slice (some ⟨b0, 0, none⟩) 1 1) Tryz.underlying45 (Qn Tryz.typeInfo5) rfl rfl rfl rfl rfl rfl rfl rfl rfl rfl (fun w L' hF hS hi => Vl (i := 2) hS ((hi 2 (by simp)).trans rfl) rfl rfl) (fun _ => rfl) (fun _ => rfl) hg) rfl rfl rfl (fun p2 => ?_)
  refine lv (Jg rfl)<|lf Tryz.runUnderlying47 rfl Tryz.sizeOf45 rfl<|st (i := 0) [sl p2 (Jv (a0 ++ [UInt8.ofNat a1.toNat])).length] [pz pb0, sl p2 (Jv (a0 ++ [UInt8.ofNat a1.toNat])).length] Tryz.sizeOf45 rfl rfl<|Jd<|Jc<|Ja<|ag (.nilIface)<|Jd<|Jh<|bo 0 1 rfl rfl<|?_
  exact Uh (v := .nilIface) rfl rfl (X5 () (i := 0) rfl rfl (imp_bld (by simp)))
theorem k85 {a0 : (List UInt8)} {r : (List UInt8)} (H : Ji4 a0 = some r) : Ret prog 85 [str a0] (str r) := by
 refine Qi (n := 24) func85 rfl rfl rfl (fun wd => ?_)
 refine Jc<|Ja<|ag (str [])<|Jd<|Jc<|Ja<|?_
 refine Q2 (cs := [.pointer none, z0s]) zeroValue47 rfl rfl rfl (fun b1 => ?_)
 refine J4 0 rfl (Jje _ _ 5)<|Jd<|?_
 refine Qm (r := r) (σ := (List UInt8)) (τ := Unit) (fun s => Jhc s) (fun s t => [(3, pz b1)]) (fun s t => [Uu b1 47 5 s]) (fun s t => True) ?_ ?_
 ·refine Jc<|Ja<|mv (str a0)<|lv (Q8 Tryz.underlying9 rfl)<|mv (i6 0)<|Jd<|Jq<|?_
  refine Yq (σ := Int × (List UInt8)) (τ := Unit) (fun next2 s => Jaq a0 next2 s.1 s.2) (fun s t => [(0, str a0), (3, pz b1), (6, i6 (a0.length : Int)), (7, i6 s.1)]) (fun s t => [Uu b1 47 5 s.2]) (fun s t => True) (0, []) () [0] H (by exact trivial) (by exact ⟨rfl, rfl, rfl, rfl, trivial⟩) (by decide) rfl ?_
  rintro ⟨x7_2, m_3⟩ _ m2 gg H14 _
  clear H
  try dsimp only at H14
  generalize hn2 : it (fun next2 s => Jaq a0 next2 s.1 s.2) m2 = next2 at H14
  try dsimp only
  refine Jc<|Ja<|lv (Yh rfl rfl)<|Jd<|Jc<|?_
  revert H14
  refine ci (decide (x7_2 < (a0.length : Int))) rfl (fun hb H15=>?_) fun hb H24=>?_
  ·refine Jj<|Jc<|Jq<|Jc<|Ja<|mv (i6 x7_2)<|ag (i6 x7_2)<|Jd<|Jc<|Ja<|mv (str a0)<|mv (i6 x7_2)<|?_
   obtain ⟨t12, h_t12, H16⟩ := Je H15; clear H15
   refine lv (Zz Tryz.underlying9 rfl rfl h_t12) ?_
   obtain ⟨t13, h_t13, H17⟩ := Je H16; clear H16
   refine lv (r_shrG rfl rfl rfl h_t13) ?_
   obtain ⟨t14, h_t14, H18⟩ := Je H17; clear H17
   refine lv (Zz Tryz.underlying9 rfl rfl h_t14) ?_
   obtain ⟨t15, h_t15, H19⟩ := Je H18; clear H18
   refine J7 (Jw (i := 0) (rds := []) (G := fun _ : Unit => .nilIface) (C := fun _ => Uu b1 47 5 t15) rfl (fun w L' S hF hS hi hp hlt ho hA => k125 hp hlt (Qe w S) h_t15) call125 rfl) rfl rfl rfl (fun _ => ?_)
   refine Jd<|Ja<|mv (str a0)<|mv (i6 x7_2)<|?_
   obtain ⟨t18, h_t18, H20⟩ := Je H19; clear H19
   refine lv (Zz Tryz.underlying9 rfl rfl h_t18)<|lv (r_bitsAnd (bits := 8) rfl rfl rfl (wr_u8 _))<|?_
   obtain ⟨t20, h_t20, H21⟩ := Je H20; clear H20
   refine lv (Zz Tryz.underlying9 rfl rfl h_t20) ?_
   obtain ⟨t21, h_t21, H22⟩ := Je H21; clear H21
   refine J7 (Jw (i := 0) (rds := []) (G := fun _ : Unit => .nilIface) (C := fun _ => Uu b1 47 5 t21) rfl (fun w L' S hF hS hi hp hlt ho hA => k125 hp hlt (Qe w S) h_t21) call125 rfl) rfl rfl rfl (fun _ => ?_)
   refine Jd<|Ja<|?_
   obtain ⟨t22, h_t22, H23⟩ := Je H22; clear H22
   refine lv (J8 rfl rfl h_t22)<|mv (i6 t22)<|Jd<|?_
   exact cl (t22, t21) () m2 [0] (by exact ⟨(by subst hn2; exact H23), trivial⟩)
  ·refine Qo ?_
   exact cl m_3 () 0 [0] (by exact ⟨H24, trivial⟩)
 ·rintro m _ gg H13 _
  try dsimp only at H13
  try dsimp only
  refine Jc<|Ja<|?_
  refine J7 (Jw (i := 0) (rds := []) (G := fun _ : Unit => str m) (C := fun _ => empC) rfl (fun w L' S hF hS hi hp hlt ho hA => k23 hp hlt (Qe w S)) call23 rfl) rfl rfl rfl (fun _ => ?_)
  refine ag (str m)<|Jd<|Jh<|?_
  obtain rfl := sj H13
  exact r1 (str m)
theorem k44 {a0 : Tc} {v0_2 : Value} {v0_3 : Value} {v0_4 : Value} {r : (List UInt8)} {w : World} {h : Js} (hw : Know h w Zk) (f0_2 : FrS h 1 v0_2 (a0.kaj.map Q5)) (f0_3 : FrS h 2 v0_3 (a0.kag.map Jp)) (f0_4 : FrN h 6 v0_4 g_tag_Entry a0.kaf) (tb_pow10 : TabH prog h "internal/strconv.uint64pow10" .u64 Lib.pow10Tab) (H : Jc1 a0 = some r) : Does prog 44 (List.toArray [.agg #[i6 a0.kah, str a0.kai, v0_2, v0_3, v0_4]]) w (fun v w' => v = (str r) ∧ Grow w w') := by
 refine enter (n := 55) func44 rfl rfl rfl Zk [] (Sat.nil _ _)<|Jc<|Ja<|?_
 refine Jat (cs := [i6 a0.kah, str a0.kai, v0_2, v0_3, v0_4]) rfl rfl rfl rfl (fun b6 => ?_)
 refine ag (str [])<|Jd<|Jc<|Ja<|lf Tryz.runUnderlying81 rfl Tryz.sizeOf3 rfl<|ll 0 (i6 a0.kah) Tryz.isAgg3<|?_
 obtain ⟨t10, h_t10, H27⟩ := Je H; clear H
 refine Qk (k84 h_t10) call84 rfl rfl rfl ?_
 refine Qj (vs := [str t10]) (cs := [str t10]) Tryz.underlying31 Tryz.sizeOf9 zeroValue9 rfl rfl rfl rfl rfl rfl rfl (fun b7 => ?_)
 refine ag (.slice (some ⟨b7, 0, none⟩) 1 1)<|Jd<|?_
 refine Qm (r := r) (σ := (List (List UInt8))) (τ := AN × Nat) (fun s => Vv a0 s) (fun s t => [(1, pz b6), (3, .slice t.1.1 t.2 t.1.2)]) (fun s t => [Ji b6 [i6 a0.kah, str a0.kai, v0_2, v0_3, v0_4] 81, Ju 9 1 (.slice t.1.1 t.2 t.1.2) t.2 (s.map Xj)]) (fun s t => t.2 = s.length) ?_ ?_
 ·refine Jc<|Ja<|lf Tryz.runUnderlying81 rfl Tryz.sizeOf76 rfl<|ll 0 v0_2 isAgg76<|lv (Jbs Tryz.underlying76 rfl f0_2 rfl)<|mv (i6 0)<|Jd<|Jq<|J4 1 rfl (imp_box (m := 1) (E := 9) (sz := 1) (xs := (([t10] : List (List UInt8))).map Xj) rfl rfl rfl ⟨rfl, by decide⟩)<|?_
  refine Yq (σ := Int × (List (List UInt8))) (τ := AN × Nat) (fun next5 s => Ym a0 next5 s.1 s.2) (fun s t => [(1, pz b6), (3, .slice t.1.1 t.2 t.1.2), (13, v0_2), (14, i6 (a0.kaj.length : Int)), (15, i6 s.1)]) (fun s t => [Ji b6 [i6 a0.kah, str a0.kai, v0_2, v0_3, v0_4] 81, Ju 9 1 (.slice t.1.1 t.2 t.1.2) t.2 (s.2.map Xj)]) (fun s t => t.2 = s.2.length) (0, ([t10] : List (List UInt8))) (((some ⟨b7, 0, none⟩, 1) : AN), 1) [0, 1] H27 (by exact rfl) (by exact ⟨rfl, rfl, rfl, rfl, rfl, trivial⟩) (by decide) rfl ?_
  rintro ⟨x15_2, l_7⟩ ⟨p_7, n_5⟩ m5 gg H46 hl_7
  clear H27
  try dsimp only at H46
  generalize hn5 : it (fun next5 s => Ym a0 next5 s.1 s.2) m5 = next5 at H46
  try dsimp only
  refine Jc<|Ja<|lv (Yh rfl rfl)<|Jd<|Jc<|?_
  revert H46
  refine ci (decide (x15_2 < (a0.kaj.length : Int))) rfl (fun hb H47=>?_) fun hb H52=>?_
  ·refine Jj<|Jc<|Jq<|Jc<|Ja<|?_
   obtain ⟨t17, h_t17, H48⟩ := Je H47; clear H47
   refine lv (Yz Tryz.underlying76 Tryz.sizeOf3 rfl rfl f0_2 h_t17)<|Q7 (fun w hF hS => Xv (f := Q5) (i := x15_2) (sz := 1) (j := 0) (v := i6 t17) Tryz.isAgg3 rfl rfl (f0_2.row (hw.now hF)) h_t17 rfl) rfl rfl rfl<|ag (i6 t17)<|Jd<|Ja<|mv (sl p_7 n_5)<|mv (i6 t17)<|?_
   obtain ⟨t21, h_t21, H49⟩ := Je H48; clear H48
   refine Qb (fun w hF hS => k41 (Jm w) (tb_pow10.mono (hw.now hF)) h_t21) call41 rfl rfl rfl ?_
   refine Qj (vs := [str t21]) (cs := [str t21]) Tryz.underlying31 Tryz.sizeOf9 zeroValue9 rfl rfl rfl rfl rfl rfl rfl (fun b11 => ?_)
   obtain ⟨l23, h_l23, H50⟩ := Je H49; clear H49
   refine J7 (X4 (i := 1) (hn := hl_7) (rds := [2]) (p := p_7) (sz := 1) (by_ := 16) (f := Xj) (ys := l_7) (ls := ([t21] : List (List UInt8))) (V := .slice (some ⟨b11, 0, none⟩) 1 1) Tryz.underlying31 (Qn typeInfo9) rfl rfl rfl rfl rfl rfl rfl rfl rfl rfl (fun w L' hF hS hi => Vl (i := 2) hS ((hi 2 (by simp)).trans rfl) rfl rfl) (fun _ => rfl) (fun _ => rfl) h_l23) rfl rfl rfl (fun p_8 => ?_)
   refine ag (sl p_8 l23.length)<|Jd<|Ja<|?_
   obtain ⟨t24, h_t24, H51⟩ := Je H50; clear H50
   refine lv (J8 rfl rfl h_t24)<|mv (i6 t24)<|Jd<|?_
   exact cl (t24, l23) (p_8, l23.length) m5 [0, 1] (by exact ⟨(by subst hn5; exact H51), rfl⟩)
  ·refine Qo ?_
   exact cl l_7 (p_7, n_5) 0 [0, 1] (by exact ⟨H52, hl_7⟩)
 ·rintro l ⟨p, n⟩ gg H28 hl
  try dsimp only at H28
  try dsimp only
  refine Qm (r := r) (σ := (List (List UInt8))) (τ := AN × Nat) (fun s => W8 a0 s) (fun s t => [(1, pz b6), (3, .slice t.1.1 t.2 t.1.2)]) (fun s t => [Ji b6 [i6 a0.kah, str a0.kai, v0_2, v0_3, v0_4] 81, Ju 9 1 (.slice t.1.1 t.2 t.1.2) t.2 (s.map Xj)]) (fun s t => t.2 = s.length) ?_ ?_
  ·refine Jc<|Ja<|lf Tryz.runUnderlying81 rfl Tryz.sizeOf79 rfl<|ll 0 v0_3 isAgg79<|lv (Jbs Tryz.underlying79 rfl f0_3 rfl)<|mv (i6 0)<|Jd<|Jq<|?_
   refine Yq (σ := Int × (List (List UInt8))) (τ := AN × Nat) (fun next4 s => Y8 a0 next4 s.1 s.2) (fun s t => [(1, pz b6), (3, .slice t.1.1 t.2 t.1.2), (26, v0_3), (27, i6 (a0.kag.length : Int)), (28, i6 s.1)]) (fun s t => [Ji b6 [i6 a0.kah, str a0.kai, v0_2, v0_3, v0_4] 81, Ju 9 1 (.slice t.1.1 t.2 t.1.2) t.2 (s.2.map Xj)]) (fun s t => t.2 = s.2.length) (0, l) (p, n) [0, 1] H28 (by exact hl) (by exact ⟨rfl, rfl, rfl, rfl, rfl, trivial⟩) (by decide) rfl ?_
   rintro ⟨x28_2, l_5⟩ ⟨p_5, n_4⟩ m4 gg H36 hl_5
   clear H28
   try dsimp only at H36
   generalize hn4 : it (fun next4 s => Y8 a0 next4 s.1 s.2) m4 = next4 at H36
   try dsimp only
   refine Jc<|Ja<|lv (Yh rfl rfl)<|Jd<|Jc<|?_
   revert H36
   refine ci (decide (x28_2 < (a0.kag.length : Int))) rfl (fun hb H37=>?_) fun hb H45=>?_
   ·refine Jj<|Jc<|Jq<|Jc<|Ja<|?_
    obtain ⟨t30, h_t30, H38⟩ := Je H37; clear H37
    refine lv (Yz Tryz.underlying79 Tryz.sizeOf70 rfl rfl f0_3 h_t30)<|Q7 (fun w hF hS => Wu (f := Jp) (i := x28_2) (sz := 2) (j := 0) (vs := [i6 t30.Num, i6 t30.Den]) isAgg70 Tryz.sizeOf70 rfl rfl (f0_3.row (hw.now hF)) h_t30 rfl) rfl rfl rfl<|?_
    refine Q2 (cs := [i6 0, i6 0]) zeroValue70 rfl rfl rfl (fun b9 => ?_)
    refine st (i := 2) [i6 t30.Num, i6 t30.Den] [i6 t30.Num, i6 t30.Den] Tryz.sizeOf70 rfl rfl<|Jd<|?_
    try dsimp only [z1,z2,z5,z6,z7,z8]
    exact Q1 (Kd.p :: Kd.p :: Kd.d [2] _ :: Kd.d [] _ :: Kd.p :: Kd.p :: Kd.d [2] _ :: Kd.d [] _ :: Kd.p :: Kd.ns 3 [_] 9 1 :: Kd.t 1 [3] _ _ :: Kd.p :: []) 1 mixed (by
     refine dm (sl p_5 n_4)<|dv (J0 Tryz.runUnderlying70 rfl Tryz.sizeOf3 rfl rfl)<|dl (i6 t30.Num) Tryz.isAgg3<|?_
     have h_t35 := Qc H38
     have H39 := J2 H38
     refine Jek (fun w L' hF hS hi => k41 (Jm w) (tb_pow10.mono (hw.now hF)) h_t35) call41 rfl rfl ?_
     have h_t36 := Qc H39
     have H40 := J2 H39
     refine dv (Jb1 rfl rfl h_t36)<|dv (J0 Tryz.runUnderlying70 rfl Tryz.sizeOf3 rfl rfl)<|dl (i6 t30.Den) Tryz.isAgg3<|?_
     have h_t39 := Qc H40
     have H41 := J2 H40
     refine Jek (fun w L' hF hS hi => k41 (Jm w) (tb_pow10.mono (hw.now hF)) h_t39) call41 rfl rfl ?_
     have h_t40 := Qc H41
     have H42 := J2 H41
     refine dv (Jb1 rfl rfl h_t40) ?_
     refine Jis rfl rfl (Vw (vs := [str (val (Jcm (val (Jcm (val (Uq t30.Num)) [47])) (val (Uq t30.Den))))]) (cs := [str (val (Jcm (val (Jcm (val (Uq t30.Num)) [47])) (val (Uq t30.Den))))]) Tryz.underlying31 Tryz.sizeOf9 zeroValue9 rfl rfl rfl rfl rfl) rfl (fun b10 => ?_)
     have h_l42 := Qc H42
     have H43 := J2 H42
     refine Jca (Cv := fun v => Ju 9 1 v (val (Xk 16 l_5 ([(val (Jcm (val (Jcm (val (Uq t30.Num)) [47])) (val (Uq t30.Den))))] : List (List UInt8)))).length ((val (Xk 16 l_5 ([(val (Jcm (val (Jcm (val (Uq t30.Num)) [47])) (val (Uq t30.Den))))] : List (List UInt8)))).map Xj)) (none, 0) (X4 (i := 1) (hn := hl_5) (rds := [3]) (p := p_5) (sz := 1) (by_ := 16) (f := Xj) (ys := l_5) (ls := ([(val (Jcm (val (Jcm (val (Uq t30.Num)) [47])) (val (Uq t30.Den))))] : List (List UInt8))) (V := .slice (some ⟨b10, 0, none⟩) 1 1) Tryz.underlying31 (Qn typeInfo9) rfl rfl rfl rfl rfl rfl rfl rfl rfl rfl (fun w L' hF hS hi => Vl (i := 3) hS ((hi 3 (by simp)).trans rfl) rfl rfl) (fun _ => rfl) (fun _ => rfl) h_l42) (fun _ => rfl) rfl rfl (fun p_6 => ?_)
     refine Qy rfl rfl (Jr (v := .slice p_6.1 (val (Xk 16 l_5 ([(val (Jcm (val (Jcm (val (Uq t30.Num)) [47])) (val (Uq t30.Den))))] : List (List UInt8)))).length p_6.2) rfl)<|Vz<|Ja<|?_
     obtain ⟨t43, h_t43, H44⟩ := Je H43; clear H43
     refine lv (J8 rfl rfl h_t43)<|mv (i6 t43)<|Jd<|?_
     exact cl (t43, (val (Xk 16 l_5 ([(val (Jcm (val (Jcm (val (Uq t30.Num)) [47])) (val (Uq t30.Den))))] : List (List UInt8))))) (p_6, (val (Xk 16 l_5 ([(val (Jcm (val (Jcm (val (Uq t30.Num)) [47])) (val (Uq t30.Den))))] : List (List UInt8)))).length) m4 [0, 1] (by exact ⟨(by subst hn4; exact H44), rfl⟩)
     ) (by kernel_rfl)
   ·refine Qo ?_
    exact cl l_5 (p_5, n_4) 0 [0, 1] (by exact ⟨H45, hl_5⟩)
  ·rintro l_2 ⟨p_2, n_2⟩ gg H29 hl_2
   try dsimp only at H29
   try dsimp only
   refine Qm (r := r) (σ := (List (List UInt8))) (τ := AN × Nat) (fun s => Ja5 s) (fun s t => [(3, .slice t.1.1 t.2 t.1.2)]) (fun s t => [Ju 9 1 (.slice t.1.1 t.2 t.1.2) t.2 (s.map Xj)]) (fun s t => t.2 = s.length) ?_ ?_
   ·refine Jc<|Ja<|lf Tryz.runUnderlying81 rfl Tryz.sizeOf9 rfl<|ll 0 (str a0.kai) isAgg9<|lv (Jfc rfl rfl)<|Jd<|?_
    revert H29
    refine ci (decide (a0.kai ≠ [])) rfl (fun hb H32=>?_) fun hb H35=>?_
    ·refine Ja<|mv (sl p_2 n_2)<|lf Tryz.runUnderlying81 rfl Tryz.sizeOf9 rfl<|ll 0 (str a0.kai) isAgg9<|?_
     obtain ⟨t50, h_t50, H33⟩ := Je H32; clear H32
     refine Qk (k85 h_t50) call85 rfl rfl rfl ?_
     refine Qj (vs := [str t50]) (cs := [str t50]) Tryz.underlying31 Tryz.sizeOf9 zeroValue9 rfl rfl rfl rfl rfl rfl rfl (fun b8 => ?_)
     obtain ⟨l52, h_l52, H34⟩ := Je H33; clear H33
     refine J7 (X4 (i := 1) (hn := hl_2) (rds := [2]) (p := p_2) (sz := 1) (by_ := 16) (f := Xj) (ys := l_2) (ls := ([t50] : List (List UInt8))) (V := .slice (some ⟨b8, 0, none⟩) 1 1) Tryz.underlying31 (Qn typeInfo9) rfl rfl rfl rfl rfl rfl rfl rfl rfl rfl (fun w L' hF hS hi => Vl (i := 2) hS ((hi 2 (by simp)).trans rfl) rfl rfl) (fun _ => rfl) (fun _ => rfl) h_l52) rfl rfl rfl (fun p_4 => ?_)
     refine ag (sl p_4 l52.length)<|Jd<|?_
     exact cl l52 (p_4, l52.length) 0 [1] (by exact ⟨H34, rfl⟩)
    ·refine Jj ?_
     exact cl l_2 (p_2, n_2) 0 [1] (by exact ⟨H35, hl_2⟩)
   ·rintro l_3 ⟨p_3, n_3⟩ gg H30 hl_3
    try dsimp only at H30
    try dsimp only
    refine Jc<|Ja<|mv (sl p_3 n_3)<|?_
    obtain ⟨t54, h_t54, H31⟩ := Je H30; clear H30
    refine Qb (fun w hF hS => k82 (Jm w) (Xw (i := 0) hl_3 hS rfl) h_t54) call82 rfl rfl rfl<|ag (str t54)<|Jd<|Jh<|?_
    obtain rfl := sj H31
    exact r1 (str t54)
theorem k21_it (mm : Nat) : ∀ {a0 : (List UInt8)} {pb0 : Nat} {a1 : (List Ta)} {v1 : Value} {a2 : (List UInt8)} {r : (List UInt8)} {w : World} {h : Js} {S : Nat → Prop} (hcs : (Uu pb0 47 5 a0).P S w) (hlt : ∀ b, S b → b < w.heap.size) (hw : Know h w S) (f1 : FrN h 6 v1 g_tag_Entry a1) (tb_pow10 : TabH prog h "internal/strconv.uint64pow10" .u64 Lib.pow10Tab) (H : it (fun (self : ((List UInt8) × (List Ta) × (List UInt8)) → Option ((List UInt8))) (s : (List UInt8) × (List Ta) × (List UInt8)) => Yn self s.1 s.2.1 s.2.2) mm (a0, a1, a2) = some r), Does prog 21 (List.toArray [pz pb0, v1, str a2]) w (fun v w' => ∃ x : Unit, v = (.tuple #[]) ∧ Turn w w' S (Uu pb0 47 5 r)) := by
 induction mm with
 | zero => intros; rename_i H; exact absurd H (by simp [it])
 | succ mm ih =>
  intro a0 pb0 a1 v1 a2 r w h S hcs hlt hw f1 tb_pow10 H
  replace H : Yn (it (fun (self : ((List UInt8) × (List Ta) × (List UInt8)) → Option ((List UInt8))) (s : (List UInt8) × (List Ta) × (List UInt8)) => Yn self s.1 s.2.1 s.2.2) mm) a0 a1 a2 = some r := H
  generalize it (fun (self : ((List UInt8) × (List Ta) × (List UInt8)) → Option ((List UInt8))) (s : (List UInt8) × (List Ta) × (List UInt8)) => Yn self s.1 s.2.1 s.2.2) mm = self at H ih
  refine enter (n := 46) func21 rfl rfl rfl S [Uu pb0 47 5 a0] (Sat.one hcs hlt)<|Jc<|Ja<|mv v1<|lv (Vk Tryz.underlying41 rfl f1)<|mv (i6 0)<|Jd<|Jq<|?_
  refine Yq (σ := Int × (List UInt8)) (τ := Unit) (fun next1 s => Zy a1 a2 self next1 s.1 s.2) (fun s t => [(0, pz pb0), (2, str a2), (8, v1), (9, i6 (a1.length : Int)), (10, i6 s.1)]) (fun s t => [Uu pb0 47 5 s.2]) (fun s t => True) (0, a0) () [0] H (by exact trivial) (by exact ⟨rfl, rfl, rfl, rfl, rfl, trivial⟩) (by decide) rfl ?_
  rintro ⟨x10_2, m_2⟩ _ m1 gg H21 _
  clear H
  try dsimp only at H21
  generalize hn1 : it (fun next1 s => Zy a1 a2 self next1 s.1 s.2) m1 = next1 at H21
  try dsimp only
  refine Jc<|Ja<|lv (Yh rfl rfl)<|Jd<|Jc<|?_
  revert H21
  refine ci (decide (x10_2 < (a1.length : Int))) rfl (fun hb H22=>?_) fun hb H40=>?_
  ·refine Jj ?_
   refine Qm (r := r) (σ := (List UInt8)) (τ := Unit) (fun s => Jay x10_2 next1 s) (fun s t => [(0, pz pb0), (2, str a2), (8, v1), (9, i6 (a1.length : Int)), (10, i6 x10_2)]) (fun s t => [Uu pb0 47 5 s]) (fun s t => True) ?_ ?_
   ·refine Jq<|Jc<|Ja<|?_
    obtain ⟨t12, h_t12, H25⟩ := Je H22; clear H22
    refine lv (Yz Tryz.underlying41 Tryz.sizeOf83 rfl rfl f1.frs (f1.ix h_t12))<|Q7 (fun w hF hS => Wu (f := (elC h v1 6)) (i := x10_2) (sz := 6) (j := 0) (vs := [i6 t12.Tag, i6 t12.Value.kah, str t12.Value.kai, (Xr h v1 6 (Int.toNat x10_2) 3), (Xr h v1 6 (Int.toNat x10_2) 4), (Xr h v1 6 (Int.toNat x10_2) 5)]) isAgg83 Tryz.sizeOf83 rfl rfl (f1.frs.row (hw.now hF)) (f1.ix h_t12) (rd_of (Wj (f1.at h_t12)) rfl)) rfl rfl rfl<|?_
    refine Q2 (cs := [i6 0, i6 0, str [], z0s, z0s, z0s]) zeroValue83 rfl rfl rfl (fun b1 => ?_)
    refine Xl (i := 1) (vs := [i6 t12.Tag, i6 t12.Value.kah, str t12.Value.kai, (Xr h v1 6 (Int.toNat x10_2) 3), (Xr h v1 6 (Int.toNat x10_2) 4), (Xr h v1 6 (Int.toNat x10_2) 5)]) (cs' := [i6 t12.Tag, i6 t12.Value.kah, str t12.Value.kai, (Xr h v1 6 (Int.toNat x10_2) 3), (Xr h v1 6 (Int.toNat x10_2) 4), (Xr h v1 6 (Int.toNat x10_2) 5)]) Tryz.sizeOf83 rfl rfl rfl rfl rfl rfl (by simp only [List.all_cons, List.all_nil, (show FrN h 6 (Xr h v1 6 (Int.toNat x10_2) 5) g_tag_Entry t12.Value.kaf from (Qx (Jt (f1.at h_t12)))).one, (show FrS h 1 (Xr h v1 6 (Int.toNat x10_2) 3) (t12.Value.kaj.map Q5) from (Xn (Jt (f1.at h_t12)))).one, (show FrS h 2 (Xr h v1 6 (Int.toNat x10_2) 4) (t12.Value.kag.map Jp) from (Xo (Jt (f1.at h_t12)))).one] <;> rfl) rfl rfl<|Jd<|Jc<|Ja<|mv (pz pb0)<|mv (str a2)<|lf Tryz.runUnderlying83 rfl Tryz.sizeOf3 rfl<|ll 1 (i6 t12.Tag) Tryz.isAgg3<|?_
    obtain ⟨t18, h_t18, H26⟩ := Je H25; clear H25
    refine Qb (fun w hF hS => k41 (Jm w) (tb_pow10.mono (hw.now hF)) h_t18) call41 rfl rfl rfl ?_
    obtain ⟨t19, h_t19, H27⟩ := Je H26; clear H26
    refine lv (Jb1 rfl rfl h_t19) ?_
    obtain ⟨t20, h_t20, H28⟩ := Je H27; clear H27
    refine lv (Jb1 rfl rfl h_t20) ?_
    obtain ⟨t21, h_t21, H29⟩ := Je H28; clear H28
    refine J7 (Jw (i := 0) (rds := []) (G := fun _ : Unit => .tuple #[i6 (t20.length : Int), .nilIface]) (C := fun _ => Uu pb0 47 5 t21) rfl (fun w L' S hF hS hi hp hlt ho hA => k20 hp hlt (Qe w S) h_t21) call20 rfl) rfl rfl rfl (fun _ => ?_)
    refine Jd<|Jc<|Jc<|Ja<|lf Tryz.runUnderlying83 rfl Tryz.sizeOf81 rfl<|lf Tryz.runUnderlying81 rfl Tryz.sizeOf3 rfl<|ll 1 (i6 t12.Value.kah) Tryz.isAgg3<|lv (Zm rfl rfl)<|Jd<|?_
    revert H29
    refine ci (decide (t12.Value.kah ≠ 13)) rfl (fun hb H30=>?_) fun hb H34=>?_
    ·refine Jc<|Ja<|mv (pz pb0)<|lf Tryz.runUnderlying83 rfl Tryz.sizeOf81 rfl<|Qq (i := 1) (vs := [i6 t12.Value.kah, str t12.Value.kai, (Xr h v1 6 (Int.toNat x10_2) 3), (Xr h v1 6 (Int.toNat x10_2) 4), (Xr h v1 6 (Int.toNat x10_2) 5)]) Tryz.isAgg81 Tryz.sizeOf81 rfl rfl rfl rfl rfl<|?_
     obtain ⟨t29, h_t29, H31⟩ := Je H30; clear H30
     refine Qb (fun w hF hS => k44 (Jm w) ((show FrS h 1 (Xr h v1 6 (Int.toNat x10_2) 3) (t12.Value.kaj.map Q5) from (Xn (Jt (f1.at h_t12)))).mono (hw.now hF)) ((show FrS h 2 (Xr h v1 6 (Int.toNat x10_2) 4) (t12.Value.kag.map Jp) from (Xo (Jt (f1.at h_t12)))).mono (hw.now hF)) ((show FrN h 6 (Xr h v1 6 (Int.toNat x10_2) 5) g_tag_Entry t12.Value.kaf from (Qx (Jt (f1.at h_t12)))).mono (hw.now hF)) (tb_pow10.mono (hw.now hF)) h_t29) call44 rfl rfl rfl ?_
     obtain ⟨t30, h_t30, H32⟩ := Je H31; clear H31
     refine lv (Jb1 rfl rfl h_t30) ?_
     obtain ⟨t31, h_t31, H33⟩ := Je H32; clear H32
     refine J7 (Jw (i := 0) (rds := []) (G := fun _ : Unit => .tuple #[i6 (t30.length : Int), .nilIface]) (C := fun _ => Uu pb0 47 5 t31) rfl (fun w L' S hF hS hi hp hlt ho hA => k20 hp hlt (Qe w S) h_t31) call20 rfl) rfl rfl rfl (fun _ => ?_)
     refine Jd<|Qo<|?_
     exact cl t31 () 0 [0] (by exact ⟨H33, trivial⟩)
    ·refine Jj<|Jc<|Ja<|mv (pz pb0)<|?_
     obtain ⟨t33, h_t33, H35⟩ := Je H34; clear H34
     refine J7 (Jw (i := 0) (rds := []) (G := fun _ : Unit => .tuple #[i6 ([123, 10].length : Int), .nilIface]) (C := fun _ => Uu pb0 47 5 t33) rfl (fun w L' S hF hS hi hp hlt ho hA => k20 hp hlt (Qe w S) h_t33) call20 rfl) rfl rfl rfl (fun _ => ?_)
     refine Jd<|Jc<|Ja<|mv (pz pb0)<|lf Tryz.runUnderlying83 rfl Tryz.sizeOf81 rfl<|lf Tryz.runUnderlying81 rfl Tryz.sizeOf41 rfl<|ll 1 (Xr h v1 6 (Int.toNat x10_2) 5) isAgg41<|mv (str a2)<|?_
     obtain ⟨t39, h_t39, H36⟩ := Je H35; clear H35
     refine lv (Jb1 rfl rfl h_t39) ?_
     obtain ⟨t40, h_t40, H37⟩ := Je H36; clear H36
     refine J7 (Jw (i := 0) (rds := []) (G := fun x : Unit => .tuple #[]) (C := fun x : Unit => Uu pb0 47 5 t40) rfl (fun w L' S hF hS hi hp hlt ho hA => ih hp hlt (Qe w S) ((show FrN h 6 (Xr h v1 6 (Int.toNat x10_2) 5) g_tag_Entry t12.Value.kaf from (Qx (Jt (f1.at h_t12)))).mono (hw.but hF ho)) (tb_pow10.mono (hw.but hF ho)) h_t40) call21 rfl) rfl rfl rfl (fun _ => ?_)
     refine Jd<|Ja<|mv (pz pb0)<|mv (str a2)<|?_
     obtain ⟨t43, h_t43, H38⟩ := Je H37; clear H37
     refine lv (Jb1 rfl rfl h_t43) ?_
     obtain ⟨t44, h_t44, H39⟩ := Je H38; clear H38
     refine J7 (Jw (i := 0) (rds := []) (G := fun _ : Unit => .tuple #[i6 (t43.length : Int), .nilIface]) (C := fun _ => Uu pb0 47 5 t44) rfl (fun w L' S hF hS hi hp hlt ho hA => k20 hp hlt (Qe w S) h_t44) call20 rfl) rfl rfl rfl (fun _ => ?_)
     refine Jd ?_
     exact cl t44 () 0 [0] (by exact ⟨H39, trivial⟩)
   ·rintro m_3 _ gg H23 _
    try dsimp only at H23
    try dsimp only
    refine Ja ?_
    obtain ⟨t45, h_t45, H24⟩ := Je H23; clear H23
    refine lv (J8 rfl rfl h_t45)<|mv (i6 t45)<|Jd<|?_
    exact cl (t45, m_3) () m1 [0] (by exact ⟨(by subst hn1; exact H24), trivial⟩)
  ·refine Qo ?_
   obtain rfl := sj H40
   refine ret0n rfl (X5 () (i := 0) rfl rfl (Imp.refl _))
theorem k21 {a0 : (List UInt8)} {pb0 : Nat} {a1 : (List Ta)} {v1 : Value} {a2 : (List UInt8)} {r : (List UInt8)} {w : World} {h : Js} {S : Nat → Prop} (hcs : (Uu pb0 47 5 a0).P S w) (hlt : ∀ b, S b → b < w.heap.size) (hw : Know h w S) (f1 : FrN h 6 v1 g_tag_Entry a1) (tb_pow10 : TabH prog h "internal/strconv.uint64pow10" .u64 Lib.pow10Tab) (H : Jf5 a0 a1 a2 = some r) : Does prog 21 (List.toArray [pz pb0, v1, str a2]) w (fun v w' => ∃ x : Unit, v = (.tuple #[]) ∧ Turn w w' S (Uu pb0 47 5 r)) := by
 obtain ⟨mm, hm⟩ := Jin (show Z8 (fun (self : ((List UInt8) × (List Ta) × (List UInt8)) → Option ((List UInt8))) (s : (List UInt8) × (List Ta) × (List UInt8)) => Yn self s.1 s.2.1 s.2.2) (a0, a1, a2) = some r from H)
 exact k21_it mm hcs hlt hw f1 tb_pow10 hm
theorem k22 {a0 : List UInt8} {pb0 : Nat}  {w : World} {h : Js} {S : Nat → Prop} (hcs : (Uu pb0 47 5 a0).P S w) (hlt : ∀ b, S b → b < w.heap.size) (hw : Know h w S)  : Does prog 22 (List.toArray [pz pb0]) w (fun v w' => ∃ x : Unit, v = i6 (a0.length : Int) ∧ Turn w w' S (Uu pb0 47 5 a0)) := by
  refine enter (n := 8) func22 rfl rfl rfl S [Uu pb0 47 5 a0] (Sat.one hcs hlt) ?_
  refine c_bld 0 rfl (fun q p hq hp => ?_)
  refine Qa 0 rfl<|Jc<|Ja<|ag (i6 0)<|Jd<|Jc<|Ja<|mv (pz pb0)<|lv (Jg rfl)<|lf Tryz.runUnderlying47 rfl Tryz.sizeOf45 rfl<|ll 0 (sl p (Jv a0).length) Tryz.isAgg45<|lv (U6 Tryz.underlying45 rfl)<|ag (i6 ((Jv a0).length : Int))<|Jd<|Jh<|bo 0 1 rfl rfl<|?_
  exact Uh (v := i6 ((Jv a0).length : Int)) rfl rfl (X5 () (i := 0) rfl (by simp [Jv]) (imp_bldQ hq hp))
theorem k7 {a0 : Tg} {v0_1 : Value} {r : (List UInt8) × Int} {w : World} {h : Js} (hw : Know h w Zk) (f0_1 : FrN h 1 v0_1 gs_tag_Entry a0.kal) (tb_pow10 : TabH prog h "internal/strconv.uint64pow10" .u64 Lib.pow10Tab) (H : Je1 a0 = some r) : Does prog 7 (List.toArray [.agg #[.bool a0.Big, v0_1]]) w (fun v w' => v = (.tuple #[str r.1, i6 r.2]) ∧ Grow w w') := by
 refine enter (n := 31) func7 rfl rfl rfl Zk [] (Sat.nil _ _)<|Jc<|Ja<|?_
 refine Jat (cs := [.bool a0.Big, v0_1]) rfl rfl rfl rfl (fun b2 => ?_)
 refine ag (str [])<|ag (i6 0)<|Jd<|Jc<|Jc<|Ja<|Qq (i := 0) (vs := [.bool a0.Big, v0_1]) Tryz.isAgg24 Tryz.sizeOf24 rfl rfl rfl rfl rfl<|?_
 obtain ⟨t9, h_t9, H19⟩ := Je H; clear H
 refine Qb (fun w hF hS => k15 (Jm w) (f0_1.mono (hw.now hF)) h_t9) call15 rfl rfl rfl<|ag (i6 t9)<|Jd<|Jc<|Ja<|mv (i6 t9)<|lv (Zm rfl rfl)<|Jd<|?_
 revert H19
 refine ci (decide (t9 ≠ 0)) rfl (fun hb H20=>?_) fun hb H21=>?_
 ·refine Jc<|Ja<|mv (i6 t9)<|ag (str [])<|ag (i6 t9)<|Jd<|Jh<|?_
  obtain rfl := sj H20
  refine Jba (v1 := str []) (v2 := i6 t9) rfl rfl rfl (fin rfl)
 ·refine Jj<|Jc<|Ja<|?_
  refine Q2 (cs := [.pointer none, z0s]) zeroValue47 rfl rfl rfl (fun b3 => ?_)
  refine J4 1 rfl (Jje _ _ 5)<|Jd<|?_
  refine Qm (r := r) (σ := (List UInt8)) (τ := Unit) (fun s => Jda a0 s) (fun s t => [(1, pz b2), (5, pz b3)]) (fun s t => [Ji b2 [.bool a0.Big, v0_1] 24, Uu b3 47 5 s]) (fun s t => True) ?_ ?_
  ·refine Jc<|Ja<|lf Tryz.runUnderlying24 rfl Tryz.sizeOf4 rfl<|ll 0 (.bool a0.Big) isAgg4<|Jd<|?_
   revert H21
   refine ci (a0.Big) rfl (fun hb H33=>?_) fun hb H35=>?_
   ·refine Ja ?_
    obtain ⟨t15, h_t15, H34⟩ := Je H33; clear H33
    refine J7 (Jw (i := 1) (rds := []) (G := fun _ : Unit => .tuple #[i6 ([98, 105, 103, 10].length : Int), .nilIface]) (C := fun _ => Uu b3 47 5 t15) rfl (fun w L' S hF hS hi hp hlt ho hA => k20 hp hlt (Qe w S) h_t15) call20 rfl) rfl rfl rfl (fun _ => ?_)
    refine Jd ?_
    exact cl t15 () 0 [0, 1] (by exact ⟨H34, trivial⟩)
   ·refine Ja ?_
    obtain ⟨t16, h_t16, H36⟩ := Je H35; clear H35
    refine J7 (Jw (i := 1) (rds := []) (G := fun _ : Unit => .tuple #[i6 ([108, 105, 116, 116, 108, 101, 10].length : Int), .nilIface]) (C := fun _ => Uu b3 47 5 t16) rfl (fun w L' S hF hS hi hp hlt ho hA => k20 hp hlt (Qe w S) h_t16) call20 rfl) rfl rfl rfl (fun _ => ?_)
    refine Jd ?_
    exact cl t16 () 0 [0, 1] (by exact ⟨H36, trivial⟩)
  ·rintro m _ gg H22 _
   try dsimp only at H22
   try dsimp only
   refine Qm (r := r) (σ := (List UInt8)) (τ := Unit) (fun s => Jb2 s) (fun s t => [(5, pz b3)]) (fun s t => [Uu b3 47 5 s]) (fun s t => True) ?_ ?_
   ·refine Jc<|Ja<|lf Tryz.runUnderlying24 rfl sizeOf22 rfl<|ll 0 v0_1 isAgg22<|lv (Vk Tryz.underlying22 rfl f0_1)<|mv (i6 0)<|Jd<|Jq<|Uk 0<|?_
    try dsimp only [z1, z2, z3, z4, z5, z6, z7, z8]
    refine Yq (σ := Int × (List UInt8)) (τ := Unit) (fun next3 s => Up a0 next3 s.1 s.2) (fun s t => [(5, pz b3), (18, v0_1), (19, i6 (a0.kal.length : Int)), (20, i6 s.1)]) (fun s t => [Uu b3 47 5 s.2]) (fun s t => True) (0, m) () [0] H22 (by exact trivial) (by exact ⟨rfl, rfl, rfl, rfl, trivial⟩) (by decide) rfl ?_
    rintro ⟨x20_2, m_4⟩ _ m3 gg H26 _
    clear H22
    try dsimp only at H26
    generalize hn3 : it (fun next3 s => Up a0 next3 s.1 s.2) m3 = next3 at H26
    try dsimp only
    refine Jc<|Ja<|lv (Yh rfl rfl)<|Jd<|Jc<|?_
    revert H26
    refine ci (decide (x20_2 < (a0.kal.length : Int))) rfl (fun hb H27=>?_) fun hb H32=>?_
    ·refine Jj<|Jc<|Jq<|Jc<|Ja<|?_
     obtain ⟨t22, h_t22, H28⟩ := Je H27; clear H27
     refine lv (Yz Tryz.underlying22 Tryz.sizeOf41 rfl rfl f0_1.frs (f0_1.ix h_t22))<|Q7 (fun w hF hS => Xv (f := (elC h v0_1 1)) (i := x20_2) (sz := 1) (j := 0) (v := (Xr h v0_1 1 (Int.toNat x20_2) 0)) isAgg41 rfl rfl (f0_1.frs.row (hw.now hF)) (f0_1.ix h_t22) (rg_of (Jbh (f0_1.at h_t22)) rfl)) rfl rfl rfl<|ag ((Xr h v0_1 1 (Int.toNat x20_2) 0))<|Jd<|Jc<|Ja<|?_
     obtain ⟨t24, h_t24, H29⟩ := Je H28; clear H28
     refine J7 (Jw (i := 0) (rds := []) (G := fun _ : Unit => .tuple #[i6 ([100, 105, 114, 10].length : Int), .nilIface]) (C := fun _ => Uu b3 47 5 t24) rfl (fun w L' S hF hS hi hp hlt ho hA => k20 hp hlt (Qe w S) h_t24) call20 rfl) rfl rfl rfl (fun _ => ?_)
     refine Jd<|Ja<|mv ((Xr h v0_1 1 (Int.toNat x20_2) 0))<|?_
     obtain ⟨t26, h_t26, H30⟩ := Je H29; clear H29
     refine J7 (Jw (i := 0) (rds := []) (G := fun x : Unit => .tuple #[]) (C := fun x : Unit => Uu b3 47 5 t26) rfl (fun w L' S hF hS hi hp hlt ho hA => k21 hp hlt (Qe w S) ((show FrN h 6 (Xr h v0_1 1 (Int.toNat x20_2) 0) g_tag_Entry t22 from (f0_1.at h_t22)).mono (hw.but hF ho)) (tb_pow10.mono (hw.but hF ho)) h_t26) call21 rfl) rfl rfl rfl (fun _ => ?_)
     refine Jd<|Ja<|?_
     obtain ⟨t27, h_t27, H31⟩ := Je H30; clear H30
     refine lv (J8 rfl rfl h_t27)<|mv (i6 t27)<|Jd<|?_
     exact cl (t27, t26) () m3 [0] (by exact ⟨(by subst hn3; exact H31), trivial⟩)
    ·refine Qo ?_
     exact cl m_4 () 0 [0] (by exact ⟨H32, trivial⟩)
   ·rintro m_2 _ gg H23 _
    try dsimp only at H23
    try dsimp only
    refine Jc<|Jc<|Ja<|?_
    refine J7 (Jw (i := 0) (rds := []) (G := fun _ : Unit => i6 (m_2.length : Int)) (C := fun _ => Uu b3 47 5 m_2) rfl (fun w L' S hF hS hi hp hlt ho hA => k22 hp hlt (Qe w S)) call22 rfl) rfl rfl rfl (fun _ => ?_)
    refine lv (Va rfl rfl)<|Jd<|?_
    revert H23
    refine ci (decide (1000000 < (m_2.length : Int))) rfl (fun hb H24=>?_) fun hb H25=>?_
    ·refine Jc<|Ja<|ag (str [])<|ag (i6 4)<|Jd<|Jh<|?_
     obtain rfl := sj H24
     refine Jba (v1 := str []) (v2 := i6 4) rfl rfl rfl (fin rfl)
    ·refine Jj<|Jc<|Ja<|?_
     refine J7 (Jw (i := 0) (rds := []) (G := fun _ : Unit => str m_2) (C := fun _ => empC) rfl (fun w L' S hF hS hi hp hlt ho hA => k23 hp hlt (Qe w S)) call23 rfl) rfl rfl rfl (fun _ => ?_)
     refine ag (str m_2)<|ag (i6 0)<|Jd<|Jh<|?_
     obtain rfl := sj H25
     refine Jba (v1 := str m_2) (v2 := i6 0) rfl rfl rfl (fin rfl)
theorem k63 {a0 : Bool} {a1 : Int} {a2 : Int} {r : (List Int)} {w : World} {h : Js} (hw : Know h w Zk) (H : Jl a0 a1 a2 = some r) : Does prog 63 (List.toArray [.bool a0, i6 a1, i6 a2]) w (fun v w' => ∃ x : AN, v = (sl x r.length) ∧ Turn w w' Zk (Ju 5 1 (sl x r.length) r.length (r.map Ys))) := by
 refine enter (n := 33) func63 rfl rfl rfl Zk [] (Sat.nil _ _)<|Jc<|Ja<|ag (z0s)<|Jd<|Jc<|Ja<|mv (i6 a2)<|?_
 obtain ⟨t11, h_t11, H15⟩ := Je H; clear H
 refine Yi (rds := []) (Jgd (E := 5) (sz := 1) (f := Ys) (xs := t11) Tryz.underlying45 (Qn Tryz.typeInfo5) rfl rfl rfl rfl rfl rfl ⟨rfl, rfl⟩ h_t11) rfl rfl rfl (fun p => ?_)
 refine ag (sl p t11.length)<|Jd<|Jc<|Jc<|Ja<|mv (sl p t11.length)<|lv (U6 Tryz.underlying45 rfl)<|mv (i6 0)<|Jd<|Jq<|?_
 refine Yq (σ := Int × (List Int)) (τ := Unit) (fun next1 s => Xq a0 a1 a2 t11 next1 s.1 s.2) (fun s t => [(0, .bool a0), (1, i6 a1), (2, i6 a2), (7, sl p t11.length), (13, i6 (t11.length : Int)), (14, i6 s.1)]) (fun s t => [Ju 5 1 (sl p t11.length) t11.length (s.2.map Ys)]) (fun s t => t11.length = s.2.length) (0, t11) () [0] H15 (by exact rfl) (by exact ⟨rfl, rfl, rfl, rfl, rfl, rfl, trivial⟩) (by decide) rfl ?_
 rintro ⟨x14_2, l_2⟩ _ m1 gg H16 hl_2
 clear H15
 try dsimp only at H16
 generalize hn1 : it (fun next1 s => Xq a0 a1 a2 t11 next1 s.1 s.2) m1 = next1 at H16
 try dsimp only
 refine Jc<|Ja<|lv (Yh rfl rfl)<|Jd<|Jc<|?_
 revert H16
 refine ci (decide (x14_2 < (t11.length : Int))) rfl (fun hb H17=>?_) fun hb H28=>?_
 ·refine Jj<|Jc<|Jq<|Jc<|Ja<|mv (i6 x14_2)<|ag (i6 x14_2)<|Jd<|Jc<|Ja<|mv (i6 x14_2)<|ag (i6 x14_2)<|Jd<|?_
  refine Qm (r := r) (σ := Int) (τ := Unit) (fun s => Ww a1 x14_2 l_2 next1 s) (fun s t => [(0, .bool a0), (1, i6 a1), (2, i6 a2), (7, sl p t11.length), (8, i6 x14_2), (9, i6 s), (13, i6 (t11.length : Int)), (14, i6 x14_2)]) (fun s t => [Ju 5 1 (sl p t11.length) t11.length (l_2.map Ys)]) (fun s t => True) ?_ ?_
  ·refine Jc<|Ja<|mv (.bool a0)<|Jd<|?_
   revert H17
   refine ci a0 rfl (fun hb H24=>?_) fun hb H27=>?_
   ·refine Ja<|mv (i6 a2)<|?_
    obtain ⟨t20, h_t20, H25⟩ := Je H24; clear H24
    refine lv (Zb rfl rfl h_t20)<|mv (i6 x14_2)<|?_
    obtain ⟨t22, h_t22, H26⟩ := Je H25; clear H25
    refine lv (Zb rfl rfl h_t22)<|ag (i6 t22)<|Jd<|?_
    exact cl t22 () 0 [0] (by exact ⟨H26, trivial⟩)
   ·refine Jj ?_
    exact cl x14_2 () 0 [0] (by exact ⟨H27, trivial⟩)
  ·rintro x9 _ gg H18 _
   try dsimp only at H18
   try dsimp only
   refine Ja<|mv (sl p t11.length)<|mv (i6 x9)<|mv (i6 a1)<|mv (i6 x14_2)<|?_
   obtain ⟨t27, h_t27, H19⟩ := Je H18; clear H18
   refine lv (Jct rfl rfl h_t27) ?_
   obtain ⟨t28, h_t28, H20⟩ := Je H19; clear H19
   refine lv (r_shrG rfl rfl rfl h_t28)<|lv (Jdm runUnderlying3 Tryz.runUnderlying5 rfl (wr_u8 _))<|?_
   obtain ⟨t30, h_t30, H21⟩ := Je H20; clear H20
   refine Q7 (fun w hF hS => Xu Tryz.underlying45 sizeOf5 rfl rfl (Yf (i := 0) hS rfl) hl_2 h_t30) rfl rfl rfl ?_
   obtain ⟨l0, h_l0, H22⟩ := Je H21; clear H21
   refine Jde (q := 0) (j := 0) (i := x9) (sz := 1) (hm := hl_2) (f := Ys) (vs := [.int .u8 (wU8 t28)]) sizeOf5 rfl rfl rfl rfl rfl rfl rfl rfl rfl (fun y_ hy_ => by first | rfl | (cases hy_.symm.trans h_t30; rfl)) h_l0<|Jd<|Ja<|?_
   obtain ⟨t31, h_t31, H23⟩ := Je H22; clear H22
   refine lv (J8 rfl rfl h_t31)<|mv (i6 t31)<|Jd<|?_
   exact cl (t31, l0) () m1 [0] (by exact ⟨(by subst hn1; exact H23), (Jg6 hl_2 h_l0)⟩)
 ·refine Qo<|Jc<|Ja<|mv (sl p t11.length)<|ag (sl p t11.length)<|Jd<|Jh<|?_
  obtain rfl := sj H28
  refine Uh (v := sl p t11.length) rfl rfl (X5 p (i := 0) rfl (by first | rfl | rw [(show t11.length = l_2.length from hl_2)]) (by first | exact Imp.refl _ | exact Imp.of (by rw [(show t11.length = l_2.length from hl_2)] <;> rfl)))
theorem k65 {a0 : Tf} {pb0 : Nat} {p0_1 : AN} {n0_1 : Nat} {a1 : Int} {a2 : Int} {r : Tf} {w : World} {h : Js} {S : Nat → Prop} (hcs : (Jz (Ji pb0 [.bool a0.kab, sl p0_1 n0_1] 123) (wrV 5 1 (sl p0_1 n0_1) n0_1 (a0.kak.map Ys))).P S w) (hlt : ∀ b, S b → b < w.heap.size) (hw : Know h w S) (hn0_1 : n0_1 = a0.kak.length) (H : V5 a0 a1 a2 = some r) : Does prog 65 (List.toArray [pz pb0, i6 a1, i6 a2]) w (fun v w' => ∃ x : AN, v = (.tuple #[]) ∧ Turn w w' S (Jz (Ji pb0 [.bool r.kab, sl x r.kak.length] 123) (wrV 5 1 (sl x r.kak.length) r.kak.length (r.kak.map Ys)))) := by
 refine enter (n := 19) func65 rfl rfl rfl S [Jz (Ji pb0 [.bool a0.kab, sl p0_1 n0_1] 123) (wrV 5 1 (sl p0_1 n0_1) n0_1 (a0.kak.map Ys))] (Sat.one hcs hlt)<|Qa 0 rfl<|?_
 exact Q1 (Kd.p :: Kd.p :: Kd.p :: Kd.d [0] _ :: Kd.p :: Kd.d [1] _ :: Kd.p :: Kd.p :: Kd.p :: Kd.d [0] _ :: Kd.p :: Kd.t 2 [] _ _ :: Kd.t 1 [2] _ _ :: []) 1 mixed (by
  refine dm (pz pb0)<|dv (Jg rfl)<|dv (J0 Tryz.runUnderlying123 rfl Tryz.sizeOf45 rfl rfl)<|dl (sl p0_1 n0_1) Tryz.isAgg45<|dm (i6 a1)<|?_
  have h_t11 := Qc H
  have H3 := J2 H
  refine Z5 (v := .slice (Ya p0_1.1 (Int.toNat a1) p0_1.2 1) (val (Yw a0.kak a1 a0.kak.length)).length (p0_1.2 - Int.toNat a1)) (fun w L' hF hS hi => Jge (xs := a0.kak) Tryz.underlying45 sizeOf5 rfl rfl hn0_1 (capOfW (i := 1) hS ((hi 1 (by simp)).trans rfl)) h_t11) rfl rfl<|dm (pz pb0)<|dv (Jg rfl)<|dv (J0 Tryz.runUnderlying123 rfl Tryz.sizeOf4 rfl rfl)<|dl (.bool a0.kab) isAgg4<|dm (i6 a2)<|?_
  have h_t17 := Qc H3
  have H4 := J2 H3
  refine Jgw (Cv := fun v => Ju 5 1 v (val (Jl a0.kab a2 4)).length ((val (Jl a0.kab a2 4)).map Ys)) (none, 0) (Qh (fun w L' hF hS hi => k63 (Jm w)  h_t17) call63 rfl) (fun _ => rfl) rfl rfl rfl (fun p => ?_)
  refine Jca (Cv := fun _ => wrV 5 1 (sl p0_1 n0_1) n0_1 ((cpyL a0.kak a1 (val (Yw a0.kak a1 a0.kak.length)).length (val (Jl a0.kab a2 4))).map Ys)) () (Jiw (i := 1) (rds := _) (p := p0_1) (f := Ys) (xs := a0.kak) (ts := (val (Yw a0.kak a1 a0.kak.length))) (ys := (val (Jl a0.kab a2 4))) hn0_1 Tryz.underlying45 (by rw [Qn Tryz.typeInfo5]; rfl) rfl rfl h_t11 rfl rfl (fun w L' hF hS hi => Yf (i := 2) hS ((hi 2 (by simp)).trans rfl)) (fun _ => rfl) (fun _ => rfl)) (fun _ => rfl) rfl rfl (fun _ => ?_)
  refine Vz ?_
  obtain rfl := sj H4
  refine bo 0 1 rfl rfl ?_
  refine ret0n rfl (X5 p0_1 (i := 0) rfl (by first | rfl | rw [(show n0_1 = (cpyL a0.kak a1 (val (Yw a0.kak a1 a0.kak.length)).length (val (Jl a0.kab a2 4))).length from (cpyL_n hn0_1 h_t11))]) (by first | exact Imp.refl _ | exact Imp.of (by rw [(show n0_1 = (cpyL a0.kak a1 (val (Yw a0.kak a1 a0.kak.length)).length (val (Jl a0.kab a2 4))).length from (cpyL_n hn0_1 h_t11))] <;> rfl)))
  ) (by kernel_rfl)
theorem k110 {a0 : Tf} {pb0 : Nat} {p0_1 : AN} {n0_1 : Nat} {r : Int × Tf} {w : World} {h : Js} {S : Nat → Prop} (hcs : (Jz (Ji pb0 [.bool a0.kab, sl p0_1 n0_1] 123) (wrV 5 1 (sl p0_1 n0_1) n0_1 (a0.kak.map Ys))).P S w) (hlt : ∀ b, S b → b < w.heap.size) (hw : Know h w S) (hn0_1 : n0_1 = a0.kak.length) (H : Ub a0 = some r) : Does prog 110 (List.toArray [pz pb0]) w (fun v w' => ∃ x : AN, v = (i6 r.1) ∧ Turn w w' S (Jz (Ji pb0 [.bool r.2.kab, sl x r.2.kak.length] 123) (wrV 5 1 (sl x r.2.kak.length) r.2.kak.length (r.2.kak.map Ys)))) := by
 refine enter (n := 24) func110 rfl rfl rfl S [Jz (Ji pb0 [.bool a0.kab, sl p0_1 n0_1] 123) (wrV 5 1 (sl p0_1 n0_1) n0_1 (a0.kak.map Ys))] (Sat.one hcs hlt)<|Qa 0 rfl<|Jc<|Ja<|ag (i6 0)<|Jd<|?_
 refine Qm (r := r) (σ := (List Int)) (τ := AN × Nat) (fun s => W5 a0 s) (fun s t => [(0, pz pb0)]) (fun s t => [Ji pb0 [.bool a0.kab, .slice t.1.1 t.2 t.1.2] 123, wrV 5 1 (.slice t.1.1 t.2 t.1.2) t.2 (s.map Ys)]) (fun s t => t.2 = s.length) ?_ ?_
 ·refine Jc<|Ja<|mv (pz pb0)<|lv (Jg rfl)<|lf Tryz.runUnderlying123 rfl Tryz.sizeOf45 rfl<|ll 0 (sl p0_1 n0_1) Tryz.isAgg45<|lv (r_lenN Tryz.underlying45 rfl hn0_1)<|?_
  obtain ⟨t8, h_t8, H7⟩ := Je H; clear H
  refine lv (r_remG rfl rfl h_t8)<|lv (Zm rfl rfl)<|Jd<|?_
  revert H7
  refine ci (decide (t8 ≠ 0)) rfl (fun hb H8=>?_) fun hb H10=>?_
  ·refine Ja<|mv (pz pb0)<|mv (pz pb0)<|lv (Jg rfl)<|lf Tryz.runUnderlying123 rfl Tryz.sizeOf45 rfl<|ll 0 (sl p0_1 n0_1) Tryz.isAgg45<|?_
   refine Qj (vs := [.int .u8 0]) (cs := [.int .u8 0]) Tryz.underlying45 sizeOf5 zeroValue5 rfl rfl rfl rfl rfl rfl rfl (fun b1 => ?_)
   obtain ⟨l16, h_l16, H9⟩ := Je H8; clear H8
   refine J7 (Ut (i := 1) (hn := hn0_1) (rds := [2]) (p := p0_1) (sz := 1) (by_ := 1) (f := Ys) (ys := a0.kak) (ls := ([0] : List Int)) (V := .slice (some ⟨b1, 0, none⟩) 1 1) Tryz.underlying45 (Qn Tryz.typeInfo5) rfl rfl rfl rfl rfl rfl rfl rfl rfl rfl (fun w L' hF hS hi => Vl (i := 2) hS ((hi 2 (by simp)).trans rfl) rfl rfl) (fun _ => rfl) (fun _ => rfl) h_l16) rfl rfl rfl (fun p_2 => ?_)
   refine lv (Jg rfl)<|lf Tryz.runUnderlying123 rfl Tryz.sizeOf45 rfl<|st (i := 0) [sl p_2 l16.length] [.bool a0.kab, sl p_2 l16.length] Tryz.sizeOf45 rfl rfl<|Jd<|?_
   exact cl l16 (p_2, l16.length) 0 [0, 1] (by exact ⟨H9, rfl⟩)
  ·refine Jj ?_
   exact cl a0.kak (p0_1, n0_1) 0 [0, 1] (by exact ⟨H10, hn0_1⟩)
 ·rintro l ⟨p, n⟩ gg H6 hl
  try dsimp only at H6
  try dsimp only
  refine Jc<|Ja<|mv (pz pb0)<|lv (Jg rfl)<|lf Tryz.runUnderlying123 rfl Tryz.sizeOf45 rfl<|ll 0 (sl p n) Tryz.isAgg45<|lv (r_lenN Tryz.underlying45 rfl hl)<|ag (i6 (l.length : Int))<|Jd<|Jh<|?_
  obtain rfl := sj H6
  refine bo 0 1 rfl rfl ?_
  refine Uh (v := i6 (l.length : Int)) rfl rfl (X5 p (i := 0) rfl (by first | rfl | rw [(show n = l.length from hl)]) (by first | exact Imp.refl _ | exact Imp.of (by rw [(show n = l.length from hl)] <;> rfl)))
theorem k112 {a0 : Bool} {a1 : Tc} {v1_2 : Value} {v1_3 : Value} {v1_4 : Value} {r : (List Int)} {w : World} {h : Js} (hw : Know h w Zk) (f1_2 : FrS h 1 v1_2 (a1.kaj.map Q5)) (f1_3 : FrS h 2 v1_3 (a1.kag.map Jp)) (f1_4 : FrN h 6 v1_4 g_tag_Entry a1.kaf) (H : Y3 a0 a1 = some r) : Does prog 112 (List.toArray [.bool a0, .agg #[i6 a1.kah, str a1.kai, v1_2, v1_3, v1_4]]) w (fun v w' => ∃ x : AN, v = (sl x r.length) ∧ Turn w w' Zk (wrV 5 1 (sl x r.length) r.length (r.map Ys))) := by
 refine enter (n := 61) func112 rfl rfl rfl Zk [] (Sat.nil _ _)<|Jc<|Ja<|?_
 refine Jat (cs := [i6 a1.kah, str a1.kai, v1_2, v1_3, v1_4]) rfl rfl rfl rfl (fun b6 => ?_)
 refine ag (z0s)<|Jd<|Jc<|Jc<|Ja<|lf Tryz.runUnderlying81 rfl Tryz.sizeOf3 rfl<|ll 0 (i6 a1.kah) Tryz.isAgg3<|Jd<|Jq<|Jc<|Ja<|lv (Qg rfl rfl)<|ag (.bool (decide (a1.kah = 2)))<|Jd<|?_
 revert H
 refine ci (decide (a1.kah = 2)) rfl (fun hb H51=>?_) fun hb H54=>?_
 ·refine Jc<|Ja<|lf Tryz.runUnderlying81 rfl Tryz.sizeOf9 rfl<|ll 0 (str a1.kai) isAgg9<|?_
  obtain ⟨t16, h_t16, H52⟩ := Je H51; clear H51
  refine Yi (rds := []) (Jjt (f := Ys) (s := a1.kai) Tryz.underlying9 Tryz.underlying45 underlying5 rfl (fun _ => rfl) h_t16) rfl rfl rfl (fun p => ?_)
  refine Qj (vs := [.int .u8 0]) (cs := [.int .u8 0]) Tryz.underlying45 sizeOf5 zeroValue5 rfl rfl rfl rfl rfl rfl rfl (fun b7 => ?_)
  obtain ⟨l18, h_l18, H53⟩ := Je H52; clear H52
  refine J7 (Ut (i := 1) (hn := rfl) (rds := [2]) (p := p) (sz := 1) (by_ := 1) (f := Ys) (ys := t16) (ls := ([0] : List Int)) (V := .slice (some ⟨b7, 0, none⟩) 1 1) Tryz.underlying45 (Qn Tryz.typeInfo5) rfl rfl rfl rfl rfl rfl rfl rfl rfl rfl (fun w L' hF hS hi => Vl (i := 2) hS ((hi 2 (by simp)).trans rfl) rfl rfl) (fun _ => rfl) (fun _ => rfl) h_l18) rfl rfl rfl (fun p_2 => ?_)
  refine ag (sl p_2 l18.length)<|Jd<|Jh<|?_
  obtain rfl := sj H53
  refine Uh (v := sl p_2 l18.length) rfl rfl (X5 p_2 (i := 1) rfl rfl (Imp.refl _))
 ·refine Jc<|Ja<|lv (Qg rfl rfl)<|ag (.bool (decide (a1.kah = 7)))<|Jd<|?_
  revert H54
  refine ci (decide (a1.kah = 7)) rfl (fun hb H55=>?_) fun hb H57=>?_
  ·refine Jc<|Ja<|lf Tryz.runUnderlying81 rfl Tryz.sizeOf9 rfl<|ll 0 (str a1.kai) isAgg9<|?_
   obtain ⟨t23, h_t23, H56⟩ := Je H55; clear H55
   refine Yi (rds := []) (Jjt (f := Ys) (s := a1.kai) Tryz.underlying9 Tryz.underlying45 underlying5 rfl (fun _ => rfl) h_t23) rfl rfl rfl (fun p_3 => ?_)
   refine ag (sl p_3 t23.length)<|Jd<|Jh<|?_
   obtain rfl := sj H56
   refine Uh (v := sl p_3 t23.length) rfl rfl (X5 p_3 (i := 1) rfl rfl (Imp.refl _))
  ·refine Jj<|Jc<|Ja<|ag (z0s)<|Jd<|?_
   refine Qm (r := r) (σ := (List Int)) (τ := AN) (fun s => Jbb a0 a1 s) (fun s t => [(0, .bool a0), (3, pz b6), (5, sl t s.length)]) (fun s t => [Ji b6 [i6 a1.kah, str a1.kai, v1_2, v1_3, v1_4] 81, Ju 5 1 (sl t s.length) s.length (s.map Ys)]) (fun s t => True) ?_ ?_
   ·refine Jc<|Ja<|lf Tryz.runUnderlying81 rfl Tryz.sizeOf76 rfl<|ll 0 v1_2 isAgg76<|lv (Jbs Tryz.underlying76 rfl f1_2 rfl)<|mv (i6 0)<|Jd<|Jq<|J1 5 1<|?_
    refine Yq (σ := Int × (List Int)) (τ := AN) (fun next3 s => Vp a0 a1 next3 s.1 s.2) (fun s t => [(0, .bool a0), (3, pz b6), (5, sl t s.2.length), (25, v1_2), (26, i6 (a1.kaj.length : Int)), (27, i6 s.1)]) (fun s t => [Ji b6 [i6 a1.kah, str a1.kai, v1_2, v1_3, v1_4] 81, Ju 5 1 (sl t s.2.length) s.2.length (s.2.map Ys)]) (fun s t => True) (0, ([] : List Int)) nn [0, 1] H57 (by exact trivial) (by exact ⟨rfl, rfl, rfl, rfl, rfl, rfl, trivial⟩) (by decide) rfl ?_
    rintro ⟨x27_2, l_5⟩ p_10 m3 gg H68 _
    clear H57
    try dsimp only at H68
    generalize hn3 : it (fun next3 s => Vp a0 a1 next3 s.1 s.2) m3 = next3 at H68
    try dsimp only
    refine Jc<|Ja<|lv (Yh rfl rfl)<|Jd<|Jc<|?_
    revert H68
    refine ci (decide (x27_2 < (a1.kaj.length : Int))) rfl (fun hb H69=>?_) fun hb H75=>?_
    ·refine Jj<|Jc<|Jq<|Jc<|Ja<|?_
     obtain ⟨t29, h_t29, H70⟩ := Je H69; clear H69
     refine lv (Yz Tryz.underlying76 Tryz.sizeOf3 rfl rfl f1_2 h_t29)<|Q7 (fun w hF hS => Xv (f := Q5) (i := x27_2) (sz := 1) (j := 0) (v := i6 t29) Tryz.isAgg3 rfl rfl (f1_2.row (hw.now hF)) h_t29 rfl) rfl rfl rfl<|ag (i6 t29)<|Jd<|Ja<|mv (sl p_10 l_5.length)<|mv (.bool a0)<|mv (i6 t29)<|lf Tryz.runUnderlying81 rfl Tryz.sizeOf3 rfl<|ll 0 (i6 a1.kah) Tryz.isAgg3<|?_
     obtain ⟨t36, h_t36, H71⟩ := Je H70; clear H70
     refine Qk (k114 h_t36) call114 rfl rfl rfl ?_
     obtain ⟨t37, h_t37, H72⟩ := Je H71; clear H71
     refine Yi (Qh (rds := []) (fun w L' hF hS hi => k63 (Jm w)  h_t37) call63 rfl) rfl rfl rfl (fun p_11 => ?_)
     obtain ⟨l38, h_l38, H73⟩ := Je H72; clear H72
     refine J7 (X4 (i := 1) (hn := rfl) (rds := [2]) (p := p_10) (sz := 1) (by_ := 1) (f := Ys) (ys := l_5) (ls := t37) (V := sl p_11 t37.length) Tryz.underlying45 (Qn Tryz.typeInfo5) rfl rfl rfl rfl rfl rfl rfl rfl rfl rfl (fun w L' hF hS hi => Yf (i := 2) hS ((hi 2 (by simp)).trans rfl)) (fun _ => rfl) (fun _ => rfl) h_l38) rfl rfl rfl (fun p_12 => ?_)
     refine ag (sl p_12 l38.length)<|Jd<|Ja<|?_
     obtain ⟨t39, h_t39, H74⟩ := Je H73; clear H73
     refine lv (J8 rfl rfl h_t39)<|mv (i6 t39)<|Jd<|?_
     exact cl (t39, l38) p_12 m3 [0, 1] (by exact ⟨(by subst hn3; exact H74), trivial⟩)
    ·refine Qo ?_
     exact cl l_5 p_10 0 [0, 1] (by exact ⟨H75, trivial⟩)
   ·rintro l p_4 gg H58 _
    try dsimp only at H58
    try dsimp only
    refine Jc<|Jc<|Ja<|lf Tryz.runUnderlying81 rfl Tryz.sizeOf79 rfl<|ll 0 v1_3 isAgg79<|lv (Jbs Tryz.underlying79 rfl f1_3 rfl)<|mv (i6 0)<|Jd<|Jq<|Uk 0<|?_
    try dsimp only [z1, z2, z3, z4, z5, z6, z7, z8]
    refine Yq (σ := Int × (List Int)) (τ := AN) (fun next2 s => Vo a0 a1 next2 s.1 s.2) (fun s t => [(0, .bool a0), (5, sl t s.2.length), (41, v1_3), (42, i6 (a1.kag.length : Int)), (43, i6 s.1)]) (fun s t => [Ju 5 1 (sl t s.2.length) s.2.length (s.2.map Ys)]) (fun s t => True) (0, l) p_4 [0] H58 (by exact trivial) (by exact ⟨rfl, rfl, rfl, rfl, rfl, trivial⟩) (by decide) rfl ?_
    rintro ⟨x43_2, l_3⟩ p_5 m2 gg H59 _
    clear H58
    try dsimp only at H59
    generalize hn2 : it (fun next2 s => Vo a0 a1 next2 s.1 s.2) m2 = next2 at H59
    try dsimp only
    refine Jc<|Ja<|lv (Yh rfl rfl)<|Jd<|Jc<|?_
    revert H59
    refine ci (decide (x43_2 < (a1.kag.length : Int))) rfl (fun hb H60=>?_) fun hb H67=>?_
    ·refine Jj<|Jc<|Jq<|Jc<|Ja<|?_
     obtain ⟨t45, h_t45, H61⟩ := Je H60; clear H60
     refine lv (Yz Tryz.underlying79 Tryz.sizeOf70 rfl rfl f1_3 h_t45)<|Q7 (fun w hF hS => Wu (f := Jp) (i := x43_2) (sz := 2) (j := 0) (vs := [i6 t45.Num, i6 t45.Den]) isAgg70 Tryz.sizeOf70 rfl rfl (f1_3.row (hw.now hF)) h_t45 rfl) rfl rfl rfl<|?_
     refine Q2 (cs := [i6 0, i6 0]) zeroValue70 rfl rfl rfl (fun b8 => ?_)
     refine st (i := 1) [i6 t45.Num, i6 t45.Den] [i6 t45.Num, i6 t45.Den] Tryz.sizeOf70 rfl rfl<|Jd<|Jc<|Ja<|mv (sl p_5 l_3.length)<|mv (.bool a0)<|lf Tryz.runUnderlying70 rfl Tryz.sizeOf3 rfl<|ll 1 (i6 t45.Num) Tryz.isAgg3<|?_
     obtain ⟨t51, h_t51, H62⟩ := Je H61; clear H61
     refine Yi (Qh (rds := []) (fun w L' hF hS hi => k63 (Jm w)  h_t51) call63 rfl) rfl rfl rfl (fun p_6 => ?_)
     obtain ⟨l52, h_l52, H63⟩ := Je H62; clear H62
     refine J7 (X4 (i := 0) (hn := rfl) (rds := [2]) (p := p_5) (sz := 1) (by_ := 1) (f := Ys) (ys := l_3) (ls := t51) (V := sl p_6 t51.length) Tryz.underlying45 (Qn Tryz.typeInfo5) rfl rfl rfl rfl rfl rfl rfl rfl rfl rfl (fun w L' hF hS hi => Yf (i := 2) hS ((hi 2 (by simp)).trans rfl)) (fun _ => rfl) (fun _ => rfl) h_l52) rfl rfl rfl (fun p_7 => ?_)
     refine ag (sl p_7 l52.length)<|Jd<|Ja<|mv (sl p_7 l52.length)<|mv (.bool a0)<|lf Tryz.runUnderlying70 rfl Tryz.sizeOf3 rfl<|ll 1 (i6 t45.Den) Tryz.isAgg3<|?_
     obtain ⟨t57, h_t57, H64⟩ := Je H63; clear H63
     refine Yi (Qh (rds := []) (fun w L' hF hS hi => k63 (Jm w)  h_t57) call63 rfl) rfl rfl rfl (fun p_8 => ?_)
     obtain ⟨l58, h_l58, H65⟩ := Je H64; clear H64
     refine J7 (X4 (i := 0) (hn := rfl) (rds := [3]) (p := p_7) (sz := 1) (by_ := 1) (f := Ys) (ys := l52) (ls := t57) (V := sl p_8 t57.length) Tryz.underlying45 (Qn Tryz.typeInfo5) rfl rfl rfl rfl rfl rfl rfl rfl rfl rfl (fun w L' hF hS hi => Yf (i := 3) hS ((hi 3 (by simp)).trans rfl)) (fun _ => rfl) (fun _ => rfl) h_l58) rfl rfl rfl (fun p_9 => ?_)
     refine ag (sl p_9 l58.length)<|Jd<|?_
     try dsimp only [z1,z2,z5,z6,z7,z8]
     refine Ja ?_
     obtain ⟨t59, h_t59, H66⟩ := Je H65; clear H65
     refine lv (J8 rfl rfl h_t59)<|mv (i6 t59)<|Jd<|?_
     exact cl (t59, l58) p_9 m2 [0] (by exact ⟨(by subst hn2; exact H66), trivial⟩)
    ·refine Qo<|Jc<|Ja<|mv (sl p_5 l_3.length)<|ag (sl p_5 l_3.length)<|Jd<|Jh<|?_
     obtain rfl := sj H67
     refine J4 0 rfl (imp_wr _ _ _ _ _) ?_
     refine Uh (v := sl p_5 l_3.length) rfl rfl (X5 p_5 (i := 0) rfl rfl (Imp.refl _))
theorem k64_it (mm : Nat) : ∀ {a0 : Tf} {pb0 : Nat} {p0_1 : AN} {n0_1 : Nat} {a1 : (List Ta)} {v1 : Value} {r : Int × Int × Tf} {w : World} {h : Js} {S : Nat → Prop} (hcs : (Jz (Ji pb0 [.bool a0.kab, sl p0_1 n0_1] 123) (wrV 5 1 (sl p0_1 n0_1) n0_1 (a0.kak.map Ys))).P S w) (hlt : ∀ b, S b → b < w.heap.size) (hw : Know h w S) (hn0_1 : n0_1 = a0.kak.length) (f1 : FrN h 6 v1 g_tag_Entry a1) (H : it (fun (self : (Tf × (List Ta)) → Option (Int × Int × Tf)) (s : Tf × (List Ta)) => X3 self s.1 s.2) mm (a0, a1) = some r), Does prog 64 (List.toArray [pz pb0, v1]) w (fun v w' => ∃ x : AN, v = (.tuple #[i6 r.1, i6 r.2.1]) ∧ Turn w w' S (Jz (Ji pb0 [.bool r.2.2.kab, sl x r.2.2.kak.length] 123) (wrV 5 1 (sl x r.2.2.kak.length) r.2.2.kak.length (r.2.2.kak.map Ys)))) := by
 induction mm with
 | zero => intros; rename_i H; exact absurd H (by simp [it])
 | succ mm ih =>
  intro a0 pb0 p0_1 n0_1 a1 v1 r w h S hcs hlt hw hn0_1 f1 H
  replace H : X3 (it (fun (self : (Tf × (List Ta)) → Option (Int × Int × Tf)) (s : Tf × (List Ta)) => X3 self s.1 s.2) mm) a0 a1 = some r := H
  generalize it (fun (self : (Tf × (List Ta)) → Option (Int × Int × Tf)) (s : Tf × (List Ta)) => X3 self s.1 s.2) mm = self at H ih
  refine enter (n := 172) func64 rfl rfl rfl S [Jz (Ji pb0 [.bool a0.kab, sl p0_1 n0_1] 123) (wrV 5 1 (sl p0_1 n0_1) n0_1 (a0.kak.map Ys))] (Sat.one hcs hlt)<|Qa 0 rfl<|Jc<|Ja<|ag (i6 0)<|ag (i6 0)<|Jd<|Jc<|Ja<|mv (pz pb0)<|?_
  obtain ⟨t15, h_t15, H41⟩ := Je H; clear H
  refine bo 0 1 rfl rfl ?_
  refine J7 (Jw (i := 0) (rds := []) rfl (fun w L' S hF hS hi hp hlt ho hA => k110 hp hlt (Qe w S) hn0_1 h_t15) call110 rfl) rfl rfl rfl (fun p => ?_)
  refine ub 0 1 rfl rfl<|ag (i6 t15.1)<|Jd<|Jc<|?_
  exact Q1 (Kd.p :: Kd.p :: Kd.p :: Kd.p :: Kd.d [0] _ :: Kd.p :: Kd.p :: Kd.p :: Kd.d [0] _ :: Kd.p :: Kd.p :: Kd.t 2 [] _ _ :: Kd.t 1 [2] _ _ :: Kd.p :: Kd.p :: Kd.sv 30 28 0 _ 123 :: []) 1 mixed (by
   refine dm (pz pb0)<|dm (pz pb0)<|dv (Jg rfl)<|dv (J0 Tryz.runUnderlying123 rfl Tryz.sizeOf45 rfl rfl)<|dl (sl p t15.2.kak.length) Tryz.isAgg45<|dm (pz pb0)<|dv (Jg rfl)<|dv (J0 Tryz.runUnderlying123 rfl Tryz.sizeOf4 rfl rfl)<|dl (.bool t15.2.kab) isAgg4<|dm v1<|dv (Vk Tryz.underlying41 rfl f1)<|?_
   have h_t27 := Qc H41
   have H42 := J2 H41
   refine Jgw (Cv := fun v => Ju 5 1 v (val (Jl t15.2.kab (a1.length : Int) 2)).length ((val (Jl t15.2.kab (a1.length : Int) 2)).map Ys)) (none, 0) (Qh (fun w L' hF hS hi => k63 (Jm w)  h_t27) call63 rfl) (fun _ => rfl) rfl rfl rfl (fun p_2 => ?_)
   have h_l28 := Qc H42
   have H43 := J2 H42
   refine Jca (Cv := fun v => wrV 5 1 v (val (Xk 1 t15.2.kak (val (Jl t15.2.kab (a1.length : Int) 2)))).length ((val (Xk 1 t15.2.kak (val (Jl t15.2.kab (a1.length : Int) 2)))).map Ys)) (none, 0) (Ut (i := 1) (hn := rfl) (rds := [2]) (p := p) (sz := 1) (by_ := 1) (f := Ys) (ys := t15.2.kak) (ls := (val (Jl t15.2.kab (a1.length : Int) 2))) (V := sl p_2 (val (Jl t15.2.kab (a1.length : Int) 2)).length) Tryz.underlying45 (Qn Tryz.typeInfo5) rfl rfl rfl rfl rfl rfl rfl rfl rfl rfl (fun w L' hF hS hi => Yf (i := 2) hS ((hi 2 (by simp)).trans rfl)) (fun _ => rfl) (fun _ => rfl) h_l28) (fun _ => rfl) rfl rfl (fun p_3 => ?_)
   refine dv (Jg rfl)<|dv (J0 Tryz.runUnderlying123 rfl Tryz.sizeOf45 rfl rfl)<|Jcf (i := 0) (vs := [.slice p_3.1 (val (Xk 1 t15.2.kak (val (Jl t15.2.kab (a1.length : Int) 2)))).length p_3.2]) (cs' := fun v_ => [.bool t15.2.kab, v_]) Tryz.sizeOf45 rfl rfl rfl rfl rfl rfl rfl rfl rfl<|Vz<|?_
   refine Qm (r := r) (σ := (List Int)) (τ := AN) (fun s => Wo a1 self t15 s) (fun s t => [(0, pz pb0), (1, v1), (4, i6 t15.1)]) (fun s t => [Ji pb0 [.bool t15.2.kab, sl t s.length] 123, wrV 5 1 (sl t s.length) s.length (s.map Ys)]) (fun s t => True) ?_ ?_
   ·refine Jc<|Ja<|mv v1<|lv (Vk Tryz.underlying41 rfl f1)<|mv (i6 0)<|Jd<|Jq<|Uk 2<|?_
    try dsimp only [z1, z2, z3, z4, z5, z6, z7, z8]
    refine Yq (σ := Int × (List Int)) (τ := AN) (fun next5 s => X7 a1 self t15 next5 s.1 s.2) (fun s t => [(0, pz pb0), (1, v1), (4, i6 t15.1), (31, v1), (32, i6 (a1.length : Int)), (33, i6 s.1)]) (fun s t => [Ji pb0 [.bool t15.2.kab, sl t s.2.length] 123, wrV 5 1 (sl t s.2.length) s.2.length (s.2.map Ys)]) (fun s t => True) (0, (val (Xk 1 t15.2.kak (val (Jl t15.2.kab (a1.length : Int) 2))))) p_3 [0, 1] H43 (by exact trivial) (by exact ⟨rfl, rfl, rfl, rfl, rfl, rfl, trivial⟩) (by decide) rfl ?_
    rintro ⟨x33_2, l_7⟩ p_15 m5 gg H68 _
    clear H43
    try dsimp only at H68
    generalize hn5 : it (fun next5 s => X7 a1 self t15 next5 s.1 s.2) m5 = next5 at H68
    try dsimp only
    refine Jc<|Ja<|lv (Yh rfl rfl)<|Jd<|Jc<|?_
    revert H68
    refine ci (decide (x33_2 < (a1.length : Int))) rfl (fun hb H69=>?_) fun hb H80=>?_
    ·refine Jj<|Jc<|Jq<|Jc<|Ja<|?_
     obtain ⟨t35, h_t35, H70⟩ := Je H69; clear H69
     refine lv (Yz Tryz.underlying41 Tryz.sizeOf83 rfl rfl f1.frs (f1.ix h_t35))<|Q7 (fun w hF hS => Wu (f := (elC h v1 6)) (i := x33_2) (sz := 6) (j := 0) (vs := [i6 t35.Tag, i6 t35.Value.kah, str t35.Value.kai, (Xr h v1 6 (Int.toNat x33_2) 3), (Xr h v1 6 (Int.toNat x33_2) 4), (Xr h v1 6 (Int.toNat x33_2) 5)]) isAgg83 Tryz.sizeOf83 rfl rfl (f1.frs.row (hw.now hF)) (f1.ix h_t35) (rd_of (Wj (f1.at h_t35)) rfl)) rfl rfl rfl<|?_
     refine Q2 (cs := [i6 0, i6 0, str [], z0s, z0s, z0s]) zeroValue83 rfl rfl rfl (fun b6 => ?_)
     refine Xl (i := 2) (vs := [i6 t35.Tag, i6 t35.Value.kah, str t35.Value.kai, (Xr h v1 6 (Int.toNat x33_2) 3), (Xr h v1 6 (Int.toNat x33_2) 4), (Xr h v1 6 (Int.toNat x33_2) 5)]) (cs' := [i6 t35.Tag, i6 t35.Value.kah, str t35.Value.kai, (Xr h v1 6 (Int.toNat x33_2) 3), (Xr h v1 6 (Int.toNat x33_2) 4), (Xr h v1 6 (Int.toNat x33_2) 5)]) Tryz.sizeOf83 rfl rfl rfl rfl rfl rfl (by simp only [List.all_cons, List.all_nil, (show FrN h 6 (Xr h v1 6 (Int.toNat x33_2) 5) g_tag_Entry t35.Value.kaf from (Qx (Jt (f1.at h_t35)))).one, (show FrS h 1 (Xr h v1 6 (Int.toNat x33_2) 3) (t35.Value.kaj.map Q5) from (Xn (Jt (f1.at h_t35)))).one, (show FrS h 2 (Xr h v1 6 (Int.toNat x33_2) 4) (t35.Value.kag.map Jp) from (Xo (Jt (f1.at h_t35)))).one] <;> rfl) rfl rfl<|Jd<|Jc<|?_
     exact Q1 (Kd.p :: Kd.p :: Kd.p :: Kd.p :: Kd.d [0] _ :: Kd.p :: Kd.p :: Kd.p :: Kd.d [0] _ :: Kd.p :: Kd.d [2] _ :: Kd.t 3 [] _ _ :: Kd.t 1 [3] _ _ :: Kd.p :: Kd.p :: Kd.sv 51 49 0 _ 123 :: []) 1 mixed (by
      refine dm (pz pb0)<|dm (pz pb0)<|dv (Jg rfl)<|dv (J0 Tryz.runUnderlying123 rfl Tryz.sizeOf45 rfl rfl)<|dl (sl p_15 l_7.length) Tryz.isAgg45<|dm (pz pb0)<|dv (Jg rfl)<|dv (J0 Tryz.runUnderlying123 rfl Tryz.sizeOf4 rfl rfl)<|dl (.bool t15.2.kab) isAgg4<|dv (J0 Tryz.runUnderlying83 rfl Tryz.sizeOf3 rfl rfl)<|dl (i6 t35.Tag) Tryz.isAgg3<|?_
      have h_t48 := Qc H70
      have H71 := J2 H70
      refine Jgw (Cv := fun v => Ju 5 1 v (val (Jl t15.2.kab t35.Tag 2)).length ((val (Jl t15.2.kab t35.Tag 2)).map Ys)) (none, 0) (Qh (fun w L' hF hS hi => k63 (Jm w)  h_t48) call63 rfl) (fun _ => rfl) rfl rfl rfl (fun p_16 => ?_)
      have h_l49 := Qc H71
      have H72 := J2 H71
      refine Jca (Cv := fun v => wrV 5 1 v (val (Xk 1 l_7 (val (Jl t15.2.kab t35.Tag 2)))).length ((val (Xk 1 l_7 (val (Jl t15.2.kab t35.Tag 2)))).map Ys)) (none, 0) (Ut (i := 1) (hn := rfl) (rds := [3]) (p := p_15) (sz := 1) (by_ := 1) (f := Ys) (ys := l_7) (ls := (val (Jl t15.2.kab t35.Tag 2))) (V := sl p_16 (val (Jl t15.2.kab t35.Tag 2)).length) Tryz.underlying45 (Qn Tryz.typeInfo5) rfl rfl rfl rfl rfl rfl rfl rfl rfl rfl (fun w L' hF hS hi => Yf (i := 3) hS ((hi 3 (by simp)).trans rfl)) (fun _ => rfl) (fun _ => rfl) h_l49) (fun _ => rfl) rfl rfl (fun p_17 => ?_)
      refine dv (Jg rfl)<|dv (J0 Tryz.runUnderlying123 rfl Tryz.sizeOf45 rfl rfl)<|Jcf (i := 0) (vs := [sl p_17 (val (Xk 1 l_7 (val (Jl t15.2.kab t35.Tag 2)))).length]) (cs' := fun v_ => [.bool t15.2.kab, v_]) Tryz.sizeOf45 rfl rfl rfl rfl rfl rfl rfl rfl rfl<|Vz<|Jc<|?_
      exact Q1 (Kd.p :: Kd.p :: Kd.p :: Kd.p :: Kd.d [0] _ :: Kd.p :: Kd.p :: Kd.p :: Kd.d [0] _ :: Kd.p :: Kd.p :: Kd.d [2] _ :: Kd.t 4 [] _ _ :: Kd.t 1 [4] _ _ :: Kd.p :: Kd.p :: Kd.sv 67 65 0 _ 123 :: []) 1 mixed (by
       refine dm (pz pb0)<|dm (pz pb0)<|dv (Jg rfl)<|dv (J0 Tryz.runUnderlying123 rfl Tryz.sizeOf45 rfl rfl)<|dl (sl p_17 (val (Xk 1 l_7 (val (Jl t15.2.kab t35.Tag 2)))).length) Tryz.isAgg45<|dm (pz pb0)<|dv (Jg rfl)<|dv (J0 Tryz.runUnderlying123 rfl Tryz.sizeOf4 rfl rfl)<|dl (.bool t15.2.kab) isAgg4<|dv (J0 Tryz.runUnderlying83 rfl Tryz.sizeOf81 rfl rfl)<|dv (J0 Tryz.runUnderlying81 rfl Tryz.sizeOf3 rfl rfl)<|dl (i6 t35.Value.kah) Tryz.isAgg3<|?_
       have h_t64 := Qc H72
       have H73 := J2 H72
       refine Jgw (Cv := fun v => Ju 5 1 v (val (Jl t15.2.kab t35.Value.kah 2)).length ((val (Jl t15.2.kab t35.Value.kah 2)).map Ys)) (none, 0) (Qh (fun w L' hF hS hi => k63 (Jm w)  h_t64) call63 rfl) (fun _ => rfl) rfl rfl rfl (fun p_18 => ?_)
       have h_l65 := Qc H73
       have H74 := J2 H73
       refine Jca (Cv := fun v => wrV 5 1 v (val (Xk 1 (val (Xk 1 l_7 (val (Jl t15.2.kab t35.Tag 2)))) (val (Jl t15.2.kab t35.Value.kah 2)))).length ((val (Xk 1 (val (Xk 1 l_7 (val (Jl t15.2.kab t35.Tag 2)))) (val (Jl t15.2.kab t35.Value.kah 2)))).map Ys)) (none, 0) (Ut (i := 1) (hn := rfl) (rds := [4]) (p := p_17) (sz := 1) (by_ := 1) (f := Ys) (ys := (val (Xk 1 l_7 (val (Jl t15.2.kab t35.Tag 2))))) (ls := (val (Jl t15.2.kab t35.Value.kah 2))) (V := sl p_18 (val (Jl t15.2.kab t35.Value.kah 2)).length) Tryz.underlying45 (Qn Tryz.typeInfo5) rfl rfl rfl rfl rfl rfl rfl rfl rfl rfl (fun w L' hF hS hi => Yf (i := 4) hS ((hi 4 (by simp)).trans rfl)) (fun _ => rfl) (fun _ => rfl) h_l65) (fun _ => rfl) rfl rfl (fun p_19 => ?_)
       refine dv (Jg rfl)<|dv (J0 Tryz.runUnderlying123 rfl Tryz.sizeOf45 rfl rfl)<|Jcf (i := 0) (vs := [.slice p_19.1 (val (Xk 1 (val (Xk 1 l_7 (val (Jl t15.2.kab t35.Tag 2)))) (val (Jl t15.2.kab t35.Value.kah 2)))).length p_19.2]) (cs' := fun v_ => [.bool t15.2.kab, v_]) Tryz.sizeOf45 rfl rfl rfl rfl rfl rfl rfl rfl rfl<|Vz<|Jc<|?_
       exact Q1 (Kd.p :: Kd.p :: Kd.p :: Kd.p :: Kd.d [0] _ :: Kd.p :: Kd.p :: Kd.p :: Kd.d [0] _ :: Kd.p :: Kd.d [2] _ :: Kd.d [] _ :: Kd.t 5 [] _ _ :: Kd.t 1 [5] _ _ :: Kd.p :: Kd.p :: Kd.sv 83 81 0 _ 123 :: []) 1 mixed (by
        refine dm (pz pb0)<|dm (pz pb0)<|dv (Jg rfl)<|dv (J0 Tryz.runUnderlying123 rfl Tryz.sizeOf45 rfl rfl)<|dl (.slice p_19.1 (val (Xk 1 (val (Xk 1 l_7 (val (Jl t15.2.kab t35.Tag 2)))) (val (Jl t15.2.kab t35.Value.kah 2)))).length p_19.2) Tryz.isAgg45<|dm (pz pb0)<|dv (Jg rfl)<|dv (J0 Tryz.runUnderlying123 rfl Tryz.sizeOf4 rfl rfl)<|dl (.bool t15.2.kab) isAgg4<|dv (J0 Tryz.runUnderlying83 rfl Tryz.sizeOf81 rfl rfl)<|Jef (i := 2) (vs := [i6 t35.Value.kah, str t35.Value.kai, (Xr h v1 6 (Int.toNat x33_2) 3), (Xr h v1 6 (Int.toNat x33_2) 4), (Xr h v1 6 (Int.toNat x33_2) 5)]) Tryz.isAgg81 Tryz.sizeOf81 rfl rfl rfl rfl<|?_
        have h_t79 := Qc H74
        have H75 := J2 H74
        refine Jek (fun w L' hF hS hi => k111 (Jm w) ((show FrS h 1 (Xr h v1 6 (Int.toNat x33_2) 3) (t35.Value.kaj.map Q5) from (Xn (Jt (f1.at h_t35)))).mono (hw.now hF)) ((show FrS h 2 (Xr h v1 6 (Int.toNat x33_2) 4) (t35.Value.kag.map Jp) from (Xo (Jt (f1.at h_t35)))).mono (hw.now hF)) ((show FrN h 6 (Xr h v1 6 (Int.toNat x33_2) 5) g_tag_Entry t35.Value.kaf from (Qx (Jt (f1.at h_t35)))).mono (hw.now hF)) h_t79) call111 rfl rfl ?_
        have h_t80 := Qc H75
        have H76 := J2 H75
        refine Jgw (Cv := fun v => Ju 5 1 v (val (Jl t15.2.kab (val (Zf t35.Value)) 4)).length ((val (Jl t15.2.kab (val (Zf t35.Value)) 4)).map Ys)) (none, 0) (Qh (fun w L' hF hS hi => k63 (Jm w)  h_t80) call63 rfl) (fun _ => rfl) rfl rfl rfl (fun p_20 => ?_)
        have h_l81 := Qc H76
        have H77 := J2 H76
        refine Jca (Cv := fun v => wrV 5 1 v (val (Xk 1 (val (Xk 1 (val (Xk 1 l_7 (val (Jl t15.2.kab t35.Tag 2)))) (val (Jl t15.2.kab t35.Value.kah 2)))) (val (Jl t15.2.kab (val (Zf t35.Value)) 4)))).length ((val (Xk 1 (val (Xk 1 (val (Xk 1 l_7 (val (Jl t15.2.kab t35.Tag 2)))) (val (Jl t15.2.kab t35.Value.kah 2)))) (val (Jl t15.2.kab (val (Zf t35.Value)) 4)))).map Ys)) (none, 0) (Ut (i := 1) (hn := rfl) (rds := [5]) (p := p_19) (sz := 1) (by_ := 1) (f := Ys) (ys := (val (Xk 1 (val (Xk 1 l_7 (val (Jl t15.2.kab t35.Tag 2)))) (val (Jl t15.2.kab t35.Value.kah 2))))) (ls := (val (Jl t15.2.kab (val (Zf t35.Value)) 4))) (V := sl p_20 (val (Jl t15.2.kab (val (Zf t35.Value)) 4)).length) Tryz.underlying45 (Qn Tryz.typeInfo5) rfl rfl rfl rfl rfl rfl rfl rfl rfl rfl (fun w L' hF hS hi => Yf (i := 5) hS ((hi 5 (by simp)).trans rfl)) (fun _ => rfl) (fun _ => rfl) h_l81) (fun _ => rfl) rfl rfl (fun p_21 => ?_)
        refine dv (Jg rfl)<|dv (J0 Tryz.runUnderlying123 rfl Tryz.sizeOf45 rfl rfl)<|Jcf (i := 0) (vs := [.slice p_21.1 (val (Xk 1 (val (Xk 1 (val (Xk 1 l_7 (val (Jl t15.2.kab t35.Tag 2)))) (val (Jl t15.2.kab t35.Value.kah 2)))) (val (Jl t15.2.kab (val (Zf t35.Value)) 4)))).length p_21.2]) (cs' := fun v_ => [.bool t15.2.kab, v_]) Tryz.sizeOf45 rfl rfl rfl rfl rfl rfl rfl rfl rfl<|Vz<|Ja<|mv (pz pb0)<|mv (pz pb0)<|lv (Jg rfl)<|lf Tryz.runUnderlying123 rfl Tryz.sizeOf45 rfl<|ll 0 (.slice p_21.1 (val (Xk 1 (val (Xk 1 (val (Xk 1 l_7 (val (Jl t15.2.kab t35.Tag 2)))) (val (Jl t15.2.kab t35.Value.kah 2)))) (val (Jl t15.2.kab (val (Zf t35.Value)) 4)))).length p_21.2) Tryz.isAgg45<|?_
        refine Qj (vs := [.int .u8 0, .int .u8 0, .int .u8 0, .int .u8 0]) (cs := [.int .u8 0, .int .u8 0, .int .u8 0, .int .u8 0]) Tryz.underlying45 sizeOf5 zeroValue5 rfl rfl rfl rfl rfl rfl rfl (fun b7 => ?_)
        obtain ⟨l90, h_l90, H78⟩ := Je H77; clear H77
        refine J7 (Ut (i := 1) (hn := rfl) (rds := [6]) (p := p_21) (sz := 1) (by_ := 1) (f := Ys) (ys := (val (Xk 1 (val (Xk 1 (val (Xk 1 l_7 (val (Jl t15.2.kab t35.Tag 2)))) (val (Jl t15.2.kab t35.Value.kah 2)))) (val (Jl t15.2.kab (val (Zf t35.Value)) 4))))) (ls := ([0, 0, 0, 0] : List Int)) (V := .slice (some ⟨b7, 0, none⟩) 4 4) Tryz.underlying45 (Qn Tryz.typeInfo5) rfl rfl rfl rfl rfl rfl rfl rfl rfl rfl (fun w L' hF hS hi => Vl (i := 6) hS ((hi 6 (by simp)).trans rfl) rfl rfl) (fun _ => rfl) (fun _ => rfl) h_l90) rfl rfl rfl (fun p_22 => ?_)
        refine lv (Jg rfl)<|lf Tryz.runUnderlying123 rfl Tryz.sizeOf45 rfl<|st (i := 0) [sl p_22 l90.length] [.bool t15.2.kab, sl p_22 l90.length] Tryz.sizeOf45 rfl rfl<|Jd<|Ja<|?_
        obtain ⟨t93, h_t93, H79⟩ := Je H78; clear H78
        refine lv (J8 rfl rfl h_t93)<|mv (i6 t93)<|Jd<|?_
        exact cl (t93, l90) p_22 m5 [0, 1] (by exact ⟨(by subst hn5; exact H79), trivial⟩)
        ) (by kernel_rfl)
       ) (by kernel_rfl)
      ) (by kernel_rfl)
    ·refine Qo ?_
     exact cl l_7 p_15 0 [0, 1] (by exact ⟨H80, trivial⟩)
   ·rintro l p_4 gg H44 _
    try dsimp only at H44
    try dsimp only
    refine Jc<|Ja<|mv (pz pb0)<|lv (Jg rfl)<|lf Tryz.runUnderlying123 rfl Tryz.sizeOf45 rfl<|ll 0 (sl p_4 l.length) Tryz.isAgg45<|lv (U6 Tryz.underlying45 rfl)<|ag (i6 (l.length : Int))<|Jd<|Jc<|Ja<|mv (pz pb0)<|mv (pz pb0)<|lv (Jg rfl)<|lf Tryz.runUnderlying123 rfl Tryz.sizeOf45 rfl<|ll 0 (sl p_4 l.length) Tryz.isAgg45<|?_
    refine Qj (vs := [.int .u8 0, .int .u8 0, .int .u8 0, .int .u8 0]) (cs := [.int .u8 0, .int .u8 0, .int .u8 0, .int .u8 0]) Tryz.underlying45 sizeOf5 zeroValue5 rfl rfl rfl rfl rfl rfl rfl (fun b4 => ?_)
    obtain ⟨l105, h_l105, H45⟩ := Je H44; clear H44
    refine J7 (Ut (i := 1) (hn := rfl) (rds := [2]) (p := p_4) (sz := 1) (by_ := 1) (f := Ys) (ys := l) (ls := ([0, 0, 0, 0] : List Int)) (V := .slice (some ⟨b4, 0, none⟩) 4 4) Tryz.underlying45 (Qn Tryz.typeInfo5) rfl rfl rfl rfl rfl rfl rfl rfl rfl rfl (fun w L' hF hS hi => Vl (i := 2) hS ((hi 2 (by simp)).trans rfl) rfl rfl) (fun _ => rfl) (fun _ => rfl) h_l105) rfl rfl rfl (fun p_5 => ?_)
    refine lv (Jg rfl)<|lf Tryz.runUnderlying123 rfl Tryz.sizeOf45 rfl<|st (i := 0) [sl p_5 l105.length] [.bool t15.2.kab, sl p_5 l105.length] Tryz.sizeOf45 rfl rfl<|Jd<|?_
    refine Qm (r := r) (σ := Bool × (List Int)) (τ := AN × Nat) (fun s => Jcg t15 l s.1 s.2) (fun s t => [(4, i6 t15.1), (5, i6 (l.length : Int))]) (fun s t => [Ji pb0 [.bool s.1, .slice t.1.1 t.2 t.1.2] 123, wrV 5 1 (.slice t.1.1 t.2 t.1.2) t.2 (s.2.map Ys)]) (fun s t => t.2 = s.2.length) ?_ ?_
    ·refine Jc<|Ja<|mv v1<|lv (Vk Tryz.underlying41 rfl f1)<|mv (i6 0)<|Jd<|Jq<|Uk 2<|?_
     try dsimp only [z1, z2, z3, z4, z5, z6, z7, z8]
     refine Yq (σ := Int × Bool × (List Int)) (τ := AN × Nat) (fun next3 s => Yu a1 self t15 l next3 s.1 s.2.1 s.2.2) (fun s t => [(0, pz pb0), (4, i6 t15.1), (5, i6 (l.length : Int)), (108, v1), (109, i6 (a1.length : Int)), (110, i6 s.1)]) (fun s t => [Ji pb0 [.bool s.2.1, .slice t.1.1 t.2 t.1.2] 123, wrV 5 1 (.slice t.1.1 t.2 t.1.2) t.2 (s.2.2.map Ys)]) (fun s t => t.2 = s.2.2.length) (0, t15.2.kab, l105) (p_5, l105.length) [0, 1] H45 (by exact rfl) (by exact ⟨rfl, rfl, rfl, rfl, rfl, rfl, trivial⟩) (by decide) rfl ?_
     rintro ⟨x110_2, m_3, l_4⟩ ⟨p_7, n_2⟩ m3 gg H47 hl_3
     clear H45
     try dsimp only at H47
     generalize hn3 : it (fun next3 s => Yu a1 self t15 l next3 s.1 s.2.1 s.2.2) m3 = next3 at H47
     try dsimp only
     refine Jc<|Ja<|lv (Yh rfl rfl)<|Jd<|Jc<|?_
     revert H47
     refine ci (decide (x110_2 < (a1.length : Int))) rfl (fun hb H48=>?_) fun hb H67=>?_
     ·refine Jj ?_
      refine Qm (r := r) (σ := Bool × (List Int)) (τ := AN × Nat) (fun s => Z3 x110_2 next3 s.1 s.2) (fun s t => [(0, pz pb0), (4, i6 t15.1), (5, i6 (l.length : Int)), (108, v1), (109, i6 (a1.length : Int)), (110, i6 x110_2)]) (fun s t => [Ji pb0 [.bool s.1, .slice t.1.1 t.2 t.1.2] 123, wrV 5 1 (.slice t.1.1 t.2 t.1.2) t.2 (s.2.map Ys)]) (fun s t => t.2 = s.2.length) ?_ ?_
      ·refine Jq<|Jc<|Ja<|mv (i6 x110_2)<|?_
       obtain ⟨t113, h_t113, H51⟩ := Je H48; clear H48
       refine lv (Yz Tryz.underlying41 Tryz.sizeOf83 rfl rfl f1.frs (f1.ix h_t113))<|Q7 (fun w hF hS => Wu (f := (elC h v1 6)) (i := x110_2) (sz := 6) (j := 0) (vs := [i6 t113.Tag, i6 t113.Value.kah, str t113.Value.kai, (Xr h v1 6 (Int.toNat x110_2) 3), (Xr h v1 6 (Int.toNat x110_2) 4), (Xr h v1 6 (Int.toNat x110_2) 5)]) isAgg83 Tryz.sizeOf83 rfl rfl (f1.frs.row (hw.now hF)) (f1.ix h_t113) (rd_of (Wj (f1.at h_t113)) rfl)) rfl rfl rfl<|?_
       refine Q2 (cs := [i6 0, i6 0, str [], z0s, z0s, z0s]) zeroValue83 rfl rfl rfl (fun b5 => ?_)
       refine ag (i6 x110_2)<|Xl (i := 2) (vs := [i6 t113.Tag, i6 t113.Value.kah, str t113.Value.kai, (Xr h v1 6 (Int.toNat x110_2) 3), (Xr h v1 6 (Int.toNat x110_2) 4), (Xr h v1 6 (Int.toNat x110_2) 5)]) (cs' := [i6 t113.Tag, i6 t113.Value.kah, str t113.Value.kai, (Xr h v1 6 (Int.toNat x110_2) 3), (Xr h v1 6 (Int.toNat x110_2) 4), (Xr h v1 6 (Int.toNat x110_2) 5)]) Tryz.sizeOf83 rfl rfl rfl rfl rfl rfl (by simp only [List.all_cons, List.all_nil, (show FrN h 6 (Xr h v1 6 (Int.toNat x110_2) 5) g_tag_Entry t113.Value.kaf from (Qx (Jt (f1.at h_t113)))).one, (show FrS h 1 (Xr h v1 6 (Int.toNat x110_2) 3) (t113.Value.kaj.map Q5) from (Xn (Jt (f1.at h_t113)))).one, (show FrS h 2 (Xr h v1 6 (Int.toNat x110_2) 4) (t113.Value.kag.map Jp) from (Xo (Jt (f1.at h_t113)))).one] <;> rfl) rfl rfl<|Jd<|Jc<|Ja<|mv (i6 t15.1)<|?_
       obtain ⟨t116, h_t116, H52⟩ := Je H51; clear H51
       refine lv (J8 rfl rfl h_t116)<|mv (i6 x110_2)<|?_
       obtain ⟨t118, h_t118, H53⟩ := Je H52; clear H52
       refine lv (Jct rfl rfl h_t118) ?_
       obtain ⟨t119, h_t119, H54⟩ := Je H53; clear H53
       refine lv (J8 rfl rfl h_t119) ?_
       obtain ⟨t120, h_t120, H55⟩ := Je H54; clear H54
       refine lv (J8 rfl rfl h_t120)<|ag (i6 t120)<|Jd<|Jc<|Jc<|Ja<|lf Tryz.runUnderlying83 rfl Tryz.sizeOf81 rfl<|lf Tryz.runUnderlying81 rfl Tryz.sizeOf3 rfl<|ll 2 (i6 t113.Value.kah) Tryz.isAgg3<|lv (Qg rfl rfl)<|Jd<|?_
       revert H55
       refine ci (decide (t113.Value.kah = 13)) rfl (fun hb H56=>?_) fun hb H59=>?_
       ·refine Jc<|Ja<|mv (pz pb0)<|lf Tryz.runUnderlying83 rfl Tryz.sizeOf81 rfl<|lf Tryz.runUnderlying81 rfl Tryz.sizeOf41 rfl<|ll 2 (Xr h v1 6 (Int.toNat x110_2) 5) isAgg41<|?_
        obtain ⟨t130, h_t130, H57⟩ := Je H56; clear H56
        refine bo 0 1 rfl rfl ?_
        refine J7 (Jw (i := 0) (rds := []) rfl (fun w L' S hF hS hi hp hlt ho hA => ih (a0 := (⟨m_3, l_4⟩ : Tf)) hp hlt (Qe w S) hl_3 ((show FrN h 6 (Xr h v1 6 (Int.toNat x110_2) 5) g_tag_Entry t113.Value.kaf from (Qx (Jt (f1.at h_t113)))).mono (hw.but hF ho)) h_t130) call64 rfl) rfl rfl rfl (fun p_9 => ?_)
        refine ub 0 1 rfl rfl<|mv (.tuple #[i6 t130.1, i6 t130.2.1])<|lv (Jk (v := i6 t130.1) rfl rfl)<|lv (Jk (v := i6 t130.2.1) rfl rfl)<|ag (i6 t130.1)<|ag (i6 t130.2.1)<|Jd<|Jc<|Ja<|mv (pz pb0)<|mv (i6 t120)<|mv (i6 t130.1)<|?_
        obtain ⟨t136, h_t136, H58⟩ := Je H57; clear H57
        refine bo 0 1 rfl rfl ?_
        refine J7 (Jw (i := 0) (rds := []) rfl (fun w L' S hF hS hi hp hlt ho hA => k65 hp hlt (Qe w S) rfl h_t136) call65 rfl) rfl rfl rfl (fun p_10 => ?_)
        refine ub 0 1 rfl rfl<|Jd<|Qo<|?_
        exact cl (t136.kab, t136.kak) (p_10, t136.kak.length) 0 [0, 1] (by exact ⟨H58, rfl⟩)
       ·refine Jj<|Jc<|?_
        try dsimp only [z1,z2,z5,z6,z7,z8]
        exact Q1 (Kd.p :: Kd.p :: Kd.p :: Kd.d [0] _ :: Kd.p :: Kd.d [2] _ :: Kd.t 3 [] _ _ :: Kd.p :: []) 1 mixed (by
         refine dm (pz pb0)<|dv (Jg rfl)<|dv (J0 Tryz.runUnderlying123 rfl Tryz.sizeOf4 rfl rfl)<|dl (.bool m_3) isAgg4<|dv (J0 Tryz.runUnderlying83 rfl Tryz.sizeOf81 rfl rfl)<|Jef (i := 2) (vs := [i6 t113.Value.kah, str t113.Value.kai, (Xr h v1 6 (Int.toNat x110_2) 3), (Xr h v1 6 (Int.toNat x110_2) 4), (Xr h v1 6 (Int.toNat x110_2) 5)]) Tryz.isAgg81 Tryz.sizeOf81 rfl rfl rfl rfl<|?_
         have h_t143 := Qc H59
         have H60 := J2 H59
         refine Jgw (Cv := fun v => wrV 5 1 v (val (Y3 m_3 t113.Value)).length ((val (Y3 m_3 t113.Value)).map Ys)) (none, 0) (Qh (fun w L' hF hS hi => k112 (Jm w) ((show FrS h 1 (Xr h v1 6 (Int.toNat x110_2) 3) (t113.Value.kaj.map Q5) from (Xn (Jt (f1.at h_t113)))).mono (hw.now hF)) ((show FrS h 2 (Xr h v1 6 (Int.toNat x110_2) 4) (t113.Value.kag.map Jp) from (Xo (Jt (f1.at h_t113)))).mono (hw.now hF)) ((show FrN h 6 (Xr h v1 6 (Int.toNat x110_2) 5) g_tag_Entry t113.Value.kaf from (Qx (Jt (f1.at h_t113)))).mono (hw.now hF)) h_t143) call112 rfl) (fun _ => rfl) rfl rfl rfl (fun p_11 => ?_)
         refine Qy rfl rfl (Jr (v := sl p_11 (val (Y3 m_3 t113.Value)).length) rfl)<|Vz<|Jc<|Jc<|Ja<|mv (sl p_11 (val (Y3 m_3 t113.Value)).length)<|lv (U6 Tryz.underlying45 rfl)<|lv (r_leq rfl rfl)<|Jd<|?_
         revert H60
         refine ci (decide (((val (Y3 m_3 t113.Value)).length : Int) ≤ 4)) rfl (fun hb H61=>?_) fun hb H63=>?_
         ·refine Jc<|Ja<|mv (pz pb0)<|lv (Jg rfl)<|lf Tryz.runUnderlying123 rfl Tryz.sizeOf45 rfl<|ll 0 (sl p_7 n_2) Tryz.isAgg45<|mv (i6 t120)<|?_
          obtain ⟨t152, h_t152, H62⟩ := Je H61; clear H61
          refine Q7 (v := .slice (Ya p_7.1 (Int.toNat t120) p_7.2 1) t152.length (p_7.2 - Int.toNat t120)) (fun w hF hS => Jge (xs := l_4) Tryz.underlying45 sizeOf5 rfl rfl hl_3 (capOfW (i := 1) hS rfl) h_t152) rfl rfl rfl<|mv (sl p_11 (val (Y3 m_3 t113.Value)).length)<|?_
          refine J7 (Jiw (i := 1) (rds := [3]) (p := p_7) (f := Ys) (xs := l_4) (ts := t152) (ys := (val (Y3 m_3 t113.Value))) hl_3 Tryz.underlying45 (by rw [Qn Tryz.typeInfo5]; rfl) rfl rfl h_t152 rfl rfl (fun w L' hF hS hi => offOfW (i := 3) hS ((hi 3 (by simp)).trans rfl)) (fun _ => rfl) (fun _ => rfl)) rfl rfl rfl (fun _ => ?_)
          refine Jd<|Qo<|?_
          exact cl (m_3, (cpyL l_4 t120 t152.length (val (Y3 m_3 t113.Value)))) (p_7, n_2) 0 [0, 1] (by exact ⟨H62, (cpyL_n hl_3 h_t152)⟩)
         ·refine Jj<|Jc<|Ja<|mv (pz pb0)<|mv (i6 t120)<|mv (pz pb0)<|?_
          obtain ⟨t158, h_t158, H64⟩ := Je H63; clear H63
          refine bo 0 1 rfl rfl ?_
          refine J7 (Jw (i := 0) (rds := []) rfl (fun w L' S hF hS hi hp hlt ho hA => k110 (a0 := (⟨m_3, l_4⟩ : Tf)) hp hlt (Qe w S) hl_3 h_t158) call110 rfl) rfl rfl rfl (fun p_12 => ?_)
          refine ub 0 1 rfl rfl ?_
          obtain ⟨t159, h_t159, H65⟩ := Je H64; clear H64
          refine bo 0 1 rfl rfl ?_
          refine J7 (Jw (i := 0) (rds := []) rfl (fun w L' S hF hS hi hp hlt ho hA => k65 hp hlt (Qe w S) rfl h_t159) call65 rfl) rfl rfl rfl (fun p_13 => ?_)
          refine ub 0 1 rfl rfl<|Jd<|?_
          try dsimp only [z1,z2,z5,z6,z7,z8]
          refine Ja<|mv (pz pb0)<|mv (pz pb0)<|lv (Jg rfl)<|lf Tryz.runUnderlying123 rfl Tryz.sizeOf45 rfl<|ll 0 (sl p_13 t159.kak.length) Tryz.isAgg45<|mv (sl p_11 (val (Y3 m_3 t113.Value)).length)<|?_
          obtain ⟨l166, h_l166, H66⟩ := Je H65; clear H65
          refine J7 (Ut (i := 1) (hn := rfl) (rds := [3]) (p := p_13) (sz := 1) (by_ := 1) (f := Ys) (ys := t159.kak) (ls := (val (Y3 m_3 t113.Value))) (V := sl p_11 (val (Y3 m_3 t113.Value)).length) Tryz.underlying45 (Qn Tryz.typeInfo5) rfl rfl rfl rfl rfl rfl rfl rfl rfl rfl (fun w L' hF hS hi => offOfW (i := 3) hS ((hi 3 (by simp)).trans rfl)) (fun _ => rfl) (fun _ => rfl) h_l166) rfl rfl rfl (fun p_14 => ?_)
          refine lv (Jg rfl)<|lf Tryz.runUnderlying123 rfl Tryz.sizeOf45 rfl<|st (i := 0) [sl p_14 l166.length] [.bool t159.kab, sl p_14 l166.length] Tryz.sizeOf45 rfl rfl<|Jd<|?_
          exact cl (t159.kab, l166) (p_14, l166.length) 0 [0, 1] (by exact ⟨H66, rfl⟩)
         ) (by kernel_rfl)
      ·rintro ⟨m_4, l_5⟩ ⟨p_8, n_3⟩ gg H49 hl_4
       try dsimp only at H49
       try dsimp only
       refine Ja ?_
       obtain ⟨t169, h_t169, H50⟩ := Je H49; clear H49
       refine lv (J8 rfl rfl h_t169)<|mv (i6 t169)<|Jd<|?_
       exact cl (t169, m_4, l_5) (p_8, n_3) m3 [0, 1] (by exact ⟨(by subst hn3; exact H50), hl_4⟩)
     ·refine Qo ?_
      exact cl (m_3, l_4) (p_7, n_2) 0 [0, 1] (by exact ⟨H67, hl_3⟩)
    ·rintro ⟨m, l_2⟩ ⟨p_6, n⟩ gg H46 hl
     try dsimp only at H46
     try dsimp only
     refine Jc<|Ja<|mv (i6 t15.1)<|mv (i6 (l.length : Int))<|ag (i6 t15.1)<|ag (i6 (l.length : Int))<|Jd<|Jh<|?_
     obtain rfl := sj H46
     refine bo 0 1 rfl rfl ?_
     refine Jba (v1 := i6 t15.1) (v2 := i6 (l.length : Int)) rfl rfl rfl (X5 p_6 (i := 0) rfl (by first | rfl | rw [(show n = l_2.length from hl)]) (by first | exact Imp.refl _ | exact Imp.of (by rw [(show n = l_2.length from hl)] <;> rfl)))
   ) (by kernel_rfl)
theorem k64 {a0 : Tf} {pb0 : Nat} {p0_1 : AN} {n0_1 : Nat} {a1 : (List Ta)} {v1 : Value} {r : Int × Int × Tf} {w : World} {h : Js} {S : Nat → Prop} (hcs : (Jz (Ji pb0 [.bool a0.kab, sl p0_1 n0_1] 123) (wrV 5 1 (sl p0_1 n0_1) n0_1 (a0.kak.map Ys))).P S w) (hlt : ∀ b, S b → b < w.heap.size) (hw : Know h w S) (hn0_1 : n0_1 = a0.kak.length) (f1 : FrN h 6 v1 g_tag_Entry a1) (H : Jb4 a0 a1 = some r) : Does prog 64 (List.toArray [pz pb0, v1]) w (fun v w' => ∃ x : AN, v = (.tuple #[i6 r.1, i6 r.2.1]) ∧ Turn w w' S (Jz (Ji pb0 [.bool r.2.2.kab, sl x r.2.2.kak.length] 123) (wrV 5 1 (sl x r.2.2.kak.length) r.2.2.kak.length (r.2.2.kak.map Ys)))) := by
 obtain ⟨mm, hm⟩ := Jin (show Z8 (fun (self : (Tf × (List Ta)) → Option (Int × Int × Tf)) (s : Tf × (List Ta)) => X3 self s.1 s.2) (a0, a1) = some r from H)
 exact k64_it mm hcs hlt hw hn0_1 f1 hm
theorem k33 {a0 : Tg} {v0_1 : Value} {r : (List UInt8)} {w : World} {h : Js} (hw : Know h w Zk) (f0_1 : FrN h 1 v0_1 gs_tag_Entry a0.kal) (H : Jec a0 = some r) : Does prog 33 (List.toArray [.agg #[.bool a0.Big, v0_1]]) w (fun v w' => v = (str r) ∧ Grow w w') := by
 refine enter (n := 71) func33 rfl rfl rfl Zk [] (Sat.nil _ _)<|Jc<|Ja<|?_
 refine Jat (cs := [.bool a0.Big, v0_1]) rfl rfl rfl rfl (fun b5 => ?_)
 refine ag (str [])<|Jd<|Jc<|Ja<|lf Tryz.runUnderlying24 rfl Tryz.sizeOf4 rfl<|ll 0 (.bool a0.Big) isAgg4<|?_
 refine Qj (vs := [.int .u8 73, .int .u8 73]) (cs := [.int .u8 73, .int .u8 73]) Tryz.underlying45 sizeOf5 zeroValue5 rfl rfl rfl rfl rfl rfl rfl (fun b6 => ?_)
 refine J7 (Jkj (i := 1) (rds := []) (f := Ys) (xs := ([73, 73] : List Int)) (m := 2) (sz := 1) rfl Tryz.underlying45 underlying5 rfl rfl rfl rfl rfl rfl) rfl rfl rfl (fun _ => ?_)
 refine lv (Xh (pl := #[(0, 1), (1, 1)]) (ps := [(0, .bool a0.Big), (1, .slice ((some ⟨b6, 0, none⟩, 2) : AN).1 2 ((some ⟨b6, 0, none⟩, 2) : AN).2)]) (cells := #[.bool a0.Big, .slice ((some ⟨b6, 0, none⟩, 2) : AN).1 2 ((some ⟨b6, 0, none⟩, 2) : AN).2]) zeroValue123 Tryz.runUnderlying123 (fun w => by kernel_rfl) rfl rfl) ?_
 refine Jat (cs := [.bool a0.Big, .slice ((some ⟨b6, 0, none⟩, 2) : AN).1 2 ((some ⟨b6, 0, none⟩, 2) : AN).2]) rfl rfl rfl rfl (fun b7 => ?_)
 refine ag (pz b7)<|Jd<|?_
 refine Qm (r := r) (σ := (List Int)) (τ := AN × Nat) (fun s => Jao a0 s) (fun s t => [(1, pz b5), (3, pz b7)]) (fun s t => [Ji b5 [.bool a0.Big, v0_1] 24, Ji b7 [.bool a0.Big, .slice t.1.1 t.2 t.1.2] 123, apV 5 1 (.slice t.1.1 t.2 t.1.2) t.2 (s.map Ys)]) (fun s t => t.2 = s.length) ?_ ?_
 ·refine Jc ?_
  try dsimp only [z1,z2,z5,z6,z7,z8]
  refine Ja<|lf Tryz.runUnderlying24 rfl Tryz.sizeOf4 rfl<|ll 0 (.bool a0.Big) isAgg4<|Jd<|?_
  revert H
  refine ci (a0.Big) rfl (fun hb H27=>?_) fun hb H28=>?_
  ·refine Ja<|mv (pz b7)<|?_
   refine Qj (vs := [.int .u8 77, .int .u8 77]) (cs := [.int .u8 77, .int .u8 77]) Tryz.underlying45 sizeOf5 zeroValue5 rfl rfl rfl rfl rfl rfl rfl (fun b9 => ?_)
   refine J7 (Jkj (i := 3) (rds := []) (f := Ys) (xs := ([77, 77] : List Int)) (m := 2) (sz := 1) rfl Tryz.underlying45 underlying5 rfl rfl rfl rfl rfl rfl) rfl rfl rfl (fun _ => ?_)
   refine lv (Jg rfl)<|lf Tryz.runUnderlying123 rfl Tryz.sizeOf45 rfl<|st (i := 2) [.slice ((some ⟨b9, 0, none⟩, 2) : AN).1 2 ((some ⟨b9, 0, none⟩, 2) : AN).2] [.bool a0.Big, .slice ((some ⟨b9, 0, none⟩, 2) : AN).1 2 ((some ⟨b9, 0, none⟩, 2) : AN).2] Tryz.sizeOf45 rfl rfl<|Jd<|?_
   exact cl ([77, 77] : List Int) (((some ⟨b9, 0, none⟩, 2) : AN), 2) 0 [0, 2, 3] (by exact ⟨H27, rfl⟩)
  ·refine Jj ?_
   exact cl ([73, 73] : List Int) (((some ⟨b6, 0, none⟩, 2) : AN), 2) 0 [0, 2, 1] (by exact ⟨H28, rfl⟩)
 ·rintro l ⟨p, n⟩ gg H15 hl
  try dsimp only at H15
  try dsimp only
  refine Jc ?_
  exact Q1 (Kd.p :: Kd.p :: Kd.p :: Kd.p :: Kd.d [1] _ :: Kd.p :: Kd.d [0] _ :: Kd.t 3 [] _ _ :: Kd.t 2 [3] _ _ :: Kd.p :: Kd.p :: Kd.sv 32 30 1 _ 123 :: []) 1 mixed (by
   refine dm (pz b7)<|dm (pz b7)<|dv (Jg rfl)<|dv (J0 Tryz.runUnderlying123 rfl Tryz.sizeOf45 rfl rfl)<|dl (sl p n) Tryz.isAgg45<|dv (J0 Tryz.runUnderlying24 rfl Tryz.sizeOf4 rfl rfl)<|dl (.bool a0.Big) isAgg4<|?_
   have h_t29 := Qc H15
   have H16 := J2 H15
   refine Jgw (Cv := fun v => Ju 5 1 v (val (Jl a0.Big 42 2)).length ((val (Jl a0.Big 42 2)).map Ys)) (none, 0) (Qh (fun w L' hF hS hi => k63 (Jm w)  h_t29) call63 rfl) (fun _ => rfl) rfl rfl rfl (fun p_2 => ?_)
   have h_l30 := Qc H16
   have H17 := J2 H16
   refine Jca (Cv := fun v => Ju 5 1 v (val (gApN 1 l (val (Jl a0.Big 42 2)))).length ((val (gApN 1 l (val (Jl a0.Big 42 2)))).map Ys)) (none, 0) (turns_appN (i := 2) (hn := hl) (rds := [3]) (p := p) (sz := 1) (by_ := 1) (f := Ys) (ys := l) (ls := (val (Jl a0.Big 42 2))) (V := sl p_2 (val (Jl a0.Big 42 2)).length) Tryz.underlying45 (Qn Tryz.typeInfo5) rfl rfl rfl rfl rfl rfl rfl rfl rfl rfl (fun w L' hF hS hi => Yf (i := 3) hS ((hi 3 (by simp)).trans rfl)) (fun _ => rfl) (fun _ => rfl) h_l30) (fun _ => rfl) rfl rfl (fun p_3 => ?_)
   refine dv (Jg rfl)<|dv (J0 Tryz.runUnderlying123 rfl Tryz.sizeOf45 rfl rfl)<|Jcf (i := 1) (vs := [sl p_3 (val (gApN 1 l (val (Jl a0.Big 42 2)))).length]) (cs' := fun v_ => [.bool a0.Big, v_]) Tryz.sizeOf45 rfl rfl rfl rfl rfl rfl rfl rfl rfl<|Vz<|Jc<|Ja<|mv (pz b7)<|lv (Jg rfl)<|lf Tryz.runUnderlying123 rfl Tryz.sizeOf45 rfl<|ll 1 (sl p_3 (val (gApN 1 l (val (Jl a0.Big 42 2)))).length) Tryz.isAgg45<|lv (U6 Tryz.underlying45 rfl)<|ag (i6 ((val (gApN 1 l (val (Jl a0.Big 42 2)))).length : Int))<|Jd<|Jc<|Ja<|mv (pz b7)<|mv (pz b7)<|lv (Jg rfl)<|lf Tryz.runUnderlying123 rfl Tryz.sizeOf45 rfl<|ll 1 (sl p_3 (val (gApN 1 l (val (Jl a0.Big 42 2)))).length) Tryz.isAgg45<|?_
   refine Qj (vs := [.int .u8 0, .int .u8 0, .int .u8 0, .int .u8 0]) (cs := [.int .u8 0, .int .u8 0, .int .u8 0, .int .u8 0]) Tryz.underlying45 sizeOf5 zeroValue5 rfl rfl rfl rfl rfl rfl rfl (fun b8 => ?_)
   obtain ⟨l44, h_l44, H18⟩ := Je H17; clear H17
   refine J7 (X4 (i := 2) (hn := rfl) (rds := [4]) (p := p_3) (sz := 1) (by_ := 1) (f := Ys) (ys := (val (gApN 1 l (val (Jl a0.Big 42 2))))) (ls := ([0, 0, 0, 0] : List Int)) (V := .slice (some ⟨b8, 0, none⟩) 4 4) Tryz.underlying45 (Qn Tryz.typeInfo5) rfl rfl rfl rfl rfl rfl rfl rfl rfl rfl (fun w L' hF hS hi => Vl (i := 4) hS ((hi 4 (by simp)).trans rfl) rfl rfl) (fun _ => rfl) (fun _ => rfl) h_l44) rfl rfl rfl (fun p_4 => ?_)
   refine lv (Jg rfl)<|lf Tryz.runUnderlying123 rfl Tryz.sizeOf45 rfl<|st (i := 1) [sl p_4 l44.length] [.bool a0.Big, sl p_4 l44.length] Tryz.sizeOf45 rfl rfl<|Jd<|?_
   refine Qm (r := r) (σ := Bool × (List Int)) (τ := AN) (fun s => Jdw s.1 s.2) (fun s t => [(3, pz b7)]) (fun s t => [Ji b7 [.bool s.1, sl t s.2.length] 123, wrV 5 1 (sl t s.2.length) s.2.length (s.2.map Ys)]) (fun s t => True) ?_ ?_
   ·refine Jc<|Ja<|lf Tryz.runUnderlying24 rfl sizeOf22 rfl<|ll 0 v0_1 isAgg22<|lv (Vk Tryz.underlying22 rfl f0_1)<|mv (i6 0)<|Jd<|Jq<|?_
    refine Uk 4 <| Uk 3 <| Uk 0 ?_
    try dsimp only [z1, z2, z3, z4, z5, z6, z7, z8]
    refine J4 1 rfl (imp_wr _ _ _ _ _) ?_
    refine Yq (σ := Int × Int × Bool × (List Int)) (τ := AN) (fun next3 s => Z1 a0 next3 s.1 s.2.1 s.2.2.1 s.2.2.2) (fun s t => [(3, pz b7), (4, i6 s.1), (48, v0_1), (49, i6 (a0.kal.length : Int)), (50, i6 s.2.1)]) (fun s t => [Ji b7 [.bool s.2.2.1, sl t s.2.2.2.length] 123, wrV 5 1 (sl t s.2.2.2.length) s.2.2.2.length (s.2.2.2.map Ys)]) (fun s t => True) (((val (gApN 1 l (val (Jl a0.Big 42 2)))).length : Int), 0, a0.Big, l44) p_4 [0, 1] H18 (by exact trivial) (by exact ⟨rfl, rfl, rfl, rfl, rfl, trivial⟩) (by decide) rfl ?_
    rintro ⟨x4_2, x50_2, m_3, l_4⟩ p_6 m3 gg H20 _
    clear H18
    try dsimp only at H20
    generalize hn3 : it (fun next3 s => Z1 a0 next3 s.1 s.2.1 s.2.2.1 s.2.2.2) m3 = next3 at H20
    try dsimp only
    refine Jc<|Ja<|lv (Yh rfl rfl)<|Jd<|Jc<|?_
    revert H20
    refine ci (decide (x50_2 < (a0.kal.length : Int))) rfl (fun hb H21=>?_) fun hb H26=>?_
    ·refine Jj<|Jc<|Jq<|Jc<|Ja<|?_
     obtain ⟨t52, h_t52, H22⟩ := Je H21; clear H21
     refine lv (Yz Tryz.underlying22 Tryz.sizeOf41 rfl rfl f0_1.frs (f0_1.ix h_t52))<|Q7 (fun w hF hS => Xv (f := (elC h v0_1 1)) (i := x50_2) (sz := 1) (j := 0) (v := (Xr h v0_1 1 (Int.toNat x50_2) 0)) isAgg41 rfl rfl (f0_1.frs.row (hw.now hF)) (f0_1.ix h_t52) (rg_of (Jbh (f0_1.at h_t52)) rfl)) rfl rfl rfl<|ag ((Xr h v0_1 1 (Int.toNat x50_2) 0))<|Jd<|Jc<|Ja<|mv (pz b7)<|mv ((Xr h v0_1 1 (Int.toNat x50_2) 0))<|?_
     obtain ⟨t57, h_t57, H23⟩ := Je H22; clear H22
     refine bo 0 1 rfl rfl ?_
     refine J7 (Jw (i := 0) (rds := []) rfl (fun w L' S hF hS hi hp hlt ho hA => k64 (a0 := (⟨m_3, l_4⟩ : Tf)) hp hlt (Qe w S) rfl ((show FrN h 6 (Xr h v0_1 1 (Int.toNat x50_2) 0) g_tag_Entry t52 from (f0_1.at h_t52)).mono (hw.but hF ho)) h_t57) call64 rfl) rfl rfl rfl (fun p_7 => ?_)
     refine ub 0 1 rfl rfl<|mv (.tuple #[i6 t57.1, i6 t57.2.1])<|lv (Jk (v := i6 t57.1) rfl rfl)<|lv (Jk (v := i6 t57.2.1) rfl rfl)<|ag (i6 t57.1)<|ag (i6 t57.2.1)<|Jd<|Jc<|Ja<|mv (pz b7)<|mv (i6 x4_2)<|mv (i6 t57.1)<|?_
     obtain ⟨t63, h_t63, H24⟩ := Je H23; clear H23
     refine bo 0 1 rfl rfl ?_
     refine J7 (Jw (i := 0) (rds := []) rfl (fun w L' S hF hS hi hp hlt ho hA => k65 hp hlt (Qe w S) rfl h_t63) call65 rfl) rfl rfl rfl (fun p_8 => ?_)
     refine ub 0 1 rfl rfl<|Jd<|Ja<|mv (i6 t57.2.1)<|ag (i6 t57.2.1)<|Jd<|Ja<|?_
     obtain ⟨t65, h_t65, H25⟩ := Je H24; clear H24
     refine lv (J8 rfl rfl h_t65)<|mv (i6 t65)<|Jd<|?_
     exact cl (t57.2.1, t65, t63.kab, t63.kak) p_8 m3 [0, 1] (by exact ⟨(by subst hn3; exact H25), trivial⟩)
    ·refine Qo ?_
     exact cl (m_3, l_4) p_6 0 [0, 1] (by exact ⟨H26, trivial⟩)
   ·rintro ⟨m, l_2⟩ p_5 gg H19 _
    try dsimp only at H19
    try dsimp only
    refine Jc<|Ja<|mv (pz b7)<|lv (Jg rfl)<|lf Tryz.runUnderlying123 rfl Tryz.sizeOf45 rfl<|ll 0 (sl p_5 l_2.length) Tryz.isAgg45<|Q7 (fun w hF hS => run_bytes (f := Ys) (xs := l_2) rfl Tryz.underlying45 underlying5 Tryz.underlying9 rfl (fun _ => rfl) (offOfW (i := 1) hS rfl)) rfl rfl rfl<|ag (str (W2 l_2))<|Jd<|Jh<|?_
    obtain rfl := sj H19
    exact r1 (str (W2 l_2))
   ) (by kernel_rfl)
theorem k14 {a0 : Tg} {v0_1 : Value} {r : (List UInt8) × Int} {w : World} {h : Js} (hw : Know h w Zk) (f0_1 : FrN h 1 v0_1 gs_tag_Entry a0.kal) (H : Z4 a0 = some r) : Does prog 14 (List.toArray [.agg #[.bool a0.Big, v0_1]]) w (fun v w' => v = (.tuple #[str r.1, i6 r.2]) ∧ Grow w w') := by
 refine enter (n := 12) func14 rfl rfl rfl Zk [] (Sat.nil _ _)<|Jc<|Ja<|?_
 refine Jat (cs := [.bool a0.Big, v0_1]) rfl rfl rfl rfl (fun b1 => ?_)
 refine ag (str [])<|ag (i6 0)<|Jd<|Jc<|Jc<|Ja<|Qq (i := 0) (vs := [.bool a0.Big, v0_1]) Tryz.isAgg24 Tryz.sizeOf24 rfl rfl rfl rfl rfl<|?_
 obtain ⟨t6, h_t6, H5⟩ := Je H; clear H
 refine Qb (fun w hF hS => k15 (Jm w) (f0_1.mono (hw.now hF)) h_t6) call15 rfl rfl rfl<|ag (i6 t6)<|Jd<|Jc<|Ja<|mv (i6 t6)<|lv (Zm rfl rfl)<|Jd<|?_
 revert H5
 refine ci (decide (t6 ≠ 0)) rfl (fun hb H6=>?_) fun hb H7=>?_
 ·refine Jc<|Ja<|mv (i6 t6)<|ag (str [])<|ag (i6 t6)<|Jd<|Jh<|?_
  obtain rfl := sj H6
  refine Jba (v1 := str []) (v2 := i6 t6) rfl rfl rfl (fin rfl)
 ·refine Jj<|Jc<|Ja<|Qq (i := 0) (vs := [.bool a0.Big, v0_1]) Tryz.isAgg24 Tryz.sizeOf24 rfl rfl rfl rfl rfl<|?_
  obtain ⟨t11, h_t11, H8⟩ := Je H7; clear H7
  refine Qb (fun w hF hS => k33 (Jm w) (f0_1.mono (hw.now hF)) h_t11) call33 rfl rfl rfl<|ag (str t11)<|ag (i6 0)<|Jd<|Jh<|?_
  obtain rfl := sj H8
  refine Jba (v1 := str t11) (v2 := i6 0) rfl rfl rfl (fin rfl)
theorem k16 {a0 : Tg} {v0_1 : Value} {r : Int × Int} {w : World} {h : Js} (hw : Know h w Zk) (f0_1 : FrN h 1 v0_1 gs_tag_Entry a0.kal) (H : Je7 a0 = some r) : Does prog 16 (List.toArray [.agg #[.bool a0.Big, v0_1]]) w (fun v w' => v = (.tuple #[i6 r.1, i6 r.2]) ∧ Grow w w') := by
 refine enter (n := 12) func16 rfl rfl rfl Zk [] (Sat.nil _ _)<|Jc<|Ja<|?_
 refine Jat (cs := [.bool a0.Big, v0_1]) rfl rfl rfl rfl (fun b1 => ?_)
 refine ag (i6 0)<|ag (i6 0)<|Jd<|Jc<|Jc<|Ja<|Qq (i := 0) (vs := [.bool a0.Big, v0_1]) Tryz.isAgg24 Tryz.sizeOf24 rfl rfl rfl rfl rfl<|?_
 obtain ⟨t6, h_t6, H5⟩ := Je H; clear H
 refine Qb (fun w hF hS => k15 (Jm w) (f0_1.mono (hw.now hF)) h_t6) call15 rfl rfl rfl<|ag (i6 t6)<|Jd<|Jc<|Ja<|mv (i6 t6)<|lv (Zm rfl rfl)<|Jd<|?_
 revert H5
 refine ci (decide (t6 ≠ 0)) rfl (fun hb H6=>?_) fun hb H7=>?_
 ·refine Jc<|Ja<|mv (i6 t6)<|ag (i6 0)<|ag (i6 t6)<|Jd<|Jh<|?_
  obtain rfl := sj H6
  refine Jba (v1 := i6 0) (v2 := i6 t6) rfl rfl rfl (fin rfl)
 ·refine Jj<|Jc<|Ja<|Qq (i := 0) (vs := [.bool a0.Big, v0_1]) Tryz.isAgg24 Tryz.sizeOf24 rfl rfl rfl rfl rfl<|?_
  obtain ⟨t11, h_t11, H8⟩ := Je H7; clear H7
  refine Qb (fun w hF hS => k35 (Jm w) (f0_1.mono (hw.now hF)) h_t11) call35 rfl rfl rfl<|ag (i6 t11)<|ag (i6 0)<|Jd<|Jh<|?_
  obtain rfl := sj H8
  refine Jba (v1 := i6 t11) (v2 := i6 0) rfl rfl rfl (fin rfl)
end Go.Proofs.YtkbiccgjkiifpaaGreatDoor

namespace Go.Proofs.YtkbiccgjkiifpaaGreatDoor
open Go Go.Vc Go.Md Go.M Go.Lx
def TreeE (R : Js → Value → List Ta → List Nat → Prop) (h : Js) (c : List Value) (x : Ta) (bs : List Nat) : Prop :=
  ∃ (v3 v4 v5 : Value) (b5 : List Nat), c = [.int .i64 x.Tag, .int .i64 x.Value.kah, str x.Value.kai, v3, v4, v5] ∧ FrS h 1 v3 (x.Value.kaj.map Q5) ∧ FrS h 2 v4 (x.Value.kag.map Jp) ∧ R h v5 x.Value.kaf b5 ∧ bs = roB v3 x.Value.kaj.length ++ (roB v4 x.Value.kag.length ++ b5)
abbrev KidsL (R : Js → Value → List Ta → List Nat → Prop) (h : Js) (css : List (List Value)) (xs : List Ta) (bs : List Nat) : Prop := KidsG (TreeE R) h css xs bs
def TreeL : Nat → Js → Value → List Ta → List Nat → Prop
  | 0, _, v, xs, bs => v = z0s ∧ xs = [] ∧ bs = []
  | d + 1, h, v, xs, bs => ∃ (css : List (List Value)) (b2 : List Nat), RowP h 83 6 v css ∧ KidsL (TreeL d) h css xs b2 ∧ bs = v.ownBlock.toList ++ b2
theorem TreeE.agree {R : Js → Value → List Ta → List Nat → Prop} {h h' : Js} {c : List Value} {x : Ta} {bs : List Nat} (hR : ∀ v xs b, R h v xs b → (∀ q ∈ b, ∀ o, h q = some o → h' q = some o) → R h' v xs b) (e : TreeE R h c x bs) (k : ∀ q ∈ bs, ∀ o, h q = some o → h' q = some o) : TreeE R h' c x bs := by
  obtain ⟨v3, v4, v5, b5, e1, e2, e3, e4, rfl⟩ := e
  exact ⟨v3, v4, v5, b5, e1, e2.agree (by rw [List.length_map]; exact fun q hq => k q (by simp [hq])), e3.agree (by rw [List.length_map]; exact fun q hq => k q (by simp [hq])), hR _ _ _ e4 (fun q hq => k q (by simp [hq])), rfl⟩
theorem TreeL.agree : ∀ {d : Nat} {h h' : Js} {v : Value} {xs : List Ta} {bs : List Nat}, TreeL d h v xs bs → (∀ q ∈ bs, ∀ o, h q = some o → h' q = some o) → TreeL d h' v xs bs := by
  intro d
  induction d with
  | zero => intro h h' v xs bs t _; exact t
  | succ d ih =>
    rintro h h' v xs bs ⟨css, b2, r, k, rfl⟩ q
    exact ⟨css, b2, r.mono fun b hb => q b (by simp [hb]), k.agree (fun c x b t k => t.agree (fun v xs b t k => ih t k) k) fun y hy => q y (List.mem_append_right _ hy), rfl⟩
theorem TreeL.mono {d : Nat} {h h' : Js} {v : Value} {xs : List Ta} {bs : List Nat} (t : TreeL d h v xs bs) (k : ∀ b o, h b = some o → h' b = some o) : TreeL d h' v xs bs := t.agree fun q _ => k q
theorem TreeE.mono {d : Nat} {h h' : Js} {c : List Value} {x : Ta} {bs : List Nat} (t : TreeE (TreeL d) h c x bs) (k : ∀ b o, h b = some o → h' b = some o) : TreeE (TreeL d) h' c x bs := t.agree (fun v xs b t k => t.agree k) fun q _ => k q
theorem Jkq {d : Nat} {h h' : Js} {css : List (List Value)} {xs : List Ta} {bs : List Nat} (t : KidsL (TreeL d) h css xs bs) (k : ∀ b o, h b = some o → h' b = some o) : KidsL (TreeL d) h' css xs bs := t.agree (fun c x b t k => t.agree (fun v xs b t k => t.agree k) k) fun q _ => k q
theorem TreeL.frn : ∀ {d : Nat} {h : Js} {v : Value} {xs : List Ta} {bs : List Nat}, TreeL d h v xs bs → FrN h 6 v g_tag_Entry xs := by
  intro d
  induction d with
  | zero =>
    rintro h v xs bs ⟨rfl, rfl, _⟩
    exact ⟨FrS.nil _ _, fun i x hx => by cases hx⟩
  | succ d ih =>
    rintro h v xs bs ⟨css, b2, r, k, rfl⟩
    have hid : css.map Z6 = css := by unfold Z6; simp
    refine Ja8 (by rw [hid]; exact r.frs) ?_
    refine k.allC fun c x b t => ?_
    obtain ⟨v3, v4, v5, b5, e1, e2, e3, e4, _⟩ := t
    subst e1
    have f := ih e4
    exact ⟨rfl, .mk rfl rfl rfl e2 e3 f.frs f.el⟩
abbrev Vn (d : Nat) (v : Value) (xs : List Ta) : Chunk := Jaf fun h bs => TreeL d h v xs bs
abbrev Jcn (d : Nat) (css : List (List Value)) (xs : List Ta) : Chunk := Jaf fun h bs => KidsL (TreeL d) h css xs bs
theorem imp_kid {d : Nat} {v3 v4 v5 : Value} {x : Ta} :
    Imp (Jz (roV 1 v3 x.Value.kaj.length (x.Value.kaj.map Q5)) (Jz (roV 2 v4 x.Value.kag.length (x.Value.kag.map Jp)) (Vn d v5 x.Value.kaf)))
      (Jaf fun h bs => TreeE (TreeL d) h [.int .i64 x.Tag, .int .i64 x.Value.kah, str x.Value.kai, v3, v4, v5] x bs) := by
  have i1 := Jb0 (imp_roOwn (sz := 2) (n := x.Value.kag.length) (v := v4) (xs := x.Value.kag.map Jp)) (Imp.refl (Vn d v5 x.Value.kaf))
  have i2 := Xs i1 (Jdy (Χ := fun h bs => ∃ b5, FrS h 2 v4 (x.Value.kag.map Jp) ∧ TreeL d h v5 x.Value.kaf b5 ∧ bs = roB v4 x.Value.kag.length ++ b5) (fun h h' bs k t => ⟨t.1.mono k, t.2⟩) (fun h h' bs k t => t.mono k) fun h b1 b2 t1 t2 => ⟨b2, t1.1, t2, by rw [t1.2, List.length_map]⟩)
  have i3 := Jb0 (imp_roOwn (sz := 1) (n := x.Value.kaj.length) (v := v3) (xs := x.Value.kaj.map Q5)) i2
  exact Xs i3 (Jdy (fun h h' bs k t => ⟨t.1.mono k, t.2⟩) (fun h h' bs k ⟨b5, t1, t2, t3⟩ => ⟨b5, t1.mono k, t2.mono k, t3⟩) fun h b1 b2 t1 ⟨b5, t2, t3, t4⟩ => ⟨v3, v4, v5, b5, rfl, t1.1, t2, t3, by rw [t1.2, t4, List.length_map]⟩)
theorem Jdx {d : Nat} {css : List (List Value)} {xs : List Ta} {c : List Value} {x : Ta} : Imp (Jz (Jcn d css xs) (Jaf fun h bs => TreeE (TreeL d) h c x bs)) (Jcn d (css ++ [c]) (xs ++ [x])) :=
  Jdy (fun h h' bs k t => Jkq t k) (fun h h' bs k t => t.mono k) fun h b1 b2 t1 t2 => t1.snoc t2
theorem imp_tree {d n : Nat} {v : Value} {css : List (List Value)} {xs : List Ta} : Imp (Jz (Ju 83 6 v n css) (Jcn d css xs)) (Vn (d + 1) v xs) :=
  Xs (Jb0 imp_rowOwn (Imp.refl _)) (Jdy (fun h h' bs k t => ⟨t.1.mono fun b _ => k b, t.2⟩) (fun h h' bs k t => Jkq t k) fun h b1 b2 t1 t2 => ⟨css, b2, t1.1, t2, by rw [t1.2.2]⟩)
theorem Jip {d : Nat} : Imp empC (Vn (d + 1) (z0s) []) := Jb7 ⟨[], [], ⟨by simp, .inl ⟨rfl, rfl⟩⟩, rfl, rfl⟩
theorem imp_kids0 {d : Nat} : Imp empC (Jcn d [] []) := Jb7 rfl
end Go.Proofs.YtkbiccgjkiifpaaGreatDoor

namespace Go.Proofs.YtkbiccgjkiifpaaGreatDoor
open Go Go.Vc Go.Md Go.M Go.Lx
set_option maxRecDepth 100000
set_option maxHeartbeats 4000000
def EntsC (d : Nat) : Prop := ∀ {xs : List Ta} {v0 : Value} {w : World} {h : Js} (_ : Know h w Zk) (_ : FrN h 6 v0 g_tag_Entry xs) (_ : fits d xs),
  Does Tryz.prog 50 (List.toArray [v0]) w (fun v w' => ∃ x : Option Addr × Nat, v = .slice x.1 xs.length x.2 ∧ Turn w w' Zk (Vn d (.slice x.1 xs.length x.2) xs))
theorem clone_ints {l : List Int} (h : l.length ≤ 2000000) : Yk l = some l := by
  unfold Yk
  rw [Xa (by simp only [List.length_nil]; omega)]; rfl
theorem clone_rats {l : List Td} (h : l.length ≤ 2000000) : Ze l = some l := by
  unfold Ze
  rw [Xa (by simp only [List.length_nil]; omega)]; rfl
theorem k94_of {d : Nat} (C : EntsC d) {a0 : Tc} {v0_2 v0_3 v0_4 : Value} {w : World} {h : Js} (hw : Know h w Zk) (f0_2 : FrS h 1 v0_2 (a0.kaj.map Q5)) (f0_3 : FrS h 2 v0_3 (a0.kag.map Jp)) (f0_4 : FrN h 6 v0_4 g_tag_Entry a0.kaf) (hf : fitV d a0) :
    Does Tryz.prog 94 (List.toArray [.agg #[.int .i64 a0.kah, str a0.kai, v0_2, v0_3, v0_4]]) w (fun v w' => ∃ x : (Option Addr × Nat) × (Option Addr × Nat) × (Option Addr × Nat), v = (.agg #[.int .i64 a0.kah, str a0.kai, .slice x.1.1 a0.kaj.length x.1.2, .slice x.2.1.1 a0.kag.length x.2.1.2, .slice x.2.2.1 a0.kaf.length x.2.2.2]) ∧
      Turn w w' Zk (Jz (roV 1 (.slice x.1.1 a0.kaj.length x.1.2) a0.kaj.length (a0.kaj.map Q5)) (Jz (roV 2 (.slice x.2.1.1 a0.kag.length x.2.1.2) a0.kag.length (a0.kag.map Jp)) (Vn d (.slice x.2.2.1 a0.kaf.length x.2.2.2) a0.kaf)))) := by
 obtain ⟨z1_, z2_, z3_⟩ := hf
 have h_t5 := clone_ints z1_
 have h_t10 := clone_rats z2_
 refine enter (n := 18) Tryz.func94 rfl rfl rfl Zk [] (Sat.nil _ _) ?_
 refine Zt Y2 ?_
 refine Jc ?_
 refine Ja ?_
 refine Jat (cs := [.int .i64 a0.kah, str a0.kai, v0_2, v0_3, v0_4]) rfl rfl rfl rfl (fun b4 => ?_)
 refine Q2 (cs := [.int .i64 0, str [], z0s, z0s, z0s]) Tryz.zeroValue81 rfl rfl rfl (fun b5 => ?_)
 refine Jd ?_
 refine Jc ?_
 refine Ja ?_
 refine Jf rfl rfl rfl (J0 Tryz.runUnderlying81 rfl Tryz.sizeOf76 rfl rfl) ?_
 refine Ws (i := 1) (v := v0_2) Tryz.isAgg76 rfl rfl rfl rfl rfl ?_
 refine Yi (Qh (rds := []) (G := fun x : (Option Addr × Nat) => .slice x.1 a0.kaj.length x.2) (C := fun x : (Option Addr × Nat) => Ju 3 1 (.slice x.1 a0.kaj.length x.2) a0.kaj.length (a0.kaj.map Q5)) (fun w L' hF hS hi => k142 (Jm w) (f0_2.mono (hw.now hF)) h_t5) Tryz.call142 rfl) rfl rfl rfl (fun p => ?_)
 refine Qb (fun w hF hS => k141 (capOf (i := 3) hS rfl) w) Tryz.call141 rfl rfl rfl ?_
 refine Jf rfl rfl rfl (J0 Tryz.runUnderlying81 rfl Tryz.sizeOf76 rfl rfl) ?_
 refine Xl (i := 1) (vs := [.slice (Ya p.1 0 a0.kaj.length 1) a0.kaj.length a0.kaj.length]) (cs' := [.int .i64 a0.kah, str a0.kai, .slice (Ya p.1 0 a0.kaj.length 1) a0.kaj.length a0.kaj.length, v0_3, v0_4]) Tryz.sizeOf76 rfl rfl rfl rfl rfl rfl rfl rfl rfl ?_
 refine Jd ?_
 refine Jc ?_
 refine Ja ?_
 refine Jf rfl rfl rfl (J0 Tryz.runUnderlying81 rfl Tryz.sizeOf79 rfl rfl) ?_
 refine Ws (i := 1) (v := v0_3) Tryz.isAgg79 rfl rfl rfl rfl rfl ?_
 refine Yi (Qh (rds := []) (G := fun x : (Option Addr × Nat) => .slice x.1 a0.kag.length x.2) (C := fun x : (Option Addr × Nat) => Ju 70 2 (.slice x.1 a0.kag.length x.2) a0.kag.length (a0.kag.map Jp)) (fun w L' hF hS hi => k144 (Jm w) (f0_3.mono (hw.now hF)) h_t10) Tryz.call144 rfl) rfl rfl rfl (fun p_2 => ?_)
 refine Qb (fun w hF hS => k143 (capOf (i := 4) hS rfl) w) Tryz.call143 rfl rfl rfl ?_
 refine Jf rfl rfl rfl (J0 Tryz.runUnderlying81 rfl Tryz.sizeOf79 rfl rfl) ?_
 refine Xl (i := 1) (vs := [.slice (Ya p_2.1 0 a0.kag.length 2) a0.kag.length a0.kag.length]) (cs' := [.int .i64 a0.kah, str a0.kai, .slice (Ya p.1 0 a0.kaj.length 1) a0.kaj.length a0.kaj.length, .slice (Ya p_2.1 0 a0.kag.length 2) a0.kag.length a0.kag.length, v0_4]) Tryz.sizeOf79 rfl rfl rfl rfl rfl rfl rfl rfl rfl ?_
 refine Jd ?_
 refine Jc ?_
 refine Ja ?_
 refine Jf rfl rfl rfl (J0 Tryz.runUnderlying81 rfl Tryz.sizeOf41 rfl rfl) ?_
 refine Ws (i := 1) (v := v0_4) Tryz.isAgg41 rfl rfl rfl rfl rfl ?_
 refine Yi (Qh (rds := []) (G := fun x : (Option Addr × Nat) => .slice x.1 a0.kaf.length x.2) (C := fun x : (Option Addr × Nat) => Vn d (.slice x.1 a0.kaf.length x.2) a0.kaf) (fun w L' hF hS hi => C (Jm w) (f0_4.mono (hw.now hF)) z3_) Tryz.call50 rfl) rfl rfl rfl (fun p_3 => ?_)
 refine Jf rfl rfl rfl (J0 Tryz.runUnderlying81 rfl Tryz.sizeOf41 rfl rfl) ?_
 refine Xl (i := 1) (vs := [.slice p_3.1 a0.kaf.length p_3.2]) (cs' := [.int .i64 a0.kah, str a0.kai, .slice (Ya p.1 0 a0.kaj.length 1) a0.kaj.length a0.kaj.length, .slice (Ya p_2.1 0 a0.kag.length 2) a0.kag.length a0.kag.length, .slice p_3.1 a0.kaf.length p_3.2]) Tryz.sizeOf41 rfl rfl rfl rfl rfl rfl rfl rfl rfl ?_
 refine Jd ?_
 refine Jc ?_
 refine Ja ?_
 refine Qq (i := 1) (vs := [.int .i64 a0.kah, str a0.kai, .slice (Ya p.1 0 a0.kaj.length 1) a0.kaj.length a0.kaj.length, .slice (Ya p_2.1 0 a0.kag.length 2) a0.kag.length a0.kag.length, .slice p_3.1 a0.kaf.length p_3.2]) Tryz.isAgg81 Tryz.sizeOf81 rfl rfl rfl rfl rfl ?_
 refine Xl (i := 2) (vs := [.int .i64 a0.kah, str a0.kai, .slice (Ya p.1 0 a0.kaj.length 1) a0.kaj.length a0.kaj.length, .slice (Ya p_2.1 0 a0.kag.length 2) a0.kag.length a0.kag.length, .slice p_3.1 a0.kaf.length p_3.2]) (cs' := [.int .i64 a0.kah, str a0.kai, .slice (Ya p.1 0 a0.kaj.length 1) a0.kaj.length a0.kaj.length, .slice (Ya p_2.1 0 a0.kag.length 2) a0.kag.length a0.kag.length, .slice p_3.1 a0.kaf.length p_3.2]) Tryz.sizeOf81 rfl rfl rfl rfl rfl rfl rfl rfl rfl ?_
 refine Jd ?_
 refine Jh ?_
 refine Uk 1 ?_
 refine J4 2 rfl (Jgi _ _ _ _ _ _) ?_
 refine J4 3 rfl (Jgi _ _ _ _ _ _) ?_
 refine Qw 3 4 rfl rfl (by decide) ?_
 refine Qw 2 3 rfl rfl (by decide) ?_
 refine retC (i := 1) (vs := [.int .i64 a0.kah, str a0.kai, .slice (Ya p.1 0 a0.kaj.length 1) a0.kaj.length a0.kaj.length, .slice (Ya p_2.1 0 a0.kag.length 2) a0.kag.length a0.kag.length, .slice p_3.1 a0.kaf.length p_3.2]) Tryz.isAgg81 Tryz.sizeOf81 rfl rfl rfl rfl (X5 ((Ya p.1 0 a0.kaj.length 1, a0.kaj.length), (Ya p_2.1 0 a0.kag.length 2, a0.kag.length), p_3) (i := 2) rfl rfl (Imp.refl _))
theorem elC_len {h : Js} {v : Value} {sz i : Nat} : (elC h v sz i).length = sz := by simp [elC]
theorem ent_one {h : Js} {c : Nat → Value} {x : Ta} (f : g_tag_Entry h c x) : ∀ j, j < 6 → (c j).oneCell' = true := fun j hj => by
  cases f with
  | mk h0 h1 h2 h3 h4 h5 h6 => rcases (show j = 0 ∨ j = 1 ∨ j = 2 ∨ j = 3 ∨ j = 4 ∨ j = 5 from by omega) with rfl | rfl | rfl | rfl | rfl | rfl <;> first | (rw [h0]; rfl) | (rw [h1]; rfl) | (rw [h2]; rfl) | exact h3.one | exact h4.one | exact h5.one
theorem k50_all (d : Nat) : EntsC d := by
 induction d with
 | zero => intro xs v0 w h hw f0 hf; exact hf.elim
 | succ d ih =>
 intro xs v0 w h hw f0 hf
 obtain ⟨hlen, hkids⟩ := hf
 refine enter (n := 31) Tryz.func50 rfl rfl rfl Zk [] (Sat.nil _ _) ?_
 refine Jc ?_
 refine Ja ?_
 refine Jf rfl rfl rfl (Jr (v := z0s) rfl) ?_
 refine Jd ?_
 refine Jc ?_
 refine Jc ?_
 refine Ja ?_
 refine Jf rfl rfl rfl (Jx (v := v0) rfl) ?_
 refine Jf rfl rfl rfl (Vk Tryz.underlying41 rfl f0) ?_
 refine Jf rfl rfl rfl (Qg rfl rfl) ?_
 refine Jd ?_
 refine Jd0 (b := (decide ((xs.length : Int) = 0))) rfl (fun hb => ?_) (fun hb => ?_)
 ·have h0 : xs = [] := List.length_eq_zero_iff.1 (by have := of_decide_eq_true hb; omega)
  subst h0
  refine Jc ?_
  refine Ja ?_
  refine Jf rfl rfl rfl (Jr (v := z0s) rfl) ?_
  refine Jd ?_
  refine Jh ?_
  refine c_emp ?_
  refine J4 0 rfl (Jip (d := d)) ?_
  exact Uh (v := z0s) rfl rfl (X5 ((none, 0) : Option Addr × Nat) (i := 0) rfl rfl (Imp.refl _))
 ·have hpos : 0 < xs.length := by have := of_decide_eq_false hb; omega
  have hnews : ((List.range xs.length).map (elC h v0 6)).length = xs.length := by simp
  refine Jj ?_
  refine Jc ?_
  refine Ja ?_
  refine Jf rfl rfl rfl (Jx (v := v0) rfl) ?_
  refine Jf rfl rfl rfl (Vk Tryz.underlying41 rfl f0) ?_
  refine Yi (Jdj (E := 83) (sz := 6) (by_ := 104) (m := xs.length) (c := xs.length) (rds := []) Tryz.underlying41 (Qn Tryz.typeInfo83) rfl rfl rfl rfl rfl rfl rfl rfl (by omega) (by omega) rfl) rfl rfl rfl (fun p => ?_)
  refine Jf rfl rfl rfl (Jr (v := .slice p.1 xs.length p.2) rfl) ?_
  refine Jd ?_
  refine Jc ?_
  refine Ja ?_
  refine Jf rfl rfl rfl (Jx (v := .slice p.1 xs.length p.2) rfl) ?_
  refine Jf rfl rfl rfl (Jx (v := v0) rfl) ?_
  refine J7 (turns_copyK (i := 0) (rds := []) (sz := 6) (p := p) (m := xs.length) (a := 0) (dl := xs.length) (cd := p.2) (q := xs.length) (ax := sa v0) (c := sc v0) (news := (List.range xs.length).map (elC h v0 6)) Tryz.underlying41 (Qn Tryz.typeInfo83) rfl rfl (by simp) (by rw [Jie]; rfl) (by omega) ((show _ = v0 from rfl).trans (f0.frs.eq.trans (by rw [hnews]))) (Nat.le_refl _) hnews.symm hpos
    (fun w L' hF hS hj => f0.frs.row (hw.now hF)) (fun x hx => by obtain ⟨i, _, rfl⟩ := List.mem_map.1 hx; exact elC_len) (fun x hx u hu => List.all_eq_true.1 (AllC.oneN (fun {c x} f j hj => ent_one f j hj) f0.allC x hx) u hu)) rfl rfl rfl (fun _ => ?_)
  refine Jd ?_
  refine J4 0 rfl (Imp.of (show Ju 83 6 (.slice p.1 xs.length p.2) xs.length (_ ++ _ ++ _) = Ju 83 6 (.slice p.1 xs.length p.2) ((List.range xs.length).map (elC h v0 6)).length (((List.range xs.length).map (elC h v0 6)).map Z6) from by rw [hnews, Wq, List.take_zero, List.nil_append, List.drop_eq_nil_of_le (by simp), List.append_nil])) ?_
  refine Jc ?_
  refine Jc ?_
  refine Ja ?_
  refine Jf rfl rfl rfl (Jx (v := .slice p.1 xs.length p.2) rfl) ?_
  refine Jf rfl rfl rfl (U6 Tryz.underlying41 rfl) ?_
  refine Jf rfl rfl rfl (Jx (v := .int .i64 0) rfl) ?_
  refine Jd ?_
  refine c_emp ?_
  refine J4 1 rfl (imp_kids0 (d := d)) ?_
  refine Jq ?_
  refine Yq (σ := Nat) (τ := List (List Value)) (cntB xs.length) (fun s t => [(3, .slice p.1 xs.length p.2), (15, .int .i64 (xs.length : Int)), (16, .int .i64 (s : Int))]) (fun s t => [Ju 83 6 (.slice p.1 xs.length p.2) xs.length (t.map Z6), Jcn d (t.take s) (xs.take s)])
   (fun s t => t.length = xs.length ∧ s ≤ xs.length ∧ ∀ j, s ≤ j → j < xs.length → t[j]? = some (elC h v0 6 j)) 0 ((List.range xs.length).map (elC h v0 6)) [0, 1] (cnt_fix _) ⟨hnews, Nat.zero_le _, fun j _ hj => by simp [hj]⟩ (by exact ⟨rfl, rfl, rfl, trivial⟩) (by decide) (by rw [List.take_zero, List.take_zero, hnews]; rfl) ?_
  rintro i css m gg H ⟨hcl, hin, hcs⟩
  try dsimp only
  refine Jc ?_
  refine Ja ?_
  refine Jf rfl rfl rfl (Yh rfl rfl) ?_
  refine Jd ?_
  refine Jc ?_
  refine Jd0 (b := (decide ((i : Int) < (xs.length : Int)))) rfl (fun hb => ?_) (fun hb => ?_)
  ·have hi : i < xs.length := by have := of_decide_eq_true hb; omega
   have hci : i < css.length := by omega
   have hat : Vh css (i : Int) = some (elC h v0 6 i) := by
    rw [Xg hci]; have := hcs i (Nat.le_refl _) hi; rw [List.getElem?_eq_getElem hci] at this; exact this
   have hat0 : Vh xs (i : Int) = some xs[i] := Xg hi
   have f := f0.at hat0
   rw [Int.toNat_natCast] at f
   have fk := hkids xs[i] (List.getElem_mem hi)
   have ec : Z6 (elC h v0 6 i) = [.int .i64 xs[i].Tag, .int .i64 xs[i].Value.kah, str xs[i].Value.kai, Xr h v0 6 i 3, Xr h v0 6 i 4, Xr h v0 6 i 5] := by
    rw [← Wj f]; rfl
   obtain ⟨q0, q1⟩ := g_tag_Entry_iff.1 f
   have f2 : FrS h 1 (Xr h v0 6 i 3) (xs[i].Value.kaj.map Q5) := Xn q1
   have f3 : FrS h 2 (Xr h v0 6 i 4) (xs[i].Value.kag.map Jp) := Xo q1
   have f4 : FrN h 6 (Xr h v0 6 i 5) g_tag_Entry xs[i].Value.kaf := Qx q1
   refine Jj ?_
   refine Jc ?_
   refine Jq ?_
   refine Jc ?_
   refine Ja ?_
   refine Jf rfl rfl rfl (Jx (v := .int .i64 (i : Int)) rfl) ?_
   refine Jf rfl rfl rfl (Jr (v := .int .i64 (i : Int)) rfl) ?_
   refine Jd ?_
   refine Ja ?_
   refine Jf rfl rfl rfl (Jx (v := .slice p.1 xs.length p.2) rfl) ?_
   refine Jf rfl rfl rfl (Jx (v := .int .i64 (i : Int)) rfl) ?_
   refine Jf rfl rfl rfl (Jx (v := .slice p.1 xs.length p.2) rfl) ?_
   refine Jf rfl rfl rfl (Jx (v := .int .i64 (i : Int)) rfl) ?_
   refine Q7 (fun w hF hS => Xu Tryz.underlying41 Tryz.sizeOf83 rfl rfl (Yf (i := 0) hS rfl) hcl.symm hat) rfl rfl rfl ?_
   refine Q7 (fun w hF hS => V0 Tryz.runUnderlying83 rfl Tryz.sizeOf81 rfl rfl (Yf (i := 0) hS rfl) hat) rfl rfl rfl ?_
   refine Q7 (fun w hF hS => Wu (f := Z6) (i := (i : Int)) (sz := 6) (j := 1) (vs := [.int .i64 xs[i].Value.kah, str xs[i].Value.kai, Xr h v0 6 i 3, Xr h v0 6 i 4, Xr h v0 6 i 5]) Tryz.isAgg81 Tryz.sizeOf81 rfl rfl (Yf (i := 0) hS rfl) hat (by rw [ec]; rfl)) rfl rfl rfl ?_
   refine Yi (Qh (rds := []) (G := fun x : (Option Addr × Nat) × (Option Addr × Nat) × (Option Addr × Nat) => (.agg #[.int .i64 xs[i].Value.kah, str xs[i].Value.kai, .slice x.1.1 xs[i].Value.kaj.length x.1.2, .slice x.2.1.1 xs[i].Value.kag.length x.2.1.2, .slice x.2.2.1 xs[i].Value.kaf.length x.2.2.2])) (C := fun x : (Option Addr × Nat) × (Option Addr × Nat) × (Option Addr × Nat) => (Jz (roV 1 (.slice x.1.1 xs[i].Value.kaj.length x.1.2) xs[i].Value.kaj.length (xs[i].Value.kaj.map Q5)) (Jz (roV 2 (.slice x.2.1.1 xs[i].Value.kag.length x.2.1.2) xs[i].Value.kag.length (xs[i].Value.kag.map Jp)) (Vn d (.slice x.2.2.1 xs[i].Value.kaf.length x.2.2.2) xs[i].Value.kaf)))) (fun w L' hF hS hi' => k94_of ih (Jm w) (f2.mono (hw.now hF)) (f3.mono (hw.now hF)) (f4.mono (hw.now hF)) fk) Tryz.call94 rfl) rfl rfl rfl (fun ⟨p3, p4, p5⟩ => ?_)
   refine Q7 (fun w hF hS => Xu Tryz.underlying41 Tryz.sizeOf83 rfl rfl (Yf (i := 0) hS rfl) hcl.symm hat) rfl rfl rfl ?_
   refine Q7 (fun w hF hS => V0 Tryz.runUnderlying83 rfl Tryz.sizeOf81 rfl rfl (Yf (i := 0) hS rfl) hat) rfl rfl rfl ?_
   refine Jde (q := 0) (j := 1) (i := (i : Int)) (sz := 6) (hm := hcl.symm) (f := Z6) (z := [.int .i64 xs[i].Tag, .int .i64 xs[i].Value.kah, str xs[i].Value.kai, .slice p3.1 xs[i].Value.kaj.length p3.2, .slice p4.1 xs[i].Value.kag.length p4.2, .slice p5.1 xs[i].Value.kaf.length p5.2]) (ys := css.set i [.int .i64 xs[i].Tag, .int .i64 xs[i].Value.kah, str xs[i].Value.kai, .slice p3.1 xs[i].Value.kaj.length p3.2, .slice p4.1 xs[i].Value.kag.length p4.2, .slice p5.1 xs[i].Value.kaf.length p5.2]) (vs := [.int .i64 xs[i].Value.kah, str xs[i].Value.kai, .slice p3.1 xs[i].Value.kaj.length p3.2, .slice p4.1 xs[i].Value.kag.length p4.2, .slice p5.1 xs[i].Value.kaf.length p5.2]) Tryz.sizeOf81 rfl rfl rfl rfl rfl rfl rfl rfl rfl (fun y_ hy_ => by cases hy_.symm.trans hat; rw [ec]; rfl) (by rw [Jbo (by omega) (by omega), Int.toNat_natCast]) ?_
   refine Jd ?_
   refine Ja ?_
   refine Jf rfl rfl rfl (J8 rfl rfl (J5 (by omega))) ?_
   refine Jf rfl rfl rfl (Jx (v := .int .i64 ((i : Int) + 1)) rfl) ?_
   refine Jd ?_
   refine J4 2 rfl (imp_kid (x := xs[i])) ?_
   refine Qw 1 2 rfl rfl (by decide) ?_
   refine J4 1 rfl Jdx ?_
   refine Ja0 (i + 1) (css.set i [.int .i64 xs[i].Tag, .int .i64 xs[i].Value.kah, str xs[i].Value.kai, .slice p3.1 xs[i].Value.kaj.length p3.2, .slice p4.1 xs[i].Value.kag.length p4.2, .slice p5.1 xs[i].Value.kaf.length p5.2]) m [0, 1] (by exact ⟨rfl, rfl, rfl, trivial⟩) (by decide) (by
     rw [take_setS hci, Jg5 hi]; rfl) (by exact ⟨cnt_step H hi, by simpa using hcl, hi, fun j hj hj2 => by rw [List.getElem?_set_ne (by omega)]; exact hcs j (by omega) hj2⟩) (Nat.lt_succ_self _)
  ·have hi : i = xs.length := by have := of_decide_eq_false hb; omega
   refine Qo ?_
   refine Jc ?_
   refine Ja ?_
   refine Jf rfl rfl rfl (Jx (v := .slice p.1 xs.length p.2) rfl) ?_
   refine Jf rfl rfl rfl (Jr (v := .slice p.1 xs.length p.2) rfl) ?_
   refine Jd ?_
   refine Jh ?_
   refine Qw 0 1 rfl rfl (by decide) ?_
   refine J4 0 rfl (Imp.of (show Jz (Ju 83 6 (.slice p.1 xs.length p.2) xs.length (css.map Z6)) (Jcn d (css.take i) (xs.take i)) = Jz (Ju 83 6 (.slice p.1 xs.length p.2) xs.length css) (Jcn d css xs) from by rw [Wq, hi, List.take_of_length_le (by omega), List.take_length])) ?_
   refine J4 0 rfl imp_tree ?_
   exact Uh (v := .slice p.1 xs.length p.2) rfl rfl (X5 p (i := 0) rfl rfl (Imp.refl _))
end Go.Proofs.YtkbiccgjkiifpaaGreatDoor

namespace Go.Proofs.YtkbiccgjkiifpaaGreatDoor
open Go Go.Vc Go.Md Go.M Go.Lx
set_option maxRecDepth 100000
set_option maxHeartbeats 4000000
def DirE (d : Nat) (h : Js) (c : List Value) (l : List Ta) (bs : List Nat) : Prop := ∃ u, c = [u] ∧ TreeL d h u l bs
def TreeF (d : Nat) (h : Js) (v : Value) (ls : List (List Ta)) (bs : List Nat) : Prop :=
  ∃ (css : List (List Value)) (b2 : List Nat), RowP h 41 1 v css ∧ KidsG (DirE d) h css ls b2 ∧ bs = v.ownBlock.toList ++ b2
theorem DirE.agree {d : Nat} {h h' : Js} {c : List Value} {l : List Ta} {bs : List Nat} (t : DirE d h c l bs) (k : ∀ q ∈ bs, ∀ o, h q = some o → h' q = some o) : DirE d h' c l bs := by
  obtain ⟨u, e, t⟩ := t; exact ⟨u, e, t.agree k⟩
theorem Jic {d : Nat} {h h' : Js} {css : List (List Value)} {ls : List (List Ta)} {bs : List Nat} (t : KidsG (DirE d) h css ls bs) (k : ∀ b o, h b = some o → h' b = some o) : KidsG (DirE d) h' css ls bs := t.agree (fun c x b t k => t.agree k) fun q _ => k q
theorem TreeF.mono {d : Nat} {h h' : Js} {v : Value} {ls : List (List Ta)} {bs : List Nat} (t : TreeF d h v ls bs) (k : ∀ b o, h b = some o → h' b = some o) : TreeF d h' v ls bs := by
  obtain ⟨css, b2, r, g, e⟩ := t; exact ⟨css, b2, r.mono fun b _ => k b, Jic g k, e⟩
theorem TreeF.frn {d : Nat} {h : Js} {v : Value} {ls : List (List Ta)} {bs : List Nat} (t : TreeF d h v ls bs) : FrN h 1 v gs_tag_Entry ls := by
  obtain ⟨css, b2, r, g, e⟩ := t
  have hid : css.map Z6 = css := by unfold Z6; simp
  refine Ja8 (by rw [hid]; exact r.frs) (g.allC fun c x b t => ?_)
  obtain ⟨u, rfl, t⟩ := t
  exact ⟨rfl, t.frn⟩
abbrev Jc7 (d : Nat) (v : Value) (ls : List (List Ta)) : Chunk := Jaf fun h bs => TreeF d h v ls bs
abbrev Jdl (d : Nat) (css : List (List Value)) (ls : List (List Ta)) : Chunk := Jaf fun h bs => KidsG (DirE d) h css ls bs
theorem imp_dirs0 {d : Nat} : Imp empC (Jdl d [] []) := Jb7 rfl
theorem imp_dir {d : Nat} {u : Value} {l : List Ta} {css : List (List Value)} {ls : List (List Ta)} : Imp (Jz (Jdl d css ls) (Vn d u l)) (Jdl d (css ++ [[u]]) (ls ++ [l])) :=
  Jdy (fun h h' bs k t => Jic t k) (fun h h' bs k t => t.mono k) fun h b1 b2 t1 t2 => t1.snoc ⟨u, rfl, t2⟩
theorem imp_file {d n : Nat} {v : Value} {css : List (List Value)} {ls : List (List Ta)} : Imp (Jz (Ju 41 1 v n css) (Jdl d css ls)) (Jc7 d v ls) :=
  Xs (Jb0 imp_rowOwn (Imp.refl _)) (Jdy (fun h h' bs k t => ⟨t.1.mono fun b _ => k b, t.2⟩) (fun h h' bs k t => Jic t k) fun h b1 b2 t1 t2 => ⟨css, b2, t1.1, t2, by rw [t1.2.2]⟩)
theorem k26_of {d : Nat} {a0 : Tg} {v0_1 : Value} {w : World} {h : Js} (hw : Know h w Zk) (f0 : FrN h 1 v0_1 gs_tag_Entry a0.kal) (hf : fitF d a0) :
    Does Tryz.prog 26 (List.toArray [.agg #[.bool a0.Big, v0_1]]) w (fun v w' => ∃ x : Option Addr × Nat, v = (.agg #[.bool a0.Big, .slice x.1 a0.kal.length x.2]) ∧ Turn w w' Zk (Jc7 d (.slice x.1 a0.kal.length x.2) a0.kal)) := by
 obtain ⟨hlen, hkids⟩ := hf
 refine enter (n := 27) Tryz.func26 rfl rfl rfl Zk [] (Sat.nil _ _) ?_
 refine Jc ?_
 refine Ja ?_
 refine Jat (cs := [.bool a0.Big, v0_1]) rfl rfl rfl rfl (fun b4 => ?_)
 refine Q2 (cs := [.bool false, z0s]) Tryz.zeroValue24 rfl rfl rfl (fun b5 => ?_)
 refine Jd ?_
 refine Jc ?_
 refine Ja ?_
 refine Jf rfl rfl rfl (J0 Tryz.runUnderlying24 rfl Tryz.sizeOf22 rfl rfl) ?_
 refine Ws (i := 0) (v := v0_1) Tryz.isAgg22 rfl rfl rfl rfl rfl ?_
 refine Jf rfl rfl rfl (Vk Tryz.underlying22 rfl f0) ?_
 refine Yi (Jdj (E := 41) (sz := 1) (by_ := 24) (m := a0.kal.length) (c := a0.kal.length) (rds := []) Tryz.underlying22 (Qn Tryz.typeInfo41) rfl rfl rfl rfl rfl rfl rfl rfl (by omega) (by omega) rfl) rfl rfl rfl (fun p => ?_)
 refine Jf rfl rfl rfl (Jr (v := .slice p.1 a0.kal.length p.2) rfl) ?_
 refine Jd ?_
 refine J4 2 rfl (Imp.of (show Ju 41 1 (.slice p.1 a0.kal.length p.2) a0.kal.length _ = Ju 41 1 (.slice p.1 a0.kal.length p.2) a0.kal.length ((List.replicate a0.kal.length [z0s]).map Z6) from by rw [Wq]; rfl)) ?_
 refine Jc ?_
 refine Jc ?_
 refine Ja ?_
 refine Jf rfl rfl rfl (J0 Tryz.runUnderlying24 rfl Tryz.sizeOf22 rfl rfl) ?_
 refine Ws (i := 0) (v := v0_1) Tryz.isAgg22 rfl rfl rfl rfl rfl ?_
 refine Jf rfl rfl rfl (Vk Tryz.underlying22 rfl f0) ?_
 refine Jf rfl rfl rfl (Jx (v := .int .i64 0) rfl) ?_
 refine Jd ?_
 refine c_emp ?_
 refine J4 3 rfl (imp_dirs0 (d := d)) ?_
 refine Jq ?_
 refine Yq (σ := Nat) (τ := List (List Value)) (cntB a0.kal.length) (fun s t => [(1, pz b4), (2, pz b5), (3, .slice p.1 a0.kal.length p.2), (11, v0_1), (12, .int .i64 (a0.kal.length : Int)), (13, .int .i64 (s : Int))])
  (fun s t => [Ji b4 [.bool a0.Big, v0_1] 24, Ji b5 [.bool false, z0s] 24, Ju 41 1 (.slice p.1 a0.kal.length p.2) a0.kal.length (t.map Z6), Jdl d (t.take s) (a0.kal.take s)])
  (fun s t => t.length = a0.kal.length ∧ s ≤ a0.kal.length ∧ ∀ j, s ≤ j → j < a0.kal.length → t[j]? = some [z0s]) 0 (List.replicate a0.kal.length [z0s]) [0, 1, 2, 3] (cnt_fix _) ⟨by simp, Nat.zero_le _, fun j _ hj => by simp [hj]⟩ (by exact ⟨rfl, rfl, rfl, rfl, rfl, rfl, trivial⟩) (by decide) (by rw [List.take_zero, List.take_zero]; rfl) ?_
 rintro i css m gg H ⟨hcl, hin, hcs⟩
 try dsimp only
 refine Jc ?_
 refine Ja ?_
 refine Jf rfl rfl rfl (Yh rfl rfl) ?_
 refine Jd ?_
 refine Jc ?_
 refine Jd0 (b := (decide ((i : Int) < (a0.kal.length : Int)))) rfl (fun hb => ?_) (fun hb => ?_)
 ·have hi : i < a0.kal.length := by have := of_decide_eq_true hb; omega
  have hci : i < css.length := by omega
  have hat : Vh css (i : Int) = some [z0s] := by
   rw [Xg hci]; have := hcs i (Nat.le_refl _) hi; rw [List.getElem?_eq_getElem hci] at this; exact this
  have hat0 : Vh a0.kal (i : Int) = some a0.kal[i] := Xg hi
  have f : FrN h 6 (Xr h v0_1 1 (Int.toNat (i : Int)) 0) g_tag_Entry a0.kal[i] := f0.at hat0
  refine Jj ?_
  refine Jc ?_
  refine Jq ?_
  refine Jc ?_
  refine Ja ?_
  refine Jf rfl rfl rfl (Jx (v := .int .i64 (i : Int)) rfl) ?_
  refine Jf rfl rfl rfl (Yz Tryz.underlying22 Tryz.sizeOf41 rfl rfl f0.frs (f0.ix hat0)) ?_
  refine Q7 (fun w hF hS => Xv (f := (elC h v0_1 1)) (i := (i : Int)) (sz := 1) (j := 0) (v := (Xr h v0_1 1 (Int.toNat (i : Int)) 0)) Tryz.isAgg41 rfl rfl (f0.frs.row (hw.now hF)) (f0.ix hat0) (rg_of (Jbh (f0.at hat0)) rfl)) rfl rfl rfl ?_
  refine Jf rfl rfl rfl (Jr (v := .int .i64 (i : Int)) rfl) ?_
  refine Jf rfl rfl rfl (Jr (v := (Xr h v0_1 1 (Int.toNat (i : Int)) 0)) rfl) ?_
  refine Jd ?_
  refine Ja ?_
  refine Jf rfl rfl rfl (Jx (v := .slice p.1 a0.kal.length p.2) rfl) ?_
  refine Jf rfl rfl rfl (Jx (v := .int .i64 (i : Int)) rfl) ?_
  refine Jf rfl rfl rfl (Jx (v := (Xr h v0_1 1 (Int.toNat (i : Int)) 0)) rfl) ?_
  refine Yi (Qh (rds := []) (G := fun x : (Option Addr × Nat) => .slice x.1 a0.kal[i].length x.2) (C := fun x : (Option Addr × Nat) => Vn d (.slice x.1 a0.kal[i].length x.2) a0.kal[i]) (fun w L' hF hS hi' => k50_all d (Jm w) (f.mono (hw.now hF)) (hkids _ (List.getElem_mem hi))) Tryz.call50 rfl) rfl rfl rfl (fun p5 => ?_)
  refine Q7 (fun w hF hS => Xu Tryz.underlying22 Tryz.sizeOf41 rfl rfl (Yf (i := 2) hS rfl) hcl.symm hat) rfl rfl rfl ?_
  refine Jde (q := 2) (j := 0) (i := (i : Int)) (sz := 1) (hm := hcl.symm) (f := Z6) (z := [.slice p5.1 a0.kal[i].length p5.2]) (ys := css.set i [.slice p5.1 a0.kal[i].length p5.2]) (vs := [.slice p5.1 a0.kal[i].length p5.2]) Tryz.sizeOf41 rfl rfl rfl rfl rfl rfl rfl rfl rfl (fun y_ hy_ => by cases hy_.symm.trans hat; rfl) (by rw [Jbo (by omega) (by omega), Int.toNat_natCast]) ?_
  refine Jd ?_
  refine Ja ?_
  refine Jf rfl rfl rfl (J8 rfl rfl (J5 (by omega))) ?_
  refine Jf rfl rfl rfl (Jx (v := .int .i64 ((i : Int) + 1)) rfl) ?_
  refine Jd ?_
  refine Qw 3 4 rfl rfl (by decide) ?_
  refine J4 3 rfl imp_dir ?_
  refine Ja0 (i + 1) (css.set i [.slice p5.1 a0.kal[i].length p5.2]) m [0, 1, 2, 3] (by exact ⟨rfl, rfl, rfl, rfl, rfl, rfl, trivial⟩) (by decide) (by
    rw [take_setS hci, Jg5 hi]; rfl) (by exact ⟨cnt_step H hi, by simpa using hcl, hi, fun j hj hj2 => by rw [List.getElem?_set_ne (by omega)]; exact hcs j (by omega) hj2⟩) (Nat.lt_succ_self _)
 ·have hi : i = a0.kal.length := by have := of_decide_eq_false hb; omega
  refine Qo ?_
  refine Jc ?_
  refine Ja ?_
  refine Jf rfl rfl rfl (Jx (v := .slice p.1 a0.kal.length p.2) rfl) ?_
  refine Jf rfl rfl rfl (J0 Tryz.runUnderlying24 rfl Tryz.sizeOf22 rfl rfl) ?_
  refine Xl (i := 0) (vs := [.slice p.1 a0.kal.length p.2]) (cs' := [.bool a0.Big, .slice p.1 a0.kal.length p.2]) Tryz.sizeOf22 rfl rfl rfl rfl rfl rfl rfl rfl rfl ?_
  refine Jd ?_
  refine Jc ?_
  refine Ja ?_
  refine Qq (i := 0) (vs := [.bool a0.Big, .slice p.1 a0.kal.length p.2]) Tryz.isAgg24 Tryz.sizeOf24 rfl rfl rfl rfl rfl ?_
  refine Xl (i := 1) (vs := [.bool a0.Big, .slice p.1 a0.kal.length p.2]) (cs' := [.bool a0.Big, .slice p.1 a0.kal.length p.2]) Tryz.sizeOf24 rfl rfl rfl rfl rfl rfl rfl rfl rfl ?_
  refine Jd ?_
  refine Jh ?_
  refine Qw 2 3 rfl rfl (by decide) ?_
  refine J4 2 rfl (Imp.of (show Jz (Ju 41 1 (.slice p.1 a0.kal.length p.2) a0.kal.length (css.map Z6)) (Jdl d (css.take i) (a0.kal.take i)) = Jz (Ju 41 1 (.slice p.1 a0.kal.length p.2) a0.kal.length css) (Jdl d css a0.kal) from by rw [Wq, hi, List.take_of_length_le (by omega), List.take_length])) ?_
  refine J4 2 rfl imp_file ?_
  refine retC (i := 1) (vs := [.bool a0.Big, .slice p.1 a0.kal.length p.2]) Tryz.isAgg24 Tryz.sizeOf24 rfl rfl rfl rfl (X5 p (i := 2) rfl rfl (Imp.refl _))
end Go.Proofs.YtkbiccgjkiifpaaGreatDoor

namespace Go.Proofs.YtkbiccgjkiifpaaGreatDoor
open Go Go.Vc Go.Md Go.M Go.Lx
set_option maxRecDepth 100000
theorem Jhy {Φ Ψ : Js → List Nat → Prop} (a1 : ∀ h h' bs, (∀ q ∈ bs, ∀ o, h q = some o → h' q = some o) → Φ h bs → Φ h' bs) (a2 : ∀ h h' bs, (∀ q ∈ bs, ∀ o, h q = some o → h' q = some o) → Ψ h bs → Ψ h' bs)
    {S : Nat → Prop} {w : World} {hp : Js} {b1 b2 : List Nat} (hn : (b1 ++ b2).Nodup) (hd : ∀ b ∈ b1 ++ b2, ∃ o, hp b = some o) (p : (Y7 Y2 hp).P S w) (f1 : Φ hp b1) (f2 : Ψ hp b2) : (Jz (Jaf Φ) (Jaf Ψ)).P S w := by
  have key : ∀ b o, hp b = some o → S b ∧ w.heap[b]? = some o := fun b o h => (p.2 b o h).elim (fun h => by cases h) id
  obtain ⟨n1, n2, n3⟩ := List.nodup_append.1 hn
  have part : ∀ {Θ : Js → List Nat → Prop} {bs : List Nat}, (∀ h h' bs, (∀ q ∈ bs, ∀ o, h q = some o → h' q = some o) → Θ h bs → Θ h' bs) → bs.Nodup → (∀ b ∈ bs, ∃ o, hp b = some o) → Θ hp bs → (Jaf Θ).P (fun b => b ∈ bs) w := fun a n d f =>
    ⟨Jga w _, ⟨_, a _ _ _ (fun q hq o ho => restr_some.2 ⟨hq, (key q o ho).2⟩) f, n, fun b hb => by obtain ⟨o, ho⟩ := d b hb; exact ⟨o, restr_some.2 ⟨hb, (key b o ho).2⟩⟩⟩, Jfa _ _⟩
  refine ⟨_, _, part a1 n1 (fun b hb => hd b (List.mem_append_left _ hb)) f1, part a2 n2 (fun b hb => hd b (List.mem_append_right _ hb)) f2, fun b hb => ?_, fun b hb => ?_, fun b h1 h2 => n3 b h1 b h2 rfl⟩
  · obtain ⟨o, ho⟩ := hd b (List.mem_append_left _ hb); exact (key b o ho).1
  · obtain ⟨o, ho⟩ := hd b (List.mem_append_right _ hb); exact (key b o ho).1
theorem own_row {Φ : Js → List Nat → Prop} (a1 : ∀ h h' bs, (∀ q ∈ bs, ∀ o, h q = some o → h' q = some o) → Φ h bs → Φ h' bs) {S : Nat → Prop} {w : World} {hp : Js} {E sz : Nat} {v : Value} {css : List (List Value)} {b2 : List Nat}
    (hn : (v.ownBlock.toList ++ b2).Nodup) (hd : ∀ b ∈ v.ownBlock.toList ++ b2, ∃ o, hp b = some o) (p : (Y7 Y2 hp).P S w) (r : RowP hp E sz v css) (f : Φ hp b2) : (Jz (Jaf Φ) (Ju E sz v css.length css)).P S w := by
  obtain ⟨n1, n2, n3⟩ := List.nodup_append.1 hn
  obtain ⟨S1, S2, q1, q2, s1, s2, sd⟩ := (imp_thaw (n := css.length) r rfl).out _ _ p
  have hne : ∀ q ∈ b2, rmV hp v q = hp q := fun q hq => if_neg fun e => n3 q (by rw [e]; simp) q hq rfl
  exact ⟨S1, S2, ⟨_, ⟨b2, a1 _ _ _ (fun q hq o ho => (hne q hq).trans ho) f, n2, fun b hb => by obtain ⟨o, ho⟩ := hd b (List.mem_append_right _ hb); exact ⟨o, (hne b hb).trans ho⟩⟩, q1⟩, q2, s1, s2, sd⟩
theorem TreeE.lift {R R' : Js → Value → List Ta → List Nat → Prop} {h : Js} (k : ∀ v xs bs, R h v xs bs → R' h v xs bs) {c : List Value} {x : Ta} {bs : List Nat} (t : TreeE R h c x bs) : TreeE R' h c x bs := by
  obtain ⟨v3, v4, v5, b5, e1, e2, e3, e4, e5⟩ := t; exact ⟨v3, v4, v5, b5, e1, e2, e3, k _ _ _ e4, e5⟩
theorem TreeL.up : ∀ {d : Nat} {h : Js} {v : Value} {xs : List Ta} {bs : List Nat}, TreeL d h v xs bs → TreeL (d + 1) h v xs bs := by
  intro d
  induction d with
  | zero => rintro h v xs bs ⟨rfl, rfl, rfl⟩; exact ⟨[], [], ⟨by simp, .inl ⟨rfl, rfl⟩⟩, rfl, rfl⟩
  | succ d ih => rintro h v xs bs ⟨css, b2, r, k, e⟩; exact ⟨css, b2, r, k.map (fun c x b t _ => t.lift fun v xs bs t => ih t) fun _ _ _ h => h, e⟩
theorem Jh3 {d : Nat} {v : Value} {xs : List Ta} : Imp (Vn d v xs) (Vn (d + 1) v xs) := Jja fun _ _ t => t.up
theorem imp_upK {d : Nat} {css : List (List Value)} {xs : List Ta} : Imp (Jcn d css xs) (Jcn (d + 1) css xs) := Jja fun _ _ k => k.map (fun c x b t _ => t.lift fun v xs bs t => t.up) fun _ _ _ h => h
theorem imp_upD {d : Nat} {css : List (List Value)} {ls : List (List Ta)} : Imp (Jdl d css ls) (Jdl (d + 1) css ls) := Jja fun _ _ k => k.map (fun c x b t _ => by obtain ⟨u, e, t⟩ := t; exact ⟨u, e, t.up⟩) fun _ _ _ h => h
theorem imp_upF {d : Nat} {v : Value} {ls : List (List Ta)} : Imp (Jc7 d v ls) (Jc7 (d + 1) v ls) := Jja fun _ _ t => by
  obtain ⟨css, b2, r, g, e⟩ := t; exact ⟨css, b2, r, g.map (fun c x b t _ => by obtain ⟨u, e, t⟩ := t; exact ⟨u, e, t.up⟩) fun _ _ _ h => h, e⟩
theorem KidsG.unsnoc {α : Type} {T : Js → List Value → α → List Nat → Prop} {h : Js} {c : List Value} {x : α} : ∀ {css : List (List Value)} {xs : List α} {bs : List Nat}, KidsG T h (css ++ [c]) (xs ++ [x]) bs → ∃ b1 b2, bs = b1 ++ b2 ∧ KidsG T h css xs b1 ∧ T h c x b2
  | [], [], bs, k => by
    obtain ⟨b1, b2, k1, k2, k3⟩ := k
    have k2 : b2 = [] := k2
    subst k2
    exact ⟨[], b1, by simpa using k3, rfl, k1⟩
  | [], y :: xs, bs, k => by
    obtain ⟨b1, b2, k1, k2, k3⟩ := k
    cases xs with
    | nil => exact k2.elim
    | cons => exact k2.elim
  | y :: css, [], bs, k => by
    obtain ⟨b1, b2, k1, k2, k3⟩ := k
    cases css with
    | nil => exact k2.elim
    | cons => exact k2.elim
  | y :: css, z :: xs, bs, k => by
    obtain ⟨b1, b2, k1, k2, k3⟩ := k
    obtain ⟨b3, b4, e, k4, k5⟩ := KidsG.unsnoc (css := css) (xs := xs) k2
    exact ⟨b1 ++ b3, b4, by rw [k3, e, List.append_assoc], ⟨b1, b3, k1, k4, rfl⟩, k5⟩
theorem Jj9 {d : Nat} {css : List (List Value)} {xs : List Ta} (h h' : Js) (bs : List Nat) (k : ∀ q ∈ bs, ∀ o, h q = some o → h' q = some o) (t : KidsL (TreeL d) h css xs bs) : KidsL (TreeL d) h' css xs bs := t.agree (fun c x b t k => t.agree (fun v xs b t k => t.agree k) k) k
theorem Jjm {d : Nat} {css : List (List Value)} {ls : List (List Ta)} (h h' : Js) (bs : List Nat) (k : ∀ q ∈ bs, ∀ o, h q = some o → h' q = some o) (t : KidsG (DirE d) h css ls bs) : KidsG (DirE d) h' css ls bs := t.agree (fun c x b t k => t.agree k) k
theorem ent_agree {d : Nat} {c : List Value} {x : Ta} (h h' : Js) (bs : List Nat) (k : ∀ q ∈ bs, ∀ o, h q = some o → h' q = some o) (t : TreeE (TreeL d) h c x bs) : TreeE (TreeL d) h' c x bs := t.agree (fun v xs b t k => t.agree k) k
theorem imp_lastK {d : Nat} {css : List (List Value)} {xs : List Ta} {c : List Value} {x : Ta} : Imp (Jcn d (css ++ [c]) (xs ++ [x])) (Jz (Jcn d css xs) (Jaf fun h bs => TreeE (TreeL d) h c x bs)) := ⟨fun S w ⟨hp, ⟨bs, k, hn, hd⟩, p⟩ => by
  obtain ⟨b1, b2, rfl, k1, k2⟩ := KidsG.unsnoc k
  exact Jhy Jj9 ent_agree hn hd p k1 k2⟩
theorem last_dir {d : Nat} {css : List (List Value)} {ls : List (List Ta)} {c : List Value} {l : List Ta} {S : Nat → Prop} {w : World} (h : (Jdl d (css ++ [c]) (ls ++ [l])).P S w) : ∃ u, c = [u] ∧ (Jz (Jdl d css ls) (Vn d u l)).P S w := by
  obtain ⟨hp, ⟨bs, k, hn, hd⟩, p⟩ := h
  obtain ⟨b1, b2, rfl, k1, u, rfl, k2⟩ := KidsG.unsnoc k
  exact ⟨u, rfl, Jhy Jjm (fun h h' bs k t => t.agree k) hn hd p k1 k2⟩
theorem Jev {d : Nat} {v : Value} {xs : List Ta} {S : Nat → Prop} {w : World} (h : (Vn (d + 1) v xs).P S w) : ∃ css : List (List Value), css.length = xs.length ∧ (Jz (Jcn d css xs) (Ju 83 6 v css.length (css.map Z6))).P S w := by
  obtain ⟨hp, ⟨bs, ⟨css, b2, r, k, rfl⟩, hn, hd⟩, p⟩ := h
  refine ⟨css, k.len, ?_⟩
  rw [Wq]
  exact own_row Jj9 hn hd p r k
theorem file_show {d : Nat} {v : Value} {ls : List (List Ta)} {S : Nat → Prop} {w : World} (h : (Jc7 d v ls).P S w) : ∃ css : List (List Value), css.length = ls.length ∧ (Jz (Jdl d css ls) (Ju 41 1 v css.length (css.map Z6))).P S w := by
  obtain ⟨hp, ⟨bs, ⟨css, b2, r, k, rfl⟩, hn, hd⟩, p⟩ := h
  refine ⟨css, k.len, ?_⟩
  rw [Wq]
  exact own_row Jjm hn hd p r k
theorem imp_swap {C D : Chunk} : Imp (Jz C D) (Jz D C) := ⟨fun _ _ ⟨S1, S2, a, b, s1, s2, sd⟩ => ⟨S2, S1, b, a, s2, s1, fun b h1 h2 => sd b h2 h1⟩⟩
theorem Jcu {d n : Nat} {v : Value} {css : List (List Value)} {xs : List Ta} : Imp (Jz (Jcn d css xs) (Ju 83 6 v n (css.map Z6))) (Vn (d + 1) v xs) := by
  rw [Wq]
  exact Xs imp_swap imp_tree
theorem imp_fileR {d n : Nat} {v : Value} {css : List (List Value)} {ls : List (List Ta)} : Imp (Jz (Jdl d css ls) (Ju 41 1 v n (css.map Z6))) (Jc7 d v ls) := by
  rw [Wq]
  exact Xs imp_swap imp_file
def LeafP (v3 v4 : Value) (x : Ta) (h : Js) (bs : List Nat) : Prop := FrS h 1 v3 (x.Value.kaj.map Q5) ∧ FrS h 2 v4 (x.Value.kag.map Jp) ∧ bs = roB v3 x.Value.kaj.length ++ roB v4 x.Value.kag.length
theorem Jj0 {v3 v4 : Value} {x : Ta} (h h' : Js) (bs : List Nat) (k : ∀ q ∈ bs, ∀ o, h q = some o → h' q = some o) (t : LeafP v3 v4 x h bs) : LeafP v3 v4 x h' bs := by
  obtain ⟨f1, f2, rfl⟩ := t
  exact ⟨f1.agree (by rw [List.length_map]; exact fun q hq => k q (List.mem_append_left _ hq)), f2.agree (by rw [List.length_map]; exact fun q hq => k q (List.mem_append_right _ hq)), rfl⟩
theorem ent_show {d : Nat} {c : List Value} {x : Ta} {S : Nat → Prop} {w : World} (h : (Jaf fun h bs => TreeE (TreeL d) h c x bs).P S w) :
    ∃ y : Value × Value × Value, c = [.int .i64 x.Tag, .int .i64 x.Value.kah, str x.Value.kai, y.1, y.2.1, y.2.2] ∧ (Jz (Jaf (LeafP y.1 y.2.1 x)) (Vn d y.2.2 x.Value.kaf)).P S w := by
  obtain ⟨hp, ⟨bs, ⟨v3, v4, v5, b5, e1, e2, e3, e4, rfl⟩, hn, hd⟩, p⟩ := h
  rw [← List.append_assoc] at hn hd
  exact ⟨(v3, v4, v5), e1, Jhy Jj0 (fun h h' bs k t => t.agree k) hn hd p ⟨e2, e3, rfl⟩ e4⟩
theorem imp_ent {d : Nat} {v3 v4 v5 : Value} {x : Ta} {zs : List Ta} : Imp (Jz (Jaf (LeafP v3 v4 x)) (Vn d v5 zs)) (Jaf fun h bs => TreeE (TreeL d) h [.int .i64 x.Tag, .int .i64 x.Value.kah, str x.Value.kai, v3, v4, v5] (Wp x zs) bs) :=
  Jdy (fun h h' bs k t => Jj0 h h' bs (fun q _ => k q) t) (fun h h' bs k t => t.mono k) fun h b1 b2 t1 t2 => ⟨v3, v4, v5, b2, rfl, t1.1, t1.2.1, t2, by rw [t1.2.2, List.append_assoc]; rfl⟩
abbrev rdC (d pb : Nat) (r : TxR) : Chunk := exC fun x : (Option Addr × Nat) × (Option Addr × Nat) => Jz (Ji pb [.bool r.big, .slice x.1.1 r.dirs.length x.1.2, .slice x.2.1 r.op.length x.2.2] 57) (Jz (Jc7 d (.slice x.1.1 r.dirs.length x.1.2) r.dirs) (Vn (d + 1) (.slice x.2.1 r.op.length x.2.2) r.op))
theorem Ux {d pb : Nat} {r : TxR} : Imp (rdC d pb r) (rdC (d + 1) pb r) := ⟨fun S w ⟨x, h⟩ => ⟨x, (Jb0 (Imp.refl _) (Jb0 imp_upF Jh3)).out _ _ h⟩⟩
end Go.Proofs.YtkbiccgjkiifpaaGreatDoor

namespace Go.Lx
open Go Go.Vc Go.Md
section
variable {P : Program} {ops : Array Oper} {Q : Exit → Act → World → Prop}
theorem Jes {i : Nat} {o : Oper} {K : Act → World → Prop} {rest : List Oper} {a : Act} {w : World} (ho : ops[i]? = some o) (h : ∀ a w, wpList P ops Q rest a w → K a w) (hw : wpList P ops Q (o :: rest) a w) : wpOp P ops Q i K a w := by
 unfold wpOp
 rw [ho]
 simp only [wpList] at hw ⊢
 split
 ·rename_i hq; rw [if_pos hq] at hw; exact hw.imp (Oper.wp_mono h) id
 ·rename_i hq; rw [if_neg hq] at hw; exact h _ _ hw
theorem wpOp_both {i : Nat} {o : Oper} {K : Act → World → Prop} {r1 r2 : List Oper} {a : Act} {w : World} (ho : ops[i]? = some o) (hv : ∃ v w', (execOp a.eval o).run P w = .ok (.value v) w') (h : ∀ a w, wpList P ops Q r1 a w → wpList P ops Q r2 a w → K a w)
  (h1 : wpList P ops Q (o :: r1) a w) (h2 : wpList P ops Q (o :: r2) a w) : wpOp P ops Q i K a w := by
 unfold wpOp
 rw [ho]
 simp only [wpList] at h1 h2 ⊢
 split
 ·rename_i hq
  rw [if_pos hq] at h1 h2
  rcases h1 with h1 | h1
  ·rcases h2 with h2 | h2
   ·obtain ⟨v, w', e⟩ := hv
    refine .inl ?_
    unfold Oper.wp at h1 h2 ⊢
    rw [e] at h1 h2 ⊢
    exact h _ _ h1 h2
   ·exact .inr h2
  ·exact .inr h1
 ·rename_i hq; rw [if_neg hq] at h1 h2; exact h _ _ h1 h2
def tossB (ops : Array Oper) : Bool :=
 Region.ready .any ops #[false, false, false, false] == [0] && Region.ready .any ops #[true, false, false, false] == [1, 2] && Region.ready .any ops #[true, true, false, false] == [2] && Region.ready .any ops #[true, false, true, false] == [1] && Region.ready .any ops #[true, true, true, false] == [3] && Region.ready .any ops #[true, true, true, true] == []
theorem wpAny_toss {o0 o1 o2 o3 : Oper} (hB : tossB #[o0, o1, o2, o3] = true) {a : Act} {w : World} (hv : ∃ v w', (execOp a.eval o0).run P w = .ok (.value v) w') (h1 : wpList P #[o0, o1, o2, o3] Q [o0, o1, o2, o3] a w) (h2 : wpList P #[o0, o1, o2, o3] Q [o0, o2, o1, o3] a w) : wpAny P .any #[o0, o1, o2, o3] Q 4 #[false, false, false, false] a w := by
 simp only [tossB, Bool.and_eq_true, beq_iff_eq] at hB
 obtain ⟨⟨⟨⟨⟨r0, r1⟩, r2⟩, r3⟩, r4⟩, r5⟩ := hB
 have e4 : ∀ a w, wpList P #[o0, o1, o2, o3] Q [] a w → wpAny P .any #[o0, o1, o2, o3] Q 0 #[true, true, true, true] a w := fun a w h => ⟨r5, h⟩
 have e3 : ∀ a w, wpList P #[o0, o1, o2, o3] Q [o3] a w → wpAny P .any #[o0, o1, o2, o3] Q 1 #[true, true, true, false] a w := fun a w h => by
  refine ⟨fun h => (by rw [r4] at h; cases h), fun i hi => ?_⟩
  rw [r4] at hi; simp at hi; subst hi
  exact Jes rfl e4 h
 have e1 : ∀ a w, wpList P #[o0, o1, o2, o3] Q [o2, o3] a w → wpAny P .any #[o0, o1, o2, o3] Q 2 #[true, true, false, false] a w := fun a w h => by
  refine ⟨fun h => (by rw [r2] at h; cases h), fun i hi => ?_⟩
  rw [r2] at hi; simp at hi; subst hi
  exact Jes rfl e3 h
 have e2 : ∀ a w, wpList P #[o0, o1, o2, o3] Q [o1, o3] a w → wpAny P .any #[o0, o1, o2, o3] Q 2 #[true, false, true, false] a w := fun a w h => by
  refine ⟨fun h => (by rw [r3] at h; cases h), fun i hi => ?_⟩
  rw [r3] at hi; simp at hi; subst hi
  exact Jes rfl e3 h
 have both : ∀ a w, wpList P #[o0, o1, o2, o3] Q [o1, o2, o3] a w → wpList P #[o0, o1, o2, o3] Q [o2, o1, o3] a w → wpAny P .any #[o0, o1, o2, o3] Q 3 #[true, false, false, false] a w := fun a w g1 g2 => by
  refine ⟨fun h => (by rw [r1] at h; cases h), fun i hi => ?_⟩
  rw [r1] at hi; simp at hi
  rcases hi with rfl | rfl
  ·exact Jes rfl e1 g1
  ·exact Jes rfl e2 g2
 refine ⟨fun h => (by rw [r0] at h; cases h), fun i hi => ?_⟩
 rw [r0] at hi; simp at hi; subst hi
 exact wpOp_both rfl hv both h1 h2
end
theorem c_toss {P : Program} {n : Nat} {cx : Cx} {Q : Jae} {e : Xc} {L : List Chunk} {id : Nat} {o0 o1 o2 o3 : Oper} (hm : P.follows .mixedOrders = true) (hB : tossB #[o0, o1, o2, o3] = true) (hv : ∀ w, ∃ v w', (execOp (ev e) o0).run P w = .ok (.value v) w')
  (h1 : At cx (WL P n #[o0, o1, o2, o3] Q [o0, o1, o2, o3]) e L) (h2 : At cx (WL P n #[o0, o1, o2, o3] Q [o0, o2, o1, o3]) e L) : At cx (WC P n (.region id #[o0, o1, o2, o3] true) Q) e L :=
 ⟨fun w hF hS => ⟨fun a ha => by
  have hg : Grow w { w with drawn := w.drawn + 1 } := ⟨rfl, rfl, rfl, Nat.le_refl _, fun _ _ => rfl⟩
  have hF' : Fr cx { w with drawn := w.drawn + 1 } := ⟨hF.os, hF.tape, hF.output, hF.size, hF.block⟩
  have hS' := hS.grow hg
  refine wp_region_any hm (wpAny_toss hB ?_ ((h1.out _ hF' hS').out a ha) ((h2.out _ hF' hS').out a ha))
  have := ha.ev
  rw [this]
  exact hv _⟩⟩
def Jdp (C : Chunk) (a : Value) (cs : List Value) : Chunk where
 P S w := ∃ (w' : World) (g k E : Nat) (cur : Array Value), a = .pointer (some ⟨g, k, none⟩) ∧ C.P S w' ∧ w'.heap[g]? = some (.cells cur E (0, 0)) ∧ ∀ b, S b → w.heap[b]? = (w'.setRow g (cur.toList.take k ++ cs ++ cur.toList.drop (k + cs.length)).toArray).heap[b]?
 loc S w w2 h := fun ⟨w', g, k, E, cur, h1, h3, h4, h5⟩ => ⟨w', g, k, E, cur, h1, h3, h4, fun b hb => (h b hb).trans (h5 b hb)⟩
theorem Jjr {E sz m c i : Nat} {a : Option Addr} {xs : List (List Value)} {cs : List Value} (hi : i < xs.length) (hc : cs.length = sz) (h0 : 0 < sz) : Imp (Jdp (Ju E sz (.slice a m c) m xs) (Yb a (i * sz)) cs) (Ju E sz (.slice a m c) m (xs.set i cs)) := ⟨fun S w ⟨w', g, k, E', cur, h1, h3, h4, h5⟩ => by
 refine Chunk.loc _ _ _ _ h5 ?_
 obtain ⟨⟨ho, hm, hl⟩, hob⟩ := h3
 have hy : xs[i]? = some xs[i] := List.getElem?_eq_getElem hi
 have hl2 : ∀ z ∈ xs.set i cs, z.length = sz := fun z hz => by
  rcases List.mem_or_eq_of_mem_set hz with h | h
  ·exact hl z h
  ·subst h; exact hc
 rcases ho.2 with ⟨_, h00⟩ | ⟨g0, cap, cur0, hv0, hb0, hh, hnc, hcm, hcs, htk⟩
 ·omega
 ·simp only [Value.slice.injEq] at hv0
  obtain ⟨rfl, _, rfl⟩ := hv0
  simp only [Yb, Value.pointer.injEq, Option.some.injEq, Addr.mk.injEq] at h1
  obtain ⟨rfl, rfl, _⟩ := h1
  rw [hh] at h4
  simp only [Option.some.injEq, Obj.cells.injEq] at h4
  obtain ⟨rfl, rfl, _⟩ := h4
  have hcap : m * sz ≤ c * sz := Nat.mul_le_mul_right _ hnc
  have hle : (i + 1) * sz ≤ m * sz := Nat.mul_le_mul_right _ (by omega)
  rw [Nat.succ_mul] at hle
  refine ⟨⟨⟨?_, .inr ⟨g0, c, _, rfl, hb0, setRow_heap w' g0 cur0 _ E _ hh, hnc, hcm, ?_, ?_⟩⟩, by simpa using hm, hl2⟩, hob⟩
  ·rw [Zd (sz := sz) _ hl2]; simp [hm]
  ·simp only [List.size_toArray, List.length_append, List.length_take, List.length_drop, Array.length_toList, hcs]
   omega
  ·rw [List.toList_toArray]
   have hxi := hl _ (List.getElem_mem hi)
   have := set_cells (j := 0) (vs := cs) (x' := cs) hl htk hm hy (by simpa [hcs] using hcap) (by omega) (by rw [List.take_zero, List.nil_append, List.drop_eq_nil_of_le (by omega), List.append_nil])
   simpa using this⟩
section
variable {P : Program} {cx : Cx} {e : Xc} {L : List Chunk} {K : Xc → World → Prop} {ops : Array Oper} {F : Xc → List Chunk → Prop} {rest : List Oper} {ss : List Kd} {ty : TypeId} {pos : String} {af : Array Edge} {g : Option (Nat × Bool)}
theorem Jhu {q T szT k m c E sz : Nat} {A X : Operand} {x : Value} {a : Option Addr} {vs : List Value} {xs : List (List Value)} (hs : ∀ w, (sizeOf T).run P w = .ok szT w) (hp : ev e A = Yb a k) (hx : ev e X = x) (hc : x.cells.toList = vs) (hsz : vs.length = szT)
  (hone : vs.all Value.oneCell' = true) (hm : 0 < m) (hk : k + vs.length ≤ m * sz) (hL : L[q]? = some (Ju E sz (.slice a m c) m xs)) :
  Turns P cx e ⟨none, .store T A X, ty, pos, af, g⟩ L q [] (fun _ : Unit => undef) (fun _ => Jdp (Ju E sz (.slice a m c) m xs) (Yb a k) vs) := by
 intro w L' hF hS hl hi
 have hL' := (hi q (.inr rfl)).trans hL
 have hrun : ∀ (S1 : Nat → Prop), (Ju E sz (.slice a m c) m xs).P S1 w → (∀ b, S1 b → b < w.heap.size) → ∃ w', (execOp (ev e) ⟨none, .store T A X, ty, pos, af, g⟩).run P w = .ok .skip w' ∧ Turn w w' S1 (Jdp (Ju E sz (.slice a m c) m xs) (Yb a k) vs) := fun S1 h hlt => by
  have h' := h
  obtain ⟨⟨ho, hmx, hlx⟩, hob⟩ := h
  rcases ho.2 with ⟨_, h00⟩ | ⟨g0, cap, cur, hv0, hb0, hh, hnc, hcm, hcs, htk⟩
  ·omega
  ·simp only [Value.slice.injEq] at hv0
   obtain ⟨rfl, _, rfl⟩ := hv0
   have hcap : m * sz ≤ c * sz := Nat.mul_le_mul_right _ hnc
   have hst := run_storeCells_at P g0 k E vs 0 cur w hh (by omega) (by simpa using hone)
   have hsz' : x.cells.size = szT := by rw [← hsz, ← hc]; simp
   have hp' : ev e A = .pointer (some ⟨g0, k, none⟩) := by rw [hp]; simp [Yb]
   have hSg : S1 g0 := hob g0 rfl
   simp only [Nat.add_zero] at hst
   refine ⟨w.setRow g0 (cur.toList.take k ++ vs ++ cur.toList.drop (k + vs.length)).toArray, by
    simp only [execOp, Instr.storeAt, Instr.sureAddr, storeVar, hp', hx, Sem.run_bind, Sem.run_pure, Result.andThen_ok, hs, hsz', ne_eq, not_true_eq_false, if_false, hc, hst], rfl, rfl, rfl, by simp, fun d hd hn => setRow_other w g0 d _ (fun e => hn (e ▸ hSg)), S1, ⟨w, g0, k, E, cur, by simp [Yb], h', hh, fun b _ => rfl⟩, fun d hd => ⟨by simpa using hlt d hd, .inl hd⟩⟩
 obtain ⟨S0, hC, hlt⟩ := hS.at hL'
 obtain ⟨w', hr, ht⟩ := hrun S0 hC (fun b hb => (hlt b hb).1)
 have hF' := hF.turn ht fun b hs => (hlt b hs).2
 have hS' := hS.turnAt hF hL' (w' := w') (C := Jdp (Ju E sz (.slice a m c) m xs) (Yb a k) vs) (fun S1 hp hlt1 => by
  obtain ⟨w1, hr1, ht1⟩ := hrun S1 hp fun b hb => (hlt1 b hb).1
  rw [hr] at hr1
  cases hr1
  exact ht1) ht.size
 unfold RunsTo
 rw [hr]
 exact ⟨(), rfl, hF', hS'⟩
def _root_.Go.Vc.Kd.so (a i : Nat) (cs : List Value) : Kd := .g [a] [i] [i] (fun _ _ v => v = undef) (fun vs ls _ => [Jdp ((ls.headD none).getD empC) (vs.headD undef) cs])
theorem d_storeD {o : Oper} {i a : Nat} {C0 : Chunk} {cs : List Value} (h : Turns P cx e o L i [] (fun _ : Unit => undef) (fun _ => Jdp C0 (e a) cs)) (hL : L[i]? = some C0) (hw : Xt ops o e = true) (hd : o.dst = none) (k : Sq P cx ops F rest ss e (L.set i (Jdp C0 (e a) cs))) : Sq P cx ops F (o :: rest) (.so a i cs :: ss) e L := by
 have hq : (([i].map (Vc.look L)).headD none).getD empC = C0 := by show (L[i]?).getD empC = C0; rw [hL]; rfl
 have ha : ([a].map e).headD undef = e a := rfl
 refine .take hw ⟨undef, rfl⟩ ⟨fun w L' hF hS hl hi => ?_⟩ fun v' hv' => ?_
 ·refine (h w L' hF hS hl fun j hj => hi j (by simpa [Kd.so, Kd.rds, Kd.wrs] using hj)).mono fun v w' ⟨x, hv, hF', hS'⟩ => ?_
  subst hv
  refine ⟨rfl, hF', ?_⟩
  show Sat cx w' (L'.set i (Jdp ((([i].map (Vc.look L)).headD none).getD empC) (([a].map e).headD undef) cs))
  rw [hq]
  exact hS'
 ·obtain rfl : v' = undef := hv'
  show Sq P cx ops F rest ss (Jdh e o.dst undef) (L.set i (Jdp ((([i].map (Vc.look L)).headD none).getD empC) (([a].map e).headD undef) cs))
  rw [hq, hd]
  exact k
end
end Go.Lx
