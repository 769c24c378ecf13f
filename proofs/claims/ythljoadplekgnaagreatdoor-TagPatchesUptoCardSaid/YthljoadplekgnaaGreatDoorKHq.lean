/- TagPatches, read: the walks, printed by our generator; each follows its model. Conditions: the model yields a value. -/
import Derived.Test.YthljoadplekgnaaGreatDoorKHa
namespace Go.Proofs.YthljoadplekgnaaGreatDoor
open Go Go.Vc Go.Md Go.M Go.Lx Tryz
set_option maxRecDepth 100000
set_option maxHeartbeats 4000000
theorem k17 {a0 : Bool} {a1 : (List UInt8)} {a2 : Int} {a3 : Int} {r : Int} (H : Yb a0 a1 a2 a3 = some r) : Ret prog 17 [.bool a0, str a1, i6 a2, i6 a3] (i6 r) := by
 refine Va (n := 33) func17 rfl rfl rfl (fun wd => ?_)
 refine Jc<|Ja<|ag (i6 0)<|Jd<|Jc<|Ja<|ag (i6 0)<|Jd<|Jc<|Jc<|Ja<|mv (i6 a3)<|mv (i6 0)<|Jd<|Jx<|?_
 refine Za (σ := Int × Int) (τ := Unit) (fun next1 s => Vk a0 a1 a2 a3 next1 s.1 s.2) (fun s t => [(0, .bool a0), (1, str a1), (2, i6 a2), (3, i6 a3), (9, i6 s.1), (12, i6 a3), (13, i6 s.2)]) (fun s t => []) (fun s t => True) (0, 0) () [] H (by exact trivial) (by exact ⟨rfl, rfl, rfl, rfl, rfl, rfl, rfl, trivial⟩) (by decide) rfl ?_
 rintro ⟨x9_2, x13_2⟩ _ m1 gg H14 _
 clear H
 try dsimp only at H14
 generalize hn1 : it (fun next1 s => Vk a0 a1 a2 a3 next1 s.1 s.2) m1 = next1 at H14
 try dsimp only
 refine Jc<|Ja<|lv (X3 rfl rfl)<|Jd<|Jc<|?_
 revert H14
 refine ci (decide (x13_2 < a3)) rfl (fun hb H15=>?_) fun hb H26=>?_
 ·refine Jj<|Jc<|Jx<|Jc<|Ja<|mv (i6 x13_2)<|ag (i6 x13_2)<|Jd<|Jc<|Ja<|mv (i6 a3)<|?_
  obtain ⟨t17, h_t17, H16⟩ := Je H15; clear H15
  refine lv (Zs rfl rfl h_t17)<|mv (i6 x13_2)<|?_
  obtain ⟨t19, h_t19, H17⟩ := Je H16; clear H16
  refine lv (Zs rfl rfl h_t19)<|ag (i6 t19)<|Jd<|?_
  refine Qg (r := r) (σ := Int) (τ := Unit) (fun s => Jab a1 a2 x9_2 x13_2 next1 s) (fun s t => [(0, .bool a0), (1, str a1), (2, i6 a2), (3, i6 a3), (9, i6 x9_2), (11, i6 s), (12, i6 a3), (13, i6 x13_2)]) (fun s t => []) (fun s t => True) ?_ ?_
  ·refine Jc<|Ja<|mv (.bool a0)<|Jd<|?_
   revert H17
   refine ci a0 rfl (fun hb H24=>?_) fun hb H25=>?_
   ·refine Ja<|mv (i6 x13_2)<|ag (i6 x13_2)<|Jd<|?_
    exact cl x13_2 () 0 [] (by exact ⟨H24, trivial⟩)
   ·refine Jj ?_
    exact cl t19 () 0 [] (by exact ⟨H25, trivial⟩)
  ·rintro x11 _ gg H18 _
   try dsimp only at H18
   try dsimp only
   refine Ja<|mv (i6 x9_2)<|?_
   obtain ⟨t23, h_t23, H19⟩ := Je H18; clear H18
   refine lv (r_shlG rfl rfl h_t23)<|mv (str a1)<|mv (i6 a2)<|mv (i6 x11)<|?_
   obtain ⟨t27, h_t27, H20⟩ := Je H19; clear H19
   refine lv (Jy rfl rfl h_t27) ?_
   obtain ⟨t28, h_t28, H21⟩ := Je H20; clear H20
   refine lv (Jc8 kcx rfl rfl h_t28) ?_
   obtain ⟨t29, h_t29, H22⟩ := Je H21; clear H21
   refine lv (Jcf runUnderlying5 Tryz.runUnderlying3 rfl (gK_i64 h_t29))<|lv (r_bitsOr (bits := 64) rfl rfl rfl (Jh0 _))<|ag (i6 (Jap (bOr 64 t23 t29)))<|Jd<|Ja<|?_
   obtain ⟨t31, h_t31, H23⟩ := Je H22; clear H22
   refine lv (Jy rfl rfl h_t31)<|mv (i6 t31)<|Jd<|?_
   exact cl ((Jap (bOr 64 t23 t29)), t31) () m1 [] (by exact ⟨(by subst hn1; exact H23), trivial⟩)
 ·refine Xj<|Jc<|Ja<|mv (i6 x9_2)<|ag (i6 x9_2)<|Jd<|Jm<|?_
  obtain rfl := sj H26
  exact r1 (i6 x9_2)
theorem k31 {a0 : Tb} {v0_2 : Value} {v0_3 : Value} {pb0 : Nat} {a1 : Int} {a2 : Int} {r : Int} {w : World} {h : J1} (hw : Know h w Z0) (f0_2 : FrS h 2 v0_2 (a0.kaa.map Jh)) (f0_3 : FrM h i6 Value.bool v0_3 a0.kae) (hb0 : h pb0 = some (.cells (List.toArray [str a0.s_, .bool a0.kab, v0_2, v0_3, i6 a0.kad, (Yh a0.kac), i6 a0.no_]) 76 (0, 0))) (H : Ji a0 a1 a2 = some r) : Does prog 31 (List.toArray [pz pb0, i6 a1, i6 a2]) w (fun v w' => v = (i6 r) ∧ Grow w w') := by
 refine enter (n := 18) func31 rfl rfl rfl Z0 [] (Sat.nil _ _)<|Jc<|Ja<|ag (i6 0)<|Jd<|Jc<|?_
 exact Qk (Kd.p :: Kd.p :: Kd.p :: Kd.d [] _ :: Kd.p :: Kd.p :: Kd.p :: Kd.d [] _ :: Kd.p :: Kd.p :: Kd.d [] _ :: Kd.p :: []) 0 mixed (by
  refine dm (pz pb0)<|dv (Jg rfl)<|dv (J2 Tryz.runUnderlying76 rfl kck rfl rfl)<|W2 (fun w hF => Zr (v := .bool a0.kab) kbo rfl (hw.now hF _ _ hb0) rfl) rfl rfl<|dm (pz pb0)<|dv (Jg rfl)<|dv (J2 Tryz.runUnderlying76 rfl kcn rfl rfl)<|W2 (fun w hF => Zr (v := str a0.s_) kbp rfl (hw.now hF _ _ hb0) rfl) rfl rfl<|dm (i6 a1)<|dm (i6 a2)<|?_
  have h_t17 := Jt H
  have H2 := Jn H
  refine Ja9 (k17 h_t17) call17 rfl rfl<|Qv rfl rfl (Jz (v := i6 (val (Yb a0.kab a0.s_ a1 a2))) rfl)<|Xr<|Jm<|?_
  obtain rfl := sj H2
  exact r1 (i6 (val (Yb a0.kab a0.s_ a1 a2)))
  ) (by kernel_rfl)
theorem k64 {a0 : Tb} {v0_2 : Value} {v0_3 : Value} {pb0 : Nat} {a1 : Int} {a2 : Int} {r : Bool} {w : World} {h : J1} (hw : Know h w Z0) (f0_2 : FrS h 2 v0_2 (a0.kaa.map Jh)) (f0_3 : FrM h i6 Value.bool v0_3 a0.kae) (hb0 : h pb0 = some (.cells (List.toArray [str a0.s_, .bool a0.kab, v0_2, v0_3, i6 a0.kad, (Yh a0.kac), i6 a0.no_]) 76 (0, 0))) (H : Y6 a0 a1 a2 = some r) : Does prog 64 (List.toArray [pz pb0, i6 a1, i6 a2]) w (fun v w' => v = (.bool r) ∧ Grow w w') := by
 refine enter (n := 29) func64 rfl rfl rfl Z0 [] (Sat.nil _ _)<|Jc<|Ja<|ag (.bool false)<|Jd<|Jc<|Ja<|mv (i6 a1)<|lv (Jey rfl rfl)<|mv (.bool (decide (8 ≤ a1)))<|?_
 revert H
 refine sp (fun hb H6=>?_) fun hb H10=>?_
 ·refine mv (i6 a2)<|mv (pz pb0)<|lv (Jg rfl)<|lf Tryz.runUnderlying76 rfl kcn rfl<|Xs (fun w hF hS => Zr (v := str a0.s_) kbp rfl (hw.now hF _ _ hb0) rfl) rfl rfl rfl<|lv (Yx kcx rfl)<|lv (Jd1 rfl rfl)<|pT (.bool (decide (a2 ≤ (a0.s_.length : Int))))<|mv (.bool (decide (a2 ≤ (a0.s_.length : Int))))<|?_
  revert H6
  refine sp (fun hb H7=>?_) fun hb H9=>?_
  ·refine mv (i6 a1)<|mv (pz pb0)<|lv (Jg rfl)<|lf Tryz.runUnderlying76 rfl kcn rfl<|Xs (fun w hF hS => Zr (v := str a0.s_) kbp rfl (hw.now hF _ _ hb0) rfl) rfl rfl rfl<|lv (Yx kcx rfl)<|mv (i6 a2)<|?_
   obtain ⟨t26, h_t26, H8⟩ := Je H7; clear H7
   refine lv (Zs rfl rfl h_t26)<|lv (Jd1 rfl rfl)<|pT (.bool (decide (a1 ≤ t26)))<|ag (.bool (decide (a1 ≤ t26)))<|Jd<|Jm<|?_
   obtain rfl := sj H8
   exact r1 (.bool (decide (a1 ≤ t26)))
  ·refine pa<|pa<|pa<|pa<|pa<|pa<|pa<|pa<|pa<|pF (.bool false)<|ag (.bool false)<|Jd<|Jm<|?_
   obtain rfl := sj H9
   exact r1 (.bool false)
 ·refine pa<|pa<|pa<|pa<|pa<|pa<|pa<|pF (.bool false)<|mv (.bool false)<|pa<|pa<|pa<|pa<|pa<|pa<|pa<|pa<|pa<|pF (.bool false)<|ag (.bool false)<|Jd<|Jm<|?_
  obtain rfl := sj H10
  exact r1 (.bool false)
theorem k65 {a0 : Tb} {pb0 : Nat} {p0_2 : AN} {n0_2 : Nat} {m0_3 : Nat} {a1 : Int} {r : Tb} {w : World} {h : J1} {S : Nat → Prop} (hcs : (Jw (Jf pb0 [str a0.s_, .bool a0.kab, sl p0_2 n0_2, .map (some m0_3), i6 a0.kad, (Yh a0.kac), i6 a0.no_] 76) (Jw (J4 82 2 (sl p0_2 n0_2) n0_2 (a0.kaa.map Jh)) (Qt i6 Value.bool m0_3 a0.kae))).P S w) (hlt : ∀ b, S b → b < w.heap.size) (hw : Know h w S) (hn0_2 : n0_2 = a0.kaa.length) (H : Qc a0 a1 = some r) : Does prog 65 (List.toArray [pz pb0, i6 a1]) w (fun v w' => ∃ x : AN × Nat, v = (.tuple #[]) ∧ Turn w w' S (Jw (Jf pb0 [str r.s_, .bool r.kab, .slice x.1.1 r.kaa.length x.1.2, .map (some x.2), i6 r.kad, (Yh r.kac), i6 r.no_] 76) (Jw (J4 82 2 (.slice x.1.1 r.kaa.length x.1.2) r.kaa.length (r.kaa.map Jh)) (Qt i6 Value.bool x.2 r.kae)))) := by
 refine enter (n := 13) func65 rfl rfl rfl S [Jw (Jf pb0 [str a0.s_, .bool a0.kab, sl p0_2 n0_2, .map (some m0_3), i6 a0.kad, (Yh a0.kac), i6 a0.no_] 76) (Jw (J4 82 2 (sl p0_2 n0_2) n0_2 (a0.kaa.map Jh)) (Qt i6 Value.bool m0_3 a0.kae))] (Sat.one hcs hlt)<|Qd 0 rfl<|Qd 1 rfl<|Jc<|Ja<|mv (pz pb0)<|lv (Jg rfl)<|lf Tryz.runUnderlying76 rfl kcf rfl<|ll 0 (i6 a0.no_) kbj<|lv (Qj rfl rfl)<|Jd<|?_
 revert H
 refine ci (decide (a0.no_ = 0)) rfl (fun hb H3=>?_) fun hb H4=>?_
 ·refine Ja<|mv (pz pb0)<|mv (i6 a1)<|lv (Jg rfl)<|lf Tryz.runUnderlying76 rfl kcf rfl<|st (i := 0) [i6 a1] [str a0.s_, .bool a0.kab, sl p0_2 n0_2, .map (some m0_3), i6 a0.kad, (Yh a0.kac), i6 a1] kcf rfl rfl<|Jd<|?_
  obtain rfl := sj H3
  refine bo 1 2 rfl rfl<|bo 0 1 rfl rfl<|?_
  refine Jgy rfl (Y0 (p0_2, m0_3) (i := 0) rfl (by first | rfl | rw [(show n0_2 = a0.kaa.length from hn0_2)]) (by first | exact Imp.refl _ | exact Imp.of (by rw [(show n0_2 = a0.kaa.length from hn0_2)] <;> rfl)))
 ·refine Jj ?_
  obtain rfl := sj H4
  refine bo 1 2 rfl rfl<|bo 0 1 rfl rfl<|?_
  refine Jgy rfl (Y0 (p0_2, m0_3) (i := 0) rfl (by first | rfl | rw [(show n0_2 = a0.kaa.length from hn0_2)]) (by first | exact Imp.refl _ | exact Imp.of (by rw [(show n0_2 = a0.kaa.length from hn0_2)] <;> rfl)))
theorem k112 {a0 : Tb} {pb0 : Nat} {p0_2 : AN} {n0_2 : Nat} {m0_3 : Nat} {a1 : (List UInt8)} {r : (List UInt8) × Tb} {w : World} {h : J1} {S : Nat → Prop} (hcs : (Jw (Jf pb0 [str a0.s_, .bool a0.kab, sl p0_2 n0_2, .map (some m0_3), i6 a0.kad, (Yh a0.kac), i6 a0.no_] 76) (Jw (J4 82 2 (sl p0_2 n0_2) n0_2 (a0.kaa.map Jh)) (Qt i6 Value.bool m0_3 a0.kae))).P S w) (hlt : ∀ b, S b → b < w.heap.size) (hw : Know h w S) (hn0_2 : n0_2 = a0.kaa.length) (H : Uq a0 a1 = some r) : Does prog 112 (List.toArray [pz pb0, str a1]) w (fun v w' => ∃ x : AN × Nat, v = (str r.1) ∧ Turn w w' S (Jw (Jf pb0 [str r.2.s_, .bool r.2.kab, .slice x.1.1 r.2.kaa.length x.1.2, .map (some x.2), i6 r.2.kad, (Yh r.2.kac), i6 r.2.no_] 76) (Jw (J4 82 2 (.slice x.1.1 r.2.kaa.length x.1.2) r.2.kaa.length (r.2.kaa.map Jh)) (Qt i6 Value.bool x.2 r.2.kae)))) := by
 refine enter (n := 36) func112 rfl rfl rfl S [Jw (Jf pb0 [str a0.s_, .bool a0.kab, sl p0_2 n0_2, .map (some m0_3), i6 a0.kad, (Yh a0.kac), i6 a0.no_] 76) (Jw (J4 82 2 (sl p0_2 n0_2) n0_2 (a0.kaa.map Jh)) (Qt i6 Value.bool m0_3 a0.kae))] (Sat.one hcs hlt)<|Qd 0 rfl<|Qd 1 rfl<|Jc<|Ja<|ag (str [])<|Jd<|Jc<|Jc<|Ja<|mv (str a1)<|lv (Jh6 rfl rfl)<|mv (.bool (decide (a1 = [])))<|?_
 revert H
 refine sp (fun hb H20=>?_) fun hb H22=>?_
 ·refine pa<|pa<|pa<|pa<|pa<|pa<|pT (.bool true)<|Jd<|Zl rfl<|Jc<|Ja<|mv (pz pb0)<|?_
  obtain ⟨t17, h_t17, H21⟩ := Je H20; clear H20
  refine bo 1 2 rfl rfl<|bo 0 1 rfl rfl<|?_
  refine Qh (Jv (i := 0) (rds := []) rfl (fun w L' S hF hS hi hp hlt ho hA => k65 hp hlt (J7 w S) hn0_2 h_t17) kbf rfl) rfl rfl rfl (fun ⟨p, p_2⟩ => ?_)
  refine ub 0 1 rfl rfl<|ub 1 2 rfl rfl<|Jd<|Jc<|?_
  try dsimp only [z1,z2,z5,z6,z7,z8]
  refine Ja<|ag (str [])<|Jd<|Jm<|?_
  obtain rfl := sj H21
  refine bo 1 2 rfl rfl<|bo 0 1 rfl rfl<|?_
  refine Jdo (v := str []) rfl rfl (Y0 (p, p_2) (i := 0) rfl rfl (Imp.refl _))
 ·refine mv (str a1)<|mv (str a1)<|lv (Yx kcx rfl)<|?_
  obtain ⟨t12, h_t12, H23⟩ := Je H22; clear H22
  refine lv (Zs rfl rfl h_t12) ?_
  obtain ⟨t13, h_t13, H24⟩ := Je H23; clear H23
  refine lv (Jc8 kcx rfl rfl h_t13)<|lv (Yv rfl rfl)<|pF (.bool (decide (t13 ≠ 0)))<|Jd<|?_
  revert H24
  refine ci (decide (t13 ≠ 0)) rfl (fun hb H25=>?_) fun hb H27=>?_
  ·refine Jc<|Ja<|mv (pz pb0)<|?_
   obtain ⟨t17_2, h_t17_2, H26⟩ := Je H25; clear H25
   refine bo 1 2 rfl rfl<|bo 0 1 rfl rfl<|?_
   refine Qh (Jv (i := 0) (rds := []) rfl (fun w L' S hF hS hi hp hlt ho hA => k65 hp hlt (J7 w S) hn0_2 h_t17_2) kbf rfl) rfl rfl rfl (fun ⟨p_3, p_4⟩ => ?_)
   refine ub 0 1 rfl rfl<|ub 1 2 rfl rfl<|Jd<|Jc<|?_
   try dsimp only [z1,z2,z5,z6,z7,z8]
   refine Ja<|ag (str [])<|Jd<|Jm<|?_
   obtain rfl := sj H26
   refine bo 1 2 rfl rfl<|bo 0 1 rfl rfl<|?_
   refine Jdo (v := str []) rfl rfl (Y0 (p_3, p_4) (i := 0) rfl rfl (Imp.refl _))
  ·refine Jj<|Jc<|Ja<|mv (str a1)<|mv (str a1)<|lv (Yx kcx rfl)<|?_
   obtain ⟨t21, h_t21, H28⟩ := Je H27; clear H27
   refine lv (Zs rfl rfl h_t21) ?_
   obtain ⟨t22, h_t22, H29⟩ := Je H28; clear H28
   refine lv (Up kcx rfl rfl h_t22)<|ag (str t22)<|Jd<|Jc<|Jc<|Ja<|mv (str t22)<|lv (Yx kcx rfl)<|mv (i6 0)<|Jd<|Jx<|?_
   refine Za (σ := Int × (List UInt8) × Bool × Int × Nat × Int × (List Tc) × (List (Int × Bool))) (τ := AN × Nat × Nat) (fun next1 s => Xi t22 next1 s.1 s.2.1 s.2.2.1 s.2.2.2.1 s.2.2.2.2.1 s.2.2.2.2.2.1 s.2.2.2.2.2.2.1 s.2.2.2.2.2.2.2) (fun s t => [(0, pz pb0), (1, str t22), (24, i6 (t22.length : Int)), (25, i6 s.1)]) (fun s t => [Jf pb0 [str s.2.1, .bool s.2.2.1, .slice t.1.1 t.2.1 t.1.2, .map (some t.2.2), i6 s.2.2.2.1, (Yh s.2.2.2.2.1), i6 s.2.2.2.2.2.1] 76, J4 82 2 (.slice t.1.1 t.2.1 t.1.2) t.2.1 (s.2.2.2.2.2.2.1.map Jh), Qt i6 Value.bool t.2.2 s.2.2.2.2.2.2.2]) (fun s t => t.2.1 = s.2.2.2.2.2.2.1.length) (0, a0.s_, a0.kab, a0.kad, a0.kac, a0.no_, a0.kaa, a0.kae) (p0_2, n0_2, m0_3) [0, 1, 2] H29 (by exact hn0_2) (by exact ⟨rfl, rfl, rfl, rfl, trivial⟩) (by decide) rfl ?_
   rintro ⟨x25_2, m_6, m_7, m_8, m_9, m_10, l_2, mp_2⟩ ⟨p_5, n, b⟩ m1 gg H30 hl_2
   clear H29
   try dsimp only at H30
   generalize hn1 : it (fun next1 s => Xi t22 next1 s.1 s.2.1 s.2.2.1 s.2.2.2.1 s.2.2.2.2.1 s.2.2.2.2.2.1 s.2.2.2.2.2.2.1 s.2.2.2.2.2.2.2) m1 = next1 at H30
   try dsimp only
   refine Jc<|Ja<|lv (X3 rfl rfl)<|Jd<|Jc<|?_
   revert H30
   refine ci (decide (x25_2 < (t22.length : Int))) rfl (fun hb H31=>?_) fun hb H38=>?_
   ·refine Jj ?_
    refine Qg (r := r) (σ := (List UInt8) × Bool × Int × Nat × Int × (List Tc) × (List (Int × Bool))) (τ := AN × Nat × Nat) (fun s => Vg x25_2 next1 s.1 s.2.1 s.2.2.1 s.2.2.2.1 s.2.2.2.2.1 s.2.2.2.2.2.1 s.2.2.2.2.2.2) (fun s t => [(0, pz pb0), (1, str t22), (24, i6 (t22.length : Int)), (25, i6 x25_2)]) (fun s t => [Jf pb0 [str s.1, .bool s.2.1, .slice t.1.1 t.2.1 t.1.2, .map (some t.2.2), i6 s.2.2.1, (Yh s.2.2.2.1), i6 s.2.2.2.2.1] 76, J4 82 2 (.slice t.1.1 t.2.1 t.1.2) t.2.1 (s.2.2.2.2.2.1.map Jh), Qt i6 Value.bool t.2.2 s.2.2.2.2.2.2]) (fun s t => t.2.1 = s.2.2.2.2.2.1.length) ?_ ?_
    ·refine Jx<|Jc<|Ja<|mv (i6 x25_2)<|ag (i6 x25_2)<|Jd<|Jc<|Ja<|mv (str t22)<|mv (i6 x25_2)<|?_
     obtain ⟨t30, h_t30, H34⟩ := Je H31; clear H31
     refine lv (Jc8 kcx rfl rfl h_t30)<|lv (Qj rfl rfl)<|Jd<|?_
     revert H34
     refine ci (decide (t30 = 0)) rfl (fun hb H35=>?_) fun hb H37=>?_
     ·refine Ja<|mv (pz pb0)<|?_
      obtain ⟨t33, h_t33, H36⟩ := Je H35; clear H35
      refine bo 1 2 rfl rfl<|bo 0 1 rfl rfl<|?_
      refine Qh (Jv (i := 0) (rds := []) rfl (fun w L' S hF hS hi hp hlt ho hA => k65 (a0 := (⟨m_6, m_7, l_2, mp_2, m_8, m_9, m_10⟩ : Tb)) hp hlt (J7 w S) hl_2 h_t33) kbf rfl) rfl rfl rfl (fun ⟨p_7, p_8⟩ => ?_)
      refine ub 0 1 rfl rfl<|ub 1 2 rfl rfl<|Jd<|?_
      exact cl (t33.s_, t33.kab, t33.kad, t33.kac, t33.no_, t33.kaa, t33.kae) (p_7, t33.kaa.length, p_8) 0 [0, 1, 2] (by exact ⟨H36, rfl⟩)
     ·refine Jj ?_
      exact cl (m_6, m_7, m_8, m_9, m_10, l_2, mp_2) (p_5, n, b) 0 [0, 1, 2] (by exact ⟨H37, hl_2⟩)
    ·rintro ⟨m_11, m_12, m_13, m_14, m_15, l_3, mp_3⟩ ⟨p_6, n_2, b_2⟩ gg H32 hl_3
     try dsimp only at H32
     try dsimp only
     refine Ja ?_
     obtain ⟨t34, h_t34, H33⟩ := Je H32; clear H32
     refine lv (Jy rfl rfl h_t34)<|mv (i6 t34)<|Jd<|?_
     exact cl (t34, m_11, m_12, m_13, m_14, m_15, l_3, mp_3) (p_6, n_2, b_2) m1 [0, 1, 2] (by exact ⟨(by subst hn1; exact H33), hl_3⟩)
   ·refine Xj<|Jc<|?_
    try dsimp only [z1,z2,z5,z6,z7,z8]
    refine Ja<|mv (str t22)<|ag (str t22)<|Jd<|Jm<|?_
    obtain rfl := sj H38
    refine bo 1 2 rfl rfl<|bo 0 1 rfl rfl<|?_
    refine Jdo (v := str t22) rfl rfl (Y0 (p_5, b) (i := 0) rfl (by first | rfl | rw [(show n = l_2.length from hl_2)]) (by first | exact Imp.refl _ | exact Imp.of (by rw [(show n = l_2.length from hl_2)] <;> rfl)))
theorem k95 {a0 : Tb} {pb0 : Nat} {p0_2 : AN} {n0_2 : Nat} {m0_3 : Nat} {a1 : Int} {a2 : Int} {a3 : Int} {r : Te × Tb} {w : World} {h : J1} {S : Nat → Prop} (hcs : (Jw (Jf pb0 [str a0.s_, .bool a0.kab, sl p0_2 n0_2, .map (some m0_3), i6 a0.kad, (Yh a0.kac), i6 a0.no_] 76) (Jw (J4 82 2 (sl p0_2 n0_2) n0_2 (a0.kaa.map Jh)) (Qt i6 Value.bool m0_3 a0.kae))).P S w) (hlt : ∀ b, S b → b < w.heap.size) (hw : Know h w S) (hn0_2 : n0_2 = a0.kaa.length) (H : Wl a0 a1 a2 a3 = some r) : Does prog 95 (List.toArray [pz pb0, i6 a1, i6 a2, i6 a3]) w (fun v w' => ∃ x : AN × AN × AN × AN × Nat, v = (.agg #[i6 r.1.kai, str r.1.kaj, .slice x.1.1 r.1.kak.length x.1.2, .slice x.2.1.1 r.1.kah.length x.2.1.2, .slice x.2.2.1.1 r.1.kag.length x.2.2.1.2]) ∧ Turn w w' S (Jw (Jf pb0 [str r.2.s_, .bool r.2.kab, .slice x.2.2.2.1.1 r.2.kaa.length x.2.2.2.1.2, .map (some x.2.2.2.2), i6 r.2.kad, (Yh r.2.kac), i6 r.2.no_] 76) (Jw (J4 82 2 (.slice x.2.2.2.1.1 r.2.kaa.length x.2.2.2.1.2) r.2.kaa.length (r.2.kaa.map Jh)) (Jw (Qt i6 Value.bool x.2.2.2.2 r.2.kae) (Jw (J4 3 1 (.slice x.1.1 r.1.kak.length x.1.2) r.1.kak.length (r.1.kak.map J8)) (Jw (J4 98 2 (.slice x.2.1.1 r.1.kah.length x.2.1.2) r.1.kah.length (r.1.kah.map Jl)) (Uj 95 6 g_tag_Entry (.slice x.2.2.1.1 r.1.kag.length x.2.2.1.2) r.1.kag.length r.1.kag))))))) := by
 refine enter (n := 131) func95 rfl rfl rfl S [Jw (Jf pb0 [str a0.s_, .bool a0.kab, sl p0_2 n0_2, .map (some m0_3), i6 a0.kad, (Yh a0.kac), i6 a0.no_] 76) (Jw (J4 82 2 (sl p0_2 n0_2) n0_2 (a0.kaa.map Jh)) (Qt i6 Value.bool m0_3 a0.kae))] (Sat.one hcs hlt)<|Qd 0 rfl<|Qd 1 rfl<|X8 Q9<|Jc<|Ja<|?_
 refine Xx (cs := [i6 0, str [], z0s, z0s, z0s]) zeroValue26 rfl rfl rfl (fun b5 => ?_)
 refine Jd<|Jc<|Ja<|mv (i6 a2)<|mv (i6 a1)<|?_
 obtain ⟨t17, h_t17, H50⟩ := Je H; clear H
 refine Yq (k43 h_t17) call43 rfl rfl rfl ?_
 obtain ⟨t18, h_t18, H51⟩ := Je H50; clear H50
 refine lv (Z3 rfl rfl h_t18)<|ag (i6 t18)<|Jd<|Jc<|Ja<|mv (i6 a3)<|ag (i6 a3)<|Jd<|?_
 refine Qg (r := r) (σ := Int × (List Tc)) (τ := AN × Nat) (fun s => Ve a0 a1 a2 t18 s.1 s.2) (fun s t => [(0, pz pb0), (1, i6 a1), (2, i6 a2), (8, pz b5), (9, i6 t18), (10, i6 s.1)]) (fun s t => [Jf pb0 [str a0.s_, .bool a0.kab, .slice t.1.1 t.2 t.1.2, .map (some m0_3), i6 a0.kad, (Yh a0.kac), i6 a0.no_] 76, J4 82 2 (.slice t.1.1 t.2 t.1.2) t.2 (s.2.map Jh), Qt i6 Value.bool m0_3 a0.kae, Xm Q9 Q9, Jf b5 [i6 0, str [], z0s, z0s, z0s] 26]) (fun s t => t.2 = s.2.length) ?_ ?_
 ·refine Jc<|Ja<|mv (i6 t18)<|lv (Yf rfl rfl)<|Jd<|?_
  revert H51
  refine ci (decide (4 < t18)) rfl (fun hb H90=>?_) fun hb H98=>?_
  ·refine Jc<|Ja<|mv (pz pb0)<|mv (i6 a3)<|?_
   obtain ⟨t24, h_t24, H91⟩ := Je H90; clear H90
   refine Qb (fun w hF hS => k31 (a0 := a0) (Jq w) (Xl (i := 1) hn0_2 hS rfl) (Q6 (fk := i6) (fv := Value.bool) (i := 2) hS rfl) (Ql (i := 0) hS rfl) h_t24) kbe rfl rfl rfl<|ag (i6 t24)<|Jd<|Jc<|Jc<|Ja<|mv (pz pb0)<|mv (i6 t24)<|mv (i6 t18)<|?_
   obtain ⟨t28, h_t28, H92⟩ := Je H91; clear H91
   refine Qb (fun w hF hS => k64 (a0 := a0) (Jq w) (Xl (i := 1) hn0_2 hS rfl) (Q6 (fk := i6) (fv := Value.bool) (i := 2) hS rfl) (Ql (i := 0) hS rfl) h_t28) call64 rfl rfl rfl<|lv (Ja6 rfl)<|Jd<|?_
   revert H92
   refine ci (!t28) rfl (fun hb H93=>?_) fun hb H95=>?_
   ·refine Jc<|Ja<|mv (pz pb0)<|?_
    obtain ⟨t31, h_t31, H94⟩ := Je H93; clear H93
    refine bo 1 2 rfl rfl<|bo 0 1 rfl rfl<|?_
    refine Qh (Jv (i := 0) (rds := []) rfl (fun w L' S hF hS hi hp hlt ho hA => k65 hp hlt (J7 w S) hn0_2 h_t31) kbf rfl) rfl rfl rfl (fun ⟨p_11, p_12⟩ => ?_)
    refine ub 0 1 rfl rfl<|ub 1 2 rfl rfl<|Jd<|Jc<|?_
    try dsimp only [z1,z2,z5,z6,z7,z8]
    refine Ja<|lv (Xf (pl := #[(0, 1), (1, 1), (2, 1), (3, 1), (4, 1)]) (ps := []) (cells := #[i6 0, str [], z0s, z0s, z0s]) zeroValue26 Tryz.runUnderlying26 (fun w => by kernel_rfl) rfl rfl)<|st (i := 4) [i6 0, str [], z0s, z0s, z0s] [i6 0, str [], z0s, z0s, z0s] kce rfl rfl<|Jd<|Jm<|?_
    try dsimp only [z1, z2, z3, z4, z5, z6, z7, z8]
    refine Jp 3 1<|Jp 98 2<|Jp 95 6<|?_
    try dsimp only [z1,z2,z5,z6,z7,z8]
    obtain rfl := sj H94
    refine bo 3 7 rfl rfl<|Xv 3 rfl (Q7 (p := nn) rfl (AllC.nil (G := g_tag_Entry) (h := Q9) (sz := 6)))<|bo 6 3 rfl rfl<|bo 5 6 rfl rfl<|bo 2 5 rfl rfl<|bo 1 2 rfl rfl<|bo 0 1 rfl rfl<|?_
    refine retC (i := 4) (vs := [i6 0, str [], sl nn ([] : List Int).length, sl nn ([] : List Tg).length, sl nn (([] : List (List Value)).length)]) kbi kce rfl rfl rfl rfl (Y0 (nn, nn, nn, p_11, p_12) (i := 0) rfl (by first | rfl | rw [(show (([] : List (List Value)).length) = ([] : List Ta).length from (AllC.nil (G := g_tag_Entry) (h := Q9) (sz := 6)).len)]) (by first | exact Imp.refl _ | exact Imp.of (by rw [(show (([] : List (List Value)).length) = ([] : List Ta).length from (AllC.nil (G := g_tag_Entry) (h := Q9) (sz := 6)).len)] <;> rfl)))
   ·refine Jj ?_
    try dsimp only [z1,z2,z5,z6,z7,z8]
    refine Ja<|mv (pz pb0)<|mv (pz pb0)<|lv (Jg rfl)<|lf Tryz.runUnderlying76 rfl kcj rfl<|ll 0 (sl p0_2 n0_2) kbn<|mv (i6 t24)<|mv (i6 t24)<|mv (i6 t18)<|?_
    obtain ⟨t41, h_t41, H96⟩ := Je H95; clear H95
    refine lv (Jy rfl rfl h_t41)<|lv (Xf (pl := #[(0, 1), (1, 1)]) (ps := [(0, i6 t24), (1, i6 t41)]) (cells := #[i6 t24, i6 t41]) zeroValue82 Tryz.runUnderlying82 (fun w => by kernel_rfl) rfl rfl)<|?_
    refine Q5 (vs := [.agg #[i6 t24, i6 t41]]) (cs := [i6 t24, i6 t41]) kcv kcm zeroValue82 rfl rfl rfl rfl rfl rfl rfl (fun b9 => ?_)
    obtain ⟨l44, h_l44, H97⟩ := Je H96; clear H96
    refine Qh (Yg (i := 1) (hn := hn0_2) (rds := [5]) (p := p0_2) (sz := 2) (by_ := 16) (f := Jh) (ys := a0.kaa) (ls := ([(⟨t24, t41⟩ : Tc)] : List Tc)) (V := .slice (some ⟨b9, 0, none⟩) 1 1) kcv (X0 typeInfo82) rfl rfl rfl rfl rfl rfl rfl rfl rfl rfl (fun w L' hF hS hi => Wy (i := 5) hS ((hi 5 (by simp)).trans rfl) rfl rfl) (fun _ => rfl) (fun _ => rfl) h_l44) rfl rfl rfl (fun p_13 => ?_)
    refine lv (Jg rfl)<|lf Tryz.runUnderlying76 rfl kcj rfl<|st (i := 0) [sl p_13 l44.length] [str a0.s_, .bool a0.kab, sl p_13 l44.length, .map (some m0_3), i6 a0.kad, (Yh a0.kac), i6 a0.no_] kcj rfl rfl<|Jd<|?_
    exact cl (t24, l44) (p_13, l44.length) 0 [0, 1, 2, 3, 4] (by exact ⟨H97, rfl⟩)
  ·refine Jj ?_
   exact cl (a3, a0.kaa) (p0_2, n0_2) 0 [0, 1, 2, 3, 4] (by exact ⟨H98, hn0_2⟩)
 ·rintro ⟨x10, l⟩ ⟨p, n⟩ gg H52 hl
  try dsimp only at H52
  try dsimp only
  refine Jc<|Ja<|mv (i6 a1)<|lv (Xf (pl := #[(0, 1), (1, 1), (2, 1), (3, 1), (4, 1)]) (ps := [(0, i6 a1)]) (cells := #[i6 a1, str [], z0s, z0s, z0s]) zeroValue26 Tryz.runUnderlying26 (fun w => by kernel_rfl) rfl rfl)<|?_
  refine Xx (cs := [i6 0, str [], z0s, z0s, z0s]) zeroValue26 rfl rfl rfl (fun b6 => ?_)
  refine st (i := 5) [i6 a1, str [], z0s, z0s, z0s] [i6 a1, str [], z0s, z0s, z0s] kce rfl rfl<|Jd<|?_
  refine Qg (r := r) (σ := (List UInt8) × Bool × Int × Nat × Int × (List Tc) × (List (Int × Bool)) × (List UInt8) × (List Int) × (List Tg)) (τ := AN × Nat × Nat × AN × AN) (fun s => Vb a1 s.1 s.2.1 s.2.2.1 s.2.2.2.1 s.2.2.2.2.1 s.2.2.2.2.2.1 s.2.2.2.2.2.2.1 s.2.2.2.2.2.2.2.1 s.2.2.2.2.2.2.2.2.1 s.2.2.2.2.2.2.2.2.2) (fun s t => [(8, pz b5), (11, pz b6)]) (fun s t => [Jf pb0 [str s.1, .bool s.2.1, .slice t.1.1 t.2.1 t.1.2, .map (some t.2.2.1), i6 s.2.2.1, (Yh s.2.2.2.1), i6 s.2.2.2.2.1] 76, J4 82 2 (.slice t.1.1 t.2.1 t.1.2) t.2.1 (s.2.2.2.2.2.1.map Jh), Qt i6 Value.bool t.2.2.1 s.2.2.2.2.2.2.1, Xm Q9 Q9, Jf b5 [i6 0, str [], z0s, z0s, z0s] 26, Jf b6 [i6 a1, str s.2.2.2.2.2.2.2.1, .slice t.2.2.2.1.1 s.2.2.2.2.2.2.2.2.1.length t.2.2.2.1.2, .slice t.2.2.2.2.1 s.2.2.2.2.2.2.2.2.2.length t.2.2.2.2.2, z0s] 26, J4 3 1 (.slice t.2.2.2.1.1 s.2.2.2.2.2.2.2.2.1.length t.2.2.2.1.2) s.2.2.2.2.2.2.2.2.1.length (s.2.2.2.2.2.2.2.2.1.map J8), J4 98 2 (.slice t.2.2.2.2.1 s.2.2.2.2.2.2.2.2.2.length t.2.2.2.2.2) s.2.2.2.2.2.2.2.2.2.length (s.2.2.2.2.2.2.2.2.2.map Jl)]) (fun s t => t.2.1 = s.2.2.2.2.2.1.length) ?_ ?_
  ·refine Jx<|Jc<|?_
   try dsimp only [z1,z2,z5,z6,z7,z8]
   refine Ja<|mv (i6 a1)<|lv (Qj rfl rfl)<|ag (.bool (decide (a1 = 2)))<|Jd<|?_
   revert H52
   refine ci (decide (a1 = 2)) rfl (fun hb H54=>?_) fun hb H58=>?_
   ·refine Ja<|mv (pz pb0)<|mv (pz pb0)<|lv (Jg rfl)<|lf Tryz.runUnderlying76 rfl kcn rfl<|ll 0 (str a0.s_) kbp<|mv (i6 x10)<|mv (i6 x10)<|mv (i6 t18)<|?_
    obtain ⟨t86, h_t86, H55⟩ := Je H54; clear H54
    refine lv (Jy rfl rfl h_t86) ?_
    obtain ⟨t87, h_t87, H56⟩ := Je H55; clear H55
    refine lv (Jep kcx rfl rfl rfl h_t87) ?_
    obtain ⟨t88, h_t88, H57⟩ := Je H56; clear H56
    refine bo 1 2 rfl rfl<|bo 0 1 rfl rfl<|?_
    refine Qh (Jv (i := 0) (rds := []) rfl (fun w L' S hF hS hi hp hlt ho hA => k112 (a0 := (⟨a0.s_, a0.kab, l, a0.kae, a0.kad, a0.kac, a0.no_⟩ : Tb)) hp hlt (J7 w S) hl h_t88) call112 rfl) rfl rfl rfl (fun ⟨p_5, p_6⟩ => ?_)
    refine ub 0 1 rfl rfl<|ub 1 2 rfl rfl<|lf Tryz.runUnderlying26 rfl kcn rfl<|st (i := 5) [str t88.1] [i6 a1, str t88.1, z0s, z0s, z0s] kcn rfl rfl<|Jd<|Jp 3 1<|Jp 98 2<|?_
    exact cl (t88.2.s_, t88.2.kab, t88.2.kad, t88.2.kac, t88.2.no_, t88.2.kaa, t88.2.kae, t88.1, ([] : List Int), ([] : List Tg)) (p_5, t88.2.kaa.length, p_6, nn, nn) 0 [0, 1, 2, 3, 4, 5, 6, 7] (by exact ⟨H57, rfl⟩)
   ·refine Jc ?_
    try dsimp only [z1,z2,z5,z6,z7,z8]
    refine Ja<|mv (i6 a1)<|lv (Qj rfl rfl)<|ag (.bool (decide (a1 = 7)))<|Jd<|?_
    revert H58
    refine ci (decide (a1 = 7)) rfl (fun hb H59=>?_) fun hb H62=>?_
    ·refine Ja<|mv (pz pb0)<|lv (Jg rfl)<|lf Tryz.runUnderlying76 rfl kcn rfl<|ll 0 (str a0.s_) kbp<|mv (i6 x10)<|mv (i6 x10)<|mv (i6 t18)<|?_
     obtain ⟨t100, h_t100, H60⟩ := Je H59; clear H59
     refine lv (Jy rfl rfl h_t100) ?_
     obtain ⟨t101, h_t101, H61⟩ := Je H60; clear H60
     refine lv (Jep kcx rfl rfl rfl h_t101)<|lf Tryz.runUnderlying26 rfl kcn rfl<|st (i := 5) [str t101] [i6 a1, str t101, z0s, z0s, z0s] kcn rfl rfl<|Jd<|Jp 3 1<|Jp 98 2<|?_
     exact cl (a0.s_, a0.kab, a0.kad, a0.kac, a0.no_, l, a0.kae, t101, ([] : List Int), ([] : List Tg)) (p, n, m0_3, nn, nn) 0 [0, 1, 2, 3, 4, 5, 6, 7] (by exact ⟨H61, hl⟩)
    ·refine Jc<|Ja<|mv (i6 a1)<|lv (Qj rfl rfl)<|ag (.bool (decide (a1 = 5)))<|Jd<|?_
     revert H62
     refine ci (decide (a1 = 5)) rfl (fun hb H63=>?_) fun hb H76=>?_
     ·refine Jc<|Ja<|mv (i6 a2)<|mv (i6 0)<|Jd<|Jx<|Jp 98 2<|?_
      refine Za (σ := Int × (List Tg)) (τ := AN) (fun next3 s => X5 a0 a1 a2 x10 l next3 s.1 s.2) (fun s t => [(0, pz pb0), (8, pz b5), (10, i6 x10), (11, pz b6), (106, i6 a2), (107, i6 s.1)]) (fun s t => [Jf pb0 [str a0.s_, .bool a0.kab, sl p n, .map (some m0_3), i6 a0.kad, (Yh a0.kac), i6 a0.no_] 76, J4 82 2 (sl p n) n (l.map Jh), Qt i6 Value.bool m0_3 a0.kae, Xm Q9 Q9, Jf b5 [i6 0, str [], z0s, z0s, z0s] 26, Jf b6 [i6 a1, str [], z0s, sl t s.2.length, z0s] 26, J4 98 2 (sl t s.2.length) s.2.length (s.2.map Jl)]) (fun s t => True) (0, ([] : List Tg)) nn [0, 1, 2, 3, 4, 5, 6] H63 (by exact trivial) (by exact ⟨rfl, rfl, rfl, rfl, rfl, rfl, trivial⟩) (by decide) rfl ?_
      rintro ⟨x107_2, l_6⟩ p_7 m3 gg H64 _
      clear H63
      try dsimp only at H64
      generalize hn3 : it (fun next3 s => X5 a0 a1 a2 x10 l next3 s.1 s.2) m3 = next3 at H64
      try dsimp only
      refine Jc<|Ja<|lv (X3 rfl rfl)<|Jd<|Jc<|?_
      revert H64
      refine ci (decide (x107_2 < a2)) rfl (fun hb H65=>?_) fun hb H75=>?_
      ·refine Jj<|Jc<|Jx<|Jc<|Ja<|mv (i6 x107_2)<|ag (i6 x107_2)<|Jd<|?_
       exact Qk (Kd.p :: Kd.d [5] _ :: Kd.p :: Kd.p :: Kd.p :: Kd.p :: Kd.p :: Kd.d [3, 0, 1, 2] _ :: Kd.p :: Kd.p :: Kd.p :: Kd.p :: Kd.p :: Kd.p :: Kd.d [3, 0, 1, 2] _ :: Kd.p :: Kd.ns 7 [_, _] 98 1 :: Kd.t 6 [7] _ _ :: Kd.p :: Kd.sv 128 127 5 _ 26 :: []) 1 mixed (by
        refine dv (J2 Tryz.runUnderlying26 rfl kcc rfl rfl)<|dl (sl p_7 l_6.length) isAgg23<|dm (pz pb0)<|dm (i6 x10)<|dm (i6 x107_2)<|?_
        have h_t115 := Jt H65
        have H66 := Jn H65
        refine dv (Z3 rfl rfl h_t115) ?_
        have h_t116 := Jt H66
        have H67 := Jn H66
        refine dv (Jy rfl rfl h_t116) ?_
        have h_t117 := Jt H67
        have H68 := Jn H67
        refine Jar (fun w L' hF hS hi => k31 (a0 := (⟨a0.s_, a0.kab, l, a0.kae, a0.kad, a0.kac, a0.no_⟩ : Tb)) (Jq w) (Xl (i := 1) hl hS ((hi 1 (by simp)).trans rfl)) (Q6 (fk := i6) (fv := Value.bool) (i := 2) hS ((hi 2 (by simp)).trans rfl)) (Ql (i := 0) hS ((hi 0 (by simp)).trans rfl)) h_t117) kbe rfl rfl<|dm (pz pb0)<|dm (i6 x10)<|dm (i6 x107_2)<|?_
        have h_t121 := Jt H68
        have H69 := Jn H68
        refine dv (Z3 rfl rfl h_t121) ?_
        have h_t122 := Jt H69
        have H70 := Jn H69
        refine dv (Jy rfl rfl h_t122) ?_
        have h_t123 := Jt H70
        have H71 := Jn H70
        refine dv (Jy rfl rfl h_t123) ?_
        have h_t124 := Jt H71
        have H72 := Jn H71
        refine Jar (fun w L' hF hS hi => k31 (a0 := (⟨a0.s_, a0.kab, l, a0.kae, a0.kad, a0.kac, a0.no_⟩ : Tb)) (Jq w) (Xl (i := 1) hl hS ((hi 1 (by simp)).trans rfl)) (Q6 (fk := i6) (fv := Value.bool) (i := 2) hS ((hi 2 (by simp)).trans rfl)) (Ql (i := 0) hS ((hi 0 (by simp)).trans rfl)) h_t124) kbe rfl rfl<|dv (Xf (pl := #[(0, 1), (1, 1)]) (ps := [(0, i6 (val (Ji (⟨a0.s_, a0.kab, l, a0.kae, a0.kad, a0.kac, a0.no_⟩ : Tb) (val (gI (x10 + (val (gI (8 * x107_2)))))) 4))), (1, i6 (val (Ji (⟨a0.s_, a0.kab, l, a0.kae, a0.kad, a0.kac, a0.no_⟩ : Tb) (val (gI ((val (gI (x10 + (val (gI (8 * x107_2)))))) + 4))) 4)))]) (cells := #[i6 (val (Ji (⟨a0.s_, a0.kab, l, a0.kae, a0.kad, a0.kac, a0.no_⟩ : Tb) (val (gI (x10 + (val (gI (8 * x107_2)))))) 4)), i6 (val (Ji (⟨a0.s_, a0.kab, l, a0.kae, a0.kad, a0.kac, a0.no_⟩ : Tb) (val (gI ((val (gI (x10 + (val (gI (8 * x107_2)))))) + 4))) 4))]) zeroValue98 Tryz.runUnderlying98 (fun w => by kernel_rfl) rfl rfl)<|?_
        refine d_newS rfl rfl (Jbx (vs := [.agg #[i6 (val (Ji (⟨a0.s_, a0.kab, l, a0.kae, a0.kad, a0.kac, a0.no_⟩ : Tb) (val (gI (x10 + (val (gI (8 * x107_2)))))) 4)), i6 (val (Ji (⟨a0.s_, a0.kab, l, a0.kae, a0.kad, a0.kac, a0.no_⟩ : Tb) (val (gI ((val (gI (x10 + (val (gI (8 * x107_2)))))) + 4))) 4))]]) (cs := [i6 (val (Ji (⟨a0.s_, a0.kab, l, a0.kae, a0.kad, a0.kac, a0.no_⟩ : Tb) (val (gI (x10 + (val (gI (8 * x107_2)))))) 4)), i6 (val (Ji (⟨a0.s_, a0.kab, l, a0.kae, a0.kad, a0.kac, a0.no_⟩ : Tb) (val (gI ((val (gI (x10 + (val (gI (8 * x107_2)))))) + 4))) 4))]) kcs kcp zeroValue98 rfl rfl rfl rfl rfl) rfl (fun b7 => ?_)
        have h_l127 := Jt H72
        have H73 := Jn H72
        refine Jct (Cv := fun v => J4 98 2 v (val (Wb 16 l_6 ([(⟨(val (Ji (⟨a0.s_, a0.kab, l, a0.kae, a0.kad, a0.kac, a0.no_⟩ : Tb) (val (gI (x10 + (val (gI (8 * x107_2)))))) 4)), (val (Ji (⟨a0.s_, a0.kab, l, a0.kae, a0.kad, a0.kac, a0.no_⟩ : Tb) (val (gI ((val (gI (x10 + (val (gI (8 * x107_2)))))) + 4))) 4))⟩ : Tg)] : List Tg))).length ((val (Wb 16 l_6 ([(⟨(val (Ji (⟨a0.s_, a0.kab, l, a0.kae, a0.kad, a0.kac, a0.no_⟩ : Tb) (val (gI (x10 + (val (gI (8 * x107_2)))))) 4)), (val (Ji (⟨a0.s_, a0.kab, l, a0.kae, a0.kad, a0.kac, a0.no_⟩ : Tb) (val (gI ((val (gI (x10 + (val (gI (8 * x107_2)))))) + 4))) 4))⟩ : Tg)] : List Tg))).map Jl)) (none, 0) (Yg (i := 6) (hn := rfl) (rds := [7]) (p := p_7) (sz := 2) (by_ := 16) (f := Jl) (ys := l_6) (ls := ([(⟨(val (Ji (⟨a0.s_, a0.kab, l, a0.kae, a0.kad, a0.kac, a0.no_⟩ : Tb) (val (gI (x10 + (val (gI (8 * x107_2)))))) 4)), (val (Ji (⟨a0.s_, a0.kab, l, a0.kae, a0.kad, a0.kac, a0.no_⟩ : Tb) (val (gI ((val (gI (x10 + (val (gI (8 * x107_2)))))) + 4))) 4))⟩ : Tg)] : List Tg)) (V := .slice (some ⟨b7, 0, none⟩) 1 1) kcs (X0 typeInfo98) rfl rfl rfl rfl rfl rfl rfl rfl rfl rfl (fun w L' hF hS hi => Wy (i := 7) hS ((hi 7 (by simp)).trans rfl) rfl rfl) (fun _ => rfl) (fun _ => rfl) h_l127) (fun _ => rfl) rfl rfl (fun p_8 => ?_)
        refine dv (J2 Tryz.runUnderlying26 rfl kcc rfl rfl)<|Jdf (i := 5) (vs := [.slice p_8.1 (val (Wb 16 l_6 ([(⟨(val (Ji (⟨a0.s_, a0.kab, l, a0.kae, a0.kad, a0.kac, a0.no_⟩ : Tb) (val (gI (x10 + (val (gI (8 * x107_2)))))) 4)), (val (Ji (⟨a0.s_, a0.kab, l, a0.kae, a0.kad, a0.kac, a0.no_⟩ : Tb) (val (gI ((val (gI (x10 + (val (gI (8 * x107_2)))))) + 4))) 4))⟩ : Tg)] : List Tg))).length p_8.2]) (cs' := fun v_ => [i6 a1, str [], z0s, v_, z0s]) kcc rfl rfl rfl rfl rfl rfl rfl rfl rfl<|Xr<|Ja<|?_
        obtain ⟨t129, h_t129, H74⟩ := Je H73; clear H73
        refine lv (Jy rfl rfl h_t129)<|mv (i6 t129)<|Jd<|?_
        exact cl (t129, (val (Wb 16 l_6 ([(⟨(val (Ji (⟨a0.s_, a0.kab, l, a0.kae, a0.kad, a0.kac, a0.no_⟩ : Tb) (val (gI (x10 + (val (gI (8 * x107_2)))))) 4)), (val (Ji (⟨a0.s_, a0.kab, l, a0.kae, a0.kad, a0.kac, a0.no_⟩ : Tb) (val (gI ((val (gI (x10 + (val (gI (8 * x107_2)))))) + 4))) 4))⟩ : Tg)] : List Tg)))) p_8 m3 [0, 1, 2, 3, 4, 5, 6] (by exact ⟨(by subst hn3; exact H74), trivial⟩)
        ) (by kernel_rfl)
      ·refine Xj<|Jp 3 1<|?_
       exact cl (a0.s_, a0.kab, a0.kad, a0.kac, a0.no_, l, a0.kae, [], ([] : List Int), l_6) (p, n, m0_3, nn, p_7) 0 [0, 1, 2, 3, 4, 5, 7, 6] (by exact ⟨H75, hl⟩)
     ·refine Jc<|Ja<|mv (i6 a2)<|mv (i6 0)<|Jd<|Jx<|Jp 3 1<|?_
      refine Za (σ := Int × (List Int)) (τ := AN) (fun next4 s => X6 a0 a1 a2 x10 l next4 s.1 s.2) (fun s t => [(0, pz pb0), (1, i6 a1), (8, pz b5), (10, i6 x10), (11, pz b6), (49, i6 a2), (50, i6 s.1)]) (fun s t => [Jf pb0 [str a0.s_, .bool a0.kab, sl p n, .map (some m0_3), i6 a0.kad, (Yh a0.kac), i6 a0.no_] 76, J4 82 2 (sl p n) n (l.map Jh), Qt i6 Value.bool m0_3 a0.kae, Xm Q9 Q9, Jf b5 [i6 0, str [], z0s, z0s, z0s] 26, Jf b6 [i6 a1, str [], sl t s.2.length, z0s, z0s] 26, J4 3 1 (sl t s.2.length) s.2.length (s.2.map J8)]) (fun s t => True) (0, ([] : List Int)) nn [0, 1, 2, 3, 4, 5, 6] H76 (by exact trivial) (by exact ⟨rfl, rfl, rfl, rfl, rfl, rfl, rfl, trivial⟩) (by decide) rfl ?_
      rintro ⟨x50_2, l_8⟩ p_9 m4 gg H77 _
      clear H76
      try dsimp only at H77
      generalize hn4 : it (fun next4 s => X6 a0 a1 a2 x10 l next4 s.1 s.2) m4 = next4 at H77
      try dsimp only
      refine Jc ?_
      try dsimp only [z1,z2,z5,z6,z7,z8]
      refine Ja<|lv (X3 rfl rfl)<|Jd<|Jc<|?_
      revert H77
      refine ci (decide (x50_2 < a2)) rfl (fun hb H78=>?_) fun hb H89=>?_
      ·refine Jj<|Jc<|Jx<|Jc<|Ja<|mv (i6 x50_2)<|ag (i6 x50_2)<|Jd<|Jc<|Ja<|mv (pz pb0)<|mv (i6 x10)<|mv (i6 x50_2)<|mv (i6 a1)<|?_
       obtain ⟨t57, h_t57, H79⟩ := Je H78; clear H78
       refine Yq (k43 h_t57) call43 rfl rfl rfl ?_
       obtain ⟨t58, h_t58, H80⟩ := Je H79; clear H79
       refine lv (Z3 rfl rfl h_t58) ?_
       obtain ⟨t59, h_t59, H81⟩ := Je H80; clear H80
       refine lv (Jy rfl rfl h_t59)<|mv (i6 a1)<|?_
       obtain ⟨t61, h_t61, H82⟩ := Je H81; clear H81
       refine Yq (k43 h_t61) call43 rfl rfl rfl ?_
       obtain ⟨t62, h_t62, H83⟩ := Je H82; clear H82
       refine Qb (fun w hF hS => k31 (a0 := (⟨a0.s_, a0.kab, l, a0.kae, a0.kad, a0.kac, a0.no_⟩ : Tb)) (Jq w) (Xl (i := 1) hl hS rfl) (Q6 (fk := i6) (fv := Value.bool) (i := 2) hS rfl) (Ql (i := 0) hS rfl) h_t62) kbe rfl rfl rfl<|ag (i6 t62)<|Jd<|?_
       refine Qg (r := r) (σ := Int) (τ := Unit) (fun s => Vi x50_2 l_8 next4 s) (fun s t => [(0, pz pb0), (1, i6 a1), (8, pz b5), (10, i6 x10), (11, pz b6), (14, i6 s), (49, i6 a2), (50, i6 x50_2)]) (fun s t => [Jf pb0 [str a0.s_, .bool a0.kab, sl p n, .map (some m0_3), i6 a0.kad, (Yh a0.kac), i6 a0.no_] 76, J4 82 2 (sl p n) n (l.map Jh), Qt i6 Value.bool m0_3 a0.kae, Xm Q9 Q9, Jf b5 [i6 0, str [], z0s, z0s, z0s] 26, Jf b6 [i6 a1, str [], sl p_9 l_8.length, z0s, z0s] 26, J4 3 1 (sl p_9 l_8.length) l_8.length (l_8.map J8)]) (fun s t => True) ?_ ?_
       ·refine Jc<|Ja<|mv (i6 a1)<|lv (Qj rfl rfl)<|Jd<|?_
        revert H83
        refine ci (decide (a1 = 9)) rfl (fun hb H87=>?_) fun hb H88=>?_
        ·refine Ja<|mv (i6 t62)<|lv (Jcf Tryz.runUnderlying3 runUnderlying21 rfl (wr_i32 _))<|lv (Jcf runUnderlying21 Tryz.runUnderlying3 rfl (Jh0 _))<|ag (i6 (Jap (wI32 t62)))<|Jd<|?_
         exact cl (Jap (wI32 t62)) () 0 [0, 1, 2, 3, 4, 5, 6] (by exact ⟨H87, trivial⟩)
        ·refine Jj ?_
         exact cl t62 () 0 [0, 1, 2, 3, 4, 5, 6] (by exact ⟨H88, trivial⟩)
       ·rintro x14 _ gg H84 _
        try dsimp only at H84
        try dsimp only
        refine Ja<|lf Tryz.runUnderlying26 rfl kcb rfl<|ll 5 (sl p_9 l_8.length) kbg<|mv (i6 x14)<|?_
        refine Q5 (vs := [i6 x14]) (cs := [i6 x14]) kcr kcg zeroValue3 rfl rfl rfl rfl rfl rfl rfl (fun b8 => ?_)
        obtain ⟨l72, h_l72, H85⟩ := Je H84; clear H84
        refine Qh (Yg (i := 6) (hn := rfl) (rds := [7]) (p := p_9) (sz := 1) (by_ := 8) (f := J8) (ys := l_8) (ls := ([x14] : List Int)) (V := .slice (some ⟨b8, 0, none⟩) 1 1) kcr (X0 typeInfo3) rfl rfl rfl rfl rfl rfl rfl rfl rfl rfl (fun w L' hF hS hi => Wy (i := 7) hS ((hi 7 (by simp)).trans rfl) rfl rfl) (fun _ => rfl) (fun _ => rfl) h_l72) rfl rfl rfl (fun p_10 => ?_)
        refine lf Tryz.runUnderlying26 rfl kcb rfl<|st (i := 5) [sl p_10 l72.length] [i6 a1, str [], sl p_10 l72.length, z0s, z0s] kcb rfl rfl<|Jd<|Ja<|?_
        obtain ⟨t74, h_t74, H86⟩ := Je H85; clear H85
        refine lv (Jy rfl rfl h_t74)<|mv (i6 t74)<|Jd<|?_
        exact cl (t74, l72) p_10 m4 [0, 1, 2, 3, 4, 5, 6] (by exact ⟨(by subst hn4; exact H86), trivial⟩)
      ·refine Xj<|Jp 98 2<|?_
       exact cl (a0.s_, a0.kab, a0.kad, a0.kac, a0.no_, l, a0.kae, [], l_8, ([] : List Tg)) (p, n, m0_3, p_9, nn) 0 [0, 1, 2, 3, 4, 5, 6, 7] (by exact ⟨H89, hl⟩)
  ·rintro ⟨m, m_2, m_3, m_4, m_5, l_2, mp, m_6, l_3, l_4⟩ ⟨p_2, n_2, b, p_3, p_4⟩ gg H53 hl_2
   try dsimp only at H53
   try dsimp only
   refine Jc ?_
   try dsimp only [z1,z2,z5,z6,z7,z8]
   refine Ja<|Xb (i := 5) (vs := [i6 a1, str m_6, sl p_3 l_3.length, sl p_4 l_4.length, z0s]) kbi kce rfl rfl rfl rfl rfl<|st (i := 4) [i6 a1, str m_6, sl p_3 l_3.length, sl p_4 l_4.length, z0s] [i6 a1, str m_6, sl p_3 l_3.length, sl p_4 l_4.length, z0s] kce rfl rfl<|Jd<|Jm<|Jcv 5<|?_
   try dsimp only [z1, z2, z3, z4, z5, z6, z7, z8]
   refine Jp 95 6 ?_
   obtain rfl := sj H53
   refine bo 3 7 rfl rfl<|Xv 3 rfl (Q7 (p := nn) rfl (AllC.nil (G := g_tag_Entry) (h := Q9) (sz := 6)))<|bo 6 3 rfl rfl<|bo 5 6 rfl rfl<|bo 2 5 rfl rfl<|bo 1 2 rfl rfl<|bo 0 1 rfl rfl<|?_
   refine retC (i := 4) (vs := [i6 a1, str m_6, sl p_3 l_3.length, sl p_4 l_4.length, sl nn (([] : List (List Value)).length)]) kbi kce rfl rfl rfl rfl (Y0 (p_3, p_4, nn, p_2, b) (i := 0) rfl (by first | rfl | rw [(show (([] : List (List Value)).length) = ([] : List Ta).length from (AllC.nil (G := g_tag_Entry) (h := Q9) (sz := 6)).len), (show n_2 = l_2.length from hl_2)]) (by first | exact Imp.refl _ | exact Imp.of (by rw [(show (([] : List (List Value)).length) = ([] : List Ta).length from (AllC.nil (G := g_tag_Entry) (h := Q9) (sz := 6)).len), (show n_2 = l_2.length from hl_2)] <;> rfl)))
theorem k66_b {self : (Tb × Int × (List Int)) → Option ((List Ta) × Int × Tb)} (ih : ∀ {a0 : Tb} {pb0 : Nat} {p0_2 : AN} {n0_2 : Nat} {m0_3 : Nat} {a1 : Int} {a2 : (List Int)} {v2 : Value} {r : (List Ta) × Int × Tb} {w : World} {h : J1} {S : Nat → Prop} (hcs : (Jw (Jf pb0 [str a0.s_, .bool a0.kab, sl p0_2 n0_2, .map (some m0_3), i6 a0.kad, (Yh a0.kac), i6 a0.no_] 76) (Jw (J4 82 2 (sl p0_2 n0_2) n0_2 (a0.kaa.map Jh)) (Qt i6 Value.bool m0_3 a0.kae))).P S w) (hlt : ∀ b, S b → b < w.heap.size) (hw : Know h w S) (hn0_2 : n0_2 = a0.kaa.length) (f2 : FrS h 1 v2 (a2.map J8)) (_ : self (a0, a1, a2) = some r), Does prog 32 (List.toArray [pz pb0, i6 a1, v2]) w (fun v w' => ∃ x : AN × AN × Nat, v = (.tuple #[.slice x.1.1 r.1.length x.1.2, i6 r.2.1]) ∧ Turn w w' S (Jw (Jf pb0 [str r.2.2.s_, .bool r.2.2.kab, .slice x.2.1.1 r.2.2.kaa.length x.2.1.2, .map (some x.2.2), i6 r.2.2.kad, (Yh r.2.2.kac), i6 r.2.2.no_] 76) (Jw (J4 82 2 (.slice x.2.1.1 r.2.2.kaa.length x.2.1.2) r.2.2.kaa.length (r.2.2.kaa.map Jh)) (Jw (Qt i6 Value.bool x.2.2 r.2.2.kae) (Uj 95 6 g_tag_Entry (.slice x.1.1 r.1.length x.1.2) r.1.length r.1)))))) {a0 : Tb} {pb0 : Nat} {p0_2 : AN} {n0_2 : Nat} {m0_3 : Nat} {a1 : Int} {a2 : (List Int)} {v2 : Value} {r : Ta × Tb} {w : World} {h : J1} {S : Nat → Prop} (hcs : (Jw (Jf pb0 [str a0.s_, .bool a0.kab, sl p0_2 n0_2, .map (some m0_3), i6 a0.kad, (Yh a0.kac), i6 a0.no_] 76) (Jw (J4 82 2 (sl p0_2 n0_2) n0_2 (a0.kaa.map Jh)) (Qt i6 Value.bool m0_3 a0.kae))).P S w) (hlt : ∀ b, S b → b < w.heap.size) (hw : Know h w S) (hn0_2 : n0_2 = a0.kaa.length) (f2 : FrS h 1 v2 (a2.map J8)) (H : X1 self a0 a1 a2 = some r) : Does prog 66 (List.toArray [pz pb0, i6 a1, v2]) w (fun v w' => ∃ x : AN × AN × AN × AN × Nat, v = (.agg #[i6 r.1.Tag, i6 r.1.Value.kai, str r.1.Value.kaj, .slice x.1.1 r.1.Value.kak.length x.1.2, .slice x.2.1.1 r.1.Value.kah.length x.2.1.2, .slice x.2.2.1.1 r.1.Value.kag.length x.2.2.1.2]) ∧ Turn w w' S (Jw (Jf pb0 [str r.2.s_, .bool r.2.kab, .slice x.2.2.2.1.1 r.2.kaa.length x.2.2.2.1.2, .map (some x.2.2.2.2), i6 r.2.kad, (Yh r.2.kac), i6 r.2.no_] 76) (Jw (J4 82 2 (.slice x.2.2.2.1.1 r.2.kaa.length x.2.2.2.1.2) r.2.kaa.length (r.2.kaa.map Jh)) (Jw (Qt i6 Value.bool x.2.2.2.2 r.2.kae) (Jw (J4 3 1 (.slice x.1.1 r.1.Value.kak.length x.1.2) r.1.Value.kak.length (r.1.Value.kak.map J8)) (Jw (J4 98 2 (.slice x.2.1.1 r.1.Value.kah.length x.2.1.2) r.1.Value.kah.length (r.1.Value.kah.map Jl)) (Uj 95 6 g_tag_Entry (.slice x.2.2.1.1 r.1.Value.kag.length x.2.2.1.2) r.1.Value.kag.length r.1.Value.kag))))))) := by
 refine enter (n := 76) func66 rfl rfl rfl S [Jw (Jf pb0 [str a0.s_, .bool a0.kab, sl p0_2 n0_2, .map (some m0_3), i6 a0.kad, (Yh a0.kac), i6 a0.no_] 76) (Jw (J4 82 2 (sl p0_2 n0_2) n0_2 (a0.kaa.map Jh)) (Qt i6 Value.bool m0_3 a0.kae))] (Sat.one hcs hlt)<|Qd 0 rfl<|Qd 1 rfl<|X8 Q9<|Jc<|Ja<|?_
 refine Xx (cs := [i6 0, i6 0, str [], z0s, z0s, z0s]) zeroValue95 rfl rfl rfl (fun b3 => ?_)
 refine Jd<|Jc<|Ja<|mv (pz pb0)<|mv (i6 a1)<|?_
 obtain ⟨t13, h_t13, H28⟩ := Je H; clear H
 refine Qb (fun w hF hS => k31 (a0 := a0) (Jq w) (Xl (i := 1) hn0_2 hS rfl) (Q6 (fk := i6) (fv := Value.bool) (i := 2) hS rfl) (Ql (i := 0) hS rfl) h_t13) kbe rfl rfl rfl<|mv (pz pb0)<|mv (i6 a1)<|?_
 obtain ⟨t16, h_t16, H29⟩ := Je H28; clear H28
 refine lv (Jy rfl rfl h_t16) ?_
 obtain ⟨t17, h_t17, H30⟩ := Je H29; clear H29
 refine Qb (fun w hF hS => k31 (a0 := a0) (Jq w) (Xl (i := 1) hn0_2 hS rfl) (Q6 (fk := i6) (fv := Value.bool) (i := 2) hS rfl) (Ql (i := 0) hS rfl) h_t17) kbe rfl rfl rfl<|mv (pz pb0)<|mv (i6 a1)<|?_
 obtain ⟨t20, h_t20, H31⟩ := Je H30; clear H30
 refine lv (Jy rfl rfl h_t20) ?_
 obtain ⟨t21, h_t21, H32⟩ := Je H31; clear H31
 refine Qb (fun w hF hS => k31 (a0 := a0) (Jq w) (Xl (i := 1) hn0_2 hS rfl) (Q6 (fk := i6) (fv := Value.bool) (i := 2) hS rfl) (Ql (i := 0) hS rfl) h_t21) kbe rfl rfl rfl<|ag (i6 t13)<|ag (i6 t17)<|ag (i6 t21)<|Jd<|Jc<|Ja<|mv v2<|?_
 obtain ⟨t23, h_t23, H33⟩ := Je H32; clear H32
 refine V8 (Yy (rds := []) (fun w L' hF hS hi => k78 (Jq w) (f2.mono (hw.now hF)) h_t23) call78 rfl) rfl rfl rfl (fun p => ?_)
 refine mv (i6 t13) ?_
 refine Q5 (vs := [i6 t13]) (cs := [i6 t13]) kcr kcg zeroValue3 rfl rfl rfl rfl rfl rfl rfl (fun b4 => ?_)
 obtain ⟨l26, h_l26, H34⟩ := Je H33; clear H33
 refine Qh (Yg (i := 5) (hn := rfl) (rds := [6]) (p := p) (sz := 1) (by_ := 8) (f := J8) (ys := t23) (ls := ([t13] : List Int)) (V := .slice (some ⟨b4, 0, none⟩) 1 1) kcr (X0 typeInfo3) rfl rfl rfl rfl rfl rfl rfl rfl rfl rfl (fun w L' hF hS hi => Wy (i := 6) hS ((hi 6 (by simp)).trans rfl) rfl rfl) (fun _ => rfl) (fun _ => rfl) h_l26) rfl rfl rfl (fun p_2 => ?_)
 refine ag (sl p_2 l26.length)<|Jd<|Jc<|?_
 try dsimp only [z1,z2,z5,z6,z7,z8]
 refine Ja<|mv (pz pb0)<|lv (Jg rfl)<|lf Tryz.runUnderlying76 rfl sizeOf39 rfl<|ll 0 (Yh a0.kac) isAgg39<|mv (sl p_2 l26.length)<|mv (i6 a1)<|?_
 obtain ⟨g33, h_g33, H35⟩ := Je H34; clear H34
 obtain ⟨t33, h_t33, H36⟩ := Je H35; clear H35
 refine l_callV (R := Jce g33) (r := .tuple #[]) (v := (Yh a0.kac)) (fun w hF hS => ⟨((hft39 a0.kac).fn (gFn_some h_g33) _), ⟨l26, _, a1, _, (Xl (i := 5) rfl hS rfl), rfl, h_t33, rfl⟩⟩) rfl rfl rfl rfl<|Jd<|Jc<|Ja<|mv (i6 t13)<|mv (i6 t17)<|lv (Xf (pl := #[(0, 1), (1, 1), (2, 1), (3, 1), (4, 1)]) (ps := [(0, i6 t17)]) (cells := #[i6 t17, str [], z0s, z0s, z0s]) zeroValue26 Tryz.runUnderlying26 (fun w => by kernel_rfl) rfl rfl)<|lv (Xf (pl := #[(0, 1), (1, 5)]) (ps := [(0, i6 t13), (1, .agg #[i6 t17, str [], z0s, z0s, z0s])]) (cells := #[i6 t13, i6 t17, str [], z0s, z0s, z0s]) zeroValue95 Tryz.runUnderlying95 (fun w => by kernel_rfl) rfl (by kernel_rfl))<|?_
 refine Xx (cs := [i6 0, i6 0, str [], z0s, z0s, z0s]) zeroValue95 rfl rfl rfl (fun b5 => ?_)
 refine st (i := 7) [i6 t13, i6 t17, str [], z0s, z0s, z0s] [i6 t13, i6 t17, str [], z0s, z0s, z0s] kco rfl rfl<|Jd<|?_
 refine Qg (r := r) (σ := Int × (List UInt8) × (List Int) × (List Tg) × (List Ta) × (List UInt8) × Bool × Int × Nat × Int × (List Tc) × (List (Int × Bool))) (τ := AN × AN × AN × AN × Nat) (fun s => Vd t13 s.1 s.2.1 s.2.2.1 s.2.2.2.1 s.2.2.2.2.1 s.2.2.2.2.2.1 s.2.2.2.2.2.2.1 s.2.2.2.2.2.2.2.1 s.2.2.2.2.2.2.2.2.1 s.2.2.2.2.2.2.2.2.2.1 s.2.2.2.2.2.2.2.2.2.2.1 s.2.2.2.2.2.2.2.2.2.2.2) (fun s t => [(6, pz b3), (10, pz b5)]) (fun s t => [Jf pb0 [str s.2.2.2.2.2.1, .bool s.2.2.2.2.2.2.1, .slice t.2.2.2.1.1 s.2.2.2.2.2.2.2.2.2.2.1.length t.2.2.2.1.2, .map (some t.2.2.2.2), i6 s.2.2.2.2.2.2.2.1, (Yh s.2.2.2.2.2.2.2.2.1), i6 s.2.2.2.2.2.2.2.2.2.1] 76, J4 82 2 (.slice t.2.2.2.1.1 s.2.2.2.2.2.2.2.2.2.2.1.length t.2.2.2.1.2) s.2.2.2.2.2.2.2.2.2.2.1.length (s.2.2.2.2.2.2.2.2.2.2.1.map Jh), Qt i6 Value.bool t.2.2.2.2 s.2.2.2.2.2.2.2.2.2.2.2, Xm Q9 Q9, Jf b3 [i6 0, i6 0, str [], z0s, z0s, z0s] 95, Jf b5 [i6 t13, i6 s.1, str s.2.1, .slice t.1.1 s.2.2.1.length t.1.2, .slice t.2.1.1 s.2.2.2.1.length t.2.1.2, .slice t.2.2.1.1 s.2.2.2.2.1.length t.2.2.1.2] 95, J4 3 1 (.slice t.1.1 s.2.2.1.length t.1.2) s.2.2.1.length (s.2.2.1.map J8), J4 98 2 (.slice t.2.1.1 s.2.2.2.1.length t.2.1.2) s.2.2.2.1.length (s.2.2.2.1.map Jl), Uj 95 6 g_tag_Entry (.slice t.2.2.1.1 s.2.2.2.2.1.length t.2.2.1.2) s.2.2.2.2.1.length s.2.2.2.2.1]) (fun s t => True) ?_ ?_
 ·refine Jx<|Jc<|Ja<|mv (i6 t17)<|?_
  obtain ⟨t47, h_t47, H38⟩ := Je H36; clear H36
  refine Yq (k43 h_t47) call43 rfl rfl rfl<|lv (Qj rfl rfl)<|ag (.bool (decide (t47 = 0)))<|Jd<|?_
  revert H38
  refine ci (decide (t47 = 0)) rfl (fun hb H39=>?_) fun hb H41=>?_
  ·refine Ja<|mv (pz pb0)<|?_
   obtain ⟨t50, h_t50, H40⟩ := Je H39; clear H39
   refine bo 1 2 rfl rfl<|bo 0 1 rfl rfl<|?_
   refine Qh (Jv (i := 0) (rds := []) rfl (fun w L' S hF hS hi hp hlt ho hA => k65 hp hlt (J7 w S) hn0_2 h_t50) kbf rfl) rfl rfl rfl (fun ⟨p_7, p_8⟩ => ?_)
   refine ub 0 1 rfl rfl<|ub 1 2 rfl rfl<|Jd<|Jp 3 1<|Jp 98 2<|Jp 95 6<|X8 Q9<|?_
   try dsimp only [z1,z2,z5,z6,z7,z8]
   refine bo 11 10 rfl rfl ?_
   try dsimp only [z1,z2,z5,z6,z7,z8]
   refine Xv 11 rfl (Jaj (css := []) (xs := ([] : List Ta)) (p := nn) rfl (AllC.nil (G := g_tag_Entry) (h := Q9) (sz := 6))) ?_
   exact cl (t17, [], ([] : List Int), ([] : List Tg), ([] : List Ta), t50.s_, t50.kab, t50.kad, t50.kac, t50.no_, t50.kaa, t50.kae) (nn, nn, nn, p_7, p_8) 0 [0, 1, 2, 3, 4, 7, 8, 9, 11] (by exact ⟨H40, trivial⟩)
  ·refine Qg (r := r) (σ := Bool) (τ := Unit) (fun s => Vf a0 a1 self t13 t17 t21 l26 s) (fun s t => [(0, pz pb0), (1, i6 a1), (2, sl p_2 l26.length), (6, pz b3), (8, i6 t17), (9, i6 t21), (10, pz b5), (51, .bool s)]) (fun s t => [Jf pb0 [str a0.s_, .bool a0.kab, sl p0_2 n0_2, .map (some m0_3), i6 a0.kad, (Yh a0.kac), i6 a0.no_] 76, J4 82 2 (sl p0_2 n0_2) n0_2 (a0.kaa.map Jh), Qt i6 Value.bool m0_3 a0.kae, Xm Q9 Q9, Jf b3 [i6 0, i6 0, str [], z0s, z0s, z0s] 95, J4 3 1 (sl p_2 l26.length) l26.length (l26.map J8), Jf b5 [i6 t13, i6 t17, str [], z0s, z0s, z0s] 95]) (fun s t => True) ?_ ?_
   ·try dsimp only [z1,z2,z5,z6,z7,z8]
    refine Ja<|mv (i6 t17)<|lv (Qj rfl rfl)<|mv (.bool (decide (t17 = 13)))<|?_
    revert H41
    refine sp (fun hb H53=>?_) fun hb H54=>?_
    ·refine mv (i6 t21)<|lv (Yv rfl rfl)<|pT (.bool (decide (t21 ≠ 1)))<|ag (.bool (decide (t21 ≠ 1)))<|Jd<|?_
     exact cl (decide (t21 ≠ 1)) () 0 [0, 1, 2, 3, 4, 5, 7] (by exact ⟨H53, trivial⟩)
    ·refine pa<|pa<|pF (.bool false)<|ag (.bool false)<|Jd<|?_
     exact cl false () 0 [0, 1, 2, 3, 4, 5, 7] (by exact ⟨H54, trivial⟩)
   ·rintro x51 _ gg H42 _
    try dsimp only at H42
    try dsimp only
    revert H42
    refine ci x51 rfl (fun hb H43=>?_) fun hb H45=>?_
    ·try dsimp only [z1,z2,z5,z6,z7,z8]
     refine Ja<|mv (pz pb0)<|?_
     obtain ⟨t59, h_t59, H44⟩ := Je H43; clear H43
     refine bo 1 2 rfl rfl<|bo 0 1 rfl rfl<|?_
     refine Qh (Jv (i := 0) (rds := []) rfl (fun w L' S hF hS hi hp hlt ho hA => k65 hp hlt (J7 w S) hn0_2 h_t59) kbf rfl) rfl rfl rfl (fun ⟨p_9, p_10⟩ => ?_)
     refine ub 0 1 rfl rfl<|ub 1 2 rfl rfl<|Jd<|Jp 3 1<|Jp 98 2<|Jp 95 6<|X8 Q9<|?_
     try dsimp only [z1,z2,z5,z6,z7,z8]
     refine bo 10 9 rfl rfl ?_
     try dsimp only [z1,z2,z5,z6,z7,z8]
     refine Xv 10 rfl (Jaj (css := []) (xs := ([] : List Ta)) (p := nn) rfl (AllC.nil (G := g_tag_Entry) (h := Q9) (sz := 6))) ?_
     exact cl (t17, [], ([] : List Int), ([] : List Tg), ([] : List Ta), t59.s_, t59.kab, t59.kad, t59.kac, t59.no_, t59.kaa, t59.kae) (nn, nn, nn, p_9, p_10) 0 [0, 1, 2, 3, 4, 6, 7, 8, 10] (by exact ⟨H44, trivial⟩)
    ·refine Jc ?_
     try dsimp only [z1,z2,z5,z6,z7,z8]
     refine Ja<|mv (i6 t17)<|lv (Qj rfl rfl)<|ag (.bool (decide (t17 = 13)))<|Jd<|?_
     revert H45
     refine ci (decide (t17 = 13)) rfl (fun hb H46=>?_) fun hb H50=>?_
     ·refine Ja<|mv (pz pb0)<|mv (pz pb0)<|mv (i6 a1)<|?_
      obtain ⟨t67, h_t67, H47⟩ := Je H46; clear H46
      refine lv (Jy rfl rfl h_t67) ?_
      obtain ⟨t68, h_t68, H48⟩ := Je H47; clear H47
      refine Qb (fun w hF hS => k31 (a0 := a0) (Jq w) (Xl (i := 1) hn0_2 hS rfl) (Q6 (fk := i6) (fv := Value.bool) (i := 2) hS rfl) (Ql (i := 0) hS rfl) h_t68) kbe rfl rfl rfl<|mv (sl p_2 l26.length)<|?_
      obtain ⟨t70, h_t70, H49⟩ := Je H48; clear H48
      refine bo 1 2 rfl rfl<|bo 0 1 rfl rfl<|?_
      refine Qh (Jv (i := 0) (rds := [5]) rfl (fun w L' S hF hS hi hp hlt ho hA => ih hp hlt (J7 w S) hn0_2 (frb_own (j := 5) rfl hA hS (by decide) ((hi 5 (by simp)).trans rfl)) h_t70) call32 rfl) rfl rfl rfl (fun ⟨p_11, p_12, p_13⟩ => ?_)
      refine ub 0 1 rfl rfl<|ub 1 2 rfl rfl<|Qd 2 rfl<|mv (.tuple #[sl p_11 t70.1.length, i6 t70.2.1])<|lv (J9 (v := sl p_11 t70.1.length) rfl rfl)<|lv (J9 (v := i6 t70.2.1) rfl rfl)<|lf Tryz.runUnderlying95 rfl kce rfl<|lf Tryz.runUnderlying26 rfl kcd rfl<|st (i := 6) [sl p_11 t70.1.length] [i6 t13, i6 t17, str [], z0s, z0s, sl p_11 t70.1.length] kcd rfl rfl<|Jd<|Jp 3 1<|Jp 98 2<|?_
      exact cl (t17, [], ([] : List Int), ([] : List Tg), t70.1, t70.2.2.s_, t70.2.2.kab, t70.2.2.kad, t70.2.2.kac, t70.2.2.no_, t70.2.2.kaa, t70.2.2.kae) (nn, nn, p_11, p_12, p_13) 0 [0, 1, 2, 3, 4, 6, 8, 9, 7] (by exact ⟨H49, trivial⟩)
     ·try dsimp only [z1,z2,z5,z6,z7,z8]
      refine Ja<|mv (pz pb0)<|mv (i6 t17)<|mv (i6 t21)<|mv (i6 a1)<|?_
      obtain ⟨t42, h_t42, H51⟩ := Je H50; clear H50
      refine lv (Jy rfl rfl h_t42) ?_
      obtain ⟨t43, h_t43, H52⟩ := Je H51; clear H51
      refine bo 1 2 rfl rfl<|bo 0 1 rfl rfl<|?_
      refine Qh (Jv (i := 0) (rds := []) rfl (fun w L' S hF hS hi hp hlt ho hA => k95 hp hlt (J7 w S) hn0_2 h_t43) call95 rfl) rfl rfl rfl (fun ⟨p_14, p_15, p_16, p_17, p_18⟩ => ?_)
      refine ub 0 1 rfl rfl<|ub 1 2 rfl rfl<|Qd 2 rfl<|Qd 7 rfl<|Qd 8 rfl<|lf Tryz.runUnderlying95 rfl kce rfl<|st (i := 6) [i6 t43.1.kai, str t43.1.kaj, sl p_14 t43.1.kak.length, sl p_15 t43.1.kah.length, sl p_16 t43.1.kag.length] [i6 t13, i6 t43.1.kai, str t43.1.kaj, sl p_14 t43.1.kak.length, sl p_15 t43.1.kah.length, sl p_16 t43.1.kag.length] kce rfl rfl<|Jd<|?_
      exact cl (t43.1.kai, t43.1.kaj, t43.1.kak, t43.1.kah, t43.1.kag, t43.2.s_, t43.2.kab, t43.2.kad, t43.2.kac, t43.2.no_, t43.2.kaa, t43.2.kae) (p_14, p_15, p_16, p_17, p_18) 0 [0, 1, 2, 3, 4, 6, 7, 8, 9] (by exact ⟨H52, trivial⟩)
 ·rintro ⟨m, m_2, l, l_2, l_3, m_3, m_4, m_5, m_6, m_7, l_4, mp⟩ ⟨p_3, p_4, p_5, p_6, b⟩ gg H37 _
  try dsimp only at H37
  try dsimp only
  refine Jc<|Ja<|Xb (i := 5) (vs := [i6 t13, i6 m, str m_2, sl p_3 l.length, sl p_4 l_2.length, sl p_5 l_3.length]) isAgg95 kco rfl rfl rfl rfl rfl<|st (i := 4) [i6 t13, i6 m, str m_2, sl p_3 l.length, sl p_4 l_2.length, sl p_5 l_3.length] [i6 t13, i6 m, str m_2, sl p_3 l.length, sl p_4 l_2.length, sl p_5 l_3.length] kco rfl rfl<|Jd<|Jm<|Jcv 5<|?_
  try dsimp only [z1, z2, z3, z4, z5, z6, z7, z8]
  obtain rfl := sj H37
  refine bo 6 7 rfl rfl<|bo 5 6 rfl rfl<|bo 2 5 rfl rfl<|bo 1 2 rfl rfl<|bo 0 1 rfl rfl<|?_
  refine retC (i := 4) (vs := [i6 t13, i6 m, str m_2, sl p_3 l.length, sl p_4 l_2.length, sl p_5 l_3.length]) isAgg95 kco rfl rfl rfl rfl (Y0 (p_3, p_4, p_5, p_6, b) (i := 0) rfl rfl (Imp.refl _))
theorem k32_it (mm : Nat) : ∀ {a0 : Tb} {pb0 : Nat} {p0_2 : AN} {n0_2 : Nat} {m0_3 : Nat} {a1 : Int} {a2 : (List Int)} {v2 : Value} {r : (List Ta) × Int × Tb} {w : World} {h : J1} {S : Nat → Prop} (hcs : (Jw (Jf pb0 [str a0.s_, .bool a0.kab, sl p0_2 n0_2, .map (some m0_3), i6 a0.kad, (Yh a0.kac), i6 a0.no_] 76) (Jw (J4 82 2 (sl p0_2 n0_2) n0_2 (a0.kaa.map Jh)) (Qt i6 Value.bool m0_3 a0.kae))).P S w) (hlt : ∀ b, S b → b < w.heap.size) (hw : Know h w S) (hn0_2 : n0_2 = a0.kaa.length) (f2 : FrS h 1 v2 (a2.map J8)) (H : it (fun (self : (Tb × Int × (List Int)) → Option ((List Ta) × Int × Tb)) (s : Tb × Int × (List Int)) => J6 self s.1 s.2.1 s.2.2) mm (a0, a1, a2) = some r), Does prog 32 (List.toArray [pz pb0, i6 a1, v2]) w (fun v w' => ∃ x : AN × AN × Nat, v = (.tuple #[.slice x.1.1 r.1.length x.1.2, i6 r.2.1]) ∧ Turn w w' S (Jw (Jf pb0 [str r.2.2.s_, .bool r.2.2.kab, .slice x.2.1.1 r.2.2.kaa.length x.2.1.2, .map (some x.2.2), i6 r.2.2.kad, (Yh r.2.2.kac), i6 r.2.2.no_] 76) (Jw (J4 82 2 (.slice x.2.1.1 r.2.2.kaa.length x.2.1.2) r.2.2.kaa.length (r.2.2.kaa.map Jh)) (Jw (Qt i6 Value.bool x.2.2 r.2.2.kae) (Uj 95 6 g_tag_Entry (.slice x.1.1 r.1.length x.1.2) r.1.length r.1))))) := by
 induction mm with
 | zero => intros; rename_i H; exact absurd H (by simp [it])
 | succ mm ih =>
  intro a0 pb0 p0_2 n0_2 m0_3 a1 a2 v2 r w h S hcs hlt hw hn0_2 f2 H
  replace H : J6 (it (fun (self : (Tb × Int × (List Int)) → Option ((List Ta) × Int × Tb)) (s : Tb × Int × (List Int)) => J6 self s.1 s.2.1 s.2.2) mm) a0 a1 a2 = some r := H
  generalize it (fun (self : (Tb × Int × (List Int)) → Option ((List Ta) × Int × Tb)) (s : Tb × Int × (List Int)) => J6 self s.1 s.2.1 s.2.2) mm = self at H ih
  refine enter (n := 145) func32 rfl rfl rfl S [Jw (Jf pb0 [str a0.s_, .bool a0.kab, sl p0_2 n0_2, .map (some m0_3), i6 a0.kad, (Yh a0.kac), i6 a0.no_] 76) (Jw (J4 82 2 (sl p0_2 n0_2) n0_2 (a0.kaa.map Jh)) (Qt i6 Value.bool m0_3 a0.kae))] (Sat.one hcs hlt)<|Qd 0 rfl<|Qd 1 rfl<|X8 Q9<|Jc<|Ja<|ag (z0s)<|ag (i6 0)<|Jd<|Jc<|Ja<|mv v2<|lv (Yz kcr rfl f2 rfl)<|ag (i6 (a2.length : Int))<|Jd<|Jc<|Jc<|Ja<|mv (pz pb0)<|mv (i6 a1)<|?_
  obtain ⟨t15, h_t15, H67⟩ := Je H; clear H
  refine Qb (fun w hF hS => k64 (a0 := a0) (Jq w) (Xl (i := 1) hn0_2 hS rfl) (Q6 (fk := i6) (fv := Value.bool) (i := 2) hS rfl) (Ql (i := 0) hS rfl) h_t15) call64 rfl rfl rfl<|lv (Ja6 rfl)<|Jd<|?_
  revert H67
  refine ci (!t15) rfl (fun hb H68=>?_) fun hb H70=>?_
  ·refine Jc<|Ja<|mv (pz pb0)<|?_
   obtain ⟨t18, h_t18, H69⟩ := Je H68; clear H68
   refine bo 1 2 rfl rfl<|bo 0 1 rfl rfl<|?_
   refine Qh (Jv (i := 0) (rds := []) rfl (fun w L' S hF hS hi hp hlt ho hA => k65 hp hlt (J7 w S) hn0_2 h_t18) kbf rfl) rfl rfl rfl (fun ⟨p, p_2⟩ => ?_)
   refine ub 0 1 rfl rfl<|ub 1 2 rfl rfl<|Jd<|Jc<|?_
   try dsimp only [z1,z2,z5,z6,z7,z8]
   refine Ja<|ag (z0s)<|ag (i6 0)<|Jd<|Jm<|Jp 95 6<|?_
   obtain rfl := sj H69
   refine bo 3 4 rfl rfl<|Xv 3 rfl (Q7 (p := nn) rfl (AllC.nil (G := g_tag_Entry) (h := Q9) (sz := 6)))<|bo 2 3 rfl rfl<|bo 1 2 rfl rfl<|bo 0 1 rfl rfl<|?_
   refine U9 (v1 := sl nn (([] : List (List Value)).length)) (v2 := i6 0) rfl rfl rfl (Y0 (nn, p, p_2) (i := 0) rfl (by first | rfl | rw [(show (([] : List (List Value)).length) = ([] : List Ta).length from (AllC.nil (G := g_tag_Entry) (h := Q9) (sz := 6)).len)]) (by first | exact Imp.refl _ | exact Imp.of (by rw [(show (([] : List (List Value)).length) = ([] : List Ta).length from (AllC.nil (G := g_tag_Entry) (h := Q9) (sz := 6)).len)] <;> rfl)))
  ·refine Jj<|Jc<|?_
   try dsimp only [z1,z2,z5,z6,z7,z8]
   refine Ja<|mv (pz pb0)<|mv (i6 a1)<|?_
   obtain ⟨t21, h_t21, H71⟩ := Je H70; clear H70
   refine Qb (fun w hF hS => k31 (a0 := a0) (Jq w) (Xl (i := 1) hn0_2 hS rfl) (Q6 (fk := i6) (fv := Value.bool) (i := 2) hS rfl) (Ql (i := 0) hS rfl) h_t21) kbe rfl rfl rfl<|ag (i6 t21)<|Jd<|?_
   refine Qg (r := r) (σ := (List UInt8) × Bool × Int × Nat × Int × (List Tc) × (List (Int × Bool))) (τ := AN × Nat × Nat) (fun s => Xp a1 a2 self t21 s.1 s.2.1 s.2.2.1 s.2.2.2.1 s.2.2.2.2.1 s.2.2.2.2.2.1 s.2.2.2.2.2.2) (fun s t => [(0, pz pb0), (1, i6 a1), (2, v2), (6, z0s), (8, i6 (a2.length : Int)), (9, i6 t21)]) (fun s t => [Jf pb0 [str s.1, .bool s.2.1, .slice t.1.1 t.2.1 t.1.2, .map (some t.2.2), i6 s.2.2.1, (Yh s.2.2.2.1), i6 s.2.2.2.2.1] 76, J4 82 2 (.slice t.1.1 t.2.1 t.1.2) t.2.1 (s.2.2.2.2.2.1.map Jh), Qt i6 Value.bool t.2.2 s.2.2.2.2.2.2, Xm Q9 Q9]) (fun s t => t.2.1 = s.2.2.2.2.2.1.length) ?_ ?_
   ·refine Jx<|Jc<|Ja<|mv (pz pb0)<|lv (Jg rfl)<|lf Tryz.runUnderlying76 rfl sizeOf56 rfl<|ll 0 (.map (some m0_3)) isAgg56<|mv (i6 a1)<|Xs (fun w hF hS => Jeq (i := 2) (fk := i6) (fv := Value.bool) (k := a1) (z := false) Jd4 underlying56 underlying3 zeroValue4 rfl rfl hS rfl) rfl rfl rfl<|ag (.bool ((Q2 a0.kae a1).getD false))<|Jd<|?_
    revert H71
    refine ci ((Q2 a0.kae a1).getD false) rfl (fun hb H114=>?_) fun hb H116=>?_
    ·refine Ja<|mv (pz pb0)<|?_
     obtain ⟨t30, h_t30, H115⟩ := Je H114; clear H114
     refine bo 1 2 rfl rfl<|bo 0 1 rfl rfl<|?_
     refine Qh (Jv (i := 0) (rds := []) rfl (fun w L' S hF hS hi hp hlt ho hA => k65 hp hlt (J7 w S) hn0_2 h_t30) kbf rfl) rfl rfl rfl (fun ⟨p_20, p_21⟩ => ?_)
     refine ub 0 1 rfl rfl<|ub 1 2 rfl rfl<|Jd<|?_
     exact cl (t30.s_, t30.kab, t30.kad, t30.kac, t30.no_, t30.kaa, t30.kae) (p_20, t30.kaa.length, p_21) 0 [0, 1, 2, 3] (by exact ⟨H115, rfl⟩)
    ·refine Jc ?_
     try dsimp only [z1,z2,z5,z6,z7,z8]
     refine Ja<|mv (pz pb0)<|lv (Jg rfl)<|lf Tryz.runUnderlying76 rfl kcg rfl<|ll 0 (i6 a0.kad) kbk<|lv (Yf rfl rfl)<|mv (.bool (decide (20 < a0.kad)))<|?_
     revert H116
     refine sp (fun hb H117=>?_) fun hb H119=>?_
     ·refine pa<|pa<|pT (.bool true)<|mv (.bool true)<|pa<|pa<|pT (.bool true)<|ag (.bool true)<|Jd<|Zl rfl<|Ja<|mv (pz pb0)<|?_
      obtain ⟨t46, h_t46, H118⟩ := Je H117; clear H117
      refine bo 1 2 rfl rfl<|bo 0 1 rfl rfl<|?_
      refine Qh (Jv (i := 0) (rds := []) rfl (fun w L' S hF hS hi hp hlt ho hA => k65 hp hlt (J7 w S) hn0_2 h_t46) kbf rfl) rfl rfl rfl (fun ⟨p_22, p_23⟩ => ?_)
      refine ub 0 1 rfl rfl<|ub 1 2 rfl rfl<|Jd<|?_
      exact cl (t46.s_, t46.kab, t46.kad, t46.kac, t46.no_, t46.kaa, t46.kae) (p_22, t46.kaa.length, p_23) 0 [0, 1, 2, 3] (by exact ⟨H118, rfl⟩)
     ·refine mv (i6 (a2.length : Int))<|lv (Yf rfl rfl)<|pF (.bool (decide (5 < (a2.length : Int))))<|mv (.bool (decide (5 < (a2.length : Int))))<|?_
      revert H119
      refine sp (fun hb H120=>?_) fun hb H122=>?_
      ·refine pa<|pa<|pT (.bool true)<|ag (.bool true)<|Jd<|Zl rfl<|Ja<|mv (pz pb0)<|?_
       obtain ⟨t46_2, h_t46_2, H121⟩ := Je H120; clear H120
       refine bo 1 2 rfl rfl<|bo 0 1 rfl rfl<|?_
       refine Qh (Jv (i := 0) (rds := []) rfl (fun w L' S hF hS hi hp hlt ho hA => k65 hp hlt (J7 w S) hn0_2 h_t46_2) kbf rfl) rfl rfl rfl (fun ⟨p_24, p_25⟩ => ?_)
       refine ub 0 1 rfl rfl<|ub 1 2 rfl rfl<|Jd<|?_
       exact cl (t46_2.s_, t46_2.kab, t46_2.kad, t46_2.kac, t46_2.no_, t46_2.kaa, t46_2.kae) (p_24, t46_2.kaa.length, p_25) 0 [0, 1, 2, 3] (by exact ⟨H121, rfl⟩)
      ·refine mv (i6 t21)<|lv (Yf rfl rfl)<|pF (.bool (decide (200 < t21)))<|ag (.bool (decide (200 < t21)))<|Jd<|?_
       revert H122
       refine ci (decide (200 < t21)) rfl (fun hb H123=>?_) fun hb H125=>?_
       ·try dsimp only [z1,z2,z5,z6,z7,z8]
        refine Ja<|mv (pz pb0)<|?_
        obtain ⟨t46_3, h_t46_3, H124⟩ := Je H123; clear H123
        refine bo 1 2 rfl rfl<|bo 0 1 rfl rfl<|?_
        refine Qh (Jv (i := 0) (rds := []) rfl (fun w L' S hF hS hi hp hlt ho hA => k65 hp hlt (J7 w S) hn0_2 h_t46_3) kbf rfl) rfl rfl rfl (fun ⟨p_26, p_27⟩ => ?_)
        refine ub 0 1 rfl rfl<|ub 1 2 rfl rfl<|Jd<|?_
        exact cl (t46_3.s_, t46_3.kab, t46_3.kad, t46_3.kac, t46_3.no_, t46_3.kaa, t46_3.kae) (p_26, t46_3.kaa.length, p_27) 0 [0, 1, 2, 3] (by exact ⟨H124, rfl⟩)
       ·refine Jc<|Ja<|mv (pz pb0)<|mv (i6 a1)<|mv (i6 t21)<|?_
        obtain ⟨t51, h_t51, H126⟩ := Je H125; clear H125
        refine lv (Z3 rfl rfl h_t51) ?_
        obtain ⟨t52, h_t52, H127⟩ := Je H126; clear H126
        refine lv (Jy rfl rfl h_t52) ?_
        obtain ⟨t53, h_t53, H128⟩ := Je H127; clear H127
        refine lv (Jy rfl rfl h_t53) ?_
        obtain ⟨t54, h_t54, H129⟩ := Je H128; clear H128
        refine Qb (fun w hF hS => k64 (a0 := a0) (Jq w) (Xl (i := 1) hn0_2 hS rfl) (Q6 (fk := i6) (fv := Value.bool) (i := 2) hS rfl) (Ql (i := 0) hS rfl) h_t54) call64 rfl rfl rfl<|lv (Ja6 rfl)<|ag (.bool (!t54))<|Jd<|?_
        revert H129
        refine ci (!t54) rfl (fun hb H130=>?_) fun hb H132=>?_
        ·refine Ja<|mv (pz pb0)<|?_
         obtain ⟨t57, h_t57, H131⟩ := Je H130; clear H130
         refine bo 1 2 rfl rfl<|bo 0 1 rfl rfl<|?_
         refine Qh (Jv (i := 0) (rds := []) rfl (fun w L' S hF hS hi hp hlt ho hA => k65 hp hlt (J7 w S) hn0_2 h_t57) kbf rfl) rfl rfl rfl (fun ⟨p_28, p_29⟩ => ?_)
         refine ub 0 1 rfl rfl<|ub 1 2 rfl rfl<|Jd<|?_
         exact cl (t57.s_, t57.kab, t57.kad, t57.kac, t57.no_, t57.kaa, t57.kae) (p_28, t57.kaa.length, p_29) 0 [0, 1, 2, 3] (by exact ⟨H131, rfl⟩)
        ·refine Jj ?_
         exact cl (a0.s_, a0.kab, a0.kad, a0.kac, a0.no_, a0.kaa, a0.kae) (p0_2, n0_2, m0_3) 0 [0, 1, 2, 3] (by exact ⟨H132, hn0_2⟩)
   ·rintro ⟨m, m_2, m_3, m_4, m_5, l, mp⟩ ⟨p_3, n, b⟩ gg H72 hl
    try dsimp only at H72
    try dsimp only
    refine Jc<|Jc<|Ja<|mv (pz pb0)<|lv (Jg rfl)<|lf Tryz.runUnderlying76 rfl kcf rfl<|ll 0 (i6 m_5) kbj<|lv (Yv rfl rfl)<|Jd<|?_
    revert H72
    refine ci (decide (m_5 ≠ 0)) rfl (fun hb H73=>?_) fun hb H74=>?_
    ·refine Jc<|Ja<|ag (z0s)<|ag (i6 0)<|Jd<|Jm<|Jp 95 6<|?_
     obtain rfl := sj H73
     refine bo 3 4 rfl rfl<|Xv 3 rfl (Q7 (p := nn) rfl (AllC.nil (G := g_tag_Entry) (h := Q9) (sz := 6)))<|bo 2 3 rfl rfl<|bo 1 2 rfl rfl<|bo 0 1 rfl rfl<|?_
     refine U9 (v1 := sl nn (([] : List (List Value)).length)) (v2 := i6 0) rfl rfl rfl (Y0 (nn, p_3, b) (i := 0) rfl (by first | rfl | rw [(show (([] : List (List Value)).length) = ([] : List Ta).length from (AllC.nil (G := g_tag_Entry) (h := Q9) (sz := 6)).len), (show n = l.length from hl)]) (by first | exact Imp.refl _ | exact Imp.of (by rw [(show (([] : List (List Value)).length) = ([] : List Ta).length from (AllC.nil (G := g_tag_Entry) (h := Q9) (sz := 6)).len), (show n = l.length from hl)] <;> rfl)))
    ·refine Jj<|Jc<|?_
     try dsimp only [z1,z2,z5,z6,z7,z8]
     refine Ja<|mv (pz pb0)<|lv (Jg rfl)<|lf Tryz.runUnderlying76 rfl sizeOf56 rfl<|ll 0 (.map (some b)) isAgg56<|mv (i6 a1)<|?_
     refine Jim (Jc7 (u := true) (i := 2) (rds := []) (fk := i6) (fv := Value.bool) (k := a1) (v := true) Jd4 (.inr rfl) underlying56 underlying3 rfl rfl rfl rfl) rfl rfl (fun _ => ?_)
     refine Jd<|Jc<|Ja<|mv (pz pb0)<|mv (pz pb0)<|lv (Jg rfl)<|lf Tryz.runUnderlying76 rfl kcj rfl<|ll 0 (sl p_3 n) kbn<|mv (i6 a1)<|mv (i6 a1)<|?_
     obtain ⟨t75, h_t75, H75⟩ := Je H74; clear H74
     refine lv (Jy rfl rfl h_t75)<|mv (i6 t21)<|?_
     obtain ⟨t77, h_t77, H76⟩ := Je H75; clear H75
     refine lv (Z3 rfl rfl h_t77) ?_
     obtain ⟨t78, h_t78, H77⟩ := Je H76; clear H76
     refine lv (Jy rfl rfl h_t78) ?_
     obtain ⟨t79, h_t79, H78⟩ := Je H77; clear H77
     refine lv (Jy rfl rfl h_t79)<|lv (Xf (pl := #[(0, 1), (1, 1)]) (ps := [(0, i6 a1), (1, i6 t79)]) (cells := #[i6 a1, i6 t79]) zeroValue82 Tryz.runUnderlying82 (fun w => by kernel_rfl) rfl rfl)<|?_
     refine Q5 (vs := [.agg #[i6 a1, i6 t79]]) (cs := [i6 a1, i6 t79]) kcv kcm zeroValue82 rfl rfl rfl rfl rfl rfl rfl (fun b2 => ?_)
     obtain ⟨l82, h_l82, H79⟩ := Je H78; clear H78
     refine Qh (Yg (i := 1) (hn := hl) (rds := [4]) (p := p_3) (sz := 2) (by_ := 16) (f := Jh) (ys := l) (ls := ([(⟨a1, t79⟩ : Tc)] : List Tc)) (V := .slice (some ⟨b2, 0, none⟩) 1 1) kcv (X0 typeInfo82) rfl rfl rfl rfl rfl rfl rfl rfl rfl rfl (fun w L' hF hS hi => Wy (i := 4) hS ((hi 4 (by simp)).trans rfl) rfl rfl) (fun _ => rfl) (fun _ => rfl) h_l82) rfl rfl rfl (fun p_4 => ?_)
     refine lv (Jg rfl)<|lf Tryz.runUnderlying76 rfl kcj rfl<|st (i := 0) [sl p_4 l82.length] [str m, .bool m_2, sl p_4 l82.length, .map (some b), i6 m_3, (Yh m_4), i6 m_5] kcj rfl rfl<|Jd<|Jc<|Ja<|mv (pz pb0)<|mv (i6 a1)<|?_
     obtain ⟨t87, h_t87, H80⟩ := Je H79; clear H79
     refine lv (Jy rfl rfl h_t87)<|mv (i6 t21)<|?_
     obtain ⟨t89, h_t89, H81⟩ := Je H80; clear H80
     refine lv (Z3 rfl rfl h_t89) ?_
     obtain ⟨t90, h_t90, H82⟩ := Je H81; clear H81
     refine lv (Jy rfl rfl h_t90) ?_
     obtain ⟨t91, h_t91, H83⟩ := Je H82; clear H82
     refine Qb (fun w hF hS => k31 (a0 := (⟨m, m_2, l82, (Yp mp a1 true), m_3, m_4, m_5⟩ : Tb)) (Jq w) (Xl (i := 1) rfl hS rfl) (Q6 (fk := i6) (fv := Value.bool) (i := 2) hS rfl) (Ql (i := 0) hS rfl) h_t91) kbe rfl rfl rfl<|ag (i6 t91)<|Jd<|?_
     refine Qg (r := r) (σ := (List UInt8) × Bool × Int × Nat × Int × (List Tc) × (List (Int × Bool))) (τ := AN × Nat) (fun s => Uf a1 a2 self t21 t91 s.1 s.2.1 s.2.2.1 s.2.2.2.1 s.2.2.2.2.1 s.2.2.2.2.2.1 s.2.2.2.2.2.2) (fun s t => [(0, pz pb0), (1, i6 a1), (2, v2), (6, z0s), (7, i6 t91), (9, i6 t21)]) (fun s t => [Jf pb0 [str s.1, .bool s.2.1, .slice t.1.1 s.2.2.2.2.2.1.length t.1.2, .map (some t.2), i6 s.2.2.1, (Yh s.2.2.2.1), i6 s.2.2.2.2.1] 76, J4 82 2 (.slice t.1.1 s.2.2.2.2.2.1.length t.1.2) s.2.2.2.2.2.1.length (s.2.2.2.2.2.1.map Jh), Qt i6 Value.bool t.2 s.2.2.2.2.2.2, Xm Q9 Q9]) (fun s t => True) ?_ ?_
     ·refine Jc<|Ja<|mv (i6 (a2.length : Int))<|lv (Yf rfl rfl)<|mv (.bool (decide (1 < (a2.length : Int))))<|?_
      revert H83
      refine sp (fun hb H109=>?_) fun hb H113=>?_
      ·refine mv (i6 t91)<|lv (Yv rfl rfl)<|pT (.bool (decide (t91 ≠ 0)))<|Jd<|?_
       revert H109
       refine ci (decide (t91 ≠ 0)) rfl (fun hb H110=>?_) fun hb H112=>?_
       ·refine Ja<|mv (pz pb0)<|?_
        obtain ⟨t99, h_t99, H111⟩ := Je H110; clear H110
        refine bo 1 2 rfl rfl<|bo 0 1 rfl rfl<|?_
        refine Qh (Jv (i := 0) (rds := []) rfl (fun w L' S hF hS hi hp hlt ho hA => k65 (a0 := (⟨m, m_2, l82, (Yp mp a1 true), m_3, m_4, m_5⟩ : Tb)) hp hlt (J7 w S) rfl h_t99) kbf rfl) rfl rfl rfl (fun ⟨p_18, p_19⟩ => ?_)
        refine ub 0 1 rfl rfl<|ub 1 2 rfl rfl<|Jd<|?_
        exact cl (t99.s_, t99.kab, t99.kad, t99.kac, t99.no_, t99.kaa, t99.kae) (p_18, p_19) 0 [0, 1, 2, 3] (by exact ⟨H111, trivial⟩)
       ·refine Jj ?_
        exact cl (m, m_2, m_3, m_4, m_5, l82, (Yp mp a1 true)) (p_4, b) 0 [0, 1, 2, 3] (by exact ⟨H112, trivial⟩)
      ·refine pa<|pa<|pF (.bool false)<|Jd<|Zz rfl<|Jj<|?_
       exact cl (m, m_2, m_3, m_4, m_5, l82, (Yp mp a1 true)) (p_4, b) 0 [0, 1, 2, 3] (by exact ⟨H113, trivial⟩)
     ·rintro ⟨m_6, m_7, m_8, m_9, m_10, l_2, mp_2⟩ ⟨p_5, b_2⟩ gg H84 _
      try dsimp only at H84
      try dsimp only
      refine Qg (r := r) (σ := Int × (List UInt8) × Bool × Int × Nat × Int × (List Tc) × (List (Int × Bool)) × (List Ta)) (τ := J1 × AN × Nat × (List (List Value)) × AN) (fun s => Jaq s.1 s.2.1 s.2.2.1 s.2.2.2.1 s.2.2.2.2.1 s.2.2.2.2.2.1 s.2.2.2.2.2.2.1 s.2.2.2.2.2.2.2.1 s.2.2.2.2.2.2.2.2) (fun s t => [(6, .slice t.2.2.2.2.1 t.2.2.2.1.length t.2.2.2.2.2), (7, i6 s.1)]) (fun s t => [Jf pb0 [str s.2.1, .bool s.2.2.1, .slice t.2.1.1 s.2.2.2.2.2.2.1.length t.2.1.2, .map (some t.2.2.1), i6 s.2.2.2.1, (Yh s.2.2.2.2.1), i6 s.2.2.2.2.2.1] 76, J4 82 2 (.slice t.2.1.1 s.2.2.2.2.2.2.1.length t.2.1.2) s.2.2.2.2.2.2.1.length (s.2.2.2.2.2.2.1.map Jh), Qt i6 Value.bool t.2.2.1 s.2.2.2.2.2.2.2.1, Xm Q9 t.1, J4 95 6 (.slice t.2.2.2.2.1 t.2.2.2.1.length t.2.2.2.2.2) t.2.2.2.1.length (t.2.2.2.1.map idC)]) (fun s t => AllC g_tag_Entry t.1 6 t.2.2.2.1 s.2.2.2.2.2.2.2.2) ?_ ?_
      ·refine Jc<|Ja<|ag (i6 0)<|Jd<|Jx<|Jp 95 6<|?_
       refine Za (σ := Int × Int × Int × Int × (List UInt8) × Bool × Int × Nat × Int × (List Tc) × (List (Int × Bool)) × (List Ta)) (τ := J1 × AN × Nat × (List (List Value)) × AN) (fun next4 s => Xo a2 self next4 s.1 s.2.1 s.2.2.1 s.2.2.2.1 s.2.2.2.2.1 s.2.2.2.2.2.1 s.2.2.2.2.2.2.1 s.2.2.2.2.2.2.2.1 s.2.2.2.2.2.2.2.2.1 s.2.2.2.2.2.2.2.2.2.1 s.2.2.2.2.2.2.2.2.2.2.1 s.2.2.2.2.2.2.2.2.2.2.2) (fun s t => [(0, pz pb0), (1, i6 s.1), (2, v2), (6, .slice t.2.2.2.2.1 t.2.2.2.1.length t.2.2.2.2.2), (7, i6 s.2.1), (9, i6 s.2.2.1), (10, i6 s.2.2.2.1)]) (fun s t => [Jf pb0 [str s.2.2.2.2.1, .bool s.2.2.2.2.2.1, .slice t.2.1.1 s.2.2.2.2.2.2.2.2.2.1.length t.2.1.2, .map (some t.2.2.1), i6 s.2.2.2.2.2.2.1, (Yh s.2.2.2.2.2.2.2.1), i6 s.2.2.2.2.2.2.2.2.1] 76, J4 82 2 (.slice t.2.1.1 s.2.2.2.2.2.2.2.2.2.1.length t.2.1.2) s.2.2.2.2.2.2.2.2.2.1.length (s.2.2.2.2.2.2.2.2.2.1.map Jh), Qt i6 Value.bool t.2.2.1 s.2.2.2.2.2.2.2.2.2.2.1, Xm Q9 t.1, J4 95 6 (.slice t.2.2.2.2.1 t.2.2.2.1.length t.2.2.2.2.2) t.2.2.2.1.length (t.2.2.2.1.map idC)]) (fun s t => AllC g_tag_Entry t.1 6 t.2.2.2.1 s.2.2.2.2.2.2.2.2.2.2.2) (a1, t91, t21, 0, m_6, m_7, m_8, m_9, m_10, l_2, mp_2, ([] : List Ta)) (Q9, p_5, b_2, ([] : List (List Value)), nn) [0, 1, 2, 3, 4] H84 (by exact (AllC.nil (G := g_tag_Entry) (h := Q9) (sz := 6))) (by exact ⟨rfl, rfl, rfl, rfl, rfl, rfl, rfl, trivial⟩) (by decide) rfl ?_
       rintro ⟨x1_2, x7_3, x9_2, x10_2, m_21, m_22, m_23, m_24, m_25, l_7, mp_5, l_8⟩ ⟨hp_2, p_8, b_4, css_2, p_9⟩ m4 gg H86 pf_3
       clear H84
       try dsimp only at H86
       generalize hn4 : it (fun next4 s => Xo a2 self next4 s.1 s.2.1 s.2.2.1 s.2.2.2.1 s.2.2.2.2.1 s.2.2.2.2.2.1 s.2.2.2.2.2.2.1 s.2.2.2.2.2.2.2.1 s.2.2.2.2.2.2.2.2.1 s.2.2.2.2.2.2.2.2.2.1 s.2.2.2.2.2.2.2.2.2.2.1 s.2.2.2.2.2.2.2.2.2.2.2) m4 = next4 at H86
       try dsimp only
       refine Jc<|Jc<|?_
       try dsimp only [z1,z2,z5,z6,z7,z8]
       refine Ja<|mv (i6 x10_2)<|mv (i6 x9_2)<|lv (X3 rfl rfl)<|mv (.bool (decide (x10_2 < x9_2)))<|?_
       revert H86
       refine sp (fun hb H87=>?_) fun hb H108=>?_
       ·refine mv (pz pb0)<|lv (Jg rfl)<|lf Tryz.runUnderlying76 rfl kcf rfl<|ll 0 (i6 m_25) kbj<|lv (Qj rfl rfl)<|pT (.bool (decide (m_25 = 0)))<|Jd<|?_
        try dsimp only [z1,z2,z5,z6,z7,z8]
        revert H87
        refine ci (decide (m_25 = 0)) rfl (fun hb H88=>?_) fun hb H107=>?_
        ·refine Jj<|Jc<|Jx<|?_
         refine Qg (r := r) (σ := Unit) (τ := Unit) (fun s => V3 a2 self x1_2 x7_3 x9_2 x10_2 m_21 m_22 m_23 m_24 m_25 l_7 mp_5 l_8 next4) (fun s t => [(0, pz pb0), (1, i6 x1_2), (2, v2), (6, sl p_9 css_2.length), (7, i6 x7_3), (9, i6 x9_2), (10, i6 x10_2), (104, pz pb0), (105, pz pb0), (106, .pointer (some ⟨pb0, 6, none⟩)), (107, i6 m_25), (108, .bool (decide (m_25 = 0)))]) (fun s t => [Jf pb0 [str m_21, .bool m_22, sl p_8 l_7.length, .map (some b_4), i6 m_23, (Yh m_24), i6 m_25] 76, J4 82 2 (sl p_8 l_7.length) l_7.length (l_7.map Jh), Qt i6 Value.bool b_4 mp_5, Xm Q9 hp_2, J4 95 6 (sl p_9 css_2.length) css_2.length (css_2.map idC)]) (fun s t => True) ?_ ?_
         ·refine Jc ?_
          exact Qk (Kd.p :: Kd.p :: Kd.p :: Kd.p :: Kd.p :: Kd.p :: Kd.p :: Kd.p :: Kd.p :: Kd.d [3, 0, 1, 2] _ :: Kd.p :: Kd.p :: Kd.p :: Kd.d [4] _ :: Kd.d [4] _ :: Kd.d [4] _ :: Kd.p :: Kd.p :: []) 0 mixed (by
           refine dm (i6 x10_2)<|dv (Yf rfl rfl)<|dm (.bool (decide (0 < x10_2)))<|?_
           refine Wu (fun hb => ?_) (fun hb => ?_)
           ·have H96 := Uo hb H88
            refine dm (pz pb0)<|dm (i6 x1_2)<|?_
            have h_t117 := Jt H96
            have H97 := Jn H96
            refine dv (Jy rfl rfl h_t117)<|dm (i6 x10_2)<|?_
            have h_t119 := Jt H97
            have H98 := Jn H97
            refine dv (Z3 rfl rfl h_t119) ?_
            have h_t120 := Jt H98
            have H99 := Jn H98
            refine dv (Jy rfl rfl h_t120) ?_
            have h_t121 := Jt H99
            have H100 := Jn H99
            refine Jar (fun w L' hF hS hi => k31 (a0 := (⟨m_21, m_22, l_7, mp_5, m_23, m_24, m_25⟩ : Tb)) (Jq w) (Xl (i := 1) rfl hS ((hi 1 (by simp)).trans rfl)) (Q6 (fk := i6) (fv := Value.bool) (i := 2) hS ((hi 2 (by simp)).trans rfl)) (Ql (i := 0) hS ((hi 0 (by simp)).trans rfl)) h_t121) kbe rfl rfl<|dm (sl p_9 css_2.length)<|dm (i6 x10_2)<|?_
            have h_t124 := Jt H100
            have H101 := Jn H100
            refine dv (Zs rfl rfl h_t124) ?_
            have h_t125 := Jt H101
            have H102 := Jn H101
            refine Um (fun w L' hF hS hi => U3 kct kco rfl rfl (Uk (i := 4) (E := 95) (sz := 6) (n := css_2.length) (a := p_9.1) (c := p_9.2) hS ((hi 4 (by simp)).trans rfl)) rfl (pf_3.ix h_t125)) rfl rfl<|Jhm rfl rfl (fun w L' hF hS hi => Jbp Tryz.runUnderlying95 rfl kcg rfl rfl (Uk (i := 4) (E := 95) (sz := 6) (n := css_2.length) (a := p_9.1) (c := p_9.2) hS ((hi 4 (by simp)).trans rfl)) (pf_3.ix h_t125))<|Um (fun w L' hF hS hi => Qw (f := idC) (i := (val (gI (x10_2 - 1)))) (sz := 6) (j := 0) (v := i6 (val (Zb l_8 (val (gI (x10_2 - 1))))).Tag) kbk rfl rfl (Uk (i := 4) (E := 95) (sz := 6) (n := css_2.length) (a := p_9.1) (c := p_9.2) hS ((hi 4 (by simp)).trans rfl)) (pf_3.ix h_t125) (Jea ((pf_3.eta h_t125).trans (Yd (pf_3.at h_t125))) rfl)) rfl rfl<|dv (Jd1 rfl rfl)<|dv (Xz (v := .bool (decide ((val (Ji (⟨m_21, m_22, l_7, mp_5, m_23, m_24, m_25⟩ : Tb) (val (gI ((val (gI (x1_2 + 2))) + (val (gI (12 * x10_2)))))) 2)) ≤ (val (Zb l_8 (val (gI (x10_2 - 1))))).Tag))) rfl rfl)<|Xr<|?_
            try dsimp only [z1,z2,z5,z6,z7,z8]
            revert H102
            refine ci (decide ((val (Ji (⟨m_21, m_22, l_7, mp_5, m_23, m_24, m_25⟩ : Tb) (val (gI ((val (gI (x1_2 + 2))) + (val (gI (12 * x10_2)))))) 2)) ≤ (val (Zb l_8 (val (gI (x10_2 - 1))))).Tag)) rfl (fun hb H103=>?_) fun hb H105=>?_
            ·refine Jc<|Ja<|mv (pz pb0)<|?_
             obtain ⟨t131, h_t131, H104⟩ := Je H103; clear H103
             refine bo 1 2 rfl rfl<|bo 0 1 rfl rfl<|?_
             refine Qh (Jv (i := 0) (rds := []) rfl (fun w L' S hF hS hi hp hlt ho hA => k65 (a0 := (⟨m_21, m_22, l_7, mp_5, m_23, m_24, m_25⟩ : Tb)) hp hlt (J7 w S) rfl h_t131) kbf rfl) rfl rfl rfl (fun ⟨p_16, p_17⟩ => ?_)
             refine ub 0 1 rfl rfl<|ub 1 2 rfl rfl<|Jd<|?_
             try dsimp only [z1,z2,z5,z6,z7,z8]
             refine Xj ?_
             exact cl (x7_3, t131.s_, t131.kab, t131.kad, t131.kac, t131.no_, t131.kaa, t131.kae, l_8) (hp_2, p_16, p_17, css_2, p_9) 0 [0, 1, 2, 3, 4] (by exact ⟨H104, pf_3⟩)
            ·refine Jj ?_
             exact cl () () 0 [0, 1, 2, 3, 4] (by exact ⟨H105, trivial⟩)
           ·have H106 := Us hb H88
            refine dp<|dp<|dp<|dp<|dp<|dp<|dp<|dp<|dp<|dp<|dp<|dp<|dp<|dp<|dv (Z1 (v := .bool false) rfl rfl)<|Xr<|?_
            try dsimp only [z1,z2,z5,z6,z7,z8]
            refine Zz rfl<|Jj<|?_
            exact cl () () 0 [0, 1, 2, 3, 4] (by exact ⟨H106, trivial⟩)
           ) (by kernel_rfl)
         ·rintro _ _ gg H89 _
          try dsimp only at H89
          try dsimp only
          refine Ja<|mv (sl p_9 css_2.length)<|mv (pz pb0)<|mv (i6 x1_2)<|?_
          obtain ⟨t135, h_t135, H90⟩ := Je H89; clear H89
          refine lv (Jy rfl rfl h_t135)<|mv (i6 x10_2)<|?_
          obtain ⟨t137, h_t137, H91⟩ := Je H90; clear H90
          refine lv (Z3 rfl rfl h_t137) ?_
          obtain ⟨t138, h_t138, H92⟩ := Je H91; clear H91
          refine lv (Jy rfl rfl h_t138)<|mv v2<|?_
          obtain ⟨t140, h_t140, H93⟩ := Je H92; clear H92
          refine bo 1 2 rfl rfl<|bo 0 1 rfl rfl<|?_
          refine Qh (Jv (i := 0) (rds := []) rfl (fun w L' S hF hS hi hp hlt ho hA => k66_b ih (a0 := (⟨m_21, m_22, l_7, mp_5, m_23, m_24, m_25⟩ : Tb)) hp hlt (J7 w S) rfl (f2.mono (hw.but hF ho)) h_t140) call66 rfl) rfl rfl rfl (fun ⟨p_10, p_11, p_12, p_13, p_14⟩ => ?_)
          refine ub 0 1 rfl rfl<|ub 1 2 rfl rfl<|Qd 2 rfl<|Qd 5 rfl<|Qd 6 rfl<|?_
          refine Q5 (vs := [.agg #[i6 t140.1.Tag, i6 t140.1.Value.kai, str t140.1.Value.kaj, sl p_10 t140.1.Value.kak.length, sl p_11 t140.1.Value.kah.length, sl p_12 t140.1.Value.kag.length]]) (cs := [i6 t140.1.Tag, i6 t140.1.Value.kai, str t140.1.Value.kaj, sl p_10 t140.1.Value.kak.length, sl p_11 t140.1.Value.kah.length, sl p_12 t140.1.Value.kag.length]) kct kco zeroValue95 rfl rfl rfl rfl rfl rfl rfl (fun b3 => ?_)
          try dsimp only [z1,z2,z5,z6,z7,z8]
          refine Uc (Φ := fun H_ => FrS H_ 1 (sl p_10 t140.1.Value.kak.length) (t140.1.Value.kak.map J8)) 3 5 rfl rfl (by decide) (fun _ _ => Zc) (Jb9 _) (fun hp_3 hle hf => ?_)
          try dsimp only [z1,z2,z5,z6,z7,z8]
          refine Uc (Φ := fun H_ => FrS H_ 2 (sl p_11 t140.1.Value.kah.length) (t140.1.Value.kah.map Jl)) 3 6 rfl rfl (by decide) (fun _ _ => Zc) (Jb9 _) (fun hp_4 hle_2 hf_2 => ?_)
          refine Jcd 7 rfl (fun hp_5 css_3 hn pf_4 => ?_)
          rw [hn]
          try dsimp only [z1,z2,z5,z6,z7,z8]
          refine Qd 7 rfl ?_
          try dsimp only [z1,z2,z5,z6,z7,z8]
          refine Z9 3 7 rfl rfl (by decide) (fun _ _ => Zc) (fun hp_6 hle_3 hle_4 => ?_)
          try dsimp only [z1,z2,z5,z6,z7,z8]
          refine Uc (Φ := fun H_ => FrS H_ 6 (sl p_12 css_3.length) (css_3.map idC)) 3 9 rfl rfl (by decide) (fun _ _ => Zc) (Jb9 _) (fun hp_7 hle_5 hf_3 => ?_)
          obtain ⟨l142, h_l142, H94⟩ := Je H93; clear H93
          refine Qh (Jal (i := 4) (k := 8) (p := p_9) (f := idC) (ys := css_2) (ls := [[i6 t140.1.Tag, i6 t140.1.Value.kai, str t140.1.Value.kaj, sl p_10 t140.1.Value.kak.length, sl p_11 t140.1.Value.kah.length, sl p_12 css_3.length]]) kct (X0 typeInfo95) rfl rfl rfl rfl rfl rfl rfl rfl rfl rfl rfl rfl rfl rfl (by simp only [idC, List.map_cons, List.map_nil, List.all_cons, List.all_nil, (((hf.mono hle_2).mono hle_3).mono hle_5).one, ((hf_2.mono hle_3).mono hle_5).one, (Ja8 (xs := t140.1.Value.kag) hf_3 ((pf_4.mono hle_4).mono hle_5)).one] <;> rfl) (app63 (((((pf_3.mono hle).mono hle_2).mono hle_3).mono hle_5).app h_l142 (nc := [[i6 t140.1.Tag, i6 t140.1.Value.kai, str t140.1.Value.kaj, sl p_10 t140.1.Value.kak.length, sl p_11 t140.1.Value.kah.length, sl p_12 css_3.length]]) rfl)) rfl) rfl rfl rfl (fun p_15 => ?_)
          have pf_5 : AllC g_tag_Entry hp_7 6 (css_2 ++ [[i6 t140.1.Tag, i6 t140.1.Value.kai, str t140.1.Value.kaj, sl p_10 t140.1.Value.kak.length, sl p_11 t140.1.Value.kah.length, sl p_12 css_3.length]]) l142 := AllC.snocG ((((pf_3.mono hle).mono hle_2).mono hle_3).mono hle_5) h_l142 rfl ((g_tag_Entry_iff.2 ⟨rfl, ⟨rfl, rfl, (((hf.mono hle_2).mono hle_3).mono hle_5), ((hf_2.mono hle_3).mono hle_5), (Ja8 (xs := t140.1.Value.kag) hf_3 ((pf_4.mono hle_4).mono hle_5))⟩⟩))
          refine ag (sl p_15 ((css_2 ++ [[i6 t140.1.Tag, i6 t140.1.Value.kai, str t140.1.Value.kaj, .slice p_10.1 t140.1.Value.kak.length p_10.2, .slice p_11.1 t140.1.Value.kah.length p_11.2, .slice p_12.1 css_3.length p_12.2]]).length))<|Jd<|?_
          try dsimp only [z1,z2,z5,z6,z7,z8]
          refine Ja<|mv (i6 x10_2)<|?_
          obtain ⟨t111, h_t111, H95⟩ := Je H94; clear H94
          refine lv (Jy rfl rfl h_t111)<|ag (i6 t111)<|Jd<|?_
          try dsimp only [z1,z2,z5,z6,z7,z8]
          exact cl (x1_2, x7_3, x9_2, t111, t140.2.s_, t140.2.kab, t140.2.kad, t140.2.kac, t140.2.no_, t140.2.kaa, t140.2.kae, l142) (hp_7, p_13, p_14, (css_2 ++ [[i6 t140.1.Tag, i6 t140.1.Value.kai, str t140.1.Value.kaj, sl p_10 t140.1.Value.kak.length, sl p_11 t140.1.Value.kah.length, sl p_12 css_3.length]]), p_15) m4 [0, 1, 2, 3, 4] (by exact ⟨(by subst hn4; exact H95), pf_5⟩)
        ·refine Xj ?_
         exact cl (x7_3, m_21, m_22, m_23, m_24, m_25, l_7, mp_5, l_8) (hp_2, p_8, b_4, css_2, p_9) 0 [0, 1, 2, 3, 4] (by exact ⟨H107, pf_3⟩)
       ·refine pa<|pa<|pa<|pa<|pa<|pF (.bool false)<|Jd<|?_
        try dsimp only [z1,z2,z5,z6,z7,z8]
        refine Zz rfl<|Xj<|?_
        exact cl (x7_3, m_21, m_22, m_23, m_24, m_25, l_7, mp_5, l_8) (hp_2, p_8, b_4, css_2, p_9) 0 [0, 1, 2, 3, 4] (by exact ⟨H108, pf_3⟩)
      ·rintro ⟨x7, m_11, m_12, m_13, m_14, m_15, l_3, mp_3, l_4⟩ ⟨hp, p_6, b_3, css, p_7⟩ gg H85 pf
       try dsimp only at H85
       try dsimp only
       refine Jc<|Ja<|mv (sl p_7 css.length)<|mv (i6 x7)<|ag (sl p_7 css.length)<|ag (i6 x7)<|Jd<|?_
       try dsimp only [z1,z2,z5,z6,z7,z8]
       refine Jm ?_
       obtain rfl := sj H85
       refine bo 3 4 rfl rfl<|Xv 3 rfl (Q7 (p := p_7) rfl pf)<|bo 2 3 rfl rfl<|bo 1 2 rfl rfl<|bo 0 1 rfl rfl<|?_
       refine U9 (v1 := sl p_7 css.length) (v2 := i6 x7) rfl rfl rfl (Y0 (p_7, p_6, b_3) (i := 0) rfl (by first | rfl | rw [(show css.length = l_4.length from pf.len)]) (by first | exact Imp.refl _ | exact Imp.of (by rw [(show css.length = l_4.length from pf.len)] <;> rfl)))
theorem k32 {a0 : Tb} {pb0 : Nat} {p0_2 : AN} {n0_2 : Nat} {m0_3 : Nat} {a1 : Int} {a2 : (List Int)} {v2 : Value} {r : (List Ta) × Int × Tb} {w : World} {h : J1} {S : Nat → Prop} (hcs : (Jw (Jf pb0 [str a0.s_, .bool a0.kab, sl p0_2 n0_2, .map (some m0_3), i6 a0.kad, (Yh a0.kac), i6 a0.no_] 76) (Jw (J4 82 2 (sl p0_2 n0_2) n0_2 (a0.kaa.map Jh)) (Qt i6 Value.bool m0_3 a0.kae))).P S w) (hlt : ∀ b, S b → b < w.heap.size) (hw : Know h w S) (hn0_2 : n0_2 = a0.kaa.length) (f2 : FrS h 1 v2 (a2.map J8)) (H : Vx a0 a1 a2 = some r) : Does prog 32 (List.toArray [pz pb0, i6 a1, v2]) w (fun v w' => ∃ x : AN × AN × Nat, v = (.tuple #[.slice x.1.1 r.1.length x.1.2, i6 r.2.1]) ∧ Turn w w' S (Jw (Jf pb0 [str r.2.2.s_, .bool r.2.2.kab, .slice x.2.1.1 r.2.2.kaa.length x.2.1.2, .map (some x.2.2), i6 r.2.2.kad, (Yh r.2.2.kac), i6 r.2.2.no_] 76) (Jw (J4 82 2 (.slice x.2.1.1 r.2.2.kaa.length x.2.1.2) r.2.2.kaa.length (r.2.2.kaa.map Jh)) (Jw (Qt i6 Value.bool x.2.2 r.2.2.kae) (Uj 95 6 g_tag_Entry (.slice x.1.1 r.1.length x.1.2) r.1.length r.1))))) := by
 obtain ⟨mm, hm⟩ := Je9 (show Vv (fun (self : (Tb × Int × (List Int)) → Option ((List Ta) × Int × Tb)) (s : Tb × Int × (List Int)) => J6 self s.1 s.2.1 s.2.2) (a0, a1, a2) = some r from H)
 exact k32_it mm hcs hlt hw hn0_2 f2 hm
theorem k9 {a0 : (List Int)} {v0 : Value} {a1 : (List Int)} {v1 : Value} {r : Bool} {w : World} {h : J1} (hw : Know h w Z0) (f0 : FrS h 1 v0 (a0.map J8)) (f1 : FrS h 1 v1 (a1.map J8)) (H : Ja1 a0 a1 = some r) : Does prog 9 (List.toArray [v0, v1]) w (fun v w' => v = (.bool r) ∧ Grow w w') := by
 refine enter (n := 26) func9 rfl rfl rfl Z0 [] (Sat.nil _ _)<|Jc<|Ja<|ag (.bool false)<|Jd<|Jc<|Jc<|Ja<|mv v0<|lv (Yz kcr rfl f0 rfl)<|mv v1<|lv (Yz kcr rfl f1 rfl)<|lv (Yv rfl rfl)<|Jd<|?_
 revert H
 refine ci (decide ((a0.length : Int) ≠ (a1.length : Int))) rfl (fun hb H11=>?_) fun hb H12=>?_
 ·refine Jc<|Ja<|ag (.bool false)<|Jd<|Jm<|?_
  obtain rfl := sj H11
  exact r1 (.bool false)
 ·refine Jj<|Jc<|Jc<|Ja<|mv v0<|lv (Yz kcr rfl f0 rfl)<|mv (i6 0)<|Jd<|Jx<|?_
  refine Za (σ := Int) (τ := Unit) (fun next1 s => Vh a0 a1 next1 s) (fun s t => [(0, v0), (1, v1), (12, i6 (a0.length : Int)), (13, i6 s)]) (fun s t => []) (fun s t => True) 0 () [] H12 (by exact trivial) (by exact ⟨rfl, rfl, rfl, rfl, trivial⟩) (by decide) rfl ?_
  rintro x13_2 _ m1 gg H13 _
  clear H12
  try dsimp only at H13
  generalize hn1 : it (fun next1 s => Vh a0 a1 next1 s) m1 = next1 at H13
  try dsimp only
  refine Jc<|Ja<|lv (X3 rfl rfl)<|Jd<|Jc<|?_
  revert H13
  refine ci (decide (x13_2 < (a0.length : Int))) rfl (fun hb H14=>?_) fun hb H20=>?_
  ·refine Jj<|Jc<|Jx<|Jc<|Ja<|mv (i6 x13_2)<|ag (i6 x13_2)<|Jd<|Jc<|?_
   exact Qk (Kd.p :: Kd.p :: Kd.p :: Kd.d [] _ :: Kd.p :: Kd.p :: Kd.p :: Kd.d [] _ :: Kd.p :: []) 0 mixed (by
    refine dm v0<|dm (i6 x13_2)<|?_
    have h_t18 := Jt H14
    have H15 := Jn H14
    refine dv (Xc kcr kcg rfl rfl f0 h_t18)<|W2 (fun w hF => Qw (f := J8) (i := x13_2) (sz := 1) (j := 0) (v := i6 (val (Zb a0 x13_2))) kbk rfl rfl (f0.row (hw.now hF)) h_t18 rfl) rfl rfl<|dm v1<|dm (i6 x13_2)<|?_
    have h_t22 := Jt H15
    have H16 := Jn H15
    refine dv (Xc kcr kcg rfl rfl f1 h_t22)<|W2 (fun w hF => Qw (f := J8) (i := x13_2) (sz := 1) (j := 0) (v := i6 (val (Zb a1 x13_2))) kbk rfl rfl (f1.row (hw.now hF)) h_t22 rfl) rfl rfl<|dv (Yv rfl rfl)<|Xr<|?_
    revert H16
    refine ci (decide ((val (Zb a0 x13_2)) ≠ (val (Zb a1 x13_2)))) rfl (fun hb H17=>?_) fun hb H18=>?_
    ·refine Jc<|Ja<|ag (.bool false)<|Jd<|Jm<|?_
     obtain rfl := sj H17
     exact r1 (.bool false)
    ·refine Jj<|Ja<|?_
     obtain ⟨t25, h_t25, H19⟩ := Je H18; clear H18
     refine lv (Jy rfl rfl h_t25)<|mv (i6 t25)<|Jd<|?_
     exact cl t25 () m1 [] (by exact ⟨(by subst hn1; exact H19), trivial⟩)
    ) (by kernel_rfl)
  ·refine Xj<|Jc<|Ja<|ag (.bool true)<|Jd<|Jm<|?_
   obtain rfl := sj H20
   exact r1 (.bool true)
theorem k8 {q0 : (List Int)} {vq0 : Value} {c0 : Nat} {q1 : Int} {pbq1 : Nat} {a0 : (List Int)} {v0 : Value} {a1 : Int} {r : Int} {w : World} {h : J1} {S : Nat → Prop} (hcs : (Jf pbq1 [i6 q1] 3).P S w) (hlt : ∀ b, S b → b < w.heap.size) (hw : Know h w S) (fq0 : FrS h 1 vq0 (q0.map J8)) (hc0 : h c0 = some (.cells (List.toArray [vq0]) 22 (0, 0))) (f0 : FrS h 1 v0 (a0.map J8)) (H : Jds q0 q1 a0 a1 = some r) : Does prog 8 (List.toArray [v0, i6 a1, pz c0, pz pbq1]) w (fun v w' => ∃ x : Unit, v = (.tuple #[]) ∧ Turn w w' S (Jf pbq1 [i6 r] 3)) := by
 refine enter (n := 10) func8 rfl rfl rfl S [Jf pbq1 [i6 q1] 3] (Sat.one hcs hlt)<|Jc<|Ja<|mv v0<|Xs (fun w hF hS => Zr (v := vq0) kbg rfl (hw.now hF _ _ hc0) rfl) rfl rfl rfl<|?_
 obtain ⟨t8, h_t8, H4⟩ := Je H; clear H
 refine Qb (fun w hF hS => k9 (Jq w) (f0.mono (hw.now hF)) (fq0.mono (hw.now hF)) h_t8) call9 rfl rfl rfl<|Jd<|?_
 revert H4
 refine ci t8 rfl (fun hb H5=>?_) fun hb H6=>?_
 ·refine Ja<|mv (i6 a1)<|st (i := 0) [i6 a1] [i6 a1] kcg rfl rfl<|Jd<|?_
  obtain rfl := sj H5
  refine Jgy rfl (Y0 () (i := 0) rfl rfl (Imp.refl _))
 ·refine Jj ?_
  obtain rfl := sj H6
  refine Jgy rfl (Y0 () (i := 0) rfl rfl (Imp.refl _))
theorem k13 {a0 : Bool} {a1 : Int} {a2 : Int} {r : (List Int)} {w : World} {h : J1} (hw : Know h w Z0) (H : J5 a0 a1 a2 = some r) : Does prog 13 (List.toArray [.bool a0, i6 a1, i6 a2]) w (fun v w' => ∃ x : AN, v = (sl x r.length) ∧ Turn w w' Z0 (J4 5 1 (sl x r.length) r.length (r.map W0))) := by
 refine enter (n := 33) func13 rfl rfl rfl Z0 [] (Sat.nil _ _)<|Jc<|Ja<|ag (z0s)<|Jd<|Jc<|Ja<|mv (i6 a2)<|?_
 obtain ⟨t11, h_t11, H15⟩ := Je H; clear H
 refine V8 (rds := []) (Jih (E := 5) (sz := 1) (f := W0) (xs := t11) kcw (X0 Tryz.typeInfo5) rfl rfl rfl rfl rfl rfl ⟨rfl, rfl⟩ h_t11) rfl rfl rfl (fun p => ?_)
 refine ag (sl p t11.length)<|Jd<|Jc<|Jc<|Ja<|mv (sl p t11.length)<|lv (Jdl kcw rfl)<|mv (i6 0)<|Jd<|Jx<|?_
 refine Za (σ := Int × (List Int)) (τ := Unit) (fun next1 s => Vu a0 a1 a2 t11 next1 s.1 s.2) (fun s t => [(0, .bool a0), (1, i6 a1), (2, i6 a2), (7, sl p t11.length), (13, i6 (t11.length : Int)), (14, i6 s.1)]) (fun s t => [J4 5 1 (sl p t11.length) t11.length (s.2.map W0)]) (fun s t => t11.length = s.2.length) (0, t11) () [0] H15 (by exact rfl) (by exact ⟨rfl, rfl, rfl, rfl, rfl, rfl, trivial⟩) (by decide) rfl ?_
 rintro ⟨x14_2, l_2⟩ _ m1 gg H16 hl_2
 clear H15
 try dsimp only at H16
 generalize hn1 : it (fun next1 s => Vu a0 a1 a2 t11 next1 s.1 s.2) m1 = next1 at H16
 try dsimp only
 refine Jc<|Ja<|lv (X3 rfl rfl)<|Jd<|Jc<|?_
 revert H16
 refine ci (decide (x14_2 < (t11.length : Int))) rfl (fun hb H17=>?_) fun hb H28=>?_
 ·refine Jj<|Jc<|Jx<|Jc<|Ja<|mv (i6 x14_2)<|ag (i6 x14_2)<|Jd<|Jc<|Ja<|mv (i6 x14_2)<|ag (i6 x14_2)<|Jd<|?_
  refine Qg (r := r) (σ := Int) (τ := Unit) (fun s => Jbc a1 x14_2 l_2 next1 s) (fun s t => [(0, .bool a0), (1, i6 a1), (2, i6 a2), (7, sl p t11.length), (8, i6 x14_2), (9, i6 s), (13, i6 (t11.length : Int)), (14, i6 x14_2)]) (fun s t => [J4 5 1 (sl p t11.length) t11.length (l_2.map W0)]) (fun s t => True) ?_ ?_
  ·refine Jc<|Ja<|mv (.bool a0)<|Jd<|?_
   revert H17
   refine ci a0 rfl (fun hb H24=>?_) fun hb H27=>?_
   ·refine Ja<|mv (i6 a2)<|?_
    obtain ⟨t20, h_t20, H25⟩ := Je H24; clear H24
    refine lv (Zs rfl rfl h_t20)<|mv (i6 x14_2)<|?_
    obtain ⟨t22, h_t22, H26⟩ := Je H25; clear H25
    refine lv (Zs rfl rfl h_t22)<|ag (i6 t22)<|Jd<|?_
    exact cl t22 () 0 [0] (by exact ⟨H26, trivial⟩)
   ·refine Jj ?_
    exact cl x14_2 () 0 [0] (by exact ⟨H27, trivial⟩)
  ·rintro x9 _ gg H18 _
   try dsimp only at H18
   try dsimp only
   refine Ja<|mv (sl p t11.length)<|mv (i6 x9)<|mv (i6 a1)<|mv (i6 x14_2)<|?_
   obtain ⟨t27, h_t27, H19⟩ := Je H18; clear H18
   refine lv (Z3 rfl rfl h_t27) ?_
   obtain ⟨t28, h_t28, H20⟩ := Je H19; clear H19
   refine lv (r_shrG rfl rfl rfl h_t28)<|lv (Jcf Tryz.runUnderlying3 runUnderlying5 rfl (wr_u8 _))<|?_
   obtain ⟨t30, h_t30, H21⟩ := Je H20; clear H20
   refine Xs (fun w hF hS => U3 kcw sizeOf5 rfl rfl (Uk (i := 0) hS rfl) hl_2 h_t30) rfl rfl rfl ?_
   obtain ⟨l0, h_l0, H22⟩ := Je H21; clear H21
   refine Jjq (q := 0) (j := 0) (i := x9) (sz := 1) (hm := hl_2) (f := W0) (vs := [.int .u8 (wU8 t28)]) sizeOf5 rfl rfl rfl rfl rfl rfl rfl rfl rfl (fun y_ hy_ => by first | rfl | (cases hy_.symm.trans h_t30; rfl)) h_l0<|Jd<|Ja<|?_
   obtain ⟨t31, h_t31, H23⟩ := Je H22; clear H22
   refine lv (Jy rfl rfl h_t31)<|mv (i6 t31)<|Jd<|?_
   exact cl (t31, l0) () m1 [0] (by exact ⟨(by subst hn1; exact H23), (gSet_n hl_2 h_l0)⟩)
 ·refine Xj<|Jc<|Ja<|mv (sl p t11.length)<|ag (sl p t11.length)<|Jd<|Jm<|?_
  obtain rfl := sj H28
  refine Jdo (v := sl p t11.length) rfl rfl (Y0 p (i := 0) rfl (by first | rfl | rw [(show t11.length = l_2.length from hl_2)]) (by first | exact Imp.refl _ | exact Imp.of (by rw [(show t11.length = l_2.length from hl_2)] <;> rfl)))
theorem k12 {a0 : Bool} {a1 : Te} {v1_2 : Value} {v1_3 : Value} {v1_4 : Value} {r : (List Int)} {w : World} {h : J1} (hw : Know h w Z0) (f1_2 : FrS h 1 v1_2 (a1.kak.map J8)) (f1_3 : FrS h 2 v1_3 (a1.kah.map Jl)) (f1_4 : FrN h 6 v1_4 g_tag_Entry a1.kag) (H : Jei a0 a1 = some r) : Does prog 12 (List.toArray [.bool a0, .agg #[i6 a1.kai, str a1.kaj, v1_2, v1_3, v1_4]]) w (fun v w' => ∃ x : AN, v = (sl x r.length) ∧ Turn w w' Z0 (wrV 5 1 (sl x r.length) r.length (r.map W0))) := by
 refine enter (n := 61) func12 rfl rfl rfl Z0 [] (Sat.nil _ _)<|Jc<|Ja<|?_
 refine W1 (cs := [i6 a1.kai, str a1.kaj, v1_2, v1_3, v1_4]) rfl rfl rfl rfl (fun b6 => ?_)
 refine ag (z0s)<|Jd<|Jc<|Jc<|Ja<|lf Tryz.runUnderlying26 rfl kcg rfl<|ll 0 (i6 a1.kai) kbk<|Jd<|Jx<|Jc<|Ja<|lv (Qj rfl rfl)<|ag (.bool (decide (a1.kai = 2)))<|Jd<|?_
 revert H
 refine ci (decide (a1.kai = 2)) rfl (fun hb H51=>?_) fun hb H54=>?_
 ·refine Jc<|Ja<|lf Tryz.runUnderlying26 rfl kcn rfl<|ll 0 (str a1.kaj) kbp<|?_
  obtain ⟨t16, h_t16, H52⟩ := Je H51; clear H51
  refine V8 (rds := []) (Jgp (f := W0) (s := a1.kaj) kcx kcw underlying5 rfl (fun _ => rfl) h_t16) rfl rfl rfl (fun p => ?_)
  refine Q5 (vs := [.int .u8 0]) (cs := [.int .u8 0]) kcw sizeOf5 zeroValue5 rfl rfl rfl rfl rfl rfl rfl (fun b7 => ?_)
  obtain ⟨l18, h_l18, H53⟩ := Je H52; clear H52
  refine Qh (Jgj (i := 1) (hn := rfl) (rds := [2]) (p := p) (sz := 1) (by_ := 1) (f := W0) (ys := t16) (ls := ([0] : List Int)) (V := .slice (some ⟨b7, 0, none⟩) 1 1) kcw (X0 Tryz.typeInfo5) rfl rfl rfl rfl rfl rfl rfl rfl rfl rfl (fun w L' hF hS hi => Wy (i := 2) hS ((hi 2 (by simp)).trans rfl) rfl rfl) (fun _ => rfl) (fun _ => rfl) h_l18) rfl rfl rfl (fun p_2 => ?_)
  refine ag (sl p_2 l18.length)<|Jd<|Jm<|?_
  obtain rfl := sj H53
  refine Jdo (v := sl p_2 l18.length) rfl rfl (Y0 p_2 (i := 1) rfl rfl (Imp.refl _))
 ·refine Jc<|Ja<|lv (Qj rfl rfl)<|ag (.bool (decide (a1.kai = 7)))<|Jd<|?_
  revert H54
  refine ci (decide (a1.kai = 7)) rfl (fun hb H55=>?_) fun hb H57=>?_
  ·refine Jc<|Ja<|lf Tryz.runUnderlying26 rfl kcn rfl<|ll 0 (str a1.kaj) kbp<|?_
   obtain ⟨t23, h_t23, H56⟩ := Je H55; clear H55
   refine V8 (rds := []) (Jgp (f := W0) (s := a1.kaj) kcx kcw underlying5 rfl (fun _ => rfl) h_t23) rfl rfl rfl (fun p_3 => ?_)
   refine ag (sl p_3 t23.length)<|Jd<|Jm<|?_
   obtain rfl := sj H56
   refine Jdo (v := sl p_3 t23.length) rfl rfl (Y0 p_3 (i := 1) rfl rfl (Imp.refl _))
  ·refine Jj<|Jc<|Ja<|ag (z0s)<|Jd<|?_
   refine Qg (r := r) (σ := (List Int)) (τ := AN) (fun s => Jbb a0 a1 s) (fun s t => [(0, .bool a0), (3, pz b6), (5, sl t s.length)]) (fun s t => [Jf b6 [i6 a1.kai, str a1.kaj, v1_2, v1_3, v1_4] 26, J4 5 1 (sl t s.length) s.length (s.map W0)]) (fun s t => True) ?_ ?_
   ·refine Jc<|Ja<|lf Tryz.runUnderlying26 rfl kcb rfl<|ll 0 v1_2 kbg<|lv (Yz kcr rfl f1_2 rfl)<|mv (i6 0)<|Jd<|Jx<|Jp 5 1<|?_
    refine Za (σ := Int × (List Int)) (τ := AN) (fun next3 s => Wh a0 a1 next3 s.1 s.2) (fun s t => [(0, .bool a0), (3, pz b6), (5, sl t s.2.length), (25, v1_2), (26, i6 (a1.kak.length : Int)), (27, i6 s.1)]) (fun s t => [Jf b6 [i6 a1.kai, str a1.kaj, v1_2, v1_3, v1_4] 26, J4 5 1 (sl t s.2.length) s.2.length (s.2.map W0)]) (fun s t => True) (0, ([] : List Int)) nn [0, 1] H57 (by exact trivial) (by exact ⟨rfl, rfl, rfl, rfl, rfl, rfl, trivial⟩) (by decide) rfl ?_
    rintro ⟨x27_2, l_5⟩ p_10 m3 gg H68 _
    clear H57
    try dsimp only at H68
    generalize hn3 : it (fun next3 s => Wh a0 a1 next3 s.1 s.2) m3 = next3 at H68
    try dsimp only
    refine Jc<|Ja<|lv (X3 rfl rfl)<|Jd<|Jc<|?_
    revert H68
    refine ci (decide (x27_2 < (a1.kak.length : Int))) rfl (fun hb H69=>?_) fun hb H75=>?_
    ·refine Jj<|Jc<|Jx<|Jc<|Ja<|?_
     obtain ⟨t29, h_t29, H70⟩ := Je H69; clear H69
     refine lv (Xc kcr kcg rfl rfl f1_2 h_t29)<|Xs (fun w hF hS => Qw (f := J8) (i := x27_2) (sz := 1) (j := 0) (v := i6 t29) kbk rfl rfl (f1_2.row (hw.now hF)) h_t29 rfl) rfl rfl rfl<|ag (i6 t29)<|Jd<|Ja<|mv (sl p_10 l_5.length)<|mv (.bool a0)<|mv (i6 t29)<|lf Tryz.runUnderlying26 rfl kcg rfl<|ll 0 (i6 a1.kai) kbk<|?_
     obtain ⟨t36, h_t36, H71⟩ := Je H70; clear H70
     refine Yq (k43 h_t36) call43 rfl rfl rfl ?_
     obtain ⟨t37, h_t37, H72⟩ := Je H71; clear H71
     refine V8 (Yy (rds := []) (fun w L' hF hS hi => k13 (Jq w)  h_t37) call13 rfl) rfl rfl rfl (fun p_11 => ?_)
     obtain ⟨l38, h_l38, H73⟩ := Je H72; clear H72
     refine Qh (Yg (i := 1) (hn := rfl) (rds := [2]) (p := p_10) (sz := 1) (by_ := 1) (f := W0) (ys := l_5) (ls := t37) (V := sl p_11 t37.length) kcw (X0 Tryz.typeInfo5) rfl rfl rfl rfl rfl rfl rfl rfl rfl rfl (fun w L' hF hS hi => Uk (i := 2) hS ((hi 2 (by simp)).trans rfl)) (fun _ => rfl) (fun _ => rfl) h_l38) rfl rfl rfl (fun p_12 => ?_)
     refine ag (sl p_12 l38.length)<|Jd<|Ja<|?_
     obtain ⟨t39, h_t39, H74⟩ := Je H73; clear H73
     refine lv (Jy rfl rfl h_t39)<|mv (i6 t39)<|Jd<|?_
     exact cl (t39, l38) p_12 m3 [0, 1] (by exact ⟨(by subst hn3; exact H74), trivial⟩)
    ·refine Xj ?_
     exact cl l_5 p_10 0 [0, 1] (by exact ⟨H75, trivial⟩)
   ·rintro l p_4 gg H58 _
    try dsimp only at H58
    try dsimp only
    refine Jc<|Jc<|Ja<|lf Tryz.runUnderlying26 rfl kcc rfl<|ll 0 v1_3 isAgg23<|lv (Yz kcs rfl f1_3 rfl)<|mv (i6 0)<|Jd<|Jx<|Jcv 0<|?_
    try dsimp only [z1, z2, z3, z4, z5, z6, z7, z8]
    refine Za (σ := Int × (List Int)) (τ := AN) (fun next2 s => We a0 a1 next2 s.1 s.2) (fun s t => [(0, .bool a0), (5, sl t s.2.length), (41, v1_3), (42, i6 (a1.kah.length : Int)), (43, i6 s.1)]) (fun s t => [J4 5 1 (sl t s.2.length) s.2.length (s.2.map W0)]) (fun s t => True) (0, l) p_4 [0] H58 (by exact trivial) (by exact ⟨rfl, rfl, rfl, rfl, rfl, trivial⟩) (by decide) rfl ?_
    rintro ⟨x43_2, l_3⟩ p_5 m2 gg H59 _
    clear H58
    try dsimp only at H59
    generalize hn2 : it (fun next2 s => We a0 a1 next2 s.1 s.2) m2 = next2 at H59
    try dsimp only
    refine Jc<|Ja<|lv (X3 rfl rfl)<|Jd<|Jc<|?_
    revert H59
    refine ci (decide (x43_2 < (a1.kah.length : Int))) rfl (fun hb H60=>?_) fun hb H67=>?_
    ·refine Jj<|Jc<|Jx<|Jc<|Ja<|?_
     obtain ⟨t45, h_t45, H61⟩ := Je H60; clear H60
     refine lv (Xc kcs kcp rfl rfl f1_3 h_t45)<|Xs (fun w hF hS => Z5 (f := Jl) (i := x43_2) (sz := 2) (j := 0) (vs := [i6 t45.Num, i6 t45.Den]) isAgg98 kcp rfl rfl (f1_3.row (hw.now hF)) h_t45 rfl) rfl rfl rfl<|?_
     refine Xx (cs := [i6 0, i6 0]) zeroValue98 rfl rfl rfl (fun b8 => ?_)
     refine st (i := 1) [i6 t45.Num, i6 t45.Den] [i6 t45.Num, i6 t45.Den] kcp rfl rfl<|Jd<|Jc<|Ja<|mv (sl p_5 l_3.length)<|mv (.bool a0)<|lf Tryz.runUnderlying98 rfl kcg rfl<|ll 1 (i6 t45.Num) kbk<|?_
     obtain ⟨t51, h_t51, H62⟩ := Je H61; clear H61
     refine V8 (Yy (rds := []) (fun w L' hF hS hi => k13 (Jq w)  h_t51) call13 rfl) rfl rfl rfl (fun p_6 => ?_)
     obtain ⟨l52, h_l52, H63⟩ := Je H62; clear H62
     refine Qh (Yg (i := 0) (hn := rfl) (rds := [2]) (p := p_5) (sz := 1) (by_ := 1) (f := W0) (ys := l_3) (ls := t51) (V := sl p_6 t51.length) kcw (X0 Tryz.typeInfo5) rfl rfl rfl rfl rfl rfl rfl rfl rfl rfl (fun w L' hF hS hi => Uk (i := 2) hS ((hi 2 (by simp)).trans rfl)) (fun _ => rfl) (fun _ => rfl) h_l52) rfl rfl rfl (fun p_7 => ?_)
     refine ag (sl p_7 l52.length)<|Jd<|Ja<|mv (sl p_7 l52.length)<|mv (.bool a0)<|lf Tryz.runUnderlying98 rfl kcg rfl<|ll 1 (i6 t45.Den) kbk<|?_
     obtain ⟨t57, h_t57, H64⟩ := Je H63; clear H63
     refine V8 (Yy (rds := []) (fun w L' hF hS hi => k13 (Jq w)  h_t57) call13 rfl) rfl rfl rfl (fun p_8 => ?_)
     obtain ⟨l58, h_l58, H65⟩ := Je H64; clear H64
     refine Qh (Yg (i := 0) (hn := rfl) (rds := [3]) (p := p_7) (sz := 1) (by_ := 1) (f := W0) (ys := l52) (ls := t57) (V := sl p_8 t57.length) kcw (X0 Tryz.typeInfo5) rfl rfl rfl rfl rfl rfl rfl rfl rfl rfl (fun w L' hF hS hi => Uk (i := 3) hS ((hi 3 (by simp)).trans rfl)) (fun _ => rfl) (fun _ => rfl) h_l58) rfl rfl rfl (fun p_9 => ?_)
     refine ag (sl p_9 l58.length)<|Jd<|?_
     try dsimp only [z1,z2,z5,z6,z7,z8]
     refine Ja ?_
     obtain ⟨t59, h_t59, H66⟩ := Je H65; clear H65
     refine lv (Jy rfl rfl h_t59)<|mv (i6 t59)<|Jd<|?_
     exact cl (t59, l58) p_9 m2 [0] (by exact ⟨(by subst hn2; exact H66), trivial⟩)
    ·refine Xj<|Jc<|Ja<|mv (sl p_5 l_3.length)<|ag (sl p_5 l_3.length)<|Jd<|Jm<|?_
     obtain rfl := sj H67
     refine Xv 0 rfl (imp_wr _ _ _ _ _) ?_
     refine Jdo (v := sl p_5 l_3.length) rfl rfl (Y0 p_5 (i := 0) rfl rfl (Imp.refl _))
theorem k14 {a0 : Tj} {pb0 : Nat} {p0_1 : AN} {n0_1 : Nat} {a1 : Int} {a2 : Int} {r : Tj} {w : World} {h : J1} {S : Nat → Prop} (hcs : (Jw (Jf pb0 [.bool a0.kab, sl p0_1 n0_1] 46) (wrV 5 1 (sl p0_1 n0_1) n0_1 (a0.kao.map W0))).P S w) (hlt : ∀ b, S b → b < w.heap.size) (hw : Know h w S) (hn0_1 : n0_1 = a0.kao.length) (H : J0 a0 a1 a2 = some r) : Does prog 14 (List.toArray [pz pb0, i6 a1, i6 a2]) w (fun v w' => ∃ x : AN, v = (.tuple #[]) ∧ Turn w w' S (Jw (Jf pb0 [.bool r.kab, sl x r.kao.length] 46) (wrV 5 1 (sl x r.kao.length) r.kao.length (r.kao.map W0)))) := by
 refine enter (n := 19) func14 rfl rfl rfl S [Jw (Jf pb0 [.bool a0.kab, sl p0_1 n0_1] 46) (wrV 5 1 (sl p0_1 n0_1) n0_1 (a0.kao.map W0))] (Sat.one hcs hlt)<|Qd 0 rfl<|?_
 exact Qk (Kd.p :: Kd.p :: Kd.p :: Kd.d [0] _ :: Kd.p :: Kd.d [1] _ :: Kd.p :: Kd.p :: Kd.p :: Kd.d [0] _ :: Kd.p :: Kd.t 2 [] _ _ :: Kd.t 1 [2] _ _ :: []) 1 mixed (by
  refine dm (pz pb0)<|dv (Jg rfl)<|dv (J2 Tryz.runUnderlying46 rfl kcl rfl rfl)<|dl (sl p0_1 n0_1) isAgg44<|dm (i6 a1)<|?_
  have h_t11 := Jt H
  have H3 := Jn H
  refine Um (v := .slice (Vo p0_1.1 (Int.toNat a1) p0_1.2 1) (val (Qp a0.kao a1 a0.kao.length)).length (p0_1.2 - Int.toNat a1)) (fun w L' hF hS hi => Jdt (xs := a0.kao) kcw sizeOf5 rfl rfl hn0_1 (capOfW (i := 1) hS ((hi 1 (by simp)).trans rfl)) h_t11) rfl rfl<|dm (pz pb0)<|dv (Jg rfl)<|dv (J2 Tryz.runUnderlying46 rfl kck rfl rfl)<|dl (.bool a0.kab) kbo<|dm (i6 a2)<|?_
  have h_t17 := Jt H3
  have H4 := Jn H3
  refine d_make (Cv := fun v => J4 5 1 v (val (J5 a0.kab a2 4)).length ((val (J5 a0.kab a2 4)).map W0)) (none, 0) (Yy (fun w L' hF hS hi => k13 (Jq w)  h_t17) call13 rfl) (fun _ => rfl) rfl rfl rfl (fun p => ?_)
  refine Jct (Cv := fun _ => wrV 5 1 (sl p0_1 n0_1) n0_1 ((Vn a0.kao a1 (val (Qp a0.kao a1 a0.kao.length)).length (val (J5 a0.kab a2 4))).map W0)) () (Jdq (i := 1) (rds := _) (p := p0_1) (f := W0) (xs := a0.kao) (ts := (val (Qp a0.kao a1 a0.kao.length))) (ys := (val (J5 a0.kab a2 4))) hn0_1 kcw (by rw [X0 Tryz.typeInfo5]; rfl) rfl rfl h_t11 rfl rfl (fun w L' hF hS hi => Uk (i := 2) hS ((hi 2 (by simp)).trans rfl)) (fun _ => rfl) (fun _ => rfl)) (fun _ => rfl) rfl rfl (fun _ => ?_)
  refine Xr ?_
  obtain rfl := sj H4
  refine bo 0 1 rfl rfl ?_
  refine Jgy rfl (Y0 p0_1 (i := 0) rfl (by first | rfl | rw [(show n0_1 = (Vn a0.kao a1 (val (Qp a0.kao a1 a0.kao.length)).length (val (J5 a0.kab a2 4))).length from (cpyL_n hn0_1 h_t11))]) (by first | exact Imp.refl _ | exact Imp.of (by rw [(show n0_1 = (Vn a0.kao a1 (val (Qp a0.kao a1 a0.kao.length)).length (val (J5 a0.kab a2 4))).length from (cpyL_n hn0_1 h_t11))] <;> rfl)))
  ) (by kernel_rfl)
theorem k18 {a0 : Tj} {pb0 : Nat} {p0_1 : AN} {n0_1 : Nat} {r : Int × Tj} {w : World} {h : J1} {S : Nat → Prop} (hcs : (Jw (Jf pb0 [.bool a0.kab, sl p0_1 n0_1] 46) (wrV 5 1 (sl p0_1 n0_1) n0_1 (a0.kao.map W0))).P S w) (hlt : ∀ b, S b → b < w.heap.size) (hw : Know h w S) (hn0_1 : n0_1 = a0.kao.length) (H : Ya a0 = some r) : Does prog 18 (List.toArray [pz pb0]) w (fun v w' => ∃ x : AN, v = (i6 r.1) ∧ Turn w w' S (Jw (Jf pb0 [.bool r.2.kab, sl x r.2.kao.length] 46) (wrV 5 1 (sl x r.2.kao.length) r.2.kao.length (r.2.kao.map W0)))) := by
 refine enter (n := 24) func18 rfl rfl rfl S [Jw (Jf pb0 [.bool a0.kab, sl p0_1 n0_1] 46) (wrV 5 1 (sl p0_1 n0_1) n0_1 (a0.kao.map W0))] (Sat.one hcs hlt)<|Qd 0 rfl<|Jc<|Ja<|ag (i6 0)<|Jd<|?_
 refine Qg (r := r) (σ := (List Int)) (τ := AN × Nat) (fun s => Wa a0 s) (fun s t => [(0, pz pb0)]) (fun s t => [Jf pb0 [.bool a0.kab, .slice t.1.1 t.2 t.1.2] 46, wrV 5 1 (.slice t.1.1 t.2 t.1.2) t.2 (s.map W0)]) (fun s t => t.2 = s.length) ?_ ?_
 ·refine Jc<|Ja<|mv (pz pb0)<|lv (Jg rfl)<|lf Tryz.runUnderlying46 rfl kcl rfl<|ll 0 (sl p0_1 n0_1) isAgg44<|lv (r_lenN kcw rfl hn0_1)<|?_
  obtain ⟨t8, h_t8, H7⟩ := Je H; clear H
  refine lv (r_remG rfl rfl h_t8)<|lv (Yv rfl rfl)<|Jd<|?_
  revert H7
  refine ci (decide (t8 ≠ 0)) rfl (fun hb H8=>?_) fun hb H10=>?_
  ·refine Ja<|mv (pz pb0)<|mv (pz pb0)<|lv (Jg rfl)<|lf Tryz.runUnderlying46 rfl kcl rfl<|ll 0 (sl p0_1 n0_1) isAgg44<|?_
   refine Q5 (vs := [.int .u8 0]) (cs := [.int .u8 0]) kcw sizeOf5 zeroValue5 rfl rfl rfl rfl rfl rfl rfl (fun b1 => ?_)
   obtain ⟨l16, h_l16, H9⟩ := Je H8; clear H8
   refine Qh (Jgj (i := 1) (hn := hn0_1) (rds := [2]) (p := p0_1) (sz := 1) (by_ := 1) (f := W0) (ys := a0.kao) (ls := ([0] : List Int)) (V := .slice (some ⟨b1, 0, none⟩) 1 1) kcw (X0 Tryz.typeInfo5) rfl rfl rfl rfl rfl rfl rfl rfl rfl rfl (fun w L' hF hS hi => Wy (i := 2) hS ((hi 2 (by simp)).trans rfl) rfl rfl) (fun _ => rfl) (fun _ => rfl) h_l16) rfl rfl rfl (fun p_2 => ?_)
   refine lv (Jg rfl)<|lf Tryz.runUnderlying46 rfl kcl rfl<|st (i := 0) [sl p_2 l16.length] [.bool a0.kab, sl p_2 l16.length] kcl rfl rfl<|Jd<|?_
   exact cl l16 (p_2, l16.length) 0 [0, 1] (by exact ⟨H9, rfl⟩)
  ·refine Jj ?_
   exact cl a0.kao (p0_1, n0_1) 0 [0, 1] (by exact ⟨H10, hn0_1⟩)
 ·rintro l ⟨p, n⟩ gg H6 hl
  try dsimp only at H6
  try dsimp only
  refine Jc<|Ja<|mv (pz pb0)<|lv (Jg rfl)<|lf Tryz.runUnderlying46 rfl kcl rfl<|ll 0 (sl p n) isAgg44<|lv (r_lenN kcw rfl hl)<|ag (i6 (l.length : Int))<|Jd<|Jm<|?_
  obtain rfl := sj H6
  refine bo 0 1 rfl rfl ?_
  refine Jdo (v := i6 (l.length : Int)) rfl rfl (Y0 p (i := 0) rfl (by first | rfl | rw [(show n = l.length from hl)]) (by first | exact Imp.refl _ | exact Imp.of (by rw [(show n = l.length from hl)] <;> rfl)))
theorem k31c {x0_ x1_ : Value} {a0 : Tb} {v0_2 : Value} {v0_3 : Value} {pb0 : Nat} {a1 : Int} {a2 : Int} {r : Int} {w : World} {h : J1} (hw : Know h w Z0) (f0_2 : FrS h 2 v0_2 (a0.kaa.map Jh)) (f0_3 : FrM h i6 Value.bool v0_3 a0.kae) (hb0 : h pb0 = some (.cells (List.toArray [str a0.s_, .bool a0.kab, v0_2, v0_3, i6 a0.kad, .func (.func 8) #[] #[x0_, x1_], i6 a0.no_]) 76 (0, 0))) (H : Ji a0 a1 a2 = some r) : Does prog 31 (List.toArray [pz pb0, i6 a1, i6 a2]) w (fun v w' => v = (i6 r) ∧ Grow w w') := by
 refine enter (n := 18) func31 rfl rfl rfl Z0 [] (Sat.nil _ _)<|Jc<|Ja<|ag (i6 0)<|Jd<|Jc<|?_
 exact Qk (Kd.p :: Kd.p :: Kd.p :: Kd.d [] _ :: Kd.p :: Kd.p :: Kd.p :: Kd.d [] _ :: Kd.p :: Kd.p :: Kd.d [] _ :: Kd.p :: []) 0 mixed (by
  refine dm (pz pb0)<|dv (Jg rfl)<|dv (J2 Tryz.runUnderlying76 rfl kck rfl rfl)<|W2 (fun w hF => Zr (v := .bool a0.kab) kbo rfl (hw.now hF _ _ hb0) rfl) rfl rfl<|dm (pz pb0)<|dv (Jg rfl)<|dv (J2 Tryz.runUnderlying76 rfl kcn rfl rfl)<|W2 (fun w hF => Zr (v := str a0.s_) kbp rfl (hw.now hF _ _ hb0) rfl) rfl rfl<|dm (i6 a1)<|dm (i6 a2)<|?_
  have h_t17 := Jt H
  have H2 := Jn H
  refine Ja9 (k17 h_t17) call17 rfl rfl<|Qv rfl rfl (Jz (v := i6 (val (Yb a0.kab a0.s_ a1 a2))) rfl)<|Xr<|Jm<|?_
  obtain rfl := sj H2
  exact r1 (i6 (val (Yb a0.kab a0.s_ a1 a2)))
  ) (by kernel_rfl)
theorem k64c {x0_ x1_ : Value} {a0 : Tb} {v0_2 : Value} {v0_3 : Value} {pb0 : Nat} {a1 : Int} {a2 : Int} {r : Bool} {w : World} {h : J1} (hw : Know h w Z0) (f0_2 : FrS h 2 v0_2 (a0.kaa.map Jh)) (f0_3 : FrM h i6 Value.bool v0_3 a0.kae) (hb0 : h pb0 = some (.cells (List.toArray [str a0.s_, .bool a0.kab, v0_2, v0_3, i6 a0.kad, .func (.func 8) #[] #[x0_, x1_], i6 a0.no_]) 76 (0, 0))) (H : Y6 a0 a1 a2 = some r) : Does prog 64 (List.toArray [pz pb0, i6 a1, i6 a2]) w (fun v w' => v = (.bool r) ∧ Grow w w') := by
 refine enter (n := 29) func64 rfl rfl rfl Z0 [] (Sat.nil _ _)<|Jc<|Ja<|ag (.bool false)<|Jd<|Jc<|Ja<|mv (i6 a1)<|lv (Jey rfl rfl)<|mv (.bool (decide (8 ≤ a1)))<|?_
 revert H
 refine sp (fun hb H6=>?_) fun hb H10=>?_
 ·refine mv (i6 a2)<|mv (pz pb0)<|lv (Jg rfl)<|lf Tryz.runUnderlying76 rfl kcn rfl<|Xs (fun w hF hS => Zr (v := str a0.s_) kbp rfl (hw.now hF _ _ hb0) rfl) rfl rfl rfl<|lv (Yx kcx rfl)<|lv (Jd1 rfl rfl)<|pT (.bool (decide (a2 ≤ (a0.s_.length : Int))))<|mv (.bool (decide (a2 ≤ (a0.s_.length : Int))))<|?_
  revert H6
  refine sp (fun hb H7=>?_) fun hb H9=>?_
  ·refine mv (i6 a1)<|mv (pz pb0)<|lv (Jg rfl)<|lf Tryz.runUnderlying76 rfl kcn rfl<|Xs (fun w hF hS => Zr (v := str a0.s_) kbp rfl (hw.now hF _ _ hb0) rfl) rfl rfl rfl<|lv (Yx kcx rfl)<|mv (i6 a2)<|?_
   obtain ⟨t26, h_t26, H8⟩ := Je H7; clear H7
   refine lv (Zs rfl rfl h_t26)<|lv (Jd1 rfl rfl)<|pT (.bool (decide (a1 ≤ t26)))<|ag (.bool (decide (a1 ≤ t26)))<|Jd<|Jm<|?_
   obtain rfl := sj H8
   exact r1 (.bool (decide (a1 ≤ t26)))
  ·refine pa<|pa<|pa<|pa<|pa<|pa<|pa<|pa<|pa<|pF (.bool false)<|ag (.bool false)<|Jd<|Jm<|?_
   obtain rfl := sj H9
   exact r1 (.bool false)
 ·refine pa<|pa<|pa<|pa<|pa<|pa<|pa<|pF (.bool false)<|mv (.bool false)<|pa<|pa<|pa<|pa<|pa<|pa<|pa<|pa<|pa<|pF (.bool false)<|ag (.bool false)<|Jd<|Jm<|?_
  obtain rfl := sj H10
  exact r1 (.bool false)
theorem k65c {x0_ x1_ : Value} {a0 : Tb} {pb0 : Nat} {p0_2 : AN} {n0_2 : Nat} {m0_3 : Nat} {a1 : Int} {r : Tb} {w : World} {h : J1} {S : Nat → Prop} (hcs : (Jw (Jf pb0 [str a0.s_, .bool a0.kab, sl p0_2 n0_2, .map (some m0_3), i6 a0.kad, .func (.func 8) #[] #[x0_, x1_], i6 a0.no_] 76) (Jw (J4 82 2 (sl p0_2 n0_2) n0_2 (a0.kaa.map Jh)) (Qt i6 Value.bool m0_3 a0.kae))).P S w) (hlt : ∀ b, S b → b < w.heap.size) (hw : Know h w S) (hn0_2 : n0_2 = a0.kaa.length) (H : Qc a0 a1 = some r) : Does prog 65 (List.toArray [pz pb0, i6 a1]) w (fun v w' => ∃ x : AN × Nat, v = (.tuple #[]) ∧ Turn w w' S (Jw (Jf pb0 [str r.s_, .bool r.kab, .slice x.1.1 r.kaa.length x.1.2, .map (some x.2), i6 r.kad, .func (.func 8) #[] #[x0_, x1_], i6 r.no_] 76) (Jw (J4 82 2 (.slice x.1.1 r.kaa.length x.1.2) r.kaa.length (r.kaa.map Jh)) (Qt i6 Value.bool x.2 r.kae)))) := by
 refine enter (n := 13) func65 rfl rfl rfl S [Jw (Jf pb0 [str a0.s_, .bool a0.kab, sl p0_2 n0_2, .map (some m0_3), i6 a0.kad, .func (.func 8) #[] #[x0_, x1_], i6 a0.no_] 76) (Jw (J4 82 2 (sl p0_2 n0_2) n0_2 (a0.kaa.map Jh)) (Qt i6 Value.bool m0_3 a0.kae))] (Sat.one hcs hlt)<|Qd 0 rfl<|Qd 1 rfl<|Jc<|Ja<|mv (pz pb0)<|lv (Jg rfl)<|lf Tryz.runUnderlying76 rfl kcf rfl<|ll 0 (i6 a0.no_) kbj<|lv (Qj rfl rfl)<|Jd<|?_
 revert H
 refine ci (decide (a0.no_ = 0)) rfl (fun hb H3=>?_) fun hb H4=>?_
 ·refine Ja<|mv (pz pb0)<|mv (i6 a1)<|lv (Jg rfl)<|lf Tryz.runUnderlying76 rfl kcf rfl<|st (i := 0) [i6 a1] [str a0.s_, .bool a0.kab, sl p0_2 n0_2, .map (some m0_3), i6 a0.kad, .func (.func 8) #[] #[x0_, x1_], i6 a1] kcf rfl rfl<|Jd<|?_
  obtain rfl := sj H3
  refine bo 1 2 rfl rfl<|bo 0 1 rfl rfl<|?_
  refine Jgy rfl (Y0 (p0_2, m0_3) (i := 0) rfl (by first | rfl | rw [(show n0_2 = a0.kaa.length from hn0_2)]) (by first | exact Imp.refl _ | exact Imp.of (by rw [(show n0_2 = a0.kaa.length from hn0_2)] <;> rfl)))
 ·refine Jj ?_
  obtain rfl := sj H4
  refine bo 1 2 rfl rfl<|bo 0 1 rfl rfl<|?_
  refine Jgy rfl (Y0 (p0_2, m0_3) (i := 0) rfl (by first | rfl | rw [(show n0_2 = a0.kaa.length from hn0_2)]) (by first | exact Imp.refl _ | exact Imp.of (by rw [(show n0_2 = a0.kaa.length from hn0_2)] <;> rfl)))
theorem k112c {x0_ x1_ : Value} {a0 : Tb} {pb0 : Nat} {p0_2 : AN} {n0_2 : Nat} {m0_3 : Nat} {a1 : (List UInt8)} {r : (List UInt8) × Tb} {w : World} {h : J1} {S : Nat → Prop} (hcs : (Jw (Jf pb0 [str a0.s_, .bool a0.kab, sl p0_2 n0_2, .map (some m0_3), i6 a0.kad, .func (.func 8) #[] #[x0_, x1_], i6 a0.no_] 76) (Jw (J4 82 2 (sl p0_2 n0_2) n0_2 (a0.kaa.map Jh)) (Qt i6 Value.bool m0_3 a0.kae))).P S w) (hlt : ∀ b, S b → b < w.heap.size) (hw : Know h w S) (hn0_2 : n0_2 = a0.kaa.length) (H : Uq a0 a1 = some r) : Does prog 112 (List.toArray [pz pb0, str a1]) w (fun v w' => ∃ x : AN × Nat, v = (str r.1) ∧ Turn w w' S (Jw (Jf pb0 [str r.2.s_, .bool r.2.kab, .slice x.1.1 r.2.kaa.length x.1.2, .map (some x.2), i6 r.2.kad, .func (.func 8) #[] #[x0_, x1_], i6 r.2.no_] 76) (Jw (J4 82 2 (.slice x.1.1 r.2.kaa.length x.1.2) r.2.kaa.length (r.2.kaa.map Jh)) (Qt i6 Value.bool x.2 r.2.kae)))) := by
 refine enter (n := 36) func112 rfl rfl rfl S [Jw (Jf pb0 [str a0.s_, .bool a0.kab, sl p0_2 n0_2, .map (some m0_3), i6 a0.kad, .func (.func 8) #[] #[x0_, x1_], i6 a0.no_] 76) (Jw (J4 82 2 (sl p0_2 n0_2) n0_2 (a0.kaa.map Jh)) (Qt i6 Value.bool m0_3 a0.kae))] (Sat.one hcs hlt)<|Qd 0 rfl<|Qd 1 rfl<|Jc<|Ja<|ag (str [])<|Jd<|Jc<|Jc<|Ja<|mv (str a1)<|lv (Jh6 rfl rfl)<|mv (.bool (decide (a1 = [])))<|?_
 revert H
 refine sp (fun hb H20=>?_) fun hb H22=>?_
 ·refine pa<|pa<|pa<|pa<|pa<|pa<|pT (.bool true)<|Jd<|Zl rfl<|Jc<|Ja<|mv (pz pb0)<|?_
  obtain ⟨t17, h_t17, H21⟩ := Je H20; clear H20
  refine bo 1 2 rfl rfl<|bo 0 1 rfl rfl<|?_
  refine Qh (Jv (i := 0) (rds := []) rfl (fun w L' S hF hS hi hp hlt ho hA => k65c hp hlt (J7 w S) hn0_2 h_t17) kbf rfl) rfl rfl rfl (fun ⟨p, p_2⟩ => ?_)
  refine ub 0 1 rfl rfl<|ub 1 2 rfl rfl<|Jd<|Jc<|?_
  try dsimp only [z1,z2,z5,z6,z7,z8]
  refine Ja<|ag (str [])<|Jd<|Jm<|?_
  obtain rfl := sj H21
  refine bo 1 2 rfl rfl<|bo 0 1 rfl rfl<|?_
  refine Jdo (v := str []) rfl rfl (Y0 (p, p_2) (i := 0) rfl rfl (Imp.refl _))
 ·refine mv (str a1)<|mv (str a1)<|lv (Yx kcx rfl)<|?_
  obtain ⟨t12, h_t12, H23⟩ := Je H22; clear H22
  refine lv (Zs rfl rfl h_t12) ?_
  obtain ⟨t13, h_t13, H24⟩ := Je H23; clear H23
  refine lv (Jc8 kcx rfl rfl h_t13)<|lv (Yv rfl rfl)<|pF (.bool (decide (t13 ≠ 0)))<|Jd<|?_
  revert H24
  refine ci (decide (t13 ≠ 0)) rfl (fun hb H25=>?_) fun hb H27=>?_
  ·refine Jc<|Ja<|mv (pz pb0)<|?_
   obtain ⟨t17_2, h_t17_2, H26⟩ := Je H25; clear H25
   refine bo 1 2 rfl rfl<|bo 0 1 rfl rfl<|?_
   refine Qh (Jv (i := 0) (rds := []) rfl (fun w L' S hF hS hi hp hlt ho hA => k65c hp hlt (J7 w S) hn0_2 h_t17_2) kbf rfl) rfl rfl rfl (fun ⟨p_3, p_4⟩ => ?_)
   refine ub 0 1 rfl rfl<|ub 1 2 rfl rfl<|Jd<|Jc<|?_
   try dsimp only [z1,z2,z5,z6,z7,z8]
   refine Ja<|ag (str [])<|Jd<|Jm<|?_
   obtain rfl := sj H26
   refine bo 1 2 rfl rfl<|bo 0 1 rfl rfl<|?_
   refine Jdo (v := str []) rfl rfl (Y0 (p_3, p_4) (i := 0) rfl rfl (Imp.refl _))
  ·refine Jj<|Jc<|Ja<|mv (str a1)<|mv (str a1)<|lv (Yx kcx rfl)<|?_
   obtain ⟨t21, h_t21, H28⟩ := Je H27; clear H27
   refine lv (Zs rfl rfl h_t21) ?_
   obtain ⟨t22, h_t22, H29⟩ := Je H28; clear H28
   refine lv (Up kcx rfl rfl h_t22)<|ag (str t22)<|Jd<|Jc<|Jc<|Ja<|mv (str t22)<|lv (Yx kcx rfl)<|mv (i6 0)<|Jd<|Jx<|?_
   refine Za (σ := Int × (List UInt8) × Bool × Int × Nat × Int × (List Tc) × (List (Int × Bool))) (τ := AN × Nat × Nat) (fun next1 s => Xi t22 next1 s.1 s.2.1 s.2.2.1 s.2.2.2.1 s.2.2.2.2.1 s.2.2.2.2.2.1 s.2.2.2.2.2.2.1 s.2.2.2.2.2.2.2) (fun s t => [(0, pz pb0), (1, str t22), (24, i6 (t22.length : Int)), (25, i6 s.1)]) (fun s t => [Jf pb0 [str s.2.1, .bool s.2.2.1, .slice t.1.1 t.2.1 t.1.2, .map (some t.2.2), i6 s.2.2.2.1, .func (.func 8) #[] #[x0_, x1_], i6 s.2.2.2.2.2.1] 76, J4 82 2 (.slice t.1.1 t.2.1 t.1.2) t.2.1 (s.2.2.2.2.2.2.1.map Jh), Qt i6 Value.bool t.2.2 s.2.2.2.2.2.2.2]) (fun s t => t.2.1 = s.2.2.2.2.2.2.1.length) (0, a0.s_, a0.kab, a0.kad, a0.kac, a0.no_, a0.kaa, a0.kae) (p0_2, n0_2, m0_3) [0, 1, 2] H29 (by exact hn0_2) (by exact ⟨rfl, rfl, rfl, rfl, trivial⟩) (by decide) rfl ?_
   rintro ⟨x25_2, m_6, m_7, m_8, m_9, m_10, l_2, mp_2⟩ ⟨p_5, n, b⟩ m1 gg H30 hl_2
   clear H29
   try dsimp only at H30
   generalize hn1 : it (fun next1 s => Xi t22 next1 s.1 s.2.1 s.2.2.1 s.2.2.2.1 s.2.2.2.2.1 s.2.2.2.2.2.1 s.2.2.2.2.2.2.1 s.2.2.2.2.2.2.2) m1 = next1 at H30
   try dsimp only
   refine Jc<|Ja<|lv (X3 rfl rfl)<|Jd<|Jc<|?_
   revert H30
   refine ci (decide (x25_2 < (t22.length : Int))) rfl (fun hb H31=>?_) fun hb H38=>?_
   ·refine Jj ?_
    refine Qg (r := r) (σ := (List UInt8) × Bool × Int × Nat × Int × (List Tc) × (List (Int × Bool))) (τ := AN × Nat × Nat) (fun s => Vg x25_2 next1 s.1 s.2.1 s.2.2.1 s.2.2.2.1 s.2.2.2.2.1 s.2.2.2.2.2.1 s.2.2.2.2.2.2) (fun s t => [(0, pz pb0), (1, str t22), (24, i6 (t22.length : Int)), (25, i6 x25_2)]) (fun s t => [Jf pb0 [str s.1, .bool s.2.1, .slice t.1.1 t.2.1 t.1.2, .map (some t.2.2), i6 s.2.2.1, .func (.func 8) #[] #[x0_, x1_], i6 s.2.2.2.2.1] 76, J4 82 2 (.slice t.1.1 t.2.1 t.1.2) t.2.1 (s.2.2.2.2.2.1.map Jh), Qt i6 Value.bool t.2.2 s.2.2.2.2.2.2]) (fun s t => t.2.1 = s.2.2.2.2.2.1.length) ?_ ?_
    ·refine Jx<|Jc<|Ja<|mv (i6 x25_2)<|ag (i6 x25_2)<|Jd<|Jc<|Ja<|mv (str t22)<|mv (i6 x25_2)<|?_
     obtain ⟨t30, h_t30, H34⟩ := Je H31; clear H31
     refine lv (Jc8 kcx rfl rfl h_t30)<|lv (Qj rfl rfl)<|Jd<|?_
     revert H34
     refine ci (decide (t30 = 0)) rfl (fun hb H35=>?_) fun hb H37=>?_
     ·refine Ja<|mv (pz pb0)<|?_
      obtain ⟨t33, h_t33, H36⟩ := Je H35; clear H35
      refine bo 1 2 rfl rfl<|bo 0 1 rfl rfl<|?_
      refine Qh (Jv (i := 0) (rds := []) rfl (fun w L' S hF hS hi hp hlt ho hA => k65c (a0 := (⟨m_6, m_7, l_2, mp_2, m_8, m_9, m_10⟩ : Tb)) hp hlt (J7 w S) hl_2 h_t33) kbf rfl) rfl rfl rfl (fun ⟨p_7, p_8⟩ => ?_)
      refine ub 0 1 rfl rfl<|ub 1 2 rfl rfl<|Jd<|?_
      exact cl (t33.s_, t33.kab, t33.kad, t33.kac, t33.no_, t33.kaa, t33.kae) (p_7, t33.kaa.length, p_8) 0 [0, 1, 2] (by exact ⟨H36, rfl⟩)
     ·refine Jj ?_
      exact cl (m_6, m_7, m_8, m_9, m_10, l_2, mp_2) (p_5, n, b) 0 [0, 1, 2] (by exact ⟨H37, hl_2⟩)
    ·rintro ⟨m_11, m_12, m_13, m_14, m_15, l_3, mp_3⟩ ⟨p_6, n_2, b_2⟩ gg H32 hl_3
     try dsimp only at H32
     try dsimp only
     refine Ja ?_
     obtain ⟨t34, h_t34, H33⟩ := Je H32; clear H32
     refine lv (Jy rfl rfl h_t34)<|mv (i6 t34)<|Jd<|?_
     exact cl (t34, m_11, m_12, m_13, m_14, m_15, l_3, mp_3) (p_6, n_2, b_2) m1 [0, 1, 2] (by exact ⟨(by subst hn1; exact H33), hl_3⟩)
   ·refine Xj<|Jc<|?_
    try dsimp only [z1,z2,z5,z6,z7,z8]
    refine Ja<|mv (str t22)<|ag (str t22)<|Jd<|Jm<|?_
    obtain rfl := sj H38
    refine bo 1 2 rfl rfl<|bo 0 1 rfl rfl<|?_
    refine Jdo (v := str t22) rfl rfl (Y0 (p_5, b) (i := 0) rfl (by first | rfl | rw [(show n = l_2.length from hl_2)]) (by first | exact Imp.refl _ | exact Imp.of (by rw [(show n = l_2.length from hl_2)] <;> rfl)))
theorem k95c {x0_ x1_ : Value} {a0 : Tb} {pb0 : Nat} {p0_2 : AN} {n0_2 : Nat} {m0_3 : Nat} {a1 : Int} {a2 : Int} {a3 : Int} {r : Te × Tb} {w : World} {h : J1} {S : Nat → Prop} (hcs : (Jw (Jf pb0 [str a0.s_, .bool a0.kab, sl p0_2 n0_2, .map (some m0_3), i6 a0.kad, .func (.func 8) #[] #[x0_, x1_], i6 a0.no_] 76) (Jw (J4 82 2 (sl p0_2 n0_2) n0_2 (a0.kaa.map Jh)) (Qt i6 Value.bool m0_3 a0.kae))).P S w) (hlt : ∀ b, S b → b < w.heap.size) (hw : Know h w S) (hn0_2 : n0_2 = a0.kaa.length) (H : Wl a0 a1 a2 a3 = some r) : Does prog 95 (List.toArray [pz pb0, i6 a1, i6 a2, i6 a3]) w (fun v w' => ∃ x : AN × AN × AN × AN × Nat, v = (.agg #[i6 r.1.kai, str r.1.kaj, .slice x.1.1 r.1.kak.length x.1.2, .slice x.2.1.1 r.1.kah.length x.2.1.2, .slice x.2.2.1.1 r.1.kag.length x.2.2.1.2]) ∧ Turn w w' S (Jw (Jf pb0 [str r.2.s_, .bool r.2.kab, .slice x.2.2.2.1.1 r.2.kaa.length x.2.2.2.1.2, .map (some x.2.2.2.2), i6 r.2.kad, .func (.func 8) #[] #[x0_, x1_], i6 r.2.no_] 76) (Jw (J4 82 2 (.slice x.2.2.2.1.1 r.2.kaa.length x.2.2.2.1.2) r.2.kaa.length (r.2.kaa.map Jh)) (Jw (Qt i6 Value.bool x.2.2.2.2 r.2.kae) (Jw (J4 3 1 (.slice x.1.1 r.1.kak.length x.1.2) r.1.kak.length (r.1.kak.map J8)) (Jw (J4 98 2 (.slice x.2.1.1 r.1.kah.length x.2.1.2) r.1.kah.length (r.1.kah.map Jl)) (Uj 95 6 g_tag_Entry (.slice x.2.2.1.1 r.1.kag.length x.2.2.1.2) r.1.kag.length r.1.kag))))))) := by
 refine enter (n := 131) func95 rfl rfl rfl S [Jw (Jf pb0 [str a0.s_, .bool a0.kab, sl p0_2 n0_2, .map (some m0_3), i6 a0.kad, .func (.func 8) #[] #[x0_, x1_], i6 a0.no_] 76) (Jw (J4 82 2 (sl p0_2 n0_2) n0_2 (a0.kaa.map Jh)) (Qt i6 Value.bool m0_3 a0.kae))] (Sat.one hcs hlt)<|Qd 0 rfl<|Qd 1 rfl<|X8 Q9<|Jc<|Ja<|?_
 refine Xx (cs := [i6 0, str [], z0s, z0s, z0s]) zeroValue26 rfl rfl rfl (fun b5 => ?_)
 refine Jd<|Jc<|Ja<|mv (i6 a2)<|mv (i6 a1)<|?_
 obtain ⟨t17, h_t17, H50⟩ := Je H; clear H
 refine Yq (k43 h_t17) call43 rfl rfl rfl ?_
 obtain ⟨t18, h_t18, H51⟩ := Je H50; clear H50
 refine lv (Z3 rfl rfl h_t18)<|ag (i6 t18)<|Jd<|Jc<|Ja<|mv (i6 a3)<|ag (i6 a3)<|Jd<|?_
 refine Qg (r := r) (σ := Int × (List Tc)) (τ := AN × Nat) (fun s => Ve a0 a1 a2 t18 s.1 s.2) (fun s t => [(0, pz pb0), (1, i6 a1), (2, i6 a2), (8, pz b5), (9, i6 t18), (10, i6 s.1)]) (fun s t => [Jf pb0 [str a0.s_, .bool a0.kab, .slice t.1.1 t.2 t.1.2, .map (some m0_3), i6 a0.kad, .func (.func 8) #[] #[x0_, x1_], i6 a0.no_] 76, J4 82 2 (.slice t.1.1 t.2 t.1.2) t.2 (s.2.map Jh), Qt i6 Value.bool m0_3 a0.kae, Xm Q9 Q9, Jf b5 [i6 0, str [], z0s, z0s, z0s] 26]) (fun s t => t.2 = s.2.length) ?_ ?_
 ·refine Jc<|Ja<|mv (i6 t18)<|lv (Yf rfl rfl)<|Jd<|?_
  revert H51
  refine ci (decide (4 < t18)) rfl (fun hb H90=>?_) fun hb H98=>?_
  ·refine Jc<|Ja<|mv (pz pb0)<|mv (i6 a3)<|?_
   obtain ⟨t24, h_t24, H91⟩ := Je H90; clear H90
   refine Qb (fun w hF hS => k31c (a0 := a0) (Jq w) (Xl (i := 1) hn0_2 hS rfl) (Q6 (fk := i6) (fv := Value.bool) (i := 2) hS rfl) (Ql (i := 0) hS rfl) h_t24) kbe rfl rfl rfl<|ag (i6 t24)<|Jd<|Jc<|Jc<|Ja<|mv (pz pb0)<|mv (i6 t24)<|mv (i6 t18)<|?_
   obtain ⟨t28, h_t28, H92⟩ := Je H91; clear H91
   refine Qb (fun w hF hS => k64c (a0 := a0) (Jq w) (Xl (i := 1) hn0_2 hS rfl) (Q6 (fk := i6) (fv := Value.bool) (i := 2) hS rfl) (Ql (i := 0) hS rfl) h_t28) call64 rfl rfl rfl<|lv (Ja6 rfl)<|Jd<|?_
   revert H92
   refine ci (!t28) rfl (fun hb H93=>?_) fun hb H95=>?_
   ·refine Jc<|Ja<|mv (pz pb0)<|?_
    obtain ⟨t31, h_t31, H94⟩ := Je H93; clear H93
    refine bo 1 2 rfl rfl<|bo 0 1 rfl rfl<|?_
    refine Qh (Jv (i := 0) (rds := []) rfl (fun w L' S hF hS hi hp hlt ho hA => k65c hp hlt (J7 w S) hn0_2 h_t31) kbf rfl) rfl rfl rfl (fun ⟨p_11, p_12⟩ => ?_)
    refine ub 0 1 rfl rfl<|ub 1 2 rfl rfl<|Jd<|Jc<|?_
    try dsimp only [z1,z2,z5,z6,z7,z8]
    refine Ja<|lv (Xf (pl := #[(0, 1), (1, 1), (2, 1), (3, 1), (4, 1)]) (ps := []) (cells := #[i6 0, str [], z0s, z0s, z0s]) zeroValue26 Tryz.runUnderlying26 (fun w => by kernel_rfl) rfl rfl)<|st (i := 4) [i6 0, str [], z0s, z0s, z0s] [i6 0, str [], z0s, z0s, z0s] kce rfl rfl<|Jd<|Jm<|?_
    try dsimp only [z1, z2, z3, z4, z5, z6, z7, z8]
    refine Jp 3 1<|Jp 98 2<|Jp 95 6<|?_
    try dsimp only [z1,z2,z5,z6,z7,z8]
    obtain rfl := sj H94
    refine bo 3 7 rfl rfl<|Xv 3 rfl (Q7 (p := nn) rfl (AllC.nil (G := g_tag_Entry) (h := Q9) (sz := 6)))<|bo 6 3 rfl rfl<|bo 5 6 rfl rfl<|bo 2 5 rfl rfl<|bo 1 2 rfl rfl<|bo 0 1 rfl rfl<|?_
    refine retC (i := 4) (vs := [i6 0, str [], sl nn ([] : List Int).length, sl nn ([] : List Tg).length, sl nn (([] : List (List Value)).length)]) kbi kce rfl rfl rfl rfl (Y0 (nn, nn, nn, p_11, p_12) (i := 0) rfl (by first | rfl | rw [(show (([] : List (List Value)).length) = ([] : List Ta).length from (AllC.nil (G := g_tag_Entry) (h := Q9) (sz := 6)).len)]) (by first | exact Imp.refl _ | exact Imp.of (by rw [(show (([] : List (List Value)).length) = ([] : List Ta).length from (AllC.nil (G := g_tag_Entry) (h := Q9) (sz := 6)).len)] <;> rfl)))
   ·refine Jj ?_
    try dsimp only [z1,z2,z5,z6,z7,z8]
    refine Ja<|mv (pz pb0)<|mv (pz pb0)<|lv (Jg rfl)<|lf Tryz.runUnderlying76 rfl kcj rfl<|ll 0 (sl p0_2 n0_2) kbn<|mv (i6 t24)<|mv (i6 t24)<|mv (i6 t18)<|?_
    obtain ⟨t41, h_t41, H96⟩ := Je H95; clear H95
    refine lv (Jy rfl rfl h_t41)<|lv (Xf (pl := #[(0, 1), (1, 1)]) (ps := [(0, i6 t24), (1, i6 t41)]) (cells := #[i6 t24, i6 t41]) zeroValue82 Tryz.runUnderlying82 (fun w => by kernel_rfl) rfl rfl)<|?_
    refine Q5 (vs := [.agg #[i6 t24, i6 t41]]) (cs := [i6 t24, i6 t41]) kcv kcm zeroValue82 rfl rfl rfl rfl rfl rfl rfl (fun b9 => ?_)
    obtain ⟨l44, h_l44, H97⟩ := Je H96; clear H96
    refine Qh (Yg (i := 1) (hn := hn0_2) (rds := [5]) (p := p0_2) (sz := 2) (by_ := 16) (f := Jh) (ys := a0.kaa) (ls := ([(⟨t24, t41⟩ : Tc)] : List Tc)) (V := .slice (some ⟨b9, 0, none⟩) 1 1) kcv (X0 typeInfo82) rfl rfl rfl rfl rfl rfl rfl rfl rfl rfl (fun w L' hF hS hi => Wy (i := 5) hS ((hi 5 (by simp)).trans rfl) rfl rfl) (fun _ => rfl) (fun _ => rfl) h_l44) rfl rfl rfl (fun p_13 => ?_)
    refine lv (Jg rfl)<|lf Tryz.runUnderlying76 rfl kcj rfl<|st (i := 0) [sl p_13 l44.length] [str a0.s_, .bool a0.kab, sl p_13 l44.length, .map (some m0_3), i6 a0.kad, .func (.func 8) #[] #[x0_, x1_], i6 a0.no_] kcj rfl rfl<|Jd<|?_
    exact cl (t24, l44) (p_13, l44.length) 0 [0, 1, 2, 3, 4] (by exact ⟨H97, rfl⟩)
  ·refine Jj ?_
   exact cl (a3, a0.kaa) (p0_2, n0_2) 0 [0, 1, 2, 3, 4] (by exact ⟨H98, hn0_2⟩)
 ·rintro ⟨x10, l⟩ ⟨p, n⟩ gg H52 hl
  try dsimp only at H52
  try dsimp only
  refine Jc<|Ja<|mv (i6 a1)<|lv (Xf (pl := #[(0, 1), (1, 1), (2, 1), (3, 1), (4, 1)]) (ps := [(0, i6 a1)]) (cells := #[i6 a1, str [], z0s, z0s, z0s]) zeroValue26 Tryz.runUnderlying26 (fun w => by kernel_rfl) rfl rfl)<|?_
  refine Xx (cs := [i6 0, str [], z0s, z0s, z0s]) zeroValue26 rfl rfl rfl (fun b6 => ?_)
  refine st (i := 5) [i6 a1, str [], z0s, z0s, z0s] [i6 a1, str [], z0s, z0s, z0s] kce rfl rfl<|Jd<|?_
  refine Qg (r := r) (σ := (List UInt8) × Bool × Int × Nat × Int × (List Tc) × (List (Int × Bool)) × (List UInt8) × (List Int) × (List Tg)) (τ := AN × Nat × Nat × AN × AN) (fun s => Vb a1 s.1 s.2.1 s.2.2.1 s.2.2.2.1 s.2.2.2.2.1 s.2.2.2.2.2.1 s.2.2.2.2.2.2.1 s.2.2.2.2.2.2.2.1 s.2.2.2.2.2.2.2.2.1 s.2.2.2.2.2.2.2.2.2) (fun s t => [(8, pz b5), (11, pz b6)]) (fun s t => [Jf pb0 [str s.1, .bool s.2.1, .slice t.1.1 t.2.1 t.1.2, .map (some t.2.2.1), i6 s.2.2.1, .func (.func 8) #[] #[x0_, x1_], i6 s.2.2.2.2.1] 76, J4 82 2 (.slice t.1.1 t.2.1 t.1.2) t.2.1 (s.2.2.2.2.2.1.map Jh), Qt i6 Value.bool t.2.2.1 s.2.2.2.2.2.2.1, Xm Q9 Q9, Jf b5 [i6 0, str [], z0s, z0s, z0s] 26, Jf b6 [i6 a1, str s.2.2.2.2.2.2.2.1, .slice t.2.2.2.1.1 s.2.2.2.2.2.2.2.2.1.length t.2.2.2.1.2, .slice t.2.2.2.2.1 s.2.2.2.2.2.2.2.2.2.length t.2.2.2.2.2, z0s] 26, J4 3 1 (.slice t.2.2.2.1.1 s.2.2.2.2.2.2.2.2.1.length t.2.2.2.1.2) s.2.2.2.2.2.2.2.2.1.length (s.2.2.2.2.2.2.2.2.1.map J8), J4 98 2 (.slice t.2.2.2.2.1 s.2.2.2.2.2.2.2.2.2.length t.2.2.2.2.2) s.2.2.2.2.2.2.2.2.2.length (s.2.2.2.2.2.2.2.2.2.map Jl)]) (fun s t => t.2.1 = s.2.2.2.2.2.1.length) ?_ ?_
  ·refine Jx<|Jc<|?_
   try dsimp only [z1,z2,z5,z6,z7,z8]
   refine Ja<|mv (i6 a1)<|lv (Qj rfl rfl)<|ag (.bool (decide (a1 = 2)))<|Jd<|?_
   revert H52
   refine ci (decide (a1 = 2)) rfl (fun hb H54=>?_) fun hb H58=>?_
   ·refine Ja<|mv (pz pb0)<|mv (pz pb0)<|lv (Jg rfl)<|lf Tryz.runUnderlying76 rfl kcn rfl<|ll 0 (str a0.s_) kbp<|mv (i6 x10)<|mv (i6 x10)<|mv (i6 t18)<|?_
    obtain ⟨t86, h_t86, H55⟩ := Je H54; clear H54
    refine lv (Jy rfl rfl h_t86) ?_
    obtain ⟨t87, h_t87, H56⟩ := Je H55; clear H55
    refine lv (Jep kcx rfl rfl rfl h_t87) ?_
    obtain ⟨t88, h_t88, H57⟩ := Je H56; clear H56
    refine bo 1 2 rfl rfl<|bo 0 1 rfl rfl<|?_
    refine Qh (Jv (i := 0) (rds := []) rfl (fun w L' S hF hS hi hp hlt ho hA => k112c (a0 := (⟨a0.s_, a0.kab, l, a0.kae, a0.kad, a0.kac, a0.no_⟩ : Tb)) hp hlt (J7 w S) hl h_t88) call112 rfl) rfl rfl rfl (fun ⟨p_5, p_6⟩ => ?_)
    refine ub 0 1 rfl rfl<|ub 1 2 rfl rfl<|lf Tryz.runUnderlying26 rfl kcn rfl<|st (i := 5) [str t88.1] [i6 a1, str t88.1, z0s, z0s, z0s] kcn rfl rfl<|Jd<|Jp 3 1<|Jp 98 2<|?_
    exact cl (t88.2.s_, t88.2.kab, t88.2.kad, t88.2.kac, t88.2.no_, t88.2.kaa, t88.2.kae, t88.1, ([] : List Int), ([] : List Tg)) (p_5, t88.2.kaa.length, p_6, nn, nn) 0 [0, 1, 2, 3, 4, 5, 6, 7] (by exact ⟨H57, rfl⟩)
   ·refine Jc ?_
    try dsimp only [z1,z2,z5,z6,z7,z8]
    refine Ja<|mv (i6 a1)<|lv (Qj rfl rfl)<|ag (.bool (decide (a1 = 7)))<|Jd<|?_
    revert H58
    refine ci (decide (a1 = 7)) rfl (fun hb H59=>?_) fun hb H62=>?_
    ·refine Ja<|mv (pz pb0)<|lv (Jg rfl)<|lf Tryz.runUnderlying76 rfl kcn rfl<|ll 0 (str a0.s_) kbp<|mv (i6 x10)<|mv (i6 x10)<|mv (i6 t18)<|?_
     obtain ⟨t100, h_t100, H60⟩ := Je H59; clear H59
     refine lv (Jy rfl rfl h_t100) ?_
     obtain ⟨t101, h_t101, H61⟩ := Je H60; clear H60
     refine lv (Jep kcx rfl rfl rfl h_t101)<|lf Tryz.runUnderlying26 rfl kcn rfl<|st (i := 5) [str t101] [i6 a1, str t101, z0s, z0s, z0s] kcn rfl rfl<|Jd<|Jp 3 1<|Jp 98 2<|?_
     exact cl (a0.s_, a0.kab, a0.kad, a0.kac, a0.no_, l, a0.kae, t101, ([] : List Int), ([] : List Tg)) (p, n, m0_3, nn, nn) 0 [0, 1, 2, 3, 4, 5, 6, 7] (by exact ⟨H61, hl⟩)
    ·refine Jc<|Ja<|mv (i6 a1)<|lv (Qj rfl rfl)<|ag (.bool (decide (a1 = 5)))<|Jd<|?_
     revert H62
     refine ci (decide (a1 = 5)) rfl (fun hb H63=>?_) fun hb H76=>?_
     ·refine Jc<|Ja<|mv (i6 a2)<|mv (i6 0)<|Jd<|Jx<|Jp 98 2<|?_
      refine Za (σ := Int × (List Tg)) (τ := AN) (fun next3 s => X5 a0 a1 a2 x10 l next3 s.1 s.2) (fun s t => [(0, pz pb0), (8, pz b5), (10, i6 x10), (11, pz b6), (106, i6 a2), (107, i6 s.1)]) (fun s t => [Jf pb0 [str a0.s_, .bool a0.kab, sl p n, .map (some m0_3), i6 a0.kad, .func (.func 8) #[] #[x0_, x1_], i6 a0.no_] 76, J4 82 2 (sl p n) n (l.map Jh), Qt i6 Value.bool m0_3 a0.kae, Xm Q9 Q9, Jf b5 [i6 0, str [], z0s, z0s, z0s] 26, Jf b6 [i6 a1, str [], z0s, sl t s.2.length, z0s] 26, J4 98 2 (sl t s.2.length) s.2.length (s.2.map Jl)]) (fun s t => True) (0, ([] : List Tg)) nn [0, 1, 2, 3, 4, 5, 6] H63 (by exact trivial) (by exact ⟨rfl, rfl, rfl, rfl, rfl, rfl, trivial⟩) (by decide) rfl ?_
      rintro ⟨x107_2, l_6⟩ p_7 m3 gg H64 _
      clear H63
      try dsimp only at H64
      generalize hn3 : it (fun next3 s => X5 a0 a1 a2 x10 l next3 s.1 s.2) m3 = next3 at H64
      try dsimp only
      refine Jc<|Ja<|lv (X3 rfl rfl)<|Jd<|Jc<|?_
      revert H64
      refine ci (decide (x107_2 < a2)) rfl (fun hb H65=>?_) fun hb H75=>?_
      ·refine Jj<|Jc<|Jx<|Jc<|Ja<|mv (i6 x107_2)<|ag (i6 x107_2)<|Jd<|?_
       exact Qk (Kd.p :: Kd.d [5] _ :: Kd.p :: Kd.p :: Kd.p :: Kd.p :: Kd.p :: Kd.d [3, 0, 1, 2] _ :: Kd.p :: Kd.p :: Kd.p :: Kd.p :: Kd.p :: Kd.p :: Kd.d [3, 0, 1, 2] _ :: Kd.p :: Kd.ns 7 [_, _] 98 1 :: Kd.t 6 [7] _ _ :: Kd.p :: Kd.sv 128 127 5 _ 26 :: []) 1 mixed (by
        refine dv (J2 Tryz.runUnderlying26 rfl kcc rfl rfl)<|dl (sl p_7 l_6.length) isAgg23<|dm (pz pb0)<|dm (i6 x10)<|dm (i6 x107_2)<|?_
        have h_t115 := Jt H65
        have H66 := Jn H65
        refine dv (Z3 rfl rfl h_t115) ?_
        have h_t116 := Jt H66
        have H67 := Jn H66
        refine dv (Jy rfl rfl h_t116) ?_
        have h_t117 := Jt H67
        have H68 := Jn H67
        refine Jar (fun w L' hF hS hi => k31c (a0 := (⟨a0.s_, a0.kab, l, a0.kae, a0.kad, a0.kac, a0.no_⟩ : Tb)) (Jq w) (Xl (i := 1) hl hS ((hi 1 (by simp)).trans rfl)) (Q6 (fk := i6) (fv := Value.bool) (i := 2) hS ((hi 2 (by simp)).trans rfl)) (Ql (i := 0) hS ((hi 0 (by simp)).trans rfl)) h_t117) kbe rfl rfl<|dm (pz pb0)<|dm (i6 x10)<|dm (i6 x107_2)<|?_
        have h_t121 := Jt H68
        have H69 := Jn H68
        refine dv (Z3 rfl rfl h_t121) ?_
        have h_t122 := Jt H69
        have H70 := Jn H69
        refine dv (Jy rfl rfl h_t122) ?_
        have h_t123 := Jt H70
        have H71 := Jn H70
        refine dv (Jy rfl rfl h_t123) ?_
        have h_t124 := Jt H71
        have H72 := Jn H71
        refine Jar (fun w L' hF hS hi => k31c (a0 := (⟨a0.s_, a0.kab, l, a0.kae, a0.kad, a0.kac, a0.no_⟩ : Tb)) (Jq w) (Xl (i := 1) hl hS ((hi 1 (by simp)).trans rfl)) (Q6 (fk := i6) (fv := Value.bool) (i := 2) hS ((hi 2 (by simp)).trans rfl)) (Ql (i := 0) hS ((hi 0 (by simp)).trans rfl)) h_t124) kbe rfl rfl<|dv (Xf (pl := #[(0, 1), (1, 1)]) (ps := [(0, i6 (val (Ji (⟨a0.s_, a0.kab, l, a0.kae, a0.kad, a0.kac, a0.no_⟩ : Tb) (val (gI (x10 + (val (gI (8 * x107_2)))))) 4))), (1, i6 (val (Ji (⟨a0.s_, a0.kab, l, a0.kae, a0.kad, a0.kac, a0.no_⟩ : Tb) (val (gI ((val (gI (x10 + (val (gI (8 * x107_2)))))) + 4))) 4)))]) (cells := #[i6 (val (Ji (⟨a0.s_, a0.kab, l, a0.kae, a0.kad, a0.kac, a0.no_⟩ : Tb) (val (gI (x10 + (val (gI (8 * x107_2)))))) 4)), i6 (val (Ji (⟨a0.s_, a0.kab, l, a0.kae, a0.kad, a0.kac, a0.no_⟩ : Tb) (val (gI ((val (gI (x10 + (val (gI (8 * x107_2)))))) + 4))) 4))]) zeroValue98 Tryz.runUnderlying98 (fun w => by kernel_rfl) rfl rfl)<|?_
        refine d_newS rfl rfl (Jbx (vs := [.agg #[i6 (val (Ji (⟨a0.s_, a0.kab, l, a0.kae, a0.kad, a0.kac, a0.no_⟩ : Tb) (val (gI (x10 + (val (gI (8 * x107_2)))))) 4)), i6 (val (Ji (⟨a0.s_, a0.kab, l, a0.kae, a0.kad, a0.kac, a0.no_⟩ : Tb) (val (gI ((val (gI (x10 + (val (gI (8 * x107_2)))))) + 4))) 4))]]) (cs := [i6 (val (Ji (⟨a0.s_, a0.kab, l, a0.kae, a0.kad, a0.kac, a0.no_⟩ : Tb) (val (gI (x10 + (val (gI (8 * x107_2)))))) 4)), i6 (val (Ji (⟨a0.s_, a0.kab, l, a0.kae, a0.kad, a0.kac, a0.no_⟩ : Tb) (val (gI ((val (gI (x10 + (val (gI (8 * x107_2)))))) + 4))) 4))]) kcs kcp zeroValue98 rfl rfl rfl rfl rfl) rfl (fun b7 => ?_)
        have h_l127 := Jt H72
        have H73 := Jn H72
        refine Jct (Cv := fun v => J4 98 2 v (val (Wb 16 l_6 ([(⟨(val (Ji (⟨a0.s_, a0.kab, l, a0.kae, a0.kad, a0.kac, a0.no_⟩ : Tb) (val (gI (x10 + (val (gI (8 * x107_2)))))) 4)), (val (Ji (⟨a0.s_, a0.kab, l, a0.kae, a0.kad, a0.kac, a0.no_⟩ : Tb) (val (gI ((val (gI (x10 + (val (gI (8 * x107_2)))))) + 4))) 4))⟩ : Tg)] : List Tg))).length ((val (Wb 16 l_6 ([(⟨(val (Ji (⟨a0.s_, a0.kab, l, a0.kae, a0.kad, a0.kac, a0.no_⟩ : Tb) (val (gI (x10 + (val (gI (8 * x107_2)))))) 4)), (val (Ji (⟨a0.s_, a0.kab, l, a0.kae, a0.kad, a0.kac, a0.no_⟩ : Tb) (val (gI ((val (gI (x10 + (val (gI (8 * x107_2)))))) + 4))) 4))⟩ : Tg)] : List Tg))).map Jl)) (none, 0) (Yg (i := 6) (hn := rfl) (rds := [7]) (p := p_7) (sz := 2) (by_ := 16) (f := Jl) (ys := l_6) (ls := ([(⟨(val (Ji (⟨a0.s_, a0.kab, l, a0.kae, a0.kad, a0.kac, a0.no_⟩ : Tb) (val (gI (x10 + (val (gI (8 * x107_2)))))) 4)), (val (Ji (⟨a0.s_, a0.kab, l, a0.kae, a0.kad, a0.kac, a0.no_⟩ : Tb) (val (gI ((val (gI (x10 + (val (gI (8 * x107_2)))))) + 4))) 4))⟩ : Tg)] : List Tg)) (V := .slice (some ⟨b7, 0, none⟩) 1 1) kcs (X0 typeInfo98) rfl rfl rfl rfl rfl rfl rfl rfl rfl rfl (fun w L' hF hS hi => Wy (i := 7) hS ((hi 7 (by simp)).trans rfl) rfl rfl) (fun _ => rfl) (fun _ => rfl) h_l127) (fun _ => rfl) rfl rfl (fun p_8 => ?_)
        refine dv (J2 Tryz.runUnderlying26 rfl kcc rfl rfl)<|Jdf (i := 5) (vs := [.slice p_8.1 (val (Wb 16 l_6 ([(⟨(val (Ji (⟨a0.s_, a0.kab, l, a0.kae, a0.kad, a0.kac, a0.no_⟩ : Tb) (val (gI (x10 + (val (gI (8 * x107_2)))))) 4)), (val (Ji (⟨a0.s_, a0.kab, l, a0.kae, a0.kad, a0.kac, a0.no_⟩ : Tb) (val (gI ((val (gI (x10 + (val (gI (8 * x107_2)))))) + 4))) 4))⟩ : Tg)] : List Tg))).length p_8.2]) (cs' := fun v_ => [i6 a1, str [], z0s, v_, z0s]) kcc rfl rfl rfl rfl rfl rfl rfl rfl rfl<|Xr<|Ja<|?_
        obtain ⟨t129, h_t129, H74⟩ := Je H73; clear H73
        refine lv (Jy rfl rfl h_t129)<|mv (i6 t129)<|Jd<|?_
        exact cl (t129, (val (Wb 16 l_6 ([(⟨(val (Ji (⟨a0.s_, a0.kab, l, a0.kae, a0.kad, a0.kac, a0.no_⟩ : Tb) (val (gI (x10 + (val (gI (8 * x107_2)))))) 4)), (val (Ji (⟨a0.s_, a0.kab, l, a0.kae, a0.kad, a0.kac, a0.no_⟩ : Tb) (val (gI ((val (gI (x10 + (val (gI (8 * x107_2)))))) + 4))) 4))⟩ : Tg)] : List Tg)))) p_8 m3 [0, 1, 2, 3, 4, 5, 6] (by exact ⟨(by subst hn3; exact H74), trivial⟩)
        ) (by kernel_rfl)
      ·refine Xj<|Jp 3 1<|?_
       exact cl (a0.s_, a0.kab, a0.kad, a0.kac, a0.no_, l, a0.kae, [], ([] : List Int), l_6) (p, n, m0_3, nn, p_7) 0 [0, 1, 2, 3, 4, 5, 7, 6] (by exact ⟨H75, hl⟩)
     ·refine Jc<|Ja<|mv (i6 a2)<|mv (i6 0)<|Jd<|Jx<|Jp 3 1<|?_
      refine Za (σ := Int × (List Int)) (τ := AN) (fun next4 s => X6 a0 a1 a2 x10 l next4 s.1 s.2) (fun s t => [(0, pz pb0), (1, i6 a1), (8, pz b5), (10, i6 x10), (11, pz b6), (49, i6 a2), (50, i6 s.1)]) (fun s t => [Jf pb0 [str a0.s_, .bool a0.kab, sl p n, .map (some m0_3), i6 a0.kad, .func (.func 8) #[] #[x0_, x1_], i6 a0.no_] 76, J4 82 2 (sl p n) n (l.map Jh), Qt i6 Value.bool m0_3 a0.kae, Xm Q9 Q9, Jf b5 [i6 0, str [], z0s, z0s, z0s] 26, Jf b6 [i6 a1, str [], sl t s.2.length, z0s, z0s] 26, J4 3 1 (sl t s.2.length) s.2.length (s.2.map J8)]) (fun s t => True) (0, ([] : List Int)) nn [0, 1, 2, 3, 4, 5, 6] H76 (by exact trivial) (by exact ⟨rfl, rfl, rfl, rfl, rfl, rfl, rfl, trivial⟩) (by decide) rfl ?_
      rintro ⟨x50_2, l_8⟩ p_9 m4 gg H77 _
      clear H76
      try dsimp only at H77
      generalize hn4 : it (fun next4 s => X6 a0 a1 a2 x10 l next4 s.1 s.2) m4 = next4 at H77
      try dsimp only
      refine Jc ?_
      try dsimp only [z1,z2,z5,z6,z7,z8]
      refine Ja<|lv (X3 rfl rfl)<|Jd<|Jc<|?_
      revert H77
      refine ci (decide (x50_2 < a2)) rfl (fun hb H78=>?_) fun hb H89=>?_
      ·refine Jj<|Jc<|Jx<|Jc<|Ja<|mv (i6 x50_2)<|ag (i6 x50_2)<|Jd<|Jc<|Ja<|mv (pz pb0)<|mv (i6 x10)<|mv (i6 x50_2)<|mv (i6 a1)<|?_
       obtain ⟨t57, h_t57, H79⟩ := Je H78; clear H78
       refine Yq (k43 h_t57) call43 rfl rfl rfl ?_
       obtain ⟨t58, h_t58, H80⟩ := Je H79; clear H79
       refine lv (Z3 rfl rfl h_t58) ?_
       obtain ⟨t59, h_t59, H81⟩ := Je H80; clear H80
       refine lv (Jy rfl rfl h_t59)<|mv (i6 a1)<|?_
       obtain ⟨t61, h_t61, H82⟩ := Je H81; clear H81
       refine Yq (k43 h_t61) call43 rfl rfl rfl ?_
       obtain ⟨t62, h_t62, H83⟩ := Je H82; clear H82
       refine Qb (fun w hF hS => k31c (a0 := (⟨a0.s_, a0.kab, l, a0.kae, a0.kad, a0.kac, a0.no_⟩ : Tb)) (Jq w) (Xl (i := 1) hl hS rfl) (Q6 (fk := i6) (fv := Value.bool) (i := 2) hS rfl) (Ql (i := 0) hS rfl) h_t62) kbe rfl rfl rfl<|ag (i6 t62)<|Jd<|?_
       refine Qg (r := r) (σ := Int) (τ := Unit) (fun s => Vi x50_2 l_8 next4 s) (fun s t => [(0, pz pb0), (1, i6 a1), (8, pz b5), (10, i6 x10), (11, pz b6), (14, i6 s), (49, i6 a2), (50, i6 x50_2)]) (fun s t => [Jf pb0 [str a0.s_, .bool a0.kab, sl p n, .map (some m0_3), i6 a0.kad, .func (.func 8) #[] #[x0_, x1_], i6 a0.no_] 76, J4 82 2 (sl p n) n (l.map Jh), Qt i6 Value.bool m0_3 a0.kae, Xm Q9 Q9, Jf b5 [i6 0, str [], z0s, z0s, z0s] 26, Jf b6 [i6 a1, str [], sl p_9 l_8.length, z0s, z0s] 26, J4 3 1 (sl p_9 l_8.length) l_8.length (l_8.map J8)]) (fun s t => True) ?_ ?_
       ·refine Jc<|Ja<|mv (i6 a1)<|lv (Qj rfl rfl)<|Jd<|?_
        revert H83
        refine ci (decide (a1 = 9)) rfl (fun hb H87=>?_) fun hb H88=>?_
        ·refine Ja<|mv (i6 t62)<|lv (Jcf Tryz.runUnderlying3 runUnderlying21 rfl (wr_i32 _))<|lv (Jcf runUnderlying21 Tryz.runUnderlying3 rfl (Jh0 _))<|ag (i6 (Jap (wI32 t62)))<|Jd<|?_
         exact cl (Jap (wI32 t62)) () 0 [0, 1, 2, 3, 4, 5, 6] (by exact ⟨H87, trivial⟩)
        ·refine Jj ?_
         exact cl t62 () 0 [0, 1, 2, 3, 4, 5, 6] (by exact ⟨H88, trivial⟩)
       ·rintro x14 _ gg H84 _
        try dsimp only at H84
        try dsimp only
        refine Ja<|lf Tryz.runUnderlying26 rfl kcb rfl<|ll 5 (sl p_9 l_8.length) kbg<|mv (i6 x14)<|?_
        refine Q5 (vs := [i6 x14]) (cs := [i6 x14]) kcr kcg zeroValue3 rfl rfl rfl rfl rfl rfl rfl (fun b8 => ?_)
        obtain ⟨l72, h_l72, H85⟩ := Je H84; clear H84
        refine Qh (Yg (i := 6) (hn := rfl) (rds := [7]) (p := p_9) (sz := 1) (by_ := 8) (f := J8) (ys := l_8) (ls := ([x14] : List Int)) (V := .slice (some ⟨b8, 0, none⟩) 1 1) kcr (X0 typeInfo3) rfl rfl rfl rfl rfl rfl rfl rfl rfl rfl (fun w L' hF hS hi => Wy (i := 7) hS ((hi 7 (by simp)).trans rfl) rfl rfl) (fun _ => rfl) (fun _ => rfl) h_l72) rfl rfl rfl (fun p_10 => ?_)
        refine lf Tryz.runUnderlying26 rfl kcb rfl<|st (i := 5) [sl p_10 l72.length] [i6 a1, str [], sl p_10 l72.length, z0s, z0s] kcb rfl rfl<|Jd<|Ja<|?_
        obtain ⟨t74, h_t74, H86⟩ := Je H85; clear H85
        refine lv (Jy rfl rfl h_t74)<|mv (i6 t74)<|Jd<|?_
        exact cl (t74, l72) p_10 m4 [0, 1, 2, 3, 4, 5, 6] (by exact ⟨(by subst hn4; exact H86), trivial⟩)
      ·refine Xj<|Jp 98 2<|?_
       exact cl (a0.s_, a0.kab, a0.kad, a0.kac, a0.no_, l, a0.kae, [], l_8, ([] : List Tg)) (p, n, m0_3, p_9, nn) 0 [0, 1, 2, 3, 4, 5, 6, 7] (by exact ⟨H89, hl⟩)
  ·rintro ⟨m, m_2, m_3, m_4, m_5, l_2, mp, m_6, l_3, l_4⟩ ⟨p_2, n_2, b, p_3, p_4⟩ gg H53 hl_2
   try dsimp only at H53
   try dsimp only
   refine Jc ?_
   try dsimp only [z1,z2,z5,z6,z7,z8]
   refine Ja<|Xb (i := 5) (vs := [i6 a1, str m_6, sl p_3 l_3.length, sl p_4 l_4.length, z0s]) kbi kce rfl rfl rfl rfl rfl<|st (i := 4) [i6 a1, str m_6, sl p_3 l_3.length, sl p_4 l_4.length, z0s] [i6 a1, str m_6, sl p_3 l_3.length, sl p_4 l_4.length, z0s] kce rfl rfl<|Jd<|Jm<|Jcv 5<|?_
   try dsimp only [z1, z2, z3, z4, z5, z6, z7, z8]
   refine Jp 95 6 ?_
   obtain rfl := sj H53
   refine bo 3 7 rfl rfl<|Xv 3 rfl (Q7 (p := nn) rfl (AllC.nil (G := g_tag_Entry) (h := Q9) (sz := 6)))<|bo 6 3 rfl rfl<|bo 5 6 rfl rfl<|bo 2 5 rfl rfl<|bo 1 2 rfl rfl<|bo 0 1 rfl rfl<|?_
   refine retC (i := 4) (vs := [i6 a1, str m_6, sl p_3 l_3.length, sl p_4 l_4.length, sl nn (([] : List (List Value)).length)]) kbi kce rfl rfl rfl rfl (Y0 (p_3, p_4, nn, p_2, b) (i := 0) rfl (by first | rfl | rw [(show (([] : List (List Value)).length) = ([] : List Ta).length from (AllC.nil (G := g_tag_Entry) (h := Q9) (sz := 6)).len), (show n_2 = l_2.length from hl_2)]) (by first | exact Imp.refl _ | exact Imp.of (by rw [(show (([] : List (List Value)).length) = ([] : List Ta).length from (AllC.nil (G := g_tag_Entry) (h := Q9) (sz := 6)).len), (show n_2 = l_2.length from hl_2)] <;> rfl)))
theorem k66c_b {self : ((List Int) × Int × Tb × Int × (List Int)) → Option ((List Ta) × Int × Int × Tb)} (ih : ∀ {q0 : (List Int)} {vq0 : Value} {c0 : Nat} {q1 : Int} {pbq1 : Nat} {a0 : Tb} {pb0 : Nat} {p0_2 : AN} {n0_2 : Nat} {m0_3 : Nat} {a1 : Int} {a2 : (List Int)} {v2 : Value} {r : (List Ta) × Int × Int × Tb} {w : World} {h : J1} {S : Nat → Prop} (hcs : (Jw (Jf pbq1 [i6 q1] 3) (Jw (Jf pb0 [str a0.s_, .bool a0.kab, sl p0_2 n0_2, .map (some m0_3), i6 a0.kad, .func (.func 8) #[] #[pz c0, pz pbq1], i6 a0.no_] 76) (Jw (J4 82 2 (sl p0_2 n0_2) n0_2 (a0.kaa.map Jh)) (Qt i6 Value.bool m0_3 a0.kae)))).P S w) (hlt : ∀ b, S b → b < w.heap.size) (hw : Know h w S) (fq0 : FrS h 1 vq0 (q0.map J8)) (hc0 : h c0 = some (.cells (List.toArray [vq0]) 22 (0, 0))) (hn0_2 : n0_2 = a0.kaa.length) (f2 : FrS h 1 v2 (a2.map J8)) (_ : self (q0, q1, a0, a1, a2) = some r), Does prog 32 (List.toArray [pz pb0, i6 a1, v2]) w (fun v w' => ∃ x : AN × AN × Nat, v = (.tuple #[.slice x.1.1 r.1.length x.1.2, i6 r.2.1]) ∧ Turn w w' S (Jw (Jf pbq1 [i6 r.2.2.1] 3) (Jw (Jf pb0 [str r.2.2.2.s_, .bool r.2.2.2.kab, .slice x.2.1.1 r.2.2.2.kaa.length x.2.1.2, .map (some x.2.2), i6 r.2.2.2.kad, .func (.func 8) #[] #[pz c0, pz pbq1], i6 r.2.2.2.no_] 76) (Jw (J4 82 2 (.slice x.2.1.1 r.2.2.2.kaa.length x.2.1.2) r.2.2.2.kaa.length (r.2.2.2.kaa.map Jh)) (Jw (Qt i6 Value.bool x.2.2 r.2.2.2.kae) (Uj 95 6 g_tag_Entry (.slice x.1.1 r.1.length x.1.2) r.1.length r.1))))))) {q0 : (List Int)} {vq0 : Value} {c0 : Nat} {q1 : Int} {pbq1 : Nat} {a0 : Tb} {pb0 : Nat} {p0_2 : AN} {n0_2 : Nat} {m0_3 : Nat} {a1 : Int} {a2 : (List Int)} {v2 : Value} {r : Ta × Int × Tb} {w : World} {h : J1} {S : Nat → Prop} (hcs : (Jw (Jf pbq1 [i6 q1] 3) (Jw (Jf pb0 [str a0.s_, .bool a0.kab, sl p0_2 n0_2, .map (some m0_3), i6 a0.kad, .func (.func 8) #[] #[pz c0, pz pbq1], i6 a0.no_] 76) (Jw (J4 82 2 (sl p0_2 n0_2) n0_2 (a0.kaa.map Jh)) (Qt i6 Value.bool m0_3 a0.kae)))).P S w) (hlt : ∀ b, S b → b < w.heap.size) (hw : Know h w S) (fq0 : FrS h 1 vq0 (q0.map J8)) (hc0 : h c0 = some (.cells (List.toArray [vq0]) 22 (0, 0))) (hn0_2 : n0_2 = a0.kaa.length) (f2 : FrS h 1 v2 (a2.map J8)) (H : Xk self q0 q1 a0 a1 a2 = some r) : Does prog 66 (List.toArray [pz pb0, i6 a1, v2]) w (fun v w' => ∃ x : AN × AN × AN × AN × Nat, v = (.agg #[i6 r.1.Tag, i6 r.1.Value.kai, str r.1.Value.kaj, .slice x.1.1 r.1.Value.kak.length x.1.2, .slice x.2.1.1 r.1.Value.kah.length x.2.1.2, .slice x.2.2.1.1 r.1.Value.kag.length x.2.2.1.2]) ∧ Turn w w' S (Jw (Jf pbq1 [i6 r.2.1] 3) (Jw (Jf pb0 [str r.2.2.s_, .bool r.2.2.kab, .slice x.2.2.2.1.1 r.2.2.kaa.length x.2.2.2.1.2, .map (some x.2.2.2.2), i6 r.2.2.kad, .func (.func 8) #[] #[pz c0, pz pbq1], i6 r.2.2.no_] 76) (Jw (J4 82 2 (.slice x.2.2.2.1.1 r.2.2.kaa.length x.2.2.2.1.2) r.2.2.kaa.length (r.2.2.kaa.map Jh)) (Jw (Qt i6 Value.bool x.2.2.2.2 r.2.2.kae) (Jw (J4 3 1 (.slice x.1.1 r.1.Value.kak.length x.1.2) r.1.Value.kak.length (r.1.Value.kak.map J8)) (Jw (J4 98 2 (.slice x.2.1.1 r.1.Value.kah.length x.2.1.2) r.1.Value.kah.length (r.1.Value.kah.map Jl)) (Uj 95 6 g_tag_Entry (.slice x.2.2.1.1 r.1.Value.kag.length x.2.2.1.2) r.1.Value.kag.length r.1.Value.kag)))))))) := by
 refine enter (n := 76) func66 rfl rfl rfl S [Jw (Jf pbq1 [i6 q1] 3) (Jw (Jf pb0 [str a0.s_, .bool a0.kab, sl p0_2 n0_2, .map (some m0_3), i6 a0.kad, .func (.func 8) #[] #[pz c0, pz pbq1], i6 a0.no_] 76) (Jw (J4 82 2 (sl p0_2 n0_2) n0_2 (a0.kaa.map Jh)) (Qt i6 Value.bool m0_3 a0.kae)))] (Sat.one hcs hlt)<|Qd 0 rfl<|Qd 1 rfl<|Qd 2 rfl<|X8 Q9<|Jc<|Ja<|?_
 refine Xx (cs := [i6 0, i6 0, str [], z0s, z0s, z0s]) zeroValue95 rfl rfl rfl (fun b3 => ?_)
 refine Jd<|Jc<|Ja<|mv (pz pb0)<|mv (i6 a1)<|?_
 obtain ⟨t13, h_t13, H27⟩ := Je H; clear H
 refine Qb (fun w hF hS => k31c (a0 := a0) (Jq w) (Xl (i := 2) hn0_2 hS rfl) (Q6 (fk := i6) (fv := Value.bool) (i := 3) hS rfl) (Ql (i := 1) hS rfl) h_t13) kbe rfl rfl rfl<|mv (pz pb0)<|mv (i6 a1)<|?_
 obtain ⟨t16, h_t16, H28⟩ := Je H27; clear H27
 refine lv (Jy rfl rfl h_t16) ?_
 obtain ⟨t17, h_t17, H29⟩ := Je H28; clear H28
 refine Qb (fun w hF hS => k31c (a0 := a0) (Jq w) (Xl (i := 2) hn0_2 hS rfl) (Q6 (fk := i6) (fv := Value.bool) (i := 3) hS rfl) (Ql (i := 1) hS rfl) h_t17) kbe rfl rfl rfl<|mv (pz pb0)<|mv (i6 a1)<|?_
 obtain ⟨t20, h_t20, H30⟩ := Je H29; clear H29
 refine lv (Jy rfl rfl h_t20) ?_
 obtain ⟨t21, h_t21, H31⟩ := Je H30; clear H30
 refine Qb (fun w hF hS => k31c (a0 := a0) (Jq w) (Xl (i := 2) hn0_2 hS rfl) (Q6 (fk := i6) (fv := Value.bool) (i := 3) hS rfl) (Ql (i := 1) hS rfl) h_t21) kbe rfl rfl rfl<|ag (i6 t13)<|ag (i6 t17)<|ag (i6 t21)<|Jd<|Jc<|Ja<|mv v2<|?_
 obtain ⟨t23, h_t23, H32⟩ := Je H31; clear H31
 refine V8 (Yy (rds := []) (fun w L' hF hS hi => k78 (Jq w) (f2.mono (hw.now hF)) h_t23) call78 rfl) rfl rfl rfl (fun p => ?_)
 refine mv (i6 t13) ?_
 refine Q5 (vs := [i6 t13]) (cs := [i6 t13]) kcr kcg zeroValue3 rfl rfl rfl rfl rfl rfl rfl (fun b4 => ?_)
 obtain ⟨l26, h_l26, H33⟩ := Je H32; clear H32
 refine Qh (Yg (i := 6) (hn := rfl) (rds := [7]) (p := p) (sz := 1) (by_ := 8) (f := J8) (ys := t23) (ls := ([t13] : List Int)) (V := .slice (some ⟨b4, 0, none⟩) 1 1) kcr (X0 typeInfo3) rfl rfl rfl rfl rfl rfl rfl rfl rfl rfl (fun w L' hF hS hi => Wy (i := 7) hS ((hi 7 (by simp)).trans rfl) rfl rfl) (fun _ => rfl) (fun _ => rfl) h_l26) rfl rfl rfl (fun p_2 => ?_)
 refine ag (sl p_2 l26.length)<|Jd<|Jc<|?_
 try dsimp only [z1,z2,z5,z6,z7,z8]
 refine Ja<|mv (pz pb0)<|lv (Jg rfl)<|lf Tryz.runUnderlying76 rfl sizeOf39 rfl<|ll 1 (.func (.func 8) #[] #[pz c0, pz pbq1]) isAgg39<|mv (sl p_2 l26.length)<|mv (i6 a1)<|?_
 obtain ⟨t33, h_t33, H34⟩ := Je H33; clear H33
 refine Qh (turns_callBV (caps := #[pz c0, pz pbq1]) (args := [sl p_2 l26.length, i6 a1]) (i := 0) (rds := [6]) (G := fun x : Unit => .tuple #[]) (C := fun x : Unit => Jf pbq1 [i6 t33] 3) rfl (fun w L' S hF hS hi hp hlt ho hA => k8 hp hlt (J7 w S) (fq0.mono (hw.but hF ho)) (hw.but hF ho _ _ hc0) (frb_own (j := 6) rfl hA hS (by decide) ((hi 6 (by simp)).trans rfl)) h_t33) call8 rfl rfl) rfl rfl rfl (fun _ => ?_)
 refine Jd<|Jc<|Ja<|mv (i6 t13)<|mv (i6 t17)<|lv (Xf (pl := #[(0, 1), (1, 1), (2, 1), (3, 1), (4, 1)]) (ps := [(0, i6 t17)]) (cells := #[i6 t17, str [], z0s, z0s, z0s]) zeroValue26 Tryz.runUnderlying26 (fun w => by kernel_rfl) rfl rfl)<|lv (Xf (pl := #[(0, 1), (1, 5)]) (ps := [(0, i6 t13), (1, .agg #[i6 t17, str [], z0s, z0s, z0s])]) (cells := #[i6 t13, i6 t17, str [], z0s, z0s, z0s]) zeroValue95 Tryz.runUnderlying95 (fun w => by kernel_rfl) rfl (by kernel_rfl))<|?_
 refine Xx (cs := [i6 0, i6 0, str [], z0s, z0s, z0s]) zeroValue95 rfl rfl rfl (fun b5 => ?_)
 refine st (i := 8) [i6 t13, i6 t17, str [], z0s, z0s, z0s] [i6 t13, i6 t17, str [], z0s, z0s, z0s] kco rfl rfl<|Jd<|?_
 refine Qg (r := r) (σ := Int × (List UInt8) × Bool × Int × Nat × Int × (List Tc) × (List (Int × Bool)) × Int × (List UInt8) × (List Int) × (List Tg) × (List Ta)) (τ := AN × Nat × AN × AN × AN) (fun s => Zv t13 s.1 s.2.1 s.2.2.1 s.2.2.2.1 s.2.2.2.2.1 s.2.2.2.2.2.1 s.2.2.2.2.2.2.1 s.2.2.2.2.2.2.2.1 s.2.2.2.2.2.2.2.2.1 s.2.2.2.2.2.2.2.2.2.1 s.2.2.2.2.2.2.2.2.2.2.1 s.2.2.2.2.2.2.2.2.2.2.2.1 s.2.2.2.2.2.2.2.2.2.2.2.2) (fun s t => [(6, pz b3), (10, pz b5)]) (fun s t => [Jf pbq1 [i6 s.1] 3, Jf pb0 [str s.2.1, .bool s.2.2.1, .slice t.1.1 s.2.2.2.2.2.2.1.length t.1.2, .map (some t.2.1), i6 s.2.2.2.1, .func (.func 8) #[] #[pz c0, pz pbq1], i6 s.2.2.2.2.2.1] 76, J4 82 2 (.slice t.1.1 s.2.2.2.2.2.2.1.length t.1.2) s.2.2.2.2.2.2.1.length (s.2.2.2.2.2.2.1.map Jh), Qt i6 Value.bool t.2.1 s.2.2.2.2.2.2.2.1, Xm Q9 Q9, Jf b3 [i6 0, i6 0, str [], z0s, z0s, z0s] 95, Jf b5 [i6 t13, i6 s.2.2.2.2.2.2.2.2.1, str s.2.2.2.2.2.2.2.2.2.1, .slice t.2.2.1.1 s.2.2.2.2.2.2.2.2.2.2.1.length t.2.2.1.2, .slice t.2.2.2.1.1 s.2.2.2.2.2.2.2.2.2.2.2.1.length t.2.2.2.1.2, .slice t.2.2.2.2.1 s.2.2.2.2.2.2.2.2.2.2.2.2.length t.2.2.2.2.2] 95, J4 3 1 (.slice t.2.2.1.1 s.2.2.2.2.2.2.2.2.2.2.1.length t.2.2.1.2) s.2.2.2.2.2.2.2.2.2.2.1.length (s.2.2.2.2.2.2.2.2.2.2.1.map J8), J4 98 2 (.slice t.2.2.2.1.1 s.2.2.2.2.2.2.2.2.2.2.2.1.length t.2.2.2.1.2) s.2.2.2.2.2.2.2.2.2.2.2.1.length (s.2.2.2.2.2.2.2.2.2.2.2.1.map Jl), Uj 95 6 g_tag_Entry (.slice t.2.2.2.2.1 s.2.2.2.2.2.2.2.2.2.2.2.2.length t.2.2.2.2.2) s.2.2.2.2.2.2.2.2.2.2.2.2.length s.2.2.2.2.2.2.2.2.2.2.2.2]) (fun s t => True) ?_ ?_
 ·refine Jx<|Jc<|?_
  try dsimp only [z1,z2,z5,z6,z7,z8]
  refine Ja<|mv (i6 t17)<|?_
  obtain ⟨t47, h_t47, H36⟩ := Je H34; clear H34
  refine Yq (k43 h_t47) call43 rfl rfl rfl<|lv (Qj rfl rfl)<|ag (.bool (decide (t47 = 0)))<|Jd<|?_
  revert H36
  refine ci (decide (t47 = 0)) rfl (fun hb H37=>?_) fun hb H39=>?_
  ·refine Ja<|mv (pz pb0)<|?_
   obtain ⟨t50, h_t50, H38⟩ := Je H37; clear H37
   refine bo 2 3 rfl rfl<|bo 1 2 rfl rfl<|?_
   refine Qh (Jv (i := 1) (rds := []) rfl (fun w L' S hF hS hi hp hlt ho hA => k65c hp hlt (J7 w S) hn0_2 h_t50) kbf rfl) rfl rfl rfl (fun ⟨p_7, p_8⟩ => ?_)
   refine ub 1 2 rfl rfl<|ub 2 3 rfl rfl<|Jd<|Jp 3 1<|Jp 98 2<|Jp 95 6<|X8 Q9<|?_
   try dsimp only [z1,z2,z5,z6,z7,z8]
   refine bo 12 11 rfl rfl ?_
   try dsimp only [z1,z2,z5,z6,z7,z8]
   refine Xv 12 rfl (Jaj (css := []) (xs := ([] : List Ta)) (p := nn) rfl (AllC.nil (G := g_tag_Entry) (h := Q9) (sz := 6))) ?_
   exact cl (t33, t50.s_, t50.kab, t50.kad, t50.kac, t50.no_, t50.kaa, t50.kae, t17, [], ([] : List Int), ([] : List Tg), ([] : List Ta)) (p_7, p_8, nn, nn, nn) 0 [0, 1, 2, 3, 4, 5, 8, 9, 10, 12] (by exact ⟨H38, trivial⟩)
  ·refine Qg (r := r) (σ := Bool) (τ := Unit) (fun s => Zw q0 a0 a1 self t13 t17 t21 l26 t33 s) (fun s t => [(0, pz pb0), (1, i6 a1), (2, sl p_2 l26.length), (6, pz b3), (8, i6 t17), (9, i6 t21), (10, pz b5), (51, .bool s)]) (fun s t => [Jf pbq1 [i6 t33] 3, Jf pb0 [str a0.s_, .bool a0.kab, sl p0_2 n0_2, .map (some m0_3), i6 a0.kad, .func (.func 8) #[] #[pz c0, pz pbq1], i6 a0.no_] 76, J4 82 2 (sl p0_2 n0_2) n0_2 (a0.kaa.map Jh), Qt i6 Value.bool m0_3 a0.kae, Xm Q9 Q9, Jf b3 [i6 0, i6 0, str [], z0s, z0s, z0s] 95, J4 3 1 (sl p_2 l26.length) l26.length (l26.map J8), Jf b5 [i6 t13, i6 t17, str [], z0s, z0s, z0s] 95]) (fun s t => True) ?_ ?_
   ·try dsimp only [z1,z2,z5,z6,z7,z8]
    refine Ja<|mv (i6 t17)<|lv (Qj rfl rfl)<|mv (.bool (decide (t17 = 13)))<|?_
    revert H39
    refine sp (fun hb H51=>?_) fun hb H52=>?_
    ·refine mv (i6 t21)<|lv (Yv rfl rfl)<|pT (.bool (decide (t21 ≠ 1)))<|ag (.bool (decide (t21 ≠ 1)))<|Jd<|?_
     exact cl (decide (t21 ≠ 1)) () 0 [0, 1, 2, 3, 4, 5, 6, 8] (by exact ⟨H51, trivial⟩)
    ·refine pa<|pa<|pF (.bool false)<|ag (.bool false)<|Jd<|?_
     exact cl false () 0 [0, 1, 2, 3, 4, 5, 6, 8] (by exact ⟨H52, trivial⟩)
   ·rintro x51 _ gg H40 _
    try dsimp only at H40
    try dsimp only
    revert H40
    refine ci x51 rfl (fun hb H41=>?_) fun hb H43=>?_
    ·try dsimp only [z1,z2,z5,z6,z7,z8]
     refine Ja<|mv (pz pb0)<|?_
     obtain ⟨t59, h_t59, H42⟩ := Je H41; clear H41
     refine bo 2 3 rfl rfl<|bo 1 2 rfl rfl<|?_
     refine Qh (Jv (i := 1) (rds := []) rfl (fun w L' S hF hS hi hp hlt ho hA => k65c hp hlt (J7 w S) hn0_2 h_t59) kbf rfl) rfl rfl rfl (fun ⟨p_9, p_10⟩ => ?_)
     refine ub 1 2 rfl rfl<|ub 2 3 rfl rfl<|Jd<|Jp 3 1<|Jp 98 2<|Jp 95 6<|X8 Q9<|?_
     try dsimp only [z1,z2,z5,z6,z7,z8]
     refine bo 11 10 rfl rfl ?_
     try dsimp only [z1,z2,z5,z6,z7,z8]
     refine Xv 11 rfl (Jaj (css := []) (xs := ([] : List Ta)) (p := nn) rfl (AllC.nil (G := g_tag_Entry) (h := Q9) (sz := 6))) ?_
     exact cl (t33, t59.s_, t59.kab, t59.kad, t59.kac, t59.no_, t59.kaa, t59.kae, t17, [], ([] : List Int), ([] : List Tg), ([] : List Ta)) (p_9, p_10, nn, nn, nn) 0 [0, 1, 2, 3, 4, 5, 7, 8, 9, 11] (by exact ⟨H42, trivial⟩)
    ·refine Jc ?_
     try dsimp only [z1,z2,z5,z6,z7,z8]
     refine Ja<|mv (i6 t17)<|lv (Qj rfl rfl)<|ag (.bool (decide (t17 = 13)))<|Jd<|?_
     revert H43
     refine ci (decide (t17 = 13)) rfl (fun hb H44=>?_) fun hb H48=>?_
     ·refine Ja<|mv (pz pb0)<|mv (pz pb0)<|mv (i6 a1)<|?_
      obtain ⟨t67, h_t67, H45⟩ := Je H44; clear H44
      refine lv (Jy rfl rfl h_t67) ?_
      obtain ⟨t68, h_t68, H46⟩ := Je H45; clear H45
      refine Qb (fun w hF hS => k31c (a0 := a0) (Jq w) (Xl (i := 2) hn0_2 hS rfl) (Q6 (fk := i6) (fv := Value.bool) (i := 3) hS rfl) (Ql (i := 1) hS rfl) h_t68) kbe rfl rfl rfl<|mv (sl p_2 l26.length)<|?_
      obtain ⟨t70, h_t70, H47⟩ := Je H46; clear H46
      refine bo 2 3 rfl rfl<|bo 1 2 rfl rfl<|bo 0 1 rfl rfl<|?_
      refine Qh (Jv (i := 0) (rds := [6]) rfl (fun w L' S hF hS hi hp hlt ho hA => ih hp hlt (J7 w S) (fq0.mono (hw.but hF ho)) (hw.but hF ho _ _ hc0) hn0_2 (frb_own (j := 6) rfl hA hS (by decide) ((hi 6 (by simp)).trans rfl)) h_t70) call32 rfl) rfl rfl rfl (fun ⟨p_11, p_12, p_13⟩ => ?_)
      refine ub 0 1 rfl rfl<|ub 1 2 rfl rfl<|ub 2 3 rfl rfl<|Qd 3 rfl<|mv (.tuple #[sl p_11 t70.1.length, i6 t70.2.1])<|lv (J9 (v := sl p_11 t70.1.length) rfl rfl)<|lv (J9 (v := i6 t70.2.1) rfl rfl)<|lf Tryz.runUnderlying95 rfl kce rfl<|lf Tryz.runUnderlying26 rfl kcd rfl<|st (i := 7) [sl p_11 t70.1.length] [i6 t13, i6 t17, str [], z0s, z0s, sl p_11 t70.1.length] kcd rfl rfl<|Jd<|Jp 3 1<|Jp 98 2<|?_
      exact cl (t70.2.2.1, t70.2.2.2.s_, t70.2.2.2.kab, t70.2.2.2.kad, t70.2.2.2.kac, t70.2.2.2.no_, t70.2.2.2.kaa, t70.2.2.2.kae, t17, [], ([] : List Int), ([] : List Tg), t70.1) (p_12, p_13, nn, nn, p_11) 0 [0, 1, 2, 3, 4, 5, 7, 9, 10, 8] (by exact ⟨H47, trivial⟩)
     ·try dsimp only [z1,z2,z5,z6,z7,z8]
      refine Ja<|mv (pz pb0)<|mv (i6 t17)<|mv (i6 t21)<|mv (i6 a1)<|?_
      obtain ⟨t42, h_t42, H49⟩ := Je H48; clear H48
      refine lv (Jy rfl rfl h_t42) ?_
      obtain ⟨t43, h_t43, H50⟩ := Je H49; clear H49
      refine bo 2 3 rfl rfl<|bo 1 2 rfl rfl<|?_
      refine Qh (Jv (i := 1) (rds := []) rfl (fun w L' S hF hS hi hp hlt ho hA => k95c hp hlt (J7 w S) hn0_2 h_t43) call95 rfl) rfl rfl rfl (fun ⟨p_14, p_15, p_16, p_17, p_18⟩ => ?_)
      refine ub 1 2 rfl rfl<|ub 2 3 rfl rfl<|Qd 3 rfl<|Qd 8 rfl<|Qd 9 rfl<|lf Tryz.runUnderlying95 rfl kce rfl<|st (i := 7) [i6 t43.1.kai, str t43.1.kaj, sl p_14 t43.1.kak.length, sl p_15 t43.1.kah.length, sl p_16 t43.1.kag.length] [i6 t13, i6 t43.1.kai, str t43.1.kaj, sl p_14 t43.1.kak.length, sl p_15 t43.1.kah.length, sl p_16 t43.1.kag.length] kce rfl rfl<|Jd<|?_
      exact cl (t33, t43.2.s_, t43.2.kab, t43.2.kad, t43.2.kac, t43.2.no_, t43.2.kaa, t43.2.kae, t43.1.kai, t43.1.kaj, t43.1.kak, t43.1.kah, t43.1.kag) (p_17, p_18, p_14, p_15, p_16) 0 [0, 1, 2, 3, 4, 5, 7, 8, 9, 10] (by exact ⟨H50, trivial⟩)
 ·rintro ⟨m, m_2, m_3, m_4, m_5, m_6, l, mp, m_7, m_8, l_2, l_3, l_4⟩ ⟨p_3, b, p_4, p_5, p_6⟩ gg H35 _
  try dsimp only at H35
  try dsimp only
  refine Jc<|Ja<|Xb (i := 6) (vs := [i6 t13, i6 m_7, str m_8, sl p_4 l_2.length, sl p_5 l_3.length, sl p_6 l_4.length]) isAgg95 kco rfl rfl rfl rfl rfl<|st (i := 5) [i6 t13, i6 m_7, str m_8, sl p_4 l_2.length, sl p_5 l_3.length, sl p_6 l_4.length] [i6 t13, i6 m_7, str m_8, sl p_4 l_2.length, sl p_5 l_3.length, sl p_6 l_4.length] kco rfl rfl<|Jd<|Jm<|Jcv 6<|?_
  try dsimp only [z1, z2, z3, z4, z5, z6, z7, z8]
  obtain rfl := sj H35
  refine bo 7 8 rfl rfl<|bo 6 7 rfl rfl<|bo 3 6 rfl rfl<|bo 2 3 rfl rfl<|bo 1 2 rfl rfl<|bo 0 1 rfl rfl<|?_
  refine retC (i := 5) (vs := [i6 t13, i6 m_7, str m_8, sl p_4 l_2.length, sl p_5 l_3.length, sl p_6 l_4.length]) isAgg95 kco rfl rfl rfl rfl (Y0 (p_4, p_5, p_6, p_3, b) (i := 0) rfl rfl (Imp.refl _))
theorem k32c_it (mm : Nat) : ∀ {q0 : (List Int)} {vq0 : Value} {c0 : Nat} {q1 : Int} {pbq1 : Nat} {a0 : Tb} {pb0 : Nat} {p0_2 : AN} {n0_2 : Nat} {m0_3 : Nat} {a1 : Int} {a2 : (List Int)} {v2 : Value} {r : (List Ta) × Int × Int × Tb} {w : World} {h : J1} {S : Nat → Prop} (hcs : (Jw (Jf pbq1 [i6 q1] 3) (Jw (Jf pb0 [str a0.s_, .bool a0.kab, sl p0_2 n0_2, .map (some m0_3), i6 a0.kad, .func (.func 8) #[] #[pz c0, pz pbq1], i6 a0.no_] 76) (Jw (J4 82 2 (sl p0_2 n0_2) n0_2 (a0.kaa.map Jh)) (Qt i6 Value.bool m0_3 a0.kae)))).P S w) (hlt : ∀ b, S b → b < w.heap.size) (hw : Know h w S) (fq0 : FrS h 1 vq0 (q0.map J8)) (hc0 : h c0 = some (.cells (List.toArray [vq0]) 22 (0, 0))) (hn0_2 : n0_2 = a0.kaa.length) (f2 : FrS h 1 v2 (a2.map J8)) (H : it (fun (self : ((List Int) × Int × Tb × Int × (List Int)) → Option ((List Ta) × Int × Int × Tb)) (s : (List Int) × Int × Tb × Int × (List Int)) => Qn self s.1 s.2.1 s.2.2.1 s.2.2.2.1 s.2.2.2.2) mm (q0, q1, a0, a1, a2) = some r), Does prog 32 (List.toArray [pz pb0, i6 a1, v2]) w (fun v w' => ∃ x : AN × AN × Nat, v = (.tuple #[.slice x.1.1 r.1.length x.1.2, i6 r.2.1]) ∧ Turn w w' S (Jw (Jf pbq1 [i6 r.2.2.1] 3) (Jw (Jf pb0 [str r.2.2.2.s_, .bool r.2.2.2.kab, .slice x.2.1.1 r.2.2.2.kaa.length x.2.1.2, .map (some x.2.2), i6 r.2.2.2.kad, .func (.func 8) #[] #[pz c0, pz pbq1], i6 r.2.2.2.no_] 76) (Jw (J4 82 2 (.slice x.2.1.1 r.2.2.2.kaa.length x.2.1.2) r.2.2.2.kaa.length (r.2.2.2.kaa.map Jh)) (Jw (Qt i6 Value.bool x.2.2 r.2.2.2.kae) (Uj 95 6 g_tag_Entry (.slice x.1.1 r.1.length x.1.2) r.1.length r.1)))))) := by
 induction mm with
 | zero => intros; rename_i H; exact absurd H (by simp [it])
 | succ mm ih =>
  intro q0 vq0 c0 q1 pbq1 a0 pb0 p0_2 n0_2 m0_3 a1 a2 v2 r w h S hcs hlt hw fq0 hc0 hn0_2 f2 H
  replace H : Qn (it (fun (self : ((List Int) × Int × Tb × Int × (List Int)) → Option ((List Ta) × Int × Int × Tb)) (s : (List Int) × Int × Tb × Int × (List Int)) => Qn self s.1 s.2.1 s.2.2.1 s.2.2.2.1 s.2.2.2.2) mm) q0 q1 a0 a1 a2 = some r := H
  generalize it (fun (self : ((List Int) × Int × Tb × Int × (List Int)) → Option ((List Ta) × Int × Int × Tb)) (s : (List Int) × Int × Tb × Int × (List Int)) => Qn self s.1 s.2.1 s.2.2.1 s.2.2.2.1 s.2.2.2.2) mm = self at H ih
  refine enter (n := 145) func32 rfl rfl rfl S [Jw (Jf pbq1 [i6 q1] 3) (Jw (Jf pb0 [str a0.s_, .bool a0.kab, sl p0_2 n0_2, .map (some m0_3), i6 a0.kad, .func (.func 8) #[] #[pz c0, pz pbq1], i6 a0.no_] 76) (Jw (J4 82 2 (sl p0_2 n0_2) n0_2 (a0.kaa.map Jh)) (Qt i6 Value.bool m0_3 a0.kae)))] (Sat.one hcs hlt)<|Qd 0 rfl<|Qd 1 rfl<|Qd 2 rfl<|X8 Q9<|Jc<|Ja<|ag (z0s)<|ag (i6 0)<|Jd<|Jc<|Ja<|mv v2<|lv (Yz kcr rfl f2 rfl)<|ag (i6 (a2.length : Int))<|Jd<|Jc<|Jc<|Ja<|mv (pz pb0)<|mv (i6 a1)<|?_
  obtain ⟨t15, h_t15, H67⟩ := Je H; clear H
  refine Qb (fun w hF hS => k64c (a0 := a0) (Jq w) (Xl (i := 2) hn0_2 hS rfl) (Q6 (fk := i6) (fv := Value.bool) (i := 3) hS rfl) (Ql (i := 1) hS rfl) h_t15) call64 rfl rfl rfl<|lv (Ja6 rfl)<|Jd<|?_
  revert H67
  refine ci (!t15) rfl (fun hb H68=>?_) fun hb H70=>?_
  ·refine Jc<|Ja<|mv (pz pb0)<|?_
   obtain ⟨t18, h_t18, H69⟩ := Je H68; clear H68
   refine bo 2 3 rfl rfl<|bo 1 2 rfl rfl<|?_
   refine Qh (Jv (i := 1) (rds := []) rfl (fun w L' S hF hS hi hp hlt ho hA => k65c hp hlt (J7 w S) hn0_2 h_t18) kbf rfl) rfl rfl rfl (fun ⟨p, p_2⟩ => ?_)
   refine ub 1 2 rfl rfl<|ub 2 3 rfl rfl<|Jd<|Jc<|?_
   try dsimp only [z1,z2,z5,z6,z7,z8]
   refine Ja<|ag (z0s)<|ag (i6 0)<|Jd<|Jm<|?_
   try dsimp only [z1, z2, z3, z4, z5, z6, z7, z8]
   refine Jp 95 6 ?_
   obtain rfl := sj H69
   refine bo 4 5 rfl rfl<|Xv 4 rfl (Q7 (p := nn) rfl (AllC.nil (G := g_tag_Entry) (h := Q9) (sz := 6)))<|bo 3 4 rfl rfl<|bo 2 3 rfl rfl<|bo 1 2 rfl rfl<|bo 0 1 rfl rfl<|?_
   refine U9 (v1 := sl nn (([] : List (List Value)).length)) (v2 := i6 0) rfl rfl rfl (Y0 (nn, p, p_2) (i := 0) rfl (by first | rfl | rw [(show (([] : List (List Value)).length) = ([] : List Ta).length from (AllC.nil (G := g_tag_Entry) (h := Q9) (sz := 6)).len)]) (by first | exact Imp.refl _ | exact Imp.of (by rw [(show (([] : List (List Value)).length) = ([] : List Ta).length from (AllC.nil (G := g_tag_Entry) (h := Q9) (sz := 6)).len)] <;> rfl)))
  ·refine Jj<|Jc<|?_
   try dsimp only [z1,z2,z5,z6,z7,z8]
   refine Ja<|mv (pz pb0)<|mv (i6 a1)<|?_
   obtain ⟨t21, h_t21, H71⟩ := Je H70; clear H70
   refine Qb (fun w hF hS => k31c (a0 := a0) (Jq w) (Xl (i := 2) hn0_2 hS rfl) (Q6 (fk := i6) (fv := Value.bool) (i := 3) hS rfl) (Ql (i := 1) hS rfl) h_t21) kbe rfl rfl rfl<|ag (i6 t21)<|Jd<|?_
   refine Qg (r := r) (σ := (List UInt8) × Bool × Int × Nat × Int × (List Tc) × (List (Int × Bool))) (τ := AN × Nat × Nat) (fun s => Xh q0 q1 a1 a2 self t21 s.1 s.2.1 s.2.2.1 s.2.2.2.1 s.2.2.2.2.1 s.2.2.2.2.2.1 s.2.2.2.2.2.2) (fun s t => [(0, pz pb0), (1, i6 a1), (2, v2), (6, z0s), (8, i6 (a2.length : Int)), (9, i6 t21)]) (fun s t => [Jf pbq1 [i6 q1] 3, Jf pb0 [str s.1, .bool s.2.1, .slice t.1.1 t.2.1 t.1.2, .map (some t.2.2), i6 s.2.2.1, .func (.func 8) #[] #[pz c0, pz pbq1], i6 s.2.2.2.2.1] 76, J4 82 2 (.slice t.1.1 t.2.1 t.1.2) t.2.1 (s.2.2.2.2.2.1.map Jh), Qt i6 Value.bool t.2.2 s.2.2.2.2.2.2, Xm Q9 Q9]) (fun s t => t.2.1 = s.2.2.2.2.2.1.length) ?_ ?_
   ·refine Jx<|Jc<|Ja<|mv (pz pb0)<|lv (Jg rfl)<|lf Tryz.runUnderlying76 rfl sizeOf56 rfl<|ll 1 (.map (some m0_3)) isAgg56<|mv (i6 a1)<|Xs (fun w hF hS => Jeq (i := 3) (fk := i6) (fv := Value.bool) (k := a1) (z := false) Jd4 underlying56 underlying3 zeroValue4 rfl rfl hS rfl) rfl rfl rfl<|ag (.bool ((Q2 a0.kae a1).getD false))<|Jd<|?_
    revert H71
    refine ci ((Q2 a0.kae a1).getD false) rfl (fun hb H114=>?_) fun hb H116=>?_
    ·refine Ja<|mv (pz pb0)<|?_
     obtain ⟨t30, h_t30, H115⟩ := Je H114; clear H114
     refine bo 2 3 rfl rfl<|bo 1 2 rfl rfl<|?_
     refine Qh (Jv (i := 1) (rds := []) rfl (fun w L' S hF hS hi hp hlt ho hA => k65c hp hlt (J7 w S) hn0_2 h_t30) kbf rfl) rfl rfl rfl (fun ⟨p_20, p_21⟩ => ?_)
     refine ub 1 2 rfl rfl<|ub 2 3 rfl rfl<|Jd<|?_
     exact cl (t30.s_, t30.kab, t30.kad, t30.kac, t30.no_, t30.kaa, t30.kae) (p_20, t30.kaa.length, p_21) 0 [0, 1, 2, 3, 4] (by exact ⟨H115, rfl⟩)
    ·refine Jc ?_
     try dsimp only [z1,z2,z5,z6,z7,z8]
     refine Ja<|mv (pz pb0)<|lv (Jg rfl)<|lf Tryz.runUnderlying76 rfl kcg rfl<|ll 1 (i6 a0.kad) kbk<|lv (Yf rfl rfl)<|mv (.bool (decide (20 < a0.kad)))<|?_
     revert H116
     refine sp (fun hb H117=>?_) fun hb H119=>?_
     ·refine pa<|pa<|pT (.bool true)<|mv (.bool true)<|pa<|pa<|pT (.bool true)<|ag (.bool true)<|Jd<|Zl rfl<|Ja<|mv (pz pb0)<|?_
      obtain ⟨t46, h_t46, H118⟩ := Je H117; clear H117
      refine bo 2 3 rfl rfl<|bo 1 2 rfl rfl<|?_
      refine Qh (Jv (i := 1) (rds := []) rfl (fun w L' S hF hS hi hp hlt ho hA => k65c hp hlt (J7 w S) hn0_2 h_t46) kbf rfl) rfl rfl rfl (fun ⟨p_22, p_23⟩ => ?_)
      refine ub 1 2 rfl rfl<|ub 2 3 rfl rfl<|Jd<|?_
      exact cl (t46.s_, t46.kab, t46.kad, t46.kac, t46.no_, t46.kaa, t46.kae) (p_22, t46.kaa.length, p_23) 0 [0, 1, 2, 3, 4] (by exact ⟨H118, rfl⟩)
     ·refine mv (i6 (a2.length : Int))<|lv (Yf rfl rfl)<|pF (.bool (decide (5 < (a2.length : Int))))<|mv (.bool (decide (5 < (a2.length : Int))))<|?_
      revert H119
      refine sp (fun hb H120=>?_) fun hb H122=>?_
      ·refine pa<|pa<|pT (.bool true)<|ag (.bool true)<|Jd<|Zl rfl<|Ja<|mv (pz pb0)<|?_
       obtain ⟨t46_2, h_t46_2, H121⟩ := Je H120; clear H120
       refine bo 2 3 rfl rfl<|bo 1 2 rfl rfl<|?_
       refine Qh (Jv (i := 1) (rds := []) rfl (fun w L' S hF hS hi hp hlt ho hA => k65c hp hlt (J7 w S) hn0_2 h_t46_2) kbf rfl) rfl rfl rfl (fun ⟨p_24, p_25⟩ => ?_)
       refine ub 1 2 rfl rfl<|ub 2 3 rfl rfl<|Jd<|?_
       exact cl (t46_2.s_, t46_2.kab, t46_2.kad, t46_2.kac, t46_2.no_, t46_2.kaa, t46_2.kae) (p_24, t46_2.kaa.length, p_25) 0 [0, 1, 2, 3, 4] (by exact ⟨H121, rfl⟩)
      ·refine mv (i6 t21)<|lv (Yf rfl rfl)<|pF (.bool (decide (200 < t21)))<|ag (.bool (decide (200 < t21)))<|Jd<|?_
       revert H122
       refine ci (decide (200 < t21)) rfl (fun hb H123=>?_) fun hb H125=>?_
       ·try dsimp only [z1,z2,z5,z6,z7,z8]
        refine Ja<|mv (pz pb0)<|?_
        obtain ⟨t46_3, h_t46_3, H124⟩ := Je H123; clear H123
        refine bo 2 3 rfl rfl<|bo 1 2 rfl rfl<|?_
        refine Qh (Jv (i := 1) (rds := []) rfl (fun w L' S hF hS hi hp hlt ho hA => k65c hp hlt (J7 w S) hn0_2 h_t46_3) kbf rfl) rfl rfl rfl (fun ⟨p_26, p_27⟩ => ?_)
        refine ub 1 2 rfl rfl<|ub 2 3 rfl rfl<|Jd<|?_
        exact cl (t46_3.s_, t46_3.kab, t46_3.kad, t46_3.kac, t46_3.no_, t46_3.kaa, t46_3.kae) (p_26, t46_3.kaa.length, p_27) 0 [0, 1, 2, 3, 4] (by exact ⟨H124, rfl⟩)
       ·refine Jc<|Ja<|mv (pz pb0)<|mv (i6 a1)<|mv (i6 t21)<|?_
        obtain ⟨t51, h_t51, H126⟩ := Je H125; clear H125
        refine lv (Z3 rfl rfl h_t51) ?_
        obtain ⟨t52, h_t52, H127⟩ := Je H126; clear H126
        refine lv (Jy rfl rfl h_t52) ?_
        obtain ⟨t53, h_t53, H128⟩ := Je H127; clear H127
        refine lv (Jy rfl rfl h_t53) ?_
        obtain ⟨t54, h_t54, H129⟩ := Je H128; clear H128
        refine Qb (fun w hF hS => k64c (a0 := a0) (Jq w) (Xl (i := 2) hn0_2 hS rfl) (Q6 (fk := i6) (fv := Value.bool) (i := 3) hS rfl) (Ql (i := 1) hS rfl) h_t54) call64 rfl rfl rfl<|lv (Ja6 rfl)<|ag (.bool (!t54))<|Jd<|?_
        revert H129
        refine ci (!t54) rfl (fun hb H130=>?_) fun hb H132=>?_
        ·refine Ja<|mv (pz pb0)<|?_
         obtain ⟨t57, h_t57, H131⟩ := Je H130; clear H130
         refine bo 2 3 rfl rfl<|bo 1 2 rfl rfl<|?_
         refine Qh (Jv (i := 1) (rds := []) rfl (fun w L' S hF hS hi hp hlt ho hA => k65c hp hlt (J7 w S) hn0_2 h_t57) kbf rfl) rfl rfl rfl (fun ⟨p_28, p_29⟩ => ?_)
         refine ub 1 2 rfl rfl<|ub 2 3 rfl rfl<|Jd<|?_
         exact cl (t57.s_, t57.kab, t57.kad, t57.kac, t57.no_, t57.kaa, t57.kae) (p_28, t57.kaa.length, p_29) 0 [0, 1, 2, 3, 4] (by exact ⟨H131, rfl⟩)
        ·refine Jj ?_
         exact cl (a0.s_, a0.kab, a0.kad, a0.kac, a0.no_, a0.kaa, a0.kae) (p0_2, n0_2, m0_3) 0 [0, 1, 2, 3, 4] (by exact ⟨H132, hn0_2⟩)
   ·rintro ⟨m, m_2, m_3, m_4, m_5, l, mp⟩ ⟨p_3, n, b⟩ gg H72 hl
    try dsimp only at H72
    try dsimp only
    refine Jc<|Jc<|Ja<|mv (pz pb0)<|lv (Jg rfl)<|lf Tryz.runUnderlying76 rfl kcf rfl<|ll 1 (i6 m_5) kbj<|lv (Yv rfl rfl)<|Jd<|?_
    revert H72
    refine ci (decide (m_5 ≠ 0)) rfl (fun hb H73=>?_) fun hb H74=>?_
    ·refine Jc<|Ja<|ag (z0s)<|ag (i6 0)<|Jd<|Jm<|?_
     try dsimp only [z1, z2, z3, z4, z5, z6, z7, z8]
     refine Jp 95 6 ?_
     obtain rfl := sj H73
     refine bo 4 5 rfl rfl<|Xv 4 rfl (Q7 (p := nn) rfl (AllC.nil (G := g_tag_Entry) (h := Q9) (sz := 6)))<|bo 3 4 rfl rfl<|bo 2 3 rfl rfl<|bo 1 2 rfl rfl<|bo 0 1 rfl rfl<|?_
     refine U9 (v1 := sl nn (([] : List (List Value)).length)) (v2 := i6 0) rfl rfl rfl (Y0 (nn, p_3, b) (i := 0) rfl (by first | rfl | rw [(show (([] : List (List Value)).length) = ([] : List Ta).length from (AllC.nil (G := g_tag_Entry) (h := Q9) (sz := 6)).len), (show n = l.length from hl)]) (by first | exact Imp.refl _ | exact Imp.of (by rw [(show (([] : List (List Value)).length) = ([] : List Ta).length from (AllC.nil (G := g_tag_Entry) (h := Q9) (sz := 6)).len), (show n = l.length from hl)] <;> rfl)))
    ·refine Jj<|Jc<|?_
     try dsimp only [z1,z2,z5,z6,z7,z8]
     refine Ja<|mv (pz pb0)<|lv (Jg rfl)<|lf Tryz.runUnderlying76 rfl sizeOf56 rfl<|ll 1 (.map (some b)) isAgg56<|mv (i6 a1)<|?_
     refine Jim (Jc7 (u := true) (i := 3) (rds := []) (fk := i6) (fv := Value.bool) (k := a1) (v := true) Jd4 (.inr rfl) underlying56 underlying3 rfl rfl rfl rfl) rfl rfl (fun _ => ?_)
     refine Jd<|Jc<|Ja<|mv (pz pb0)<|mv (pz pb0)<|lv (Jg rfl)<|lf Tryz.runUnderlying76 rfl kcj rfl<|ll 1 (sl p_3 n) kbn<|mv (i6 a1)<|mv (i6 a1)<|?_
     obtain ⟨t75, h_t75, H75⟩ := Je H74; clear H74
     refine lv (Jy rfl rfl h_t75)<|mv (i6 t21)<|?_
     obtain ⟨t77, h_t77, H76⟩ := Je H75; clear H75
     refine lv (Z3 rfl rfl h_t77) ?_
     obtain ⟨t78, h_t78, H77⟩ := Je H76; clear H76
     refine lv (Jy rfl rfl h_t78) ?_
     obtain ⟨t79, h_t79, H78⟩ := Je H77; clear H77
     refine lv (Jy rfl rfl h_t79)<|lv (Xf (pl := #[(0, 1), (1, 1)]) (ps := [(0, i6 a1), (1, i6 t79)]) (cells := #[i6 a1, i6 t79]) zeroValue82 Tryz.runUnderlying82 (fun w => by kernel_rfl) rfl rfl)<|?_
     refine Q5 (vs := [.agg #[i6 a1, i6 t79]]) (cs := [i6 a1, i6 t79]) kcv kcm zeroValue82 rfl rfl rfl rfl rfl rfl rfl (fun b2 => ?_)
     obtain ⟨l82, h_l82, H79⟩ := Je H78; clear H78
     refine Qh (Yg (i := 2) (hn := hl) (rds := [5]) (p := p_3) (sz := 2) (by_ := 16) (f := Jh) (ys := l) (ls := ([(⟨a1, t79⟩ : Tc)] : List Tc)) (V := .slice (some ⟨b2, 0, none⟩) 1 1) kcv (X0 typeInfo82) rfl rfl rfl rfl rfl rfl rfl rfl rfl rfl (fun w L' hF hS hi => Wy (i := 5) hS ((hi 5 (by simp)).trans rfl) rfl rfl) (fun _ => rfl) (fun _ => rfl) h_l82) rfl rfl rfl (fun p_4 => ?_)
     refine lv (Jg rfl)<|lf Tryz.runUnderlying76 rfl kcj rfl<|st (i := 1) [sl p_4 l82.length] [str m, .bool m_2, sl p_4 l82.length, .map (some b), i6 m_3, .func (.func 8) #[] #[pz c0, pz pbq1], i6 m_5] kcj rfl rfl<|Jd<|Jc<|Ja<|mv (pz pb0)<|mv (i6 a1)<|?_
     obtain ⟨t87, h_t87, H80⟩ := Je H79; clear H79
     refine lv (Jy rfl rfl h_t87)<|mv (i6 t21)<|?_
     obtain ⟨t89, h_t89, H81⟩ := Je H80; clear H80
     refine lv (Z3 rfl rfl h_t89) ?_
     obtain ⟨t90, h_t90, H82⟩ := Je H81; clear H81
     refine lv (Jy rfl rfl h_t90) ?_
     obtain ⟨t91, h_t91, H83⟩ := Je H82; clear H82
     refine Qb (fun w hF hS => k31c (a0 := (⟨m, m_2, l82, (Yp mp a1 true), m_3, m_4, m_5⟩ : Tb)) (Jq w) (Xl (i := 2) rfl hS rfl) (Q6 (fk := i6) (fv := Value.bool) (i := 3) hS rfl) (Ql (i := 1) hS rfl) h_t91) kbe rfl rfl rfl<|ag (i6 t91)<|Jd<|?_
     refine Qg (r := r) (σ := (List UInt8) × Bool × Int × Nat × Int × (List Tc) × (List (Int × Bool))) (τ := AN × Nat) (fun s => Ww q0 q1 a1 a2 self t21 t91 s.1 s.2.1 s.2.2.1 s.2.2.2.1 s.2.2.2.2.1 s.2.2.2.2.2.1 s.2.2.2.2.2.2) (fun s t => [(0, pz pb0), (1, i6 a1), (2, v2), (6, z0s), (7, i6 t91), (9, i6 t21)]) (fun s t => [Jf pbq1 [i6 q1] 3, Jf pb0 [str s.1, .bool s.2.1, .slice t.1.1 s.2.2.2.2.2.1.length t.1.2, .map (some t.2), i6 s.2.2.1, .func (.func 8) #[] #[pz c0, pz pbq1], i6 s.2.2.2.2.1] 76, J4 82 2 (.slice t.1.1 s.2.2.2.2.2.1.length t.1.2) s.2.2.2.2.2.1.length (s.2.2.2.2.2.1.map Jh), Qt i6 Value.bool t.2 s.2.2.2.2.2.2, Xm Q9 Q9]) (fun s t => True) ?_ ?_
     ·refine Jc<|Ja<|mv (i6 (a2.length : Int))<|lv (Yf rfl rfl)<|mv (.bool (decide (1 < (a2.length : Int))))<|?_
      revert H83
      refine sp (fun hb H109=>?_) fun hb H113=>?_
      ·refine mv (i6 t91)<|lv (Yv rfl rfl)<|pT (.bool (decide (t91 ≠ 0)))<|Jd<|?_
       revert H109
       refine ci (decide (t91 ≠ 0)) rfl (fun hb H110=>?_) fun hb H112=>?_
       ·refine Ja<|mv (pz pb0)<|?_
        obtain ⟨t99, h_t99, H111⟩ := Je H110; clear H110
        refine bo 2 3 rfl rfl<|bo 1 2 rfl rfl<|?_
        refine Qh (Jv (i := 1) (rds := []) rfl (fun w L' S hF hS hi hp hlt ho hA => k65c (a0 := (⟨m, m_2, l82, (Yp mp a1 true), m_3, m_4, m_5⟩ : Tb)) hp hlt (J7 w S) rfl h_t99) kbf rfl) rfl rfl rfl (fun ⟨p_18, p_19⟩ => ?_)
        refine ub 1 2 rfl rfl<|ub 2 3 rfl rfl<|Jd<|?_
        exact cl (t99.s_, t99.kab, t99.kad, t99.kac, t99.no_, t99.kaa, t99.kae) (p_18, p_19) 0 [0, 1, 2, 3, 4] (by exact ⟨H111, trivial⟩)
       ·refine Jj ?_
        exact cl (m, m_2, m_3, m_4, m_5, l82, (Yp mp a1 true)) (p_4, b) 0 [0, 1, 2, 3, 4] (by exact ⟨H112, trivial⟩)
      ·refine pa<|pa<|pF (.bool false)<|Jd<|Zz rfl<|Jj<|?_
       exact cl (m, m_2, m_3, m_4, m_5, l82, (Yp mp a1 true)) (p_4, b) 0 [0, 1, 2, 3, 4] (by exact ⟨H113, trivial⟩)
     ·rintro ⟨m_6, m_7, m_8, m_9, m_10, l_2, mp_2⟩ ⟨p_5, b_2⟩ gg H84 _
      try dsimp only at H84
      try dsimp only
      refine Qg (r := r) (σ := Int × Int × (List UInt8) × Bool × Int × Nat × Int × (List Tc) × (List (Int × Bool)) × (List Ta)) (τ := J1 × AN × Nat × (List (List Value)) × AN) (fun s => U4 s.1 s.2.1 s.2.2.1 s.2.2.2.1 s.2.2.2.2.1 s.2.2.2.2.2.1 s.2.2.2.2.2.2.1 s.2.2.2.2.2.2.2.1 s.2.2.2.2.2.2.2.2.1 s.2.2.2.2.2.2.2.2.2) (fun s t => [(6, .slice t.2.2.2.2.1 t.2.2.2.1.length t.2.2.2.2.2), (7, i6 s.1)]) (fun s t => [Jf pbq1 [i6 s.2.1] 3, Jf pb0 [str s.2.2.1, .bool s.2.2.2.1, .slice t.2.1.1 s.2.2.2.2.2.2.2.1.length t.2.1.2, .map (some t.2.2.1), i6 s.2.2.2.2.1, .func (.func 8) #[] #[pz c0, pz pbq1], i6 s.2.2.2.2.2.2.1] 76, J4 82 2 (.slice t.2.1.1 s.2.2.2.2.2.2.2.1.length t.2.1.2) s.2.2.2.2.2.2.2.1.length (s.2.2.2.2.2.2.2.1.map Jh), Qt i6 Value.bool t.2.2.1 s.2.2.2.2.2.2.2.2.1, Xm Q9 t.1, J4 95 6 (.slice t.2.2.2.2.1 t.2.2.2.1.length t.2.2.2.2.2) t.2.2.2.1.length (t.2.2.2.1.map idC)]) (fun s t => AllC g_tag_Entry t.1 6 t.2.2.2.1 s.2.2.2.2.2.2.2.2.2) ?_ ?_
      ·refine Jc ?_
       try dsimp only [z1,z2,z5,z6,z7,z8]
       refine Ja<|ag (i6 0)<|Jd<|Jx<|Jp 95 6<|?_
       refine Za (σ := Int × Int × Int × Int × Int × (List UInt8) × Bool × Int × Nat × Int × (List Tc) × (List (Int × Bool)) × (List Ta)) (τ := J1 × AN × Nat × (List (List Value)) × AN) (fun next4 s => Xg q0 a2 self next4 s.1 s.2.1 s.2.2.1 s.2.2.2.1 s.2.2.2.2.1 s.2.2.2.2.2.1 s.2.2.2.2.2.2.1 s.2.2.2.2.2.2.2.1 s.2.2.2.2.2.2.2.2.1 s.2.2.2.2.2.2.2.2.2.1 s.2.2.2.2.2.2.2.2.2.2.1 s.2.2.2.2.2.2.2.2.2.2.2.1 s.2.2.2.2.2.2.2.2.2.2.2.2) (fun s t => [(0, pz pb0), (1, i6 s.1), (2, v2), (6, .slice t.2.2.2.2.1 t.2.2.2.1.length t.2.2.2.2.2), (7, i6 s.2.1), (9, i6 s.2.2.1), (10, i6 s.2.2.2.1)]) (fun s t => [Jf pbq1 [i6 s.2.2.2.2.1] 3, Jf pb0 [str s.2.2.2.2.2.1, .bool s.2.2.2.2.2.2.1, .slice t.2.1.1 s.2.2.2.2.2.2.2.2.2.2.1.length t.2.1.2, .map (some t.2.2.1), i6 s.2.2.2.2.2.2.2.1, .func (.func 8) #[] #[pz c0, pz pbq1], i6 s.2.2.2.2.2.2.2.2.2.1] 76, J4 82 2 (.slice t.2.1.1 s.2.2.2.2.2.2.2.2.2.2.1.length t.2.1.2) s.2.2.2.2.2.2.2.2.2.2.1.length (s.2.2.2.2.2.2.2.2.2.2.1.map Jh), Qt i6 Value.bool t.2.2.1 s.2.2.2.2.2.2.2.2.2.2.2.1, Xm Q9 t.1, J4 95 6 (.slice t.2.2.2.2.1 t.2.2.2.1.length t.2.2.2.2.2) t.2.2.2.1.length (t.2.2.2.1.map idC)]) (fun s t => AllC g_tag_Entry t.1 6 t.2.2.2.1 s.2.2.2.2.2.2.2.2.2.2.2.2) (a1, t91, t21, 0, q1, m_6, m_7, m_8, m_9, m_10, l_2, mp_2, ([] : List Ta)) (Q9, p_5, b_2, ([] : List (List Value)), nn) [0, 1, 2, 3, 4, 5] H84 (by exact (AllC.nil (G := g_tag_Entry) (h := Q9) (sz := 6))) (by exact ⟨rfl, rfl, rfl, rfl, rfl, rfl, rfl, trivial⟩) (by decide) rfl ?_
       rintro ⟨x1_2, x7_3, x9_2, x10_2, m_23, m_24, m_25, m_26, m_27, m_28, l_7, mp_5, l_8⟩ ⟨hp_2, p_8, b_4, css_2, p_9⟩ m4 gg H86 pf_3
       clear H84
       try dsimp only at H86
       generalize hn4 : it (fun next4 s => Xg q0 a2 self next4 s.1 s.2.1 s.2.2.1 s.2.2.2.1 s.2.2.2.2.1 s.2.2.2.2.2.1 s.2.2.2.2.2.2.1 s.2.2.2.2.2.2.2.1 s.2.2.2.2.2.2.2.2.1 s.2.2.2.2.2.2.2.2.2.1 s.2.2.2.2.2.2.2.2.2.2.1 s.2.2.2.2.2.2.2.2.2.2.2.1 s.2.2.2.2.2.2.2.2.2.2.2.2) m4 = next4 at H86
       try dsimp only
       refine Jc<|Jc<|Ja<|mv (i6 x10_2)<|mv (i6 x9_2)<|lv (X3 rfl rfl)<|mv (.bool (decide (x10_2 < x9_2)))<|?_
       revert H86
       refine sp (fun hb H87=>?_) fun hb H108=>?_
       ·refine mv (pz pb0)<|lv (Jg rfl)<|lf Tryz.runUnderlying76 rfl kcf rfl<|ll 1 (i6 m_28) kbj<|lv (Qj rfl rfl)<|pT (.bool (decide (m_28 = 0)))<|Jd<|?_
        try dsimp only [z1,z2,z5,z6,z7,z8]
        revert H87
        refine ci (decide (m_28 = 0)) rfl (fun hb H88=>?_) fun hb H107=>?_
        ·refine Jj<|Jc<|Jx<|?_
         refine Qg (r := r) (σ := Unit) (τ := Unit) (fun s => Vs q0 a2 self x1_2 x7_3 x9_2 x10_2 m_23 m_24 m_25 m_26 m_27 m_28 l_7 mp_5 l_8 next4) (fun s t => [(0, pz pb0), (1, i6 x1_2), (2, v2), (6, sl p_9 css_2.length), (7, i6 x7_3), (9, i6 x9_2), (10, i6 x10_2), (104, pz pb0), (105, pz pb0), (106, .pointer (some ⟨pb0, 6, none⟩)), (107, i6 m_28), (108, .bool (decide (m_28 = 0)))]) (fun s t => [Jf pbq1 [i6 m_23] 3, Jf pb0 [str m_24, .bool m_25, sl p_8 l_7.length, .map (some b_4), i6 m_26, .func (.func 8) #[] #[pz c0, pz pbq1], i6 m_28] 76, J4 82 2 (sl p_8 l_7.length) l_7.length (l_7.map Jh), Qt i6 Value.bool b_4 mp_5, Xm Q9 hp_2, J4 95 6 (sl p_9 css_2.length) css_2.length (css_2.map idC)]) (fun s t => True) ?_ ?_
         ·refine Jc ?_
          exact Qk (Kd.p :: Kd.p :: Kd.p :: Kd.p :: Kd.p :: Kd.p :: Kd.p :: Kd.p :: Kd.p :: Kd.d [4, 1, 2, 3] _ :: Kd.p :: Kd.p :: Kd.p :: Kd.d [5] _ :: Kd.d [5] _ :: Kd.d [5] _ :: Kd.p :: Kd.p :: []) 0 mixed (by
           refine dm (i6 x10_2)<|dv (Yf rfl rfl)<|dm (.bool (decide (0 < x10_2)))<|?_
           refine Wu (fun hb => ?_) (fun hb => ?_)
           ·have H96 := Uo hb H88
            refine dm (pz pb0)<|dm (i6 x1_2)<|?_
            have h_t117 := Jt H96
            have H97 := Jn H96
            refine dv (Jy rfl rfl h_t117)<|dm (i6 x10_2)<|?_
            have h_t119 := Jt H97
            have H98 := Jn H97
            refine dv (Z3 rfl rfl h_t119) ?_
            have h_t120 := Jt H98
            have H99 := Jn H98
            refine dv (Jy rfl rfl h_t120) ?_
            have h_t121 := Jt H99
            have H100 := Jn H99
            refine Jar (fun w L' hF hS hi => k31c (a0 := (⟨m_24, m_25, l_7, mp_5, m_26, m_27, m_28⟩ : Tb)) (Jq w) (Xl (i := 2) rfl hS ((hi 2 (by simp)).trans rfl)) (Q6 (fk := i6) (fv := Value.bool) (i := 3) hS ((hi 3 (by simp)).trans rfl)) (Ql (i := 1) hS ((hi 1 (by simp)).trans rfl)) h_t121) kbe rfl rfl<|dm (sl p_9 css_2.length)<|dm (i6 x10_2)<|?_
            have h_t124 := Jt H100
            have H101 := Jn H100
            refine dv (Zs rfl rfl h_t124) ?_
            have h_t125 := Jt H101
            have H102 := Jn H101
            refine Um (fun w L' hF hS hi => U3 kct kco rfl rfl (Uk (i := 5) (E := 95) (sz := 6) (n := css_2.length) (a := p_9.1) (c := p_9.2) hS ((hi 5 (by simp)).trans rfl)) rfl (pf_3.ix h_t125)) rfl rfl<|Jhm rfl rfl (fun w L' hF hS hi => Jbp Tryz.runUnderlying95 rfl kcg rfl rfl (Uk (i := 5) (E := 95) (sz := 6) (n := css_2.length) (a := p_9.1) (c := p_9.2) hS ((hi 5 (by simp)).trans rfl)) (pf_3.ix h_t125))<|Um (fun w L' hF hS hi => Qw (f := idC) (i := (val (gI (x10_2 - 1)))) (sz := 6) (j := 0) (v := i6 (val (Zb l_8 (val (gI (x10_2 - 1))))).Tag) kbk rfl rfl (Uk (i := 5) (E := 95) (sz := 6) (n := css_2.length) (a := p_9.1) (c := p_9.2) hS ((hi 5 (by simp)).trans rfl)) (pf_3.ix h_t125) (Jea ((pf_3.eta h_t125).trans (Yd (pf_3.at h_t125))) rfl)) rfl rfl<|dv (Jd1 rfl rfl)<|dv (Xz (v := .bool (decide ((val (Ji (⟨m_24, m_25, l_7, mp_5, m_26, m_27, m_28⟩ : Tb) (val (gI ((val (gI (x1_2 + 2))) + (val (gI (12 * x10_2)))))) 2)) ≤ (val (Zb l_8 (val (gI (x10_2 - 1))))).Tag))) rfl rfl)<|Xr<|?_
            try dsimp only [z1,z2,z5,z6,z7,z8]
            revert H102
            refine ci (decide ((val (Ji (⟨m_24, m_25, l_7, mp_5, m_26, m_27, m_28⟩ : Tb) (val (gI ((val (gI (x1_2 + 2))) + (val (gI (12 * x10_2)))))) 2)) ≤ (val (Zb l_8 (val (gI (x10_2 - 1))))).Tag)) rfl (fun hb H103=>?_) fun hb H105=>?_
            ·refine Jc<|Ja<|mv (pz pb0)<|?_
             obtain ⟨t131, h_t131, H104⟩ := Je H103; clear H103
             refine bo 2 3 rfl rfl<|bo 1 2 rfl rfl<|?_
             refine Qh (Jv (i := 1) (rds := []) rfl (fun w L' S hF hS hi hp hlt ho hA => k65c (a0 := (⟨m_24, m_25, l_7, mp_5, m_26, m_27, m_28⟩ : Tb)) hp hlt (J7 w S) rfl h_t131) kbf rfl) rfl rfl rfl (fun ⟨p_16, p_17⟩ => ?_)
             refine ub 1 2 rfl rfl<|ub 2 3 rfl rfl<|Jd<|?_
             try dsimp only [z1,z2,z5,z6,z7,z8]
             refine Xj ?_
             exact cl (x7_3, m_23, t131.s_, t131.kab, t131.kad, t131.kac, t131.no_, t131.kaa, t131.kae, l_8) (hp_2, p_16, p_17, css_2, p_9) 0 [0, 1, 2, 3, 4, 5] (by exact ⟨H104, pf_3⟩)
            ·refine Jj ?_
             exact cl () () 0 [0, 1, 2, 3, 4, 5] (by exact ⟨H105, trivial⟩)
           ·have H106 := Us hb H88
            refine dp<|dp<|dp<|dp<|dp<|dp<|dp<|dp<|dp<|dp<|dp<|dp<|dp<|dp<|dv (Z1 (v := .bool false) rfl rfl)<|Xr<|?_
            try dsimp only [z1,z2,z5,z6,z7,z8]
            refine Zz rfl<|Jj<|?_
            exact cl () () 0 [0, 1, 2, 3, 4, 5] (by exact ⟨H106, trivial⟩)
           ) (by kernel_rfl)
         ·rintro _ _ gg H89 _
          try dsimp only at H89
          try dsimp only
          refine Ja<|mv (sl p_9 css_2.length)<|mv (pz pb0)<|mv (i6 x1_2)<|?_
          obtain ⟨t135, h_t135, H90⟩ := Je H89; clear H89
          refine lv (Jy rfl rfl h_t135)<|mv (i6 x10_2)<|?_
          obtain ⟨t137, h_t137, H91⟩ := Je H90; clear H90
          refine lv (Z3 rfl rfl h_t137) ?_
          obtain ⟨t138, h_t138, H92⟩ := Je H91; clear H91
          refine lv (Jy rfl rfl h_t138)<|mv v2<|?_
          obtain ⟨t140, h_t140, H93⟩ := Je H92; clear H92
          refine bo 2 3 rfl rfl<|bo 1 2 rfl rfl<|bo 0 1 rfl rfl<|?_
          refine Qh (Jv (i := 0) (rds := []) rfl (fun w L' S hF hS hi hp hlt ho hA => k66c_b ih (a0 := (⟨m_24, m_25, l_7, mp_5, m_26, m_27, m_28⟩ : Tb)) hp hlt (J7 w S) (fq0.mono (hw.but hF ho)) (hw.but hF ho _ _ hc0) rfl (f2.mono (hw.but hF ho)) h_t140) call66 rfl) rfl rfl rfl (fun ⟨p_10, p_11, p_12, p_13, p_14⟩ => ?_)
          refine ub 0 1 rfl rfl<|ub 1 2 rfl rfl<|ub 2 3 rfl rfl<|Qd 3 rfl<|Qd 6 rfl<|Qd 7 rfl<|?_
          refine Q5 (vs := [.agg #[i6 t140.1.Tag, i6 t140.1.Value.kai, str t140.1.Value.kaj, sl p_10 t140.1.Value.kak.length, sl p_11 t140.1.Value.kah.length, sl p_12 t140.1.Value.kag.length]]) (cs := [i6 t140.1.Tag, i6 t140.1.Value.kai, str t140.1.Value.kaj, sl p_10 t140.1.Value.kak.length, sl p_11 t140.1.Value.kah.length, sl p_12 t140.1.Value.kag.length]) kct kco zeroValue95 rfl rfl rfl rfl rfl rfl rfl (fun b3 => ?_)
          try dsimp only [z1,z2,z5,z6,z7,z8]
          refine Uc (Φ := fun H_ => FrS H_ 1 (sl p_10 t140.1.Value.kak.length) (t140.1.Value.kak.map J8)) 4 6 rfl rfl (by decide) (fun _ _ => Zc) (Jb9 _) (fun hp_3 hle hf => ?_)
          try dsimp only [z1,z2,z5,z6,z7,z8]
          refine Uc (Φ := fun H_ => FrS H_ 2 (sl p_11 t140.1.Value.kah.length) (t140.1.Value.kah.map Jl)) 4 7 rfl rfl (by decide) (fun _ _ => Zc) (Jb9 _) (fun hp_4 hle_2 hf_2 => ?_)
          refine Jcd 8 rfl (fun hp_5 css_3 hn pf_4 => ?_)
          rw [hn]
          try dsimp only [z1,z2,z5,z6,z7,z8]
          refine Qd 8 rfl ?_
          try dsimp only [z1,z2,z5,z6,z7,z8]
          refine Z9 4 8 rfl rfl (by decide) (fun _ _ => Zc) (fun hp_6 hle_3 hle_4 => ?_)
          try dsimp only [z1,z2,z5,z6,z7,z8]
          refine Uc (Φ := fun H_ => FrS H_ 6 (sl p_12 css_3.length) (css_3.map idC)) 4 10 rfl rfl (by decide) (fun _ _ => Zc) (Jb9 _) (fun hp_7 hle_5 hf_3 => ?_)
          obtain ⟨l142, h_l142, H94⟩ := Je H93; clear H93
          refine Qh (Jal (i := 5) (k := 9) (p := p_9) (f := idC) (ys := css_2) (ls := [[i6 t140.1.Tag, i6 t140.1.Value.kai, str t140.1.Value.kaj, sl p_10 t140.1.Value.kak.length, sl p_11 t140.1.Value.kah.length, sl p_12 css_3.length]]) kct (X0 typeInfo95) rfl rfl rfl rfl rfl rfl rfl rfl rfl rfl rfl rfl rfl rfl (by simp only [idC, List.map_cons, List.map_nil, List.all_cons, List.all_nil, (((hf.mono hle_2).mono hle_3).mono hle_5).one, ((hf_2.mono hle_3).mono hle_5).one, (Ja8 (xs := t140.1.Value.kag) hf_3 ((pf_4.mono hle_4).mono hle_5)).one] <;> rfl) (app63 (((((pf_3.mono hle).mono hle_2).mono hle_3).mono hle_5).app h_l142 (nc := [[i6 t140.1.Tag, i6 t140.1.Value.kai, str t140.1.Value.kaj, sl p_10 t140.1.Value.kak.length, sl p_11 t140.1.Value.kah.length, sl p_12 css_3.length]]) rfl)) rfl) rfl rfl rfl (fun p_15 => ?_)
          have pf_5 : AllC g_tag_Entry hp_7 6 (css_2 ++ [[i6 t140.1.Tag, i6 t140.1.Value.kai, str t140.1.Value.kaj, sl p_10 t140.1.Value.kak.length, sl p_11 t140.1.Value.kah.length, sl p_12 css_3.length]]) l142 := AllC.snocG ((((pf_3.mono hle).mono hle_2).mono hle_3).mono hle_5) h_l142 rfl ((g_tag_Entry_iff.2 ⟨rfl, ⟨rfl, rfl, (((hf.mono hle_2).mono hle_3).mono hle_5), ((hf_2.mono hle_3).mono hle_5), (Ja8 (xs := t140.1.Value.kag) hf_3 ((pf_4.mono hle_4).mono hle_5))⟩⟩))
          refine ag (sl p_15 ((css_2 ++ [[i6 t140.1.Tag, i6 t140.1.Value.kai, str t140.1.Value.kaj, .slice p_10.1 t140.1.Value.kak.length p_10.2, .slice p_11.1 t140.1.Value.kah.length p_11.2, .slice p_12.1 css_3.length p_12.2]]).length))<|Jd<|?_
          try dsimp only [z1,z2,z5,z6,z7,z8]
          refine Ja<|mv (i6 x10_2)<|?_
          obtain ⟨t111, h_t111, H95⟩ := Je H94; clear H94
          refine lv (Jy rfl rfl h_t111)<|ag (i6 t111)<|Jd<|?_
          try dsimp only [z1,z2,z5,z6,z7,z8]
          exact cl (x1_2, x7_3, x9_2, t111, t140.2.1, t140.2.2.s_, t140.2.2.kab, t140.2.2.kad, t140.2.2.kac, t140.2.2.no_, t140.2.2.kaa, t140.2.2.kae, l142) (hp_7, p_13, p_14, (css_2 ++ [[i6 t140.1.Tag, i6 t140.1.Value.kai, str t140.1.Value.kaj, sl p_10 t140.1.Value.kak.length, sl p_11 t140.1.Value.kah.length, sl p_12 css_3.length]]), p_15) m4 [0, 1, 2, 3, 4, 5] (by exact ⟨(by subst hn4; exact H95), pf_5⟩)
        ·refine Xj ?_
         exact cl (x7_3, m_23, m_24, m_25, m_26, m_27, m_28, l_7, mp_5, l_8) (hp_2, p_8, b_4, css_2, p_9) 0 [0, 1, 2, 3, 4, 5] (by exact ⟨H107, pf_3⟩)
       ·refine pa<|pa<|pa<|pa<|pa<|pF (.bool false)<|Jd<|?_
        try dsimp only [z1,z2,z5,z6,z7,z8]
        refine Zz rfl<|Xj<|?_
        exact cl (x7_3, m_23, m_24, m_25, m_26, m_27, m_28, l_7, mp_5, l_8) (hp_2, p_8, b_4, css_2, p_9) 0 [0, 1, 2, 3, 4, 5] (by exact ⟨H108, pf_3⟩)
      ·rintro ⟨x7, m_11, m_12, m_13, m_14, m_15, m_16, l_3, mp_3, l_4⟩ ⟨hp, p_6, b_3, css, p_7⟩ gg H85 pf
       try dsimp only at H85
       try dsimp only
       refine Jc<|Ja<|mv (sl p_7 css.length)<|mv (i6 x7)<|ag (sl p_7 css.length)<|ag (i6 x7)<|Jd<|?_
       try dsimp only [z1,z2,z5,z6,z7,z8]
       refine Jm ?_
       try dsimp only [z1, z2, z3, z4, z5, z6, z7, z8]
       obtain rfl := sj H85
       refine bo 4 5 rfl rfl<|Xv 4 rfl (Q7 (p := p_7) rfl pf)<|bo 3 4 rfl rfl<|bo 2 3 rfl rfl<|bo 1 2 rfl rfl<|bo 0 1 rfl rfl<|?_
       refine U9 (v1 := sl p_7 css.length) (v2 := i6 x7) rfl rfl rfl (Y0 (p_7, p_6, b_3) (i := 0) rfl (by first | rfl | rw [(show css.length = l_4.length from pf.len)]) (by first | exact Imp.refl _ | exact Imp.of (by rw [(show css.length = l_4.length from pf.len)] <;> rfl)))
theorem k32c {q0 : (List Int)} {vq0 : Value} {c0 : Nat} {q1 : Int} {pbq1 : Nat} {a0 : Tb} {pb0 : Nat} {p0_2 : AN} {n0_2 : Nat} {m0_3 : Nat} {a1 : Int} {a2 : (List Int)} {v2 : Value} {r : (List Ta) × Int × Int × Tb} {w : World} {h : J1} {S : Nat → Prop} (hcs : (Jw (Jf pbq1 [i6 q1] 3) (Jw (Jf pb0 [str a0.s_, .bool a0.kab, sl p0_2 n0_2, .map (some m0_3), i6 a0.kad, .func (.func 8) #[] #[pz c0, pz pbq1], i6 a0.no_] 76) (Jw (J4 82 2 (sl p0_2 n0_2) n0_2 (a0.kaa.map Jh)) (Qt i6 Value.bool m0_3 a0.kae)))).P S w) (hlt : ∀ b, S b → b < w.heap.size) (hw : Know h w S) (fq0 : FrS h 1 vq0 (q0.map J8)) (hc0 : h c0 = some (.cells (List.toArray [vq0]) 22 (0, 0))) (hn0_2 : n0_2 = a0.kaa.length) (f2 : FrS h 1 v2 (a2.map J8)) (H : Jbk q0 q1 a0 a1 a2 = some r) : Does prog 32 (List.toArray [pz pb0, i6 a1, v2]) w (fun v w' => ∃ x : AN × AN × Nat, v = (.tuple #[.slice x.1.1 r.1.length x.1.2, i6 r.2.1]) ∧ Turn w w' S (Jw (Jf pbq1 [i6 r.2.2.1] 3) (Jw (Jf pb0 [str r.2.2.2.s_, .bool r.2.2.2.kab, .slice x.2.1.1 r.2.2.2.kaa.length x.2.1.2, .map (some x.2.2), i6 r.2.2.2.kad, .func (.func 8) #[] #[pz c0, pz pbq1], i6 r.2.2.2.no_] 76) (Jw (J4 82 2 (.slice x.2.1.1 r.2.2.2.kaa.length x.2.1.2) r.2.2.2.kaa.length (r.2.2.2.kaa.map Jh)) (Jw (Qt i6 Value.bool x.2.2 r.2.2.2.kae) (Uj 95 6 g_tag_Entry (.slice x.1.1 r.1.length x.1.2) r.1.length r.1)))))) := by
 obtain ⟨mm, hm⟩ := Je9 (show Vv (fun (self : ((List Int) × Int × Tb × Int × (List Int)) → Option ((List Ta) × Int × Int × Tb)) (s : (List Int) × Int × Tb × Int × (List Int)) => Qn self s.1 s.2.1 s.2.2.1 s.2.2.2.1 s.2.2.2.2) (q0, q1, a0, a1, a2) = some r from H)
 exact k32c_it mm hcs hlt hw fq0 hc0 hn0_2 f2 hm
end Go.Proofs.YthljoadplekgnaaGreatDoor

namespace Go.Proofs.YthljoadplekgnaaGreatDoor
open Go Go.Vc Go.Md Go.M Go.Lx Tryz
set_option maxRecDepth 100000
set_option maxHeartbeats 4000000
theorem k30 {a0 : (List UInt8)} {r : Bool} (H : U7 a0 = some r) : Ret prog 30 [str a0] (.bool r) := by
 refine Va (n := 14) func30 rfl rfl rfl (fun wd => ?_)
 refine Jc<|Ja<|ag (.bool false)<|Jd<|Jc<|Jc<|Ja<|mv (str a0)<|lv (Yx kcx rfl)<|lv (X3 rfl rfl)<|Jd<|?_
 revert H
 refine ci (decide ((a0.length : Int) < 8)) rfl (fun hb H7=>?_) fun hb H8=>?_
 ·refine Jc<|Ja<|ag (.bool false)<|Jd<|Jm<|?_
  obtain rfl := sj H7
  exact r1 (.bool false)
 ·refine Jj<|Jc<|Ja<|mv (str a0)<|?_
  obtain ⟨t7, h_t7, H9⟩ := Je H8; clear H8
  refine lv (Up kcx rfl rfl h_t7)<|lv (Jh6 rfl rfl)<|mv (.bool (decide (t7 = [73, 73, 42, 0])))<|?_
  revert H9
  refine sp (fun hb H10=>?_) fun hb H11=>?_
  ·refine pa<|pa<|pa<|pT (.bool true)<|ag (.bool true)<|Jd<|Jm<|?_
   obtain rfl := sj H10
   exact r1 (.bool true)
  ·refine mv (str a0) ?_
   obtain ⟨t11, h_t11, H12⟩ := Je H11; clear H11
   refine lv (Up kcx rfl rfl h_t11)<|lv (Jh6 rfl rfl)<|pF (.bool (decide (t11 = [77, 77, 0, 42])))<|ag (.bool (decide (t11 = [77, 77, 0, 42])))<|Jd<|Jm<|?_
   obtain rfl := sj H12
   exact r1 (.bool (decide (t11 = [77, 77, 0, 42])))
theorem k33_34 {a0 : (List Tc)} {p0 : AN} {n0 : Nat} {r : (List Tc)} {w : World} {h : J1} {S : Nat → Prop} (hcs : (J4 82 2 (sl p0 n0) n0 (a0.map Jh)).P S w) (hlt : ∀ b, S b → b < w.heap.size) (_ : Know h w S) (hn0 : n0 = a0.length) (H : Jdv a0 Qf = some r) : Does prog 33 (List.toArray [sl p0 n0, .func (.func 34) #[] #[]]) w (fun v w' => ∃ x : Unit, v = (.tuple #[]) ∧ Turn w w' S (J4 82 2 (sl p0 n0) n0 (r.map Jh))) :=
  sort_func (ρ := Go.Proofs.Tryz.sortFP_ren) Go.Proofs.Tryz.sortFP (k := 2) (fun w => isAgg82 w) (fun w => kcm w) Jh (fun _ => rfl) (fun x v hv => by simp [Jh] at hv; rcases hv with rfl | rfl <;> rfl) Go.Proofs.Tryz.entersP (fun x y v W hv => Go.Proofs.Tryz.cmpP x y v W hv) hcs hlt hn0 H
theorem k33_48 {a0 : (List Tc)} {p0 : AN} {n0 : Nat} {Rq : Type} {kq : (List Tc) → Option Rq} {r : Rq} {w : World} {h : J1} {S : Nat → Prop} (hcs : (J4 82 2 (sl p0 n0) n0 (a0.map Jh)).P S w) (hlt : ∀ b, S b → b < w.heap.size) (_ : Know h w S) (hn0 : n0 = a0.length) (H : Jgt a0 Zm kq = some r) : Does prog 33 (List.toArray [sl p0 n0, .func (.func 48) #[] #[]]) w (fun v w' => ∃ (r_ : _) (x : Unit), kq r_ = some r ∧ v = (.tuple #[]) ∧ Turn w w' S (J4 82 2 (sl p0 n0) n0 (r_.map Jh))) :=
  sort_funcA (ρ := Go.Proofs.Tryz.sortFP_ren) Go.Proofs.Tryz.sortFP (k := 2) (fun w => isAgg82 w) (fun w => kcm w) Jh (fun _ => rfl) (fun x v hv => by simp [Jh] at hv; rcases hv with rfl | rfl <;> rfl) Go.Proofs.Tryz.entersA (fun x y v W hv => Go.Proofs.Tryz.cmpA x y v W hv) hcs hlt hn0 H
theorem k86 {a0 : Int} {r : Bool} (H : Jam a0 = some r) : Ret prog 86 [i6 a0] (.bool r) := by
 refine Va (n := 6) func86 rfl rfl rfl (fun wd => ?_)
 refine Jc<|Ja<|ag (.bool false)<|Jd<|Jc<|Ja<|mv (i6 a0)<|mv (i6 a0)<|lv (Yv rfl rfl)<|ag (.bool (decide (a0 ≠ a0)))<|Jd<|Jm<|?_
 obtain rfl := sj H
 exact r1 (.bool (decide (a0 ≠ a0)))
theorem k49 {a0 : Int} {a1 : Int} {r : Int} (H : cmp_Compare_int a0 a1 = some r) : Ret prog 49 [i6 a0, i6 a1] (i6 r) := by
 refine Va (n := 20) func49 rfl rfl rfl (fun wd => ?_)
 refine Jc<|Ja<|ag (i6 0)<|Jd<|Jc<|Ja<|mv (i6 a0)<|?_
 obtain ⟨t8, h_t8, H13⟩ := Je H; clear H
 refine Yq (k86 h_t8) call86 rfl rfl rfl<|ag (.bool t8)<|Jd<|Jc<|Ja<|mv (i6 a1)<|?_
 obtain ⟨t10, h_t10, H14⟩ := Je H13; clear H13
 refine Yq (k86 h_t10) call86 rfl rfl rfl<|ag (.bool t10)<|Jd<|Jc<|Jc<|Ja<|mv (.bool t8)<|Jd<|?_
 revert H14
 refine ci t8 rfl (fun hb H15=>?_) fun hb H18=>?_
 ·refine Jc<|Jc<|Ja<|mv (.bool t10)<|Jd<|?_
  revert H15
  refine ci t10 rfl (fun hb H16=>?_) fun hb H17=>?_
  ·refine Jc<|Ja<|ag (i6 0)<|Jd<|Jm<|?_
   obtain rfl := sj H16
   exact r1 (i6 0)
  ·refine Jj<|Jc<|Ja<|ag (i6 (-1))<|Jd<|Jm<|?_
   obtain rfl := sj H17
   exact r1 (i6 (-1))
 ·refine Jj<|Jc<|Jc<|Ja<|mv (.bool t10)<|Jd<|?_
  revert H18
  refine ci t10 rfl (fun hb H19=>?_) fun hb H20=>?_
  ·refine Jc<|Ja<|ag (i6 1)<|Jd<|Jm<|?_
   obtain rfl := sj H19
   exact r1 (i6 1)
  ·refine Jj<|Jc<|Jc<|Ja<|mv (i6 a0)<|mv (i6 a1)<|lv (X3 rfl rfl)<|Jd<|?_
   revert H20
   refine ci (decide (a0 < a1)) rfl (fun hb H21=>?_) fun hb H22=>?_
   ·refine Jc<|Ja<|ag (i6 (-1))<|Jd<|Jm<|?_
    obtain rfl := sj H21
    exact r1 (i6 (-1))
   ·refine Jj<|Jc<|Jc<|Ja<|mv (i6 a0)<|mv (i6 a1)<|lv (Yf rfl rfl)<|Jd<|?_
    revert H22
    refine ci (decide (a1 < a0)) rfl (fun hb H23=>?_) fun hb H24=>?_
    ·refine Jc<|Ja<|ag (i6 1)<|Jd<|Jm<|?_
     obtain rfl := sj H23
     exact r1 (i6 1)
    ·refine Jj<|Jc<|Ja<|ag (i6 0)<|Jd<|Jm<|?_
     obtain rfl := sj H24
     exact r1 (i6 0)
theorem k35 {a0 : (List Tc)} {v0 : Value} {r : Bool} {w : World} {h : J1} (hw : Know h w Z0) (f0 : FrS h 2 v0 (a0.map Jh)) (H : Jaw a0 = some r) : Does prog 35 (List.toArray [v0]) w (fun v w' => v = (.bool r) ∧ Grow w w') := by
 refine enter (n := 22) func35 rfl rfl rfl Z0 [] (Sat.nil _ _)<|Jc<|Ja<|ag (.bool false)<|Jd<|Jc<|Jc<|Ja<|ag (i6 1)<|Jd<|Jx<|?_
 refine Za (σ := Int) (τ := Unit) (fun next1 s => Vw a0 next1 s) (fun s t => [(0, v0), (3, i6 s)]) (fun s t => []) (fun s t => True) 1 () [] H (by exact trivial) (by exact ⟨rfl, rfl, trivial⟩) (by decide) rfl ?_
 rintro x3_2 _ m1 gg H10 _
 clear H
 try dsimp only at H10
 generalize hn1 : it (fun next1 s => Vw a0 next1 s) m1 = next1 at H10
 try dsimp only
 refine Jc<|Jc<|Ja<|mv (i6 x3_2)<|mv v0<|lv (Yz kcv rfl f0 rfl)<|lv (X3 rfl rfl)<|Jd<|?_
 revert H10
 refine ci (decide (x3_2 < (a0.length : Int))) rfl (fun hb H11=>?_) fun hb H18=>?_
 ·refine Jj<|Jc<|Jx<|Jc<|?_
  exact Qk (Kd.p :: Kd.p :: Kd.p :: Kd.p :: Kd.d [] _ :: Kd.p :: Kd.p :: Kd.p :: Kd.p :: Kd.p :: Kd.d [] _ :: Kd.p :: []) 0 mixed (by
   refine dm v0<|dm (i6 x3_2)<|?_
   have h_t12 := Jt H11
   have H12 := Jn H11
   refine dv (Xc kcv kcm rfl rfl f0 h_t12)<|dv (Jd0 Tryz.runUnderlying82 rfl kcg rfl rfl (Jc9 f0 h_t12))<|W2 (fun w hF => Qw (f := Jh) (i := x3_2) (sz := 2) (j := 0) (v := i6 (val (Zb a0 x3_2)).From) kbk rfl rfl (f0.row (hw.now hF)) h_t12 rfl) rfl rfl<|dm v0<|dm (i6 x3_2)<|?_
   have h_t17 := Jt H12
   have H13 := Jn H12
   refine dv (Zs rfl rfl h_t17) ?_
   have h_t18 := Jt H13
   have H14 := Jn H13
   refine dv (Xc kcv kcm rfl rfl f0 h_t18)<|dv (Jd0 Tryz.runUnderlying82 rfl kcg rfl rfl (Jc9 f0 h_t18))<|W2 (fun w hF => Qw (f := Jh) (i := (val (gI (x3_2 - 1)))) (sz := 2) (j := 1) (v := i6 (val (Zb a0 (val (gI (x3_2 - 1))))).To) kbk rfl rfl (f0.row (hw.now hF)) h_t18 rfl) rfl rfl<|dv (X3 rfl rfl)<|Xr<|?_
   revert H14
   refine ci (decide ((val (Zb a0 x3_2)).From < (val (Zb a0 (val (gI (x3_2 - 1))))).To)) rfl (fun hb H15=>?_) fun hb H16=>?_
   ·refine Jc<|Ja<|ag (.bool true)<|Jd<|Jm<|?_
    obtain rfl := sj H15
    exact r1 (.bool true)
   ·refine Jj<|Ja<|mv (i6 x3_2)<|?_
    obtain ⟨t9, h_t9, H17⟩ := Je H16; clear H16
    refine lv (Jy rfl rfl h_t9)<|ag (i6 t9)<|Jd<|?_
    exact cl t9 () m1 [] (by exact ⟨(by subst hn1; exact H17), trivial⟩)
   ) (by kernel_rfl)
 ·refine Xj<|Jc<|Ja<|ag (.bool false)<|Jd<|Jm<|?_
  obtain rfl := sj H18
  exact r1 (.bool false)
theorem k7 {a0 : (List UInt8)} {a1 : Nat} {r : Th × (List Tc) × Int} {w : World} {h : J1} (hw : Know h w Z0) (H : Jb5 a0 a1 = some r) : Does prog 7 (List.toArray [str a0, (Yh a1)]) w (fun v w' => ∃ x : AN × AN, v = (.tuple #[.agg #[.bool r.1.Big, .slice x.1.1 r.1.kap.length x.1.2], .slice x.2.1 r.2.1.length x.2.2, i6 r.2.2]) ∧ Turn w w' Z0 (Jw (Uj 24 1 gs_tag_Entry (.slice x.1.1 r.1.kap.length x.1.2) r.1.kap.length r.1.kap) (J4 82 2 (.slice x.2.1 r.2.1.length x.2.2) r.2.1.length (r.2.1.map Jh)))) := by
 refine enter (n := 113) func7 rfl rfl rfl Z0 [] (Sat.nil _ _)<|X8 Q9<|Jc<|Ja<|?_
 refine Xx (cs := [.bool false, z0s]) zeroValue34 rfl rfl rfl (fun b6 => ?_)
 refine ag (z0s)<|ag (i6 0)<|Jd<|Jc<|Jc<|Ja<|mv (str a0)<|lv (Yx kcx rfl)<|lv (Yf rfl rfl)<|Jd<|?_
 revert H
 refine ci (decide (65000 < (a0.length : Int))) rfl (fun hb H30=>?_) fun hb H31=>?_
 ·refine Jc<|Ja<|lv (Xf (pl := #[(0, 1), (1, 1)]) (ps := []) (cells := #[.bool false, z0s]) zeroValue34 Tryz.runUnderlying34 (fun w => by kernel_rfl) rfl rfl)<|st (i := 1) [.bool false, z0s] [.bool false, z0s] kci rfl rfl<|ag (z0s)<|ag (i6 4)<|Jd<|Jm<|Jp 24 1<|Jp 82 2<|?_
  obtain rfl := sj H30
  refine bo 0 2 rfl rfl<|Xv 0 rfl (Q7 (p := nn) rfl (AllC.nil (G := gs_tag_Entry) (h := Q9) (sz := 1)))<|bo 0 3 rfl rfl<|?_
  refine Jfg (i := 1) (vs := [.bool false, sl nn (([] : List (List Value)).length)]) (v2 := sl nn ([] : List Tc).length) (v3 := i6 4) kbm kci rfl rfl rfl rfl rfl rfl (Y0 (nn, nn) (i := 0) rfl (by first | rfl | rw [(show (([] : List (List Value)).length) = ([] : List (List Ta)).length from (AllC.nil (G := gs_tag_Entry) (h := Q9) (sz := 1)).len)]) (by first | exact Imp.refl _ | exact Imp.of (by rw [(show (([] : List (List Value)).length) = ([] : List (List Ta)).length from (AllC.nil (G := gs_tag_Entry) (h := Q9) (sz := 1)).len)] <;> rfl)))
 ·refine Jj<|Jc<|Jc<|Ja<|mv (str a0)<|?_
  obtain ⟨t17, h_t17, H32⟩ := Je H31; clear H31
  refine Yq (k30 h_t17) call30 rfl rfl rfl<|lv (Ja6 rfl)<|Jd<|?_
  revert H32
  refine ci (!t17) rfl (fun hb H33=>?_) fun hb H34=>?_
  ·refine Jc<|Ja<|lv (Xf (pl := #[(0, 1), (1, 1)]) (ps := []) (cells := #[.bool false, z0s]) zeroValue34 Tryz.runUnderlying34 (fun w => by kernel_rfl) rfl rfl)<|st (i := 1) [.bool false, z0s] [.bool false, z0s] kci rfl rfl<|ag (z0s)<|ag (i6 8)<|Jd<|Jm<|Jp 24 1<|Jp 82 2<|?_
   obtain rfl := sj H33
   refine bo 0 2 rfl rfl<|Xv 0 rfl (Q7 (p := nn) rfl (AllC.nil (G := gs_tag_Entry) (h := Q9) (sz := 1)))<|bo 0 3 rfl rfl<|?_
   refine Jfg (i := 1) (vs := [.bool false, sl nn (([] : List (List Value)).length)]) (v2 := sl nn ([] : List Tc).length) (v3 := i6 8) kbm kci rfl rfl rfl rfl rfl rfl (Y0 (nn, nn) (i := 0) rfl (by first | rfl | rw [(show (([] : List (List Value)).length) = ([] : List (List Ta)).length from (AllC.nil (G := gs_tag_Entry) (h := Q9) (sz := 1)).len)]) (by first | exact Imp.refl _ | exact Imp.of (by rw [(show (([] : List (List Value)).length) = ([] : List (List Ta)).length from (AllC.nil (G := gs_tag_Entry) (h := Q9) (sz := 1)).len)] <;> rfl)))
  ·refine Jj<|Jc<|Ja<|mv (str a0)<|mv (str a0)<|?_
   obtain ⟨t22, h_t22, H35⟩ := Je H34; clear H34
   refine lv (Jc8 kcx rfl rfl h_t22)<|lv (Qj rfl rfl)<|?_
   refine V8 (rds := []) (Jf3 (fk := i6) (fv := Value.bool)) rfl rfl rfl (fun b7 => ?_)
   refine mv ((Yh a1))<|lv (Xf (pl := #[(0, 1), (1, 1), (2, 1), (3, 1), (4, 1), (5, 1), (6, 1)]) (ps := [(0, str a0), (1, .bool (decide (t22 = 77))), (3, .map (some b7)), (5, (Yh a1))]) (cells := #[str a0, .bool (decide (t22 = 77)), z0s, .map (some b7), i6 0, (Yh a1), i6 0]) zeroValue76 Tryz.runUnderlying76 (fun w => by kernel_rfl) rfl (by generalize (a1 : Nat) = fz0_; rcases fz0_ with _ | _ <;> rfl))<|?_
   refine W1 (cs := [str a0, .bool (decide (t22 = 77)), z0s, .map (some b7), i6 0, (Yh a1), i6 0]) rfl rfl rfl rfl (fun b8 => ?_)
   refine ag (pz b8)<|Jd<|Jc<|?_
   try dsimp only [z1,z2,z5,z6,z7,z8]
   refine Ja<|mv (pz b8)<|lv (Jg rfl)<|lf Tryz.runUnderlying76 rfl kck rfl<|ll 3 (.bool (decide (t22 = 77))) kbo<|lv (Xf (pl := #[(0, 1), (1, 1)]) (ps := [(0, .bool (decide (t22 = 77)))]) (cells := #[.bool (decide (t22 = 77)), z0s]) zeroValue34 Tryz.runUnderlying34 (fun w => by kernel_rfl) rfl rfl)<|?_
   refine Xx (cs := [.bool false, z0s]) zeroValue34 rfl rfl rfl (fun b9 => ?_)
   refine st (i := 4) [.bool (decide (t22 = 77)), z0s] [.bool (decide (t22 = 77)), z0s] kci rfl rfl<|Jd<|?_
   refine Qg (r := r) (σ := (List UInt8) × Bool × Int × Nat × Int × (List Tc) × (List (List Ta)) × (List (Int × Bool))) (τ := AN × AN × Nat) (fun s => Zy t22 s.1 s.2.1 s.2.2.1 s.2.2.2.1 s.2.2.2.2.1 s.2.2.2.2.2.1 s.2.2.2.2.2.2.1 s.2.2.2.2.2.2.2) (fun s t => [(4, pz b6), (7, pz b8), (8, pz b9)]) (fun s t => [Xm Q9 Q9, Jf b6 [.bool false, z0s] 34, Qt i6 Value.bool t.2.2 s.2.2.2.2.2.2.2, Jf b8 [str s.1, .bool s.2.1, .slice t.1.1 s.2.2.2.2.2.1.length t.1.2, .map (some t.2.2), i6 s.2.2.1, (Yh s.2.2.2.1), i6 s.2.2.2.2.1] 76, Jf b9 [.bool (decide (t22 = 77)), .slice t.2.1.1 s.2.2.2.2.2.2.1.length t.2.1.2] 34, J4 82 2 (.slice t.1.1 s.2.2.2.2.2.1.length t.1.2) s.2.2.2.2.2.1.length (s.2.2.2.2.2.1.map Jh), Uj 24 1 gs_tag_Entry (.slice t.2.1.1 s.2.2.2.2.2.2.1.length t.2.1.2) s.2.2.2.2.2.2.1.length s.2.2.2.2.2.2.1]) (fun s t => True) ?_ ?_
   ·refine Jc<|Ja<|mv (pz b8)<|?_
    obtain ⟨t34, h_t34, H50⟩ := Je H35; clear H35
    refine Qb (fun w hF hS => k31 (a0 := (⟨a0, (decide (t22 = 77)), ([] : (List Tc)), ([] : (List (Int × Bool))), 0, a1, 0⟩ : Tb)) (Jq w) (FrS.nil _ _) (Q6 (fk := i6) (fv := Value.bool) (i := 2) hS rfl) (Ql (i := 3) hS rfl) h_t34) kbe rfl rfl rfl<|ag (i6 t34)<|Jd<|Jx<|Jp 82 2<|Jp 24 1<|X8 Q9<|?_
    try dsimp only [z1,z2,z5,z6,z7,z8]
    refine bo 7 6 rfl rfl ?_
    try dsimp only [z1,z2,z5,z6,z7,z8]
    refine Xv 7 rfl (Jaj (css := []) (xs := ([] : List (List Ta))) (p := nn) rfl (AllC.nil (G := gs_tag_Entry) (h := Q9) (sz := 1))) ?_
    refine Za (σ := Int × (List UInt8) × Bool × Int × Nat × Int × (List Tc) × (List (List Ta)) × (List (Int × Bool))) (τ := AN × AN × Nat) (fun next4 s => Uv t22 next4 s.1 s.2.1 s.2.2.1 s.2.2.2.1 s.2.2.2.2.1 s.2.2.2.2.2.1 s.2.2.2.2.2.2.1 s.2.2.2.2.2.2.2.1 s.2.2.2.2.2.2.2.2) (fun s t => [(4, pz b6), (7, pz b8), (8, pz b9), (9, i6 s.1)]) (fun s t => [Xm Q9 Q9, Jf b6 [.bool false, z0s] 34, Qt i6 Value.bool t.2.2 s.2.2.2.2.2.2.2.2, Jf b8 [str s.2.1, .bool s.2.2.1, .slice t.1.1 s.2.2.2.2.2.2.1.length t.1.2, .map (some t.2.2), i6 s.2.2.2.1, (Yh s.2.2.2.2.1), i6 s.2.2.2.2.2.1] 76, Jf b9 [.bool (decide (t22 = 77)), .slice t.2.1.1 s.2.2.2.2.2.2.2.1.length t.2.1.2] 34, J4 82 2 (.slice t.1.1 s.2.2.2.2.2.2.1.length t.1.2) s.2.2.2.2.2.2.1.length (s.2.2.2.2.2.2.1.map Jh), Uj 24 1 gs_tag_Entry (.slice t.2.1.1 s.2.2.2.2.2.2.2.1.length t.2.1.2) s.2.2.2.2.2.2.2.1.length s.2.2.2.2.2.2.2.1]) (fun s t => True) (t34, a0, (decide (t22 = 77)), 0, a1, 0, ([] : List Tc), ([] : List (List Ta)), ([] : (List (Int × Bool)))) (nn, nn, b7) [0, 1, 2, 3, 4, 5, 7] H50 (by exact trivial) (by exact ⟨rfl, rfl, rfl, rfl, trivial⟩) (by decide) rfl ?_
    rintro ⟨x9_2, m_13, m_14, m_15, m_16, m_17, l_5, l_6, mp_3⟩ ⟨p_3, p_4, b_2⟩ m4 gg H51 _
    clear H50
    try dsimp only at H51
    generalize hn4 : it (fun next4 s => Uv t22 next4 s.1 s.2.1 s.2.2.1 s.2.2.2.1 s.2.2.2.2.1 s.2.2.2.2.2.1 s.2.2.2.2.2.2.1 s.2.2.2.2.2.2.2.1 s.2.2.2.2.2.2.2.2) m4 = next4 at H51
    try dsimp only
    refine Jc<|Jc<|?_
    try dsimp only [z1,z2,z5,z6,z7,z8]
    refine Ja<|mv (i6 x9_2)<|lv (Yv rfl rfl)<|mv (.bool (decide (x9_2 ≠ 0)))<|?_
    revert H51
    refine sp (fun hb H52=>?_) fun hb H58=>?_
    ·refine mv (pz b8)<|lv (Jg rfl)<|lf Tryz.runUnderlying76 rfl kcf rfl<|ll 3 (i6 m_17) kbj<|lv (Qj rfl rfl)<|pT (.bool (decide (m_17 = 0)))<|Jd<|?_
     revert H52
     refine ci (decide (m_17 = 0)) rfl (fun hb H53=>?_) fun hb H57=>?_
     ·refine Jj<|Jx<|Jc<|Ja<|mv (pz b8)<|lv (Jg rfl)<|lf Tryz.runUnderlying76 rfl kcg rfl<|ll 3 (i6 m_15) kbk<|?_
      obtain ⟨t48, h_t48, H54⟩ := Je H53; clear H53
      refine lv (Jy rfl rfl h_t48)<|lv (Jg rfl)<|lf Tryz.runUnderlying76 rfl kcg rfl<|st (i := 3) [i6 t48] [str m_13, .bool m_14, sl p_3 l_5.length, .map (some b_2), i6 t48, (Yh m_16), i6 m_17] kcg rfl rfl<|Jd<|Jc<|Ja<|mv (pz b8)<|mv (i6 x9_2)<|lf Tryz.runUnderlying34 rfl kch rfl<|ll 4 (sl p_4 l_6.length) kbl<|lv (Jdl kcu rfl)<|?_
      refine Q5 (vs := [i6 (l_6.length : Int)]) (cs := [i6 (l_6.length : Int)]) kcr kcg zeroValue3 rfl rfl rfl rfl rfl rfl rfl (fun b10 => ?_)
      obtain ⟨t58, h_t58, H55⟩ := Je H54; clear H54
      refine bo 5 2 rfl rfl<|bo 3 5 rfl rfl<|?_
      refine Qh (Jv (i := 3) (rds := [7]) rfl (fun w L' S hF hS hi hp hlt ho hA => k32 (a0 := (⟨m_13, m_14, l_5, mp_3, t48, m_16, m_17⟩ : Tb)) hp hlt (J7 w S) rfl (frb_box (j := 7) (xs := ([(l_6.length : Int)] : List Int)) (f := J8) hA hS (by decide) ((hi 7 (by simp)).trans rfl) rfl rfl rfl rfl) h_t58) call32 rfl) rfl rfl rfl (fun ⟨p_5, p_6, p_7⟩ => ?_)
      refine ub 3 5 rfl rfl<|ub 5 2 rfl rfl<|Qd 2 rfl<|mv (.tuple #[sl p_5 t58.1.length, i6 t58.2.1])<|lv (J9 (v := sl p_5 t58.1.length) rfl rfl)<|lv (J9 (v := i6 t58.2.1) rfl rfl)<|ag (sl p_5 t58.1.length)<|ag (i6 t58.2.1)<|Jd<|Jc<|?_
      refine Jcd 6 rfl (fun hp css hn pf => ?_)
      rw [hn]
      try dsimp only [z1,z2,z5,z6,z7,z8]
      refine Qd 6 rfl ?_
      try dsimp only [z1,z2,z5,z6,z7,z8]
      refine Z9 0 6 rfl rfl (by decide) (fun _ _ => Zc) (fun hp_2 hle hle_2 => ?_)
      try dsimp only [z1,z2,z5,z6,z7,z8]
      refine Ja<|lf Tryz.runUnderlying34 rfl kch rfl<|ll 4 (sl p_4 css.length) kbl<|mv (sl p_5 t58.1.length)<|?_
      refine Q5 (vs := [sl p_5 t58.1.length]) (cs := [sl p_5 t58.1.length]) kcu kcd zeroValue24 rfl rfl rfl rfl rfl rfl rfl (fun b11 => ?_)
      refine Jcd 8 rfl (fun hp_3 css_2 hn_2 pf_2 => ?_)
      rw [hn_2]
      try dsimp only [z1,z2,z5,z6,z7,z8]
      refine Qd 8 rfl ?_
      try dsimp only [z1,z2,z5,z6,z7,z8]
      refine Z9 0 8 rfl rfl (by decide) (fun _ _ => Zc) (fun hp_4 hle_3 hle_4 => ?_)
      try dsimp only [z1,z2,z5,z6,z7,z8]
      refine Uc (Φ := fun H_ => FrS H_ 6 (sl p_5 css_2.length) (css_2.map idC)) 0 11 rfl rfl (by decide) (fun _ _ => Zc) (Jb9 _) (fun hp_5 hle_5 hf => ?_)
      obtain ⟨l65, h_l65, H56⟩ := Je H55; clear H55
      refine Qh (Jal (i := 9) (k := 10) (p := p_4) (f := idC) (ys := css) (ls := [[sl p_5 css_2.length]]) kcu (X0 typeInfo24) rfl rfl rfl rfl rfl rfl rfl rfl rfl rfl rfl rfl rfl rfl (by simp only [idC, List.map_cons, List.map_nil, List.all_cons, List.all_nil, (Ja8 (xs := t58.1) hf ((pf_2.mono hle_4).mono hle_5)).one] <;> rfl) (app63 ((((pf.mono hle_2).mono hle_3).mono hle_5).app h_l65 (nc := [[sl p_5 css_2.length]]) rfl)) rfl) rfl rfl rfl (fun p_8 => ?_)
      have pf_3 : AllC gs_tag_Entry hp_5 1 (css ++ [[Value.slice p_5.1 css_2.length p_5.2]]) l65 := AllC.snocG (((pf.mono hle_2).mono hle_3).mono hle_5) h_l65 rfl ((Ja8 (xs := t58.1) hf ((pf_2.mono hle_4).mono hle_5)))
      refine lf Tryz.runUnderlying34 rfl kch rfl<|st (i := 4) [sl p_8 ((css ++ [[Value.slice p_5.1 css_2.length p_5.2]]).length)] [.bool (decide (t22 = 77)), sl p_8 ((css ++ [[Value.slice p_5.1 css_2.length p_5.2]]).length)] kch rfl rfl<|Jd<|?_
      try dsimp only [z1,z2,z5,z6,z7,z8]
      refine bo 0 9 rfl rfl ?_
      try dsimp only [z1,z2,z5,z6,z7,z8]
      refine Xv 0 rfl (Jaj (p := p_8) rfl pf_3) ?_
      (try rw [show ((css ++ [[Value.slice p_5.1 css_2.length p_5.2]]).length) = l65.length from pf_3.len])
      refine X8 Q9<|c_sel [12, 1, 2, 3, 4, 5, 6, 7, 8, 0, 10, 11] [Xm Q9 Q9, Jf b6 [.bool false, z0s] 34, Qt i6 Value.bool p_7 t58.2.2.kae, Jf b8 [str t58.2.2.s_, .bool t58.2.2.kab, sl p_6 t58.2.2.kaa.length, .map (some p_7), i6 t58.2.2.kad, (Yh t58.2.2.kac), i6 t58.2.2.no_] 76, Jf b9 [.bool (decide (t22 = 77)), sl p_8 l65.length] 34, J4 82 2 (sl p_6 t58.2.2.kaa.length) t58.2.2.kaa.length (t58.2.2.kaa.map Jh), _, Jf b10 [i6 (css.length : Int)] 3, _, Uj 24 1 gs_tag_Entry (sl p_8 l65.length) l65.length l65, Jf b11 [sl p_5 css_2.length] 24, _] rfl (by decide)<|?_
      try dsimp only [z1,z2,z5,z6,z7,z8]
      refine Ja<|mv (i6 t58.2.1)<|ag (i6 t58.2.1)<|Jd<|?_
      exact cl (t58.2.1, t58.2.2.s_, t58.2.2.kab, t58.2.2.kad, t58.2.2.kac, t58.2.2.no_, t58.2.2.kaa, l65, t58.2.2.kae) (p_6, p_8, p_7) m4 [0, 1, 2, 3, 4, 5, 9] (by exact ⟨(by subst hn4; exact H56), trivial⟩)
     ·refine Xj ?_
      exact cl (m_13, m_14, m_15, m_16, m_17, l_5, l_6, mp_3) (p_3, p_4, b_2) 0 [0, 1, 2, 3, 4, 5, 6] (by exact ⟨H57, trivial⟩)
    ·refine pa<|pa<|pa<|pa<|pa<|pF (.bool false)<|Jd<|Zz rfl<|Xj<|?_
     exact cl (m_13, m_14, m_15, m_16, m_17, l_5, l_6, mp_3) (p_3, p_4, b_2) 0 [0, 1, 2, 3, 4, 5, 6] (by exact ⟨H58, trivial⟩)
   ·rintro ⟨m, m_2, m_3, m_4, m_5, l, l_2, mp⟩ ⟨p, p_2, b⟩ gg H36 _
    try dsimp only at H36
    try dsimp only
    refine Jc<|Ja<|mv (pz b8)<|lv (Jg rfl)<|lf Tryz.runUnderlying76 rfl kcj rfl<|ll 3 (sl p l.length) kbn<|?_
    obtain ⟨t72, h_t72, H37⟩ := Je H36; clear H36
    refine Qh (Jv (i := 5) (rds := []) (G := fun x : Unit => .tuple #[]) (C := fun x : Unit => J4 82 2 (sl p l.length) l.length (t72.map Jh)) rfl (fun w L' S hF hS hi hp hlt ho hA => k33_34 hp hlt (J7 w S) rfl h_t72) call33 rfl) rfl rfl rfl (fun _ => ?_)
    refine c_know (fun w hF hS => lenOf (i := 5) hS rfl) (fun hl_ => ?_)
    have hl : l.length = t72.length := by simpa using hl_.symm
    refine Jd ?_
    refine Qg (r := r) (σ := Int) (τ := Unit) (fun s => Zd t22 l_2 t72 s) (fun s t => [(4, pz b6), (7, pz b8), (8, pz b9)]) (fun s t => [Xm Q9 Q9, Jf b6 [.bool false, z0s] 34, Qt i6 Value.bool b mp, Jf b8 [str m, .bool m_2, sl p l.length, .map (some b), i6 m_3, (Yh m_4), i6 s] 76, Jf b9 [.bool (decide (t22 = 77)), sl p_2 l_2.length] 34, J4 82 2 (sl p l.length) l.length (t72.map Jh), Uj 24 1 gs_tag_Entry (sl p_2 l_2.length) l_2.length l_2]) (fun s t => True) ?_ ?_
    ·refine Jc<|Ja<|mv (pz b8)<|lv (Jg rfl)<|lf Tryz.runUnderlying76 rfl kcf rfl<|ll 3 (i6 m_5) kbj<|lv (Qj rfl rfl)<|mv (.bool (decide (m_5 = 0)))<|?_
     revert H37
     refine sp (fun hb H45=>?_) fun hb H49=>?_
     ·refine mv (pz b8)<|lv (Jg rfl)<|lf Tryz.runUnderlying76 rfl kcj rfl<|ll 3 (sl p l.length) kbn<|?_
      obtain ⟨t83, h_t83, H46⟩ := Je H45; clear H45
      refine Qb (fun w hF hS => k35 (Jq w) (Xl (i := 5) hl hS rfl) h_t83) call35 rfl rfl rfl<|pT (.bool t83)<|Jd<|?_
      revert H46
      refine ci t83 rfl (fun hb H47=>?_) fun hb H48=>?_
      ·refine Ja<|mv (pz b8)<|lv (Jg rfl)<|lf Tryz.runUnderlying76 rfl kcf rfl<|st (i := 3) [i6 6] [str m, .bool m_2, sl p l.length, .map (some b), i6 m_3, (Yh m_4), i6 6] kcf rfl rfl<|Jd<|?_
       exact cl 6 () 0 [0, 1, 2, 3, 4, 5, 6] (by exact ⟨H47, trivial⟩)
      ·refine Jj ?_
       exact cl m_5 () 0 [0, 1, 2, 3, 4, 5, 6] (by exact ⟨H48, trivial⟩)
     ·refine pa<|pa<|pa<|pa<|pa<|pF (.bool false)<|Jd<|Zz rfl<|Jj<|?_
      exact cl m_5 () 0 [0, 1, 2, 3, 4, 5, 6] (by exact ⟨H49, trivial⟩)
    ·rintro m_6 _ gg H38 _
     try dsimp only at H38
     try dsimp only
     refine Qg (r := r) (σ := Int) (τ := Unit) (fun s => Ze t22 l_2 t72 s) (fun s t => [(4, pz b6), (7, pz b8), (8, pz b9)]) (fun s t => [Xm Q9 Q9, Jf b6 [.bool false, z0s] 34, Qt i6 Value.bool b mp, Jf b8 [str m, .bool m_2, sl p l.length, .map (some b), i6 m_3, (Yh m_4), i6 s] 76, Jf b9 [.bool (decide (t22 = 77)), sl p_2 l_2.length] 34, J4 82 2 (sl p l.length) l.length (t72.map Jh), Uj 24 1 gs_tag_Entry (sl p_2 l_2.length) l_2.length l_2]) (fun s t => True) ?_ ?_
     ·refine Jc<|Ja<|mv (pz b8)<|lv (Jg rfl)<|lf Tryz.runUnderlying76 rfl kcf rfl<|ll 3 (i6 m_6) kbj<|lv (Qj rfl rfl)<|Jd<|?_
      revert H38
      refine ci (decide (m_6 = 0)) rfl (fun hb H42=>?_) fun hb H44=>?_
      ·refine Ja<|mv (pz b8)<|Xb (i := 4) (vs := [.bool (decide (t22 = 77)), sl p_2 l_2.length]) kbm kci rfl rfl rfl rfl rfl<|?_
       obtain ⟨t95, h_t95, H43⟩ := Je H42; clear H42
       refine Qb (fun w hF hS => k36 (Jq w) (Jgx (i := 6) hS rfl) h_t95) call36 rfl rfl rfl<|lv (Jg rfl)<|lf Tryz.runUnderlying76 rfl kcf rfl<|st (i := 3) [i6 t95] [str m, .bool m_2, sl p l.length, .map (some b), i6 m_3, (Yh m_4), i6 t95] kcf rfl rfl<|Jd<|?_
       exact cl t95 () 0 [0, 1, 2, 3, 4, 5, 6] (by exact ⟨H43, trivial⟩)
      ·refine Jj ?_
       exact cl m_6 () 0 [0, 1, 2, 3, 4, 5, 6] (by exact ⟨H44, trivial⟩)
     ·rintro m_7 _ gg H39 _
      try dsimp only at H39
      try dsimp only
      refine Jc<|Jc<|Ja<|mv (pz b8)<|lv (Jg rfl)<|lf Tryz.runUnderlying76 rfl kcf rfl<|ll 3 (i6 m_7) kbj<|lv (Yv rfl rfl)<|Jd<|?_
      revert H39
      refine ci (decide (m_7 ≠ 0)) rfl (fun hb H40=>?_) fun hb H41=>?_
      ·refine Jc ?_
       exact Qk (Kd.p :: Kd.p :: Kd.p :: Kd.p :: Kd.d [3] _ :: Kd.sv 4 103 1 _ 34 :: Kd.p :: Kd.p :: []) 0 mixed (by
        refine dv (Xf (pl := #[(0, 1), (1, 1)]) (ps := []) (cells := #[.bool false, z0s]) zeroValue34 Tryz.runUnderlying34 (fun w => by kernel_rfl) rfl rfl)<|dm (pz b8)<|dv (Jg rfl)<|dv (J2 Tryz.runUnderlying76 rfl kcf rfl rfl)<|dl (i6 m_7) kbj<|Jdf (i := 1) (vs := [.bool false, z0s]) (cs' := fun v_ => [(vcell v_ 0), (vcell v_ 1)]) kci rfl rfl rfl rfl rfl rfl rfl rfl rfl<|Qv rfl rfl (Jz (v := z0s) rfl)<|Qv rfl rfl (Jz (v := i6 m_7) rfl)<|Xr<|Jm<|Jp 24 1<|Jp 82 2<|?_
        obtain rfl := sj H40
        refine bo 0 7 rfl rfl<|Xv 0 rfl (Q7 (p := nn) rfl (AllC.nil (G := gs_tag_Entry) (h := Q9) (sz := 1)))<|bo 0 8 rfl rfl<|?_
        refine Jfg (i := 1) (vs := [.bool false, sl nn (([] : List (List Value)).length)]) (v2 := sl nn ([] : List Tc).length) (v3 := i6 m_7) kbm kci rfl rfl rfl rfl rfl rfl (Y0 (nn, nn) (i := 0) rfl (by first | rfl | rw [(show (([] : List (List Value)).length) = ([] : List (List Ta)).length from (AllC.nil (G := gs_tag_Entry) (h := Q9) (sz := 1)).len)]) (by first | exact Imp.refl _ | exact Imp.of (by rw [(show (([] : List (List Value)).length) = ([] : List (List Ta)).length from (AllC.nil (G := gs_tag_Entry) (h := Q9) (sz := 1)).len)] <;> rfl)))
        ) (by kernel_rfl)
      ·refine Jj<|Jc<|?_
       try dsimp only [z1,z2,z5,z6,z7,z8]
       exact Qk (Kd.d [4] _ :: Kd.p :: Kd.p :: Kd.p :: Kd.d [3] _ :: Kd.sv 4 108 1 _ 34 :: Kd.p :: Kd.p :: []) 0 mixed (by
        refine Jc1 (i := 4) (vs := [.bool (decide (t22 = 77)), sl p_2 l_2.length]) kbm kci rfl rfl rfl rfl<|dm (pz b8)<|dv (Jg rfl)<|dv (J2 Tryz.runUnderlying76 rfl kcj rfl rfl)<|dl (sl p l.length) kbn<|Jdf (i := 1) (vs := [.bool (decide (t22 = 77)), sl p_2 l_2.length]) (cs' := fun v_ => [(vcell v_ 0), (vcell v_ 1)]) kci rfl rfl rfl rfl rfl rfl rfl rfl rfl<|Qv rfl rfl (Jz (v := sl p l.length) rfl)<|Qv rfl rfl (Jz (v := i6 0) rfl)<|Xr<|Jm<|?_
        obtain rfl := sj H41
        refine bo 6 5 rfl rfl ?_
        refine Jfg (i := 1) (vs := [.bool (decide (t22 = 77)), sl p_2 l_2.length]) (v2 := sl p l.length) (v3 := i6 0) kbm kci rfl rfl rfl rfl rfl rfl (Y0 (p_2, p) (i := 6) rfl (by first | rfl | rw [(show l.length = t72.length from hl)]) (by first | exact Imp.refl _ | exact Imp.of (by rw [(show l.length = t72.length from hl)] <;> rfl)))
        ) (by kernel_rfl)
theorem k19 {a0 : (List UInt8)} {r : Th × Int} {w : World} {h : J1} (hw : Know h w Z0) (H : Ji6 a0 = some r) : Does prog 19 (List.toArray [str a0]) w (fun v w' => ∃ x : AN, v = (.tuple #[.agg #[.bool r.1.Big, sl x r.1.kap.length], i6 r.2]) ∧ Turn w w' Z0 (Uj 24 1 gs_tag_Entry (sl x r.1.kap.length) r.1.kap.length r.1.kap)) := by
 refine enter (n := 15) func19 rfl rfl rfl Z0 [] (Sat.nil _ _)<|X8 Q9<|Jc<|Ja<|?_
 refine Xx (cs := [.bool false, z0s]) zeroValue34 rfl rfl rfl (fun b2 => ?_)
 refine ag (i6 0)<|Jd<|Jc<|Ja<|mv (str a0)<|?_
 obtain ⟨t9, h_t9, H2⟩ := Je H; clear H
 refine V8 (Yy (rds := []) (fun w L' hF hS hi => k7 (Jq w)  h_t9) call7 rfl) rfl rfl rfl (fun ⟨p, p_2⟩ => ?_)
 refine Qd 2 rfl ?_
 refine Jcd 2 rfl (fun hp css hn pf => ?_)
 rw [hn]
 refine Qd 2 rfl ?_
 refine Z9 0 2 rfl rfl (by decide) (fun _ _ => Zc) (fun hp_2 hle hle_2 => ?_)
 refine mv (.tuple #[.agg #[.bool t9.1.Big, sl p css.length], sl p_2 t9.2.1.length, i6 t9.2.2])<|lv (J9 (v := .agg #[.bool t9.1.Big, sl p css.length]) rfl rfl)<|lv (J9 (v := sl p_2 t9.2.1.length) rfl rfl)<|lv (J9 (v := i6 t9.2.2) rfl rfl)<|?_
 refine Xx (cs := [.bool false, z0s]) zeroValue34 rfl rfl rfl (fun b3 => ?_)
 refine st (i := 5) [.bool t9.1.Big, sl p css.length] [.bool t9.1.Big, sl p css.length] kci rfl rfl<|ag (sl p_2 t9.2.1.length)<|ag (i6 t9.2.2)<|Jd<|?_
 try dsimp only [z1,z2,z5,z6,z7,z8]
 refine Jc<|Ja<|Xb (i := 5) (vs := [.bool t9.1.Big, sl p css.length]) kbm kci rfl rfl rfl rfl rfl<|mv (i6 t9.2.2)<|st (i := 1) [.bool t9.1.Big, sl p css.length] [.bool t9.1.Big, sl p css.length] kci rfl rfl<|ag (i6 t9.2.2)<|Jd<|?_
 try dsimp only [z1,z2,z5,z6,z7,z8]
 refine Jm ?_
 obtain rfl := sj H2
 refine bo 0 4 rfl rfl<|Xv 0 rfl (Q7 (p := p) rfl (pf.mono hle_2))<|?_
 refine Jad (i := 1) (vs := [.bool t9.1.Big, sl p css.length]) (v2 := i6 t9.2.2) kbm kci rfl rfl rfl rfl rfl (Y0 p (i := 0) rfl (by first | rfl | rw [(show css.length = t9.1.kap.length from hn.symm)]) (by first | exact Imp.refl _ | exact Imp.of (by rw [(show css.length = t9.1.kap.length from hn.symm)] <;> rfl)))
theorem k7c {q0 : (List Int)} {vq0 : Value} {c0 : Nat} {q1 : Int} {pbq1 : Nat} {a0 : (List UInt8)} {a1 : Nat} {r : Th × (List Tc) × Int × Int} {w : World} {h : J1} {S : Nat → Prop} (hcs : (Jf pbq1 [i6 q1] 3).P S w) (hlt : ∀ b, S b → b < w.heap.size) (hw : Know h w S) (fq0 : FrS h 1 vq0 (q0.map J8)) (hc0 : h c0 = some (.cells (List.toArray [vq0]) 22 (0, 0))) (H : Jfz q0 q1 a0 a1 = some r) : Does prog 7 (List.toArray [str a0, .func (.func 8) #[] #[pz c0, pz pbq1]]) w (fun v w' => ∃ x : AN × AN, v = (.tuple #[.agg #[.bool r.1.Big, .slice x.1.1 r.1.kap.length x.1.2], .slice x.2.1 r.2.1.length x.2.2, i6 r.2.2.1]) ∧ Turn w w' S (Jw (Jf pbq1 [i6 r.2.2.2] 3) (Jw (Uj 24 1 gs_tag_Entry (.slice x.1.1 r.1.kap.length x.1.2) r.1.kap.length r.1.kap) (J4 82 2 (.slice x.2.1 r.2.1.length x.2.2) r.2.1.length (r.2.1.map Jh))))) := by
 refine enter (n := 113) func7 rfl rfl rfl S [Jf pbq1 [i6 q1] 3] (Sat.one hcs hlt)<|X8 Q9<|Jc<|Ja<|?_
 refine Xx (cs := [.bool false, z0s]) zeroValue34 rfl rfl rfl (fun b6 => ?_)
 refine ag (z0s)<|ag (i6 0)<|Jd<|Jc<|Jc<|Ja<|mv (str a0)<|lv (Yx kcx rfl)<|lv (Yf rfl rfl)<|Jd<|?_
 revert H
 refine ci (decide (65000 < (a0.length : Int))) rfl (fun hb H30=>?_) fun hb H31=>?_
 ·refine Jc<|Ja<|lv (Xf (pl := #[(0, 1), (1, 1)]) (ps := []) (cells := #[.bool false, z0s]) zeroValue34 Tryz.runUnderlying34 (fun w => by kernel_rfl) rfl rfl)<|st (i := 2) [.bool false, z0s] [.bool false, z0s] kci rfl rfl<|ag (z0s)<|ag (i6 4)<|Jd<|Jm<|?_
  try dsimp only [z1, z2, z3, z4, z5, z6, z7, z8]
  refine Jp 24 1<|Jp 82 2<|?_
  obtain rfl := sj H30
  refine bo 1 3 rfl rfl<|Xv 1 rfl (Q7 (p := nn) rfl (AllC.nil (G := gs_tag_Entry) (h := Q9) (sz := 1)))<|bo 1 4 rfl rfl<|bo 0 1 rfl rfl<|?_
  refine Jfg (i := 2) (vs := [.bool false, sl nn (([] : List (List Value)).length)]) (v2 := sl nn ([] : List Tc).length) (v3 := i6 4) kbm kci rfl rfl rfl rfl rfl rfl (Y0 (nn, nn) (i := 0) rfl (by first | rfl | rw [(show (([] : List (List Value)).length) = ([] : List (List Ta)).length from (AllC.nil (G := gs_tag_Entry) (h := Q9) (sz := 1)).len)]) (by first | exact Imp.refl _ | exact Imp.of (by rw [(show (([] : List (List Value)).length) = ([] : List (List Ta)).length from (AllC.nil (G := gs_tag_Entry) (h := Q9) (sz := 1)).len)] <;> rfl)))
 ·refine Jj<|Jc<|Jc<|?_
  try dsimp only [z1,z2,z5,z6,z7,z8]
  refine Ja<|mv (str a0)<|?_
  obtain ⟨t17, h_t17, H32⟩ := Je H31; clear H31
  refine Yq (k30 h_t17) call30 rfl rfl rfl<|lv (Ja6 rfl)<|Jd<|?_
  revert H32
  refine ci (!t17) rfl (fun hb H33=>?_) fun hb H34=>?_
  ·refine Jc<|Ja<|lv (Xf (pl := #[(0, 1), (1, 1)]) (ps := []) (cells := #[.bool false, z0s]) zeroValue34 Tryz.runUnderlying34 (fun w => by kernel_rfl) rfl rfl)<|st (i := 2) [.bool false, z0s] [.bool false, z0s] kci rfl rfl<|ag (z0s)<|ag (i6 8)<|Jd<|Jm<|?_
   try dsimp only [z1, z2, z3, z4, z5, z6, z7, z8]
   refine Jp 24 1<|Jp 82 2<|?_
   obtain rfl := sj H33
   refine bo 1 3 rfl rfl<|Xv 1 rfl (Q7 (p := nn) rfl (AllC.nil (G := gs_tag_Entry) (h := Q9) (sz := 1)))<|bo 1 4 rfl rfl<|bo 0 1 rfl rfl<|?_
   refine Jfg (i := 2) (vs := [.bool false, sl nn (([] : List (List Value)).length)]) (v2 := sl nn ([] : List Tc).length) (v3 := i6 8) kbm kci rfl rfl rfl rfl rfl rfl (Y0 (nn, nn) (i := 0) rfl (by first | rfl | rw [(show (([] : List (List Value)).length) = ([] : List (List Ta)).length from (AllC.nil (G := gs_tag_Entry) (h := Q9) (sz := 1)).len)]) (by first | exact Imp.refl _ | exact Imp.of (by rw [(show (([] : List (List Value)).length) = ([] : List (List Ta)).length from (AllC.nil (G := gs_tag_Entry) (h := Q9) (sz := 1)).len)] <;> rfl)))
  ·refine Jj<|Jc<|?_
   try dsimp only [z1,z2,z5,z6,z7,z8]
   refine Ja<|mv (str a0)<|mv (str a0)<|?_
   obtain ⟨t22, h_t22, H35⟩ := Je H34; clear H34
   refine lv (Jc8 kcx rfl rfl h_t22)<|lv (Qj rfl rfl)<|?_
   refine V8 (rds := []) (Jf3 (fk := i6) (fv := Value.bool)) rfl rfl rfl (fun b7 => ?_)
   refine mv (.func (.func 8) #[] #[pz c0, pz pbq1])<|lv (Xf (pl := #[(0, 1), (1, 1), (2, 1), (3, 1), (4, 1), (5, 1), (6, 1)]) (ps := [(0, str a0), (1, .bool (decide (t22 = 77))), (3, .map (some b7)), (5, .func (.func 8) #[] #[pz c0, pz pbq1])]) (cells := #[str a0, .bool (decide (t22 = 77)), z0s, .map (some b7), i6 0, .func (.func 8) #[] #[pz c0, pz pbq1], i6 0]) zeroValue76 Tryz.runUnderlying76 (fun w => by kernel_rfl) rfl rfl)<|?_
   refine W1 (cs := [str a0, .bool (decide (t22 = 77)), z0s, .map (some b7), i6 0, .func (.func 8) #[] #[pz c0, pz pbq1], i6 0]) rfl rfl rfl rfl (fun b8 => ?_)
   refine ag (pz b8)<|Jd<|Jc<|Ja<|mv (pz b8)<|lv (Jg rfl)<|lf Tryz.runUnderlying76 rfl kck rfl<|ll 4 (.bool (decide (t22 = 77))) kbo<|lv (Xf (pl := #[(0, 1), (1, 1)]) (ps := [(0, .bool (decide (t22 = 77)))]) (cells := #[.bool (decide (t22 = 77)), z0s]) zeroValue34 Tryz.runUnderlying34 (fun w => by kernel_rfl) rfl rfl)<|?_
   refine Xx (cs := [.bool false, z0s]) zeroValue34 rfl rfl rfl (fun b9 => ?_)
   refine st (i := 5) [.bool (decide (t22 = 77)), z0s] [.bool (decide (t22 = 77)), z0s] kci rfl rfl<|Jd<|?_
   refine Qg (r := r) (σ := Int × (List UInt8) × Bool × Int × Nat × Int × (List Tc) × (List (List Ta)) × (List (Int × Bool))) (τ := AN × AN × Nat) (fun s => Jb1 t22 s.1 s.2.1 s.2.2.1 s.2.2.2.1 s.2.2.2.2.1 s.2.2.2.2.2.1 s.2.2.2.2.2.2.1 s.2.2.2.2.2.2.2.1 s.2.2.2.2.2.2.2.2) (fun s t => [(4, pz b6), (7, pz b8), (8, pz b9)]) (fun s t => [Jf pbq1 [i6 s.1] 3, Xm Q9 Q9, Jf b6 [.bool false, z0s] 34, Qt i6 Value.bool t.2.2 s.2.2.2.2.2.2.2.2, Jf b8 [str s.2.1, .bool s.2.2.1, .slice t.1.1 s.2.2.2.2.2.2.1.length t.1.2, .map (some t.2.2), i6 s.2.2.2.1, .func (.func 8) #[] #[pz c0, pz pbq1], i6 s.2.2.2.2.2.1] 76, Jf b9 [.bool (decide (t22 = 77)), .slice t.2.1.1 s.2.2.2.2.2.2.2.1.length t.2.1.2] 34, J4 82 2 (.slice t.1.1 s.2.2.2.2.2.2.1.length t.1.2) s.2.2.2.2.2.2.1.length (s.2.2.2.2.2.2.1.map Jh), Uj 24 1 gs_tag_Entry (.slice t.2.1.1 s.2.2.2.2.2.2.2.1.length t.2.1.2) s.2.2.2.2.2.2.2.1.length s.2.2.2.2.2.2.2.1]) (fun s t => True) ?_ ?_
   ·refine Jc<|Ja<|mv (pz b8)<|?_
    obtain ⟨t34, h_t34, H50⟩ := Je H35; clear H35
    refine Qb (fun w hF hS => k31c (a0 := (⟨a0, (decide (t22 = 77)), ([] : (List Tc)), ([] : (List (Int × Bool))), 0, a1, 0⟩ : Tb)) (Jq w) (FrS.nil _ _) (Q6 (fk := i6) (fv := Value.bool) (i := 3) hS rfl) (Ql (i := 4) hS rfl) h_t34) kbe rfl rfl rfl<|ag (i6 t34)<|Jd<|Jx<|Jp 82 2<|Jp 24 1<|X8 Q9<|?_
    try dsimp only [z1,z2,z5,z6,z7,z8]
    refine bo 8 7 rfl rfl ?_
    try dsimp only [z1,z2,z5,z6,z7,z8]
    refine Xv 8 rfl (Jaj (css := []) (xs := ([] : List (List Ta))) (p := nn) rfl (AllC.nil (G := gs_tag_Entry) (h := Q9) (sz := 1))) ?_
    refine Za (σ := Int × Int × (List UInt8) × Bool × Int × Nat × Int × (List Tc) × (List (List Ta)) × (List (Int × Bool))) (τ := AN × AN × Nat) (fun next4 s => Ui q0 t22 next4 s.1 s.2.1 s.2.2.1 s.2.2.2.1 s.2.2.2.2.1 s.2.2.2.2.2.1 s.2.2.2.2.2.2.1 s.2.2.2.2.2.2.2.1 s.2.2.2.2.2.2.2.2.1 s.2.2.2.2.2.2.2.2.2) (fun s t => [(4, pz b6), (7, pz b8), (8, pz b9), (9, i6 s.1)]) (fun s t => [Jf pbq1 [i6 s.2.1] 3, Xm Q9 Q9, Jf b6 [.bool false, z0s] 34, Qt i6 Value.bool t.2.2 s.2.2.2.2.2.2.2.2.2, Jf b8 [str s.2.2.1, .bool s.2.2.2.1, .slice t.1.1 s.2.2.2.2.2.2.2.1.length t.1.2, .map (some t.2.2), i6 s.2.2.2.2.1, .func (.func 8) #[] #[pz c0, pz pbq1], i6 s.2.2.2.2.2.2.1] 76, Jf b9 [.bool (decide (t22 = 77)), .slice t.2.1.1 s.2.2.2.2.2.2.2.2.1.length t.2.1.2] 34, J4 82 2 (.slice t.1.1 s.2.2.2.2.2.2.2.1.length t.1.2) s.2.2.2.2.2.2.2.1.length (s.2.2.2.2.2.2.2.1.map Jh), Uj 24 1 gs_tag_Entry (.slice t.2.1.1 s.2.2.2.2.2.2.2.2.1.length t.2.1.2) s.2.2.2.2.2.2.2.2.1.length s.2.2.2.2.2.2.2.2.1]) (fun s t => True) (t34, q1, a0, (decide (t22 = 77)), 0, a1, 0, ([] : List Tc), ([] : List (List Ta)), ([] : (List (Int × Bool)))) (nn, nn, b7) [0, 1, 2, 3, 4, 5, 6, 8] H50 (by exact trivial) (by exact ⟨rfl, rfl, rfl, rfl, trivial⟩) (by decide) rfl ?_
    rintro ⟨x9_2, m_15, m_16, m_17, m_18, m_19, m_20, l_5, l_6, mp_3⟩ ⟨p_3, p_4, b_2⟩ m4 gg H51 _
    clear H50
    try dsimp only at H51
    generalize hn4 : it (fun next4 s => Ui q0 t22 next4 s.1 s.2.1 s.2.2.1 s.2.2.2.1 s.2.2.2.2.1 s.2.2.2.2.2.1 s.2.2.2.2.2.2.1 s.2.2.2.2.2.2.2.1 s.2.2.2.2.2.2.2.2.1 s.2.2.2.2.2.2.2.2.2) m4 = next4 at H51
    try dsimp only
    refine Jc<|Jc<|?_
    try dsimp only [z1,z2,z5,z6,z7,z8]
    refine Ja<|mv (i6 x9_2)<|lv (Yv rfl rfl)<|mv (.bool (decide (x9_2 ≠ 0)))<|?_
    revert H51
    refine sp (fun hb H52=>?_) fun hb H58=>?_
    ·refine mv (pz b8)<|lv (Jg rfl)<|lf Tryz.runUnderlying76 rfl kcf rfl<|ll 4 (i6 m_20) kbj<|lv (Qj rfl rfl)<|pT (.bool (decide (m_20 = 0)))<|Jd<|?_
     revert H52
     refine ci (decide (m_20 = 0)) rfl (fun hb H53=>?_) fun hb H57=>?_
     ·refine Jj<|Jx<|Jc<|Ja<|mv (pz b8)<|lv (Jg rfl)<|lf Tryz.runUnderlying76 rfl kcg rfl<|ll 4 (i6 m_18) kbk<|?_
      obtain ⟨t48, h_t48, H54⟩ := Je H53; clear H53
      refine lv (Jy rfl rfl h_t48)<|lv (Jg rfl)<|lf Tryz.runUnderlying76 rfl kcg rfl<|st (i := 4) [i6 t48] [str m_16, .bool m_17, sl p_3 l_5.length, .map (some b_2), i6 t48, .func (.func 8) #[] #[pz c0, pz pbq1], i6 m_20] kcg rfl rfl<|Jd<|Jc<|Ja<|mv (pz b8)<|mv (i6 x9_2)<|lf Tryz.runUnderlying34 rfl kch rfl<|ll 5 (sl p_4 l_6.length) kbl<|lv (Jdl kcu rfl)<|?_
      refine Q5 (vs := [i6 (l_6.length : Int)]) (cs := [i6 (l_6.length : Int)]) kcr kcg zeroValue3 rfl rfl rfl rfl rfl rfl rfl (fun b10 => ?_)
      obtain ⟨t58, h_t58, H55⟩ := Je H54; clear H54
      refine bo 6 3 rfl rfl<|bo 4 6 rfl rfl<|bo 0 4 rfl rfl<|?_
      refine Qh (Jv (i := 0) (rds := [8]) rfl (fun w L' S hF hS hi hp hlt ho hA => k32c (a0 := (⟨m_16, m_17, l_5, mp_3, t48, m_19, m_20⟩ : Tb)) hp hlt (J7 w S) (fq0.mono (hw.but hF ho)) (hw.but hF ho _ _ hc0) rfl (frb_box (j := 8) (xs := ([(l_6.length : Int)] : List Int)) (f := J8) hA hS (by decide) ((hi 8 (by simp)).trans rfl) rfl rfl rfl rfl) h_t58) call32 rfl) rfl rfl rfl (fun ⟨p_5, p_6, p_7⟩ => ?_)
      refine ub 0 4 rfl rfl<|ub 4 6 rfl rfl<|ub 6 3 rfl rfl<|Qd 3 rfl<|mv (.tuple #[sl p_5 t58.1.length, i6 t58.2.1])<|lv (J9 (v := sl p_5 t58.1.length) rfl rfl)<|lv (J9 (v := i6 t58.2.1) rfl rfl)<|ag (sl p_5 t58.1.length)<|ag (i6 t58.2.1)<|Jd<|Jc<|?_
      refine Jcd 7 rfl (fun hp css hn pf => ?_)
      rw [hn]
      try dsimp only [z1,z2,z5,z6,z7,z8]
      refine Qd 7 rfl ?_
      try dsimp only [z1,z2,z5,z6,z7,z8]
      refine Z9 1 7 rfl rfl (by decide) (fun _ _ => Zc) (fun hp_2 hle hle_2 => ?_)
      try dsimp only [z1,z2,z5,z6,z7,z8]
      refine Ja<|lf Tryz.runUnderlying34 rfl kch rfl<|ll 5 (sl p_4 css.length) kbl<|mv (sl p_5 t58.1.length)<|?_
      refine Q5 (vs := [sl p_5 t58.1.length]) (cs := [sl p_5 t58.1.length]) kcu kcd zeroValue24 rfl rfl rfl rfl rfl rfl rfl (fun b11 => ?_)
      refine Jcd 9 rfl (fun hp_3 css_2 hn_2 pf_2 => ?_)
      rw [hn_2]
      try dsimp only [z1,z2,z5,z6,z7,z8]
      refine Qd 9 rfl ?_
      try dsimp only [z1,z2,z5,z6,z7,z8]
      refine Z9 1 9 rfl rfl (by decide) (fun _ _ => Zc) (fun hp_4 hle_3 hle_4 => ?_)
      try dsimp only [z1,z2,z5,z6,z7,z8]
      refine Uc (Φ := fun H_ => FrS H_ 6 (sl p_5 css_2.length) (css_2.map idC)) 1 12 rfl rfl (by decide) (fun _ _ => Zc) (Jb9 _) (fun hp_5 hle_5 hf => ?_)
      obtain ⟨l65, h_l65, H56⟩ := Je H55; clear H55
      refine Qh (Jal (i := 10) (k := 11) (p := p_4) (f := idC) (ys := css) (ls := [[sl p_5 css_2.length]]) kcu (X0 typeInfo24) rfl rfl rfl rfl rfl rfl rfl rfl rfl rfl rfl rfl rfl rfl (by simp only [idC, List.map_cons, List.map_nil, List.all_cons, List.all_nil, (Ja8 (xs := t58.1) hf ((pf_2.mono hle_4).mono hle_5)).one] <;> rfl) (app63 ((((pf.mono hle_2).mono hle_3).mono hle_5).app h_l65 (nc := [[sl p_5 css_2.length]]) rfl)) rfl) rfl rfl rfl (fun p_8 => ?_)
      have pf_3 : AllC gs_tag_Entry hp_5 1 (css ++ [[Value.slice p_5.1 css_2.length p_5.2]]) l65 := AllC.snocG (((pf.mono hle_2).mono hle_3).mono hle_5) h_l65 rfl ((Ja8 (xs := t58.1) hf ((pf_2.mono hle_4).mono hle_5)))
      refine lf Tryz.runUnderlying34 rfl kch rfl<|st (i := 5) [sl p_8 ((css ++ [[Value.slice p_5.1 css_2.length p_5.2]]).length)] [.bool (decide (t22 = 77)), sl p_8 ((css ++ [[Value.slice p_5.1 css_2.length p_5.2]]).length)] kch rfl rfl<|Jd<|?_
      try dsimp only [z1,z2,z5,z6,z7,z8]
      refine bo 1 10 rfl rfl ?_
      try dsimp only [z1,z2,z5,z6,z7,z8]
      refine Xv 1 rfl (Jaj (p := p_8) rfl pf_3) ?_
      (try rw [show ((css ++ [[Value.slice p_5.1 css_2.length p_5.2]]).length) = l65.length from pf_3.len])
      refine X8 Q9<|c_sel [0, 13, 2, 3, 4, 5, 6, 7, 8, 9, 1, 11, 12] [Jf pbq1 [i6 t58.2.2.1] 3, Xm Q9 Q9, Jf b6 [.bool false, z0s] 34, Qt i6 Value.bool p_7 t58.2.2.2.kae, Jf b8 [str t58.2.2.2.s_, .bool t58.2.2.2.kab, sl p_6 t58.2.2.2.kaa.length, .map (some p_7), i6 t58.2.2.2.kad, .func (.func 8) #[] #[pz c0, pz pbq1], i6 t58.2.2.2.no_] 76, Jf b9 [.bool (decide (t22 = 77)), sl p_8 l65.length] 34, J4 82 2 (sl p_6 t58.2.2.2.kaa.length) t58.2.2.2.kaa.length (t58.2.2.2.kaa.map Jh), _, Jf b10 [i6 (css.length : Int)] 3, _, Uj 24 1 gs_tag_Entry (sl p_8 l65.length) l65.length l65, Jf b11 [sl p_5 css_2.length] 24, _] rfl (by decide)<|?_
      try dsimp only [z1,z2,z5,z6,z7,z8]
      refine Ja<|mv (i6 t58.2.1)<|ag (i6 t58.2.1)<|Jd<|?_
      exact cl (t58.2.1, t58.2.2.1, t58.2.2.2.s_, t58.2.2.2.kab, t58.2.2.2.kad, t58.2.2.2.kac, t58.2.2.2.no_, t58.2.2.2.kaa, l65, t58.2.2.2.kae) (p_6, p_8, p_7) m4 [0, 1, 2, 3, 4, 5, 6, 10] (by exact ⟨(by subst hn4; exact H56), trivial⟩)
     ·refine Xj ?_
      exact cl (m_15, m_16, m_17, m_18, m_19, m_20, l_5, l_6, mp_3) (p_3, p_4, b_2) 0 [0, 1, 2, 3, 4, 5, 6, 7] (by exact ⟨H57, trivial⟩)
    ·refine pa<|pa<|pa<|pa<|pa<|pF (.bool false)<|Jd<|Zz rfl<|Xj<|?_
     exact cl (m_15, m_16, m_17, m_18, m_19, m_20, l_5, l_6, mp_3) (p_3, p_4, b_2) 0 [0, 1, 2, 3, 4, 5, 6, 7] (by exact ⟨H58, trivial⟩)
   ·rintro ⟨m, m_2, m_3, m_4, m_5, m_6, l, l_2, mp⟩ ⟨p, p_2, b⟩ gg H36 _
    try dsimp only at H36
    try dsimp only
    refine Jc<|Ja<|mv (pz b8)<|lv (Jg rfl)<|lf Tryz.runUnderlying76 rfl kcj rfl<|ll 4 (sl p l.length) kbn<|?_
    obtain ⟨t72, h_t72, H37⟩ := Je H36; clear H36
    refine Qh (Jv (i := 6) (rds := []) (G := fun x : Unit => .tuple #[]) (C := fun x : Unit => J4 82 2 (sl p l.length) l.length (t72.map Jh)) rfl (fun w L' S hF hS hi hp hlt ho hA => k33_34 hp hlt (J7 w S) rfl h_t72) call33 rfl) rfl rfl rfl (fun _ => ?_)
    refine c_know (fun w hF hS => lenOf (i := 6) hS rfl) (fun hl_ => ?_)
    have hl : l.length = t72.length := by simpa using hl_.symm
    refine Jd ?_
    refine Qg (r := r) (σ := Int) (τ := Unit) (fun s => Ja4 t22 m l_2 t72 s) (fun s t => [(4, pz b6), (7, pz b8), (8, pz b9)]) (fun s t => [Jf pbq1 [i6 m] 3, Xm Q9 Q9, Jf b6 [.bool false, z0s] 34, Qt i6 Value.bool b mp, Jf b8 [str m_2, .bool m_3, sl p l.length, .map (some b), i6 m_4, .func (.func 8) #[] #[pz c0, pz pbq1], i6 s] 76, Jf b9 [.bool (decide (t22 = 77)), sl p_2 l_2.length] 34, J4 82 2 (sl p l.length) l.length (t72.map Jh), Uj 24 1 gs_tag_Entry (sl p_2 l_2.length) l_2.length l_2]) (fun s t => True) ?_ ?_
    ·refine Jc<|Ja<|mv (pz b8)<|lv (Jg rfl)<|lf Tryz.runUnderlying76 rfl kcf rfl<|ll 4 (i6 m_6) kbj<|lv (Qj rfl rfl)<|mv (.bool (decide (m_6 = 0)))<|?_
     revert H37
     refine sp (fun hb H45=>?_) fun hb H49=>?_
     ·refine mv (pz b8)<|lv (Jg rfl)<|lf Tryz.runUnderlying76 rfl kcj rfl<|ll 4 (sl p l.length) kbn<|?_
      obtain ⟨t83, h_t83, H46⟩ := Je H45; clear H45
      refine Qb (fun w hF hS => k35 (Jq w) (Xl (i := 6) hl hS rfl) h_t83) call35 rfl rfl rfl<|pT (.bool t83)<|Jd<|?_
      revert H46
      refine ci t83 rfl (fun hb H47=>?_) fun hb H48=>?_
      ·refine Ja<|mv (pz b8)<|lv (Jg rfl)<|lf Tryz.runUnderlying76 rfl kcf rfl<|st (i := 4) [i6 6] [str m_2, .bool m_3, sl p l.length, .map (some b), i6 m_4, .func (.func 8) #[] #[pz c0, pz pbq1], i6 6] kcf rfl rfl<|Jd<|?_
       exact cl 6 () 0 [0, 1, 2, 3, 4, 5, 6, 7] (by exact ⟨H47, trivial⟩)
      ·refine Jj ?_
       exact cl m_6 () 0 [0, 1, 2, 3, 4, 5, 6, 7] (by exact ⟨H48, trivial⟩)
     ·refine pa<|pa<|pa<|pa<|pa<|pF (.bool false)<|Jd<|Zz rfl<|Jj<|?_
      exact cl m_6 () 0 [0, 1, 2, 3, 4, 5, 6, 7] (by exact ⟨H49, trivial⟩)
    ·rintro m_7 _ gg H38 _
     try dsimp only at H38
     try dsimp only
     refine Qg (r := r) (σ := Int) (τ := Unit) (fun s => Jby t22 m l_2 t72 s) (fun s t => [(4, pz b6), (7, pz b8), (8, pz b9)]) (fun s t => [Jf pbq1 [i6 m] 3, Xm Q9 Q9, Jf b6 [.bool false, z0s] 34, Qt i6 Value.bool b mp, Jf b8 [str m_2, .bool m_3, sl p l.length, .map (some b), i6 m_4, .func (.func 8) #[] #[pz c0, pz pbq1], i6 s] 76, Jf b9 [.bool (decide (t22 = 77)), sl p_2 l_2.length] 34, J4 82 2 (sl p l.length) l.length (t72.map Jh), Uj 24 1 gs_tag_Entry (sl p_2 l_2.length) l_2.length l_2]) (fun s t => True) ?_ ?_
     ·refine Jc<|Ja<|mv (pz b8)<|lv (Jg rfl)<|lf Tryz.runUnderlying76 rfl kcf rfl<|ll 4 (i6 m_7) kbj<|lv (Qj rfl rfl)<|Jd<|?_
      revert H38
      refine ci (decide (m_7 = 0)) rfl (fun hb H42=>?_) fun hb H44=>?_
      ·refine Ja<|mv (pz b8)<|Xb (i := 5) (vs := [.bool (decide (t22 = 77)), sl p_2 l_2.length]) kbm kci rfl rfl rfl rfl rfl<|?_
       obtain ⟨t95, h_t95, H43⟩ := Je H42; clear H42
       refine Qb (fun w hF hS => k36 (Jq w) (Jgx (i := 7) hS rfl) h_t95) call36 rfl rfl rfl<|lv (Jg rfl)<|lf Tryz.runUnderlying76 rfl kcf rfl<|st (i := 4) [i6 t95] [str m_2, .bool m_3, sl p l.length, .map (some b), i6 m_4, .func (.func 8) #[] #[pz c0, pz pbq1], i6 t95] kcf rfl rfl<|Jd<|?_
       exact cl t95 () 0 [0, 1, 2, 3, 4, 5, 6, 7] (by exact ⟨H43, trivial⟩)
      ·refine Jj ?_
       exact cl m_7 () 0 [0, 1, 2, 3, 4, 5, 6, 7] (by exact ⟨H44, trivial⟩)
     ·rintro m_8 _ gg H39 _
      try dsimp only at H39
      try dsimp only
      refine Jc<|Jc<|Ja<|mv (pz b8)<|lv (Jg rfl)<|lf Tryz.runUnderlying76 rfl kcf rfl<|ll 4 (i6 m_8) kbj<|lv (Yv rfl rfl)<|Jd<|?_
      revert H39
      refine ci (decide (m_8 ≠ 0)) rfl (fun hb H40=>?_) fun hb H41=>?_
      ·refine Jc ?_
       exact Qk (Kd.p :: Kd.p :: Kd.p :: Kd.p :: Kd.d [4] _ :: Kd.sv 4 103 2 _ 34 :: Kd.p :: Kd.p :: []) 0 mixed (by
        refine dv (Xf (pl := #[(0, 1), (1, 1)]) (ps := []) (cells := #[.bool false, z0s]) zeroValue34 Tryz.runUnderlying34 (fun w => by kernel_rfl) rfl rfl)<|dm (pz b8)<|dv (Jg rfl)<|dv (J2 Tryz.runUnderlying76 rfl kcf rfl rfl)<|dl (i6 m_8) kbj<|Jdf (i := 2) (vs := [.bool false, z0s]) (cs' := fun v_ => [(vcell v_ 0), (vcell v_ 1)]) kci rfl rfl rfl rfl rfl rfl rfl rfl rfl<|Qv rfl rfl (Jz (v := z0s) rfl)<|Qv rfl rfl (Jz (v := i6 m_8) rfl)<|Xr<|Jm<|?_
        refine Jcv 7 <| Jcv 6 <| Jcv 5 <| Jcv 4 <| Jcv 3 ?_
        try dsimp only [z1, z2, z3, z4, z5, z6, z7, z8]
        refine Jp 24 1<|Jp 82 2<|?_
        obtain rfl := sj H40
        refine bo 1 3 rfl rfl<|Xv 1 rfl (Q7 (p := nn) rfl (AllC.nil (G := gs_tag_Entry) (h := Q9) (sz := 1)))<|bo 1 4 rfl rfl<|bo 0 1 rfl rfl<|?_
        refine Jfg (i := 2) (vs := [.bool false, sl nn (([] : List (List Value)).length)]) (v2 := sl nn ([] : List Tc).length) (v3 := i6 m_8) kbm kci rfl rfl rfl rfl rfl rfl (Y0 (nn, nn) (i := 0) rfl (by first | rfl | rw [(show (([] : List (List Value)).length) = ([] : List (List Ta)).length from (AllC.nil (G := gs_tag_Entry) (h := Q9) (sz := 1)).len)]) (by first | exact Imp.refl _ | exact Imp.of (by rw [(show (([] : List (List Value)).length) = ([] : List (List Ta)).length from (AllC.nil (G := gs_tag_Entry) (h := Q9) (sz := 1)).len)] <;> rfl)))
        ) (by kernel_rfl)
      ·refine Jj<|Jc<|?_
       try dsimp only [z1,z2,z5,z6,z7,z8]
       exact Qk (Kd.d [5] _ :: Kd.p :: Kd.p :: Kd.p :: Kd.d [4] _ :: Kd.sv 4 108 2 _ 34 :: Kd.p :: Kd.p :: []) 0 mixed (by
        refine Jc1 (i := 5) (vs := [.bool (decide (t22 = 77)), sl p_2 l_2.length]) kbm kci rfl rfl rfl rfl<|dm (pz b8)<|dv (Jg rfl)<|dv (J2 Tryz.runUnderlying76 rfl kcj rfl rfl)<|dl (sl p l.length) kbn<|Jdf (i := 2) (vs := [.bool (decide (t22 = 77)), sl p_2 l_2.length]) (cs' := fun v_ => [(vcell v_ 0), (vcell v_ 1)]) kci rfl rfl rfl rfl rfl rfl rfl rfl rfl<|Qv rfl rfl (Jz (v := sl p l.length) rfl)<|Qv rfl rfl (Jz (v := i6 0) rfl)<|Xr<|Jm<|?_
        refine Jcv 5 <| Jcv 4 <| Jcv 3 ?_
        try dsimp only [z1, z2, z3, z4, z5, z6, z7, z8]
        obtain rfl := sj H41
        refine bo 4 3 rfl rfl<|bo 0 4 rfl rfl<|?_
        refine Jfg (i := 2) (vs := [.bool (decide (t22 = 77)), sl p_2 l_2.length]) (v2 := sl p l.length) (v3 := i6 0) kbm kci rfl rfl rfl rfl rfl rfl (Y0 (p_2, p) (i := 0) rfl (by first | rfl | rw [(show l.length = t72.length from hl)]) (by first | exact Imp.refl _ | exact Imp.of (by rw [(show l.length = t72.length from hl)] <;> rfl)))
        ) (by kernel_rfl)
end Go.Proofs.YthljoadplekgnaaGreatDoor
