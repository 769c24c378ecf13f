/- TagPatches, the reference's read: the walks, printed by our generator; each follows its model. Conditions: the model yields a value. -/
import Derived.Test.YthljoadplekgnaaGreatDoorKHq
import Derived.Test.YthljoadplekgnaaGreatDoorKHa
import Derived.Test.YthljoadplekgnaaGreatDoorLx2
import Derived.Test.YthljoadplekgnaaGreatDoorMd
namespace Go.Proofs.YthljoadplekgnaaGreatDoor
open Go Go.Vc Go.Md Go.M Go.Lx Tryz
set_option maxRecDepth 100000
set_option maxHeartbeats 4000000
theorem k82 {a0 : Bool} {a1 : (List UInt8)} {r : Int} (H : Qs a0 a1 = some r) : Ret prog 82 [.bool a0, str a1] (i6 r) := by
 refine Va (n := 29) func82 rfl rfl rfl (fun wd => ?_)
 refine Jc<|Ja<|ag (i6 0)<|Jd<|Jc<|Ja<|ag (i6 0)<|Jd<|Jc<|Jc<|Ja<|mv (str a1)<|lv (Yx kcx rfl)<|mv (i6 0)<|Jd<|Jx<|?_
 refine Za (σ := Int × Int) (τ := Unit) (fun next1 s => Wf a0 a1 next1 s.1 s.2) (fun s t => [(0, .bool a0), (1, str a1), (5, i6 s.1), (9, i6 (a1.length : Int)), (10, i6 s.2)]) (fun s t => []) (fun s t => True) (0, 0) () [] H (by exact trivial) (by exact ⟨rfl, rfl, rfl, rfl, rfl, trivial⟩) (by decide) rfl ?_
 rintro ⟨x5_2, x10_2⟩ _ m1 gg H13 _
 clear H
 try dsimp only at H13
 generalize hn1 : it (fun next1 s => Wf a0 a1 next1 s.1 s.2) m1 = next1 at H13
 try dsimp only
 refine Jc<|Ja<|lv (X3 rfl rfl)<|Jd<|Jc<|?_
 revert H13
 refine ci (decide (x10_2 < (a1.length : Int))) rfl (fun hb H14=>?_) fun hb H24=>?_
 ·refine Jj<|Jc<|Jx<|Jc<|Ja<|mv (i6 x10_2)<|ag (i6 x10_2)<|Jd<|Jc<|Ja<|mv (str a1)<|lv (Yx kcx rfl)<|?_
  obtain ⟨t15, h_t15, H15⟩ := Je H14; clear H14
  refine lv (Zs rfl rfl h_t15)<|mv (i6 x10_2)<|?_
  obtain ⟨t17, h_t17, H16⟩ := Je H15; clear H15
  refine lv (Zs rfl rfl h_t17)<|ag (i6 t17)<|Jd<|?_
  refine Qg (r := r) (σ := Int) (τ := Unit) (fun s => Jbd a1 x5_2 x10_2 next1 s) (fun s t => [(0, .bool a0), (1, str a1), (5, i6 x5_2), (7, i6 s), (9, i6 (a1.length : Int)), (10, i6 x10_2)]) (fun s t => []) (fun s t => True) ?_ ?_
  ·refine Jc<|Ja<|mv (.bool a0)<|Jd<|?_
   revert H16
   refine ci a0 rfl (fun hb H22=>?_) fun hb H23=>?_
   ·refine Ja<|mv (i6 x10_2)<|ag (i6 x10_2)<|Jd<|?_
    exact cl x10_2 () 0 [] (by exact ⟨H22, trivial⟩)
   ·refine Jj ?_
    exact cl t17 () 0 [] (by exact ⟨H23, trivial⟩)
  ·rintro x7 _ gg H17 _
   try dsimp only at H17
   try dsimp only
   refine Ja<|mv (i6 x5_2)<|?_
   obtain ⟨t21, h_t21, H18⟩ := Je H17; clear H17
   refine lv (r_shlG rfl rfl h_t21)<|mv (str a1)<|mv (i6 x7)<|?_
   obtain ⟨t24, h_t24, H19⟩ := Je H18; clear H18
   refine lv (Jc8 kcx rfl rfl h_t24) ?_
   obtain ⟨t25, h_t25, H20⟩ := Je H19; clear H19
   refine lv (Jcf runUnderlying5 Tryz.runUnderlying3 rfl (gK_i64 h_t25))<|lv (r_bitsOr (bits := 64) rfl rfl rfl (Jh0 _))<|ag (i6 (Jap (bOr 64 t21 t25)))<|Jd<|Ja<|?_
   obtain ⟨t27, h_t27, H21⟩ := Je H20; clear H20
   refine lv (Jy rfl rfl h_t27)<|mv (i6 t27)<|Jd<|?_
   exact cl ((Jap (bOr 64 t21 t25)), t27) () m1 [] (by exact ⟨(by subst hn1; exact H21), trivial⟩)
 ·refine Xj<|Jc<|Ja<|mv (i6 x5_2)<|ag (i6 x5_2)<|Jd<|Jm<|?_
  obtain rfl := sj H24
  exact r1 (i6 x5_2)
theorem k45 {a0 : Tf} {v0_2 : Value} {v0_3 : Value} {v0_4 : Value} {pb0 : Nat} {a1 : Int} {a2 : Int} {r : Int} {w : World} {h : J1} (hw : Know h w Z0) (f0_2 : FrM h i6 Value.bool v0_2 a0.kam) (f0_3 : FrS h 2 v0_3 (a0.kaa.map Jh)) (f0_4 : FrM h str (fun x_ : Td => .agg #[i6 x_.kal, i6 x_.kan, i6 x_.to_]) v0_4 a0.kaf) (hb0 : h pb0 = some (.cells (List.toArray [str a0.s_, .bool a0.kab, v0_2, v0_3, v0_4]) 59 (0, 0))) (H : Q4 a0 a1 a2 = some r) : Does prog 45 (List.toArray [pz pb0, i6 a1, i6 a2]) w (fun v w' => v = (i6 r) ∧ Grow w w') := by
 refine enter (n := 21) func45 rfl rfl rfl Z0 [] (Sat.nil _ _)<|Jc<|Ja<|ag (i6 0)<|Jd<|Jc<|?_
 exact Qk (Kd.p :: Kd.p :: Kd.p :: Kd.d [] _ :: Kd.p :: Kd.p :: Kd.p :: Kd.d [] _ :: Kd.p :: Kd.p :: Kd.p :: Kd.p :: Kd.p :: Kd.d [] _ :: Kd.p :: []) 0 mixed (by
  refine dm (pz pb0)<|dv (Jg rfl)<|dv (J2 Tryz.runUnderlying59 rfl kck rfl rfl)<|W2 (fun w hF => Zr (v := .bool a0.kab) kbo rfl (hw.now hF _ _ hb0) rfl) rfl rfl<|dm (pz pb0)<|dv (Jg rfl)<|dv (J2 Tryz.runUnderlying59 rfl kcn rfl rfl)<|W2 (fun w hF => Zr (v := str a0.s_) kbp rfl (hw.now hF _ _ hb0) rfl) rfl rfl<|dm (i6 a1)<|dm (i6 a1)<|dm (i6 a2)<|?_
  have h_t18 := Jt H
  have H4 := Jn H
  refine dv (Jy rfl rfl h_t18) ?_
  have h_t19 := Jt H4
  have H5 := Jn H4
  refine dv (Jep kcx rfl rfl rfl h_t19) ?_
  have h_t20 := Jt H5
  have H6 := Jn H5
  refine Ja9 (k82 h_t20) call82 rfl rfl<|Qv rfl rfl (Jz (v := i6 (val (Qs a0.kab (val (Qp a0.s_ a1 (val (gI (a1 + a2)))))))) rfl)<|Xr<|Jm<|?_
  obtain rfl := sj H6
  exact r1 (i6 (val (Qs a0.kab (val (Qp a0.s_ a1 (val (gI (a1 + a2))))))))
  ) (by kernel_rfl)
theorem k47 {a0 : Int} {r : (List UInt8)} {w : World} {h : J1} (hw : Know h w Z0) (tb_pow10 : TabH prog h "internal/strconv.uint64pow10" .u64 Lib.pow10Tab) (H : gItoa a0 = some r) : Does prog 47 (List.toArray [i6 a0]) w (fun v w' => v = (str r) ∧ Grow w w') :=
  itoa_does (ρ := Go.Proofs.Tryz.laysM171_ren) Go.Proofs.Tryz.laysM171 hw tb_pow10 H
theorem k83 {a0 : Tf} {v0_2 : Value} {v0_3 : Value} {v0_4 : Value} {pb0 : Nat} {a1 : Int} {a2 : Int} {r : Bool} {w : World} {h : J1} (hw : Know h w Z0) (f0_2 : FrM h i6 Value.bool v0_2 a0.kam) (f0_3 : FrS h 2 v0_3 (a0.kaa.map Jh)) (f0_4 : FrM h str (fun x_ : Td => .agg #[i6 x_.kal, i6 x_.kan, i6 x_.to_]) v0_4 a0.kaf) (hb0 : h pb0 = some (.cells (List.toArray [str a0.s_, .bool a0.kab, v0_2, v0_3, v0_4]) 59 (0, 0))) (H : W6 a0 a1 a2 = some r) : Does prog 83 (List.toArray [pz pb0, i6 a1, i6 a2]) w (fun v w' => v = (.bool r) ∧ Grow w w') := by
 refine enter (n := 29) func83 rfl rfl rfl Z0 [] (Sat.nil _ _)<|Jc<|Ja<|ag (.bool false)<|Jd<|Jc<|Ja<|mv (i6 a1)<|lv (Jey rfl rfl)<|mv (.bool (decide (8 ≤ a1)))<|?_
 revert H
 refine sp (fun hb H6=>?_) fun hb H10=>?_
 ·refine mv (i6 a1)<|mv (pz pb0)<|lv (Jg rfl)<|lf Tryz.runUnderlying59 rfl kcn rfl<|Xs (fun w hF hS => Zr (v := str a0.s_) kbp rfl (hw.now hF _ _ hb0) rfl) rfl rfl rfl<|lv (Yx kcx rfl)<|lv (Jd1 rfl rfl)<|pT (.bool (decide (a1 ≤ (a0.s_.length : Int))))<|mv (.bool (decide (a1 ≤ (a0.s_.length : Int))))<|?_
  revert H6
  refine sp (fun hb H7=>?_) fun hb H9=>?_
  ·refine mv (i6 a2)<|mv (pz pb0)<|lv (Jg rfl)<|lf Tryz.runUnderlying59 rfl kcn rfl<|Xs (fun w hF hS => Zr (v := str a0.s_) kbp rfl (hw.now hF _ _ hb0) rfl) rfl rfl rfl<|lv (Yx kcx rfl)<|mv (i6 a1)<|?_
   obtain ⟨t26, h_t26, H8⟩ := Je H7; clear H7
   refine lv (Zs rfl rfl h_t26)<|lv (Jd1 rfl rfl)<|pT (.bool (decide (a2 ≤ t26)))<|ag (.bool (decide (a2 ≤ t26)))<|Jd<|Jm<|?_
   obtain rfl := sj H8
   exact r1 (.bool (decide (a2 ≤ t26)))
  ·refine pa<|pa<|pa<|pa<|pa<|pa<|pa<|pa<|pa<|pF (.bool false)<|ag (.bool false)<|Jd<|Jm<|?_
   obtain rfl := sj H9
   exact r1 (.bool false)
 ·refine pa<|pa<|pa<|pa<|pa<|pa<|pa<|pF (.bool false)<|mv (.bool false)<|pa<|pa<|pa<|pa<|pa<|pa<|pa<|pa<|pa<|pF (.bool false)<|ag (.bool false)<|Jd<|Jm<|?_
  obtain rfl := sj H10
  exact r1 (.bool false)
theorem k84_b {self : (Tf × Int × Int × Int × Bool × (List UInt8)) → Option ((List Ta) × Int × Int × Tf)} (ih : ∀ {a0 : Tf} {pb0 : Nat} {m0_2 : Nat} {p0_3 : AN} {n0_3 : Nat} {m0_4 : Nat} {a1 : Int} {a2 : Int} {a3 : Int} {a4 : Bool} {a5 : (List UInt8)} {r : (List Ta) × Int × Int × Tf} {w : World} {h : J1} {S : Nat → Prop} (hcs : (Jw (Jf pb0 [str a0.s_, .bool a0.kab, .map (some m0_2), sl p0_3 n0_3, .map (some m0_4)] 59) (Jw (Qt i6 Value.bool m0_2 a0.kam) (Jw (J4 82 2 (sl p0_3 n0_3) n0_3 (a0.kaa.map Jh)) (Qt str (fun x_ : Td => .agg #[i6 x_.kal, i6 x_.kan, i6 x_.to_]) m0_4 a0.kaf)))).P S w) (hlt : ∀ b, S b → b < w.heap.size) (hw : Know h w S) (hn0_3 : n0_3 = a0.kaa.length) (tb_pow10 : TabH prog h "internal/strconv.uint64pow10" .u64 Lib.pow10Tab) (_ : self (a0, a1, a2, a3, a4, a5) = some r), Does prog 46 (List.toArray [pz pb0, i6 a1, i6 a2, i6 a3, .bool a4, str a5]) w (fun v w' => ∃ x : AN × Nat × AN × Nat, v = (.tuple #[.slice x.1.1 r.1.length x.1.2, i6 r.2.1, i6 r.2.2.1]) ∧ Turn w w' S (Jw (Jf pb0 [str r.2.2.2.s_, .bool r.2.2.2.kab, .map (some x.2.1), .slice x.2.2.1.1 r.2.2.2.kaa.length x.2.2.1.2, .map (some x.2.2.2)] 59) (Jw (Qt i6 Value.bool x.2.1 r.2.2.2.kam) (Jw (J4 82 2 (.slice x.2.2.1.1 r.2.2.2.kaa.length x.2.2.1.2) r.2.2.2.kaa.length (r.2.2.2.kaa.map Jh)) (Jw (Qt str (fun x_ : Td => .agg #[i6 x_.kal, i6 x_.kan, i6 x_.to_]) x.2.2.2 r.2.2.2.kaf) (Uj 95 6 g_tag_Entry (.slice x.1.1 r.1.length x.1.2) r.1.length r.1))))))) {a0 : Tf} {pb0 : Nat} {m0_2 : Nat} {p0_3 : AN} {n0_3 : Nat} {m0_4 : Nat} {a1 : Int} {a2 : Int} {a3 : (List UInt8)} {r : Te × Int × Tf} {w : World} {h : J1} {S : Nat → Prop} (hcs : (Jw (Jf pb0 [str a0.s_, .bool a0.kab, .map (some m0_2), sl p0_3 n0_3, .map (some m0_4)] 59) (Jw (Qt i6 Value.bool m0_2 a0.kam) (Jw (J4 82 2 (sl p0_3 n0_3) n0_3 (a0.kaa.map Jh)) (Qt str (fun x_ : Td => .agg #[i6 x_.kal, i6 x_.kan, i6 x_.to_]) m0_4 a0.kaf)))).P S w) (hlt : ∀ b, S b → b < w.heap.size) (hw : Know h w S) (hn0_3 : n0_3 = a0.kaa.length) (tb_pow10 : TabH prog h "internal/strconv.uint64pow10" .u64 Lib.pow10Tab) (H : Xt self a0 a1 a2 a3 = some r) : Does prog 84 (List.toArray [pz pb0, i6 a1, i6 a2, str a3]) w (fun v w' => ∃ x : AN × AN × AN × Nat × AN × Nat, v = (.tuple #[.agg #[i6 r.1.kai, str r.1.kaj, .slice x.1.1 r.1.kak.length x.1.2, .slice x.2.1.1 r.1.kah.length x.2.1.2, .slice x.2.2.1.1 r.1.kag.length x.2.2.1.2], i6 r.2.1]) ∧ Turn w w' S (Jw (Jf pb0 [str r.2.2.s_, .bool r.2.2.kab, .map (some x.2.2.2.1), .slice x.2.2.2.2.1.1 r.2.2.kaa.length x.2.2.2.2.1.2, .map (some x.2.2.2.2.2)] 59) (Jw (Qt i6 Value.bool x.2.2.2.1 r.2.2.kam) (Jw (J4 82 2 (.slice x.2.2.2.2.1.1 r.2.2.kaa.length x.2.2.2.2.1.2) r.2.2.kaa.length (r.2.2.kaa.map Jh)) (Jw (Qt str (fun x_ : Td => .agg #[i6 x_.kal, i6 x_.kan, i6 x_.to_]) x.2.2.2.2.2 r.2.2.kaf) (Jw (J4 3 1 (.slice x.1.1 r.1.kak.length x.1.2) r.1.kak.length (r.1.kak.map J8)) (Jw (J4 98 2 (.slice x.2.1.1 r.1.kah.length x.2.1.2) r.1.kah.length (r.1.kah.map Jl)) (Uj 95 6 g_tag_Entry (.slice x.2.2.1.1 r.1.kag.length x.2.2.1.2) r.1.kag.length r.1.kag)))))))) := by
 refine enter (n := 201) func84 rfl rfl rfl S [Jw (Jf pb0 [str a0.s_, .bool a0.kab, .map (some m0_2), sl p0_3 n0_3, .map (some m0_4)] 59) (Jw (Qt i6 Value.bool m0_2 a0.kam) (Jw (J4 82 2 (sl p0_3 n0_3) n0_3 (a0.kaa.map Jh)) (Qt str (fun x_ : Td => .agg #[i6 x_.kal, i6 x_.kan, i6 x_.to_]) m0_4 a0.kaf)))] (Sat.one hcs hlt)<|Qd 0 rfl<|Qd 1 rfl<|Qd 2 rfl<|X8 Q9<|Jc<|Ja<|?_
 refine Xx (cs := [i6 0, str [], z0s, z0s, z0s]) zeroValue26 rfl rfl rfl (fun b5 => ?_)
 refine ag (i6 0)<|Jd<|Jc<|Ja<|mv (pz pb0)<|mv (i6 a1)<|?_
 obtain ⟨t20, h_t20, H69⟩ := Je H; clear H
 refine lv (Jy rfl rfl h_t20) ?_
 obtain ⟨t21, h_t21, H70⟩ := Je H69; clear H69
 refine Qb (fun w hF hS => k45 (a0 := a0) (Jq w) (Q6 (fk := i6) (fv := Value.bool) (i := 1) hS rfl) (Xl (i := 2) hn0_3 hS rfl) (Q6 (fk := str) (fv := (fun x_ : Td => .agg #[i6 x_.kal, i6 x_.kan, i6 x_.to_])) (i := 3) hS rfl) (Ql (i := 0) hS rfl) h_t21) call45 rfl rfl rfl<|lf Tryz.runUnderlying26 rfl kcg rfl<|st (i := 5) [i6 t21] [i6 t21, str [], z0s, z0s, z0s] kcg rfl rfl<|Jd<|Jc<|?_
 try dsimp only [z1,z2,z5,z6,z7,z8]
 refine Ja<|mv (pz pb0)<|mv (i6 a1)<|?_
 obtain ⟨t25, h_t25, H71⟩ := Je H70; clear H70
 refine lv (Jy rfl rfl h_t25) ?_
 obtain ⟨t26, h_t26, H72⟩ := Je H71; clear H71
 refine Qb (fun w hF hS => k45 (a0 := a0) (Jq w) (Q6 (fk := i6) (fv := Value.bool) (i := 1) hS rfl) (Xl (i := 2) hn0_3 hS rfl) (Q6 (fk := str) (fv := (fun x_ : Td => .agg #[i6 x_.kal, i6 x_.kan, i6 x_.to_])) (i := 3) hS rfl) (Ql (i := 0) hS rfl) h_t26) call45 rfl rfl rfl<|mv (pz pb0)<|mv (i6 a1)<|?_
 obtain ⟨t29, h_t29, H73⟩ := Je H72; clear H72
 refine lv (Jy rfl rfl h_t29) ?_
 obtain ⟨t30, h_t30, H74⟩ := Je H73; clear H73
 refine Qb (fun w hF hS => k45 (a0 := a0) (Jq w) (Q6 (fk := i6) (fv := Value.bool) (i := 1) hS rfl) (Xl (i := 2) hn0_3 hS rfl) (Q6 (fk := str) (fv := (fun x_ : Td => .agg #[i6 x_.kal, i6 x_.kan, i6 x_.to_])) (i := 3) hS rfl) (Ql (i := 0) hS rfl) h_t30) call45 rfl rfl rfl<|ag (i6 t26)<|ag (i6 t30)<|Jd<|Jc<|Ja<|lf Tryz.runUnderlying26 rfl kcg rfl<|ll 5 (i6 t21) kbk<|?_
 obtain ⟨t33, h_t33, H75⟩ := Je H74; clear H74
 refine Yq (k51 h_t33) call51 rfl rfl rfl<|ag (i6 t33)<|Jd<|Jc<|Jx<|Jc<|Ja<|mv (i6 t33)<|lv (Qj rfl rfl)<|ag (.bool (decide (t33 = 0)))<|Jd<|?_
 revert H75
 refine ci (decide (t33 = 0)) rfl (fun hb H76=>?_) fun hb H77=>?_
 ·refine Jc<|Ja<|Xb (i := 5) (vs := [i6 t21, str [], z0s, z0s, z0s]) kbi kce rfl rfl rfl rfl rfl<|st (i := 5) [i6 t21, str [], z0s, z0s, z0s] [i6 t21, str [], z0s, z0s, z0s] kce rfl rfl<|ag (i6 10)<|Jd<|Jm<|?_
  try dsimp only [z1, z2, z3, z4, z5, z6, z7, z8]
  refine Jp 3 1<|Jp 98 2<|Jp 95 6<|?_
  try dsimp only [z1,z2,z5,z6,z7,z8]
  obtain rfl := sj H76
  refine bo 4 8 rfl rfl<|Xv 4 rfl (Q7 (p := nn) rfl (AllC.nil (G := g_tag_Entry) (h := Q9) (sz := 6)))<|bo 7 4 rfl rfl<|bo 6 7 rfl rfl<|bo 3 6 rfl rfl<|bo 2 3 rfl rfl<|bo 1 2 rfl rfl<|bo 0 1 rfl rfl<|?_
  refine Jad (i := 5) (vs := [i6 t21, str [], sl nn ([] : List Int).length, sl nn ([] : List Tg).length, sl nn (([] : List (List Value)).length)]) (v2 := i6 10) kbi kce rfl rfl rfl rfl rfl (Y0 (nn, nn, nn, m0_2, p0_3, m0_4) (i := 0) rfl (by first | rfl | rw [(show (([] : List (List Value)).length) = ([] : List Ta).length from (AllC.nil (G := g_tag_Entry) (h := Q9) (sz := 6)).len), (show n0_3 = a0.kaa.length from hn0_3)]) (by first | exact Imp.refl _ | exact Imp.of (by rw [(show (([] : List (List Value)).length) = ([] : List Ta).length from (AllC.nil (G := g_tag_Entry) (h := Q9) (sz := 6)).len), (show n0_3 = a0.kaa.length from hn0_3)] <;> rfl)))
 ·refine Jc ?_
  try dsimp only [z1,z2,z5,z6,z7,z8]
  refine Ja<|lf Tryz.runUnderlying26 rfl kcg rfl<|ll 5 (i6 t21) kbk<|lv (Qj rfl rfl)<|ag (.bool (decide (t21 = 13)))<|Jd<|?_
  revert H77
  refine ci (decide (t21 = 13)) rfl (fun hb H78=>?_) fun hb H83=>?_
  ·refine Jc<|Jc<|Ja<|mv (i6 t26)<|lv (Yv rfl rfl)<|Jd<|?_
   revert H78
   refine ci (decide (t26 ≠ 1)) rfl (fun hb H79=>?_) fun hb H80=>?_
   ·refine Jc<|Ja<|Xb (i := 5) (vs := [i6 t21, str [], z0s, z0s, z0s]) kbi kce rfl rfl rfl rfl rfl<|st (i := 5) [i6 t21, str [], z0s, z0s, z0s] [i6 t21, str [], z0s, z0s, z0s] kce rfl rfl<|ag (i6 1)<|Jd<|Jm<|?_
    try dsimp only [z1, z2, z3, z4, z5, z6, z7, z8]
    refine Jp 3 1<|Jp 98 2<|Jp 95 6<|?_
    try dsimp only [z1,z2,z5,z6,z7,z8]
    obtain rfl := sj H79
    refine bo 4 8 rfl rfl<|Xv 4 rfl (Q7 (p := nn) rfl (AllC.nil (G := g_tag_Entry) (h := Q9) (sz := 6)))<|bo 7 4 rfl rfl<|bo 6 7 rfl rfl<|bo 3 6 rfl rfl<|bo 2 3 rfl rfl<|bo 1 2 rfl rfl<|bo 0 1 rfl rfl<|?_
    refine Jad (i := 5) (vs := [i6 t21, str [], sl nn ([] : List Int).length, sl nn ([] : List Tg).length, sl nn (([] : List (List Value)).length)]) (v2 := i6 1) kbi kce rfl rfl rfl rfl rfl (Y0 (nn, nn, nn, m0_2, p0_3, m0_4) (i := 0) rfl (by first | rfl | rw [(show (([] : List (List Value)).length) = ([] : List Ta).length from (AllC.nil (G := g_tag_Entry) (h := Q9) (sz := 6)).len), (show n0_3 = a0.kaa.length from hn0_3)]) (by first | exact Imp.refl _ | exact Imp.of (by rw [(show (([] : List (List Value)).length) = ([] : List Ta).length from (AllC.nil (G := g_tag_Entry) (h := Q9) (sz := 6)).len), (show n0_3 = a0.kaa.length from hn0_3)] <;> rfl)))
   ·refine Jj<|Jc<|?_
    try dsimp only [z1,z2,z5,z6,z7,z8]
    refine Ja<|mv (pz pb0)<|lv (Jg rfl)<|lf Tryz.runUnderlying59 rfl sizeOf57 rfl<|ll 0 (.map (some m0_4)) isAgg57<|mv (str a3)<|mv (i6 a1)<|lv (Xf (pl := #[(0, 1), (1, 1), (2, 1)]) (ps := [(0, i6 a1)]) (cells := #[i6 a1, i6 0, i6 0]) zeroValue64 Tryz.runUnderlying64 (fun w => by kernel_rfl) rfl rfl)<|?_
    refine Jim (Jc7 (u := true) (i := 3) (rds := []) (fk := str) (fv := (fun x_ : Td => .agg #[i6 x_.kal, i6 x_.kan, i6 x_.to_])) (k := a3) (v := (⟨a1, 0, 0⟩ : Td)) Ji0 (.inr rfl) underlying57 kcx rfl rfl rfl rfl) rfl rfl (fun _ => ?_)
    refine Jd<|Jc<|Ja<|mv (pz pb0)<|mv (i6 t30)<|mv (i6 a2)<|?_
    obtain ⟨t56, h_t56, H81⟩ := Je H80; clear H80
    refine lv (Jy rfl rfl h_t56)<|mv (str a3)<|?_
    obtain ⟨t58, h_t58, H82⟩ := Je H81; clear H81
    refine bo 2 3 rfl rfl<|bo 1 2 rfl rfl<|bo 0 1 rfl rfl<|?_
    refine Qh (Jv (i := 0) (rds := []) rfl (fun w L' S hF hS hi hp hlt ho hA => ih (a0 := (⟨a0.s_, a0.kab, a0.kam, a0.kaa, (Yp a0.kaf a3 (⟨a1, 0, 0⟩ : Td))⟩ : Tf)) hp hlt (J7 w S) hn0_3 (tb_pow10.mono (hw.but hF ho)) h_t58) call46 rfl) rfl rfl rfl (fun ⟨p, p_2, p_3, p_4⟩ => ?_)
    refine ub 0 1 rfl rfl<|ub 1 2 rfl rfl<|ub 2 3 rfl rfl<|Qd 3 rfl<|mv (.tuple #[sl p t58.1.length, i6 t58.2.1, i6 t58.2.2.1])<|lv (J9 (v := sl p t58.1.length) rfl rfl)<|lv (J9 (v := i6 t58.2.1) rfl rfl)<|lv (J9 (v := i6 t58.2.2.1) rfl rfl)<|lf Tryz.runUnderlying26 rfl kcd rfl<|st (i := 5) [sl p t58.1.length] [i6 t21, str [], z0s, z0s, sl p t58.1.length] kcd rfl rfl<|ag (i6 t58.2.2.1)<|Jd<|Jc<|?_
    try dsimp only [z1,z2,z5,z6,z7,z8]
    refine Ja<|Xb (i := 5) (vs := [i6 t21, str [], z0s, z0s, sl p t58.1.length]) kbi kce rfl rfl rfl rfl rfl<|mv (i6 t58.2.2.1)<|st (i := 5) [i6 t21, str [], z0s, z0s, sl p t58.1.length] [i6 t21, str [], z0s, z0s, sl p t58.1.length] kce rfl rfl<|ag (i6 t58.2.2.1)<|Jd<|Jm<|?_
    try dsimp only [z1, z2, z3, z4, z5, z6, z7, z8]
    refine Jp 3 1<|Jp 98 2<|?_
    obtain rfl := sj H82
    refine bo 8 6 rfl rfl<|bo 7 8 rfl rfl<|bo 3 7 rfl rfl<|bo 2 3 rfl rfl<|bo 1 2 rfl rfl<|bo 0 1 rfl rfl<|?_
    refine Jad (i := 5) (vs := [i6 t21, str [], sl nn ([] : List Int).length, sl nn ([] : List Tg).length, sl p t58.1.length]) (v2 := i6 t58.2.2.1) kbi kce rfl rfl rfl rfl rfl (Y0 (nn, nn, p, p_2, p_3, p_4) (i := 0) rfl rfl (Imp.refl _))
  ·refine Jj<|Jc<|?_
   try dsimp only [z1,z2,z5,z6,z7,z8]
   refine Ja<|mv (i6 a1)<|?_
   obtain ⟨t66, h_t66, H84⟩ := Je H83; clear H83
   refine lv (Jy rfl rfl h_t66)<|mv (i6 t26)<|mv (i6 t33)<|?_
   obtain ⟨t69, h_t69, H85⟩ := Je H84; clear H84
   refine lv (Z3 rfl rfl h_t69)<|ag (i6 t66)<|ag (i6 t69)<|Jd<|Jc<|Ja<|mv (i6 a1)<|lv (Xf (pl := #[(0, 1), (1, 1), (2, 1)]) (ps := [(0, i6 a1)]) (cells := #[i6 a1, i6 0, i6 0]) zeroValue64 Tryz.runUnderlying64 (fun w => by kernel_rfl) rfl rfl)<|?_
   refine Xx (cs := [i6 0, i6 0, i6 0]) zeroValue64 rfl rfl rfl (fun b6 => ?_)
   refine st (i := 6) [i6 a1, i6 0, i6 0] [i6 a1, i6 0, i6 0] sizeOf64 rfl rfl<|Jd<|?_
   refine Qg (r := r) (σ := Int × (List Tc) × Int × Int) (τ := AN × Nat) (fun s => Ue a0 a1 a3 t21 t33 t69 s.1 s.2.1 s.2.2.1 s.2.2.2) (fun s t => [(0, pz pb0), (3, str a3), (8, pz b5), (12, i6 t33), (13, i6 s.1), (14, i6 t69), (15, pz b6)]) (fun s t => [Jf pb0 [str a0.s_, .bool a0.kab, .map (some m0_2), .slice t.1.1 t.2 t.1.2, .map (some m0_4)] 59, Qt i6 Value.bool m0_2 a0.kam, J4 82 2 (.slice t.1.1 t.2 t.1.2) t.2 (s.2.1.map Jh), Qt str (fun x_ : Td => .agg #[i6 x_.kal, i6 x_.kan, i6 x_.to_]) m0_4 a0.kaf, Xm Q9 Q9, Jf b5 [i6 t21, str [], z0s, z0s, z0s] 26, Jf b6 [i6 a1, i6 s.2.2.1, i6 s.2.2.2] 64]) (fun s t => t.2 = s.2.1.length) ?_ ?_
   ·refine Jc<|Ja<|mv (i6 t69)<|lv (Yf rfl rfl)<|Jd<|?_
    revert H85
    refine ci (decide (4 < t69)) rfl (fun hb H129=>?_) fun hb H136=>?_
    ·refine Jc<|Ja<|mv (i6 t30)<|ag (i6 t30)<|Jd<|Jc<|Jc<|Ja<|mv (pz pb0)<|mv (i6 t30)<|mv (i6 t69)<|?_
     obtain ⟨t78, h_t78, H130⟩ := Je H129; clear H129
     refine Qb (fun w hF hS => k83 (a0 := a0) (Jq w) (Q6 (fk := i6) (fv := Value.bool) (i := 1) hS rfl) (Xl (i := 2) hn0_3 hS rfl) (Q6 (fk := str) (fv := (fun x_ : Td => .agg #[i6 x_.kal, i6 x_.kan, i6 x_.to_])) (i := 3) hS rfl) (Ql (i := 0) hS rfl) h_t78) call83 rfl rfl rfl<|lv (Ja6 rfl)<|Jd<|?_
     revert H130
     refine ci (!t78) rfl (fun hb H131=>?_) fun hb H132=>?_
     ·refine Jc<|Ja<|Xb (i := 5) (vs := [i6 t21, str [], z0s, z0s, z0s]) kbi kce rfl rfl rfl rfl rfl<|st (i := 5) [i6 t21, str [], z0s, z0s, z0s] [i6 t21, str [], z0s, z0s, z0s] kce rfl rfl<|ag (i6 2)<|Jd<|Jm<|Jcv 6<|?_
      try dsimp only [z1, z2, z3, z4, z5, z6, z7, z8]
      refine Jp 3 1<|Jp 98 2<|Jp 95 6<|?_
      try dsimp only [z1,z2,z5,z6,z7,z8]
      obtain rfl := sj H131
      refine bo 4 8 rfl rfl<|Xv 4 rfl (Q7 (p := nn) rfl (AllC.nil (G := g_tag_Entry) (h := Q9) (sz := 6)))<|bo 7 4 rfl rfl<|bo 6 7 rfl rfl<|bo 3 6 rfl rfl<|bo 2 3 rfl rfl<|bo 1 2 rfl rfl<|bo 0 1 rfl rfl<|?_
      refine Jad (i := 5) (vs := [i6 t21, str [], sl nn ([] : List Int).length, sl nn ([] : List Tg).length, sl nn (([] : List (List Value)).length)]) (v2 := i6 2) kbi kce rfl rfl rfl rfl rfl (Y0 (nn, nn, nn, m0_2, p0_3, m0_4) (i := 0) rfl (by first | rfl | rw [(show (([] : List (List Value)).length) = ([] : List Ta).length from (AllC.nil (G := g_tag_Entry) (h := Q9) (sz := 6)).len), (show n0_3 = a0.kaa.length from hn0_3)]) (by first | exact Imp.refl _ | exact Imp.of (by rw [(show (([] : List (List Value)).length) = ([] : List Ta).length from (AllC.nil (G := g_tag_Entry) (h := Q9) (sz := 6)).len), (show n0_3 = a0.kaa.length from hn0_3)] <;> rfl)))
     ·refine Jj<|Jc<|?_
      try dsimp only [z1,z2,z5,z6,z7,z8]
      refine Ja<|mv (pz pb0)<|mv (pz pb0)<|lv (Jg rfl)<|lf Tryz.runUnderlying59 rfl kcj rfl<|ll 0 (sl p0_3 n0_3) kbn<|mv (i6 t30)<|mv (i6 t30)<|mv (i6 t69)<|?_
      obtain ⟨t89, h_t89, H133⟩ := Je H132; clear H132
      refine lv (Jy rfl rfl h_t89)<|lv (Xf (pl := #[(0, 1), (1, 1)]) (ps := [(0, i6 t30), (1, i6 t89)]) (cells := #[i6 t30, i6 t89]) zeroValue82 Tryz.runUnderlying82 (fun w => by kernel_rfl) rfl rfl)<|?_
      refine Q5 (vs := [.agg #[i6 t30, i6 t89]]) (cs := [i6 t30, i6 t89]) kcv kcm zeroValue82 rfl rfl rfl rfl rfl rfl rfl (fun b9 => ?_)
      obtain ⟨l92, h_l92, H134⟩ := Je H133; clear H133
      refine Qh (Yg (i := 2) (hn := hn0_3) (rds := [7]) (p := p0_3) (sz := 2) (by_ := 16) (f := Jh) (ys := a0.kaa) (ls := ([(⟨t30, t89⟩ : Tc)] : List Tc)) (V := .slice (some ⟨b9, 0, none⟩) 1 1) kcv (X0 typeInfo82) rfl rfl rfl rfl rfl rfl rfl rfl rfl rfl (fun w L' hF hS hi => Wy (i := 7) hS ((hi 7 (by simp)).trans rfl) rfl rfl) (fun _ => rfl) (fun _ => rfl) h_l92) rfl rfl rfl (fun p_12 => ?_)
      refine lv (Jg rfl)<|lf Tryz.runUnderlying59 rfl kcj rfl<|st (i := 0) [sl p_12 l92.length] [str a0.s_, .bool a0.kab, .map (some m0_2), sl p_12 l92.length, .map (some m0_4)] kcj rfl rfl<|Jd<|Ja<|mv (i6 t30)<|mv (i6 t30)<|mv (i6 t69)<|?_
      obtain ⟨t98, h_t98, H135⟩ := Je H134; clear H134
      refine lv (Jy rfl rfl h_t98)<|lf Tryz.runUnderlying64 rfl kcg rfl<|st (i := 6) [i6 t30] [i6 a1, i6 t30, i6 0] kcg rfl rfl<|lf Tryz.runUnderlying64 rfl kcg rfl<|st (i := 6) [i6 t98] [i6 a1, i6 t30, i6 t98] kcg rfl rfl<|Jd<|?_
      exact cl (t30, l92, t30, t98) (p_12, l92.length) 0 [0, 1, 2, 3, 4, 5, 6] (by exact ⟨H135, rfl⟩)
    ·refine Jj ?_
     exact cl (t66, a0.kaa, 0, 0) (p0_3, n0_3) 0 [0, 1, 2, 3, 4, 5, 6] (by exact ⟨H136, hn0_3⟩)
   ·rintro ⟨x13, l, m, m_2⟩ ⟨p_5, n⟩ gg H86 hl
    try dsimp only at H86
    try dsimp only
    refine Jc ?_
    exact Qk (Kd.p :: Kd.p :: Kd.p :: Kd.d [0] _ :: Kd.p :: Kd.d [6] _ :: Kd.t 3 [] _ _ :: []) 0 mixed (by
     refine dm (pz pb0)<|dv (Jg rfl)<|dv (J2 Tryz.runUnderlying59 rfl sizeOf57 rfl rfl)<|dl (.map (some m0_4)) isAgg57<|dm (str a3)<|Jc1 (i := 6) (vs := [i6 a1, i6 m, i6 m_2]) isAgg64 sizeOf64 rfl rfl rfl rfl<|?_
     refine d_turn0 (Cv := fun _ => Qt str (fun x_ : Td => .agg #[i6 x_.kal, i6 x_.kan, i6 x_.to_]) m0_4 (Yp a0.kaf a3 (⟨a1, m, m_2⟩ : Td))) () (Jc7 (u := true) (i := 3) (rds := _) (fk := str) (fv := (fun x_ : Td => .agg #[i6 x_.kal, i6 x_.kan, i6 x_.to_])) (k := a3) (v := (⟨a1, m, m_2⟩ : Td)) Ji0 (.inr rfl) underlying57 kcx rfl rfl rfl rfl) (fun _ => rfl) rfl rfl (fun _ => ?_)
     refine Xr<|Jc<|Ja<|mv (pz pb0)<|lv (Jg rfl)<|lf Tryz.runUnderlying59 rfl kcn rfl<|ll 0 (str a0.s_) kbp<|mv (i6 x13)<|mv (i6 x13)<|mv (i6 t69)<|?_
     obtain ⟨t114, h_t114, H87⟩ := Je H86; clear H86
     refine lv (Jy rfl rfl h_t114) ?_
     obtain ⟨t115, h_t115, H88⟩ := Je H87; clear H87
     refine lv (Jep kcx rfl rfl rfl h_t115)<|ag (str t115)<|Jd<|?_
     refine Qg (r := r) (σ := (List UInt8) × (List Int) × (List Tg)) (τ := AN × AN) (fun s => Z8 a0 a1 a3 t21 l m m_2 s.1 s.2.1 s.2.2) (fun s t => [(8, pz b5)]) (fun s t => [Jf pb0 [str a0.s_, .bool a0.kab, .map (some m0_2), sl p_5 n, .map (some m0_4)] 59, Qt i6 Value.bool m0_2 a0.kam, J4 82 2 (sl p_5 n) n (l.map Jh), Qt str (fun x_ : Td => .agg #[i6 x_.kal, i6 x_.kan, i6 x_.to_]) m0_4 (Yp a0.kaf a3 (⟨a1, m, m_2⟩ : Td)), Xm Q9 Q9, Jf b5 [i6 t21, str s.1, .slice t.1.1 s.2.1.length t.1.2, .slice t.2.1 s.2.2.length t.2.2, z0s] 26, J4 3 1 (.slice t.1.1 s.2.1.length t.1.2) s.2.1.length (s.2.1.map J8), J4 98 2 (.slice t.2.1 s.2.2.length t.2.2) s.2.2.length (s.2.2.map Jl)]) (fun s t => True) ?_ ?_
     ·refine Jc ?_
      try dsimp only [z1,z2,z5,z6,z7,z8]
      refine Ja<|lf Tryz.runUnderlying26 rfl kcg rfl<|ll 5 (i6 t21) kbk<|Jd<|Jx<|Jc<|Ja<|lv (Qj rfl rfl)<|ag (.bool (decide (t21 = 2)))<|Jd<|?_
      revert H88
      refine ci (decide (t21 = 2)) rfl (fun hb H90=>?_) fun hb H102=>?_
      ·refine Jc<|Jc<|Ja<|mv (str t115)<|lv (Jh6 rfl rfl)<|mv (.bool (decide (t115 = [])))<|?_
       revert H90
       refine sp (fun hb H91=>?_) fun hb H92=>?_
       ·refine pa<|pa<|pa<|pa<|pa<|pa<|pT (.bool true)<|Jd<|Zl rfl<|Jc<|Ja<|Xb (i := 5) (vs := [i6 t21, str [], z0s, z0s, z0s]) kbi kce rfl rfl rfl rfl rfl<|st (i := 5) [i6 t21, str [], z0s, z0s, z0s] [i6 t21, str [], z0s, z0s, z0s] kce rfl rfl<|ag (i6 1)<|Jd<|Jm<|Jcv 6<|?_
        try dsimp only [z1, z2, z3, z4, z5, z6, z7, z8]
        refine Jp 3 1<|Jp 98 2<|Jp 95 6<|?_
        try dsimp only [z1,z2,z5,z6,z7,z8]
        obtain rfl := sj H91
        refine bo 4 8 rfl rfl<|Xv 4 rfl (Q7 (p := nn) rfl (AllC.nil (G := g_tag_Entry) (h := Q9) (sz := 6)))<|bo 7 4 rfl rfl<|bo 6 7 rfl rfl<|bo 3 6 rfl rfl<|bo 2 3 rfl rfl<|bo 1 2 rfl rfl<|bo 0 1 rfl rfl<|?_
        refine Jad (i := 5) (vs := [i6 t21, str [], sl nn ([] : List Int).length, sl nn ([] : List Tg).length, sl nn (([] : List (List Value)).length)]) (v2 := i6 1) kbi kce rfl rfl rfl rfl rfl (Y0 (nn, nn, nn, m0_2, p_5, m0_4) (i := 0) rfl (by first | rfl | rw [(show (([] : List (List Value)).length) = ([] : List Ta).length from (AllC.nil (G := g_tag_Entry) (h := Q9) (sz := 6)).len), (show n = l.length from hl)]) (by first | exact Imp.refl _ | exact Imp.of (by rw [(show (([] : List (List Value)).length) = ([] : List Ta).length from (AllC.nil (G := g_tag_Entry) (h := Q9) (sz := 6)).len), (show n = l.length from hl)] <;> rfl)))
       ·refine mv (str t115)<|mv (str t115)<|lv (Yx kcx rfl)<|?_
        obtain ⟨t154, h_t154, H93⟩ := Je H92; clear H92
        refine lv (Zs rfl rfl h_t154) ?_
        obtain ⟨t155, h_t155, H94⟩ := Je H93; clear H93
        refine lv (Jc8 kcx rfl rfl h_t155)<|lv (Yv rfl rfl)<|pF (.bool (decide (t155 ≠ 0)))<|Jd<|?_
        revert H94
        refine ci (decide (t155 ≠ 0)) rfl (fun hb H95=>?_) fun hb H96=>?_
        ·refine Jc ?_
         try dsimp only [z1,z2,z5,z6,z7,z8]
         refine Ja<|Xb (i := 5) (vs := [i6 t21, str [], z0s, z0s, z0s]) kbi kce rfl rfl rfl rfl rfl<|st (i := 5) [i6 t21, str [], z0s, z0s, z0s] [i6 t21, str [], z0s, z0s, z0s] kce rfl rfl<|ag (i6 1)<|Jd<|Jm<|Jcv 6<|?_
         try dsimp only [z1, z2, z3, z4, z5, z6, z7, z8]
         refine Jp 3 1<|Jp 98 2<|Jp 95 6<|?_
         try dsimp only [z1,z2,z5,z6,z7,z8]
         obtain rfl := sj H95
         refine bo 4 8 rfl rfl<|Xv 4 rfl (Q7 (p := nn) rfl (AllC.nil (G := g_tag_Entry) (h := Q9) (sz := 6)))<|bo 7 4 rfl rfl<|bo 6 7 rfl rfl<|bo 3 6 rfl rfl<|bo 2 3 rfl rfl<|bo 1 2 rfl rfl<|bo 0 1 rfl rfl<|?_
         refine Jad (i := 5) (vs := [i6 t21, str [], sl nn ([] : List Int).length, sl nn ([] : List Tg).length, sl nn (([] : List (List Value)).length)]) (v2 := i6 1) kbi kce rfl rfl rfl rfl rfl (Y0 (nn, nn, nn, m0_2, p_5, m0_4) (i := 0) rfl (by first | rfl | rw [(show (([] : List (List Value)).length) = ([] : List Ta).length from (AllC.nil (G := g_tag_Entry) (h := Q9) (sz := 6)).len), (show n = l.length from hl)]) (by first | exact Imp.refl _ | exact Imp.of (by rw [(show (([] : List (List Value)).length) = ([] : List Ta).length from (AllC.nil (G := g_tag_Entry) (h := Q9) (sz := 6)).len), (show n = l.length from hl)] <;> rfl)))
        ·refine Jj<|Jc<|?_
         try dsimp only [z1,z2,z5,z6,z7,z8]
         refine Ja<|mv (str t115)<|mv (str t115)<|lv (Yx kcx rfl)<|?_
         obtain ⟨t162, h_t162, H97⟩ := Je H96; clear H96
         refine lv (Zs rfl rfl h_t162) ?_
         obtain ⟨t163, h_t163, H98⟩ := Je H97; clear H97
         refine lv (Up kcx rfl rfl h_t163)<|lf Tryz.runUnderlying26 rfl kcn rfl<|st (i := 5) [str t163] [i6 t21, str t163, z0s, z0s, z0s] kcn rfl rfl<|Jd<|Jc<|Ja<|lf Tryz.runUnderlying26 rfl kcn rfl<|ll 5 (str t163) kbp<|?_
         obtain ⟨t167, h_t167, H99⟩ := Je H98; clear H98
         refine Yq (k53 h_t167) call53 rfl rfl rfl<|lv (Jey rfl rfl)<|Jd<|?_
         revert H99
         refine ci (decide (0 ≤ t167)) rfl (fun hb H100=>?_) fun hb H101=>?_
         ·refine Jc<|Ja<|Xb (i := 5) (vs := [i6 t21, str t163, z0s, z0s, z0s]) kbi kce rfl rfl rfl rfl rfl<|st (i := 5) [i6 t21, str t163, z0s, z0s, z0s] [i6 t21, str t163, z0s, z0s, z0s] kce rfl rfl<|ag (i6 9)<|Jd<|Jm<|Jcv 6<|?_
          try dsimp only [z1, z2, z3, z4, z5, z6, z7, z8]
          refine Jp 3 1<|Jp 98 2<|Jp 95 6<|?_
          try dsimp only [z1,z2,z5,z6,z7,z8]
          obtain rfl := sj H100
          refine bo 4 8 rfl rfl<|Xv 4 rfl (Q7 (p := nn) rfl (AllC.nil (G := g_tag_Entry) (h := Q9) (sz := 6)))<|bo 7 4 rfl rfl<|bo 6 7 rfl rfl<|bo 3 6 rfl rfl<|bo 2 3 rfl rfl<|bo 1 2 rfl rfl<|bo 0 1 rfl rfl<|?_
          refine Jad (i := 5) (vs := [i6 t21, str t163, sl nn ([] : List Int).length, sl nn ([] : List Tg).length, sl nn (([] : List (List Value)).length)]) (v2 := i6 9) kbi kce rfl rfl rfl rfl rfl (Y0 (nn, nn, nn, m0_2, p_5, m0_4) (i := 0) rfl (by first | rfl | rw [(show (([] : List (List Value)).length) = ([] : List Ta).length from (AllC.nil (G := g_tag_Entry) (h := Q9) (sz := 6)).len), (show n = l.length from hl)]) (by first | exact Imp.refl _ | exact Imp.of (by rw [(show (([] : List (List Value)).length) = ([] : List Ta).length from (AllC.nil (G := g_tag_Entry) (h := Q9) (sz := 6)).len), (show n = l.length from hl)] <;> rfl)))
         ·refine Jj<|Jp 3 1<|Jp 98 2<|?_
          exact cl (t163, ([] : List Int), ([] : List Tg)) (nn, nn) 0 [0, 1, 2, 3, 4, 5, 7, 8] (by exact ⟨H101, trivial⟩)
      ·refine Jc ?_
       try dsimp only [z1,z2,z5,z6,z7,z8]
       refine Ja<|lv (Qj rfl rfl)<|ag (.bool (decide (t21 = 7)))<|Jd<|?_
       revert H102
       refine ci (decide (t21 = 7)) rfl (fun hb H103=>?_) fun hb H104=>?_
       ·refine Ja<|mv (str t115)<|lf Tryz.runUnderlying26 rfl kcn rfl<|st (i := 5) [str t115] [i6 t21, str t115, z0s, z0s, z0s] kcn rfl rfl<|Jd<|Jp 3 1<|Jp 98 2<|?_
        exact cl (t115, ([] : List Int), ([] : List Tg)) (nn, nn) 0 [0, 1, 2, 3, 4, 5, 7, 8] (by exact ⟨H103, trivial⟩)
       ·refine Jc<|Ja<|lv (Qj rfl rfl)<|ag (.bool (decide (t21 = 5)))<|Jd<|?_
        revert H104
        refine ci (decide (t21 = 5)) rfl (fun hb H105=>?_) fun hb H115=>?_
        ·refine Jx<|Jcv 6<|?_
         try dsimp only [z1, z2, z3, z4, z5, z6, z7, z8]
         refine Jp 98 2 ?_
         refine Za (σ := (List UInt8) × (List Tg)) (τ := AN) (fun next3 s => Zh a0 a1 a3 t21 l m m_2 next3 s.1 s.2) (fun s t => [(0, pz pb0), (8, pz b5), (16, str s.1)]) (fun s t => [Jf pb0 [str a0.s_, .bool a0.kab, .map (some m0_2), sl p_5 n, .map (some m0_4)] 59, Qt i6 Value.bool m0_2 a0.kam, J4 82 2 (sl p_5 n) n (l.map Jh), Qt str (fun x_ : Td => .agg #[i6 x_.kal, i6 x_.kan, i6 x_.to_]) m0_4 (Yp a0.kaf a3 (⟨a1, m, m_2⟩ : Td)), Xm Q9 Q9, Jf b5 [i6 t21, str [], z0s, sl t s.2.length, z0s] 26, J4 98 2 (sl t s.2.length) s.2.length (s.2.map Jl)]) (fun s t => True) (t115, ([] : List Tg)) nn [0, 1, 2, 3, 4, 5, 6] H105 (by exact trivial) (by exact ⟨rfl, rfl, rfl, trivial⟩) (by decide) rfl ?_
         rintro ⟨x16_2, l_5⟩ p_8 m3 gg H106 _
         clear H105
         try dsimp only at H106
         generalize hn3 : it (fun next3 s => Zh a0 a1 a3 t21 l m m_2 next3 s.1 s.2) m3 = next3 at H106
         try dsimp only
         refine Jc<|Jc<|Ja<|mv (str x16_2)<|lv (Je0 rfl rfl)<|Jd<|?_
         revert H106
         refine ci (decide (x16_2 ≠ [])) rfl (fun hb H107=>?_) fun hb H114=>?_
         ·refine Jj<|Jc<|Jx<|?_
          exact Qk (Kd.p :: Kd.d [5] _ :: Kd.p :: Kd.p :: Kd.p :: Kd.d [0] _ :: Kd.p :: Kd.p :: Kd.d [] _ :: Kd.p :: Kd.p :: Kd.p :: Kd.d [0] _ :: Kd.p :: Kd.p :: Kd.d [] _ :: Kd.p :: Kd.ns 7 [_, _] 98 1 :: Kd.t 6 [7] _ _ :: Kd.p :: Kd.sv 199 198 5 _ 26 :: []) 1 mixed (by
           refine dv (J2 Tryz.runUnderlying26 rfl kcc rfl rfl)<|dl (sl p_8 l_5.length) isAgg23<|dm (pz pb0)<|dv (Jg rfl)<|dv (J2 Tryz.runUnderlying59 rfl kck rfl rfl)<|dl (.bool a0.kab) kbo<|dm (str x16_2)<|?_
           have h_t187 := Jt H107
           have H108 := Jn H107
           refine dv (Up kcx rfl rfl h_t187) ?_
           have h_t188 := Jt H108
           have H109 := Jn H108
           refine Ja9 (k82 h_t188) call82 rfl rfl<|dm (pz pb0)<|dv (Jg rfl)<|dv (J2 Tryz.runUnderlying59 rfl kck rfl rfl)<|dl (.bool a0.kab) kbo<|dm (str x16_2)<|?_
           have h_t194 := Jt H109
           have H110 := Jn H109
           refine dv (Jep kcx rfl rfl rfl h_t194) ?_
           have h_t195 := Jt H110
           have H111 := Jn H110
           refine Ja9 (k82 h_t195) call82 rfl rfl<|dv (Xf (pl := #[(0, 1), (1, 1)]) (ps := [(0, i6 (val (Qs a0.kab (val (Qp x16_2 0 4))))), (1, i6 (val (Qs a0.kab (val (Qp x16_2 4 8)))))]) (cells := #[i6 (val (Qs a0.kab (val (Qp x16_2 0 4)))), i6 (val (Qs a0.kab (val (Qp x16_2 4 8))))]) zeroValue98 Tryz.runUnderlying98 (fun w => by kernel_rfl) rfl rfl)<|?_
           refine d_newS rfl rfl (Jbx (vs := [.agg #[i6 (val (Qs a0.kab (val (Qp x16_2 0 4)))), i6 (val (Qs a0.kab (val (Qp x16_2 4 8))))]]) (cs := [i6 (val (Qs a0.kab (val (Qp x16_2 0 4)))), i6 (val (Qs a0.kab (val (Qp x16_2 4 8))))]) kcs kcp zeroValue98 rfl rfl rfl rfl rfl) rfl (fun b7 => ?_)
           have h_l198 := Jt H111
           have H112 := Jn H111
           refine Jct (Cv := fun v => J4 98 2 v (val (Wb 16 l_5 ([(⟨(val (Qs a0.kab (val (Qp x16_2 0 4)))), (val (Qs a0.kab (val (Qp x16_2 4 8))))⟩ : Tg)] : List Tg))).length ((val (Wb 16 l_5 ([(⟨(val (Qs a0.kab (val (Qp x16_2 0 4)))), (val (Qs a0.kab (val (Qp x16_2 4 8))))⟩ : Tg)] : List Tg))).map Jl)) (none, 0) (Yg (i := 6) (hn := rfl) (rds := [7]) (p := p_8) (sz := 2) (by_ := 16) (f := Jl) (ys := l_5) (ls := ([(⟨(val (Qs a0.kab (val (Qp x16_2 0 4)))), (val (Qs a0.kab (val (Qp x16_2 4 8))))⟩ : Tg)] : List Tg)) (V := .slice (some ⟨b7, 0, none⟩) 1 1) kcs (X0 typeInfo98) rfl rfl rfl rfl rfl rfl rfl rfl rfl rfl (fun w L' hF hS hi => Wy (i := 7) hS ((hi 7 (by simp)).trans rfl) rfl rfl) (fun _ => rfl) (fun _ => rfl) h_l198) (fun _ => rfl) rfl rfl (fun p_9 => ?_)
           refine dv (J2 Tryz.runUnderlying26 rfl kcc rfl rfl)<|Jdf (i := 5) (vs := [.slice p_9.1 (val (Wb 16 l_5 ([(⟨(val (Qs a0.kab (val (Qp x16_2 0 4)))), (val (Qs a0.kab (val (Qp x16_2 4 8))))⟩ : Tg)] : List Tg))).length p_9.2]) (cs' := fun v_ => [i6 t21, str [], z0s, v_, z0s]) kcc rfl rfl rfl rfl rfl rfl rfl rfl rfl<|Xr<|Ja<|mv (str x16_2)<|?_
           obtain ⟨t179, h_t179, H113⟩ := Je H112; clear H112
           refine lv (Jcb kcx rfl rfl h_t179)<|ag (str t179)<|Jd<|?_
           exact cl (t179, (val (Wb 16 l_5 ([(⟨(val (Qs a0.kab (val (Qp x16_2 0 4)))), (val (Qs a0.kab (val (Qp x16_2 4 8))))⟩ : Tg)] : List Tg)))) p_9 m3 [0, 1, 2, 3, 4, 5, 6] (by exact ⟨(by subst hn3; exact H113), trivial⟩)
           ) (by kernel_rfl)
         ·refine Xj<|Jp 3 1<|?_
          exact cl ([], ([] : List Int), l_5) (nn, p_8) 0 [0, 1, 2, 3, 4, 5, 7, 6] (by exact ⟨H114, trivial⟩)
        ·refine Jx<|Jcv 6<|?_
         try dsimp only [z1, z2, z3, z4, z5, z6, z7, z8]
         refine Jp 3 1 ?_
         refine Za (σ := (List UInt8) × (List Int)) (τ := AN) (fun next4 s => Zf a0 a1 a3 t21 t33 l m m_2 next4 s.1 s.2) (fun s t => [(0, pz pb0), (8, pz b5), (12, i6 t33), (16, str s.1)]) (fun s t => [Jf pb0 [str a0.s_, .bool a0.kab, .map (some m0_2), sl p_5 n, .map (some m0_4)] 59, Qt i6 Value.bool m0_2 a0.kam, J4 82 2 (sl p_5 n) n (l.map Jh), Qt str (fun x_ : Td => .agg #[i6 x_.kal, i6 x_.kan, i6 x_.to_]) m0_4 (Yp a0.kaf a3 (⟨a1, m, m_2⟩ : Td)), Xm Q9 Q9, Jf b5 [i6 t21, str [], sl t s.2.length, z0s, z0s] 26, J4 3 1 (sl t s.2.length) s.2.length (s.2.map J8)]) (fun s t => True) (t115, ([] : List Int)) nn [0, 1, 2, 3, 4, 5, 6] H115 (by exact trivial) (by exact ⟨rfl, rfl, rfl, rfl, trivial⟩) (by decide) rfl ?_
         rintro ⟨x16_4, l_7⟩ p_10 m4 gg H116 _
         clear H115
         try dsimp only at H116
         generalize hn4 : it (fun next4 s => Zf a0 a1 a3 t21 t33 l m m_2 next4 s.1 s.2) m4 = next4 at H116
         try dsimp only
         refine Jc<|Jc<|Ja<|mv (str x16_4)<|lv (Je0 rfl rfl)<|Jd<|?_
         revert H116
         refine ci (decide (x16_4 ≠ [])) rfl (fun hb H117=>?_) fun hb H128=>?_
         ·refine Jj<|Jc<|Jx<|Jc<|?_
          exact Qk (Kd.p :: Kd.p :: Kd.p :: Kd.d [0] _ :: Kd.p :: Kd.p :: Kd.p :: Kd.d [] _ :: Kd.p :: []) 0 mixed (by
           refine dm (pz pb0)<|dv (Jg rfl)<|dv (J2 Tryz.runUnderlying59 rfl kck rfl rfl)<|dl (.bool a0.kab) kbo<|dm (str x16_4)<|dm (i6 t33)<|?_
           have h_t129 := Jt H117
           have H118 := Jn H117
           refine dv (Up kcx rfl rfl h_t129) ?_
           have h_t130 := Jt H118
           have H119 := Jn H118
           refine Ja9 (k82 h_t130) call82 rfl rfl<|Qv rfl rfl (Jz (v := i6 (val (Qs a0.kab (val (Qp x16_4 0 t33))))) rfl)<|Xr<|?_
           refine Qg (r := r) (σ := Int) (τ := Unit) (fun s => V1 t33 x16_4 l_7 next4 s) (fun s t => [(0, pz pb0), (8, pz b5), (12, i6 t33), (16, str x16_4), (17, i6 s)]) (fun s t => [Jf pb0 [str a0.s_, .bool a0.kab, .map (some m0_2), sl p_5 n, .map (some m0_4)] 59, Qt i6 Value.bool m0_2 a0.kam, J4 82 2 (sl p_5 n) n (l.map Jh), Qt str (fun x_ : Td => .agg #[i6 x_.kal, i6 x_.kan, i6 x_.to_]) m0_4 (Yp a0.kaf a3 (⟨a1, m, m_2⟩ : Td)), Xm Q9 Q9, Jf b5 [i6 t21, str [], sl p_10 l_7.length, z0s, z0s] 26, J4 3 1 (sl p_10 l_7.length) l_7.length (l_7.map J8)]) (fun s t => True) ?_ ?_
           ·refine Jc<|Ja<|lf Tryz.runUnderlying26 rfl kcg rfl<|ll 5 (i6 t21) kbk<|lv (Qj rfl rfl)<|mv (.bool (decide (t21 = 9)))<|?_
            revert H119
            refine sp (fun hb H123=>?_) fun hb H127=>?_
            ·refine mv (i6 (val (Qs a0.kab (val (Qp x16_4 0 t33)))))<|lv (Jey rfl rfl)<|pT (.bool (decide (2147483648 ≤ (val (Qs a0.kab (val (Qp x16_4 0 t33)))))))<|Jd<|?_
             revert H123
             refine ci (decide (2147483648 ≤ (val (Qs a0.kab (val (Qp x16_4 0 t33)))))) rfl (fun hb H124=>?_) fun hb H126=>?_
             ·refine Ja<|mv (i6 (val (Qs a0.kab (val (Qp x16_4 0 t33)))))<|?_
              obtain ⟨t139, h_t139, H125⟩ := Je H124; clear H124
              refine lv (Zs rfl rfl h_t139)<|ag (i6 t139)<|Jd<|?_
              exact cl t139 () 0 [0, 1, 2, 3, 4, 5, 6] (by exact ⟨H125, trivial⟩)
             ·refine Jj ?_
              exact cl (val (Qs a0.kab (val (Qp x16_4 0 t33)))) () 0 [0, 1, 2, 3, 4, 5, 6] (by exact ⟨H126, trivial⟩)
            ·refine pa<|pa<|pF (.bool false)<|Jd<|Zz rfl<|Jj<|?_
             exact cl (val (Qs a0.kab (val (Qp x16_4 0 t33)))) () 0 [0, 1, 2, 3, 4, 5, 6] (by exact ⟨H127, trivial⟩)
           ·rintro x17 _ gg H120 _
            try dsimp only at H120
            try dsimp only
            refine Ja<|lf Tryz.runUnderlying26 rfl kcb rfl<|ll 5 (sl p_10 l_7.length) kbg<|mv (i6 x17)<|?_
            refine Q5 (vs := [i6 x17]) (cs := [i6 x17]) kcr kcg zeroValue3 rfl rfl rfl rfl rfl rfl rfl (fun b8 => ?_)
            obtain ⟨l144, h_l144, H121⟩ := Je H120; clear H120
            refine Qh (Yg (i := 6) (hn := rfl) (rds := [7]) (p := p_10) (sz := 1) (by_ := 8) (f := J8) (ys := l_7) (ls := ([x17] : List Int)) (V := .slice (some ⟨b8, 0, none⟩) 1 1) kcr (X0 typeInfo3) rfl rfl rfl rfl rfl rfl rfl rfl rfl rfl (fun w L' hF hS hi => Wy (i := 7) hS ((hi 7 (by simp)).trans rfl) rfl rfl) (fun _ => rfl) (fun _ => rfl) h_l144) rfl rfl rfl (fun p_11 => ?_)
            refine lf Tryz.runUnderlying26 rfl kcb rfl<|st (i := 5) [sl p_11 l144.length] [i6 t21, str [], sl p_11 l144.length, z0s, z0s] kcb rfl rfl<|Jd<|Ja<|mv (str x16_4)<|mv (i6 t33)<|?_
            obtain ⟨t122, h_t122, H122⟩ := Je H121; clear H121
            refine lv (Jcb kcx rfl rfl h_t122)<|ag (str t122)<|Jd<|?_
            exact cl (t122, l144) p_11 m4 [0, 1, 2, 3, 4, 5, 6] (by exact ⟨(by subst hn4; exact H122), trivial⟩)
           ) (by kernel_rfl)
         ·refine Xj<|Jp 98 2<|?_
          exact cl ([], l_7, ([] : List Tg)) (p_10, nn) 0 [0, 1, 2, 3, 4, 5, 6, 7] (by exact ⟨H128, trivial⟩)
     ·rintro ⟨m_3, l_2, l_3⟩ ⟨p_6, p_7⟩ gg H89 _
      try dsimp only at H89
      try dsimp only
      refine Jc<|Ja<|Xb (i := 5) (vs := [i6 t21, str m_3, sl p_6 l_2.length, sl p_7 l_3.length, z0s]) kbi kce rfl rfl rfl rfl rfl<|st (i := 5) [i6 t21, str m_3, sl p_6 l_2.length, sl p_7 l_3.length, z0s] [i6 t21, str m_3, sl p_6 l_2.length, sl p_7 l_3.length, z0s] kce rfl rfl<|ag (i6 0)<|Jd<|Jm<|?_
      try dsimp only [z1, z2, z3, z4, z5, z6, z7, z8]
      refine Jp 95 6 ?_
      obtain rfl := sj H89
      refine bo 4 8 rfl rfl<|Xv 4 rfl (Q7 (p := nn) rfl (AllC.nil (G := g_tag_Entry) (h := Q9) (sz := 6)))<|bo 7 4 rfl rfl<|bo 6 7 rfl rfl<|bo 3 6 rfl rfl<|bo 2 3 rfl rfl<|bo 1 2 rfl rfl<|bo 0 1 rfl rfl<|?_
      refine Jad (i := 5) (vs := [i6 t21, str m_3, sl p_6 l_2.length, sl p_7 l_3.length, sl nn (([] : List (List Value)).length)]) (v2 := i6 0) kbi kce rfl rfl rfl rfl rfl (Y0 (p_6, p_7, nn, m0_2, p_5, m0_4) (i := 0) rfl (by first | rfl | rw [(show (([] : List (List Value)).length) = ([] : List Ta).length from (AllC.nil (G := g_tag_Entry) (h := Q9) (sz := 6)).len), (show n = l.length from hl)]) (by first | exact Imp.refl _ | exact Imp.of (by rw [(show (([] : List (List Value)).length) = ([] : List Ta).length from (AllC.nil (G := g_tag_Entry) (h := Q9) (sz := 6)).len), (show n = l.length from hl)] <;> rfl)))
     ) (by kernel_rfl)
theorem k46_it (mm : Nat) : ∀ {a0 : Tf} {pb0 : Nat} {m0_2 : Nat} {p0_3 : AN} {n0_3 : Nat} {m0_4 : Nat} {a1 : Int} {a2 : Int} {a3 : Int} {a4 : Bool} {a5 : (List UInt8)} {r : (List Ta) × Int × Int × Tf} {w : World} {h : J1} {S : Nat → Prop} (hcs : (Jw (Jf pb0 [str a0.s_, .bool a0.kab, .map (some m0_2), sl p0_3 n0_3, .map (some m0_4)] 59) (Jw (Qt i6 Value.bool m0_2 a0.kam) (Jw (J4 82 2 (sl p0_3 n0_3) n0_3 (a0.kaa.map Jh)) (Qt str (fun x_ : Td => .agg #[i6 x_.kal, i6 x_.kan, i6 x_.to_]) m0_4 a0.kaf)))).P S w) (hlt : ∀ b, S b → b < w.heap.size) (hw : Know h w S) (hn0_3 : n0_3 = a0.kaa.length) (tb_pow10 : TabH prog h "internal/strconv.uint64pow10" .u64 Lib.pow10Tab) (H : it (fun (self : (Tf × Int × Int × Int × Bool × (List UInt8)) → Option ((List Ta) × Int × Int × Tf)) (s : Tf × Int × Int × Int × Bool × (List UInt8)) => Qy self s.1 s.2.1 s.2.2.1 s.2.2.2.1 s.2.2.2.2.1 s.2.2.2.2.2) mm (a0, a1, a2, a3, a4, a5) = some r), Does prog 46 (List.toArray [pz pb0, i6 a1, i6 a2, i6 a3, .bool a4, str a5]) w (fun v w' => ∃ x : AN × Nat × AN × Nat, v = (.tuple #[.slice x.1.1 r.1.length x.1.2, i6 r.2.1, i6 r.2.2.1]) ∧ Turn w w' S (Jw (Jf pb0 [str r.2.2.2.s_, .bool r.2.2.2.kab, .map (some x.2.1), .slice x.2.2.1.1 r.2.2.2.kaa.length x.2.2.1.2, .map (some x.2.2.2)] 59) (Jw (Qt i6 Value.bool x.2.1 r.2.2.2.kam) (Jw (J4 82 2 (.slice x.2.2.1.1 r.2.2.2.kaa.length x.2.2.1.2) r.2.2.2.kaa.length (r.2.2.2.kaa.map Jh)) (Jw (Qt str (fun x_ : Td => .agg #[i6 x_.kal, i6 x_.kan, i6 x_.to_]) x.2.2.2 r.2.2.2.kaf) (Uj 95 6 g_tag_Entry (.slice x.1.1 r.1.length x.1.2) r.1.length r.1)))))) := by
 induction mm with
 | zero => intros; rename_i H; exact absurd H (by simp [it])
 | succ mm ih =>
  intro a0 pb0 m0_2 p0_3 n0_3 m0_4 a1 a2 a3 a4 a5 r w h S hcs hlt hw hn0_3 tb_pow10 H
  replace H : Qy (it (fun (self : (Tf × Int × Int × Int × Bool × (List UInt8)) → Option ((List Ta) × Int × Int × Tf)) (s : Tf × Int × Int × Int × Bool × (List UInt8)) => Qy self s.1 s.2.1 s.2.2.1 s.2.2.2.1 s.2.2.2.2.1 s.2.2.2.2.2) mm) a0 a1 a2 a3 a4 a5 = some r := H
  generalize it (fun (self : (Tf × Int × Int × Int × Bool × (List UInt8)) → Option ((List Ta) × Int × Int × Tf)) (s : Tf × Int × Int × Int × Bool × (List UInt8)) => Qy self s.1 s.2.1 s.2.2.1 s.2.2.2.1 s.2.2.2.2.1 s.2.2.2.2.2) mm = self at H ih
  refine enter (n := 134) func46 rfl rfl rfl S [Jw (Jf pb0 [str a0.s_, .bool a0.kab, .map (some m0_2), sl p0_3 n0_3, .map (some m0_4)] 59) (Jw (Qt i6 Value.bool m0_2 a0.kam) (Jw (J4 82 2 (sl p0_3 n0_3) n0_3 (a0.kaa.map Jh)) (Qt str (fun x_ : Td => .agg #[i6 x_.kal, i6 x_.kan, i6 x_.to_]) m0_4 a0.kaf)))] (Sat.one hcs hlt)<|Qd 0 rfl<|Qd 1 rfl<|Qd 2 rfl<|X8 Q9<|Jc<|Ja<|ag (z0s)<|ag (i6 0)<|ag (i6 0)<|Jd<|Jc<|Jc<|Ja<|mv (pz pb0)<|mv (i6 a1)<|?_
  obtain ⟨t21, h_t21, H56⟩ := Je H; clear H
  refine Qb (fun w hF hS => k83 (a0 := a0) (Jq w) (Q6 (fk := i6) (fv := Value.bool) (i := 1) hS rfl) (Xl (i := 2) hn0_3 hS rfl) (Q6 (fk := str) (fv := (fun x_ : Td => .agg #[i6 x_.kal, i6 x_.kan, i6 x_.to_])) (i := 3) hS rfl) (Ql (i := 0) hS rfl) h_t21) call83 rfl rfl rfl<|lv (Ja6 rfl)<|Jd<|?_
  revert H56
  refine ci (!t21) rfl (fun hb H57=>?_) fun hb H58=>?_
  ·refine Jc<|Ja<|ag (z0s)<|ag (i6 0)<|ag (i6 2)<|Jd<|Jm<|Jp 95 6<|?_
   obtain rfl := sj H57
   refine bo 4 5 rfl rfl<|Xv 4 rfl (Q7 (p := nn) rfl (AllC.nil (G := g_tag_Entry) (h := Q9) (sz := 6)))<|bo 3 4 rfl rfl<|bo 2 3 rfl rfl<|bo 1 2 rfl rfl<|bo 0 1 rfl rfl<|?_
   refine ret3 (v1 := sl nn (([] : List (List Value)).length)) (v2 := i6 0) (v3 := i6 2) rfl rfl rfl rfl (Y0 (nn, m0_2, p0_3, m0_4) (i := 0) rfl (by first | rfl | rw [(show (([] : List (List Value)).length) = ([] : List Ta).length from (AllC.nil (G := g_tag_Entry) (h := Q9) (sz := 6)).len), (show n0_3 = a0.kaa.length from hn0_3)]) (by first | exact Imp.refl _ | exact Imp.of (by rw [(show (([] : List (List Value)).length) = ([] : List Ta).length from (AllC.nil (G := g_tag_Entry) (h := Q9) (sz := 6)).len), (show n0_3 = a0.kaa.length from hn0_3)] <;> rfl)))
  ·refine Jj<|Jc<|Jc<|?_
   try dsimp only [z1,z2,z5,z6,z7,z8]
   refine Ja<|mv (pz pb0)<|lv (Jg rfl)<|lf Tryz.runUnderlying59 rfl sizeOf56 rfl<|ll 0 (.map (some m0_2)) isAgg56<|mv (i6 a1)<|Xs (fun w hF hS => Jeq (i := 1) (fk := i6) (fv := Value.bool) (k := a1) (z := false) Jd4 underlying56 underlying3 zeroValue4 rfl rfl hS rfl) rfl rfl rfl<|Jd<|?_
   revert H58
   refine ci ((Q2 a0.kam a1).getD false) rfl (fun hb H59=>?_) fun hb H60=>?_
   ·refine Jc<|Ja<|ag (z0s)<|ag (i6 0)<|ag (i6 13)<|Jd<|Jm<|Jp 95 6<|?_
    obtain rfl := sj H59
    refine bo 4 5 rfl rfl<|Xv 4 rfl (Q7 (p := nn) rfl (AllC.nil (G := g_tag_Entry) (h := Q9) (sz := 6)))<|bo 3 4 rfl rfl<|bo 2 3 rfl rfl<|bo 1 2 rfl rfl<|bo 0 1 rfl rfl<|?_
    refine ret3 (v1 := sl nn (([] : List (List Value)).length)) (v2 := i6 0) (v3 := i6 13) rfl rfl rfl rfl (Y0 (nn, m0_2, p0_3, m0_4) (i := 0) rfl (by first | rfl | rw [(show (([] : List (List Value)).length) = ([] : List Ta).length from (AllC.nil (G := g_tag_Entry) (h := Q9) (sz := 6)).len), (show n0_3 = a0.kaa.length from hn0_3)]) (by first | exact Imp.refl _ | exact Imp.of (by rw [(show (([] : List (List Value)).length) = ([] : List Ta).length from (AllC.nil (G := g_tag_Entry) (h := Q9) (sz := 6)).len), (show n0_3 = a0.kaa.length from hn0_3)] <;> rfl)))
   ·refine Jj<|Jc<|?_
    try dsimp only [z1,z2,z5,z6,z7,z8]
    refine Ja<|mv (pz pb0)<|lv (Jg rfl)<|lf Tryz.runUnderlying59 rfl sizeOf56 rfl<|ll 0 (.map (some m0_2)) isAgg56<|mv (i6 a1)<|?_
    refine Jim (Jc7 (u := true) (i := 1) (rds := []) (fk := i6) (fv := Value.bool) (k := a1) (v := true) Jd4 (.inr rfl) underlying56 underlying3 rfl rfl rfl rfl) rfl rfl (fun _ => ?_)
    refine Jd<|Jc<|Ja<|mv (pz pb0)<|mv (i6 a1)<|?_
    obtain ⟨t36, h_t36, H61⟩ := Je H60; clear H60
    refine Qb (fun w hF hS => k45 (a0 := (⟨a0.s_, a0.kab, (Yp a0.kam a1 true), a0.kaa, a0.kaf⟩ : Tf)) (Jq w) (Q6 (fk := i6) (fv := Value.bool) (i := 1) hS rfl) (Xl (i := 2) hn0_3 hS rfl) (Q6 (fk := str) (fv := (fun x_ : Td => .agg #[i6 x_.kal, i6 x_.kan, i6 x_.to_])) (i := 3) hS rfl) (Ql (i := 0) hS rfl) h_t36) call45 rfl rfl rfl<|ag (i6 t36)<|Jd<|Jc<|Jc<|Ja<|mv (i6 a3)<|lv (Jey rfl rfl)<|mv (.bool (decide (20 ≤ a3)))<|?_
    revert H61
    refine sp (fun hb H62=>?_) fun hb H63=>?_
    ·refine pa<|pa<|pT (.bool true)<|mv (.bool true)<|pa<|pa<|pT (.bool true)<|Jd<|Zl rfl<|Jc<|Ja<|ag (z0s)<|ag (i6 0)<|ag (i6 4)<|Jd<|Jm<|Jp 95 6<|?_
     obtain rfl := sj H62
     refine bo 4 5 rfl rfl<|Xv 4 rfl (Q7 (p := nn) rfl (AllC.nil (G := g_tag_Entry) (h := Q9) (sz := 6)))<|bo 3 4 rfl rfl<|bo 2 3 rfl rfl<|bo 1 2 rfl rfl<|bo 0 1 rfl rfl<|?_
     refine ret3 (v1 := sl nn (([] : List (List Value)).length)) (v2 := i6 0) (v3 := i6 4) rfl rfl rfl rfl (Y0 (nn, m0_2, p0_3, m0_4) (i := 0) rfl (by first | rfl | rw [(show (([] : List (List Value)).length) = ([] : List Ta).length from (AllC.nil (G := g_tag_Entry) (h := Q9) (sz := 6)).len), (show n0_3 = a0.kaa.length from hn0_3)]) (by first | exact Imp.refl _ | exact Imp.of (by rw [(show (([] : List (List Value)).length) = ([] : List Ta).length from (AllC.nil (G := g_tag_Entry) (h := Q9) (sz := 6)).len), (show n0_3 = a0.kaa.length from hn0_3)] <;> rfl)))
    ·refine mv (i6 a2)<|lv (Yf rfl rfl)<|pF (.bool (decide (5 < a2)))<|mv (.bool (decide (5 < a2)))<|?_
     revert H63
     refine sp (fun hb H64=>?_) fun hb H65=>?_
     ·refine pa<|pa<|pT (.bool true)<|Jd<|Zl rfl<|Jc<|?_
      try dsimp only [z1,z2,z5,z6,z7,z8]
      refine Ja<|ag (z0s)<|ag (i6 0)<|ag (i6 4)<|Jd<|Jm<|Jp 95 6<|?_
      obtain rfl := sj H64
      refine bo 4 5 rfl rfl<|Xv 4 rfl (Q7 (p := nn) rfl (AllC.nil (G := g_tag_Entry) (h := Q9) (sz := 6)))<|bo 3 4 rfl rfl<|bo 2 3 rfl rfl<|bo 1 2 rfl rfl<|bo 0 1 rfl rfl<|?_
      refine ret3 (v1 := sl nn (([] : List (List Value)).length)) (v2 := i6 0) (v3 := i6 4) rfl rfl rfl rfl (Y0 (nn, m0_2, p0_3, m0_4) (i := 0) rfl (by first | rfl | rw [(show (([] : List (List Value)).length) = ([] : List Ta).length from (AllC.nil (G := g_tag_Entry) (h := Q9) (sz := 6)).len), (show n0_3 = a0.kaa.length from hn0_3)]) (by first | exact Imp.refl _ | exact Imp.of (by rw [(show (([] : List (List Value)).length) = ([] : List Ta).length from (AllC.nil (G := g_tag_Entry) (h := Q9) (sz := 6)).len), (show n0_3 = a0.kaa.length from hn0_3)] <;> rfl)))
     ·refine mv (i6 t36)<|lv (Yf rfl rfl)<|pF (.bool (decide (200 < t36)))<|Jd<|?_
      revert H65
      refine ci (decide (200 < t36)) rfl (fun hb H66=>?_) fun hb H67=>?_
      ·refine Jc ?_
       try dsimp only [z1,z2,z5,z6,z7,z8]
       refine Ja<|ag (z0s)<|ag (i6 0)<|ag (i6 4)<|Jd<|Jm<|Jp 95 6<|?_
       obtain rfl := sj H66
       refine bo 4 5 rfl rfl<|Xv 4 rfl (Q7 (p := nn) rfl (AllC.nil (G := g_tag_Entry) (h := Q9) (sz := 6)))<|bo 3 4 rfl rfl<|bo 2 3 rfl rfl<|bo 1 2 rfl rfl<|bo 0 1 rfl rfl<|?_
       refine ret3 (v1 := sl nn (([] : List (List Value)).length)) (v2 := i6 0) (v3 := i6 4) rfl rfl rfl rfl (Y0 (nn, m0_2, p0_3, m0_4) (i := 0) rfl (by first | rfl | rw [(show (([] : List (List Value)).length) = ([] : List Ta).length from (AllC.nil (G := g_tag_Entry) (h := Q9) (sz := 6)).len), (show n0_3 = a0.kaa.length from hn0_3)]) (by first | exact Imp.refl _ | exact Imp.of (by rw [(show (([] : List (List Value)).length) = ([] : List Ta).length from (AllC.nil (G := g_tag_Entry) (h := Q9) (sz := 6)).len), (show n0_3 = a0.kaa.length from hn0_3)] <;> rfl)))
      ·refine Jj<|Jc<|Jc<|?_
       try dsimp only [z1,z2,z5,z6,z7,z8]
       refine Ja<|mv (pz pb0)<|mv (i6 a1)<|mv (i6 t36)<|?_
       obtain ⟨t50, h_t50, H68⟩ := Je H67; clear H67
       refine lv (Z3 rfl rfl h_t50) ?_
       obtain ⟨t51, h_t51, H69⟩ := Je H68; clear H68
       refine lv (Jy rfl rfl h_t51) ?_
       obtain ⟨t52, h_t52, H70⟩ := Je H69; clear H69
       refine lv (Jy rfl rfl h_t52) ?_
       obtain ⟨t53, h_t53, H71⟩ := Je H70; clear H70
       refine Qb (fun w hF hS => k83 (a0 := (⟨a0.s_, a0.kab, (Yp a0.kam a1 true), a0.kaa, a0.kaf⟩ : Tf)) (Jq w) (Q6 (fk := i6) (fv := Value.bool) (i := 1) hS rfl) (Xl (i := 2) hn0_3 hS rfl) (Q6 (fk := str) (fv := (fun x_ : Td => .agg #[i6 x_.kal, i6 x_.kan, i6 x_.to_])) (i := 3) hS rfl) (Ql (i := 0) hS rfl) h_t53) call83 rfl rfl rfl<|lv (Ja6 rfl)<|Jd<|?_
       revert H71
       refine ci (!t53) rfl (fun hb H72=>?_) fun hb H73=>?_
       ·refine Jc<|Ja<|ag (z0s)<|ag (i6 0)<|ag (i6 2)<|Jd<|Jm<|Jp 95 6<|?_
        obtain rfl := sj H72
        refine bo 4 5 rfl rfl<|Xv 4 rfl (Q7 (p := nn) rfl (AllC.nil (G := g_tag_Entry) (h := Q9) (sz := 6)))<|bo 3 4 rfl rfl<|bo 2 3 rfl rfl<|bo 1 2 rfl rfl<|bo 0 1 rfl rfl<|?_
        refine ret3 (v1 := sl nn (([] : List (List Value)).length)) (v2 := i6 0) (v3 := i6 2) rfl rfl rfl rfl (Y0 (nn, m0_2, p0_3, m0_4) (i := 0) rfl (by first | rfl | rw [(show (([] : List (List Value)).length) = ([] : List Ta).length from (AllC.nil (G := g_tag_Entry) (h := Q9) (sz := 6)).len), (show n0_3 = a0.kaa.length from hn0_3)]) (by first | exact Imp.refl _ | exact Imp.of (by rw [(show (([] : List (List Value)).length) = ([] : List Ta).length from (AllC.nil (G := g_tag_Entry) (h := Q9) (sz := 6)).len), (show n0_3 = a0.kaa.length from hn0_3)] <;> rfl)))
       ·refine Jj<|Jc<|?_
        try dsimp only [z1,z2,z5,z6,z7,z8]
        refine Ja<|mv (pz pb0)<|mv (pz pb0)<|lv (Jg rfl)<|lf Tryz.runUnderlying59 rfl kcj rfl<|ll 0 (sl p0_3 n0_3) kbn<|mv (i6 a1)<|mv (i6 a1)<|?_
        obtain ⟨t62, h_t62, H74⟩ := Je H73; clear H73
        refine lv (Jy rfl rfl h_t62)<|mv (i6 t36)<|?_
        obtain ⟨t64, h_t64, H75⟩ := Je H74; clear H74
        refine lv (Z3 rfl rfl h_t64) ?_
        obtain ⟨t65, h_t65, H76⟩ := Je H75; clear H75
        refine lv (Jy rfl rfl h_t65) ?_
        obtain ⟨t66, h_t66, H77⟩ := Je H76; clear H76
        refine lv (Jy rfl rfl h_t66)<|lv (Xf (pl := #[(0, 1), (1, 1)]) (ps := [(0, i6 a1), (1, i6 t66)]) (cells := #[i6 a1, i6 t66]) zeroValue82 Tryz.runUnderlying82 (fun w => by kernel_rfl) rfl rfl)<|?_
        refine Q5 (vs := [.agg #[i6 a1, i6 t66]]) (cs := [i6 a1, i6 t66]) kcv kcm zeroValue82 rfl rfl rfl rfl rfl rfl rfl (fun b3 => ?_)
        obtain ⟨l69, h_l69, H78⟩ := Je H77; clear H77
        refine Qh (Yg (i := 2) (hn := hn0_3) (rds := [5]) (p := p0_3) (sz := 2) (by_ := 16) (f := Jh) (ys := a0.kaa) (ls := ([(⟨a1, t66⟩ : Tc)] : List Tc)) (V := .slice (some ⟨b3, 0, none⟩) 1 1) kcv (X0 typeInfo82) rfl rfl rfl rfl rfl rfl rfl rfl rfl rfl (fun w L' hF hS hi => Wy (i := 5) hS ((hi 5 (by simp)).trans rfl) rfl rfl) (fun _ => rfl) (fun _ => rfl) h_l69) rfl rfl rfl (fun p => ?_)
        refine lv (Jg rfl)<|lf Tryz.runUnderlying59 rfl kcj rfl<|st (i := 0) [sl p l69.length] [str a0.s_, .bool a0.kab, .map (some m0_2), sl p l69.length, .map (some m0_4)] kcj rfl rfl<|Jd<|Jc<|Ja<|mv (pz pb0)<|mv (i6 a1)<|?_
        obtain ⟨t74, h_t74, H79⟩ := Je H78; clear H78
        refine lv (Jy rfl rfl h_t74)<|mv (i6 t36)<|?_
        obtain ⟨t76, h_t76, H80⟩ := Je H79; clear H79
        refine lv (Z3 rfl rfl h_t76) ?_
        obtain ⟨t77, h_t77, H81⟩ := Je H80; clear H80
        refine lv (Jy rfl rfl h_t77) ?_
        obtain ⟨t78, h_t78, H82⟩ := Je H81; clear H81
        refine Qb (fun w hF hS => k45 (a0 := (⟨a0.s_, a0.kab, (Yp a0.kam a1 true), l69, a0.kaf⟩ : Tf)) (Jq w) (Q6 (fk := i6) (fv := Value.bool) (i := 1) hS rfl) (Xl (i := 2) rfl hS rfl) (Q6 (fk := str) (fv := (fun x_ : Td => .agg #[i6 x_.kal, i6 x_.kan, i6 x_.to_])) (i := 3) hS rfl) (Ql (i := 0) hS rfl) h_t78) call45 rfl rfl rfl<|ag (i6 t78)<|Jd<|?_
        refine Qg (r := r) (σ := Unit) (τ := Unit) (fun s => Y3 a0 a1 a2 a5 self t36 l69 t78) (fun s t => [(0, pz pb0), (1, i6 a1), (2, i6 a2), (5, str a5), (12, z0s), (13, i6 t78), (15, i6 t36)]) (fun s t => [Jf pb0 [str a0.s_, .bool a0.kab, .map (some m0_2), sl p l69.length, .map (some m0_4)] 59, Qt i6 Value.bool m0_2 (Yp a0.kam a1 true), J4 82 2 (sl p l69.length) l69.length (l69.map Jh), Qt str (fun x_ : Td => .agg #[i6 x_.kal, i6 x_.kan, i6 x_.to_]) m0_4 a0.kaf, Xm Q9 Q9]) (fun s t => True) ?_ ?_
        ·refine Jc<|Ja<|mv (.bool a4)<|mv (.bool a4)<|?_
         revert H82
         refine sp (fun hb H107=>?_) fun hb H110=>?_
         ·refine mv (i6 t78)<|lv (Yv rfl rfl)<|pT (.bool (decide (t78 ≠ 0)))<|Jd<|?_
          revert H107
          refine ci (decide (t78 ≠ 0)) rfl (fun hb H108=>?_) fun hb H109=>?_
          ·refine Jc<|Ja<|ag (z0s)<|ag (i6 0)<|ag (i6 1)<|Jd<|Jm<|Jp 95 6<|?_
           obtain rfl := sj H108
           refine bo 4 6 rfl rfl<|Xv 4 rfl (Q7 (p := nn) rfl (AllC.nil (G := g_tag_Entry) (h := Q9) (sz := 6)))<|bo 3 4 rfl rfl<|bo 2 3 rfl rfl<|bo 1 2 rfl rfl<|bo 0 1 rfl rfl<|?_
           refine ret3 (v1 := sl nn (([] : List (List Value)).length)) (v2 := i6 0) (v3 := i6 1) rfl rfl rfl rfl (Y0 (nn, m0_2, p, m0_4) (i := 0) rfl (by first | rfl | rw [(show (([] : List (List Value)).length) = ([] : List Ta).length from (AllC.nil (G := g_tag_Entry) (h := Q9) (sz := 6)).len)]) (by first | exact Imp.refl _ | exact Imp.of (by rw [(show (([] : List (List Value)).length) = ([] : List Ta).length from (AllC.nil (G := g_tag_Entry) (h := Q9) (sz := 6)).len)] <;> rfl)))
          ·refine Jj ?_
           exact cl () () 0 [0, 1, 2, 3, 4] (by exact ⟨H109, trivial⟩)
         ·refine pa<|pa<|pF (.bool false)<|Jd<|Zz rfl<|Jj<|?_
          exact cl () () 0 [0, 1, 2, 3, 4] (by exact ⟨H110, trivial⟩)
        ·rintro _ _ gg H83 _
         try dsimp only at H83
         try dsimp only
         refine Qg (r := r) (σ := Int × (List UInt8) × Bool × (List (Int × Bool)) × (List Tc) × (List ((List UInt8) × Td)) × (List Ta)) (τ := J1 × Nat × AN × Nat × (List (List Value)) × AN) (fun s => Jcw s.1 s.2.1 s.2.2.1 s.2.2.2.1 s.2.2.2.2.1 s.2.2.2.2.2.1 s.2.2.2.2.2.2) (fun s t => [(12, .slice t.2.2.2.2.2.1 t.2.2.2.2.1.length t.2.2.2.2.2.2), (13, i6 s.1)]) (fun s t => [Jf pb0 [str s.2.1, .bool s.2.2.1, .map (some t.2.1), .slice t.2.2.1.1 s.2.2.2.2.1.length t.2.2.1.2, .map (some t.2.2.2.1)] 59, Qt i6 Value.bool t.2.1 s.2.2.2.1, J4 82 2 (.slice t.2.2.1.1 s.2.2.2.2.1.length t.2.2.1.2) s.2.2.2.2.1.length (s.2.2.2.2.1.map Jh), Qt str (fun x_ : Td => .agg #[i6 x_.kal, i6 x_.kan, i6 x_.to_]) t.2.2.2.1 s.2.2.2.2.2.1, Xm Q9 t.1, J4 95 6 (.slice t.2.2.2.2.2.1 t.2.2.2.2.1.length t.2.2.2.2.2.2) t.2.2.2.2.1.length (t.2.2.2.2.1.map idC)]) (fun s t => AllC g_tag_Entry t.1 6 t.2.2.2.2.1 s.2.2.2.2.2.2) ?_ ?_
         ·refine Jc ?_
          try dsimp only [z1,z2,z5,z6,z7,z8]
          refine Ja<|mv (i6 t36)<|mv (i6 0)<|Jd<|Jx<|Jp 95 6<|?_
          refine Za (σ := Int × Int × (List UInt8) × Int × Int × Int × (List UInt8) × Bool × (List (Int × Bool)) × (List Tc) × (List ((List UInt8) × Td)) × (List Ta)) (τ := J1 × Nat × AN × Nat × (List (List Value)) × AN) (fun next3 s => Xq self next3 s.1 s.2.1 s.2.2.1 s.2.2.2.1 s.2.2.2.2.1 s.2.2.2.2.2.1 s.2.2.2.2.2.2.1 s.2.2.2.2.2.2.2.1 s.2.2.2.2.2.2.2.2.1 s.2.2.2.2.2.2.2.2.2.1 s.2.2.2.2.2.2.2.2.2.2.1 s.2.2.2.2.2.2.2.2.2.2.2) (fun s t => [(0, pz pb0), (1, i6 s.1), (2, i6 s.2.1), (5, str s.2.2.1), (12, .slice t.2.2.2.2.2.1 t.2.2.2.2.1.length t.2.2.2.2.2.2), (13, i6 s.2.2.2.1), (84, i6 s.2.2.2.2.1), (85, i6 s.2.2.2.2.2.1)]) (fun s t => [Jf pb0 [str s.2.2.2.2.2.2.1, .bool s.2.2.2.2.2.2.2.1, .map (some t.2.1), .slice t.2.2.1.1 s.2.2.2.2.2.2.2.2.2.1.length t.2.2.1.2, .map (some t.2.2.2.1)] 59, Qt i6 Value.bool t.2.1 s.2.2.2.2.2.2.2.2.1, J4 82 2 (.slice t.2.2.1.1 s.2.2.2.2.2.2.2.2.2.1.length t.2.2.1.2) s.2.2.2.2.2.2.2.2.2.1.length (s.2.2.2.2.2.2.2.2.2.1.map Jh), Qt str (fun x_ : Td => .agg #[i6 x_.kal, i6 x_.kan, i6 x_.to_]) t.2.2.2.1 s.2.2.2.2.2.2.2.2.2.2.1, Xm Q9 t.1, J4 95 6 (.slice t.2.2.2.2.2.1 t.2.2.2.2.1.length t.2.2.2.2.2.2) t.2.2.2.2.1.length (t.2.2.2.2.1.map idC)]) (fun s t => AllC g_tag_Entry t.1 6 t.2.2.2.2.1 s.2.2.2.2.2.2.2.2.2.2.2) (a1, a2, a5, t78, t36, 0, a0.s_, a0.kab, (Yp a0.kam a1 true), l69, a0.kaf, ([] : List Ta)) (Q9, m0_2, p, m0_4, ([] : List (List Value)), nn) [0, 1, 2, 3, 4, 5] H83 (by exact (AllC.nil (G := g_tag_Entry) (h := Q9) (sz := 6))) (by exact ⟨rfl, rfl, rfl, rfl, rfl, rfl, rfl, rfl, trivial⟩) (by decide) rfl ?_
          rintro ⟨x1_2, x2_2, x5_2, x13_3, x84_2, x85_2, m_5, m_6, mp_5, l_5, mp_6, l_6⟩ ⟨hp_2, b_3, p_4, b_4, css_2, p_5⟩ m3 gg H85 pf_3
          clear H83
          try dsimp only at H85
          generalize hn3 : it (fun next3 s => Xq self next3 s.1 s.2.1 s.2.2.1 s.2.2.2.1 s.2.2.2.2.1 s.2.2.2.2.2.1 s.2.2.2.2.2.2.1 s.2.2.2.2.2.2.2.1 s.2.2.2.2.2.2.2.2.1 s.2.2.2.2.2.2.2.2.2.1 s.2.2.2.2.2.2.2.2.2.2.1 s.2.2.2.2.2.2.2.2.2.2.2) m3 = next3 at H85
          try dsimp only
          refine Jc<|Ja<|lv (X3 rfl rfl)<|Jd<|?_
          try dsimp only [z1,z2,z5,z6,z7,z8]
          refine Jc ?_
          revert H85
          refine ci (decide (x85_2 < x84_2)) rfl (fun hb H86=>?_) fun hb H106=>?_
          ·refine Jj<|Jc<|Jx<|Jc<|Ja<|mv (i6 x85_2)<|ag (i6 x85_2)<|Jd<|?_
           try dsimp only [z1,z2,z5,z6,z7,z8]
           refine Jc<|Ja<|mv (i6 x1_2)<|?_
           obtain ⟨t89, h_t89, H87⟩ := Je H86; clear H86
           refine lv (Jy rfl rfl h_t89)<|mv (i6 x85_2)<|?_
           obtain ⟨t91, h_t91, H88⟩ := Je H87; clear H87
           refine lv (Z3 rfl rfl h_t91) ?_
           obtain ⟨t92, h_t92, H89⟩ := Je H88; clear H88
           refine lv (Jy rfl rfl h_t92)<|ag (i6 t92)<|Jd<|?_
           try dsimp only [z1,z2,z5,z6,z7,z8]
           refine Jc<|Ja<|mv (pz pb0)<|mv (i6 t92)<|?_
           obtain ⟨t95, h_t95, H90⟩ := Je H89; clear H89
           refine Qb (fun w hF hS => k45 (a0 := (⟨m_5, m_6, mp_5, l_5, mp_6⟩ : Tf)) (Jq w) (Q6 (fk := i6) (fv := Value.bool) (i := 1) hS rfl) (Xl (i := 2) rfl hS rfl) (Q6 (fk := str) (fv := (fun x_ : Td => .agg #[i6 x_.kal, i6 x_.kan, i6 x_.to_])) (i := 3) hS rfl) (Ql (i := 0) hS rfl) h_t95) call45 rfl rfl rfl<|lv (Xf (pl := #[(0, 1), (1, 5)]) (ps := [(0, i6 t95)]) (cells := #[i6 t95, i6 0, str [], z0s, z0s, z0s]) zeroValue95 Tryz.runUnderlying95 (fun w => by kernel_rfl) rfl (by kernel_rfl))<|?_
           refine Xx (cs := [i6 0, i6 0, str [], z0s, z0s, z0s]) zeroValue95 rfl rfl rfl (fun b4 => ?_)
           refine st (i := 6) [i6 t95, i6 0, str [], z0s, z0s, z0s] [i6 t95, i6 0, str [], z0s, z0s, z0s] kco rfl rfl<|Jd<|?_
           try dsimp only [z1,z2,z5,z6,z7,z8]
           refine Qg (r := r) (σ := Unit) (τ := Unit) (fun s => Vl self x1_2 x2_2 x5_2 x13_3 x84_2 x85_2 m_5 m_6 mp_5 l_5 mp_6 l_6 next3 t92 t95) (fun s t => [(0, pz pb0), (1, i6 x1_2), (2, i6 x2_2), (5, str x5_2), (12, sl p_5 css_2.length), (13, i6 x13_3), (17, i6 t92), (18, pz b4), (84, i6 x84_2), (85, i6 x85_2)]) (fun s t => [Jf pb0 [str m_5, .bool m_6, .map (some b_3), sl p_4 l_5.length, .map (some b_4)] 59, Qt i6 Value.bool b_3 mp_5, J4 82 2 (sl p_4 l_5.length) l_5.length (l_5.map Jh), Qt str (fun x_ : Td => .agg #[i6 x_.kal, i6 x_.kan, i6 x_.to_]) b_4 mp_6, Xm Q9 hp_2, J4 95 6 (sl p_5 css_2.length) css_2.length (css_2.map idC), Jf b4 [i6 t95, i6 0, str [], z0s, z0s, z0s] 95]) (fun s t => True) ?_ ?_
           ·refine Jc ?_
            exact Qk (Kd.p :: Kd.p :: Kd.p :: Kd.p :: Kd.d [6] _ :: Kd.p :: Kd.p :: Kd.p :: Kd.d [5] _ :: Kd.d [5] _ :: Kd.d [5] _ :: Kd.p :: Kd.p :: []) 0 mixed (by
             refine dm (i6 x85_2)<|dv (Yf rfl rfl)<|dm (.bool (decide (0 < x85_2)))<|?_
             refine Wu (fun hb => ?_) (fun hb => ?_)
             ·have H100 := Uo hb H90
              refine dv (J2 Tryz.runUnderlying95 rfl kcg rfl rfl)<|dl (i6 t95) kbk<|dm (sl p_5 css_2.length)<|dm (i6 x85_2)<|?_
              have h_t104 := Jt H100
              have H101 := Jn H100
              refine dv (Zs rfl rfl h_t104) ?_
              have h_t105 := Jt H101
              have H102 := Jn H101
              refine Um (fun w L' hF hS hi => U3 kct kco rfl rfl (Uk (i := 5) (E := 95) (sz := 6) (n := css_2.length) (a := p_5.1) (c := p_5.2) hS ((hi 5 (by simp)).trans rfl)) rfl (pf_3.ix h_t105)) rfl rfl<|Jhm rfl rfl (fun w L' hF hS hi => Jbp Tryz.runUnderlying95 rfl kcg rfl rfl (Uk (i := 5) (E := 95) (sz := 6) (n := css_2.length) (a := p_5.1) (c := p_5.2) hS ((hi 5 (by simp)).trans rfl)) (pf_3.ix h_t105))<|Um (fun w L' hF hS hi => Qw (f := idC) (i := (val (gI (x85_2 - 1)))) (sz := 6) (j := 0) (v := i6 (val (Zb l_6 (val (gI (x85_2 - 1))))).Tag) kbk rfl rfl (Uk (i := 5) (E := 95) (sz := 6) (n := css_2.length) (a := p_5.1) (c := p_5.2) hS ((hi 5 (by simp)).trans rfl)) (pf_3.ix h_t105) (Jea ((pf_3.eta h_t105).trans (Yd (pf_3.at h_t105))) rfl)) rfl rfl<|dv (Jd1 rfl rfl)<|dv (Xz (v := .bool (decide (t95 ≤ (val (Zb l_6 (val (gI (x85_2 - 1))))).Tag))) rfl rfl)<|Xr<|?_
              try dsimp only [z1,z2,z5,z6,z7,z8]
              revert H102
              refine ci (decide (t95 ≤ (val (Zb l_6 (val (gI (x85_2 - 1))))).Tag)) rfl (fun hb H103=>?_) fun hb H104=>?_
              ·refine Jc<|Ja<|ag (z0s)<|ag (i6 0)<|ag (i6 5)<|Jd<|?_
               try dsimp only [z1,z2,z5,z6,z7,z8]
               refine Jm<|Jp 95 6<|?_
               obtain rfl := sj H103
               refine bo 4 7 rfl rfl<|Xv 4 rfl (Q7 (p := nn) rfl (AllC.nil (G := g_tag_Entry) (h := hp_2) (sz := 6)))<|bo 3 4 rfl rfl<|bo 2 3 rfl rfl<|bo 1 2 rfl rfl<|bo 0 1 rfl rfl<|?_
               refine ret3 (v1 := sl nn (([] : List (List Value)).length)) (v2 := i6 0) (v3 := i6 5) rfl rfl rfl rfl (Y0 (nn, b_3, p_4, b_4) (i := 0) rfl (by first | rfl | rw [(show (([] : List (List Value)).length) = ([] : List Ta).length from (AllC.nil (G := g_tag_Entry) (h := hp_2) (sz := 6)).len)]) (by first | exact Imp.refl _ | exact Imp.of (by rw [(show (([] : List (List Value)).length) = ([] : List Ta).length from (AllC.nil (G := g_tag_Entry) (h := hp_2) (sz := 6)).len)] <;> rfl)))
              ·refine Jj ?_
               exact cl () () 0 [0, 1, 2, 3, 4, 5, 6] (by exact ⟨H104, trivial⟩)
             ·have H105 := Us hb H90
              refine dp<|dp<|dp<|dp<|dp<|dp<|dp<|dp<|dp<|dv (Z1 (v := .bool false) rfl rfl)<|Xr<|?_
              try dsimp only [z1,z2,z5,z6,z7,z8]
              refine Zz rfl<|Jj<|?_
              exact cl () () 0 [0, 1, 2, 3, 4, 5, 6] (by exact ⟨H105, trivial⟩)
             ) (by kernel_rfl)
           ·rintro _ _ gg H91 _
            try dsimp only at H91
            try dsimp only
            refine Jc<|Ja<|mv (pz pb0)<|mv (i6 t92)<|mv (i6 x2_2)<|mv (str x5_2)<|?_
            obtain ⟨t115, h_t115, H92⟩ := Je H91; clear H91
            refine lv (Y9 rfl rfl h_t115)<|lf Tryz.runUnderlying95 rfl kcg rfl<|ll 6 (i6 t95) kbk<|?_
            obtain ⟨t118, h_t118, H93⟩ := Je H92; clear H92
            refine Qb (fun w hF hS => k47 (Jq w) (tb_pow10.mono (hw.now hF)) h_t118) call47 rfl rfl rfl ?_
            obtain ⟨t119, h_t119, H94⟩ := Je H93; clear H93
            refine lv (Y9 rfl rfl h_t119) ?_
            obtain ⟨t120, h_t120, H95⟩ := Je H94; clear H94
            refine bo 2 3 rfl rfl<|bo 1 2 rfl rfl<|bo 0 1 rfl rfl<|?_
            refine Qh (Jv (i := 0) (rds := []) rfl (fun w L' S hF hS hi hp hlt ho hA => k84_b ih (a0 := (⟨m_5, m_6, mp_5, l_5, mp_6⟩ : Tf)) hp hlt (J7 w S) rfl (tb_pow10.mono (hw.but hF ho)) h_t120) call84 rfl) rfl rfl rfl (fun ⟨p_6, p_7, p_8, p_9, p_10, p_11⟩ => ?_)
            refine ub 0 1 rfl rfl<|ub 1 2 rfl rfl<|ub 2 3 rfl rfl<|Qd 3 rfl<|Qd 7 rfl<|Qd 8 rfl<|mv (.tuple #[.agg #[i6 t120.1.kai, str t120.1.kaj, sl p_6 t120.1.kak.length, sl p_7 t120.1.kah.length, sl p_8 t120.1.kag.length], i6 t120.2.1])<|lv (J9 (v := .agg #[i6 t120.1.kai, str t120.1.kaj, sl p_6 t120.1.kak.length, sl p_7 t120.1.kah.length, sl p_8 t120.1.kag.length]) rfl rfl)<|lv (J9 (v := i6 t120.2.1) rfl rfl)<|lf Tryz.runUnderlying95 rfl kce rfl<|st (i := 6) [i6 t120.1.kai, str t120.1.kaj, sl p_6 t120.1.kak.length, sl p_7 t120.1.kah.length, sl p_8 t120.1.kag.length] [i6 t95, i6 t120.1.kai, str t120.1.kaj, sl p_6 t120.1.kak.length, sl p_7 t120.1.kah.length, sl p_8 t120.1.kag.length] kce rfl rfl<|ag (i6 t120.2.1)<|Jd<|?_
            try dsimp only [z1,z2,z5,z6,z7,z8]
            refine Jc<|Jc<|Ja<|mv (i6 t120.2.1)<|lv (Yv rfl rfl)<|Jd<|?_
            try dsimp only [z1,z2,z5,z6,z7,z8]
            revert H95
            refine ci (decide (t120.2.1 ≠ 0)) rfl (fun hb H96=>?_) fun hb H97=>?_
            ·refine Jc<|Ja<|mv (i6 t120.2.1)<|ag (z0s)<|ag (i6 0)<|ag (i6 t120.2.1)<|Jd<|?_
             try dsimp only [z1,z2,z5,z6,z7,z8]
             refine Jm<|Jp 95 6<|?_
             obtain rfl := sj H96
             refine bo 4 10 rfl rfl<|Xv 4 rfl (Q7 (p := nn) rfl (AllC.nil (G := g_tag_Entry) (h := hp_2) (sz := 6)))<|bo 3 4 rfl rfl<|bo 2 3 rfl rfl<|bo 1 2 rfl rfl<|bo 0 1 rfl rfl<|?_
             refine ret3 (v1 := sl nn (([] : List (List Value)).length)) (v2 := i6 0) (v3 := i6 t120.2.1) rfl rfl rfl rfl (Y0 (nn, p_9, p_10, p_11) (i := 0) rfl (by first | rfl | rw [(show (([] : List (List Value)).length) = ([] : List Ta).length from (AllC.nil (G := g_tag_Entry) (h := hp_2) (sz := 6)).len)]) (by first | exact Imp.refl _ | exact Imp.of (by rw [(show (([] : List (List Value)).length) = ([] : List Ta).length from (AllC.nil (G := g_tag_Entry) (h := hp_2) (sz := 6)).len)] <;> rfl)))
            ·refine Jj ?_
             try dsimp only [z1,z2,z5,z6,z7,z8]
             refine Ja<|mv (sl p_5 css_2.length)<|Xb (i := 6) (vs := [i6 t95, i6 t120.1.kai, str t120.1.kaj, sl p_6 t120.1.kak.length, sl p_7 t120.1.kah.length, sl p_8 t120.1.kag.length]) isAgg95 kco rfl rfl rfl rfl rfl<|?_
             refine Q5 (vs := [.agg #[i6 t95, i6 t120.1.kai, str t120.1.kaj, sl p_6 t120.1.kak.length, sl p_7 t120.1.kah.length, sl p_8 t120.1.kag.length]]) (cs := [i6 t95, i6 t120.1.kai, str t120.1.kaj, sl p_6 t120.1.kak.length, sl p_7 t120.1.kah.length, sl p_8 t120.1.kag.length]) kct kco zeroValue95 rfl rfl rfl rfl rfl rfl rfl (fun b5 => ?_)
             try dsimp only [z1,z2,z5,z6,z7,z8]
             refine Uc (Φ := fun H_ => FrS H_ 1 (sl p_6 t120.1.kak.length) (t120.1.kak.map J8)) 4 7 rfl rfl (by decide) (fun _ _ => Zc) (Jb9 _) (fun hp_3 hle hf => ?_)
             try dsimp only [z1,z2,z5,z6,z7,z8]
             refine Uc (Φ := fun H_ => FrS H_ 2 (sl p_7 t120.1.kah.length) (t120.1.kah.map Jl)) 4 8 rfl rfl (by decide) (fun _ _ => Zc) (Jb9 _) (fun hp_4 hle_2 hf_2 => ?_)
             refine Jcd 9 rfl (fun hp_5 css_3 hn pf_4 => ?_)
             rw [hn]
             try dsimp only [z1,z2,z5,z6,z7,z8]
             refine Qd 9 rfl ?_
             try dsimp only [z1,z2,z5,z6,z7,z8]
             refine Z9 4 9 rfl rfl (by decide) (fun _ _ => Zc) (fun hp_6 hle_3 hle_4 => ?_)
             try dsimp only [z1,z2,z5,z6,z7,z8]
             refine Uc (Φ := fun H_ => FrS H_ 6 (sl p_8 css_3.length) (css_3.map idC)) 4 11 rfl rfl (by decide) (fun _ _ => Zc) (Jb9 _) (fun hp_7 hle_5 hf_3 => ?_)
             obtain ⟨l130, h_l130, H98⟩ := Je H97; clear H97
             refine Qh (Jal (i := 5) (k := 10) (p := p_5) (f := idC) (ys := css_2) (ls := [[i6 t95, i6 t120.1.kai, str t120.1.kaj, sl p_6 t120.1.kak.length, sl p_7 t120.1.kah.length, sl p_8 css_3.length]]) kct (X0 typeInfo95) rfl rfl rfl rfl rfl rfl rfl rfl rfl rfl rfl rfl rfl rfl (by simp only [idC, List.map_cons, List.map_nil, List.all_cons, List.all_nil, (((hf.mono hle_2).mono hle_3).mono hle_5).one, ((hf_2.mono hle_3).mono hle_5).one, (Ja8 (xs := t120.1.kag) hf_3 ((pf_4.mono hle_4).mono hle_5)).one] <;> rfl) (app63 (((((pf_3.mono hle).mono hle_2).mono hle_3).mono hle_5).app h_l130 (nc := [[i6 t95, i6 t120.1.kai, str t120.1.kaj, sl p_6 t120.1.kak.length, sl p_7 t120.1.kah.length, sl p_8 css_3.length]]) rfl)) rfl) rfl rfl rfl (fun p_12 => ?_)
             have pf_5 : AllC g_tag_Entry hp_7 6 (css_2 ++ [[i6 t95, i6 t120.1.kai, str t120.1.kaj, sl p_6 t120.1.kak.length, sl p_7 t120.1.kah.length, sl p_8 css_3.length]]) l130 := AllC.snocG ((((pf_3.mono hle).mono hle_2).mono hle_3).mono hle_5) h_l130 rfl ((g_tag_Entry_iff.2 ⟨rfl, ⟨rfl, rfl, (((hf.mono hle_2).mono hle_3).mono hle_5), ((hf_2.mono hle_3).mono hle_5), (Ja8 (xs := t120.1.kag) hf_3 ((pf_4.mono hle_4).mono hle_5))⟩⟩))
             refine ag (sl p_12 ((css_2 ++ [[i6 t95, i6 t120.1.kai, str t120.1.kaj, .slice p_6.1 t120.1.kak.length p_6.2, .slice p_7.1 t120.1.kah.length p_7.2, .slice p_8.1 css_3.length p_8.2]]).length))<|Jd<|?_
             try dsimp only [z1,z2,z5,z6,z7,z8]
             refine Ja ?_
             obtain ⟨t131, h_t131, H99⟩ := Je H98; clear H98
             refine lv (Jy rfl rfl h_t131)<|mv (i6 t131)<|Jd<|?_
             try dsimp only [z1,z2,z5,z6,z7,z8]
             exact cl (x1_2, x2_2, x5_2, x13_3, x84_2, t131, t120.2.2.s_, t120.2.2.kab, t120.2.2.kam, t120.2.2.kaa, t120.2.2.kaf, l130) (hp_7, p_9, p_10, p_11, (css_2 ++ [[i6 t95, i6 t120.1.kai, str t120.1.kaj, sl p_6 t120.1.kak.length, sl p_7 t120.1.kah.length, sl p_8 css_3.length]]), p_12) m3 [0, 1, 2, 3, 4, 5] (by exact ⟨(by subst hn3; exact H99), pf_5⟩)
          ·refine Xj ?_
           exact cl (x13_3, m_5, m_6, mp_5, l_5, mp_6, l_6) (hp_2, b_3, p_4, b_4, css_2, p_5) 0 [0, 1, 2, 3, 4, 5] (by exact ⟨H106, pf_3⟩)
         ·rintro ⟨x13, m, m_2, mp, l, mp_2, l_2⟩ ⟨hp, b, p_2, b_2, css, p_3⟩ gg H84 pf
          try dsimp only at H84
          try dsimp only
          refine Jc<|Ja<|mv (sl p_3 css.length)<|mv (i6 x13)<|ag (sl p_3 css.length)<|ag (i6 x13)<|ag (i6 0)<|Jd<|?_
          try dsimp only [z1,z2,z5,z6,z7,z8]
          refine Jm ?_
          obtain rfl := sj H84
          refine bo 4 5 rfl rfl<|Xv 4 rfl (Q7 (p := p_3) rfl pf)<|bo 3 4 rfl rfl<|bo 2 3 rfl rfl<|bo 1 2 rfl rfl<|bo 0 1 rfl rfl<|?_
          refine ret3 (v1 := sl p_3 css.length) (v2 := i6 x13) (v3 := i6 0) rfl rfl rfl rfl (Y0 (p_3, b, p_2, b_2) (i := 0) rfl (by first | rfl | rw [(show css.length = l_2.length from pf.len)]) (by first | exact Imp.refl _ | exact Imp.of (by rw [(show css.length = l_2.length from pf.len)] <;> rfl)))
theorem k46 {a0 : Tf} {pb0 : Nat} {m0_2 : Nat} {p0_3 : AN} {n0_3 : Nat} {m0_4 : Nat} {a1 : Int} {a2 : Int} {a3 : Int} {a4 : Bool} {a5 : (List UInt8)} {r : (List Ta) × Int × Int × Tf} {w : World} {h : J1} {S : Nat → Prop} (hcs : (Jw (Jf pb0 [str a0.s_, .bool a0.kab, .map (some m0_2), sl p0_3 n0_3, .map (some m0_4)] 59) (Jw (Qt i6 Value.bool m0_2 a0.kam) (Jw (J4 82 2 (sl p0_3 n0_3) n0_3 (a0.kaa.map Jh)) (Qt str (fun x_ : Td => .agg #[i6 x_.kal, i6 x_.kan, i6 x_.to_]) m0_4 a0.kaf)))).P S w) (hlt : ∀ b, S b → b < w.heap.size) (hw : Know h w S) (hn0_3 : n0_3 = a0.kaa.length) (tb_pow10 : TabH prog h "internal/strconv.uint64pow10" .u64 Lib.pow10Tab) (H : Jaz a0 a1 a2 a3 a4 a5 = some r) : Does prog 46 (List.toArray [pz pb0, i6 a1, i6 a2, i6 a3, .bool a4, str a5]) w (fun v w' => ∃ x : AN × Nat × AN × Nat, v = (.tuple #[.slice x.1.1 r.1.length x.1.2, i6 r.2.1, i6 r.2.2.1]) ∧ Turn w w' S (Jw (Jf pb0 [str r.2.2.2.s_, .bool r.2.2.2.kab, .map (some x.2.1), .slice x.2.2.1.1 r.2.2.2.kaa.length x.2.2.1.2, .map (some x.2.2.2)] 59) (Jw (Qt i6 Value.bool x.2.1 r.2.2.2.kam) (Jw (J4 82 2 (.slice x.2.2.1.1 r.2.2.2.kaa.length x.2.2.1.2) r.2.2.2.kaa.length (r.2.2.2.kaa.map Jh)) (Jw (Qt str (fun x_ : Td => .agg #[i6 x_.kal, i6 x_.kan, i6 x_.to_]) x.2.2.2 r.2.2.2.kaf) (Uj 95 6 g_tag_Entry (.slice x.1.1 r.1.length x.1.2) r.1.length r.1)))))) := by
 obtain ⟨mm, hm⟩ := Je9 (show Vv (fun (self : (Tf × Int × Int × Int × Bool × (List UInt8)) → Option ((List Ta) × Int × Int × Tf)) (s : Tf × Int × Int × Int × Bool × (List UInt8)) => Qy self s.1 s.2.1 s.2.2.1 s.2.2.2.1 s.2.2.2.2.1 s.2.2.2.2.2) (a0, a1, a2, a3, a4, a5) = some r from H)
 exact k46_it mm hcs hlt hw hn0_3 tb_pow10 hm
theorem k20 {a0 : Tf} {pb0 : Nat} {p0_3 : AN} {n0_3 : Nat} {Rq : Type} {kq : (Th × Int × Tf) → Option Rq} {r : Rq} {w : World} {h : J1} {S : Nat → Prop} (hcs : (Jw (Jf pb0 [str a0.s_, .bool a0.kab, .map none, sl p0_3 n0_3, .map none] 59) (J4 82 2 (sl p0_3 n0_3) n0_3 (a0.kaa.map Jh))).P S w) (hlt : ∀ b, S b → b < w.heap.size) (hw : Know h w S) (hn0_3 : n0_3 = a0.kaa.length) (tb_pow10 : TabH prog h "internal/strconv.uint64pow10" .u64 Lib.pow10Tab) (H : Z7 a0 kq = some r) : Does prog 20 (List.toArray [pz pb0]) w (fun v w' => ∃ (r_ : Th × Int × Tf) (x : AN × Nat × AN × Nat), kq r_ = some r ∧ v = (.tuple #[.agg #[.bool r_.1.Big, .slice x.1.1 r_.1.kap.length x.1.2], i6 r_.2.1]) ∧ Turn w w' S (Jw (Jf pb0 [str r_.2.2.s_, .bool r_.2.2.kab, .map (some x.2.1), .slice x.2.2.1.1 r_.2.2.kaa.length x.2.2.1.2, .map (some x.2.2.2)] 59) (Jw (Qt i6 Value.bool x.2.1 r_.2.2.kam) (Jw (J4 82 2 (.slice x.2.2.1.1 r_.2.2.kaa.length x.2.2.1.2) r_.2.2.kaa.length (r_.2.2.kaa.map Jh)) (Jw (Qt str (fun x_ : Td => .agg #[i6 x_.kal, i6 x_.kan, i6 x_.to_]) x.2.2.2 r_.2.2.kaf) (Uj 24 1 gs_tag_Entry (.slice x.1.1 r_.1.kap.length x.1.2) r_.1.kap.length r_.1.kap)))))) := by
 refine enter (n := 136) func20 rfl rfl rfl S [Jw (Jf pb0 [str a0.s_, .bool a0.kab, .map none, sl p0_3 n0_3, .map none] 59) (J4 82 2 (sl p0_3 n0_3) n0_3 (a0.kaa.map Jh))] (Sat.one hcs hlt)<|Qd 0 rfl<|X8 Q9<|Jc<|Ja<|?_
 refine Xx (cs := [.bool false, z0s]) zeroValue34 rfl rfl rfl (fun b5 => ?_)
 refine ag (i6 0)<|Jd<|Jc<|Ja<|mv (pz pb0)<|mv (pz pb0)<|?_
 refine V8 (rds := []) (Jf3 (fk := i6) (fv := Value.bool)) rfl rfl rfl (fun b6 => ?_)
 refine V8 (rds := []) (Jf3 (fk := str) (fv := (fun x_ : Td => .agg #[i6 x_.kal, i6 x_.kan, i6 x_.to_]))) rfl rfl rfl (fun b7 => ?_)
 refine lv (Jg rfl)<|lf Tryz.runUnderlying59 rfl sizeOf56 rfl<|st (i := 0) [.map (some b6)] [str a0.s_, .bool a0.kab, .map (some b6), sl p0_3 n0_3, .map none] sizeOf56 rfl rfl<|lv (Jg rfl)<|lf Tryz.runUnderlying59 rfl sizeOf57 rfl<|st (i := 0) [.map (some b7)] [str a0.s_, .bool a0.kab, .map (some b6), sl p0_3 n0_3, .map (some b7)] sizeOf57 rfl rfl<|Jd<|Jc<|Jc<|?_
 try dsimp only [z1,z2,z5,z6,z7,z8]
 refine Ja<|mv (pz pb0)<|lv (Jg rfl)<|lf Tryz.runUnderlying59 rfl kcn rfl<|ll 0 (str a0.s_) kbp<|lv (Yx kcx rfl)<|lv (Yf rfl rfl)<|Jd<|?_
 revert H
 refine ci (decide (65000 < (a0.s_.length : Int))) rfl (fun hb H37=>?_) fun hb H38=>?_
 ·refine Jc<|Ja<|Xb (i := 3) (vs := [.bool false, z0s]) kbm kci rfl rfl rfl rfl rfl<|st (i := 3) [.bool false, z0s] [.bool false, z0s] kci rfl rfl<|ag (i6 4)<|Jd<|Jm<|Jp 24 1<|bo 2 6 rfl rfl<|Xv 2 rfl (Q7 (p := nn) rfl (AllC.nil (G := gs_tag_Entry) (h := Q9) (sz := 1)))<|bo 5 2 rfl rfl<|bo 1 5 rfl rfl<|bo 4 1 rfl rfl<|bo 0 4 rfl rfl<|?_
  refine Jad (i := 3) (vs := [.bool false, sl nn (([] : List (List Value)).length)]) (v2 := i6 4) kbm kci rfl rfl rfl rfl rfl (finXK ((⟨false, ([] : List (List Ta))⟩ : Th), 4, (⟨a0.s_, a0.kab, ([] : (List (Int × Bool))), a0.kaa, ([] : (List ((List UInt8) × Td)))⟩ : Tf)) (nn, b6, p0_3, b7) H37 (i := 0) rfl (by first | rfl | rw [(show (([] : List (List Value)).length) = ([] : List (List Ta)).length from (AllC.nil (G := gs_tag_Entry) (h := Q9) (sz := 1)).len), (show n0_3 = a0.kaa.length from hn0_3)]) (by first | exact Imp.refl _ | exact Imp.of (by rw [(show (([] : List (List Value)).length) = ([] : List (List Ta)).length from (AllC.nil (G := gs_tag_Entry) (h := Q9) (sz := 1)).len), (show n0_3 = a0.kaa.length from hn0_3)] <;> rfl)))
 ·refine Jj ?_
  refine Qg (r := r) (σ := Unit) (τ := Unit) (fun s => Jag a0 kq) (fun s t => [(0, pz pb0), (2, pz b5)]) (fun s t => [Jf pb0 [str a0.s_, .bool a0.kab, .map (some b6), sl p0_3 n0_3, .map (some b7)] 59, J4 82 2 (sl p0_3 n0_3) n0_3 (a0.kaa.map Jh), Xm Q9 Q9, Jf b5 [.bool false, z0s] 34, Qt i6 Value.bool b6 ([] : (List (Int × Bool))), Qt str (fun x_ : Td => .agg #[i6 x_.kal, i6 x_.kan, i6 x_.to_]) b7 ([] : (List ((List UInt8) × Td)))]) (fun s t => True) ?_ ?_
  ·refine Jc<|Ja<|mv (pz pb0)<|lv (Jg rfl)<|lf Tryz.runUnderlying59 rfl kcn rfl<|ll 0 (str a0.s_) kbp<|lv (Yx kcx rfl)<|lv (X3 rfl rfl)<|mv (.bool (decide ((a0.s_.length : Int) < 8)))<|?_
   revert H38
   refine sp (fun hb H65=>?_) fun hb H66=>?_
   ·refine pa<|pa<|pa<|pa<|pa<|pa<|pa<|pa<|pa<|pa<|pa<|pa<|pa<|pa<|pT (.bool true)<|Jd<|Zl rfl<|Jc<|Ja<|Xb (i := 3) (vs := [.bool false, z0s]) kbm kci rfl rfl rfl rfl rfl<|st (i := 3) [.bool false, z0s] [.bool false, z0s] kci rfl rfl<|ag (i6 8)<|Jd<|Jm<|Jp 24 1<|bo 2 6 rfl rfl<|Xv 2 rfl (Q7 (p := nn) rfl (AllC.nil (G := gs_tag_Entry) (h := Q9) (sz := 1)))<|bo 5 2 rfl rfl<|bo 1 5 rfl rfl<|bo 4 1 rfl rfl<|?_
    refine bo 0 4 rfl rfl ?_
    refine Jad (i := 3) (vs := [.bool false, sl nn (([] : List (List Value)).length)]) (v2 := i6 8) kbm kci rfl rfl rfl rfl rfl (finXK ((⟨false, ([] : List (List Ta))⟩ : Th), 8, (⟨a0.s_, a0.kab, ([] : (List (Int × Bool))), a0.kaa, ([] : (List ((List UInt8) × Td)))⟩ : Tf)) (nn, b6, p0_3, b7) H65 (i := 0) rfl (by first | rfl | rw [(show (([] : List (List Value)).length) = ([] : List (List Ta)).length from (AllC.nil (G := gs_tag_Entry) (h := Q9) (sz := 1)).len), (show n0_3 = a0.kaa.length from hn0_3)]) (by first | exact Imp.refl _ | exact Imp.of (by rw [(show (([] : List (List Value)).length) = ([] : List (List Ta)).length from (AllC.nil (G := gs_tag_Entry) (h := Q9) (sz := 1)).len), (show n0_3 = a0.kaa.length from hn0_3)] <;> rfl)))
   ·refine mv (pz pb0)<|lv (Jg rfl)<|lf Tryz.runUnderlying59 rfl kcn rfl<|ll 0 (str a0.s_) kbp<|?_
    obtain ⟨t37, h_t37, H67⟩ := Je H66; clear H66
    refine lv (Up kcx rfl rfl h_t37)<|lv (Je0 rfl rfl)<|mv (.bool (decide (t37 ≠ [73, 73, 42, 0])))<|?_
    revert H67
    refine sp (fun hb H68=>?_) fun hb H72=>?_
    ·refine mv (pz pb0)<|lv (Jg rfl)<|lf Tryz.runUnderlying59 rfl kcn rfl<|ll 0 (str a0.s_) kbp<|?_
     obtain ⟨t44, h_t44, H69⟩ := Je H68; clear H68
     refine lv (Up kcx rfl rfl h_t44)<|lv (Je0 rfl rfl)<|pT (.bool (decide (t44 ≠ [77, 77, 0, 42])))<|pF (.bool (decide (t44 ≠ [77, 77, 0, 42])))<|Jd<|?_
     revert H69
     refine ci (decide (t44 ≠ [77, 77, 0, 42])) rfl (fun hb H70=>?_) fun hb H71=>?_
     ·refine Jc ?_
      try dsimp only [z1,z2,z5,z6,z7,z8]
      refine Ja<|Xb (i := 3) (vs := [.bool false, z0s]) kbm kci rfl rfl rfl rfl rfl<|st (i := 3) [.bool false, z0s] [.bool false, z0s] kci rfl rfl<|ag (i6 8)<|Jd<|Jm<|Jp 24 1<|bo 2 6 rfl rfl<|Xv 2 rfl (Q7 (p := nn) rfl (AllC.nil (G := gs_tag_Entry) (h := Q9) (sz := 1)))<|bo 5 2 rfl rfl<|bo 1 5 rfl rfl<|bo 4 1 rfl rfl<|bo 0 4 rfl rfl<|?_
      refine Jad (i := 3) (vs := [.bool false, sl nn (([] : List (List Value)).length)]) (v2 := i6 8) kbm kci rfl rfl rfl rfl rfl (finXK ((⟨false, ([] : List (List Ta))⟩ : Th), 8, (⟨a0.s_, a0.kab, ([] : (List (Int × Bool))), a0.kaa, ([] : (List ((List UInt8) × Td)))⟩ : Tf)) (nn, b6, p0_3, b7) H70 (i := 0) rfl (by first | rfl | rw [(show (([] : List (List Value)).length) = ([] : List (List Ta)).length from (AllC.nil (G := gs_tag_Entry) (h := Q9) (sz := 1)).len), (show n0_3 = a0.kaa.length from hn0_3)]) (by first | exact Imp.refl _ | exact Imp.of (by rw [(show (([] : List (List Value)).length) = ([] : List (List Ta)).length from (AllC.nil (G := gs_tag_Entry) (h := Q9) (sz := 1)).len), (show n0_3 = a0.kaa.length from hn0_3)] <;> rfl)))
     ·refine Jj ?_
      exact cl () () 0 [0, 1, 2, 3, 4, 5] (by exact ⟨H71, trivial⟩)
    ·refine pa<|pa<|pa<|pa<|pa<|pa<|pF (.bool false)<|pF (.bool false)<|Jd<|Zz rfl<|Jj<|?_
     exact cl () () 0 [0, 1, 2, 3, 4, 5] (by exact ⟨H72, trivial⟩)
  ·rintro _ _ gg H39 _
   try dsimp only at H39
   try dsimp only
   refine Jc ?_
   try dsimp only [z1,z2,z5,z6,z7,z8]
   refine Ja<|mv (pz pb0)<|mv (pz pb0)<|lv (Jg rfl)<|lf Tryz.runUnderlying59 rfl kcn rfl<|ll 0 (str a0.s_) kbp<|?_
   obtain ⟨t54, h_t54, H40⟩ := Je H39; clear H39
   refine lv (Jc8 kcx rfl rfl h_t54)<|lv (Qj rfl rfl)<|lv (Jg rfl)<|lf Tryz.runUnderlying59 rfl kck rfl<|st (i := 0) [.bool (decide (t54 = 77))] [str a0.s_, .bool (decide (t54 = 77)), .map (some b6), sl p0_3 n0_3, .map (some b7)] kck rfl rfl<|Jd<|Jc<|Ja<|mv (pz pb0)<|lv (Jg rfl)<|lf Tryz.runUnderlying59 rfl kck rfl<|ll 0 (.bool (decide (t54 = 77))) kbo<|lf Tryz.runUnderlying34 rfl kck rfl<|st (i := 3) [.bool (decide (t54 = 77))] [.bool (decide (t54 = 77)), z0s] kck rfl rfl<|Jd<|Jc<|Ja<|mv (pz pb0)<|lv (Xf (pl := #[(0, 1), (1, 1)]) (ps := [(0, i6 0), (1, i6 8)]) (cells := #[i6 0, i6 8]) zeroValue82 Tryz.runUnderlying82 (fun w => by kernel_rfl) rfl rfl)<|?_
   refine Q5 (vs := [.agg #[i6 0, i6 8]]) (cs := [i6 0, i6 8]) kcv kcm zeroValue82 rfl rfl rfl rfl rfl rfl rfl (fun b8 => ?_)
   refine lv (Jg rfl)<|lf Tryz.runUnderlying59 rfl kcj rfl<|st (i := 0) [.slice (some ⟨b8, 0, none⟩) 1 1] [str a0.s_, .bool (decide (t54 = 77)), .map (some b6), .slice (some ⟨b8, 0, none⟩) 1 1, .map (some b7)] kcj rfl rfl<|Jd<|Jcv 1<|?_
   try dsimp only [z1, z2, z3, z4, z5, z6, z7, z8]
   refine Qg (r := r) (σ := (List UInt8) × Bool × (List (Int × Bool)) × (List ((List UInt8) × Td)) × (List Tc) × (List (List Ta))) (τ := Nat × Nat × AN × Nat × AN) (fun s => Jae kq t54 s.1 s.2.1 s.2.2.1 s.2.2.2.1 s.2.2.2.2.1 s.2.2.2.2.2) (fun s t => [(0, pz pb0), (2, pz b5)]) (fun s t => [Jf pb0 [str s.1, .bool s.2.1, .map (some t.1), .slice t.2.2.1.1 t.2.2.2.1 t.2.2.1.2, .map (some t.2.1)] 59, Xm Q9 Q9, Jf b5 [.bool (decide (t54 = 77)), .slice t.2.2.2.2.1 s.2.2.2.2.2.length t.2.2.2.2.2] 34, Qt i6 Value.bool t.1 s.2.2.1, Qt str (fun x_ : Td => .agg #[i6 x_.kal, i6 x_.kan, i6 x_.to_]) t.2.1 s.2.2.2.1, J4 82 2 (.slice t.2.2.1.1 t.2.2.2.1 t.2.2.1.2) t.2.2.2.1 (s.2.2.2.2.1.map Jh), Uj 24 1 gs_tag_Entry (.slice t.2.2.2.2.1 s.2.2.2.2.2.length t.2.2.2.2.2) s.2.2.2.2.2.length s.2.2.2.2.2]) (fun s t => t.2.2.2.1 = s.2.2.2.2.1.length) ?_ ?_
   ·refine Jc<|Ja<|mv (pz pb0)<|?_
    obtain ⟨t69, h_t69, H56⟩ := Je H40; clear H40
    refine Qb (fun w hF hS => k45 (a0 := (⟨a0.s_, (decide (t54 = 77)), ([] : (List (Int × Bool))), ([(⟨0, 8⟩ : Tc)] : List Tc), ([] : (List ((List UInt8) × Td)))⟩ : Tf)) (Jq w) (Q6 (fk := i6) (fv := Value.bool) (i := 3) hS rfl) (frs_box (i := 5) (xs := ([(⟨0, 8⟩ : Tc)] : List Tc)) (f := Jh) hS rfl rfl rfl rfl rfl) (Q6 (fk := str) (fv := (fun x_ : Td => .agg #[i6 x_.kal, i6 x_.kan, i6 x_.to_])) (i := 4) hS rfl) (Ql (i := 0) hS rfl) h_t69) call45 rfl rfl rfl<|ag (i6 t69)<|Jd<|Jx<|Xv 5 rfl (imp_box (m := 1) (E := 82) (sz := 2) (xs := (([(⟨0, 8⟩ : Tc)] : List Tc)).map Jh) rfl rfl rfl ⟨rfl, by decide⟩)<|Jp 24 1<|X8 Q9<|?_
    try dsimp only [z1,z2,z5,z6,z7,z8]
    refine bo 7 6 rfl rfl ?_
    try dsimp only [z1,z2,z5,z6,z7,z8]
    refine Xv 7 rfl (Jaj (css := []) (xs := ([] : List (List Ta))) (p := nn) rfl (AllC.nil (G := gs_tag_Entry) (h := Q9) (sz := 1))) ?_
    refine Za (σ := Int × (List UInt8) × Bool × (List (Int × Bool)) × (List ((List UInt8) × Td)) × (List Tc) × (List (List Ta))) (τ := Nat × Nat × AN × Nat × AN) (fun next5 s => Y2 kq t54 next5 s.1 s.2.1 s.2.2.1 s.2.2.2.1 s.2.2.2.2.1 s.2.2.2.2.2.1 s.2.2.2.2.2.2) (fun s t => [(0, pz pb0), (2, pz b5), (4, i6 s.1)]) (fun s t => [Jf pb0 [str s.2.1, .bool s.2.2.1, .map (some t.1), .slice t.2.2.1.1 t.2.2.2.1 t.2.2.1.2, .map (some t.2.1)] 59, Xm Q9 Q9, Jf b5 [.bool (decide (t54 = 77)), .slice t.2.2.2.2.1 s.2.2.2.2.2.2.length t.2.2.2.2.2] 34, Qt i6 Value.bool t.1 s.2.2.2.1, Qt str (fun x_ : Td => .agg #[i6 x_.kal, i6 x_.kan, i6 x_.to_]) t.2.1 s.2.2.2.2.1, J4 82 2 (.slice t.2.2.1.1 t.2.2.2.1 t.2.2.1.2) t.2.2.2.1 (s.2.2.2.2.2.1.map Jh), Uj 24 1 gs_tag_Entry (.slice t.2.2.2.2.1 s.2.2.2.2.2.2.length t.2.2.2.2.2) s.2.2.2.2.2.2.length s.2.2.2.2.2.2]) (fun s t => t.2.2.2.1 = s.2.2.2.2.2.1.length) (t69, a0.s_, (decide (t54 = 77)), ([] : (List (Int × Bool))), ([] : (List ((List UInt8) × Td))), ([(⟨0, 8⟩ : Tc)] : List Tc), ([] : List (List Ta))) (b6, b7, ((some ⟨b8, 0, none⟩, 1) : AN), 1, nn) [0, 1, 2, 3, 4, 5, 7] H56 (by exact rfl) (by exact ⟨rfl, rfl, rfl, trivial⟩) (by decide) rfl ?_
    rintro ⟨x4_2, m_5, m_6, mp_5, mp_6, l_5, l_6⟩ ⟨b_3, b_4, p_3, n_2, p_4⟩ m5 gg H57 hl_4
    clear H56
    try dsimp only at H57
    generalize hn5 : it (fun next5 s => Y2 kq t54 next5 s.1 s.2.1 s.2.2.1 s.2.2.2.1 s.2.2.2.2.1 s.2.2.2.2.2.1 s.2.2.2.2.2.2) m5 = next5 at H57
    try dsimp only
    refine Jc<|Jc<|Ja<|mv (i6 x4_2)<|lv (Yv rfl rfl)<|Jd<|?_
    revert H57
    refine ci (decide (x4_2 ≠ 0)) rfl (fun hb H58=>?_) fun hb H64=>?_
    ·refine Jj<|Jx<|Jc<|Ja<|lf Tryz.runUnderlying34 rfl kch rfl<|ll 2 (sl p_4 l_6.length) kbl<|lv (Jdl kcu rfl)<|ag (i6 (l_6.length : Int))<|Jd<|Jc<|Ja<|mv (pz pb0)<|mv (i6 x4_2)<|mv (i6 (l_6.length : Int))<|mv (i6 (l_6.length : Int))<|?_
     obtain ⟨t80, h_t80, H59⟩ := Je H58; clear H58
     refine Qb (fun w hF hS => k47 (Jq w) (tb_pow10.mono (hw.now hF)) h_t80) call47 rfl rfl rfl ?_
     obtain ⟨t81, h_t81, H60⟩ := Je H59; clear H59
     refine bo 5 4 rfl rfl<|bo 3 5 rfl rfl<|bo 0 3 rfl rfl<|?_
     refine Qh (Jv (i := 0) (rds := []) rfl (fun w L' S hF hS hi hp hlt ho hA => k46 (a0 := (⟨m_5, m_6, mp_5, l_5, mp_6⟩ : Tf)) hp hlt (J7 w S) hl_4 (tb_pow10.mono (hw.but hF ho)) h_t81) call46 rfl) rfl rfl rfl (fun ⟨p_5, p_6, p_7, p_8⟩ => ?_)
     refine ub 0 3 rfl rfl<|ub 3 5 rfl rfl<|ub 5 4 rfl rfl<|Qd 4 rfl<|mv (.tuple #[sl p_5 t81.1.length, i6 t81.2.1, i6 t81.2.2.1])<|lv (J9 (v := sl p_5 t81.1.length) rfl rfl)<|lv (J9 (v := i6 t81.2.1) rfl rfl)<|lv (J9 (v := i6 t81.2.2.1) rfl rfl)<|ag (sl p_5 t81.1.length)<|ag (i6 t81.2.1)<|ag (i6 t81.2.2.1)<|Jd<|Jc<|Jc<|?_
     try dsimp only [z1,z2,z5,z6,z7,z8]
     refine Ja<|mv (i6 t81.2.2.1)<|lv (Yv rfl rfl)<|Jd<|?_
     revert H60
     refine ci (decide (t81.2.2.1 ≠ 0)) rfl (fun hb H61=>?_) fun hb H62=>?_
     ·refine Jc<|Ja<|lv (Xf (pl := #[(0, 1), (1, 1)]) (ps := []) (cells := #[.bool false, z0s]) zeroValue34 Tryz.runUnderlying34 (fun w => by kernel_rfl) rfl rfl)<|mv (i6 t81.2.2.1)<|st (i := 2) [.bool false, z0s] [.bool false, z0s] kci rfl rfl<|ag (i6 t81.2.2.1)<|Jd<|Jm<|Jp 24 1<|bo 1 8 rfl rfl<|Xv 1 rfl (Q7 (p := nn) rfl (AllC.nil (G := gs_tag_Entry) (h := Q9) (sz := 1)))<|bo 4 1 rfl rfl<|bo 5 4 rfl rfl<|bo 3 5 rfl rfl<|bo 0 3 rfl rfl<|?_
      refine Jad (i := 2) (vs := [.bool false, sl nn (([] : List (List Value)).length)]) (v2 := i6 t81.2.2.1) kbm kci rfl rfl rfl rfl rfl (finXK ((⟨false, ([] : List (List Ta))⟩ : Th), t81.2.2.1, t81.2.2.2) (nn, p_6, p_7, p_8) H61 (i := 0) rfl (by first | rfl | rw [(show (([] : List (List Value)).length) = ([] : List (List Ta)).length from (AllC.nil (G := gs_tag_Entry) (h := Q9) (sz := 1)).len)]) (by first | exact Imp.refl _ | exact Imp.of (by rw [(show (([] : List (List Value)).length) = ([] : List (List Ta)).length from (AllC.nil (G := gs_tag_Entry) (h := Q9) (sz := 1)).len)] <;> rfl)))
     ·refine Jj<|Jc<|?_
      refine Jcd 6 rfl (fun hp css hn pf => ?_)
      rw [hn]
      try dsimp only [z1,z2,z5,z6,z7,z8]
      refine Qd 6 rfl ?_
      try dsimp only [z1,z2,z5,z6,z7,z8]
      refine Z9 1 6 rfl rfl (by decide) (fun _ _ => Zc) (fun hp_2 hle hle_2 => ?_)
      try dsimp only [z1,z2,z5,z6,z7,z8]
      refine Ja<|lf Tryz.runUnderlying34 rfl kch rfl<|ll 2 (sl p_4 css.length) kbl<|mv (sl p_5 t81.1.length)<|?_
      refine Q5 (vs := [sl p_5 t81.1.length]) (cs := [sl p_5 t81.1.length]) kcu kcd zeroValue24 rfl rfl rfl rfl rfl rfl rfl (fun b9 => ?_)
      refine Jcd 7 rfl (fun hp_3 css_2 hn_2 pf_2 => ?_)
      rw [hn_2]
      try dsimp only [z1,z2,z5,z6,z7,z8]
      refine Qd 7 rfl ?_
      try dsimp only [z1,z2,z5,z6,z7,z8]
      refine Z9 1 7 rfl rfl (by decide) (fun _ _ => Zc) (fun hp_4 hle_3 hle_4 => ?_)
      try dsimp only [z1,z2,z5,z6,z7,z8]
      refine Uc (Φ := fun H_ => FrS H_ 6 (sl p_5 css_2.length) (css_2.map idC)) 1 10 rfl rfl (by decide) (fun _ _ => Zc) (Jb9 _) (fun hp_5 hle_5 hf => ?_)
      obtain ⟨l93, h_l93, H63⟩ := Je H62; clear H62
      refine Qh (Jal (i := 8) (k := 9) (p := p_4) (f := idC) (ys := css) (ls := [[sl p_5 css_2.length]]) kcu (X0 typeInfo24) rfl rfl rfl rfl rfl rfl rfl rfl rfl rfl rfl rfl rfl rfl (by simp only [idC, List.map_cons, List.map_nil, List.all_cons, List.all_nil, (Ja8 (xs := t81.1) hf ((pf_2.mono hle_4).mono hle_5)).one] <;> rfl) (app63 ((((pf.mono hle_2).mono hle_3).mono hle_5).app h_l93 (nc := [[sl p_5 css_2.length]]) rfl)) rfl) rfl rfl rfl (fun p_9 => ?_)
      have pf_3 : AllC gs_tag_Entry hp_5 1 (css ++ [[Value.slice p_5.1 css_2.length p_5.2]]) l93 := AllC.snocG (((pf.mono hle_2).mono hle_3).mono hle_5) h_l93 rfl ((Ja8 (xs := t81.1) hf ((pf_2.mono hle_4).mono hle_5)))
      refine lf Tryz.runUnderlying34 rfl kch rfl<|st (i := 2) [sl p_9 ((css ++ [[Value.slice p_5.1 css_2.length p_5.2]]).length)] [.bool (decide (t54 = 77)), sl p_9 ((css ++ [[Value.slice p_5.1 css_2.length p_5.2]]).length)] kch rfl rfl<|Jd<|?_
      try dsimp only [z1,z2,z5,z6,z7,z8]
      refine bo 1 8 rfl rfl ?_
      try dsimp only [z1,z2,z5,z6,z7,z8]
      refine Xv 1 rfl (Jaj (p := p_9) rfl pf_3) ?_
      (try rw [show ((css ++ [[Value.slice p_5.1 css_2.length p_5.2]]).length) = l93.length from pf_3.len])
      refine X8 Q9<|c_sel [0, 11, 2, 3, 4, 5, 6, 7, 1, 9, 10] [Jf pb0 [str t81.2.2.2.s_, .bool t81.2.2.2.kab, .map (some p_6), sl p_7 t81.2.2.2.kaa.length, .map (some p_8)] 59, Xm Q9 Q9, Jf b5 [.bool (decide (t54 = 77)), sl p_9 l93.length] 34, Qt i6 Value.bool p_6 t81.2.2.2.kam, Qt str (fun x_ : Td => .agg #[i6 x_.kal, i6 x_.kan, i6 x_.to_]) p_8 t81.2.2.2.kaf, J4 82 2 (sl p_7 t81.2.2.2.kaa.length) t81.2.2.2.kaa.length (t81.2.2.2.kaa.map Jh), _, _, Uj 24 1 gs_tag_Entry (sl p_9 l93.length) l93.length l93, Jf b9 [sl p_5 css_2.length] 24, _] rfl (by decide)<|?_
      try dsimp only [z1,z2,z5,z6,z7,z8]
      refine Ja<|mv (i6 t81.2.1)<|ag (i6 t81.2.1)<|Jd<|?_
      exact cl (t81.2.1, t81.2.2.2.s_, t81.2.2.2.kab, t81.2.2.2.kam, t81.2.2.2.kaf, t81.2.2.2.kaa, l93) (p_6, p_8, p_7, t81.2.2.2.kaa.length, p_9) m5 [0, 1, 2, 3, 4, 5, 8] (by exact ⟨(by subst hn5; exact H63), rfl⟩)
    ·refine Xj ?_
     exact cl (m_5, m_6, mp_5, mp_6, l_5, l_6) (b_3, b_4, p_3, n_2, p_4) 0 [0, 1, 2, 3, 4, 5, 6] (by exact ⟨H64, hl_4⟩)
   ·rintro ⟨m, m_2, mp, mp_2, l, l_2⟩ ⟨b, b_2, p, n, p_2⟩ gg H41 hl
    try dsimp only at H41
    try dsimp only
    refine Jc<|Ja<|mv (pz pb0)<|lv (Jg rfl)<|lf Tryz.runUnderlying59 rfl kcj rfl<|ll 0 (sl p n) kbn<|?_
    refine l_turnK (i := 5) (rds := []) (G := fun (t100 : (List Tc)) (x : Unit) => .tuple #[]) (C := fun (t100 : (List Tc)) (x : Unit) => J4 82 2 (sl p n) n (t100.map Jh)) rfl (fun w L' S hF hS hi hp hlt ho hA => k33_48 hp hlt (J7 w S) hl H41) call33 rfl rfl rfl (fun t100 _ H42 => ?_)
    clear H41
    refine c_know (fun w hF hS => lenOf (i := 5) hS rfl) (fun hl_2_ => ?_)
    have hl_2 : n = t100.length := by simpa using hl_2_.symm
    refine Jd ?_
    refine Qg (r := r) (σ := Unit) (τ := Unit) (fun s => V5 kq t54 m m_2 mp mp_2 l_2 t100) (fun s t => [(2, pz b5)]) (fun s t => [Jf pb0 [str m, .bool m_2, .map (some b), sl p n, .map (some b_2)] 59, Xm Q9 Q9, Jf b5 [.bool (decide (t54 = 77)), sl p_2 l_2.length] 34, Qt i6 Value.bool b mp, Qt str (fun x_ : Td => .agg #[i6 x_.kal, i6 x_.kan, i6 x_.to_]) b_2 mp_2, J4 82 2 (sl p n) n (t100.map Jh), Uj 24 1 gs_tag_Entry (sl p_2 l_2.length) l_2.length l_2]) (fun s t => True) ?_ ?_
    ·refine Jc<|Ja<|ag (i6 1)<|Jd<|Jx<|?_
     refine Za (σ := Int) (τ := Unit) (fun next4 s => Zq kq t54 m m_2 mp mp_2 l_2 t100 next4 s) (fun s t => [(0, pz pb0), (2, pz b5), (9, i6 s)]) (fun s t => [Jf pb0 [str m, .bool m_2, .map (some b), sl p n, .map (some b_2)] 59, Xm Q9 Q9, Jf b5 [.bool (decide (t54 = 77)), sl p_2 l_2.length] 34, Qt i6 Value.bool b mp, Qt str (fun x_ : Td => .agg #[i6 x_.kal, i6 x_.kan, i6 x_.to_]) b_2 mp_2, J4 82 2 (sl p n) n (t100.map Jh), Uj 24 1 gs_tag_Entry (sl p_2 l_2.length) l_2.length l_2]) (fun s t => True) 1 () [0, 1, 2, 3, 4, 5, 6] H42 (by exact trivial) (by exact ⟨rfl, rfl, rfl, trivial⟩) (by decide) rfl ?_
     rintro x9_2 _ m4 gg H47 _
     clear H42
     try dsimp only at H47
     generalize hn4 : it (fun next4 s => Zq kq t54 m m_2 mp mp_2 l_2 t100 next4 s) m4 = next4 at H47
     try dsimp only
     refine Jc<|Jc<|Ja<|mv (i6 x9_2)<|mv (pz pb0)<|lv (Jg rfl)<|lf Tryz.runUnderlying59 rfl kcj rfl<|ll 0 (sl p n) kbn<|lv (r_lenN kcv rfl hl_2)<|lv (X3 rfl rfl)<|Jd<|?_
     revert H47
     refine ci (decide (x9_2 < (t100.length : Int))) rfl (fun hb H48=>?_) fun hb H55=>?_
     ·refine Jj<|Jc<|Jx<|Jc<|?_
      exact Qk (Kd.p :: Kd.p :: Kd.p :: Kd.d [0] _ :: Kd.p :: Kd.d [5] _ :: Kd.d [5] _ :: Kd.d [5] _ :: Kd.p :: Kd.p :: Kd.p :: Kd.d [0] _ :: Kd.p :: Kd.p :: Kd.d [5] _ :: Kd.d [5] _ :: Kd.d [5] _ :: Kd.p :: []) 0 mixed (by
       refine dm (pz pb0)<|dv (Jg rfl)<|dv (J2 Tryz.runUnderlying59 rfl kcj rfl rfl)<|dl (sl p n) kbn<|dm (i6 x9_2)<|?_
       have h_t115 := Jt H48
       have H49 := Jn H48
       refine Um (fun w L' hF hS hi => U3 kcv kcm rfl rfl (Uk (i := 5) (E := 82) (sz := 2) (n := n) (a := p.1) (c := p.2) hS ((hi 5 (by simp)).trans rfl)) hl_2 h_t115) rfl rfl<|Jhm rfl rfl (fun w L' hF hS hi => Jbp Tryz.runUnderlying82 rfl kcg rfl rfl (Uk (i := 5) (E := 82) (sz := 2) (n := n) (a := p.1) (c := p.2) hS ((hi 5 (by simp)).trans rfl)) h_t115)<|Um (fun w L' hF hS hi => Qw (f := Jh) (i := x9_2) (sz := 2) (j := 0) (v := i6 (val (Zb t100 x9_2)).From) kbk rfl rfl (Uk (i := 5) (E := 82) (sz := 2) (n := n) (a := p.1) (c := p.2) hS ((hi 5 (by simp)).trans rfl)) h_t115 rfl) rfl rfl<|dm (pz pb0)<|dv (Jg rfl)<|dv (J2 Tryz.runUnderlying59 rfl kcj rfl rfl)<|dl (sl p n) kbn<|dm (i6 x9_2)<|?_
       have h_t123 := Jt H49
       have H50 := Jn H49
       refine dv (Zs rfl rfl h_t123) ?_
       have h_t124 := Jt H50
       have H51 := Jn H50
       refine Um (fun w L' hF hS hi => U3 kcv kcm rfl rfl (Uk (i := 5) (E := 82) (sz := 2) (n := n) (a := p.1) (c := p.2) hS ((hi 5 (by simp)).trans rfl)) hl_2 h_t124) rfl rfl<|Jhm rfl rfl (fun w L' hF hS hi => Jbp Tryz.runUnderlying82 rfl kcg rfl rfl (Uk (i := 5) (E := 82) (sz := 2) (n := n) (a := p.1) (c := p.2) hS ((hi 5 (by simp)).trans rfl)) h_t124)<|Um (fun w L' hF hS hi => Qw (f := Jh) (i := (val (gI (x9_2 - 1)))) (sz := 2) (j := 1) (v := i6 (val (Zb t100 (val (gI (x9_2 - 1))))).To) kbk rfl rfl (Uk (i := 5) (E := 82) (sz := 2) (n := n) (a := p.1) (c := p.2) hS ((hi 5 (by simp)).trans rfl)) h_t124 rfl) rfl rfl<|dv (X3 rfl rfl)<|Xr<|?_
       revert H51
       refine ci (decide ((val (Zb t100 x9_2)).From < (val (Zb t100 (val (gI (x9_2 - 1))))).To)) rfl (fun hb H52=>?_) fun hb H53=>?_
       ·refine Jc<|Ja<|lv (Xf (pl := #[(0, 1), (1, 1)]) (ps := []) (cells := #[.bool false, z0s]) zeroValue34 Tryz.runUnderlying34 (fun w => by kernel_rfl) rfl rfl)<|st (i := 2) [.bool false, z0s] [.bool false, z0s] kci rfl rfl<|ag (i6 6)<|Jd<|Jm<|Jp 24 1<|bo 1 7 rfl rfl<|Xv 1 rfl (Q7 (p := nn) rfl (AllC.nil (G := gs_tag_Entry) (h := Q9) (sz := 1)))<|bo 4 1 rfl rfl<|bo 5 4 rfl rfl<|bo 3 5 rfl rfl<|bo 0 3 rfl rfl<|?_
        refine Jad (i := 2) (vs := [.bool false, sl nn (([] : List (List Value)).length)]) (v2 := i6 6) kbm kci rfl rfl rfl rfl rfl (finXK ((⟨false, ([] : List (List Ta))⟩ : Th), 6, (⟨m, m_2, mp, t100, mp_2⟩ : Tf)) (nn, b, p, b_2) H52 (i := 0) rfl (by first | rfl | rw [(show (([] : List (List Value)).length) = ([] : List (List Ta)).length from (AllC.nil (G := gs_tag_Entry) (h := Q9) (sz := 1)).len), (show n = t100.length from hl_2)]) (by first | exact Imp.refl _ | exact Imp.of (by rw [(show (([] : List (List Value)).length) = ([] : List (List Ta)).length from (AllC.nil (G := gs_tag_Entry) (h := Q9) (sz := 1)).len), (show n = t100.length from hl_2)] <;> rfl)))
       ·refine Jj ?_
        try dsimp only [z1,z2,z5,z6,z7,z8]
        refine Ja<|mv (i6 x9_2)<|?_
        obtain ⟨t109, h_t109, H54⟩ := Je H53; clear H53
        refine lv (Jy rfl rfl h_t109)<|ag (i6 t109)<|Jd<|?_
        exact cl t109 () m4 [0, 1, 2, 3, 4, 5, 6] (by exact ⟨(by subst hn4; exact H54), trivial⟩)
       ) (by kernel_rfl)
     ·refine Xj ?_
      exact cl () () 0 [0, 1, 2, 3, 4, 5, 6] (by exact ⟨H55, trivial⟩)
    ·rintro _ _ gg H43 _
     try dsimp only at H43
     try dsimp only
     refine Jc<|Jc<|Ja<|Xb (i := 2) (vs := [.bool (decide (t54 = 77)), sl p_2 l_2.length]) kbm kci rfl rfl rfl rfl rfl<|?_
     obtain ⟨t130, h_t130, H44⟩ := Je H43; clear H43
     refine Qb (fun w hF hS => k50 (Jq w) (Jgx (i := 6) hS rfl) h_t130) call50 rfl rfl rfl<|ag (i6 t130)<|Jd<|Jc<|Ja<|mv (i6 t130)<|lv (Yv rfl rfl)<|Jd<|?_
     revert H44
     refine ci (decide (t130 ≠ 0)) rfl (fun hb H45=>?_) fun hb H46=>?_
     ·refine Jc<|Ja<|lv (Xf (pl := #[(0, 1), (1, 1)]) (ps := []) (cells := #[.bool false, z0s]) zeroValue34 Tryz.runUnderlying34 (fun w => by kernel_rfl) rfl rfl)<|mv (i6 t130)<|st (i := 2) [.bool false, z0s] [.bool false, z0s] kci rfl rfl<|ag (i6 t130)<|Jd<|Jm<|Jp 24 1<|bo 1 7 rfl rfl<|Xv 1 rfl (Q7 (p := nn) rfl (AllC.nil (G := gs_tag_Entry) (h := Q9) (sz := 1)))<|bo 4 1 rfl rfl<|bo 5 4 rfl rfl<|bo 3 5 rfl rfl<|bo 0 3 rfl rfl<|?_
      refine Jad (i := 2) (vs := [.bool false, sl nn (([] : List (List Value)).length)]) (v2 := i6 t130) kbm kci rfl rfl rfl rfl rfl (finXK ((⟨false, ([] : List (List Ta))⟩ : Th), t130, (⟨m, m_2, mp, t100, mp_2⟩ : Tf)) (nn, b, p, b_2) H45 (i := 0) rfl (by first | rfl | rw [(show (([] : List (List Value)).length) = ([] : List (List Ta)).length from (AllC.nil (G := gs_tag_Entry) (h := Q9) (sz := 1)).len), (show n = t100.length from hl_2)]) (by first | exact Imp.refl _ | exact Imp.of (by rw [(show (([] : List (List Value)).length) = ([] : List (List Ta)).length from (AllC.nil (G := gs_tag_Entry) (h := Q9) (sz := 1)).len), (show n = t100.length from hl_2)] <;> rfl)))
     ·refine Jj<|Jc<|?_
      try dsimp only [z1,z2,z5,z6,z7,z8]
      refine Ja<|Xb (i := 2) (vs := [.bool (decide (t54 = 77)), sl p_2 l_2.length]) kbm kci rfl rfl rfl rfl rfl<|st (i := 2) [.bool (decide (t54 = 77)), sl p_2 l_2.length] [.bool (decide (t54 = 77)), sl p_2 l_2.length] kci rfl rfl<|ag (i6 0)<|Jd<|Jm<|bo 4 6 rfl rfl<|bo 5 4 rfl rfl<|bo 3 5 rfl rfl<|bo 0 3 rfl rfl<|?_
      refine Jad (i := 2) (vs := [.bool (decide (t54 = 77)), sl p_2 l_2.length]) (v2 := i6 0) kbm kci rfl rfl rfl rfl rfl (finXK ((⟨(decide (t54 = 77)), l_2⟩ : Th), 0, (⟨m, m_2, mp, t100, mp_2⟩ : Tf)) (p_2, b, p, b_2) H46 (i := 0) rfl (by first | rfl | rw [(show n = t100.length from hl_2)]) (by first | exact Imp.refl _ | exact Imp.of (by rw [(show n = t100.length from hl_2)] <;> rfl)))
end Go.Proofs.YthljoadplekgnaaGreatDoor

namespace Go.Proofs.YthljoadplekgnaaGreatDoor
open Go Go.Vc Go.Md Go.M Go.Lx
def TreeE (R : J1 → Value → List Ta → List Nat → Prop) (h : J1) (c : List Value) (x : Ta) (bs : List Nat) : Prop :=
  ∃ (v3 v4 v5 : Value) (b5 : List Nat), c = [.int .i64 x.Tag, .int .i64 x.Value.kai, str x.Value.kaj, v3, v4, v5] ∧ FrS h 1 v3 (x.Value.kak.map J8) ∧ FrS h 2 v4 (x.Value.kah.map Jl) ∧ R h v5 x.Value.kag b5 ∧ bs = roB v3 x.Value.kak.length ++ (roB v4 x.Value.kah.length ++ b5)
abbrev KidsL (R : J1 → Value → List Ta → List Nat → Prop) (h : J1) (css : List (List Value)) (xs : List Ta) (bs : List Nat) : Prop := KidsG (TreeE R) h css xs bs
def TreeL : Nat → J1 → Value → List Ta → List Nat → Prop
  | 0, _, v, xs, bs => v = z0s ∧ xs = [] ∧ bs = []
  | d + 1, h, v, xs, bs => ∃ (css : List (List Value)) (b2 : List Nat), RowP h 95 6 v css ∧ KidsL (TreeL d) h css xs b2 ∧ bs = v.ownBlock.toList ++ b2
theorem TreeE.agree {R : J1 → Value → List Ta → List Nat → Prop} {h h' : J1} {c : List Value} {x : Ta} {bs : List Nat} (hR : ∀ v xs b, R h v xs b → (∀ q ∈ b, ∀ o, h q = some o → h' q = some o) → R h' v xs b) (e : TreeE R h c x bs) (k : ∀ q ∈ bs, ∀ o, h q = some o → h' q = some o) : TreeE R h' c x bs := by
  obtain ⟨v3, v4, v5, b5, e1, e2, e3, e4, rfl⟩ := e
  exact ⟨v3, v4, v5, b5, e1, e2.agree (by rw [List.length_map]; exact fun q hq => k q (by simp [hq])), e3.agree (by rw [List.length_map]; exact fun q hq => k q (by simp [hq])), hR _ _ _ e4 (fun q hq => k q (by simp [hq])), rfl⟩
theorem TreeL.agree : ∀ {d : Nat} {h h' : J1} {v : Value} {xs : List Ta} {bs : List Nat}, TreeL d h v xs bs → (∀ q ∈ bs, ∀ o, h q = some o → h' q = some o) → TreeL d h' v xs bs := by
  intro d
  induction d with
  | zero => intro h h' v xs bs t _; exact t
  | succ d ih =>
    rintro h h' v xs bs ⟨css, b2, r, k, rfl⟩ q
    exact ⟨css, b2, r.mono fun b hb => q b (by simp [hb]), k.agree (fun c x b t k => t.agree (fun v xs b t k => ih t k) k) fun y hy => q y (List.mem_append_right _ hy), rfl⟩
theorem TreeL.mono {d : Nat} {h h' : J1} {v : Value} {xs : List Ta} {bs : List Nat} (t : TreeL d h v xs bs) (k : ∀ b o, h b = some o → h' b = some o) : TreeL d h' v xs bs := t.agree fun q _ => k q
theorem TreeE.mono {d : Nat} {h h' : J1} {c : List Value} {x : Ta} {bs : List Nat} (t : TreeE (TreeL d) h c x bs) (k : ∀ b o, h b = some o → h' b = some o) : TreeE (TreeL d) h' c x bs := t.agree (fun v xs b t k => t.agree k) fun q _ => k q
theorem Jjo {d : Nat} {h h' : J1} {css : List (List Value)} {xs : List Ta} {bs : List Nat} (t : KidsL (TreeL d) h css xs bs) (k : ∀ b o, h b = some o → h' b = some o) : KidsL (TreeL d) h' css xs bs := t.agree (fun c x b t k => t.agree (fun v xs b t k => t.agree k) k) fun q _ => k q
theorem TreeL.frn : ∀ {d : Nat} {h : J1} {v : Value} {xs : List Ta} {bs : List Nat}, TreeL d h v xs bs → FrN h 6 v g_tag_Entry xs := by
  intro d
  induction d with
  | zero =>
    rintro h v xs bs ⟨rfl, rfl, _⟩
    exact ⟨FrS.nil _ _, fun i x hx => by cases hx⟩
  | succ d ih =>
    rintro h v xs bs ⟨css, b2, r, k, rfl⟩
    have hid : css.map idC = css := by unfold idC; simp
    refine Ja8 (by rw [hid]; exact r.frs) ?_
    refine k.allC fun c x b t => ?_
    obtain ⟨v3, v4, v5, b5, e1, e2, e3, e4, _⟩ := t
    subst e1
    have f := ih e4
    exact ⟨rfl, .mk rfl rfl rfl e2 e3 f.frs f.el⟩
abbrev Jga (d : Nat) (v : Value) (xs : List Ta) : Chunk := ownC fun h bs => TreeL d h v xs bs
abbrev kidsC (d : Nat) (css : List (List Value)) (xs : List Ta) : Chunk := ownC fun h bs => KidsL (TreeL d) h css xs bs
theorem imp_kid {d : Nat} {v3 v4 v5 : Value} {x : Ta} :
    Imp (Jw (roV 1 v3 x.Value.kak.length (x.Value.kak.map J8)) (Jw (roV 2 v4 x.Value.kah.length (x.Value.kah.map Jl)) (Jga d v5 x.Value.kag)))
      (ownC fun h bs => TreeE (TreeL d) h [.int .i64 x.Tag, .int .i64 x.Value.kai, str x.Value.kaj, v3, v4, v5] x bs) := by
  have i1 := Jh7 (imp_roOwn (sz := 2) (n := x.Value.kah.length) (v := v4) (xs := x.Value.kah.map Jl)) (Imp.refl (Jga d v5 x.Value.kag))
  have i2 := Jfp i1 (Jg9 (Χ := fun h bs => ∃ b5, FrS h 2 v4 (x.Value.kah.map Jl) ∧ TreeL d h v5 x.Value.kag b5 ∧ bs = roB v4 x.Value.kah.length ++ b5) (fun h h' bs k t => ⟨t.1.mono k, t.2⟩) (fun h h' bs k t => t.mono k) fun h b1 b2 t1 t2 => ⟨b2, t1.1, t2, by rw [t1.2, List.length_map]⟩)
  have i3 := Jh7 (imp_roOwn (sz := 1) (n := x.Value.kak.length) (v := v3) (xs := x.Value.kak.map J8)) i2
  exact Jfp i3 (Jg9 (fun h h' bs k t => ⟨t.1.mono k, t.2⟩) (fun h h' bs k ⟨b5, t1, t2, t3⟩ => ⟨b5, t1.mono k, t2.mono k, t3⟩) fun h b1 b2 t1 ⟨b5, t2, t3, t4⟩ => ⟨v3, v4, v5, b5, rfl, t1.1, t2, t3, by rw [t1.2, t4, List.length_map]⟩)
theorem imp_kids {d : Nat} {css : List (List Value)} {xs : List Ta} {c : List Value} {x : Ta} : Imp (Jw (kidsC d css xs) (ownC fun h bs => TreeE (TreeL d) h c x bs)) (kidsC d (css ++ [c]) (xs ++ [x])) :=
  Jg9 (fun h h' bs k t => Jjo t k) (fun h h' bs k t => t.mono k) fun h b1 b2 t1 t2 => t1.snoc t2
theorem imp_tree {d n : Nat} {v : Value} {css : List (List Value)} {xs : List Ta} : Imp (Jw (J4 95 6 v n css) (kidsC d css xs)) (Jga (d + 1) v xs) :=
  Jfp (Jh7 imp_rowOwn (Imp.refl _)) (Jg9 (fun h h' bs k t => ⟨t.1.mono fun b _ => k b, t.2⟩) (fun h h' bs k t => Jjo t k) fun h b1 b2 t1 t2 => ⟨css, b2, t1.1, t2, by rw [t1.2.2]⟩)
theorem imp_tree0 {d : Nat} : Imp empC (Jga (d + 1) (z0s) []) := Jg6 ⟨[], [], ⟨by simp, .inl ⟨rfl, rfl⟩⟩, rfl, rfl⟩
theorem imp_kids0 {d : Nat} : Imp empC (kidsC d [] []) := Jg6 rfl
end Go.Proofs.YthljoadplekgnaaGreatDoor

namespace Go.Proofs.YthljoadplekgnaaGreatDoor
open Go Go.Vc Go.Md Go.M Go.Lx
set_option maxRecDepth 100000
set_option maxHeartbeats 4000000
def EntsC (d : Nat) : Prop := ∀ {xs : List Ta} {v0 : Value} {w : World} {h : J1} (_ : Know h w Z0) (_ : FrN h 6 v0 g_tag_Entry xs) (_ : fits d xs),
  Does Tryz.prog 81 (List.toArray [v0]) w (fun v w' => ∃ x : Option Addr × Nat, v = .slice x.1 xs.length x.2 ∧ Turn w w' Z0 (Jga d (.slice x.1 xs.length x.2) xs))
theorem clone_ints {l : List Int} (h : l.length ≤ 2000000) : Y5 l = some l := by
  unfold Y5
  rw [Yw (by simp only [List.length_nil]; omega)]; rfl
theorem clone_rats {l : List Tg} (h : l.length ≤ 2000000) : U8 l = some l := by
  unfold U8
  rw [Yw (by simp only [List.length_nil]; omega)]; rfl
theorem k42_of {d : Nat} (C : EntsC d) {a0 : Te} {v0_2 v0_3 v0_4 : Value} {w : World} {h : J1} (hw : Know h w Z0) (f0_2 : FrS h 1 v0_2 (a0.kak.map J8)) (f0_3 : FrS h 2 v0_3 (a0.kah.map Jl)) (f0_4 : FrN h 6 v0_4 g_tag_Entry a0.kag) (hf : fitV d a0) :
    Does Tryz.prog 42 (List.toArray [.agg #[.int .i64 a0.kai, str a0.kaj, v0_2, v0_3, v0_4]]) w (fun v w' => ∃ x : (Option Addr × Nat) × (Option Addr × Nat) × (Option Addr × Nat), v = (.agg #[.int .i64 a0.kai, str a0.kaj, .slice x.1.1 a0.kak.length x.1.2, .slice x.2.1.1 a0.kah.length x.2.1.2, .slice x.2.2.1 a0.kag.length x.2.2.2]) ∧
      Turn w w' Z0 (Jw (roV 1 (.slice x.1.1 a0.kak.length x.1.2) a0.kak.length (a0.kak.map J8)) (Jw (roV 2 (.slice x.2.1.1 a0.kah.length x.2.1.2) a0.kah.length (a0.kah.map Jl)) (Jga d (.slice x.2.2.1 a0.kag.length x.2.2.2) a0.kag)))) := by
 obtain ⟨z1_, z2_, z3_⟩ := hf
 have h_t5 := clone_ints z1_
 have h_t10 := clone_rats z2_
 refine enter (n := 18) Tryz.func42 rfl rfl rfl Z0 [] (Sat.nil _ _) ?_
 refine X8 Q9 ?_
 refine Jc ?_
 refine Ja ?_
 refine W1 (cs := [.int .i64 a0.kai, str a0.kaj, v0_2, v0_3, v0_4]) rfl rfl rfl rfl (fun b4 => ?_)
 refine Xx (cs := [.int .i64 0, str [], z0s, z0s, z0s]) Tryz.zeroValue26 rfl rfl rfl (fun b5 => ?_)
 refine Jd ?_
 refine Jc ?_
 refine Ja ?_
 refine Qi rfl rfl rfl (J2 Tryz.runUnderlying26 rfl kcb rfl rfl) ?_
 refine Jip (i := 1) (v := v0_2) kbg rfl rfl rfl rfl rfl ?_
 refine V8 (Yy (rds := []) (G := fun x : (Option Addr × Nat) => .slice x.1 a0.kak.length x.2) (C := fun x : (Option Addr × Nat) => J4 3 1 (.slice x.1 a0.kak.length x.2) a0.kak.length (a0.kak.map J8)) (fun w L' hF hS hi => k78 (Jq w) (f0_2.mono (hw.now hF)) h_t5) Tryz.call78 rfl) rfl rfl rfl (fun p => ?_)
 refine Qb (fun w hF hS => k77 (capOf (i := 3) hS rfl) w) Tryz.call77 rfl rfl rfl ?_
 refine Qi rfl rfl rfl (J2 Tryz.runUnderlying26 rfl kcb rfl rfl) ?_
 refine Wz (i := 1) (vs := [.slice (Vo p.1 0 a0.kak.length 1) a0.kak.length a0.kak.length]) (cs' := [.int .i64 a0.kai, str a0.kaj, .slice (Vo p.1 0 a0.kak.length 1) a0.kak.length a0.kak.length, v0_3, v0_4]) kcb rfl rfl rfl rfl rfl rfl rfl rfl rfl ?_
 refine Jd ?_
 refine Jc ?_
 refine Ja ?_
 refine Qi rfl rfl rfl (J2 Tryz.runUnderlying26 rfl kcc rfl rfl) ?_
 refine Jip (i := 1) (v := v0_3) Tryz.isAgg23 rfl rfl rfl rfl rfl ?_
 refine V8 (Yy (rds := []) (G := fun x : (Option Addr × Nat) => .slice x.1 a0.kah.length x.2) (C := fun x : (Option Addr × Nat) => J4 98 2 (.slice x.1 a0.kah.length x.2) a0.kah.length (a0.kah.map Jl)) (fun w L' hF hS hi => k80 (Jq w) (f0_3.mono (hw.now hF)) h_t10) Tryz.call80 rfl) rfl rfl rfl (fun p_2 => ?_)
 refine Qb (fun w hF hS => k79 (capOf (i := 4) hS rfl) w) Tryz.call79 rfl rfl rfl ?_
 refine Qi rfl rfl rfl (J2 Tryz.runUnderlying26 rfl kcc rfl rfl) ?_
 refine Wz (i := 1) (vs := [.slice (Vo p_2.1 0 a0.kah.length 2) a0.kah.length a0.kah.length]) (cs' := [.int .i64 a0.kai, str a0.kaj, .slice (Vo p.1 0 a0.kak.length 1) a0.kak.length a0.kak.length, .slice (Vo p_2.1 0 a0.kah.length 2) a0.kah.length a0.kah.length, v0_4]) kcc rfl rfl rfl rfl rfl rfl rfl rfl rfl ?_
 refine Jd ?_
 refine Jc ?_
 refine Ja ?_
 refine Qi rfl rfl rfl (J2 Tryz.runUnderlying26 rfl kcd rfl rfl) ?_
 refine Jip (i := 1) (v := v0_4) kbh rfl rfl rfl rfl rfl ?_
 refine V8 (Yy (rds := []) (G := fun x : (Option Addr × Nat) => .slice x.1 a0.kag.length x.2) (C := fun x : (Option Addr × Nat) => Jga d (.slice x.1 a0.kag.length x.2) a0.kag) (fun w L' hF hS hi => C (Jq w) (f0_4.mono (hw.now hF)) z3_) Tryz.call81 rfl) rfl rfl rfl (fun p_3 => ?_)
 refine Qi rfl rfl rfl (J2 Tryz.runUnderlying26 rfl kcd rfl rfl) ?_
 refine Wz (i := 1) (vs := [.slice p_3.1 a0.kag.length p_3.2]) (cs' := [.int .i64 a0.kai, str a0.kaj, .slice (Vo p.1 0 a0.kak.length 1) a0.kak.length a0.kak.length, .slice (Vo p_2.1 0 a0.kah.length 2) a0.kah.length a0.kah.length, .slice p_3.1 a0.kag.length p_3.2]) kcd rfl rfl rfl rfl rfl rfl rfl rfl rfl ?_
 refine Jd ?_
 refine Jc ?_
 refine Ja ?_
 refine Xb (i := 1) (vs := [.int .i64 a0.kai, str a0.kaj, .slice (Vo p.1 0 a0.kak.length 1) a0.kak.length a0.kak.length, .slice (Vo p_2.1 0 a0.kah.length 2) a0.kah.length a0.kah.length, .slice p_3.1 a0.kag.length p_3.2]) kbi kce rfl rfl rfl rfl rfl ?_
 refine Wz (i := 2) (vs := [.int .i64 a0.kai, str a0.kaj, .slice (Vo p.1 0 a0.kak.length 1) a0.kak.length a0.kak.length, .slice (Vo p_2.1 0 a0.kah.length 2) a0.kah.length a0.kah.length, .slice p_3.1 a0.kag.length p_3.2]) (cs' := [.int .i64 a0.kai, str a0.kaj, .slice (Vo p.1 0 a0.kak.length 1) a0.kak.length a0.kak.length, .slice (Vo p_2.1 0 a0.kah.length 2) a0.kah.length a0.kah.length, .slice p_3.1 a0.kag.length p_3.2]) kce rfl rfl rfl rfl rfl rfl rfl rfl rfl ?_
 refine Jd ?_
 refine Jm ?_
 refine Jcv 1 ?_
 refine Xv 2 rfl (imp_clipO _ _ _ _ _ _) ?_
 refine Xv 3 rfl (imp_clipO _ _ _ _ _ _) ?_
 refine Jhv 3 4 rfl rfl (by decide) ?_
 refine Jhv 2 3 rfl rfl (by decide) ?_
 refine retC (i := 1) (vs := [.int .i64 a0.kai, str a0.kaj, .slice (Vo p.1 0 a0.kak.length 1) a0.kak.length a0.kak.length, .slice (Vo p_2.1 0 a0.kah.length 2) a0.kah.length a0.kah.length, .slice p_3.1 a0.kag.length p_3.2]) kbi kce rfl rfl rfl rfl (Y0 ((Vo p.1 0 a0.kak.length 1, a0.kak.length), (Vo p_2.1 0 a0.kah.length 2, a0.kah.length), p_3) (i := 2) rfl rfl (Imp.refl _))
theorem elC_len {h : J1} {v : Value} {sz i : Nat} : (elC h v sz i).length = sz := by simp [elC]
theorem ent_one {h : J1} {c : Nat → Value} {x : Ta} (f : g_tag_Entry h c x) : ∀ j, j < 6 → (c j).oneCell' = true := fun j hj => by
  cases f with
  | mk h0 h1 h2 h3 h4 h5 h6 => rcases (show j = 0 ∨ j = 1 ∨ j = 2 ∨ j = 3 ∨ j = 4 ∨ j = 5 from by omega) with rfl | rfl | rfl | rfl | rfl | rfl <;> first | (rw [h0]; rfl) | (rw [h1]; rfl) | (rw [h2]; rfl) | exact h3.one | exact h4.one | exact h5.one
theorem k81_all (d : Nat) : EntsC d := by
 induction d with
 | zero => intro xs v0 w h hw f0 hf; exact hf.elim
 | succ d ih =>
 intro xs v0 w h hw f0 hf
 obtain ⟨hlen, hkids⟩ := hf
 refine enter (n := 31) Tryz.func81 rfl rfl rfl Z0 [] (Sat.nil _ _) ?_
 refine Jc ?_
 refine Ja ?_
 refine Qi rfl rfl rfl (Jz (v := z0s) rfl) ?_
 refine Jd ?_
 refine Jc ?_
 refine Jc ?_
 refine Ja ?_
 refine Qi rfl rfl rfl (Xw (v := v0) rfl) ?_
 refine Qi rfl rfl rfl (Z2 kct rfl f0) ?_
 refine Qi rfl rfl rfl (Qj rfl rfl) ?_
 refine Jd ?_
 refine c_if (b := (decide ((xs.length : Int) = 0))) rfl (fun hb => ?_) (fun hb => ?_)
 ·have h0 : xs = [] := List.length_eq_zero_iff.1 (by have := of_decide_eq_true hb; omega)
  subst h0
  refine Jc ?_
  refine Ja ?_
  refine Qi rfl rfl rfl (Jz (v := z0s) rfl) ?_
  refine Jd ?_
  refine Jm ?_
  refine c_emp ?_
  refine Xv 0 rfl (imp_tree0 (d := d)) ?_
  exact Jdo (v := z0s) rfl rfl (Y0 ((none, 0) : Option Addr × Nat) (i := 0) rfl rfl (Imp.refl _))
 ·have hpos : 0 < xs.length := by have := of_decide_eq_false hb; omega
  have hnews : ((List.range xs.length).map (elC h v0 6)).length = xs.length := by simp
  refine Jj ?_
  refine Jc ?_
  refine Ja ?_
  refine Qi rfl rfl rfl (Xw (v := v0) rfl) ?_
  refine Qi rfl rfl rfl (Z2 kct rfl f0) ?_
  refine V8 (Jex (E := 95) (sz := 6) (by_ := 104) (m := xs.length) (c := xs.length) (rds := []) kct (X0 Tryz.typeInfo95) rfl rfl rfl rfl rfl rfl rfl rfl (by omega) (by omega) rfl) rfl rfl rfl (fun p => ?_)
  refine Qi rfl rfl rfl (Jz (v := .slice p.1 xs.length p.2) rfl) ?_
  refine Jd ?_
  refine Jc ?_
  refine Ja ?_
  refine Qi rfl rfl rfl (Xw (v := .slice p.1 xs.length p.2) rfl) ?_
  refine Qi rfl rfl rfl (Xw (v := v0) rfl) ?_
  refine Qh (turns_copyK (i := 0) (rds := []) (sz := 6) (p := p) (m := xs.length) (a := 0) (dl := xs.length) (cd := p.2) (q := xs.length) (ax := sa v0) (c := sc v0) (news := (List.range xs.length).map (elC h v0 6)) kct (X0 Tryz.typeInfo95) rfl rfl (by simp) (by rw [cutA_zero]; rfl) (by omega) ((show _ = v0 from rfl).trans (f0.frs.eq.trans (by rw [hnews]))) (Nat.le_refl _) hnews.symm hpos
    (fun w L' hF hS hj => f0.frs.row (hw.now hF)) (fun x hx => by obtain ⟨i, _, rfl⟩ := List.mem_map.1 hx; exact elC_len) (fun x hx u hu => List.all_eq_true.1 (AllC.oneN (fun {c x} f j hj => ent_one f j hj) f0.allC x hx) u hu)) rfl rfl rfl (fun _ => ?_)
  refine Jd ?_
  refine Xv 0 rfl (Imp.of (show J4 95 6 (.slice p.1 xs.length p.2) xs.length (_ ++ _ ++ _) = J4 95 6 (.slice p.1 xs.length p.2) ((List.range xs.length).map (elC h v0 6)).length (((List.range xs.length).map (elC h v0 6)).map idC) from by rw [hnews, idC_map, List.take_zero, List.nil_append, List.drop_eq_nil_of_le (by simp), List.append_nil])) ?_
  refine Jc ?_
  refine Jc ?_
  refine Ja ?_
  refine Qi rfl rfl rfl (Xw (v := .slice p.1 xs.length p.2) rfl) ?_
  refine Qi rfl rfl rfl (Jdl kct rfl) ?_
  refine Qi rfl rfl rfl (Xw (v := .int .i64 0) rfl) ?_
  refine Jd ?_
  refine c_emp ?_
  refine Xv 1 rfl (imp_kids0 (d := d)) ?_
  refine Jx ?_
  refine Za (σ := Nat) (τ := List (List Value)) (cntB xs.length) (fun s t => [(3, .slice p.1 xs.length p.2), (15, .int .i64 (xs.length : Int)), (16, .int .i64 (s : Int))]) (fun s t => [J4 95 6 (.slice p.1 xs.length p.2) xs.length (t.map idC), kidsC d (t.take s) (xs.take s)])
   (fun s t => t.length = xs.length ∧ s ≤ xs.length ∧ ∀ j, s ≤ j → j < xs.length → t[j]? = some (elC h v0 6 j)) 0 ((List.range xs.length).map (elC h v0 6)) [0, 1] (cnt_fix _) ⟨hnews, Nat.zero_le _, fun j _ hj => by simp [hj]⟩ (by exact ⟨rfl, rfl, rfl, trivial⟩) (by decide) (by rw [List.take_zero, List.take_zero, hnews]; rfl) ?_
  rintro i css m gg H ⟨hcl, hin, hcs⟩
  try dsimp only
  refine Jc ?_
  refine Ja ?_
  refine Qi rfl rfl rfl (X3 rfl rfl) ?_
  refine Jd ?_
  refine Jc ?_
  refine c_if (b := (decide ((i : Int) < (xs.length : Int)))) rfl (fun hb => ?_) (fun hb => ?_)
  ·have hi : i < xs.length := by have := of_decide_eq_true hb; omega
   have hci : i < css.length := by omega
   have hat : Zb css (i : Int) = some (elC h v0 6 i) := by
    rw [Xa hci]; have := hcs i (Nat.le_refl _) hi; rw [List.getElem?_eq_getElem hci] at this; exact this
   have hat0 : Zb xs (i : Int) = some xs[i] := Xa hi
   have f := f0.at hat0
   rw [Int.toNat_natCast] at f
   have fk := hkids xs[i] (List.getElem_mem hi)
   have ec : idC (elC h v0 6 i) = [.int .i64 xs[i].Tag, .int .i64 xs[i].Value.kai, str xs[i].Value.kaj, Xd h v0 6 i 3, Xd h v0 6 i 4, Xd h v0 6 i 5] := by
    rw [← Yd f]; rfl
   obtain ⟨q0, q1⟩ := g_tag_Entry_iff.1 f
   have f2 : FrS h 1 (Xd h v0 6 i 3) (xs[i].Value.kak.map J8) := Q0 q1
   have f3 : FrS h 2 (Xd h v0 6 i 4) (xs[i].Value.kah.map Jl) := Q1 q1
   have f4 : FrN h 6 (Xd h v0 6 i 5) g_tag_Entry xs[i].Value.kag := Qm q1
   refine Jj ?_
   refine Jc ?_
   refine Jx ?_
   refine Jc ?_
   refine Ja ?_
   refine Qi rfl rfl rfl (Xw (v := .int .i64 (i : Int)) rfl) ?_
   refine Qi rfl rfl rfl (Jz (v := .int .i64 (i : Int)) rfl) ?_
   refine Jd ?_
   refine Ja ?_
   refine Qi rfl rfl rfl (Xw (v := .slice p.1 xs.length p.2) rfl) ?_
   refine Qi rfl rfl rfl (Xw (v := .int .i64 (i : Int)) rfl) ?_
   refine Qi rfl rfl rfl (Xw (v := .slice p.1 xs.length p.2) rfl) ?_
   refine Qi rfl rfl rfl (Xw (v := .int .i64 (i : Int)) rfl) ?_
   refine Xs (fun w hF hS => U3 kct kco rfl rfl (Uk (i := 0) hS rfl) hcl.symm hat) rfl rfl rfl ?_
   refine Xs (fun w hF hS => Jbp Tryz.runUnderlying95 rfl kce rfl rfl (Uk (i := 0) hS rfl) hat) rfl rfl rfl ?_
   refine Xs (fun w hF hS => Z5 (f := idC) (i := (i : Int)) (sz := 6) (j := 1) (vs := [.int .i64 xs[i].Value.kai, str xs[i].Value.kaj, Xd h v0 6 i 3, Xd h v0 6 i 4, Xd h v0 6 i 5]) kbi kce rfl rfl (Uk (i := 0) hS rfl) hat (by rw [ec]; rfl)) rfl rfl rfl ?_
   refine V8 (Yy (rds := []) (G := fun x : (Option Addr × Nat) × (Option Addr × Nat) × (Option Addr × Nat) => (.agg #[.int .i64 xs[i].Value.kai, str xs[i].Value.kaj, .slice x.1.1 xs[i].Value.kak.length x.1.2, .slice x.2.1.1 xs[i].Value.kah.length x.2.1.2, .slice x.2.2.1 xs[i].Value.kag.length x.2.2.2])) (C := fun x : (Option Addr × Nat) × (Option Addr × Nat) × (Option Addr × Nat) => (Jw (roV 1 (.slice x.1.1 xs[i].Value.kak.length x.1.2) xs[i].Value.kak.length (xs[i].Value.kak.map J8)) (Jw (roV 2 (.slice x.2.1.1 xs[i].Value.kah.length x.2.1.2) xs[i].Value.kah.length (xs[i].Value.kah.map Jl)) (Jga d (.slice x.2.2.1 xs[i].Value.kag.length x.2.2.2) xs[i].Value.kag)))) (fun w L' hF hS hi' => k42_of ih (Jq w) (f2.mono (hw.now hF)) (f3.mono (hw.now hF)) (f4.mono (hw.now hF)) fk) Tryz.call42 rfl) rfl rfl rfl (fun ⟨p3, p4, p5⟩ => ?_)
   refine Xs (fun w hF hS => U3 kct kco rfl rfl (Uk (i := 0) hS rfl) hcl.symm hat) rfl rfl rfl ?_
   refine Xs (fun w hF hS => Jbp Tryz.runUnderlying95 rfl kce rfl rfl (Uk (i := 0) hS rfl) hat) rfl rfl rfl ?_
   refine Jjq (q := 0) (j := 1) (i := (i : Int)) (sz := 6) (hm := hcl.symm) (f := idC) (z := [.int .i64 xs[i].Tag, .int .i64 xs[i].Value.kai, str xs[i].Value.kaj, .slice p3.1 xs[i].Value.kak.length p3.2, .slice p4.1 xs[i].Value.kah.length p4.2, .slice p5.1 xs[i].Value.kag.length p5.2]) (ys := css.set i [.int .i64 xs[i].Tag, .int .i64 xs[i].Value.kai, str xs[i].Value.kaj, .slice p3.1 xs[i].Value.kak.length p3.2, .slice p4.1 xs[i].Value.kah.length p4.2, .slice p5.1 xs[i].Value.kag.length p5.2]) (vs := [.int .i64 xs[i].Value.kai, str xs[i].Value.kaj, .slice p3.1 xs[i].Value.kak.length p3.2, .slice p4.1 xs[i].Value.kah.length p4.2, .slice p5.1 xs[i].Value.kag.length p5.2]) kce rfl rfl rfl rfl rfl rfl rfl rfl rfl (fun y_ hy_ => by cases hy_.symm.trans hat; rw [ec]; rfl) (by rw [Jhr (by omega) (by omega), Int.toNat_natCast]) ?_
   refine Jd ?_
   refine Ja ?_
   refine Qi rfl rfl rfl (Jy rfl rfl (Ju (by omega))) ?_
   refine Qi rfl rfl rfl (Xw (v := .int .i64 ((i : Int) + 1)) rfl) ?_
   refine Jd ?_
   refine Xv 2 rfl (imp_kid (x := xs[i])) ?_
   refine Jhv 1 2 rfl rfl (by decide) ?_
   refine Xv 1 rfl imp_kids ?_
   refine c_close (i + 1) (css.set i [.int .i64 xs[i].Tag, .int .i64 xs[i].Value.kai, str xs[i].Value.kaj, .slice p3.1 xs[i].Value.kak.length p3.2, .slice p4.1 xs[i].Value.kah.length p4.2, .slice p5.1 xs[i].Value.kag.length p5.2]) m [0, 1] (by exact ⟨rfl, rfl, rfl, trivial⟩) (by decide) (by
     rw [take_setS hci, Ji1 hi]; rfl) (by exact ⟨cnt_step H hi, by simpa using hcl, hi, fun j hj hj2 => by rw [List.getElem?_set_ne (by omega)]; exact hcs j (by omega) hj2⟩) (Nat.lt_succ_self _)
  ·have hi : i = xs.length := by have := of_decide_eq_false hb; omega
   refine Xj ?_
   refine Jc ?_
   refine Ja ?_
   refine Qi rfl rfl rfl (Xw (v := .slice p.1 xs.length p.2) rfl) ?_
   refine Qi rfl rfl rfl (Jz (v := .slice p.1 xs.length p.2) rfl) ?_
   refine Jd ?_
   refine Jm ?_
   refine Jhv 0 1 rfl rfl (by decide) ?_
   refine Xv 0 rfl (Imp.of (show Jw (J4 95 6 (.slice p.1 xs.length p.2) xs.length (css.map idC)) (kidsC d (css.take i) (xs.take i)) = Jw (J4 95 6 (.slice p.1 xs.length p.2) xs.length css) (kidsC d css xs) from by rw [idC_map, hi, List.take_of_length_le (by omega), List.take_length])) ?_
   refine Xv 0 rfl imp_tree ?_
   exact Jdo (v := .slice p.1 xs.length p.2) rfl rfl (Y0 p (i := 0) rfl rfl (Imp.refl _))
end Go.Proofs.YthljoadplekgnaaGreatDoor

namespace Go.Proofs.YthljoadplekgnaaGreatDoor
open Go Go.Vc Go.Md Go.M Go.Lx
set_option maxRecDepth 100000
set_option maxHeartbeats 4000000
def DirE (d : Nat) (h : J1) (c : List Value) (l : List Ta) (bs : List Nat) : Prop := ∃ u, c = [u] ∧ TreeL d h u l bs
def TreeF (d : Nat) (h : J1) (v : Value) (ls : List (List Ta)) (bs : List Nat) : Prop :=
  ∃ (css : List (List Value)) (b2 : List Nat), RowP h 24 1 v css ∧ KidsG (DirE d) h css ls b2 ∧ bs = v.ownBlock.toList ++ b2
theorem DirE.agree {d : Nat} {h h' : J1} {c : List Value} {l : List Ta} {bs : List Nat} (t : DirE d h c l bs) (k : ∀ q ∈ bs, ∀ o, h q = some o → h' q = some o) : DirE d h' c l bs := by
  obtain ⟨u, e, t⟩ := t; exact ⟨u, e, t.agree k⟩
theorem dirs_mono {d : Nat} {h h' : J1} {css : List (List Value)} {ls : List (List Ta)} {bs : List Nat} (t : KidsG (DirE d) h css ls bs) (k : ∀ b o, h b = some o → h' b = some o) : KidsG (DirE d) h' css ls bs := t.agree (fun c x b t k => t.agree k) fun q _ => k q
theorem TreeF.mono {d : Nat} {h h' : J1} {v : Value} {ls : List (List Ta)} {bs : List Nat} (t : TreeF d h v ls bs) (k : ∀ b o, h b = some o → h' b = some o) : TreeF d h' v ls bs := by
  obtain ⟨css, b2, r, g, e⟩ := t; exact ⟨css, b2, r.mono fun b _ => k b, dirs_mono g k, e⟩
end Go.Proofs.YthljoadplekgnaaGreatDoor

namespace Go.Proofs.YthljoadplekgnaaGreatDoor
open Go Go.Vc Go.Md Go.M Go.Lx
inductive Pth (h : J1) (dv : Value) (ls : List (List Ta)) : List Nat → Addr → Value → List Ta → Prop
  | base {i : Nat} {a : Addr} (hi : i < ls.length) (ha : sa dv = some a) : Pth h dv ls [i] ⟨a.block, a.off + i * 1, none⟩ (Xd h dv 1 i 0) ls[i]
  | step {ks : List Nat} {a b : Addr} {u : Value} {l : List Ta} {n : Nat} (p : Pth h dv ls ks a u l) (hn : n < l.length) (hb : sa u = some b) : Pth h dv ls (ks ++ [n]) ⟨b.block, b.off + (n * 6 + 1 + 4), none⟩ (Xd h u 6 n 5) l[n].Value.kag
theorem Pth.frn {h : J1} {dv : Value} {ls : List (List Ta)} (f0 : FrN h 1 dv gs_tag_Entry ls) {ks : List Nat} {a : Addr} {u : Value} {l : List Ta} (p : Pth h dv ls ks a u l) : FrN h 6 u g_tag_Entry l := by
  induction p with
  | base hi ha => exact f0.el _ _ (List.getElem?_eq_getElem hi)
  | step p hn hb ih => exact Qm (g_tag_Entry_iff.1 (ih.el _ _ (List.getElem?_eq_getElem hn))).2
section
variable {cx : Cx} {e : X4} {d : Nat} {ty : TypeId} {pos : String} {af : Array Edge} {g : Option (Nat × Bool)}
theorem Pth.load {h : J1} {dv : Value} {ls : List (List Ta)} (f0 : FrN h 1 dv gs_tag_Entry ls) {ks : List Nat} {a : Addr} {u : Value} {l : List Ta} (p : Pth h dv ls ks a u l) {A : Operand} (hA : ev e A = .pointer (some a)) {w : World}
    (k : ∀ b o, h b = some o → w.heap[b]? = some o) : (execOp (ev e) ⟨some d, .load 24 A, ty, pos, af, g⟩).run Tryz.prog w = .ok (.value u) w := by
  cases p with
  | @base i a hi ha =>
    have hr := f0.frs.row k
    rw [ha] at hr
    exact Qw (f := elC h dv 1) (i := (i : Int)) (sz := 1) (j := 0) (k := i * 1) (a := some a) kbh hA (by simp) hr (f0.ix (Xa hi)) (Jea (Jan (f0.at (Xa hi))) rfl)
  | @step ks a b u l n p hn hb =>
    have f := p.frn f0
    have hr := f.frs.row k
    rw [hb] at hr
    exact Qw (f := elC h u 6) (i := (n : Int)) (sz := 6) (j := 5) (k := n * 6 + 1 + 4) (a := some b) kbh hA (by simp [Nat.add_assoc]) hr (f.ix (Xa hn)) (Jea (Yd (f.at (Xa hn))) rfl)
end
theorem getL_snoc : ∀ (ks : List Nat) (l : List Ta) (n : Nat) (hn : n < (Jcs ks l).length), Jcs (ks ++ [n]) l = (Jcs ks l)[n].Value.kag
  | [], l, n, hn => by
    have hn : n < l.length := hn
    show (match l[n]? with | some e => Jcs [] e.Value.kag | none => []) = _
    rw [List.getElem?_eq_getElem hn]; rfl
  | k :: ks, l, n, hn => by
    show (match l[k]? with | some e => Jcs (ks ++ [n]) e.Value.kag | none => []) = _
    have hn' : n < (match l[k]? with | some e => Jcs ks e.Value.kag | none => []).length := hn
    cases hk : l[k]? with
    | none => rw [hk] at hn'; exact absurd hn' (by simp)
    | some e =>
      rw [hk] at hn'
      have := getL_snoc ks e.Value.kag n hn'
      have e2 : Jcs (k :: ks) l = Jcs ks e.Value.kag := by
        show (match l[k]? with | some e => Jcs ks e.Value.kag | none => []) = _
        rw [hk]
      simp only [e2]
      exact this
theorem Pth.get {h : J1} {dv : Value} {ls : List (List Ta)} {ks : List Nat} {a : Addr} {u : Value} {l : List Ta} (p : Pth h dv ls ks a u l) : ∃ i r, ∃ hi : i < ls.length, ks = i :: r ∧ Jcs r ls[i] = l := by
  induction p with
  | @base i a hi ha => exact ⟨i, [], hi, rfl, rfl⟩
  | @step ks a b u l n p hn hb ih =>
    obtain ⟨i, r, hi, rfl, hg⟩ := ih
    subst hg
    exact ⟨i, r ++ [n], hi, rfl, getL_snoc r ls[i] n hn⟩
theorem Pth.getF {h : J1} {dv : Value} {ls : List (List Ta)} {ks : List Nat} {a : Addr} {u : Value} {l : List Ta} (p : Pth h dv ls ks a u l) : getF ks ls = l := by
  obtain ⟨i, r, hi, rfl, hg⟩ := p.get
  show (match ls[i]? with | some l => Jcs r l | none => []) = l
  rw [List.getElem?_eq_getElem hi]; exact hg
end Go.Proofs.YthljoadplekgnaaGreatDoor

namespace Go.Proofs.YthljoadplekgnaaGreatDoor
open Go Go.Vc Go.Md Go.M Go.Lx
set_option maxRecDepth 100000
set_option maxHeartbeats 4000000
theorem Jg4 {P : Program} {e : X4} {d : Option Nat} {ty : TypeId} {pos : String} {af : Array Edge} {g : Option (Nat × Bool)} {X I : Operand} {t u sz : Nat} {h : J1} {v : Value} {a : Addr} {α : Type} {f : α → List Value} {xs : List α} {x : α} {k : IntKind} {i : Int} (hu : P.underlying t = some (.slice u)) (hs : ∀ w, (sizeOf u).run P w = .ok sz w)
    (hx : ev e X = v) (hi : ev e I = .int k i) (hf : FrS h sz v (xs.map f)) (hg : Zb xs i = some x) (ha : sa v = some a) (w : World) :
    (execOp (ev e) ⟨d, .indexAddr t X I, ty, pos, af, g⟩).run P w = .ok (.value (.pointer (some ⟨a.block, a.off + i.toNat * sz, none⟩))) w := by
  rw [Xc hu hs hx hi hf hg w, ha]; rfl
theorem sa_some {h : J1} {sz : Nat} {v : Value} {xs : List (List Value)} (f : FrS h sz v xs) (hp : 0 < xs.length) : ∃ a, sa v = some a := by
  obtain ⟨a, c, rfl, _, _, r⟩ := f.out
  rcases r with r | ⟨b, off, cs, T, m, rfl, _⟩
  · rw [r] at hp; simp at hp
  · exact ⟨_, rfl⟩
abbrev DirR (h : J1) (dv : Value) (ls : List (List Ta)) (r : Option (List Nat)) (x : Value) : Prop := (r = none → x = .pointer none) ∧ ∀ ks, r = some ks → ∃ a u l, x = .pointer (some a) ∧ Pth h dv ls ks a u l
theorem k40_of {pb T : Nat} {big : Bool} {dv v1 : Value} {ls : List (List Ta)} {path : List Int} {r : Option (List Nat)} {w : World} {h hA hB : J1} (hw : Know h w Z0) (hwA : Know hA w Z0) (hwB : Know hB w Z0) (hb0 : hA pb = some (.cells [.bool big, dv].toArray T (0, 0))) (f0 : FrN h 1 dv gs_tag_Entry ls) (f1 : FrS hB 1 v1 (path.map J8)) (H : Jd6 ls path = some r) :
    Does Tryz.prog 40 (List.toArray [pz pb, v1]) w (fun v w' => (∃ x : Value, v = .tuple #[x, .bool r.isSome] ∧ DirR h dv ls r x) ∧ Grow w w') := by
 unfold Jd6 at H
 refine enter (n := 74) Tryz.func40 rfl rfl rfl Z0 [] (Sat.nil _ _) ?_
 refine Jc ?_
 refine Ja ?_
 refine Qi rfl rfl rfl (Jz (v := .pointer none) rfl) ?_
 refine Qi rfl rfl rfl (Jz (v := .bool false) rfl) ?_
 refine Jd ?_
 refine Jc ?_
 refine Jc ?_
 by_cases hlen : (path.length : Int) < 2
 ·have H1 := Uo (decide_eq_true hlen) H
  have hr : r = none := (Option.some.inj H1).symm
  exact Qk (Kd.p :: Kd.p :: Kd.p :: Kd.p :: Kd.p :: Kd.p :: Kd.d [] undef :: Kd.p :: Kd.p :: Kd.p :: Kd.d [] undef :: Kd.p :: Kd.p :: Kd.d [] undef :: Kd.p :: []) 0 mixed (by
   refine Qv rfl rfl (Xw (v := v1) rfl) ?_
   refine Qv rfl rfl (Yz kcr rfl f1 rfl) ?_
   refine Qv rfl rfl (X3 rfl rfl) ?_
   refine Qv rfl rfl (Xw (v := .bool (decide ((path.length : Int) < 2))) rfl) ?_
   refine Wu (fun hb => ?_) (fun hb => ?_)
   ·refine Jdh rfl rfl ?_
    refine Jdh rfl rfl ?_
    refine Jdh rfl rfl ?_
    refine Jdh rfl rfl ?_
    refine Jdh rfl rfl ?_
    refine Jdh rfl rfl ?_
    refine Jdh rfl rfl ?_
    refine Jdh rfl rfl ?_
    refine Jdh rfl rfl ?_
    refine Jdh rfl rfl ?_
    refine Qv rfl rfl (Xz (v := .bool true) rfl rfl) ?_
    refine Xr ?_
    refine Zl rfl ?_
    refine Jc ?_
    refine Ja ?_
    refine Qi rfl rfl rfl (Jz (v := .pointer none) rfl) ?_
    refine Qi rfl rfl rfl (Jz (v := .bool false) rfl) ?_
    refine Jd ?_
    refine Jm ?_
    exact U9 (v1 := .pointer none) (v2 := .bool false) rfl rfl rfl (finC (.pointer none) (by rw [hr]; rfl) ⟨fun _ => rfl, fun ks hk => by rw [hr] at hk; cases hk⟩)
   ·exact absurd hlen (of_decide_eq_false hb)
  ) (by kernel_rfl)
 ·have H2 := Us (decide_eq_false hlen) H
  obtain ⟨p0, h_p0, H3⟩ := Je H2
  obtain ⟨m0, h_m0, H4⟩ := Je H3
  obtain ⟨ob, h_ob, H5⟩ := Je H4
  exact Qk (Kd.p :: Kd.p :: Kd.p :: Kd.p :: Kd.p :: Kd.p :: Kd.d [] (.int .i64 p0) :: Kd.p :: Kd.p :: Kd.p :: Kd.d [] dv :: Kd.p :: Kd.p :: Kd.d [] (.bool ob) :: Kd.p :: []) 0 mixed (by
   refine Qv rfl rfl (Xw (v := v1) rfl) ?_
   refine Qv rfl rfl (Yz kcr rfl f1 rfl) ?_
   refine Qv rfl rfl (X3 rfl rfl) ?_
   refine Qv rfl rfl (Xw (v := .bool (decide ((path.length : Int) < 2))) rfl) ?_
   refine Wu (fun hb => ?_) (fun hb => ?_)
   ·exact absurd (of_decide_eq_true hb) hlen
   ·refine Qv rfl rfl (Xw (v := v1) rfl) ?_
    refine Qv rfl rfl (Xc kcr kcg rfl rfl f1 h_p0) ?_
    refine W2 (fun w hF => Qw (f := J8) (i := 0) (sz := 1) (j := 0) (v := .int .i64 p0) kbk rfl rfl (f1.row (hwB.now hF)) h_p0 rfl) rfl rfl ?_
    refine Qv rfl rfl (Xw (v := pz pb) rfl) ?_
    refine Qv rfl rfl (Jg rfl) ?_
    refine Qv rfl rfl (J2 Tryz.runUnderlying34 rfl kch rfl rfl) ?_
    refine W2 (fun w hF => Zr (v := dv) kbl rfl (hwA.now hF _ _ hb0) rfl) rfl rfl ?_
    refine Qv rfl rfl (Z2 kcu rfl f0) ?_
    refine Qv rfl rfl (Zs rfl rfl h_m0) ?_
    refine Ja9 (k72 h_ob) Tryz.call72 rfl rfl ?_
    refine Qv rfl rfl (Z1 (v := .bool ob) rfl rfl) ?_
    refine Xr ?_
    refine c_if (b := ob) rfl (fun hb => ?_) (fun hb => ?_)
    ·have H6 := Uo hb H5
     have hr : r = none := (Option.some.inj H6).symm
     refine Jc ?_
     refine Ja ?_
     refine Qi rfl rfl rfl (Jz (v := .pointer none) rfl) ?_
     refine Qi rfl rfl rfl (Jz (v := .bool false) rfl) ?_
     refine Jd ?_
     refine Jm ?_
     exact U9 (v1 := .pointer none) (v2 := .bool false) rfl rfl rfl (finC (.pointer none) (by rw [hr]; rfl) ⟨fun _ => rfl, fun ks hk => by rw [hr] at hk; cases hk⟩)
    ·have H6 := Us hb H5
     obtain ⟨l0, h_l0, H7⟩ := Je H6
     obtain ⟨q, h_q, H8⟩ := Je H7
     obtain ⟨ts, h_ts, H9⟩ := Je H8
     obtain ⟨hp0, hp1, hpe⟩ := W8 h_l0
     obtain ⟨a0, ha0⟩ := sa_some f0.frs (by rw [List.length_map, List.length_range]; omega)
     have hbase : Pth h dv ls [p0.toNat] ⟨a0.block, a0.off + p0.toNat * 1, none⟩ (Xd h dv 1 p0.toNat 0) l0 := by
      have := Pth.base (h := h) (dv := dv) (ls := ls) (i := p0.toNat) (a := a0) (by omega) ha0
      rw [List.getElem?_eq_getElem (by omega)] at hpe
      rwa [Option.some.inj hpe] at this
     refine Jj ?_
     refine Jc ?_
     exact Qk (Kd.p :: Kd.p :: Kd.p :: Kd.d [] dv :: Kd.p :: Kd.p :: Kd.d [] (.int .i64 p0) :: Kd.p :: Kd.p :: []) 0 mixed (by
      refine Qv rfl rfl (Xw (v := pz pb) rfl) ?_
      refine Qv rfl rfl (Jg rfl) ?_
      refine Qv rfl rfl (J2 Tryz.runUnderlying34 rfl kch rfl rfl) ?_
      refine W2 (fun w hF => Zr (v := dv) kbl rfl (hwA.now hF _ _ hb0) rfl) rfl rfl ?_
      refine Qv rfl rfl (Xw (v := v1) rfl) ?_
      refine Qv rfl rfl (Xc kcr kcg rfl rfl f1 h_p0) ?_
      refine W2 (fun w hF => Qw (f := J8) (i := 0) (sz := 1) (j := 0) (v := .int .i64 p0) kbk rfl rfl (f1.row (hwB.now hF)) h_p0 rfl) rfl rfl ?_
      refine Qv rfl rfl (Jg4 kcu kcd rfl rfl f0.frs (f0.ix h_l0) ha0) ?_
      refine Qv rfl rfl (Jz (v := .pointer (some ⟨a0.block, a0.off + p0.toNat * 1, none⟩)) rfl) ?_
      refine Xr ?_
      refine Jc ?_
      refine Jc ?_
      refine Ja ?_
      refine Qi rfl rfl rfl (Xw (v := v1) rfl) ?_
      refine Qi rfl rfl rfl (Xw (v := v1) rfl) ?_
      refine Qi rfl rfl rfl (Yz kcr rfl f1 rfl) ?_
      refine Qi rfl rfl rfl (Zs rfl rfl h_q) ?_
      refine Qi rfl rfl rfl (r_sliceLHF kcr kcg rfl rfl rfl f1 h_ts) ?_
      refine Qi rfl rfl rfl (Yz kcr rfl (f1.cut h_ts) rfl) ?_
      refine Qi rfl rfl rfl (Xw (v := .int .i64 0) rfl) ?_
      refine Jd ?_
      refine Jx ?_
      have f2 := f1.cut h_ts
      refine Za (σ := Nat) (τ := Addr × Value × List Ta × List Nat) (cntB ts.length) (fun s t => [(6, .pointer (some t.1)), (38, cutV 1 v1 1 q), (39, .int .i64 (ts.length : Int)), (40, .int .i64 (s : Int))]) (fun s t => [])
       (fun s t => s ≤ ts.length ∧ Pth h dv ls t.2.2.2 t.1 t.2.1 t.2.2.1 ∧ Js (U0 t.2.2.1 (ts.drop s)) (fun z => some (z.map (t.2.2.2 ++ ·))) = some r) 0 (⟨a0.block, a0.off + p0.toNat * 1, none⟩, Xd h dv 1 p0.toNat 0, l0, [p0.toNat]) [] (cnt_fix _) ⟨Nat.zero_le _, hbase, H9⟩ (by exact ⟨rfl, rfl, rfl, rfl, trivial⟩) (by decide) rfl ?_
      rintro i ⟨a, u, l, ks⟩ m gg Hc ⟨hin, hP, HG⟩
      try dsimp only at hin hP HG ⊢
      have fl := hP.frn f0
      refine Jc ?_
      refine Ja ?_
      refine Qi rfl rfl rfl (X3 rfl rfl) ?_
      refine Jd ?_
      refine Jc ?_
      refine c_if (b := (decide ((i : Int) < (ts.length : Int)))) rfl (fun hb => ?_) (fun hb => ?_)
      ·have hi : i < ts.length := by have := of_decide_eq_true hb; omega
       have hat : Zb ts (i : Int) = some ts[i] := Xa hi
       rw [List.drop_eq_getElem_cons hi] at HG
       unfold U0 at HG
       obtain ⟨z, HG1, HG2⟩ := Je HG
       obtain ⟨⟨n, ok⟩, h_pl, HG3⟩ := Je HG1
       refine Jj ?_
       refine Jc ?_
       refine Jx ?_
       refine Jc ?_
       refine Ja ?_
       refine Qi rfl rfl rfl (Xc kcr kcg rfl rfl f2 hat) ?_
       refine Xs (fun w hF hS => Qw (f := J8) (i := (i : Int)) (sz := 1) (j := 0) (v := .int .i64 ts[i]) kbk rfl rfl (f2.row (hwB.now hF)) hat rfl) rfl rfl rfl ?_
       refine Qi rfl rfl rfl (Jz (v := .int .i64 ts[i]) rfl) ?_
       refine Jd ?_
       refine Jc ?_
       refine Ja ?_
       refine Qi rfl rfl rfl (Xw (v := .pointer (some a)) rfl) ?_
       refine Qi rfl rfl rfl (Jg rfl) ?_
       refine Xs (fun w hF hS => hP.load f0 rfl (hw.now hF)) rfl rfl rfl ?_
       refine Qi rfl rfl rfl (Xw (v := .int .i64 ts[i]) rfl) ?_
       refine Qb (fun w hF hS => k41 (Jq w) (fl.mono (hw.now hF)) h_pl) Tryz.call41 rfl rfl rfl ?_
       refine Qi rfl rfl rfl (Xw (v := .tuple #[.int .i64 n, .bool ok]) rfl) ?_
       refine Qi rfl rfl rfl (J9 (v := .int .i64 n) rfl rfl) ?_
       refine Qi rfl rfl rfl (J9 (v := .bool ok) rfl rfl) ?_
       refine Qi rfl rfl rfl (Jz (v := .int .i64 n) rfl) ?_
       refine Qi rfl rfl rfl (Jz (v := .bool ok) rfl) ?_
       refine Jd ?_
       refine Jc ?_
       refine Jc ?_
       refine Ja ?_
       refine Qi rfl rfl rfl (Xw (v := .bool ok) rfl) ?_
       refine Qi rfl rfl rfl (Ja6 rfl) ?_
       refine Qi rfl rfl rfl (Xw (v := .bool (!ok)) rfl) ?_
       cases ok with
       | false =>
        have hz : z = none := (Option.some.inj HG3).symm
        have hr : r = none := by rw [hz] at HG2; exact (Option.some.inj HG2).symm
        refine Jba rfl rfl rfl ?_
        refine Jba rfl rfl rfl ?_
        refine Jba rfl rfl rfl ?_
        refine Jba rfl rfl rfl ?_
        refine Jba rfl rfl rfl ?_
        refine Jba rfl rfl rfl ?_
        refine Jba rfl rfl rfl ?_
        refine Jba rfl rfl rfl ?_
        refine Jba rfl rfl rfl ?_
        refine Qi rfl rfl rfl (Xz (v := .bool true) rfl rfl) ?_
        refine Jd ?_
        refine Zl rfl ?_
        refine Jc ?_
        refine Ja ?_
        refine Qi rfl rfl rfl (Jz (v := .pointer none) rfl) ?_
        refine Qi rfl rfl rfl (Jz (v := .bool false) rfl) ?_
        refine Jd ?_
        refine Jm ?_
        exact U9 (v1 := .pointer none) (v2 := .bool false) rfl rfl rfl (finC (.pointer none) (by rw [hr]; rfl) ⟨fun _ => rfl, fun ks hk => by rw [hr] at hk; cases hk⟩)
       | true =>
        have HG4 : Js (Zb l n) (fun e => Qe (decide (e.Value.kai ≠ 13)) (some none) (Js (U0 e.Value.kag (ts.drop (i + 1))) fun r => some (r.map (n.toNat :: ·)))) = some z := HG3
        obtain ⟨x, h_x, HG5⟩ := Je HG4
        obtain ⟨hn0, hn1, hne⟩ := W8 h_x
        obtain ⟨b, hb2⟩ := sa_some fl.frs (by rw [List.length_map, List.length_range]; omega)
        refine Qi rfl rfl rfl (Xw (v := .pointer (some a)) rfl) ?_
        refine Qi rfl rfl rfl (Jg rfl) ?_
        refine Xs (fun w hF hS => hP.load f0 rfl (hw.now hF)) rfl rfl rfl ?_
        refine Qi rfl rfl rfl (Xw (v := .int .i64 n) rfl) ?_
        refine Qi rfl rfl rfl (Jg4 kct kco rfl rfl fl.frs (fl.ix h_x) hb2) ?_
        refine Qi rfl rfl rfl (J2 Tryz.runUnderlying95 rfl kce rfl rfl) ?_
        refine Qi rfl rfl rfl (J2 Tryz.runUnderlying26 rfl kcg rfl rfl) ?_
        refine Xs (fun w hF hS => Qw (f := elC h u 6) (i := n) (sz := 6) (j := 1) (k := n.toNat * 6 + 1) (a := some b) (v := .int .i64 x.Value.kai) kbk (by simp [Jbt, Nat.add_assoc, upd, ev]) rfl (by rw [← hb2]; exact fl.frs.row (hw.now hF)) (fl.ix h_x) (Jea (Yd (fl.at h_x)) rfl)) rfl rfl rfl ?_
        refine Qi rfl rfl rfl (Yv rfl rfl) ?_
        refine Qi rfl rfl rfl (Z1 (v := .bool (decide (x.Value.kai ≠ 13))) rfl rfl) ?_
        refine Jd ?_
        refine c_if (b := decide (x.Value.kai ≠ 13)) rfl (fun hk => ?_) (fun hk => ?_)
        ·have HG6 := Uo hk HG5
         have hz : z = none := (Option.some.inj HG6).symm
         have hr : r = none := by rw [hz] at HG2; exact (Option.some.inj HG2).symm
         refine Jc ?_
         refine Ja ?_
         refine Qi rfl rfl rfl (Jz (v := .pointer none) rfl) ?_
         refine Qi rfl rfl rfl (Jz (v := .bool false) rfl) ?_
         refine Jd ?_
         refine Jm ?_
         exact U9 (v1 := .pointer none) (v2 := .bool false) rfl rfl rfl (finC (.pointer none) (by rw [hr]; rfl) ⟨fun _ => rfl, fun ks hk => by rw [hr] at hk; cases hk⟩)
        ·have HG6 := Us hk HG5
         obtain ⟨z2, h_z2, HG7⟩ := Je HG6
         have hz : z = z2.map (n.toNat :: ·) := (Option.some.inj HG7).symm
         have hnx : l[n.toNat]'(by omega) = x := by rw [List.getElem?_eq_getElem (by omega)] at hne; exact Option.some.inj hne
         have hP2 := hP.step (n := n.toNat) (by omega) hb2
         rw [hnx] at hP2
         refine Jj ?_
         refine Ja ?_
         refine Qi rfl rfl rfl (Xw (v := .pointer (some a)) rfl) ?_
         refine Qi rfl rfl rfl (Jg rfl) ?_
         refine Xs (fun w hF hS => hP.load f0 rfl (hw.now hF)) rfl rfl rfl ?_
         refine Qi rfl rfl rfl (Xw (v := .int .i64 n) rfl) ?_
         refine Qi rfl rfl rfl (Jg4 kct kco rfl rfl fl.frs (fl.ix h_x) hb2) ?_
         refine Qi rfl rfl rfl (J2 Tryz.runUnderlying95 rfl kce rfl rfl) ?_
         refine Qi rfl rfl rfl (J2 Tryz.runUnderlying26 rfl kcd rfl rfl) ?_
         refine Qi rfl rfl rfl (Jz (v := .pointer (some ⟨b.block, b.off + n.toNat * 6 + 1 + 4, none⟩)) rfl) ?_
         refine Jd ?_
         refine Ja ?_
         refine Qi rfl rfl rfl (Jy rfl rfl (Ju (by have := f2.len; simp only [List.length_map] at this; omega))) ?_
         refine Qi rfl rfl rfl (Xw (v := .int .i64 ((i : Int) + 1)) rfl) ?_
         refine Jd ?_
         refine c_close (i + 1) (⟨b.block, b.off + (n.toNat * 6 + 1 + 4), none⟩, Xd h u 6 n.toNat 5, x.Value.kag, ks ++ [n.toNat]) m [] (by exact ⟨rfl, rfl, rfl, rfl, trivial⟩) (by decide) rfl (by
           refine ⟨cnt_step Hc hi, hi, hP2, ?_⟩
           show Js (U0 x.Value.kag (ts.drop (i + 1))) _ = _
           rw [h_z2, Jb, ← HG2, hz]
           congr 1
           cases z2 <;> simp) (Nat.lt_succ_self _)
      ·have hi : i = ts.length := by have := of_decide_eq_false hb; omega
       rw [List.drop_eq_nil_of_le (by omega)] at HG
       have hr : r = some ks := by
        have : some (some (ks ++ ([] : List Nat))) = some r := HG
        rw [List.append_nil] at this; exact (Option.some.inj this).symm
       refine Xj ?_
       refine Jc ?_
       refine Ja ?_
       refine Qi rfl rfl rfl (Xw (v := .pointer (some a)) rfl) ?_
       refine Qi rfl rfl rfl (Jz (v := .pointer (some a)) rfl) ?_
       refine Qi rfl rfl rfl (Jz (v := .bool true) rfl) ?_
       refine Jd ?_
       refine Jm ?_
       exact U9 (v1 := .pointer (some a)) (v2 := .bool true) rfl rfl rfl (finC (.pointer (some a)) (by rw [hr]; rfl) ⟨fun h => (by rw [hr] at h; cases h), fun ks' hk => (by rw [hr] at hk; cases hk; exact ⟨a, u, l, rfl, hP⟩)⟩)
     ) (by kernel_rfl)
  ) (by kernel_rfl)
end Go.Proofs.YthljoadplekgnaaGreatDoor

namespace Go.Proofs.YthljoadplekgnaaGreatDoor
open Go Go.Vc Go.Md Go.M Go.Lx
set_option maxRecDepth 100000
set_option maxHeartbeats 4000000
theorem imp_pooledE {Φ : J1 → Prop} (h : Φ Q9) : Imp empC (Jer Q9 Φ) := ⟨fun S w k => ⟨Q9, h, Zc, fun b o hb => by cases hb⟩⟩
abbrev valP (v3 v4 v5 : Value) (x : Te) (hp : J1) : Prop := FrS hp 1 v3 (x.kak.map J8) ∧ FrS hp 2 v4 (x.kah.map Jl) ∧ FrN hp 6 v5 g_tag_Entry x.kag
theorem imp_ownP {Φ : J1 → List Nat → Prop} {Ψ : J1 → Prop} (k : ∀ h bs, Φ h bs → Ψ h) : Imp (ownC Φ) (Jer Q9 Ψ) := ⟨fun _ _ ⟨hp, ⟨bs, h1, h2⟩, h3⟩ => ⟨hp, k _ _ h1, h3⟩⟩
theorem imp_valP {d : Nat} {v3 v4 v5 : Value} {x : Te} :
    Imp (Jw (roV 1 v3 x.kak.length (x.kak.map J8)) (Jw (roV 2 v4 x.kah.length (x.kah.map Jl)) (Jga d v5 x.kag))) (Jer Q9 (valP v3 v4 v5 x)) :=
  Jfp (imp_kid (x := ⟨0, x⟩)) (imp_ownP fun h bs t => by
    obtain ⟨w3, w4, w5, b5, e, e3, e4, e5, _⟩ := t
    simp only [List.cons.injEq, and_true, true_and] at e
    obtain ⟨rfl, rfl, rfl⟩ := e
    exact ⟨e3, e4, e5.frn⟩)
theorem valP_nil : valP (z0s) (z0s) (z0s) noV Q9 := ⟨FrS.nil _ _, FrS.nil _ _, ⟨FrS.nil _ _, fun i x hx => by cases hx⟩⟩
theorem k11 {a0 : Th} {v0_1 : Value} {a1 : List Int} {v1 : Value} {r : Te × Int} {w : World} {h : J1} (hw : Know h w Z0) (f0_1 : FrN h 1 v0_1 gs_tag_Entry a0.kap) (f1 : FrS h 1 v1 (a1.map J8)) (H : Jg8 a0 a1 = some r) :
    Does Tryz.prog 11 (List.toArray [.agg #[.bool a0.Big, v0_1], v1]) w (fun v w' => ∃ x : (Option Addr × Nat) × (Option Addr × Nat) × (Option Addr × Nat), v = (.tuple #[.agg #[.int .i64 r.1.kai, str r.1.kaj, .slice x.1.1 r.1.kak.length x.1.2, .slice x.2.1.1 r.1.kah.length x.2.1.2, .slice x.2.2.1 r.1.kag.length x.2.2.2], .int .i64 r.2]) ∧
      Turn w w' Z0 (Jer Q9 (valP (.slice x.1.1 r.1.kak.length x.1.2) (.slice x.2.1.1 r.1.kah.length x.2.1.2) (.slice x.2.2.1 r.1.kag.length x.2.2.2) r.1))) := by
 unfold Jg8 at H
 refine enter (n := 48) Tryz.func11 rfl rfl rfl Z0 [] (Sat.nil _ _) ?_
 refine Jc ?_
 refine Ja ?_
 refine W1 (cs := [.bool a0.Big, v0_1]) rfl rfl rfl rfl (fun b0 => ?_)
 refine Xx (cs := [.int .i64 0, str [], z0s, z0s, z0s]) Tryz.zeroValue26 rfl rfl rfl (fun b1 => ?_)
 refine Qi rfl rfl rfl (Jz (v := .int .i64 0) rfl) ?_
 refine Jd ?_
 refine Jc ?_
 refine Jc ?_
 refine Ja ?_
 refine Xb (i := 0) (vs := [.bool a0.Big, v0_1]) kbm kci rfl rfl rfl rfl rfl ?_
 obtain ⟨t11, h_t11, H1⟩ := Je H
 refine Qb (fun w hF hS => k36 (Jq w) (f0_1.mono (hw.now hF)) h_t11) Tryz.call36 rfl rfl rfl ?_
 refine Qi rfl rfl rfl (Jz (v := .int .i64 t11) rfl) ?_
 refine Jd ?_
 refine Jc ?_
 refine Ja ?_
 refine Qi rfl rfl rfl (Xw (v := .int .i64 t11) rfl) ?_
 refine Qi rfl rfl rfl (Yv rfl rfl) ?_
 refine Jd ?_
 have err : ∀ {t : Int} {e : X4} {fn : Func}, fn.results = #[.cell 4 26, .tmp 5] → r = (noV, t) → e 4 = pz b1 → e 5 = .int .i64 t → At ⟨w, Z0⟩ (Jfl Tryz.prog fn (fun v w' => ∃ x : (Option Addr × Nat) × (Option Addr × Nat) × (Option Addr × Nat), v = (.tuple #[.agg #[.int .i64 r.1.kai, str r.1.kaj, .slice x.1.1 r.1.kak.length x.1.2, .slice x.2.1.1 r.1.kah.length x.2.1.2, .slice x.2.2.1 r.1.kag.length x.2.2.2], .int .i64 r.2]) ∧
      Turn w w' Z0 (Jer Q9 (valP (.slice x.1.1 r.1.kak.length x.1.2) (.slice x.2.1.1 r.1.kah.length x.2.1.2) (.slice x.2.2.1 r.1.kag.length x.2.2.2) r.1))) .ret) e [Jf b0 [.bool a0.Big, v0_1] 34, Jf b1 [.int .i64 0, str [], z0s, z0s, z0s] 26] := fun hfn hr h4 h5 => by
   subst hr
   refine c_emp ?_
   refine Xv 2 rfl (imp_pooledE valP_nil) ?_
   exact Jad (i := 1) (vs := [.int .i64 0, str [], z0s, z0s, z0s]) (v2 := .int .i64 _) kbi kce hfn h4 rfl rfl h5 (Y0 (((none, 0) : Option Addr × Nat), ((none, 0) : Option Addr × Nat), ((none, 0) : Option Addr × Nat)) (i := 2) rfl rfl (Imp.refl _))
 refine c_if (b := (decide (t11 ≠ 0))) rfl (fun hb => ?_) (fun hb => ?_)
 ·have H2 := Uo hb H1
  refine Jc ?_
  refine Ja ?_
  refine Qi rfl rfl rfl (Xf (pl := #[(0, 1), (1, 1), (2, 1), (3, 1), (4, 1)]) (ps := []) (cells := #[.int .i64 0, str [], z0s, z0s, z0s]) Tryz.zeroValue26 Tryz.runUnderlying26 (fun w => by kernel_rfl) rfl rfl) ?_
  refine Qi rfl rfl rfl (Xw (v := .int .i64 t11) rfl) ?_
  refine Wz (i := 1) (vs := [.int .i64 0, str [], z0s, z0s, z0s]) (cs' := [.int .i64 0, str [], z0s, z0s, z0s]) kce rfl rfl rfl rfl rfl rfl rfl rfl rfl ?_
  refine Qi rfl rfl rfl (Jz (v := .int .i64 t11) rfl) ?_
  refine Jd ?_
  refine Jm ?_
  refine err ?_ (Option.some.inj H2).symm ?_ ?_ <;> rfl
 ·have H3 := Us hb H1
  obtain ⟨z, h_z, H4⟩ := Je H3
  refine Jj ?_
  refine Jc ?_
  refine Ja ?_
  refine Qi rfl rfl rfl (Xw (v := v1) rfl) ?_
  refine l_callC (σ := Value) (G := fun x => .tuple #[x, .bool z.isSome]) (Φ := DirR h v0_1 a0.kap z) (fun w hF hS => k40_of (hw.at hF) (Jq w) (hw.at hF) (Ql (i := 0) hS rfl) f0_1 f1 h_z) Tryz.call40 rfl rfl rfl (fun pv hpv => ?_)
  refine Qi rfl rfl rfl (Xw (v := .tuple #[pv, .bool z.isSome]) rfl) ?_
  refine Qi rfl rfl rfl (J9 (v := pv) rfl rfl) ?_
  refine Qi rfl rfl rfl (J9 (v := .bool z.isSome) rfl rfl) ?_
  refine Qi rfl rfl rfl (Jz (v := pv) rfl) ?_
  refine Qi rfl rfl rfl (Jz (v := .bool z.isSome) rfl) ?_
  refine Jd ?_
  refine Jc ?_
  refine Jc ?_
  refine Ja ?_
  refine Qi rfl rfl rfl (Xw (v := .bool z.isSome) rfl) ?_
  refine Qi rfl rfl rfl (Ja6 rfl) ?_
  refine Jd ?_
  cases z with
  | none =>
   refine Zl rfl ?_
   refine Jc ?_
   refine Ja ?_
   refine Qi rfl rfl rfl (Xf (pl := #[(0, 1), (1, 1), (2, 1), (3, 1), (4, 1)]) (ps := []) (cells := #[.int .i64 0, str [], z0s, z0s, z0s]) Tryz.zeroValue26 Tryz.runUnderlying26 (fun w => by kernel_rfl) rfl rfl) ?_
   refine Wz (i := 1) (vs := [.int .i64 0, str [], z0s, z0s, z0s]) (cs' := [.int .i64 0, str [], z0s, z0s, z0s]) kce rfl rfl rfl rfl rfl rfl rfl rfl rfl ?_
   refine Qi rfl rfl rfl (Jz (v := .int .i64 7) rfl) ?_
   refine Jd ?_
   refine Jm ?_
   refine err ?_ (Option.some.inj H4).symm ?_ ?_ <;> rfl
  | some ks =>
   obtain ⟨a, u, l, rfl, hP⟩ := hpv.2 ks rfl
   have hl : getF ks a0.kap = l := hP.getF
   have fl := hP.frn f0_1
   obtain ⟨q, h_q, H5⟩ := Je H4
   obtain ⟨t, h_t, H6⟩ := Je H5
   rw [hl] at H6
   obtain ⟨⟨n, ok⟩, h_pl, H7⟩ := Je H6
   refine Zz rfl ?_
   refine Jj ?_
   refine Jc ?_
   exact Qk (Kd.p :: Kd.p :: Kd.d [] u :: Kd.p :: Kd.p :: Kd.p :: Kd.p :: Kd.p :: Kd.d [] (.int .i64 t) :: Kd.d [] (.tuple #[.int .i64 n, .bool ok]) :: Kd.p :: Kd.p :: Kd.p :: Kd.p :: Kd.p :: []) 0 mixed (by
    refine Qv rfl rfl (Xw (v := .pointer (some a)) rfl) ?_
    refine Qv rfl rfl (Jg rfl) ?_
    refine W2 (fun w hF => hP.load f0_1 rfl (hw.now hF)) rfl rfl ?_
    refine Qv rfl rfl (Xw (v := v1) rfl) ?_
    refine Qv rfl rfl (Xw (v := v1) rfl) ?_
    refine Qv rfl rfl (Yz kcr rfl f1 rfl) ?_
    refine Qv rfl rfl (Zs rfl rfl h_q) ?_
    refine Qv rfl rfl (Xc kcr kcg rfl rfl f1 h_t) ?_
    refine W2 (fun w hF => Qw (f := J8) (i := q) (sz := 1) (j := 0) (v := .int .i64 t) kbk rfl rfl (f1.row (hw.now hF)) h_t rfl) rfl rfl ?_
    refine Jar (fun w L' hF hS hi => k41 (Jq w) (fl.mono (hw.now hF)) h_pl) Tryz.call41 rfl rfl ?_
    refine Qv rfl rfl (Xw (v := .tuple #[.int .i64 n, .bool ok]) rfl) ?_
    refine Qv rfl rfl (J9 (v := .int .i64 n) rfl rfl) ?_
    refine Qv rfl rfl (J9 (v := .bool ok) rfl rfl) ?_
    refine Qv rfl rfl (Jz (v := .int .i64 n) rfl) ?_
    refine Qv rfl rfl (Jz (v := .bool ok) rfl) ?_
    refine Xr ?_
    refine Jc ?_
    refine Jc ?_
    refine Ja ?_
    refine Qi rfl rfl rfl (Xw (v := .bool ok) rfl) ?_
    refine Qi rfl rfl rfl (Ja6 rfl) ?_
    refine Jd ?_
    cases ok with
    | false =>
     refine Zl rfl ?_
     refine Jc ?_
     refine Ja ?_
     refine Qi rfl rfl rfl (Xf (pl := #[(0, 1), (1, 1), (2, 1), (3, 1), (4, 1)]) (ps := []) (cells := #[.int .i64 0, str [], z0s, z0s, z0s]) Tryz.zeroValue26 Tryz.runUnderlying26 (fun w => by kernel_rfl) rfl rfl) ?_
     refine Wz (i := 1) (vs := [.int .i64 0, str [], z0s, z0s, z0s]) (cs' := [.int .i64 0, str [], z0s, z0s, z0s]) kce rfl rfl rfl rfl rfl rfl rfl rfl rfl ?_
     refine Qi rfl rfl rfl (Jz (v := .int .i64 7) rfl) ?_
     refine Jd ?_
     refine Jm ?_
     refine err ?_ (Option.some.inj H7).symm ?_ ?_ <;> rfl
    | true =>
     have H8 : Js (Zb l n) (fun e => open Classical in if fitV 8 e.Value then some (e.Value, 0) else none) = some r := H7
     obtain ⟨x, h_x, H9⟩ := Je H8
     have hfit : fitV 8 x.Value := Classical.byContradiction fun hh => by rw [if_neg hh] at H9; cases H9
     rw [if_pos hfit] at H9
     obtain rfl := Option.some.inj H9
     obtain ⟨hn0, hn1, hne⟩ := W8 h_x
     obtain ⟨b, hb2⟩ := sa_some fl.frs (by rw [List.length_map, List.length_range]; omega)
     obtain ⟨q0, q1⟩ := g_tag_Entry_iff.1 (fl.at h_x)
     refine Zz rfl ?_
     refine Jj ?_
     refine Jc ?_
     refine Ja ?_
     refine Qi rfl rfl rfl (Xw (v := .pointer (some a)) rfl) ?_
     refine Qi rfl rfl rfl (Jg rfl) ?_
     refine Xs (fun w hF hS => hP.load f0_1 rfl (hw.now hF)) rfl rfl rfl ?_
     refine Qi rfl rfl rfl (Xw (v := .int .i64 n) rfl) ?_
     refine Qi rfl rfl rfl (Jg4 kct kco rfl rfl fl.frs (fl.ix h_x) hb2) ?_
     refine Qi rfl rfl rfl (J2 Tryz.runUnderlying95 rfl kce rfl rfl) ?_
     refine Xs (fun w hF hS => Z5 (f := elC h u 6) (i := n) (sz := 6) (j := 1) (k := n.toNat * 6 + 1) (a := some b) (vs := [.int .i64 x.Value.kai, str x.Value.kaj, Xd h u 6 n.toNat 3, Xd h u 6 n.toNat 4, Xd h u 6 n.toNat 5]) kbi kce rfl rfl (by rw [← hb2]; exact fl.frs.row (hw.now hF)) (fl.ix h_x) (rd_of (Yd (fl.at h_x)) rfl)) rfl rfl rfl ?_
     refine V8 (Yy (rds := []) (G := fun y : (Option Addr × Nat) × (Option Addr × Nat) × (Option Addr × Nat) => (.agg #[.int .i64 x.Value.kai, str x.Value.kaj, .slice y.1.1 x.Value.kak.length y.1.2, .slice y.2.1.1 x.Value.kah.length y.2.1.2, .slice y.2.2.1 x.Value.kag.length y.2.2.2])) (C := fun y : (Option Addr × Nat) × (Option Addr × Nat) × (Option Addr × Nat) => (Jw (roV 1 (.slice y.1.1 x.Value.kak.length y.1.2) x.Value.kak.length (x.Value.kak.map J8)) (Jw (roV 2 (.slice y.2.1.1 x.Value.kah.length y.2.1.2) x.Value.kah.length (x.Value.kah.map Jl)) (Jga 8 (.slice y.2.2.1 x.Value.kag.length y.2.2.2) x.Value.kag)))) (fun w L' hF hS hi' => k42_of (k81_all 8) (Jq w) ((show FrS h 1 (Xd h u 6 n.toNat 3) (x.Value.kak.map J8) from Q0 q1).mono (hw.now hF)) ((show FrS h 2 (Xd h u 6 n.toNat 4) (x.Value.kah.map Jl) from Q1 q1).mono (hw.now hF)) ((show FrN h 6 (Xd h u 6 n.toNat 5) g_tag_Entry x.Value.kag from Qm q1).mono (hw.now hF)) hfit) Tryz.call42 rfl) rfl rfl rfl (fun ⟨p3, p4, p5⟩ => ?_)
     refine Wz (i := 1) (vs := [.int .i64 x.Value.kai, str x.Value.kaj, .slice p3.1 x.Value.kak.length p3.2, .slice p4.1 x.Value.kah.length p4.2, .slice p5.1 x.Value.kag.length p5.2]) (cs' := [.int .i64 x.Value.kai, str x.Value.kaj, .slice p3.1 x.Value.kak.length p3.2, .slice p4.1 x.Value.kah.length p4.2, .slice p5.1 x.Value.kag.length p5.2]) kce rfl rfl rfl rfl rfl rfl rfl rfl rfl ?_
     refine Qi rfl rfl rfl (Jz (v := .int .i64 0) rfl) ?_
     refine Jd ?_
     refine Jm ?_
     refine Xv 2 rfl imp_valP ?_
     exact Jad (i := 1) (vs := [.int .i64 x.Value.kai, str x.Value.kaj, .slice p3.1 x.Value.kak.length p3.2, .slice p4.1 x.Value.kah.length p4.2, .slice p5.1 x.Value.kag.length p5.2]) (v2 := .int .i64 0) kbi kce rfl rfl rfl rfl rfl (Y0 (p3, p4, p5) (i := 2) rfl rfl (Imp.refl _))
   ) (by kernel_rfl)
end Go.Proofs.YthljoadplekgnaaGreatDoor

namespace Go.Proofs.YthljoadplekgnaaGreatDoor
open Go Go.Vc Go.Md Go.M Go.Lx Tryz
set_option maxRecDepth 100000
set_option maxHeartbeats 4000000
theorem k4 {a0 : (List UInt8)} {a1 : (List Int)} {v1 : Value} {a2 : Te} {v2_2 : Value} {v2_3 : Value} {v2_4 : Value} {r : (List UInt8) × Int} {w : World} {h : J1} (hw : Know h w Z0) (f1 : FrS h 1 v1 (a1.map J8)) (f2_2 : FrS h 1 v2_2 (a2.kak.map J8)) (f2_3 : FrS h 2 v2_3 (a2.kah.map Jl)) (f2_4 : FrN h 6 v2_4 g_tag_Entry a2.kag) (H : Jf5 a0 a1 a2 = some r) : Does prog 4 (List.toArray [str a0, v1, .agg #[i6 a2.kai, str a2.kaj, v2_2, v2_3, v2_4]]) w (fun v w' => v = (.tuple #[str r.1, i6 r.2]) ∧ Grow w w') := by
 refine enter (n := 158) func4 rfl rfl rfl Z0 [] (Sat.nil _ _)<|X8 Q9<|Jc<|Ja<|?_
 refine W1 (cs := [v1]) rfl rfl rfl f1.cells (fun b7 => ?_)
 refine W1 (cs := [i6 a2.kai, str a2.kaj, v2_2, v2_3, v2_4]) rfl rfl rfl rfl (fun b8 => ?_)
 refine ag (str [])<|ag (i6 0)<|Jd<|Jc<|?_
 try dsimp only [z1,z2,z5,z6,z7,z8]
 refine Ja ?_
 refine Xx (cs := [i6 0]) zeroValue3 rfl rfl rfl (fun b9 => ?_)
 refine st (i := 3) [i6 (-1)] [i6 (-1)] kcg rfl rfl<|Jd<|Jc<|?_
 try dsimp only [z1,z2,z5,z6,z7,z8]
 refine Ja<|mv (str a0)<|lv (r_makeFn (caps := #[pz b7, pz b9]) rfl)<|?_
 obtain ⟨t22, h_t22, H48⟩ := Je H; clear H
 refine Qh (Jv (i := 3) (rds := [1]) rfl (fun w L' S hF hS hi hp hlt ho hA => k7c hp hlt (J7 w S) (f1.mono (hw.but hF ho)) (cell_but (j := 1) hA hS (by decide) ((hi 1 (by simp)).trans rfl)) h_t22) call7 rfl) rfl rfl rfl (fun ⟨p, p_2⟩ => ?_)
 refine Qd 3 rfl<|Qd 4 rfl<|mv (.tuple #[.agg #[.bool t22.1.Big, sl p t22.1.kap.l], sl p_2 t22.2.1.l, i6 t22.2.2.1])<|lv (J9 (v := .agg #[.bool t22.1.Big, sl p t22.1.kap.l]) rfl rfl)<|lv (J9 (v := sl p_2 t22.2.1.l) rfl rfl)<|lv (J9 (v := i6 t22.2.2.1) rfl rfl)<|?_
 refine Xx (cs := [.bool false, z0s]) zeroValue34 rfl rfl rfl (fun b10 => ?_)
 refine st (i := 6) [.bool t22.1.Big, sl p t22.1.kap.l] [.bool t22.1.Big, sl p t22.1.kap.l] kci rfl rfl<|ag (sl p_2 t22.2.1.l)<|ag (i6 t22.2.2.1)<|Jd<|Jc<|Jc<|?_
 try dsimp only [z1,z2,z5,z6,z7,z8]
 refine Ja<|mv (i6 t22.2.2.1)<|lv (Yv rfl rfl)<|Jd<|?_
 revert H48
 refine ci (decide (t22.2.2.1 ≠ 0)) rfl (fun hb H49=>?_) fun hb H50=>?_
 ·refine Jc<|Ja<|mv (i6 t22.2.2.1)<|ag (str [])<|ag (i6 t22.2.2.1)<|Jd<|Jm<|?_
  obtain rfl := sj H49
  refine U9 (v1 := str []) (v2 := i6 t22.2.2.1) rfl rfl rfl (fin rfl)
 ·refine Jj<|Jc<|Jc<|Ja<|Xb (i := 2) (vs := [i6 a2.kai, str a2.kaj, v2_2, v2_3, v2_4]) kbi kce rfl rfl rfl rfl rfl<|?_
  obtain ⟨t30, h_t30, H51⟩ := Je H50; clear H50
  refine Qb (fun w hF hS => k10 (Jq w) (f2_2.mono (hw.now hF)) (f2_3.mono (hw.now hF)) (f2_4.mono (hw.now hF)) h_t30) call10 rfl rfl rfl<|ag (i6 t30)<|Jd<|Jc<|Ja<|mv (i6 t30)<|lv (Yv rfl rfl)<|Jd<|?_
  revert H51
  refine ci (decide (t30 ≠ 0)) rfl (fun hb H52=>?_) fun hb H53=>?_
  ·refine Jc<|Ja<|mv (i6 t30)<|ag (str [])<|ag (i6 t30)<|Jd<|Jm<|?_
   obtain rfl := sj H52
   refine U9 (v1 := str []) (v2 := i6 t30) rfl rfl rfl (fin rfl)
  ·refine Jj<|Jc<|Jc<|Ja<|ll 3 (i6 t22.2.2.2) kbk<|lv (X3 rfl rfl)<|Jd<|?_
   revert H53
   refine ci (decide (t22.2.2.2 < 0)) rfl (fun hb H54=>?_) fun hb H55=>?_
   ·refine Jc<|Ja<|ag (str [])<|ag (i6 7)<|Jd<|Jm<|?_
    obtain rfl := sj H54
    refine U9 (v1 := str []) (v2 := i6 7) rfl rfl rfl (fin rfl)
   ·refine Jj<|Jc<|Ja<|Xb (i := 6) (vs := [.bool t22.1.Big, sl p t22.1.kap.l]) kbm kci rfl rfl rfl rfl rfl<|ll 1 v1 kbg<|?_
    obtain ⟨t39, h_t39, H56⟩ := Je H55; clear H55
    refine V8 (Yy (rds := [4]) (fun w L' hF hS hi => k11 (Jq w) (Jgx (i := 4) hS ((hi 4 (by simp)).trans rfl)) (f1.mono (hw.now hF)) h_t39) call11 rfl) rfl rfl rfl (fun ⟨p_3, p_4, p_5⟩ => ?_)
    refine c_pooled 7 rfl (fun hp pf => ?_)
    refine Z9 0 7 rfl rfl (by decide) (fun _ _ => Zc) (fun hp_2 hle hle_2 => ?_)
    refine mv (.tuple #[.agg #[i6 t39.1.kai, str t39.1.kaj, (sl p_3 t39.1.kak.l), (sl p_4 t39.1.kah.l), (sl p_5 t39.1.kag.l)], i6 t39.2])<|lv (J9 (v := .agg #[i6 t39.1.kai, str t39.1.kaj, (sl p_3 t39.1.kak.l), (sl p_4 t39.1.kah.l), (sl p_5 t39.1.kag.l)]) rfl rfl)<|lv (J9 (v := i6 t39.2) rfl rfl)<|?_
    refine Xx (cs := [i6 0, str [], z0s, z0s, z0s]) zeroValue26 rfl rfl rfl (fun b11 => ?_)
    refine Wz (i := 8) (vs := [i6 t39.1.kai, str t39.1.kaj, (sl p_3 t39.1.kak.l), (sl p_4 t39.1.kah.l), (sl p_5 t39.1.kag.l)]) (cs' := [i6 t39.1.kai, str t39.1.kaj, (sl p_3 t39.1.kak.l), (sl p_4 t39.1.kah.l), (sl p_5 t39.1.kag.l)]) kce rfl rfl rfl rfl rfl rfl (by simp only [List.all_cons, List.all_nil, (pf.1.mono hle_2).one, (pf.2.1.mono hle_2).one, (pf.2.2.mono hle_2).one] <;> rfl) rfl rfl<|ag (i6 t39.2)<|Jd<|Jc<|Jc<|?_
    try dsimp only [z1,z2,z5,z6,z7,z8]
    refine Ja<|lf Tryz.runUnderlying26 rfl kcg rfl<|ll 8 (i6 t39.1.kai) kbk<|lv (Qj rfl rfl)<|mv (.bool (decide (t39.1.kai = 13)))<|?_
    revert H56
    refine sp (fun hb H57=>?_) fun hb H58=>?_
    ·refine pa<|pa<|pa<|pT (.bool true)<|Jd<|Zl rfl<|Jc<|Ja<|ag (str [])<|ag (i6 10)<|Jd<|Jm<|?_
     obtain rfl := sj H57
     refine U9 (v1 := str []) (v2 := i6 10) rfl rfl rfl (fin rfl)
    ·refine lf Tryz.runUnderlying26 rfl kcg rfl<|ll 2 (i6 a2.kai) kbk<|lv (Qj rfl rfl)<|pF (.bool (decide (a2.kai = 13)))<|Jd<|?_
     revert H58
     refine ci (decide (a2.kai = 13)) rfl (fun hb H59=>?_) fun hb H60=>?_
     ·refine Jc<|Ja<|ag (str [])<|ag (i6 10)<|Jd<|Jm<|?_
      obtain rfl := sj H59
      refine U9 (v1 := str []) (v2 := i6 10) rfl rfl rfl (fin rfl)
     ·refine Jj<|Jc<|Ja<|lf Tryz.runUnderlying34 rfl kck rfl<|ll 6 (.bool t22.1.Big) kbo<|mv (str a0)<|?_
      obtain ⟨t53, h_t53, H61⟩ := Je H60; clear H60
      refine V8 (rds := []) (Jgp (f := W0) (s := a0) kcx kcw underlying5 rfl (fun _ => rfl) h_t53) rfl rfl rfl (fun p_6 => ?_)
      refine lv (Xf (pl := #[(0, 1), (1, 1)]) (ps := [(0, .bool t22.1.Big), (1, sl p_6 t53.l)]) (cells := #[.bool t22.1.Big, sl p_6 t53.l]) zeroValue46 Tryz.runUnderlying46 (fun w => by kernel_rfl) rfl rfl) ?_
      refine W1 (cs := [.bool t22.1.Big, sl p_6 t53.l]) rfl rfl rfl rfl (fun b12 => ?_)
      refine ag (pz b12)<|Jd<|Jc<|?_
      try dsimp only [z1,z2,z5,z6,z7,z8]
      refine Ja<|lf Tryz.runUnderlying34 rfl kck rfl<|ll 6 (.bool t22.1.Big) kbo<|Xb (i := 2) (vs := [i6 a2.kai, str a2.kaj, v2_2, v2_3, v2_4]) kbi kce rfl rfl rfl rfl rfl<|?_
      obtain ⟨t59, h_t59, H62⟩ := Je H61; clear H61
      refine V8 (Yy (rds := []) (fun w L' hF hS hi => k12 (Jq w) (f2_2.mono (hw.now hF)) (f2_3.mono (hw.now hF)) (f2_4.mono (hw.now hF)) h_t59) call12 rfl) rfl rfl rfl (fun p_7 => ?_)
      refine ag (sl p_7 t59.l)<|Jd<|Jc<|?_
      exact Qk (Kd.p :: Kd.p :: Kd.p :: Kd.d [10] _ :: Kd.d [3] _ :: Kd.p :: Kd.d [9] _ :: Kd.p :: Kd.d [6] _ :: Kd.p :: Kd.d [2] _ :: Kd.t 12 [0] _ _ :: Kd.t 9 [12] _ _ :: []) 1 mixed (by
       refine dm (pz b12)<|dv (Jg rfl)<|dv (J2 Tryz.runUnderlying46 rfl kcl rfl rfl)<|dl (sl p_6 t53.l) isAgg44<|dl (i6 t22.2.2.2) kbk<|?_
       have h_t65 := Jt H62
       have H63 := Jn H62
       refine dv (Jy rfl rfl h_t65) ?_
       have h_t66 := Jt H63
       have H64 := Jn H63
       refine Um (v := .slice (Vo p_6.1 (Int.toNat (val (gI (t22.2.2.2 + 2)))) p_6.2 1) (val (Qp t53 (val (gI (t22.2.2.2 + 2))) t53.l)).length (p_6.2 - Int.toNat (val (gI (t22.2.2.2 + 2))))) (fun w L' hF hS hi => Jdt (xs := t53) kcw sizeOf5 rfl rfl rfl (capOfW (i := 9) hS ((hi 9 (by simp)).trans rfl)) h_t66) rfl rfl<|dv (J2 Tryz.runUnderlying34 rfl kck rfl rfl)<|dl (.bool t22.1.Big) kbo<|dv (J2 Tryz.runUnderlying26 rfl kcg rfl rfl)<|dl (i6 a2.kai) kbk<|?_
       have h_t71 := Jt H64
       have H65 := Jn H64
       refine d_make (Cv := fun v => J4 5 1 v (val (J5 t22.1.Big a2.kai 2)).length ((val (J5 t22.1.Big a2.kai 2)).map W0)) (none, 0) (Yy (fun w L' hF hS hi => k13 (Jq w)  h_t71) call13 rfl) (fun _ => rfl) rfl rfl rfl (fun p_8 => ?_)
       refine Jct (Cv := fun _ => wrV 5 1 (sl p_6 t53.length) t53.length ((Vn t53 (val (gI (t22.2.2.2 + 2))) (val (Qp t53 (val (gI (t22.2.2.2 + 2))) t53.length)).length (val (J5 t22.1.Big a2.kai 2))).map W0)) () (Jdq (i := 9) (rds := _) (p := p_6) (f := W0) (xs := t53) (ts := (val (Qp t53 (val (gI (t22.2.2.2 + 2))) t53.length))) (ys := (val (J5 t22.1.Big a2.kai 2))) rfl kcw (by rw [X0 Tryz.typeInfo5]; rfl) rfl rfl h_t66 rfl rfl (fun w L' hF hS hi => Uk (i := 12) hS ((hi 12 (by simp)).trans rfl)) (fun _ => rfl) (fun _ => rfl)) (fun _ => rfl) rfl rfl (fun _ => ?_)
       refine Xr<|Jc<|?_
       try dsimp only [z1,z2,z5,z6,z7,z8]
       exact Qk (Kd.p :: Kd.d [3] _ :: Kd.p :: Kd.d [2] _ :: Kd.d [0] _ :: Kd.t2 10 9 [0] _ _ :: []) 0 mixed (by
        refine dm (pz b12)<|dl (i6 t22.2.2.2) kbk<|?_
        have h_t75 := Jt H65
        have H66 := Jn H65
        refine dv (Jy rfl rfl h_t75)<|Jc1 (i := 2) (vs := [i6 a2.kai, str a2.kaj, v2_2, v2_3, v2_4]) kbi kce rfl rfl rfl rfl<|?_
        have h_t77 := Jt H66
        have H67 := Jn H66
        refine Jar (fun w L' hF hS hi => k15 (Jq w) (f2_2.mono (hw.now hF)) (f2_3.mono (hw.now hF)) (f2_4.mono (hw.now hF)) h_t77) call15 rfl rfl ?_
        have h_t78 := Jt H67
        have H68 := Jn H67
        refine d_turn2 (i := 10) (j := 9) (Jv (i := 10) (rds := _) rfl (fun w L' S hF hS hi hp hlt ho hA => k14 (a0 := (⟨t22.1.Big, (Vn t53 (val (gI (t22.2.2.2 + 2))) (val (Qp t53 (val (gI (t22.2.2.2 + 2))) t53.l)).length (val (J5 t22.1.Big a2.kai 2)))⟩ : Tj)) hp hlt (J7 w S) (cpyL_n rfl h_t66) h_t78) call14 rfl) rfl rfl (by decide) (by decide) rfl rfl<|Xr<|?_
        refine c_ex 10 rfl (fun p_9 => ?_)
        refine ub 10 9 rfl rfl ?_
        refine Qg (r := r) (σ := Bool × (List Int)) (τ := AN × Nat) (fun s => Jay s.1 s.2) (fun s t => [(15, pz b12)]) (fun s t => [Xm Q9 hp_2, Jf b12 [.bool s.1, .slice t.1.1 t.2 t.1.2] 46, wrV 5 1 (.slice t.1.1 t.2 t.1.2) t.2 (s.2.map W0)]) (fun s t => t.2 = s.2.l) ?_ ?_
        ·refine Jx<|Jc<|Ja<|mv (sl p_7 t59.l)<|lv (Jdl kcw rfl)<|lv (Jd1 rfl rfl)<|ag (.bool (decide ((t59.l : Int) ≤ 4)))<|Jd<|?_
         revert H68
         refine ci (decide ((t59.l : Int) ≤ 4)) rfl (fun hb H75=>?_) fun hb H80=>?_
         ·refine Jc<|Ja<|mv (pz b12)<|ll 3 (i6 t22.2.2.2) kbk<|?_
          obtain ⟨t100, h_t100, H76⟩ := Je H75; clear H75
          refine lv (Jy rfl rfl h_t100) ?_
          obtain ⟨t101, h_t101, H77⟩ := Je H76; clear H76
          refine bo 10 9 rfl rfl ?_
          refine Qh (Jv (i := 10) (rds := []) rfl (fun w L' S hF hS hi hp hlt ho hA => k14 hp hlt (J7 w S) rfl h_t101) call14 rfl) rfl rfl rfl (fun p_12 => ?_)
          refine ub 10 9 rfl rfl<|Jd<|?_
          try dsimp only [z1,z2,z5,z6,z7,z8]
          exact Qk (Kd.p :: Kd.p :: Kd.p :: Kd.d [10] _ :: Kd.d [3] _ :: Kd.p :: Kd.d [9] _ :: Kd.p :: Kd.t 9 [11] _ _ :: []) 0 mixed (by
           refine dm (pz b12)<|dv (Jg rfl)<|dv (J2 Tryz.runUnderlying46 rfl kcl rfl rfl)<|dl (sl p_12 t101.kao.l) isAgg44<|dl (i6 t22.2.2.2) kbk<|?_
           have h_t107 := Jt H77
           have H78 := Jn H77
           refine dv (Jy rfl rfl h_t107) ?_
           have h_t108 := Jt H78
           have H79 := Jn H78
           refine Um (v := .slice (Vo p_12.1 (Int.toNat (val (gI (t22.2.2.2 + 8)))) p_12.2 1) (val (Qp t101.kao (val (gI (t22.2.2.2 + 8))) t101.kao.l)).length (p_12.2 - Int.toNat (val (gI (t22.2.2.2 + 8))))) (fun w L' hF hS hi => Jdt (xs := t101.kao) kcw sizeOf5 rfl rfl rfl (capOfW (i := 9) hS ((hi 9 (by simp)).trans rfl)) h_t108) rfl rfl<|dm (sl p_7 t59.l)<|?_
           refine Jct (Cv := fun _ => wrV 5 1 (sl p_12 t101.kao.length) t101.kao.length ((Vn t101.kao (val (gI (t22.2.2.2 + 8))) (val (Qp t101.kao (val (gI (t22.2.2.2 + 8))) t101.kao.length)).length t59).map W0)) () (Jdq (i := 9) (rds := _) (p := p_12) (f := W0) (xs := t101.kao) (ts := (val (Qp t101.kao (val (gI (t22.2.2.2 + 8))) t101.kao.length))) (ys := t59) rfl kcw (by rw [X0 Tryz.typeInfo5]; rfl) rfl rfl h_t108 rfl rfl (fun w L' hF hS hi => offOfW (i := 11) hS ((hi 11 (by simp)).trans rfl)) (fun _ => rfl) (fun _ => rfl)) (fun _ => rfl) rfl rfl (fun _ => ?_)
           refine Xr ?_
           exact cl (t101.kab, (Vn t101.kao (val (gI (t22.2.2.2 + 8))) (val (Qp t101.kao (val (gI (t22.2.2.2 + 8))) t101.kao.l)).length t59)) (p_12, t101.kao.l) 0 [0, 10, 9] (by exact ⟨H79, (cpyL_n rfl h_t108)⟩)
           ) (by kernel_rfl)
         ·refine Qg (r := r) (σ := Bool) (τ := Unit) (fun s => Ja2 a0 t22 t59 (val (J0 (⟨t22.1.Big, (Vn t53 (val (gI (t22.2.2.2 + 2))) (val (Qp t53 (val (gI (t22.2.2.2 + 2))) t53.l)).length (val (J5 t22.1.Big a2.kai 2)))⟩ : Tj) (val (gI (t22.2.2.2 + 4))) (val (Qu a2)))) s) (fun s t => [(0, str a0), (8, pz b9), (9, pz b10), (15, pz b12), (16, sl p_7 t59.l), (111, .bool s)]) (fun s t => [Xm Q9 hp_2, Jf b9 [i6 t22.2.2.2] 3, Uj 24 1 gs_tag_Entry (sl p t22.1.kap.l) t22.1.kap.l t22.1.kap, Jf b10 [.bool t22.1.Big, sl p t22.1.kap.l] 34, wrV 5 1 (.slice p_9.1 (val (J0 (⟨t22.1.Big, (Vn t53 (val (gI (t22.2.2.2 + 2))) (val (Qp t53 (val (gI (t22.2.2.2 + 2))) t53.l)).length (val (J5 t22.1.Big a2.kai 2)))⟩ : Tj) (val (gI (t22.2.2.2 + 4))) (val (Qu a2)))).kao.l p_9.2) (val (J0 (⟨t22.1.Big, (Vn t53 (val (gI (t22.2.2.2 + 2))) (val (Qp t53 (val (gI (t22.2.2.2 + 2))) t53.l)).length (val (J5 t22.1.Big a2.kai 2)))⟩ : Tj) (val (gI (t22.2.2.2 + 4))) (val (Qu a2)))).kao.l ((val (J0 (⟨t22.1.Big, (Vn t53 (val (gI (t22.2.2.2 + 2))) (val (Qp t53 (val (gI (t22.2.2.2 + 2))) t53.l)).length (val (J5 t22.1.Big a2.kai 2)))⟩ : Tj) (val (gI (t22.2.2.2 + 4))) (val (Qu a2)))).kao.map W0), Jf b12 [.bool (val (J0 (⟨t22.1.Big, (Vn t53 (val (gI (t22.2.2.2 + 2))) (val (Qp t53 (val (gI (t22.2.2.2 + 2))) t53.l)).length (val (J5 t22.1.Big a2.kai 2)))⟩ : Tj) (val (gI (t22.2.2.2 + 4))) (val (Qu a2)))).kab, .slice p_9.1 (val (J0 (⟨t22.1.Big, (Vn t53 (val (gI (t22.2.2.2 + 2))) (val (Qp t53 (val (gI (t22.2.2.2 + 2))) t53.l)).length (val (J5 t22.1.Big a2.kai 2)))⟩ : Tj) (val (gI (t22.2.2.2 + 4))) (val (Qu a2)))).kao.l p_9.2] 46, wrV 5 1 (sl p_7 t59.l) t59.l (t59.map W0)]) (fun s t => True) ?_ ?_
          ·try dsimp only [z1,z2,z5,z6,z7,z8]
           refine Ja<|Xb (i := 8) (vs := [i6 t39.1.kai, str t39.1.kaj, (sl p_3 t39.1.kak.l), (sl p_4 t39.1.kah.l), (sl p_5 t39.1.kag.l)]) kbi kce rfl rfl rfl rfl rfl<|?_
           obtain ⟨t113, h_t113, H91⟩ := Je H80; clear H80
           refine Qb (fun w hF hS => k16 (Jq w) ((pf.1.mono hle_2).mono (Jcq (i := 0) hS rfl Zc)) ((pf.2.1.mono hle_2).mono (Jcq (i := 0) hS rfl Zc)) ((pf.2.2.mono hle_2).mono (Jcq (i := 0) hS rfl Zc)) h_t113) call16 rfl rfl rfl<|lv (Yf rfl rfl)<|mv (.bool (decide (4 < t113)))<|?_
           revert H91
           refine sp (fun hb H92=>?_) fun hb H94=>?_
           ·refine Xb (i := 8) (vs := [i6 t39.1.kai, str t39.1.kaj, (sl p_3 t39.1.kak.l), (sl p_4 t39.1.kah.l), (sl p_5 t39.1.kag.l)]) kbi kce rfl rfl rfl rfl rfl ?_
            obtain ⟨t117, h_t117, H93⟩ := Je H92; clear H92
            refine Qb (fun w hF hS => k16 (Jq w) ((pf.1.mono hle_2).mono (Jcq (i := 0) hS rfl Zc)) ((pf.2.1.mono hle_2).mono (Jcq (i := 0) hS rfl Zc)) ((pf.2.2.mono hle_2).mono (Jcq (i := 0) hS rfl Zc)) h_t117) call16 rfl rfl rfl<|mv (sl p_7 t59.l)<|lv (Jdl kcw rfl)<|lv (Jey rfl rfl)<|pT (.bool (decide ((t59.l : Int) ≤ t117)))<|ag (.bool (decide ((t59.l : Int) ≤ t117)))<|Jd<|?_
            exact cl (decide ((t59.l : Int) ≤ t117)) () 0 [0, 3, 4, 6, 9, 10, 11] (by exact ⟨H93, trivial⟩)
           ·refine pa<|pa<|pa<|pa<|pa<|pF (.bool false)<|ag (.bool false)<|Jd<|?_
            exact cl false () 0 [0, 3, 4, 6, 9, 10, 11] (by exact ⟨H94, trivial⟩)
          ·rintro x111 _ gg H81 _
           try dsimp only at H81
           try dsimp only
           revert H81
           refine ci x111 rfl (fun hb H82=>?_) fun hb H86=>?_
           ·exact Qk (Kd.p :: Kd.p :: Kd.p :: Kd.d [5] _ :: Kd.p :: Kd.d [3] _ :: Kd.p :: Kd.d [1] _ :: Kd.p :: Kd.d [] _ :: Kd.d [4] _ :: Kd.p :: Kd.t 4 [6] _ _ :: []) 0 mixed (by
             refine dm (pz b12)<|dv (Jg rfl)<|dv (J2 Tryz.runUnderlying46 rfl kcl rfl rfl)<|dl (.slice p_9.1 (val (J0 (⟨t22.1.Big, (Vn t53 (val (gI (t22.2.2.2 + 2))) (val (Qp t53 (val (gI (t22.2.2.2 + 2))) t53.l)).length (val (J5 t22.1.Big a2.kai 2)))⟩ : Tj) (val (gI (t22.2.2.2 + 4))) (val (Qu a2)))).kao.l p_9.2) isAgg44<|dv (J2 Tryz.runUnderlying34 rfl kck rfl rfl)<|dl (.bool t22.1.Big) kbo<|dm (str a0)<|dl (i6 t22.2.2.2) kbk<|?_
             have h_t130 := Jt H82
             have H83 := Jn H82
             refine dv (Jy rfl rfl h_t130) ?_
             have h_t131 := Jt H83
             have H84 := Jn H83
             refine Ja9 (k17 h_t131) call17 rfl rfl ?_
             have h_t132 := Jt H84
             have H85 := Jn H84
             refine Um (v := .slice (Vo p_9.1 (Int.toNat (val (Yb t22.1.Big a0 (val (gI (t22.2.2.2 + 8))) 4))) p_9.2 1) (val (Qp (val (J0 (⟨t22.1.Big, (Vn t53 (val (gI (t22.2.2.2 + 2))) (val (Qp t53 (val (gI (t22.2.2.2 + 2))) t53.l)).length (val (J5 t22.1.Big a2.kai 2)))⟩ : Tj) (val (gI (t22.2.2.2 + 4))) (val (Qu a2)))).kao (val (Yb t22.1.Big a0 (val (gI (t22.2.2.2 + 8))) 4)) (val (J0 (⟨t22.1.Big, (Vn t53 (val (gI (t22.2.2.2 + 2))) (val (Qp t53 (val (gI (t22.2.2.2 + 2))) t53.l)).length (val (J5 t22.1.Big a2.kai 2)))⟩ : Tj) (val (gI (t22.2.2.2 + 4))) (val (Qu a2)))).kao.l)).length (p_9.2 - Int.toNat (val (Yb t22.1.Big a0 (val (gI (t22.2.2.2 + 8))) 4)))) (fun w L' hF hS hi => Jdt (xs := (val (J0 (⟨t22.1.Big, (Vn t53 (val (gI (t22.2.2.2 + 2))) (val (Qp t53 (val (gI (t22.2.2.2 + 2))) t53.l)).length (val (J5 t22.1.Big a2.kai 2)))⟩ : Tj) (val (gI (t22.2.2.2 + 4))) (val (Qu a2)))).kao) kcw sizeOf5 rfl rfl rfl (capOfW (i := 4) hS ((hi 4 (by simp)).trans rfl)) h_t132) rfl rfl<|dm (sl p_7 t59.l)<|?_
             refine Jct (Cv := fun _ => wrV 5 1 (.slice p_9.1 (val (J0 (⟨t22.1.Big, (Vn t53 (val (gI (t22.2.2.2 + 2))) (val (Qp t53 (val (gI (t22.2.2.2 + 2))) t53.length)).length (val (J5 t22.1.Big a2.kai 2)))⟩ : Tj) (val (gI (t22.2.2.2 + 4))) (val (Qu a2)))).kao.length p_9.2) (val (J0 (⟨t22.1.Big, (Vn t53 (val (gI (t22.2.2.2 + 2))) (val (Qp t53 (val (gI (t22.2.2.2 + 2))) t53.length)).length (val (J5 t22.1.Big a2.kai 2)))⟩ : Tj) (val (gI (t22.2.2.2 + 4))) (val (Qu a2)))).kao.length ((Vn (val (J0 (⟨t22.1.Big, (Vn t53 (val (gI (t22.2.2.2 + 2))) (val (Qp t53 (val (gI (t22.2.2.2 + 2))) t53.length)).length (val (J5 t22.1.Big a2.kai 2)))⟩ : Tj) (val (gI (t22.2.2.2 + 4))) (val (Qu a2)))).kao (val (Yb t22.1.Big a0 (val (gI (t22.2.2.2 + 8))) 4)) (val (Qp (val (J0 (⟨t22.1.Big, (Vn t53 (val (gI (t22.2.2.2 + 2))) (val (Qp t53 (val (gI (t22.2.2.2 + 2))) t53.length)).length (val (J5 t22.1.Big a2.kai 2)))⟩ : Tj) (val (gI (t22.2.2.2 + 4))) (val (Qu a2)))).kao (val (Yb t22.1.Big a0 (val (gI (t22.2.2.2 + 8))) 4)) (val (J0 (⟨t22.1.Big, (Vn t53 (val (gI (t22.2.2.2 + 2))) (val (Qp t53 (val (gI (t22.2.2.2 + 2))) t53.length)).length (val (J5 t22.1.Big a2.kai 2)))⟩ : Tj) (val (gI (t22.2.2.2 + 4))) (val (Qu a2)))).kao.length)).length t59).map W0)) () (Jdq (i := 4) (rds := _) (p := p_9) (f := W0) (xs := (val (J0 (⟨t22.1.Big, (Vn t53 (val (gI (t22.2.2.2 + 2))) (val (Qp t53 (val (gI (t22.2.2.2 + 2))) t53.length)).length (val (J5 t22.1.Big a2.kai 2)))⟩ : Tj) (val (gI (t22.2.2.2 + 4))) (val (Qu a2)))).kao) (ts := (val (Qp (val (J0 (⟨t22.1.Big, (Vn t53 (val (gI (t22.2.2.2 + 2))) (val (Qp t53 (val (gI (t22.2.2.2 + 2))) t53.length)).length (val (J5 t22.1.Big a2.kai 2)))⟩ : Tj) (val (gI (t22.2.2.2 + 4))) (val (Qu a2)))).kao (val (Yb t22.1.Big a0 (val (gI (t22.2.2.2 + 8))) 4)) (val (J0 (⟨t22.1.Big, (Vn t53 (val (gI (t22.2.2.2 + 2))) (val (Qp t53 (val (gI (t22.2.2.2 + 2))) t53.length)).length (val (J5 t22.1.Big a2.kai 2)))⟩ : Tj) (val (gI (t22.2.2.2 + 4))) (val (Qu a2)))).kao.length))) (ys := t59) rfl kcw (by rw [X0 Tryz.typeInfo5]; rfl) rfl rfl h_t132 rfl rfl (fun w L' hF hS hi => offOfW (i := 6) hS ((hi 6 (by simp)).trans rfl)) (fun _ => rfl) (fun _ => rfl)) (fun _ => rfl) rfl rfl (fun _ => ?_)
             refine Xr ?_
             exact cl ((val (J0 (⟨t22.1.Big, (Vn t53 (val (gI (t22.2.2.2 + 2))) (val (Qp t53 (val (gI (t22.2.2.2 + 2))) t53.l)).length (val (J5 t22.1.Big a2.kai 2)))⟩ : Tj) (val (gI (t22.2.2.2 + 4))) (val (Qu a2)))).kab, (Vn (val (J0 (⟨t22.1.Big, (Vn t53 (val (gI (t22.2.2.2 + 2))) (val (Qp t53 (val (gI (t22.2.2.2 + 2))) t53.l)).length (val (J5 t22.1.Big a2.kai 2)))⟩ : Tj) (val (gI (t22.2.2.2 + 4))) (val (Qu a2)))).kao (val (Yb t22.1.Big a0 (val (gI (t22.2.2.2 + 8))) 4)) (val (Qp (val (J0 (⟨t22.1.Big, (Vn t53 (val (gI (t22.2.2.2 + 2))) (val (Qp t53 (val (gI (t22.2.2.2 + 2))) t53.l)).length (val (J5 t22.1.Big a2.kai 2)))⟩ : Tj) (val (gI (t22.2.2.2 + 4))) (val (Qu a2)))).kao (val (Yb t22.1.Big a0 (val (gI (t22.2.2.2 + 8))) 4)) (val (J0 (⟨t22.1.Big, (Vn t53 (val (gI (t22.2.2.2 + 2))) (val (Qp t53 (val (gI (t22.2.2.2 + 2))) t53.l)).length (val (J5 t22.1.Big a2.kai 2)))⟩ : Tj) (val (gI (t22.2.2.2 + 4))) (val (Qu a2)))).kao.l)).length t59)) (p_9, (val (J0 (⟨t22.1.Big, (Vn t53 (val (gI (t22.2.2.2 + 2))) (val (Qp t53 (val (gI (t22.2.2.2 + 2))) t53.l)).length (val (J5 t22.1.Big a2.kai 2)))⟩ : Tj) (val (gI (t22.2.2.2 + 4))) (val (Qu a2)))).kao.l) 0 [0, 5, 4] (by exact ⟨H85, (cpyL_n rfl h_t132)⟩)
             ) (by kernel_rfl)
           ·refine Jc ?_
            try dsimp only [z1,z2,z5,z6,z7,z8]
            exact Qk (Kd.p :: Kd.d [1] _ :: Kd.p :: Kd.p :: Kd.t2 5 4 [0] _ _ :: Kd.t 5 [0] _ _ :: []) 0 mixed (by
             refine dm (pz b12)<|dl (i6 t22.2.2.2) kbk<|?_
             have h_t81 := Jt H86
             have H87 := Jn H86
             refine dv (Jy rfl rfl h_t81)<|dm (pz b12)<|?_
             have h_t83 := Jt H87
             have H88 := Jn H87
             refine d_turn2 (i := 5) (j := 4) (Jv (i := 5) (rds := _) rfl (fun w L' S hF hS hi hp hlt ho hA => k18 hp hlt (J7 w S) rfl h_t83) call18 rfl) rfl rfl (by decide) (by decide) rfl rfl ?_
             have h_t84 := Jt H88
             have H89 := Jn H88
             refine d_turnX (i := 5) (Jv (i := 5) (rds := _) rfl (fun w L' S hF hS hi hp hlt ho hA => by obtain ⟨p_14, hp⟩ := hp; exact k14 hp hlt (J7 w S) rfl h_t84) call14 rfl) rfl rfl rfl<|Xr<|?_
             refine c_ex 5 rfl (fun p_15 => ?_)
             refine ub 5 4 rfl rfl ?_
             try dsimp only [z1,z2,z5,z6,z7,z8]
             refine Ja<|mv (pz b12)<|mv (pz b12)<|lv (Jg rfl)<|lf Tryz.runUnderlying46 rfl kcl rfl<|ll 5 (.slice p_15.1 (val (J0 (val (Ya (val (J0 (⟨t22.1.Big, (Vn t53 (val (gI (t22.2.2.2 + 2))) (val (Qp t53 (val (gI (t22.2.2.2 + 2))) t53.l)).length (val (J5 t22.1.Big a2.kai 2)))⟩ : Tj) (val (gI (t22.2.2.2 + 4))) (val (Qu a2)))))).2 (val (gI (t22.2.2.2 + 8))) (val (Ya (val (J0 (⟨t22.1.Big, (Vn t53 (val (gI (t22.2.2.2 + 2))) (val (Qp t53 (val (gI (t22.2.2.2 + 2))) t53.l)).length (val (J5 t22.1.Big a2.kai 2)))⟩ : Tj) (val (gI (t22.2.2.2 + 4))) (val (Qu a2)))))).1)).kao.l p_15.2) isAgg44<|mv (sl p_7 t59.l)<|?_
             obtain ⟨l91, h_l91, H90⟩ := Je H89; clear H89
             refine Qh (Jgj (i := 4) (hn := rfl) (rds := [6]) (p := p_15) (sz := 1) (by_ := 1) (f := W0) (ys := (val (J0 (val (Ya (val (J0 (⟨t22.1.Big, (Vn t53 (val (gI (t22.2.2.2 + 2))) (val (Qp t53 (val (gI (t22.2.2.2 + 2))) t53.l)).length (val (J5 t22.1.Big a2.kai 2)))⟩ : Tj) (val (gI (t22.2.2.2 + 4))) (val (Qu a2)))))).2 (val (gI (t22.2.2.2 + 8))) (val (Ya (val (J0 (⟨t22.1.Big, (Vn t53 (val (gI (t22.2.2.2 + 2))) (val (Qp t53 (val (gI (t22.2.2.2 + 2))) t53.l)).length (val (J5 t22.1.Big a2.kai 2)))⟩ : Tj) (val (gI (t22.2.2.2 + 4))) (val (Qu a2)))))).1)).kao) (ls := t59) (V := sl p_7 t59.l) kcw (X0 Tryz.typeInfo5) rfl rfl rfl rfl rfl rfl rfl rfl rfl rfl (fun w L' hF hS hi => offOfW (i := 6) hS ((hi 6 (by simp)).trans rfl)) (fun _ => rfl) (fun _ => rfl) h_l91) rfl rfl rfl (fun p_16 => ?_)
             refine lv (Jg rfl)<|lf Tryz.runUnderlying46 rfl kcl rfl<|st (i := 5) [sl p_16 l91.l] [.bool (val (J0 (val (Ya (val (J0 (⟨t22.1.Big, (Vn t53 (val (gI (t22.2.2.2 + 2))) (val (Qp t53 (val (gI (t22.2.2.2 + 2))) t53.l)).length (val (J5 t22.1.Big a2.kai 2)))⟩ : Tj) (val (gI (t22.2.2.2 + 4))) (val (Qu a2)))))).2 (val (gI (t22.2.2.2 + 8))) (val (Ya (val (J0 (⟨t22.1.Big, (Vn t53 (val (gI (t22.2.2.2 + 2))) (val (Qp t53 (val (gI (t22.2.2.2 + 2))) t53.l)).length (val (J5 t22.1.Big a2.kai 2)))⟩ : Tj) (val (gI (t22.2.2.2 + 4))) (val (Qu a2)))))).1)).kab, sl p_16 l91.l] kcl rfl rfl<|Jd<|?_
             exact cl ((val (J0 (val (Ya (val (J0 (⟨t22.1.Big, (Vn t53 (val (gI (t22.2.2.2 + 2))) (val (Qp t53 (val (gI (t22.2.2.2 + 2))) t53.l)).length (val (J5 t22.1.Big a2.kai 2)))⟩ : Tj) (val (gI (t22.2.2.2 + 4))) (val (Qu a2)))))).2 (val (gI (t22.2.2.2 + 8))) (val (Ya (val (J0 (⟨t22.1.Big, (Vn t53 (val (gI (t22.2.2.2 + 2))) (val (Qp t53 (val (gI (t22.2.2.2 + 2))) t53.l)).length (val (J5 t22.1.Big a2.kai 2)))⟩ : Tj) (val (gI (t22.2.2.2 + 4))) (val (Qu a2)))))).1)).kab, l91) (p_16, l91.l) 0 [0, 5, 4] (by exact ⟨H90, rfl⟩)
             ) (by kernel_rfl)
        ·rintro ⟨m, l⟩ ⟨p_10, n⟩ gg H69 hl
         try dsimp only at H69
         try dsimp only
         refine Jc<|Jc<|?_
         try dsimp only [z1,z2,z5,z6,z7,z8]
         refine Ja<|mv (pz b12)<|lv (Jg rfl)<|lf Tryz.runUnderlying46 rfl kcl rfl<|ll 1 (sl p_10 n) isAgg44<|lv (r_lenN kcw rfl hl)<|lv (Yf rfl rfl)<|Jd<|?_
         revert H69
         refine ci (decide (65000 < (l.l : Int))) rfl (fun hb H70=>?_) fun hb H71=>?_
         ·refine Jc<|Ja<|ag (str [])<|ag (i6 4)<|Jd<|Jm<|?_
          obtain rfl := sj H70
          refine U9 (v1 := str []) (v2 := i6 4) rfl rfl rfl (fin rfl)
         ·refine Jj<|Jc<|Jc<|Ja<|mv (pz b12)<|lv (Jg rfl)<|lf Tryz.runUnderlying46 rfl kcl rfl<|ll 1 (sl p_10 n) isAgg44<|Xs (fun w hF hS => Jh9 (f := W0) (xs := l) hl kcw underlying5 kcx rfl (fun _ => rfl) (offOfW (i := 2) hS rfl)) rfl rfl rfl<|?_
          obtain ⟨t147, h_t147, H72⟩ := Je H71; clear H71
          refine V8 (Yy (rds := []) (fun w L' hF hS hi => k19 (Jq w)  h_t147) call19 rfl) rfl rfl rfl (fun p_11 => ?_)
          refine Jcd 3 rfl (fun hp_3 css hn pf_2 => ?_)
          rw [hn]
          refine Qd 3 rfl ?_
          refine Z9 0 3 rfl rfl (by decide) (fun _ _ => Zc) (fun hp_4 hle_3 hle_4 => ?_)
          refine mv (.tuple #[.agg #[.bool t147.1.Big, sl p_11 css.l], i6 t147.2])<|lv (J9 (v := .agg #[.bool t147.1.Big, sl p_11 css.l]) rfl rfl)<|lv (J9 (v := i6 t147.2) rfl rfl)<|?_
          refine Xx (cs := [.bool false, z0s]) zeroValue34 rfl rfl rfl (fun b13 => ?_)
          refine st (i := 5) [.bool t147.1.Big, sl p_11 css.l] [.bool t147.1.Big, sl p_11 css.l] kci rfl rfl<|ag (i6 t147.2)<|Jd<|?_
          try dsimp only [z1,z2,z5,z6,z7,z8]
          refine Jc<|Ja<|mv (i6 t147.2)<|lv (Yv rfl rfl)<|Jd<|?_
          try dsimp only [z1,z2,z5,z6,z7,z8]
          revert H72
          refine ci (decide (t147.2 ≠ 0)) rfl (fun hb H73=>?_) fun hb H74=>?_
          ·refine Jc<|Ja<|mv (i6 t147.2)<|ag (str [])<|ag (i6 t147.2)<|Jd<|?_
           try dsimp only [z1,z2,z5,z6,z7,z8]
           refine Jm ?_
           obtain rfl := sj H73
           refine U9 (v1 := str []) (v2 := i6 t147.2) rfl rfl rfl (fin rfl)
          ·refine Jj<|Jc<|Ja<|mv (pz b12)<|lv (Jg rfl)<|lf Tryz.runUnderlying46 rfl kcl rfl<|ll 1 (sl p_10 n) isAgg44<|Xs (fun w hF hS => Jh9 (f := W0) (xs := l) hl kcw underlying5 kcx rfl (fun _ => rfl) (offOfW (i := 2) hS rfl)) rfl rfl rfl<|ag (str (Ja7 l))<|ag (i6 0)<|Jd<|?_
           try dsimp only [z1,z2,z5,z6,z7,z8]
           refine Jm ?_
           obtain rfl := sj H74
           refine U9 (v1 := str (Ja7 l)) (v2 := i6 0) rfl rfl rfl (fin rfl)
        ) (by kernel_rfl)
       ) (by kernel_rfl)
end Go.Proofs.YthljoadplekgnaaGreatDoor

namespace Go.Proofs.YthljoadplekgnaaGreatDoor
open Go Go.Vc Go.Md Go.M Go.Lx Tryz
set_option maxRecDepth 100000
set_option maxHeartbeats 4000000
theorem k89 {a0 : Ta} {v0_1_2 : Value} {v0_1_3 : Value} {v0_1_4 : Value} {a1 : Int} {r : Int} {w : World} {h : J1} (hw : Know h w Z0) (f0_1_2 : FrS h 1 v0_1_2 (a0.Value.kak.map J8)) (f0_1_3 : FrS h 2 v0_1_3 (a0.Value.kah.map Jl)) (f0_1_4 : FrN h 6 v0_1_4 g_tag_Entry a0.Value.kag) (H : Jco a0 a1 = some r) : Does prog 89 (List.toArray [.agg #[i6 a0.Tag, i6 a0.Value.kai, str a0.Value.kaj, v0_1_2, v0_1_3, v0_1_4], i6 a1]) w (fun v w' => v = (i6 r) ∧ Grow w w') := by
 refine enter (n := 9) func89 rfl rfl rfl Z0 [] (Sat.nil _ _)<|Jc<|Ja<|?_
 refine W1 (cs := [i6 a0.Tag, i6 a0.Value.kai, str a0.Value.kaj, v0_1_2, v0_1_3, v0_1_4]) rfl rfl rfl rfl (fun b1 => ?_)
 refine ag (i6 0)<|Jd<|Jc<|Ja<|lf Tryz.runUnderlying95 rfl kcg rfl<|ll 0 (i6 a0.Tag) kbk<|mv (i6 a1)<|?_
 obtain ⟨t8, h_t8, H2⟩ := Je H; clear H
 refine Yq (k49 h_t8) call49 rfl rfl rfl<|ag (i6 t8)<|Jd<|Jm<|?_
 obtain rfl := sj H2
 exact r1 (i6 t8)
theorem k55 {a0 : (List Ta)} {v0 : Value} {a1 : Int} {r : Int × Bool} {w : World} {h : J1} (hw : Know h w Z0) (f0 : FrN h 6 v0 g_tag_Entry a0) (H : Jb2 a0 a1 = some r) : Does prog 55 (List.toArray [v0, i6 a1]) w (fun v w' => v = (.tuple #[i6 r.1, .bool r.2]) ∧ Grow w w') := by
 refine enter (n := 11) func55 rfl rfl rfl Z0 [] (Sat.nil _ _)<|Jc<|Ja<|ag (i6 0)<|ag (.bool false)<|Jd<|Jc<|Ja<|mv v0<|mv (i6 a1)<|?_
 obtain ⟨t8, h_t8, H2⟩ := Je H; clear H
 refine Qb (fun w hF hS => k75 (Jq w) (f0.mono (hw.now hF)) (FnH.mk ⟨89, #[], #[], rfl, call89, fun args2 post2 w2 hk2 hR2 => by obtain ⟨a0_, v0_1_2_, v0_1_3_, v0_1_4_, a1_, r_, fa0_1_2_, fa0_1_3_, fa0_1_4_, rfl, H_, rfl⟩ := hR2; exact k89 (Jq w2) fa0_1_2_ fa0_1_3_ fa0_1_4_ H_⟩) h_t8) call75 rfl rfl rfl<|lv (J9 (v := i6 t8.1) rfl rfl)<|lv (J9 (v := .bool t8.2) rfl rfl)<|ag (i6 t8.1)<|ag (.bool t8.2)<|Jd<|Jm<|?_
 obtain rfl := sj H2
 refine U9 (v1 := i6 t8.1) (v2 := .bool t8.2) rfl rfl rfl (fin rfl)
theorem k22 {a0 : Th} {v0_1 : Value} {a1 : (List Int)} {v1 : Value} {r : Te × Bool} {w : World} {h : J1} (hw : Know h w Z0) (f0_1 : FrN h 1 v0_1 gs_tag_Entry a0.kap) (f1 : FrS h 1 v1 (a1.map J8)) (H : R_Got a0 a1 = some r) : Does prog 22 (List.toArray [.agg #[.bool a0.Big, v0_1], v1]) w (fun v w' => (∃ x : Value × Value × Value, v = (.tuple #[.agg #[i6 r.1.kai, str r.1.kaj, x.1, x.2.1, x.2.2], .bool r.2]) ∧ FrS h 1 x.1 (r.1.kak.map J8) ∧ FrS h 2 x.2.1 (r.1.kah.map Jl) ∧ FrN h 6 x.2.2 g_tag_Entry r.1.kag) ∧ Grow w w') := by
 refine enter (n := 74) func22 rfl rfl rfl Z0 [] (Sat.nil _ _)<|Jc<|Ja<|?_
 refine W1 (cs := [.bool a0.Big, v0_1]) rfl rfl rfl rfl (fun b4 => ?_)
 refine Xx (cs := [i6 0, str [], z0s, z0s, z0s]) zeroValue26 rfl rfl rfl (fun b5 => ?_)
 refine ag (.bool false)<|Jd<|Jc<|Jc<|?_
 exact Qk (Kd.p :: Kd.p :: Kd.p :: Kd.p :: Kd.p :: Kd.p :: Kd.d [] _ :: Kd.p :: Kd.p :: Kd.p :: Kd.p :: Kd.p :: Kd.d [] _ :: Kd.p :: Kd.d [0] _ :: Kd.p :: Kd.p :: Kd.p :: []) 0 mixed (by
  refine dm v1<|dv (Yz kcr rfl f1 rfl)<|dv (X3 rfl rfl)<|dm (.bool (decide ((a1.l : Int) < 2)))<|?_
  refine Wu (fun hb => ?_) (fun hb => ?_)
  ·have H55 := Uo hb H
   refine dp<|dp<|dp<|dp<|dv (Xz (v := .bool true) rfl rfl)<|dm (.bool true)<|dp<|dp<|dp<|dp<|dp<|dp<|dp<|dv (Xz (v := .bool true) rfl rfl)<|Xr<|Zl rfl<|Jc<|Ja<|Xb (i := 1) (vs := [i6 0, str [], z0s, z0s, z0s]) kbi kce rfl rfl rfl rfl rfl<|st (i := 1) [i6 0, str [], z0s, z0s, z0s] [i6 0, str [], z0s, z0s, z0s] kce rfl rfl<|ag (.bool false)<|Jd<|Jm<|?_
   obtain rfl := sj H55
   refine Jad (i := 1) (vs := [i6 0, str [], z0s, z0s, z0s]) (v2 := .bool false) kbi kce rfl rfl rfl rfl rfl (finC ((z0s), (z0s), (z0s)) rfl ⟨(FrS.nil _ _), (FrS.nil _ _), (FrN.nil _ _ _)⟩)
  ·have H56 := Us hb H
   refine dm v1 ?_
   have h_t16 := Jt H56
   have H57 := Jn H56
   refine dv (Xc kcr kcg rfl rfl f1 h_t16)<|W2 (fun w hF => Qw (f := J8) (i := 0) (sz := 1) (j := 0) (v := i6 (val (Zb a1 0))) kbk rfl rfl (f1.row (hw.now hF)) h_t16 rfl) rfl rfl<|dv (X3 rfl rfl)<|dv (Z1 (v := .bool (decide ((val (Zb a1 0)) < 0))) rfl rfl)<|dm (.bool (decide ((val (Zb a1 0)) < 0)))<|?_
   refine Wu (fun hb => ?_) (fun hb => ?_)
   ·have H58 := Uo hb H57
    refine dp<|dp<|dp<|dp<|dp<|dp<|dp<|dv (Xz (v := .bool true) rfl rfl)<|Xr<|Zl rfl<|Jc<|Ja<|Xb (i := 1) (vs := [i6 0, str [], z0s, z0s, z0s]) kbi kce rfl rfl rfl rfl rfl<|st (i := 1) [i6 0, str [], z0s, z0s, z0s] [i6 0, str [], z0s, z0s, z0s] kce rfl rfl<|ag (.bool false)<|Jd<|Jm<|?_
    obtain rfl := sj H58
    refine Jad (i := 1) (vs := [i6 0, str [], z0s, z0s, z0s]) (v2 := .bool false) kbi kce rfl rfl rfl rfl rfl (finC ((z0s), (z0s), (z0s)) rfl ⟨(FrS.nil _ _), (FrS.nil _ _), (FrN.nil _ _ _)⟩)
   ·have H59 := Us hb H57
    refine dm v1 ?_
    have h_t22 := Jt H59
    have H60 := Jn H59
    refine dv (Xc kcr kcg rfl rfl f1 h_t22)<|W2 (fun w hF => Qw (f := J8) (i := 0) (sz := 1) (j := 0) (v := i6 (val (Zb a1 0))) kbk rfl rfl (f1.row (hw.now hF)) h_t22 rfl) rfl rfl<|dv (J2 Tryz.runUnderlying34 rfl kch rfl rfl)<|dl v0_1 kbl<|dv (Z2 kcu rfl f0_1)<|dv (Jey rfl rfl)<|dv (Z1 (v := .bool (decide ((a0.kap.l : Int) ≤ (val (Zb a1 0))))) rfl rfl)<|Xr<|?_
    revert H60
    refine ci (decide ((a0.kap.l : Int) ≤ (val (Zb a1 0)))) rfl (fun hb H61=>?_) fun hb H62=>?_
    ·refine Jc<|Ja<|Xb (i := 1) (vs := [i6 0, str [], z0s, z0s, z0s]) kbi kce rfl rfl rfl rfl rfl<|st (i := 1) [i6 0, str [], z0s, z0s, z0s] [i6 0, str [], z0s, z0s, z0s] kce rfl rfl<|ag (.bool false)<|Jd<|Jm<|?_
     obtain rfl := sj H61
     refine Jad (i := 1) (vs := [i6 0, str [], z0s, z0s, z0s]) (v2 := .bool false) kbi kce rfl rfl rfl rfl rfl (finC ((z0s), (z0s), (z0s)) rfl ⟨(FrS.nil _ _), (FrS.nil _ _), (FrN.nil _ _ _)⟩)
    ·refine Jj<|Jc<|?_
     exact Qk (Kd.p :: Kd.d [0] _ :: Kd.p :: Kd.p :: Kd.d [] _ :: Kd.p :: Kd.d [] _ :: Kd.p :: []) 0 mixed (by
      refine dv (J2 Tryz.runUnderlying34 rfl kch rfl rfl)<|dl v0_1 kbl<|dm v1<|?_
      have h_t33 := Jt H62
      have H63 := Jn H62
      refine dv (Xc kcr kcg rfl rfl f1 h_t33)<|W2 (fun w hF => Qw (f := J8) (i := 0) (sz := 1) (j := 0) (v := i6 (val (Zb a1 0))) kbk rfl rfl (f1.row (hw.now hF)) h_t33 rfl) rfl rfl<|?_
      have h_t35 := Jt H63
      have H64 := Jn H63
      refine dv (Xc kcu kcd rfl rfl f0_1.frs (f0_1.ix h_t35))<|W2 (fun w hF => Qw (f := (elC h v0_1 1)) (i := (val (Zb a1 0))) (sz := 1) (j := 0) (v := (Xd h v0_1 1 (Int.toNat (val (Zb a1 0))) 0)) kbh rfl rfl (f0_1.frs.row (hw.now hF)) (f0_1.ix h_t35) (Jea (Jan (f0_1.at h_t35)) rfl)) rfl rfl<|Qv rfl rfl (Jz (v := (Xd h v0_1 1 (Int.toNat (val (Zb a1 0))) 0)) rfl)<|Xr<|?_
      refine Qg (r := r) (σ := Int × (List UInt8) × (List Int) × (List Tg) × (List Ta)) (τ := Value × Value × Value) (fun s => Jjn s.1 s.2.1 s.2.2.1 s.2.2.2.1 s.2.2.2.2) (fun s t => [(4, pz b5)]) (fun s t => [Jf b5 [i6 s.1, str s.2.1, t.1, t.2.1, t.2.2] 26]) (fun s t => FrS h 1 t.1 (s.2.2.1.map J8) ∧ FrS h 2 t.2.1 (s.2.2.2.1.map Jl) ∧ FrN h 6 t.2.2 g_tag_Entry s.2.2.2.2) ?_ ?_
      ·refine Jc<|Ja<|mv v1<|?_
       obtain ⟨t38, h_t38, H66⟩ := Je H64; clear H64
       refine lv (r_sliceLF kcr kcg rfl rfl f1 h_t38)<|lv (Yz kcr rfl (f1.cut h_t38) rfl)<|mv (i6 0)<|Jd<|Jx<|Jcv 0<|?_
       try dsimp only [z1, z2, z3, z4, z5, z6, z7, z8]
       refine Za (σ := (List Ta) × Int × Int × (List UInt8) × (List Int) × (List Tg) × (List Ta)) (τ := Value × Value × Value × Value) (fun next2 s => Ur a1 t38 next2 s.1 s.2.1 s.2.2.1 s.2.2.2.1 s.2.2.2.2.1 s.2.2.2.2.2.1 s.2.2.2.2.2.2) (fun s t => [(1, v1), (4, pz b5), (6, t.1), (38, (cutV 1 v1 1 a1.l)), (39, i6 (t38.l : Int)), (40, i6 s.2.1)]) (fun s t => [Jf b5 [i6 s.2.2.1, str s.2.2.2.1, t.2.1, t.2.2.1, t.2.2.2] 26]) (fun s t => FrN h 6 t.1 g_tag_Entry s.1 ∧ FrS h 1 t.2.1 (s.2.2.2.2.1.map J8) ∧ FrS h 2 t.2.2.1 (s.2.2.2.2.2.1.map Jl) ∧ FrN h 6 t.2.2.2 g_tag_Entry s.2.2.2.2.2.2) ((val (Zb a0.kap (val (Zb a1 0)))), 0, 0, [], ([] : (List Int)), ([] : (List Tg)), ([] : (List Ta))) ((Xd h v0_1 1 (Int.toNat (val (Zb a1 0))) 0), (z0s), (z0s), (z0s)) [0] H66 (by exact ⟨(show FrN h 6 (Xd h v0_1 1 (Int.toNat (val (Zb a1 0))) 0) g_tag_Entry (val (Zb a0.kap (val (Zb a1 0)))) from (f0_1.at h_t35)), (FrS.nil _ _), (FrS.nil _ _), (FrN.nil _ _ _)⟩) (by exact ⟨rfl, rfl, rfl, rfl, rfl, rfl, trivial⟩) (by decide) rfl ?_
       rintro ⟨x6_2, x40_2, m_11, m_12, m_13, m_14, m_15⟩ ⟨gv_4, gv_5, gv_6, gv_7⟩ m2 gg H67 ⟨gf_8, gf_9, gf_10, gf_11⟩
       clear H66
       try dsimp only at H67
       generalize hn2 : it (fun next2 s => Ur a1 t38 next2 s.1 s.2.1 s.2.2.1 s.2.2.2.1 s.2.2.2.2.1 s.2.2.2.2.2.1 s.2.2.2.2.2.2) m2 = next2 at H67
       try dsimp only
       refine Jc<|Ja<|lv (X3 rfl rfl)<|Jd<|Jc<|?_
       revert H67
       refine ci (decide (x40_2 < (t38.l : Int))) rfl (fun hb H68=>?_) fun hb H81=>?_
       ·refine Jj<|Jc<|Jx<|Jc<|Ja<|mv (i6 x40_2)<|?_
        obtain ⟨t43, h_t43, H69⟩ := Je H68; clear H68
        refine lv (Xc kcr kcg rfl rfl (f1.cut h_t38) h_t43)<|Xs (fun w hF hS => Qw (f := J8) (i := x40_2) (sz := 1) (j := 0) (v := i6 t43) kbk rfl rfl ((f1.cut h_t38).row (hw.now hF)) h_t43 rfl) rfl rfl rfl<|ag (i6 x40_2)<|ag (i6 t43)<|Jd<|Jc<|Ja<|mv gv_4<|mv (i6 t43)<|?_
        obtain ⟨t48, h_t48, H70⟩ := Je H69; clear H69
        refine Qb (fun w hF hS => k55 (Jq w) (gf_8.mono (hw.now hF)) h_t48) call55 rfl rfl rfl<|mv (.tuple #[i6 t48.1, .bool t48.2])<|lv (J9 (v := i6 t48.1) rfl rfl)<|lv (J9 (v := .bool t48.2) rfl rfl)<|ag (i6 t48.1)<|ag (.bool t48.2)<|Jd<|Jc<|Jc<|Ja<|mv (.bool t48.2)<|lv (Ja6 rfl)<|Jd<|?_
        revert H70
        refine ci (!t48.2) rfl (fun hb H71=>?_) fun hb H72=>?_
        ·refine Jc<|Ja<|lv (Xf (pl := #[(0, 1), (1, 1), (2, 1), (3, 1), (4, 1)]) (ps := []) (cells := #[i6 0, str [], z0s, z0s, z0s]) zeroValue26 Tryz.runUnderlying26 (fun w => by kernel_rfl) rfl rfl)<|st (i := 0) [i6 0, str [], z0s, z0s, z0s] [i6 0, str [], z0s, z0s, z0s] kce rfl rfl<|ag (.bool false)<|Jd<|Jm<|?_
         obtain rfl := sj H71
         refine Jad (i := 0) (vs := [i6 0, str [], z0s, z0s, z0s]) (v2 := .bool false) kbi kce rfl rfl rfl rfl rfl (finC ((z0s), (z0s), (z0s)) rfl ⟨(FrS.nil _ _), (FrS.nil _ _), (FrN.nil _ _ _)⟩)
        ·refine Jj<|Jc<|Ja<|mv gv_4<|mv (i6 t48.1)<|?_
         obtain ⟨t56, h_t56, H73⟩ := Je H72; clear H72
         refine lv (Xc kct kco rfl rfl gf_8.frs (gf_8.ix h_t56))<|lv (Jd0 Tryz.runUnderlying95 rfl kce rfl rfl (Jc9 gf_8.frs (gf_8.ix h_t56)))<|Xs (fun w hF hS => Z5 (f := (elC h gv_4 6)) (i := t48.1) (sz := 6) (j := 1) (vs := [i6 t56.Value.kai, str t56.Value.kaj, (Xd h gv_4 6 (Int.toNat t48.1) 3), (Xd h gv_4 6 (Int.toNat t48.1) 4), (Xd h gv_4 6 (Int.toNat t48.1) 5)]) kbi kce rfl rfl (gf_8.frs.row (hw.now hF)) (gf_8.ix h_t56) (rd_of (Yd (gf_8.at h_t56)) rfl)) rfl rfl rfl<|Wz (i := 0) (vs := [i6 t56.Value.kai, str t56.Value.kaj, (Xd h gv_4 6 (Int.toNat t48.1) 3), (Xd h gv_4 6 (Int.toNat t48.1) 4), (Xd h gv_4 6 (Int.toNat t48.1) 5)]) (cs' := [i6 t56.Value.kai, str t56.Value.kaj, (Xd h gv_4 6 (Int.toNat t48.1) 3), (Xd h gv_4 6 (Int.toNat t48.1) 4), (Xd h gv_4 6 (Int.toNat t48.1) 5)]) kce rfl rfl rfl rfl rfl rfl (by simp only [List.all_cons, List.all_nil, (show FrN h 6 (Xd h gv_4 6 (Int.toNat t48.1) 5) g_tag_Entry t56.Value.kag from (Qm (Jo (gf_8.at h_t56)))).one, (show FrS h 1 (Xd h gv_4 6 (Int.toNat t48.1) 3) (t56.Value.kak.map J8) from (Q0 (Jo (gf_8.at h_t56)))).one, (show FrS h 2 (Xd h gv_4 6 (Int.toNat t48.1) 4) (t56.Value.kah.map Jl) from (Q1 (Jo (gf_8.at h_t56)))).one] <;> rfl) rfl rfl<|Jd<|?_
         refine Qg (r := r) (σ := Unit) (τ := Unit) (fun s => Jhk x40_2 next2 t56) (fun s t => [(1, v1), (4, pz b5), (38, (cutV 1 v1 1 a1.l)), (39, i6 (t38.l : Int)), (40, i6 x40_2)]) (fun s t => [Jf b5 [i6 t56.Value.kai, str t56.Value.kaj, (Xd h gv_4 6 (Int.toNat t48.1) 3), (Xd h gv_4 6 (Int.toNat t48.1) 4), (Xd h gv_4 6 (Int.toNat t48.1) 5)] 26]) (fun s t => True) ?_ ?_
         ·refine Jc<|Ja<|mv (i6 x40_2)<|mv v1<|lv (Yz kcr rfl f1 rfl)<|?_
          obtain ⟨t62, h_t62, H76⟩ := Je H73; clear H73
          refine lv (Zs rfl rfl h_t62)<|lv (X3 rfl rfl)<|mv (.bool (decide (x40_2 < t62)))<|?_
          revert H76
          refine sp (fun hb H77=>?_) fun hb H80=>?_
          ·refine lf Tryz.runUnderlying26 rfl kcg rfl<|ll 0 (i6 t56.Value.kai) kbk<|lv (Yv rfl rfl)<|pT (.bool (decide (t56.Value.kai ≠ 13)))<|Jd<|?_
           revert H77
           refine ci (decide (t56.Value.kai ≠ 13)) rfl (fun hb H78=>?_) fun hb H79=>?_
           ·refine Jc<|Ja<|lv (Xf (pl := #[(0, 1), (1, 1), (2, 1), (3, 1), (4, 1)]) (ps := []) (cells := #[i6 0, str [], z0s, z0s, z0s]) zeroValue26 Tryz.runUnderlying26 (fun w => by kernel_rfl) rfl rfl)<|st (i := 0) [i6 0, str [], z0s, z0s, z0s] [i6 0, str [], z0s, z0s, z0s] kce rfl rfl<|ag (.bool false)<|Jd<|Jm<|?_
            obtain rfl := sj H78
            refine Jad (i := 0) (vs := [i6 0, str [], z0s, z0s, z0s]) (v2 := .bool false) kbi kce rfl rfl rfl rfl rfl (finC ((z0s), (z0s), (z0s)) rfl ⟨(FrS.nil _ _), (FrS.nil _ _), (FrN.nil _ _ _)⟩)
           ·refine Jj ?_
            exact cl () () 0 [0] (by exact ⟨H79, trivial⟩)
          ·refine pa<|pa<|pa<|pF (.bool false)<|Jd<|Zz rfl<|Jj<|?_
           exact cl () () 0 [0] (by exact ⟨H80, trivial⟩)
         ·rintro _ _ gg H74 _
          try dsimp only at H74
          try dsimp only
          refine Ja<|lf Tryz.runUnderlying26 rfl kcd rfl<|ll 0 (Xd h gv_4 6 (Int.toNat t48.1) 5) kbh<|ag ((Xd h gv_4 6 (Int.toNat t48.1) 5))<|Jd<|Ja<|?_
          obtain ⟨t72, h_t72, H75⟩ := Je H74; clear H74
          refine lv (Jy rfl rfl h_t72)<|mv (i6 t72)<|Jd<|?_
          exact cl (t56.Value.kag, t72, t56.Value.kai, t56.Value.kaj, t56.Value.kak, t56.Value.kah, t56.Value.kag) ((Xd h gv_4 6 (Int.toNat t48.1) 5), (Xd h gv_4 6 (Int.toNat t48.1) 3), (Xd h gv_4 6 (Int.toNat t48.1) 4), (Xd h gv_4 6 (Int.toNat t48.1) 5)) m2 [0] (by exact ⟨(by subst hn2; exact H75), ⟨(show FrN h 6 (Xd h gv_4 6 (Int.toNat t48.1) 5) g_tag_Entry t56.Value.kag from (Qm (Jo (gf_8.at h_t56)))), (show FrS h 1 (Xd h gv_4 6 (Int.toNat t48.1) 3) (t56.Value.kak.map J8) from (Q0 (Jo (gf_8.at h_t56)))), (show FrS h 2 (Xd h gv_4 6 (Int.toNat t48.1) 4) (t56.Value.kah.map Jl) from (Q1 (Jo (gf_8.at h_t56)))), (show FrN h 6 (Xd h gv_4 6 (Int.toNat t48.1) 5) g_tag_Entry t56.Value.kag from (Qm (Jo (gf_8.at h_t56))))⟩⟩)
       ·refine Xj ?_
        exact cl (m_11, m_12, m_13, m_14, m_15) (gv_5, gv_6, gv_7) 0 [0] (by exact ⟨H81, ⟨gf_9, gf_10, gf_11⟩⟩)
      ·rintro ⟨m, m_2, m_3, m_4, m_5⟩ ⟨gv, gv_2, gv_3⟩ gg H65 ⟨gf, gf_2, gf_3⟩
       try dsimp only at H65
       try dsimp only
       refine Jc<|Ja<|Xb (i := 0) (vs := [i6 m, str m_2, gv, gv_2, gv_3]) kbi kce rfl rfl rfl rfl rfl<|Wz (i := 0) (vs := [i6 m, str m_2, gv, gv_2, gv_3]) (cs' := [i6 m, str m_2, gv, gv_2, gv_3]) kce rfl rfl rfl rfl rfl rfl (by simp only [List.all_cons, List.all_nil, gf.one, gf_2.one, gf_3.one] <;> rfl) rfl rfl<|ag (.bool true)<|Jd<|Jm<|?_
       obtain rfl := sj H65
       refine Jad (i := 0) (vs := [i6 m, str m_2, gv, gv_2, gv_3]) (v2 := .bool true) kbi kce rfl rfl rfl rfl rfl (finC (gv, gv_2, gv_3) rfl ⟨gf, gf_2, gf_3⟩)
      ) (by kernel_rfl)
  ) (by kernel_rfl)
theorem k56 {a0 : List (List UInt8)} {a1 : (List UInt8)} {v0 : Value} {r : (List UInt8)} {w : World} {h : J1} (hw : Know h w Z0) (f0 : FrS h 1 v0 (a0.map Jfh)) (H : gJoin a0 a1 = some r) : Does prog 56 (List.toArray [v0, str a1]) w (fun v w' => v = (str r) ∧ Grow w w') :=
  join_does (ρ := Go.Proofs.Tryz.lays156_ren) Go.Proofs.Tryz.lays156 Go.Proofs.Tryz.Builder_Extra_156 hw f0 H
theorem k23 {a0 : (List Int)} {v0 : Value} {r : (List UInt8)} {w : World} {h : J1} (hw : Know h w Z0) (f0 : FrS h 1 v0 (a0.map J8)) (tb_pow10 : TabH prog h "internal/strconv.uint64pow10" .u64 Lib.pow10Tab) (H : Q3 a0 = some r) : Does prog 23 (List.toArray [v0]) w (fun v w' => v = (str r) ∧ Grow w w') := by
 refine enter (n := 20) func23 rfl rfl rfl Z0 [] (Sat.nil _ _)<|Jc<|Ja<|ag (str [])<|Jd<|Jc<|Ja<|ag (z0s)<|Jd<|?_
 refine Qg (r := r) (σ := (List (List UInt8))) (τ := AN) (fun s => Jg0 s) (fun s t => [(3, sl t s.l)]) (fun s t => [J4 9 1 (sl t s.l) s.l (s.map Jfh)]) (fun s t => True) ?_ ?_
 ·refine Jc<|Ja<|mv v0<|lv (Yz kcr rfl f0 rfl)<|mv (i6 0)<|Jd<|Jx<|Jp 9 1<|?_
  refine Za (σ := Int × (List (List UInt8))) (τ := AN) (fun next2 s => Jcp a0 next2 s.1 s.2) (fun s t => [(3, sl t s.2.l), (6, v0), (7, i6 (a0.l : Int)), (8, i6 s.1)]) (fun s t => [J4 9 1 (sl t s.2.l) s.2.l (s.2.map Jfh)]) (fun s t => True) (0, ([] : List (List UInt8))) nn [0] H (by exact trivial) (by exact ⟨rfl, rfl, rfl, rfl, trivial⟩) (by decide) rfl ?_
  rintro ⟨x8_2, l_3⟩ p_2 m2 gg H12 _
  clear H
  try dsimp only at H12
  generalize hn2 : it (fun next2 s => Jcp a0 next2 s.1 s.2) m2 = next2 at H12
  try dsimp only
  refine Jc<|Ja<|lv (X3 rfl rfl)<|Jd<|Jc<|?_
  revert H12
  refine ci (decide (x8_2 < (a0.l : Int))) rfl (fun hb H13=>?_) fun hb H18=>?_
  ·refine Jj<|Jc<|Jx<|Jc<|Ja<|?_
   obtain ⟨t10, h_t10, H14⟩ := Je H13; clear H13
   refine lv (Xc kcr kcg rfl rfl f0 h_t10)<|Xs (fun w hF hS => Qw (f := J8) (i := x8_2) (sz := 1) (j := 0) (v := i6 t10) kbk rfl rfl (f0.row (hw.now hF)) h_t10 rfl) rfl rfl rfl<|ag (i6 t10)<|Jd<|Ja<|mv (sl p_2 l_3.l)<|mv (i6 t10)<|?_
   obtain ⟨t14, h_t14, H15⟩ := Je H14; clear H14
   refine Qb (fun w hF hS => k47 (Jq w) (tb_pow10.mono (hw.now hF)) h_t14) call47 rfl rfl rfl ?_
   refine Q5 (vs := [str t14]) (cs := [str t14]) underlying106 kcn zeroValue9 rfl rfl rfl rfl rfl rfl rfl (fun b1 => ?_)
   obtain ⟨l16, h_l16, H16⟩ := Je H15; clear H15
   refine Qh (Yg (i := 0) (hn := rfl) (rds := [1]) (p := p_2) (sz := 1) (by_ := 16) (f := Jfh) (ys := l_3) (ls := ([t14] : List (List UInt8))) (V := .slice (some ⟨b1, 0, none⟩) 1 1) underlying106 (X0 typeInfo9) rfl rfl rfl rfl rfl rfl rfl rfl rfl rfl (fun w L' hF hS hi => Wy (i := 1) hS ((hi 1 (by simp)).trans rfl) rfl rfl) (fun _ => rfl) (fun _ => rfl) h_l16) rfl rfl rfl (fun p_3 => ?_)
   refine ag (sl p_3 l16.l)<|Jd<|Ja<|?_
   obtain ⟨t17, h_t17, H17⟩ := Je H16; clear H16
   refine lv (Jy rfl rfl h_t17)<|mv (i6 t17)<|Jd<|?_
   exact cl (t17, l16) p_3 m2 [0] (by exact ⟨(by subst hn2; exact H17), trivial⟩)
  ·refine Xj ?_
   exact cl l_3 p_2 0 [0] (by exact ⟨H18, trivial⟩)
 ·rintro l p gg H10 _
  try dsimp only at H10
  try dsimp only
  refine Jc<|Ja<|mv (sl p l.l)<|?_
  obtain ⟨t19, h_t19, H11⟩ := Je H10; clear H10
  refine Qb (fun w hF hS => k56 (Jq w) (Xl (i := 0) rfl hS rfl) h_t19) call56 rfl rfl rfl<|ag (str t19)<|Jd<|Jm<|?_
  obtain rfl := sj H11
  exact r1 (str t19)
theorem k29 {a0 : (List UInt8)} {r : Th × Int} {w : World} {h : J1} (hw : Know h w Z0) (tb_pow10 : TabH prog h "internal/strconv.uint64pow10" .u64 Lib.pow10Tab) (H : Jeo a0 = some r) : Does prog 29 (List.toArray [str a0]) w (fun v w' => ∃ x : AN, v = (.tuple #[.agg #[.bool r.1.Big, sl x r.1.kap.l], i6 r.2]) ∧ Turn w w' Z0 (Uj 24 1 gs_tag_Entry (sl x r.1.kap.l) r.1.kap.l r.1.kap)) := by
 refine enter (n := 12) func29 rfl rfl rfl Z0 [] (Sat.nil _ _)<|Jc<|Ja<|?_
 refine Xx (cs := [.bool false, z0s]) zeroValue34 rfl rfl rfl (fun b2 => ?_)
 refine ag (i6 0)<|Jd<|Jc<|Ja<|mv (str a0)<|lv (Xf (pl := #[(0, 1), (1, 1), (2, 1), (3, 1), (4, 1)]) (ps := [(0, str a0)]) (cells := #[str a0, .bool false, .map none, z0s, .map none]) zeroValue59 Tryz.runUnderlying59 (fun w => by kernel_rfl) rfl rfl)<|?_
 refine W1 (cs := [str a0, .bool false, .map none, z0s, .map none]) rfl rfl rfl rfl (fun b3 => ?_)
 refine ag (pz b3)<|Jd<|Jc<|Ja<|mv (pz b3)<|Jp 82 2<|bo 1 2 rfl rfl<|?_
 refine l_turnK (i := 1) (rds := []) (G := fun (t9 : Th × Int × Tf) (x : AN × Nat × AN × Nat) => .tuple #[.agg #[.bool t9.1.Big, .slice x.1.1 t9.1.kap.l x.1.2], i6 t9.2.1]) (C := fun (t9 : Th × Int × Tf) (x : AN × Nat × AN × Nat) => Jw (Jf b3 [str t9.2.2.s_, .bool t9.2.2.kab, .map (some x.2.1), .slice x.2.2.1.1 t9.2.2.kaa.l x.2.2.1.2, .map (some x.2.2.2)] 59) (Jw (Qt i6 Value.bool x.2.1 t9.2.2.kam) (Jw (J4 82 2 (.slice x.2.2.1.1 t9.2.2.kaa.l x.2.2.1.2) t9.2.2.kaa.l (t9.2.2.kaa.map Jh)) (Jw (Qt str (fun x_ : Td => .agg #[i6 x_.kal, i6 x_.kan, i6 x_.to_]) x.2.2.2 t9.2.2.kaf) (Uj 24 1 gs_tag_Entry (.slice x.1.1 t9.1.kap.l x.1.2) t9.1.kap.l t9.1.kap))))) rfl (fun w L' S hF hS hi hp hlt ho hA => k20 (a0 := (⟨a0, false, ([] : (List (Int × Bool))), ([] : List Tc), ([] : (List ((List UInt8) × Td)))⟩ : Tf)) (p0_3 := nn) hp hlt (J7 w S) rfl (tb_pow10.mono (hw.but hF ho)) H) call20 rfl rfl rfl (fun t9 ⟨p, p_2, p_3, p_4⟩ H2 => ?_)
 clear H
 refine ub 1 2 rfl rfl<|Qd 2 rfl<|Qd 3 rfl<|Qd 4 rfl<|lv (J9 (v := .agg #[.bool t9.1.Big, sl p t9.1.kap.l]) rfl rfl)<|lv (J9 (v := i6 t9.2.1) rfl rfl)<|st (i := 0) [.bool t9.1.Big, sl p t9.1.kap.l] [.bool t9.1.Big, sl p t9.1.kap.l] kci rfl rfl<|ag (i6 t9.2.1)<|Jd<|Jm<|?_
 obtain rfl := sj H2
 refine Jad (i := 0) (vs := [.bool t9.1.Big, sl p t9.1.kap.l]) (v2 := i6 t9.2.1) kbm kci rfl rfl rfl rfl rfl (Y0 p (i := 5) rfl rfl (Imp.refl _))
theorem k5 {a0 : (List UInt8)} {a1 : (List Int)} {v1 : Value} {a2 : Te} {v2_2 : Value} {v2_3 : Value} {v2_4 : Value} {r : (List UInt8) × Int} {w : World} {h : J1} (hw : Know h w Z0) (f1 : FrS h 1 v1 (a1.map J8)) (f2_2 : FrS h 1 v2_2 (a2.kak.map J8)) (f2_3 : FrS h 2 v2_3 (a2.kah.map Jl)) (f2_4 : FrN h 6 v2_4 g_tag_Entry a2.kag) (tb_pow10 : TabH prog h "internal/strconv.uint64pow10" .u64 Lib.pow10Tab) (H : Jbu a0 a1 a2 = some r) : Does prog 5 (List.toArray [str a0, v1, .agg #[i6 a2.kai, str a2.kaj, v2_2, v2_3, v2_4]]) w (fun v w' => v = (.tuple #[str r.1, i6 r.2]) ∧ Grow w w') := by
 refine enter (n := 175) func5 rfl rfl rfl Z0 [] (Sat.nil _ _)<|X8 h<|Jc<|Ja<|?_
 refine W1 (cs := [i6 a2.kai, str a2.kaj, v2_2, v2_3, v2_4]) rfl rfl rfl rfl (fun b7 => ?_)
 refine ag (str [])<|ag (i6 0)<|Jd<|Jc<|Ja<|mv (str a0)<|lv (Xf (pl := #[(0, 1), (1, 1), (2, 1), (3, 1), (4, 1)]) (ps := [(0, str a0)]) (cells := #[str a0, .bool false, .map none, z0s, .map none]) zeroValue59 Tryz.runUnderlying59 (fun w => by kernel_rfl) rfl rfl)<|?_
 refine W1 (cs := [str a0, .bool false, .map none, z0s, .map none]) rfl rfl rfl rfl (fun b8 => ?_)
 refine ag (pz b8)<|Jd<|Jc<|?_
 try dsimp only [z1,z2,z5,z6,z7,z8]
 refine Ja<|mv (pz b8)<|Jp 82 2<|bo 2 3 rfl rfl<|?_
 refine l_turnK (i := 2) (rds := []) (G := fun (t25 : Th × Int × Tf) (x : AN × Nat × AN × Nat) => .tuple #[.agg #[.bool t25.1.Big, .slice x.1.1 t25.1.kap.l x.1.2], i6 t25.2.1]) (C := fun (t25 : Th × Int × Tf) (x : AN × Nat × AN × Nat) => Jw (Jf b8 [str t25.2.2.s_, .bool t25.2.2.kab, .map (some x.2.1), .slice x.2.2.1.1 t25.2.2.kaa.l x.2.2.1.2, .map (some x.2.2.2)] 59) (Jw (Qt i6 Value.bool x.2.1 t25.2.2.kam) (Jw (J4 82 2 (.slice x.2.2.1.1 t25.2.2.kaa.l x.2.2.1.2) t25.2.2.kaa.l (t25.2.2.kaa.map Jh)) (Jw (Qt str (fun x_ : Td => .agg #[i6 x_.kal, i6 x_.kan, i6 x_.to_]) x.2.2.2 t25.2.2.kaf) (Uj 24 1 gs_tag_Entry (.slice x.1.1 t25.1.kap.l x.1.2) t25.1.kap.l t25.1.kap))))) rfl (fun w L' S hF hS hi hp hlt ho hA => k20 (a0 := (⟨a0, false, ([] : (List (Int × Bool))), ([] : List Tc), ([] : (List ((List UInt8) × Td)))⟩ : Tf)) (p0_3 := nn) hp hlt (J7 w S) rfl (tb_pow10.mono (hw.but hF ho)) H) call20 rfl rfl rfl (fun t25 ⟨p, p_2, p_3, p_4⟩ H49 => ?_)
 clear H
 refine ub 2 3 rfl rfl<|Qd 3 rfl<|Qd 4 rfl<|Qd 5 rfl<|mv (.tuple #[.agg #[.bool t25.1.Big, sl p t25.1.kap.l], i6 t25.2.1])<|lv (J9 (v := .agg #[.bool t25.1.Big, sl p t25.1.kap.l]) rfl rfl)<|lv (J9 (v := i6 t25.2.1) rfl rfl)<|?_
 refine Xx (cs := [.bool false, z0s]) zeroValue34 rfl rfl rfl (fun b9 => ?_)
 refine st (i := 7) [.bool t25.1.Big, sl p t25.1.kap.l] [.bool t25.1.Big, sl p t25.1.kap.l] kci rfl rfl<|ag (i6 t25.2.1)<|Jd<|Jc<|Jc<|?_
 try dsimp only [z1,z2,z5,z6,z7,z8]
 refine Ja<|mv (i6 t25.2.1)<|lv (Yv rfl rfl)<|Jd<|?_
 revert H49
 refine ci (decide (t25.2.1 ≠ 0)) rfl (fun hb H50=>?_) fun hb H51=>?_
 ·refine Jc<|Ja<|mv (i6 t25.2.1)<|ag (str [])<|ag (i6 t25.2.1)<|Jd<|Jm<|?_
  obtain rfl := sj H50
  refine U9 (v1 := str []) (v2 := i6 t25.2.1) rfl rfl rfl (fin rfl)
 ·refine Jj<|Jc<|Jc<|Ja<|Xb (i := 1) (vs := [i6 a2.kai, str a2.kaj, v2_2, v2_3, v2_4]) kbi kce rfl rfl rfl rfl rfl<|?_
  obtain ⟨t32, h_t32, H52⟩ := Je H51; clear H51
  refine Qb (fun w hF hS => k21q (Jq w) (f2_2.mono (hw.now hF)) (f2_3.mono (hw.now hF)) (f2_4.mono (hw.now hF)) h_t32) call21 rfl rfl rfl<|ag (i6 t32)<|Jd<|Jc<|Ja<|mv (i6 t32)<|lv (Yv rfl rfl)<|Jd<|?_
  revert H52
  refine ci (decide (t32 ≠ 0)) rfl (fun hb H53=>?_) fun hb H54=>?_
  ·refine Jc<|Ja<|mv (i6 t32)<|ag (str [])<|ag (i6 t32)<|Jd<|Jm<|?_
   obtain rfl := sj H53
   refine U9 (v1 := str []) (v2 := i6 t32) rfl rfl rfl (fin rfl)
  ·refine Jj<|Jc<|Ja<|Xb (i := 7) (vs := [.bool t25.1.Big, sl p t25.1.kap.l]) kbm kci rfl rfl rfl rfl rfl<|mv v1<|?_
   obtain ⟨t39, h_t39, H55⟩ := Je H54; clear H54
   refine Jcd 6 rfl (fun hp css hn pf => ?_)
   rw [hn]
   try dsimp only [z1,z2,z5,z6,z7,z8]
   refine Qd 6 rfl ?_
   try dsimp only [z1,z2,z5,z6,z7,z8]
   refine Z9 0 6 rfl rfl (by decide) (fun w hF => hw.now hF) (fun hp_2 hle hle_2 => ?_)
   try dsimp only [z1,z2,z5,z6,z7,z8]
   refine Uc (Φ := fun H_ => FrS H_ 1 (sl p css.l) (css.map idC)) 0 8 rfl rfl (by decide) (fun w hF => hw.now hF) (Jb9 _) (fun hp_3 hle_3 hf => ?_)
   refine c_poolLe 0 rfl (fun hle_4 => ?_)
   refine l_callC (σ := Value × Value × Value) (G := fun x => .tuple #[.agg #[i6 t39.1.kai, str t39.1.kaj, x.1, x.2.1, x.2.2], .bool t39.2]) (Φ := fun x => FrS hp_3 1 x.1 (t39.1.kak.map J8) ∧ FrS hp_3 2 x.2.1 (t39.1.kah.map Jl) ∧ FrN hp_3 6 x.2.2 g_tag_Entry t39.1.kag) (fun w hF hS => k22 (h := hp_3) (know_pool (i := 0) hS rfl (hw.now hF)) (Ja8 (xs := t25.1.kap) hf ((pf.mono hle_2).mono hle_3)) (f1.mono hle_4) h_t39) call22 rfl rfl rfl (fun ⟨pv, pv_2, pv_3⟩ hp_4 => ?_)
   refine mv (.tuple #[.agg #[i6 t39.1.kai, str t39.1.kaj, pv, pv_2, pv_3], .bool t39.2])<|lv (J9 (v := .agg #[i6 t39.1.kai, str t39.1.kaj, pv, pv_2, pv_3]) rfl rfl)<|lv (J9 (v := .bool t39.2) rfl rfl)<|?_
   refine Xx (cs := [i6 0, str [], z0s, z0s, z0s]) zeroValue26 rfl rfl rfl (fun b10 => ?_)
   refine Wz (i := 9) (vs := [i6 t39.1.kai, str t39.1.kaj, pv, pv_2, pv_3]) (cs' := [i6 t39.1.kai, str t39.1.kaj, pv, pv_2, pv_3]) kce rfl rfl rfl rfl rfl rfl (by simp only [List.all_cons, List.all_nil, hp_4.1.one, hp_4.2.1.one, hp_4.2.2.one] <;> rfl) rfl rfl<|ag (.bool t39.2)<|Jd<|Jc<|Jc<|?_
   try dsimp only [z1,z2,z5,z6,z7,z8]
   refine Ja<|mv (.bool t39.2)<|lv (Ja6 rfl)<|Jd<|?_
   revert H55
   refine ci (!t39.2) rfl (fun hb H56=>?_) fun hb H57=>?_
   ·refine Jc<|Ja<|ag (str [])<|ag (i6 7)<|Jd<|Jm<|?_
    obtain rfl := sj H56
    refine U9 (v1 := str []) (v2 := i6 7) rfl rfl rfl (fin rfl)
   ·refine Jj<|Jc<|Jc<|Ja<|lf Tryz.runUnderlying26 rfl kcg rfl<|ll 9 (i6 t39.1.kai) kbk<|lv (Qj rfl rfl)<|mv (.bool (decide (t39.1.kai = 13)))<|?_
    revert H57
    refine sp (fun hb H58=>?_) fun hb H59=>?_
    ·refine pa<|pa<|pa<|pT (.bool true)<|Jd<|Zl rfl<|Jc<|Ja<|ag (str [])<|ag (i6 10)<|Jd<|Jm<|?_
     obtain rfl := sj H58
     refine U9 (v1 := str []) (v2 := i6 10) rfl rfl rfl (fin rfl)
    ·refine lf Tryz.runUnderlying26 rfl kcg rfl<|ll 1 (i6 a2.kai) kbk<|lv (Qj rfl rfl)<|pF (.bool (decide (a2.kai = 13)))<|Jd<|?_
     revert H59
     refine ci (decide (a2.kai = 13)) rfl (fun hb H60=>?_) fun hb H61=>?_
     ·refine Jc<|Ja<|ag (str [])<|ag (i6 10)<|Jd<|Jm<|?_
      obtain rfl := sj H60
      refine U9 (v1 := str []) (v2 := i6 10) rfl rfl rfl (fin rfl)
     ·refine Jj<|Jc<|?_
      exact Qk (Kd.p :: Kd.p :: Kd.p :: Kd.d [2] _ :: Kd.p :: Kd.d [0] _ :: Kd.d [5] _ :: Kd.nw 10 [_, _, _] 64 :: Kd.st 14 10 [_, _, _] 64 :: []) 1 mixed (by
       refine dm (pz b8)<|dv (Jg rfl)<|dv (J2 Tryz.runUnderlying59 rfl sizeOf57 rfl rfl)<|dl (.map (some p_4)) isAgg57<|dm v1<|?_
       have h_t57 := Jt H61
       have H62 := Jn H61
       refine Jar (fun w L' hF hS hi => k23 (Jq w) (f1.mono (hw.now hF)) (tb_pow10.mono (hw.now hF)) h_t57) call23 rfl rfl<|Um (fun w L' hF hS hi => Jeq (i := 5) (fk := str) (fv := (fun x_ : Td => .agg #[i6 x_.kal, i6 x_.kan, i6 x_.to_])) (k := (val (Q3 a1))) (z := (⟨0, 0, 0⟩ : Td)) Ji0 underlying57 kcx zeroValue64 rfl rfl hS ((hi 5 (by simp)).trans rfl)) rfl rfl<|?_
       refine d_new rfl rfl (run_alloc (cs := [i6 0, i6 0, i6 0]) zeroValue64 rfl) rfl (fun b11 => ?_)
       refine Jfy (i := 10) (vs := [i6 (((Q2 t25.2.2.kaf (val (Q3 a1))).getD (⟨0, 0, 0⟩ : Td)).kal), i6 (((Q2 t25.2.2.kaf (val (Q3 a1))).getD (⟨0, 0, 0⟩ : Td)).kan), i6 (((Q2 t25.2.2.kaf (val (Q3 a1))).getD (⟨0, 0, 0⟩ : Td)).to_)]) (cs' := [i6 (((Q2 t25.2.2.kaf (val (Q3 a1))).getD (⟨0, 0, 0⟩ : Td)).kal), i6 (((Q2 t25.2.2.kaf (val (Q3 a1))).getD (⟨0, 0, 0⟩ : Td)).kan), i6 (((Q2 t25.2.2.kaf (val (Q3 a1))).getD (⟨0, 0, 0⟩ : Td)).to_)]) sizeOf64 rfl rfl rfl rfl rfl rfl rfl rfl rfl<|Xr<|Jc<|Ja<|mv (str a0)<|lf Tryz.runUnderlying34 rfl kck rfl<|ll 7 (.bool t25.1.Big) kbo<|lv (Xf (pl := #[(0, 1), (1, 1)]) (ps := [(0, str a0), (1, .bool t25.1.Big)]) (cells := #[str a0, .bool t25.1.Big]) zeroValue68 Tryz.runUnderlying68 (fun w => by kernel_rfl) rfl rfl)<|?_
       refine W1 (cs := [str a0, .bool t25.1.Big]) rfl rfl rfl rfl (fun b12 => ?_)
       refine ag (pz b12)<|Jd<|Jc<|Ja<|lf Tryz.runUnderlying34 rfl kck rfl<|ll 7 (.bool t25.1.Big) kbo<|Xb (i := 1) (vs := [i6 a2.kai, str a2.kaj, v2_2, v2_3, v2_4]) kbi kce rfl rfl rfl rfl rfl<|?_
       obtain ⟨t67, h_t67, H63⟩ := Je H62; clear H62
       refine Qb (fun w hF hS => k24 (Jq w) (f2_2.mono (hw.now hF)) (f2_3.mono (hw.now hF)) (f2_4.mono (hw.now hF)) h_t67) call24 rfl rfl rfl<|ag (str t67)<|Jd<|Jc<|Ja<|mv (pz b12)<|lf Tryz.runUnderlying64 rfl kcg rfl<|ll 10 (i6 (((Q2 t25.2.2.kaf (val (Q3 a1))).getD (⟨0, 0, 0⟩ : Td)).kal)) kbk<|?_
       obtain ⟨t71, h_t71, H64⟩ := Je H63; clear H63
       refine lv (Jy rfl rfl h_t71)<|lf Tryz.runUnderlying26 rfl kcg rfl<|ll 1 (i6 a2.kai) kbk<|?_
       obtain ⟨t74, h_t74, H65⟩ := Je H64; clear H64
       refine Qh (Jv (i := 11) (rds := []) (G := fun x : Unit => .tuple #[]) (C := fun x : Unit => Jf b12 [str t74.s_, .bool t74.kab] 68) rfl (fun w L' S hF hS hi hp hlt ho hA => k25 (a0 := (⟨a0, t25.1.Big⟩ : Ti)) hp hlt (J7 w S)  h_t74) call25 rfl) rfl rfl rfl (fun _ => ?_)
       refine Jd<|Jc<|?_
       try dsimp only [z1,z2,z5,z6,z7,z8]
       exact Qk (Kd.p :: Kd.p :: Kd.d [10] _ :: Kd.p :: Kd.d [1] _ :: Kd.d [0] _ :: Kd.t 11 [0] _ _ :: []) 0 mixed (by
        refine dm (pz b12)<|dv (J2 Tryz.runUnderlying64 rfl kcg rfl rfl)<|dl (i6 (((Q2 t25.2.2.kaf (val (Q3 a1))).getD (⟨0, 0, 0⟩ : Td)).kal)) kbk<|?_
        have h_t78 := Jt H65
        have H66 := Jn H65
        refine dv (Jy rfl rfl h_t78)<|Jc1 (i := 1) (vs := [i6 a2.kai, str a2.kaj, v2_2, v2_3, v2_4]) kbi kce rfl rfl rfl rfl<|?_
        have h_t80 := Jt H66
        have H67 := Jn H66
        refine Jar (fun w L' hF hS hi => k26 (Jq w) (f2_2.mono (hw.now hF)) (f2_3.mono (hw.now hF)) (f2_4.mono (hw.now hF)) h_t80) call26 rfl rfl ?_
        have h_t81 := Jt H67
        have H68 := Jn H67
        refine Jct (Cv := fun _ => Jf b12 [str (val (Jk t74 (val (gI ((((Q2 t25.2.2.kaf (val (Q3 a1))).getD (⟨0, 0, 0⟩ : Td)).kal) + 4))) (val (Qx a2)) 4)).s_, .bool (val (Jk t74 (val (gI ((((Q2 t25.2.2.kaf (val (Q3 a1))).getD (⟨0, 0, 0⟩ : Td)).kal) + 4))) (val (Qx a2)) 4)).kab] 68) () (Jv (i := 11) (rds := _) (G := fun _ => .tuple #[]) (C := fun _ => Jf b12 [str (val (Jk t74 (val (gI ((((Q2 t25.2.2.kaf (val (Q3 a1))).getD (⟨0, 0, 0⟩ : Td)).kal) + 4))) (val (Qx a2)) 4)).s_, .bool (val (Jk t74 (val (gI ((((Q2 t25.2.2.kaf (val (Q3 a1))).getD (⟨0, 0, 0⟩ : Td)).kal) + 4))) (val (Qx a2)) 4)).kab] 68) rfl (fun w L' S hF hS hi hp hlt ho hA => (k25 hp hlt (J7 w S)  h_t81).mono (fun _ _ h => by obtain ⟨_, h⟩ := h; exact ⟨(), h⟩)) call25 rfl) (fun _ => rfl) rfl rfl (fun _ => ?_)
        refine Xr ?_
        refine Qg (r := r) (σ := (List UInt8) × Bool) (τ := Unit) (fun s => Y8 s.1 s.2) (fun s t => [(15, pz b12)]) (fun s t => [Xm h hp_3, Jf b12 [str s.1, .bool s.2] 68]) (fun s t => True) ?_ ?_
        ·refine Jx<|Jc<|Ja<|mv (str t67)<|lv (Yx kcx rfl)<|lv (Jd1 rfl rfl)<|ag (.bool (decide ((t67.l : Int) ≤ 4)))<|Jd<|?_
         revert H68
         refine ci (decide ((t67.l : Int) ≤ 4)) rfl (fun hb H75=>?_) fun hb H85=>?_
         ·refine Jc<|Ja<|mv (str t67)<|mv (str t67)<|lv (Yx kcx rfl)<|?_
          obtain ⟨t97, h_t97, H76⟩ := Je H75; clear H75
          refine lv (Zs rfl rfl h_t97) ?_
          obtain ⟨t98, h_t98, H77⟩ := Je H76; clear H76
          refine Yq (k27 h_t98) call27 rfl rfl rfl ?_
          obtain ⟨t99, h_t99, H78⟩ := Je H77; clear H77
          refine lv (Y9 rfl rfl h_t99)<|ag (str t99)<|Jd<|?_
          exact Qk (Kd.p :: Kd.p :: Kd.p :: Kd.p :: Kd.d [11] _ :: Kd.p :: Kd.d [10] _ :: Kd.p :: Kd.p :: Kd.p :: Kd.p :: Kd.p :: Kd.p :: Kd.p :: Kd.d [11] _ :: Kd.p :: Kd.d [10] _ :: Kd.p :: Kd.p :: Kd.p :: Kd.p :: Kd.p :: Kd.st 121 11 [_, _] 68 :: []) 0 mixed (by
           refine dm (pz b12)<|dm (pz b12)<|dv (Jg rfl)<|dv (J2 Tryz.runUnderlying68 rfl kcn rfl rfl)<|dl (str (val (Jk t74 (val (gI ((((Q2 t25.2.2.kaf (val (Q3 a1))).getD (⟨0, 0, 0⟩ : Td)).kal) + 4))) (val (Qx a2)) 4)).s_) kbp<|dv (J2 Tryz.runUnderlying64 rfl kcg rfl rfl)<|dl (i6 (((Q2 t25.2.2.kaf (val (Q3 a1))).getD (⟨0, 0, 0⟩ : Td)).kal)) kbk<|?_
           have h_t107 := Jt H78
           have H79 := Jn H78
           refine dv (Jy rfl rfl h_t107) ?_
           have h_t108 := Jt H79
           have H80 := Jn H79
           refine dv (Up kcx rfl rfl h_t108)<|dm (str t99)<|?_
           have h_t110 := Jt H80
           have H81 := Jn H80
           refine dv (Y9 rfl rfl h_t110)<|dm (pz b12)<|dv (Jg rfl)<|dv (J2 Tryz.runUnderlying68 rfl kcn rfl rfl)<|dl (str (val (Jk t74 (val (gI ((((Q2 t25.2.2.kaf (val (Q3 a1))).getD (⟨0, 0, 0⟩ : Td)).kal) + 4))) (val (Qx a2)) 4)).s_) kbp<|dv (J2 Tryz.runUnderlying64 rfl kcg rfl rfl)<|dl (i6 (((Q2 t25.2.2.kaf (val (Q3 a1))).getD (⟨0, 0, 0⟩ : Td)).kal)) kbk<|?_
           have h_t117 := Jt H81
           have H82 := Jn H81
           refine dv (Jy rfl rfl h_t117) ?_
           have h_t118 := Jt H82
           have H83 := Jn H82
           refine dv (Jcb kcx rfl rfl h_t118) ?_
           have h_t119 := Jt H83
           have H84 := Jn H83
           refine dv (Y9 rfl rfl h_t119)<|dv (Jg rfl)<|dv (J2 Tryz.runUnderlying68 rfl kcn rfl rfl)<|Jfy (i := 11) (vs := [str (val (Zo (val (Zo (val (Qp (val (Jk t74 (val (gI ((((Q2 t25.2.2.kaf (val (Q3 a1))).getD (⟨0, 0, 0⟩ : Td)).kal) + 4))) (val (Qx a2)) 4)).s_ 0 (val (gI ((((Q2 t25.2.2.kaf (val (Q3 a1))).getD (⟨0, 0, 0⟩ : Td)).kal) + 8))))) t99)) (val (Qp (val (Jk t74 (val (gI ((((Q2 t25.2.2.kaf (val (Q3 a1))).getD (⟨0, 0, 0⟩ : Td)).kal) + 4))) (val (Qx a2)) 4)).s_ (val (gI ((((Q2 t25.2.2.kaf (val (Q3 a1))).getD (⟨0, 0, 0⟩ : Td)).kal) + 12))) (val (Jk t74 (val (gI ((((Q2 t25.2.2.kaf (val (Q3 a1))).getD (⟨0, 0, 0⟩ : Td)).kal) + 4))) (val (Qx a2)) 4)).s_.l))))]) (cs' := [str (val (Zo (val (Zo (val (Qp (val (Jk t74 (val (gI ((((Q2 t25.2.2.kaf (val (Q3 a1))).getD (⟨0, 0, 0⟩ : Td)).kal) + 4))) (val (Qx a2)) 4)).s_ 0 (val (gI ((((Q2 t25.2.2.kaf (val (Q3 a1))).getD (⟨0, 0, 0⟩ : Td)).kal) + 8))))) t99)) (val (Qp (val (Jk t74 (val (gI ((((Q2 t25.2.2.kaf (val (Q3 a1))).getD (⟨0, 0, 0⟩ : Td)).kal) + 4))) (val (Qx a2)) 4)).s_ (val (gI ((((Q2 t25.2.2.kaf (val (Q3 a1))).getD (⟨0, 0, 0⟩ : Td)).kal) + 12))) (val (Jk t74 (val (gI ((((Q2 t25.2.2.kaf (val (Q3 a1))).getD (⟨0, 0, 0⟩ : Td)).kal) + 4))) (val (Qx a2)) 4)).s_.l)))), .bool (val (Jk t74 (val (gI ((((Q2 t25.2.2.kaf (val (Q3 a1))).getD (⟨0, 0, 0⟩ : Td)).kal) + 4))) (val (Qx a2)) 4)).kab]) kcn rfl rfl rfl rfl rfl rfl rfl rfl rfl<|Xr<|?_
           exact cl ((val (Zo (val (Zo (val (Qp (val (Jk t74 (val (gI ((((Q2 t25.2.2.kaf (val (Q3 a1))).getD (⟨0, 0, 0⟩ : Td)).kal) + 4))) (val (Qx a2)) 4)).s_ 0 (val (gI ((((Q2 t25.2.2.kaf (val (Q3 a1))).getD (⟨0, 0, 0⟩ : Td)).kal) + 8))))) t99)) (val (Qp (val (Jk t74 (val (gI ((((Q2 t25.2.2.kaf (val (Q3 a1))).getD (⟨0, 0, 0⟩ : Td)).kal) + 4))) (val (Qx a2)) 4)).s_ (val (gI ((((Q2 t25.2.2.kaf (val (Q3 a1))).getD (⟨0, 0, 0⟩ : Td)).kal) + 12))) (val (Jk t74 (val (gI ((((Q2 t25.2.2.kaf (val (Q3 a1))).getD (⟨0, 0, 0⟩ : Td)).kal) + 4))) (val (Qx a2)) 4)).s_.l)))), (val (Jk t74 (val (gI ((((Q2 t25.2.2.kaf (val (Q3 a1))).getD (⟨0, 0, 0⟩ : Td)).kal) + 4))) (val (Qx a2)) 4)).kab) () 0 [0, 11] (by exact ⟨H84, trivial⟩)
           ) (by kernel_rfl)
         ·refine Jc<|Ja<|lf Tryz.runUnderlying64 rfl kcg rfl<|ll 10 (i6 (((Q2 t25.2.2.kaf (val (Q3 a1))).getD (⟨0, 0, 0⟩ : Td)).to_)) kbk<|lf Tryz.runUnderlying64 rfl kcg rfl<|ll 10 (i6 (((Q2 t25.2.2.kaf (val (Q3 a1))).getD (⟨0, 0, 0⟩ : Td)).kan)) kbk<|?_
          obtain ⟨t127, h_t127, H86⟩ := Je H85; clear H85
          refine lv (Zs rfl rfl h_t127)<|mv (str t67)<|lv (Yx kcx rfl)<|lv (Jey rfl rfl)<|ag (.bool (decide ((t67.l : Int) ≤ t127)))<|Jd<|?_
          revert H86
          refine ci (decide ((t67.l : Int) ≤ t127)) rfl (fun hb H87=>?_) fun hb H93=>?_
          ·exact Qk (Kd.p :: Kd.p :: Kd.p :: Kd.p :: Kd.d [11] _ :: Kd.p :: Kd.d [10] _ :: Kd.p :: Kd.p :: Kd.p :: Kd.p :: Kd.p :: Kd.p :: Kd.d [11] _ :: Kd.p :: Kd.d [10] _ :: Kd.p :: Kd.p :: Kd.p :: Kd.p :: Kd.p :: Kd.p :: Kd.p :: Kd.st 153 11 [_, _] 68 :: []) 0 mixed (by
            refine dm (pz b12)<|dm (pz b12)<|dv (Jg rfl)<|dv (J2 Tryz.runUnderlying68 rfl kcn rfl rfl)<|dl (str (val (Jk t74 (val (gI ((((Q2 t25.2.2.kaf (val (Q3 a1))).getD (⟨0, 0, 0⟩ : Td)).kal) + 4))) (val (Qx a2)) 4)).s_) kbp<|dv (J2 Tryz.runUnderlying64 rfl kcg rfl rfl)<|dl (i6 (((Q2 t25.2.2.kaf (val (Q3 a1))).getD (⟨0, 0, 0⟩ : Td)).kan)) kbk<|?_
            have h_t138 := Jt H87
            have H88 := Jn H87
            refine dv (Up kcx rfl rfl h_t138)<|dm (str t67)<|?_
            have h_t140 := Jt H88
            have H89 := Jn H88
            refine dv (Y9 rfl rfl h_t140)<|dm (pz b12)<|dv (Jg rfl)<|dv (J2 Tryz.runUnderlying68 rfl kcn rfl rfl)<|dl (str (val (Jk t74 (val (gI ((((Q2 t25.2.2.kaf (val (Q3 a1))).getD (⟨0, 0, 0⟩ : Td)).kal) + 4))) (val (Qx a2)) 4)).s_) kbp<|dv (J2 Tryz.runUnderlying64 rfl kcg rfl rfl)<|dl (i6 (((Q2 t25.2.2.kaf (val (Q3 a1))).getD (⟨0, 0, 0⟩ : Td)).kan)) kbk<|dm (str t67)<|dv (Yx kcx rfl)<|?_
            have h_t149 := Jt H89
            have H90 := Jn H89
            refine dv (Jy rfl rfl h_t149) ?_
            have h_t150 := Jt H90
            have H91 := Jn H90
            refine dv (Jcb kcx rfl rfl h_t150) ?_
            have h_t151 := Jt H91
            have H92 := Jn H91
            refine dv (Y9 rfl rfl h_t151)<|dv (Jg rfl)<|dv (J2 Tryz.runUnderlying68 rfl kcn rfl rfl)<|Jfy (i := 11) (vs := [str (val (Zo (val (Zo (val (Qp (val (Jk t74 (val (gI ((((Q2 t25.2.2.kaf (val (Q3 a1))).getD (⟨0, 0, 0⟩ : Td)).kal) + 4))) (val (Qx a2)) 4)).s_ 0 (((Q2 t25.2.2.kaf (val (Q3 a1))).getD (⟨0, 0, 0⟩ : Td)).kan))) t67)) (val (Qp (val (Jk t74 (val (gI ((((Q2 t25.2.2.kaf (val (Q3 a1))).getD (⟨0, 0, 0⟩ : Td)).kal) + 4))) (val (Qx a2)) 4)).s_ (val (gI ((((Q2 t25.2.2.kaf (val (Q3 a1))).getD (⟨0, 0, 0⟩ : Td)).kan) + (t67.l : Int)))) (val (Jk t74 (val (gI ((((Q2 t25.2.2.kaf (val (Q3 a1))).getD (⟨0, 0, 0⟩ : Td)).kal) + 4))) (val (Qx a2)) 4)).s_.l))))]) (cs' := [str (val (Zo (val (Zo (val (Qp (val (Jk t74 (val (gI ((((Q2 t25.2.2.kaf (val (Q3 a1))).getD (⟨0, 0, 0⟩ : Td)).kal) + 4))) (val (Qx a2)) 4)).s_ 0 (((Q2 t25.2.2.kaf (val (Q3 a1))).getD (⟨0, 0, 0⟩ : Td)).kan))) t67)) (val (Qp (val (Jk t74 (val (gI ((((Q2 t25.2.2.kaf (val (Q3 a1))).getD (⟨0, 0, 0⟩ : Td)).kal) + 4))) (val (Qx a2)) 4)).s_ (val (gI ((((Q2 t25.2.2.kaf (val (Q3 a1))).getD (⟨0, 0, 0⟩ : Td)).kan) + (t67.l : Int)))) (val (Jk t74 (val (gI ((((Q2 t25.2.2.kaf (val (Q3 a1))).getD (⟨0, 0, 0⟩ : Td)).kal) + 4))) (val (Qx a2)) 4)).s_.l)))), .bool (val (Jk t74 (val (gI ((((Q2 t25.2.2.kaf (val (Q3 a1))).getD (⟨0, 0, 0⟩ : Td)).kal) + 4))) (val (Qx a2)) 4)).kab]) kcn rfl rfl rfl rfl rfl rfl rfl rfl rfl<|Xr<|?_
            exact cl ((val (Zo (val (Zo (val (Qp (val (Jk t74 (val (gI ((((Q2 t25.2.2.kaf (val (Q3 a1))).getD (⟨0, 0, 0⟩ : Td)).kal) + 4))) (val (Qx a2)) 4)).s_ 0 (((Q2 t25.2.2.kaf (val (Q3 a1))).getD (⟨0, 0, 0⟩ : Td)).kan))) t67)) (val (Qp (val (Jk t74 (val (gI ((((Q2 t25.2.2.kaf (val (Q3 a1))).getD (⟨0, 0, 0⟩ : Td)).kal) + 4))) (val (Qx a2)) 4)).s_ (val (gI ((((Q2 t25.2.2.kaf (val (Q3 a1))).getD (⟨0, 0, 0⟩ : Td)).kan) + (t67.l : Int)))) (val (Jk t74 (val (gI ((((Q2 t25.2.2.kaf (val (Q3 a1))).getD (⟨0, 0, 0⟩ : Td)).kal) + 4))) (val (Qx a2)) 4)).s_.l)))), (val (Jk t74 (val (gI ((((Q2 t25.2.2.kaf (val (Q3 a1))).getD (⟨0, 0, 0⟩ : Td)).kal) + 4))) (val (Qx a2)) 4)).kab) () 0 [0, 11] (by exact ⟨H92, trivial⟩)
            ) (by kernel_rfl)
          ·exact Qk (Kd.p :: Kd.p :: Kd.d [10] _ :: Kd.p :: Kd.p :: Kd.p :: Kd.t 11 [0] _ _ :: Kd.t 11 [0] _ _ :: []) 0 mixed (by
            refine dm (pz b12)<|dv (J2 Tryz.runUnderlying64 rfl kcg rfl rfl)<|dl (i6 (((Q2 t25.2.2.kaf (val (Q3 a1))).getD (⟨0, 0, 0⟩ : Td)).kal)) kbk<|?_
            have h_t85 := Jt H93
            have H94 := Jn H93
            refine dv (Jy rfl rfl h_t85)<|dm (pz b12)<|dm (str t67)<|?_
            have h_t88 := Jt H94
            have H95 := Jn H94
            refine Jct (Cv := fun _ => Jf b12 [str (val (Qo (val (Jk t74 (val (gI ((((Q2 t25.2.2.kaf (val (Q3 a1))).getD (⟨0, 0, 0⟩ : Td)).kal) + 4))) (val (Qx a2)) 4)) t67)).2.s_, .bool (val (Qo (val (Jk t74 (val (gI ((((Q2 t25.2.2.kaf (val (Q3 a1))).getD (⟨0, 0, 0⟩ : Td)).kal) + 4))) (val (Qx a2)) 4)) t67)).2.kab] 68) () (Jv (i := 11) (rds := _) (G := fun _ => i6 (val (Qo (val (Jk t74 (val (gI ((((Q2 t25.2.2.kaf (val (Q3 a1))).getD (⟨0, 0, 0⟩ : Td)).kal) + 4))) (val (Qx a2)) 4)) t67)).1) (C := fun _ => Jf b12 [str (val (Qo (val (Jk t74 (val (gI ((((Q2 t25.2.2.kaf (val (Q3 a1))).getD (⟨0, 0, 0⟩ : Td)).kal) + 4))) (val (Qx a2)) 4)) t67)).2.s_, .bool (val (Qo (val (Jk t74 (val (gI ((((Q2 t25.2.2.kaf (val (Q3 a1))).getD (⟨0, 0, 0⟩ : Td)).kal) + 4))) (val (Qx a2)) 4)) t67)).2.kab] 68) rfl (fun w L' S hF hS hi hp hlt ho hA => (k28 hp hlt (J7 w S)  h_t88).mono (fun _ _ h => by obtain ⟨_, h⟩ := h; exact ⟨(), h⟩)) call28 rfl) (fun _ => rfl) rfl rfl (fun _ => ?_)
            have h_t89 := Jt H95
            have H96 := Jn H95
            refine Jct (Cv := fun _ => Jf b12 [str (val (Jk (val (Qo (val (Jk t74 (val (gI ((((Q2 t25.2.2.kaf (val (Q3 a1))).getD (⟨0, 0, 0⟩ : Td)).kal) + 4))) (val (Qx a2)) 4)) t67)).2 (val (gI ((((Q2 t25.2.2.kaf (val (Q3 a1))).getD (⟨0, 0, 0⟩ : Td)).kal) + 8))) (val (Qo (val (Jk t74 (val (gI ((((Q2 t25.2.2.kaf (val (Q3 a1))).getD (⟨0, 0, 0⟩ : Td)).kal) + 4))) (val (Qx a2)) 4)) t67)).1 4)).s_, .bool (val (Jk (val (Qo (val (Jk t74 (val (gI ((((Q2 t25.2.2.kaf (val (Q3 a1))).getD (⟨0, 0, 0⟩ : Td)).kal) + 4))) (val (Qx a2)) 4)) t67)).2 (val (gI ((((Q2 t25.2.2.kaf (val (Q3 a1))).getD (⟨0, 0, 0⟩ : Td)).kal) + 8))) (val (Qo (val (Jk t74 (val (gI ((((Q2 t25.2.2.kaf (val (Q3 a1))).getD (⟨0, 0, 0⟩ : Td)).kal) + 4))) (val (Qx a2)) 4)) t67)).1 4)).kab] 68) () (Jv (i := 11) (rds := _) (G := fun _ => .tuple #[]) (C := fun _ => Jf b12 [str (val (Jk (val (Qo (val (Jk t74 (val (gI ((((Q2 t25.2.2.kaf (val (Q3 a1))).getD (⟨0, 0, 0⟩ : Td)).kal) + 4))) (val (Qx a2)) 4)) t67)).2 (val (gI ((((Q2 t25.2.2.kaf (val (Q3 a1))).getD (⟨0, 0, 0⟩ : Td)).kal) + 8))) (val (Qo (val (Jk t74 (val (gI ((((Q2 t25.2.2.kaf (val (Q3 a1))).getD (⟨0, 0, 0⟩ : Td)).kal) + 4))) (val (Qx a2)) 4)) t67)).1 4)).s_, .bool (val (Jk (val (Qo (val (Jk t74 (val (gI ((((Q2 t25.2.2.kaf (val (Q3 a1))).getD (⟨0, 0, 0⟩ : Td)).kal) + 4))) (val (Qx a2)) 4)) t67)).2 (val (gI ((((Q2 t25.2.2.kaf (val (Q3 a1))).getD (⟨0, 0, 0⟩ : Td)).kal) + 8))) (val (Qo (val (Jk t74 (val (gI ((((Q2 t25.2.2.kaf (val (Q3 a1))).getD (⟨0, 0, 0⟩ : Td)).kal) + 4))) (val (Qx a2)) 4)) t67)).1 4)).kab] 68) rfl (fun w L' S hF hS hi hp hlt ho hA => (k25 hp hlt (J7 w S)  h_t89).mono (fun _ _ h => by obtain ⟨_, h⟩ := h; exact ⟨(), h⟩)) call25 rfl) (fun _ => rfl) rfl rfl (fun _ => ?_)
            refine Xr ?_
            exact cl ((val (Jk (val (Qo (val (Jk t74 (val (gI ((((Q2 t25.2.2.kaf (val (Q3 a1))).getD (⟨0, 0, 0⟩ : Td)).kal) + 4))) (val (Qx a2)) 4)) t67)).2 (val (gI ((((Q2 t25.2.2.kaf (val (Q3 a1))).getD (⟨0, 0, 0⟩ : Td)).kal) + 8))) (val (Qo (val (Jk t74 (val (gI ((((Q2 t25.2.2.kaf (val (Q3 a1))).getD (⟨0, 0, 0⟩ : Td)).kal) + 4))) (val (Qx a2)) 4)) t67)).1 4)).s_, (val (Jk (val (Qo (val (Jk t74 (val (gI ((((Q2 t25.2.2.kaf (val (Q3 a1))).getD (⟨0, 0, 0⟩ : Td)).kal) + 4))) (val (Qx a2)) 4)) t67)).2 (val (gI ((((Q2 t25.2.2.kaf (val (Q3 a1))).getD (⟨0, 0, 0⟩ : Td)).kal) + 8))) (val (Qo (val (Jk t74 (val (gI ((((Q2 t25.2.2.kaf (val (Q3 a1))).getD (⟨0, 0, 0⟩ : Td)).kal) + 4))) (val (Qx a2)) 4)) t67)).1 4)).kab) () 0 [0, 11] (by exact ⟨H96, trivial⟩)
            ) (by kernel_rfl)
        ·rintro ⟨m, m_2⟩ _ gg H69 _
         try dsimp only at H69
         try dsimp only
         refine Jc<|Jc<|Ja<|mv (pz b12)<|lv (Jg rfl)<|lf Tryz.runUnderlying68 rfl kcn rfl<|ll 1 (str m) kbp<|lv (Yx kcx rfl)<|lv (Yf rfl rfl)<|Jd<|?_
         revert H69
         refine ci (decide (65000 < (m.l : Int))) rfl (fun hb H70=>?_) fun hb H71=>?_
         ·refine Jc<|Ja<|ag (str [])<|ag (i6 4)<|Jd<|Jm<|?_
          obtain rfl := sj H70
          refine U9 (v1 := str []) (v2 := i6 4) rfl rfl rfl (fin rfl)
         ·refine Jj<|Jc<|Jc<|Ja<|mv (pz b12)<|lv (Jg rfl)<|lf Tryz.runUnderlying68 rfl kcn rfl<|ll 1 (str m) kbp<|?_
          obtain ⟨t165, h_t165, H72⟩ := Je H71; clear H71
          refine V8 (Yy (rds := []) (fun w L' hF hS hi => k29 (Jq w) (tb_pow10.mono (hw.now hF)) h_t165) call29 rfl) rfl rfl rfl (fun p_5 => ?_)
          refine Jcd 2 rfl (fun hp_5 css_2 hn_2 pf_2 => ?_)
          rw [hn_2]
          refine Qd 2 rfl ?_
          refine Z9 0 2 rfl rfl (by decide) (fun w hF => hw.now hF) (fun hp_6 hle_5 hle_6 => ?_)
          refine mv (.tuple #[.agg #[.bool t165.1.Big, sl p_5 css_2.l], i6 t165.2])<|lv (J9 (v := .agg #[.bool t165.1.Big, sl p_5 css_2.l]) rfl rfl)<|lv (J9 (v := i6 t165.2) rfl rfl)<|?_
          refine Xx (cs := [.bool false, z0s]) zeroValue34 rfl rfl rfl (fun b13 => ?_)
          refine st (i := 4) [.bool t165.1.Big, sl p_5 css_2.l] [.bool t165.1.Big, sl p_5 css_2.l] kci rfl rfl<|ag (i6 t165.2)<|Jd<|?_
          try dsimp only [z1,z2,z5,z6,z7,z8]
          refine Jc<|Ja<|mv (i6 t165.2)<|lv (Yv rfl rfl)<|Jd<|?_
          try dsimp only [z1,z2,z5,z6,z7,z8]
          revert H72
          refine ci (decide (t165.2 ≠ 0)) rfl (fun hb H73=>?_) fun hb H74=>?_
          ·refine Jc<|Ja<|mv (i6 t165.2)<|ag (str [])<|ag (i6 t165.2)<|Jd<|?_
           try dsimp only [z1,z2,z5,z6,z7,z8]
           refine Jm ?_
           obtain rfl := sj H73
           refine U9 (v1 := str []) (v2 := i6 t165.2) rfl rfl rfl (fin rfl)
          ·refine Jj<|Jc<|Ja<|mv (pz b12)<|lv (Jg rfl)<|lf Tryz.runUnderlying68 rfl kcn rfl<|ll 1 (str m) kbp<|ag (str m)<|ag (i6 0)<|Jd<|?_
           try dsimp only [z1,z2,z5,z6,z7,z8]
           refine Jm ?_
           obtain rfl := sj H74
           refine U9 (v1 := str m) (v2 := i6 0) rfl rfl rfl (fin rfl)
        ) (by kernel_rfl)
       ) (by kernel_rfl)
theorem k6 {a0 : (List UInt8)} {a1 : Int} {a2 : (List UInt8)} {a3 : Int} {r : Bool} (H : Jbm a0 a1 a2 a3 = some r) : Ret prog 6 [str a0, i6 a1, str a2, i6 a3] (.bool r) := by
 refine Va (n := 21) func6 rfl rfl rfl (fun wd => ?_)
 refine Jc<|Ja<|ag (.bool false)<|Jd<|Jc<|Ja<|ag (str [])<|Jd<|?_
 refine Qg (r := r) (σ := (List UInt8)) (τ := Unit) (fun s => Wv a0 a1 a3 s) (fun s t => [(0, str a0), (1, i6 a1), (2, str s), (3, i6 a3)]) (fun s t => []) (fun s t => True) ?_ ?_
 ·refine Jc<|Ja<|mv (i6 a3)<|lv (Yv rfl rfl)<|Jd<|?_
  revert H
  refine ci (decide (a3 ≠ 0)) rfl (fun hb H9=>?_) fun hb H10=>?_
  ·refine Ja<|mv (str [])<|ag (str [])<|Jd<|?_
   exact cl [] () 0 [] (by exact ⟨H9, trivial⟩)
  ·refine Jj ?_
   exact cl a2 () 0 [] (by exact ⟨H10, trivial⟩)
 ·rintro x2 _ gg H6 _
  try dsimp only at H6
  try dsimp only
  refine Jc<|Ja<|mv (str a0)<|mv (str x2)<|lv (Jh6 rfl rfl)<|mv (.bool (decide (a0 = x2)))<|?_
  revert H6
  refine sp (fun hb H7=>?_) fun hb H8=>?_
  ·refine mv (i6 a1)<|mv (i6 a3)<|lv (Qj rfl rfl)<|pT (.bool (decide (a1 = a3)))<|ag (.bool (decide (a1 = a3)))<|Jd<|Jm<|?_
   obtain rfl := sj H7
   exact r1 (.bool (decide (a1 = a3)))
  ·refine pa<|pa<|pa<|pF (.bool false)<|ag (.bool false)<|Jd<|Jm<|?_
   obtain rfl := sj H8
   exact r1 (.bool false)
theorem k3 {a0 : (List UInt8)} {a1 : (List Int)} {v1 : Value} {a2 : Te} {v2_2 : Value} {v2_3 : Value} {v2_4 : Value} {r : Bool} {w : World} {h : J1} (hw : Know h w Z0) (f1 : FrS h 1 v1 (a1.map J8)) (f2_2 : FrS h 1 v2_2 (a2.kak.map J8)) (f2_3 : FrS h 2 v2_3 (a2.kah.map Jl)) (f2_4 : FrN h 6 v2_4 g_tag_Entry a2.kag) (tb_pow10 : TabH prog h "internal/strconv.uint64pow10" .u64 Lib.pow10Tab) (H : Jb4 a0 a1 a2 = some r) : Does prog 3 (List.toArray [str a0, v1, .agg #[i6 a2.kai, str a2.kaj, v2_2, v2_3, v2_4]]) w (fun v w' => v = (.bool r) ∧ Grow w w') := by
 refine enter (n := 30) func3 rfl rfl rfl Z0 [] (Sat.nil _ _)<|Jc<|Ja<|?_
 refine W1 (cs := [i6 a2.kai, str a2.kaj, v2_2, v2_3, v2_4]) rfl rfl rfl rfl (fun b1 => ?_)
 refine ag (.bool false)<|Jd<|Jc<|Ja<|mv (str a0)<|mv v1<|Xb (i := 0) (vs := [i6 a2.kai, str a2.kaj, v2_2, v2_3, v2_4]) kbi kce rfl rfl rfl rfl rfl<|?_
 obtain ⟨t15, h_t15, H4⟩ := Je H; clear H
 refine Qb (fun w hF hS => k4 (Jq w) (f1.mono (hw.now hF)) (f2_2.mono (hw.now hF)) (f2_3.mono (hw.now hF)) (f2_4.mono (hw.now hF)) h_t15) call4 rfl rfl rfl<|mv (.tuple #[str t15.1, i6 t15.2])<|lv (J9 (v := str t15.1) rfl rfl)<|lv (J9 (v := i6 t15.2) rfl rfl)<|ag (str t15.1)<|ag (i6 t15.2)<|Jd<|Jc<|Ja<|mv (str a0)<|mv v1<|Xb (i := 0) (vs := [i6 a2.kai, str a2.kaj, v2_2, v2_3, v2_4]) kbi kce rfl rfl rfl rfl rfl<|?_
 obtain ⟨t22, h_t22, H5⟩ := Je H4; clear H4
 refine Qb (fun w hF hS => k5 (Jq w) (f1.mono (hw.now hF)) (f2_2.mono (hw.now hF)) (f2_3.mono (hw.now hF)) (f2_4.mono (hw.now hF)) (tb_pow10.mono (hw.now hF)) h_t22) call5 rfl rfl rfl<|mv (.tuple #[str t22.1, i6 t22.2])<|lv (J9 (v := str t22.1) rfl rfl)<|lv (J9 (v := i6 t22.2) rfl rfl)<|ag (str t22.1)<|ag (i6 t22.2)<|Jd<|Jc<|Ja<|mv (str t15.1)<|mv (i6 t15.2)<|mv (str t22.1)<|mv (i6 t22.2)<|?_
 obtain ⟨t29, h_t29, H6⟩ := Je H5; clear H5
 refine Yq (k6 h_t29) call6 rfl rfl rfl<|ag (.bool t29)<|Jd<|Jm<|?_
 obtain rfl := sj H6
 exact r1 (.bool t29)
end Go.Proofs.YthljoadplekgnaaGreatDoor

namespace Go.Pl
open Go.Md
theorem up {ρ : Type} {F : (Int → Option ρ) → Int → Option ρ} (n : Nat) (spec : Nat → Option ρ)
  (step : ∀ (next : Int → Option ρ) (k : Nat), k ≤ n → (k < n → next ((k : Int) + 1) = spec (k + 1)) → F next (k : Int) = spec k) : Vv F 0 = spec 0 := by
 have h := fix_of (F := F) (fun i => spec i.toNat) (fun i => 0 ≤ i ∧ i ≤ n) (fun i => n - i.toNat) (by
  intro next a ⟨h0, h1⟩ ih
  obtain ⟨k, rfl⟩ := Int.eq_ofNat_of_zero_le h0
  simp only [Int.toNat_natCast]
  refine step next k (by omega) fun hk => ?_
  have := ih ((k : Int) + 1) (by omega) (by simp only [Int.toNat_natCast]; omega)
  rw [this, show ((k : Int) + 1).toNat = k + 1 from by omega]) 0 (by omega)
 simpa using h
end Go.Pl

namespace Go.Pl
open Go.Md
theorem Q8 {α β : Type} {m : Option α} {k k' : α → Option β} (h : ∀ a, m = some a → k a = k' a) : Js m k = Js m k' := by
 cases m with
 | none => rfl
 | some a => exact h a rfl
theorem Wm {α : Type} {b : Bool} {x y x' y' : Option α} (h1 : b = true → x = x') (h2 : b = false → y = y') : Qe b x y = Qe b x' y' := by
 cases b
 ·exact h2 rfl
 ·exact h1 rfl
theorem Je5 {α ρ σ : Type} {F : (Int × σ → Option ρ) → Int × σ → Option ρ} (xs : List α) (f : σ → α → σ) (J : σ → Option ρ) (I : Nat → σ → Prop)
  (more : ∀ (next : Int × σ → Option ρ) (k : Nat) (s : σ) (hk : k < xs.length), I k s → F next ((k : Int), s) = next ((k : Int) + 1, f s xs[k]) ∧ I (k + 1) (f s xs[k]))
  (stop : ∀ (next : Int × σ → Option ρ) (s : σ), I xs.length s → F next ((xs.length : Int), s) = J s) (s : σ) (hs : I 0 s) : Vv F (0, s) = J (xs.foldl f s) := by
 have key : ∀ n k s, k ≤ xs.length → xs.length - k < n → I k s → Vv F ((k : Int), s) = J ((xs.drop k).foldl f s) := by
  intro n
  induction n with
  | zero => intro k s _ h; omega
  | succ n ih =>
   intro k s hk h hI
   rcases Nat.lt_or_ge k xs.length with h1 | h1
   ·rw [Xu ((k : Int) + 1, f s xs[k]) (fun next => (more next k s h1 hI).1), List.drop_eq_getElem_cons h1, List.foldl_cons]
    exact ih (k + 1) _ (by omega) (by omega) (more (fun _ => none) k s h1 hI).2
   ·have : k = xs.length := by omega
    subst this
    rw [List.drop_length]
    exact Qr fun next => stop next s hI
 have := key (xs.length + 1) 0 s (Nat.zero_le _) (by omega) hs
 simpa using this
theorem Jh2 {α β : Type} (f : α → β) : ∀ (xs : List α) (s : List β), xs.foldl (fun s x => s ++ [f x]) s = s ++ xs.map f
 | [], s => by simp
 | x :: xs, s => by rw [List.foldl_cons, Jh2 f xs]; simp
end Go.Pl

namespace Go.M
open Go.Md Go.Pl
theorem cI {α : Type} {p : Prop} [Decidable p] {x y : Option α} : Qe (decide p) x y = if p then x else y := cnd_if ..
theorem Jio {α ρ γ : Type} {F : (α → Option ρ) → α → Option ρ} (spec : γ → α → Option ρ) (I : γ → α → Prop) (μ : γ → Nat)
  (step : ∀ (next : α → Option ρ) (g : γ) (a : α), I g a → (∀ g' b, I g' b → μ g' < μ g → next b = spec g' b) → F next a = spec g a) (g : γ) (a : α) (ha : I g a) : Vv F a = spec g a := by
 have key : ∀ (n : Nat) (g : γ) (a : α), I g a → μ g < n → it F n a = spec g a := by
  intro n
  induction n with
  | zero => intro g a _ h; omega
  | succ n ih => intro g a ha h; exact step _ g a ha fun g' b hb hlt => ih g' b hb (by omega)
 exact Jdu (k := μ g + 1) fun n hn => key n g a ha (by omega)
theorem Jbv (a b : List UInt8) : X2 (a ++ b) = X2 a ++ X2 b := List.map_append
theorem Yn (a : List UInt8) : (X2 a).length = a.length := List.length_map _
theorem toStr_ofStr (a : List UInt8) : Ja7 (X2 a) = a := by
 unfold Ja7 X2
 rw [List.map_map]
 conv => rhs; rw [← List.map_id a]
 apply List.map_congr_left
 intro c _
 show UInt8.ofNat ((c.toNat : Int).toNat) = c
 rw [Int.toNat_natCast, UInt8.ofNat_toNat]
theorem ofStr_toStr {l : List Int} (h : ∀ x ∈ l, 0 ≤ x ∧ x ≤ 255) : X2 (Ja7 l) = l := by
 unfold Ja7 X2
 rw [List.map_map]
 conv => rhs; rw [← List.map_id l]
 apply List.map_congr_left
 intro c hc
 have := h c hc
 show (((UInt8.ofNat c.toNat).toNat : Nat) : Int) = c
 rw [UInt8.toNat_ofNat']
 omega
theorem num_ex (big : Bool) (n : Int) (k : Nat) (hk : k ≤ 8) : ∃ L : List Int, J5 big n k = some L ∧ Yt big n k = some (Ja7 L) ∧ L.length = k ∧ (∀ x ∈ L, 0 ≤ x ∧ x ≤ 255) ∧ (n = 0 → ∀ x ∈ L, x = 0) := by
 have key : ∀ m i : Nat, i + m = k → ∀ l : List Int, l.length = k → (∀ x ∈ l, 0 ≤ x ∧ x ≤ 255) → (n = 0 → ∀ x ∈ l, x = 0) →
   ∃ L : List Int, Vv (fun next1 s => Vu big n k (List.replicate k 0) next1 s.1 s.2) ((i : Int), l) = some L ∧ Vv (fun next2 s => Ud big n k (List.replicate k 0) next2 s.1 s.2) ((i : Int), l) = some (Ja7 L) ∧ L.length = k ∧ (∀ x ∈ L, 0 ≤ x ∧ x ≤ 255) ∧ (n = 0 → ∀ x ∈ L, x = 0) := by
  intro m
  induction m with
  | zero =>
   intro i hi l hl hx hz
   refine ⟨l, Qr fun next => ?_, Qr fun next => ?_, hl, hx, hz⟩
   ·show Vu big n k _ next (i : Int) l = _
    unfold Vu
    rw [cI, if_neg (by rw [List.length_replicate]; omega)]
   ·show Ud big n k _ next (i : Int) l = _
    unfold Ud
    rw [cI, if_neg (by rw [List.length_replicate]; omega)]; rfl
  | succ m ih =>
   intro i hi l hl hx hz
   have hs : ∃ y : Int, gShr 64 n (8 * (i : Int)) = some y ∧ (n = 0 → y = 0) := by
    refine ⟨n / 2 ^ min (8 * (i : Int)).toNat 64, if_pos (by omega), fun e => by rw [e]; exact Int.zero_ediv _⟩
   obtain ⟨y, hy, hy0⟩ := hs
   have hp : ∃ q : Nat, q < k ∧ (∀ (next : Int × List Int → Option (List Int)), Vu big n k (List.replicate k 0) next (i : Int) l = next ((i : Int) + 1, l.set q (wU8 y))) ∧ (∀ (next : Int × List Int → Option (List UInt8)), Ud big n k (List.replicate k 0) next (i : Int) l = next ((i : Int) + 1, l.set q (wU8 y))) := by
    cases big
    ·refine ⟨i, by omega, fun next => ?_, fun next => ?_⟩
     ·unfold Vu
      rw [cI, if_pos (by rw [List.length_replicate]; omega), Qa]
      unfold Jbc
      rw [Ju (by omega), Jb, hy, Jb, Xa (by omega), Jb, Jhr (by omega) (by omega), Jb, Ju (by omega), Jb, Int.toNat_natCast]
     ·unfold Ud
      rw [cI, if_pos (by rw [List.length_replicate]; omega), Qa]
      unfold Jcn
      rw [Ju (by omega), Jb, hy, Jb, Xa (by omega), Jb, Jhr (by omega) (by omega), Jb, Ju (by omega), Jb, Int.toNat_natCast]
    ·refine ⟨k - 1 - i, by omega, fun next => ?_, fun next => ?_⟩
     ·unfold Vu
      rw [cI, if_pos (by rw [List.length_replicate]; omega), Qq, Ju (by omega), Jb, Ju (by omega), Jb]
      unfold Jbc
      rw [Ju (by omega), Jb, hy, Jb, gAt_ok (by omega) (by omega), Jb, Jhr (by omega) (by omega), Jb, Ju (by omega), Jb, show ((k : Int) - 1 - (i : Int)).toNat = k - 1 - i from by omega]
     ·unfold Ud
      rw [cI, if_pos (by rw [List.length_replicate]; omega), Qq, Ju (by omega), Jb, Ju (by omega), Jb]
      unfold Jcn
      rw [Ju (by omega), Jb, hy, Jb, gAt_ok (by omega) (by omega), Jb, Jhr (by omega) (by omega), Jb, Ju (by omega), Jb, show ((k : Int) - 1 - (i : Int)).toNat = k - 1 - i from by omega]
   obtain ⟨q, hq, h1, h2⟩ := hp
   obtain ⟨L, a1, a2, a3, a4, a5⟩ := ih (i + 1) (by omega) (l.set q (wU8 y)) (by rw [List.length_set]; exact hl) (fun x hxm => by
    rcases List.mem_or_eq_of_mem_set hxm with h | h
    ·exact hx x h
    ·rw [h]; unfold wU8; omega) (fun e x hxm => by
    rcases List.mem_or_eq_of_mem_set hxm with h | h
    ·exact hz e x h
    ·rw [h, hy0 e]; rfl)
   exact ⟨L, (Xu _ h1).trans a1, (Xu _ h2).trans a2, a3, a4, a5⟩
 obtain ⟨L, a1, a2, a3⟩ := key k 0 (by omega) (List.replicate k 0) (by simp) (fun x hx => by rw [(List.mem_replicate.1 hx).2]; omega) (fun _ x hx => (List.mem_replicate.1 hx).2)
 refine ⟨L, ?_, ?_, a3⟩
 ·unfold J5
  rw [gMake_ok (by omega), Jb, Int.toNat_natCast]; exact a1
 ·unfold Yt
  rw [gMake_ok (by omega), Jb, Int.toNat_natCast]; exact a2
noncomputable def Yj (big : Bool) (n : Int) (k : Nat) : List UInt8 := Ja7 ((J5 big n k).getD [])
theorem num_tag (big : Bool) (n : Int) {k : Nat} (hk : k ≤ 8) : J5 big n k = some (X2 (Yj big n k)) := by
 obtain ⟨L, h1, _, _, h4, _⟩ := num_ex big n k hk
 unfold Yj
 rw [h1, Option.getD_some, ofStr_toStr h4]
theorem num_R (big : Bool) (n : Int) {k : Nat} (hk : k ≤ 8) : Yt big n k = some (Yj big n k) := by
 obtain ⟨L, h1, h2, _⟩ := num_ex big n k hk
 unfold Yj
 rw [h1, Option.getD_some, h2]
theorem Ye (big : Bool) (n : Int) {k : Nat} (hk : k ≤ 8) : (Yj big n k).length = k := by
 obtain ⟨L, h1, _, h3, _⟩ := num_ex big n k hk
 unfold Yj Ja7
 rw [h1, Option.getD_some, List.length_map, h3]
theorem num_zero (big : Bool) {k : Nat} (hk : k ≤ 8) : Yj big 0 k = List.replicate k 0 := by
 obtain ⟨L, h1, _, h3, _, h5⟩ := num_ex big 0 k hk
 have : L = List.replicate k 0 := List.eq_replicate_iff.2 ⟨h3, h5 rfl⟩
 unfold Yj Ja7
 rw [h1, Option.getD_some, this, List.map_replicate]; rfl
theorem tag2 (big : Bool) (n : Int) : J5 big n 2 = some (X2 (Yj big n 2)) := num_tag big n (k := 2) (by omega)
theorem tag4 (big : Bool) (n : Int) : J5 big n 4 = some (X2 (Yj big n 4)) := num_tag big n (k := 4) (by omega)
theorem R2 (big : Bool) (n : Int) : Yt big n 2 = some (Yj big n 2) := num_R big n (k := 2) (by omega)
theorem R4 (big : Bool) (n : Int) : Yt big n 4 = some (Yj big n 4) := num_R big n (k := 4) (by omega)
def J3 (k : Int) : Nat := if k = 1 ∨ k = 2 ∨ k = 7 then 1 else if k = 3 then 2 else if k = 4 ∨ k = 9 then 4 else if k = 5 then 8 else 0
theorem Jax (k : Int) : J3 k ≤ 8 := by unfold J3; (repeat' split) <;> omega
theorem Jcc (k : Int) : Z4 k = some (if k = 13 then 1 else (J3 k : Int)) := by
 unfold Z4 Jai J3
 by_cases h1 : k = 1
 ·subst h1; rfl
 by_cases h2 : k = 2
 ·subst h2; rfl
 by_cases h3 : k = 3
 ·subst h3; rfl
 by_cases h4 : k = 4
 ·subst h4; rfl
 by_cases h5 : k = 5
 ·subst h5; rfl
 by_cases h7 : k = 7
 ·subst h7; rfl
 by_cases h9 : k = 9
 ·subst h9; rfl
 by_cases h13 : k = 13
 ·subst h13; rfl
 simp [h1, h2, h3, h4, h5, h7, h9, h13, Qa]
theorem Jee (k : Int) : Jdx k = some (if k = 13 then 4 else (J3 k : Int)) := by
 unfold Jdx Jdz J3
 by_cases h1 : k = 1
 ·subst h1; rfl
 by_cases h2 : k = 2
 ·subst h2; rfl
 by_cases h3 : k = 3
 ·subst h3; rfl
 by_cases h4 : k = 4
 ·subst h4; rfl
 by_cases h5 : k = 5
 ·subst h5; rfl
 by_cases h7 : k = 7
 ·subst h7; rfl
 by_cases h9 : k = 9
 ·subst h9; rfl
 by_cases h13 : k = 13
 ·subst h13; rfl
 simp [h1, h2, h3, h4, h5, h7, h9, h13, Qa]
def Jb7 (k : Int) : Prop := k = 1 ∨ k = 3 ∨ k = 4 ∨ k = 9
def Jcy (k : Int) : Prop := k = 2 ∨ k = 7
instance (k : Int) : Decidable (Jb7 k) := by unfold Jb7; infer_instance
instance (k : Int) : Decidable (Jcy k) := by unfold Jcy; infer_instance
def Jfk (k : Int) : Prop := Jb7 k ∨ Jcy k ∨ k = 5 ∨ k = 13
instance (k : Int) : Decidable (Jfk k) := by unfold Jfk; infer_instance
def Jhf (v : Te) : Prop := (¬ Jb7 v.kai ∧ v.kak ≠ []) ∨ (¬ Jcy v.kai ∧ v.kaj ≠ []) ∨ (v.kai ≠ 5 ∧ v.kah ≠ []) ∨ (v.kai ≠ 13 ∧ v.kag ≠ [])
noncomputable def Wd (v : Te) : Int := open Classical in if ¬ Jfk v.kai then 10 else if Jhf v then 1 else 0
theorem Jav {α : Type} (l : List α) : (0 : Int) < (l.length : Int) ↔ l ≠ [] := by
 cases l <;> simp <;> omega
theorem Jdy (k : Int) (h : k ≠ 13) : (J3 k : Int) = 0 ↔ ¬ Jfk k := by
 unfold J3 Jfk Jb7 Jcy
 split
 ·omega
 ·split
  ·omega
  ·split
   ·omega
   ·split <;> omega
theorem j3_fields (v : Te) (b : Bool) : Ws v b = some (open Classical in if b = true ∨ (v.kai ≠ 13 ∧ v.kag ≠ []) then 1 else 0) := by
 unfold Ws
 cases b
 ·rw [Qa, cI, cI]
  by_cases h1 : v.kai ≠ 13
  ·by_cases h2 : v.kag = []
   ·rw [if_pos h1, if_neg (by rw [Jav]; simpa using h2), if_neg (by simp [h2])]
   ·rw [if_pos h1, if_pos ((Jav _).2 h2), if_pos (.inr ⟨h1, h2⟩)]
  ·rw [if_neg h1, if_neg (by simp [h1])]
 ·rw [Qq, Qq, if_pos (.inl rfl)]
theorem j2_fields (v : Te) (b : Bool) : Wt v b = some (open Classical in if b = true ∨ (v.kai ≠ 5 ∧ v.kah ≠ []) ∨ (v.kai ≠ 13 ∧ v.kag ≠ []) then 1 else 0) := by
 unfold Wt
 cases b
 ·rw [Qa, cI, j3_fields, j3_fields]
  by_cases h1 : v.kai ≠ 5
  ·rw [if_pos h1]
   congr 1
   by_cases h2 : v.kah = []
   ·simp [h2]
   ·simp [h2, h1, List.length_pos_iff]
  ·rw [if_neg h1]; simp [h1]
 ·rw [Qq, Qq, if_pos (.inl rfl)]
theorem j1_fields (v : Te) (b : Bool) : Wr v b = some (open Classical in if b = true ∨ (¬ Jcy v.kai ∧ v.kaj ≠ []) ∨ (v.kai ≠ 5 ∧ v.kah ≠ []) ∨ (v.kai ≠ 13 ∧ v.kag ≠ []) then 1 else 0) := by
 have ht : Jej v.kai = some (decide (Jcy v.kai)) := by
  unfold Jej Jcy
  rw [cI]
  by_cases h : v.kai = 2
  ·simp [h]
  ·simp [h]
 unfold Wr
 cases b
 ·rw [Qa, ht, Jb, j2_fields, j2_fields]
  by_cases h1 : Jcy v.kai
  ·rw [decide_eq_true h1]
   show Qe false _ _ = _
   rw [Qa]; simp [h1]
  ·rw [decide_eq_false h1]
   show Qe true _ _ = _
   rw [Qq]; simp [h1]
 ·rw [Qq, Qq, if_pos (.inl rfl)]
theorem Jdj (v : Te) : W3 v = some (Wd v) := by
 have hi : Jeh v.kai = some (decide (Jb7 v.kai)) := by
  unfold Jeh Jb7
  rw [cI, cI, cI]
  by_cases h : v.kai = 1
  ·simp [h]
  by_cases h3 : v.kai = 3
  ·simp [h3]
  by_cases h4 : v.kai = 4
  ·simp [h4]
  simp [h, h3, h4]
 unfold W3 Wd
 rw [Jcc, Jb, cI]
 by_cases hk : Jfk v.kai
 ·have hz : ¬ (if v.kai = 13 then (1 : Int) else (J3 v.kai : Int)) = 0 := by
   by_cases h13 : v.kai = 13
   ·rw [if_pos h13]; omega
   ·rw [if_neg h13]; exact fun e => (Jdy _ h13).1 e hk
  rw [if_neg hz, hi, Jb, j1_fields, j1_fields, if_neg (show ¬ ¬ Jfk v.kai from fun h => h hk)]
  by_cases h1 : Jb7 v.kai
  ·rw [decide_eq_true h1]
   show Qe false _ _ = _
   rw [Qa]; unfold Jhf; simp [h1]
  ·rw [decide_eq_false h1]
   show Qe true _ _ = _
   rw [Qq]; unfold Jhf; simp [h1, List.length_pos_iff]
 ·have h13 : v.kai ≠ 13 := fun e => hk (.inr (.inr (.inr e)))
  rw [if_neg h13, if_pos ((Jdy _ h13).2 hk), if_pos hk]
def limS (k : Int) : Int × Int := if k = 1 then (0, 255) else if k = 3 then (0, 65535) else if k = 9 then (-2147483648, 2147483647) else (0, 4294967295)
theorem bounds_eq (k : Int) : Jet k = some (limS k) := by
 unfold Jet limS
 rw [cI, cI, cI]; (repeat' split) <;> rfl
theorem limits_eq (k : Int) : Je2 k = some (limS k) := by
 unfold Je2 limS
 rw [cI, cI, cI]; (repeat' split) <;> rfl
theorem Jhh (a b c : Int) : Uw a b c = some (decide (a < b ∨ c < a)) := by
 unfold Uw
 rw [cI]
 by_cases h : a < b
 ·rw [if_pos h]; simp [h]
 ·rw [if_neg h]; simp [h]
def ratP (r : Tg) : Prop := (r.Num < 0 ∨ 4294967295 < r.Num) ∨ (r.Den < 0 ∨ 4294967295 < r.Den)
noncomputable def Jen (v : Te) : Int := open Classical in
 if Wd v ≠ 0 then Wd v else if ∃ n ∈ v.kak, n < (limS v.kai).1 ∨ (limS v.kai).2 < n then 2 else if ∃ r ∈ v.kah, ratP r then 2 else if v.kai = 2 ∧ (0 : UInt8) ∈ v.kaj then 9 else 0
theorem Jec {α : Type} {F : (Int → Option Int) → Int → Option Int} (xs : List α) (p : α → Prop) (e : Int) (o : Option Int) (more : ∀ (next : Int → Option Int) (k : Nat) (hk : k < xs.length), (p xs[k] → F next (k : Int) = some e) ∧ (¬ p xs[k] → F next (k : Int) = next ((k : Int) + 1))) (stop : ∀ next, F next (xs.length : Int) = o) :
  Vv F 0 = open Classical in if ∃ x ∈ xs, p x then some e else o := by
 have key : ∀ m i : Nat, i + m = xs.length → Vv F (i : Int) = open Classical in if ∃ x ∈ xs.drop i, p x then some e else o := by
  intro m
  induction m with
  | zero =>
   intro i hi
   have : i = xs.length := by omega
   subst this
   rw [List.drop_length, if_neg (by simp)]
   exact Qr stop
  | succ m ih =>
   intro i hi
   have hlt : i < xs.length := by omega
   rw [List.drop_eq_getElem_cons hlt]
   by_cases hp : p xs[i]
   ·rw [if_pos ⟨_, List.mem_cons_self, hp⟩]
    exact Qr fun next => (more next i hlt).1 hp
   ·rw [Xu ((i : Int) + 1) (fun next => (more next i hlt).2 hp)]
    have := ih (i + 1) (by omega)
    rw [show ((i : Int) + 1) = ((i + 1 : Nat) : Int) from rfl, this]
    congr 1
    apply propext
    constructor
    ·rintro ⟨x, hx, h⟩; exact ⟨x, List.mem_cons_of_mem _ hx, h⟩
    ·rintro ⟨x, hx, h⟩
     rcases List.mem_cons.1 hx with h' | h'
     ·subst h'; exact absurd h hp
     ·exact ⟨x, h', h⟩
 have := key xs.length 0 (by omega)
 rw [List.drop_zero] at this
 exact this
def vB (v : Te) : Prop := v.kaj.length ≤ 2000000 ∧ v.kak.length ≤ 2000000 ∧ v.kah.length ≤ 2000000
theorem j2_plain {v : Te} (hb : vB v) : Uh v = some (open Classical in if v.kai = 2 ∧ (0 : UInt8) ∈ v.kaj then 9 else 0) := by
 unfold Uh
 rw [cI]
 by_cases h2 : v.kai = 2
 ·rw [if_pos h2, Jec v.kaj (fun c => c = 0) 9 (some 0) (fun next k hk => ?_) (fun next => ?_)]
  ·congr 1
   by_cases hm : (0 : UInt8) ∈ v.kaj
   ·rw [if_pos ⟨0, hm, rfl⟩, if_pos ⟨h2, hm⟩]
   ·rw [if_neg (fun ⟨x, hx, e⟩ => hm (e ▸ hx)), if_neg (fun h => hm h.2)]
  ·show (_ → Zj v next (k : Int) = _) ∧ (_ → Zj v next (k : Int) = _)
   have := hb.1
   unfold Zj
   rw [cI, if_pos (by omega), Jau hk, Jb, cI]
   constructor
   ·intro e; rw [if_pos (by rw [e]; rfl)]
   ·intro e
    have : v.kaj[k].toNat ≠ 0 := fun h => e (by rw [← UInt8.ofNat_toNat (x := v.kaj[k]), h]; rfl)
    rw [if_neg (by omega), Ju (by omega), Jb]
  ·show Zj v next (v.kaj.length : Int) = _
   unfold Zj
   rw [cI, if_neg (by omega)]
 ·rw [if_neg h2, if_neg (fun h => h2 h.1)]
theorem Jgf {v : Te} (hb : vB v) : Jat v = some (Jen v) := by
 unfold Jat Jen
 rw [Jdj, Jb, cI]
 by_cases hf : Wd v ≠ 0
 ·rw [if_pos hf, if_pos hf]
 rw [if_neg hf, if_neg hf, bounds_eq, Jb]
 rw [Jec (F := fun next5 s => Yu v (limS v.kai) next5 s) v.kak (fun n => n < (limS v.kai).1 ∨ (limS v.kai).2 < n) 2 (W9 v) (fun next k hk => ?_) (fun next => ?_)]
 ·have e1 : W9 v = some (open Classical in if ∃ r ∈ v.kah, ratP r then 2 else if v.kai = 2 ∧ (0 : UInt8) ∈ v.kaj then 9 else 0) := by
   unfold W9
   rw [Jec (F := fun next4 s => Yr v next4 s) v.kah ratP 2 (Uh v) (fun next k hk => ?_) (fun next => ?_), j2_plain hb]
   ·split <;> rfl
   ·show (_ → Yr v next (k : Int) = _) ∧ (_ → Yr v next (k : Int) = _)
    have := hb.2.2
    unfold Yr ratP
    rw [cI, if_pos (by omega), Xa hk, Jb, Jhh, Jb, cI, Jhh, Jb, cI]
    constructor
    ·intro e
     by_cases h1 : v.kah[k].Num < 0 ∨ 4294967295 < v.kah[k].Num
     ·rw [if_pos h1]
     ·rw [if_neg h1, if_pos (e.resolve_left h1)]
    ·intro e
     rw [if_neg (fun h => e (.inl h)), if_neg (fun h => e (.inr h)), Ju (by omega), Jb]
   ·show Yr v next (v.kah.length : Int) = _
    unfold Yr
    rw [cI, if_neg (by omega)]
  rw [e1]; split <;> rfl
 ·show (_ → Yu v _ next (k : Int) = _) ∧ (_ → Yu v _ next (k : Int) = _)
  have := hb.2.1
  unfold Yu
  rw [cI, if_pos (by omega), Xa hk, Jb, Jhh, Jb, cI]
  constructor
  ·intro e; rw [if_pos e]
  ·intro e; rw [if_neg e, Ju (by omega), Jb]
 ·show Yu v _ next (v.kak.length : Int) = _
  unfold Yu
  rw [cI, if_neg (by omega)]
theorem ixB_mem (c : UInt8) (t : List UInt8) : -1 ≤ ixB t c ∧ (0 ≤ ixB t c ↔ c ∈ t) := by
 induction t with
 | nil => exact ⟨by unfold ixB; omega, by simp [ixB]⟩
 | cons b t ih =>
  unfold ixB
  by_cases hb : b = c
  ·rw [if_pos hb]; exact ⟨by omega, fun _ => by simp [hb], fun _ => by omega⟩
  ·rw [if_neg hb]
   have hc : ¬ c = b := fun e => hb e.symm
   rw [List.mem_cons]
   by_cases h1 : ixB t c = -1
   ·rw [if_pos h1]
    exact ⟨by omega, fun h => by omega, fun h => by have := ih.2.2 (h.resolve_left hc); omega⟩
   ·rw [if_neg h1]
    exact ⟨by omega, fun h => .inr (ih.2.1 (by omega)), fun h => by have := ih.2.2 (h.resolve_left hc); omega⟩
theorem j2_fault {v : Te} (hb : vB v) (h13 : v.kai ≠ 13) : X7 v = some (open Classical in if ∃ n ∈ v.kak, n < (limS v.kai).1 ∨ (limS v.kai).2 < n then 2 else if ∃ r ∈ v.kah, ratP r then 2 else if v.kai = 2 ∧ (0 : UInt8) ∈ v.kaj then 9 else 0) := by
 have e4 : V6 v = some (open Classical in if v.kai = 2 ∧ (0 : UInt8) ∈ v.kaj then 9 else 0) := by
  unfold V6 W7
  rw [cI, cI, if_neg h13]
  by_cases h2 : v.kai = 2
  ·rw [if_pos h2]
   unfold V0 Y7
   have hx : gIxB v.kaj 0 = some (ixB v.kaj 0) := by unfold gIxB; rfl
   have hm := (ixB_mem 0 v.kaj).2
   rw [hx, Jb, Jb, Jb, cI]
   by_cases h0 : (0 : UInt8) ∈ v.kaj
   ·rw [if_pos (hm.2 h0), if_pos ⟨h2, h0⟩]
   ·rw [if_neg (fun h => h0 (hm.1 h)), if_neg (fun h => h0 h.2)]
  ·rw [if_neg h2, if_neg (fun h => h2 h.1)]
 have e3 : V4 v = some (open Classical in if ∃ r ∈ v.kah, ratP r then 2 else if v.kai = 2 ∧ (0 : UInt8) ∈ v.kaj then 9 else 0) := by
  unfold V4
  rw [Jec (F := fun next6 s => Yl v next6 s) v.kah ratP 2 (V6 v) (fun next k hk => ?_) (fun next => ?_), e4]
  ·split <;> rfl
  ·show (_ → Yl v next (k : Int) = _) ∧ (_ → Yl v next (k : Int) = _)
   have := hb.2.2
   unfold Yl ratP
   rw [cI, if_pos (by omega), Xa hk, Jb, cI, cI, cI, cI]
   constructor
   ·intro e
    by_cases h1 : v.kah[k].Num < 0
    ·rw [if_pos h1]
    by_cases h2 : 4294967295 < v.kah[k].Num
    ·rw [if_neg h1, if_pos h2]
    by_cases h3 : v.kah[k].Den < 0
    ·rw [if_neg h1, if_neg h2, if_pos h3]
    rw [if_neg h1, if_neg h2, if_neg h3, if_pos (by omega)]
   ·intro e
    rw [if_neg (by omega), if_neg (by omega), if_neg (by omega), if_neg (by omega), Ju (by omega), Jb]
  ·show Yl v next (v.kah.length : Int) = _
   unfold Yl
   rw [cI, if_neg (by omega)]
 unfold X7
 rw [limits_eq, Jb]
 rw [Jec (F := fun next7 s => Yk v (limS v.kai) next7 s) v.kak (fun n => n < (limS v.kai).1 ∨ (limS v.kai).2 < n) 2 (V4 v) (fun next k hk => ?_) (fun next => ?_), e3]
 ·split <;> rfl
 ·show (_ → Yk v _ next (k : Int) = _) ∧ (_ → Yk v _ next (k : Int) = _)
  have := hb.2.1
  unfold Yk
  rw [cI, if_pos (by omega), Xa hk, Jb, cI, cI]
  constructor
  ·intro e
   by_cases h1 : v.kak[k] < (limS v.kai).1
   ·rw [if_pos h1]
   ·rw [if_neg h1, if_pos (e.resolve_left h1)]
  ·intro e
   rw [if_neg (fun h => e (.inl h)), if_neg (fun h => e (.inr h)), Ju (by omega), Jb]
 ·show Yk v _ next (v.kak.length : Int) = _
  unfold Yk
  rw [cI, if_neg (by omega)]
theorem j10_fault (v : Te) (b : Bool) : Vq v b = open Classical in if b = true ∨ (v.kai ≠ 13 ∧ v.kag ≠ []) then some 1 else X7 v := by
 unfold Vq
 cases b
 ·rw [Qa, cI, cI]
  by_cases h2 : v.kag = []
  ·rw [if_neg (by rw [Jav]; simpa using h2), if_neg (by simp [h2])]
  ·rw [if_pos ((Jav _).2 h2)]
   by_cases h1 : v.kai = 13
   ·rw [if_neg (by simpa using h1), if_neg (by simp [h1])]
   ·rw [if_pos h1, if_pos (.inr ⟨h1, h2⟩)]
 ·rw [Qq, Qq, if_pos (.inl rfl)]
theorem j9_fault (v : Te) (b : Bool) : V9 v b = open Classical in if b = true ∨ (v.kai ≠ 5 ∧ v.kah ≠ []) ∨ (v.kai ≠ 13 ∧ v.kag ≠ []) then some 1 else X7 v := by
 unfold V9
 cases b
 ·rw [Qa, cI, j10_fault, j10_fault]
  by_cases h2 : v.kah = []
  ·rw [if_neg (by rw [Jav]; simpa using h2)]; simp [h2]
  ·rw [if_pos ((Jav _).2 h2)]; simp [h2]
 ·rw [Qq, Qq, if_pos (.inl rfl)]
theorem j8_fault (v : Te) (x4 b : Bool) : V7 v x4 b = open Classical in if b = true ∨ (x4 = false ∧ v.kak ≠ []) ∨ (v.kai ≠ 5 ∧ v.kah ≠ []) ∨ (v.kai ≠ 13 ∧ v.kag ≠ []) then some 1 else X7 v := by
 unfold V7
 cases b
 ·rw [Qa, cI, j9_fault, j9_fault]
  by_cases h2 : v.kak = []
  ·rw [if_neg (by rw [Jav]; simpa using h2)]; simp [h2]
  ·rw [if_pos ((Jav _).2 h2)]; cases x4 <;> simp [h2]
 ·rw [Qq, Qq, if_pos (.inl rfl)]
theorem Jf9 {v : Te} (hb : vB v) (h13 : v.kai ≠ 13) : U6 v = some (Jen v) := by
 have e : U6 v = X9 v (decide (Jcy v.kai)) (decide (Jb7 v.kai)) := by
  unfold U6 Jcy Jb7
  by_cases h2 : v.kai = 2
  ·simp [h2, Qq, Qa]
  by_cases h1 : v.kai = 1
  ·simp [h1, Qq, Qa]
  by_cases h3 : v.kai = 3
  ·simp [h3, Qq, Qa]
  by_cases h4 : v.kai = 4
  ·simp [h4, Qq, Qa]
  simp [h2, h1, h3, h4, Qa]
 rw [e]
 unfold X9
 rw [Jee, Jb, cI, if_neg h13]
 unfold Jen Wd
 by_cases hk : Jfk v.kai
 ·rw [if_neg (fun e => (Jdy _ h13).1 e hk), cI, j8_fault, j8_fault, j2_fault hb h13, if_neg (show ¬ ¬ Jfk v.kai from fun h => h hk)]
  have hfm : (if v.kaj ≠ [] then (open Classical in if (!decide (Jcy v.kai)) = true ∨ (decide (Jb7 v.kai) = false ∧ v.kak ≠ []) ∨ (v.kai ≠ 5 ∧ v.kah ≠ []) ∨ (v.kai ≠ 13 ∧ v.kag ≠ []) then True else False) else (open Classical in if false = true ∨ (decide (Jb7 v.kai) = false ∧ v.kak ≠ []) ∨ (v.kai ≠ 5 ∧ v.kah ≠ []) ∨ (v.kai ≠ 13 ∧ v.kag ≠ []) then True else False)) ↔ Jhf v := by
   unfold Jhf
   by_cases ht : v.kaj = [] <;> by_cases hk1 : Jcy v.kai <;> by_cases hk2 : Jb7 v.kai <;> simp [ht, hk1, hk2]
  by_cases hf : Jhf v
  ·rw [if_pos hf, if_pos (show (1 : Int) ≠ 0 by omega)]
   by_cases ht : v.kaj = []
   ·rw [if_neg (by simpa using ht)]
    rw [if_neg (by simpa using ht)] at hfm
    have := hfm.2 hf
    split at this
    ·rename_i h; rw [if_pos h]
    ·exact this.elim
   ·rw [if_pos ht]
    rw [if_pos ht] at hfm
    have := hfm.2 hf
    split at this
    ·rename_i h; rw [if_pos h]
    ·exact this.elim
  ·rw [if_neg hf, if_neg (show ¬ ((0 : Int) ≠ 0) by omega)]
   by_cases ht : v.kaj = []
   ·rw [if_neg (by simpa using ht)]
    rw [if_neg (by simpa using ht)] at hfm
    rw [if_neg (fun h => hf (hfm.1 (by rw [if_pos h]; trivial)))]
   ·rw [if_pos ht]
    rw [if_pos ht] at hfm
    rw [if_neg (fun h => hf (hfm.1 (by rw [if_pos h]; trivial)))]
 ·rw [if_pos ((Jdy _ h13).2 hk), if_pos hk, if_pos (show (10 : Int) ≠ 0 by omega)]
end Go.M
