/- TopTold, Meet, Shown, Alike, PeopleOf: the walks, printed by our generator; each follows its model. Conditions: the model yields a value. -/
import Derived.Test.YtpikgcmaljmlmaaGreatDoorKTb
import Derived.Test.YtpikgcmaljmlmaaGreatDoorMd
namespace Go.Proofs.YtpikgcmaljmlmaaGreatDoor
open Go Go.Vc Go.Md Go.M Go.Lx
set_option maxRecDepth 100000
set_option maxHeartbeats 4000000
set_option linter.unusedVariables false
theorem k64 {a0 : T_sync_Fact} {r : T_sync_Fact} (H : sync_one a0 = some r) : Ret Tryz.prog 64 [.agg #[.int .i64 a0.Dot.Device, .int .i64 a0.Dot.N, .int .i64 a0.Time, .int .i64 a0.Kind, .int .i64 a0.Id, str a0.Name, .int .i64 a0.Num, str a0.Text]] (.agg #[.int .i64 r.Dot.Device, .int .i64 r.Dot.N, .int .i64 r.Time, .int .i64 r.Kind, .int .i64 r.Id, str r.Name, .int .i64 r.Num, str r.Text]) := by
 refine Qc (n := 12) Tryz.func64 rfl rfl rfl (fun wd => ?_)
 refine Je ?_
 refine Jb ?_
 refine W8 (cs := [.int .i64 a0.Dot.Device, .int .i64 a0.Dot.N, .int .i64 a0.Time, .int .i64 a0.Kind, .int .i64 a0.Id, str a0.Name, .int .i64 a0.Num, str a0.Text]) rfl rfl rfl rfl (fun b2 => ?_)
 refine Zo (cs := [.int .i64 0, .int .i64 0, .int .i64 0, .int .i64 0, .int .i64 0, str [], .int .i64 0, str []]) Tryz.zeroValue52 rfl rfl rfl (fun b3 => ?_)
 refine Jf ?_
 refine Je ?_
 refine Jb ?_
 refine Ja rfl rfl rfl (Jq Tryz.runUnderlying52 rfl Tryz.sizeOf50 rfl rfl) ?_
 refine Y2 (i := 0) (vs := [.int .i64 a0.Dot.Device, .int .i64 a0.Dot.N]) Tryz.isAgg50 Tryz.sizeOf50 rfl rfl rfl rfl rfl ?_
 refine Ja rfl rfl rfl (Jq Tryz.runUnderlying52 rfl Tryz.sizeOf3 rfl rfl) ?_
 refine J0 (i := 0) (v := .int .i64 a0.Kind) Tryz.isAgg3 rfl rfl rfl rfl rfl ?_
 refine Ja rfl rfl rfl (Jq Tryz.runUnderlying52 rfl Tryz.sizeOf3 rfl rfl) ?_
 refine J0 (i := 0) (v := .int .i64 a0.Id) Tryz.isAgg3 rfl rfl rfl rfl rfl ?_
 refine Ja rfl rfl rfl (Jq Tryz.runUnderlying52 rfl Tryz.sizeOf9 rfl rfl) ?_
 refine J0 (i := 0) (v := str a0.Name) Tryz.isAgg9 rfl rfl rfl rfl rfl ?_
 refine Ja rfl rfl rfl (r_build (pl := #[(0, 2), (2, 1), (3, 1), (4, 1), (5, 1), (6, 1), (7, 1)]) (ps := [(0, .agg #[.int .i64 a0.Dot.Device, .int .i64 a0.Dot.N]), (2, .int .i64 a0.Kind), (3, .int .i64 a0.Id), (4, str a0.Name)]) (cells := #[.int .i64 a0.Dot.Device, .int .i64 a0.Dot.N, .int .i64 0, .int .i64 a0.Kind, .int .i64 a0.Id, str a0.Name, .int .i64 0, str []]) Tryz.zeroValue52 Tryz.runUnderlying52 (fun w => by kernel_rfl) rfl rfl) ?_
 refine X3 (i := 1) (vs := [.int .i64 a0.Dot.Device, .int .i64 a0.Dot.N, .int .i64 0, .int .i64 a0.Kind, .int .i64 a0.Id, str a0.Name, .int .i64 0, str []]) (cs' := [.int .i64 a0.Dot.Device, .int .i64 a0.Dot.N, .int .i64 0, .int .i64 a0.Kind, .int .i64 a0.Id, str a0.Name, .int .i64 0, str []]) Tryz.sizeOf52 rfl rfl rfl rfl rfl rfl rfl rfl rfl ?_
 refine Jf ?_
 refine Jm ?_
 obtain rfl := Option.some.inj H
 refine retC (i := 1) (vs := [.int .i64 a0.Dot.Device, .int .i64 a0.Dot.N, .int .i64 0, .int .i64 a0.Kind, .int .i64 a0.Id, str a0.Name, .int .i64 0, str []]) Tryz.isAgg52 Tryz.sizeOf52 rfl rfl rfl rfl (Xh rfl)
theorem k31 {a0 : (List T_sync_Fact)} {v0 : Value} {r : (List (T_sync_Fact × Bool))} {w : World} {h : J3} (hw : Know h w Zh) (f0 : FrS h 8 v0 (a0.map Jj)) (H : Xa a0 = some r) : Does Tryz.prog 31 (List.toArray [v0]) w (fun v w' => ∃ x : Nat, v = (.map (some x)) ∧ Turn w w' Zh (mapC (fun x_ : T_sync_Fact => .agg #[.int .i64 x_.Dot.Device, .int .i64 x_.Dot.N, .int .i64 x_.Time, .int .i64 x_.Kind, .int .i64 x_.Id, str x_.Name, .int .i64 x_.Num, str x_.Text]) (fun x_ : Bool => .bool x_) x r)) := by
 refine enter (n := 18) Tryz.func31 rfl rfl rfl Zh [] (Sat.nil _ _) ?_
 refine Je ?_
 refine Jb ?_
 refine Ja rfl rfl rfl (Jc (v := .map none) rfl) ?_
 refine Jf ?_
 refine Je ?_
 refine Jb ?_
 refine Zf (rds := []) (makes_map (fk := (fun x_ : T_sync_Fact => .agg #[.int .i64 x_.Dot.Device, .int .i64 x_.Dot.N, .int .i64 x_.Time, .int .i64 x_.Kind, .int .i64 x_.Id, str x_.Name, .int .i64 x_.Num, str x_.Text])) (fv := (fun x_ : Bool => .bool x_))) rfl rfl rfl (fun b2 => ?_)
 refine Ja rfl rfl rfl (Jc (v := .map (some b2)) rfl) ?_
 refine Jf ?_
 refine Je ?_
 refine Je ?_
 refine Jb ?_
 refine Ja rfl rfl rfl (Jd (v := v0) rfl) ?_
 refine Ja rfl rfl rfl (Zl Tryz.underlying65 rfl f0 rfl) ?_
 refine Ja rfl rfl rfl (Jd (v := .int .i64 0) rfl) ?_
 refine Jf ?_
 refine Ju ?_
 refine Yv (σ := Int × (List (T_sync_Fact × Bool))) (τ := Unit) (fun next1 s => Wy a0 next1 s.1 s.2) (fun s t => [(3, .map (some b2)), (7, v0), (8, .int .i64 (a0.length : Int)), (9, .int .i64 s.1)]) (fun s t => [mapC (fun x_ : T_sync_Fact => .agg #[.int .i64 x_.Dot.Device, .int .i64 x_.Dot.N, .int .i64 x_.Time, .int .i64 x_.Kind, .int .i64 x_.Id, str x_.Name, .int .i64 x_.Num, str x_.Text]) (fun x_ : Bool => .bool x_) b2 s.2]) (fun s t => True) (0, ([] : (List (T_sync_Fact × Bool)))) () [0] H (by exact trivial) (by exact ⟨rfl, rfl, rfl, rfl, trivial⟩) (by decide) rfl ?_
 rintro ⟨x9_2, mp_2⟩ _ m1 gg H7 _
 clear H
 replace H7 : Wy a0 (it (fun next1 s => Wy a0 next1 s.1 s.2) m1) x9_2 mp_2 = some r := H7
 generalize hn1 : it (fun next1 s => Wy a0 next1 s.1 s.2) m1 = next1 at H7
 try dsimp only
 refine Je ?_
 refine Jb ?_
 refine Ja rfl rfl rfl (Q1 rfl rfl) ?_
 refine Jf ?_
 refine Je ?_
 refine J5 (b := (decide (x9_2 < (a0.length : Int)))) rfl (fun hb => ?_) (fun hb => ?_)
 ·have H8 := Jn hb H7; clear H7
  refine Jr ?_
  refine Je ?_
  refine Ju ?_
  refine Je ?_
  refine Jb ?_
  obtain ⟨t11, h_t11, H9⟩ := Jh H8; clear H8
  refine Ja rfl rfl rfl (Qm Tryz.underlying65 Tryz.sizeOf52 rfl rfl f0 h_t11) ?_
  refine Qa (fun w hF hS => Xw (f := Jj) (i := x9_2) (sz := 8) (j := 0) (vs := [.int .i64 t11.Dot.Device, .int .i64 t11.Dot.N, .int .i64 t11.Time, .int .i64 t11.Kind, .int .i64 t11.Id, str t11.Name, .int .i64 t11.Num, str t11.Text]) Tryz.isAgg52 Tryz.sizeOf52 rfl rfl (f0.row (hw.now hF)) h_t11 rfl) rfl rfl rfl ?_
  refine Zo (cs := [.int .i64 0, .int .i64 0, .int .i64 0, .int .i64 0, .int .i64 0, str [], .int .i64 0, str []]) Tryz.zeroValue52 rfl rfl rfl (fun b3 => ?_)
  refine X3 (i := 1) (vs := [.int .i64 t11.Dot.Device, .int .i64 t11.Dot.N, .int .i64 t11.Time, .int .i64 t11.Kind, .int .i64 t11.Id, str t11.Name, .int .i64 t11.Num, str t11.Text]) (cs' := [.int .i64 t11.Dot.Device, .int .i64 t11.Dot.N, .int .i64 t11.Time, .int .i64 t11.Kind, .int .i64 t11.Id, str t11.Name, .int .i64 t11.Num, str t11.Text]) Tryz.sizeOf52 rfl rfl rfl rfl rfl rfl rfl rfl rfl ?_
  refine Jf ?_
  refine Jb ?_
  refine Ja rfl rfl rfl (Jd (v := .map (some b2)) rfl) ?_
  refine Y2 (i := 1) (vs := [.int .i64 t11.Dot.Device, .int .i64 t11.Dot.N, .int .i64 t11.Time, .int .i64 t11.Kind, .int .i64 t11.Id, str t11.Name, .int .i64 t11.Num, str t11.Text]) Tryz.isAgg52 Tryz.sizeOf52 rfl rfl rfl rfl rfl ?_
  obtain ⟨t15, h_t15, H10⟩ := Jh H9; clear H9
  refine Qu (k64 h_t15) Tryz.call64 rfl rfl rfl ?_
  refine l_turn0 (turns_msetG (u := true) (i := 0) (rds := []) (fk := (fun x_ : T_sync_Fact => .agg #[.int .i64 x_.Dot.Device, .int .i64 x_.Dot.N, .int .i64 x_.Time, .int .i64 x_.Kind, .int .i64 x_.Id, str x_.Name, .int .i64 x_.Num, str x_.Text])) (fv := (fun x_ : Bool => .bool x_)) (k := t15) (v := true) keyG_T52 (.inr rfl) Tryz.underlying72  rfl rfl rfl rfl) rfl rfl (fun _ => ?_)
  refine Jf ?_
  refine Jb ?_
  obtain ⟨t16, h_t16, H11⟩ := Jh H10; clear H10
  refine Ja rfl rfl rfl (Q2 rfl rfl h_t16) ?_
  refine Ja rfl rfl rfl (Jd (v := .int .i64 t16) rfl) ?_
  refine Jf ?_
  refine Jl (t16, (Un mp_2 t15 true)) () m1 [0] (by exact ⟨rfl, rfl, rfl, rfl, trivial⟩) (by decide) rfl (by exact ⟨(by subst hn1; exact H11), trivial⟩) (Nat.lt_succ_self _)
 ·have H12 := Jo hb H7; clear H7
  refine Qr ?_
  refine Je ?_
  refine Jb ?_
  refine Ja rfl rfl rfl (Jd (v := .map (some b2)) rfl) ?_
  refine Ja rfl rfl rfl (Jc (v := .map (some b2)) rfl) ?_
  refine Jf ?_
  refine Jm ?_
  obtain rfl := Option.some.inj H12
  refine Jy (v := .map (some b2)) rfl rfl (W6 b2 (i := 0) rfl rfl (Imp.refl _))
theorem k65 {a0 : (Nat → Int)} {a1 : T_sync_Dot} {r : Bool} (H : Zx a0 a1 = some r) : Ret Tryz.prog 65 [.agg #[.int .i64 (a0 0), .int .i64 (a0 1), .int .i64 (a0 2), .int .i64 (a0 3), .int .i64 (a0 4), .int .i64 (a0 5), .int .i64 (a0 6), .int .i64 (a0 7), .int .i64 (a0 8), .int .i64 (a0 9), .int .i64 (a0 10), .int .i64 (a0 11), .int .i64 (a0 12), .int .i64 (a0 13), .int .i64 (a0 14), .int .i64 (a0 15)], .agg #[.int .i64 a1.Device, .int .i64 a1.N]] (.bool r) := by
 refine Qc (n := 18) Tryz.func65 rfl rfl rfl (fun wd => ?_)
 refine Je ?_
 refine Jb ?_
 refine W8 (cs := [.int .i64 (a0 0), .int .i64 (a0 1), .int .i64 (a0 2), .int .i64 (a0 3), .int .i64 (a0 4), .int .i64 (a0 5), .int .i64 (a0 6), .int .i64 (a0 7), .int .i64 (a0 8), .int .i64 (a0 9), .int .i64 (a0 10), .int .i64 (a0 11), .int .i64 (a0 12), .int .i64 (a0 13), .int .i64 (a0 14), .int .i64 (a0 15)]) rfl rfl rfl rfl (fun b2 => ?_)
 refine W8 (cs := [.int .i64 a1.Device, .int .i64 a1.N]) rfl rfl rfl rfl (fun b3 => ?_)
 refine Ja rfl rfl rfl (Jc (v := .bool false) rfl) ?_
 refine Jf ?_
 refine Je ?_
 exact Za (Kd.p :: Kd.d [1] _ :: Kd.d [] _ :: Kd.p :: Kd.p :: Kd.p :: Kd.d [1] _ :: Kd.p :: Kd.d [1] _ :: Kd.p :: Kd.d [0] _ :: Kd.p :: Kd.p :: Kd.p :: []) 0 mixed (by
  refine Jt rfl rfl (Jq Tryz.runUnderlying50 rfl Tryz.sizeOf3 rfl rfl) ?_
  refine Zb (i := 1) (v := .int .i64 a1.Device) Tryz.isAgg3 rfl rfl rfl rfl ?_
  have h_t7 := Qx H
  have H5 := Qg H
  refine d_call (k24 h_t7) Tryz.call24 rfl rfl ?_
  refine Jt rfl rfl (Vt rfl) ?_
  refine Jt rfl rfl (Jd (v := .bool (!(val (Yg a1.Device 0 15)))) rfl) ?_
  refine splitS (fun hb => ?_) (fun hb => ?_)
  ·have H6 := Jn hb H5
   refine Jt rfl rfl (Jq Tryz.runUnderlying50 rfl Tryz.sizeOf3 rfl rfl) ?_
   refine Zb (i := 1) (v := .int .i64 a1.N) Tryz.isAgg3 rfl rfl rfl rfl ?_
   refine Jt rfl rfl (Jq Tryz.runUnderlying50 rfl Tryz.sizeOf3 rfl rfl) ?_
   refine Zb (i := 1) (v := .int .i64 a1.Device) Tryz.isAgg3 rfl rfl rfl rfl ?_
   have h_k14 := Qx H6
   have H7 := Qg H6
   refine Jt rfl rfl (Jaj Tryz.runUnderlying64 Tryz.sizeOf3 rfl rfl h_k14) ?_
   refine Zb (i := 0) (v := .int .i64 (a0 (val (Xb 16 a1.Device)))) Tryz.isAgg3 rfl rfl rfl (rg_arr (pre := []) (post := []) (f := fun j_ => [.int .i64 (a0 j_)]) (n := 16) (sz := 1) (q := 0) rfl rfl (fun _ => rfl) (gIx_lt h_k14) rfl) ?_
   refine Jt rfl rfl (r_leq rfl rfl) ?_
   refine Jt rfl rfl (Jz (v := .bool (decide (a1.N ≤ (a0 (val (Xb 16 a1.Device)))))) rfl rfl) ?_
   refine Jt rfl rfl (Jc (v := .bool (decide (a1.N ≤ (a0 (val (Xb 16 a1.Device)))))) rfl) ?_
   refine Ui ?_
   refine Jm ?_
   obtain rfl := Option.some.inj H7
   refine Jy (v := .bool (decide (a1.N ≤ (a0 (val (Xb 16 a1.Device)))))) rfl rfl (Xh rfl)
  ·have H8 := Jo hb H5
   refine Q4 rfl rfl ?_
   refine Q4 rfl rfl ?_
   refine Q4 rfl rfl ?_
   refine Q4 rfl rfl ?_
   refine Q4 rfl rfl ?_
   refine Q4 rfl rfl ?_
   refine Q4 rfl rfl ?_
   refine Jt rfl rfl (Jw (v := .bool false) rfl rfl) ?_
   refine Jt rfl rfl (Jc (v := .bool false) rfl) ?_
   refine Ui ?_
   refine Jm ?_
   obtain rfl := Option.some.inj H8
   refine Jy (v := .bool false) rfl rfl (Xh rfl)
  ) (by kernel_rfl)
theorem k63 {a0 : (List T_sync_Fact)} {v0 : Value} {a1 : (List (T_sync_Fact × Bool))} {v1 : Value} {a2 : (Nat → Int)} {r : (List T_sync_Fact)} {w : World} {h : J3} (hw : Know h w Zh) (f0 : FrS h 8 v0 (a0.map Jj)) (f1 : FrM h (fun x_ : T_sync_Fact => .agg #[.int .i64 x_.Dot.Device, .int .i64 x_.Dot.N, .int .i64 x_.Time, .int .i64 x_.Kind, .int .i64 x_.Id, str x_.Name, .int .i64 x_.Num, str x_.Text]) (fun x_ : Bool => .bool x_) v1 a1) (H : V1 a0 a1 a2 = some r) : Does Tryz.prog 63 (List.toArray [v0, v1, .agg #[.int .i64 (a2 0), .int .i64 (a2 1), .int .i64 (a2 2), .int .i64 (a2 3), .int .i64 (a2 4), .int .i64 (a2 5), .int .i64 (a2 6), .int .i64 (a2 7), .int .i64 (a2 8), .int .i64 (a2 9), .int .i64 (a2 10), .int .i64 (a2 11), .int .i64 (a2 12), .int .i64 (a2 13), .int .i64 (a2 14), .int .i64 (a2 15)]]) w (fun v w' => ∃ x : (Option Addr × Nat), v = (.slice x.1 r.length x.2) ∧ Turn w w' Zh (Qq 52 8 (.slice x.1 r.length x.2) r.length (r.map Jj))) := by
 refine enter (n := 33) Tryz.func63 rfl rfl rfl Zh [] (Sat.nil _ _) ?_
 refine Je ?_
 refine Jb ?_
 refine W8 (cs := [.int .i64 (a2 0), .int .i64 (a2 1), .int .i64 (a2 2), .int .i64 (a2 3), .int .i64 (a2 4), .int .i64 (a2 5), .int .i64 (a2 6), .int .i64 (a2 7), .int .i64 (a2 8), .int .i64 (a2 9), .int .i64 (a2 10), .int .i64 (a2 11), .int .i64 (a2 12), .int .i64 (a2 13), .int .i64 (a2 14), .int .i64 (a2 15)]) rfl rfl rfl rfl (fun b4 => ?_)
 refine Ja rfl rfl rfl (Jc (v := .slice none 0 0) rfl) ?_
 refine Jf ?_
 refine Je ?_
 refine Jb ?_
 refine Ja rfl rfl rfl (Jc (v := .slice none 0 0) rfl) ?_
 refine Jf ?_
 refine Je ?_
 refine Je ?_
 refine Jb ?_
 refine Ja rfl rfl rfl (Jd (v := v0) rfl) ?_
 refine Ja rfl rfl rfl (Zl Tryz.underlying65 rfl f0 rfl) ?_
 refine Ja rfl rfl rfl (Jd (v := .int .i64 0) rfl) ?_
 refine Jf ?_
 refine Ju ?_
 refine Wp 52 8 ?_
 refine Yv (σ := Int × (List T_sync_Fact)) (τ := (Option Addr × Nat)) (fun next1 s => V6 a0 a1 a2 next1 s.1 s.2) (fun s t => [(1, v1), (5, .pointer (some ⟨b4, 0, none⟩)), (7, .slice t.1 s.2.length t.2), (10, v0), (11, .int .i64 (a0.length : Int)), (12, .int .i64 s.1)]) (fun s t => [Jp b4 [.int .i64 (a2 0), .int .i64 (a2 1), .int .i64 (a2 2), .int .i64 (a2 3), .int .i64 (a2 4), .int .i64 (a2 5), .int .i64 (a2 6), .int .i64 (a2 7), .int .i64 (a2 8), .int .i64 (a2 9), .int .i64 (a2 10), .int .i64 (a2 11), .int .i64 (a2 12), .int .i64 (a2 13), .int .i64 (a2 14), .int .i64 (a2 15)] 64, Qq 52 8 (.slice t.1 s.2.length t.2) s.2.length (s.2.map Jj)]) (fun s t => True) (0, ([] : List T_sync_Fact)) ((none, 0) : Option Addr × Nat) [0, 1] H (by exact trivial) (by exact ⟨rfl, rfl, rfl, rfl, rfl, rfl, trivial⟩) (by decide) rfl ?_
 rintro ⟨x12_2, l_2⟩ p m1 gg H15 _
 clear H
 replace H15 : V6 a0 a1 a2 (it (fun next1 s => V6 a0 a1 a2 next1 s.1 s.2) m1) x12_2 l_2 = some r := H15
 generalize hn1 : it (fun next1 s => V6 a0 a1 a2 next1 s.1 s.2) m1 = next1 at H15
 try dsimp only
 refine Je ?_
 refine Jb ?_
 refine Ja rfl rfl rfl (Q1 rfl rfl) ?_
 refine Jf ?_
 refine Je ?_
 refine J5 (b := (decide (x12_2 < (a0.length : Int)))) rfl (fun hb => ?_) (fun hb => ?_)
 ·have H16 := Jn hb H15; clear H15
  refine Jr ?_
  refine Xi (r := r) (σ := (List T_sync_Fact)) (τ := (Option Addr × Nat)) (fun s => Vg x12_2 next1 s) (fun s t => [(1, v1), (5, .pointer (some ⟨b4, 0, none⟩)), (7, .slice t.1 s.length t.2), (10, v0), (11, .int .i64 (a0.length : Int)), (12, .int .i64 x12_2)]) (fun s t => [Jp b4 [.int .i64 (a2 0), .int .i64 (a2 1), .int .i64 (a2 2), .int .i64 (a2 3), .int .i64 (a2 4), .int .i64 (a2 5), .int .i64 (a2 6), .int .i64 (a2 7), .int .i64 (a2 8), .int .i64 (a2 9), .int .i64 (a2 10), .int .i64 (a2 11), .int .i64 (a2 12), .int .i64 (a2 13), .int .i64 (a2 14), .int .i64 (a2 15)] 64, Qq 52 8 (.slice t.1 s.length t.2) s.length (s.map Jj)]) (fun s t => True) ?_ ?_
  ·refine Ju ?_
   refine Je ?_
   refine Jb ?_
   obtain ⟨t14, h_t14, H19⟩ := Jh H16; clear H16
   refine Ja rfl rfl rfl (Qm Tryz.underlying65 Tryz.sizeOf52 rfl rfl f0 h_t14) ?_
   refine Qa (fun w hF hS => Xw (f := Jj) (i := x12_2) (sz := 8) (j := 0) (vs := [.int .i64 t14.Dot.Device, .int .i64 t14.Dot.N, .int .i64 t14.Time, .int .i64 t14.Kind, .int .i64 t14.Id, str t14.Name, .int .i64 t14.Num, str t14.Text]) Tryz.isAgg52 Tryz.sizeOf52 rfl rfl (f0.row (hw.now hF)) h_t14 rfl) rfl rfl rfl ?_
   refine Zo (cs := [.int .i64 0, .int .i64 0, .int .i64 0, .int .i64 0, .int .i64 0, str [], .int .i64 0, str []]) Tryz.zeroValue52 rfl rfl rfl (fun b5 => ?_)
   refine X3 (i := 2) (vs := [.int .i64 t14.Dot.Device, .int .i64 t14.Dot.N, .int .i64 t14.Time, .int .i64 t14.Kind, .int .i64 t14.Id, str t14.Name, .int .i64 t14.Num, str t14.Text]) (cs' := [.int .i64 t14.Dot.Device, .int .i64 t14.Dot.N, .int .i64 t14.Time, .int .i64 t14.Kind, .int .i64 t14.Id, str t14.Name, .int .i64 t14.Num, str t14.Text]) Tryz.sizeOf52 rfl rfl rfl rfl rfl rfl rfl rfl rfl ?_
   refine Jf ?_
   refine Je ?_
   refine Jb ?_
   refine Ja rfl rfl rfl (Jd (v := v1) rfl) ?_
   refine Y2 (i := 2) (vs := [.int .i64 t14.Dot.Device, .int .i64 t14.Dot.N, .int .i64 t14.Time, .int .i64 t14.Kind, .int .i64 t14.Id, str t14.Name, .int .i64 t14.Num, str t14.Text]) Tryz.isAgg52 Tryz.sizeOf52 rfl rfl rfl rfl rfl ?_
   obtain ⟨t18, h_t18, H20⟩ := Jh H19; clear H19
   refine Qu (k64 h_t18) Tryz.call64 rfl rfl rfl ?_
   refine Qa (fun w hF hS => run_lookupFG (fk := (fun x_ : T_sync_Fact => .agg #[.int .i64 x_.Dot.Device, .int .i64 x_.Dot.N, .int .i64 x_.Time, .int .i64 x_.Kind, .int .i64 x_.Id, str x_.Name, .int .i64 x_.Num, str x_.Text])) (fv := (fun x_ : Bool => .bool x_)) (k := t18) (z := false) keyG_T52 Tryz.underlying72  Tryz.zeroValue4 rfl rfl (f1.mono (hw.now hF))) rfl rfl rfl ?_
   refine Ja rfl rfl rfl (Jd (v := .bool ((mGet a1 t18).getD false)) rfl) ?_
   refine split (fun hb => ?_) (fun hb => ?_)
   ·have H21 := Jn hb H20; clear H20
    refine Ji rfl rfl rfl ?_
    refine Ji rfl rfl rfl ?_
    refine Ji rfl rfl rfl ?_
    refine Ji rfl rfl rfl ?_
    refine Ji rfl rfl rfl ?_
    refine Ja rfl rfl rfl (Jz (v := .bool true) rfl rfl) ?_
    refine Jf ?_
    refine Ur rfl ?_
    refine Jb ?_
    refine Ja rfl rfl rfl (Jd (v := .slice p.1 l_2.length p.2) rfl) ?_
    refine Y2 (i := 2) (vs := [.int .i64 t14.Dot.Device, .int .i64 t14.Dot.N, .int .i64 t14.Time, .int .i64 t14.Kind, .int .i64 t14.Id, str t14.Name, .int .i64 t14.Num, str t14.Text]) Tryz.isAgg52 Tryz.sizeOf52 rfl rfl rfl rfl rfl ?_
    refine Xc (vs := [.agg #[.int .i64 t14.Dot.Device, .int .i64 t14.Dot.N, .int .i64 t14.Time, .int .i64 t14.Kind, .int .i64 t14.Id, str t14.Name, .int .i64 t14.Num, str t14.Text]]) (cs := [.int .i64 t14.Dot.Device, .int .i64 t14.Dot.N, .int .i64 t14.Time, .int .i64 t14.Kind, .int .i64 t14.Id, str t14.Name, .int .i64 t14.Num, str t14.Text]) Tryz.underlying65 Tryz.sizeOf52 Tryz.zeroValue52 rfl rfl rfl rfl rfl rfl rfl (fun b6 => ?_)
    obtain ⟨l30, h_l30, H22⟩ := Jh H21; clear H21
    refine Yl (We (i := 1) (hn := rfl) (rds := [3]) (p := p) (sz := 8) (by_ := 80) (f := Jj) (ys := l_2) (ls := ([t14] : List T_sync_Fact)) (V := .slice (some ⟨b6, 0, none⟩) 1 1) Tryz.underlying65 (W2 Tryz.typeInfo52) rfl rfl rfl rfl rfl rfl rfl rfl rfl rfl (fun w L' hF hS hi => Jac (i := 3) hS ((hi 3 (by simp)).trans rfl) rfl rfl) (fun _ => rfl) (fun _ => rfl) h_l30) rfl rfl rfl (fun p_3 => ?_)
    refine Ja rfl rfl rfl (Jc (v := .slice p_3.1 l30.length p_3.2) rfl) ?_
    refine Jf ?_
    refine Jl l30 p_3 0 [0, 1] (by exact ⟨rfl, rfl, rfl, rfl, rfl, rfl, trivial⟩) (by decide) rfl (by exact ⟨H22, trivial⟩) (Nat.lt_succ_self _)
   ·have H23 := Jo hb H20; clear H20
    refine Y2 (i := 0) (vs := [.int .i64 (a2 0), .int .i64 (a2 1), .int .i64 (a2 2), .int .i64 (a2 3), .int .i64 (a2 4), .int .i64 (a2 5), .int .i64 (a2 6), .int .i64 (a2 7), .int .i64 (a2 8), .int .i64 (a2 9), .int .i64 (a2 10), .int .i64 (a2 11), .int .i64 (a2 12), .int .i64 (a2 13), .int .i64 (a2 14), .int .i64 (a2 15)]) Tryz.isAgg64 Tryz.sizeOf64 rfl rfl rfl rfl rfl ?_
    refine Ja rfl rfl rfl (Jq Tryz.runUnderlying52 rfl Tryz.sizeOf50 rfl rfl) ?_
    refine Y2 (i := 2) (vs := [.int .i64 t14.Dot.Device, .int .i64 t14.Dot.N]) Tryz.isAgg50 Tryz.sizeOf50 rfl rfl rfl rfl rfl ?_
    obtain ⟨t24, h_t24, H24⟩ := Jh H23; clear H23
    refine Qu (k65 h_t24) Tryz.call65 rfl rfl rfl ?_
    refine Ja rfl rfl rfl (Vt rfl) ?_
    refine Ja rfl rfl rfl (Jw (v := .bool (!t24)) rfl rfl) ?_
    refine Jf ?_
    refine J5 (b := (!t24)) rfl (fun hb => ?_) (fun hb => ?_)
    ·have H25 := Jn hb H24; clear H24
     try dsimp only [z1, z2, z5, z6, z7, z8]
     refine Jb ?_
     refine Ja rfl rfl rfl (Jd (v := .slice p.1 l_2.length p.2) rfl) ?_
     refine Y2 (i := 2) (vs := [.int .i64 t14.Dot.Device, .int .i64 t14.Dot.N, .int .i64 t14.Time, .int .i64 t14.Kind, .int .i64 t14.Id, str t14.Name, .int .i64 t14.Num, str t14.Text]) Tryz.isAgg52 Tryz.sizeOf52 rfl rfl rfl rfl rfl ?_
     refine Xc (vs := [.agg #[.int .i64 t14.Dot.Device, .int .i64 t14.Dot.N, .int .i64 t14.Time, .int .i64 t14.Kind, .int .i64 t14.Id, str t14.Name, .int .i64 t14.Num, str t14.Text]]) (cs := [.int .i64 t14.Dot.Device, .int .i64 t14.Dot.N, .int .i64 t14.Time, .int .i64 t14.Kind, .int .i64 t14.Id, str t14.Name, .int .i64 t14.Num, str t14.Text]) Tryz.underlying65 Tryz.sizeOf52 Tryz.zeroValue52 rfl rfl rfl rfl rfl rfl rfl (fun b7 => ?_)
     obtain ⟨l30_2, h_l30_2, H26⟩ := Jh H25; clear H25
     refine Yl (We (i := 1) (hn := rfl) (rds := [3]) (p := p) (sz := 8) (by_ := 80) (f := Jj) (ys := l_2) (ls := ([t14] : List T_sync_Fact)) (V := .slice (some ⟨b7, 0, none⟩) 1 1) Tryz.underlying65 (W2 Tryz.typeInfo52) rfl rfl rfl rfl rfl rfl rfl rfl rfl rfl (fun w L' hF hS hi => Jac (i := 3) hS ((hi 3 (by simp)).trans rfl) rfl rfl) (fun _ => rfl) (fun _ => rfl) h_l30_2) rfl rfl rfl (fun p_4 => ?_)
     refine Ja rfl rfl rfl (Jc (v := .slice p_4.1 l30_2.length p_4.2) rfl) ?_
     refine Jf ?_
     refine Jl l30_2 p_4 0 [0, 1] (by exact ⟨rfl, rfl, rfl, rfl, rfl, rfl, trivial⟩) (by decide) rfl (by exact ⟨H26, trivial⟩) (Nat.lt_succ_self _)
    ·have H27 := Jo hb H24; clear H24
     refine Jr ?_
     refine Jl l_2 p 0 [0, 1] (by exact ⟨rfl, rfl, rfl, rfl, rfl, rfl, trivial⟩) (by decide) rfl (by exact ⟨H27, trivial⟩) (Nat.lt_succ_self _)
  ·rintro l_3 p_2 gg H17 _
   replace H17 : Vg x12_2 next1 l_3 = some r := H17
   try dsimp only
   refine Jb ?_
   obtain ⟨t31, h_t31, H18⟩ := Jh H17; clear H17
   refine Ja rfl rfl rfl (Q2 rfl rfl h_t31) ?_
   refine Ja rfl rfl rfl (Jd (v := .int .i64 t31) rfl) ?_
   refine Jf ?_
   refine Jl (t31, l_3) p_2 m1 [0, 1] (by exact ⟨rfl, rfl, rfl, rfl, rfl, rfl, trivial⟩) (by decide) rfl (by exact ⟨(by subst hn1; exact H18), trivial⟩) (Nat.lt_succ_self _)
 ·have H28 := Jo hb H15; clear H15
  refine Qr ?_
  refine Je ?_
  refine Jb ?_
  refine Ja rfl rfl rfl (Jd (v := .slice p.1 l_2.length p.2) rfl) ?_
  refine Ja rfl rfl rfl (Jc (v := .slice p.1 l_2.length p.2) rfl) ?_
  refine Jf ?_
  refine Jm ?_
  obtain rfl := Option.some.inj H28
  refine Jy (v := .slice p.1 l_2.length p.2) rfl rfl (W6 p (i := 1) rfl rfl (Imp.refl _))
theorem k30 {a0 : T_sync_Replica} {pb0 : Nat} {p0_2 : Option Addr × Nat} {n0_2 : Nat} {a1 : (List T_sync_Fact)} {v1 : Value} {a2 : (List (T_sync_Fact × Bool))} {v2 : Value} {a3 : (Nat → Int)} {r : Int × T_sync_Replica} {w : World} {h : J3} {S : Nat → Prop} (hcs : (Yk (Jp pb0 [.int .i64 a0.device_, .int .i64 (a0.knows_ 0), .int .i64 (a0.knows_ 1), .int .i64 (a0.knows_ 2), .int .i64 (a0.knows_ 3), .int .i64 (a0.knows_ 4), .int .i64 (a0.knows_ 5), .int .i64 (a0.knows_ 6), .int .i64 (a0.knows_ 7), .int .i64 (a0.knows_ 8), .int .i64 (a0.knows_ 9), .int .i64 (a0.knows_ 10), .int .i64 (a0.knows_ 11), .int .i64 (a0.knows_ 12), .int .i64 (a0.knows_ 13), .int .i64 (a0.knows_ 14), .int .i64 (a0.knows_ 15), .slice p0_2.1 n0_2 p0_2.2] 67) (Q0 52 8 (.slice p0_2.1 n0_2 p0_2.2) n0_2 (a0.facts_.map Jj))).P S w) (hlt : ∀ b, S b → b < w.heap.size) (hw : Know h w S) (hn0_2 : n0_2 = a0.facts_.length) (f1 : FrS h 8 v1 (a1.map Jj)) (f2 : FrM h (fun x_ : T_sync_Fact => .agg #[.int .i64 x_.Dot.Device, .int .i64 x_.Dot.N, .int .i64 x_.Time, .int .i64 x_.Kind, .int .i64 x_.Id, str x_.Name, .int .i64 x_.Num, str x_.Text]) (fun x_ : Bool => .bool x_) v2 a2) (H : Jv a0 a1 a2 a3 = some r) : Does Tryz.prog 30 (List.toArray [.pointer (some ⟨pb0, 0, none⟩), v1, v2, .agg #[.int .i64 (a3 0), .int .i64 (a3 1), .int .i64 (a3 2), .int .i64 (a3 3), .int .i64 (a3 4), .int .i64 (a3 5), .int .i64 (a3 6), .int .i64 (a3 7), .int .i64 (a3 8), .int .i64 (a3 9), .int .i64 (a3 10), .int .i64 (a3 11), .int .i64 (a3 12), .int .i64 (a3 13), .int .i64 (a3 14), .int .i64 (a3 15)]]) w (fun v w' => ∃ x : (Option Addr × Nat), v = (.int .i64 r.1) ∧ Turn w w' S (Yk (Jp pb0 [.int .i64 r.2.device_, .int .i64 (r.2.knows_ 0), .int .i64 (r.2.knows_ 1), .int .i64 (r.2.knows_ 2), .int .i64 (r.2.knows_ 3), .int .i64 (r.2.knows_ 4), .int .i64 (r.2.knows_ 5), .int .i64 (r.2.knows_ 6), .int .i64 (r.2.knows_ 7), .int .i64 (r.2.knows_ 8), .int .i64 (r.2.knows_ 9), .int .i64 (r.2.knows_ 10), .int .i64 (r.2.knows_ 11), .int .i64 (r.2.knows_ 12), .int .i64 (r.2.knows_ 13), .int .i64 (r.2.knows_ 14), .int .i64 (r.2.knows_ 15), .slice x.1 r.2.facts_.length x.2] 67) (Q0 52 8 (.slice x.1 r.2.facts_.length x.2) r.2.facts_.length (r.2.facts_.map Jj)))) := by
 refine enter (n := 84) Tryz.func30 rfl rfl rfl S [Yk (Jp pb0 [.int .i64 a0.device_, .int .i64 (a0.knows_ 0), .int .i64 (a0.knows_ 1), .int .i64 (a0.knows_ 2), .int .i64 (a0.knows_ 3), .int .i64 (a0.knows_ 4), .int .i64 (a0.knows_ 5), .int .i64 (a0.knows_ 6), .int .i64 (a0.knows_ 7), .int .i64 (a0.knows_ 8), .int .i64 (a0.knows_ 9), .int .i64 (a0.knows_ 10), .int .i64 (a0.knows_ 11), .int .i64 (a0.knows_ 12), .int .i64 (a0.knows_ 13), .int .i64 (a0.knows_ 14), .int .i64 (a0.knows_ 15), .slice p0_2.1 n0_2 p0_2.2] 67) (Q0 52 8 (.slice p0_2.1 n0_2 p0_2.2) n0_2 (a0.facts_.map Jj))] (Sat.one hcs hlt) ?_
 refine Uw 0 rfl ?_
 refine Je ?_
 refine Jb ?_
 refine W8 (cs := [.int .i64 (a3 0), .int .i64 (a3 1), .int .i64 (a3 2), .int .i64 (a3 3), .int .i64 (a3 4), .int .i64 (a3 5), .int .i64 (a3 6), .int .i64 (a3 7), .int .i64 (a3 8), .int .i64 (a3 9), .int .i64 (a3 10), .int .i64 (a3 11), .int .i64 (a3 12), .int .i64 (a3 13), .int .i64 (a3 14), .int .i64 (a3 15)]) rfl rfl rfl rfl (fun b3 => ?_)
 refine Ja rfl rfl rfl (Jc (v := .int .i64 0) rfl) ?_
 refine Jf ?_
 refine Je ?_
 refine Jb ?_
 refine Ja rfl rfl rfl (Jd (v := .pointer (some ⟨pb0, 0, none⟩)) rfl) ?_
 refine Ja rfl rfl rfl (Qk rfl) ?_
 refine Ja rfl rfl rfl (Jq Tryz.runUnderlying67 rfl Tryz.sizeOf65 rfl rfl) ?_
 refine J0 (i := 0) (v := .slice p0_2.1 n0_2 p0_2.2) Tryz.isAgg65 rfl rfl rfl rfl rfl ?_
 obtain ⟨t19, h_t19, H28⟩ := Jh H; clear H
 refine Zf (Q3 (rds := [1]) (G := fun x : Nat => .map (some x)) (C := fun x : Nat => mapC (fun x_ : T_sync_Fact => .agg #[.int .i64 x_.Dot.Device, .int .i64 x_.Dot.N, .int .i64 x_.Time, .int .i64 x_.Kind, .int .i64 x_.Id, str x_.Name, .int .i64 x_.Num, str x_.Text]) (fun x_ : Bool => .bool x_) x t19) (fun w L' hF hS hi => k31 (Jx w) (frs_off (i := 1) hn0_2 hS ((hi 1 (by simp)).trans rfl)) h_t19) Tryz.call31 rfl) rfl rfl rfl (fun p => ?_)
 refine Ja rfl rfl rfl (Jc (v := .map (some p)) rfl) ?_
 refine Jf ?_
 refine Je ?_
 exact Za (Kd.p :: Kd.p :: Kd.p :: Kd.d [0] _ :: Kd.p :: Kd.d [2] _ :: Kd.t 4 [1] _ _ :: Kd.p :: []) 1 mixed (by
  refine Jt rfl rfl (Jd (v := .pointer (some ⟨pb0, 0, none⟩)) rfl) ?_
  refine Jt rfl rfl (Qk rfl) ?_
  refine Jt rfl rfl (Jq Tryz.runUnderlying67 rfl Tryz.sizeOf65 rfl rfl) ?_
  refine Zb (i := 0) (v := .slice p0_2.1 n0_2 p0_2.2) Tryz.isAgg65 rfl rfl rfl rfl ?_
  refine Jt rfl rfl (Jd (v := v2) rfl) ?_
  refine d_loadN (i := 2) (vs := [.int .i64 (a3 0), .int .i64 (a3 1), .int .i64 (a3 2), .int .i64 (a3 3), .int .i64 (a3 4), .int .i64 (a3 5), .int .i64 (a3 6), .int .i64 (a3 7), .int .i64 (a3 8), .int .i64 (a3 9), .int .i64 (a3 10), .int .i64 (a3 11), .int .i64 (a3 12), .int .i64 (a3 13), .int .i64 (a3 14), .int .i64 (a3 15)]) Tryz.isAgg64 Tryz.sizeOf64 rfl rfl rfl rfl ?_
  have h_t26 := Qx H28
  have H29 := Qg H28
  refine d_make (Cv := fun v => Qq 52 8 v (val (V1 a0.facts_ a2 a3)).length ((val (V1 a0.facts_ a2 a3)).map Jj)) (none, 0) (Q3 (G := fun x : (Option Addr × Nat) => .slice x.1 (val (V1 a0.facts_ a2 a3)).length x.2) (C := fun x : (Option Addr × Nat) => Qq 52 8 (.slice x.1 (val (V1 a0.facts_ a2 a3)).length x.2) (val (V1 a0.facts_ a2 a3)).length ((val (V1 a0.facts_ a2 a3)).map Jj)) (fun w L' hF hS hi => k63 (Jx w) (frs_off (i := 1) hn0_2 hS ((hi 1 (by simp)).trans rfl)) (f2.mono (hw.now hF)) h_t26) Tryz.call63 rfl) (fun _ => rfl) rfl rfl rfl (fun p_2 => ?_)
  refine Jt rfl rfl (Jc (v := .slice p_2.1 (val (V1 a0.facts_ a2 a3)).length p_2.2) rfl) ?_
  refine Ui ?_
  refine Xi (r := r) (σ := (List T_sync_Fact)) (τ := (Option Addr × Nat)) (fun s => Zs a0 a3 s) (fun s t => [(0, .pointer (some ⟨pb0, 0, none⟩)), (7, .pointer (some ⟨b3, 0, none⟩)), (10, .slice t.1 s.length t.2)]) (fun s t => [Jp pb0 [.int .i64 a0.device_, .int .i64 (a0.knows_ 0), .int .i64 (a0.knows_ 1), .int .i64 (a0.knows_ 2), .int .i64 (a0.knows_ 3), .int .i64 (a0.knows_ 4), .int .i64 (a0.knows_ 5), .int .i64 (a0.knows_ 6), .int .i64 (a0.knows_ 7), .int .i64 (a0.knows_ 8), .int .i64 (a0.knows_ 9), .int .i64 (a0.knows_ 10), .int .i64 (a0.knows_ 11), .int .i64 (a0.knows_ 12), .int .i64 (a0.knows_ 13), .int .i64 (a0.knows_ 14), .int .i64 (a0.knows_ 15), .slice p0_2.1 n0_2 p0_2.2] 67, Q0 52 8 (.slice p0_2.1 n0_2 p0_2.2) n0_2 (a0.facts_.map Jj), Jp b3 [.int .i64 (a3 0), .int .i64 (a3 1), .int .i64 (a3 2), .int .i64 (a3 3), .int .i64 (a3 4), .int .i64 (a3 5), .int .i64 (a3 6), .int .i64 (a3 7), .int .i64 (a3 8), .int .i64 (a3 9), .int .i64 (a3 10), .int .i64 (a3 11), .int .i64 (a3 12), .int .i64 (a3 13), .int .i64 (a3 14), .int .i64 (a3 15)] 64, Qq 52 8 (.slice t.1 s.length t.2) s.length (s.map Jj)]) (fun s t => True) ?_ ?_
  ·refine Je ?_
   refine Jb ?_
   refine Ja rfl rfl rfl (Jd (v := v1) rfl) ?_
   refine Ja rfl rfl rfl (Zl Tryz.underlying65 rfl f1 rfl) ?_
   refine Ja rfl rfl rfl (Jd (v := .int .i64 0) rfl) ?_
   refine Jf ?_
   refine Ju ?_
   refine Yv (σ := Int × (List (T_sync_Fact × Bool)) × (List T_sync_Fact)) (τ := (Option Addr × Nat)) (fun next3 s => Xr a0 a1 a3 next3 s.1 s.2.1 s.2.2) (fun s t => [(0, .pointer (some ⟨pb0, 0, none⟩)), (7, .pointer (some ⟨b3, 0, none⟩)), (9, .map (some p)), (10, .slice t.1 s.2.2.length t.2), (27, v1), (28, .int .i64 (a1.length : Int)), (29, .int .i64 s.1)]) (fun s t => [Jp pb0 [.int .i64 a0.device_, .int .i64 (a0.knows_ 0), .int .i64 (a0.knows_ 1), .int .i64 (a0.knows_ 2), .int .i64 (a0.knows_ 3), .int .i64 (a0.knows_ 4), .int .i64 (a0.knows_ 5), .int .i64 (a0.knows_ 6), .int .i64 (a0.knows_ 7), .int .i64 (a0.knows_ 8), .int .i64 (a0.knows_ 9), .int .i64 (a0.knows_ 10), .int .i64 (a0.knows_ 11), .int .i64 (a0.knows_ 12), .int .i64 (a0.knows_ 13), .int .i64 (a0.knows_ 14), .int .i64 (a0.knows_ 15), .slice p0_2.1 n0_2 p0_2.2] 67, Q0 52 8 (.slice p0_2.1 n0_2 p0_2.2) n0_2 (a0.facts_.map Jj), Jp b3 [.int .i64 (a3 0), .int .i64 (a3 1), .int .i64 (a3 2), .int .i64 (a3 3), .int .i64 (a3 4), .int .i64 (a3 5), .int .i64 (a3 6), .int .i64 (a3 7), .int .i64 (a3 8), .int .i64 (a3 9), .int .i64 (a3 10), .int .i64 (a3 11), .int .i64 (a3 12), .int .i64 (a3 13), .int .i64 (a3 14), .int .i64 (a3 15)] 64, mapC (fun x_ : T_sync_Fact => .agg #[.int .i64 x_.Dot.Device, .int .i64 x_.Dot.N, .int .i64 x_.Time, .int .i64 x_.Kind, .int .i64 x_.Id, str x_.Name, .int .i64 x_.Num, str x_.Text]) (fun x_ : Bool => .bool x_) p s.2.1, Qq 52 8 (.slice t.1 s.2.2.length t.2) s.2.2.length (s.2.2.map Jj)]) (fun s t => True) (0, t19, (val (V1 a0.facts_ a2 a3))) p_2 [0, 1, 2, 3, 4] H29 (by exact trivial) (by exact ⟨rfl, rfl, rfl, rfl, rfl, rfl, rfl, trivial⟩) (by decide) rfl ?_
   rintro ⟨x29_2, mp_2, l_3⟩ p_4 m3 gg H41 _
   clear H29
   replace H41 : Xr a0 a1 a3 (it (fun next3 s => Xr a0 a1 a3 next3 s.1 s.2.1 s.2.2) m3) x29_2 mp_2 l_3 = some r := H41
   generalize hn3 : it (fun next3 s => Xr a0 a1 a3 next3 s.1 s.2.1 s.2.2) m3 = next3 at H41
   try dsimp only
   refine Je ?_
   refine Jb ?_
   refine Ja rfl rfl rfl (Q1 rfl rfl) ?_
   refine Jf ?_
   refine Je ?_
   refine J5 (b := (decide (x29_2 < (a1.length : Int)))) rfl (fun hb => ?_) (fun hb => ?_)
   ·have H42 := Jn hb H41; clear H41
    refine Jr ?_
    refine Xi (r := r) (σ := (List (T_sync_Fact × Bool)) × (List T_sync_Fact)) (τ := (Option Addr × Nat)) (fun s => Ye x29_2 next3 s.1 s.2) (fun s t => [(0, .pointer (some ⟨pb0, 0, none⟩)), (7, .pointer (some ⟨b3, 0, none⟩)), (9, .map (some p)), (10, .slice t.1 s.2.length t.2), (27, v1), (28, .int .i64 (a1.length : Int)), (29, .int .i64 x29_2)]) (fun s t => [Jp pb0 [.int .i64 a0.device_, .int .i64 (a0.knows_ 0), .int .i64 (a0.knows_ 1), .int .i64 (a0.knows_ 2), .int .i64 (a0.knows_ 3), .int .i64 (a0.knows_ 4), .int .i64 (a0.knows_ 5), .int .i64 (a0.knows_ 6), .int .i64 (a0.knows_ 7), .int .i64 (a0.knows_ 8), .int .i64 (a0.knows_ 9), .int .i64 (a0.knows_ 10), .int .i64 (a0.knows_ 11), .int .i64 (a0.knows_ 12), .int .i64 (a0.knows_ 13), .int .i64 (a0.knows_ 14), .int .i64 (a0.knows_ 15), .slice p0_2.1 n0_2 p0_2.2] 67, Q0 52 8 (.slice p0_2.1 n0_2 p0_2.2) n0_2 (a0.facts_.map Jj), Jp b3 [.int .i64 (a3 0), .int .i64 (a3 1), .int .i64 (a3 2), .int .i64 (a3 3), .int .i64 (a3 4), .int .i64 (a3 5), .int .i64 (a3 6), .int .i64 (a3 7), .int .i64 (a3 8), .int .i64 (a3 9), .int .i64 (a3 10), .int .i64 (a3 11), .int .i64 (a3 12), .int .i64 (a3 13), .int .i64 (a3 14), .int .i64 (a3 15)] 64, mapC (fun x_ : T_sync_Fact => .agg #[.int .i64 x_.Dot.Device, .int .i64 x_.Dot.N, .int .i64 x_.Time, .int .i64 x_.Kind, .int .i64 x_.Id, str x_.Name, .int .i64 x_.Num, str x_.Text]) (fun x_ : Bool => .bool x_) p s.1, Qq 52 8 (.slice t.1 s.2.length t.2) s.2.length (s.2.map Jj)]) (fun s t => True) ?_ ?_
    ·refine Ju ?_
     refine Je ?_
     refine Jb ?_
     obtain ⟨t31, h_t31, H45⟩ := Jh H42; clear H42
     refine Ja rfl rfl rfl (Qm Tryz.underlying65 Tryz.sizeOf52 rfl rfl f1 h_t31) ?_
     refine Qa (fun w hF hS => Xw (f := Jj) (i := x29_2) (sz := 8) (j := 0) (vs := [.int .i64 t31.Dot.Device, .int .i64 t31.Dot.N, .int .i64 t31.Time, .int .i64 t31.Kind, .int .i64 t31.Id, str t31.Name, .int .i64 t31.Num, str t31.Text]) Tryz.isAgg52 Tryz.sizeOf52 rfl rfl (f1.row (hw.now hF)) h_t31 rfl) rfl rfl rfl ?_
     refine Zo (cs := [.int .i64 0, .int .i64 0, .int .i64 0, .int .i64 0, .int .i64 0, str [], .int .i64 0, str []]) Tryz.zeroValue52 rfl rfl rfl (fun b4 => ?_)
     refine X3 (i := 5) (vs := [.int .i64 t31.Dot.Device, .int .i64 t31.Dot.N, .int .i64 t31.Time, .int .i64 t31.Kind, .int .i64 t31.Id, str t31.Name, .int .i64 t31.Num, str t31.Text]) (cs' := [.int .i64 t31.Dot.Device, .int .i64 t31.Dot.N, .int .i64 t31.Time, .int .i64 t31.Kind, .int .i64 t31.Id, str t31.Name, .int .i64 t31.Num, str t31.Text]) Tryz.sizeOf52 rfl rfl rfl rfl rfl rfl rfl rfl rfl ?_
     refine Jf ?_
     refine Je ?_
     exact Za (Kd.p :: Kd.d [5] _ :: Kd.d [] _ :: Kd.d [3] _ :: Kd.p :: Kd.p :: Kd.p :: Kd.p :: Kd.p :: Kd.d [0] _ :: Kd.p :: Kd.d [5] _ :: Kd.d [] _ :: Kd.p :: Kd.p :: []) 0 mixed (by
      refine Jt rfl rfl (Jd (v := .map (some p)) rfl) ?_
      refine d_loadN (i := 5) (vs := [.int .i64 t31.Dot.Device, .int .i64 t31.Dot.N, .int .i64 t31.Time, .int .i64 t31.Kind, .int .i64 t31.Id, str t31.Name, .int .i64 t31.Num, str t31.Text]) Tryz.isAgg52 Tryz.sizeOf52 rfl rfl rfl rfl ?_
      have h_t35 := Qx H45
      have H46 := Qg H45
      refine d_call (k64 h_t35) Tryz.call64 rfl rfl ?_
      refine d_readD (fun w L' hF hS hi => run_lookupG (i := 3) (fk := (fun x_ : T_sync_Fact => .agg #[.int .i64 x_.Dot.Device, .int .i64 x_.Dot.N, .int .i64 x_.Time, .int .i64 x_.Kind, .int .i64 x_.Id, str x_.Name, .int .i64 x_.Num, str x_.Text])) (fv := (fun x_ : Bool => .bool x_)) (k := (val (sync_one t31))) (z := false) keyG_T52 Tryz.underlying72  Tryz.zeroValue4 rfl rfl hS ((hi 3 (by simp)).trans rfl)) rfl rfl ?_
      refine Jt rfl rfl (Vt rfl) ?_
      refine Jt rfl rfl (Jd (v := .bool (!((mGet mp_2 (val (sync_one t31))).getD false))) rfl) ?_
      refine splitS (fun hb => ?_) (fun hb => ?_)
      ·have H47 := Jn hb H46
       refine Jt rfl rfl (Jd (v := .pointer (some ⟨pb0, 0, none⟩)) rfl) ?_
       refine Jt rfl rfl (Qk rfl) ?_
       refine Jt rfl rfl (Jq Tryz.runUnderlying67 rfl Tryz.sizeOf64 rfl rfl) ?_
       refine d_loadN (i := 0) (vs := [.int .i64 (a0.knows_ 0), .int .i64 (a0.knows_ 1), .int .i64 (a0.knows_ 2), .int .i64 (a0.knows_ 3), .int .i64 (a0.knows_ 4), .int .i64 (a0.knows_ 5), .int .i64 (a0.knows_ 6), .int .i64 (a0.knows_ 7), .int .i64 (a0.knows_ 8), .int .i64 (a0.knows_ 9), .int .i64 (a0.knows_ 10), .int .i64 (a0.knows_ 11), .int .i64 (a0.knows_ 12), .int .i64 (a0.knows_ 13), .int .i64 (a0.knows_ 14), .int .i64 (a0.knows_ 15)]) Tryz.isAgg64 Tryz.sizeOf64 rfl rfl rfl rfl ?_
       refine Jt rfl rfl (Jq Tryz.runUnderlying52 rfl Tryz.sizeOf50 rfl rfl) ?_
       refine d_loadN (i := 5) (vs := [.int .i64 t31.Dot.Device, .int .i64 t31.Dot.N]) Tryz.isAgg50 Tryz.sizeOf50 rfl rfl rfl rfl ?_
       have h_t45 := Qx H47
       have H48 := Qg H47
       refine d_call (k65 h_t45) Tryz.call65 rfl rfl ?_
       refine Jt rfl rfl (Vt rfl) ?_
       refine Jt rfl rfl (Jz (v := .bool (!(val (Zx a0.knows_ t31.Dot)))) rfl rfl) ?_
       refine Ui ?_
       refine J5 (b := (!(val (Zx a0.knows_ t31.Dot)))) rfl (fun hb => ?_) (fun hb => ?_)
       ·have H49 := Jn hb H48; clear H48
        refine Je ?_
        refine Jb ?_
        refine Ja rfl rfl rfl (Jd (v := .slice p_4.1 l_3.length p_4.2) rfl) ?_
        refine Y2 (i := 5) (vs := [.int .i64 t31.Dot.Device, .int .i64 t31.Dot.N, .int .i64 t31.Time, .int .i64 t31.Kind, .int .i64 t31.Id, str t31.Name, .int .i64 t31.Num, str t31.Text]) Tryz.isAgg52 Tryz.sizeOf52 rfl rfl rfl rfl rfl ?_
        refine Xc (vs := [.agg #[.int .i64 t31.Dot.Device, .int .i64 t31.Dot.N, .int .i64 t31.Time, .int .i64 t31.Kind, .int .i64 t31.Id, str t31.Name, .int .i64 t31.Num, str t31.Text]]) (cs := [.int .i64 t31.Dot.Device, .int .i64 t31.Dot.N, .int .i64 t31.Time, .int .i64 t31.Kind, .int .i64 t31.Id, str t31.Name, .int .i64 t31.Num, str t31.Text]) Tryz.underlying65 Tryz.sizeOf52 Tryz.zeroValue52 rfl rfl rfl rfl rfl rfl rfl (fun b5 => ?_)
        obtain ⟨l51, h_l51, H50⟩ := Jh H49; clear H49
        refine Yl (We (i := 4) (hn := rfl) (rds := [6]) (p := p_4) (sz := 8) (by_ := 80) (f := Jj) (ys := l_3) (ls := ([t31] : List T_sync_Fact)) (V := .slice (some ⟨b5, 0, none⟩) 1 1) Tryz.underlying65 (W2 Tryz.typeInfo52) rfl rfl rfl rfl rfl rfl rfl rfl rfl rfl (fun w L' hF hS hi => Jac (i := 6) hS ((hi 6 (by simp)).trans rfl) rfl rfl) (fun _ => rfl) (fun _ => rfl) h_l51) rfl rfl rfl (fun p_6 => ?_)
        refine Ja rfl rfl rfl (Jc (v := .slice p_6.1 l51.length p_6.2) rfl) ?_
        refine Jf ?_
        refine Jb ?_
        refine Ja rfl rfl rfl (Jd (v := .map (some p)) rfl) ?_
        refine Y2 (i := 5) (vs := [.int .i64 t31.Dot.Device, .int .i64 t31.Dot.N, .int .i64 t31.Time, .int .i64 t31.Kind, .int .i64 t31.Id, str t31.Name, .int .i64 t31.Num, str t31.Text]) Tryz.isAgg52 Tryz.sizeOf52 rfl rfl rfl rfl rfl ?_
        obtain ⟨t54, h_t54, H51⟩ := Jh H50; clear H50
        refine Qu (k64 h_t54) Tryz.call64 rfl rfl rfl ?_
        refine l_turn0 (turns_msetG (u := true) (i := 3) (rds := []) (fk := (fun x_ : T_sync_Fact => .agg #[.int .i64 x_.Dot.Device, .int .i64 x_.Dot.N, .int .i64 x_.Time, .int .i64 x_.Kind, .int .i64 x_.Id, str x_.Name, .int .i64 x_.Num, str x_.Text])) (fv := (fun x_ : Bool => .bool x_)) (k := t54) (v := true) keyG_T52 (.inr rfl) Tryz.underlying72  rfl rfl rfl rfl) rfl rfl (fun _ => ?_)
        refine Jf ?_
        refine Jl ((Un mp_2 t54 true), l51) p_6 0 [0, 1, 2, 3, 4] (by exact ⟨rfl, rfl, rfl, rfl, rfl, rfl, rfl, trivial⟩) (by decide) rfl (by exact ⟨H51, trivial⟩) (Nat.lt_succ_self _)
       ·have H52 := Jo hb H48; clear H48
        refine Jr ?_
        refine Jl (mp_2, l_3) p_4 0 [0, 1, 2, 3, 4] (by exact ⟨rfl, rfl, rfl, rfl, rfl, rfl, rfl, trivial⟩) (by decide) rfl (by exact ⟨H52, trivial⟩) (Nat.lt_succ_self _)
      ·have H53 := Jo hb H46
       refine Q4 rfl rfl ?_
       refine Q4 rfl rfl ?_
       refine Q4 rfl rfl ?_
       refine Q4 rfl rfl ?_
       refine Q4 rfl rfl ?_
       refine Q4 rfl rfl ?_
       refine Q4 rfl rfl ?_
       refine Q4 rfl rfl ?_
       refine Jt rfl rfl (Jw (v := .bool false) rfl rfl) ?_
       refine Ui ?_
       refine Wi rfl ?_
       refine Jr ?_
       refine Jl (mp_2, l_3) p_4 0 [0, 1, 2, 3, 4] (by exact ⟨rfl, rfl, rfl, rfl, rfl, rfl, rfl, trivial⟩) (by decide) rfl (by exact ⟨H53, trivial⟩) (Nat.lt_succ_self _)
      ) (by kernel_rfl)
    ·rintro ⟨mp_3, l_4⟩ p_5 gg H43 _
     replace H43 : Ye x29_2 next3 mp_3 l_4 = some r := H43
     try dsimp only
     refine Jb ?_
     obtain ⟨t55, h_t55, H44⟩ := Jh H43; clear H43
     refine Ja rfl rfl rfl (Q2 rfl rfl h_t55) ?_
     refine Ja rfl rfl rfl (Jd (v := .int .i64 t55) rfl) ?_
     refine Jf ?_
     refine Jl (t55, mp_3, l_4) p_5 m3 [0, 1, 2, 3, 4] (by exact ⟨rfl, rfl, rfl, rfl, rfl, rfl, rfl, trivial⟩) (by decide) rfl (by exact ⟨(by subst hn3; exact H44), trivial⟩) (Nat.lt_succ_self _)
   ·have H54 := Jo hb H41; clear H41
    refine Qr ?_
    refine Jl l_3 p_4 0 [0, 1, 2, 4] (by exact ⟨rfl, rfl, rfl, trivial⟩) (by decide) rfl (by exact ⟨H54, trivial⟩) (Nat.lt_succ_self _)
  ·rintro l p_3 gg H30 _
   replace H30 : Zs a0 a3 l = some r := H30
   try dsimp only
   refine Je ?_
   refine Je ?_
   refine Jb ?_
   refine Ja rfl rfl rfl (Jd (v := .slice p_3.1 l.length p_3.2) rfl) ?_
   refine Ja rfl rfl rfl (Uj Tryz.underlying65 rfl) ?_
   refine Ja rfl rfl rfl (Wz rfl rfl) ?_
   refine Jf ?_
   refine J5 (b := (decide (5000 < (l.length : Int)))) rfl (fun hb => ?_) (fun hb => ?_)
   ·have H31 := Jn hb H30; clear H30
    refine Je ?_
    refine Jb ?_
    refine Ja rfl rfl rfl (Jc (v := .int .i64 4) rfl) ?_
    refine Jf ?_
    refine Jm ?_
    obtain rfl := Option.some.inj H31
    refine Z6 0 1 rfl rfl (by decide) ?_
    refine Jy (v := .int .i64 4) rfl rfl (W6 p0_2 (i := 0) rfl (by first | rfl | rw [(show n0_2 = a0.facts_.length from hn0_2)]) (by first | exact Imp.refl _ | exact Imp.of (by rw [(show n0_2 = a0.facts_.length from hn0_2)])))
   ·have H32 := Jo hb H30; clear H30
    refine Jr ?_
    refine Je ?_
    refine Jb ?_
    refine Ja rfl rfl rfl (Jd (v := .slice p_3.1 l.length p_3.2) rfl) ?_
    refine c_imp 3 rfl (imp_rowO _ _ _ _ _) ?_
    obtain ⟨t60, h_t60, H33⟩ := Jh H32; clear H32
    refine Yl (Q7 (i := 3) (rds := []) (G := fun x : Unit => .tuple #[]) (C := fun x : Unit => Q0 52 8 (.slice p_3.1 l.length p_3.2) l.length (t60.map Jj)) rfl (fun w L' S hF hS hi hp hlt ho hA => k52 hp hlt (Y0 w S) rfl h_t60) Tryz.call52 rfl) rfl rfl rfl (fun _ => ?_)
    refine c_know (fun w hF hS => lenOfO (i := 3) hS rfl) (fun hl_ => ?_)
    have hl : l.length = t60.length := by simpa using hl_.symm
    refine Jf ?_
    refine Je ?_
    try dsimp only [z1, z2, z5, z6, z7, z8]
    refine Jb ?_
    refine Ja rfl rfl rfl (Jd (v := .pointer (some ⟨pb0, 0, none⟩)) rfl) ?_
    refine Ja rfl rfl rfl (Jd (v := .slice p_3.1 l.length p_3.2) rfl) ?_
    refine Ja rfl rfl rfl (Qk rfl) ?_
    refine Ja rfl rfl rfl (Jq Tryz.runUnderlying67 rfl Tryz.sizeOf65 rfl rfl) ?_
    refine X3 (i := 0) (vs := [.slice p_3.1 l.length p_3.2]) (cs' := [.int .i64 a0.device_, .int .i64 (a0.knows_ 0), .int .i64 (a0.knows_ 1), .int .i64 (a0.knows_ 2), .int .i64 (a0.knows_ 3), .int .i64 (a0.knows_ 4), .int .i64 (a0.knows_ 5), .int .i64 (a0.knows_ 6), .int .i64 (a0.knows_ 7), .int .i64 (a0.knows_ 8), .int .i64 (a0.knows_ 9), .int .i64 (a0.knows_ 10), .int .i64 (a0.knows_ 11), .int .i64 (a0.knows_ 12), .int .i64 (a0.knows_ 13), .int .i64 (a0.knows_ 14), .int .i64 (a0.knows_ 15), .slice p_3.1 l.length p_3.2]) Tryz.sizeOf65 rfl rfl rfl rfl rfl rfl rfl rfl rfl ?_
    refine Jf ?_
    refine Je ?_
    refine Je ?_
    refine Jb ?_
    refine Y2 (i := 2) (vs := [.int .i64 (a3 0), .int .i64 (a3 1), .int .i64 (a3 2), .int .i64 (a3 3), .int .i64 (a3 4), .int .i64 (a3 5), .int .i64 (a3 6), .int .i64 (a3 7), .int .i64 (a3 8), .int .i64 (a3 9), .int .i64 (a3 10), .int .i64 (a3 11), .int .i64 (a3 12), .int .i64 (a3 13), .int .i64 (a3 14), .int .i64 (a3 15)]) Tryz.isAgg64 Tryz.sizeOf64 rfl rfl rfl rfl rfl ?_
    refine Ja rfl rfl rfl (Jd (v := .int .i64 0) rfl) ?_
    refine Jf ?_
    refine Ju ?_
    refine c_dr 2 <| c_dr 1 ?_
    try dsimp only [z1, z2, z3, z4, z5, z6, z7, z8]
    refine Yv (σ := Int × (Nat → Int)) (τ := Unit) (fun next2 s => Yf a0 a3 t60 next2 s.1 s.2) (fun s t => [(0, .pointer (some ⟨pb0, 0, none⟩)), (65, .agg #[.int .i64 (a3 0), .int .i64 (a3 1), .int .i64 (a3 2), .int .i64 (a3 3), .int .i64 (a3 4), .int .i64 (a3 5), .int .i64 (a3 6), .int .i64 (a3 7), .int .i64 (a3 8), .int .i64 (a3 9), .int .i64 (a3 10), .int .i64 (a3 11), .int .i64 (a3 12), .int .i64 (a3 13), .int .i64 (a3 14), .int .i64 (a3 15)]), (66, .int .i64 s.1)]) (fun s t => [Jp pb0 [.int .i64 a0.device_, .int .i64 (s.2 0), .int .i64 (s.2 1), .int .i64 (s.2 2), .int .i64 (s.2 3), .int .i64 (s.2 4), .int .i64 (s.2 5), .int .i64 (s.2 6), .int .i64 (s.2 7), .int .i64 (s.2 8), .int .i64 (s.2 9), .int .i64 (s.2 10), .int .i64 (s.2 11), .int .i64 (s.2 12), .int .i64 (s.2 13), .int .i64 (s.2 14), .int .i64 (s.2 15), .slice p_3.1 l.length p_3.2] 67, Q0 52 8 (.slice p_3.1 l.length p_3.2) l.length (t60.map Jj)]) (fun s t => True) (0, a0.knows_) () [0, 1] H33 (by exact trivial) (by exact ⟨rfl, rfl, rfl, trivial⟩) (by decide) rfl ?_
    rintro ⟨x66_2, m_2⟩ _ m2 gg H34 _
    clear H33
    replace H34 : Yf a0 a3 t60 (it (fun next2 s => Yf a0 a3 t60 next2 s.1 s.2) m2) x66_2 m_2 = some r := H34
    generalize hn2 : it (fun next2 s => Yf a0 a3 t60 next2 s.1 s.2) m2 = next2 at H34
    try dsimp only
    refine Je ?_
    refine Jb ?_
    refine Ja rfl rfl rfl (Q1 rfl rfl) ?_
    refine Jf ?_
    refine Je ?_
    refine J5 (b := (decide (x66_2 < 16))) rfl (fun hb => ?_) (fun hb => ?_)
    ·have H35 := Jn hb H34; clear H34
     refine Jr ?_
     refine Je ?_
     refine Ju ?_
     refine Je ?_
     refine Jb ?_
     refine Ja rfl rfl rfl (Jd (v := .int .i64 x66_2) rfl) ?_
     obtain ⟨k69, h_k69, H36⟩ := Jh H35; clear H35
     refine Ja rfl rfl rfl (r_indexAG (f := fun j_ => .int .i64 (a3 j_)) Tryz.runUnderlying64 Tryz.isAgg3 Tryz.sizeOf3 rfl rfl rfl h_k69) ?_
     refine Ja rfl rfl rfl (Jc (v := .int .i64 x66_2) rfl) ?_
     refine Ja rfl rfl rfl (Jc (v := .int .i64 (a3 k69)) rfl) ?_
     refine Jf ?_
     exact Za (Kd.p :: Kd.p :: Kd.p :: Kd.p :: Kd.p :: Kd.p :: Kd.p :: Kd.d [0] _ :: Kd.p :: Kd.p :: Kd.p :: Kd.p :: Kd.p :: Kd.st 82 0 [_, _, _, _, _, _, _, _, _, _, _, _, _, _, _, _, _, _] 67 :: []) 0 mixed (by
      refine Jt rfl rfl (Jd (v := .pointer (some ⟨pb0, 0, none⟩)) rfl) ?_
      refine Jt rfl rfl (Jd (v := .int .i64 x66_2) rfl) ?_
      refine Jt rfl rfl (Jd (v := .pointer (some ⟨pb0, 0, none⟩)) rfl) ?_
      refine Jt rfl rfl (Jd (v := .int .i64 x66_2) rfl) ?_
      refine Jt rfl rfl (Qk rfl) ?_
      refine Jt rfl rfl (Jq Tryz.runUnderlying67 rfl Tryz.sizeOf64 rfl rfl) ?_
      have h_k76 := Qx H36
      have H37 := Qg H36
      refine Jt rfl rfl (Jaj Tryz.runUnderlying64 Tryz.sizeOf3 rfl rfl h_k76) ?_
      refine Zb (i := 0) (v := .int .i64 (m_2 (val (Xb 16 x66_2)))) Tryz.isAgg3 rfl rfl rfl (rg_arr (pre := [.int .i64 a0.device_]) (post := [.slice p_3.1 l.length p_3.2]) (f := fun j_ => [.int .i64 (m_2 j_)]) (n := 16) (sz := 1) (q := 0) rfl rfl (fun _ => rfl) (gIx_lt h_k76) rfl) ?_
      refine Jt rfl rfl (Jd (v := .int .i64 (a3 k69)) rfl) ?_
      refine Jt rfl rfl (r_max rfl rfl) ?_
      refine Jt rfl rfl (Qk rfl) ?_
      refine Jt rfl rfl (Jq Tryz.runUnderlying67 rfl Tryz.sizeOf64 rfl rfl) ?_
      have h_k82 := Qx H37
      have H38 := Qg H37
      refine Jt rfl rfl (Jaj Tryz.runUnderlying64 Tryz.sizeOf3 rfl rfl h_k82) ?_
      refine d_store (i := 0) (vs := [.int .i64 (max (m_2 (val (Xb 16 x66_2))) (a3 k69))]) (cs' := [.int .i64 a0.device_, .int .i64 ((Xe m_2 (val (Xb 16 x66_2)) (max (m_2 (val (Xb 16 x66_2))) (a3 k69))) 0), .int .i64 ((Xe m_2 (val (Xb 16 x66_2)) (max (m_2 (val (Xb 16 x66_2))) (a3 k69))) 1), .int .i64 ((Xe m_2 (val (Xb 16 x66_2)) (max (m_2 (val (Xb 16 x66_2))) (a3 k69))) 2), .int .i64 ((Xe m_2 (val (Xb 16 x66_2)) (max (m_2 (val (Xb 16 x66_2))) (a3 k69))) 3), .int .i64 ((Xe m_2 (val (Xb 16 x66_2)) (max (m_2 (val (Xb 16 x66_2))) (a3 k69))) 4), .int .i64 ((Xe m_2 (val (Xb 16 x66_2)) (max (m_2 (val (Xb 16 x66_2))) (a3 k69))) 5), .int .i64 ((Xe m_2 (val (Xb 16 x66_2)) (max (m_2 (val (Xb 16 x66_2))) (a3 k69))) 6), .int .i64 ((Xe m_2 (val (Xb 16 x66_2)) (max (m_2 (val (Xb 16 x66_2))) (a3 k69))) 7), .int .i64 ((Xe m_2 (val (Xb 16 x66_2)) (max (m_2 (val (Xb 16 x66_2))) (a3 k69))) 8), .int .i64 ((Xe m_2 (val (Xb 16 x66_2)) (max (m_2 (val (Xb 16 x66_2))) (a3 k69))) 9), .int .i64 ((Xe m_2 (val (Xb 16 x66_2)) (max (m_2 (val (Xb 16 x66_2))) (a3 k69))) 10), .int .i64 ((Xe m_2 (val (Xb 16 x66_2)) (max (m_2 (val (Xb 16 x66_2))) (a3 k69))) 11), .int .i64 ((Xe m_2 (val (Xb 16 x66_2)) (max (m_2 (val (Xb 16 x66_2))) (a3 k69))) 12), .int .i64 ((Xe m_2 (val (Xb 16 x66_2)) (max (m_2 (val (Xb 16 x66_2))) (a3 k69))) 13), .int .i64 ((Xe m_2 (val (Xb 16 x66_2)) (max (m_2 (val (Xb 16 x66_2))) (a3 k69))) 14), .int .i64 ((Xe m_2 (val (Xb 16 x66_2)) (max (m_2 (val (Xb 16 x66_2))) (a3 k69))) 15), .slice p_3.1 l.length p_3.2]) Tryz.sizeOf3 rfl rfl rfl rfl rfl rfl rfl rfl (wr_arr (pre := [.int .i64 a0.device_]) (post := [.slice p_3.1 l.length p_3.2]) (f := fun (j_ : Int) => [.int .i64 j_]) (n := 16) (sz := 1) (a := m_2) (x := (max (m_2 (val (Xb 16 x66_2))) (a3 k69))) rfl rfl (fun _ => rfl) (gIx_lt h_k82) rfl rfl) ?_
      refine Ui ?_
      refine Jb ?_
      obtain ⟨t83, h_t83, H39⟩ := Jh H38; clear H38
      refine Ja rfl rfl rfl (Q2 rfl rfl h_t83) ?_
      refine Ja rfl rfl rfl (Jd (v := .int .i64 t83) rfl) ?_
      refine Jf ?_
      refine Jl (t83, (Xe m_2 (val (Xb 16 x66_2)) (max (m_2 (val (Xb 16 x66_2))) (a3 k69)))) () m2 [0, 1] (by exact ⟨rfl, rfl, rfl, trivial⟩) (by decide) rfl (by exact ⟨(by subst hn2; exact H39), trivial⟩) (Nat.lt_succ_self _)
      ) (by kernel_rfl)
    ·have H40 := Jo hb H34; clear H34
     refine Qr ?_
     refine Je ?_
     refine Jb ?_
     refine Ja rfl rfl rfl (Jc (v := .int .i64 0) rfl) ?_
     refine Jf ?_
     refine Jm ?_
     obtain rfl := Option.some.inj H40
     refine Z6 0 1 rfl rfl (by decide) ?_
     refine Jy (v := .int .i64 0) rfl rfl (W6 p_3 (i := 0) rfl (by first | rfl | rw [(show l.length = t60.length from hl)]) (by first | exact Imp.refl _ | exact Imp.of (by rw [(show l.length = t60.length from hl)])))
  ) (by kernel_rfl)
theorem k9 {a0 : T_sync_Replica} {pb0 : Nat} {p0_2 : Option Addr × Nat} {n0_2 : Nat} {a1 : T_sync_Replica} {v1_2 : Value} {pb1 : Nat} {r : Int × T_sync_Replica} {w : World} {h : J3} {S : Nat → Prop} (hcs : (Yk (Jp pb0 [.int .i64 a0.device_, .int .i64 (a0.knows_ 0), .int .i64 (a0.knows_ 1), .int .i64 (a0.knows_ 2), .int .i64 (a0.knows_ 3), .int .i64 (a0.knows_ 4), .int .i64 (a0.knows_ 5), .int .i64 (a0.knows_ 6), .int .i64 (a0.knows_ 7), .int .i64 (a0.knows_ 8), .int .i64 (a0.knows_ 9), .int .i64 (a0.knows_ 10), .int .i64 (a0.knows_ 11), .int .i64 (a0.knows_ 12), .int .i64 (a0.knows_ 13), .int .i64 (a0.knows_ 14), .int .i64 (a0.knows_ 15), .slice p0_2.1 n0_2 p0_2.2] 67) (Q0 52 8 (.slice p0_2.1 n0_2 p0_2.2) n0_2 (a0.facts_.map Jj))).P S w) (hlt : ∀ b, S b → b < w.heap.size) (hw : Know h w S) (hn0_2 : n0_2 = a0.facts_.length) (f1_2 : FrS h 8 v1_2 (a1.facts_.map Jj)) (hb1 : h pb1 = some (.cells (List.toArray [.int .i64 a1.device_, .int .i64 (a1.knows_ 0), .int .i64 (a1.knows_ 1), .int .i64 (a1.knows_ 2), .int .i64 (a1.knows_ 3), .int .i64 (a1.knows_ 4), .int .i64 (a1.knows_ 5), .int .i64 (a1.knows_ 6), .int .i64 (a1.knows_ 7), .int .i64 (a1.knows_ 8), .int .i64 (a1.knows_ 9), .int .i64 (a1.knows_ 10), .int .i64 (a1.knows_ 11), .int .i64 (a1.knows_ 12), .int .i64 (a1.knows_ 13), .int .i64 (a1.knows_ 14), .int .i64 (a1.knows_ 15), v1_2]) 67 (0, 0))) (H : Xx a0 a1 = some r) : Does Tryz.prog 9 (List.toArray [.pointer (some ⟨pb0, 0, none⟩), .pointer (some ⟨pb1, 0, none⟩)]) w (fun v w' => ∃ x : (Option Addr × Nat), v = (.int .i64 r.1) ∧ Turn w w' S (Yk (Jp pb0 [.int .i64 r.2.device_, .int .i64 (r.2.knows_ 0), .int .i64 (r.2.knows_ 1), .int .i64 (r.2.knows_ 2), .int .i64 (r.2.knows_ 3), .int .i64 (r.2.knows_ 4), .int .i64 (r.2.knows_ 5), .int .i64 (r.2.knows_ 6), .int .i64 (r.2.knows_ 7), .int .i64 (r.2.knows_ 8), .int .i64 (r.2.knows_ 9), .int .i64 (r.2.knows_ 10), .int .i64 (r.2.knows_ 11), .int .i64 (r.2.knows_ 12), .int .i64 (r.2.knows_ 13), .int .i64 (r.2.knows_ 14), .int .i64 (r.2.knows_ 15), .slice x.1 r.2.facts_.length x.2] 67) (Q0 52 8 (.slice x.1 r.2.facts_.length x.2) r.2.facts_.length (r.2.facts_.map Jj)))) := by
 refine enter (n := 20) Tryz.func9 rfl rfl rfl S [Yk (Jp pb0 [.int .i64 a0.device_, .int .i64 (a0.knows_ 0), .int .i64 (a0.knows_ 1), .int .i64 (a0.knows_ 2), .int .i64 (a0.knows_ 3), .int .i64 (a0.knows_ 4), .int .i64 (a0.knows_ 5), .int .i64 (a0.knows_ 6), .int .i64 (a0.knows_ 7), .int .i64 (a0.knows_ 8), .int .i64 (a0.knows_ 9), .int .i64 (a0.knows_ 10), .int .i64 (a0.knows_ 11), .int .i64 (a0.knows_ 12), .int .i64 (a0.knows_ 13), .int .i64 (a0.knows_ 14), .int .i64 (a0.knows_ 15), .slice p0_2.1 n0_2 p0_2.2] 67) (Q0 52 8 (.slice p0_2.1 n0_2 p0_2.2) n0_2 (a0.facts_.map Jj))] (Sat.one hcs hlt) ?_
 refine Uw 0 rfl ?_
 refine Je ?_
 refine Jb ?_
 refine Ja rfl rfl rfl (Jc (v := .int .i64 0) rfl) ?_
 refine Jf ?_
 refine Je ?_
 exact Za (Kd.p :: Kd.p :: Kd.p :: Kd.p :: Kd.d [] _ :: Kd.p :: Kd.p :: Kd.p :: Kd.d [] _ :: Kd.t 2 [] _ _ :: Kd.p :: Kd.p :: Kd.p :: Kd.d [] _ :: Kd.t2 0 1 [2] _ _ :: Kd.p :: []) 1 mixed (by
  refine Jt rfl rfl (Jd (v := .pointer (some ⟨pb0, 0, none⟩)) rfl) ?_
  refine Jt rfl rfl (Jd (v := .pointer (some ⟨pb1, 0, none⟩)) rfl) ?_
  refine Jt rfl rfl (Qk rfl) ?_
  refine Jt rfl rfl (Jq Tryz.runUnderlying67 rfl Tryz.sizeOf65 rfl rfl) ?_
  refine d_read (fun w hF => Zt (v := v1_2) Tryz.isAgg65 rfl (hw.now hF _ _ hb1) rfl) rfl rfl ?_
  refine Jt rfl rfl (Jd (v := .pointer (some ⟨pb1, 0, none⟩)) rfl) ?_
  refine Jt rfl rfl (Qk rfl) ?_
  refine Jt rfl rfl (Jq Tryz.runUnderlying67 rfl Tryz.sizeOf65 rfl rfl) ?_
  refine d_read (fun w hF => Zt (v := v1_2) Tryz.isAgg65 rfl (hw.now hF _ _ hb1) rfl) rfl rfl ?_
  have h_t14 := Qx H
  have H3 := Qg H
  refine d_make (Cv := fun v => mapC (fun x_ : T_sync_Fact => .agg #[.int .i64 x_.Dot.Device, .int .i64 x_.Dot.N, .int .i64 x_.Time, .int .i64 x_.Kind, .int .i64 x_.Id, str x_.Name, .int .i64 x_.Num, str x_.Text]) (fun x_ : Bool => .bool x_) (mapB v) (val (Xa a1.facts_))) 0 (Q3 (G := fun x : Nat => .map (some x)) (C := fun x : Nat => mapC (fun x_ : T_sync_Fact => .agg #[.int .i64 x_.Dot.Device, .int .i64 x_.Dot.N, .int .i64 x_.Time, .int .i64 x_.Kind, .int .i64 x_.Id, str x_.Name, .int .i64 x_.Num, str x_.Text]) (fun x_ : Bool => .bool x_) x (val (Xa a1.facts_))) (fun w L' hF hS hi => k31 (Jx w) (f1_2.mono (hw.now hF)) h_t14) Tryz.call31 rfl) (fun _ => rfl) rfl rfl rfl (fun p => ?_)
  refine Jt rfl rfl (Jd (v := .pointer (some ⟨pb1, 0, none⟩)) rfl) ?_
  refine Jt rfl rfl (Qk rfl) ?_
  refine Jt rfl rfl (Jq Tryz.runUnderlying67 rfl Tryz.sizeOf64 rfl rfl) ?_
  refine d_read (fun w hF => run_loadKN (vs := [.int .i64 (a1.knows_ 0), .int .i64 (a1.knows_ 1), .int .i64 (a1.knows_ 2), .int .i64 (a1.knows_ 3), .int .i64 (a1.knows_ 4), .int .i64 (a1.knows_ 5), .int .i64 (a1.knows_ 6), .int .i64 (a1.knows_ 7), .int .i64 (a1.knows_ 8), .int .i64 (a1.knows_ 9), .int .i64 (a1.knows_ 10), .int .i64 (a1.knows_ 11), .int .i64 (a1.knows_ 12), .int .i64 (a1.knows_ 13), .int .i64 (a1.knows_ 14), .int .i64 (a1.knows_ 15)]) Tryz.isAgg64 Tryz.sizeOf64 rfl (hw.now hF _ _ hb1) rfl) rfl rfl ?_
  have h_t19 := Qx H3
  have H4 := Qg H3
  refine d_turn2 (i := 0) (j := 1) (Q7 (i := 0) (rds := _) (G := fun x : (Option Addr × Nat) => .int .i64 (val (Jv a0 a1.facts_ (val (Xa a1.facts_)) a1.knows_)).1) (C := fun x : (Option Addr × Nat) => Yk (Jp pb0 [.int .i64 (val (Jv a0 a1.facts_ (val (Xa a1.facts_)) a1.knows_)).2.device_, .int .i64 ((val (Jv a0 a1.facts_ (val (Xa a1.facts_)) a1.knows_)).2.knows_ 0), .int .i64 ((val (Jv a0 a1.facts_ (val (Xa a1.facts_)) a1.knows_)).2.knows_ 1), .int .i64 ((val (Jv a0 a1.facts_ (val (Xa a1.facts_)) a1.knows_)).2.knows_ 2), .int .i64 ((val (Jv a0 a1.facts_ (val (Xa a1.facts_)) a1.knows_)).2.knows_ 3), .int .i64 ((val (Jv a0 a1.facts_ (val (Xa a1.facts_)) a1.knows_)).2.knows_ 4), .int .i64 ((val (Jv a0 a1.facts_ (val (Xa a1.facts_)) a1.knows_)).2.knows_ 5), .int .i64 ((val (Jv a0 a1.facts_ (val (Xa a1.facts_)) a1.knows_)).2.knows_ 6), .int .i64 ((val (Jv a0 a1.facts_ (val (Xa a1.facts_)) a1.knows_)).2.knows_ 7), .int .i64 ((val (Jv a0 a1.facts_ (val (Xa a1.facts_)) a1.knows_)).2.knows_ 8), .int .i64 ((val (Jv a0 a1.facts_ (val (Xa a1.facts_)) a1.knows_)).2.knows_ 9), .int .i64 ((val (Jv a0 a1.facts_ (val (Xa a1.facts_)) a1.knows_)).2.knows_ 10), .int .i64 ((val (Jv a0 a1.facts_ (val (Xa a1.facts_)) a1.knows_)).2.knows_ 11), .int .i64 ((val (Jv a0 a1.facts_ (val (Xa a1.facts_)) a1.knows_)).2.knows_ 12), .int .i64 ((val (Jv a0 a1.facts_ (val (Xa a1.facts_)) a1.knows_)).2.knows_ 13), .int .i64 ((val (Jv a0 a1.facts_ (val (Xa a1.facts_)) a1.knows_)).2.knows_ 14), .int .i64 ((val (Jv a0 a1.facts_ (val (Xa a1.facts_)) a1.knows_)).2.knows_ 15), .slice x.1 (val (Jv a0 a1.facts_ (val (Xa a1.facts_)) a1.knows_)).2.facts_.length x.2] 67) (Q0 52 8 (.slice x.1 (val (Jv a0 a1.facts_ (val (Xa a1.facts_)) a1.knows_)).2.facts_.length x.2) (val (Jv a0 a1.facts_ (val (Xa a1.facts_)) a1.knows_)).2.facts_.length ((val (Jv a0 a1.facts_ (val (Xa a1.facts_)) a1.knows_)).2.facts_.map Jj))) rfl (fun w L' S hF hS hi hp hlt ho hA => k30 hp hlt (Y0 w S) hn0_2 (f1_2.mono (hw.but hF ho)) (frb_map (fk := (fun x_ : T_sync_Fact => .agg #[.int .i64 x_.Dot.Device, .int .i64 x_.Dot.N, .int .i64 x_.Time, .int .i64 x_.Kind, .int .i64 x_.Id, str x_.Name, .int .i64 x_.Num, str x_.Text])) (fv := (fun x_ : Bool => .bool x_)) (j := 2) hA (by decide) ((hi 2 (by simp)).trans rfl)) h_t19) Tryz.call30 rfl) rfl rfl (by decide) (by decide) rfl rfl ?_
  refine Jt rfl rfl (Jc (v := .int .i64 (val (Jv a0 a1.facts_ (val (Xa a1.facts_)) a1.knows_)).1) rfl) ?_
  refine Ui ?_
  refine c_ex 0 rfl (fun p_2 => ?_)
  refine Ub 0 1 rfl rfl (by decide) ?_
  refine Jm ?_
  obtain rfl := Option.some.inj H4
  refine Z6 0 1 rfl rfl (by decide) ?_
  refine Jy (v := .int .i64 (val (Jv a0 a1.facts_ (val (Xa a1.facts_)) a1.knows_)).1) rfl rfl (W6 p_2 (i := 0) rfl rfl (Imp.refl _))
  ) (by kernel_rfl)
theorem k66 {a0 : T_sync_Fact} {r : Bool} (H : Jae a0 = some r) : Ret Tryz.prog 66 [.agg #[.int .i64 a0.Dot.Device, .int .i64 a0.Dot.N, .int .i64 a0.Time, .int .i64 a0.Kind, .int .i64 a0.Id, str a0.Name, .int .i64 a0.Num, str a0.Text]] (.bool r) := by
 refine Qc (n := 6) Tryz.func66 rfl rfl rfl (fun wd => ?_)
 refine Je ?_
 refine Jb ?_
 refine W8 (cs := [.int .i64 a0.Dot.Device, .int .i64 a0.Dot.N, .int .i64 a0.Time, .int .i64 a0.Kind, .int .i64 a0.Id, str a0.Name, .int .i64 a0.Num, str a0.Text]) rfl rfl rfl rfl (fun b1 => ?_)
 refine Ja rfl rfl rfl (Jc (v := .bool false) rfl) ?_
 refine Jf ?_
 refine Je ?_
 refine Jb ?_
 refine Ja rfl rfl rfl (Jq Tryz.runUnderlying52 rfl Tryz.sizeOf3 rfl rfl) ?_
 refine J0 (i := 0) (v := .int .i64 a0.Kind) Tryz.isAgg3 rfl rfl rfl rfl rfl ?_
 refine Ja rfl rfl rfl (Zp rfl rfl) ?_
 refine Ja rfl rfl rfl (Jc (v := .bool (decide (a0.Kind = 1))) rfl) ?_
 refine Jf ?_
 refine Jm ?_
 obtain rfl := Option.some.inj H
 refine Jy (v := .bool (decide (a0.Kind = 1))) rfl rfl (Xh rfl)
theorem k32 {a0 : T_sync_Replica} {v0_2 : Value} {pb0 : Nat} {r : (List Int)} {w : World} {h : J3} (hw : Know h w Zh) (f0_2 : FrS h 8 v0_2 (a0.facts_.map Jj)) (hb0 : h pb0 = some (.cells (List.toArray [.int .i64 a0.device_, .int .i64 (a0.knows_ 0), .int .i64 (a0.knows_ 1), .int .i64 (a0.knows_ 2), .int .i64 (a0.knows_ 3), .int .i64 (a0.knows_ 4), .int .i64 (a0.knows_ 5), .int .i64 (a0.knows_ 6), .int .i64 (a0.knows_ 7), .int .i64 (a0.knows_ 8), .int .i64 (a0.knows_ 9), .int .i64 (a0.knows_ 10), .int .i64 (a0.knows_ 11), .int .i64 (a0.knows_ 12), .int .i64 (a0.knows_ 13), .int .i64 (a0.knows_ 14), .int .i64 (a0.knows_ 15), v0_2]) 67 (0, 0))) (H : Vp a0 = some r) : Does Tryz.prog 32 (List.toArray [.pointer (some ⟨pb0, 0, none⟩)]) w (fun v w' => ∃ x : (Option Addr × Nat), v = (.slice x.1 r.length x.2) ∧ Turn w w' Zh (Qq 3 1 (.slice x.1 r.length x.2) r.length (r.map J4))) := by
 refine enter (n := 21) Tryz.func32 rfl rfl rfl Zh [] (Sat.nil _ _) ?_
 refine Je ?_
 refine Jb ?_
 refine Ja rfl rfl rfl (Jc (v := .slice none 0 0) rfl) ?_
 refine Jf ?_
 refine Je ?_
 refine Jb ?_
 refine Ja rfl rfl rfl (Jc (v := .slice none 0 0) rfl) ?_
 refine Jf ?_
 refine Xi (r := r) (σ := (List Int)) (τ := (Option Addr × Nat)) (fun s => Ve s) (fun s t => [(3, .slice t.1 s.length t.2)]) (fun s t => [Qq 3 1 (.slice t.1 s.length t.2) s.length (s.map J4)]) (fun s t => True) ?_ ?_
 ·refine Je ?_
  refine Jb ?_
  refine Ja rfl rfl rfl (Jd (v := .pointer (some ⟨pb0, 0, none⟩)) rfl) ?_
  obtain ⟨t7, h_t7, H12⟩ := Jh H; clear H
  refine Zf (Q3 (rds := []) (G := fun x : (Option Addr × Nat) => .slice x.1 t7.length x.2) (C := fun x : (Option Addr × Nat) => Qq 52 8 (.slice x.1 t7.length x.2) t7.length (t7.map Jj)) (fun w L' hF hS hi => k62 (Jx w) (f0_2.mono (hw.now hF)) (hw.now hF _ _ hb0) (FnH.mk ⟨66, #[], #[], rfl, Tryz.call66, fun args2 post2 w2 hk2 hR2 => by obtain ⟨a0_, r_, rfl, H_, rfl⟩ := hR2; exact k66 H_ w2⟩) h_t7) Tryz.call62 rfl) rfl rfl rfl (fun p_3 => ?_)
  refine Ja rfl rfl rfl (Uj Tryz.underlying65 rfl) ?_
  refine Ja rfl rfl rfl (Jd (v := .int .i64 0) rfl) ?_
  refine Jf ?_
  refine Ju ?_
  refine Wp 3 1 ?_
  refine Yv (σ := Int × (List Int)) (τ := (Option Addr × Nat)) (fun next2 s => X9 t7 next2 s.1 s.2) (fun s t => [(3, .slice t.1 s.2.length t.2), (7, .slice p_3.1 t7.length p_3.2), (8, .int .i64 (t7.length : Int)), (9, .int .i64 s.1)]) (fun s t => [Qq 52 8 (.slice p_3.1 t7.length p_3.2) t7.length (t7.map Jj), Qq 3 1 (.slice t.1 s.2.length t.2) s.2.length (s.2.map J4)]) (fun s t => True) (0, ([] : List Int)) ((none, 0) : Option Addr × Nat) [0, 1] H12 (by exact trivial) (by exact ⟨rfl, rfl, rfl, rfl, trivial⟩) (by decide) rfl ?_
  rintro ⟨x9_2, l_3⟩ p_4 m2 gg H13 _
  clear H12
  replace H13 : X9 t7 (it (fun next2 s => X9 t7 next2 s.1 s.2) m2) x9_2 l_3 = some r := H13
  generalize hn2 : it (fun next2 s => X9 t7 next2 s.1 s.2) m2 = next2 at H13
  try dsimp only
  refine Je ?_
  refine Jb ?_
  refine Ja rfl rfl rfl (Q1 rfl rfl) ?_
  refine Jf ?_
  refine Je ?_
  refine J5 (b := (decide (x9_2 < (t7.length : Int)))) rfl (fun hb => ?_) (fun hb => ?_)
  ·have H14 := Jn hb H13; clear H13
   refine Jr ?_
   refine Je ?_
   refine Ju ?_
   refine Je ?_
   refine Jb ?_
   obtain ⟨t11, h_t11, H15⟩ := Jh H14; clear H14
   refine Qa (fun w hF hS => Vr Tryz.underlying65 Tryz.sizeOf52 rfl rfl (rowOf (i := 0) hS rfl) rfl h_t11) rfl rfl rfl ?_
   refine Qa (fun w hF hS => Xw (f := Jj) (i := x9_2) (sz := 8) (j := 0) (vs := [.int .i64 t11.Dot.Device, .int .i64 t11.Dot.N, .int .i64 t11.Time, .int .i64 t11.Kind, .int .i64 t11.Id, str t11.Name, .int .i64 t11.Num, str t11.Text]) Tryz.isAgg52 Tryz.sizeOf52 rfl rfl (rowOf (i := 0) hS rfl) h_t11 rfl) rfl rfl rfl ?_
   refine Zo (cs := [.int .i64 0, .int .i64 0, .int .i64 0, .int .i64 0, .int .i64 0, str [], .int .i64 0, str []]) Tryz.zeroValue52 rfl rfl rfl (fun b2 => ?_)
   refine X3 (i := 2) (vs := [.int .i64 t11.Dot.Device, .int .i64 t11.Dot.N, .int .i64 t11.Time, .int .i64 t11.Kind, .int .i64 t11.Id, str t11.Name, .int .i64 t11.Num, str t11.Text]) (cs' := [.int .i64 t11.Dot.Device, .int .i64 t11.Dot.N, .int .i64 t11.Time, .int .i64 t11.Kind, .int .i64 t11.Id, str t11.Name, .int .i64 t11.Num, str t11.Text]) Tryz.sizeOf52 rfl rfl rfl rfl rfl rfl rfl rfl rfl ?_
   refine Jf ?_
   refine Jb ?_
   refine Ja rfl rfl rfl (Jd (v := .slice p_4.1 l_3.length p_4.2) rfl) ?_
   refine Ja rfl rfl rfl (Jq Tryz.runUnderlying52 rfl Tryz.sizeOf3 rfl rfl) ?_
   refine J0 (i := 2) (v := .int .i64 t11.Id) Tryz.isAgg3 rfl rfl rfl rfl rfl ?_
   refine Xc (vs := [.int .i64 t11.Id]) (cs := [.int .i64 t11.Id]) Tryz.underlying24 Tryz.sizeOf3 Tryz.zeroValue3 rfl rfl rfl rfl rfl rfl rfl (fun b3 => ?_)
   obtain ⟨l17, h_l17, H16⟩ := Jh H15; clear H15
   refine Yl (We (i := 1) (hn := rfl) (rds := [3]) (p := p_4) (sz := 1) (by_ := 8) (f := J4) (ys := l_3) (ls := ([t11.Id] : List Int)) (V := .slice (some ⟨b3, 0, none⟩) 1 1) Tryz.underlying24 (W2 Tryz.typeInfo3) rfl rfl rfl rfl rfl rfl rfl rfl rfl rfl (fun w L' hF hS hi => Jac (i := 3) hS ((hi 3 (by simp)).trans rfl) rfl rfl) (fun _ => rfl) (fun _ => rfl) h_l17) rfl rfl rfl (fun p_5 => ?_)
   refine Ja rfl rfl rfl (Jc (v := .slice p_5.1 l17.length p_5.2) rfl) ?_
   refine Jf ?_
   try dsimp only [z1, z2, z5, z6, z7, z8]
   refine Jb ?_
   obtain ⟨t18, h_t18, H17⟩ := Jh H16; clear H16
   refine Ja rfl rfl rfl (Q2 rfl rfl h_t18) ?_
   refine Ja rfl rfl rfl (Jd (v := .int .i64 t18) rfl) ?_
   refine Jf ?_
   refine Jl (t18, l17) p_5 m2 [0, 1] (by exact ⟨rfl, rfl, rfl, rfl, trivial⟩) (by decide) rfl (by exact ⟨(by subst hn2; exact H17), trivial⟩) (Nat.lt_succ_self _)
  ·have H18 := Jo hb H13; clear H13
   refine Qr ?_
   refine Jl l_3 p_4 0 [1] (by exact ⟨rfl, trivial⟩) (by decide) rfl (by exact ⟨H18, trivial⟩) (Nat.lt_succ_self _)
 ·rintro l p gg H10 _
  replace H10 : Ve l = some r := H10
  try dsimp only
  refine Je ?_
  refine Jb ?_
  refine Ja rfl rfl rfl (Jd (v := .slice p.1 l.length p.2) rfl) ?_
  obtain ⟨t20, h_t20, H11⟩ := Jh H10; clear H10
  refine Yl (Q7 (i := 0) (rds := []) (G := fun x : (Option Addr × Nat) => .slice x.1 t20.length x.2) (C := fun x : (Option Addr × Nat) => Qq 3 1 (.slice x.1 t20.length x.2) t20.length (t20.map J4)) rfl (fun w L' S hF hS hi hp hlt ho hA => k50 hp hlt (Y0 w S) rfl h_t20) Tryz.call50 rfl) rfl rfl rfl (fun p_2 => ?_)
  refine Ja rfl rfl rfl (Jc (v := .slice p_2.1 t20.length p_2.2) rfl) ?_
  refine Jf ?_
  refine Jm ?_
  obtain rfl := Option.some.inj H11
  refine Jy (v := .slice p_2.1 t20.length p_2.2) rfl rfl (W6 p_2 (i := 0) rfl rfl (Imp.refl _))
theorem k67 {a0 : (List T_sync_Fact)} {v0 : Value} {a1 : (T_sync_Fact → T_sync_Fact → Option (Int))} {v1 : Value} {r : T_sync_Fact} {w : World} {h : J3} (hw : Know h w Zh) (f0 : FrS h 8 v0 (a0.map Jj)) (f1 : FnH Tryz.prog h v1 (V3 a1)) (H : Wc a0 a1 = some r) : Does Tryz.prog 67 (List.toArray [v0, v1]) w (fun v w' => v = (.agg #[.int .i64 r.Dot.Device, .int .i64 r.Dot.N, .int .i64 r.Time, .int .i64 r.Kind, .int .i64 r.Id, str r.Name, .int .i64 r.Num, str r.Text]) ∧ Grow w w') := by
 refine enter (n := 33) Tryz.func67 rfl rfl rfl Zh [] (Sat.nil _ _) ?_
 refine Je ?_
 refine Jb ?_
 refine Zo (cs := [.int .i64 0, .int .i64 0, .int .i64 0, .int .i64 0, .int .i64 0, str [], .int .i64 0, str []]) Tryz.zeroValue52 rfl rfl rfl (fun b2 => ?_)
 refine Jf ?_
 refine Je ?_
 refine Je ?_
 refine Jb ?_
 refine Ja rfl rfl rfl (Jd (v := v0) rfl) ?_
 refine Ja rfl rfl rfl (Zl Tryz.underlying65 rfl f0 rfl) ?_
 refine Ja rfl rfl rfl (Q1 rfl rfl) ?_
 refine Jf ?_
 refine J5 (b := (decide ((a0.length : Int) < 1))) rfl (fun hb => ?_) (fun hb => ?_)
 ·have H15 := Jn hb H; clear H
  exact absurd (show (none : Option (T_sync_Fact)) = some r from H15) (fun h => by cases h)
 ·have H16 := Jo hb H; clear H
  refine Jr ?_
  refine Je ?_
  refine Jb ?_
  refine Ja rfl rfl rfl (Jd (v := v0) rfl) ?_
  obtain ⟨t12, h_t12, H17⟩ := Jh H16; clear H16
  refine Ja rfl rfl rfl (Qm Tryz.underlying65 Tryz.sizeOf52 rfl rfl f0 h_t12) ?_
  refine Qa (fun w hF hS => Xw (f := Jj) (i := 0) (sz := 8) (j := 0) (vs := [.int .i64 t12.Dot.Device, .int .i64 t12.Dot.N, .int .i64 t12.Time, .int .i64 t12.Kind, .int .i64 t12.Id, str t12.Name, .int .i64 t12.Num, str t12.Text]) Tryz.isAgg52 Tryz.sizeOf52 rfl rfl (f0.row (hw.now hF)) h_t12 rfl) rfl rfl rfl ?_
  refine Zo (cs := [.int .i64 0, .int .i64 0, .int .i64 0, .int .i64 0, .int .i64 0, str [], .int .i64 0, str []]) Tryz.zeroValue52 rfl rfl rfl (fun b3 => ?_)
  refine X3 (i := 1) (vs := [.int .i64 t12.Dot.Device, .int .i64 t12.Dot.N, .int .i64 t12.Time, .int .i64 t12.Kind, .int .i64 t12.Id, str t12.Name, .int .i64 t12.Num, str t12.Text]) (cs' := [.int .i64 t12.Dot.Device, .int .i64 t12.Dot.N, .int .i64 t12.Time, .int .i64 t12.Kind, .int .i64 t12.Id, str t12.Name, .int .i64 t12.Num, str t12.Text]) Tryz.sizeOf52 rfl rfl rfl rfl rfl rfl rfl rfl rfl ?_
  refine Jf ?_
  refine Xi (r := r) (σ := Int × Int × Int × Int × Int × (List UInt8) × Int × (List UInt8)) (τ := Unit) (fun s => Ze s.1 s.2.1 s.2.2.1 s.2.2.2.1 s.2.2.2.2.1 s.2.2.2.2.2.1 s.2.2.2.2.2.2.1 s.2.2.2.2.2.2.2) (fun s t => [(4, .pointer (some ⟨b2, 0, none⟩)), (5, .pointer (some ⟨b3, 0, none⟩))]) (fun s t => [Jp b2 [.int .i64 0, .int .i64 0, .int .i64 0, .int .i64 0, .int .i64 0, str [], .int .i64 0, str []] 52, Jp b3 [.int .i64 s.1, .int .i64 s.2.1, .int .i64 s.2.2.1, .int .i64 s.2.2.2.1, .int .i64 s.2.2.2.2.1, str s.2.2.2.2.2.1, .int .i64 s.2.2.2.2.2.2.1, str s.2.2.2.2.2.2.2] 52]) (fun s t => True) ?_ ?_
  ·refine Je ?_
   refine Jb ?_
   refine Ja rfl rfl rfl (Jc (v := .int .i64 1) rfl) ?_
   refine Jf ?_
   refine Ju ?_
   refine Yv (σ := Int × Int × Int × Int × Int × Int × (List UInt8) × Int × (List UInt8)) (τ := Unit) (fun next2 s => Q5 a0 a1 next2 s.1 s.2.1 s.2.2.1 s.2.2.2.1 s.2.2.2.2.1 s.2.2.2.2.2.1 s.2.2.2.2.2.2.1 s.2.2.2.2.2.2.2.1 s.2.2.2.2.2.2.2.2) (fun s t => [(0, v0), (1, v1), (4, .pointer (some ⟨b2, 0, none⟩)), (5, .pointer (some ⟨b3, 0, none⟩)), (6, .int .i64 s.1)]) (fun s t => [Jp b2 [.int .i64 0, .int .i64 0, .int .i64 0, .int .i64 0, .int .i64 0, str [], .int .i64 0, str []] 52, Jp b3 [.int .i64 s.2.1, .int .i64 s.2.2.1, .int .i64 s.2.2.2.1, .int .i64 s.2.2.2.2.1, .int .i64 s.2.2.2.2.2.1, str s.2.2.2.2.2.2.1, .int .i64 s.2.2.2.2.2.2.2.1, str s.2.2.2.2.2.2.2.2] 52]) (fun s t => True) (1, t12.Dot.Device, t12.Dot.N, t12.Time, t12.Kind, t12.Id, t12.Name, t12.Num, t12.Text) () [0, 1] H17 (by exact trivial) (by exact ⟨rfl, rfl, rfl, rfl, rfl, trivial⟩) (by decide) rfl ?_
   rintro ⟨x6_2, m_17, m_18, m_19, m_20, m_21, m_22, m_23, m_24⟩ _ m2 gg H19 _
   clear H17
   replace H19 : Q5 a0 a1 (it (fun next2 s => Q5 a0 a1 next2 s.1 s.2.1 s.2.2.1 s.2.2.2.1 s.2.2.2.2.1 s.2.2.2.2.2.1 s.2.2.2.2.2.2.1 s.2.2.2.2.2.2.2.1 s.2.2.2.2.2.2.2.2) m2) x6_2 m_17 m_18 m_19 m_20 m_21 m_22 m_23 m_24 = some r := H19
   generalize hn2 : it (fun next2 s => Q5 a0 a1 next2 s.1 s.2.1 s.2.2.1 s.2.2.2.1 s.2.2.2.2.1 s.2.2.2.2.2.1 s.2.2.2.2.2.2.1 s.2.2.2.2.2.2.2.1 s.2.2.2.2.2.2.2.2) m2 = next2 at H19
   try dsimp only
   refine Je ?_
   refine Je ?_
   refine Jb ?_
   refine Ja rfl rfl rfl (Jd (v := .int .i64 x6_2) rfl) ?_
   refine Ja rfl rfl rfl (Jd (v := v0) rfl) ?_
   refine Ja rfl rfl rfl (Zl Tryz.underlying65 rfl f0 rfl) ?_
   refine Ja rfl rfl rfl (Q1 rfl rfl) ?_
   refine Jf ?_
   refine J5 (b := (decide (x6_2 < (a0.length : Int)))) rfl (fun hb => ?_) (fun hb => ?_)
   ·have H20 := Jn hb H19; clear H19
    refine Jr ?_
    refine Xi (r := r) (σ := Int × Int × Int × Int × Int × (List UInt8) × Int × (List UInt8)) (τ := Unit) (fun s => Yj x6_2 next2 s.1 s.2.1 s.2.2.1 s.2.2.2.1 s.2.2.2.2.1 s.2.2.2.2.2.1 s.2.2.2.2.2.2.1 s.2.2.2.2.2.2.2) (fun s t => [(0, v0), (1, v1), (4, .pointer (some ⟨b2, 0, none⟩)), (5, .pointer (some ⟨b3, 0, none⟩)), (6, .int .i64 x6_2)]) (fun s t => [Jp b2 [.int .i64 0, .int .i64 0, .int .i64 0, .int .i64 0, .int .i64 0, str [], .int .i64 0, str []] 52, Jp b3 [.int .i64 s.1, .int .i64 s.2.1, .int .i64 s.2.2.1, .int .i64 s.2.2.2.1, .int .i64 s.2.2.2.2.1, str s.2.2.2.2.2.1, .int .i64 s.2.2.2.2.2.2.1, str s.2.2.2.2.2.2.2] 52]) (fun s t => True) ?_ ?_
    ·refine Ju ?_
     refine Je ?_
     exact Za (Kd.p :: Kd.p :: Kd.p :: Kd.p :: Kd.d [] _ :: Kd.d [1] _ :: Kd.d [] _ :: Kd.p :: []) 0 mixed (by
      refine Jt rfl rfl (Jd (v := v1) rfl) ?_
      refine Jt rfl rfl (Jd (v := v0) rfl) ?_
      refine Jt rfl rfl (Jd (v := .int .i64 x6_2) rfl) ?_
      have h_t23 := Qx H20
      have H23 := Qg H20
      refine Jt rfl rfl (Qm Tryz.underlying65 Tryz.sizeOf52 rfl rfl f0 h_t23) ?_
      refine d_read (fun w hF => Xw (f := Jj) (i := x6_2) (sz := 8) (j := 0) (vs := [.int .i64 (val (Qn a0 x6_2)).Dot.Device, .int .i64 (val (Qn a0 x6_2)).Dot.N, .int .i64 (val (Qn a0 x6_2)).Time, .int .i64 (val (Qn a0 x6_2)).Kind, .int .i64 (val (Qn a0 x6_2)).Id, str (val (Qn a0 x6_2)).Name, .int .i64 (val (Qn a0 x6_2)).Num, str (val (Qn a0 x6_2)).Text]) Tryz.isAgg52 Tryz.sizeOf52 rfl rfl (f0.row (hw.now hF)) h_t23 rfl) rfl rfl ?_
      refine d_loadN (i := 1) (vs := [.int .i64 m_17, .int .i64 m_18, .int .i64 m_19, .int .i64 m_20, .int .i64 m_21, str m_22, .int .i64 m_23, str m_24]) Tryz.isAgg52 Tryz.sizeOf52 rfl rfl rfl rfl ?_
      have h_t26 := Qx H23
      have H24 := Qg H23
      refine d_callV (R := V3 a1) (r := .int .i64 (val (a1 (val (Qn a0 x6_2)) (⟨(⟨m_17, m_18⟩ : T_sync_Dot), m_19, m_20, m_21, m_22, m_23, m_24⟩ : T_sync_Fact)))) (v := v1) (fun w L' hF hS hi => ⟨(f1.mono (hw.now hF)), ⟨(val (Qn a0 x6_2)), (⟨(⟨m_17, m_18⟩ : T_sync_Dot), m_19, m_20, m_21, m_22, m_23, m_24⟩ : T_sync_Fact), _, rfl, h_t26, rfl⟩⟩) rfl rfl rfl ?_
      refine Jt rfl rfl (Wz rfl rfl) ?_
      refine Ui ?_
      refine J5 (b := (decide (0 < (val (a1 (val (Qn a0 x6_2)) (⟨(⟨m_17, m_18⟩ : T_sync_Dot), m_19, m_20, m_21, m_22, m_23, m_24⟩ : T_sync_Fact)))))) rfl (fun hb => ?_) (fun hb => ?_)
      ·have H25 := Jn hb H24; clear H24
       refine Jb ?_
       refine Ja rfl rfl rfl (Jd (v := v0) rfl) ?_
       refine Ja rfl rfl rfl (Jd (v := .int .i64 x6_2) rfl) ?_
       obtain ⟨t30, h_t30, H26⟩ := Jh H25; clear H25
       refine Ja rfl rfl rfl (Qm Tryz.underlying65 Tryz.sizeOf52 rfl rfl f0 h_t30) ?_
       refine Qa (fun w hF hS => Xw (f := Jj) (i := x6_2) (sz := 8) (j := 0) (vs := [.int .i64 t30.Dot.Device, .int .i64 t30.Dot.N, .int .i64 t30.Time, .int .i64 t30.Kind, .int .i64 t30.Id, str t30.Name, .int .i64 t30.Num, str t30.Text]) Tryz.isAgg52 Tryz.sizeOf52 rfl rfl (f0.row (hw.now hF)) h_t30 rfl) rfl rfl rfl ?_
       refine X3 (i := 1) (vs := [.int .i64 t30.Dot.Device, .int .i64 t30.Dot.N, .int .i64 t30.Time, .int .i64 t30.Kind, .int .i64 t30.Id, str t30.Name, .int .i64 t30.Num, str t30.Text]) (cs' := [.int .i64 t30.Dot.Device, .int .i64 t30.Dot.N, .int .i64 t30.Time, .int .i64 t30.Kind, .int .i64 t30.Id, str t30.Name, .int .i64 t30.Num, str t30.Text]) Tryz.sizeOf52 rfl rfl rfl rfl rfl rfl rfl rfl rfl ?_
       refine Jf ?_
       refine Jl (t30.Dot.Device, t30.Dot.N, t30.Time, t30.Kind, t30.Id, t30.Name, t30.Num, t30.Text) () 0 [0, 1] (by exact ⟨rfl, rfl, rfl, rfl, rfl, trivial⟩) (by decide) rfl (by exact ⟨H26, trivial⟩) (Nat.lt_succ_self _)
      ·have H27 := Jo hb H24; clear H24
       refine Jr ?_
       refine Jl (m_17, m_18, m_19, m_20, m_21, m_22, m_23, m_24) () 0 [0, 1] (by exact ⟨rfl, rfl, rfl, rfl, rfl, trivial⟩) (by decide) rfl (by exact ⟨H27, trivial⟩) (Nat.lt_succ_self _)
      ) (by kernel_rfl)
    ·rintro ⟨m_25, m_26, m_27, m_28, m_29, m_30, m_31, m_32⟩ _ gg H21 _
     replace H21 : Yj x6_2 next2 m_25 m_26 m_27 m_28 m_29 m_30 m_31 m_32 = some r := H21
     try dsimp only
     refine Jb ?_
     refine Ja rfl rfl rfl (Jd (v := .int .i64 x6_2) rfl) ?_
     obtain ⟨t19, h_t19, H22⟩ := Jh H21; clear H21
     refine Ja rfl rfl rfl (Q2 rfl rfl h_t19) ?_
     refine Ja rfl rfl rfl (Jc (v := .int .i64 t19) rfl) ?_
     refine Jf ?_
     refine Jl (t19, m_25, m_26, m_27, m_28, m_29, m_30, m_31, m_32) () m2 [0, 1] (by exact ⟨rfl, rfl, rfl, rfl, rfl, trivial⟩) (by decide) rfl (by exact ⟨(by subst hn2; exact H22), trivial⟩) (Nat.lt_succ_self _)
   ·have H28 := Jo hb H19; clear H19
    refine Qr ?_
    refine Jl (m_17, m_18, m_19, m_20, m_21, m_22, m_23, m_24) () 0 [0, 1] (by exact ⟨rfl, rfl, trivial⟩) (by decide) rfl (by exact ⟨H28, trivial⟩) (Nat.lt_succ_self _)
  ·rintro ⟨m, m_2, m_3, m_4, m_5, m_6, m_7, m_8⟩ _ gg H18 _
   replace H18 : Ze m m_2 m_3 m_4 m_5 m_6 m_7 m_8 = some r := H18
   try dsimp only
   refine Je ?_
   refine Jb ?_
   refine Y2 (i := 1) (vs := [.int .i64 m, .int .i64 m_2, .int .i64 m_3, .int .i64 m_4, .int .i64 m_5, str m_6, .int .i64 m_7, str m_8]) Tryz.isAgg52 Tryz.sizeOf52 rfl rfl rfl rfl rfl ?_
   refine X3 (i := 0) (vs := [.int .i64 m, .int .i64 m_2, .int .i64 m_3, .int .i64 m_4, .int .i64 m_5, str m_6, .int .i64 m_7, str m_8]) (cs' := [.int .i64 m, .int .i64 m_2, .int .i64 m_3, .int .i64 m_4, .int .i64 m_5, str m_6, .int .i64 m_7, str m_8]) Tryz.sizeOf52 rfl rfl rfl rfl rfl rfl rfl rfl rfl ?_
   refine Jf ?_
   refine Jm ?_
   obtain rfl := Option.some.inj H18
   refine retC (i := 0) (vs := [.int .i64 m, .int .i64 m_2, .int .i64 m_3, .int .i64 m_4, .int .i64 m_5, str m_6, .int .i64 m_7, str m_8]) Tryz.isAgg52 Tryz.sizeOf52 rfl rfl rfl rfl (Xh rfl)
theorem k33 {a0 : (List T_sync_Fact)} {v0 : Value} {r : T_sync_Fact} {w : World} {h : J3} (hw : Know h w Zh) (f0 : FrS h 8 v0 (a0.map Jj)) (H : Vj a0 = some r) : Does Tryz.prog 33 (List.toArray [v0]) w (fun v w' => v = (.agg #[.int .i64 r.Dot.Device, .int .i64 r.Dot.N, .int .i64 r.Time, .int .i64 r.Kind, .int .i64 r.Id, str r.Name, .int .i64 r.Num, str r.Text]) ∧ Grow w w') := by
 refine enter (n := 9) Tryz.func33 rfl rfl rfl Zh [] (Sat.nil _ _) ?_
 refine Je ?_
 refine Jb ?_
 refine Zo (cs := [.int .i64 0, .int .i64 0, .int .i64 0, .int .i64 0, .int .i64 0, str [], .int .i64 0, str []]) Tryz.zeroValue52 rfl rfl rfl (fun b1 => ?_)
 refine Jf ?_
 refine Je ?_
 refine Je ?_
 refine Jb ?_
 refine Ja rfl rfl rfl (Jd (v := v0) rfl) ?_
 refine Ja rfl rfl rfl (Zl Tryz.underlying65 rfl f0 rfl) ?_
 refine Ja rfl rfl rfl (Zp rfl rfl) ?_
 refine Jf ?_
 refine J5 (b := (decide ((a0.length : Int) = 0))) rfl (fun hb => ?_) (fun hb => ?_)
 ·have H4 := Jn hb H; clear H
  refine Je ?_
  refine Jb ?_
  refine Ja rfl rfl rfl (r_build (pl := #[(0, 2), (2, 1), (3, 1), (4, 1), (5, 1), (6, 1), (7, 1)]) (ps := []) (cells := #[.int .i64 0, .int .i64 0, .int .i64 0, .int .i64 0, .int .i64 0, str [], .int .i64 0, str []]) Tryz.zeroValue52 Tryz.runUnderlying52 (fun w => by kernel_rfl) rfl rfl) ?_
  refine X3 (i := 0) (vs := [.int .i64 0, .int .i64 0, .int .i64 0, .int .i64 0, .int .i64 0, str [], .int .i64 0, str []]) (cs' := [.int .i64 0, .int .i64 0, .int .i64 0, .int .i64 0, .int .i64 0, str [], .int .i64 0, str []]) Tryz.sizeOf52 rfl rfl rfl rfl rfl rfl rfl rfl rfl ?_
  refine Jf ?_
  refine Jm ?_
  obtain rfl := Option.some.inj H4
  refine retC (i := 0) (vs := [.int .i64 0, .int .i64 0, .int .i64 0, .int .i64 0, .int .i64 0, str [], .int .i64 0, str []]) Tryz.isAgg52 Tryz.sizeOf52 rfl rfl rfl rfl (Xh rfl)
 ·have H5 := Jo hb H; clear H
  refine Jr ?_
  refine Je ?_
  refine Jb ?_
  refine Ja rfl rfl rfl (Jd (v := v0) rfl) ?_
  obtain ⟨t8, h_t8, H6⟩ := Jh H5; clear H5
  refine Xq (fun w hF hS => k67 (Jx w) (f0.mono (hw.now hF)) (FnH.mk ⟨68, #[], #[], rfl, Tryz.call68, fun args2 post2 w2 hk2 hR2 => by obtain ⟨a0_, a1_, r_, rfl, H_, rfl⟩ := hR2; exact k68 H_ w2⟩) h_t8) Tryz.call67 rfl rfl rfl ?_
  refine X3 (i := 0) (vs := [.int .i64 t8.Dot.Device, .int .i64 t8.Dot.N, .int .i64 t8.Time, .int .i64 t8.Kind, .int .i64 t8.Id, str t8.Name, .int .i64 t8.Num, str t8.Text]) (cs' := [.int .i64 t8.Dot.Device, .int .i64 t8.Dot.N, .int .i64 t8.Time, .int .i64 t8.Kind, .int .i64 t8.Id, str t8.Name, .int .i64 t8.Num, str t8.Text]) Tryz.sizeOf52 rfl rfl rfl rfl rfl rfl rfl rfl rfl ?_
  refine Jf ?_
  refine Jm ?_
  obtain rfl := Option.some.inj H6
  refine retC (i := 0) (vs := [.int .i64 t8.Dot.Device, .int .i64 t8.Dot.N, .int .i64 t8.Time, .int .i64 t8.Kind, .int .i64 t8.Id, str t8.Name, .int .i64 t8.Num, str t8.Text]) Tryz.isAgg52 Tryz.sizeOf52 rfl rfl rfl rfl (Xh rfl)
theorem k35 {a : Option Addr} {n c : Nat} (hc : n ≤ c) : Ret Tryz.prog 35 [.slice a n c] (.slice (Y4 a 0 n 1) n n) := by
  refine Qc (n := 9) Tryz.func35 rfl rfl rfl (fun wd => ?_)
  refine Je ?_
  refine Jb ?_
  refine Ja rfl rfl rfl (Jc (v := .slice none 0 0) rfl) ?_
  refine Jf ?_
  refine Je ?_
  refine Jb ?_
  refine Ja rfl rfl rfl (Jd (v := .slice a n c) rfl) ?_
  refine Ja rfl rfl rfl (Jd (v := .slice a n c) rfl) ?_
  refine Ja rfl rfl rfl (Uj Tryz.underlying38 rfl) ?_
  refine Ja rfl rfl rfl (Jd (v := .slice a n c) rfl) ?_
  refine Ja rfl rfl rfl (Uj Tryz.underlying38 rfl) ?_
  refine Ja rfl rfl rfl (r_sliceHM (a := a) (m := n) (c := c) (h := (n : Int)) (q := (n : Int)) Tryz.underlying38 Tryz.sizeOf9 rfl rfl rfl (Int.natCast_nonneg n) (Int.le_refl _) (Int.ofNat_le.2 hc)) ?_
  refine Ja rfl rfl rfl (Jc (v := .slice (Y4 a 0 n 1) n n) rfl) ?_
  refine Jf ?_
  refine Jm ?_
  exact Jy (v := .slice (Y4 a 0 n 1) n n) rfl rfl (Xh rfl)
theorem k36 {a0 : List (List UInt8)} {p0 : Option Addr × Nat} {n0 : Nat} {r : List (List UInt8)} {w : World} {h : J3} {S : Nat → Prop} (hcs : (Qq 9 1 (.slice p0.1 n0 p0.2) n0 (a0.map U7)).P S w) (hlt : ∀ b, S b → b < w.heap.size) (_ : Know h w S) (hn0 : n0 = a0.length) (H : gCmpS a0 = some r) : Does Tryz.prog 36 (List.toArray [.slice p0.1 n0 p0.2]) w (fun v w' => ∃ x : (Option Addr × Nat), v = (.slice x.1 r.length x.2) ∧ Turn w w' S (Qq 9 1 (.slice x.1 r.length x.2) r.length (r.map U7))) :=
  compact_strs (ρ := Go.Proofs.Tryz.lays194_ren) Go.Proofs.Tryz.lays194 hcs hlt hn0 H
theorem k37 {a : Option Addr} {n c : Nat} (hc : n ≤ c) : Ret Tryz.prog 37 [.slice a n c] (.slice (Y4 a 0 n 6) n n) := by
  refine Qc (n := 9) Tryz.func37 rfl rfl rfl (fun wd => ?_)
  refine Je ?_
  refine Jb ?_
  refine Ja rfl rfl rfl (Jc (v := .slice none 0 0) rfl) ?_
  refine Jf ?_
  refine Je ?_
  refine Jb ?_
  refine Ja rfl rfl rfl (Jd (v := .slice a n c) rfl) ?_
  refine Ja rfl rfl rfl (Jd (v := .slice a n c) rfl) ?_
  refine Ja rfl rfl rfl (Uj Tryz.underlying36 rfl) ?_
  refine Ja rfl rfl rfl (Jd (v := .slice a n c) rfl) ?_
  refine Ja rfl rfl rfl (Uj Tryz.underlying36 rfl) ?_
  refine Ja rfl rfl rfl (r_sliceHM (a := a) (m := n) (c := c) (h := (n : Int)) (q := (n : Int)) Tryz.underlying36 Tryz.sizeOf40 rfl rfl rfl (Int.natCast_nonneg n) (Int.le_refl _) (Int.ofNat_le.2 hc)) ?_
  refine Ja rfl rfl rfl (Jc (v := .slice (Y4 a 0 n 6) n n) rfl) ?_
  refine Jf ?_
  refine Jm ?_
  exact Jy (v := .slice (Y4 a 0 n 6) n n) rfl rfl (Xh rfl)
theorem k11 {a0 : T_sync_Replica} {v0_2 : Value} {pb0 : Nat} {r : (List T_sync_Shown)} {w : World} {h : J3} (hw : Know h w Zh) (f0_2 : FrS h 8 v0_2 (a0.facts_.map Jj)) (hb0 : h pb0 = some (.cells (List.toArray [.int .i64 a0.device_, .int .i64 (a0.knows_ 0), .int .i64 (a0.knows_ 1), .int .i64 (a0.knows_ 2), .int .i64 (a0.knows_ 3), .int .i64 (a0.knows_ 4), .int .i64 (a0.knows_ 5), .int .i64 (a0.knows_ 6), .int .i64 (a0.knows_ 7), .int .i64 (a0.knows_ 8), .int .i64 (a0.knows_ 9), .int .i64 (a0.knows_ 10), .int .i64 (a0.knows_ 11), .int .i64 (a0.knows_ 12), .int .i64 (a0.knows_ 13), .int .i64 (a0.knows_ 14), .int .i64 (a0.knows_ 15), v0_2]) 67 (0, 0))) (H : X1 a0 = some r) : Does Tryz.prog 11 (List.toArray [.pointer (some ⟨pb0, 0, none⟩)]) w (fun v w' => ∃ x : (Option Addr × Nat), v = (.slice x.1 r.length x.2) ∧ Turn w w' Zh (roD 6 g_sync_Shown (.slice x.1 r.length x.2) r.length r)) := by
 refine enter (n := 67) Tryz.func11 rfl rfl rfl Zh [] (Sat.nil _ _) ?_
 refine c_poolNew noH ?_
 refine Je ?_
 refine Jb ?_
 refine Ja rfl rfl rfl (Jc (v := .slice none 0 0) rfl) ?_
 refine Jf ?_
 refine Je ?_
 refine Jb ?_
 refine Ja rfl rfl rfl (Jc (v := .slice none 0 0) rfl) ?_
 refine Jf ?_
 refine Xi (r := r) (σ := (List T_sync_Shown)) (τ := J3 × (List (List Value)) × (Option Addr × Nat)) (fun s => Ud s) (fun s t => [(3, .slice t.2.2.1 t.2.1.length t.2.2.2)]) (fun s t => [Wo noH t.1, Qq 40 6 (.slice t.2.2.1 t.2.1.length t.2.2.2) t.2.1.length (t.2.1.map idC)]) (fun s t => AllC g_sync_Shown t.1 6 t.2.1 s) ?_ ?_
 ·refine Je ?_
  refine Jb ?_
  refine Ja rfl rfl rfl (Jd (v := .pointer (some ⟨pb0, 0, none⟩)) rfl) ?_
  obtain ⟨t10, h_t10, H54⟩ := Jh H; clear H
  refine Zf (Q3 (rds := []) (G := fun x : (Option Addr × Nat) => .slice x.1 t10.length x.2) (C := fun x : (Option Addr × Nat) => Qq 3 1 (.slice x.1 t10.length x.2) t10.length (t10.map J4)) (fun w L' hF hS hi => k32 (Jx w) (f0_2.mono (hw.now hF)) (hw.now hF _ _ hb0) h_t10) Tryz.call32 rfl) rfl rfl rfl (fun p_2 => ?_)
  refine Ja rfl rfl rfl (Uj Tryz.underlying24 rfl) ?_
  refine Ja rfl rfl rfl (Jd (v := .int .i64 0) rfl) ?_
  refine Jf ?_
  refine Ju ?_
  refine Wp 40 6 ?_
  refine Yv (σ := Int × Int × (List T_sync_Shown)) (τ := J3 × (List (List Value)) × (Option Addr × Nat)) (fun next2 s => Yc a0 t10 next2 s.1 s.2.1 s.2.2) (fun s t => [(0, .pointer (some ⟨pb0, 0, none⟩)), (3, .slice t.2.2.1 t.2.1.length t.2.2.2), (10, .slice p_2.1 t10.length p_2.2), (11, .int .i64 s.1), (12, .int .i64 s.2.1)]) (fun s t => [Wo noH t.1, Qq 3 1 (.slice p_2.1 t10.length p_2.2) t10.length (t10.map J4), Qq 40 6 (.slice t.2.2.1 t.2.1.length t.2.2.2) t.2.1.length (t.2.1.map idC)]) (fun s t => AllC g_sync_Shown t.1 6 t.2.1 s.2.2) ((t10.length : Int), 0, ([] : List T_sync_Shown)) (noH, ([] : List (List Value)), ((none, 0) : Option Addr × Nat)) [0, 1, 2] H54 (by exact (AllC.nil (G := g_sync_Shown) (h := noH) (sz := 6))) (by exact ⟨rfl, rfl, rfl, rfl, rfl, trivial⟩) (by decide) rfl ?_
  rintro ⟨x11_2, x12_2, l_3⟩ ⟨hp_2, css_2, p_3⟩ m2 gg H55 pf_3
  clear H54
  replace H55 : Yc a0 t10 (it (fun next2 s => Yc a0 t10 next2 s.1 s.2.1 s.2.2) m2) x11_2 x12_2 l_3 = some r := H55
  generalize hn2 : it (fun next2 s => Yc a0 t10 next2 s.1 s.2.1 s.2.2) m2 = next2 at H55
  try dsimp only
  refine Je ?_
  refine Jb ?_
  refine Ja rfl rfl rfl (Q1 rfl rfl) ?_
  refine Jf ?_
  try dsimp only [z1, z2, z5, z6, z7, z8]
  refine Je ?_
  refine J5 (b := (decide (x12_2 < x11_2))) rfl (fun hb => ?_) (fun hb => ?_)
  ·have H56 := Jn hb H55; clear H55
   refine Jr ?_
   refine Xi (r := r) (σ := Int × Int × (List T_sync_Shown)) (τ := J3 × (List (List Value)) × (Option Addr × Nat)) (fun s => Vw next2 s.1 s.2.1 s.2.2) (fun s t => [(0, .pointer (some ⟨pb0, 0, none⟩)), (3, .slice t.2.2.1 t.2.1.length t.2.2.2), (10, .slice p_2.1 t10.length p_2.2), (11, .int .i64 s.1), (12, .int .i64 s.2.1)]) (fun s t => [Wo noH t.1, Qq 3 1 (.slice p_2.1 t10.length p_2.2) t10.length (t10.map J4), Qq 40 6 (.slice t.2.2.1 t.2.1.length t.2.2.2) t.2.1.length (t.2.1.map idC)]) (fun s t => AllC g_sync_Shown t.1 6 t.2.1 s.2.2) ?_ ?_
   ·refine Ju ?_
    refine Je ?_
    refine Jb ?_
    obtain ⟨t14, h_t14, H59⟩ := Jh H56; clear H56
    refine Qa (fun w hF hS => Vr Tryz.underlying24 Tryz.sizeOf3 rfl rfl (rowOf (i := 1) hS rfl) rfl h_t14) rfl rfl rfl ?_
    refine Qa (fun w hF hS => Qj (f := J4) (i := x12_2) (sz := 1) (j := 0) (v := .int .i64 t14) Tryz.isAgg3 rfl rfl (rowOf (i := 1) hS rfl) h_t14 rfl) rfl rfl rfl ?_
    refine Ja rfl rfl rfl (Jc (v := .int .i64 t14) rfl) ?_
    refine Jf ?_
    try dsimp only [z1, z2, z5, z6, z7, z8]
    refine Je ?_
    refine Jb ?_
    refine Ja rfl rfl rfl (Jd (v := .int .i64 t14) rfl) ?_
    refine Ja rfl rfl rfl (Jd (v := .pointer (some ⟨pb0, 0, none⟩)) rfl) ?_
    refine Ja rfl rfl rfl (Jd (v := .int .i64 t14) rfl) ?_
    obtain ⟨t19, h_t19, H60⟩ := Jh H59; clear H59
    refine Zf (Q3 (rds := []) (G := fun x : (Option Addr × Nat) => .slice x.1 t19.length x.2) (C := fun x : (Option Addr × Nat) => Qq 52 8 (.slice x.1 t19.length x.2) t19.length (t19.map Jj)) (fun w L' hF hS hi => k34 (Jx w) (f0_2.mono (hw.now hF)) (hw.now hF _ _ hb0) h_t19) Tryz.call34 rfl) rfl rfl rfl (fun p_5 => ?_)
    obtain ⟨t20, h_t20, H61⟩ := Jh H60; clear H60
    refine Xq (fun w hF hS => k33 (Jx w) (frs_own (i := 3) rfl hS rfl) h_t20) Tryz.call33 rfl rfl rfl ?_
    refine Ja rfl rfl rfl (r_fieldV (v := str t20.Text) Tryz.runUnderlying52 Tryz.isAgg9 rfl rfl rfl) ?_
    refine Ja rfl rfl rfl (Jd (v := .pointer (some ⟨pb0, 0, none⟩)) rfl) ?_
    refine Ja rfl rfl rfl (Jd (v := .int .i64 t14) rfl) ?_
    obtain ⟨t24, h_t24, H62⟩ := Jh H61; clear H61
    refine Zf (Q3 (rds := []) (G := fun x : (Option Addr × Nat) => .slice x.1 t24.length x.2) (C := fun x : (Option Addr × Nat) => Qq 52 8 (.slice x.1 t24.length x.2) t24.length (t24.map Jj)) (fun w L' hF hS hi => k34 (Jx w) (f0_2.mono (hw.now hF)) (hw.now hF _ _ hb0) h_t24) Tryz.call34 rfl) rfl rfl rfl (fun p_6 => ?_)
    obtain ⟨t25, h_t25, H63⟩ := Jh H62; clear H62
    refine Xq (fun w hF hS => k33 (Jx w) (frs_own (i := 4) rfl hS rfl) h_t25) Tryz.call33 rfl rfl rfl ?_
    refine Ja rfl rfl rfl (r_fieldV (v := .int .i64 t25.Num) Tryz.runUnderlying52 Tryz.isAgg3 rfl rfl rfl) ?_
    refine Ja rfl rfl rfl (Jd (v := .pointer (some ⟨pb0, 0, none⟩)) rfl) ?_
    refine Ja rfl rfl rfl (Jd (v := .int .i64 t14) rfl) ?_
    obtain ⟨t29, h_t29, H64⟩ := Jh H63; clear H63
    refine Zf (Q3 (rds := []) (G := fun x : (Option Addr × Nat) => .slice x.1 t29.length x.2) (C := fun x : (Option Addr × Nat) => Qq 52 8 (.slice x.1 t29.length x.2) t29.length (t29.map Jj)) (fun w L' hF hS hi => k34 (Jx w) (f0_2.mono (hw.now hF)) (hw.now hF _ _ hb0) h_t29) Tryz.call34 rfl) rfl rfl rfl (fun p_7 => ?_)
    obtain ⟨t30, h_t30, H65⟩ := Jh H64; clear H64
    refine Xq (fun w hF hS => k33 (Jx w) (frs_own (i := 5) rfl hS rfl) h_t30) Tryz.call33 rfl rfl rfl ?_
    refine Ja rfl rfl rfl (r_fieldV (v := str t30.Text) Tryz.runUnderlying52 Tryz.isAgg9 rfl rfl rfl) ?_
    refine Ja rfl rfl rfl (Jd (v := .pointer (some ⟨pb0, 0, none⟩)) rfl) ?_
    refine Ja rfl rfl rfl (Jd (v := .int .i64 t14) rfl) ?_
    obtain ⟨t34, h_t34, H66⟩ := Jh H65; clear H65
    refine Zf (Q3 (rds := []) (G := fun x : (Option Addr × Nat) => .slice x.1 t34.length x.2) (C := fun x : (Option Addr × Nat) => Qq 52 8 (.slice x.1 t34.length x.2) t34.length (t34.map Jj)) (fun w L' hF hS hi => k34 (Jx w) (f0_2.mono (hw.now hF)) (hw.now hF _ _ hb0) h_t34) Tryz.call34 rfl) rfl rfl rfl (fun p_8 => ?_)
    obtain ⟨t35, h_t35, H67⟩ := Jh H66; clear H66
    refine Xq (fun w hF hS => k33 (Jx w) (frs_own (i := 6) rfl hS rfl) h_t35) Tryz.call33 rfl rfl rfl ?_
    refine Ja rfl rfl rfl (r_fieldV (v := .int .i64 t35.Num) Tryz.runUnderlying52 Tryz.isAgg3 rfl rfl rfl) ?_
    refine Ja rfl rfl rfl (Zp rfl rfl) ?_
    refine Ja rfl rfl rfl (r_build (pl := #[(0, 1), (1, 1), (2, 1), (3, 1), (4, 1), (5, 1)]) (ps := [(0, .int .i64 t14), (1, str t20.Text), (2, .int .i64 t25.Num), (3, str t30.Text), (4, .bool (decide (t35.Num = 1)))]) (cells := #[.int .i64 t14, str t20.Text, .int .i64 t25.Num, str t30.Text, .bool (decide (t35.Num = 1)), .slice none 0 0]) Tryz.zeroValue40 Tryz.runUnderlying40 (fun w => by kernel_rfl) rfl rfl) ?_
    refine Zo (cs := [.int .i64 0, str [], .int .i64 0, str [], .bool false, .slice none 0 0]) Tryz.zeroValue40 rfl rfl rfl (fun b8 => ?_)
    refine X3 (i := 7) (vs := [.int .i64 t14, str t20.Text, .int .i64 t25.Num, str t30.Text, .bool (decide (t35.Num = 1)), .slice none 0 0]) (cs' := [.int .i64 t14, str t20.Text, .int .i64 t25.Num, str t30.Text, .bool (decide (t35.Num = 1)), .slice none 0 0]) Tryz.sizeOf40 rfl rfl rfl rfl rfl rfl rfl rfl rfl ?_
    refine Jf ?_
    try dsimp only [z1, z2, z5, z6, z7, z8]
    refine Xi (r := r) (σ := (List (List UInt8))) (τ := (Option Addr × Nat)) (fun s => Zq x11_2 x12_2 l_3 next2 t14 t20 t25 t30 t35 s) (fun s t => [(0, .pointer (some ⟨pb0, 0, none⟩)), (3, .slice p_3.1 css_2.length p_3.2), (6, .pointer (some ⟨b8, 0, none⟩)), (10, .slice p_2.1 t10.length p_2.2), (11, .int .i64 x11_2), (12, .int .i64 x12_2)]) (fun s t => [Wo noH hp_2, Qq 3 1 (.slice p_2.1 t10.length p_2.2) t10.length (t10.map J4), Qq 40 6 (.slice p_3.1 css_2.length p_3.2) css_2.length (css_2.map idC), Jp b8 [.int .i64 t14, str t20.Text, .int .i64 t25.Num, str t30.Text, .bool (decide (t35.Num = 1)), .slice t.1 s.length t.2] 40, Qq 9 1 (.slice t.1 s.length t.2) s.length (s.map U7)]) (fun s t => True) ?_ ?_
    ·refine Je ?_
     refine Jb ?_
     refine Ja rfl rfl rfl (Jd (v := .pointer (some ⟨pb0, 0, none⟩)) rfl) ?_
     refine Ja rfl rfl rfl (Jd (v := .int .i64 t14) rfl) ?_
     obtain ⟨t41, h_t41, H71⟩ := Jh H67; clear H67
     refine Zf (Q3 (rds := []) (G := fun x : (Option Addr × Nat) => .slice x.1 t41.length x.2) (C := fun x : (Option Addr × Nat) => Qq 52 8 (.slice x.1 t41.length x.2) t41.length (t41.map Jj)) (fun w L' hF hS hi => k34 (Jx w) (f0_2.mono (hw.now hF)) (hw.now hF _ _ hb0) h_t41) Tryz.call34 rfl) rfl rfl rfl (fun p_12 => ?_)
     refine Ja rfl rfl rfl (Uj Tryz.underlying65 rfl) ?_
     refine Ja rfl rfl rfl (Jd (v := .int .i64 0) rfl) ?_
     refine Jf ?_
     try dsimp only [z1, z2, z5, z6, z7, z8]
     refine Ju ?_
     refine c_dr 6 <| c_dr 5 <| c_dr 4 <| c_dr 3 ?_
     try dsimp only [z1, z2, z3, z4, z5, z6, z7, z8]
     refine Wp 9 1 ?_
     refine Yv (σ := Int × (List (List UInt8))) (τ := (Option Addr × Nat)) (fun next5 s => Xs x11_2 x12_2 l_3 next2 t14 t20 t25 t30 t35 t41 next5 s.1 s.2) (fun s t => [(0, .pointer (some ⟨pb0, 0, none⟩)), (3, .slice p_3.1 css_2.length p_3.2), (6, .pointer (some ⟨b8, 0, none⟩)), (10, .slice p_2.1 t10.length p_2.2), (11, .int .i64 x11_2), (12, .int .i64 x12_2), (41, .slice p_12.1 t41.length p_12.2), (42, .int .i64 (t41.length : Int)), (43, .int .i64 s.1)]) (fun s t => [Wo noH hp_2, Qq 3 1 (.slice p_2.1 t10.length p_2.2) t10.length (t10.map J4), Qq 40 6 (.slice p_3.1 css_2.length p_3.2) css_2.length (css_2.map idC), Jp b8 [.int .i64 t14, str t20.Text, .int .i64 t25.Num, str t30.Text, .bool (decide (t35.Num = 1)), .slice t.1 s.2.length t.2] 40, Qq 52 8 (.slice p_12.1 t41.length p_12.2) t41.length (t41.map Jj), Qq 9 1 (.slice t.1 s.2.length t.2) s.2.length (s.2.map U7)]) (fun s t => True) (0, ([] : List (List UInt8))) ((none, 0) : Option Addr × Nat) [0, 1, 2, 3, 4, 5] H71 (by exact trivial) (by exact ⟨rfl, rfl, rfl, rfl, rfl, rfl, rfl, rfl, rfl, trivial⟩) (by decide) rfl ?_
     rintro ⟨x43_2, l_7⟩ p_13 m5 gg H72 _
     clear H71
     replace H72 : Xs x11_2 x12_2 l_3 next2 t14 t20 t25 t30 t35 t41 (it (fun next5 s => Xs x11_2 x12_2 l_3 next2 t14 t20 t25 t30 t35 t41 next5 s.1 s.2) m5) x43_2 l_7 = some r := H72
     generalize hn5 : it (fun next5 s => Xs x11_2 x12_2 l_3 next2 t14 t20 t25 t30 t35 t41 next5 s.1 s.2) m5 = next5 at H72
     try dsimp only
     refine Je ?_
     refine Jb ?_
     refine Ja rfl rfl rfl (Q1 rfl rfl) ?_
     refine Jf ?_
     try dsimp only [z1, z2, z5, z6, z7, z8]
     refine Je ?_
     refine J5 (b := (decide (x43_2 < (t41.length : Int)))) rfl (fun hb => ?_) (fun hb => ?_)
     ·have H73 := Jn hb H72; clear H72
      refine Jr ?_
      refine Je ?_
      refine Ju ?_
      refine Je ?_
      refine Jb ?_
      obtain ⟨t45, h_t45, H74⟩ := Jh H73; clear H73
      refine Qa (fun w hF hS => Vr Tryz.underlying65 Tryz.sizeOf52 rfl rfl (rowOf (i := 4) hS rfl) rfl h_t45) rfl rfl rfl ?_
      refine Qa (fun w hF hS => Xw (f := Jj) (i := x43_2) (sz := 8) (j := 0) (vs := [.int .i64 t45.Dot.Device, .int .i64 t45.Dot.N, .int .i64 t45.Time, .int .i64 t45.Kind, .int .i64 t45.Id, str t45.Name, .int .i64 t45.Num, str t45.Text]) Tryz.isAgg52 Tryz.sizeOf52 rfl rfl (rowOf (i := 4) hS rfl) h_t45 rfl) rfl rfl rfl ?_
      refine Zo (cs := [.int .i64 0, .int .i64 0, .int .i64 0, .int .i64 0, .int .i64 0, str [], .int .i64 0, str []]) Tryz.zeroValue52 rfl rfl rfl (fun b10 => ?_)
      refine X3 (i := 6) (vs := [.int .i64 t45.Dot.Device, .int .i64 t45.Dot.N, .int .i64 t45.Time, .int .i64 t45.Kind, .int .i64 t45.Id, str t45.Name, .int .i64 t45.Num, str t45.Text]) (cs' := [.int .i64 t45.Dot.Device, .int .i64 t45.Dot.N, .int .i64 t45.Time, .int .i64 t45.Kind, .int .i64 t45.Id, str t45.Name, .int .i64 t45.Num, str t45.Text]) Tryz.sizeOf52 rfl rfl rfl rfl rfl rfl rfl rfl rfl ?_
      refine Jf ?_
      try dsimp only [z1, z2, z5, z6, z7, z8]
      refine Jb ?_
      refine Ja rfl rfl rfl (Jq Tryz.runUnderlying40 rfl Tryz.sizeOf38 rfl rfl) ?_
      refine J0 (i := 3) (v := .slice p_13.1 l_7.length p_13.2) Tryz.isAgg38 rfl rfl rfl rfl rfl ?_
      refine Ja rfl rfl rfl (Jq Tryz.runUnderlying52 rfl Tryz.sizeOf9 rfl rfl) ?_
      refine J0 (i := 6) (v := str t45.Name) Tryz.isAgg9 rfl rfl rfl rfl rfl ?_
      refine Xc (vs := [str t45.Name]) (cs := [str t45.Name]) Tryz.underlying38 Tryz.sizeOf9 Tryz.zeroValue9 rfl rfl rfl rfl rfl rfl rfl (fun b11 => ?_)
      obtain ⟨l52, h_l52, H75⟩ := Jh H74; clear H74
      refine Yl (We (i := 5) (hn := rfl) (rds := [7]) (p := p_13) (sz := 1) (by_ := 16) (f := U7) (ys := l_7) (ls := ([t45.Name] : List (List UInt8))) (V := .slice (some ⟨b11, 0, none⟩) 1 1) Tryz.underlying38 (W2 Tryz.typeInfo9) rfl rfl rfl rfl rfl rfl rfl rfl rfl rfl (fun w L' hF hS hi => Jac (i := 7) hS ((hi 7 (by simp)).trans rfl) rfl rfl) (fun _ => rfl) (fun _ => rfl) h_l52) rfl rfl rfl (fun p_14 => ?_)
      refine Ja rfl rfl rfl (Jq Tryz.runUnderlying40 rfl Tryz.sizeOf38 rfl rfl) ?_
      refine X3 (i := 3) (vs := [.slice p_14.1 l52.length p_14.2]) (cs' := [.int .i64 t14, str t20.Text, .int .i64 t25.Num, str t30.Text, .bool (decide (t35.Num = 1)), .slice p_14.1 l52.length p_14.2]) Tryz.sizeOf38 rfl rfl rfl rfl rfl rfl rfl rfl rfl ?_
      refine Jf ?_
      try dsimp only [z1, z2, z5, z6, z7, z8]
      refine Jb ?_
      obtain ⟨t54, h_t54, H76⟩ := Jh H75; clear H75
      refine Ja rfl rfl rfl (Q2 rfl rfl h_t54) ?_
      refine Ja rfl rfl rfl (Jd (v := .int .i64 t54) rfl) ?_
      refine Jf ?_
      try dsimp only [z1, z2, z5, z6, z7, z8]
      refine Jl (t54, l52) p_14 m5 [0, 1, 2, 3, 4, 5] (by exact ⟨rfl, rfl, rfl, rfl, rfl, rfl, rfl, rfl, rfl, trivial⟩) (by decide) rfl (by exact ⟨(by subst hn5; exact H76), trivial⟩) (Nat.lt_succ_self _)
     ·have H77 := Jo hb H72; clear H72
      refine Qr ?_
      refine Jl l_7 p_13 0 [0, 1, 2, 3, 5] (by exact ⟨rfl, rfl, rfl, rfl, rfl, rfl, trivial⟩) (by decide) rfl (by exact ⟨H77, trivial⟩) (Nat.lt_succ_self _)
    ·rintro l_5 p_9 gg H68 _
     replace H68 : Zq x11_2 x12_2 l_3 next2 t14 t20 t25 t30 t35 l_5 = some r := H68
     try dsimp only
     refine Je ?_
     refine Jb ?_
     refine Ja rfl rfl rfl (Jq Tryz.runUnderlying40 rfl Tryz.sizeOf38 rfl rfl) ?_
     refine J0 (i := 3) (v := .slice p_9.1 l_5.length p_9.2) Tryz.isAgg38 rfl rfl rfl rfl rfl ?_
     obtain ⟨t57, h_t57, H69⟩ := Jh H68; clear H68
     refine Yl (Q7 (i := 4) (rds := []) (G := fun x : (Option Addr × Nat) => .slice x.1 t57.length x.2) (C := fun x : (Option Addr × Nat) => Qq 9 1 (.slice x.1 t57.length x.2) t57.length (t57.map U7)) rfl (fun w L' S hF hS hi hp hlt ho hA => k36 hp hlt (Y0 w S) rfl h_t57) Tryz.call36 rfl) rfl rfl rfl (fun p_10 => ?_)
     refine Xq (fun w hF hS => k35 (capOf (i := 4) hS rfl) w) Tryz.call35 rfl rfl rfl ?_
     refine Ja rfl rfl rfl (Jq Tryz.runUnderlying40 rfl Tryz.sizeOf38 rfl rfl) ?_
     refine X3 (i := 3) (vs := [.slice (Y4 p_10.1 0 t57.length 1) t57.length t57.length]) (cs' := [.int .i64 t14, str t20.Text, .int .i64 t25.Num, str t30.Text, .bool (decide (t35.Num = 1)), .slice (Y4 p_10.1 0 t57.length 1) t57.length t57.length]) Tryz.sizeOf38 rfl rfl rfl rfl rfl rfl rfl rfl rfl ?_
     refine Jf ?_
     try dsimp only [z1, z2, z5, z6, z7, z8]
     refine Jb ?_
     refine Ja rfl rfl rfl (Jd (v := .slice p_3.1 css_2.length p_3.2) rfl) ?_
     refine Y2 (i := 3) (vs := [.int .i64 t14, str t20.Text, .int .i64 t25.Num, str t30.Text, .bool (decide (t35.Num = 1)), .slice (Y4 p_10.1 0 t57.length 1) t57.length t57.length]) Tryz.isAgg40 Tryz.sizeOf40 rfl rfl rfl rfl rfl ?_
     refine Xc (vs := [.agg #[.int .i64 t14, str t20.Text, .int .i64 t25.Num, str t30.Text, .bool (decide (t35.Num = 1)), .slice (Y4 p_10.1 0 t57.length 1) t57.length t57.length]]) (cs := [.int .i64 t14, str t20.Text, .int .i64 t25.Num, str t30.Text, .bool (decide (t35.Num = 1)), .slice (Y4 p_10.1 0 t57.length 1) t57.length t57.length]) Tryz.underlying36 Tryz.sizeOf40 Tryz.zeroValue40 rfl rfl rfl rfl rfl rfl rfl (fun b9 => ?_)
     refine c_imp 4 rfl (imp_clipO _ _ _ _ _ _) ?_
     refine c_freeze (Φ := fun H_ => FrS H_ 1 (.slice (Y4 p_10.1 0 t57.length 1) t57.length t57.length) (t57.map U7)) 0 4 rfl rfl (by decide) (fun _ _ => noH_le) (fz_ro _) (fun hp_4 hle hf => ?_)
     obtain ⟨l63, h_l63, H70⟩ := Jh H69; clear H69
     refine Yl (turns_appendM (i := 2) (k := 5) (p := p_3) (f := idC) (ys := css_2) (ls := [[.int .i64 t14, str t20.Text, .int .i64 t25.Num, str t30.Text, .bool (decide (t35.Num = 1)), .slice (Y4 p_10.1 0 t57.length 1) t57.length t57.length]]) Tryz.underlying36 (W2 Tryz.typeInfo40) rfl rfl rfl rfl rfl rfl rfl rfl rfl rfl rfl rfl rfl rfl (by simp only [idC, List.map_cons, List.map_nil, List.all_cons, List.all_nil, hf.one] <;> rfl) (app63 ((pf_3.mono hle).app h_l63 (nc := [[.int .i64 t14, str t20.Text, .int .i64 t25.Num, str t30.Text, .bool (decide (t35.Num = 1)), .slice (Y4 p_10.1 0 t57.length 1) t57.length t57.length]]) rfl)) rfl) rfl rfl rfl (fun p_11 => ?_)
     have pf_5 : AllC g_sync_Shown hp_4 6 (css_2 ++ [[.int .i64 t14, str t20.Text, .int .i64 t25.Num, str t30.Text, .bool (decide (t35.Num = 1)), .slice (Y4 p_10.1 0 t57.length 1) t57.length t57.length]]) l63 := AllC.snocG (pf_3.mono hle) h_l63 rfl (⟨rfl, rfl, rfl, rfl, rfl, hf⟩)
     refine Ja rfl rfl rfl (Jc (v := .slice p_11.1 ((css_2 ++ [[.int .i64 t14, str t20.Text, .int .i64 t25.Num, str t30.Text, .bool (decide (t35.Num = 1)), .slice (Y4 p_10.1 0 t57.length 1) t57.length t57.length]]).length) p_11.2) rfl) ?_
     refine Jf ?_
     try dsimp only [z1, z2, z5, z6, z7, z8]
     refine Jl (x11_2, x12_2, l63) (hp_4, (css_2 ++ [[.int .i64 t14, str t20.Text, .int .i64 t25.Num, str t30.Text, .bool (decide (t35.Num = 1)), .slice (Y4 p_10.1 0 t57.length 1) t57.length t57.length]]), p_11) 0 [0, 1, 2] (by exact ⟨rfl, rfl, rfl, rfl, rfl, trivial⟩) (by decide) rfl (by exact ⟨H70, pf_5⟩) (Nat.lt_succ_self _)
   ·rintro ⟨x11_3, x12_3, l_4⟩ ⟨hp_3, css_3, p_4⟩ gg H57 pf_4
    replace H57 : Vw next2 x11_3 x12_3 l_4 = some r := H57
    try dsimp only
    refine Jb ?_
    obtain ⟨t64, h_t64, H58⟩ := Jh H57; clear H57
    refine Ja rfl rfl rfl (Q2 rfl rfl h_t64) ?_
    refine Ja rfl rfl rfl (Jd (v := .int .i64 t64) rfl) ?_
    refine Jf ?_
    try dsimp only [z1, z2, z5, z6, z7, z8]
    refine Jl (x11_3, t64, l_4) (hp_3, css_3, p_4) m2 [0, 1, 2] (by exact ⟨rfl, rfl, rfl, rfl, rfl, trivial⟩) (by decide) rfl (by exact ⟨(by subst hn2; exact H58), pf_4⟩) (Nat.lt_succ_self _)
  ·have H78 := Jo hb H55; clear H55
   refine Qr ?_
   refine Jl l_3 (hp_2, css_2, p_3) 0 [0, 2] (by exact ⟨rfl, trivial⟩) (by decide) rfl (by exact ⟨H78, pf_3⟩) (Nat.lt_succ_self _)
 ·rintro l ⟨hp, css, p⟩ gg H53 pf
  replace H53 : Ud l = some r := H53
  try dsimp only
  refine Je ?_
  refine Jb ?_
  refine Ja rfl rfl rfl (Jd (v := .slice p.1 css.length p.2) rfl) ?_
  refine Xq (fun w hF hS => k37 (capOf (i := 1) hS rfl) w) Tryz.call37 rfl rfl rfl ?_
  refine Ja rfl rfl rfl (Jc (v := .slice (Y4 p.1 0 css.length 6) css.length css.length) rfl) ?_
  refine Jf ?_
  refine Jm ?_
  obtain rfl := Option.some.inj H53
  refine c_imp 1 rfl (imp_clipO _ _ _ _ _ _) ?_
  refine Z6 0 1 rfl rfl (by decide) ?_
  refine c_imp 0 rfl (imp_roD (p := (Y4 p.1 0 css.length 6, css.length)) rfl pf) ?_
  refine Jy (v := .slice (Y4 p.1 0 css.length 6) css.length css.length) rfl rfl (W6 (Y4 p.1 0 css.length 6, css.length) (i := 0) rfl (by first | rfl | rw [(show css.length = l.length from pf.len)]) (by first | exact Imp.refl _ | exact Imp.of (by rw [(show css.length = l.length from pf.len)])))
theorem k70 {a0 : (List Int)} {v0 : Value} {a1 : Int} {r : Int} {w : World} {h : J3} (hw : Know h w Zh) (f0 : FrS h 1 v0 (a0.map J4)) (H : Jau a0 a1 = some r) : Does Tryz.prog 70 (List.toArray [v0, .int .i64 a1]) w (fun v w' => v = (.int .i64 r) ∧ Grow w w') := by
 refine enter (n := 19) Tryz.func70 rfl rfl rfl Zh [] (Sat.nil _ _) ?_
 refine Je ?_
 refine Jb ?_
 refine Ja rfl rfl rfl (Jc (v := .int .i64 0) rfl) ?_
 refine Jf ?_
 refine Je ?_
 refine Je ?_
 refine Jb ?_
 refine Ja rfl rfl rfl (Jd (v := v0) rfl) ?_
 refine Ja rfl rfl rfl (Zl Tryz.underlying24 rfl f0 rfl) ?_
 refine Ja rfl rfl rfl (Jd (v := .int .i64 0) rfl) ?_
 refine Jf ?_
 refine Ju ?_
 refine Yv (σ := Int) (τ := Unit) (fun next1 s => Vd a0 a1 next1 s) (fun s t => [(0, v0), (1, .int .i64 a1), (7, .int .i64 (a0.length : Int)), (8, .int .i64 s)]) (fun s t => []) (fun s t => True) 0 () [] H (by exact trivial) (by exact ⟨rfl, rfl, rfl, rfl, trivial⟩) (by decide) rfl ?_
 rintro x8_2 _ m1 gg H8 _
 clear H
 replace H8 : Vd a0 a1 (it (fun next1 s => Vd a0 a1 next1 s) m1) x8_2 = some r := H8
 generalize hn1 : it (fun next1 s => Vd a0 a1 next1 s) m1 = next1 at H8
 try dsimp only
 refine Je ?_
 refine Jb ?_
 refine Ja rfl rfl rfl (Q1 rfl rfl) ?_
 refine Jf ?_
 refine Je ?_
 refine J5 (b := (decide (x8_2 < (a0.length : Int)))) rfl (fun hb => ?_) (fun hb => ?_)
 ·have H9 := Jn hb H8; clear H8
  refine Jr ?_
  refine Je ?_
  refine Ju ?_
  refine Je ?_
  refine Jb ?_
  refine Ja rfl rfl rfl (Jd (v := .int .i64 x8_2) rfl) ?_
  refine Ja rfl rfl rfl (Jc (v := .int .i64 x8_2) rfl) ?_
  refine Jf ?_
  refine Je ?_
  refine Jb ?_
  refine Ja rfl rfl rfl (Jd (v := .int .i64 a1) rfl) ?_
  refine Ja rfl rfl rfl (Jd (v := v0) rfl) ?_
  refine Ja rfl rfl rfl (Jd (v := .int .i64 x8_2) rfl) ?_
  obtain ⟨t14, h_t14, H10⟩ := Jh H9; clear H9
  refine Ja rfl rfl rfl (Qm Tryz.underlying24 Tryz.sizeOf3 rfl rfl f0 h_t14) ?_
  refine Qa (fun w hF hS => Qj (f := J4) (i := x8_2) (sz := 1) (j := 0) (v := .int .i64 t14) Tryz.isAgg3 rfl rfl (f0.row (hw.now hF)) h_t14 rfl) rfl rfl rfl ?_
  refine Ja rfl rfl rfl (Zp rfl rfl) ?_
  refine Jf ?_
  refine J5 (b := (decide (a1 = t14))) rfl (fun hb => ?_) (fun hb => ?_)
  ·have H11 := Jn hb H10; clear H10
   refine Je ?_
   refine Jb ?_
   refine Ja rfl rfl rfl (Jd (v := .int .i64 x8_2) rfl) ?_
   refine Ja rfl rfl rfl (Jc (v := .int .i64 x8_2) rfl) ?_
   refine Jf ?_
   refine Jm ?_
   obtain rfl := Option.some.inj H11
   refine Jy (v := .int .i64 x8_2) rfl rfl (Xh rfl)
  ·have H12 := Jo hb H10; clear H10
   refine Jr ?_
   refine Jb ?_
   obtain ⟨t18, h_t18, H13⟩ := Jh H12; clear H12
   refine Ja rfl rfl rfl (Q2 rfl rfl h_t18) ?_
   refine Ja rfl rfl rfl (Jd (v := .int .i64 t18) rfl) ?_
   refine Jf ?_
   refine Jl t18 () m1 [] (by exact ⟨rfl, rfl, rfl, rfl, trivial⟩) (by decide) rfl (by exact ⟨(by subst hn1; exact H13), trivial⟩) (Nat.lt_succ_self _)
 ·have H14 := Jo hb H8; clear H8
  refine Qr ?_
  refine Je ?_
  refine Jb ?_
  refine Ja rfl rfl rfl (Jc (v := .int .i64 (-1)) rfl) ?_
  refine Jf ?_
  refine Jm ?_
  obtain rfl := Option.some.inj H14
  refine Jy (v := .int .i64 (-1)) rfl rfl (Xh rfl)
theorem k38 {a0 : (List Int)} {v0 : Value} {a1 : Int} {r : Bool} {w : World} {h : J3} (hw : Know h w Zh) (f0 : FrS h 1 v0 (a0.map J4)) (H : Wj a0 a1 = some r) : Does Tryz.prog 38 (List.toArray [v0, .int .i64 a1]) w (fun v w' => v = (.bool r) ∧ Grow w w') := by
 refine enter (n := 9) Tryz.func38 rfl rfl rfl Zh [] (Sat.nil _ _) ?_
 refine Je ?_
 refine Jb ?_
 refine Ja rfl rfl rfl (Jc (v := .bool false) rfl) ?_
 refine Jf ?_
 refine Je ?_
 refine Jb ?_
 refine Ja rfl rfl rfl (Jd (v := v0) rfl) ?_
 refine Ja rfl rfl rfl (Jd (v := .int .i64 a1) rfl) ?_
 obtain ⟨t7, h_t7, H2⟩ := Jh H; clear H
 refine Xq (fun w hF hS => k70 (Jx w) (f0.mono (hw.now hF)) h_t7) Tryz.call70 rfl rfl rfl ?_
 refine Ja rfl rfl rfl (r_geq rfl rfl) ?_
 refine Ja rfl rfl rfl (Jc (v := .bool (decide (0 ≤ t7))) rfl) ?_
 refine Jf ?_
 refine Jm ?_
 obtain rfl := Option.some.inj H2
 refine Jy (v := .bool (decide (0 ≤ t7))) rfl rfl (Xh rfl)
theorem k12 {a0 : (List T_face_Likeness)} {v0 : Value} {a1 : (List T_face_Person)} {v1 : Value} {a2 : Int} {r : (List Int) × Int} {w : World} {h : J3} (hw : Know h w Zh) (f0 : FrS h 14 v0 (a0.map Qf)) (f1 : FrN h 4 v1 g_face_Person a1) (H : Ja0 a0 a1 a2 = some r) : Does Tryz.prog 12 (List.toArray [v0, v1, .int .i64 a2]) w (fun v w' => ∃ x : (Option Addr × Nat), v = (.tuple #[.slice x.1 r.1.length x.2, .int .i64 r.2]) ∧ Turn w w' Zh (roV 1 (.slice x.1 r.1.length x.2) r.1.length (r.1.map J4))) := by
 refine enter (n := 38) Tryz.func12 rfl rfl rfl Zh [] (Sat.nil _ _) ?_
 refine Je ?_
 refine Jb ?_
 refine Ja rfl rfl rfl (Jc (v := .slice none 0 0) rfl) ?_
 refine Ja rfl rfl rfl (Jc (v := .int .i64 0) rfl) ?_
 refine Jf ?_
 refine Je ?_
 refine Je ?_
 refine Jb ?_
 refine Ja rfl rfl rfl (Jd (v := v0) rfl) ?_
 refine Ja rfl rfl rfl (Jd (v := v1) rfl) ?_
 obtain ⟨t14, h_t14, H31⟩ := Jh H; clear H
 refine Xq (fun w hF hS => k5 (Jx w) (f0.mono (hw.now hF)) (f1.mono (hw.now hF)) h_t14) Tryz.call5 rfl rfl rfl ?_
 refine Ja rfl rfl rfl (Jc (v := .int .i64 t14) rfl) ?_
 refine Jf ?_
 refine Je ?_
 refine Jb ?_
 refine Ja rfl rfl rfl (Jd (v := .int .i64 t14) rfl) ?_
 refine Ja rfl rfl rfl (U0 rfl rfl) ?_
 refine Jf ?_
 refine J5 (b := (decide (t14 ≠ 0))) rfl (fun hb => ?_) (fun hb => ?_)
 ·have H32 := Jn hb H31; clear H31
  refine Je ?_
  refine Jb ?_
  refine Ja rfl rfl rfl (Jd (v := .int .i64 t14) rfl) ?_
  refine Ja rfl rfl rfl (Jc (v := .slice none 0 0) rfl) ?_
  refine Ja rfl rfl rfl (Jc (v := .int .i64 t14) rfl) ?_
  refine Jf ?_
  refine Jm ?_
  refine Wp 3 1 ?_
  obtain rfl := Option.some.inj H32
  refine c_imp 0 rfl (row_ro _ _ _ _ _) ?_
  refine ret2 (v1 := .slice ((none, 0) : Option Addr × Nat).1 ([] : List Int).length ((none, 0) : Option Addr × Nat).2) (v2 := .int .i64 t14) rfl rfl rfl (W6 ((none, 0) : Option Addr × Nat) (i := 0) rfl rfl (Imp.refl _))
 ·have H33 := Jo hb H31; clear H31
  refine Jr ?_
  refine Je ?_
  refine Jb ?_
  refine Ja rfl rfl rfl (Jc (v := .slice none 0 0) rfl) ?_
  refine Jf ?_
  refine Xi (r := r) (σ := (List Int)) (τ := (Option Addr × Nat)) (fun s => Jas s) (fun s t => [(9, .slice t.1 s.length t.2)]) (fun s t => [Qq 3 1 (.slice t.1 s.length t.2) s.length (s.map J4)]) (fun s t => True) ?_ ?_
  ·refine Je ?_
   refine Jb ?_
   refine Ja rfl rfl rfl (Jd (v := v1) rfl) ?_
   refine Ja rfl rfl rfl (r_lenFN Tryz.underlying23 rfl f1) ?_
   refine Ja rfl rfl rfl (Jd (v := .int .i64 0) rfl) ?_
   refine Jf ?_
   refine Ju ?_
   refine Wp 3 1 ?_
   refine Yv (σ := Int × (List Int)) (τ := (Option Addr × Nat)) (fun next2 s => Z1 a0 a1 a2 next2 s.1 s.2) (fun s t => [(0, v0), (2, .int .i64 a2), (9, .slice t.1 s.2.length t.2), (18, v1), (19, .int .i64 (a1.length : Int)), (20, .int .i64 s.1)]) (fun s t => [Qq 3 1 (.slice t.1 s.2.length t.2) s.2.length (s.2.map J4)]) (fun s t => True) (0, ([] : List Int)) ((none, 0) : Option Addr × Nat) [0] H33 (by exact trivial) (by exact ⟨rfl, rfl, rfl, rfl, rfl, rfl, trivial⟩) (by decide) rfl ?_
   rintro ⟨x20_2, l_3⟩ p_2 m2 gg H35 _
   clear H33
   replace H35 : Z1 a0 a1 a2 (it (fun next2 s => Z1 a0 a1 a2 next2 s.1 s.2) m2) x20_2 l_3 = some r := H35
   generalize hn2 : it (fun next2 s => Z1 a0 a1 a2 next2 s.1 s.2) m2 = next2 at H35
   try dsimp only
   refine Je ?_
   refine Jb ?_
   refine Ja rfl rfl rfl (Q1 rfl rfl) ?_
   refine Jf ?_
   refine Je ?_
   refine J5 (b := (decide (x20_2 < (a1.length : Int)))) rfl (fun hb => ?_) (fun hb => ?_)
   ·have H36 := Jn hb H35; clear H35
    refine Jr ?_
    refine Xi (r := r) (σ := (List Int)) (τ := (Option Addr × Nat)) (fun s => Vo x20_2 next2 s) (fun s t => [(0, v0), (2, .int .i64 a2), (9, .slice t.1 s.length t.2), (18, v1), (19, .int .i64 (a1.length : Int)), (20, .int .i64 x20_2)]) (fun s t => [Qq 3 1 (.slice t.1 s.length t.2) s.length (s.map J4)]) (fun s t => True) ?_ ?_
    ·refine Ju ?_
     refine Je ?_
     refine Jb ?_
     obtain ⟨t22, h_t22, H39⟩ := Jh H36; clear H36
     refine Ja rfl rfl rfl (Qm Tryz.underlying23 Tryz.sizeOf56 rfl rfl f1.frs (f1.ix h_t22)) ?_
     refine Qa (fun w hF hS => Xw (f := (elC h v1 4)) (i := x20_2) (sz := 4) (j := 0) (vs := [.int .i64 t22.Id, str t22.Name, (U3 h v1 4 (Int.toNat x20_2) 2), (U3 h v1 4 (Int.toNat x20_2) 3)]) Tryz.isAgg56 Tryz.sizeOf56 rfl rfl (f1.frs.row (hw.now hF)) (f1.ix h_t22) (rd_of (cg_face_Person (f1.at h_t22)) rfl)) rfl rfl rfl ?_
     refine Zo (cs := [.int .i64 0, str [], .slice none 0 0, .slice none 0 0]) Tryz.zeroValue56 rfl rfl rfl (fun b4 => ?_)
     refine X3 (i := 1) (vs := [.int .i64 t22.Id, str t22.Name, (U3 h v1 4 (Int.toNat x20_2) 2), (U3 h v1 4 (Int.toNat x20_2) 3)]) (cs' := [.int .i64 t22.Id, str t22.Name, (U3 h v1 4 (Int.toNat x20_2) 2), (U3 h v1 4 (Int.toNat x20_2) 3)]) Tryz.sizeOf56 rfl rfl rfl rfl rfl rfl (by simp only [List.all_cons, List.all_nil, (show FrS h 1 (U3 h v1 4 (Int.toNat x20_2) 2) (t22.Likes.map J4) from (Yr (f1.at h_t22))).one, (show FrS h 1 (U3 h v1 4 (Int.toNat x20_2) 3) (t22.Nots.map J4) from (Jat (f1.at h_t22))).one] <;> rfl) rfl rfl ?_
     refine Jf ?_
     refine Je ?_
     refine Jb ?_
     refine Ja rfl rfl rfl (Jd (v := v0) rfl) ?_
     refine Ja rfl rfl rfl (Jq Tryz.runUnderlying56 rfl Tryz.sizeOf24 rfl rfl) ?_
     refine J0 (i := 1) (v := (U3 h v1 4 (Int.toNat x20_2) 2)) Tryz.isAgg24 rfl rfl rfl rfl rfl ?_
     obtain ⟨t27, h_t27, H40⟩ := Jh H39; clear H39
     refine Zf (Q3 (rds := []) (G := fun x : (Option Addr × Nat) => .slice x.1 t27.length x.2) (C := fun x : (Option Addr × Nat) => Qq 3 1 (.slice x.1 t27.length x.2) t27.length (t27.map J4)) (fun w L' hF hS hi => k20 (Jx w) (f0.mono (hw.now hF)) ((show FrS h 1 (U3 h v1 4 (Int.toNat x20_2) 2) (t22.Likes.map J4) from (Yr (f1.at h_t22))).mono (hw.now hF)) h_t27) Tryz.call20 rfl) rfl rfl rfl (fun p_4 => ?_)
     refine Ja rfl rfl rfl (Jd (v := .int .i64 a2) rfl) ?_
     obtain ⟨t29, h_t29, H41⟩ := Jh H40; clear H40
     refine Xq (fun w hF hS => k38 (Jx w) (frs_own (i := 2) rfl hS rfl) h_t29) Tryz.call38 rfl rfl rfl ?_
     refine Jf ?_
     refine J5 (b := t29) rfl (fun hb => ?_) (fun hb => ?_)
     ·have H42 := Jn hb H41; clear H41
      try dsimp only [z1, z2, z5, z6, z7, z8]
      refine Jb ?_
      refine Ja rfl rfl rfl (Jd (v := .slice p_2.1 l_3.length p_2.2) rfl) ?_
      refine Ja rfl rfl rfl (Jq Tryz.runUnderlying56 rfl Tryz.sizeOf3 rfl rfl) ?_
      refine J0 (i := 1) (v := .int .i64 t22.Id) Tryz.isAgg3 rfl rfl rfl rfl rfl ?_
      refine Xc (vs := [.int .i64 t22.Id]) (cs := [.int .i64 t22.Id]) Tryz.underlying24 Tryz.sizeOf3 Tryz.zeroValue3 rfl rfl rfl rfl rfl rfl rfl (fun b5 => ?_)
      obtain ⟨l34, h_l34, H43⟩ := Jh H42; clear H42
      refine Yl (We (i := 0) (hn := rfl) (rds := [3]) (p := p_2) (sz := 1) (by_ := 8) (f := J4) (ys := l_3) (ls := ([t22.Id] : List Int)) (V := .slice (some ⟨b5, 0, none⟩) 1 1) Tryz.underlying24 (W2 Tryz.typeInfo3) rfl rfl rfl rfl rfl rfl rfl rfl rfl rfl (fun w L' hF hS hi => Jac (i := 3) hS ((hi 3 (by simp)).trans rfl) rfl rfl) (fun _ => rfl) (fun _ => rfl) h_l34) rfl rfl rfl (fun p_5 => ?_)
      refine Ja rfl rfl rfl (Jc (v := .slice p_5.1 l34.length p_5.2) rfl) ?_
      refine Jf ?_
      refine Jl l34 p_5 0 [0] (by exact ⟨rfl, rfl, rfl, rfl, rfl, rfl, trivial⟩) (by decide) rfl (by exact ⟨H43, trivial⟩) (Nat.lt_succ_self _)
     ·have H44 := Jo hb H41; clear H41
      refine Jr ?_
      refine Jl l_3 p_2 0 [0] (by exact ⟨rfl, rfl, rfl, rfl, rfl, rfl, trivial⟩) (by decide) rfl (by exact ⟨H44, trivial⟩) (Nat.lt_succ_self _)
    ·rintro l_4 p_3 gg H37 _
     replace H37 : Vo x20_2 next2 l_4 = some r := H37
     try dsimp only
     refine Jb ?_
     obtain ⟨t35, h_t35, H38⟩ := Jh H37; clear H37
     refine Ja rfl rfl rfl (Q2 rfl rfl h_t35) ?_
     refine Ja rfl rfl rfl (Jd (v := .int .i64 t35) rfl) ?_
     refine Jf ?_
     refine Jl (t35, l_4) p_3 m2 [0] (by exact ⟨rfl, rfl, rfl, rfl, rfl, rfl, trivial⟩) (by decide) rfl (by exact ⟨(by subst hn2; exact H38), trivial⟩) (Nat.lt_succ_self _)
   ·have H45 := Jo hb H35; clear H35
    refine Qr ?_
    refine Jl l_3 p_2 0 [0] (by exact ⟨rfl, trivial⟩) (by decide) rfl (by exact ⟨H45, trivial⟩) (Nat.lt_succ_self _)
  ·rintro l p gg H34 _
   replace H34 : Jas l = some r := H34
   try dsimp only
   refine Je ?_
   refine Jb ?_
   refine Ja rfl rfl rfl (Jd (v := .slice p.1 l.length p.2) rfl) ?_
   refine Xq (fun w hF hS => k39 (capOf (i := 0) hS rfl) w) Tryz.call39 rfl rfl rfl ?_
   refine Ja rfl rfl rfl (Jc (v := .slice (Y4 p.1 0 l.length 1) l.length l.length) rfl) ?_
   refine Ja rfl rfl rfl (Jc (v := .int .i64 0) rfl) ?_
   refine Jf ?_
   refine Jm ?_
   obtain rfl := Option.some.inj H34
   refine c_imp 0 rfl (imp_clipO _ _ _ _ _ _) ?_
   refine ret2 (v1 := .slice (Y4 p.1 0 l.length 1) l.length l.length) (v2 := .int .i64 0) rfl rfl rfl (W6 (Y4 p.1 0 l.length 1, l.length) (i := 0) rfl rfl (Imp.refl _))
theorem k10 {q0 : (List T_face_Likeness)} {vq0 : Value} {c0 : Nat} {q1 : (List T_face_Person)} {vq1 : Value} {c1 : Nat} {a0 : T_sync_Replica} {v0_2 : Value} {pb0 : Nat} {r : (List (List Int))} {w : World} {h : J3} (hw : Know h w Zh) (fq0 : FrS h 14 vq0 (q0.map Qf)) (hc0 : h c0 = some (.cells (List.toArray [vq0]) 22 (0, 0))) (fq1 : FrN h 4 vq1 g_face_Person q1) (hc1 : h c1 = some (.cells (List.toArray [vq1]) 23 (0, 0))) (f0_2 : FrS h 8 v0_2 (a0.facts_.map Jj)) (hb0 : h pb0 = some (.cells (List.toArray [.int .i64 a0.device_, .int .i64 (a0.knows_ 0), .int .i64 (a0.knows_ 1), .int .i64 (a0.knows_ 2), .int .i64 (a0.knows_ 3), .int .i64 (a0.knows_ 4), .int .i64 (a0.knows_ 5), .int .i64 (a0.knows_ 6), .int .i64 (a0.knows_ 7), .int .i64 (a0.knows_ 8), .int .i64 (a0.knows_ 9), .int .i64 (a0.knows_ 10), .int .i64 (a0.knows_ 11), .int .i64 (a0.knows_ 12), .int .i64 (a0.knows_ 13), .int .i64 (a0.knows_ 14), .int .i64 (a0.knows_ 15), v0_2]) 67 (0, 0))) (H : Z2 q0 q1 a0 = some r) : Does Tryz.prog 10 (List.toArray [.pointer (some ⟨pb0, 0, none⟩), .pointer (some ⟨c0, 0, none⟩), .pointer (some ⟨c1, 0, none⟩)]) w (fun v w' => ∃ x : (Option Addr × Nat), v = (.slice x.1 r.length x.2) ∧ Turn w w' Zh (rowD 24 1 gs_int (.slice x.1 r.length x.2) r.length r)) := by
 refine enter (n := 37) Tryz.func10 rfl rfl rfl Zh [] (Sat.nil _ _) ?_
 refine c_poolNew noH ?_
 refine Je ?_
 refine Jb ?_
 refine Ja rfl rfl rfl (Jc (v := .slice none 0 0) rfl) ?_
 refine Jf ?_
 refine Je ?_
 refine Jb ?_
 refine Ja rfl rfl rfl (Jc (v := .slice none 0 0) rfl) ?_
 refine Jf ?_
 refine Je ?_
 refine Je ?_
 refine Jb ?_
 refine Ja rfl rfl rfl (Jd (v := .pointer (some ⟨pb0, 0, none⟩)) rfl) ?_
 obtain ⟨t11, h_t11, H12⟩ := Jh H; clear H
 refine Zf (Q3 (rds := []) (G := fun x : (Option Addr × Nat) => .slice x.1 t11.length x.2) (C := fun x : (Option Addr × Nat) => roD 6 g_sync_Shown (.slice x.1 t11.length x.2) t11.length t11) (fun w L' hF hS hi => k11 (Jx w) (f0_2.mono (hw.now hF)) (hw.now hF _ _ hb0) h_t11) Tryz.call11 rfl) rfl rfl rfl (fun p => ?_)
 refine c_roD 1 rfl (fun hp css hn pf => ?_)
 refine Uw 1 rfl ?_
 refine c_poolJoin 0 1 rfl rfl (by decide) (fun _ _ => noH_le) (fun hp_2 hle hle_2 => ?_)
 refine Ja rfl rfl rfl (Uj Tryz.underlying36 rfl) ?_
 refine Ja rfl rfl rfl (Jd (v := .int .i64 0) rfl) ?_
 refine Jf ?_
 try dsimp only [z1, z2, z5, z6, z7, z8]
 refine Ju ?_
 refine c_dr 1 ?_
 try dsimp only [z1, z2, z3, z4, z5, z6, z7, z8]
 refine Wp 24 1 ?_
 refine Yv (σ := Int × (List (List Int))) (τ := J3 × (List (List Value)) × (Option Addr × Nat)) (fun next1 s => Zv q0 q1 t11 next1 s.1 s.2) (fun s t => [(1, .pointer (some ⟨c0, 0, none⟩)), (2, .pointer (some ⟨c1, 0, none⟩)), (5, .slice t.2.2.1 t.2.1.length t.2.2.2), (11, .slice p.1 t11.length p.2), (12, .int .i64 (t11.length : Int)), (13, .int .i64 s.1)]) (fun s t => [Wo noH t.1, roV 6 (.slice p.1 t11.length p.2) t11.length (css.map idC), Qq 24 1 (.slice t.2.2.1 t.2.1.length t.2.2.2) t.2.1.length (t.2.1.map idC)]) (fun s t => AllC g_sync_Shown t.1 6 css t11 ∧ AllC gs_int t.1 1 t.2.1 s.2) (0, ([] : List (List Int))) (hp_2, ([] : List (List Value)), ((none, 0) : Option Addr × Nat)) [0, 1, 2] H12 (by exact ⟨(pf.mono hle_2), (AllC.nil (G := gs_int) (h := hp_2) (sz := 1))⟩) (by exact ⟨rfl, rfl, rfl, rfl, rfl, rfl, trivial⟩) (by decide) rfl ?_
 rintro ⟨x13_2, l_3⟩ ⟨hp_3, css_3, p_2⟩ m1 gg H13 ⟨pf_4, pf_5⟩
 clear H12
 replace H13 : Zv q0 q1 t11 (it (fun next1 s => Zv q0 q1 t11 next1 s.1 s.2) m1) x13_2 l_3 = some r := H13
 generalize hn1 : it (fun next1 s => Zv q0 q1 t11 next1 s.1 s.2) m1 = next1 at H13
 try dsimp only
 refine Je ?_
 refine Jb ?_
 refine Ja rfl rfl rfl (Q1 rfl rfl) ?_
 refine Jf ?_
 try dsimp only [z1, z2, z5, z6, z7, z8]
 refine Je ?_
 refine J5 (b := (decide (x13_2 < (t11.length : Int)))) rfl (fun hb => ?_) (fun hb => ?_)
 ·have H14 := Jn hb H13; clear H13
  refine Jr ?_
  refine Je ?_
  refine Ju ?_
  refine Je ?_
  refine Jb ?_
  obtain ⟨t15, h_t15, H15⟩ := Jh H14; clear H14
  refine Qa (fun w hF hS => Vr Tryz.underlying36 Tryz.sizeOf40 rfl rfl (roOf (i := 1) hS rfl) hn (pf_4.ix h_t15)) rfl rfl rfl ?_
  refine Qa (fun w hF hS => Xw (f := idC) (i := x13_2) (sz := 6) (j := 0) (vs := [.int .i64 t15.Id, str t15.File, .int .i64 t15.Stars, str t15.Caption, .bool t15.Hidden, (List.getD (List.getD css (Int.toNat x13_2) []) 5 undef)]) Tryz.isAgg40 Tryz.sizeOf40 rfl rfl (roOf (i := 1) hS rfl) (pf_4.ix h_t15) (rd_of ((pf_4.eta h_t15).trans (cg_sync_Shown (pf_4.at h_t15))) rfl)) rfl rfl rfl ?_
  refine Zo (cs := [.int .i64 0, str [], .int .i64 0, str [], .bool false, .slice none 0 0]) Tryz.zeroValue40 rfl rfl rfl (fun b3 => ?_)
  refine X3 (i := 3) (vs := [.int .i64 t15.Id, str t15.File, .int .i64 t15.Stars, str t15.Caption, .bool t15.Hidden, (List.getD (List.getD css (Int.toNat x13_2) []) 5 undef)]) (cs' := [.int .i64 t15.Id, str t15.File, .int .i64 t15.Stars, str t15.Caption, .bool t15.Hidden, (List.getD (List.getD css (Int.toNat x13_2) []) 5 undef)]) Tryz.sizeOf40 rfl rfl rfl rfl rfl rfl (by simp only [List.all_cons, List.all_nil, (show FrS hp_3 1 (List.getD (List.getD css (Int.toNat x13_2) []) 5 undef) (t15.Tags.map U7) from (g_sync_Shown_p5 (pf_4.at h_t15))).one] <;> rfl) rfl rfl ?_
  refine Jf ?_
  try dsimp only [z1, z2, z5, z6, z7, z8]
  refine Je ?_
  refine Jb ?_
  refine Qa (fun w hF hS => Zt (v := vq0) Tryz.isAgg22 rfl (hw.now hF _ _ hc0) rfl) rfl rfl rfl ?_
  refine Qa (fun w hF hS => Zt (v := vq1) Tryz.isAgg23 rfl (hw.now hF _ _ hc1) rfl) rfl rfl rfl ?_
  refine Ja rfl rfl rfl (Jq Tryz.runUnderlying40 rfl Tryz.sizeOf3 rfl rfl) ?_
  refine J0 (i := 3) (v := .int .i64 t15.Id) Tryz.isAgg3 rfl rfl rfl rfl rfl ?_
  obtain ⟨t22, h_t22, H16⟩ := Jh H15; clear H15
  refine Zf (Q3 (rds := []) (G := fun x : (Option Addr × Nat) => .tuple #[.slice x.1 t22.1.length x.2, .int .i64 t22.2]) (C := fun x : (Option Addr × Nat) => roV 1 (.slice x.1 t22.1.length x.2) t22.1.length (t22.1.map J4)) (fun w L' hF hS hi => k12 (Jx w) (fq0.mono (hw.now hF)) (fq1.mono (hw.now hF)) h_t22) Tryz.call12 rfl) rfl rfl rfl (fun p_3 => ?_)
  refine Ja rfl rfl rfl (Jd (v := .tuple #[.slice p_3.1 t22.1.length p_3.2, .int .i64 t22.2]) rfl) ?_
  refine Ja rfl rfl rfl (Qz (v := .slice p_3.1 t22.1.length p_3.2) rfl rfl) ?_
  refine Ja rfl rfl rfl (Qz (v := .int .i64 t22.2) rfl rfl) ?_
  refine Ja rfl rfl rfl (Jc (v := .slice p_3.1 t22.1.length p_3.2) rfl) ?_
  refine Ja rfl rfl rfl (Jc (v := .int .i64 t22.2) rfl) ?_
  refine Jf ?_
  try dsimp only [z1, z2, z5, z6, z7, z8]
  refine Je ?_
  refine Je ?_
  refine Jb ?_
  refine Ja rfl rfl rfl (Jd (v := .int .i64 t22.2) rfl) ?_
  refine Ja rfl rfl rfl (U0 rfl rfl) ?_
  refine Jf ?_
  try dsimp only [z1, z2, z5, z6, z7, z8]
  refine J5 (b := (decide (t22.2 ≠ 0))) rfl (fun hb => ?_) (fun hb => ?_)
  ·have H17 := Jn hb H16; clear H16
   refine Je ?_
   refine Jb ?_
   refine Ja rfl rfl rfl (Jc (v := .slice none 0 0) rfl) ?_
   refine Jf ?_
   try dsimp only [z1, z2, z5, z6, z7, z8]
   refine Jm ?_
   refine Wp 24 1 ?_
   obtain rfl := Option.some.inj H17
   refine Z6 0 5 rfl rfl (by decide) ?_
   refine c_imp 0 rfl (imp_rowD (p := ((none, 0) : Option Addr × Nat)) rfl (AllC.nil (G := gs_int) (h := hp_3) (sz := 1))) ?_
   refine Jy (v := .slice ((none, 0) : Option Addr × Nat).1 (([] : List (List Value)).length) ((none, 0) : Option Addr × Nat).2) rfl rfl (W6 ((none, 0) : Option Addr × Nat) (i := 0) rfl (by first | rfl | rw [(show (([] : List (List Value)).length) = ([] : List (List Int)).length from (AllC.nil (G := gs_int) (h := hp_3) (sz := 1)).len)]) (by first | exact Imp.refl _ | exact Imp.of (by rw [(show (([] : List (List Value)).length) = ([] : List (List Int)).length from (AllC.nil (G := gs_int) (h := hp_3) (sz := 1)).len)])))
  ·have H18 := Jo hb H16; clear H16
   refine Jr ?_
   refine Jb ?_
   refine Ja rfl rfl rfl (Jd (v := .slice p_2.1 css_3.length p_2.2) rfl) ?_
   refine Ja rfl rfl rfl (Jq Tryz.runUnderlying40 rfl Tryz.sizeOf3 rfl rfl) ?_
   refine J0 (i := 3) (v := .int .i64 t15.Id) Tryz.isAgg3 rfl rfl rfl rfl rfl ?_
   refine Xc (vs := [.int .i64 t15.Id]) (cs := [.int .i64 t15.Id]) Tryz.underlying24 Tryz.sizeOf3 Tryz.zeroValue3 rfl rfl rfl rfl rfl rfl rfl (fun b4 => ?_)
   refine Ja rfl rfl rfl (Jd (v := .slice p_3.1 t22.1.length p_3.2) rfl) ?_
   refine c_imp 5 rfl (imp_box (m := 1) (E := 3) (sz := 1) (xs := (([t15.Id] : List Int)).map J4) rfl rfl rfl ⟨rfl, by decide⟩) ?_
   obtain ⟨l32, h_l32, H19⟩ := Jh H18; clear H18
   refine Yl (We (i := 5) (hn := rfl) (rds := [4]) (p := ((some ⟨b4, 0, none⟩, 1) : Option Addr × Nat)) (sz := 1) (by_ := 8) (f := J4) (ys := ([t15.Id] : List Int)) (ls := t22.1) (V := .slice p_3.1 t22.1.length p_3.2) Tryz.underlying24 (W2 Tryz.typeInfo3) rfl rfl rfl rfl rfl rfl rfl rfl rfl rfl (fun w L' hF hS hi => roOf (i := 4) hS ((hi 4 (by simp)).trans rfl)) (fun _ => rfl) (fun _ => rfl) h_l32) rfl rfl rfl (fun p_4 => ?_)
   refine Xc (vs := [.slice p_4.1 l32.length p_4.2]) (cs := [.slice p_4.1 l32.length p_4.2]) Tryz.underlying31 Tryz.sizeOf24 Tryz.zeroValue24 rfl rfl rfl rfl rfl rfl rfl (fun b5 => ?_)
   refine c_freeze (Φ := fun H_ => FrS H_ 1 (.slice p_4.1 l32.length p_4.2) (l32.map J4)) 0 5 rfl rfl (by decide) (fun _ _ => noH_le) (fz_own _) (fun hp_4 hle_3 hf => ?_)
   obtain ⟨l34, h_l34, H20⟩ := Jh H19; clear H19
   refine Yl (turns_appendM (i := 2) (k := 6) (p := p_2) (f := idC) (ys := css_3) (ls := [[.slice p_4.1 l32.length p_4.2]]) Tryz.underlying31 (W2 Tryz.typeInfo24) rfl rfl rfl rfl rfl rfl rfl rfl rfl rfl rfl rfl rfl rfl (by simp only [idC, List.map_cons, List.map_nil, List.all_cons, List.all_nil, hf.one] <;> rfl) (app63 ((pf_5.mono hle_3).app h_l34 (nc := [[.slice p_4.1 l32.length p_4.2]]) rfl)) rfl) rfl rfl rfl (fun p_5 => ?_)
   have pf_6 : AllC gs_int hp_4 1 (css_3 ++ [[Value.slice p_4.1 l32.length p_4.2]]) l34 := AllC.snocG (pf_5.mono hle_3) h_l34 rfl (hf)
   refine Ja rfl rfl rfl (Jc (v := .slice p_5.1 ((css_3 ++ [[Value.slice p_4.1 l32.length p_4.2]]).length) p_5.2) rfl) ?_
   refine Jf ?_
   try dsimp only [z1, z2, z5, z6, z7, z8]
   refine Jb ?_
   obtain ⟨t35, h_t35, H21⟩ := Jh H20; clear H20
   refine Ja rfl rfl rfl (Q2 rfl rfl h_t35) ?_
   refine Ja rfl rfl rfl (Jd (v := .int .i64 t35) rfl) ?_
   refine Jf ?_
   try dsimp only [z1, z2, z5, z6, z7, z8]
   refine Jl (t35, l34) (hp_4, (css_3 ++ [[Value.slice p_4.1 l32.length p_4.2]]), p_5) m1 [0, 1, 2] (by exact ⟨rfl, rfl, rfl, rfl, rfl, rfl, trivial⟩) (by decide) rfl (by exact ⟨(by subst hn1; exact H21), ⟨(pf_4.mono hle_3), pf_6⟩⟩) (Nat.lt_succ_self _)
 ·have H22 := Jo hb H13; clear H13
  refine Qr ?_
  refine Je ?_
  refine Jb ?_
  refine Ja rfl rfl rfl (Jd (v := .slice p_2.1 css_3.length p_2.2) rfl) ?_
  refine Ja rfl rfl rfl (Jc (v := .slice p_2.1 css_3.length p_2.2) rfl) ?_
  refine Jf ?_
  try dsimp only [z1, z2, z5, z6, z7, z8]
  refine Jm ?_
  obtain rfl := Option.some.inj H22
  refine Z6 0 2 rfl rfl (by decide) ?_
  refine c_imp 0 rfl (imp_rowD (p := p_2) rfl pf_5) ?_
  refine Jy (v := .slice p_2.1 css_3.length p_2.2) rfl rfl (W6 p_2 (i := 0) rfl (by first | rfl | rw [(show css_3.length = l_3.length from pf_5.len)]) (by first | exact Imp.refl _ | exact Imp.of (by rw [(show css_3.length = l_3.length from pf_5.len)])))
theorem k40 {a0 : (List T_sync_Fact)} {v0 : Value} {a1 : (List T_sync_Fact)} {v1 : Value} {r : Bool} {w : World} {h : J3} (hw : Know h w Zh) (f0 : FrS h 8 v0 (a0.map Jj)) (f1 : FrS h 8 v1 (a1.map Jj)) (H : X0 a0 a1 = some r) : Does Tryz.prog 40 (List.toArray [v0, v1]) w (fun v w' => v = (.bool r) ∧ Grow w w') := by
 refine enter (n := 26) Tryz.func40 rfl rfl rfl Zh [] (Sat.nil _ _) ?_
 refine Je ?_
 refine Jb ?_
 refine Ja rfl rfl rfl (Jc (v := .bool false) rfl) ?_
 refine Jf ?_
 refine Je ?_
 refine Je ?_
 refine Jb ?_
 refine Ja rfl rfl rfl (Jd (v := v0) rfl) ?_
 refine Ja rfl rfl rfl (Zl Tryz.underlying65 rfl f0 rfl) ?_
 refine Ja rfl rfl rfl (Jd (v := v1) rfl) ?_
 refine Ja rfl rfl rfl (Zl Tryz.underlying65 rfl f1 rfl) ?_
 refine Ja rfl rfl rfl (U0 rfl rfl) ?_
 refine Jf ?_
 refine J5 (b := (decide ((a0.length : Int) ≠ (a1.length : Int)))) rfl (fun hb => ?_) (fun hb => ?_)
 ·have H11 := Jn hb H; clear H
  refine Je ?_
  refine Jb ?_
  refine Ja rfl rfl rfl (Jc (v := .bool false) rfl) ?_
  refine Jf ?_
  refine Jm ?_
  obtain rfl := Option.some.inj H11
  refine Jy (v := .bool false) rfl rfl (Xh rfl)
 ·have H12 := Jo hb H; clear H
  refine Jr ?_
  refine Je ?_
  refine Je ?_
  refine Jb ?_
  refine Ja rfl rfl rfl (Jd (v := v0) rfl) ?_
  refine Ja rfl rfl rfl (Zl Tryz.underlying65 rfl f0 rfl) ?_
  refine Ja rfl rfl rfl (Jd (v := .int .i64 0) rfl) ?_
  refine Jf ?_
  refine Ju ?_
  refine Yv (σ := Int) (τ := Unit) (fun next1 s => Qw a0 a1 next1 s) (fun s t => [(0, v0), (1, v1), (12, .int .i64 (a0.length : Int)), (13, .int .i64 s)]) (fun s t => []) (fun s t => True) 0 () [] H12 (by exact trivial) (by exact ⟨rfl, rfl, rfl, rfl, trivial⟩) (by decide) rfl ?_
  rintro x13_2 _ m1 gg H13 _
  clear H12
  replace H13 : Qw a0 a1 (it (fun next1 s => Qw a0 a1 next1 s) m1) x13_2 = some r := H13
  generalize hn1 : it (fun next1 s => Qw a0 a1 next1 s) m1 = next1 at H13
  try dsimp only
  refine Je ?_
  refine Jb ?_
  refine Ja rfl rfl rfl (Q1 rfl rfl) ?_
  refine Jf ?_
  refine Je ?_
  refine J5 (b := (decide (x13_2 < (a0.length : Int)))) rfl (fun hb => ?_) (fun hb => ?_)
  ·have H14 := Jn hb H13; clear H13
   refine Jr ?_
   refine Je ?_
   refine Ju ?_
   refine Je ?_
   refine Jb ?_
   refine Ja rfl rfl rfl (Jd (v := .int .i64 x13_2) rfl) ?_
   refine Ja rfl rfl rfl (Jc (v := .int .i64 x13_2) rfl) ?_
   refine Jf ?_
   refine Je ?_
   exact Za (Kd.p :: Kd.p :: Kd.p :: Kd.d [] _ :: Kd.p :: Kd.p :: Kd.p :: Kd.d [] _ :: Kd.p :: []) 0 mixed (by
    refine Jt rfl rfl (Jd (v := v0) rfl) ?_
    refine Jt rfl rfl (Jd (v := .int .i64 x13_2) rfl) ?_
    have h_t18 := Qx H14
    have H15 := Qg H14
    refine Jt rfl rfl (Qm Tryz.underlying65 Tryz.sizeOf52 rfl rfl f0 h_t18) ?_
    refine d_read (fun w hF => Xw (f := Jj) (i := x13_2) (sz := 8) (j := 0) (vs := [.int .i64 (val (Qn a0 x13_2)).Dot.Device, .int .i64 (val (Qn a0 x13_2)).Dot.N, .int .i64 (val (Qn a0 x13_2)).Time, .int .i64 (val (Qn a0 x13_2)).Kind, .int .i64 (val (Qn a0 x13_2)).Id, str (val (Qn a0 x13_2)).Name, .int .i64 (val (Qn a0 x13_2)).Num, str (val (Qn a0 x13_2)).Text]) Tryz.isAgg52 Tryz.sizeOf52 rfl rfl (f0.row (hw.now hF)) h_t18 rfl) rfl rfl ?_
    refine Jt rfl rfl (Jd (v := v1) rfl) ?_
    refine Jt rfl rfl (Jd (v := .int .i64 x13_2) rfl) ?_
    have h_t22 := Qx H15
    have H16 := Qg H15
    refine Jt rfl rfl (Qm Tryz.underlying65 Tryz.sizeOf52 rfl rfl f1 h_t22) ?_
    refine d_read (fun w hF => Xw (f := Jj) (i := x13_2) (sz := 8) (j := 0) (vs := [.int .i64 (val (Qn a1 x13_2)).Dot.Device, .int .i64 (val (Qn a1 x13_2)).Dot.N, .int .i64 (val (Qn a1 x13_2)).Time, .int .i64 (val (Qn a1 x13_2)).Kind, .int .i64 (val (Qn a1 x13_2)).Id, str (val (Qn a1 x13_2)).Name, .int .i64 (val (Qn a1 x13_2)).Num, str (val (Qn a1 x13_2)).Text]) Tryz.isAgg52 Tryz.sizeOf52 rfl rfl (f1.row (hw.now hF)) h_t22 rfl) rfl rfl ?_
    refine Jt rfl rfl (r_neqA (xs := #[.int .i64 (val (Qn a0 x13_2)).Dot.Device, .int .i64 (val (Qn a0 x13_2)).Dot.N, .int .i64 (val (Qn a0 x13_2)).Time, .int .i64 (val (Qn a0 x13_2)).Kind, .int .i64 (val (Qn a0 x13_2)).Id, str (val (Qn a0 x13_2)).Name, .int .i64 (val (Qn a0 x13_2)).Num, str (val (Qn a0 x13_2)).Text]) (ys := #[.int .i64 (val (Qn a1 x13_2)).Dot.Device, .int .i64 (val (Qn a1 x13_2)).Dot.N, .int .i64 (val (Qn a1 x13_2)).Time, .int .i64 (val (Qn a1 x13_2)).Kind, .int .i64 (val (Qn a1 x13_2)).Id, str (val (Qn a1 x13_2)).Name, .int .i64 (val (Qn a1 x13_2)).Num, str (val (Qn a1 x13_2)).Text]) Tryz.eqGuardType52 (fun w => run_eq_sync_Fact w (val (Qn a0 x13_2)) (val (Qn a1 x13_2))) rfl rfl) ?_
    refine Ui ?_
    refine J5 (b := (!(Uv (val (Qn a0 x13_2)) (val (Qn a1 x13_2))))) rfl (fun hb => ?_) (fun hb => ?_)
    ·have H17 := Jn hb H16; clear H16
     refine Je ?_
     refine Jb ?_
     refine Ja rfl rfl rfl (Jc (v := .bool false) rfl) ?_
     refine Jf ?_
     refine Jm ?_
     obtain rfl := Option.some.inj H17
     refine Jy (v := .bool false) rfl rfl (Xh rfl)
    ·have H18 := Jo hb H16; clear H16
     refine Jr ?_
     refine Jb ?_
     obtain ⟨t25, h_t25, H19⟩ := Jh H18; clear H18
     refine Ja rfl rfl rfl (Q2 rfl rfl h_t25) ?_
     refine Ja rfl rfl rfl (Jd (v := .int .i64 t25) rfl) ?_
     refine Jf ?_
     refine Jl t25 () m1 [] (by exact ⟨rfl, rfl, rfl, rfl, trivial⟩) (by decide) rfl (by exact ⟨(by subst hn1; exact H19), trivial⟩) (Nat.lt_succ_self _)
    ) (by kernel_rfl)
  ·have H20 := Jo hb H13; clear H13
   refine Qr ?_
   refine Je ?_
   refine Jb ?_
   refine Ja rfl rfl rfl (Jc (v := .bool true) rfl) ?_
   refine Jf ?_
   refine Jm ?_
   obtain rfl := Option.some.inj H20
   refine Jy (v := .bool true) rfl rfl (Xh rfl)
theorem k15 {a0 : T_sync_Replica} {v0_2 : Value} {pb0 : Nat} {a1 : T_sync_Replica} {v1_2 : Value} {pb1 : Nat} {r : Bool} {w : World} {h : J3} (hw : Know h w Zh) (f0_2 : FrS h 8 v0_2 (a0.facts_.map Jj)) (hb0 : h pb0 = some (.cells (List.toArray [.int .i64 a0.device_, .int .i64 (a0.knows_ 0), .int .i64 (a0.knows_ 1), .int .i64 (a0.knows_ 2), .int .i64 (a0.knows_ 3), .int .i64 (a0.knows_ 4), .int .i64 (a0.knows_ 5), .int .i64 (a0.knows_ 6), .int .i64 (a0.knows_ 7), .int .i64 (a0.knows_ 8), .int .i64 (a0.knows_ 9), .int .i64 (a0.knows_ 10), .int .i64 (a0.knows_ 11), .int .i64 (a0.knows_ 12), .int .i64 (a0.knows_ 13), .int .i64 (a0.knows_ 14), .int .i64 (a0.knows_ 15), v0_2]) 67 (0, 0))) (f1_2 : FrS h 8 v1_2 (a1.facts_.map Jj)) (hb1 : h pb1 = some (.cells (List.toArray [.int .i64 a1.device_, .int .i64 (a1.knows_ 0), .int .i64 (a1.knows_ 1), .int .i64 (a1.knows_ 2), .int .i64 (a1.knows_ 3), .int .i64 (a1.knows_ 4), .int .i64 (a1.knows_ 5), .int .i64 (a1.knows_ 6), .int .i64 (a1.knows_ 7), .int .i64 (a1.knows_ 8), .int .i64 (a1.knows_ 9), .int .i64 (a1.knows_ 10), .int .i64 (a1.knows_ 11), .int .i64 (a1.knows_ 12), .int .i64 (a1.knows_ 13), .int .i64 (a1.knows_ 14), .int .i64 (a1.knows_ 15), v1_2]) 67 (0, 0))) (H : sync_Alike a0 a1 = some r) : Does Tryz.prog 15 (List.toArray [.pointer (some ⟨pb0, 0, none⟩), .pointer (some ⟨pb1, 0, none⟩)]) w (fun v w' => v = (.bool r) ∧ Grow w w') := by
 refine enter (n := 25) Tryz.func15 rfl rfl rfl Zh [] (Sat.nil _ _) ?_
 refine Je ?_
 refine Jb ?_
 refine Ja rfl rfl rfl (Jc (v := .bool false) rfl) ?_
 refine Jf ?_
 refine Je ?_
 exact Za (Kd.p :: Kd.p :: Kd.p :: Kd.d [] _ :: Kd.p :: Kd.p :: Kd.p :: Kd.d [] _ :: Kd.p :: Kd.p :: Kd.p :: Kd.p :: Kd.p :: Kd.d [] _ :: Kd.p :: Kd.p :: Kd.p :: Kd.d [] _ :: Kd.d [] _ :: Kd.p :: Kd.p :: []) 0 mixed (by
  refine Jt rfl rfl (Jd (v := .pointer (some ⟨pb0, 0, none⟩)) rfl) ?_
  refine Jt rfl rfl (Qk rfl) ?_
  refine Jt rfl rfl (Jq Tryz.runUnderlying67 rfl Tryz.sizeOf64 rfl rfl) ?_
  refine d_read (fun w hF => run_loadKN (vs := [.int .i64 (a0.knows_ 0), .int .i64 (a0.knows_ 1), .int .i64 (a0.knows_ 2), .int .i64 (a0.knows_ 3), .int .i64 (a0.knows_ 4), .int .i64 (a0.knows_ 5), .int .i64 (a0.knows_ 6), .int .i64 (a0.knows_ 7), .int .i64 (a0.knows_ 8), .int .i64 (a0.knows_ 9), .int .i64 (a0.knows_ 10), .int .i64 (a0.knows_ 11), .int .i64 (a0.knows_ 12), .int .i64 (a0.knows_ 13), .int .i64 (a0.knows_ 14), .int .i64 (a0.knows_ 15)]) Tryz.isAgg64 Tryz.sizeOf64 rfl (hw.now hF _ _ hb0) rfl) rfl rfl ?_
  refine Jt rfl rfl (Jd (v := .pointer (some ⟨pb1, 0, none⟩)) rfl) ?_
  refine Jt rfl rfl (Qk rfl) ?_
  refine Jt rfl rfl (Jq Tryz.runUnderlying67 rfl Tryz.sizeOf64 rfl rfl) ?_
  refine d_read (fun w hF => run_loadKN (vs := [.int .i64 (a1.knows_ 0), .int .i64 (a1.knows_ 1), .int .i64 (a1.knows_ 2), .int .i64 (a1.knows_ 3), .int .i64 (a1.knows_ 4), .int .i64 (a1.knows_ 5), .int .i64 (a1.knows_ 6), .int .i64 (a1.knows_ 7), .int .i64 (a1.knows_ 8), .int .i64 (a1.knows_ 9), .int .i64 (a1.knows_ 10), .int .i64 (a1.knows_ 11), .int .i64 (a1.knows_ 12), .int .i64 (a1.knows_ 13), .int .i64 (a1.knows_ 14), .int .i64 (a1.knows_ 15)]) Tryz.isAgg64 Tryz.sizeOf64 rfl (hw.now hF _ _ hb1) rfl) rfl rfl ?_
  refine Jt rfl rfl (r_eqlA (xs := #[.int .i64 (a0.knows_ 0), .int .i64 (a0.knows_ 1), .int .i64 (a0.knows_ 2), .int .i64 (a0.knows_ 3), .int .i64 (a0.knows_ 4), .int .i64 (a0.knows_ 5), .int .i64 (a0.knows_ 6), .int .i64 (a0.knows_ 7), .int .i64 (a0.knows_ 8), .int .i64 (a0.knows_ 9), .int .i64 (a0.knows_ 10), .int .i64 (a0.knows_ 11), .int .i64 (a0.knows_ 12), .int .i64 (a0.knows_ 13), .int .i64 (a0.knows_ 14), .int .i64 (a0.knows_ 15)]) (ys := #[.int .i64 (a1.knows_ 0), .int .i64 (a1.knows_ 1), .int .i64 (a1.knows_ 2), .int .i64 (a1.knows_ 3), .int .i64 (a1.knows_ 4), .int .i64 (a1.knows_ 5), .int .i64 (a1.knows_ 6), .int .i64 (a1.knows_ 7), .int .i64 (a1.knows_ 8), .int .i64 (a1.knows_ 9), .int .i64 (a1.knows_ 10), .int .i64 (a1.knows_ 11), .int .i64 (a1.knows_ 12), .int .i64 (a1.knows_ 13), .int .i64 (a1.knows_ 14), .int .i64 (a1.knows_ 15)]) Tryz.eqGuardType64 (fun w => run_eq_sync_Knows w a0.knows_ a1.knows_) rfl rfl) ?_
  refine Jt rfl rfl (Jd (v := .bool (Jaa a0.knows_ a1.knows_)) rfl) ?_
  refine splitS (fun hb => ?_) (fun hb => ?_)
  ·have H4 := Jn hb H
   refine Jt rfl rfl (Jd (v := .pointer (some ⟨pb0, 0, none⟩)) rfl) ?_
   refine Jt rfl rfl (Qk rfl) ?_
   refine Jt rfl rfl (Jq Tryz.runUnderlying67 rfl Tryz.sizeOf65 rfl rfl) ?_
   refine d_read (fun w hF => Zt (v := v0_2) Tryz.isAgg65 rfl (hw.now hF _ _ hb0) rfl) rfl rfl ?_
   refine Jt rfl rfl (Jd (v := .pointer (some ⟨pb1, 0, none⟩)) rfl) ?_
   refine Jt rfl rfl (Qk rfl) ?_
   refine Jt rfl rfl (Jq Tryz.runUnderlying67 rfl Tryz.sizeOf65 rfl rfl) ?_
   refine d_read (fun w hF => Zt (v := v1_2) Tryz.isAgg65 rfl (hw.now hF _ _ hb1) rfl) rfl rfl ?_
   have h_t23 := Qx H4
   have H5 := Qg H4
   refine d_callD (fun w L' hF hS hi => k40 (Jx w) (f0_2.mono (hw.now hF)) (f1_2.mono (hw.now hF)) h_t23) Tryz.call40 rfl rfl ?_
   refine Jt rfl rfl (Jz (v := .bool (val (X0 a0.facts_ a1.facts_))) rfl rfl) ?_
   refine Jt rfl rfl (Jc (v := .bool (val (X0 a0.facts_ a1.facts_))) rfl) ?_
   refine Ui ?_
   refine Jm ?_
   obtain rfl := Option.some.inj H5
   refine Jy (v := .bool (val (X0 a0.facts_ a1.facts_))) rfl rfl (Xh rfl)
  ·have H6 := Jo hb H
   refine Q4 rfl rfl ?_
   refine Q4 rfl rfl ?_
   refine Q4 rfl rfl ?_
   refine Q4 rfl rfl ?_
   refine Q4 rfl rfl ?_
   refine Q4 rfl rfl ?_
   refine Q4 rfl rfl ?_
   refine Q4 rfl rfl ?_
   refine Q4 rfl rfl ?_
   refine Jt rfl rfl (Jw (v := .bool false) rfl rfl) ?_
   refine Jt rfl rfl (Jc (v := .bool false) rfl) ?_
   refine Ui ?_
   refine Jm ?_
   obtain rfl := Option.some.inj H6
   refine Jy (v := .bool false) rfl rfl (Xh rfl)
  ) (by kernel_rfl)
end Go.Proofs.YtpikgcmaljmlmaaGreatDoor

/- TopTold, the law: the walks, printed by our generator; each follows its model. Conditions: the model yields a value. -/
namespace Go.Proofs.YtpikgcmaljmlmaaGreatDoor
open Go Go.Vc Go.Md Go.M Go.Lx
set_option maxRecDepth 100000
set_option maxHeartbeats 4000000
set_option linter.unusedVariables false
theorem k4 {r : Bool} (H : Jav = some r) : Ret Tryz.prog 4 [] (.bool r) := by
 refine Qc (n := 4) Tryz.func4 rfl rfl rfl (fun wd => ?_)
 refine Je ?_
 refine Jb ?_
 refine Ja rfl rfl rfl (Jc (v := .bool false) rfl) ?_
 refine Jf ?_
 refine Je ?_
 refine Jb ?_
 refine Ja rfl rfl rfl (r_build (pl := #[(0, 2), (2, 1), (3, 1), (4, 1), (5, 1), (6, 1), (7, 1)]) (ps := []) (cells := #[.int .i64 0, .int .i64 0, .int .i64 0, .int .i64 0, .int .i64 0, str [], .int .i64 0, str []]) Tryz.zeroValue52 Tryz.runUnderlying52 (fun w => by kernel_rfl) rfl rfl) ?_
 obtain ⟨t2, h_t2, H2⟩ := Jh H; clear H
 refine Qu (k16 h_t2) Tryz.call16 rfl rfl rfl ?_
 refine Ja rfl rfl rfl (Zp rfl rfl) ?_
 refine Ja rfl rfl rfl (Jc (v := .bool (decide (t2 = 2))) rfl) ?_
 refine Jf ?_
 refine Jm ?_
 obtain rfl := Option.some.inj H2
 refine Jy (v := .bool (decide (t2 = 2))) rfl rfl (Xh rfl)
theorem k6 {a0 : Int} {r : (Option T_sync_Replica) × Int} {w : World} {h : J3} (hw : Know h w Zh) (H : sync_New a0 = some r) : Does Tryz.prog 6 (List.toArray [.int .i64 a0]) w (fun v w' => ∃ x : Nat × (Option Addr × Nat), v = (.tuple #[optP r.1 x.1, .int .i64 r.2]) ∧ Turn w w' Zh (obxC (optP r.1 x.1) r.1 x.1 (fun z : T_sync_Replica => Yk (Jp x.1 [.int .i64 z.device_, .int .i64 (z.knows_ 0), .int .i64 (z.knows_ 1), .int .i64 (z.knows_ 2), .int .i64 (z.knows_ 3), .int .i64 (z.knows_ 4), .int .i64 (z.knows_ 5), .int .i64 (z.knows_ 6), .int .i64 (z.knows_ 7), .int .i64 (z.knows_ 8), .int .i64 (z.knows_ 9), .int .i64 (z.knows_ 10), .int .i64 (z.knows_ 11), .int .i64 (z.knows_ 12), .int .i64 (z.knows_ 13), .int .i64 (z.knows_ 14), .int .i64 (z.knows_ 15), .slice x.2.1 z.facts_.length x.2.2] 67) (Q0 52 8 (.slice x.2.1 z.facts_.length x.2.2) z.facts_.length (z.facts_.map Jj))))) := by
 refine enter (n := 9) Tryz.func6 rfl rfl rfl Zh [] (Sat.nil _ _) ?_
 refine Je ?_
 refine Jb ?_
 refine Ja rfl rfl rfl (Jc (v := .pointer none) rfl) ?_
 refine Ja rfl rfl rfl (Jc (v := .int .i64 0) rfl) ?_
 refine Jf ?_
 refine Je ?_
 refine Je ?_
 refine Jb ?_
 refine Ja rfl rfl rfl (Jd (v := .int .i64 a0) rfl) ?_
 obtain ⟨t5, h_t5, H4⟩ := Jh H; clear H
 refine Qu (k24 h_t5) Tryz.call24 rfl rfl rfl ?_
 refine Jf ?_
 refine J5 (b := t5) rfl (fun hb => ?_) (fun hb => ?_)
 ·have H5 := Jn hb H4; clear H4
  refine Je ?_
  refine Jb ?_
  refine Ja rfl rfl rfl (Jc (v := .pointer none) rfl) ?_
  refine Ja rfl rfl rfl (Jc (v := .int .i64 2) rfl) ?_
  refine Jf ?_
  refine Jm ?_
  refine c_emp ?_
  refine c_imp 0 rfl (imp_obxNil (b := 0) (fun z : T_sync_Replica => Yk (Jp 0 [.int .i64 z.device_, .int .i64 (z.knows_ 0), .int .i64 (z.knows_ 1), .int .i64 (z.knows_ 2), .int .i64 (z.knows_ 3), .int .i64 (z.knows_ 4), .int .i64 (z.knows_ 5), .int .i64 (z.knows_ 6), .int .i64 (z.knows_ 7), .int .i64 (z.knows_ 8), .int .i64 (z.knows_ 9), .int .i64 (z.knows_ 10), .int .i64 (z.knows_ 11), .int .i64 (z.knows_ 12), .int .i64 (z.knows_ 13), .int .i64 (z.knows_ 14), .int .i64 (z.knows_ 15), .slice ((none, 0) : Option Addr × Nat).1 z.facts_.length ((none, 0) : Option Addr × Nat).2] 67) (Q0 52 8 (.slice ((none, 0) : Option Addr × Nat).1 z.facts_.length ((none, 0) : Option Addr × Nat).2) z.facts_.length (z.facts_.map Jj)))) ?_
  obtain rfl := Option.some.inj H5
  refine ret2 (v1 := optP (none : Option T_sync_Replica) 0) (v2 := .int .i64 2) rfl rfl rfl (W6 (0, ((none, 0) : Option Addr × Nat)) (i := 0) rfl rfl (Imp.refl _))
 ·have H6 := Jo hb H4; clear H4
  refine Jr ?_
  refine Je ?_
  refine Jb ?_
  refine Ja rfl rfl rfl (Jd (v := .int .i64 a0) rfl) ?_
  refine Ja rfl rfl rfl (r_build (pl := #[(0, 1), (1, 16), (17, 1)]) (ps := [(0, .int .i64 a0)]) (cells := #[.int .i64 a0, .int .i64 0, .int .i64 0, .int .i64 0, .int .i64 0, .int .i64 0, .int .i64 0, .int .i64 0, .int .i64 0, .int .i64 0, .int .i64 0, .int .i64 0, .int .i64 0, .int .i64 0, .int .i64 0, .int .i64 0, .int .i64 0, .slice none 0 0]) Tryz.zeroValue67 Tryz.runUnderlying67 (fun w => by kernel_rfl) rfl (by kernel_rfl)) ?_
  refine W8 (cs := [.int .i64 a0, .int .i64 0, .int .i64 0, .int .i64 0, .int .i64 0, .int .i64 0, .int .i64 0, .int .i64 0, .int .i64 0, .int .i64 0, .int .i64 0, .int .i64 0, .int .i64 0, .int .i64 0, .int .i64 0, .int .i64 0, .int .i64 0, .slice none 0 0]) rfl rfl rfl rfl (fun b1 => ?_)
  refine Ja rfl rfl rfl (Jc (v := .pointer (some ⟨b1, 0, none⟩)) rfl) ?_
  refine Ja rfl rfl rfl (Jc (v := .int .i64 0) rfl) ?_
  refine Jf ?_
  refine Jm ?_
  refine Wp 52 8 ?_
  refine c_imp 1 rfl (imp_rowO _ _ _ _ _) ?_
  refine Z6 0 1 rfl rfl (by decide) ?_
  refine c_imp 0 rfl (imp_obx (b := b1) (z := (⟨a0, (fun _ => 0), ([] : List T_sync_Fact)⟩ : T_sync_Replica)) (fun z : T_sync_Replica => Yk (Jp b1 [.int .i64 z.device_, .int .i64 (z.knows_ 0), .int .i64 (z.knows_ 1), .int .i64 (z.knows_ 2), .int .i64 (z.knows_ 3), .int .i64 (z.knows_ 4), .int .i64 (z.knows_ 5), .int .i64 (z.knows_ 6), .int .i64 (z.knows_ 7), .int .i64 (z.knows_ 8), .int .i64 (z.knows_ 9), .int .i64 (z.knows_ 10), .int .i64 (z.knows_ 11), .int .i64 (z.knows_ 12), .int .i64 (z.knows_ 13), .int .i64 (z.knows_ 14), .int .i64 (z.knows_ 15), .slice ((none, 0) : Option Addr × Nat).1 z.facts_.length ((none, 0) : Option Addr × Nat).2] 67) (Q0 52 8 (.slice ((none, 0) : Option Addr × Nat).1 z.facts_.length ((none, 0) : Option Addr × Nat).2) z.facts_.length (z.facts_.map Jj)))) ?_
  obtain rfl := Option.some.inj H6
  refine ret2 (v1 := optP (some (⟨a0, (fun _ => 0), ([] : List T_sync_Fact)⟩ : T_sync_Replica)) b1) (v2 := .int .i64 0) rfl rfl rfl (W6 (b1, ((none, 0) : Option Addr × Nat)) (i := 0) rfl rfl (Imp.refl _))
theorem k13 {a0 : (List (List Int))} {v0 : Value} {a1 : (List (List Int))} {v1 : Value} {a2 : ((List Int) → (List Int) → Option (Bool))} {v2 : Value} {r : Bool} {w : World} {h : J3} (hw : Know h w Zh) (f0 : FrN h 1 v0 gs_int a0) (f1 : FrN h 1 v1 gs_int a1) (f2 : FnH Tryz.prog h v2 (Jar a2)) (H : Yh a0 a1 a2 = some r) : Does Tryz.prog 13 (List.toArray [v0, v1, v2]) w (fun v w' => v = (.bool r) ∧ Grow w w') := by
 refine enter (n := 32) Tryz.func13 rfl rfl rfl Zh [] (Sat.nil _ _) ?_
 refine Je ?_
 refine Jb ?_
 refine Ja rfl rfl rfl (Jc (v := .bool false) rfl) ?_
 refine Jf ?_
 refine Je ?_
 refine Je ?_
 refine Jb ?_
 refine Ja rfl rfl rfl (Jd (v := v0) rfl) ?_
 refine Ja rfl rfl rfl (r_lenFN Tryz.underlying31 rfl f0) ?_
 refine Ja rfl rfl rfl (Jd (v := v1) rfl) ?_
 refine Ja rfl rfl rfl (r_lenFN Tryz.underlying31 rfl f1) ?_
 refine Ja rfl rfl rfl (U0 rfl rfl) ?_
 refine Jf ?_
 refine J5 (b := (decide ((a0.length : Int) ≠ (a1.length : Int)))) rfl (fun hb => ?_) (fun hb => ?_)
 ·have H12 := Jn hb H; clear H
  refine Je ?_
  refine Jb ?_
  refine Ja rfl rfl rfl (Jc (v := .bool false) rfl) ?_
  refine Jf ?_
  refine Jm ?_
  obtain rfl := Option.some.inj H12
  refine Jy (v := .bool false) rfl rfl (Xh rfl)
 ·have H13 := Jo hb H; clear H
  refine Jr ?_
  refine Je ?_
  refine Je ?_
  refine Jb ?_
  refine Ja rfl rfl rfl (Jd (v := v0) rfl) ?_
  refine Ja rfl rfl rfl (r_lenFN Tryz.underlying31 rfl f0) ?_
  refine Ja rfl rfl rfl (Jd (v := .int .i64 0) rfl) ?_
  refine Jf ?_
  refine Ju ?_
  refine Yv (σ := Int) (τ := Unit) (fun next1 s => J6 a0 a1 a2 next1 s) (fun s t => [(1, v1), (2, v2), (15, v0), (16, .int .i64 (a0.length : Int)), (17, .int .i64 s)]) (fun s t => []) (fun s t => True) 0 () [] H13 (by exact trivial) (by exact ⟨rfl, rfl, rfl, rfl, rfl, trivial⟩) (by decide) rfl ?_
  rintro x17_2 _ m1 gg H14 _
  clear H13
  replace H14 : J6 a0 a1 a2 (it (fun next1 s => J6 a0 a1 a2 next1 s) m1) x17_2 = some r := H14
  generalize hn1 : it (fun next1 s => J6 a0 a1 a2 next1 s) m1 = next1 at H14
  try dsimp only
  refine Je ?_
  refine Jb ?_
  refine Ja rfl rfl rfl (Q1 rfl rfl) ?_
  refine Jf ?_
  refine Je ?_
  refine J5 (b := (decide (x17_2 < (a0.length : Int)))) rfl (fun hb => ?_) (fun hb => ?_)
  ·have H15 := Jn hb H14; clear H14
   refine Jr ?_
   refine Je ?_
   refine Ju ?_
   refine Je ?_
   refine Jb ?_
   refine Ja rfl rfl rfl (Jd (v := .int .i64 x17_2) rfl) ?_
   obtain ⟨t20, h_t20, H16⟩ := Jh H15; clear H15
   refine Ja rfl rfl rfl (Qm Tryz.underlying31 Tryz.sizeOf24 rfl rfl f0.frs (f0.ix h_t20)) ?_
   refine Qa (fun w hF hS => Qj (f := (elC h v0 1)) (i := x17_2) (sz := 1) (j := 0) (v := (U3 h v0 1 (Int.toNat x17_2) 0)) Tryz.isAgg24 rfl rfl (f0.frs.row (hw.now hF)) (f0.ix h_t20) (rg_of (cgs_int (f0.at h_t20)) rfl)) rfl rfl rfl ?_
   refine Ja rfl rfl rfl (Jc (v := .int .i64 x17_2) rfl) ?_
   refine Ja rfl rfl rfl (Jc (v := (U3 h v0 1 (Int.toNat x17_2) 0)) rfl) ?_
   refine Jf ?_
   refine Je ?_
   refine Jb ?_
   refine Ja rfl rfl rfl (Jd (v := v1) rfl) ?_
   refine Ja rfl rfl rfl (Jd (v := .int .i64 x17_2) rfl) ?_
   obtain ⟨t24, h_t24, H17⟩ := Jh H16; clear H16
   refine Ja rfl rfl rfl (Qm Tryz.underlying31 Tryz.sizeOf24 rfl rfl f1.frs (f1.ix h_t24)) ?_
   refine Qa (fun w hF hS => Qj (f := (elC h v1 1)) (i := x17_2) (sz := 1) (j := 0) (v := (U3 h v1 1 (Int.toNat x17_2) 0)) Tryz.isAgg24 rfl rfl (f1.frs.row (hw.now hF)) (f1.ix h_t24) (rg_of (cgs_int (f1.at h_t24)) rfl)) rfl rfl rfl ?_
   refine Ja rfl rfl rfl (Jc (v := (U3 h v1 1 (Int.toNat x17_2) 0)) rfl) ?_
   refine Jf ?_
   refine Je ?_
   refine Jb ?_
   refine Ja rfl rfl rfl (Jd (v := v2) rfl) ?_
   refine Ja rfl rfl rfl (Jd (v := (U3 h v0 1 (Int.toNat x17_2) 0)) rfl) ?_
   refine Ja rfl rfl rfl (Jd (v := (U3 h v1 1 (Int.toNat x17_2) 0)) rfl) ?_
   obtain ⟨t29, h_t29, H18⟩ := Jh H17; clear H17
   refine l_callV (R := Jar a2) (r := .bool t29) (v := v2) (fun w hF hS => ⟨(f2.mono (hw.now hF)), ⟨t20, _, t24, _, _, ((show FrS h 1 (U3 h v0 1 (Int.toNat x17_2) 0) (t20.map J4) from (f0.at h_t20)).mono (hw.now hF)), ((show FrS h 1 (U3 h v1 1 (Int.toNat x17_2) 0) (t24.map J4) from (f1.at h_t24)).mono (hw.now hF)), rfl, h_t29, rfl⟩⟩) rfl rfl rfl rfl ?_
   refine Ja rfl rfl rfl (Vt rfl) ?_
   refine Jf ?_
   refine J5 (b := (!t29)) rfl (fun hb => ?_) (fun hb => ?_)
   ·have H19 := Jn hb H18; clear H18
    refine Je ?_
    refine Jb ?_
    refine Ja rfl rfl rfl (Jc (v := .bool false) rfl) ?_
    refine Jf ?_
    refine Jm ?_
    obtain rfl := Option.some.inj H19
    refine Jy (v := .bool false) rfl rfl (Xh rfl)
   ·have H20 := Jo hb H18; clear H18
    refine Jr ?_
    refine Jb ?_
    obtain ⟨t31, h_t31, H21⟩ := Jh H20; clear H20
    refine Ja rfl rfl rfl (Q2 rfl rfl h_t31) ?_
    refine Ja rfl rfl rfl (Jd (v := .int .i64 t31) rfl) ?_
    refine Jf ?_
    refine Jl t31 () m1 [] (by exact ⟨rfl, rfl, rfl, rfl, rfl, trivial⟩) (by decide) rfl (by exact ⟨(by subst hn1; exact H21), trivial⟩) (Nat.lt_succ_self _)
  ·have H22 := Jo hb H14; clear H14
   refine Qr ?_
   refine Je ?_
   refine Jb ?_
   refine Ja rfl rfl rfl (Jc (v := .bool true) rfl) ?_
   refine Jf ?_
   refine Jm ?_
   obtain rfl := Option.some.inj H22
   refine Jy (v := .bool true) rfl rfl (Xh rfl)
theorem k14 {a0 : (List Int)} {v0 : Value} {a1 : (List Int)} {v1 : Value} {r : Bool} {w : World} {h : J3} (hw : Know h w Zh) (f0 : FrS h 1 v0 (a0.map J4)) (f1 : FrS h 1 v1 (a1.map J4)) (H : Vm a0 a1 = some r) : Does Tryz.prog 14 (List.toArray [v0, v1]) w (fun v w' => v = (.bool r) ∧ Grow w w') := by
 refine enter (n := 26) Tryz.func14 rfl rfl rfl Zh [] (Sat.nil _ _) ?_
 refine Je ?_
 refine Jb ?_
 refine Ja rfl rfl rfl (Jc (v := .bool false) rfl) ?_
 refine Jf ?_
 refine Je ?_
 refine Je ?_
 refine Jb ?_
 refine Ja rfl rfl rfl (Jd (v := v0) rfl) ?_
 refine Ja rfl rfl rfl (Zl Tryz.underlying24 rfl f0 rfl) ?_
 refine Ja rfl rfl rfl (Jd (v := v1) rfl) ?_
 refine Ja rfl rfl rfl (Zl Tryz.underlying24 rfl f1 rfl) ?_
 refine Ja rfl rfl rfl (U0 rfl rfl) ?_
 refine Jf ?_
 refine J5 (b := (decide ((a0.length : Int) ≠ (a1.length : Int)))) rfl (fun hb => ?_) (fun hb => ?_)
 ·have H11 := Jn hb H; clear H
  refine Je ?_
  refine Jb ?_
  refine Ja rfl rfl rfl (Jc (v := .bool false) rfl) ?_
  refine Jf ?_
  refine Jm ?_
  obtain rfl := Option.some.inj H11
  refine Jy (v := .bool false) rfl rfl (Xh rfl)
 ·have H12 := Jo hb H; clear H
  refine Jr ?_
  refine Je ?_
  refine Je ?_
  refine Jb ?_
  refine Ja rfl rfl rfl (Jd (v := v0) rfl) ?_
  refine Ja rfl rfl rfl (Zl Tryz.underlying24 rfl f0 rfl) ?_
  refine Ja rfl rfl rfl (Jd (v := .int .i64 0) rfl) ?_
  refine Jf ?_
  refine Ju ?_
  refine Yv (σ := Int) (τ := Unit) (fun next1 s => Yb a0 a1 next1 s) (fun s t => [(0, v0), (1, v1), (12, .int .i64 (a0.length : Int)), (13, .int .i64 s)]) (fun s t => []) (fun s t => True) 0 () [] H12 (by exact trivial) (by exact ⟨rfl, rfl, rfl, rfl, trivial⟩) (by decide) rfl ?_
  rintro x13_2 _ m1 gg H13 _
  clear H12
  replace H13 : Yb a0 a1 (it (fun next1 s => Yb a0 a1 next1 s) m1) x13_2 = some r := H13
  generalize hn1 : it (fun next1 s => Yb a0 a1 next1 s) m1 = next1 at H13
  try dsimp only
  refine Je ?_
  refine Jb ?_
  refine Ja rfl rfl rfl (Q1 rfl rfl) ?_
  refine Jf ?_
  refine Je ?_
  refine J5 (b := (decide (x13_2 < (a0.length : Int)))) rfl (fun hb => ?_) (fun hb => ?_)
  ·have H14 := Jn hb H13; clear H13
   refine Jr ?_
   refine Je ?_
   refine Ju ?_
   refine Je ?_
   refine Jb ?_
   refine Ja rfl rfl rfl (Jd (v := .int .i64 x13_2) rfl) ?_
   refine Ja rfl rfl rfl (Jc (v := .int .i64 x13_2) rfl) ?_
   refine Jf ?_
   refine Je ?_
   exact Za (Kd.p :: Kd.p :: Kd.p :: Kd.d [] _ :: Kd.p :: Kd.p :: Kd.p :: Kd.d [] _ :: Kd.p :: []) 0 mixed (by
    refine Jt rfl rfl (Jd (v := v0) rfl) ?_
    refine Jt rfl rfl (Jd (v := .int .i64 x13_2) rfl) ?_
    have h_t18 := Qx H14
    have H15 := Qg H14
    refine Jt rfl rfl (Qm Tryz.underlying24 Tryz.sizeOf3 rfl rfl f0 h_t18) ?_
    refine d_read (fun w hF => Qj (f := J4) (i := x13_2) (sz := 1) (j := 0) (v := .int .i64 (val (Qn a0 x13_2))) Tryz.isAgg3 rfl rfl (f0.row (hw.now hF)) h_t18 rfl) rfl rfl ?_
    refine Jt rfl rfl (Jd (v := v1) rfl) ?_
    refine Jt rfl rfl (Jd (v := .int .i64 x13_2) rfl) ?_
    have h_t22 := Qx H15
    have H16 := Qg H15
    refine Jt rfl rfl (Qm Tryz.underlying24 Tryz.sizeOf3 rfl rfl f1 h_t22) ?_
    refine d_read (fun w hF => Qj (f := J4) (i := x13_2) (sz := 1) (j := 0) (v := .int .i64 (val (Qn a1 x13_2))) Tryz.isAgg3 rfl rfl (f1.row (hw.now hF)) h_t22 rfl) rfl rfl ?_
    refine Jt rfl rfl (U0 rfl rfl) ?_
    refine Ui ?_
    refine J5 (b := (decide ((val (Qn a0 x13_2)) ≠ (val (Qn a1 x13_2))))) rfl (fun hb => ?_) (fun hb => ?_)
    ·have H17 := Jn hb H16; clear H16
     refine Je ?_
     refine Jb ?_
     refine Ja rfl rfl rfl (Jc (v := .bool false) rfl) ?_
     refine Jf ?_
     refine Jm ?_
     obtain rfl := Option.some.inj H17
     refine Jy (v := .bool false) rfl rfl (Xh rfl)
    ·have H18 := Jo hb H16; clear H16
     refine Jr ?_
     refine Jb ?_
     obtain ⟨t25, h_t25, H19⟩ := Jh H18; clear H18
     refine Ja rfl rfl rfl (Q2 rfl rfl h_t25) ?_
     refine Ja rfl rfl rfl (Jd (v := .int .i64 t25) rfl) ?_
     refine Jf ?_
     refine Jl t25 () m1 [] (by exact ⟨rfl, rfl, rfl, rfl, trivial⟩) (by decide) rfl (by exact ⟨(by subst hn1; exact H19), trivial⟩) (Nat.lt_succ_self _)
    ) (by kernel_rfl)
  ·have H20 := Jo hb H13; clear H13
   refine Qr ?_
   refine Je ?_
   refine Jb ?_
   refine Ja rfl rfl rfl (Jc (v := .bool true) rfl) ?_
   refine Jf ?_
   refine Jm ?_
   obtain rfl := Option.some.inj H20
   refine Jy (v := .bool true) rfl rfl (Xh rfl)
theorem k3 {a0 : (List T_face_Likeness)} {v0 : Value} {a1 : (List T_face_Person)} {v1 : Value} {a2 : (List Int)} {v2 : Value} {a3 : (List Int)} {v3 : Value} {r : Bool} {w : World} {h : J3} (hw : Know h w Zh) (f0 : FrS h 14 v0 (a0.map Qf)) (f1 : FrN h 4 v1 g_face_Person a1) (f2 : FrS h 1 v2 (a2.map J4)) (f3 : FrS h 1 v3 (a3.map J4)) (H : Top_TopTold a0 a1 a2 a3 = some r) : Does Tryz.prog 3 (List.toArray [v0, v1, v2, v3]) w (fun v w' => v = (.bool r) ∧ Grow w w') := by
 refine enter (n := 104) Tryz.func3 rfl rfl rfl Zh [] (Sat.nil _ _) ?_
 refine c_poolNew noH ?_
 refine Je ?_
 refine Jb ?_
 refine W8 (cs := [v0]) rfl rfl rfl f0.cells (fun b5 => ?_)
 refine W8 (cs := [v1]) rfl rfl rfl f1.cells (fun b6 => ?_)
 refine Ja rfl rfl rfl (Jc (v := .bool false) rfl) ?_
 refine Jf ?_
 refine Je ?_
 refine Je ?_
 refine Jb ?_
 obtain ⟨t19, h_t19, H55⟩ := Jh H; clear H
 refine Qu (k4 h_t19) Tryz.call4 rfl rfl rfl ?_
 refine Ja rfl rfl rfl (Vt rfl) ?_
 refine Jf ?_
 refine J5 (b := (!t19)) rfl (fun hb => ?_) (fun hb => ?_)
 ·have H56 := Jn hb H55; clear H55
  refine Je ?_
  refine Jb ?_
  refine Ja rfl rfl rfl (Jc (v := .bool false) rfl) ?_
  refine Jf ?_
  refine Jm ?_
  obtain rfl := Option.some.inj H56
  refine Jy (v := .bool false) rfl rfl (Xh rfl)
 ·have H57 := Jo hb H55; clear H55
  refine Jr ?_
  refine Je ?_
  refine Je ?_
  refine Jb ?_
  refine J0 (i := 1) (v := v0) Tryz.isAgg22 rfl rfl rfl rfl rfl ?_
  refine J0 (i := 2) (v := v1) Tryz.isAgg23 rfl rfl rfl rfl rfl ?_
  obtain ⟨t23, h_t23, H58⟩ := Jh H57; clear H57
  refine Xq (fun w hF hS => k5 (Jx w) (f0.mono (hw.now hF)) (f1.mono (hw.now hF)) h_t23) Tryz.call5 rfl rfl rfl ?_
  refine Ja rfl rfl rfl (U0 rfl rfl) ?_
  refine Jf ?_
  refine J5 (b := (decide (t23 ≠ 0))) rfl (fun hb => ?_) (fun hb => ?_)
  ·have H59 := Jn hb H58; clear H58
   refine Je ?_
   refine Jb ?_
   refine Ja rfl rfl rfl (Jc (v := .bool true) rfl) ?_
   refine Jf ?_
   refine Jm ?_
   obtain rfl := Option.some.inj H59
   refine Jy (v := .bool true) rfl rfl (Xh rfl)
  ·have H60 := Jo hb H58; clear H58
   refine Jr ?_
   refine Je ?_
   refine Jb ?_
   obtain ⟨t26, h_t26, H61⟩ := Jh H60; clear H60
   refine Zf (Q3 (rds := []) (G := fun x : Nat × (Option Addr × Nat) => .tuple #[optP t26.1 x.1, .int .i64 t26.2]) (C := fun x : Nat × (Option Addr × Nat) => obxC (optP t26.1 x.1) t26.1 x.1 (fun z : T_sync_Replica => Yk (Jp x.1 [.int .i64 z.device_, .int .i64 (z.knows_ 0), .int .i64 (z.knows_ 1), .int .i64 (z.knows_ 2), .int .i64 (z.knows_ 3), .int .i64 (z.knows_ 4), .int .i64 (z.knows_ 5), .int .i64 (z.knows_ 6), .int .i64 (z.knows_ 7), .int .i64 (z.knows_ 8), .int .i64 (z.knows_ 9), .int .i64 (z.knows_ 10), .int .i64 (z.knows_ 11), .int .i64 (z.knows_ 12), .int .i64 (z.knows_ 13), .int .i64 (z.knows_ 14), .int .i64 (z.knows_ 15), .slice x.2.1 z.facts_.length x.2.2] 67) (Q0 52 8 (.slice x.2.1 z.facts_.length x.2.2) z.facts_.length (z.facts_.map Jj)))) (fun w L' hF hS hi => k6 (Jx w)  h_t26) Tryz.call6 rfl) rfl rfl rfl (fun ⟨p, p_2⟩ => ?_)
   refine Ja rfl rfl rfl (Jd (v := .tuple #[optP t26.1 p, .int .i64 t26.2]) rfl) ?_
   refine Ja rfl rfl rfl (Qz (v := optP t26.1 p) rfl rfl) ?_
   refine Ja rfl rfl rfl (Qz (v := .int .i64 t26.2) rfl rfl) ?_
   refine Ja rfl rfl rfl (Jc (v := optP t26.1 p) rfl) ?_
   refine Ja rfl rfl rfl (Jc (v := .int .i64 t26.2) rfl) ?_
   refine Jf ?_
   refine Je ?_
   refine Jb ?_
   obtain ⟨t30, h_t30, H62⟩ := Jh H61; clear H61
   refine Zf (Q3 (rds := []) (G := fun x : Nat × (Option Addr × Nat) => .tuple #[optP t30.1 x.1, .int .i64 t30.2]) (C := fun x : Nat × (Option Addr × Nat) => obxC (optP t30.1 x.1) t30.1 x.1 (fun z : T_sync_Replica => Yk (Jp x.1 [.int .i64 z.device_, .int .i64 (z.knows_ 0), .int .i64 (z.knows_ 1), .int .i64 (z.knows_ 2), .int .i64 (z.knows_ 3), .int .i64 (z.knows_ 4), .int .i64 (z.knows_ 5), .int .i64 (z.knows_ 6), .int .i64 (z.knows_ 7), .int .i64 (z.knows_ 8), .int .i64 (z.knows_ 9), .int .i64 (z.knows_ 10), .int .i64 (z.knows_ 11), .int .i64 (z.knows_ 12), .int .i64 (z.knows_ 13), .int .i64 (z.knows_ 14), .int .i64 (z.knows_ 15), .slice x.2.1 z.facts_.length x.2.2] 67) (Q0 52 8 (.slice x.2.1 z.facts_.length x.2.2) z.facts_.length (z.facts_.map Jj)))) (fun w L' hF hS hi => k6 (Jx w)  h_t30) Tryz.call6 rfl) rfl rfl rfl (fun ⟨p_3, p_4⟩ => ?_)
   refine Ja rfl rfl rfl (Jd (v := .tuple #[optP t30.1 p_3, .int .i64 t30.2]) rfl) ?_
   refine Ja rfl rfl rfl (Qz (v := optP t30.1 p_3) rfl rfl) ?_
   refine Ja rfl rfl rfl (Qz (v := .int .i64 t30.2) rfl rfl) ?_
   refine Ja rfl rfl rfl (Jc (v := optP t30.1 p_3) rfl) ?_
   refine Ja rfl rfl rfl (Jc (v := .int .i64 t30.2) rfl) ?_
   refine Jf ?_
   refine Je ?_
   refine Je ?_
   refine Jb ?_
   refine Ja rfl rfl rfl (Jd (v := .int .i64 t26.2) rfl) ?_
   refine Ja rfl rfl rfl (U0 rfl rfl) ?_
   refine Ja rfl rfl rfl (Jd (v := .bool (decide (t26.2 ≠ 0))) rfl) ?_
   refine split (fun hb => ?_) (fun hb => ?_)
   ·have H63 := Jn hb H62; clear H62
    refine Ji rfl rfl rfl ?_
    refine Ji rfl rfl rfl ?_
    refine Ja rfl rfl rfl (Jz (v := .bool true) rfl rfl) ?_
    refine Jf ?_
    refine Ur rfl ?_
    refine Je ?_
    refine Jb ?_
    refine Ja rfl rfl rfl (Jc (v := .bool false) rfl) ?_
    refine Jf ?_
    refine Jm ?_
    obtain rfl := Option.some.inj H63
    refine Jy (v := .bool false) rfl rfl (Xh rfl)
   ·have H64 := Jo hb H62; clear H62
    refine Ja rfl rfl rfl (Jd (v := .int .i64 t30.2) rfl) ?_
    refine Ja rfl rfl rfl (U0 rfl rfl) ?_
    refine Ja rfl rfl rfl (Jw (v := .bool (decide (t30.2 ≠ 0))) rfl rfl) ?_
    refine Jf ?_
    refine J5 (b := (decide (t30.2 ≠ 0))) rfl (fun hb => ?_) (fun hb => ?_)
    ·have H65 := Jn hb H64; clear H64
     refine Je ?_
     refine Jb ?_
     refine Ja rfl rfl rfl (Jc (v := .bool false) rfl) ?_
     refine Jf ?_
     refine Jm ?_
     obtain rfl := Option.some.inj H65
     refine Jy (v := .bool false) rfl rfl (Xh rfl)
    ·have H66 := Jo hb H64; clear H64
     refine Jr ?_
     refine Je ?_
     refine Je ?_
     refine Jb ?_
     refine Ja rfl rfl rfl (Jd (v := v2) rfl) ?_
     refine Ja rfl rfl rfl (Jd (v := v3) rfl) ?_
     refine Xc (vs := [v2, v3]) (cs := [v2, v3]) Tryz.underlying31 Tryz.sizeOf24 Tryz.zeroValue24 rfl rfl rfl rfl (by simp only [List.all_cons, List.all_nil, cells_sz f2.cells, cells_sz f3.cells] <;> rfl) rfl (by simp only [List.flatMap_cons, List.flatMap_nil, f2.cells, f3.cells] <;> rfl) (fun b7 => ?_)
     refine Ja rfl rfl rfl (Uj Tryz.underlying31 rfl) ?_
     refine Ja rfl rfl rfl (Jd (v := .int .i64 0) rfl) ?_
     refine Jf ?_
     refine Ju ?_
     refine c_loopR 100 ?_
     refine c_round ?_
     refine Je ?_
     refine Jb ?_
     refine Ja rfl rfl rfl (Q1 rfl rfl) ?_
     refine Jf ?_
     refine Je ?_
     refine Ur rfl ?_
     refine Jr ?_
     refine Xi (r := r) (σ := Int × (Nat → Int) × Int × (Nat → Int) × (List T_sync_Fact) × (List T_sync_Fact)) (τ := (Option Addr × Nat) × (Option Addr × Nat)) (fun s => Wl a0 a1 a2 a3 s.1 s.2.1 s.2.2.1 s.2.2.2.1 s.2.2.2.2.1 s.2.2.2.2.2) (fun s t => [(4, .pointer (some ⟨b5, 0, none⟩)), (5, .pointer (some ⟨b6, 0, none⟩)), (9, .pointer (some ⟨p, 0, none⟩)), (11, .pointer (some ⟨p_3, 0, none⟩)), (41, .slice (some ⟨b7, 0, none⟩) 2 2), (42, .int .i64 2), (43, .int .i64 0)]) (fun s t => [Wo noH noH, Jp b5 [v0] 22, Jp b6 [v1] 23, Jp p [.int .i64 s.1, .int .i64 (s.2.1 0), .int .i64 (s.2.1 1), .int .i64 (s.2.1 2), .int .i64 (s.2.1 3), .int .i64 (s.2.1 4), .int .i64 (s.2.1 5), .int .i64 (s.2.1 6), .int .i64 (s.2.1 7), .int .i64 (s.2.1 8), .int .i64 (s.2.1 9), .int .i64 (s.2.1 10), .int .i64 (s.2.1 11), .int .i64 (s.2.1 12), .int .i64 (s.2.1 13), .int .i64 (s.2.1 14), .int .i64 (s.2.1 15), .slice t.1.1 s.2.2.2.2.1.length t.1.2] 67, Jp p_3 [.int .i64 s.2.2.1, .int .i64 (s.2.2.2.1 0), .int .i64 (s.2.2.2.1 1), .int .i64 (s.2.2.2.1 2), .int .i64 (s.2.2.2.1 3), .int .i64 (s.2.2.2.1 4), .int .i64 (s.2.2.2.1 5), .int .i64 (s.2.2.2.1 6), .int .i64 (s.2.2.2.1 7), .int .i64 (s.2.2.2.1 8), .int .i64 (s.2.2.2.1 9), .int .i64 (s.2.2.2.1 10), .int .i64 (s.2.2.2.1 11), .int .i64 (s.2.2.2.1 12), .int .i64 (s.2.2.2.1 13), .int .i64 (s.2.2.2.1 14), .int .i64 (s.2.2.2.1 15), .slice t.2.1 s.2.2.2.2.2.length t.2.2] 67, Jp b7 [v2, v3] 24, Q0 52 8 (.slice t.1.1 s.2.2.2.2.1.length t.1.2) s.2.2.2.2.1.length (s.2.2.2.2.1.map Jj), Q0 52 8 (.slice t.2.1 s.2.2.2.2.2.length t.2.2) s.2.2.2.2.2.length (s.2.2.2.2.2.map Jj)]) (fun s t => True) ?_ ?_
     ·refine Ju ?_
      refine Je ?_
      try dsimp only [z1, z2, z5, z6, z7, z8]
      refine Jb ?_
      refine Ja rfl rfl rfl (Jd (v := .int .i64 0) rfl) ?_
      obtain ⟨t46_2, h_t46_2, H96⟩ := Jh H66; clear H66
      refine Ja rfl rfl rfl (r_indexS Tryz.underlying31 Tryz.sizeOf24 rfl rfl h_t46_2 rfl) ?_
      refine Qa (fun w hF hS => Qj (f := (litC [v2, v3] 1)) (i := 0) (sz := 1) (j := 0) (v := (List.getD (List.take 1 (List.drop ((Int.toNat 0) * 1) [v2, v3])) 0 undef)) Tryz.isAgg24 rfl rfl (Jac (sz := 1) (xs := (List.range 2).map (litC [v2, v3] 1)) (i := 5) hS rfl rfl rfl) (gAt_range h_t46_2) (rg_of (cgs_int (AllG.el (G := gs_int) (h := h) (sz := 1) (cs := [v2, v3]) (xs := ([a2, a3] : List (List Int))) ⟨f2, f3, rfl⟩ _ _ (Yo h_t46_2).2.2)) rfl)) rfl rfl rfl ?_
      refine Ja rfl rfl rfl (Jc (v := .int .i64 0) rfl) ?_
      refine Ja rfl rfl rfl (Jc (v := (List.getD (List.take 1 (List.drop ((Int.toNat 0) * 1) [v2, v3])) 0 undef)) rfl) ?_
      refine Jf ?_
      refine Je ?_
      refine Jb ?_
      refine Ja rfl rfl rfl (Jd (v := optP t26.1 p) rfl) ?_
      refine Ja rfl rfl rfl (Jd (v := optP t30.1 p_3) rfl) ?_
      obtain ⟨z, h_z, H97⟩ := Jh H96; clear H96
      refine c_obx 3 rfl h_z (fun hpv_ => ?_)
      rw [hpv_]; clear hpv_
      refine Uw 3 rfl ?_
      obtain ⟨z_2, h_z_2, H98⟩ := Jh H97; clear H97
      refine c_obx 4 rfl h_z_2 (fun hpv_ => ?_)
      rw [hpv_]; clear hpv_
      refine Uw 4 rfl ?_
      refine Xc (vs := [.pointer (some ⟨p, 0, none⟩), .pointer (some ⟨p_3, 0, none⟩)]) (cs := [.pointer (some ⟨p, 0, none⟩), .pointer (some ⟨p_3, 0, none⟩)]) Tryz.underlying32 Tryz.sizeOf28 Tryz.zeroValue28 rfl rfl rfl rfl rfl rfl rfl (fun b9 => ?_)
      refine c_imp 8 rfl (imp_box (m := 2) (E := 28) (sz := 1) (xs := ([some ⟨p, 0, none⟩, some ⟨p_3, 0, none⟩] : List (Option Addr)).map e_ptr) rfl rfl rfl ⟨rfl, by decide⟩) ?_
      refine Ja rfl rfl rfl (Jd (v := .int .i64 0) rfl) ?_
      refine Qa (fun w hF hS => Vr Tryz.underlying32 Tryz.sizeOf28 rfl rfl (rowOf (i := 8) (E := 28) (sz := 1) (n := 2) (a := ((some ⟨b9, 0, none⟩, 2) : Option Addr × Nat).1) (c := ((some ⟨b9, 0, none⟩, 2) : Option Addr × Nat).2) (xs := ([some ⟨p, 0, none⟩, some ⟨p_3, 0, none⟩] : List (Option Addr)).map e_ptr) hS rfl) rfl (show Qn ([some ⟨p, 0, none⟩, some ⟨p_3, 0, none⟩] : List (Option Addr)) 0 = some (some ⟨p, 0, none⟩) from rfl)) rfl rfl rfl ?_
      refine Qa (fun w hF hS => Qj (f := e_ptr) (i := 0) (sz := 1) (j := 0) (v := .pointer (some ⟨p, 0, none⟩)) Tryz.isAgg28 rfl rfl (rowOf (i := 8) (E := 28) (sz := 1) (n := 2) (a := ((some ⟨b9, 0, none⟩, 2) : Option Addr × Nat).1) (c := ((some ⟨b9, 0, none⟩, 2) : Option Addr × Nat).2) (xs := ([some ⟨p, 0, none⟩, some ⟨p_3, 0, none⟩] : List (Option Addr)).map e_ptr) hS rfl) (show Qn ([some ⟨p, 0, none⟩, some ⟨p_3, 0, none⟩] : List (Option Addr)) 0 = some (some ⟨p, 0, none⟩) from rfl) rfl) rfl rfl rfl ?_
      refine Ja rfl rfl rfl (Jc (v := .pointer (some ⟨p, 0, none⟩)) rfl) ?_
      refine Jf ?_
      refine Je ?_
      refine Jb ?_
      refine Ja rfl rfl rfl (Jd (v := (List.getD (List.take 1 (List.drop ((Int.toNat 0) * 1) [v2, v3])) 0 undef)) rfl) ?_
      refine Ja rfl rfl rfl (Zl Tryz.underlying24 rfl (show FrS h 1 (List.getD (List.take 1 (List.drop ((Int.toNat 0) * 1) [v2, v3])) 0 undef) (t46_2.map J4) from (AllG.el (G := gs_int) (h := h) (sz := 1) (cs := [v2, v3]) (xs := ([a2, a3] : List (List Int))) ⟨f2, f3, rfl⟩ _ _ (Yo h_t46_2).2.2)) rfl) ?_
      refine Ja rfl rfl rfl (Jd (v := .int .i64 0) rfl) ?_
      refine Jf ?_
      refine Ju ?_
      refine c_dr 8 ?_
      try dsimp only [z1, z2, z3, z4, z5, z6, z7, z8]
      refine Yv (σ := Int × Int × (Nat → Int) × (List T_sync_Fact)) (τ := (Option Addr × Nat)) (fun next5 s => Z8 a0 a1 a2 a3 t46_2 z_2 next5 s.1 s.2.1 s.2.2.1 s.2.2.2) (fun s t => [(4, .pointer (some ⟨b5, 0, none⟩)), (5, .pointer (some ⟨b6, 0, none⟩)), (9, .pointer (some ⟨p, 0, none⟩)), (11, .pointer (some ⟨p_3, 0, none⟩)), (15, .pointer (some ⟨p, 0, none⟩)), (41, .slice (some ⟨b7, 0, none⟩) 2 2), (42, .int .i64 2), (43, .int .i64 0), (54, (List.getD (List.take 1 (List.drop ((Int.toNat 0) * 1) [v2, v3])) 0 undef)), (55, .int .i64 (t46_2.length : Int)), (56, .int .i64 s.1)]) (fun s t => [Wo noH noH, Jp b5 [v0] 22, Jp b6 [v1] 23, Jp p [.int .i64 s.2.1, .int .i64 (s.2.2.1 0), .int .i64 (s.2.2.1 1), .int .i64 (s.2.2.1 2), .int .i64 (s.2.2.1 3), .int .i64 (s.2.2.1 4), .int .i64 (s.2.2.1 5), .int .i64 (s.2.2.1 6), .int .i64 (s.2.2.1 7), .int .i64 (s.2.2.1 8), .int .i64 (s.2.2.1 9), .int .i64 (s.2.2.1 10), .int .i64 (s.2.2.1 11), .int .i64 (s.2.2.1 12), .int .i64 (s.2.2.1 13), .int .i64 (s.2.2.1 14), .int .i64 (s.2.2.1 15), .slice t.1 s.2.2.2.length t.2] 67, Jp p_3 [.int .i64 z_2.device_, .int .i64 (z_2.knows_ 0), .int .i64 (z_2.knows_ 1), .int .i64 (z_2.knows_ 2), .int .i64 (z_2.knows_ 3), .int .i64 (z_2.knows_ 4), .int .i64 (z_2.knows_ 5), .int .i64 (z_2.knows_ 6), .int .i64 (z_2.knows_ 7), .int .i64 (z_2.knows_ 8), .int .i64 (z_2.knows_ 9), .int .i64 (z_2.knows_ 10), .int .i64 (z_2.knows_ 11), .int .i64 (z_2.knows_ 12), .int .i64 (z_2.knows_ 13), .int .i64 (z_2.knows_ 14), .int .i64 (z_2.knows_ 15), .slice p_4.1 z_2.facts_.length p_4.2] 67, Jp b7 [v2, v3] 24, Q0 52 8 (.slice t.1 s.2.2.2.length t.2) s.2.2.2.length (s.2.2.2.map Jj), Q0 52 8 (.slice p_4.1 z_2.facts_.length p_4.2) z_2.facts_.length (z_2.facts_.map Jj)]) (fun s t => True) (0, z.device_, z.knows_, z.facts_) p_2 [0, 1, 2, 3, 4, 5, 6, 7] H98 (by exact trivial) (by exact ⟨rfl, rfl, rfl, rfl, rfl, rfl, rfl, rfl, rfl, rfl, rfl, trivial⟩) (by decide) rfl ?_
      rintro ⟨x56_4, m_15, m_16, l_8⟩ p_18 m5 gg H99 _
      clear H98
      replace H99 : Z8 a0 a1 a2 a3 t46_2 z_2 (it (fun next5 s => Z8 a0 a1 a2 a3 t46_2 z_2 next5 s.1 s.2.1 s.2.2.1 s.2.2.2) m5) x56_4 m_15 m_16 l_8 = some r := H99
      generalize hn5 : it (fun next5 s => Z8 a0 a1 a2 a3 t46_2 z_2 next5 s.1 s.2.1 s.2.2.1 s.2.2.2) m5 = next5 at H99
      try dsimp only
      refine Je ?_
      refine Jb ?_
      refine Ja rfl rfl rfl (Q1 rfl rfl) ?_
      refine Jf ?_
      refine Je ?_
      refine J5 (b := (decide (x56_4 < (t46_2.length : Int)))) rfl (fun hb => ?_) (fun hb => ?_)
      ·have H100 := Jn hb H99; clear H99
       refine Jr ?_
       refine Xi (r := r) (σ := Int × (Nat → Int) × (List T_sync_Fact)) (τ := (Option Addr × Nat)) (fun s => Wv x56_4 next5 s.1 s.2.1 s.2.2) (fun s t => [(4, .pointer (some ⟨b5, 0, none⟩)), (5, .pointer (some ⟨b6, 0, none⟩)), (9, .pointer (some ⟨p, 0, none⟩)), (11, .pointer (some ⟨p_3, 0, none⟩)), (15, .pointer (some ⟨p, 0, none⟩)), (41, .slice (some ⟨b7, 0, none⟩) 2 2), (42, .int .i64 2), (43, .int .i64 0), (54, (List.getD (List.take 1 (List.drop ((Int.toNat 0) * 1) [v2, v3])) 0 undef)), (55, .int .i64 (t46_2.length : Int)), (56, .int .i64 x56_4)]) (fun s t => [Wo noH noH, Jp b5 [v0] 22, Jp b6 [v1] 23, Jp p [.int .i64 s.1, .int .i64 (s.2.1 0), .int .i64 (s.2.1 1), .int .i64 (s.2.1 2), .int .i64 (s.2.1 3), .int .i64 (s.2.1 4), .int .i64 (s.2.1 5), .int .i64 (s.2.1 6), .int .i64 (s.2.1 7), .int .i64 (s.2.1 8), .int .i64 (s.2.1 9), .int .i64 (s.2.1 10), .int .i64 (s.2.1 11), .int .i64 (s.2.1 12), .int .i64 (s.2.1 13), .int .i64 (s.2.1 14), .int .i64 (s.2.1 15), .slice t.1 s.2.2.length t.2] 67, Jp p_3 [.int .i64 z_2.device_, .int .i64 (z_2.knows_ 0), .int .i64 (z_2.knows_ 1), .int .i64 (z_2.knows_ 2), .int .i64 (z_2.knows_ 3), .int .i64 (z_2.knows_ 4), .int .i64 (z_2.knows_ 5), .int .i64 (z_2.knows_ 6), .int .i64 (z_2.knows_ 7), .int .i64 (z_2.knows_ 8), .int .i64 (z_2.knows_ 9), .int .i64 (z_2.knows_ 10), .int .i64 (z_2.knows_ 11), .int .i64 (z_2.knows_ 12), .int .i64 (z_2.knows_ 13), .int .i64 (z_2.knows_ 14), .int .i64 (z_2.knows_ 15), .slice p_4.1 z_2.facts_.length p_4.2] 67, Jp b7 [v2, v3] 24, Q0 52 8 (.slice t.1 s.2.2.length t.2) s.2.2.length (s.2.2.map Jj), Q0 52 8 (.slice p_4.1 z_2.facts_.length p_4.2) z_2.facts_.length (z_2.facts_.map Jj)]) (fun s t => True) ?_ ?_
       ·refine Ju ?_
        refine Je ?_
        refine Jb ?_
        obtain ⟨t58_2, h_t58_2, H103⟩ := Jh H100; clear H100
        refine Ja rfl rfl rfl (Qm Tryz.underlying24 Tryz.sizeOf3 rfl rfl (show FrS h 1 (List.getD (List.take 1 (List.drop ((Int.toNat 0) * 1) [v2, v3])) 0 undef) (t46_2.map J4) from (AllG.el (G := gs_int) (h := h) (sz := 1) (cs := [v2, v3]) (xs := ([a2, a3] : List (List Int))) ⟨f2, f3, rfl⟩ _ _ (Yo h_t46_2).2.2)) h_t58_2) ?_
        refine Qa (fun w hF hS => Qj (f := J4) (i := x56_4) (sz := 1) (j := 0) (v := .int .i64 t58_2) Tryz.isAgg3 rfl rfl ((show FrS h 1 (List.getD (List.take 1 (List.drop ((Int.toNat 0) * 1) [v2, v3])) 0 undef) (t46_2.map J4) from (AllG.el (G := gs_int) (h := h) (sz := 1) (cs := [v2, v3]) (xs := ([a2, a3] : List (List Int))) ⟨f2, f3, rfl⟩ _ _ (Yo h_t46_2).2.2)).row (hw.now hF)) h_t58_2 rfl) rfl rfl rfl ?_
        refine Ja rfl rfl rfl (Jc (v := .int .i64 t58_2) rfl) ?_
        refine Jf ?_
        refine Je ?_
        refine Jb ?_
        refine Ja rfl rfl rfl (Jd (v := .int .i64 t58_2) rfl) ?_
        refine Ja rfl rfl rfl (Q1 rfl rfl) ?_
        refine Jf ?_
        refine J5 (b := (decide (t58_2 < 0))) rfl (fun hb => ?_) (fun hb => ?_)
        ·have H104 := Jn hb H103; clear H103
         refine Jb ?_
         refine Ja rfl rfl rfl (Jd (v := .pointer (some ⟨p, 0, none⟩)) rfl) ?_
         refine Ja rfl rfl rfl (Jd (v := .int .i64 t58_2) rfl) ?_
         refine Ja rfl rfl rfl (r_negW rfl (wr_i64 _)) ?_
         obtain ⟨t65_2, h_t65_2, H105⟩ := Jh H104; clear H104
         refine Z6 3 6 rfl rfl (by decide) ?_
         refine Yl (Q7 (i := 3) (rds := []) (G := fun x : (Option Addr × Nat) => .int .i64 t65_2.1) (C := fun x : (Option Addr × Nat) => Yk (Jp p [.int .i64 t65_2.2.device_, .int .i64 (t65_2.2.knows_ 0), .int .i64 (t65_2.2.knows_ 1), .int .i64 (t65_2.2.knows_ 2), .int .i64 (t65_2.2.knows_ 3), .int .i64 (t65_2.2.knows_ 4), .int .i64 (t65_2.2.knows_ 5), .int .i64 (t65_2.2.knows_ 6), .int .i64 (t65_2.2.knows_ 7), .int .i64 (t65_2.2.knows_ 8), .int .i64 (t65_2.2.knows_ 9), .int .i64 (t65_2.2.knows_ 10), .int .i64 (t65_2.2.knows_ 11), .int .i64 (t65_2.2.knows_ 12), .int .i64 (t65_2.2.knows_ 13), .int .i64 (t65_2.2.knows_ 14), .int .i64 (t65_2.2.knows_ 15), .slice x.1 t65_2.2.facts_.length x.2] 67) (Q0 52 8 (.slice x.1 t65_2.2.facts_.length x.2) t65_2.2.facts_.length (t65_2.2.facts_.map Jj))) rfl (fun w L' S hF hS hi hp hlt ho hA => k7 hp hlt (Y0 w S) rfl h_t65_2) Tryz.call7 rfl) rfl rfl rfl (fun p_20 => ?_)
         refine Ub 3 6 rfl rfl (by decide) ?_
         refine Jf ?_
         refine Jl (t65_2.2.device_, t65_2.2.knows_, t65_2.2.facts_) p_20 0 [0, 1, 2, 3, 4, 5, 6, 7] (by exact ⟨rfl, rfl, rfl, rfl, rfl, rfl, rfl, rfl, rfl, rfl, rfl, trivial⟩) (by decide) rfl (by exact ⟨H105, trivial⟩) (Nat.lt_succ_self _)
        ·have H106 := Jo hb H103; clear H103
         refine Jb ?_
         refine Ja rfl rfl rfl (Jd (v := .pointer (some ⟨p, 0, none⟩)) rfl) ?_
         refine Ja rfl rfl rfl (Jd (v := .int .i64 t58_2) rfl) ?_
         obtain ⟨t68_2, h_t68_2, H107⟩ := Jh H106; clear H106
         refine Z6 3 6 rfl rfl (by decide) ?_
         refine Yl (Q7 (i := 3) (rds := []) (G := fun x : (Option Addr × Nat) => .int .i64 t68_2.1) (C := fun x : (Option Addr × Nat) => Yk (Jp p [.int .i64 t68_2.2.device_, .int .i64 (t68_2.2.knows_ 0), .int .i64 (t68_2.2.knows_ 1), .int .i64 (t68_2.2.knows_ 2), .int .i64 (t68_2.2.knows_ 3), .int .i64 (t68_2.2.knows_ 4), .int .i64 (t68_2.2.knows_ 5), .int .i64 (t68_2.2.knows_ 6), .int .i64 (t68_2.2.knows_ 7), .int .i64 (t68_2.2.knows_ 8), .int .i64 (t68_2.2.knows_ 9), .int .i64 (t68_2.2.knows_ 10), .int .i64 (t68_2.2.knows_ 11), .int .i64 (t68_2.2.knows_ 12), .int .i64 (t68_2.2.knows_ 13), .int .i64 (t68_2.2.knows_ 14), .int .i64 (t68_2.2.knows_ 15), .slice x.1 t68_2.2.facts_.length x.2] 67) (Q0 52 8 (.slice x.1 t68_2.2.facts_.length x.2) t68_2.2.facts_.length (t68_2.2.facts_.map Jj))) rfl (fun w L' S hF hS hi hp hlt ho hA => k8 hp hlt (Y0 w S) rfl h_t68_2) Tryz.call8 rfl) rfl rfl rfl (fun p_21 => ?_)
         refine Ub 3 6 rfl rfl (by decide) ?_
         refine Jf ?_
         refine Jl (t68_2.2.device_, t68_2.2.knows_, t68_2.2.facts_) p_21 0 [0, 1, 2, 3, 4, 5, 6, 7] (by exact ⟨rfl, rfl, rfl, rfl, rfl, rfl, rfl, rfl, rfl, rfl, rfl, trivial⟩) (by decide) rfl (by exact ⟨H107, trivial⟩) (Nat.lt_succ_self _)
       ·rintro ⟨m_17, m_18, l_9⟩ p_19 gg H101 _
        replace H101 : Wv x56_4 next5 m_17 m_18 l_9 = some r := H101
        try dsimp only
        refine Jb ?_
        obtain ⟨t69_2, h_t69_2, H102⟩ := Jh H101; clear H101
        refine Ja rfl rfl rfl (Q2 rfl rfl h_t69_2) ?_
        refine Ja rfl rfl rfl (Jd (v := .int .i64 t69_2) rfl) ?_
        refine Jf ?_
        refine Jl (t69_2, m_17, m_18, l_9) p_19 m5 [0, 1, 2, 3, 4, 5, 6, 7] (by exact ⟨rfl, rfl, rfl, rfl, rfl, rfl, rfl, rfl, rfl, rfl, rfl, trivial⟩) (by decide) rfl (by exact ⟨(by subst hn5; exact H102), trivial⟩) (Nat.lt_succ_self _)
      ·have H108 := Jo hb H99; clear H99
       refine Qr ?_
       refine Jl (m_15, m_16, z_2.device_, z_2.knows_, l_8, z_2.facts_) (p_18, p_4) 0 [0, 1, 2, 3, 4, 5, 6, 7] (by exact ⟨rfl, rfl, rfl, rfl, rfl, rfl, rfl, trivial⟩) (by decide) rfl (by exact ⟨H108, trivial⟩) (Nat.lt_succ_self _)
     ·rintro ⟨m, m_2, m_3, m_4, l, l_2⟩ ⟨p_5, p_6⟩ gg H67 _
      replace H67 : Wl a0 a1 a2 a3 m m_2 m_3 m_4 l l_2 = some r := H67
      try dsimp only
      refine Jb ?_
      refine Ja rfl rfl rfl (Q2 rfl rfl (show gI (0 + 1) = some 1 from rfl)) ?_
      refine Ja rfl rfl rfl (Jd (v := .int .i64 1) rfl) ?_
      refine Jf ?_
      refine c_round ?_
      refine Je ?_
      refine Jb ?_
      refine Ja rfl rfl rfl (Q1 rfl rfl) ?_
      refine Jf ?_
      refine Je ?_
      refine Ur rfl ?_
      refine Jr ?_
      refine Xi (r := r) (σ := Int × (Nat → Int) × (List T_sync_Fact)) (τ := (Option Addr × Nat)) (fun s => Wx a0 a1 m m_2 l s.1 s.2.1 s.2.2) (fun s t => [(4, .pointer (some ⟨b5, 0, none⟩)), (5, .pointer (some ⟨b6, 0, none⟩)), (9, .pointer (some ⟨p, 0, none⟩)), (11, .pointer (some ⟨p_3, 0, none⟩)), (41, .slice (some ⟨b7, 0, none⟩) 2 2), (42, .int .i64 2), (43, .int .i64 1)]) (fun s t => [Wo noH noH, Jp b5 [v0] 22, Jp b6 [v1] 23, Jp p [.int .i64 m, .int .i64 (m_2 0), .int .i64 (m_2 1), .int .i64 (m_2 2), .int .i64 (m_2 3), .int .i64 (m_2 4), .int .i64 (m_2 5), .int .i64 (m_2 6), .int .i64 (m_2 7), .int .i64 (m_2 8), .int .i64 (m_2 9), .int .i64 (m_2 10), .int .i64 (m_2 11), .int .i64 (m_2 12), .int .i64 (m_2 13), .int .i64 (m_2 14), .int .i64 (m_2 15), .slice p_5.1 l.length p_5.2] 67, Jp p_3 [.int .i64 s.1, .int .i64 (s.2.1 0), .int .i64 (s.2.1 1), .int .i64 (s.2.1 2), .int .i64 (s.2.1 3), .int .i64 (s.2.1 4), .int .i64 (s.2.1 5), .int .i64 (s.2.1 6), .int .i64 (s.2.1 7), .int .i64 (s.2.1 8), .int .i64 (s.2.1 9), .int .i64 (s.2.1 10), .int .i64 (s.2.1 11), .int .i64 (s.2.1 12), .int .i64 (s.2.1 13), .int .i64 (s.2.1 14), .int .i64 (s.2.1 15), .slice t.1 s.2.2.length t.2] 67, Jp b7 [v2, v3] 24, Q0 52 8 (.slice p_5.1 l.length p_5.2) l.length (l.map Jj), Q0 52 8 (.slice t.1 s.2.2.length t.2) s.2.2.length (s.2.2.map Jj)]) (fun s t => True) ?_ ?_
      ·refine Ju ?_
       refine Je ?_
       refine Jb ?_
       refine Ja rfl rfl rfl (Jd (v := .int .i64 1) rfl) ?_
       obtain ⟨t46, h_t46, H85⟩ := Jh H67; clear H67
       refine Ja rfl rfl rfl (r_indexS Tryz.underlying31 Tryz.sizeOf24 rfl rfl h_t46 rfl) ?_
       refine Qa (fun w hF hS => Qj (f := (litC [v2, v3] 1)) (i := 1) (sz := 1) (j := 0) (v := (List.getD (List.take 1 (List.drop ((Int.toNat 1) * 1) [v2, v3])) 0 undef)) Tryz.isAgg24 rfl rfl (Jac (sz := 1) (xs := (List.range 2).map (litC [v2, v3] 1)) (i := 5) hS rfl rfl rfl) (gAt_range h_t46) (rg_of (cgs_int (AllG.el (G := gs_int) (h := h) (sz := 1) (cs := [v2, v3]) (xs := ([a2, a3] : List (List Int))) ⟨f2, f3, rfl⟩ _ _ (Yo h_t46).2.2)) rfl)) rfl rfl rfl ?_
       refine Ja rfl rfl rfl (Jc (v := .int .i64 1) rfl) ?_
       refine Ja rfl rfl rfl (Jc (v := (List.getD (List.take 1 (List.drop ((Int.toNat 1) * 1) [v2, v3])) 0 undef)) rfl) ?_
       refine Jf ?_
       refine Je ?_
       refine Jb ?_
       refine Ja rfl rfl rfl (Jd (v := .pointer (some ⟨p, 0, none⟩)) rfl) ?_
       refine Ja rfl rfl rfl (Jd (v := .pointer (some ⟨p_3, 0, none⟩)) rfl) ?_
       refine Xc (vs := [.pointer (some ⟨p, 0, none⟩), .pointer (some ⟨p_3, 0, none⟩)]) (cs := [.pointer (some ⟨p, 0, none⟩), .pointer (some ⟨p_3, 0, none⟩)]) Tryz.underlying32 Tryz.sizeOf28 Tryz.zeroValue28 rfl rfl rfl rfl rfl rfl rfl (fun b8 => ?_)
       refine c_imp 8 rfl (imp_box (m := 2) (E := 28) (sz := 1) (xs := ([some ⟨p, 0, none⟩, some ⟨p_3, 0, none⟩] : List (Option Addr)).map e_ptr) rfl rfl rfl ⟨rfl, by decide⟩) ?_
       refine Ja rfl rfl rfl (Jd (v := .int .i64 1) rfl) ?_
       refine Qa (fun w hF hS => Vr Tryz.underlying32 Tryz.sizeOf28 rfl rfl (rowOf (i := 8) (E := 28) (sz := 1) (n := 2) (a := ((some ⟨b8, 0, none⟩, 2) : Option Addr × Nat).1) (c := ((some ⟨b8, 0, none⟩, 2) : Option Addr × Nat).2) (xs := ([some ⟨p, 0, none⟩, some ⟨p_3, 0, none⟩] : List (Option Addr)).map e_ptr) hS rfl) rfl (show Qn ([some ⟨p, 0, none⟩, some ⟨p_3, 0, none⟩] : List (Option Addr)) 1 = some (some ⟨p_3, 0, none⟩) from rfl)) rfl rfl rfl ?_
       refine Qa (fun w hF hS => Qj (f := e_ptr) (i := 1) (sz := 1) (j := 0) (v := .pointer (some ⟨p_3, 0, none⟩)) Tryz.isAgg28 rfl rfl (rowOf (i := 8) (E := 28) (sz := 1) (n := 2) (a := ((some ⟨b8, 0, none⟩, 2) : Option Addr × Nat).1) (c := ((some ⟨b8, 0, none⟩, 2) : Option Addr × Nat).2) (xs := ([some ⟨p, 0, none⟩, some ⟨p_3, 0, none⟩] : List (Option Addr)).map e_ptr) hS rfl) (show Qn ([some ⟨p, 0, none⟩, some ⟨p_3, 0, none⟩] : List (Option Addr)) 1 = some (some ⟨p_3, 0, none⟩) from rfl) rfl) rfl rfl rfl ?_
       refine Ja rfl rfl rfl (Jc (v := .pointer (some ⟨p_3, 0, none⟩)) rfl) ?_
       refine Jf ?_
       refine Je ?_
       refine Jb ?_
       refine Ja rfl rfl rfl (Jd (v := (List.getD (List.take 1 (List.drop ((Int.toNat 1) * 1) [v2, v3])) 0 undef)) rfl) ?_
       refine Ja rfl rfl rfl (Zl Tryz.underlying24 rfl (show FrS h 1 (List.getD (List.take 1 (List.drop ((Int.toNat 1) * 1) [v2, v3])) 0 undef) (t46.map J4) from (AllG.el (G := gs_int) (h := h) (sz := 1) (cs := [v2, v3]) (xs := ([a2, a3] : List (List Int))) ⟨f2, f3, rfl⟩ _ _ (Yo h_t46).2.2)) rfl) ?_
       refine Ja rfl rfl rfl (Jd (v := .int .i64 0) rfl) ?_
       refine Jf ?_
       refine Ju ?_
       refine c_dr 8 ?_
       try dsimp only [z1, z2, z3, z4, z5, z6, z7, z8]
       refine Yv (σ := Int × Int × (Nat → Int) × (List T_sync_Fact)) (τ := (Option Addr × Nat)) (fun next3 s => Z5 a0 a1 m m_2 l t46 next3 s.1 s.2.1 s.2.2.1 s.2.2.2) (fun s t => [(4, .pointer (some ⟨b5, 0, none⟩)), (5, .pointer (some ⟨b6, 0, none⟩)), (9, .pointer (some ⟨p, 0, none⟩)), (11, .pointer (some ⟨p_3, 0, none⟩)), (15, .pointer (some ⟨p_3, 0, none⟩)), (41, .slice (some ⟨b7, 0, none⟩) 2 2), (42, .int .i64 2), (43, .int .i64 1), (54, (List.getD (List.take 1 (List.drop ((Int.toNat 1) * 1) [v2, v3])) 0 undef)), (55, .int .i64 (t46.length : Int)), (56, .int .i64 s.1)]) (fun s t => [Wo noH noH, Jp b5 [v0] 22, Jp b6 [v1] 23, Jp p [.int .i64 m, .int .i64 (m_2 0), .int .i64 (m_2 1), .int .i64 (m_2 2), .int .i64 (m_2 3), .int .i64 (m_2 4), .int .i64 (m_2 5), .int .i64 (m_2 6), .int .i64 (m_2 7), .int .i64 (m_2 8), .int .i64 (m_2 9), .int .i64 (m_2 10), .int .i64 (m_2 11), .int .i64 (m_2 12), .int .i64 (m_2 13), .int .i64 (m_2 14), .int .i64 (m_2 15), .slice p_5.1 l.length p_5.2] 67, Jp p_3 [.int .i64 s.2.1, .int .i64 (s.2.2.1 0), .int .i64 (s.2.2.1 1), .int .i64 (s.2.2.1 2), .int .i64 (s.2.2.1 3), .int .i64 (s.2.2.1 4), .int .i64 (s.2.2.1 5), .int .i64 (s.2.2.1 6), .int .i64 (s.2.2.1 7), .int .i64 (s.2.2.1 8), .int .i64 (s.2.2.1 9), .int .i64 (s.2.2.1 10), .int .i64 (s.2.2.1 11), .int .i64 (s.2.2.1 12), .int .i64 (s.2.2.1 13), .int .i64 (s.2.2.1 14), .int .i64 (s.2.2.1 15), .slice t.1 s.2.2.2.length t.2] 67, Jp b7 [v2, v3] 24, Q0 52 8 (.slice p_5.1 l.length p_5.2) l.length (l.map Jj), Q0 52 8 (.slice t.1 s.2.2.2.length t.2) s.2.2.2.length (s.2.2.2.map Jj)]) (fun s t => True) (0, m_3, m_4, l_2) p_6 [0, 1, 2, 3, 4, 5, 6, 7] H85 (by exact trivial) (by exact ⟨rfl, rfl, rfl, rfl, rfl, rfl, rfl, rfl, rfl, rfl, rfl, trivial⟩) (by decide) rfl ?_
       rintro ⟨x56_2, m_9, m_10, l_5⟩ p_14 m3 gg H86 _
       clear H85
       replace H86 : Z5 a0 a1 m m_2 l t46 (it (fun next3 s => Z5 a0 a1 m m_2 l t46 next3 s.1 s.2.1 s.2.2.1 s.2.2.2) m3) x56_2 m_9 m_10 l_5 = some r := H86
       generalize hn3 : it (fun next3 s => Z5 a0 a1 m m_2 l t46 next3 s.1 s.2.1 s.2.2.1 s.2.2.2) m3 = next3 at H86
       try dsimp only
       refine Je ?_
       refine Jb ?_
       refine Ja rfl rfl rfl (Q1 rfl rfl) ?_
       refine Jf ?_
       refine Je ?_
       refine J5 (b := (decide (x56_2 < (t46.length : Int)))) rfl (fun hb => ?_) (fun hb => ?_)
       ·have H87 := Jn hb H86; clear H86
        refine Jr ?_
        refine Xi (r := r) (σ := Int × (Nat → Int) × (List T_sync_Fact)) (τ := (Option Addr × Nat)) (fun s => Wr x56_2 next3 s.1 s.2.1 s.2.2) (fun s t => [(4, .pointer (some ⟨b5, 0, none⟩)), (5, .pointer (some ⟨b6, 0, none⟩)), (9, .pointer (some ⟨p, 0, none⟩)), (11, .pointer (some ⟨p_3, 0, none⟩)), (15, .pointer (some ⟨p_3, 0, none⟩)), (41, .slice (some ⟨b7, 0, none⟩) 2 2), (42, .int .i64 2), (43, .int .i64 1), (54, (List.getD (List.take 1 (List.drop ((Int.toNat 1) * 1) [v2, v3])) 0 undef)), (55, .int .i64 (t46.length : Int)), (56, .int .i64 x56_2)]) (fun s t => [Wo noH noH, Jp b5 [v0] 22, Jp b6 [v1] 23, Jp p [.int .i64 m, .int .i64 (m_2 0), .int .i64 (m_2 1), .int .i64 (m_2 2), .int .i64 (m_2 3), .int .i64 (m_2 4), .int .i64 (m_2 5), .int .i64 (m_2 6), .int .i64 (m_2 7), .int .i64 (m_2 8), .int .i64 (m_2 9), .int .i64 (m_2 10), .int .i64 (m_2 11), .int .i64 (m_2 12), .int .i64 (m_2 13), .int .i64 (m_2 14), .int .i64 (m_2 15), .slice p_5.1 l.length p_5.2] 67, Jp p_3 [.int .i64 s.1, .int .i64 (s.2.1 0), .int .i64 (s.2.1 1), .int .i64 (s.2.1 2), .int .i64 (s.2.1 3), .int .i64 (s.2.1 4), .int .i64 (s.2.1 5), .int .i64 (s.2.1 6), .int .i64 (s.2.1 7), .int .i64 (s.2.1 8), .int .i64 (s.2.1 9), .int .i64 (s.2.1 10), .int .i64 (s.2.1 11), .int .i64 (s.2.1 12), .int .i64 (s.2.1 13), .int .i64 (s.2.1 14), .int .i64 (s.2.1 15), .slice t.1 s.2.2.length t.2] 67, Jp b7 [v2, v3] 24, Q0 52 8 (.slice p_5.1 l.length p_5.2) l.length (l.map Jj), Q0 52 8 (.slice t.1 s.2.2.length t.2) s.2.2.length (s.2.2.map Jj)]) (fun s t => True) ?_ ?_
        ·refine Ju ?_
         refine Je ?_
         refine Jb ?_
         obtain ⟨t58, h_t58, H90⟩ := Jh H87; clear H87
         refine Ja rfl rfl rfl (Qm Tryz.underlying24 Tryz.sizeOf3 rfl rfl (show FrS h 1 (List.getD (List.take 1 (List.drop ((Int.toNat 1) * 1) [v2, v3])) 0 undef) (t46.map J4) from (AllG.el (G := gs_int) (h := h) (sz := 1) (cs := [v2, v3]) (xs := ([a2, a3] : List (List Int))) ⟨f2, f3, rfl⟩ _ _ (Yo h_t46).2.2)) h_t58) ?_
         refine Qa (fun w hF hS => Qj (f := J4) (i := x56_2) (sz := 1) (j := 0) (v := .int .i64 t58) Tryz.isAgg3 rfl rfl ((show FrS h 1 (List.getD (List.take 1 (List.drop ((Int.toNat 1) * 1) [v2, v3])) 0 undef) (t46.map J4) from (AllG.el (G := gs_int) (h := h) (sz := 1) (cs := [v2, v3]) (xs := ([a2, a3] : List (List Int))) ⟨f2, f3, rfl⟩ _ _ (Yo h_t46).2.2)).row (hw.now hF)) h_t58 rfl) rfl rfl rfl ?_
         refine Ja rfl rfl rfl (Jc (v := .int .i64 t58) rfl) ?_
         refine Jf ?_
         refine Je ?_
         refine Jb ?_
         refine Ja rfl rfl rfl (Jd (v := .int .i64 t58) rfl) ?_
         refine Ja rfl rfl rfl (Q1 rfl rfl) ?_
         refine Jf ?_
         refine J5 (b := (decide (t58 < 0))) rfl (fun hb => ?_) (fun hb => ?_)
         ·have H91 := Jn hb H90; clear H90
          refine Jb ?_
          refine Ja rfl rfl rfl (Jd (v := .pointer (some ⟨p_3, 0, none⟩)) rfl) ?_
          refine Ja rfl rfl rfl (Jd (v := .int .i64 t58) rfl) ?_
          refine Ja rfl rfl rfl (r_negW rfl (wr_i64 _)) ?_
          obtain ⟨t65, h_t65, H92⟩ := Jh H91; clear H91
          refine Z6 4 7 rfl rfl (by decide) ?_
          refine Yl (Q7 (i := 4) (rds := []) (G := fun x : (Option Addr × Nat) => .int .i64 t65.1) (C := fun x : (Option Addr × Nat) => Yk (Jp p_3 [.int .i64 t65.2.device_, .int .i64 (t65.2.knows_ 0), .int .i64 (t65.2.knows_ 1), .int .i64 (t65.2.knows_ 2), .int .i64 (t65.2.knows_ 3), .int .i64 (t65.2.knows_ 4), .int .i64 (t65.2.knows_ 5), .int .i64 (t65.2.knows_ 6), .int .i64 (t65.2.knows_ 7), .int .i64 (t65.2.knows_ 8), .int .i64 (t65.2.knows_ 9), .int .i64 (t65.2.knows_ 10), .int .i64 (t65.2.knows_ 11), .int .i64 (t65.2.knows_ 12), .int .i64 (t65.2.knows_ 13), .int .i64 (t65.2.knows_ 14), .int .i64 (t65.2.knows_ 15), .slice x.1 t65.2.facts_.length x.2] 67) (Q0 52 8 (.slice x.1 t65.2.facts_.length x.2) t65.2.facts_.length (t65.2.facts_.map Jj))) rfl (fun w L' S hF hS hi hp hlt ho hA => k7 hp hlt (Y0 w S) rfl h_t65) Tryz.call7 rfl) rfl rfl rfl (fun p_16 => ?_)
          refine Ub 4 7 rfl rfl (by decide) ?_
          refine Jf ?_
          refine Jl (t65.2.device_, t65.2.knows_, t65.2.facts_) p_16 0 [0, 1, 2, 3, 4, 5, 6, 7] (by exact ⟨rfl, rfl, rfl, rfl, rfl, rfl, rfl, rfl, rfl, rfl, rfl, trivial⟩) (by decide) rfl (by exact ⟨H92, trivial⟩) (Nat.lt_succ_self _)
         ·have H93 := Jo hb H90; clear H90
          refine Jb ?_
          refine Ja rfl rfl rfl (Jd (v := .pointer (some ⟨p_3, 0, none⟩)) rfl) ?_
          refine Ja rfl rfl rfl (Jd (v := .int .i64 t58) rfl) ?_
          obtain ⟨t68, h_t68, H94⟩ := Jh H93; clear H93
          refine Z6 4 7 rfl rfl (by decide) ?_
          refine Yl (Q7 (i := 4) (rds := []) (G := fun x : (Option Addr × Nat) => .int .i64 t68.1) (C := fun x : (Option Addr × Nat) => Yk (Jp p_3 [.int .i64 t68.2.device_, .int .i64 (t68.2.knows_ 0), .int .i64 (t68.2.knows_ 1), .int .i64 (t68.2.knows_ 2), .int .i64 (t68.2.knows_ 3), .int .i64 (t68.2.knows_ 4), .int .i64 (t68.2.knows_ 5), .int .i64 (t68.2.knows_ 6), .int .i64 (t68.2.knows_ 7), .int .i64 (t68.2.knows_ 8), .int .i64 (t68.2.knows_ 9), .int .i64 (t68.2.knows_ 10), .int .i64 (t68.2.knows_ 11), .int .i64 (t68.2.knows_ 12), .int .i64 (t68.2.knows_ 13), .int .i64 (t68.2.knows_ 14), .int .i64 (t68.2.knows_ 15), .slice x.1 t68.2.facts_.length x.2] 67) (Q0 52 8 (.slice x.1 t68.2.facts_.length x.2) t68.2.facts_.length (t68.2.facts_.map Jj))) rfl (fun w L' S hF hS hi hp hlt ho hA => k8 hp hlt (Y0 w S) rfl h_t68) Tryz.call8 rfl) rfl rfl rfl (fun p_17 => ?_)
          refine Ub 4 7 rfl rfl (by decide) ?_
          refine Jf ?_
          refine Jl (t68.2.device_, t68.2.knows_, t68.2.facts_) p_17 0 [0, 1, 2, 3, 4, 5, 6, 7] (by exact ⟨rfl, rfl, rfl, rfl, rfl, rfl, rfl, rfl, rfl, rfl, rfl, trivial⟩) (by decide) rfl (by exact ⟨H94, trivial⟩) (Nat.lt_succ_self _)
        ·rintro ⟨m_11, m_12, l_6⟩ p_15 gg H88 _
         replace H88 : Wr x56_2 next3 m_11 m_12 l_6 = some r := H88
         try dsimp only
         refine Jb ?_
         obtain ⟨t69, h_t69, H89⟩ := Jh H88; clear H88
         refine Ja rfl rfl rfl (Q2 rfl rfl h_t69) ?_
         refine Ja rfl rfl rfl (Jd (v := .int .i64 t69) rfl) ?_
         refine Jf ?_
         refine Jl (t69, m_11, m_12, l_6) p_15 m3 [0, 1, 2, 3, 4, 5, 6, 7] (by exact ⟨rfl, rfl, rfl, rfl, rfl, rfl, rfl, rfl, rfl, rfl, rfl, trivial⟩) (by decide) rfl (by exact ⟨(by subst hn3; exact H89), trivial⟩) (Nat.lt_succ_self _)
       ·have H95 := Jo hb H86; clear H86
        refine Qr ?_
        refine Jl (m_9, m_10, l_5) p_14 0 [0, 1, 2, 3, 4, 5, 6, 7] (by exact ⟨rfl, rfl, rfl, rfl, rfl, rfl, rfl, trivial⟩) (by decide) rfl (by exact ⟨H95, trivial⟩) (Nat.lt_succ_self _)
      ·rintro ⟨m_5, m_6, l_3⟩ p_7 gg H68 _
       replace H68 : Wx a0 a1 m m_2 l m_5 m_6 l_3 = some r := H68
       try dsimp only
       refine Jb ?_
       refine Ja rfl rfl rfl (Q2 rfl rfl (show gI (1 + 1) = some 2 from rfl)) ?_
       refine Ja rfl rfl rfl (Jd (v := .int .i64 2) rfl) ?_
       refine Jf ?_
       refine c_round ?_
       refine Je ?_
       refine Jb ?_
       refine Ja rfl rfl rfl (Q1 rfl rfl) ?_
       refine Jf ?_
       refine Je ?_
       refine Wi rfl ?_
       refine Qr ?_
       refine Je ?_
       refine Je ?_
       refine Jb ?_
       refine Ja rfl rfl rfl (Jd (v := .pointer (some ⟨p, 0, none⟩)) rfl) ?_
       refine Ja rfl rfl rfl (Jd (v := .pointer (some ⟨p_3, 0, none⟩)) rfl) ?_
       obtain ⟨t73, h_t73, H69⟩ := Jh H68; clear H68
       refine Z6 3 6 rfl rfl (by decide) ?_
       refine Yl (Q7 (i := 3) (rds := [4, 7]) (G := fun x : (Option Addr × Nat) => .int .i64 t73.1) (C := fun x : (Option Addr × Nat) => Yk (Jp p [.int .i64 t73.2.device_, .int .i64 (t73.2.knows_ 0), .int .i64 (t73.2.knows_ 1), .int .i64 (t73.2.knows_ 2), .int .i64 (t73.2.knows_ 3), .int .i64 (t73.2.knows_ 4), .int .i64 (t73.2.knows_ 5), .int .i64 (t73.2.knows_ 6), .int .i64 (t73.2.knows_ 7), .int .i64 (t73.2.knows_ 8), .int .i64 (t73.2.knows_ 9), .int .i64 (t73.2.knows_ 10), .int .i64 (t73.2.knows_ 11), .int .i64 (t73.2.knows_ 12), .int .i64 (t73.2.knows_ 13), .int .i64 (t73.2.knows_ 14), .int .i64 (t73.2.knows_ 15), .slice x.1 t73.2.facts_.length x.2] 67) (Q0 52 8 (.slice x.1 t73.2.facts_.length x.2) t73.2.facts_.length (t73.2.facts_.map Jj))) rfl (fun w L' S hF hS hi hp hlt ho hA => k9 hp hlt (Y0 w S) rfl (frb_off (j := 7) rfl hA hS (by decide) ((hi 7 (by simp)).trans rfl)) (cell_but (j := 4) hA hS (by decide) ((hi 4 (by simp)).trans rfl)) h_t73) Tryz.call9 rfl) rfl rfl rfl (fun p_8 => ?_)
       refine Ub 3 6 rfl rfl (by decide) ?_
       refine Ja rfl rfl rfl (U0 rfl rfl) ?_
       refine Ja rfl rfl rfl (Jd (v := .bool (decide (t73.1 ≠ 0))) rfl) ?_
       refine split (fun hb => ?_) (fun hb => ?_)
       ·have H70 := Jn hb H69; clear H69
        refine Ji rfl rfl rfl ?_
        refine Ji rfl rfl rfl ?_
        refine Ji rfl rfl rfl ?_
        refine Ji rfl rfl rfl ?_
        refine Ja rfl rfl rfl (Jz (v := .bool true) rfl rfl) ?_
        refine Jf ?_
        refine Ur rfl ?_
        refine Je ?_
        refine Jb ?_
        refine Ja rfl rfl rfl (Jc (v := .bool true) rfl) ?_
        refine Jf ?_
        refine Jm ?_
        obtain rfl := Option.some.inj H70
        refine Jy (v := .bool true) rfl rfl (Xh rfl)
       ·have H71 := Jo hb H69; clear H69
        refine Ja rfl rfl rfl (Jd (v := .pointer (some ⟨p_3, 0, none⟩)) rfl) ?_
        refine Ja rfl rfl rfl (Jd (v := .pointer (some ⟨p, 0, none⟩)) rfl) ?_
        obtain ⟨t78, h_t78, H72⟩ := Jh H71; clear H71
        refine Z6 4 7 rfl rfl (by decide) ?_
        refine Yl (Q7 (i := 4) (rds := [3, 6]) (G := fun x : (Option Addr × Nat) => .int .i64 t78.1) (C := fun x : (Option Addr × Nat) => Yk (Jp p_3 [.int .i64 t78.2.device_, .int .i64 (t78.2.knows_ 0), .int .i64 (t78.2.knows_ 1), .int .i64 (t78.2.knows_ 2), .int .i64 (t78.2.knows_ 3), .int .i64 (t78.2.knows_ 4), .int .i64 (t78.2.knows_ 5), .int .i64 (t78.2.knows_ 6), .int .i64 (t78.2.knows_ 7), .int .i64 (t78.2.knows_ 8), .int .i64 (t78.2.knows_ 9), .int .i64 (t78.2.knows_ 10), .int .i64 (t78.2.knows_ 11), .int .i64 (t78.2.knows_ 12), .int .i64 (t78.2.knows_ 13), .int .i64 (t78.2.knows_ 14), .int .i64 (t78.2.knows_ 15), .slice x.1 t78.2.facts_.length x.2] 67) (Q0 52 8 (.slice x.1 t78.2.facts_.length x.2) t78.2.facts_.length (t78.2.facts_.map Jj))) rfl (fun w L' S hF hS hi hp hlt ho hA => k9 hp hlt (Y0 w S) rfl (frb_off (j := 6) rfl hA hS (by decide) ((hi 6 (by simp)).trans rfl)) (cell_but (j := 3) hA hS (by decide) ((hi 3 (by simp)).trans rfl)) h_t78) Tryz.call9 rfl) rfl rfl rfl (fun p_9 => ?_)
        refine Ub 4 7 rfl rfl (by decide) ?_
        refine Ja rfl rfl rfl (U0 rfl rfl) ?_
        refine Ja rfl rfl rfl (Jw (v := .bool (decide (t78.1 ≠ 0))) rfl rfl) ?_
        refine Jf ?_
        refine J5 (b := (decide (t78.1 ≠ 0))) rfl (fun hb => ?_) (fun hb => ?_)
        ·have H73 := Jn hb H72; clear H72
         refine Je ?_
         try dsimp only [z1, z2, z5, z6, z7, z8]
         refine Jb ?_
         refine Ja rfl rfl rfl (Jc (v := .bool true) rfl) ?_
         refine Jf ?_
         refine Jm ?_
         obtain rfl := Option.some.inj H73
         refine Jy (v := .bool true) rfl rfl (Xh rfl)
        ·have H74 := Jo hb H72; clear H72
         refine Jr ?_
         refine Je ?_
         refine Jb ?_
         refine Ja rfl rfl rfl (r_makeFn (caps := #[.pointer (some ⟨b5, 0, none⟩), .pointer (some ⟨b6, 0, none⟩)]) rfl) ?_
         refine Ja rfl rfl rfl (Jc (v := .func (.func 10) #[] #[.pointer (some ⟨b5, 0, none⟩), .pointer (some ⟨b6, 0, none⟩)]) rfl) ?_
         refine Jf ?_
         refine Je ?_
         refine Jb ?_
         refine Ja rfl rfl rfl (Jd (v := .func (.func 10) #[] #[.pointer (some ⟨b5, 0, none⟩), .pointer (some ⟨b6, 0, none⟩)]) rfl) ?_
         refine Ja rfl rfl rfl (Jd (v := .pointer (some ⟨p, 0, none⟩)) rfl) ?_
         obtain ⟨t84, h_t84, H75⟩ := Jh H74; clear H74
         refine Zf (makes_callV (R := fun w_ args_ post_ => args_ = [.pointer (some ⟨p, 0, none⟩)] ∧ post_ = fun v' w' => ∃ x : (Option Addr × Nat), v' = .slice x.1 t84.length x.2 ∧ Turn w_ w' Zh (rowD 24 1 gs_int (.slice x.1 t84.length x.2) t84.length t84)) (v := .func (.func 10) #[] #[.pointer (some ⟨b5, 0, none⟩), .pointer (some ⟨b6, 0, none⟩)]) (rds := [1, 2, 3, 6]) (G := fun x : (Option Addr × Nat) => .slice x.1 t84.length x.2) (C := fun x : (Option Addr × Nat) => rowD 24 1 gs_int (.slice x.1 t84.length x.2) t84.length t84) (fun w L' hF hS hi => ⟨(FnH.mk ⟨10, #[], #[.pointer (some ⟨b5, 0, none⟩), .pointer (some ⟨b6, 0, none⟩)], rfl, Tryz.call10, fun args2_ post2_ w2_ hk2_ hR2_ => by obtain ⟨rfl, rfl⟩ := hR2_; exact k10 (h := fun b => w.heap[b]?) hk2_ (f0.mono (hw.now hF)) (Q8 (i := 1) hS ((hi 1 (by simp)).trans rfl)) (f1.mono (hw.now hF)) (Q8 (i := 2) hS ((hi 2 (by simp)).trans rfl)) (frs_off (i := 6) rfl hS ((hi 6 (by simp)).trans rfl)) (Q8 (i := 3) hS ((hi 3 (by simp)).trans rfl)) h_t84⟩), ⟨rfl, rfl⟩⟩) rfl rfl) rfl rfl rfl (fun p_10 => ?_)
         refine c_rowD 8 rfl (fun hp css hn pf => ?_)
         rw [hn]
         refine Uw 8 rfl ?_
         refine c_poolJoin 0 8 rfl rfl (by decide) (fun _ _ => noH_le) (fun hp_2 hle hle_2 => ?_)
         refine Ja rfl rfl rfl (Jd (v := .func (.func 10) #[] #[.pointer (some ⟨b5, 0, none⟩), .pointer (some ⟨b6, 0, none⟩)]) rfl) ?_
         refine Ja rfl rfl rfl (Jd (v := .pointer (some ⟨p_3, 0, none⟩)) rfl) ?_
         obtain ⟨t87, h_t87, H76⟩ := Jh H75; clear H75
         refine Zf (makes_callV (R := fun w_ args_ post_ => args_ = [.pointer (some ⟨p_3, 0, none⟩)] ∧ post_ = fun v' w' => ∃ x : (Option Addr × Nat), v' = .slice x.1 t87.length x.2 ∧ Turn w_ w' Zh (rowD 24 1 gs_int (.slice x.1 t87.length x.2) t87.length t87)) (v := .func (.func 10) #[] #[.pointer (some ⟨b5, 0, none⟩), .pointer (some ⟨b6, 0, none⟩)]) (rds := [1, 2, 4, 7]) (G := fun x : (Option Addr × Nat) => .slice x.1 t87.length x.2) (C := fun x : (Option Addr × Nat) => rowD 24 1 gs_int (.slice x.1 t87.length x.2) t87.length t87) (fun w L' hF hS hi => ⟨(FnH.mk ⟨10, #[], #[.pointer (some ⟨b5, 0, none⟩), .pointer (some ⟨b6, 0, none⟩)], rfl, Tryz.call10, fun args2_ post2_ w2_ hk2_ hR2_ => by obtain ⟨rfl, rfl⟩ := hR2_; exact k10 (h := fun b => w.heap[b]?) hk2_ (f0.mono (hw.now hF)) (Q8 (i := 1) hS ((hi 1 (by simp)).trans rfl)) (f1.mono (hw.now hF)) (Q8 (i := 2) hS ((hi 2 (by simp)).trans rfl)) (frs_off (i := 7) rfl hS ((hi 7 (by simp)).trans rfl)) (Q8 (i := 4) hS ((hi 4 (by simp)).trans rfl)) h_t87⟩), ⟨rfl, rfl⟩⟩) rfl rfl) rfl rfl rfl (fun p_11 => ?_)
         refine c_rowD 10 rfl (fun hp_3 css_2 hn_2 pf_2 => ?_)
         rw [hn_2]
         refine Uw 10 rfl ?_
         try dsimp only [z1, z2, z5, z6, z7, z8]
         refine c_poolJoin 0 10 rfl rfl (by decide) (fun _ _ => noH_le) (fun hp_4 hle_3 hle_4 => ?_)
         obtain ⟨t88, h_t88, H77⟩ := Jh H76; clear H76
         refine Xq (fun w hF hS => k13 (Jx w) (frn_of (xs := t84) (frs_own (i := 9) rfl hS rfl) (((pf.mono hle_2).mono hle_3).mono (pool_now (i := 0) hS rfl noH_le))) (frn_of (xs := t87) (frs_own (i := 11) rfl hS rfl) ((pf_2.mono hle_4).mono (pool_now (i := 0) hS rfl noH_le))) (FnH.mk ⟨14, #[], #[], rfl, Tryz.call14, fun args2 post2 w2 hk2 hR2 => by obtain ⟨a0_, v0_, a1_, v1_, r_, fa0_, fa1_, rfl, H_, rfl⟩ := hR2; exact k14 (Jx w2) fa0_ fa1_ H_⟩) h_t88) Tryz.call13 rfl rfl rfl ?_
         refine Ja rfl rfl rfl (Jd (v := .bool t88) rfl) ?_
         refine split (fun hb => ?_) (fun hb => ?_)
         ·have H78 := Jn hb H77; clear H77
          refine Ja rfl rfl rfl (Jd (v := .func (.func 10) #[] #[.pointer (some ⟨b5, 0, none⟩), .pointer (some ⟨b6, 0, none⟩)]) rfl) ?_
          refine Ja rfl rfl rfl (Jd (v := .pointer (some ⟨p, 0, none⟩)) rfl) ?_
          obtain ⟨t92, h_t92, H79⟩ := Jh H78; clear H78
          refine Zf (makes_callV (R := fun w_ args_ post_ => args_ = [.pointer (some ⟨p, 0, none⟩)] ∧ post_ = fun v' w' => ∃ x : (Option Addr × Nat), v' = .slice x.1 t92.length x.2 ∧ Turn w_ w' Zh (rowD 24 1 gs_int (.slice x.1 t92.length x.2) t92.length t92)) (v := .func (.func 10) #[] #[.pointer (some ⟨b5, 0, none⟩), .pointer (some ⟨b6, 0, none⟩)]) (rds := [1, 2, 3, 6]) (G := fun x : (Option Addr × Nat) => .slice x.1 t92.length x.2) (C := fun x : (Option Addr × Nat) => rowD 24 1 gs_int (.slice x.1 t92.length x.2) t92.length t92) (fun w L' hF hS hi => ⟨(FnH.mk ⟨10, #[], #[.pointer (some ⟨b5, 0, none⟩), .pointer (some ⟨b6, 0, none⟩)], rfl, Tryz.call10, fun args2_ post2_ w2_ hk2_ hR2_ => by obtain ⟨rfl, rfl⟩ := hR2_; exact k10 (h := fun b => w.heap[b]?) hk2_ (f0.mono (hw.now hF)) (Q8 (i := 1) hS ((hi 1 (by simp)).trans rfl)) (f1.mono (hw.now hF)) (Q8 (i := 2) hS ((hi 2 (by simp)).trans rfl)) (frs_off (i := 6) rfl hS ((hi 6 (by simp)).trans rfl)) (Q8 (i := 3) hS ((hi 3 (by simp)).trans rfl)) h_t92⟩), ⟨rfl, rfl⟩⟩) rfl rfl) rfl rfl rfl (fun p_12 => ?_)
          refine c_rowD 12 rfl (fun hp_5 css_3 hn_3 pf_3 => ?_)
          rw [hn_3]
          refine Uw 12 rfl ?_
          try dsimp only [z1, z2, z5, z6, z7, z8]
          refine c_poolJoin 0 12 rfl rfl (by decide) (fun _ _ => noH_le) (fun hp_6 hle_5 hle_6 => ?_)
          refine Ja rfl rfl rfl (r_lenN Tryz.underlying31 rfl hn_3.symm) ?_
          refine Ja rfl rfl rfl (Jd (v := .pointer (some ⟨p, 0, none⟩)) rfl) ?_
          obtain ⟨t95, h_t95, H80⟩ := Jh H79; clear H79
          refine Zf (Q3 (rds := [3, 6]) (G := fun x : (Option Addr × Nat) => .slice x.1 t95.length x.2) (C := fun x : (Option Addr × Nat) => roD 6 g_sync_Shown (.slice x.1 t95.length x.2) t95.length t95) (fun w L' hF hS hi => k11 (Jx w) (frs_off (i := 6) rfl hS ((hi 6 (by simp)).trans rfl)) (Q8 (i := 3) hS ((hi 3 (by simp)).trans rfl)) h_t95) Tryz.call11 rfl) rfl rfl rfl (fun p_13 => ?_)
          refine c_roD 14 rfl (fun hp_7 css_4 hn_4 pf_4 => ?_)
          refine Uw 14 rfl ?_
          try dsimp only [z1, z2, z5, z6, z7, z8]
          refine c_poolJoin 0 14 rfl rfl (by decide) (fun _ _ => noH_le) (fun hp_8 hle_7 hle_8 => ?_)
          refine Ja rfl rfl rfl (Uj Tryz.underlying36 rfl) ?_
          refine Ja rfl rfl rfl (Zp rfl rfl) ?_
          refine Ja rfl rfl rfl (Jz (v := .bool (decide ((t92.length : Int) = (t95.length : Int)))) rfl rfl) ?_
          refine Ja rfl rfl rfl (Jd (v := .bool (decide ((t92.length : Int) = (t95.length : Int)))) rfl) ?_
          refine split (fun hb => ?_) (fun hb => ?_)
          ·have H81 := Jn hb H80; clear H80
           refine Ja rfl rfl rfl (Jd (v := .pointer (some ⟨p, 0, none⟩)) rfl) ?_
           refine Ja rfl rfl rfl (Jd (v := .pointer (some ⟨p_3, 0, none⟩)) rfl) ?_
           obtain ⟨t102, h_t102, H82⟩ := Jh H81; clear H81
           refine Xq (fun w hF hS => k15 (Jx w) (frs_off (i := 6) rfl hS rfl) (Q8 (i := 3) hS rfl) (frs_off (i := 7) rfl hS rfl) (Q8 (i := 4) hS rfl) h_t102) Tryz.call15 rfl rfl rfl ?_
           refine Ja rfl rfl rfl (Jz (v := .bool t102) rfl rfl) ?_
           refine Ja rfl rfl rfl (Jc (v := .bool t102) rfl) ?_
           refine Jf ?_
           try dsimp only [z1, z2, z5, z6, z7, z8]
           refine Jm ?_
           obtain rfl := Option.some.inj H82
           refine Jy (v := .bool t102) rfl rfl (Xh rfl)
          ·have H83 := Jo hb H80; clear H80
           refine Ji rfl rfl rfl ?_
           refine Ji rfl rfl rfl ?_
           refine Ji rfl rfl rfl ?_
           refine Ja rfl rfl rfl (Jw (v := .bool false) rfl rfl) ?_
           refine Ja rfl rfl rfl (Jc (v := .bool false) rfl) ?_
           refine Jf ?_
           try dsimp only [z1, z2, z5, z6, z7, z8]
           refine Jm ?_
           obtain rfl := Option.some.inj H83
           refine Jy (v := .bool false) rfl rfl (Xh rfl)
         ·have H84 := Jo hb H77; clear H77
          refine Ji rfl rfl rfl ?_
          refine Ji rfl rfl rfl ?_
          refine Ji rfl rfl rfl ?_
          refine Ji rfl rfl rfl ?_
          refine Ji rfl rfl rfl ?_
          refine Ji rfl rfl rfl ?_
          refine Ji rfl rfl rfl ?_
          refine Ji rfl rfl rfl ?_
          refine Ja rfl rfl rfl (Jw (v := .bool false) rfl rfl) ?_
          refine Ja rfl rfl rfl (Jd (v := .bool false) rfl) ?_
          refine Ji rfl rfl rfl ?_
          refine Ji rfl rfl rfl ?_
          refine Ji rfl rfl rfl ?_
          refine Ja rfl rfl rfl (Jw (v := .bool false) rfl rfl) ?_
          refine Ja rfl rfl rfl (Jc (v := .bool false) rfl) ?_
          refine Jf ?_
          try dsimp only [z1, z2, z5, z6, z7, z8]
          refine Jm ?_
          obtain rfl := Option.some.inj H84
          refine Jy (v := .bool false) rfl rfl (Xh rfl)
end Go.Proofs.YtpikgcmaljmlmaaGreatDoor

/- Plain lemmas about models: loops that count, scans for a first error. Conditions: none. -/
namespace Go.Pl
open Go.Md
theorem up {ρ : Type} {F : (Int → Option ρ) → Int → Option ρ} (n : Nat) (spec : Nat → Option ρ)
  (step : ∀ (next : Int → Option ρ) (k : Nat), k ≤ n → (k < n → next ((k : Int) + 1) = spec (k + 1)) → F next (k : Int) = spec k) : W5 F 0 = spec 0 := by
 have h := fix_of (F := F) (fun i => spec i.toNat) (fun i => 0 ≤ i ∧ i ≤ n) (fun i => n - i.toNat) (by
  intro next a ⟨h0, h1⟩ ih
  obtain ⟨k, rfl⟩ := Int.eq_ofNat_of_zero_le h0
  simp only [Int.toNat_natCast]
  refine step next k (by omega) fun hk => ?_
  have := ih ((k : Int) + 1) (by omega) (by simp only [Int.toNat_natCast]; omega)
  rw [this, show ((k : Int) + 1).toNat = k + 1 from by omega]) 0 (by omega)
 simpa using h
def firstE (c : Nat → Int) : Nat → Nat → Int
 | 0, _ => 0
 | m + 1, k => if c k = 0 then firstE c m (k + 1) else c k
theorem firstE_zero {c : Nat → Int} : ∀ {m k : Nat}, firstE c m k = 0 → ∀ j, k ≤ j → j < k + m → c j = 0
 | 0, k, _, j, h1, h2 => by omega
 | m + 1, k, h, j, h1, h2 => by
  simp only [firstE] at h
  split at h
  ·rename_i h0
   by_cases hj : j = k
   ·subst hj; exact h0
   ·exact firstE_zero h j (by omega) (by omega)
  ·rename_i h0; exact absurd h h0
theorem firstE_all {c : Nat → Int} : ∀ (m k : Nat), (∀ j, k ≤ j → j < k + m → c j = 0) → firstE c m k = 0
 | 0, _, _ => rfl
 | m + 1, k, h => by
  simp only [firstE]
  rw [if_pos (h k (Nat.le_refl _) (by omega)), firstE_all m (k + 1) fun j h1 h2 => h j (by omega) (by omega)]
theorem scan {F : (Int → Option Int) → Int → Option Int} (n : Nat) (c : Nat → Int) (step : ∀ (next : Int → Option Int) (k : Nat), k < n → F next (k : Int) = if c k = 0 then next ((k : Int) + 1) else some (c k)) (last : ∀ next, F next (n : Int) = some 0) : W5 F 0 = some (firstE c n 0) := by
 have h := up (F := F) n (fun k => some (firstE c (n - k) k)) (by
  intro next k hk ih
  by_cases h : k < n
  ·rw [step next k h, show n - k = (n - (k + 1)) + 1 from by omega]
   simp only [firstE]
   split
   ·rw [ih h]
   ·rfl
  ·have : k = n := by omega
   subst this
   rw [last, Nat.sub_self]; rfl)
 simpa using h
end Go.Pl

/- More plain lemmas about models: loops that run or go on, two loops that do the same, loops that collect. Conditions: none. -/
namespace Go.Pl
open Go.Md
theorem fix_run {α ρ : Type} {F : (α → Option ρ) → α → Option ρ} (I : α → Prop) (μ : α → Nat) (Ue : ρ → Prop)
  (step : ∀ a, I a → (∃ r, Ue r ∧ ∀ next, F next a = some r) ∨ (∃ b, I b ∧ μ b < μ a ∧ ∀ next, F next a = next b)) (a : α) (ha : I a) : ∃ r, W5 F a = some r ∧ Ue r := by
 have key : ∀ n a, I a → μ a < n → ∃ r, W5 F a = some r ∧ Ue r := by
  intro n
  induction n with
  | zero => intro a _ h; omega
  | succ n ih =>
   intro a ha h
   rcases step a ha with ⟨r, h1, h2⟩ | ⟨b, h1, h2, h3⟩
   ·exact ⟨r, Yq h2, h1⟩
   ·rw [Yu b h3]; exact ih b h1 (by omega)
 exact key (μ a + 1) a ha (by omega)
theorem fix_runP {α ρ π κ : Type} {F : π → (α → Option ρ) → α → Option ρ} (J : π → κ → Option ρ) (I : α → Prop) (μ : α → Nat) (Ue : κ → Prop)
  (step : ∀ a, I a → (∃ r, Ue r ∧ ∀ p next, F p next a = J p r) ∨ (∃ b, I b ∧ μ b < μ a ∧ ∀ p next, F p next a = next b)) (a : α) (ha : I a) : ∃ r, Ue r ∧ ∀ p, W5 (F p) a = J p r := by
 have key : ∀ n a, I a → μ a < n → ∃ r, Ue r ∧ ∀ p, W5 (F p) a = J p r := by
  intro n
  induction n with
  | zero => intro a _ h; omega
  | succ n ih =>
   intro a ha h
   rcases step a ha with ⟨r, h1, h2⟩ | ⟨b, h1, h2, h3⟩
   ·exact ⟨r, h1, fun p => Yq (h2 p)⟩
   ·obtain ⟨r, g1, g2⟩ := ih b h1 (by omega)
    exact ⟨r, g1, fun p => (Yu b (h3 p)).trans (g2 p)⟩
 exact key (μ a + 1) a ha (by omega)
theorem fix_upto {ρ : Type} {F : (Int → Option ρ) → Int → Option ρ} {o : Option ρ} (i e : Nat) (hie : i ≤ e) (more : ∀ (next : Int → Option ρ) (k : Nat), i ≤ k → k < e → F next (k : Int) = next ((k : Int) + 1)) (stop : ∀ next, F next (e : Int) = o) : W5 F (i : Int) = o := by
 have key : ∀ n k, i ≤ k → k ≤ e → e - k < n → W5 F (k : Int) = o := by
  intro n
  induction n with
  | zero => intro k _ _ h; omega
  | succ n ih =>
   intro k h1 h2 h3
   rcases Nat.lt_or_ge k e with h | h
   ·rw [Yu ((k : Int) + 1) (fun next => more next k h1 h)]; exact ih (k + 1) (by omega) (by omega) (by omega)
   ·have : k = e := by omega
    subst this; exact Yq stop
 exact key (e - i + 1) i (Nat.le_refl _) hie (by omega)
theorem fix_list {α ρ σ : Type} {F : (Int × σ → Option ρ) → Int × σ → Option ρ} (xs : List α) (f : σ → α → σ) (J : σ → Option ρ) (I : Nat → σ → Prop)
  (more : ∀ (next : Int × σ → Option ρ) (k : Nat) (s : σ) (hk : k < xs.length), I k s → F next ((k : Int), s) = next ((k : Int) + 1, f s xs[k]) ∧ I (k + 1) (f s xs[k]))
  (stop : ∀ (next : Int × σ → Option ρ) (s : σ), I xs.length s → F next ((xs.length : Int), s) = J s) (s : σ) (hs : I 0 s) : W5 F (0, s) = J (xs.foldl f s) := by
 have key : ∀ n k s, k ≤ xs.length → xs.length - k < n → I k s → W5 F ((k : Int), s) = J ((xs.drop k).foldl f s) := by
  intro n
  induction n with
  | zero => intro k s _ h; omega
  | succ n ih =>
   intro k s hk h hI
   rcases Nat.lt_or_ge k xs.length with h1 | h1
   ·rw [Yu ((k : Int) + 1, f s xs[k]) (fun next => (more next k s h1 hI).1), List.drop_eq_getElem_cons h1, List.foldl_cons]
    exact ih (k + 1) _ (by omega) (by omega) (more (fun _ => none) k s h1 hI).2
   ·have : k = xs.length := by omega
    subst this
    rw [List.drop_length]
    exact Yq fun next => stop next s hI
 have := key (xs.length + 1) 0 s (Nat.zero_le _) (by omega) hs
 simpa using this
theorem foldl_app {α β : Type} (f : α → β) : ∀ (xs : List α) (s : List β), xs.foldl (fun s x => s ++ [f x]) s = s ++ xs.map f
 | [], s => by simp
 | x :: xs, s => by rw [List.foldl_cons, foldl_app f xs]; simp
end Go.Pl

/- strings.Trim at an ASCII cutset, as its model tells it. Conditions: none. -/
namespace Go.M
open Go.Md Go.Pl
theorem fix_way {α ρ : Type} {F : (α → Option ρ) → α → Option ρ} {o : Option ρ} (st : Nat → α) (n : Nat) (more : ∀ k, k < n → ∀ next, F next (st k) = next (st (k + 1))) (stop : ∀ next, F next (st n) = o) : W5 F (st 0) = o := by
 have key : ∀ m, m ≤ n → W5 F (st (n - m)) = o := by
  intro m
  induction m with
  | zero => intro _; exact Yq stop
  | succ m ih =>
   intro h
   rw [Yu (b := st (n - (m + 1) + 1)) (more _ (by omega)), show n - (m + 1) + 1 = n - m from by omega]
   exact ih (by omega)
 simpa using key n (Nat.le_refl _)
def setC (cs : List UInt8) : Nat → Bool := cs.foldl (fun m c => Xe m c.toNat true) (fun _ => false)
theorem setC_iff (cs : List UInt8) (c : UInt8) : setC cs c.toNat = true ↔ c ∈ cs := by
 have key : ∀ (cs : List UInt8) (m : Nat → Bool), cs.foldl (fun m c => Xe m c.toNat true) m c.toNat = true ↔ m c.toNat = true ∨ c ∈ cs := by
  intro cs
  induction cs with
  | nil => intro m; simp
  | cons d cs ih =>
   intro m
   rw [List.foldl_cons, ih, List.mem_cons]
   unfold Xe
   by_cases h : c.toNat = d.toNat
   ·have : c = d := UInt8.toNat_inj.1 h
    simp [this]
   ·have : c ≠ d := fun e => h (by rw [e])
    simp [h, this]
 unfold setC
 rw [key]; simp
theorem set_step {cs : List UInt8} (hcs : ∀ c ∈ cs, c.toNat < 128) (hl : cs.length ≤ 1000) {k : Nat} (hk : k < cs.length) (next : Int × (Nat → Bool) → Option ((Nat → Bool) × Bool)) (m : Nat → Bool) :
  Ql cs next (k : Int) m = next ((k + 1 : Nat), Xe m cs[k].toNat true) := by
 have hc := hcs _ (List.getElem_mem hk)
 unfold Ql
 rw [Z7, if_pos (by omega), gOct_nat hk, Jg, Z7, if_neg (by omega), gIx_nat (by omega), Jg, Xg (by omega), Jg]
 rfl
theorem set_eq {cs : List UInt8} (hcs : ∀ c ∈ cs, c.toNat < 128) (hl : cs.length ≤ 1000) : V5 cs = some (setC cs, true) := by
 unfold V5
 refine fix_way (fun k => ((k : Int), setC (cs.take k))) cs.length (fun k hk next => ?_) (fun _ => ?_)
 ·show Ql cs next (k : Int) (setC (cs.take k)) = _
  rw [set_step hcs hl hk]
  congr 2
  unfold setC
  rw [List.take_add_one, List.getElem?_eq_getElem hk, List.foldl_append]; rfl
 ·show Ql cs _ (cs.length : Int) (setC (cs.take cs.length)) = _
  unfold Ql
  rw [Z7, if_neg (by omega), List.take_length]; rfl
theorem has_eq (cs : List UInt8) (c : UInt8) : Yw (setC cs) (c.toNat : Int) = some (decide (c ∈ cs), setC cs) := by
 have hc := c.toNat_lt
 unfold Yw
 rw [gIx_nat (by omega), Jg]
 congr 2
 rw [Bool.eq_iff_iff, setC_iff]; simp
theorem trimR {cs : List UInt8} (s : List UInt8) (hs : s.length ≤ 1000) : ∃ r : List UInt8 × (Nat → Bool), Vf s (setC cs) = some r ∧ (∃ suf, s = r.1 ++ suf ∧ ∀ c ∈ suf, c ∈ cs) ∧ r.2 = setC cs ∧ (∀ c, r.1.getLast? = some c → c ∉ cs) := by
 unfold Vf
 refine fix_run (fun a => (∃ suf, s = a.1 ++ suf ∧ ∀ c ∈ suf, c ∈ cs) ∧ a.2 = setC cs) (fun a => a.1.length) (fun (r : List UInt8 × (Nat → Bool)) => (∃ suf, s = r.1 ++ suf ∧ ∀ c ∈ suf, c ∈ cs) ∧ r.2 = setC cs ∧ (∀ c, r.1.getLast? = some c → c ∉ cs)) ?_ (s, setC cs) ⟨⟨[], by simp, by simp⟩, rfl⟩
 rintro ⟨x, m⟩ ⟨⟨suf, h1, h2⟩, h3⟩
 simp only at h1 h3
 subst h3
 have hl : x.length ≤ 1000 := by have := congrArg List.length h1; rw [List.length_append] at this; omega
 rcases List.eq_nil_or_concat x with rfl | ⟨ini, c, rfl⟩
 ·exact .inl ⟨([], setC cs), ⟨⟨suf, h1, h2⟩, rfl, by simp⟩, fun _ => rfl⟩
 ·simp only [List.concat_eq_append, List.length_append, List.length_singleton] at *
  have e1 : gI (((ini.length + 1 : Nat) : Int) - 1) = some (ini.length : Int) := by rw [Xg (by omega)]; congr 1; omega
  have e2 : gOct (ini ++ [c]) (ini.length : Int) = some (c.toNat : Int) := by rw [gOct_nat (by simp)]; simp
  have e3 : Um (ini ++ [c]) 0 (ini.length : Int) = some ini := by rw [gCut_to (by simp; omega)]; simp
  have key : ∀ next, Xj next (ini ++ [c]) (setC cs) = if c ∈ cs then next (ini, setC cs) else some (ini ++ [c], setC cs) := by
   intro next
   unfold Xj
   rw [List.length_append, List.length_singleton, Z7, if_pos (by omega), e1, Jg, e2, Jg, has_eq, Jg, Jg, e3, Jg]
   by_cases hd : c ∈ cs
   ·rw [if_pos hd]; simp [hd]
   ·rw [if_neg hd]; simp [hd]
  by_cases hd : c ∈ cs
  ·refine .inr ⟨(ini, setC cs), ⟨⟨c :: suf, by rw [h1]; simp, fun d hd' => ?_⟩, rfl⟩, by simp, fun next => (key next).trans (if_pos hd)⟩
   rcases List.mem_cons.1 hd' with rfl | h
   ·exact hd
   ·exact h2 d h
  ·exact .inl ⟨(ini ++ [c], setC cs), ⟨⟨suf, h1, h2⟩, rfl, fun d hd' => by simp at hd'; subst hd'; exact hd⟩, fun next => (key next).trans (if_neg hd)⟩
theorem trimL {cs : List UInt8} (s : List UInt8) (hs : s.length ≤ 1000) : ∃ r : List UInt8 × (Nat → Bool), Vu s (setC cs) = some r ∧ (∃ pre, s = pre ++ r.1 ∧ ∀ c ∈ pre, c ∈ cs) ∧ r.2 = setC cs ∧ (∀ c, r.1.head? = some c → c ∉ cs) := by
 unfold Vu
 refine fix_run (fun a => (∃ pre, s = pre ++ a.1 ∧ ∀ c ∈ pre, c ∈ cs) ∧ a.2 = setC cs) (fun a => a.1.length) (fun (r : List UInt8 × (Nat → Bool)) => (∃ pre, s = pre ++ r.1 ∧ ∀ c ∈ pre, c ∈ cs) ∧ r.2 = setC cs ∧ (∀ c, r.1.head? = some c → c ∉ cs)) ?_ (s, setC cs) ⟨⟨[], by simp, by simp⟩, rfl⟩
 rintro ⟨x, m⟩ ⟨⟨pre, h1, h2⟩, h3⟩
 simp only at h1 h3
 subst h3
 cases x with
 | nil => exact .inl ⟨([], setC cs), ⟨⟨pre, h1, h2⟩, rfl, by simp⟩, fun _ => rfl⟩
 | cons c x =>
  have e2 : gOct (c :: x) 0 = some (c.toNat : Int) := by rw [gOct_ok (by omega) (by simp)]; rfl
  have e3 : Um (c :: x) 1 ((c :: x).length : Nat) = some x := by rw [gCut_from (by rw [List.length_cons]; omega)]; rfl
  have key : ∀ next, Xn next (c :: x) (setC cs) = if c ∈ cs then next (x, setC cs) else some (c :: x, setC cs) := by
   intro next
   unfold Xn
   rw [Z7, if_pos (by rw [List.length_cons]; omega), e2, Jg, has_eq, Jg, e3, Jg]
   by_cases hd : c ∈ cs
   ·rw [if_pos hd]; simp [hd]
   ·rw [if_neg hd]; simp [hd]
  by_cases hd : c ∈ cs
  ·refine .inr ⟨(x, setC cs), ⟨⟨pre ++ [c], by rw [h1]; simp, fun d hd' => ?_⟩, rfl⟩, by simp, fun next => (key next).trans (if_pos hd)⟩
   rcases List.mem_append.1 hd' with h | h
   ·exact h2 d h
   ·rw [List.mem_singleton.1 h]; exact hd
  ·exact .inl ⟨(c :: x, setC cs), ⟨⟨pre, h1, h2⟩, rfl, fun d hd' => by simp at hd'; subst hd'; exact hd⟩, fun next => (key next).trans (if_neg hd)⟩
theorem trim_ok {cs : List UInt8} (hcs : ∀ c ∈ cs, c.toNat < 128) (h2 : 2 ≤ cs.length) (hcl : cs.length ≤ 1000) (s : List UInt8) (hs : s.length ≤ 1000) : ∃ r, Jap s cs = some r ∧ (r = [] ↔ ∀ c ∈ s, c ∈ cs) := by
 unfold Jap
 by_cases h0 : s = []
 ·subst h0; exact ⟨[], rfl, by simp⟩
 ·have hc0 : ¬ cs = [] := fun h => by rw [h] at h2; simp at h2
  rw [Z7, if_neg h0, Z7, if_neg hc0, Z7, if_neg (by omega)]
  obtain ⟨r, hr, ⟨suf, h1, h2⟩, h3, h4⟩ := trimR (cs := cs) s hs
  have hl : r.1.length ≤ 1000 := by have := congrArg List.length h1; rw [List.length_append] at this; omega
  obtain ⟨q, hq, ⟨pre, k1, k2⟩, _, k4⟩ := trimL (cs := cs) r.1 hl
  refine ⟨q.1, ?_, fun h c hc => ?_, fun h => ?_⟩
  ·unfold W7
   rw [set_eq hcs hcl, Jg, Js, hr, Jg, h3, hq, Jg]
  ·rw [h1, k1, h] at hc
   simp only [List.append_nil, List.mem_append] at hc
   rcases hc with h | h
   ·exact k2 c h
   ·exact h2 c h
  ·cases hq1 : q.1 with
   | nil => rfl
   | cons c x =>
    exact absurd (h c (by rw [h1, k1, hq1]; simp)) (k4 c (by rw [hq1]; rfl))
end Go.M

/- Names, in plain Lean. Conditions: none. -/
namespace Go.M
open Go.Md Go.Pl
def okC (c : UInt8) : Prop := (97 ≤ c.toNat ∧ c.toNat ≤ 122) ∨ (48 ≤ c.toNat ∧ c.toNat ≤ 57) ∨ c.toNat = 45
instance (c : UInt8) : Decidable (okC c) := by unfold okC; infer_instance
def nameB (s : List UInt8) : Bool := decide (s ≠ [] ∧ s.length ≤ 40 ∧ (∀ c, s.head? = some c → 97 ≤ c.toNat ∧ c.toNat ≤ 122) ∧ ∀ c ∈ s, okC c)
theorem name_step {s : List UInt8} (hs : s.length ≤ 1000) {k : Nat} (hk : k < s.length) (next : Int → Option Bool) : Xt s next (k : Int) = if okC s[k] then next ((k : Int) + 1) else some false := by
 have hj : X6 (k : Int) next = next ((k : Int) + 1) := by unfold X6; rw [Xg (by omega), Jg]
 unfold Xt
 rw [Z7, if_pos (by omega), gOct_nat hk, Jg, hj]
 simp only [Z7]
 generalize hc : s[k] = c
 by_cases h : okC c
 ·rw [if_pos h]
  unfold okC at h
  by_cases h1 : (97 : Int) ≤ c.toNat
  ·rw [if_pos h1]
   by_cases h2 : (c.toNat : Int) ≤ 122
   ·rw [if_pos h2]
   ·omega
  ·rw [if_neg h1]
   by_cases h2 : (48 : Int) ≤ c.toNat
   ·rw [if_pos h2, if_pos (by omega)]
   ·rw [if_neg h2]
    have : (c.toNat : Int) = 45 := by omega
    simp [this]
 ·rw [if_neg h]
  unfold okC at h
  have h45 : ¬ (c.toNat : Int) = 45 := by omega
  by_cases h1 : (97 : Int) ≤ c.toNat
  ·rw [if_pos h1, if_neg (by omega), if_pos (by omega), if_neg (by omega)]; simp [h45]
  ·rw [if_neg h1]
   by_cases h2 : (48 : Int) ≤ c.toNat
   ·rw [if_pos h2, if_neg (by omega)]; simp [h45]
   ·rw [if_neg h2]; simp [h45]
theorem name_loop (s : List UInt8) (hs : s.length ≤ 1000) : W5 (fun next1 t => Xt s next1 t) 0 = some (decide (∀ c ∈ s, okC c)) := by
 rw [up (F := fun next1 t => Xt s next1 t) s.length (fun k => some (decide (∀ c ∈ s.drop k, okC c))) (fun next k hk ih => ?_)]
 ·simp
 ·rcases Nat.lt_or_ge k s.length with h | h
  ·show Xt s next (k : Int) = _
   rw [name_step hs h]
   have e : s.drop k = s[k] :: s.drop (k + 1) := List.drop_eq_getElem_cons h
   rw [e]
   by_cases ho : okC s[k]
   ·rw [if_pos ho, ih h]; congr 1; rw [decide_eq_decide, List.forall_mem_cons]; exact ⟨fun h => ⟨ho, h⟩, fun h => h.2⟩
   ·rw [if_neg ho]; congr 1; symm; rw [decide_eq_false_iff_not, List.forall_mem_cons]; exact fun h => ho h.1
  ·show Xt s next (k : Int) = _
   unfold Xt
   rw [Z7, if_neg (by omega), List.drop_of_length_le h]; simp
theorem IsName_eq (s : List UInt8) : where_IsName s = some (nameB s) := by
 unfold where_IsName nameB
 rw [Z7]
 by_cases h0 : s = []
 ·subst h0; rfl
 ·rw [if_neg h0, Z7]
  by_cases h1 : (40 : Int) < s.length
  ·rw [if_pos h1]; congr 1; symm; rw [decide_eq_false_iff_not]; intro h; omega
  ·rw [if_neg h1]
   obtain ⟨c, r, rfl⟩ : ∃ c r, s = c :: r := by cases s with | nil => exact absurd rfl h0 | cons c r => exact ⟨c, r, rfl⟩
   have e0 : gOct (c :: r) 0 = some (c.toNat : Int) := by rw [gOct_ok (by omega) (by simp)]; rfl
   rw [e0, Jg, Z7]
   by_cases h2 : (c.toNat : Int) < 97
   ·rw [if_pos h2]; congr 1; symm; rw [decide_eq_false_iff_not]; intro h; have := h.2.2.1 c rfl; omega
   ·rw [if_neg h2, Jg, Z7]
    by_cases h3 : (122 : Int) < c.toNat
    ·rw [if_pos h3]; congr 1; symm; rw [decide_eq_false_iff_not]; intro h; have := h.2.2.1 c rfl; omega
    ·rw [if_neg h3, name_loop _ (by omega)]
     congr 1
     rw [decide_eq_decide]
     constructor
     ·intro h; exact ⟨h0, by omega, fun d hd => by simp at hd; subst hd; omega, h⟩
     ·intro h; exact h.2.2.2
end Go.M

/- Values of facts, in plain Lean. Conditions: none. -/
namespace Go.M
open Go.Md Go.Pl
theorem Jao (a b c : Int) : Yg a b c = some (decide (a < b ∨ c < a)) := by
 unfold Yg
 rw [Z7]
 by_cases h : a < b
 ·rw [if_pos h]; simp [h]
 ·rw [if_neg h]; simp [h]
theorem cI {α : Type} {p : Prop} [Decidable p] {x y : Option α} : Qi (decide p) x y = if p then x else y := Z7 ..
def hexCs : List UInt8 := [48, 49, 50, 51, 52, 53, 54, 55, 56, 57, 97, 98, 99, 100, 101, 102]
def fileP (t : List UInt8) : Prop := t.length = 16 ∧ ∀ c ∈ t, c ∈ hexCs
instance (t : List UInt8) : Decidable (fileP t) := by unfold fileP; infer_instance
theorem trim_hex {t : List UInt8} (h : t.length = 16) : ∃ r, Jap t [48, 49, 50, 51, 52, 53, 54, 55, 56, 57, 97, 98, 99, 100, 101, 102] = some r ∧ (r = [] ↔ fileP t) := by
 obtain ⟨r, h1, h2⟩ := trim_ok (cs := hexCs) (by decide) (by decide) (by decide) t (by omega)
 exact ⟨r, h1, h2.trans ⟨fun x => ⟨h, x⟩, fun x => x.2⟩⟩
theorem isFile_eq (t : List UInt8) : sync_isFile t = some (decide (fileP t)) := by
 unfold sync_isFile
 rw [cI]
 by_cases h : t.length = 16
 ·obtain ⟨r, h1, h2⟩ := trim_hex h
  rw [if_pos (by omega), h1, Jg]
  congr 1
  rw [decide_eq_decide]; exact h2
 ·rw [if_neg (by omega)]
  congr 1
  symm
  rw [decide_eq_false_iff_not]
  exact fun x => h x.1
def lowP (t : List UInt8) : Prop := ∃ c ∈ t, c.toNat < 32
instance (t : List UInt8) : Decidable (lowP t) := by unfold lowP; infer_instance
def capE (t : List UInt8) : Int := if 200 < t.length then 4 else if lowP t then 9 else 0
theorem func_low (l : List Int) (hl : l.length ≤ 1000) : ∃ r : Int, Vx l Vb = some r ∧ (0 ≤ r ↔ ∃ x ∈ l, x < 32) := by
 have key : ∀ m i : Nat, i + m = l.length → (∀ x ∈ l.take i, ¬ x < 32) → ∃ r : Int, W5 (fun next1 s => J8 l Vb next1 s) (i : Int) = some r ∧ (0 ≤ r ↔ ∃ x ∈ l, x < 32) := by
  intro m
  induction m with
  | zero =>
   intro i hi hx
   have : i = l.length := by omega
   subst this
   rw [List.take_length] at hx
   refine ⟨-1, Yq fun next => ?_, ⟨fun h => by omega, fun ⟨x, h1, h2⟩ => absurd h2 (hx x h1)⟩⟩
   show J8 l _ next _ = _
   unfold J8
   rw [cI, if_neg (by omega)]
  | succ m ih =>
   intro i hi hx
   have hlt : i < l.length := by omega
   have hc : Vb l[i] = some (decide (l[i] < 32)) := rfl
   by_cases he : l[i] < 32
   ·refine ⟨i, Yq fun next => ?_, ⟨fun _ => ⟨_, List.getElem_mem hlt, he⟩, fun _ => by omega⟩⟩
    show J8 l _ next _ = _
    unfold J8
    rw [cI, if_pos (by omega), Q9 hlt, Jg, hc, Jg, cI, if_pos he]
   ·obtain ⟨r, h1, h2⟩ := ih (i + 1) (by omega) (by
     intro x hx'
     rw [List.take_succ_eq_append_getElem hlt, List.mem_append] at hx'
     rcases hx' with h | h
     ·exact hx x h
     ·rw [List.mem_singleton] at h; rw [h]; exact he)
    refine ⟨r, ?_, h2⟩
    rw [← h1]
    refine Yu _ fun next => ?_
    show J8 l _ next _ = _
    unfold J8
    rw [cI, if_pos (by omega), Q9 hlt, Jg, hc, Jg, cI, if_neg he, Xg (by omega), Jg]
    rfl
 exact key l.length 0 (by omega) (by simp)
theorem checkCaption_eq (t : List UInt8) : Uk t = some (capE t) := by
 unfold Uk capE
 rw [cI]
 by_cases h : 200 < t.length
 ·rw [if_pos (by omega), if_pos h]
 ·obtain ⟨r, h1, h2⟩ := func_low (ofStr t) (by unfold ofStr; rw [List.length_map]; omega)
  rw [if_neg (by omega), if_neg h, gByt_ok (by omega), Jg]
  unfold X8
  rw [h1, Jg, Jg, cI]
  have e : (0 ≤ r) ↔ lowP t := by
   rw [h2]
   unfold ofStr lowP
   constructor
   ·rintro ⟨x, hx, hl⟩
    obtain ⟨c, hc, rfl⟩ := List.mem_map.1 hx
    exact ⟨c, hc, by omega⟩
   ·rintro ⟨c, hc, hl⟩
    exact ⟨_, List.mem_map.2 ⟨c, hc, rfl⟩, by omega⟩
  by_cases hl : lowP t
  ·rw [if_pos (e.2 hl), if_pos hl]
  ·rw [if_neg (fun x => hl (e.1 x)), if_neg hl]
def formP (f : T_sync_Fact) : Prop := (¬ (f.Kind = 2 ∨ f.Kind = 4 ∨ f.Kind = 6) ∧ f.Num ≠ 0) ∨ (¬ (f.Kind = 5 ∨ f.Kind = 6) ∧ f.Name ≠ []) ∨ (¬ (f.Kind = 1 ∨ f.Kind = 3) ∧ f.Text ≠ [])
instance (f : T_sync_Fact) : Decidable (formP f) := by unfold formP; infer_instance
def kindE (f : T_sync_Fact) : Int :=
 if f.Kind = 1 then (if fileP f.Text then 0 else 1)
 else if f.Kind = 2 then (if f.Num < 0 ∨ 5 < f.Num then 2 else 0)
 else if f.Kind = 3 then capE f.Text
 else if f.Kind = 4 then (if f.Num < 0 ∨ 1 < f.Num then 2 else 0)
 else if nameB f.Name = true then (if f.Kind = 6 then (if f.Num < 0 ∨ 6311433599 < f.Num then 2 else 0) else 0) else 3
def valE (f : T_sync_Fact) : Int := if f.Kind < 1 ∨ 6 < f.Kind then 10 else if formP f then 1 else if f.Id < 1 ∨ 1000000 < f.Id then 2 else kindE f
theorem j3_val (f : T_sync_Fact) (x3 x4 x5 : Bool) : Y5 f x3 x4 x5 = if f.Kind < 1 ∨ 6 < f.Kind then some 10 else J9 f x4 (decide ((x3 = false ∧ f.Num ≠ 0) ∨ (x4 = false ∧ f.Name ≠ []) ∨ (x5 = false ∧ f.Text ≠ []))) := by
 unfold Y5
 rw [Jao, Jg, cI]
 congr 1
 by_cases h1 : f.Num = 0 <;> by_cases h2 : f.Name = [] <;> by_cases h3 : f.Text = [] <;> cases x3 <;> cases x4 <;> cases x5 <;> simp [h1, h2, h3, Js, Jk]
theorem tail_val {f : T_sync_Fact} (hk : 1 ≤ f.Kind ∧ f.Kind ≤ 6) (b : Bool) : J9 f (decide (f.Kind = 5 ∨ f.Kind = 6)) b = some (if b = true then 1 else if f.Id < 1 ∨ 1000000 < f.Id then 2 else kindE f) := by
 unfold J9
 cases b
 ·rw [Jk, Jao, Jg, cI, if_neg (show ¬ (false = true) from Bool.false_ne_true)]
  by_cases hid : f.Id < 1 ∨ 1000000 < f.Id
  ·rw [if_pos hid, if_pos hid]
  rw [if_neg hid, if_neg hid]
  unfold kindE
  have e8 : ∀ b : Bool, Zu f b = some (if b = true then 3 else if f.Kind = 6 then (if f.Num < 0 ∨ 6311433599 < f.Num then 2 else 0) else 0) := fun b => by
   unfold Zu
   cases b
   ·rw [Jk, cI, Jao, Jg, cI, if_neg (show ¬ (false = true) from Bool.false_ne_true)]
    by_cases h6 : f.Kind = 6
    ·rw [if_pos h6, if_pos h6]; split <;> rfl
    ·rw [if_neg h6, if_neg h6]
   ·rw [Js]; rfl
  rcases (show f.Kind = 1 ∨ f.Kind = 2 ∨ f.Kind = 3 ∨ f.Kind = 4 ∨ f.Kind = 5 ∨ f.Kind = 6 by omega) with h | h | h | h | h | h
  ·rw [cI, if_pos h, isFile_eq, Jg, if_pos h]
   unfold Xp
   by_cases hf : fileP f.Text
   ·rw [decide_eq_true hf, if_pos hf]
    show Qi false _ _ = _
    rw [Jk, cI, if_neg (by omega)]
    unfold Xo
    rw [Jk, cI, if_neg (by omega), cI, if_neg (by omega)]
    unfold X4
    rw [Jk, decide_eq_false (by omega), Jk, e8, if_neg (show ¬ (false = true) from Bool.false_ne_true), if_neg (by omega)]
   ·rw [decide_eq_false hf, if_neg hf]
    show Qi true _ _ = _
    rw [Js]
  ·rw [cI, if_neg (by omega), if_neg (by omega), if_pos h]
   unfold Xp
   rw [Jk, cI, if_pos h, Jao, Jg]
   unfold Xo
   rw [cI]
   by_cases hn : f.Num < 0 ∨ 5 < f.Num
   ·rw [if_pos hn, if_pos hn]
   ·rw [if_neg hn, if_neg hn, cI, if_neg (by omega), cI, if_neg (by omega)]
    unfold X4
    rw [Jk, decide_eq_false (by omega), Jk, e8, if_neg (show ¬ (false = true) from Bool.false_ne_true), if_neg (by omega)]
  ·rw [cI, if_neg (by omega), if_neg (by omega), if_neg (by omega), if_pos h]
   unfold Xp
   rw [Jk, cI, if_neg (by omega)]
   unfold Xo
   rw [Jk, cI, if_pos h, checkCaption_eq, Jg]
  ·rw [cI, if_neg (by omega), if_neg (by omega), if_neg (by omega), if_neg (by omega), if_pos h]
   unfold Xp
   rw [Jk, cI, if_neg (by omega)]
   unfold Xo
   rw [Jk, cI, if_neg (by omega), cI, if_pos h, Jao, Jg]
   unfold X4
   rw [cI]
   by_cases hn : f.Num < 0 ∨ 1 < f.Num
   ·rw [if_pos hn, if_pos hn]
   ·rw [if_neg hn, if_neg hn, decide_eq_false (by omega), Jk, e8, if_neg (show ¬ (false = true) from Bool.false_ne_true), if_neg (by omega)]
  ·rw [cI, if_neg (by omega), if_neg (by omega), if_neg (by omega), if_neg (by omega), if_neg (by omega), if_neg (show ¬ f.Kind = 6 by omega)]
   unfold Xp
   rw [Jk, cI, if_neg (by omega)]
   unfold Xo
   rw [Jk, cI, if_neg (by omega), cI, if_neg (by omega)]
   unfold X4
   rw [Jk, decide_eq_true (by omega), Js, IsName_eq, Jg, e8, if_neg (show ¬ f.Kind = 6 by omega)]
   cases nameB f.Name <;> simp
  ·rw [cI, if_neg (by omega), if_neg (by omega), if_neg (by omega), if_neg (by omega), if_neg (by omega), if_pos h]
   unfold Xp
   rw [Jk, cI, if_neg (by omega)]
   unfold Xo
   rw [Jk, cI, if_neg (by omega), cI, if_neg (by omega)]
   unfold X4
   rw [Jk, decide_eq_true (by omega), Js, IsName_eq, Jg, e8, if_pos h]
   cases nameB f.Name <;> simp
 ·rw [Js]; rfl
theorem checkValue_eq (f : T_sync_Fact) : V0 f = some (valE f) := by
 have e : V0 f = Y5 f (decide (f.Kind = 2 ∨ f.Kind = 4 ∨ f.Kind = 6)) (decide (f.Kind = 5 ∨ f.Kind = 6)) (decide (f.Kind = 1 ∨ f.Kind = 3)) := by
  unfold V0 Zw Vq
  by_cases h2 : f.Kind = 2
  ·simp [h2, Js, Jk]
  by_cases h4 : f.Kind = 4
  ·simp [h4, Js, Jk]
  by_cases h5 : f.Kind = 5
  ·simp [h5, Js, Jk]
  by_cases h1 : f.Kind = 1
  ·simp [h1, Js, Jk]
  simp [h2, h4, h5, h1, Js, Jk]
 rw [e, j3_val]
 unfold valE
 by_cases hk : f.Kind < 1 ∨ 6 < f.Kind
 ·rw [if_pos hk, if_pos hk]
 ·rw [if_neg hk, if_neg hk, tail_val (by omega)]
  congr 1
  have : (decide ((decide (f.Kind = 2 ∨ f.Kind = 4 ∨ f.Kind = 6) = false ∧ f.Num ≠ 0) ∨ (decide (f.Kind = 5 ∨ f.Kind = 6) = false ∧ f.Name ≠ []) ∨ (decide (f.Kind = 1 ∨ f.Kind = 3) = false ∧ f.Text ≠ []))) = decide (formP f) := by
   rw [decide_eq_decide, decide_eq_false_iff_not, decide_eq_false_iff_not, decide_eq_false_iff_not]; rfl
  rw [this]
  by_cases hf : formP f
  ·rw [decide_eq_true hf, if_pos rfl, if_pos hf]
  ·rw [decide_eq_false hf, if_neg (by simp), if_neg hf]
theorem New_eq (n : Int) : sync_New n = some (if n < 0 ∨ 15 < n then (none, 2) else (some ⟨n, (fun _ => 0), []⟩, 0)) := by
 unfold sync_New
 rw [Jao, Jg, cI]
 by_cases h : n < 0 ∨ 15 < n
 ·rw [if_pos h, if_pos h]
 ·rw [if_neg h, if_neg h]
end Go.M

/- Likenesses, in plain Lean. Conditions: none. -/
namespace Go.M
open Go.Md Go.Pl
def okN (x : Int) : Bool := decide (-127 ≤ x ∧ x ≤ 127)
theorem okN_iff {x : Int} : okN x = true ↔ -127 ≤ x ∧ x ≤ 127 := by simp [okN]
def c12 (v : Nat → Int) (j : Nat) : Int := if okN (v j) = true then 0 else 2
def vecF (v : Nat → Int) : Int := firstE (c12 v) 12 0
theorem Jah (a b c : Int) : Vi a b c = some (decide (a < b ∨ c < a)) := by
 unfold Vi
 rw [Z7]; by_cases h : a < b <;> simp [h]
theorem face_CheckVec_eq (v : Nat → Int) : Jaw v = some (vecF v) := by
 unfold Jaw vecF
 refine scan 12 _ (fun next k hk => ?_) fun next => ?_
 ·unfold Zz c12
  by_cases h : okN (v k) = true
  ·have h' := okN_iff.1 h
   rw [if_pos h]
   simp (disch := omega) only [Z7, Xg, gIx_nat, Jg, Jah, if_pos, if_neg, if_true]
  ·have h' : ¬ (-127 ≤ v k ∧ v k ≤ 127) := fun hh => h (okN_iff.2 hh)
   rw [if_neg h]
   simp (disch := omega) only [Z7, Xg, gIx_nat, Jg, Jah, if_pos, if_neg]
 ·unfold Zz
  rfl
def likeF (l : List T_face_Likeness) (j : Nat) : Int :=
 if ¬ (1 ≤ (l.getD j default).Id ∧ (l.getD j default).Id ≤ 1000000) ∨ ¬ (1 ≤ (l.getD j default).Photo ∧ (l.getD j default).Photo ≤ 1000000) then 2
 else if 0 < j ∧ (l.getD j default).Id ≤ (l.getD (j - 1) default).Id then 5 else vecF (l.getD j default).Vec
theorem at_D {α : Type} [Inhabited α] {l : List α} {k : Nat} (h : k < l.length) : l.getD k default = l[k] := by
 rw [List.getD_eq_getElem?_getD, List.getElem?_eq_getElem h]; rfl
theorem check_eq (l : List T_face_Likeness) (hl : l.length ≤ 9223372036854775807) : face_Check l = some (if 300 < l.length then 4 else firstE (likeF l) l.length 0) := by
 unfold face_Check
 rw [Z7]
 by_cases h3 : 300 < l.length
 ·rw [if_pos (by omega), if_pos h3]
 ·rw [if_neg (by omega), if_neg h3]
  refine scan l.length _ (fun next k hk => ?_) fun next => ?_
  ·unfold Wd likeF
   rw [at_D hk]
   simp (disch := omega) only [Z7, Q9, Jg, if_pos, Jah]
   by_cases h1 : 1 ≤ l[k].Id ∧ l[k].Id ≤ 1000000
   ·by_cases h2 : 1 ≤ l[k].Photo ∧ l[k].Photo ≤ 1000000
    ·have hh : ¬ (¬ (1 ≤ l[k].Id ∧ l[k].Id ≤ 1000000) ∨ ¬ (1 ≤ l[k].Photo ∧ l[k].Photo ≤ 1000000)) := by omega
     rw [if_neg (by omega), if_neg (by omega), if_neg hh]
     have hj2 : Ua (k : Int) next l[k] = if vecF l[k].Vec = 0 then next ((k : Int) + 1) else some (vecF l[k].Vec) := by
      unfold Ua
      rw [face_CheckVec_eq, Jg, Xg (by omega), Jg, Z7]
      by_cases hv : vecF l[k].Vec = 0 <;> simp [hv]
     by_cases hk0 : 0 < k
     ·have hm : (l.getD (k - 1) default) = l[k - 1] := at_D (show k - 1 < l.length by omega)
      rw [if_pos (by omega), Xg (by omega), Jg, show ((k : Int) - 1) = ((k - 1 : Nat) : Int) from by omega, Q9 (by omega), Jg, hm]
      by_cases hle : l[k].Id ≤ l[k - 1].Id
      ·have hc : (if 0 < k ∧ l[k].Id ≤ l[k - 1].Id then (5 : Int) else vecF l[k].Vec) = 5 := if_pos ⟨hk0, hle⟩
       rw [if_pos hle, hc, if_neg (by decide)]
      ·have hc : (if 0 < k ∧ l[k].Id ≤ l[k - 1].Id then (5 : Int) else vecF l[k].Vec) = vecF l[k].Vec := if_neg fun h => hle h.2
       rw [if_neg hle, hc, hj2]
     ·have hc : (if 0 < k ∧ l[k].Id ≤ (l.getD (k - 1) default).Id then (5 : Int) else vecF l[k].Vec) = vecF l[k].Vec := if_neg fun h => hk0 h.1
      rw [if_neg (by omega), hc, hj2]
    ·have hh : ¬ (1 ≤ l[k].Id ∧ l[k].Id ≤ 1000000) ∨ ¬ (1 ≤ l[k].Photo ∧ l[k].Photo ≤ 1000000) := .inr h2
     rw [if_neg (by omega), if_pos (by omega), if_pos hh, if_neg (by decide)]
   ·have hh : ¬ (1 ≤ l[k].Id ∧ l[k].Id ≤ 1000000) ∨ ¬ (1 ≤ l[k].Photo ∧ l[k].Photo ≤ 1000000) := .inl h1
    rw [if_pos (by omega), if_pos hh, if_neg (by decide)]
  ·unfold Wd
   rw [Z7, if_neg (by omega)]
end Go.M

/- Searches in lists, in plain Lean. Conditions: few elements. -/
namespace Go.M
open Go.Md Go.Pl
set_option linter.unusedVariables false
theorem half {x : Int} (h : 0 ≤ x ∧ x ≤ 4611686018427387904) : gShr 64 (wU64 x) 1 = some (x / 2) ∧ wI64 (x / 2) = x / 2 := by
 refine ⟨?_, wI64_in (by omega)⟩
 rw [wU64_in (by omega)]
 unfold gShr
 rw [if_pos (by omega)]
 rfl
theorem Xv {p : Prop} [Decidable p] (h : p) : decide p = true := decide_eq_true h
theorem Q6 {p : Prop} [Decidable p] (h : ¬ p) : decide p = false := decide_eq_false h
def idx {α : Type} (g : α → Bool) (l : List α) : Int := match l.findIdx? g with | some k => (k : Int) | none => -1
theorem idx_nn {α : Type} (g : α → Bool) (l : List α) : decide (0 ≤ idx g l) = l.any g := by
 unfold idx
 cases h : l.findIdx? g with
 | none =>
  rw [List.findIdx?_eq_none_iff] at h
  have : l.any g = false := by rw [List.any_eq_false]; intro x hx; simp [h x hx]
  rw [this]; rfl
 | some k =>
  have : l.any g = true := by
   rw [List.findIdx?_eq_some_iff_getElem] at h
   obtain ⟨h1, h2, _⟩ := h
   exact List.any_eq_true.2 ⟨_, List.getElem_mem h1, h2⟩
  rw [this]; simp
theorem index_loop {α : Type} {F : (Int → Option Int) → Int → Option Int} (l : List α) (g : α → Bool)
  (more : ∀ (next : Int → Option Int) (k : Nat) (h : k < l.length), F next (k : Int) = if g l[k] = true then some (k : Int) else next ((k : Int) + 1)) (last : ∀ next, F next (l.length : Int) = some (-1)) : W5 F 0 = some (idx g l) := by
 have h := up (F := F) l.length (fun k => some (match (l.drop k).findIdx? g with | some j => ((k + j : Nat) : Int) | none => -1)) (fun next k hk ih => by
  rcases Nat.lt_or_ge k l.length with h | h
  ·rw [more next k h, List.drop_eq_getElem_cons h, List.findIdx?_cons]
   by_cases hg : g l[k] = true
   ·rw [if_pos hg, if_pos hg]; rfl
   ·rw [if_neg hg, if_neg hg, ih h]
    cases (l.drop (k + 1)).findIdx? g with
    | none => rfl
    | some j => simp only [Option.map_some]; rw [show k + 1 + j = k + (j + 1) by omega]
  ·have : k = l.length := by omega
   subst this
   rw [last, List.drop_length]; rfl)
 rw [h, List.drop_zero]
 unfold idx
 cases l.findIdx? g <;> simp
theorem indexFunc_of {α : Type} {l : List α} {f : α → Option Bool} {g : α → Bool} (hl : l.length ≤ 9223372036854775000) (hf : ∀ x ∈ l, f x = some (g x)) {F : (Int → Option Int) → Int → Option Int}
  (hF : ∀ next x, F next x = Qi (decide (x < (l.length : Int))) (J2 (Qn l x) fun t14 => J2 (f t14) fun t16 => Qi t16 (some x) (J2 (gI (x + 1)) fun t18 => next t18)) (some (-1))) : W5 F 0 = some (idx g l) := by
 refine index_loop l g (fun next k h => ?_) fun next => ?_
 ·rw [hF, Xv (by omega), Js, Q9 h, Jg, hf _ (List.getElem_mem h), Jg, Xg (by omega), Jg]
  by_cases hg : g l[k] = true
  ·rw [if_pos hg, hg, Js]
  ·rw [if_neg hg, (by simpa using hg : g l[k] = false), Jk]
 ·rw [hF, Q6 (by omega), Jk]
theorem indexInt_eq (l : List Int) (f : Int → Option Bool) (g : Int → Bool) (hl : l.length ≤ 9223372036854775000) (hf : ∀ x ∈ l, f x = some (g x)) : Uq l f = some (idx g l) := indexFunc_of hl hf fun _ _ => rfl
theorem containsFunc_eq (l : List Int) (f : Int → Option Bool) (g : Int → Bool) (hl : l.length ≤ 9223372036854775000) (hf : ∀ x ∈ l, f x = some (g x)) : Y7 l f = some (l.any g) := by
 unfold Y7
 rw [indexInt_eq l f g hl hf, Jg, idx_nn]
theorem indexByte_eq (l : List Int) (f : Int → Option Bool) (g : Int → Bool) (hl : l.length ≤ 9223372036854775000) (hf : ∀ x ∈ l, f x = some (g x)) : Vx l f = some (idx g l) := indexFunc_of hl hf fun _ _ => rfl
theorem containsByte_eq (l : List Int) (f : Int → Option Bool) (g : Int → Bool) (hl : l.length ≤ 9223372036854775000) (hf : ∀ x ∈ l, f x = some (g x)) : X8 l f = some (l.any g) := by
 unfold X8
 rw [indexByte_eq l f g hl hf, Jg, idx_nn]
theorem any_eq (l : List Int) (n : Int) : l.any (fun x => decide (n = x)) = decide (n ∈ l) := by
 rw [Bool.eq_iff_iff, List.any_eq_true, decide_eq_true_iff]
 constructor
 ·rintro ⟨x, hx, h⟩; simp at h; subst h; exact hx
 ·intro h; exact ⟨n, h, by simp⟩
theorem contains_eq (l : List Int) (n : Int) (hl : l.length ≤ 9223372036854775000) : Wj l n = some (decide (n ∈ l)) := by
 unfold Wj
 rw [show Jau l n = some (idx (fun x => decide (n = x)) l) from indexFunc_of (f := fun t14 => some (decide (n = t14))) hl (fun _ _ => rfl) fun _ _ => rfl, Jg, idx_nn, any_eq]
theorem bin_loop {α ρ : Type} {F : (Int × Int → Option ρ) → Int × Int → Option ρ} (l : List α) (p : α → Bool) (mono : ∀ (i j : Nat) (hi : i < l.length) (hj : j < l.length), i < j → p l[j] = true → p l[i] = true) (J : Int → Option ρ)
  (more : ∀ (next : Int × Int → Option ρ) (i j : Nat) (h : (i + j) / 2 < l.length), i < j → j ≤ l.length → F next ((i : Int), (j : Int)) = if p l[(i + j) / 2] = true then next (((i + j) / 2 : Nat) + 1, (j : Int)) else next ((i : Int), (((i + j) / 2 : Nat) : Int)))
  (stop : ∀ next (i : Nat), i ≤ l.length → F next ((i : Int), (i : Int)) = J i) :
  ∃ k : Nat, k ≤ l.length ∧ (∀ (i : Nat) (h : i < l.length), i < k → p l[i] = true) ∧ (∀ (i : Nat) (h : i < l.length), k ≤ i → p l[i] = false) ∧ W5 F (0, (l.length : Int)) = J k := by
 have key : ∀ n i j, i ≤ j → j ≤ l.length → j - i < n → (∀ (q : Nat) (h : q < l.length), q < i → p l[q] = true) → (∀ (q : Nat) (h : q < l.length), j ≤ q → p l[q] = false) →
   ∃ k : Nat, k ≤ l.length ∧ (∀ (i : Nat) (h : i < l.length), i < k → p l[i] = true) ∧ (∀ (i : Nat) (h : i < l.length), k ≤ i → p l[i] = false) ∧ W5 F ((i : Int), (j : Int)) = J k := by
  intro n
  induction n with
  | zero => intro i j _ _ h; omega
  | succ n ih =>
   intro i j h1 h2 h3 h4 h5
   rcases Nat.lt_or_ge i j with h | h
   ·have hb : (i + j) / 2 < l.length := by omega
    by_cases hp : p l[(i + j) / 2] = true
    ·rw [Yu ((((i + j) / 2 + 1 : Nat) : Int), (j : Int)) fun next => by rw [more next i j hb h h2, if_pos hp]; rfl]
     refine ih _ _ (by omega) h2 (by omega) (fun q hq hq2 => ?_) h5
     rcases Nat.lt_or_ge q ((i + j) / 2) with h6 | h6
     ·exact mono q _ hq hb h6 hp
     ·have : q = (i + j) / 2 := by omega
      subst this; exact hp
    ·rw [Yu ((i : Int), (((i + j) / 2 : Nat) : Int)) fun next => by rw [more next i j hb h h2, if_neg hp]]
     refine ih _ _ (by omega) (by omega) (by omega) h4 fun q hq hq2 => ?_
     rcases Nat.lt_or_ge ((i + j) / 2) q with h6 | h6
     ·cases h7 : p l[q] with
      | false => rfl
      | true => exact absurd (mono _ q hb hq h6 h7) hp
     ·have : q = (i + j) / 2 := by omega
      subst this; simpa using hp
   ·have : i = j := by omega
    subst this
    exact ⟨i, h2, h4, h5, Yq fun next => stop next i h2⟩
 simpa using key (l.length + 1) 0 l.length (Nat.zero_le _) (Nat.le_refl _) (by omega) (fun q _ h => by omega) (fun q h h' => by omega)
def Rise (l : List T_face_Likeness) : Prop := l.Pairwise fun x y => x.Id < y.Id
def has (id : Int) (x : T_face_Likeness) : Bool := decide (x.Id = id)
theorem at_eq (l : List T_face_Likeness) (id : Int) (hr : Rise l) (hl : l.length ≤ 1000000000) :
  ∃ i b, face_at l id = some (i, b) ∧ b = l.any (has id) ∧ (b = true → i = idx (has id) l) := by
 have hp := List.pairwise_iff_getElem.1 hr
 obtain ⟨k, h1, h2, h3, h4⟩ := bin_loop (F := fun next2 s => J1 l id face_at_1 next2 s.1 s.2) l (fun x => decide (x.Id < id)) (fun i j hi hj hij h => by have := hp i j hi hj hij; simp at h ⊢; omega) (J7 l id face_at_1)
  (fun next i j h hij hj => by
   obtain ⟨f1, f2⟩ := half (x := (i : Int) + j) (by omega)
   rw [show ((i : Int) + j) / 2 = (((i + j) / 2 : Nat) : Int) by omega] at f1 f2
   simp only [J1]
   rw [Xv (by omega), Js, Xg (by omega), Jg, f1, Jg, f2, Q9 h, Jg]
   unfold face_at_1
   by_cases hlt : l[(i + j) / 2].Id < id
   ·rw [Xv hlt, Js, Jg, Xv (by omega), Js, Xg (by omega), Jg, if_pos rfl]
   ·rw [Q6 hlt, Jk, if_neg (by simp)]
    by_cases hgt : id < l[(i + j) / 2].Id
    ·rw [Xv hgt, Js, Jg, Q6 (by omega), Jk]
    ·rw [Q6 hgt, Jk, Jg, Q6 (by omega), Jk])
  (fun next i hi => by
   simp only [J1]
   rw [Q6 (by omega), Jk])
 have hfix : face_at l id = J2 (J7 l id face_at_1 k) fun t8 => some (t8.1, t8.2) := by
  unfold face_at X7
  rw [h4]
 unfold J7 at hfix
 have none_of : (∀ x ∈ l, x.Id ≠ id) → l.any (has id) = false := fun h => by
  rw [List.any_eq_false]; intro x hx; simp [has, h x hx]
 rcases Nat.lt_or_ge k l.length with hk | hk
 ·rw [Xv (by omega), Js, Q9 hk, Jg] at hfix
  unfold face_at_1 at hfix
  have hge := h3 k hk (Nat.le_refl _)
  simp at hge
  rw [Q6 (by omega), Jk] at hfix
  by_cases hgt : id < l[k].Id
  ·rw [Xv hgt, Js, Jg, Jg] at hfix
   refine ⟨_, _, hfix, ?_, fun h => by simp at h⟩
   rw [none_of]; rfl
   intro x hx
   obtain ⟨j, hj, rfl⟩ := List.getElem_of_mem hx
   rcases Nat.lt_or_ge j k with h | h
   ·have := h2 j hj h; simp at this; omega
   ·rcases Nat.lt_or_ge k j with h' | h'
    ·have := hp k j hk hj h'; omega
    ·have : j = k := by omega
     subst this; omega
  ·rw [Q6 hgt, Jk, Jg, Jg] at hfix
   have he : l[k].Id = id := by omega
   have hany : l.any (has id) = true := List.any_eq_true.2 ⟨_, List.getElem_mem hk, by simp [has, he]⟩
   refine ⟨_, _, hfix, by rw [hany]; rfl, fun _ => ?_⟩
   unfold idx
   have : l.findIdx? (has id) = some k := by
    rw [List.findIdx?_eq_some_iff_getElem]
    refine ⟨hk, by simp [has, he], fun j hj => ?_⟩
    have := h2 j (by omega) hj
    simp at this
    simp [has]; omega
   rw [this]
 ·rw [Q6 (by omega), Jk, Jg] at hfix
  refine ⟨_, _, hfix, ?_, fun h => by simp at h⟩
  rw [none_of]
  intro x hx
  obtain ⟨j, hj, rfl⟩ := List.getElem_of_mem hx
  have := h2 j hj (by omega); simp at this; omega
theorem bcontains_eq (l : List Int) (n : Int) (hr : l.Pairwise fun x y => x < y) (hl : l.length ≤ 1000000000000000) : Jaz l n = some (decide (n ∈ l)) := by
 have hp := List.pairwise_iff_getElem.1 hr
 have hless : ∀ a b, cmp_Less_int a b = some (decide (a < b)) := fun a b => by
  unfold cmp_Less_int Wf; simp
 obtain ⟨k, h1, h2, h3, h4⟩ := bin_loop (F := fun next2 s => Qs l n next2 s.1 s.2) l (fun x => decide (x < n)) (fun i j hi hj hij h => by have := hp i j hi hj hij; simp at h ⊢; omega) (Yn l n)
  (fun next i j h hij hj => by
   obtain ⟨f1, f2⟩ := half (x := (i : Int) + j) (by omega)
   rw [show ((i : Int) + j) / 2 = (((i + j) / 2 : Nat) : Int) by omega] at f1 f2
   simp only [Qs]
   rw [Xv (by omega), Js, Xg (by omega), Jg, f1, Jg, f2, Q9 h, Jg, hless, Jg]
   by_cases hlt : l[(i + j) / 2] < n
   ·rw [Xv hlt, Js, Xg (by omega), Jg, if_pos rfl]
   ·rw [Q6 hlt, Jk, if_neg (by simp)])
  (fun next i hi => by
   simp only [Qs]
   rw [Q6 (by omega), Jk])
 unfold Jaz Ww
 rw [h4]
 unfold Yn Ut
 rcases Nat.lt_or_ge k l.length with hk | hk
 ·rw [Xv (by omega), Js, Q9 hk, Jg]
  have hge := h3 k hk (Nat.le_refl _)
  simp at hge
  by_cases he : l[k] = n
  ·rw [Xv he, Js, Jg, Xv (he ▸ List.getElem_mem hk)]
  ·rw [Q6 he, Jk, Jg, Jg, Q6 (by simp), Jk, Jg]
   rw [Q6]
   intro hm
   obtain ⟨j, hj, hje⟩ := List.getElem_of_mem hm
   rcases Nat.lt_or_ge j k with h | h
   ·have := h2 j hj h; simp at this; omega
   ·rcases Nat.lt_or_ge k j with h' | h'
    ·have := hp k j hk hj h'; omega
    ·have : j = k := by omega
     subst this; omega
 ·rw [Q6 (by omega), Jk, Jg]
  rw [Q6]
  intro hm
  obtain ⟨j, hj, hje⟩ := List.getElem_of_mem hm
  have := h2 j hj (by omega); simp at this; omega
noncomputable def R_LikeAt (l : List T_face_Likeness) (id : Int) : Option Int := some (idx (has id) l)
theorem likeAt_eq (l : List T_face_Likeness) (id : Int) (hl : l.length ≤ 9223372036854775000) : R_LikeAt l id = some (idx (has id) l) := rfl
end Go.M

/- Distances, lists of photos, in plain Lean. Conditions: few elements. -/
namespace Go.M
open Go.Md Go.Pl
set_option linter.unusedVariables false
def farS (u v : Nat → Int) (k : Nat) (s : Int) : Int := (List.range' k (12 - k)).foldl (fun s j => s + (u j - v j) * (u j - v j)) s
def farV (u v : Nat → Int) : Int := farS u v 0 0
theorem concat_eq (a b : List Int) (ha : a.length + b.length ≤ 35184372088832) : Uf [a, b] = some (a ++ b) := by
 unfold Uf
 refine (Yu (F := fun next3 s => Qd [a, b] next3 s.1 s.2) ((a.length : Int), 1) fun next => ?_).trans ((Yu (F := fun next3 s => Qd [a, b] next3 s.1 s.2) ((a.length : Int) + (b.length : Int), 2) fun next => ?_).trans (Yq fun next => ?_))
 ·show Qd [a, b] next 0 0 = _
  unfold Qd
  rw [Xv (by simp), Js, show Qn [a, b] 0 = some a from rfl, Jg, Xg (by omega), Jg, Q6 (by omega), Jk, Xg (by omega), Jg]
  simp
 ·show Qd [a, b] next (a.length : Int) 1 = _
  unfold Qd
  rw [Xv (by simp), Js, show Qn [a, b] 1 = some b from rfl, Jg, Xg (by omega), Jg, Q6 (by omega), Jk, Xg (by omega), Jg]
  rfl
 ·show Qd [a, b] next ((a.length : Int) + (b.length : Int)) 2 = _
  unfold Qd
  rw [Q6 (by simp), Jk]
  unfold V7
  rw [gGroC_ok (by omega), Jg]
  have hc : ((a.length : Int) + (b.length : Int)).toNat = a.length + b.length := by omega
  refine (Yu (F := fun next2 s => Qe [a, b] ((a.length : Int) + (b.length : Int)).toNat next2 s.1 s.2) (1, a) fun next => ?_).trans ((Yu (F := fun next2 s => Qe [a, b] ((a.length : Int) + (b.length : Int)).toNat next2 s.1 s.2) (2, a ++ b) fun next => ?_).trans (Yq fun next => ?_))
  ·show Qe [a, b] _ next 0 [] = _
   unfold Qe
   rw [Xv (by simp), Js, show Qn [a, b] 0 = some a from rfl, Jg, gApC_ok (by rw [hc]; simp; omega), Jg, Xg (by omega), Jg]
   rfl
  ·show Qe [a, b] _ next 1 a = _
   unfold Qe
   rw [Xv (by simp), Js, show Qn [a, b] 1 = some b from rfl, Jg, gApC_ok (by rw [hc]; omega), Jg, Xg (by omega), Jg]
   rfl
  ·show Qe [a, b] _ next 2 (a ++ b) = _
   unfold Qe
   rw [Q6 (by simp), Jk]
theorem cmpFrom_len (p : Int) : ∀ l : List Int, (Zg p l).length ≤ l.length
 | [] => by simp [Zg]
 | y :: l => by
  unfold Zg
  split
  ·have := cmpFrom_len p l; simp; omega
  ·have := cmpFrom_len y l; simp; omega
theorem cmpFrom_lt : ∀ (l : List Int) (p : Int), (p :: l).Pairwise (fun x y => decide (x ≤ y) = true) → ((Zg p l).length < l.length ↔ ¬ (p :: l).Nodup)
 | [], p, _ => by simp [Zg]
 | y :: l, p, h => by
  have hp := List.pairwise_cons.1 h
  have ih := cmpFrom_lt l y hp.2
  unfold Zg
  by_cases he : y = p
  ·subst he
   rw [if_pos rfl]
   have := cmpFrom_len y l
   simp
   omega
  ·rw [if_neg he]
   simp only [List.length_cons, Nat.add_lt_add_iff_right]
   rw [ih]
   refine not_congr ⟨fun hn => List.nodup_cons.2 ⟨fun hm => ?_, hn⟩, fun hn => (List.nodup_cons.1 hn).2⟩
   have hy := hp.1 y (by simp)
   simp at hy
   rcases List.mem_cons.1 hm with h1 | h1
   ·exact he h1.symm
   ·have := (List.pairwise_cons.1 hp.2).1 p h1
    simp at this; omega
theorem cmpL_lt (l : List Int) (h : l.Pairwise (fun x y => decide (x ≤ y) = true)) : (cmpL l).length < l.length ↔ ¬ l.Nodup := by
 cases l with
 | nil => simp [cmpL]
 | cons p l => simp only [cmpL, List.length_cons, Nat.add_lt_add_iff_right]; exact cmpFrom_lt l p h
def sorted (l : List Int) : List Int := l.mergeSort fun x y => decide (x ≤ y)
theorem sorted_pw (l : List Int) : (sorted l).Pairwise fun x y => decide (x ≤ y) = true :=
 List.pairwise_mergeSort (le := fun x y => decide (x ≤ y)) (fun a b c h1 h2 => by simp at *; omega) (fun a b => by simp; omega) l
theorem sorted_perm (l : List Int) : (sorted l).Perm l := List.mergeSort_perm l _
theorem sorted_len (l : List Int) : (sorted l).length = l.length := List.length_mergeSort _
theorem with_eq (l : List Int) (hl : l.length ≤ 35184372088832) : ∃ w, face_with l [] = some w ∧ (w.length < l.length ↔ ¬ l.Nodup) := by
 unfold face_with
 rw [concat_eq l [] (by simpa using hl), Jg, List.append_nil]
 unfold gSortI
 rw [if_pos (by omega), Jg]
 unfold gCmpI
 rw [if_pos (by rw [List.length_mergeSort]; omega), Jg]
 refine ⟨_, rfl, ?_⟩
 have h := cmpL_lt (sorted l) (sorted_pw l)
 rw [sorted_len] at h
 exact h.trans (not_congr (sorted_perm l).nodup_iff)
structure Good (l : List T_face_Likeness) : Prop where
 len : l.length ≤ 300
 rise : Rise l
 vec : ∀ x ∈ l, vecF x.Vec = 0
theorem likeF_get (l : List T_face_Likeness) (j : Nat) (h : j < l.length) (h0 : likeF l j = 0) : vecF l[j].Vec = 0 ∧ ∀ (i : Nat) (hi : i + 1 = j), l[i].Id < l[j].Id := by
 unfold likeF at h0
 rw [at_D h] at h0
 split at h0
 ·cases h0
 split at h0
 ·cases h0
 ·rename_i h1 h2
  refine ⟨h0, fun i hi => ?_⟩
  subst hi
  rw [show i + 1 - 1 = i from rfl, at_D (by omega)] at h2
  omega
theorem good_of (l : List T_face_Likeness) (hl : l.length ≤ 300) (h : firstE (likeF l) l.length 0 = 0) : Good l := by
 have hj := fun (j : Nat) (hj : j < l.length) => likeF_get l j hj (firstE_zero h j (Nat.zero_le _) (by omega))
 refine ⟨hl, List.pairwise_iff_getElem.2 ?_, fun x hx => ?_⟩
 ·have step : ∀ d i (hi : i < l.length) (hd : i + d + 1 < l.length), l[i].Id < l[i + d + 1].Id := by
   intro d
   induction d with
   | zero => intro i hi hd; exact (hj (i + 0 + 1) hd).2 i rfl
   | succ d ih =>
    intro i hi hd
    have h1 := ih i hi (by omega)
    have h2 := (hj (i + (d + 1) + 1) hd).2 (i + d + 1) rfl
    omega
  intro i j hi hj hij
  have := step (j - i - 1) i hi (by omega)
  simpa [show i + (j - i - 1) + 1 = j by omega] using this
 ·obtain ⟨j, hj', rfl⟩ := List.getElem_of_mem hx
  exact (hj j hj').1
def like (l : List T_face_Likeness) (id : Int) : T_face_Likeness := (l.find? (has id)).getD default
theorem any_idx {l : List T_face_Likeness} {id : Int} (h : l.any (has id) = true) : ∃ (k : Nat) (hk : k < l.length), idx (has id) l = k ∧ l[k] = like l id ∧ l[k].Id = id := by
 have h0 := idx_nn (has id) l
 rw [h] at h0
 unfold idx at h0 ⊢
 cases hf : l.findIdx? (has id) with
 | none => rw [hf] at h0; simp at h0
 | some k =>
  have h1 := List.findIdx?_eq_some_iff_getElem.1 hf
  obtain ⟨hk, h2, h3⟩ := h1
  refine ⟨k, hk, rfl, ?_, by simpa [has] using h2⟩
  unfold like
  have : l.find? (has id) = some l[k] := by
   rw [List.find?_eq_some_iff_getElem]
   exact ⟨h2, k, hk, rfl, fun j hj => by simpa using h3 j hj⟩
  rw [this]; rfl
theorem good_at {l : List T_face_Likeness} (hg : Good l) {id : Int} (h : l.any (has id) = true) : ∃ k : Nat, ∃ hk : k < l.length, face_at l id = some ((k : Int), true) ∧ Qn l (k : Int) = some (like l id) ∧ R_LikeAt l id = some (k : Int) := by
 have := hg.len
 obtain ⟨i, b, h1, h2, h3⟩ := at_eq l id hg.rise (by omega)
 rw [h] at h2
 obtain ⟨k, hk, h4, h5, _⟩ := any_idx h
 refine ⟨k, hk, ?_, ?_, ?_⟩
 ·rw [h1, h2, h3 h2, h4]
 ·rw [Q9 hk, h5]
 ·rw [likeAt_eq l id (by omega), h4]
theorem good_at_not {l : List T_face_Likeness} (hg : Good l) {id : Int} (h : l.any (has id) = false) : ∃ i : Int, face_at l id = some (i, false) := by
 have := hg.len
 obtain ⟨i, b, h1, h2, h3⟩ := at_eq l id hg.rise (by omega)
 rw [h] at h2
 exact ⟨i, by rw [h1, h2]⟩
def dist (l : List T_face_Likeness) (id k : Int) : Int := farV (like l id).Vec (like l k).Vec
end Go.M

/- People that are right, in plain Lean. Conditions: few elements. -/
namespace Go.M
open Go.Md Go.Pl
set_option linter.unusedVariables false
theorem ofStr_any (s : List UInt8) : (ofStr s).any (fun c => decide (c < 32)) = s.any fun c => decide (c.toNat < 32) := by
 unfold ofStr
 rw [List.any_map]
 congr 1
 funext c
 simp only [Function.comp]
 congr 1
 simp; omega
def titleB (s : List UInt8) : Bool := decide (1 ≤ s.length ∧ s.length ≤ 60) && !s.any fun c => decide (c.toNat < 32)
theorem isTitle_eq (s : List UInt8) : face_isTitle s = some (titleB s) := by
 unfold face_isTitle titleB
 rw [Jah, Jg]
 by_cases h : 1 ≤ s.length ∧ s.length ≤ 60
 ·rw [Q6 (by omega), Bool.not_false, Js, gByt_ok (by omega), Jg, containsByte_eq (ofStr s) face_isTitle_1 (fun c => decide (c < 32)) (by unfold ofStr; rw [List.length_map]; omega) (fun _ _ => rfl), Jg, ofStr_any, Xv h, Bool.true_and]
 ·rw [Xv (by omega), Bool.not_true, Jk, Q6 h, Bool.false_and]
def idsC (l : List T_face_Likeness) (ids : List Int) (k : Nat) : Int :=
 if l.any (has (ids.getD k 0)) = false then 7 else if 0 < k ∧ ids.getD k 0 ≤ ids.getD (k - 1) 0 then 5 else 0
def idsE (l : List T_face_Likeness) (ids : List Int) : Int := firstE (idsC l ids) ids.length 0
theorem at_D0 {l : List Int} {k : Nat} (h : k < l.length) : l.getD k 0 = l[k] := by
 rw [List.getD_eq_getElem?_getD, List.getElem?_eq_getElem h]; rfl
theorem idsC_get (l : List T_face_Likeness) (ids : List Int) (j : Nat) (h : j < ids.length) (h0 : idsC l ids j = 0) : l.any (has ids[j]) = true ∧ ∀ (i : Nat) (hi : i + 1 = j), ids[i] < ids[j] := by
 unfold idsC at h0
 rw [at_D0 h] at h0
 split at h0
 ·cases h0
 split at h0
 ·cases h0
 ·rename_i h1 h2
  refine ⟨by simpa using h1, fun i hi => ?_⟩
  subst hi
  rw [show i + 1 - 1 = i from rfl, at_D0 (by omega)] at h2
  omega
structure IdsOk (l : List T_face_Likeness) (ids : List Int) : Prop where
 all : ∀ k ∈ ids, l.any (has k) = true
 rise : ids.Pairwise fun x y => x < y
theorem ids_of {l : List T_face_Likeness} {ids : List Int} (h : idsE l ids = 0) : IdsOk l ids := by
 have hj := fun (j : Nat) (hj : j < ids.length) => idsC_get l ids j hj (firstE_zero h j (Nat.zero_le _) (by omega))
 refine ⟨fun x hx => ?_, List.pairwise_iff_getElem.2 ?_⟩
 ·obtain ⟨j, hj', rfl⟩ := List.getElem_of_mem hx
  exact (hj j hj').1
 ·have step : ∀ d i (hi : i < ids.length) (hd : i + d + 1 < ids.length), ids[i] < ids[i + d + 1] := by
   intro d
   induction d with
   | zero => intro i hi hd; exact (hj (i + 0 + 1) hd).2 i rfl
   | succ d ih =>
    intro i hi hd
    have h1 := ih i hi (by omega)
    have h2 := (hj (i + (d + 1) + 1) hd).2 (i + d + 1) rfl
    omega
  intro i j hi hj hij
  have := step (j - i - 1) i hi (by omega)
  simpa [show i + (j - i - 1) + 1 = j by omega] using this
theorem checkIds_eq {l : List T_face_Likeness} (hg : Good l) (ids : List Int) (hl : ids.length ≤ 17592186044000) : Jax l ids = some (idsE l ids) := by
 unfold Jax idsE
 refine scan ids.length _ (fun next k hk => ?_) fun next => ?_
 ·simp only [Zy]
  unfold idsC
  rw [Xv (by omega), Js, Q9 hk, Jg, at_D0 hk]
  cases hany : l.any (has ids[k]) with
  | false =>
   obtain ⟨i, e⟩ := good_at_not hg hany
   rw [e, Jg]
   simp
  | true =>
   obtain ⟨n, hn, e, _⟩ := good_at hg hany
   rw [e, Jg]
   have e2 : ∀ (x y : Option Int), Qi (!((n : Int), true).2) x y = y := fun _ _ => rfl
   have e3 : ∀ (x y : Int), (if true = false then x else y) = y := fun _ _ => if_neg (by simp)
   rw [e2, e3]
   unfold Wn
   by_cases h0 : 0 < k
   ·rw [Xv (by omega), Js, Xg (by omega), Jg, show (k : Int) - 1 = ((k - 1 : Nat) : Int) by omega, Q9 (by omega), Jg, at_D0 (show k - 1 < ids.length by omega)]
    by_cases h1 : ids[k] ≤ ids[k - 1]
    ·rw [Xv h1, Js, show (if 0 < k ∧ ids[k] ≤ ids[k - 1] then (5 : Int) else 0) = 5 from if_pos ⟨h0, h1⟩]; simp
    ·rw [Q6 h1, Jk, show (if 0 < k ∧ ids[k] ≤ ids[k - 1] then (5 : Int) else 0) = 0 from if_neg (fun h => h1 h.2), Xg (by omega), Jg]; simp
   ·rw [Q6 (by omega), Jk, show (if 0 < k ∧ ids[k] ≤ ids.getD (k - 1) 0 then (5 : Int) else 0) = 0 from if_neg (fun h => h0 h.1), Xg (by omega), Jg]; simp
 ·simp only [Zy]
  rw [Q6 (by omega), Jk]
def both (p : T_face_Person) : Bool := p.Likes.any fun k => decide (k ∈ p.Nots)
def listE (l : List T_face_Likeness) (p : T_face_Person) : Int := if idsE l p.Likes ≠ 0 then idsE l p.Likes else if idsE l p.Nots ≠ 0 then idsE l p.Nots else if both p = true then 11 else 0
def Ux (l : List T_face_Likeness) (p : T_face_Person) : Int := if titleB p.Name = false then 3 else listE l p
def PSz (p : T_face_Person) : Prop := p.Likes.length ≤ 17592186044000 ∧ p.Nots.length ≤ 17592186044000
theorem checkPerson_eq {l : List T_face_Likeness} (hg : Good l) (p : T_face_Person) (hp : PSz p) : Uz l p = some (Ux l p) := by
 unfold Uz Ux listE
 rw [isTitle_eq, Jg]
 cases ht : titleB p.Name with
 | false => rfl
 | true =>
  simp only [Bool.not_true, Jk, Bool.true_eq_false, if_false]
  have e0 : ∀ next, Xf l p next 0 = if idsE l p.Likes ≠ 0 then some (idsE l p.Likes) else next 1 := fun next => by
   simp only [Xf]
   rw [Xv (by omega), Js, show Qn [p.Likes, p.Nots] 0 = some p.Likes from rfl, Jg, checkIds_eq hg _ hp.1, Jg, Z7]
   split
   ·rfl
   ·rw [Xg (by omega), Jg]; rfl
  have e1 : ∀ next, Xf l p next 1 = if idsE l p.Nots ≠ 0 then some (idsE l p.Nots) else next 2 := fun next => by
   simp only [Xf]
   rw [Xv (by omega), Js, show Qn [p.Likes, p.Nots] 1 = some p.Nots from rfl, Jg, checkIds_eq hg _ hp.2, Jg, Z7]
   split
   ·rfl
   ·rw [Xg (by omega), Jg]; rfl
  by_cases h0 : idsE l p.Likes ≠ 0
  ·rw [if_pos h0]; exact Yq fun next => by rw [e0, if_pos h0]
  ·rw [if_neg h0]
   rw [Yu (1 : Int) fun next => by rw [e0, if_neg h0]]
   by_cases h1 : idsE l p.Nots ≠ 0
   ·rw [if_pos h1]; exact Yq fun next => by rw [e1, if_pos h1]
   ·rw [if_neg h1]
    rw [Yu (2 : Int) fun next => by rw [e1, if_neg h1]]
    refine Yq fun next => ?_
    simp only [Xf, Wk]
    rw [Q6 (by omega), Jk, containsFunc_eq p.Likes (W0 p) (fun k => decide (k ∈ p.Nots)) (by have := hp.1; omega) (fun x _ => by
     unfold W0
     rw [bcontains_eq p.Nots x (ids_of (by simpa using h1)).rise (by have := hp.2; omega), Jg]), Jg]
    show Qi (both p) _ _ = _
    cases both p <;> rfl
theorem mGet_mSet (m : List (Int × Bool)) (k : Int) (v : Bool) (x : Int) : mGet (Un m k v) x = if x = k then some v else mGet m x := by
 unfold mGet Un mHas
 induction m with
 | nil =>
  by_cases h : x = k
  ·subst h; simp
  ·have : ¬ k = x := fun e => h e.symm
   simp [h, this]
 | cons a m ih =>
  by_cases ha : a.1 = k
  ·have e1 : ((a :: m).any fun p => decide (p.1 = k)) = true := by simp [ha]
   rw [if_pos e1, List.map_cons, if_pos ha, List.find?_cons, List.find?_cons]
   by_cases h : x = k
   ·subst h; simp
   ·have hk : ¬ k = x := fun e => h e.symm
    rw [Q6 hk, if_neg h, Q6 (show ¬ a.1 = x by rw [ha]; exact hk)]
    simp only
    clear ih e1
    induction m with
    | nil => rfl
    | cons b m ih2 =>
     rw [List.map_cons, List.find?_cons, List.find?_cons]
     by_cases hb : b.1 = k
     ·rw [if_pos hb, Q6 hk, Q6 (show ¬ b.1 = x by rw [hb]; exact hk)]; exact ih2
     ·rw [if_neg hb]
      by_cases hbx : b.1 = x
      ·rw [Xv hbx]
      ·rw [Q6 hbx]; exact ih2
  ·have e1 : ((a :: m).any fun p => decide (p.1 = k)) = (m.any fun p => decide (p.1 = k)) := by simp [ha]
   rw [e1]
   by_cases hm : (m.any fun p => decide (p.1 = k)) = true
   ·rw [if_pos hm] at ih ⊢
    rw [List.map_cons, if_neg ha, List.find?_cons]
    by_cases hx : a.1 = x
    ·rw [Xv hx]
     have : ¬ x = k := fun e => ha (hx.trans e)
     rw [if_neg this, List.find?_cons, Xv hx]
    ·rw [Q6 hx, List.find?_cons, Q6 hx]; exact ih
   ·rw [if_neg hm] at ih ⊢
    rw [List.cons_append, List.find?_cons]
    by_cases hx : a.1 = x
    ·rw [Xv hx]
     have : ¬ x = k := fun e => ha (hx.trans e)
     rw [if_neg this, List.find?_cons, Xv hx]
    ·rw [Q6 hx, List.find?_cons, Q6 hx]; exact ih
def inM (m : List (Int × Bool)) (k : Int) : Bool := (mGet m k).getD false
def Zi (m : List (Int × Bool)) (ks : List Int) : List (Int × Bool) := ks.foldl (fun m k => Un m k true) m
theorem inM_set (m : List (Int × Bool)) (k x : Int) : inM (Un m k true) x = (decide (x = k) || inM m x) := by
 unfold inM
 rw [mGet_mSet]
 by_cases h : x = k <;> simp [h]
theorem inM_nil (x : Int) : inM [] x = false := rfl
def photoL (l : List T_face_Likeness) (k : Int) : Int := (like l k).Photo
def Ul (l : List T_face_Likeness) (ks : List Int) : List Int := ks.map (photoL l)
theorem photoOf_eq {l : List T_face_Likeness} (hg : Good l) {k : Int} (h : l.any (has k) = true) : face_photoOf l k = some (photoL l k) := by
 unfold face_photoOf
 obtain ⟨n, hn, e1, e2, e3⟩ := good_at hg h
 rw [e1, Jg, e2, Jg]; rfl
theorem photosOf_eq {l : List T_face_Likeness} (hg : Good l) (ks : List Int) (hl : ks.length ≤ 17592186044000) (h : ∀ k ∈ ks, l.any (has k) = true) : U9 l ks = some (Ul l ks) := by
 unfold U9
 have e := fix_list (F := fun next1 s => Y6 l ks next1 s.1 s.2) ks (fun s k => s ++ [photoL l k]) (fun s => some s) (fun k s => s.length = k) (fun next k s hk hs => ?_) (fun next s _ => ?_) [] rfl
 ·rw [e]
  have : ∀ (ks s : List Int), ks.foldl (fun s k => s ++ [photoL l k]) s = s ++ Ul l ks := fun ks => by
   induction ks with
   | nil => intro s; simp [Ul]
   | cons k ks ih => intro s; rw [List.foldl_cons, ih]; simp [Ul]
  rw [this]; rfl
 ·simp only [Y6]
  rw [Xv (by omega), Js, Q9 hk, Jg, photoOf_eq hg (h _ (List.getElem_mem hk)), Jg, Uh (by simp; omega), Jg, Xg (by omega), Jg]
  exact ⟨rfl, by simp; omega⟩
 ·simp only [Y6]
  rw [Q6 (by omega), Jk]
def twice (l : List T_face_Likeness) (mp : List (Int × Bool)) (ks : List Int) : Prop := (∃ k ∈ ks, inM mp k = true) ∨ ¬ (Ul l ks).Nodup
theorem check_twice {l : List T_face_Likeness} (hg : Good l) (p : T_face_Person) (hp : PSz p) (x : Int) (next1 : (Int × (List (Int × Bool))) → Option Int) (mp : List (Int × Bool)) :
  (Ux l p ≠ 0 → Qy l x mp next1 p = some (Ux l p)) ∧
  (Ux l p = 0 → (twice l mp p.Likes → Qy l x mp next1 p = some 6) ∧ (¬ twice l mp p.Likes → Qy l x mp next1 p = J2 (gI (x + 1)) fun t77 => next1 (t77, Zi mp p.Likes))) := by
 unfold Qy
 rw [checkPerson_eq hg p hp, Jg]
 refine ⟨fun h => by rw [Xv h, Js], fun h => ?_⟩
 have hids : IdsOk l p.Likes := by
  refine ids_of ?_
  unfold Ux listE at h
  by_cases h1 : idsE l p.Likes = 0
  ·exact h1
  ·rw [if_pos h1] at h
   split at h
   ·cases h
   ·exact h
 rw [Q6 (by simpa using h), Jk, photosOf_eq hg _ hp.1 hids.all, Jg, containsFunc_eq p.Likes (Jag mp) (inM mp) (by have := hp.1; omega) (fun _ _ => rfl), Jg]
 obtain ⟨w, hw, hlt⟩ := with_eq (Ul l p.Likes) (by unfold Ul; rw [List.length_map]; have := hp.1; omega)
 have hany : (p.Likes.any (inM mp) = true) ↔ ∃ k ∈ p.Likes, inM mp k = true := List.any_eq_true
 constructor
 ·rintro (h1 | h1)
  ·rw [hany.2 h1, Js]
  ·cases p.Likes.any (inM mp) with
   | true => rfl
   | false => rw [Jk, hw, Jg, Xv (by have := hlt.2 h1; omega), Js]
 ·intro hno
  have h1 : p.Likes.any (inM mp) = false := by
   cases hc : p.Likes.any (inM mp) with
   | false => rfl
   | true => exact absurd (.inl (hany.1 hc)) hno
  have h2 : ¬ w.length < (Ul l p.Likes).length := fun h => hno (.inr (hlt.1 h))
  rw [h1, Jk, hw, Jg, Q6 (by omega), Jk]
  have e := fix_list (F := fun next4 s => Ya x next1 p (Ul l p.Likes) w next4 s.1 s.2) p.Likes (fun m k => Un m k true) (fun m => J2 (gI (x + 1)) fun t77 => next1 (t77, m)) (fun _ _ => True) (fun next k s hk _ => ?_) (fun next s _ => ?_) mp trivial
  ·exact e
  ·simp only [Ya]
   rw [Xv (by omega), Js, Q9 hk, Jg, Xg (by have := hp.1; omega), Jg]
   exact ⟨rfl, trivial⟩
  ·simp only [Ya]
   rw [Q6 (by omega), Jk]; rfl
theorem personE_ok {l : List T_face_Likeness} {p : T_face_Person} (h : Ux l p = 0) : IdsOk l p.Likes ∧ IdsOk l p.Nots := by
 unfold Ux at h
 split at h
 ·cases h
 unfold listE at h
 by_cases h1 : idsE l p.Likes = 0
 ·by_cases h2 : idsE l p.Nots = 0
  ·exact ⟨ids_of h1, ids_of h2⟩
  ·rw [if_neg (by simpa using h1), if_pos h2] at h; exact absurd h h2
 ·rw [if_pos h1] at h; exact absurd h h1
end Go.M

/- People that are right, in plain Lean. Conditions: few elements. -/
namespace Go.M
open Go.Md Go.Pl
set_option linter.unusedVariables false
structure PersonOk (l : List T_face_Likeness) (p : T_face_Person) : Prop where
 idr : 1 ≤ p.Id ∧ p.Id ≤ 1000000
 title : titleB p.Name = true
 likes : IdsOk l p.Likes
 nots : IdsOk l p.Nots
 apart : ∀ k ∈ p.Likes, k ∉ p.Nots
 photos : (Ul l p.Likes).Nodup
structure Right (l : List T_face_Likeness) (ps : List T_face_Person) : Prop where
 len : ps.length ≤ 100
 all : ∀ p ∈ ps, PersonOk l p
 rise : ps.Pairwise fun p q => p.Id < q.Id
 own : ps.Pairwise fun p q => ∀ k ∈ p.Likes, k ∉ q.Likes
theorem idsE_ok {l : List T_face_Likeness} {ids : List Int} (h : IdsOk l ids) : idsE l ids = 0 := by
 unfold idsE
 refine firstE_all _ _ fun j _ hj => ?_
 have hj : j < ids.length := by omega
 unfold idsC
 rw [at_D0 hj, h.all _ (List.getElem_mem hj)]
 rw [if_neg (by simp), if_neg]
 rintro ⟨h0, h1⟩
 rw [at_D0 (show j - 1 < ids.length by omega)] at h1
 have := List.pairwise_iff_getElem.1 h.rise (j - 1) j (by omega) hj (by omega)
 omega
theorem personE_iff {l : List T_face_Likeness} {p : T_face_Person} : Ux l p = 0 ↔ titleB p.Name = true ∧ IdsOk l p.Likes ∧ IdsOk l p.Nots ∧ ∀ k ∈ p.Likes, k ∉ p.Nots := by
 constructor
 ·intro h
  have h2 := personE_ok h
  unfold Ux at h
  cases ht : titleB p.Name with
  | false => rw [ht] at h; simp at h
  | true =>
   rw [ht, if_neg (by simp)] at h
   refine ⟨rfl, h2.1, h2.2, fun k hk hn => ?_⟩
   unfold listE at h
   rw [if_neg (by rw [idsE_ok h2.1]; simp), if_neg (by rw [idsE_ok h2.2]; simp)] at h
   have : both p = true := by
    unfold both
    rw [List.any_eq_true]
    exact ⟨k, hk, by simpa using hn⟩
   rw [if_pos this] at h
   cases h
 ·rintro ⟨h1, h2, h3, h4⟩
  unfold Ux listE
  rw [if_neg (by rw [h1]; simp), if_neg (by rw [idsE_ok h2]; simp), if_neg (by rw [idsE_ok h3]; simp), if_neg]
  intro hb
  unfold both at hb
  rw [List.any_eq_true] at hb
  obtain ⟨k, hk, hn⟩ := hb
  exact h4 k hk (by simpa using hn)
theorem inM_setAll (ks : List Int) : ∀ (m : List (Int × Bool)) (x : Int), inM (Zi m ks) x = (decide (x ∈ ks) || inM m x) := by
 induction ks with
 | nil => intro m x; simp [Zi]
 | cons k ks ih =>
  intro m x
  show inM (Zi (Un m k true) ks) x = _
  rw [ih, inM_set]
  by_cases h1 : x = k
  ·subst h1; simp
  ·by_cases h2 : x ∈ ks <;> simp [h1, h2]
theorem check_right {l : List T_face_Likeness} (hg : Good l) (hc : face_Check l = some 0) (ps : List T_face_Person) (hsz : ∀ p ∈ ps, PSz p) (hn : ps.length ≤ 9223372036854775000) : ∃ e, Ys l ps = some e ∧ (e = 0 ↔ Right l ps) := by
 unfold Ys
 rw [hc, Jg, Q6 (by simp), Jk]
 by_cases hl : 100 < ps.length
 ·rw [Xv (by omega), Js]
  exact ⟨4, rfl, fun h => absurd h (by decide), fun h => by have := h.len; omega⟩
 rw [Q6 (by omega), Jk]
 refine fix_run (F := fun next1 s => Yx l ps next1 s.1 s.2)
  (fun s : Int × List (Int × Bool) => ∃ k : Nat, s.1 = k ∧ k ≤ ps.length ∧ (∀ i (h : i < ps.length), i < k → PersonOk l ps[i]) ∧ (∀ i (h : i + 1 < ps.length), i + 1 < k → ps[i].Id < ps[i + 1].Id) ∧
   (∀ i j (hi : i < ps.length) (hj : j < ps.length), i < j → j < k → ∀ x ∈ ps[i].Likes, x ∉ ps[j].Likes) ∧ ∀ x, inM s.2 x = true ↔ ∃ i, ∃ h : i < ps.length, i < k ∧ x ∈ ps[i].Likes)
  (fun s => ps.length - s.1.toNat) (fun e => e = 0 ↔ Right l ps) ?_ (0, []) ⟨0, rfl, Nat.zero_le _, fun i _ h => by omega, fun i _ h => by omega, fun i j _ _ _ h => by omega, fun x => ⟨fun h => (by rw [inM_nil] at h; cases h), fun ⟨i, _, h, _⟩ => by omega⟩⟩
 rintro ⟨_, mp⟩ ⟨k, rfl, hk, hP, hR, hO, hM⟩
 simp only at hM
 simp only [Yx]
 rcases Nat.lt_or_ge k ps.length with h | h
 ·have hz := hsz _ (List.getElem_mem h)
  by_cases hid : 1 ≤ ps[k].Id ∧ ps[k].Id ≤ 1000000
  ·by_cases hord : 0 < k ∧ ∃ h' : k - 1 < ps.length, ps[k].Id ≤ ps[k - 1].Id
   ·obtain ⟨h0, h', h1⟩ := hord
    refine .inl ⟨5, ⟨fun h => absurd h (by decide), fun hr => ?_⟩, fun next => ?_⟩
    ·have := List.pairwise_iff_getElem.1 hr.rise (k - 1) k h' h (by omega)
     omega
    ·rw [Xv (by omega), Js, Q9 h, Jg, Jah, Jg, Q6 (by omega), Jk, Xv (by omega), Js, Xg (by omega), Jg, show (k : Int) - 1 = ((k - 1 : Nat) : Int) by omega, Q9 h', Jg, Xv h1, Js]
   ·have eC : ∀ next, (Qi (decide ((k : Int) < (ps.length : Int))) (J2 (Qn ps (k : Int)) fun t27 =>
      J2 (Vi t27.Id 1 1000000) fun t31 =>
      Qi t31 (some 2) (Qi (decide (0 < (k : Int))) (J2 (gI ((k : Int) - 1)) fun t39 =>
      J2 (Qn ps t39) fun t40 =>
      Qi (decide (t27.Id ≤ t40.Id)) (some 5) (Qy l (k : Int) mp next t27)) (Qy l (k : Int) mp next t27))) (some 0)) = Qy l (k : Int) mp next ps[k] := fun next => by
     rw [Xv (by omega), Js, Q9 h, Jg, Jah, Jg, Q6 (by omega), Jk]
     by_cases h0 : 0 < k
     ·rw [Xv (by omega), Js, Xg (by omega), Jg, show (k : Int) - 1 = ((k - 1 : Nat) : Int) by omega, Q9 (show k - 1 < ps.length by omega), Jg, Q6 (fun h1 => hord ⟨h0, by omega, h1⟩), Jk]
     ·rw [Q6 (by omega), Jk]
    by_cases hpe : Ux l ps[k] = 0
    ·have hpi := personE_iff.1 hpe
     by_cases ht : twice l mp ps[k].Likes
     ·refine .inl ⟨6, ⟨fun h => absurd h (by decide), fun hr => ?_⟩, fun next => ?_⟩
      ·rcases ht with ⟨x, hx, hm⟩ | ht
       ·obtain ⟨i, hi, hik, hxi⟩ := (hM x).1 hm
        exact (List.pairwise_iff_getElem.1 hr.own i k hi h hik x hxi hx).elim
       ·exact (ht (hr.all _ (List.getElem_mem h)).photos).elim
      ·rw [eC]; exact ((check_twice hg ps[k] hz _ next mp).2 hpe).1 ht
     ·have hnt : (∀ x ∈ ps[k].Likes, ¬ inM mp x = true) ∧ (Ul l ps[k].Likes).Nodup := ⟨fun x hx hm => ht (.inl ⟨x, hx, hm⟩), Classical.byContradiction fun hh => ht (.inr hh)⟩
      refine .inr ⟨((k : Int) + 1, Zi mp ps[k].Likes), ⟨k + 1, by simp, h, fun i hi hik => ?_, fun i hi hik => ?_, fun i j hi hj hij hjk => ?_, fun x => ?_⟩, by simp only; omega, fun next => ?_⟩
      ·rcases Nat.lt_or_ge i k with h3 | h3
       ·exact hP i hi h3
       ·have : i = k := by omega
        subst this
        exact ⟨hid, hpi.1, hpi.2.1, hpi.2.2.1, hpi.2.2.2, hnt.2⟩
      ·rcases Nat.lt_or_ge (i + 1) k with h3 | h3
       ·exact hR i hi h3
       ·have : k = i + 1 := by omega
        subst this
        rcases Int.lt_or_le ps[i].Id ps[i + 1].Id with h4 | h4
        ·exact h4
        ·exact absurd ⟨by omega, by omega, h4⟩ hord
      ·rcases Nat.lt_or_ge j k with h3 | h3
       ·exact hO i j hi hj hij h3
       ·have : j = k := by omega
        subst this
        intro x hx hx2
        exact hnt.1 x hx2 ((hM x).2 ⟨i, hi, hij, hx⟩)
      ·simp only
       rw [inM_setAll, Bool.or_eq_true, decide_eq_true_iff, hM]
       constructor
       ·rintro (h3 | ⟨i, hi, hik, hx⟩)
        ·exact ⟨k, h, by omega, h3⟩
        ·exact ⟨i, hi, by omega, hx⟩
       ·rintro ⟨i, hi, hik, hx⟩
        rcases Nat.lt_or_ge i k with h3 | h3
        ·exact .inr ⟨i, hi, h3, hx⟩
        ·have : i = k := by omega
         subst this; exact .inl hx
      ·rw [eC, ((check_twice hg ps[k] hz _ next mp).2 hpe).2 ht, Xg (by omega), Jg]
    ·refine .inl ⟨Ux l ps[k], ⟨fun h => absurd h hpe, fun hr => absurd ?_ hpe⟩, fun next => ?_⟩
     ·have := hr.all _ (List.getElem_mem h)
      exact personE_iff.2 ⟨this.title, this.likes, this.nots, this.apart⟩
     ·rw [eC]; exact (check_twice hg ps[k] hz _ next mp).1 hpe
  ·refine .inl ⟨2, ⟨fun h => absurd h (by decide), fun hr => absurd (hr.all _ (List.getElem_mem h)).idr hid⟩, fun next => ?_⟩
   rw [Xv (by omega), Js, Q9 h, Jg, Jah, Jg, Xv (by omega), Js]
 ·have : k = ps.length := by omega
  subst this
  refine .inl ⟨0, ⟨fun _ => ⟨by omega, fun p hp => ?_, List.pairwise_iff_getElem.2 ?_, List.pairwise_iff_getElem.2 fun i j hi hj hij => hO i j hi hj hij hj⟩, fun _ => rfl⟩, fun next => ?_⟩
  ·obtain ⟨j, hj, rfl⟩ := List.getElem_of_mem hp
   exact hP j hj hj
  ·have step : ∀ d i (hi : i < ps.length) (hd : i + d + 1 < ps.length), ps[i].Id < ps[i + d + 1].Id := by
    intro d
    induction d with
    | zero => intro i hi hd; exact hR i hd hd
    | succ d ih =>
     intro i hi hd
     have h1 := ih i hi (by omega)
     have h2 : ps[i + d + 1].Id < ps[i + (d + 1) + 1].Id := hR (i + d + 1) hd hd
     omega
   intro i j hi hj hij
   have := step (j - i - 1) i hi (by omega)
   simpa [show i + (j - i - 1) + 1 = j by omega] using this
  ·rw [Q6 (by omega), Jk]
end Go.M

/- Searches and deletions in lists. Conditions: few elements. -/
namespace Go.M
open Go.Md Go.Pl
set_option linter.unusedVariables false
theorem index_sync_Fact (l : List T_sync_Fact) (f : T_sync_Fact → Option Bool) (g : T_sync_Fact → Bool) (hl : l.length ≤ 9223372036854775000) (hf : ∀ x ∈ l, f x = some (g x)) : Zj l f = some (idx g l) := indexFunc_of hl hf fun _ _ => rfl
theorem contains_sync_Fact (l : List T_sync_Fact) (f : T_sync_Fact → Option Bool) (g : T_sync_Fact → Bool) (hl : l.length ≤ 9223372036854775000) (hf : ∀ x ∈ l, f x = some (g x)) : Yy l f = some (l.any g) := by
 unfold Yy
 rw [index_sync_Fact l f g hl hf, Jg, idx_nn]
theorem delete_sync_Fact (a : List T_sync_Fact) (f : T_sync_Fact → Option Bool) (g : T_sync_Fact → Bool) (hl : a.length ≤ 17592186044010) (hf : ∀ x ∈ a, f x = some (g x)) : Zc a f = some (a.filter fun x => !g x) := by
 unfold Zc
 rw [index_sync_Fact a f g (by omega) hf, Jg]
 unfold idx
 cases hi : a.findIdx? g with
 | none =>
  rw [List.findIdx?_eq_none_iff] at hi
  show Qi (decide ((-1 : Int) = -1)) (some a) _ = _
  rw [Xv rfl, Js, List.filter_eq_self.2 fun x hx => by simp [hi x hx]]
 | some k0 =>
  obtain ⟨hk0, hg0, hlt⟩ := List.findIdx?_eq_some_iff_getElem.1 hi
  simp only
  rw [Q6 (by omega), Jk, Xg (by omega), Jg]
  have h0 : (a.take k0).filter (fun x => !g x) = a.take k0 := List.filter_eq_self.2 fun x hx => by
   obtain ⟨j, hj, hj2, rfl⟩ : ∃ (j : Nat) (hj : j < a.length), j < k0 ∧ a[j] = x := by
    obtain ⟨j, hj, rfl⟩ := List.getElem_of_mem hx
    simp only [List.length_take] at hj
    exact ⟨j, by omega, by omega, by rw [List.getElem_take]⟩
   have := hlt j hj2
   simpa using this
  have key := fix_run (F := fun next2 s => Qo f next2 s.1 s.2.1 s.2.2)
   (fun s : Int × Int × List T_sync_Fact => ∃ (j : Nat) (M : List T_sync_Fact), s.1 = (((a.take j).filter fun x => !g x).length : Int) ∧ s.2.1 = (j : Int) ∧ j ≤ a.length ∧ s.2.2 = (a.take j).filter (fun x => !g x) ++ (M ++ a.drop j) ∧ ((a.take j).filter fun x => !g x).length + M.length = j ∧ 0 < M.length)
   (fun s => a.length - s.2.1.toNat) (fun r => r = a.filter fun x => !g x)
   (by
    rintro ⟨_, _, _⟩ ⟨j, M, rfl, rfl, hj, rfl, hFM, hM⟩
    generalize hF : (a.take j).filter (fun x => !g x) = Fl at *
    simp only [Qo, Xu]
    have hlen : (Fl ++ (M ++ a.drop j)).length = a.length := by simp; omega
    rcases Nat.lt_or_ge j a.length with h | h
    ·have hd : a.drop j = a[j] :: a.drop (j + 1) := List.drop_eq_getElem_cons h
     have ht : (a.take (j + 1)).filter (fun x => !g x) = Fl ++ [a[j]].filter fun x => !g x := by rw [List.take_succ_eq_append_getElem h, List.filter_append, hF]
     have e1 : Qn (Fl ++ (M ++ a.drop j)) (j : Int) = some a[j] := by
      rw [hd, ← List.append_assoc]
      unfold Qn
      rw [if_pos (by omega), Int.toNat_natCast, List.getElem?_append_right (by rw [List.length_append]; omega), List.length_append, hFM, Nat.sub_self]; rfl
     have hfx := hf _ (List.getElem_mem h)
     cases hgx : g a[j] with
     | true =>
      refine .inr ⟨((Fl.length : Int), (j : Int) + 1, Fl ++ ((M ++ [a[j]]) ++ a.drop (j + 1))), ⟨j + 1, M ++ [a[j]], ?_, by simp, h, ?_, ?_, by simp⟩, by simp only; omega, fun next => ?_⟩
      ·rw [ht]; simp [hgx]
      ·rw [ht]; simp [hgx]
      ·rw [ht]; simp [hgx]; omega
      ·rw [Xv (by rw [hlen]; omega), Js, e1, Jg, hfx, Jg, hgx, Bool.not_true, Jk, Xg (by omega), Jg, hd]
       simp
     | false =>
      match M, hM with
      | m0 :: M, _ =>
       refine .inr ⟨((Fl.length : Int) + 1, (j : Int) + 1, (Fl ++ [a[j]]) ++ ((M ++ [a[j]]) ++ a.drop (j + 1))), ⟨j + 1, M ++ [a[j]], ?_, by simp, h, ?_, ?_, by simp⟩, by simp only; omega, fun next => ?_⟩
       ·rw [ht]; simp [hgx]
       ·rw [ht]; simp [hgx]
       ·rw [ht]; simp [hgx]; simp at hFM; omega
       ·have e2 : ∃ z, Qn (Fl ++ (m0 :: M ++ a.drop j)) (Fl.length : Int) = some z := ⟨m0, by unfold Qn; rw [if_pos (by omega), Int.toNat_natCast, List.getElem?_append_right (Nat.le_refl _), Nat.sub_self]; rfl⟩
        have e3 : gSet (Fl ++ (m0 :: M ++ a.drop j)) (Fl.length : Int) a[j] = some ((Fl ++ [a[j]]) ++ ((M ++ [a[j]]) ++ a.drop (j + 1))) := by
         rw [gSet_ok (by omega) (by rw [Int.toNat_natCast]; simp), Int.toNat_natCast, List.set_append_right _ _ (Nat.le_refl _), Nat.sub_self, hd]
         simp
        obtain ⟨z, e2⟩ := e2
        rw [Xv (by rw [hlen]; omega), Js, e1, Jg, hfx, Jg, hgx, Bool.not_false, Js, e2, Jg, e3, Jg, Xg (by omega), Jg, Xg (by omega), Jg]
    ·have hj' : j = a.length := by omega
     subst hj'
     rw [List.take_length] at hF
     rw [List.drop_length, List.append_nil] at hlen ⊢
     refine .inl ⟨_, hF.symm, fun next => ?_⟩
     rw [Q6 (by rw [hlen]; omega), Jk]
     simp only [Yt]
     rw [gCut_ok (by rw [hlen]; omega), Jg]
     have hc : (clrL (Fl ++ M) (Fl.length : Int) ((Fl ++ M).length : Nat) (⟨(⟨0, 0⟩ : T_sync_Dot), 0, 0, 0, [], 0, []⟩ : T_sync_Fact)).length = (Fl ++ M).length := clrL_len (gCut_ok (by rw [List.length_append]; omega))
     rw [gCut_to (by rw [hc, List.length_append]; omega), Jg]
     unfold clrL
     simp)
   ((k0 : Int), (k0 : Int) + 1, a) ⟨k0 + 1, [a[k0]], ?_, by simp, hk0, ?_, ?_, by simp⟩
  ·obtain ⟨r, h1, rfl⟩ := key
   exact h1
  ·rw [List.take_succ_eq_append_getElem hk0, List.filter_append, h0]; simp [hg0]; omega
  ·rw [List.take_succ_eq_append_getElem hk0, List.filter_append, h0]
   simp [hg0]
  ·rw [List.take_succ_eq_append_getElem hk0, List.filter_append, h0]; simp [hg0]; omega
end Go.M
